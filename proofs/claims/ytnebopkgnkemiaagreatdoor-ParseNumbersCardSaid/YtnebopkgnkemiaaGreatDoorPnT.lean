/-
  THE WORDS of the texts of ParseNumbers. Plain.
-/
import Derived.Test.YtnebopkgnkemiaaGreatDoorCutsL
namespace Go.Proofs.YtnebopkgnkemiaaGreatDoor.Av
set_option linter.unusedVariables false
set_option linter.unusedSimpArgs false
set_option maxRecDepth 1000000
open Go
def sWithin : List UInt8 := [87, 73, 84, 72, 73, 78]
def preP (a b : Nat) : List UInt8 := [65, 32, 97, 123, UInt8.ofNat (48 + a), 44, UInt8.ofNat (48 + b), 125, 32, 87, 73, 84, 72, 73, 78, 32]
def txtP (a b w : Nat) : List UInt8 := preP a b ++ Lib.decDigits w
def toksP (a b w : Nat) : List TokA := [⟨1, [65], 0, 0⟩, ⟨1, [97], 0, 2⟩, ⟨3, [123], 0, 3⟩, ⟨2, [UInt8.ofNat (48 + a)], Int.ofNat a, 4⟩, ⟨3, [44], 0, 5⟩, ⟨2, [UInt8.ofNat (48 + b)], Int.ofNat b, 6⟩, ⟨3, [125], 0, 7⟩, ⟨4, sWithin, 0, 9⟩, ⟨2, Lib.decDigits w, Int.ofNat w, 16⟩]
theorem cl_A : Cl [65] 1 0 := .inl ⟨65, [], by kernel_rfl, fun x hx => by rcases List.mem_singleton.1 hx with rfl; unfold VRune; omega, by kernel_rfl, rfl, by kernel_rfl, by kernel_rfl, rfl⟩
theorem cl_a : Cl [97] 1 0 := .inl ⟨97, [], by kernel_rfl, fun x hx => by rcases List.mem_singleton.1 hx with rfl; unfold VRune; omega, by kernel_rfl, rfl, by kernel_rfl, by kernel_rfl, rfl⟩
theorem cl_w : Cl sWithin 4 0 := .inl ⟨87, [73, 84, 72, 73, 78], by kernel_rfl, fun x hx => by
  simp only [List.mem_cons, List.not_mem_nil, or_false] at hx
  unfold VRune; omega, by kernel_rfl, by kernel_rfl, by kernel_rfl, by kernel_rfl, rfl⟩
theorem cl_s {T : List UInt8} (h : T ∈ signs) : Cl T 3 0 := .inr (.inr ⟨h, rfl, rfl⟩)
theorem cl_n {m : Nat} (h : m < 9223372036854775808) : Cl (Lib.decDigits m) 2 (Int.ofNat m) := .inr (.inl ⟨digits_ne m, digits_dig m, by rw [num_digits (by omega), if_pos h]; rfl, rfl⟩)
theorem one_dig {a : Nat} (h : a < 10) : Lib.decDigits a = [UInt8.ofNat (48 + a)] := by rw [digits_eq, if_pos h]
theorem cl_1 {a : Nat} (h : a < 10) : Cl [UInt8.ofNat (48 + a)] 2 (Int.ofNat a) := by rw [← one_dig h]; exact cl_n (by omega)
theorem no_sp : ∀ b ∈ ([] : List UInt8), isSp b := fun b h => nomatch h
theorem one_sp : ∀ b ∈ ([32] : List UInt8), isSp b := fun b h => .inl (List.mem_singleton.1 h)
theorem all_txt {a b w : Nat} (ha : a < 10) (hb : b < 10) (hw : w < 9223372036854775808) : allL ((txtP a b w).length + 1) (txtP a b w) 0 = (some (toksP a b w), 16 + (Lib.decDigits w).length) := by
  obtain ⟨D, hD⟩ : ∃ D, D = Lib.decDigits w := ⟨_, rfl⟩
  obtain ⟨x, hx⟩ : ∃ x, x = UInt8.ofNat (48 + a) := ⟨_, rfl⟩
  obtain ⟨y, hy⟩ : ∃ y, y = UInt8.ofNat (48 + b) := ⟨_, rfl⟩
  have hl : (txtP a b w).length + 1 = D.length + 7 + 10 := by unfold txtP; rw [List.length_append, ← hD]; show 16 + D.length + 1 = _; omega
  have c1 := cl_1 ha
  have c2 := cl_1 hb
  have cD := cl_n hw
  rw [← hx] at c1
  rw [← hy] at c2
  rw [← hD] at cD
  rw [hl]
  unfold txtP toksP preP
  rw [← hx, ← hy, ← hD]
  have s1 := fun pos => all_step (D.length + 16) (c := [32, 97, 123, x, 44, y, 125, 32, 87, 73, 84, 72, 73, 78, 32] ++ D) no_sp cl_A ((ends_nm false).2 fun f => fst_stop (by decide) (by kernel_rfl) _ f) pos
  have s2 := fun pos => all_step (D.length + 15) (c := [123, x, 44, y, 125, 32, 87, 73, 84, 72, 73, 78, 32] ++ D) one_sp cl_a ((ends_nm false).2 fun f => fst_stop (by decide) (by kernel_rfl) _ f) pos
  have s3 := fun pos => all_step (D.length + 14) (T := [123]) (c := [x, 44, y, 125, 32, 87, 73, 84, 72, 73, 78, 32] ++ D) no_sp (cl_s (by decide)) (ends_sg.2 (by kernel_rfl)) pos
  have s4 := fun pos => all_step (D.length + 13) (c := [44, y, 125, 32, 87, 73, 84, 72, 73, 78, 32] ++ D) no_sp c1 (ends_dg.2 fun f => fst_stop (by decide) (by kernel_rfl) _ f) pos
  have s5 := fun pos => all_step (D.length + 12) (T := [44]) (c := [y, 125, 32, 87, 73, 84, 72, 73, 78, 32] ++ D) no_sp (cl_s (by decide)) (ends_sg.2 (by kernel_rfl)) pos
  have s6 := fun pos => all_step (D.length + 11) (c := [125, 32, 87, 73, 84, 72, 73, 78, 32] ++ D) no_sp c2 (ends_dg.2 fun f => fst_stop (by decide) (by kernel_rfl) _ f) pos
  have s7 := fun pos => all_step (D.length + 10) (T := [125]) (c := [32, 87, 73, 84, 72, 73, 78, 32] ++ D) no_sp (cl_s (by decide)) (ends_sg.2 (by kernel_rfl)) pos
  have s8 := fun pos => all_step (D.length + 9) (c := [32] ++ D) one_sp cl_w ((ends_nm true).2 fun f => fst_stop (by decide) (by kernel_rfl) _ f) pos
  have s9 := fun pos => all_step (D.length + 8) (c := []) one_sp cD (ends_dg.2 fun f => by cases f <;> rfl) pos
  have e10 : ∀ pos, allL (D.length + 8) [] pos = (some [], pos) := fun pos => rfl
  rw [List.append_nil] at s9
  refine (s1 0).trans ?_
  rw [show ([32, 97, 123, x, 44, y, 125, 32, 87, 73, 84, 72, 73, 78, 32] ++ D) = [32] ++ ([97] ++ ([123, x, 44, y, 125, 32, 87, 73, 84, 72, 73, 78, 32] ++ D)) from rfl, s2]
  rw [show ([123, x, 44, y, 125, 32, 87, 73, 84, 72, 73, 78, 32] ++ D) = [] ++ ([123] ++ ([x, 44, y, 125, 32, 87, 73, 84, 72, 73, 78, 32] ++ D)) from rfl, s3]
  rw [show ([x, 44, y, 125, 32, 87, 73, 84, 72, 73, 78, 32] ++ D) = [] ++ ([x] ++ ([44, y, 125, 32, 87, 73, 84, 72, 73, 78, 32] ++ D)) from rfl, s4]
  rw [show ([44, y, 125, 32, 87, 73, 84, 72, 73, 78, 32] ++ D) = [] ++ ([44] ++ ([y, 125, 32, 87, 73, 84, 72, 73, 78, 32] ++ D)) from rfl, s5]
  rw [show ([y, 125, 32, 87, 73, 84, 72, 73, 78, 32] ++ D) = [] ++ ([y] ++ ([125, 32, 87, 73, 84, 72, 73, 78, 32] ++ D)) from rfl, s6]
  rw [show ([125, 32, 87, 73, 84, 72, 73, 78, 32] ++ D) = [] ++ ([125] ++ ([32, 87, 73, 84, 72, 73, 78, 32] ++ D)) from rfl, s7]
  rw [show ([32, 87, 73, 84, 72, 73, 78, 32] ++ D) = [32] ++ (sWithin ++ ([32] ++ D)) from rfl, s8, s9, e10]
  rfl
end Go.Proofs.YtnebopkgnkemiaaGreatDoor.Av
