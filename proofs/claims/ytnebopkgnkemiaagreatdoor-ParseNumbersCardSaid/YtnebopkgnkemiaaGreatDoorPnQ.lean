/-
  parse's query ON THE WORDS of ParseNumbers: its pieces, evaluated by the kernel where the window's number is free.
-/
import Derived.Test.YtnebopkgnkemiaaGreatDoorStart
import Derived.Test.YtnebopkgnkemiaaGreatDoorIc
namespace Go.Proofs.YtnebopkgnkemiaaGreatDoor.Av
set_option linter.unusedVariables false
set_option linter.unusedSimpArgs false
set_option maxRecDepth 1000000
open Go
def tkC (x y D : List UInt8) (a b w : Nat) : List V := [.int 63 1, .str [65], .int 63 0, .int 63 0, .int 63 1, .str [97], .int 63 0, .int 63 2, .int 63 3, .str [123], .int 63 0, .int 63 3, .int 63 2, .str x, .int 63 (Int.ofNat a), .int 63 4, .int 63 3, .str [44], .int 63 0, .int 63 5, .int 63 2, .str y, .int 63 (Int.ofNat b), .int 63 6, .int 63 3, .str [125], .int 63 0, .int 63 7, .int 63 4, .str [87, 73, 84, 72, 73, 78], .int 63 0, .int 63 9, .int 63 2, .str D, .int 63 (Int.ofNat w), .int 63 16]
abbrev zQ : List V := [.ref 2 0 0 0 0 false, .int 63 0, .str []]
abbrev zT : List V := [.int 63 0, .str [], .int 63 0, .int 63 0]
noncomputable def pnStS (x : Ev) : St := match x with
  | some p => p.2
  | none => st0
noncomputable def stR (x : Option (CR × St)) : St := match x with
  | some p => p.2
  | none => st0
noncomputable def pnTabP (g : List V → St → Option (CR × St)) : Tr Fs := table.set 21 (some (.memo g))
noncomputable def stA1 : St := st0.new (.cells 27 zQ true)
noncomputable def stB3 : St := ((({ next := stA1.next, low := stA1.next, mem := stA1.mem } : St).new (.cells 27 zQ true)).new (.cells 3 [.int 63 0] true)).new (.cells 28 [.int 63 0] true)
abbrev aQ : V := .ref 1 (11 + 1) 0 0 0 false
abbrev aN : V := .ref 1 (11 + 2) 0 0 0 false
abbrev aE : V := .ref 1 (11 + 3) 0 0 0 false
abbrev aP : V := .ref 1 (11 + 4) 0 0 0 false
noncomputable def stB4 (m : Nat) : St := pnStS (stW 1 aN (.int 63 (Int.ofNat m)) stB3)
noncomputable def stB5 (m : Nat) : St := pnStS (stW 1 aE (.int 63 0) (stB4 m))
section
variable (g : List V → St → Option (CR × St)) (x y D : List UInt8) (a b w m len : Nat)
noncomputable def stB6 : St := (stB5 m).new (.cells 67 [.fsl 9 9 false (tkC x y D a b w), .int 63 (Int.ofNat len), .int 63 0, .int 63 0] true)
noncomputable def outQ : Option (CR × St) := evF (pnTabP g) 401 11 [aP] (stB6 x y D a b w m len)
end
abbrev wrongV (at_ : Int) : V := .cmp 1 64 [.cmp 2 0 [.int 63 3, .int 63 at_]]
def okAB (a b : Nat) : Prop := (a = 1 ∧ b = 1) ∨ (a = 1 ∧ b = 2) ∨ (a = 1 ∧ b = 3) ∨ (a = 1 ∧ b = 4) ∨ (a = 2 ∧ b = 2) ∨ (a = 2 ∧ b = 3) ∨ (a = 2 ∧ b = 4) ∨ (a = 3 ∧ b = 3) ∨ (a = 3 ∧ b = 4) ∨ (a = 4 ∧ b = 4)
theorem okAB_of {a b : Nat} (h1 : 1 ≤ a) (h2 : a ≤ b) (h3 : b ≤ 4) : okAB a b := by unfold okAB; omega
section
variable {g : List V → St → Option (CR × St)} {x y D : List UInt8} {a b w m len : Nat}
theorem fail_a (ha : a < 8) (h : a < 1 ∨ 4 < a) : (outQ g x y D a b w m len).map Prod.fst = some (.pan (wrongV 4)) := by
  have h' : a = 0 ∨ a = 5 ∨ a = 6 ∨ a = 7 := by omega
  rcases h' with rfl | rfl | rfl | rfl <;> (show _ = _; kernel_rfl)
theorem fail_b (ha : 1 ≤ a) (ha' : a ≤ 4) (hb : b < 8) (h : b < a ∨ 4 < b) : (outQ g x y D a b w m len).map Prod.fst = some (.pan (wrongV 6)) := by
  have h1 : a = 1 ∨ a = 2 ∨ a = 3 ∨ a = 4 := by omega
  have h2 : b = 0 ∨ b = 1 ∨ b = 2 ∨ b = 3 ∨ b = 4 ∨ b = 5 ∨ b = 6 ∨ b = 7 := by omega
  rcases h1 with rfl | rfl | rfl | rfl <;> rcases h2 with rfl | rfl | rfl | rfl | rfl | rfl | rfl | rfl <;> first | (exfalso; omega) | (show _ = _; kernel_rfl)
end
section
variable (g : List V → St → Option (CR × St)) (x y D : List UInt8) (a b w m len : Nat)
noncomputable def stQ0 : St := ({ next := (stB6 x y D a b w m len).next, low := (stB6 x y D a b w m len).next, mem := (stB6 x y D a b w m len).mem } : St).new (.cells 27 zQ true)
noncomputable def stQ1 : St := stR (evF (pnTabP g) 400 15 [aP] (stQ0 x y D a b w m len))
abbrev aI : V := .ref 3 27 0 1 1 true
noncomputable def stQ2 : St := pnStS (stW 3 (.ref 1 (stQ1 g x y D a b w m len).next 0 0 0 false) (.cmp 2 0 [aI, .int 63 0, .str []]) ((stQ1 g x y D a b w m len).new (.cells 27 zQ true)))
noncomputable def stQ3 : St := stR (evF (pnTabP g) 400 24 [aP, .str [87, 73, 84, 72, 73, 78]] (stQ2 g x y D a b w m len))
noncomputable def stQ4 : St := stR (evF (pnTabP g) 399 43 [aP, .int 63 2] { next := (stQ3 g x y D a b w m len).next, low := (stQ3 g x y D a b w m len).next, mem := (stQ3 g x y D a b w m len).mem })
end
section
variable {g : List V → St → Option (CR × St)} {x y D : List UInt8} {a b w m len : Nat} (h : okAB a b)
include h
theorem list_ok : evF (pnTabP g) 400 15 [aP] (stQ0 x y D a b w m len) = some (.ret aI, stQ1 g x y D a b w m len) := by
  rcases h with ⟨rfl, rfl⟩ | ⟨rfl, rfl⟩ | ⟨rfl, rfl⟩ | ⟨rfl, rfl⟩ | ⟨rfl, rfl⟩ | ⟨rfl, rfl⟩ | ⟨rfl, rfl⟩ | ⟨rfl, rfl⟩ | ⟨rfl, rfl⟩ | ⟨rfl, rfl⟩ <;> (show _ = _; kernel_rfl)
theorem store_ok : stW 3 (.ref 1 (stQ1 g x y D a b w m len).next 0 0 0 false) (.cmp 2 0 [aI, .int 63 0, .str []]) ((stQ1 g x y D a b w m len).new (.cells 27 zQ true)) = some (.undef, stQ2 g x y D a b w m len) := by
  rcases h with ⟨rfl, rfl⟩ | ⟨rfl, rfl⟩ | ⟨rfl, rfl⟩ | ⟨rfl, rfl⟩ | ⟨rfl, rfl⟩ | ⟨rfl, rfl⟩ | ⟨rfl, rfl⟩ | ⟨rfl, rfl⟩ | ⟨rfl, rfl⟩ | ⟨rfl, rfl⟩ <;> (show _ = _; kernel_rfl)
theorem take_ok : evF (pnTabP g) 400 24 [aP, .str [87, 73, 84, 72, 73, 78]] (stQ2 g x y D a b w m len) = some (.ret .undef, stQ3 g x y D a b w m len) := by
  rcases h with ⟨rfl, rfl⟩ | ⟨rfl, rfl⟩ | ⟨rfl, rfl⟩ | ⟨rfl, rfl⟩ | ⟨rfl, rfl⟩ | ⟨rfl, rfl⟩ | ⟨rfl, rfl⟩ | ⟨rfl, rfl⟩ | ⟨rfl, rfl⟩ | ⟨rfl, rfl⟩ <;> (show _ = _; kernel_rfl)
end
end Go.Proofs.YtnebopkgnkemiaaGreatDoor.Av
