/-
  RUNES AND NAMES, in plain Lean: what is decoded of what was encoded; how many bytes ahead are such runes; what a name is. No program in sight.
-/
import Derived.Lib.MapLaws
import Derived.Lib.ValidLaws
import Derived.Lib.TrimUEq
import Derived.Test.YtnebopkgnkemiaaGreatDoorPre
namespace Go.Proofs.YtnebopkgnkemiaaGreatDoor.Av
set_option linter.unusedVariables false
set_option linter.unusedSimpArgs false
set_option maxRecDepth 100000
open Go
def enc (r : Nat) : List UInt8 := (Utf8.encode (r : Int)).data.toList
def VRune (r : Nat) : Prop := r < 0xD800 ∨ (0xE000 ≤ r ∧ r ≤ 0x10FFFF)
theorem valid_iff (r : Nat) : Utf8.valid (r : Int) = true ↔ VRune r := by
  unfold Utf8.valid VRune
  simp only [Bool.or_eq_true, Bool.and_eq_true, decide_eq_true_eq]
  omega
theorem ofNat_toNat {n : Nat} (h : n < 256) : (UInt8.ofNat n).toNat = n := by simp; omega
theorem enc1 {r : Nat} (h : r < 128) : enc r = [UInt8.ofNat r] := by
  have hv : Utf8.valid (r : Int) = true := (valid_iff r).2 (.inl (by omega))
  unfold enc Utf8.encode
  simp only [hv, if_true, Int.toNat_natCast]
  rw [if_pos h]
theorem enc2 {r : Nat} (h0 : 128 ≤ r) (h : r < 2048) : enc r = [UInt8.ofNat (192 + r / 64), UInt8.ofNat (128 + r % 64)] := by
  have hv : Utf8.valid (r : Int) = true := (valid_iff r).2 (.inl (by omega))
  unfold enc Utf8.encode
  simp only [hv, if_true, Int.toNat_natCast]
  rw [if_neg (by omega), if_pos h]
theorem enc3 {r : Nat} (hv : VRune r) (h0 : 2048 ≤ r) (h : r < 65536) : enc r = [UInt8.ofNat (224 + r / 4096), UInt8.ofNat (128 + r / 64 % 64), UInt8.ofNat (128 + r % 64)] := by
  have hv : Utf8.valid (r : Int) = true := (valid_iff r).2 hv
  unfold enc Utf8.encode
  simp only [hv, if_true, Int.toNat_natCast]
  rw [if_neg (by omega), if_neg (by omega), if_pos h]
theorem enc4 {r : Nat} (hv : VRune r) (h0 : 65536 ≤ r) : enc r = [UInt8.ofNat (240 + r / 262144), UInt8.ofNat (128 + r / 4096 % 64), UInt8.ofNat (128 + r / 64 % 64), UInt8.ofNat (128 + r % 64)] := by
  have hv : Utf8.valid (r : Int) = true := (valid_iff r).2 hv
  unfold enc Utf8.encode
  simp only [hv, if_true, Int.toNat_natCast]
  rw [if_neg (by omega), if_neg (by omega), if_neg (by omega)]
theorem VRune.cases {r : Nat} (h : VRune r) : r < 128 ∨ (128 ≤ r ∧ r < 2048) ∨ (2048 ≤ r ∧ r < 65536) ∨ (65536 ≤ r ∧ r ≤ 0x10FFFF) := by
  unfold VRune at h; omega
theorem dec_enc {r : Nat} (hv : VRune r) (t : List UInt8) : Lib.decodeL (enc r ++ t) = (r, (enc r).length) := by
  rw [Lib.decodeL_N]
  rcases hv.cases with h | ⟨h0, h⟩ | ⟨h0, h⟩ | ⟨h0, h⟩
  · rw [enc1 h]
    simp only [List.cons_append, List.nil_append, List.getD_cons_zero, ofNat_toNat (show r < 256 by omega)]
    unfold Lib.decodeN
    rw [if_pos h]; rfl
  · rw [enc2 h0 h]
    simp only [List.cons_append, List.nil_append, List.getD_cons_zero, List.getD_cons_succ, List.length_cons, ofNat_toNat (show 192 + r / 64 < 256 by omega), ofNat_toNat (show 128 + r % 64 < 256 by omega)]
    unfold Lib.decodeN
    rw [if_neg (by omega), if_pos ⟨by omega, by omega, by omega⟩, if_pos (by omega)]
    exact Prod.ext (by show (192 + r / 64) % 32 * 64 + (128 + r % 64) % 64 = r; omega) rfl
  · rw [enc3 hv h0 h]
    simp only [List.cons_append, List.nil_append, List.getD_cons_zero, List.getD_cons_succ, List.length_cons, ofNat_toNat (show 224 + r / 4096 < 256 by omega), ofNat_toNat (show 128 + r / 64 % 64 < 256 by omega), ofNat_toNat (show 128 + r % 64 < 256 by omega)]
    unfold Lib.decodeN
    have e : (224 + r / 4096) % 16 * 4096 + (128 + r / 64 % 64) % 64 * 64 + (128 + r % 64) % 64 = r := by omega
    rw [if_neg (by omega), if_neg (by omega), if_pos ⟨by omega, ⟨by omega, by omega⟩, by omega, by omega⟩, e, if_pos ⟨by omega, by unfold VRune at hv; omega⟩]
    rfl
  · rw [enc4 hv h0]
    simp only [List.cons_append, List.nil_append, List.getD_cons_zero, List.getD_cons_succ, List.length_cons, ofNat_toNat (show 240 + r / 262144 < 256 by omega), ofNat_toNat (show 128 + r / 4096 % 64 < 256 by omega), ofNat_toNat (show 128 + r / 64 % 64 < 256 by omega), ofNat_toNat (show 128 + r % 64 < 256 by omega)]
    unfold Lib.decodeN
    have e : (240 + r / 262144) % 8 * 262144 + (128 + r / 4096 % 64) % 64 * 4096 + (128 + r / 64 % 64) % 64 * 64 + (128 + r % 64) % 64 = r := by omega
    rw [if_neg (by omega), if_neg (by omega), if_neg (by omega), if_pos ⟨by omega, ⟨by omega, by omega⟩, ⟨by omega, by omega⟩, by omega, by omega⟩, e, if_pos ⟨by omega, by omega⟩]
    rfl
theorem enc_ne (r : Nat) : enc r ≠ [] := by
  unfold enc Utf8.encode
  simp only
  repeat' split
  all_goals simp
theorem enc_big {r : Nat} (hv : VRune r) (h : 128 ≤ r) : 2 ≤ (enc r).length ∧ (enc r).length ≤ 4 ∧ ∀ b ∈ enc r, 128 ≤ b.toNat := by
  rcases hv.cases with h | ⟨h0, h⟩ | ⟨h0, h⟩ | ⟨h0, h⟩
  · omega
  · rw [enc2 h0 h]
    refine ⟨by simp, by simp, fun b hb => ?_⟩
    simp only [List.mem_cons, List.not_mem_nil, or_false] at hb
    rcases hb with rfl | rfl
    · rw [ofNat_toNat (by omega)]; omega
    · rw [ofNat_toNat (by omega)]; omega
  · rw [enc3 hv h0 h]
    refine ⟨by simp, by simp, fun b hb => ?_⟩
    simp only [List.mem_cons, List.not_mem_nil, or_false] at hb
    rcases hb with rfl | rfl | rfl
    · rw [ofNat_toNat (by omega)]; omega
    · rw [ofNat_toNat (by omega)]; omega
    · rw [ofNat_toNat (by omega)]; omega
  · rw [enc4 hv h0]
    refine ⟨by simp, by simp, fun b hb => ?_⟩
    simp only [List.mem_cons, List.not_mem_nil, or_false] at hb
    rcases hb with rfl | rfl | rfl | rfl
    · rw [ofNat_toNat (by omega)]; omega
    · rw [ofNat_toNat (by omega)]; omega
    · rw [ofNat_toNat (by omega)]; omega
    · rw [ofNat_toNat (by omega)]; omega
theorem dec_valid (l : List UInt8) : VRune (Lib.decodeL l).1 := by
  rw [Lib.decodeL_N]
  have k0 := (l.getD 0 0).toNat_lt
  have k1 := (l.getD 1 0).toNat_lt
  have k2 := (l.getD 2 0).toNat_lt
  have k3 := (l.getD 3 0).toNat_lt
  unfold Lib.decodeN VRune
  repeat' split
  all_goals (simp only; omega)
noncomputable def letterG (r : Nat) : Bool := Nat.ble 97 r && Nat.ble r 122 || (Nat.ble 65 r && Nat.ble r 90 || (Nat.beq r 95 || Nat.ble 128 r))
noncomputable def digitG (r : Nat) : Bool := Nat.ble 48 r && Nat.ble r 57
noncomputable def bothG (r : Nat) : Bool := letterG r || digitG r
noncomputable def badB (l : List UInt8) : Bool := Nat.beq (Lib.decodeL l).1 65533 && !isPre [239, 191, 189] l
noncomputable def fstN (p : Nat → Bool) : Nat → List UInt8 → Nat
  | 0, _ => 0
  | f + 1, l => if l = [] then 0 else if (badB l || !p (Lib.decodeL l).1) = true then 0 else (Lib.decodeL l).2 + fstN p f (l.drop (Lib.decodeL l).2)
noncomputable def firstL (p : Nat → Bool) (l : List UInt8) : Nat := fstN p l.length l
noncomputable def nmN : Nat → Bool → List UInt8 → Bool
  | 0, _, _ => true
  | f + 1, fst, l => if l = [] then true else (letterG (Lib.decodeL l).1 || (!fst && digitG (Lib.decodeL l).1)) && nmN f false (l.drop (Lib.decodeL l).2)
noncomputable def isNameL (s : List UInt8) : Bool := decide (s ≠ []) && (decide (s.length ≤ 24) && (decide (s ≠ [87, 73, 84, 72, 73, 78]) && (decide (s ≠ [66, 89]) && (Lib.validD s && nmN s.length true s))))
theorem letter_big {r : Nat} (h : 128 ≤ r) : letterG r = true := by
  unfold letterG
  rw [bleT h]
  simp
theorem fstN_le (p : Nat → Bool) : ∀ (f : Nat) (l : List UInt8), fstN p f l ≤ l.length
  | 0, l => Nat.zero_le _
  | f + 1, l => by
    unfold fstN
    split
    · exact Nat.zero_le _
    · split
      · exact Nat.zero_le _
      · rename_i hne _
        have := Lib.decodeL_le l hne
        have := fstN_le p f (l.drop (Lib.decodeL l).2)
        rw [List.length_drop] at this
        omega
theorem firstL_le (p : Nat → Bool) (l : List UInt8) : firstL p l ≤ l.length := fstN_le p _ l
theorem name_enc {r : Nat} (hv : VRune r) : isNameL (enc r) = letterG r := by
  have h1 := dec_enc hv []
  rw [List.append_nil] at h1
  have hne := enc_ne r
  have hval : Lib.validD (enc r) = true := by
    rw [Lib.validD_step _ hne, h1]
    rw [if_neg, List.drop_length]
    · rfl
    · rintro ⟨a, b⟩
      simp only at a b
      subst a
      exact absurd b (by rw [enc3 hv (by omega) (by omega)]; simp)
  have hnm : nmN (enc r).length true (enc r) = letterG r := by
    obtain ⟨k, hk⟩ : ∃ k, (enc r).length = k + 1 := ⟨(enc r).length - 1, by have := List.length_pos_iff.2 hne; omega⟩
    rw [hk]
    unfold nmN
    rw [if_neg hne, h1, List.drop_length]
    cases k <;> simp [nmN]
  unfold isNameL
  rw [hval, hnm]
  by_cases h : r < 128
  · have e := enc1 h
    have a1 : decide (enc r ≠ [87, 73, 84, 72, 73, 78]) = true := decide_eq_true (by rw [e]; simp)
    have a2 : decide (enc r ≠ [66, 89]) = true := decide_eq_true (by rw [e]; simp)
    have a3 : decide ((enc r).length ≤ 24) = true := decide_eq_true (by rw [e]; simp)
    rw [a1, a2, a3, decide_eq_true hne]
    simp
  · obtain ⟨b1, b2, b3⟩ := enc_big hv (by omega)
    have a1 : decide (enc r ≠ [87, 73, 84, 72, 73, 78]) = true := decide_eq_true (fun e => by have := b3 87 (by rw [e]; simp); exact absurd this (by decide))
    have a2 : decide (enc r ≠ [66, 89]) = true := decide_eq_true (fun e => by have := b3 66 (by rw [e]; simp); exact absurd this (by decide))
    have a3 : decide ((enc r).length ≤ 24) = true := decide_eq_true (by omega)
    rw [a1, a2, a3, decide_eq_true hne]
    simp
end Go.Proofs.YtnebopkgnkemiaaGreatDoor.Av
