/-
  ParseNumbers: WHAT IT ANSWERS of every three numbers.
-/
import Derived.Test.YtnebopkgnkemiaaGreatDoorPnV
import Derived.Test.YtnebopkgnkemiaaGreatDoorHelp
import Derived.Test.YtnebopkgnkemiaaGreatDoorExP
namespace Go.Proofs.YtnebopkgnkemiaaGreatDoor.Av
set_option linter.unusedVariables false
set_option linter.unusedSimpArgs false
set_option maxRecDepth 1000000
open Go
section
variable {call : Callee} {n : Nat}
noncomputable def digO (d : Nat) : Ob := .cells 5 [.int 8 (Int.ofNat (48 + d))] true
theorem cvbs_dig (st : St) (d : Nat) (tm : Tr V) (p : Pa) (h : X.ev tm (.t p) = .ref 3 st.next 0 1 1 true) : iCvbs (.t p) tm (st.new (digO d)) = some (.str [UInt8.ofNat (48 + d)]) := by
  unfold iCvbs
  rw [h]
  simp only [x_onSlice, new_get_self]
  rfl
theorem fill_b1 {tm : Tr V} {p : Pa} (z : V) {v : V} (h : (X.ev tm (.t p)).cells? = some [v]) : fillV tm [z] [(0, (1, .t p))] = some [v] := by
  have h' : fillV tm [z] [(0, (1, .t p))] = (match (X.ev tm (.t p)).cells? with
    | none => none
    | some cs => bif Nat.beq (lenL cs) 1 && Nat.ble (Nat.add 0 1) (lenL [z]) then some (splice [z] 0 cs) else none) := rfl
  rw [h', h]; rfl
theorem bsl_dig (st : St) (d : Nat) (tm : Tr V) (p : Pa) (h : X.ev tm (.t p) = .int 8 (Int.ofNat (48 + d))) : iBsl 5 1 [.int 8 0] [(0, (1, (.t p)))] tm st = some (.ref 3 st.next 0 1 1 true, st.new (digO d)) := by
  unfold iBsl
  rw [fill_b1 (v := .int 8 (Int.ofNat (48 + d))) _ (by rw [h]; rfl)]
  rfl
theorem add48 {d : Nat} (h : d < 10) : fAdd 8 48 (Int.ofNat d) = some (.int 8 (Int.ofNat (48 + d))) := by
  show some (V.int 8 (wrapC 8 (Int.ofNat (48 + d)))) = _
  rw [wrap_lt (by show _ < 256; omega)]
theorem cons_dig (d : Nat) {t : List UInt8} (ht : t.length ≤ 1000) : sAdd [UInt8.ofNat (48 + d)] t = some (.str (UInt8.ofNat (48 + d) :: t)) := by
  unfold sAdd
  rw [bleT (by rw [lenL_eq, lenL_eq]; show 1 + t.length ≤ _; omega), appL_eq]
  rfl
def Low (tm tm' : Tr V) : Prop := ∀ j, j < 13 → X.ev tm' (.t (pa j)) = X.ev tm (.t (pa j))
theorem num_step {tm : Tr V} {st : St} {t : List UInt8} {k : Nat} (h6 : X.ev tm (.t (pa 13)) = .str t) (h7 : X.ev tm (.t (pa 14)) = .int 63 (Int.ofNat k)) (hk : k < 9223372036854775808) (hc : t = [] ∨ (t ≠ [] ∧ 0 < k)) (ht : t.length ≤ 1000) :
    ∃ tm', b3_0 call n tm st = some (.nrm, tm', st.new (digO (k % 10))) ∧ X.ev tm' (.t (pa 13)) = .str (UInt8.ofNat (48 + k % 10) :: t) ∧ X.ev tm' (.t (pa 14)) = .int 63 (Int.ofNat (k / 10)) ∧ Low tm tm' := by
  have r1 : fRem 63 (Int.ofNat k) 10 = some (.int 63 (Int.ofNat (k % 10))) := rem_ofNat 63 k 10 rfl
  have r2 : fQuo 63 (Int.ofNat k) 10 = some (.int 63 (Int.ofNat (k / 10))) := quo_ofNat 63 k 10 hk rfl
  have hm : k % 10 < 10 := Nat.mod_lt _ (by decide)
  have r3 : wrapC 8 (Int.ofNat (k % 10)) = Int.ofNat (k % 10) := wrap_lt (by show _ < 256; omega)
  have r4 := add48 hm
  have r5 := cons_dig (k % 10) ht
  have hb := bsl_dig st (k % 10)
  have hv := cvbs_dig st (k % 10)
  have kp : ∀ {tm' : Tr V} {i : Nat} {v : V}, 13 ≤ i → Low tm tm' → Low tm (tm'.to (pa i) (some v)) := fun hi h j hj => by rw [x_evt, if_neg (by omega)]; exact h j hj
  rcases hc with rfl | ⟨hc, hc'⟩
  · have e1 : sEql [] [] = some (.bool true) := rfl
    simp only [b3_0, yY, iInt, iStr, iLenS, iLenL, iNot, iPick, iExt, if_true, if_false, reduceIte, Nat.reduceEqDiff, Nat.reduceAdd, reduceCtorEq, yQ, h6, h7, e1, r1, r2, r3, iCvi, r4, hb, hv, r5]
    refine ⟨_, rfl, by simp only [yX, iInt, iStr, iLenS, iLenL, iNot, iPick, iExt, if_true, if_false, reduceIte, Nat.reduceEqDiff, Nat.reduceAdd, reduceCtorEq], by simp only [yX, iInt, iStr, iLenS, iLenL, iNot, iPick, iExt, if_true, if_false, reduceIte, Nat.reduceEqDiff, Nat.reduceAdd, reduceCtorEq], ?_⟩
    repeat (first | exact (fun j hj => rfl) | refine kp (by decide) ?_)
  · have e1 : sEql t [] = some (.bool false) := by unfold sEql; rw [eqS_eq, decide_eq_false hc]
    have e2 : fGtr 63 (Int.ofNat k) 0 = some (.bool true) := by
      show some (V.bool (Nat.blt 0 k)) = _
      rw [blt_iff.2 hc']
    simp only [b3_0, yY, iInt, iStr, iLenS, iLenL, iNot, iPick, iExt, if_true, if_false, reduceIte, Nat.reduceEqDiff, Nat.reduceAdd, reduceCtorEq, yQ, h6, h7, e1, e2, r1, r2, r3, iCvi, r4, hb, hv, r5]
    refine ⟨_, rfl, by simp only [yX, iInt, iStr, iLenS, iLenL, iNot, iPick, iExt, if_true, if_false, reduceIte, Nat.reduceEqDiff, Nat.reduceAdd, reduceCtorEq], by simp only [yX, iInt, iStr, iLenS, iLenL, iNot, iPick, iExt, if_true, if_false, reduceIte, Nat.reduceEqDiff, Nat.reduceAdd, reduceCtorEq], ?_⟩
    repeat (first | exact (fun j hj => rfl) | refine kp (by decide) ?_)
theorem num_stop {tm : Tr V} {st : St} {t : List UInt8} (h6 : X.ev tm (.t (pa 13)) = .str t) (h7 : X.ev tm (.t (pa 14)) = .int 63 (Int.ofNat 0)) (ht : t ≠ []) :
    ∃ tm', b3_0 call n tm st = some (.exit 0, tm', st) ∧ X.ev tm' (.t (pa 13)) = .str t ∧ Low tm tm' := by
  have e1 : sEql t [] = some (.bool false) := by unfold sEql; rw [eqS_eq, decide_eq_false ht]
  have e2 : fGtr 63 (Int.ofNat 0) 0 = some (.bool false) := rfl
  have kp : ∀ {tm' : Tr V} {i : Nat} {v : V}, 13 ≤ i → Low tm tm' → Low tm (tm'.to (pa i) (some v)) := fun hi h j hj => by rw [x_evt, if_neg (by omega)]; exact h j hj
  simp only [b3_0, yY, iInt, iStr, iLenS, iLenL, iNot, iPick, iExt, if_true, if_false, reduceIte, Nat.reduceEqDiff, Nat.reduceAdd, reduceCtorEq, yQ, h6, h7, e1, e2]
  refine ⟨_, rfl, by simp only [yX, iInt, iStr, iLenS, iLenL, iNot, iPick, iExt, if_true, if_false, reduceIte, Nat.reduceEqDiff, Nat.reduceAdd, reduceCtorEq, h6], ?_⟩
  repeat (first | exact (fun j hj => rfl) | refine kp (by decide) ?_)
theorem num_loop : ∀ (f k fuel : Nat) (t : List UInt8) (tm : Tr V) (st : St), k < 10 ^ f → k < 9223372036854775808 → f < fuel → t.length + f ≤ 1000 → t ≠ [] → X.ev tm (.t (pa 13)) = .str t → X.ev tm (.t (pa 14)) = .int 63 (Int.ofNat k) →
    ∃ tm' st', loopV fuel (b3_0 call n) tm st = some (.exit 0, tm', st') ∧ Grew st st' ∧ X.ev tm' (.t (pa 13)) = .str ((if k = 0 then [] else Lib.decDigits k) ++ t) ∧ Low tm tm'
  | f, k, 0, t, tm, st, _, _, hf, _, _, _, _ => by omega
  | f, 0, fuel + 1, t, tm, st, _, _, _, _, ht, h6, h7 => by
    obtain ⟨tm', e, e6, e0⟩ := num_stop (call := call) (n := n) (st := st) h6 h7 ht
    rw [x_loop1, e]
    exact ⟨tm', st, rfl, Grew.refl _, by rw [e6]; rfl, e0⟩
  | 0, k + 1, fuel + 1, t, tm, st, hk, _, _, _, _, _, _ => by simp at hk
  | f + 1, k + 1, fuel + 1, t, tm, st, hk, hk', hf, hl, ht, h6, h7 => by
    obtain ⟨tm', e, e6, e7, e0⟩ := num_step (call := call) (n := n) (st := st) h6 h7 hk' (.inr ⟨ht, Nat.succ_pos _⟩) (by omega)
    rw [x_loop1, e]
    obtain ⟨tm2, st2, g1, g2, g3, g4⟩ := num_loop f ((k + 1) / 10) fuel (UInt8.ofNat (48 + (k + 1) % 10) :: t) tm' (st.new (digO ((k + 1) % 10))) (by rw [Nat.pow_succ] at hk; omega) (by omega) (by omega) (by rw [List.length_cons]; omega) (by simp) e6 e7
    refine ⟨tm2, st2, g1, (Grew.new _ _).trans g2, ?_, fun j hj => (g4 j hj).trans (e0 j hj)⟩
    rw [g3, if_neg (Nat.succ_ne_zero k), digits_eq (k + 1)]
    by_cases h10 : k + 1 < 10
    · rw [if_pos h10, if_pos (by omega), show (k + 1) % 10 = k + 1 by omega]; rfl
    · rw [if_neg h10, if_neg (by omega)]
      congr 1
      rw [List.append_assoc]; rfl
theorem num_all (m fuel : Nat) (tm : Tr V) (st : St) (hm : m < 9223372036854775808) (hf : 30 ≤ fuel) (h6 : X.ev tm (.t (pa 13)) = .str []) (h7 : X.ev tm (.t (pa 14)) = .int 63 (Int.ofNat m)) :
    ∃ tm' st', loopV fuel (b3_0 call n) tm st = some (.exit 0, tm', st') ∧ Grew st st' ∧ X.ev tm' (.t (pa 13)) = .str (Lib.decDigits m) ∧ Low tm tm' := by
  obtain ⟨fuel, rfl⟩ : ∃ k, fuel = k + 1 := ⟨fuel - 1, by omega⟩
  obtain ⟨tm', e, e6, e7, e0⟩ := num_step (call := call) (n := n) (st := st) h6 h7 hm (.inl rfl) (Nat.zero_le _)
  rw [x_loop1, e]
  obtain ⟨tm2, st2, g1, g2, g3, g4⟩ := num_loop (call := call) (n := n) 20 (m / 10) fuel [UInt8.ofNat (48 + m % 10)] tm' (st.new (digO (m % 10))) (by omega) (by omega) (by omega) (by simp) (by simp) e6 e7
  refine ⟨tm2, st2, g1, (Grew.new _ _).trans g2, ?_, fun j hj => (g4 j hj).trans (e0 j hj)⟩
  rw [g3, digits_eq m]
  by_cases h10 : m < 10
  · rw [if_pos h10, if_pos (by omega), show m % 10 = m by omega]; rfl
  · rw [if_neg h10, if_neg (by omega)]
end
end Go.Proofs.YtnebopkgnkemiaaGreatDoor.Av
