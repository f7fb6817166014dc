/-
  ParseNumbers answers true, whatever the three numbers are.
-/
import Derived.Test.YtnebopkgnkemiaaGreatDoorPnL
namespace Go.Proofs.YtnebopkgnkemiaaGreatDoor.Av
set_option linter.unusedVariables false
set_option linter.unusedSimpArgs false
set_option maxRecDepth 1000000
open Go
section
variable {T : Tr Fs} {a b w : Nat} {tm : Tr V} {st : St}
noncomputable abbrev restC : CEv := cSeq c3_12 (cSeq c3_13 (cSeq c3_14 cRet))
def Ans (T : Tr Fs) (tm : Tr V) (st : St) : Prop := ∃ tm' st', restC (evF T 1000) 1000 tm st = some (.ret, tm', st') ∧ Grew st st' ∧ tm'.at (pa 6) = some (.bool true)
theorem Grew.loc {s S : St} (h : Grew s S) (e : Nat) (z c : List V) : Grew s (loc S e z c) := by
  refine ⟨by rw [loc_next]; exact Nat.le_succ_of_le h.next, fun b h1 h2 => ?_, fun o ho => ?_⟩
  · have h3 := h.low b h1 h2
    have h4 := h.next
    unfold Av.loc
    rw [put_low]
    have h5 : (S.new (.cells e z true)).low = S.low := rfl
    omega
  · have h4 := h.next
    rw [loc_ne (by omega)]; exact h.mem o ho
variable (f7 : X.ev tm (.t (pa 7)) = .bool true) (f8 : X.ev tm (.t (pa 8)) = .int 63 (Int.ofNat a)) (f9 : X.ev tm (.t (pa 9)) = .int 63 (Int.ofNat b)) (f10 : X.ev tm (.t (pa 10)) = .int 63 (Int.ofNat w)) (f11 : X.ev tm (.t (pa 11)) = .str (preP a b)) (f12 : X.ev tm (.t (pa 12)) = .int 63 16) (f13 : X.ev tm (.t (pa 13)) = .str (Lib.decDigits w))
  (hs : sAdd (preP a b) (Lib.decDigits w) = some (.str (txtP a b w)))
include f7 f8 f9 f10 f11 f12 f13 hs
omit f10 f12 in
set_option maxHeartbeats 2000000 in
theorem tail_a1 (h : a < 1) (hp : evF T 1000 5 [.str (txtP a b w)] st = some (.ret (.tup [.cmp 2 0 zQ, .int 63 4, .int 63 3]), st)) : Ans T tm st := by
  have m1 : ∀ (tm : Tr V) (st : St), iAlloc 27 [.ref 2 0 0 0 0 false, .int 63 0, .str []] tm st = some (.ref 1 st.next 0 0 0 false, st.new (.cells 27 zQ true)) := fun tm st => rfl
  have y3 : fEql 63 3 3 = some (.bool true) := rfl
  have y4 : fEql 63 4 4 = some (.bool true) := rfl
  have y6 : fEql 63 6 6 = some (.bool true) := rfl
  have y16 : fEql 63 16 16 = some (.bool true) := rfl
  have a1 : fLss 63 (Int.ofNat a) 1 = some (.bool true) := by
    show some (V.bool (ltI (Int.ofNat a) 1)) = _
    rw [show ltI (Int.ofNat a) 1 = true from (ltI_eq _ _).trans (decide_eq_true (by show (a : Int) < 1; omega))]
  have hst : stW 3 (.ref 1 st.next 0 0 0 false) (.cmp 2 0 zQ) (st.new (.cells 27 zQ true)) = some (.undef, loc st 27 zQ zQ) := stW_new rfl rfl
  unfold Ans restC
  simp only [c3_12, c3_13, yY, iInt, iStr, iLenS, iLenL, iNot, iPick, iExt, if_true, if_false, reduceIte, Nat.reduceEqDiff, Nat.reduceAdd, reduceCtorEq, yQ, f7, f8, f9, f11, f13, hs, hp, nt0, nt1, nt2, m1, m_store, hst, y3, y4, y6, y16, a1]
  exact ⟨_, _, rfl, (Grew.refl _).loc _ _ _, by simp only [yL, if_true, if_false, reduceIte, Nat.reduceEqDiff, reduceCtorEq]⟩
omit f10 f12 in
set_option maxHeartbeats 2000000 in
theorem tail_a4 (h : ¬ a < 1) (h' : 4 < a) (hp : evF T 1000 5 [.str (txtP a b w)] st = some (.ret (.tup [.cmp 2 0 zQ, .int 63 4, .int 63 3]), st)) : Ans T tm st := by
  have m1 : ∀ (tm : Tr V) (st : St), iAlloc 27 [.ref 2 0 0 0 0 false, .int 63 0, .str []] tm st = some (.ref 1 st.next 0 0 0 false, st.new (.cells 27 zQ true)) := fun tm st => rfl
  have y3 : fEql 63 3 3 = some (.bool true) := rfl
  have y4 : fEql 63 4 4 = some (.bool true) := rfl
  have y6 : fEql 63 6 6 = some (.bool true) := rfl
  have y16 : fEql 63 16 16 = some (.bool true) := rfl
  have a1 : fLss 63 (Int.ofNat a) 1 = some (.bool false) := by
    show some (V.bool (ltI (Int.ofNat a) 1)) = _
    rw [show ltI (Int.ofNat a) 1 = false from (ltI_eq _ _).trans (decide_eq_false (by show ¬ ((a : Int) < 1); omega))]
  have a4 : fGtr 63 (Int.ofNat a) 4 = some (.bool true) := by
    show some (V.bool (ltI 4 (Int.ofNat a))) = _
    rw [show ltI 4 (Int.ofNat a) = true from (ltI_eq _ _).trans (decide_eq_true (by show (4 : Int) < a; omega))]
  have hst : stW 3 (.ref 1 st.next 0 0 0 false) (.cmp 2 0 zQ) (st.new (.cells 27 zQ true)) = some (.undef, loc st 27 zQ zQ) := stW_new rfl rfl
  unfold Ans restC
  simp only [c3_12, c3_13, yY, iInt, iStr, iLenS, iLenL, iNot, iPick, iExt, if_true, if_false, reduceIte, Nat.reduceEqDiff, Nat.reduceAdd, reduceCtorEq, yQ, f7, f8, f9, f11, f13, hs, hp, nt0, nt1, nt2, m1, m_store, hst, y3, y4, y6, y16, a1, a4]
  exact ⟨_, _, rfl, (Grew.refl _).loc _ _ _, by simp only [yL, if_true, if_false, reduceIte, Nat.reduceEqDiff, reduceCtorEq]⟩
omit f12 in
set_option maxHeartbeats 2000000 in
theorem tail_b1 (h : ¬ a < 1) (h' : ¬ 4 < a) (k : b < a) (hp : evF T 1000 5 [.str (txtP a b w)] st = some (.ret (.tup [.cmp 2 0 zQ, .int 63 6, .int 63 3]), st)) : Ans T tm st := by
  have m1 : ∀ (tm : Tr V) (st : St), iAlloc 27 [.ref 2 0 0 0 0 false, .int 63 0, .str []] tm st = some (.ref 1 st.next 0 0 0 false, st.new (.cells 27 zQ true)) := fun tm st => rfl
  have y3 : fEql 63 3 3 = some (.bool true) := rfl
  have y4 : fEql 63 4 4 = some (.bool true) := rfl
  have y6 : fEql 63 6 6 = some (.bool true) := rfl
  have y16 : fEql 63 16 16 = some (.bool true) := rfl
  have a1 : fLss 63 (Int.ofNat a) 1 = some (.bool false) := by
    show some (V.bool (ltI (Int.ofNat a) 1)) = _
    rw [show ltI (Int.ofNat a) 1 = false from (ltI_eq _ _).trans (decide_eq_false (by show ¬ ((a : Int) < 1); omega))]
  have a4 : fGtr 63 (Int.ofNat a) 4 = some (.bool false) := by
    show some (V.bool (ltI 4 (Int.ofNat a))) = _
    rw [show ltI 4 (Int.ofNat a) = false from (ltI_eq _ _).trans (decide_eq_false (by show ¬ ((4 : Int) < a); omega))]
  have ba : fLss 63 (Int.ofNat b) (Int.ofNat a) = some (.bool true) := by
    show some (V.bool (ltI (Int.ofNat b) (Int.ofNat a))) = _
    rw [show ltI (Int.ofNat b) (Int.ofNat a) = true from (ltI_eq _ _).trans (decide_eq_true (by show (b : Int) < a; omega))]
  have hst : stW 3 (.ref 1 st.next 0 0 0 false) (.cmp 2 0 zQ) (st.new (.cells 27 zQ true)) = some (.undef, loc st 27 zQ zQ) := stW_new rfl rfl
  unfold Ans restC
  simp only [c3_12, c3_13, yY, iInt, iStr, iLenS, iLenL, iNot, iPick, iExt, if_true, if_false, reduceIte, Nat.reduceEqDiff, Nat.reduceAdd, reduceCtorEq, yQ, f7, f8, f9, f10, f11, f13, hs, hp, nt0, nt1, nt2, m1, m_store, hst, y3, y4, y6, y16, a1, a4, ba]
  exact ⟨_, _, rfl, (Grew.refl _).loc _ _ _, by simp only [yL, if_true, if_false, reduceIte, Nat.reduceEqDiff, reduceCtorEq]⟩
omit f12 in
set_option maxHeartbeats 2000000 in
theorem tail_b4 (h : ¬ a < 1) (h' : ¬ 4 < a) (k : ¬ b < a) (k' : 4 < b) (hp : evF T 1000 5 [.str (txtP a b w)] st = some (.ret (.tup [.cmp 2 0 zQ, .int 63 6, .int 63 3]), st)) : Ans T tm st := by
  have m1 : ∀ (tm : Tr V) (st : St), iAlloc 27 [.ref 2 0 0 0 0 false, .int 63 0, .str []] tm st = some (.ref 1 st.next 0 0 0 false, st.new (.cells 27 zQ true)) := fun tm st => rfl
  have y3 : fEql 63 3 3 = some (.bool true) := rfl
  have y4 : fEql 63 4 4 = some (.bool true) := rfl
  have y6 : fEql 63 6 6 = some (.bool true) := rfl
  have y16 : fEql 63 16 16 = some (.bool true) := rfl
  have a1 : fLss 63 (Int.ofNat a) 1 = some (.bool false) := by
    show some (V.bool (ltI (Int.ofNat a) 1)) = _
    rw [show ltI (Int.ofNat a) 1 = false from (ltI_eq _ _).trans (decide_eq_false (by show ¬ ((a : Int) < 1); omega))]
  have a4 : fGtr 63 (Int.ofNat a) 4 = some (.bool false) := by
    show some (V.bool (ltI 4 (Int.ofNat a))) = _
    rw [show ltI 4 (Int.ofNat a) = false from (ltI_eq _ _).trans (decide_eq_false (by show ¬ ((4 : Int) < a); omega))]
  have ba : fLss 63 (Int.ofNat b) (Int.ofNat a) = some (.bool false) := by
    show some (V.bool (ltI (Int.ofNat b) (Int.ofNat a))) = _
    rw [show ltI (Int.ofNat b) (Int.ofNat a) = false from (ltI_eq _ _).trans (decide_eq_false (by show ¬ ((b : Int) < a); omega))]
  have b4 : fGtr 63 (Int.ofNat b) 4 = some (.bool true) := by
    show some (V.bool (ltI 4 (Int.ofNat b))) = _
    rw [show ltI 4 (Int.ofNat b) = true from (ltI_eq _ _).trans (decide_eq_true (by show (4 : Int) < b; omega))]
  have hst : stW 3 (.ref 1 st.next 0 0 0 false) (.cmp 2 0 zQ) (st.new (.cells 27 zQ true)) = some (.undef, loc st 27 zQ zQ) := stW_new rfl rfl
  unfold Ans restC
  simp only [c3_12, c3_13, yY, iInt, iStr, iLenS, iLenL, iNot, iPick, iExt, if_true, if_false, reduceIte, Nat.reduceEqDiff, Nat.reduceAdd, reduceCtorEq, yQ, f7, f8, f9, f10, f11, f13, hs, hp, nt0, nt1, nt2, m1, m_store, hst, y3, y4, y6, y16, a1, a4, ba, b4]
  exact ⟨_, _, rfl, (Grew.refl _).loc _ _ _, by simp only [yL, if_true, if_false, reduceIte, Nat.reduceEqDiff, reduceCtorEq]⟩
set_option maxHeartbeats 2000000 in
theorem tail_w (h : ¬ a < 1) (h' : ¬ 4 < a) (k : ¬ b < a) (k' : ¬ 4 < b) (j : 1000000000 < w) (hp : evF T 1000 5 [.str (txtP a b w)] st = some (.ret (.tup [.cmp 2 0 zQ, .int 63 16, .int 63 3]), st)) : Ans T tm st := by
  have m1 : ∀ (tm : Tr V) (st : St), iAlloc 27 [.ref 2 0 0 0 0 false, .int 63 0, .str []] tm st = some (.ref 1 st.next 0 0 0 false, st.new (.cells 27 zQ true)) := fun tm st => rfl
  have y3 : fEql 63 3 3 = some (.bool true) := rfl
  have y4 : fEql 63 4 4 = some (.bool true) := rfl
  have y6 : fEql 63 6 6 = some (.bool true) := rfl
  have y16 : fEql 63 16 16 = some (.bool true) := rfl
  have a1 : fLss 63 (Int.ofNat a) 1 = some (.bool false) := by
    show some (V.bool (ltI (Int.ofNat a) 1)) = _
    rw [show ltI (Int.ofNat a) 1 = false from (ltI_eq _ _).trans (decide_eq_false (by show ¬ ((a : Int) < 1); omega))]
  have a4 : fGtr 63 (Int.ofNat a) 4 = some (.bool false) := by
    show some (V.bool (ltI 4 (Int.ofNat a))) = _
    rw [show ltI 4 (Int.ofNat a) = false from (ltI_eq _ _).trans (decide_eq_false (by show ¬ ((4 : Int) < a); omega))]
  have ba : fLss 63 (Int.ofNat b) (Int.ofNat a) = some (.bool false) := by
    show some (V.bool (ltI (Int.ofNat b) (Int.ofNat a))) = _
    rw [show ltI (Int.ofNat b) (Int.ofNat a) = false from (ltI_eq _ _).trans (decide_eq_false (by show ¬ ((b : Int) < a); omega))]
  have b4 : fGtr 63 (Int.ofNat b) 4 = some (.bool false) := by
    show some (V.bool (ltI 4 (Int.ofNat b))) = _
    rw [show ltI 4 (Int.ofNat b) = false from (ltI_eq _ _).trans (decide_eq_false (by show ¬ ((4 : Int) < b); omega))]
  have w9 : fGtr 63 (Int.ofNat w) 1000000000 = some (.bool true) := by
    show some (V.bool (ltI 1000000000 (Int.ofNat w))) = _
    rw [show ltI 1000000000 (Int.ofNat w) = true from (ltI_eq _ _).trans (decide_eq_true (by show (1000000000 : Int) < w; omega))]
  have hst : stW 3 (.ref 1 st.next 0 0 0 false) (.cmp 2 0 zQ) (st.new (.cells 27 zQ true)) = some (.undef, loc st 27 zQ zQ) := stW_new rfl rfl
  unfold Ans restC
  simp only [c3_12, c3_13, yY, iInt, iStr, iLenS, iLenL, iNot, iPick, iExt, if_true, if_false, reduceIte, Nat.reduceEqDiff, Nat.reduceAdd, reduceCtorEq, yQ, f7, f8, f9, f10, f11, f12, f13, hs, hp, nt0, nt1, nt2, m1, m_store, hst, y3, y4, y6, y16, a1, a4, ba, b4, w9]
  exact ⟨_, _, rfl, (Grew.refl _).loc _ _ _, by simp only [yL, if_true, if_false, reduceIte, Nat.reduceEqDiff, reduceCtorEq]⟩
omit f12 in
set_option maxHeartbeats 2000000 in
theorem tail_ok (h : ¬ a < 1) (h' : ¬ 4 < a) (k : ¬ b < a) (k' : ¬ 4 < b) (j : ¬ 1000000000 < w) (len : Int) (hp : evF T 1000 5 [.str (txtP a b w)] st = some (.ret (.tup [.cmp 2 0 [.fsl 1 1 false [.int 63 1, .str [65], .str [97], .ref 2 0 0 0 0 false, .int 63 (Int.ofNat a), .int 63 (Int.ofNat b), .ref 2 0 0 0 0 false], .int 63 (Int.ofNat w), .str []], .int 63 len, .int 63 0]), st)) : Ans T tm st := by
  have m1 : ∀ (tm : Tr V) (st : St), iAlloc 27 [.ref 2 0 0 0 0 false, .int 63 0, .str []] tm st = some (.ref 1 st.next 0 0 0 false, st.new (.cells 27 zQ true)) := fun tm st => rfl
  have y3 : fEql 63 3 3 = some (.bool true) := rfl
  have y4 : fEql 63 4 4 = some (.bool true) := rfl
  have y6 : fEql 63 6 6 = some (.bool true) := rfl
  have y16 : fEql 63 16 16 = some (.bool true) := rfl
  have a1 : fLss 63 (Int.ofNat a) 1 = some (.bool false) := by
    show some (V.bool (ltI (Int.ofNat a) 1)) = _
    rw [show ltI (Int.ofNat a) 1 = false from (ltI_eq _ _).trans (decide_eq_false (by show ¬ ((a : Int) < 1); omega))]
  have a4 : fGtr 63 (Int.ofNat a) 4 = some (.bool false) := by
    show some (V.bool (ltI 4 (Int.ofNat a))) = _
    rw [show ltI 4 (Int.ofNat a) = false from (ltI_eq _ _).trans (decide_eq_false (by show ¬ ((4 : Int) < a); omega))]
  have ba : fLss 63 (Int.ofNat b) (Int.ofNat a) = some (.bool false) := by
    show some (V.bool (ltI (Int.ofNat b) (Int.ofNat a))) = _
    rw [show ltI (Int.ofNat b) (Int.ofNat a) = false from (ltI_eq _ _).trans (decide_eq_false (by show ¬ ((b : Int) < a); omega))]
  have b4 : fGtr 63 (Int.ofNat b) 4 = some (.bool false) := by
    show some (V.bool (ltI 4 (Int.ofNat b))) = _
    rw [show ltI 4 (Int.ofNat b) = false from (ltI_eq _ _).trans (decide_eq_false (by show ¬ ((4 : Int) < b); omega))]
  have w9 : fGtr 63 (Int.ofNat w) 1000000000 = some (.bool false) := by
    show some (V.bool (ltI 1000000000 (Int.ofNat w))) = _
    rw [show ltI 1000000000 (Int.ofNat w) = false from (ltI_eq _ _).trans (decide_eq_false (by show ¬ ((1000000000 : Int) < w); omega))]
  have y0 : fEql 63 0 0 = some (.bool true) := rfl
  have y1 : fEql 63 (Int.ofNat 1) 1 = some (.bool true) := rfl
  have ya : fEql 63 (Int.ofNat a) (Int.ofNat a) = some (.bool true) := by rw [eql_ofNat, decide_eq_true rfl]
  have yb : fEql 63 (Int.ofNat b) (Int.ofNat b) = some (.bool true) := by rw [eql_ofNat, decide_eq_true rfl]
  have yw : fEql 63 (Int.ofNat w) (Int.ofNat w) = some (.bool true) := by rw [eql_ofNat, decide_eq_true rfl]
  have ia : ∀ (tm : Tr V) (p : Pa) (s : St), X.ev tm (.t p) = .fsl 1 1 false [.int 63 1, .str [65], .str [97], .ref 2 0 0 0 0 false, .int 63 (Int.ofNat a), .int 63 (Int.ofNat b), .ref 2 0 0 0 0 false] → iIad 7 (.t p) (.c (.int 63 0)) tm s = some (.cmp 5 0 [.int 63 1, .str [65], .str [97], .ref 2 0 0 0 0 false, .int 63 (Int.ofNat a), .int 63 (Int.ofNat b), .ref 2 0 0 0 0 false]) := fun tm p s h => by
    rw [m_iad4 (k := 0) h rfl (by decide) (by show 0 * 7 < 7; decide)]; rfl
  have hst : stW 3 (.ref 1 st.next 0 0 0 false) (.cmp 2 0 [.fsl 1 1 false [.int 63 1, .str [65], .str [97], .ref 2 0 0 0 0 false, .int 63 (Int.ofNat a), .int 63 (Int.ofNat b), .ref 2 0 0 0 0 false], .int 63 (Int.ofNat w), .str []]) (st.new (.cells 27 zQ true)) = some (.undef, loc st 27 zQ [.fsl 1 1 false [.int 63 1, .str [65], .str [97], .ref 2 0 0 0 0 false, .int 63 (Int.ofNat a), .int 63 (Int.ofNat b), .ref 2 0 0 0 0 false], .int 63 (Int.ofNat w), .str []]) := stW_new rfl rfl
  unfold Ans restC
  simp only [c3_12, c3_13, c3_14, yY, iInt, iStr, iLenS, iLenL, iNot, iPick, iExt, if_true, if_false, reduceIte, Nat.reduceEqDiff, Nat.reduceAdd, reduceCtorEq, yQ, f7, f8, f9, f10, f11, f13, hs, hp, nt0, nt1, nt2, m1, m_store, hst, y3, y4, y6, y16, a1, a4, ba, b4, w9, y0, y1, ya, yb, yw, ia, m_fad, m_add0, m_load, ldW_loc, ldW_5, part_c0, part_cs, x_slF, x_fsl4, x_ptrF, x_fptr5, dropL_s, dropL_0]
  exact ⟨_, _, rfl, (Grew.refl _).loc _ _ _, by simp only [yL, if_true, if_false, reduceIte, Nat.reduceEqDiff, reduceCtorEq]⟩
end
end Go.Proofs.YtnebopkgnkemiaaGreatDoor.Av
