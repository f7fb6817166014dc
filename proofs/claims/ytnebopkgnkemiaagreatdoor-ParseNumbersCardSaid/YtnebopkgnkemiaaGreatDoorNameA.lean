/-
  schema.letter, schema.digit of every rune; the loop of schema.IsName.
-/
import Derived.Test.YtnebopkgnkemiaaGreatDoorLibB
import Derived.Test.YtnebopkgnkemiaaGreatDoorUni
namespace Go.Proofs.YtnebopkgnkemiaaGreatDoor.Av
set_option linter.unusedVariables false
set_option linter.unusedSimpArgs false
set_option maxRecDepth 1000000
open Go
theorem u_nth0 {α : Type} (a : α) (l : List α) : nth (a :: l) 0 = some a := Eq.trans (Eq.refl _) rfl
theorem u_nth1 {α : Type} (a b : α) (l : List α) : nth (a :: b :: l) 1 = some b := Eq.trans (Eq.refl _) rfl
theorem u_nth2 {α : Type} (a b c : α) (l : List α) : nth (a :: b :: c :: l) 2 = some c := Eq.trans (Eq.refl _) rfl
theorem u_nxt {tm : Tr V} {st : St} {x : X} {o i : Nat} {s : List UInt8} (hx : x.ev tm = .ref 1 o 0 0 0 false) (hg : st.mem.get o = some (.iter s i)) (hi : i < s.length) :
    iNxt x tm st = some (.tup [.bool true, .int 63 (.ofNat i), .int 31 (.ofNat (Lib.decodeL (s.drop i)).1)], st.put o (some (.iter s (i + (Lib.decodeL (s.drop i)).2)))) := by
  unfold iNxt
  rw [hx, x_onPtr, hg]
  show (bif Nat.beq 0 0 then (bif Nat.blt i (lenL s) then nxtV o s i (Utf8.decode ⟨⟨s⟩⟩ i) st else some (.tup [.bool false], st)) else none) = _
  rw [lenL_eq, blt_iff.2 hi, ← Lib.decodeL_drop]
  rfl
theorem u_nxt0 {tm : Tr V} {st : St} {x : X} {o i : Nat} {s : List UInt8} (hx : x.ev tm = .ref 1 o 0 0 0 false) (hg : st.mem.get o = some (.iter s i)) (hi : s.length ≤ i) :
    iNxt x tm st = some (.tup [.bool false], st) := by
  unfold iNxt
  rw [hx, x_onPtr, hg]
  show (bif Nat.beq 0 0 then (bif Nat.blt i (lenL s) then nxtV o s i (Utf8.decode ⟨⟨s⟩⟩ i) st else some (.tup [.bool false], st)) else none) = _
  have h : Nat.blt i (lenL s) = false := by
    rw [lenL_eq]
    cases hb : Nat.blt i s.length with
    | false => rfl
    | true => exact absurd (blt_iff.1 hb) (by omega)
  rw [h]
  rfl
theorem u_eq0 (n : Nat) : eqI (Int.ofNat n) 0 = decide (n = 0) := by
  rw [eqI_eq]
  by_cases h : n = 0
  · subst h; rfl
  · rw [decide_eq_false h]
    exact decide_eq_false (fun e => h (Int.ofNat.inj (show Int.ofNat n = Int.ofNat 0 from e)))
theorem lt_lit (r k : Nat) : ltI (Int.ofNat r) (Int.ofNat k) = !Nat.ble k r := by
  rw [ltI_cast]
  by_cases h : k ≤ r
  · rw [bleT h, decide_eq_false (by omega)]; rfl
  · rw [bleF h, decide_eq_true (by omega)]; rfl
theorem l97 (r : Nat) : ltI (Int.ofNat r) 97 = !Nat.ble 97 r := lt_lit r 97
theorem l65 (r : Nat) : ltI (Int.ofNat r) 65 = !Nat.ble 65 r := lt_lit r 65
theorem l48 (r : Nat) : ltI (Int.ofNat r) 48 = !Nat.ble 48 r := lt_lit r 48
theorem l128 (r : Nat) : ltI (Int.ofNat r) 128 = !Nat.ble 128 r := lt_lit r 128
theorem g122 (r : Nat) : ltI 122 (Int.ofNat r) = !Nat.ble r 122 := lt_lit 122 r
theorem g90 (r : Nat) : ltI 90 (Int.ofNat r) = !Nat.ble r 90 := lt_lit 90 r
theorem g57 (r : Nat) : ltI 57 (Int.ofNat r) = !Nat.ble r 57 := lt_lit 57 r
theorem e95 (r : Nat) : eqI (Int.ofNat r) 95 = Nat.beq r 95 := Eq.trans (Eq.refl _) rfl
theorem get_sletter : tableV.get 99 = some sh99 := by kernel_rfl
theorem get_sdigit : tableV.get 100 = some sh100 := by kernel_rfl
set_option maxHeartbeats 4000000 in
theorem sletter_ev (n r : Nat) (st : St) : evF tableV (n + 1) 99 [.int 31 (.ofNat r)] st = some (.ret (.bool (letterG r)), st) := by
  rw [ev_mk get_sletter]
  unfold letterG
  have h1 := l97 r
  have h2 := g122 r
  have h3 := l65 r
  have h4 := g90 r
  have h5 := e95 r
  have h6 := l128 r
  generalize Nat.ble 97 r = b1 at *
  generalize Nat.ble r 122 = b2 at *
  generalize Nat.ble 65 r = b3 at *
  generalize Nat.ble r 90 = b4 at *
  generalize Nat.beq r 95 = b5 at *
  generalize Nat.ble 128 r = b6 at *
  cases b1 <;> cases b2 <;> cases b3 <;> cases b4 <;> cases b5 <;> cases b6 <;>
    (simp only [c99_0, c99_1, yY, iInt, iStr, iLenS, iLenL, iNot, iPick, iExt, if_true, if_false, reduceIte, Nat.reduceEqDiff, Nat.reduceAdd, reduceCtorEq, yQ, fGeq, fLeq, fEql, h1, h2, h3, h4, h5, h6, Bool.not_not, iPick, Bool.or_true, Bool.or_false, Bool.true_or, Bool.false_or, Bool.and_true, Bool.and_false, Bool.true_and, Bool.false_and]
     exact leave_ret (v := .bool _) (by simp only [yX, iInt, iStr, iLenS, iLenL, iNot, iPick, iExt, if_true, if_false, reduceIte, Nat.reduceEqDiff, Nat.reduceAdd, reduceCtorEq]) (Nat.le_refl _) rfl)
theorem sdigit_ev (n r : Nat) (st : St) : evF tableV (n + 1) 100 [.int 31 (.ofNat r)] st = some (.ret (.bool (digitG r)), st) := by
  rw [ev_mk get_sdigit]
  unfold digitG
  have h1 := l48 r
  have h2 := g57 r
  generalize Nat.ble 48 r = b1 at *
  generalize Nat.ble r 57 = b2 at *
  cases b1 <;> cases b2 <;>
    (simp only [c100_0, c100_1, yY, iInt, iStr, iLenS, iLenL, iNot, iPick, iExt, if_true, if_false, reduceIte, Nat.reduceEqDiff, Nat.reduceAdd, reduceCtorEq, yQ, fGeq, fLeq, fEql, h1, h2, Bool.not_not, iPick, Bool.or_true, Bool.or_false, Bool.true_or, Bool.false_or, Bool.and_true, Bool.and_false, Bool.true_and, Bool.false_and]
     exact leave_ret (v := .bool _) (by simp only [yX, iInt, iStr, iLenS, iLenL, iNot, iPick, iExt, if_true, if_false, reduceIte, Nat.reduceEqDiff, Nat.reduceAdd, reduceCtorEq]) (Nat.le_refl _) rfl)
section
variable {call : Callee} {n : Nat} {o L : Nat} {s : List UInt8}
theorem nm_loop (hLo : L ≤ o) (hl : ∀ r st, call 99 [.int 31 (.ofNat r)] st = some (.ret (.bool (letterG r)), st)) (hd : ∀ r st, call 100 [.int 31 (.ofNat r)] st = some (.ret (.bool (digitG r)), st)) :
    ∀ (f i fuel : Nat) (tm : Tr V) (st : St), s.length ≤ i + f → f < fuel → X.ev tm (.t (pa 26)) = .ref 1 o 0 0 0 false → st.mem.get o = some (.iter s i) → L ≤ st.low →
      ∃ tm' st', L ≤ st'.low ∧ ((loopV fuel (b85_0 call n) tm st = some (.ret, tm', st') ∧ tm'.at (pa 2) = some (.bool false) ∧ nmN f (decide (i = 0)) (s.drop i) = false) ∨
        (loopV fuel (b85_0 call n) tm st = some (.exit 0, tm', st') ∧ nmN f (decide (i = 0)) (s.drop i) = true))
  | 0, i, fuel + 1, tm, st, hs, hf, h26, hg, hlo => by
    rw [x_loop1]
    simp only [b85_0, yX, iInt, iStr, iLenS, iLenL, iNot, iPick, iExt, if_true, if_false, reduceIte, Nat.reduceEqDiff, Nat.reduceAdd, reduceCtorEq, yQ]
    rw [u_nxt0 (o := o) (i := i) (s := s) h26 hg (by omega)]
    simp only [yX, iInt, iStr, iLenS, iLenL, iNot, iPick, iExt, if_true, if_false, reduceIte, Nat.reduceEqDiff, Nat.reduceAdd, reduceCtorEq, yQ, iExt, x_onTup, u_nth0]
    exact ⟨_, _, hlo, .inr ⟨rfl, rfl⟩⟩
  | f + 1, i, fuel + 1, tm, st, hs, hf, h26, hg, hlo => by
    by_cases hi : s.length ≤ i
    · rw [x_loop1]
      simp only [b85_0, yX, iInt, iStr, iLenS, iLenL, iNot, iPick, iExt, if_true, if_false, reduceIte, Nat.reduceEqDiff, Nat.reduceAdd, reduceCtorEq, yQ]
      rw [u_nxt0 (o := o) (i := i) (s := s) h26 hg hi]
      simp only [yX, iInt, iStr, iLenS, iLenL, iNot, iPick, iExt, if_true, if_false, reduceIte, Nat.reduceEqDiff, Nat.reduceAdd, reduceCtorEq, yQ, iExt, x_onTup, u_nth0]
      refine ⟨_, _, hlo, .inr ⟨rfl, ?_⟩⟩
      rw [List.drop_eq_nil_of_le hi]; rfl
    · have hil : i < s.length := by omega
      have hne : s.drop i ≠ [] := fun e => by have := congrArg List.length e; simp at this; omega
      have hw := Lib.decodeL_width (s.drop i)
      have hstep : nmN (f + 1) (decide (i = 0)) (s.drop i) = ((letterG (Lib.decodeL (s.drop i)).1 || (!decide (i = 0) && digitG (Lib.decodeL (s.drop i)).1)) && nmN f (decide (i + (Lib.decodeL (s.drop i)).2 = 0)) (s.drop (i + (Lib.decodeL (s.drop i)).2))) := by
        rw [show decide (i + (Lib.decodeL (s.drop i)).2 = 0) = false from decide_eq_false (by omega), ← List.drop_drop]
        show (if s.drop i = [] then true else _) = _
        rw [if_neg hne]
      rw [hstep, x_loop1]
      have hg' : (st.put o (some (.iter s (i + (Lib.decodeL (s.drop i)).2)))).mem.get o = some (.iter s (i + (Lib.decodeL (s.drop i)).2)) := by rw [put_get, if_pos rfl]
      have hlo' : L ≤ (st.put o (some (.iter s (i + (Lib.decodeL (s.drop i)).2)))).low := by rw [put_low]; omega
      have hlr := hl (Lib.decodeL (s.drop i)).1 (st.put o (some (.iter s (i + (Lib.decodeL (s.drop i)).2))))
      have hdr := hd (Lib.decodeL (s.drop i)).1 (st.put o (some (.iter s (i + (Lib.decodeL (s.drop i)).2))))
      have hnx : ∀ tm : Tr V, X.ev tm (.t (pa 26)) = .ref 1 o 0 0 0 false → _ := fun tm h => u_nxt (o := o) (i := i) (s := s) (st := st) h hg hil
      have hi' : s.length ≤ i + (Lib.decodeL (s.drop i)).2 + f := by omega
      generalize (Lib.decodeL (s.drop i)).1 = r at *
      generalize i + (Lib.decodeL (s.drop i)).2 = i' at *
      cases hlet : letterG r with
      | true =>
        rw [hlet] at hlr
        simp only [b85_0, yX, iInt, iStr, iLenS, iLenL, iNot, iPick, iExt, if_true, if_false, reduceIte, Nat.reduceEqDiff, Nat.reduceAdd, reduceCtorEq, yQ]
        rw [hnx _ h26]
        simp only [iExt, x_onTup, u_nth0, u_nth1, u_nth2, yY, iInt, iStr, iLenS, iLenL, iNot, iPick, iExt, if_true, if_false, reduceIte, Nat.reduceEqDiff, Nat.reduceAdd, reduceCtorEq, yQ, hlr, iPick, Bool.true_or, Bool.true_and]
        exact nm_loop hLo hl hd f i' fuel _ _ hi' (by omega) (by simp only [yX, iInt, iStr, iLenS, iLenL, iNot, iPick, iExt, if_true, if_false, reduceIte, Nat.reduceEqDiff, Nat.reduceAdd, reduceCtorEq, h26]) hg' hlo'
      | false =>
        rw [hlet] at hlr
        by_cases h0 : i = 0
        · have h1 : decide (i = 0) = true := decide_eq_true h0
          simp only [b85_0, yX, iInt, iStr, iLenS, iLenL, iNot, iPick, iExt, if_true, if_false, reduceIte, Nat.reduceEqDiff, Nat.reduceAdd, reduceCtorEq, yQ]
          rw [hnx _ h26]
          simp only [iExt, x_onTup, u_nth0, u_nth1, u_nth2, yY, iInt, iStr, iLenS, iLenL, iNot, iPick, iExt, if_true, if_false, reduceIte, Nat.reduceEqDiff, Nat.reduceAdd, reduceCtorEq, yQ, hlr, iPick, fEql, u_eq0, h1]
          exact ⟨_, _, hlo', .inl ⟨rfl, by simp only [yX, iInt, iStr, iLenS, iLenL, iNot, iPick, iExt, if_true, if_false, reduceIte, Nat.reduceEqDiff, Nat.reduceAdd, reduceCtorEq], rfl⟩⟩
        · have h1 : decide (i = 0) = false := decide_eq_false h0
          cases hdig : digitG r with
          | true =>
            rw [hdig] at hdr
            simp only [b85_0, yX, iInt, iStr, iLenS, iLenL, iNot, iPick, iExt, if_true, if_false, reduceIte, Nat.reduceEqDiff, Nat.reduceAdd, reduceCtorEq, yQ]
            rw [hnx _ h26]
            simp only [iExt, x_onTup, u_nth0, u_nth1, u_nth2, yY, iInt, iStr, iLenS, iLenL, iNot, iPick, iExt, if_true, if_false, reduceIte, Nat.reduceEqDiff, Nat.reduceAdd, reduceCtorEq, yQ, hlr, hdr, iPick, fEql, u_eq0, h1, Bool.false_or, Bool.true_and, Bool.not_false, Bool.and_true]
            exact nm_loop hLo hl hd f i' fuel _ _ hi' (by omega) (by simp only [yX, iInt, iStr, iLenS, iLenL, iNot, iPick, iExt, if_true, if_false, reduceIte, Nat.reduceEqDiff, Nat.reduceAdd, reduceCtorEq, h26]) hg' hlo'
          | false =>
            rw [hdig] at hdr
            simp only [b85_0, yX, iInt, iStr, iLenS, iLenL, iNot, iPick, iExt, if_true, if_false, reduceIte, Nat.reduceEqDiff, Nat.reduceAdd, reduceCtorEq, yQ]
            rw [hnx _ h26]
            simp only [iExt, x_onTup, u_nth0, u_nth1, u_nth2, yY, iInt, iStr, iLenS, iLenL, iNot, iPick, iExt, if_true, if_false, reduceIte, Nat.reduceEqDiff, Nat.reduceAdd, reduceCtorEq, yQ, hlr, hdr, iPick, fEql, u_eq0, h1]
            exact ⟨_, _, hlo', .inl ⟨rfl, by simp only [yX, iInt, iStr, iLenS, iLenL, iNot, iPick, iExt, if_true, if_false, reduceIte, Nat.reduceEqDiff, Nat.reduceAdd, reduceCtorEq], rfl⟩⟩
end
end Go.Proofs.YtnebopkgnkemiaaGreatDoor.Av
