/-
  lex.All: WHAT THE ABSTRACT MACHINE ANSWERS of every text, where it may stand.
-/
import Derived.Test.YtnebopkgnkemiaaGreatDoorAllB
namespace Go.Proofs.YtnebopkgnkemiaaGreatDoor.Av
set_option linter.unusedVariables false
set_option linter.unusedSimpArgs false
set_option maxRecDepth 1000000
open Go
theorem leave3 {st0 st : St} {tm : Tr V} {a b c : Pa} {v1 v2 v3 : V} (h1 : tm.at a = some v1) (h2 : tm.at b = some v2) (h3 : tm.at c = some v3) :
    leaveF st0 [.t a, .t b, .t c] (some (.ret, tm, st)) = some (.ret (.tup [v1, v2, v3]), back st0 (.ret (.tup [v1, v2, v3])) st) := by
  show (Option.rec none (fun v => some (.ret v, back st0 (.ret v) st)) (resV tm st [.t a, .t b, .t c]) : Option (CR × St)) = _
  have h : RV.evs tm st [.t a, .t b, .t c] = some [v1, v2, v3] := by
    show (match tm.at a, (match tm.at b, (match tm.at c, (some [] : Option (List V)) with
      | some v, some vs => some (v :: vs)
      | _, _ => none) with
      | some v, some vs => some (v :: vs)
      | _, _ => none) with
      | some v, some vs => some (v :: vs)
      | _, _ => none) = _
    rw [h1, h2, h3]
  have h' : resV tm st [.t a, .t b, .t c] = some (.tup [v1, v2, v3]) := by
    show (match RV.evs tm st [.t a, .t b, .t c] with
      | some vs => some (V.tup vs)
      | none => none) = _
    rw [h]
  rw [h']
structure Grew (st S : St) : Prop where
  next : st.next ≤ S.next
  low : ∀ b, b ≤ st.low → b ≤ st.next → b ≤ S.low
  mem : ∀ o, o < st.next → S.mem.get o = st.mem.get o
theorem Grew.refl (st : St) : Grew st st := ⟨Nat.le_refl _, fun _ h _ => h, fun _ _ => rfl⟩
theorem Grew.trans {a b c : St} (h : Grew a b) (k : Grew b c) : Grew a c :=
  ⟨Nat.le_trans h.next k.next, fun x h1 h2 => k.low x (h.low x h1 h2) (Nat.le_trans h2 h.next), fun o ho => (k.mem o (Nat.lt_of_lt_of_le ho h.next)).trans (h.mem o ho)⟩
theorem Grew.hasW {st S : St} (h : Grew st S) (hG : 11 ≤ st.next) (hW : Av.hasW st = true) : Av.hasW S = true := hasW_same hW fun g hg => h.mem g (by omega)
theorem TokSl.grew {L : Nat} {st S : St} {v : V} {l : List TokA} (h : TokSl L st v l) (hg : Grew st S) : TokSl L S v l := by
  rcases h with h | ⟨o, h1, h2, h3, h4, h5⟩
  · exact .inl h
  · exact .inr ⟨o, h1, Nat.lt_of_lt_of_le h2 hg.next, h3, h4, (hg.mem o h2).trans h5⟩
theorem back_grew {st st' : St} {r : CR} (h : Since st.next st st') : Grew st (back st r st') := by
  unfold back
  cases (Nat.ble st.next st'.low && r.under st.next) with
  | true => exact Grew.refl _
  | false =>
    refine ⟨h.next, fun b h1 h2 => ?_, h.mem⟩
    show b ≤ bif Nat.ble st.low st'.low then st.low else st'.low
    have := h.low
    cases Nat.ble st.low st'.low with
    | true => exact h1
    | false => show b ≤ st'.low; omega
theorem under_tok {n o m c : Nat} {x : Bool} {a b : V} (h : n ≤ o) : (CR.ret (.tup [.ref 3 o 0 m c x, a, b])).under n = false := by
  show (V.tup [V.ref 3 o 0 m c x, a, b]).under n = false
  rw [under_cmp, List.all_cons]
  have : (V.ref 3 o 0 m c x).under n = false := by
    cases hu : (V.ref 3 o 0 m c x).under n with
    | false => rfl
    | true => exact absurd ((under_ref n 3 o 0 m c x).1 hu (.inr (.inl rfl))) (by omega)
  rw [this]; rfl
theorem gtr2048 (n : Nat) : ltI 2048 (Int.ofNat n) = decide (2048 < n) := ltI_cast 2048 n
theorem all_ev (n : Nat) (s : List UInt8) (st : St) (hG : 11 ≤ st.next) (hW : hasW st = true) (hs : s.length ≤ 2048) (hn : s.length < n) :
    ∃ v S, evF tableL (n + 2) 21 [.str s] st = some (.ret (.tup [v, .int 63 (.ofNat (allL (s.length + 1) s 0).2), .int 63 (if (allL (s.length + 1) s 0).1.isSome then 0 else 2)]), S) ∧ Grew st S ∧
      (match (allL (s.length + 1) s 0).1 with
        | some ts => TokSl st.next S v ts
        | none => v = .ref 2 0 0 0 0 false) := by
  have hgt : ltI 2048 (Int.ofNat s.length) = false := by rw [gtr2048]; exact decide_eq_false (by omega)
  rw [ev_mk get_all]
  simp only [c21_0, c21_1, c21_2, c21_3, yX, iInt, iStr, iLenS, iLenL, iNot, iPick, iExt, if_true, if_false, reduceIte, Nat.reduceEqDiff, Nat.reduceAdd, reduceCtorEq, yQ, x_lenS, fGtr, hgt]
  generalize hT : Tr.to (α := V) _ _ _ = TM
  obtain ⟨tm', st', k1, k2, k3, k4, v, k5, k6⟩ := all_loop (n := n) (L := st.next) (s := s) (sI := { next := st.next, low := st.next, mem := st.mem }) hG hs rfl (s.length + 1) 0 (n + 1) TM { next := st.next, low := st.next, mem := st.mem } (.ref 2 0 0 0 0 false) []
    (by omega) (Nat.zero_le _) (by omega) (Nat.le_refl _) (by rw [← hT]; simp only [yX, iInt, iStr, iLenS, iLenL, iNot, iPick, iExt, if_true, if_false, reduceIte, Nat.reduceEqDiff, Nat.reduceAdd, reduceCtorEq]) (by rw [← hT]; simp only [yX, iInt, iStr, iLenS, iLenL, iNot, iPick, iExt, if_true, if_false, reduceIte, Nat.reduceEqDiff, Nat.reduceAdd, reduceCtorEq]) (by rw [← hT]; simp only [yX, iInt, iStr, iLenS, iLenL, iNot, iPick, iExt, if_true, if_false, reduceIte, Nat.reduceEqDiff, Nat.reduceAdd, reduceCtorEq]; rfl) (.inl ⟨rfl, rfl⟩) ⟨Nat.le_refl _, Nat.le_refl _, fun _ _ => rfl⟩ hW
  rw [k1]
  simp only [yX, iInt, iStr, iLenS, iLenL, iNot, iPick, iExt, if_true, if_false, reduceIte, Nat.reduceEqDiff, Nat.reduceAdd, reduceCtorEq]
  rw [List.drop_zero] at k4 k6
  have hsin : Since st.next st st' := ⟨k2.next, k2.low, k2.mem⟩
  cases hr : (allL (s.length + 1) s 0).1 with
  | none =>
    rw [hr] at k6
    obtain ⟨k7, rfl⟩ := k6
    refine ⟨_, _, leave3 k5 k4 k7, back_grew hsin, rfl⟩
  | some ts =>
    rw [hr] at k6
    obtain ⟨k7, k8⟩ := k6
    rw [List.nil_append] at k8
    refine ⟨_, _, leave3 k5 k4 k7, back_grew hsin, ?_⟩
    rcases k8 with h | ⟨o, h1, h2, h3, rfl, h5⟩
    · exact .inl h
    · refine .inr ⟨o, h1, ?_, h3, rfl, ?_⟩
      · unfold back
        rw [under_tok h1, Bool.and_false]
        exact h2
      · unfold back
        rw [under_tok h1, Bool.and_false]
        exact h5
end Go.Proofs.YtnebopkgnkemiaaGreatDoor.Av
