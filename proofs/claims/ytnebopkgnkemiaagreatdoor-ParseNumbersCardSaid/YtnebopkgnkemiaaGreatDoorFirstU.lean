/-
  lex.first: WHAT IT ANSWERS of every text: a known function.
-/
import Derived.Test.YtnebopkgnkemiaaGreatDoorRune
namespace Go.Proofs.YtnebopkgnkemiaaGreatDoor.Av
set_option linter.unusedVariables false
set_option linter.unusedSimpArgs false
set_option maxRecDepth 1000000
open Go
noncomputable def preG (args : List V) (_ : St) : Option V :=
  List.rec none (fun a l _ => List.rec none (fun b l2 _ => a.onStr none (fun s => b.onStr none (fun c => List.rec (some (.bool (isPre c s))) (fun _ _ _ => none) l2))) l) args
theorem twoStr_some {r : List UInt8 → List UInt8 → V} {args : List V} {v : V} (h : List.rec none (fun a l _ => List.rec none (fun b l2 _ => a.onStr none (fun s => b.onStr none (fun c => List.rec (some (r s c)) (fun _ _ _ => none) l2))) l) args = some v) : ∃ s c, args = [.str s, .str c] ∧ v = r s c := by
  match args, h with
  | [], h => exact nomatch h
  | [a], h => exact nomatch h
  | a :: b :: d :: l, h =>
    obtain ⟨s, rfl, h1⟩ := onStr_some (show a.onStr none (fun s => b.onStr none (fun c => (none : Option V))) = some v from h)
    obtain ⟨c, rfl, h2⟩ := onStr_some h1
    exact nomatch h2
  | [a, b], h =>
    obtain ⟨s, rfl, h1⟩ := onStr_some (show a.onStr none (fun s => b.onStr none (fun c => some (r s c))) = some v from h)
    obtain ⟨c, rfl, h2⟩ := onStr_some h1
    exact ⟨s, c, rfl, (Option.some.inj h2).symm⟩
theorem pre_spec : SpecOk Tryz.prog 84 preG := by
  refine spec_of mixed tab get_pre (mem := Tr.leaf) (G := 11) globals.symm (fun g b hb => by rw [get_leaf] at hb; exact nomatch hb) fun args st v h => ?_
  obtain ⟨s, c, rfl, rfl⟩ := twoStr_some (r := fun s c => .bool (isPre c s)) h
  exact ⟨fun g b hb => (by rw [get_leaf] at hb; exact (nomatch hb)), rfl, rfl, 0 + 2, stE0, pre_ev 0 s c stE0⟩
noncomputable def tableP : Tr Fs := tableF.set 84 (some (.spec preG))
theorem tabP : TableOk Tryz.prog tableP := tableSpec tabF pre_spec
theorem get_preP : tableP.get 84 = some (.spec preG) := by kernel_rfl
theorem hasU_put {st : St} {o : Nat} {b : Option Ob} (h : hasU st = true) (ho : 11 ≤ o) : hasU (st.put o b) = true := by
  unfold hasU at *
  rw [put_get, put_get, if_neg (by omega), if_neg (by omega)]
  exact h
theorem hasU_new {st : St} {b : Ob} (h : hasU st = true) (ho : 11 ≤ st.next) : hasU (st.new b) = true := by
  unfold hasU at *
  rw [new_get, new_get, if_neg (by omega), if_neg (by omega)]
  exact h
theorem eq65533 (r : Nat) : eqI (Int.ofNat r) 65533 = Nat.beq r 65533 := Eq.trans (Eq.refl _) rfl
theorem get_first : tableP.get 66 = some sh66 := by kernel_rfl
section
variable {call : Callee} {n : Nat} {o L g : Nat} {s : List UInt8} {p : Nat → Bool}
theorem first_loop (hLo : L ≤ o) (ho : 11 ≤ o) (hpre : ∀ s c st, call 84 [.str s, .str c] st = some (.ret (.bool (isPre c s)), st)) (hp : ∀ r st, VRune r → hasU st = true → call g [.int 31 (.ofNat r)] st = some (.ret (.bool (p r)), st)) :
    ∀ (f i fuel : Nat) (tm : Tr V) (st : St), s.length ≤ i + f → i ≤ s.length → f < fuel → X.ev tm (.t (pa 0)) = .str s → X.ev tm (.t (pa 1)) = .cmp 0 g [] → X.ev tm (.t (pa 9)) = .ref 1 o 0 0 0 false → st.mem.get o = some (.iter s i) → L ≤ st.low → hasU st = true →
      ∃ tm' st', L ≤ st'.low ∧ ((loopV fuel (b66_0 call n) tm st = some (.ret, tm', st') ∧ tm'.at (pa 4) = some (.int 63 (.ofNat (i + fstN p f (s.drop i))))) ∨
        (loopV fuel (b66_0 call n) tm st = some (.exit 0, tm', st') ∧ i + fstN p f (s.drop i) = s.length ∧ X.ev tm' (.t (pa 0)) = .str s))
  | 0, i, fuel + 1, tm, st, hs, hle, hf, h0, h1, h9, hg, hlo, hU => by
    rw [x_loop1]
    simp only [b66_0, yX, iInt, iStr, iLenS, iLenL, iNot, iPick, iExt, if_true, if_false, reduceIte, Nat.reduceEqDiff, Nat.reduceAdd, reduceCtorEq, yQ]
    rw [u_nxt0 (o := o) (i := i) (s := s) h9 hg (by omega)]
    simp only [yX, iInt, iStr, iLenS, iLenL, iNot, iPick, iExt, if_true, if_false, reduceIte, Nat.reduceEqDiff, Nat.reduceAdd, reduceCtorEq, yQ, iExt, x_onTup, u_nth0]
    exact ⟨_, _, hlo, .inr ⟨rfl, by show i + 0 = _; omega, by simp only [yX, iInt, iStr, iLenS, iLenL, iNot, iPick, iExt, if_true, if_false, reduceIte, Nat.reduceEqDiff, Nat.reduceAdd, reduceCtorEq, h0]⟩⟩
  | f + 1, i, fuel + 1, tm, st, hs, hle, hf, h0, h1, h9, hg, hlo, hU => by
    by_cases hi : s.length ≤ i
    · rw [x_loop1]
      simp only [b66_0, yX, iInt, iStr, iLenS, iLenL, iNot, iPick, iExt, if_true, if_false, reduceIte, Nat.reduceEqDiff, Nat.reduceAdd, reduceCtorEq, yQ]
      rw [u_nxt0 (o := o) (i := i) (s := s) h9 hg hi]
      simp only [yX, iInt, iStr, iLenS, iLenL, iNot, iPick, iExt, if_true, if_false, reduceIte, Nat.reduceEqDiff, Nat.reduceAdd, reduceCtorEq, yQ, iExt, x_onTup, u_nth0]
      refine ⟨_, _, hlo, .inr ⟨rfl, ?_, by simp only [yX, iInt, iStr, iLenS, iLenL, iNot, iPick, iExt, if_true, if_false, reduceIte, Nat.reduceEqDiff, Nat.reduceAdd, reduceCtorEq, h0]⟩⟩
      rw [List.drop_eq_nil_of_le hi]
      show i + 0 = _; omega
    · have hil : i < s.length := by omega
      have hne : s.drop i ≠ [] := fun e => by have := congrArg List.length e; simp at this; omega
      have hw := Lib.decodeL_width (s.drop i)
      have hwl := Lib.decodeL_le (s.drop i) hne
      rw [List.length_drop] at hwl
      have hvr := dec_valid (s.drop i)
      have hbad : badB (s.drop i) = (Nat.beq (Lib.decodeL (s.drop i)).1 65533 && !isPre [239, 191, 189] (s.drop i)) := rfl
      have hstep : i + fstN p (f + 1) (s.drop i) = if (badB (s.drop i) || !p (Lib.decodeL (s.drop i)).1) = true then i else (i + (Lib.decodeL (s.drop i)).2) + fstN p f (s.drop (i + (Lib.decodeL (s.drop i)).2)) := by
        rw [← List.drop_drop]
        show i + (if s.drop i = [] then 0 else _) = _
        rw [if_neg hne]
        split
        · rfl
        · omega
      rw [hstep, x_loop1]
      clear hstep
      have hg' : (st.put o (some (.iter s (i + (Lib.decodeL (s.drop i)).2)))).mem.get o = some (.iter s (i + (Lib.decodeL (s.drop i)).2)) := by rw [put_get, if_pos rfl]
      have hlo' : L ≤ (st.put o (some (.iter s (i + (Lib.decodeL (s.drop i)).2)))).low := by rw [put_low]; omega
      have hU' : hasU (st.put o (some (.iter s (i + (Lib.decodeL (s.drop i)).2)))) = true := hasU_put hU ho
      have hpr := hp (Lib.decodeL (s.drop i)).1 _ hvr hU'
      have hnx : ∀ tm : Tr V, X.ev tm (.t (pa 9)) = .ref 1 o 0 0 0 false → _ := fun tm h => u_nxt (o := o) (i := i) (s := s) (st := st) h hg hil
      have hi' : s.length ≤ i + (Lib.decodeL (s.drop i)).2 + f := by omega
      have hle' : i + (Lib.decodeL (s.drop i)).2 ≤ s.length := by omega
      have e65 := eq65533 (Lib.decodeL (s.drop i)).1
      have b1 : Nat.ble i s.length = true := bleT hle
      have b2 : Nat.ble s.length s.length = true := bleT (Nat.le_refl _)
      have b3 : dropL (takeL s s.length) i = s.drop i := by rw [dropL_eq, takeL_eq, List.take_length]
      generalize (Lib.decodeL (s.drop i)).1 = r at *
      generalize i + (Lib.decodeL (s.drop i)).2 = i' at *
      cases h65 : Nat.beq r 65533 with
      | false =>
        rw [h65] at e65 hbad
        rw [hbad, Bool.false_and, Bool.false_or]
        cases hpb : p r with
        | true =>
          rw [hpb] at hpr
          simp only [b66_0, yX, iInt, iStr, iLenS, iLenL, iNot, iPick, iExt, if_true, if_false, reduceIte, Nat.reduceEqDiff, Nat.reduceAdd, reduceCtorEq, yQ]
          rw [hnx _ h9]
          simp only [iExt, x_onTup, u_nth0, u_nth1, u_nth2, yY, iInt, iStr, iLenS, iLenL, iNot, iPick, iExt, if_true, if_false, reduceIte, Nat.reduceEqDiff, Nat.reduceAdd, reduceCtorEq, yQ, h0, h1, fEql, e65, iPick, List.append_nil, hpr, Bool.false_eq_true, if_false]
          exact first_loop hLo ho hpre hp f i' fuel _ _ hi' hle' (by omega) (by simp only [yX, iInt, iStr, iLenS, iLenL, iNot, iPick, iExt, if_true, if_false, reduceIte, Nat.reduceEqDiff, Nat.reduceAdd, reduceCtorEq, h0]) (by simp only [yX, iInt, iStr, iLenS, iLenL, iNot, iPick, iExt, if_true, if_false, reduceIte, Nat.reduceEqDiff, Nat.reduceAdd, reduceCtorEq, h1]) (by simp only [yX, iInt, iStr, iLenS, iLenL, iNot, iPick, iExt, if_true, if_false, reduceIte, Nat.reduceEqDiff, Nat.reduceAdd, reduceCtorEq, h9]) hg' hlo' hU'
        | false =>
          rw [hpb] at hpr
          simp only [b66_0, yX, iInt, iStr, iLenS, iLenL, iNot, iPick, iExt, if_true, if_false, reduceIte, Nat.reduceEqDiff, Nat.reduceAdd, reduceCtorEq, yQ]
          rw [hnx _ h9]
          simp only [iExt, x_onTup, u_nth0, u_nth1, u_nth2, yY, iInt, iStr, iLenS, iLenL, iNot, iPick, iExt, if_true, if_false, reduceIte, Nat.reduceEqDiff, Nat.reduceAdd, reduceCtorEq, yQ, h0, h1, fEql, e65, iPick, List.append_nil, hpr, if_true, Nat.add_zero]
          exact ⟨_, _, hlo', .inl ⟨rfl, by simp only [yX, iInt, iStr, iLenS, iLenL, iNot, iPick, iExt, if_true, if_false, reduceIte, Nat.reduceEqDiff, Nat.reduceAdd, reduceCtorEq]⟩⟩
      | true =>
        rw [h65] at e65 hbad
        rw [hbad, Bool.true_and]
        cases hpp : isPre [239, 191, 189] (s.drop i) with
        | false =>
          have hpre' := hpre (s.drop i) [239, 191, 189] (st.put o (some (.iter s i')))
          rw [hpp] at hpre'
          simp only [b66_0, yX, iInt, iStr, iLenS, iLenL, iNot, iPick, iExt, if_true, if_false, reduceIte, Nat.reduceEqDiff, Nat.reduceAdd, reduceCtorEq, yQ]
          rw [hnx _ h9]
          simp only [iExt, x_onTup, u_nth0, u_nth1, u_nth2, yY, iInt, iStr, iLenS, iLenL, iNot, iPick, iExt, if_true, if_false, reduceIte, Nat.reduceEqDiff, Nat.reduceAdd, reduceCtorEq, yQ, h0, h1, fEql, e65, iPick, iSls, optN, x_onNat, x_lenS, b1, b2, b3, Bool.and_self, cond_true, hpre', Bool.true_or, if_true, Nat.add_zero]
          exact ⟨_, _, hlo', .inl ⟨rfl, by simp only [yX, iInt, iStr, iLenS, iLenL, iNot, iPick, iExt, if_true, if_false, reduceIte, Nat.reduceEqDiff, Nat.reduceAdd, reduceCtorEq]⟩⟩
        | true =>
          have hpre' := hpre (s.drop i) [239, 191, 189] (st.put o (some (.iter s i')))
          rw [hpp] at hpre'
          cases hpb : p r with
          | true =>
            rw [hpb] at hpr
            simp only [b66_0, yX, iInt, iStr, iLenS, iLenL, iNot, iPick, iExt, if_true, if_false, reduceIte, Nat.reduceEqDiff, Nat.reduceAdd, reduceCtorEq, yQ]
            rw [hnx _ h9]
            simp only [iExt, x_onTup, u_nth0, u_nth1, u_nth2, yY, iInt, iStr, iLenS, iLenL, iNot, iPick, iExt, if_true, if_false, reduceIte, Nat.reduceEqDiff, Nat.reduceAdd, reduceCtorEq, yQ, h0, h1, fEql, e65, iPick, iSls, optN, x_onNat, x_lenS, b1, b2, b3, Bool.and_self, cond_true, hpre', List.append_nil, hpr, Bool.false_or, Bool.false_eq_true, if_false]
            exact first_loop hLo ho hpre hp f i' fuel _ _ hi' hle' (by omega) (by simp only [yX, iInt, iStr, iLenS, iLenL, iNot, iPick, iExt, if_true, if_false, reduceIte, Nat.reduceEqDiff, Nat.reduceAdd, reduceCtorEq, h0]) (by simp only [yX, iInt, iStr, iLenS, iLenL, iNot, iPick, iExt, if_true, if_false, reduceIte, Nat.reduceEqDiff, Nat.reduceAdd, reduceCtorEq, h1]) (by simp only [yX, iInt, iStr, iLenS, iLenL, iNot, iPick, iExt, if_true, if_false, reduceIte, Nat.reduceEqDiff, Nat.reduceAdd, reduceCtorEq, h9]) hg' hlo' hU'
          | false =>
            rw [hpb] at hpr
            simp only [b66_0, yX, iInt, iStr, iLenS, iLenL, iNot, iPick, iExt, if_true, if_false, reduceIte, Nat.reduceEqDiff, Nat.reduceAdd, reduceCtorEq, yQ]
            rw [hnx _ h9]
            simp only [iExt, x_onTup, u_nth0, u_nth1, u_nth2, yY, iInt, iStr, iLenS, iLenL, iNot, iPick, iExt, if_true, if_false, reduceIte, Nat.reduceEqDiff, Nat.reduceAdd, reduceCtorEq, yQ, h0, h1, fEql, e65, iPick, iSls, optN, x_onNat, x_lenS, b1, b2, b3, Bool.and_self, cond_true, hpre', List.append_nil, hpr, Bool.false_or, if_true, Nat.add_zero]
            exact ⟨_, _, hlo', .inl ⟨rfl, by simp only [yX, iInt, iStr, iLenS, iLenL, iNot, iPick, iExt, if_true, if_false, reduceIte, Nat.reduceEqDiff, Nat.reduceAdd, reduceCtorEq]⟩⟩
end
theorem first_ev (n g : Nat) (p : Nat → Bool) (s : List UInt8) (st : St) (hG : 11 ≤ st.next) (hU : hasU st = true) (hn : s.length < n) (hp : ∀ r st, VRune r → hasU st = true → evF tableP n g [.int 31 (.ofNat r)] st = some (.ret (.bool (p r)), st)) :
    evF tableP (n + 1) 66 [.str s, .cmp 0 g []] st = some (.ret (.int 63 (.ofNat (firstL p s))), st) := by
  rw [ev_mk get_first]
  simp only [c66_0, c66_1, c66_2, yX, iInt, iStr, iLenS, iLenL, iNot, iPick, iExt, if_true, if_false, reduceIte, Nat.reduceEqDiff, Nat.reduceAdd, reduceCtorEq, yQ, iRng]
  generalize hT : Tr.to (α := V) _ _ _ = TM
  obtain ⟨m, rfl⟩ : ∃ m, n = m + 1 := ⟨n - 1, by omega⟩
  obtain ⟨tm', st', h2, ⟨h3, h4⟩ | ⟨h3, h4, h5⟩⟩ := first_loop (call := evF tableP (m + 1)) (n := m + 1) (o := st.next) (L := st.next) (g := g) (s := s) (p := p) (Nat.le_refl _) hG
    (fun s c st => ev_spec get_preP rfl) hp s.length 0 (m + 1) TM (({ next := st.next, low := st.next, mem := st.mem } : St).new (.iter s 0)) (by omega) (Nat.zero_le _) hn (by rw [← hT]; simp only [yX, iInt, iStr, iLenS, iLenL, iNot, iPick, iExt, if_true, if_false, reduceIte, Nat.reduceEqDiff, Nat.reduceAdd, reduceCtorEq]) (by rw [← hT]; simp only [yX, iInt, iStr, iLenS, iLenL, iNot, iPick, iExt, if_true, if_false, reduceIte, Nat.reduceEqDiff, Nat.reduceAdd, reduceCtorEq]) (by rw [← hT]; simp only [yX, iInt, iStr, iLenS, iLenL, iNot, iPick, iExt, if_true, if_false, reduceIte, Nat.reduceEqDiff, Nat.reduceAdd, reduceCtorEq]) (by rw [new_get, if_pos rfl]) (Nat.le_refl _) (hasU_new hU hG)
  · rw [h3]
    simp only [yX, iInt, iStr, iLenS, iLenL, iNot, iPick, iExt, if_true, if_false, reduceIte, Nat.reduceEqDiff, Nat.reduceAdd, reduceCtorEq]
    rw [List.drop_zero, Nat.zero_add] at h4
    exact leave_ret h4 h2 rfl
  · rw [h3]
    rw [List.drop_zero, Nat.zero_add] at h4
    simp only [c66_3, yX, iInt, iStr, iLenS, iLenL, iNot, iPick, iExt, if_true, if_false, reduceIte, Nat.reduceEqDiff, Nat.reduceAdd, reduceCtorEq, yQ, h5, x_lenS]
    rw [← h4]
    exact leave_ret (by simp only [yX, iInt, iStr, iLenS, iLenL, iNot, iPick, iExt, if_true, if_false, reduceIte, Nat.reduceEqDiff, Nat.reduceAdd, reduceCtorEq]; rfl) h2 rfl
end Go.Proofs.YtnebopkgnkemiaaGreatDoor.Av
