/-
  schema.IsName: WHAT IT ANSWERS of every text; lex.letter, lex.digit, lex.both of every rune: known functions.
-/
import Derived.Test.YtnebopkgnkemiaaGreatDoorNameA
namespace Go.Proofs.YtnebopkgnkemiaaGreatDoor.Av
set_option linter.unusedVariables false
set_option linter.unusedSimpArgs false
set_option maxRecDepth 1000000
open Go
theorem get_name : tableV.get 85 = some sh85 := by kernel_rfl
theorem get_valid : tableV.get 98 = some (.spec validG) := by kernel_rfl
noncomputable def memU : Tr Ob := (Tr.leaf.set 4 (some (.cells 0 tab4 false))).set 5 (some (.cells 0 tab5 false))
noncomputable def stU : St := { next := 11, low := 11, mem := memU }
theorem memU_get {g : Nat} {b : Ob} (h : memU.get g = some b) : (g = 4 ∧ b = .cells 0 tab4 false) ∨ (g = 5 ∧ b = .cells 0 tab5 false) := by
  unfold memU at h
  rw [get_set] at h
  split at h
  · rename_i e; exact .inr ⟨e, (Option.some.inj h).symm⟩
  · rw [get_set] at h
    split at h
    · rename_i e; exact .inl ⟨e, (Option.some.inj h).symm⟩
    · rw [get_leaf] at h; exact nomatch h
theorem memU_lt (g : Nat) (b : Ob) (h : memU.get g = some b) : g < 11 := by
  rcases memU_get h with ⟨rfl, _⟩ | ⟨rfl, _⟩ <;> decide
theorem hasU_tabs {st : St} (h : hasU st = true) : HasTabs memU st := fun g b hb => by
  unfold hasU at h
  rw [Bool.and_eq_true] at h
  rcases memU_get hb with ⟨rfl, rfl⟩ | ⟨rfl, rfl⟩
  · obtain ⟨e, he⟩ := sameTab_eq h.1
    exact ⟨0, _, rfl, by kernel_rfl, e, he, .inl rfl⟩
  · obtain ⟨e, he⟩ := sameTab_eq h.2
    exact ⟨0, _, rfl, by kernel_rfl, e, he, .inl rfl⟩
theorem hasU_stU : hasU stU = true := by kernel_rfl
theorem valid_ev (n : Nat) (s : List UInt8) (st : St) (h : hasU st = true) (hs : s.length ≤ 9223372036854775807) : evF tableV (n + 1) 98 [.str s] st = some (.ret (.bool (Lib.validD s)), st) := by
  refine ev_spec get_valid ?_
  show (bif hasU st && Nat.ble (lenL s) 9223372036854775807 then some (V.bool (Lib.validD s)) else none) = _
  rw [h, lenL_eq, bleT hs]
  rfl
theorem gtr24 (n : Nat) : ltI 24 (Int.ofNat n) = !Nat.ble n 24 := lt_lit 24 n
theorem name_ev (n : Nat) (s : List UInt8) (st : St) (h : hasU st = true) (hs : s.length < n) (hbig : s.length ≤ 9223372036854775807) : evF tableV (n + 2) 85 [.str s] st = some (.ret (.bool (isNameL s)), st) := by
  have hv := valid_ev n s { next := st.next, low := st.next, mem := st.mem } h hbig
  have hg24 := gtr24 s.length
  have e1 := eqS_eq s []
  have e2 := eqS_eq s [87, 73, 84, 72, 73, 78]
  have e3 := eqS_eq s [66, 89]
  rw [ev_mk get_name]
  unfold isNameL
  have d1 : decide (s ≠ []) = !eqS s [] := by rw [e1]; simp
  have d2 : decide (s.length ≤ 24) = Nat.ble s.length 24 := by
    by_cases h : s.length ≤ 24
    · rw [bleT h, decide_eq_true h]
    · rw [bleF h, decide_eq_false h]
  have d3 : decide (s ≠ [87, 73, 84, 72, 73, 78]) = !eqS s [87, 73, 84, 72, 73, 78] := by rw [e2]; simp
  have d4 : decide (s ≠ [66, 89]) = !eqS s [66, 89] := by rw [e3]; simp
  rw [d1, d2, d3, d4]
  clear d1 d2 d3 d4 e1 e2 e3
  generalize h1 : eqS s [] = b1 at *
  generalize h2 : Nat.ble s.length 24 = b2 at *
  generalize h3 : eqS s [87, 73, 84, 72, 73, 78] = b3 at *
  generalize h4 : eqS s [66, 89] = b4 at *
  generalize h5 : Lib.validD s = b5 at *
  cases b1 with
  | true =>
    simp only [c85_0, c85_1, c85_2, yY, iInt, iStr, iLenS, iLenL, iNot, iPick, iExt, if_true, if_false, reduceIte, Nat.reduceEqDiff, Nat.reduceAdd, reduceCtorEq, yQ, sEql, h1, iPick]
    exact leave_ret (v := .bool _) (by simp only [yX, iInt, iStr, iLenS, iLenL, iNot, iPick, iExt, if_true, if_false, reduceIte, Nat.reduceEqDiff, Nat.reduceAdd, reduceCtorEq]; rfl) (Nat.le_refl _) rfl
  | false =>
  cases b2 with
  | false =>
    simp only [c85_0, c85_1, c85_2, yY, iInt, iStr, iLenS, iLenL, iNot, iPick, iExt, if_true, if_false, reduceIte, Nat.reduceEqDiff, Nat.reduceAdd, reduceCtorEq, yQ, sEql, h1, iPick, x_lenS, fGtr, hg24]
    exact leave_ret (v := .bool _) (by simp only [yX, iInt, iStr, iLenS, iLenL, iNot, iPick, iExt, if_true, if_false, reduceIte, Nat.reduceEqDiff, Nat.reduceAdd, reduceCtorEq]; rfl) (Nat.le_refl _) rfl
  | true =>
  cases b3 with
  | true =>
    simp only [c85_0, c85_1, c85_2, yY, iInt, iStr, iLenS, iLenL, iNot, iPick, iExt, if_true, if_false, reduceIte, Nat.reduceEqDiff, Nat.reduceAdd, reduceCtorEq, yQ, sEql, h1, iPick, x_lenS, fGtr, hg24, h3]
    exact leave_ret (v := .bool _) (by simp only [yX, iInt, iStr, iLenS, iLenL, iNot, iPick, iExt, if_true, if_false, reduceIte, Nat.reduceEqDiff, Nat.reduceAdd, reduceCtorEq]; rfl) (Nat.le_refl _) rfl
  | false =>
  cases b4 with
  | true =>
    simp only [c85_0, c85_1, c85_2, yY, iInt, iStr, iLenS, iLenL, iNot, iPick, iExt, if_true, if_false, reduceIte, Nat.reduceEqDiff, Nat.reduceAdd, reduceCtorEq, yQ, sEql, h1, iPick, x_lenS, fGtr, hg24, h3, h4]
    exact leave_ret (v := .bool _) (by simp only [yX, iInt, iStr, iLenS, iLenL, iNot, iPick, iExt, if_true, if_false, reduceIte, Nat.reduceEqDiff, Nat.reduceAdd, reduceCtorEq]; rfl) (Nat.le_refl _) rfl
  | false =>
  cases b5 with
  | false =>
    simp only [c85_0, c85_1, c85_2, yY, iInt, iStr, iLenS, iLenL, iNot, iPick, iExt, if_true, if_false, reduceIte, Nat.reduceEqDiff, Nat.reduceAdd, reduceCtorEq, yQ, sEql, h1, iPick, x_lenS, fGtr, hg24, h3, h4, hv]
    exact leave_ret (v := .bool _) (by simp only [yX, iInt, iStr, iLenS, iLenL, iNot, iPick, iExt, if_true, if_false, reduceIte, Nat.reduceEqDiff, Nat.reduceAdd, reduceCtorEq]; rfl) (Nat.le_refl _) rfl
  | true =>
    simp only [c85_0, c85_1, c85_2, yY, iInt, iStr, iLenS, iLenL, iNot, iPick, iExt, if_true, if_false, reduceIte, Nat.reduceEqDiff, Nat.reduceAdd, reduceCtorEq, yQ, sEql, h1, iPick, x_lenS, fGtr, hg24, h3, h4, hv]
    simp only [c85_3, c85_4, yX, iInt, iStr, iLenS, iLenL, iNot, iPick, iExt, if_true, if_false, reduceIte, Nat.reduceEqDiff, Nat.reduceAdd, reduceCtorEq, yQ, iRng]
    generalize hT : Tr.to (α := V) _ _ _ = TM
    obtain ⟨tm', st', hlo, ⟨g0, g1, g2⟩ | ⟨g0, g2⟩⟩ := nm_loop (call := evF tableV (n + 1)) (n := n + 1) (o := st.next) (L := st.next) (s := s) (Nat.le_refl _) (fun r st => sletter_ev n r st) (fun r st => sdigit_ev n r st) s.length 0 (n + 1) TM
      (({ next := st.next, low := st.next, mem := st.mem } : St).new (.iter s 0)) (by omega) (by omega) (by rw [← hT]; simp only [yX, iInt, iStr, iLenS, iLenL, iNot, iPick, iExt, if_true, if_false, reduceIte, Nat.reduceEqDiff, Nat.reduceAdd, reduceCtorEq]) (by rw [new_get, if_pos rfl]) (Nat.le_refl _)
    · rw [g0]
      simp only [yX, iInt, iStr, iLenS, iLenL, iNot, iPick, iExt, if_true, if_false, reduceIte, Nat.reduceEqDiff, Nat.reduceAdd, reduceCtorEq]
      rw [List.drop_zero] at g2
      rw [show nmN s.length true s = false from g2]
      exact leave_ret g1 hlo rfl
    · rw [g0]
      rw [List.drop_zero] at g2
      rw [show nmN s.length true s = true from g2]
      simp only [c85_5, yX, iInt, iStr, iLenS, iLenL, iNot, iPick, iExt, if_true, if_false, reduceIte, Nat.reduceEqDiff, Nat.reduceAdd, reduceCtorEq, yQ]
      exact leave_ret (v := .bool true) (by simp only [yX, iInt, iStr, iLenS, iLenL, iNot, iPick, iExt, if_true, if_false, reduceIte, Nat.reduceEqDiff, Nat.reduceAdd, reduceCtorEq]) hlo rfl
noncomputable def nameG (args : List V) (st : St) : Option V :=
  List.rec none (fun a l _ => a.onStr none (fun s => List.rec (bif hasU st && Nat.ble (lenL s) 9223372036854775807 then some (.bool (isNameL s)) else none) (fun _ _ _ => none) l)) args
theorem oneStr_some {c : List UInt8 → Bool} {r : List UInt8 → V} {args : List V} {v : V} (h : List.rec none (fun a l _ => a.onStr none (fun s => List.rec (bif c s then some (r s) else none) (fun _ _ _ => none) l)) args = some v) : ∃ s, args = [.str s] ∧ c s = true ∧ v = r s := by
  match args, h with
  | [], h => exact nomatch h
  | a :: b :: l, h =>
    obtain ⟨_, _, h⟩ := onStr_some (show a.onStr none (fun s => (none : Option V)) = some v from h)
    exact nomatch h
  | [a], h =>
    obtain ⟨s, rfl, h1⟩ := onStr_some (show a.onStr none (fun s => bif c s then some (r s) else none) = some v from h)
    obtain ⟨h2, h3⟩ := bif_none h1
    exact ⟨s, rfl, h2, (Option.some.inj h3).symm⟩
theorem name_spec : SpecOk Tryz.prog 85 nameG := by
  refine spec_of mixed tabV get_name (mem := memU) (G := 11) globals.symm (fun g b hb => memU_lt g b hb) fun args st v h => ?_
  obtain ⟨s, rfl, h2, rfl⟩ := oneStr_some (c := fun s => hasU st && Nat.ble (lenL s) 9223372036854775807) (r := fun s => .bool (isNameL s)) h
  rw [Bool.and_eq_true] at h2
  have h3 := ble_iff.1 h2.2
  rw [lenL_eq] at h3
  exact ⟨hasU_tabs h2.1, rfl, rfl, s.length + 1 + 2, stU, name_ev _ s stU hasU_stU (Nat.lt_succ_self _) h3⟩
noncomputable def tableN : Tr Fs := tableV.set 85 (some (.spec nameG))
theorem tabN : TableOk Tryz.prog tableN := tableSpec tabV name_spec
end Go.Proofs.YtnebopkgnkemiaaGreatDoor.Av
