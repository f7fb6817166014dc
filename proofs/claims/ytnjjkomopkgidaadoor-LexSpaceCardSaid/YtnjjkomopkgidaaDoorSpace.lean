/-
  space: WHAT IT ANSWERS of every row of numbers.
-/
import Derived.Test.YtnjjkomopkgidaaDoorSpaceL
import Derived.Test.YtnjjkomopkgidaaDoorNames
namespace Go.Proofs.YtnjjkomopkgidaaDoor.Av
set_option linter.unusedVariables false
set_option linter.unusedSimpArgs false
set_option maxRecDepth 1000000
open Go

theorem get_space : tableL.get 12 = some sh12 := by kernel_rfl
/-- A list of texts in memory. -/
noncomputable def strO (l : List (List UInt8)) : Ob := .cells 9 (l.map .str) true
theorem str_ld {st : St} {o i : Nat} {l : List (List UInt8)} (hg : st.mem.get o = some (strO l)) (hi : i < l.length) {x : X} {tm : Tr V} (hx : x.ev tm = .ref 1 o i 0 0 false) : iLoad false 1 x tm st = some (.str (l.getD i [])) :=
  x_load1 (o := o) (i := i) hx hg (by rw [List.getElem?_map, List.getElem?_eq_getElem hi, List.getD_eq_getElem?_getD, List.getElem?_eq_getElem hi]; rfl)
theorem str_iad {st : St} {o i n cap kk : Nat} {ex : Bool} {x y : X} {tm : Tr V} (hx : x.ev tm = .ref 3 o 0 n cap ex) (hy : y.ev tm = .int kk (Int.ofNat i)) (hi : i < n) : iIad 1 x y tm st = some (.ref 1 o i 0 0 false) := by
  have h := x_iad (n := 1) (st := st) (x := x) (i := y) (tm := tm) (o := o) (b := 0) (m := n) (c := cap) (k := i) (kk := kk) (ex := ex) hx hy hi
  rw [h]
  simp
def sps : List (List UInt8) := [[32], [9], [10], [13]]
theorem bsl_sps (st : St) (tm : Tr V) : iBsl 9 4 [.str [], .str [], .str [], .str []] [(0, (1, (.c (.str [32])))), (1, (1, (.c (.str [9])))), (2, (1, (.c (.str [10])))), (3, (1, (.c (.str [13]))))] tm st = some (.ref 3 st.next 0 4 4 true, st.new (strO sps)) := Eq.trans (Eq.refl _) rfl
section
variable {call : Callee} {n : Nat}
theorem sps_get (z : Nat) : sps.getD (z % 4) [] = [sp4.getD (z % 4) 0] := by
  have hm : z % 4 < 4 := Nat.mod_lt _ (by decide)
  have h : z % 4 = 0 ∨ z % 4 = 1 ∨ z % 4 = 2 ∨ z % 4 = 3 := by omega
  rcases h with h | h | h | h <;> rw [h] <;> rfl
set_option maxHeartbeats 4000000 in
theorem sp_step {st : St} {tm : Tr V} {v0 : V} {zs : List Nat} {acc : List UInt8} {i : Nat} (hrow : Row st 8 v0 zs) (hi : i < zs.length) (h10 : i < 10) (hacc : acc.length ≤ 1000)
    (h0 : X.ev tm (.t (pa 0)) = v0) (h3 : X.ev tm (.t (pa 3)) = .str acc) (h4 : X.ev tm (.t (pa 4)) = .int 63 (Int.ofNat i)) :
    ∃ tm' st', b12_0 call n tm st = some (.nrm, tm', st') ∧ Grew st st' ∧ X.ev tm' (.t (pa 0)) = v0 ∧ X.ev tm' (.t (pa 3)) = .str (acc ++ [sp4.getD ((zs[i]'hi) % 4) 0]) ∧ X.ev tm' (.t (pa 4)) = .int 63 (Int.ofNat (i + 1)) := by
  have hg := Grew.new st (strO sps)
  obtain ⟨o, cap, rfl, hgo⟩ := (hrow.grew hg).at hi
  have hb := bsl_sps st
  have hia : ∀ (tm : Tr V) (p q : Pa), X.ev tm (.t p) = .ref 3 o 0 zs.length cap true → X.ev tm (.t q) = .int 63 (Int.ofNat i) → iIad 1 (.t p) (.t q) tm (st.new (strO sps)) = some (.ref 1 o i 0 0 false) := fun tm p q h h' => row_iad h h' hi
  have hld : ∀ (tm : Tr V) (p : Pa), X.ev tm (.t p) = .ref 1 o i 0 0 false → iLoad false 1 (.t p) tm (st.new (strO sps)) = some (.int 8 (Int.ofNat (zs[i]'hi))) := fun tm p h => row_ld hgo hi h
  generalize (zs[i]'hi) = z at *
  have hm : z % 4 < 4 := Nat.mod_lt _ (by decide)
  have hia2 : ∀ (tm : Tr V) (p q : Pa), X.ev tm (.t p) = .ref 3 st.next 0 4 4 true → X.ev tm (.t q) = .int 8 (Int.ofNat (z % 4)) → iIad 1 (.t p) (.t q) tm (st.new (strO sps)) = some (.ref 1 st.next (z % 4) 0 0 false) := fun tm p q h h' => str_iad h h' hm
  have hld2 : ∀ (tm : Tr V) (p : Pa), X.ev tm (.t p) = .ref 1 st.next (z % 4) 0 0 false → iLoad false 1 (.t p) tm (st.new (strO sps)) = some (.str [sp4.getD (z % 4) 0]) := fun tm p h => (str_ld (l := sps) (new_get_self st (strO sps)) hm h).trans (by rw [sps_get])
  have l1 : fLss 63 (Int.ofNat i) (Int.ofNat zs.length) = some (.bool true) := by rw [lss_ofNat, decide_eq_true hi]
  have l2 : fLss 63 (Int.ofNat i) 10 = some (.bool true) := (lss_ofNat 63 i 10).trans (by rw [decide_eq_true h10])
  have l3 : fAdd 63 (Int.ofNat i) 1 = some (.int 63 (Int.ofNat (i + 1))) := by
    show some (V.int 63 (wrapC 63 (Int.ofNat (i + 1)))) = _
    rw [wrap63 (by omega)]
  have r2 : fRem 8 (Int.ofNat z) 4 = some (.int 8 (Int.ofNat (z % 4))) := rem_ofNat 8 z 4 rfl
  have hadd : sAdd acc [sp4.getD (z % 4) 0] = some (.str (acc ++ [sp4.getD (z % 4) 0])) := sAdd_short hacc (by simp)
  simp only [b12_0, x_seq, x_reg, x_skip, x_ret, x_exit, x_cond, x_condT, x_condF, x_block, x_loop, x_nrm, x_then_ret, x_then_exit, x_out_nrm, x_out_ret, x_out_exit, x_endG, x_step0, x_stepGT, x_stepGF, x_stepGU, x_isBT, x_isBF, Bool.not_true, Bool.not_false, x_recT, x_recF, x_mov, x_gP', x_gE', x_call, x_dyn, x_dynV, x_goR, x_put, x_put0, x_evc, x_evt, x_ats, x_evs, x_evs0, x_onInt, x_onStr, x_onBool, x_onNat, x_onPtr, x_onSlice, x_onSlice0, x_onCells, x_onTup, x_onAgg, x_beq, initT0, initT1, iInt, iStr, iLenS, iLenL, iNot, iPick, iExt, Nat.zero_add, if_true, if_false, reduceIte, Nat.reduceEqDiff, Nat.reduceAdd, reduceCtorEq, q0, q1, q2, q3, q4, q5, q6, q7, q8, q9, q10, q11, q12, q13, q14, q15, q16, q17, q18, q19, q20, q21, q22, q23, q24, q25, q26, q27, q28, q29, q30, h0, h3, h4, hb, hia, hld, hia2, hld2, l1, l2, l3, r2, hadd]
  exact ⟨_, _, rfl, hg, by simp only [x_seq, x_reg, x_skip, x_ret, x_exit, x_cond, x_condT, x_condF, x_block, x_loop, x_nrm, x_then_ret, x_then_exit, x_out_nrm, x_out_ret, x_out_exit, x_endG, x_step0, x_stepG, x_isBT, x_isBF, Bool.not_true, Bool.not_false, x_recT, x_recF, x_mov, x_gP', x_gE', x_call, x_dyn, x_dynV, x_goR, x_put, x_put0, x_evc, x_evt, x_ats, x_evs, x_evs0, x_onInt, x_onStr, x_onBool, x_onNat, x_onPtr, x_onSlice, x_onSlice0, x_onCells, x_onTup, x_onAgg, x_beq, initT0, initT1, iInt, iStr, iLenS, iLenL, iNot, iPick, iExt, Nat.zero_add, if_true, if_false, reduceIte, Nat.reduceEqDiff, Nat.reduceAdd, reduceCtorEq, h0], by simp only [x_seq, x_reg, x_skip, x_ret, x_exit, x_cond, x_condT, x_condF, x_block, x_loop, x_nrm, x_then_ret, x_then_exit, x_out_nrm, x_out_ret, x_out_exit, x_endG, x_step0, x_stepG, x_isBT, x_isBF, Bool.not_true, Bool.not_false, x_recT, x_recF, x_mov, x_gP', x_gE', x_call, x_dyn, x_dynV, x_goR, x_put, x_put0, x_evc, x_evt, x_ats, x_evs, x_evs0, x_onInt, x_onStr, x_onBool, x_onNat, x_onPtr, x_onSlice, x_onSlice0, x_onCells, x_onTup, x_onAgg, x_beq, initT0, initT1, iInt, iStr, iLenS, iLenL, iNot, iPick, iExt, Nat.zero_add, if_true, if_false, reduceIte, Nat.reduceEqDiff, Nat.reduceAdd, reduceCtorEq], by simp only [x_seq, x_reg, x_skip, x_ret, x_exit, x_cond, x_condT, x_condF, x_block, x_loop, x_nrm, x_then_ret, x_then_exit, x_out_nrm, x_out_ret, x_out_exit, x_endG, x_step0, x_stepG, x_isBT, x_isBF, Bool.not_true, Bool.not_false, x_recT, x_recF, x_mov, x_gP', x_gE', x_call, x_dyn, x_dynV, x_goR, x_put, x_put0, x_evc, x_evt, x_ats, x_evs, x_evs0, x_onInt, x_onStr, x_onBool, x_onNat, x_onPtr, x_onSlice, x_onSlice0, x_onCells, x_onTup, x_onAgg, x_beq, initT0, initT1, iInt, iStr, iLenS, iLenL, iNot, iPick, iExt, Nat.zero_add, if_true, if_false, reduceIte, Nat.reduceEqDiff, Nat.reduceAdd, reduceCtorEq]⟩
theorem sp_stop {st : St} {tm : Tr V} {v0 : V} {zs : List Nat} {i : Nat} (hrow : Row st 8 v0 zs) (hi : ¬ i < zs.length ∨ ¬ i < 10)
    (h0 : X.ev tm (.t (pa 0)) = v0) (h4 : X.ev tm (.t (pa 4)) = .int 63 (Int.ofNat i)) :
    ∃ tm', b12_0 call n tm st = some (.exit 0, tm', st) ∧ X.ev tm' (.t (pa 3)) = X.ev tm (.t (pa 3)) := by
  have hll := hrow.len
  by_cases hi' : i < zs.length
  · have l1 : fLss 63 (Int.ofNat i) (Int.ofNat zs.length) = some (.bool true) := by rw [lss_ofNat, decide_eq_true hi']
    have l2 : fLss 63 (Int.ofNat i) 10 = some (.bool false) := (lss_ofNat 63 i 10).trans (by rw [decide_eq_false (by omega)])
    simp only [b12_0, x_seq, x_reg, x_skip, x_ret, x_exit, x_cond, x_condT, x_condF, x_block, x_loop, x_nrm, x_then_ret, x_then_exit, x_out_nrm, x_out_ret, x_out_exit, x_endG, x_step0, x_stepGT, x_stepGF, x_stepGU, x_isBT, x_isBF, Bool.not_true, Bool.not_false, x_recT, x_recF, x_mov, x_gP', x_gE', x_call, x_dyn, x_dynV, x_goR, x_put, x_put0, x_evc, x_evt, x_ats, x_evs, x_evs0, x_onInt, x_onStr, x_onBool, x_onNat, x_onPtr, x_onSlice, x_onSlice0, x_onCells, x_onTup, x_onAgg, x_beq, initT0, initT1, iInt, iStr, iLenS, iLenL, iNot, iPick, iExt, Nat.zero_add, if_true, if_false, reduceIte, Nat.reduceEqDiff, Nat.reduceAdd, reduceCtorEq, q0, q1, q2, q3, q4, q5, q6, q7, q8, q9, q10, q11, q12, q13, q14, q15, q16, q17, q18, q19, q20, q21, q22, q23, q24, q25, q26, q27, q28, q29, q30, h0, h4, hll, l1, l2]
    exact ⟨_, rfl, by simp only [x_seq, x_reg, x_skip, x_ret, x_exit, x_cond, x_condT, x_condF, x_block, x_loop, x_nrm, x_then_ret, x_then_exit, x_out_nrm, x_out_ret, x_out_exit, x_endG, x_step0, x_stepG, x_isBT, x_isBF, Bool.not_true, Bool.not_false, x_recT, x_recF, x_mov, x_gP', x_gE', x_call, x_dyn, x_dynV, x_goR, x_put, x_put0, x_evc, x_evt, x_ats, x_evs, x_evs0, x_onInt, x_onStr, x_onBool, x_onNat, x_onPtr, x_onSlice, x_onSlice0, x_onCells, x_onTup, x_onAgg, x_beq, initT0, initT1, iInt, iStr, iLenS, iLenL, iNot, iPick, iExt, Nat.zero_add, if_true, if_false, reduceIte, Nat.reduceEqDiff, Nat.reduceAdd, reduceCtorEq]⟩
  · have l1 : fLss 63 (Int.ofNat i) (Int.ofNat zs.length) = some (.bool false) := by rw [lss_ofNat, decide_eq_false hi']
    simp only [b12_0, x_seq, x_reg, x_skip, x_ret, x_exit, x_cond, x_condT, x_condF, x_block, x_loop, x_nrm, x_then_ret, x_then_exit, x_out_nrm, x_out_ret, x_out_exit, x_endG, x_step0, x_stepGT, x_stepGF, x_stepGU, x_isBT, x_isBF, Bool.not_true, Bool.not_false, x_recT, x_recF, x_mov, x_gP', x_gE', x_call, x_dyn, x_dynV, x_goR, x_put, x_put0, x_evc, x_evt, x_ats, x_evs, x_evs0, x_onInt, x_onStr, x_onBool, x_onNat, x_onPtr, x_onSlice, x_onSlice0, x_onCells, x_onTup, x_onAgg, x_beq, initT0, initT1, iInt, iStr, iLenS, iLenL, iNot, iPick, iExt, Nat.zero_add, if_true, if_false, reduceIte, Nat.reduceEqDiff, Nat.reduceAdd, reduceCtorEq, q0, q1, q2, q3, q4, q5, q6, q7, q8, q9, q10, q11, q12, q13, q14, q15, q16, q17, q18, q19, q20, q21, q22, q23, q24, q25, q26, q27, q28, q29, q30, h0, h4, hll, l1]
    exact ⟨_, rfl, by simp only [x_seq, x_reg, x_skip, x_ret, x_exit, x_cond, x_condT, x_condF, x_block, x_loop, x_nrm, x_then_ret, x_then_exit, x_out_nrm, x_out_ret, x_out_exit, x_endG, x_step0, x_stepG, x_isBT, x_isBF, Bool.not_true, Bool.not_false, x_recT, x_recF, x_mov, x_gP', x_gE', x_call, x_dyn, x_dynV, x_goR, x_put, x_put0, x_evc, x_evt, x_ats, x_evs, x_evs0, x_onInt, x_onStr, x_onBool, x_onNat, x_onPtr, x_onSlice, x_onSlice0, x_onCells, x_onTup, x_onAgg, x_beq, initT0, initT1, iInt, iStr, iLenS, iLenL, iNot, iPick, iExt, Nat.zero_add, if_true, if_false, reduceIte, Nat.reduceEqDiff, Nat.reduceAdd, reduceCtorEq]⟩
theorem sp_loop {v0 : V} {zs : List Nat} : ∀ (f i fuel : Nat) (acc : List UInt8) (tm : Tr V) (st : St), Row st 8 v0 zs → i + f = 10 → f < fuel → acc.length ≤ i → X.ev tm (.t (pa 0)) = v0 → X.ev tm (.t (pa 3)) = .str acc → X.ev tm (.t (pa 4)) = .int 63 (Int.ofNat i) →
    ∃ tm' st', loopV fuel (b12_0 call n) tm st = some (.exit 0, tm', st') ∧ Grew st st' ∧ X.ev tm' (.t (pa 3)) = .str (acc ++ ((zs.drop i).take f).map fun z => sp4.getD (z % 4) 0)
  | f, i, 0, acc, tm, st, _, _, hf, _, _, _, _ => by omega
  | 0, i, fuel + 1, acc, tm, st, hrow, hi, hf, _, h0, h3, h4 => by
    obtain ⟨tm', e, e3⟩ := sp_stop (call := call) (n := n) hrow (.inr (by omega)) h0 h4
    rw [x_loop1, e]
    exact ⟨tm', st, rfl, Grew.refl _, by rw [e3, h3, List.take_zero, List.map_nil, List.append_nil]⟩
  | f + 1, i, fuel + 1, acc, tm, st, hrow, hi, hf, ha, h0, h3, h4 => by
    by_cases hl : i < zs.length
    · obtain ⟨tm', st', e, g, e0, e3, e4⟩ := sp_step (call := call) (n := n) hrow hl (by omega) (by omega) h0 h3 h4
      rw [x_loop1, e]
      obtain ⟨tm2, st2, k1, k2, k3⟩ := sp_loop f (i + 1) fuel (acc ++ [sp4.getD ((zs[i]'hl) % 4) 0]) tm' st' (hrow.grew g) (by omega) (by omega) (by rw [List.length_append]; simp only [List.length_singleton]; omega) e0 e3 e4
      refine ⟨tm2, st2, k1, g.trans k2, ?_⟩
      rw [k3, List.drop_eq_getElem_cons hl, List.take_succ_cons, List.map_cons, List.append_assoc]
      rfl
    · obtain ⟨tm', e, e3⟩ := sp_stop (call := call) (n := n) hrow (.inl hl) h0 h4
      rw [x_loop1, e]
      exact ⟨tm', st, rfl, Grew.refl _, by rw [e3, h3, List.drop_eq_nil_of_le (by omega), List.take_nil, List.map_nil, List.append_nil]⟩
end
theorem space_ev (n : Nat) {st : St} {v0 : V} {zs : List Nat} (hrow : Row st 8 v0 zs) (hn : 11 ≤ n) : evF tableL (n + 1) 12 [v0] st = some (.ret (.str (spA zs)), st) := by
  rw [ev_mk get_space]
  simp only [c12_0, c12_1, c12_2, c12_3, x_seq, x_reg, x_skip, x_ret, x_exit, x_cond, x_condT, x_condF, x_block, x_loop, x_nrm, x_then_ret, x_then_exit, x_out_nrm, x_out_ret, x_out_exit, x_endG, x_step0, x_stepG, x_isBT, x_isBF, Bool.not_true, Bool.not_false, x_recT, x_recF, x_mov, x_gP', x_gE', x_call, x_dyn, x_dynV, x_goR, x_put, x_put0, x_evc, x_evt, x_ats, x_evs, x_evs0, x_onInt, x_onStr, x_onBool, x_onNat, x_onPtr, x_onSlice, x_onSlice0, x_onCells, x_onTup, x_onAgg, x_beq, initT0, initT1, iInt, iStr, iLenS, iLenL, iNot, iPick, iExt, Nat.zero_add, if_true, if_false, reduceIte, Nat.reduceEqDiff, Nat.reduceAdd, reduceCtorEq, q0, q1, q2, q3, q4, q5, q6, q7, q8, q9, q10, q11, q12, q13, q14, q15, q16, q17, q18, q19, q20, q21, q22, q23, q24, q25, q26, q27, q28, q29, q30]
  generalize hT : Tr.to (α := V) _ _ _ = TM
  have hrow0 : Row { next := st.next, low := st.next, mem := st.mem } 8 v0 zs := hrow
  obtain ⟨tm1, st1, e1, g1, k3⟩ := sp_loop (call := evF tableL n) (n := n) 10 0 n [] TM { next := st.next, low := st.next, mem := st.mem } hrow0 rfl (by omega) (Nat.le_refl _) (by rw [← hT]; simp only [x_seq, x_reg, x_skip, x_ret, x_exit, x_cond, x_condT, x_condF, x_block, x_loop, x_nrm, x_then_ret, x_then_exit, x_out_nrm, x_out_ret, x_out_exit, x_endG, x_step0, x_stepG, x_isBT, x_isBF, Bool.not_true, Bool.not_false, x_recT, x_recF, x_mov, x_gP', x_gE', x_call, x_dyn, x_dynV, x_goR, x_put, x_put0, x_evc, x_evt, x_ats, x_evs, x_evs0, x_onInt, x_onStr, x_onBool, x_onNat, x_onPtr, x_onSlice, x_onSlice0, x_onCells, x_onTup, x_onAgg, x_beq, initT0, initT1, iInt, iStr, iLenS, iLenL, iNot, iPick, iExt, Nat.zero_add, if_true, if_false, reduceIte, Nat.reduceEqDiff, Nat.reduceAdd, reduceCtorEq]) (by rw [← hT]; simp only [x_seq, x_reg, x_skip, x_ret, x_exit, x_cond, x_condT, x_condF, x_block, x_loop, x_nrm, x_then_ret, x_then_exit, x_out_nrm, x_out_ret, x_out_exit, x_endG, x_step0, x_stepG, x_isBT, x_isBF, Bool.not_true, Bool.not_false, x_recT, x_recF, x_mov, x_gP', x_gE', x_call, x_dyn, x_dynV, x_goR, x_put, x_put0, x_evc, x_evt, x_ats, x_evs, x_evs0, x_onInt, x_onStr, x_onBool, x_onNat, x_onPtr, x_onSlice, x_onSlice0, x_onCells, x_onTup, x_onAgg, x_beq, initT0, initT1, iInt, iStr, iLenS, iLenL, iNot, iPick, iExt, Nat.zero_add, if_true, if_false, reduceIte, Nat.reduceEqDiff, Nat.reduceAdd, reduceCtorEq]) (by rw [← hT]; simp only [x_seq, x_reg, x_skip, x_ret, x_exit, x_cond, x_condT, x_condF, x_block, x_loop, x_nrm, x_then_ret, x_then_exit, x_out_nrm, x_out_ret, x_out_exit, x_endG, x_step0, x_stepG, x_isBT, x_isBF, Bool.not_true, Bool.not_false, x_recT, x_recF, x_mov, x_gP', x_gE', x_call, x_dyn, x_dynV, x_goR, x_put, x_put0, x_evc, x_evt, x_ats, x_evs, x_evs0, x_onInt, x_onStr, x_onBool, x_onNat, x_onPtr, x_onSlice, x_onSlice0, x_onCells, x_onTup, x_onAgg, x_beq, initT0, initT1, iInt, iStr, iLenS, iLenL, iNot, iPick, iExt, Nat.zero_add, if_true, if_false, reduceIte, Nat.reduceEqDiff, Nat.reduceAdd, reduceCtorEq]; rfl)
  rw [e1]
  rw [List.nil_append, List.drop_zero] at k3
  simp only [c12_4, x_seq, x_reg, x_skip, x_ret, x_exit, x_cond, x_condT, x_condF, x_block, x_loop, x_nrm, x_then_ret, x_then_exit, x_out_nrm, x_out_ret, x_out_exit, x_endG, x_step0, x_stepG, x_isBT, x_isBF, Bool.not_true, Bool.not_false, x_recT, x_recF, x_mov, x_gP', x_gE', x_call, x_dyn, x_dynV, x_goR, x_put, x_put0, x_evc, x_evt, x_ats, x_evs, x_evs0, x_onInt, x_onStr, x_onBool, x_onNat, x_onPtr, x_onSlice, x_onSlice0, x_onCells, x_onTup, x_onAgg, x_beq, initT0, initT1, iInt, iStr, iLenS, iLenL, iNot, iPick, iExt, Nat.zero_add, if_true, if_false, reduceIte, Nat.reduceEqDiff, Nat.reduceAdd, reduceCtorEq, q0, q1, q2, q3, q4, q5, q6, q7, q8, q9, q10, q11, q12, q13, q14, q15, q16, q17, q18, q19, q20, q21, q22, q23, q24, q25, q26, q27, q28, q29, q30, k3]
  exact leave_ret (by simp only [x_seq, x_reg, x_skip, x_ret, x_exit, x_cond, x_condT, x_condF, x_block, x_loop, x_nrm, x_then_ret, x_then_exit, x_out_nrm, x_out_ret, x_out_exit, x_endG, x_step0, x_stepG, x_isBT, x_isBF, Bool.not_true, Bool.not_false, x_recT, x_recF, x_mov, x_gP', x_gE', x_call, x_dyn, x_dynV, x_goR, x_put, x_put0, x_evc, x_evt, x_ats, x_evs, x_evs0, x_onInt, x_onStr, x_onBool, x_onNat, x_onPtr, x_onSlice, x_onSlice0, x_onCells, x_onTup, x_onAgg, x_beq, initT0, initT1, iInt, iStr, iLenS, iLenL, iNot, iPick, iExt, Nat.zero_add, if_true, if_false, reduceIte, Nat.reduceEqDiff, Nat.reduceAdd, reduceCtorEq]; rfl) (g1.low st.next (Nat.le_refl _) (Nat.le_refl _)) rfl
end Go.Proofs.YtnjjkomopkgidaaDoor.Av
