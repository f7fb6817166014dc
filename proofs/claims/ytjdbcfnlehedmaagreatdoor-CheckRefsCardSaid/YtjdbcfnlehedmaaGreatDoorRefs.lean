/-
  CheckRefs: WHATEVER THE INPUT, THE ABSTRACT MACHINE ANSWERS true.
-/
import Derived.Test.YtjdbcfnlehedmaaGreatDoorRefs1
import Derived.Test.YtjdbcfnlehedmaaGreatDoorRefs2
import Derived.Test.YtjdbcfnlehedmaaGreatDoorRefs3
import Derived.Test.YtjdbcfnlehedmaaGreatDoorRefs4
namespace Go.Proofs.YtjdbcfnlehedmaaGreatDoor.Av
set_option linter.unusedVariables false
set_option linter.unusedSimpArgs false
set_option maxRecDepth 1000000
open Go
theorem get_refs : tableA.get 3 = some sh3 := by kernel_rfl
theorem fill_names (tm : Tr V) : fillV tm [(.str []), (.str []), (.str []), (.str [])] [(0, (1, (.c (.str [65])))), (1, (1, (.c (.str [66])))), (2, (1, (.c (.str [67])))), (3, (1, (.c (.str [65]))))] = some names4 := Eq.trans (Eq.refl _) rfl
theorem fill_vars (tm : Tr V) : fillV tm [(.str []), (.str []), (.str []), (.str []), (.str [])] [(0, (1, (.c (.str [97])))), (1, (1, (.c (.str [98])))), (2, (1, (.c (.str [99])))), (3, (1, (.c (.str [100])))), (4, (1, (.c (.str [101]))))] = some vars5 := Eq.trans (Eq.refl _) rfl
theorem fill_fields (tm : Tr V) : fillV tm [(.str []), (.str []), (.str []), (.str [])] [(0, (1, (.c (.str [107])))), (1, (1, (.c (.str [120])))), (2, (1, (.c (.str [121])))), (3, (1, (.c (.str [122]))))] = some fields4 := Eq.trans (Eq.refl _) rfl
theorem rem4 (n : Nat) : Int.tmod (Int.ofNat n) 4 = Int.ofNat (n % 4) := Eq.trans (Eq.refl _) rfl
theorem rem5 (n : Nat) : Int.tmod (Int.ofNat n) 5 = Int.ofNat (n % 5) := Eq.trans (Eq.refl _) rfl
theorem eq4 : eqI 4 (Int.ofNat 0) = false := Eq.trans (Eq.refl _) rfl
theorem eq5 : eqI 5 (Int.ofNat 0) = false := Eq.trans (Eq.refl _) rfl
theorem refs_ev (n1 n2 n3 : Nat) (b : Bool) : evF tableA 1001 3 [.int 8 (.ofNat n1), .int 8 (.ofNat n2), .int 8 (.ofNat n3), .bool b] st0 = some (.ret (.bool true), st0) := by
  have hx := examples_true
  have hst : ({ next := 11, low := 11, mem := st0.mem } : St) = st0 := rfl
  have hn : st0.next = 11 := rfl
  have hw1 : wrapC 63 (Int.ofNat (n1 % 4)) = Int.ofNat (n1 % 4) := wrap63 (by omega)
  have hw2 : wrapC 63 (Int.ofNat (n2 % 5)) = Int.ofNat (n2 % 5) := wrap63 (by omega)
  have hg : (((st0.new (.cells 9 names4 true)).new (.cells 9 vars5 true)).new (.cells 9 fields4 true)).mem.get (11 + 2) = some (.cells 9 fields4 true) := by kernel_rfl
  simp only [Nat.reduceAdd] at hg
  obtain ⟨f, hf, hff⟩ : ∃ f, fields4[n3 % 4]? = some (.str f) ∧ (f = [107] ∨ f = [120] ∨ f = [121] ∨ f = [122]) := by
    have h : n3 % 4 = 0 ∨ n3 % 4 = 1 ∨ n3 % 4 = 2 ∨ n3 % 4 = 3 := by omega
    rcases h with h | h | h | h <;> rw [h] <;> exact ⟨_, rfl, by simp⟩
  rw [ev_mk get_refs]
  simp only [c3_0, c3_1, c3_2, c3_3, c3_4, c3_5, c3_6, c3_7, x_seq, x_reg, x_skip, x_ret, x_exit, x_cond, x_condT, x_condF, x_block, x_loop, x_nrm, x_then_ret, x_then_exit, x_out_nrm, x_out_ret, x_out_exit, x_endG, x_step0, x_stepG, x_isBT, x_isBF, Bool.not_true, Bool.not_false, x_recT, x_recF, x_mov, x_gP', x_gE', x_call, x_dyn, x_dynV, x_goR, x_put, x_put0, x_evc, x_evt, x_ats, x_evs, x_evs0, x_onInt, x_onStr, x_onBool, x_onNat, x_onPtr, x_onSlice, x_onSlice0, x_onCells, x_onTup, x_onAgg, x_beq, initT0, initT1, iInt, iStr, iLenS, iLenL, iNot, iPick, iExt, Nat.zero_add, if_true, if_false, reduceIte, Nat.reduceEqDiff, Nat.reduceAdd, reduceCtorEq, q0, q1, q2, q3, q4, q5, q6, q7, q8, q9, q10, q11, q12, q13, q14, q15, q16, q17, q18, q19, q20, q21, q22, q23, q24, q25, q26, q27, q28, q29, q30, q31, q32, q33, q34, q35, q36, hn, hst, hx, iBsl, fill_names, fill_vars, new_next, fRem, eq4, eq5, rem4, rem5, iCvi, hw1, hw2]
  simp only [c3_8, x_seq, x_reg, x_skip, x_ret, x_exit, x_cond, x_condT, x_condF, x_block, x_loop, x_nrm, x_then_ret, x_then_exit, x_out_nrm, x_out_ret, x_out_exit, x_endG, x_step0, x_stepG, x_isBT, x_isBF, Bool.not_true, Bool.not_false, x_recT, x_recF, x_mov, x_gP', x_gE', x_call, x_dyn, x_dynV, x_goR, x_put, x_put0, x_evc, x_evt, x_ats, x_evs, x_evs0, x_onInt, x_onStr, x_onBool, x_onNat, x_onPtr, x_onSlice, x_onSlice0, x_onCells, x_onTup, x_onAgg, x_beq, initT0, initT1, iInt, iStr, iLenS, iLenL, iNot, iPick, iExt, Nat.zero_add, if_true, if_false, reduceIte, Nat.reduceEqDiff, Nat.reduceAdd, reduceCtorEq, q0, q1, q2, q3, q4, q5, q6, q7, q8, q9, q10, q11, q12, q13, q14, q15, q16, q17, q18, q19, q20, q21, q22, q23, q24, q25, q26, q27, q28, q29, q30, q31, q32, q33, q34, q35, q36, hn, iBsl, fill_fields, new_next, fRem, eq4, rem4]
  rw [x_iad (o := 11 + 2) (b := 0) (m := 4) (c := 4) (ex := true) (k := n3 % 4) (kk := 8) (by simp only [x_seq, x_reg, x_skip, x_ret, x_exit, x_cond, x_condT, x_condF, x_block, x_loop, x_nrm, x_then_ret, x_then_exit, x_out_nrm, x_out_ret, x_out_exit, x_endG, x_step0, x_stepG, x_isBT, x_isBF, Bool.not_true, Bool.not_false, x_recT, x_recF, x_mov, x_gP', x_gE', x_call, x_dyn, x_dynV, x_goR, x_put, x_put0, x_evc, x_evt, x_ats, x_evs, x_evs0, x_onInt, x_onStr, x_onBool, x_onNat, x_onPtr, x_onSlice, x_onSlice0, x_onCells, x_onTup, x_onAgg, x_beq, initT0, initT1, iInt, iStr, iLenS, iLenL, iNot, iPick, iExt, Nat.zero_add, if_true, if_false, reduceIte, Nat.reduceEqDiff, Nat.reduceAdd, reduceCtorEq]) (by simp only [x_seq, x_reg, x_skip, x_ret, x_exit, x_cond, x_condT, x_condF, x_block, x_loop, x_nrm, x_then_ret, x_then_exit, x_out_nrm, x_out_ret, x_out_exit, x_endG, x_step0, x_stepG, x_isBT, x_isBF, Bool.not_true, Bool.not_false, x_recT, x_recF, x_mov, x_gP', x_gE', x_call, x_dyn, x_dynV, x_goR, x_put, x_put0, x_evc, x_evt, x_ats, x_evs, x_evs0, x_onInt, x_onStr, x_onBool, x_onNat, x_onPtr, x_onSlice, x_onSlice0, x_onCells, x_onTup, x_onAgg, x_beq, initT0, initT1, iInt, iStr, iLenS, iLenL, iNot, iPick, iExt, Nat.zero_add, if_true, if_false, reduceIte, Nat.reduceEqDiff, Nat.reduceAdd, reduceCtorEq]) (by omega)]
  simp only [x_seq, x_reg, x_skip, x_ret, x_exit, x_cond, x_condT, x_condF, x_block, x_loop, x_nrm, x_then_ret, x_then_exit, x_out_nrm, x_out_ret, x_out_exit, x_endG, x_step0, x_stepG, x_isBT, x_isBF, Bool.not_true, Bool.not_false, x_recT, x_recF, x_mov, x_gP', x_gE', x_call, x_dyn, x_dynV, x_goR, x_put, x_put0, x_evc, x_evt, x_ats, x_evs, x_evs0, x_onInt, x_onStr, x_onBool, x_onNat, x_onPtr, x_onSlice, x_onSlice0, x_onCells, x_onTup, x_onAgg, x_beq, initT0, initT1, iInt, iStr, iLenS, iLenL, iNot, iPick, iExt, Nat.zero_add, if_true, if_false, reduceIte, Nat.reduceEqDiff, Nat.reduceAdd, reduceCtorEq, Nat.mul_one]
  rw [x_load1 (o := 11 + 2) (i := n3 % 4) (by simp only [x_seq, x_reg, x_skip, x_ret, x_exit, x_cond, x_condT, x_condF, x_block, x_loop, x_nrm, x_then_ret, x_then_exit, x_out_nrm, x_out_ret, x_out_exit, x_endG, x_step0, x_stepG, x_isBT, x_isBF, Bool.not_true, Bool.not_false, x_recT, x_recF, x_mov, x_gP', x_gE', x_call, x_dyn, x_dynV, x_goR, x_put, x_put0, x_evc, x_evt, x_ats, x_evs, x_evs0, x_onInt, x_onStr, x_onBool, x_onNat, x_onPtr, x_onSlice, x_onSlice0, x_onCells, x_onTup, x_onAgg, x_beq, initT0, initT1, iInt, iStr, iLenS, iLenL, iNot, iPick, iExt, Nat.zero_add, if_true, if_false, reduceIte, Nat.reduceEqDiff, Nat.reduceAdd, reduceCtorEq]) hg hf]
  simp only [x_seq, x_reg, x_skip, x_ret, x_exit, x_cond, x_condT, x_condF, x_block, x_loop, x_nrm, x_then_ret, x_then_exit, x_out_nrm, x_out_ret, x_out_exit, x_endG, x_step0, x_stepG, x_isBT, x_isBF, Bool.not_true, Bool.not_false, x_recT, x_recF, x_mov, x_gP', x_gE', x_call, x_dyn, x_dynV, x_goR, x_put, x_put0, x_evc, x_evt, x_ats, x_evs, x_evs0, x_onInt, x_onStr, x_onBool, x_onNat, x_onPtr, x_onSlice, x_onSlice0, x_onCells, x_onTup, x_onAgg, x_beq, initT0, initT1, iInt, iStr, iLenS, iLenL, iNot, iPick, iExt, Nat.zero_add, if_true, if_false, reduceIte, Nat.reduceEqDiff, Nat.reduceAdd, reduceCtorEq]
  have h4 : n1 % 4 < 4 := by omega
  have h5 : n2 % 5 < 5 := by omega
  have hr : n1 % 4 = 0 ∨ n1 % 4 = 1 ∨ n1 % 4 = 2 ∨ n1 % 4 = 3 := by omega
  have key : Good b (n1 % 4) (n2 % 5) f := by
    rcases hr with h | h | h | h <;> rw [h]
    · exact refs_0 h5 hff b
    · exact refs_1 h5 hff b
    · exact refs_2 h5 hff b
    · exact refs_3 h5 hff b
  clear hx hst hn hw1 hw2 hg hf hff
  have key2 := key (.int 8 (.ofNat n1)) (.int 8 (.ofNat n2)) (.int 8 (.ofNat n3)) (.int 8 (.ofNat n1)) (.int 8 (.ofNat (n1 % 4))) (.int 8 (.ofNat n2)) (.int 8 (.ofNat (n2 % 5))) (.int 8 (.ofNat n3)) (.int 8 (.ofNat (n3 % 4))) (.ref 1 (11 + 2) (n3 % 4) 0 0 false)
  unfold restC tmR stR at key2
  simp only [x_seq, Nat.reduceAdd] at key2
  exact key2
end Go.Proofs.YtjdbcfnlehedmaaGreatDoor.Av
