/-
  ParseNames: WHATEVER THE INPUT, THE ABSTRACT MACHINE ANSWERS true.
-/
import Derived.Test.YtnjjkomopkgidaaGreatDoorNames1
import Derived.Test.YtnjjkomopkgidaaGreatDoorNames2
import Derived.Test.YtnjjkomopkgidaaGreatDoorNames3
import Derived.Test.YtnjjkomopkgidaaGreatDoorNames4
namespace Go.Proofs.YtnjjkomopkgidaaGreatDoor.Av
set_option linter.unusedVariables false
set_option linter.unusedSimpArgs false
set_option maxRecDepth 1000000
open Go
theorem rem_Names_10 (n : Nat) : Int.tmod (Int.ofNat n) 10 = Int.ofNat (n % 10) := Eq.trans (Eq.refl _) rfl
theorem rem0_Names_10 : eqI 10 (Int.ofNat 0) = false := Eq.trans (Eq.refl _) rfl
theorem good_Names_0 : ∀ r1 : Nat, r1 < 10 → Good_Names 0 r1
  | 0, _ => names_0_0
  | 1, _ => names_0_1
  | 2, _ => names_0_2
  | 3, _ => names_0_3
  | 4, _ => names_0_4
  | 5, _ => names_0_5
  | 6, _ => names_0_6
  | 7, _ => names_0_7
  | 8, _ => names_0_8
  | 9, _ => names_0_9
  | r + 10, h => absurd h (by omega)
theorem good_Names_1 : ∀ r1 : Nat, r1 < 10 → Good_Names 1 r1
  | 0, _ => names_1_0
  | 1, _ => names_1_1
  | 2, _ => names_1_2
  | 3, _ => names_1_3
  | 4, _ => names_1_4
  | 5, _ => names_1_5
  | 6, _ => names_1_6
  | 7, _ => names_1_7
  | 8, _ => names_1_8
  | 9, _ => names_1_9
  | r + 10, h => absurd h (by omega)
theorem good_Names_2 : ∀ r1 : Nat, r1 < 10 → Good_Names 2 r1
  | 0, _ => names_2_0
  | 1, _ => names_2_1
  | 2, _ => names_2_2
  | 3, _ => names_2_3
  | 4, _ => names_2_4
  | 5, _ => names_2_5
  | 6, _ => names_2_6
  | 7, _ => names_2_7
  | 8, _ => names_2_8
  | 9, _ => names_2_9
  | r + 10, h => absurd h (by omega)
theorem good_Names_3 : ∀ r1 : Nat, r1 < 10 → Good_Names 3 r1
  | 0, _ => names_3_0
  | 1, _ => names_3_1
  | 2, _ => names_3_2
  | 3, _ => names_3_3
  | 4, _ => names_3_4
  | 5, _ => names_3_5
  | 6, _ => names_3_6
  | 7, _ => names_3_7
  | 8, _ => names_3_8
  | 9, _ => names_3_9
  | r + 10, h => absurd h (by omega)
theorem good_Names_4 : ∀ r1 : Nat, r1 < 10 → Good_Names 4 r1
  | 0, _ => names_4_0
  | 1, _ => names_4_1
  | 2, _ => names_4_2
  | 3, _ => names_4_3
  | 4, _ => names_4_4
  | 5, _ => names_4_5
  | 6, _ => names_4_6
  | 7, _ => names_4_7
  | 8, _ => names_4_8
  | 9, _ => names_4_9
  | r + 10, h => absurd h (by omega)
theorem good_Names_5 : ∀ r1 : Nat, r1 < 10 → Good_Names 5 r1
  | 0, _ => names_5_0
  | 1, _ => names_5_1
  | 2, _ => names_5_2
  | 3, _ => names_5_3
  | 4, _ => names_5_4
  | 5, _ => names_5_5
  | 6, _ => names_5_6
  | 7, _ => names_5_7
  | 8, _ => names_5_8
  | 9, _ => names_5_9
  | r + 10, h => absurd h (by omega)
theorem good_Names_6 : ∀ r1 : Nat, r1 < 10 → Good_Names 6 r1
  | 0, _ => names_6_0
  | 1, _ => names_6_1
  | 2, _ => names_6_2
  | 3, _ => names_6_3
  | 4, _ => names_6_4
  | 5, _ => names_6_5
  | 6, _ => names_6_6
  | 7, _ => names_6_7
  | 8, _ => names_6_8
  | 9, _ => names_6_9
  | r + 10, h => absurd h (by omega)
theorem good_Names_7 : ∀ r1 : Nat, r1 < 10 → Good_Names 7 r1
  | 0, _ => names_7_0
  | 1, _ => names_7_1
  | 2, _ => names_7_2
  | 3, _ => names_7_3
  | 4, _ => names_7_4
  | 5, _ => names_7_5
  | 6, _ => names_7_6
  | 7, _ => names_7_7
  | 8, _ => names_7_8
  | 9, _ => names_7_9
  | r + 10, h => absurd h (by omega)
theorem good_Names_8 : ∀ r1 : Nat, r1 < 10 → Good_Names 8 r1
  | 0, _ => names_8_0
  | 1, _ => names_8_1
  | 2, _ => names_8_2
  | 3, _ => names_8_3
  | 4, _ => names_8_4
  | 5, _ => names_8_5
  | 6, _ => names_8_6
  | 7, _ => names_8_7
  | 8, _ => names_8_8
  | 9, _ => names_8_9
  | r + 10, h => absurd h (by omega)
theorem good_Names_9 : ∀ r1 : Nat, r1 < 10 → Good_Names 9 r1
  | 0, _ => names_9_0
  | 1, _ => names_9_1
  | 2, _ => names_9_2
  | 3, _ => names_9_3
  | 4, _ => names_9_4
  | 5, _ => names_9_5
  | 6, _ => names_9_6
  | 7, _ => names_9_7
  | 8, _ => names_9_8
  | 9, _ => names_9_9
  | r + 10, h => absurd h (by omega)
theorem good_Names : ∀ r0 r1 : Nat, r0 < 10 → r1 < 10 → Good_Names  r0 r1
  | 0, _, _, h1 => good_Names_0 _ h1
  | 1, _, _, h1 => good_Names_1 _ h1
  | 2, _, _, h1 => good_Names_2 _ h1
  | 3, _, _, h1 => good_Names_3 _ h1
  | 4, _, _, h1 => good_Names_4 _ h1
  | 5, _, _, h1 => good_Names_5 _ h1
  | 6, _, _, h1 => good_Names_6 _ h1
  | 7, _, _, h1 => good_Names_7 _ h1
  | 8, _, _, h1 => good_Names_8 _ h1
  | 9, _, _, h1 => good_Names_9 _ h1
  | r + 10, _, h, _ => absurd h (by omega)
theorem get_Names : tableY.get 5 = some sh5 := by kernel_rfl
theorem names_ev (n0 n1 : Nat) : evF tableY 1001 5 [.int 8 (.ofNat n0), .int 8 (.ofNat n1)] st0 = some (.ret (.bool true), st0) := by
  have hx := examples10_trueY
  have hst : ({ next := 11, low := 11, mem := st0.mem } : St) = st0 := rfl
  have hn : st0.next = 11 := rfl
  have hg0 : (st0.new (.cells 9 (row_Names_0.map V.str) true)).mem.get 11 = some (.cells 9 (row_Names_0.map V.str) true) := by kernel_rfl
  rw [ev_mk get_Names]
  simp only [c5_0, c5_1, c5_2, c5_3, c5_4, c5_5, x_seq, x_reg, x_skip, x_ret, x_exit, x_cond, x_condT, x_condF, x_block, x_loop, x_nrm, x_then_ret, x_then_exit, x_out_nrm, x_out_ret, x_out_exit, x_endG, x_step0, x_stepG, x_isBT, x_isBF, Bool.not_true, Bool.not_false, x_recT, x_recF, x_mov, x_gP', x_gE', x_call, x_dyn, x_dynV, x_goR, x_put, x_put0, x_evc, x_evt, x_ats, x_evs, x_evs0, x_onInt, x_onStr, x_onBool, x_onNat, x_onPtr, x_onSlice, x_onSlice0, x_onCells, x_onTup, x_onAgg, x_beq, initT0, initT1, iInt, iStr, iLenS, iLenL, iNot, iPick, iExt, Nat.zero_add, if_true, if_false, reduceIte, Nat.reduceEqDiff, Nat.reduceAdd, reduceCtorEq, q0, q1, q4, q5, q6, q7, q8, q9, q10, q11, q12, q13, q14, q15, q16, q17, q18, q19, q20, q21, q22, q23, q24, q25, q26, q27, q28, q29, q30, q31, q32, q33, q34, q35, q36, q37, q38, q39, q40, q41, q42, q43, q44, q45, q46, q47, q48, q49, q50, q51, q52, q53, q54, q55, q56, q57, q58, q59, q60, q61, q62, q63, q64, q65, q66, q67, q68, q69, q70, q71, q72, q73, q74, q75, q76, q77, q78, q79, q80, q81, q82, q83, q84, q85, q86, q87, q88, q89, q90, q91, q92, q93, q94, q95, q96, hn, hst, hx, iBsl, fill_Names_0,  new_next, fRem, fAdd, fSub, iCvi, rem_Names_10, rem0_Names_10]
  rw [x_iad (o := 11) (b := 0) (m := 10) (c := 10) (ex := true) (k := n0 % 10) (kk := 8) (by simp only [x_seq, x_reg, x_skip, x_ret, x_exit, x_cond, x_condT, x_condF, x_block, x_loop, x_nrm, x_then_ret, x_then_exit, x_out_nrm, x_out_ret, x_out_exit, x_endG, x_step0, x_stepG, x_isBT, x_isBF, Bool.not_true, Bool.not_false, x_recT, x_recF, x_mov, x_gP', x_gE', x_call, x_dyn, x_dynV, x_goR, x_put, x_put0, x_evc, x_evt, x_ats, x_evs, x_evs0, x_onInt, x_onStr, x_onBool, x_onNat, x_onPtr, x_onSlice, x_onSlice0, x_onCells, x_onTup, x_onAgg, x_beq, initT0, initT1, iInt, iStr, iLenS, iLenL, iNot, iPick, iExt, Nat.zero_add, if_true, if_false, reduceIte, Nat.reduceEqDiff, Nat.reduceAdd, reduceCtorEq]) (by simp only [x_seq, x_reg, x_skip, x_ret, x_exit, x_cond, x_condT, x_condF, x_block, x_loop, x_nrm, x_then_ret, x_then_exit, x_out_nrm, x_out_ret, x_out_exit, x_endG, x_step0, x_stepG, x_isBT, x_isBF, Bool.not_true, Bool.not_false, x_recT, x_recF, x_mov, x_gP', x_gE', x_call, x_dyn, x_dynV, x_goR, x_put, x_put0, x_evc, x_evt, x_ats, x_evs, x_evs0, x_onInt, x_onStr, x_onBool, x_onNat, x_onPtr, x_onSlice, x_onSlice0, x_onCells, x_onTup, x_onAgg, x_beq, initT0, initT1, iInt, iStr, iLenS, iLenL, iNot, iPick, iExt, Nat.zero_add, if_true, if_false, reduceIte, Nat.reduceEqDiff, Nat.reduceAdd, reduceCtorEq]) (by omega)]
  simp only [x_seq, x_reg, x_skip, x_ret, x_exit, x_cond, x_condT, x_condF, x_block, x_loop, x_nrm, x_then_ret, x_then_exit, x_out_nrm, x_out_ret, x_out_exit, x_endG, x_step0, x_stepG, x_isBT, x_isBF, Bool.not_true, Bool.not_false, x_recT, x_recF, x_mov, x_gP', x_gE', x_call, x_dyn, x_dynV, x_goR, x_put, x_put0, x_evc, x_evt, x_ats, x_evs, x_evs0, x_onInt, x_onStr, x_onBool, x_onNat, x_onPtr, x_onSlice, x_onSlice0, x_onCells, x_onTup, x_onAgg, x_beq, initT0, initT1, iInt, iStr, iLenS, iLenL, iNot, iPick, iExt, Nat.zero_add, if_true, if_false, reduceIte, Nat.reduceEqDiff, Nat.reduceAdd, reduceCtorEq, q0, q1, q4, q5, q6, q7, q8, q9, q10, q11, q12, q13, q14, q15, q16, q17, q18, q19, q20, q21, q22, q23, q24, q25, q26, q27, q28, q29, q30, q31, q32, q33, q34, q35, q36, q37, q38, q39, q40, q41, q42, q43, q44, q45, q46, q47, q48, q49, q50, q51, q52, q53, q54, q55, q56, q57, q58, q59, q60, q61, q62, q63, q64, q65, q66, q67, q68, q69, q70, q71, q72, q73, q74, q75, q76, q77, q78, q79, q80, q81, q82, q83, q84, q85, q86, q87, q88, q89, q90, q91, q92, q93, q94, q95, q96, Nat.mul_one]
  rw [x_load1 (o := 11) (i := n0 % 10) (by simp only [x_seq, x_reg, x_skip, x_ret, x_exit, x_cond, x_condT, x_condF, x_block, x_loop, x_nrm, x_then_ret, x_then_exit, x_out_nrm, x_out_ret, x_out_exit, x_endG, x_step0, x_stepG, x_isBT, x_isBF, Bool.not_true, Bool.not_false, x_recT, x_recF, x_mov, x_gP', x_gE', x_call, x_dyn, x_dynV, x_goR, x_put, x_put0, x_evc, x_evt, x_ats, x_evs, x_evs0, x_onInt, x_onStr, x_onBool, x_onNat, x_onPtr, x_onSlice, x_onSlice0, x_onCells, x_onTup, x_onAgg, x_beq, initT0, initT1, iInt, iStr, iLenS, iLenL, iNot, iPick, iExt, Nat.zero_add, if_true, if_false, reduceIte, Nat.reduceEqDiff, Nat.reduceAdd, reduceCtorEq]) hg0 (row_get_Names _ _ (show n0 % 10 < 10 by omega))]
  simp only [x_seq, x_reg, x_skip, x_ret, x_exit, x_cond, x_condT, x_condF, x_block, x_loop, x_nrm, x_then_ret, x_then_exit, x_out_nrm, x_out_ret, x_out_exit, x_endG, x_step0, x_stepG, x_isBT, x_isBF, Bool.not_true, Bool.not_false, x_recT, x_recF, x_mov, x_gP', x_gE', x_call, x_dyn, x_dynV, x_goR, x_put, x_put0, x_evc, x_evt, x_ats, x_evs, x_evs0, x_onInt, x_onStr, x_onBool, x_onNat, x_onPtr, x_onSlice, x_onSlice0, x_onCells, x_onTup, x_onAgg, x_beq, initT0, initT1, iInt, iStr, iLenS, iLenL, iNot, iPick, iExt, Nat.zero_add, if_true, if_false, reduceIte, Nat.reduceEqDiff, Nat.reduceAdd, reduceCtorEq, q0, q1, q4, q5, q6, q7, q8, q9, q10, q11, q12, q13, q14, q15, q16, q17, q18, q19, q20, q21, q22, q23, q24, q25, q26, q27, q28, q29, q30, q31, q32, q33, q34, q35, q36, q37, q38, q39, q40, q41, q42, q43, q44, q45, q46, q47, q48, q49, q50, q51, q52, q53, q54, q55, q56, q57, q58, q59, q60, q61, q62, q63, q64, q65, q66, q67, q68, q69, q70, q71, q72, q73, q74, q75, q76, q77, q78, q79, q80, q81, q82, q83, q84, q85, q86, q87, q88, q89, q90, q91, q92, q93, q94, q95, q96]
  simp only [c5_6, x_seq, x_reg, x_skip, x_ret, x_exit, x_cond, x_condT, x_condF, x_block, x_loop, x_nrm, x_then_ret, x_then_exit, x_out_nrm, x_out_ret, x_out_exit, x_endG, x_step0, x_stepG, x_isBT, x_isBF, Bool.not_true, Bool.not_false, x_recT, x_recF, x_mov, x_gP', x_gE', x_call, x_dyn, x_dynV, x_goR, x_put, x_put0, x_evc, x_evt, x_ats, x_evs, x_evs0, x_onInt, x_onStr, x_onBool, x_onNat, x_onPtr, x_onSlice, x_onSlice0, x_onCells, x_onTup, x_onAgg, x_beq, initT0, initT1, iInt, iStr, iLenS, iLenL, iNot, iPick, iExt, Nat.zero_add, if_true, if_false, reduceIte, Nat.reduceEqDiff, Nat.reduceAdd, reduceCtorEq, q0, q1, q4, q5, q6, q7, q8, q9, q10, q11, q12, q13, q14, q15, q16, q17, q18, q19, q20, q21, q22, q23, q24, q25, q26, q27, q28, q29, q30, q31, q32, q33, q34, q35, q36, q37, q38, q39, q40, q41, q42, q43, q44, q45, q46, q47, q48, q49, q50, q51, q52, q53, q54, q55, q56, q57, q58, q59, q60, q61, q62, q63, q64, q65, q66, q67, q68, q69, q70, q71, q72, q73, q74, q75, q76, q77, q78, q79, q80, q81, q82, q83, q84, q85, q86, q87, q88, q89, q90, q91, q92, q93, q94, q95, q96, hn, hst, hx, iBsl, fill_Names_0,  new_next, fRem, fAdd, fSub, iCvi, rem_Names_10, rem0_Names_10]
  rw [x_iad (o := 11) (b := 0) (m := 10) (c := 10) (ex := true) (k := n1 % 10) (kk := 8) (by simp only [x_seq, x_reg, x_skip, x_ret, x_exit, x_cond, x_condT, x_condF, x_block, x_loop, x_nrm, x_then_ret, x_then_exit, x_out_nrm, x_out_ret, x_out_exit, x_endG, x_step0, x_stepG, x_isBT, x_isBF, Bool.not_true, Bool.not_false, x_recT, x_recF, x_mov, x_gP', x_gE', x_call, x_dyn, x_dynV, x_goR, x_put, x_put0, x_evc, x_evt, x_ats, x_evs, x_evs0, x_onInt, x_onStr, x_onBool, x_onNat, x_onPtr, x_onSlice, x_onSlice0, x_onCells, x_onTup, x_onAgg, x_beq, initT0, initT1, iInt, iStr, iLenS, iLenL, iNot, iPick, iExt, Nat.zero_add, if_true, if_false, reduceIte, Nat.reduceEqDiff, Nat.reduceAdd, reduceCtorEq]) (by simp only [x_seq, x_reg, x_skip, x_ret, x_exit, x_cond, x_condT, x_condF, x_block, x_loop, x_nrm, x_then_ret, x_then_exit, x_out_nrm, x_out_ret, x_out_exit, x_endG, x_step0, x_stepG, x_isBT, x_isBF, Bool.not_true, Bool.not_false, x_recT, x_recF, x_mov, x_gP', x_gE', x_call, x_dyn, x_dynV, x_goR, x_put, x_put0, x_evc, x_evt, x_ats, x_evs, x_evs0, x_onInt, x_onStr, x_onBool, x_onNat, x_onPtr, x_onSlice, x_onSlice0, x_onCells, x_onTup, x_onAgg, x_beq, initT0, initT1, iInt, iStr, iLenS, iLenL, iNot, iPick, iExt, Nat.zero_add, if_true, if_false, reduceIte, Nat.reduceEqDiff, Nat.reduceAdd, reduceCtorEq]) (by omega)]
  simp only [x_seq, x_reg, x_skip, x_ret, x_exit, x_cond, x_condT, x_condF, x_block, x_loop, x_nrm, x_then_ret, x_then_exit, x_out_nrm, x_out_ret, x_out_exit, x_endG, x_step0, x_stepG, x_isBT, x_isBF, Bool.not_true, Bool.not_false, x_recT, x_recF, x_mov, x_gP', x_gE', x_call, x_dyn, x_dynV, x_goR, x_put, x_put0, x_evc, x_evt, x_ats, x_evs, x_evs0, x_onInt, x_onStr, x_onBool, x_onNat, x_onPtr, x_onSlice, x_onSlice0, x_onCells, x_onTup, x_onAgg, x_beq, initT0, initT1, iInt, iStr, iLenS, iLenL, iNot, iPick, iExt, Nat.zero_add, if_true, if_false, reduceIte, Nat.reduceEqDiff, Nat.reduceAdd, reduceCtorEq, q0, q1, q4, q5, q6, q7, q8, q9, q10, q11, q12, q13, q14, q15, q16, q17, q18, q19, q20, q21, q22, q23, q24, q25, q26, q27, q28, q29, q30, q31, q32, q33, q34, q35, q36, q37, q38, q39, q40, q41, q42, q43, q44, q45, q46, q47, q48, q49, q50, q51, q52, q53, q54, q55, q56, q57, q58, q59, q60, q61, q62, q63, q64, q65, q66, q67, q68, q69, q70, q71, q72, q73, q74, q75, q76, q77, q78, q79, q80, q81, q82, q83, q84, q85, q86, q87, q88, q89, q90, q91, q92, q93, q94, q95, q96, Nat.mul_one]
  rw [x_load1 (o := 11) (i := n1 % 10) (by simp only [x_seq, x_reg, x_skip, x_ret, x_exit, x_cond, x_condT, x_condF, x_block, x_loop, x_nrm, x_then_ret, x_then_exit, x_out_nrm, x_out_ret, x_out_exit, x_endG, x_step0, x_stepG, x_isBT, x_isBF, Bool.not_true, Bool.not_false, x_recT, x_recF, x_mov, x_gP', x_gE', x_call, x_dyn, x_dynV, x_goR, x_put, x_put0, x_evc, x_evt, x_ats, x_evs, x_evs0, x_onInt, x_onStr, x_onBool, x_onNat, x_onPtr, x_onSlice, x_onSlice0, x_onCells, x_onTup, x_onAgg, x_beq, initT0, initT1, iInt, iStr, iLenS, iLenL, iNot, iPick, iExt, Nat.zero_add, if_true, if_false, reduceIte, Nat.reduceEqDiff, Nat.reduceAdd, reduceCtorEq]) hg0 (row_get_Names _ _ (show n1 % 10 < 10 by omega))]
  simp only [x_seq, x_reg, x_skip, x_ret, x_exit, x_cond, x_condT, x_condF, x_block, x_loop, x_nrm, x_then_ret, x_then_exit, x_out_nrm, x_out_ret, x_out_exit, x_endG, x_step0, x_stepG, x_isBT, x_isBF, Bool.not_true, Bool.not_false, x_recT, x_recF, x_mov, x_gP', x_gE', x_call, x_dyn, x_dynV, x_goR, x_put, x_put0, x_evc, x_evt, x_ats, x_evs, x_evs0, x_onInt, x_onStr, x_onBool, x_onNat, x_onPtr, x_onSlice, x_onSlice0, x_onCells, x_onTup, x_onAgg, x_beq, initT0, initT1, iInt, iStr, iLenS, iLenL, iNot, iPick, iExt, Nat.zero_add, if_true, if_false, reduceIte, Nat.reduceEqDiff, Nat.reduceAdd, reduceCtorEq, q0, q1, q4, q5, q6, q7, q8, q9, q10, q11, q12, q13, q14, q15, q16, q17, q18, q19, q20, q21, q22, q23, q24, q25, q26, q27, q28, q29, q30, q31, q32, q33, q34, q35, q36, q37, q38, q39, q40, q41, q42, q43, q44, q45, q46, q47, q48, q49, q50, q51, q52, q53, q54, q55, q56, q57, q58, q59, q60, q61, q62, q63, q64, q65, q66, q67, q68, q69, q70, q71, q72, q73, q74, q75, q76, q77, q78, q79, q80, q81, q82, q83, q84, q85, q86, q87, q88, q89, q90, q91, q92, q93, q94, q95, q96]
  have key := good_Names (n0 % 10) (n1 % 10) (Nat.mod_lt _ (by decide)) (Nat.mod_lt _ (by decide)) n0 n1
  unfold rest_Names tm_Names st_Names at key
  simp only [x_seq, Nat.reduceAdd] at key
  exact key
end Go.Proofs.YtnjjkomopkgidaaGreatDoor.Av
