/-
  ParseItems: WHATEVER THE INPUT, THE ABSTRACT MACHINE ANSWERS true.
-/
import Derived.Test.YtnjjkomopkgidaaGreatDoorItems1
import Derived.Test.YtnjjkomopkgidaaGreatDoorItems2
import Derived.Test.YtnjjkomopkgidaaGreatDoorItems3
namespace Go.Proofs.YtnjjkomopkgidaaGreatDoor.Av
set_option linter.unusedVariables false
set_option linter.unusedSimpArgs false
set_option maxRecDepth 1000000
open Go
theorem rem_Items_20 (n : Nat) : Int.tmod (Int.ofNat n) 20 = Int.ofNat (n % 20) := Eq.trans (Eq.refl _) rfl
theorem rem0_Items_20 : eqI 20 (Int.ofNat 0) = false := Eq.trans (Eq.refl _) rfl
theorem good_Items : ∀ r0 : Nat, r0 < 20 → Good_Items r0
  | 0, _ => items_0
  | 1, _ => items_1
  | 2, _ => items_2
  | 3, _ => items_3
  | 4, _ => items_4
  | 5, _ => items_5
  | 6, _ => items_6
  | 7, _ => items_7
  | 8, _ => items_8
  | 9, _ => items_9
  | 10, _ => items_10
  | 11, _ => items_11
  | 12, _ => items_12
  | 13, _ => items_13
  | 14, _ => items_14
  | 15, _ => items_15
  | 16, _ => items_16
  | 17, _ => items_17
  | 18, _ => items_18
  | 19, _ => items_19
  | r + 20, h => absurd h (by omega)
theorem get_Items : tableX.get 3 = some sh3 := by kernel_rfl
theorem items_ev (n0 : Nat) : evF tableX 1001 3 [.int 8 (.ofNat n0)] st0 = some (.ret (.bool true), st0) := by
  have hx := examples10_true
  have hst : ({ next := 11, low := 11, mem := st0.mem } : St) = st0 := rfl
  have hn : st0.next = 11 := rfl
  have ha0 : wrapC 63 (Int.ofNat (n0 % 20)) = Int.ofNat (n0 % 20) := wrap63 (by omega)
  have ha1 : wrapC 63 (Int.add 1 (Int.ofNat (n0 % 20))) = Int.ofNat (1 + n0 % 20) := wrap63 (i := 1 + n0 % 20) (by omega)
  rw [ev_mk get_Items]
  simp only [c3_0, c3_1, c3_2, c3_3, c3_4, x_seq, x_reg, x_skip, x_ret, x_exit, x_cond, x_condT, x_condF, x_block, x_loop, x_nrm, x_then_ret, x_then_exit, x_out_nrm, x_out_ret, x_out_exit, x_endG, x_step0, x_stepG, x_isBT, x_isBF, Bool.not_true, Bool.not_false, x_recT, x_recF, x_mov, x_gP', x_gE', x_call, x_dyn, x_dynV, x_goR, x_put, x_put0, x_evc, x_evt, x_ats, x_evs, x_evs0, x_onInt, x_onStr, x_onBool, x_onNat, x_onPtr, x_onSlice, x_onSlice0, x_onCells, x_onTup, x_onAgg, x_beq, initT0, initT1, iInt, iStr, iLenS, iLenL, iNot, iPick, iExt, Nat.zero_add, if_true, if_false, reduceIte, Nat.reduceEqDiff, Nat.reduceAdd, reduceCtorEq, q0, q2, q3, q4, q5, q6, q7, q8, q9, q10, q11, q12, q13, q14, q15, q16, q17, q18, q19, q20, q21, q22, q23, q24, q25, q26, q27, q28, q29, q30, q31, q32, q33, q34, q35, q36, q37, q38, q39, q40, q41, q42, q43, q44, q45, q46, q47, q48, q49, q50, q51, q52, q53, q54, q55, q56, q57, q58, q59, q60, q61, q62, q63, q64, q65, q66, q67, q68, q69, q70, q71, q72, q73, q74, q75, q76, q77, q78, q79, q80, q81, q82, q83, q84, q85, q86, q87, q88, q89, q90, q91, q92, q93, q94, q95, q96, q97, q98, q99, hn, hst, hx, iBsl,  new_next, fRem, fAdd, fSub, iCvi, rem_Items_20, ha0, ha1, rem0_Items_20]
  have key := good_Items (n0 % 20) (Nat.mod_lt _ (by decide)) n0
  unfold rest_Items tm_Items st_Items at key
  simp only [x_seq, Nat.reduceAdd] at key
  exact key
end Go.Proofs.YtnjjkomopkgidaaGreatDoor.Av
