/-
  ParseLevels: WHATEVER THE INPUT, THE ABSTRACT MACHINE ANSWERS true.
-/
import Derived.Test.YtnjjkomopkgidaaGreatDoorLevels1
import Derived.Test.YtnjjkomopkgidaaGreatDoorLevels2
import Derived.Test.YtnjjkomopkgidaaGreatDoorLevels3
import Derived.Test.YtnjjkomopkgidaaGreatDoorLevels4
import Derived.Test.YtnjjkomopkgidaaGreatDoorLevels5
import Derived.Test.YtnjjkomopkgidaaGreatDoorLevels6
import Derived.Test.YtnjjkomopkgidaaGreatDoorLevels7
import Derived.Test.YtnjjkomopkgidaaGreatDoorLevels8
namespace Go.Proofs.YtnjjkomopkgidaaGreatDoor.Av
set_option linter.unusedVariables false
set_option linter.unusedSimpArgs false
set_option maxRecDepth 1000000
open Go
theorem rem_Levels_13 (n : Nat) : Int.tmod (Int.ofNat n) 13 = Int.ofNat (n % 13) := Eq.trans (Eq.refl _) rfl
theorem rem0_Levels_13 : eqI 13 (Int.ofNat 0) = false := Eq.trans (Eq.refl _) rfl
theorem good_Levels_0 : ∀ r1 : Nat, r1 < 13 → Good_Levels 0 r1
  | 0, _ => levels_0_0
  | 1, _ => levels_0_1
  | 2, _ => levels_0_2
  | 3, _ => levels_0_3
  | 4, _ => levels_0_4
  | 5, _ => levels_0_5
  | 6, _ => levels_0_6
  | 7, _ => levels_0_7
  | 8, _ => levels_0_8
  | 9, _ => levels_0_9
  | 10, _ => levels_0_10
  | 11, _ => levels_0_11
  | 12, _ => levels_0_12
  | r + 13, h => absurd h (by omega)
theorem good_Levels_1 : ∀ r1 : Nat, r1 < 13 → Good_Levels 1 r1
  | 0, _ => levels_1_0
  | 1, _ => levels_1_1
  | 2, _ => levels_1_2
  | 3, _ => levels_1_3
  | 4, _ => levels_1_4
  | 5, _ => levels_1_5
  | 6, _ => levels_1_6
  | 7, _ => levels_1_7
  | 8, _ => levels_1_8
  | 9, _ => levels_1_9
  | 10, _ => levels_1_10
  | 11, _ => levels_1_11
  | 12, _ => levels_1_12
  | r + 13, h => absurd h (by omega)
theorem good_Levels_2 : ∀ r1 : Nat, r1 < 13 → Good_Levels 2 r1
  | 0, _ => levels_2_0
  | 1, _ => levels_2_1
  | 2, _ => levels_2_2
  | 3, _ => levels_2_3
  | 4, _ => levels_2_4
  | 5, _ => levels_2_5
  | 6, _ => levels_2_6
  | 7, _ => levels_2_7
  | 8, _ => levels_2_8
  | 9, _ => levels_2_9
  | 10, _ => levels_2_10
  | 11, _ => levels_2_11
  | 12, _ => levels_2_12
  | r + 13, h => absurd h (by omega)
theorem good_Levels_3 : ∀ r1 : Nat, r1 < 13 → Good_Levels 3 r1
  | 0, _ => levels_3_0
  | 1, _ => levels_3_1
  | 2, _ => levels_3_2
  | 3, _ => levels_3_3
  | 4, _ => levels_3_4
  | 5, _ => levels_3_5
  | 6, _ => levels_3_6
  | 7, _ => levels_3_7
  | 8, _ => levels_3_8
  | 9, _ => levels_3_9
  | 10, _ => levels_3_10
  | 11, _ => levels_3_11
  | 12, _ => levels_3_12
  | r + 13, h => absurd h (by omega)
theorem good_Levels_4 : ∀ r1 : Nat, r1 < 13 → Good_Levels 4 r1
  | 0, _ => levels_4_0
  | 1, _ => levels_4_1
  | 2, _ => levels_4_2
  | 3, _ => levels_4_3
  | 4, _ => levels_4_4
  | 5, _ => levels_4_5
  | 6, _ => levels_4_6
  | 7, _ => levels_4_7
  | 8, _ => levels_4_8
  | 9, _ => levels_4_9
  | 10, _ => levels_4_10
  | 11, _ => levels_4_11
  | 12, _ => levels_4_12
  | r + 13, h => absurd h (by omega)
theorem good_Levels_5 : ∀ r1 : Nat, r1 < 13 → Good_Levels 5 r1
  | 0, _ => levels_5_0
  | 1, _ => levels_5_1
  | 2, _ => levels_5_2
  | 3, _ => levels_5_3
  | 4, _ => levels_5_4
  | 5, _ => levels_5_5
  | 6, _ => levels_5_6
  | 7, _ => levels_5_7
  | 8, _ => levels_5_8
  | 9, _ => levels_5_9
  | 10, _ => levels_5_10
  | 11, _ => levels_5_11
  | 12, _ => levels_5_12
  | r + 13, h => absurd h (by omega)
theorem good_Levels_6 : ∀ r1 : Nat, r1 < 13 → Good_Levels 6 r1
  | 0, _ => levels_6_0
  | 1, _ => levels_6_1
  | 2, _ => levels_6_2
  | 3, _ => levels_6_3
  | 4, _ => levels_6_4
  | 5, _ => levels_6_5
  | 6, _ => levels_6_6
  | 7, _ => levels_6_7
  | 8, _ => levels_6_8
  | 9, _ => levels_6_9
  | 10, _ => levels_6_10
  | 11, _ => levels_6_11
  | 12, _ => levels_6_12
  | r + 13, h => absurd h (by omega)
theorem good_Levels_7 : ∀ r1 : Nat, r1 < 13 → Good_Levels 7 r1
  | 0, _ => levels_7_0
  | 1, _ => levels_7_1
  | 2, _ => levels_7_2
  | 3, _ => levels_7_3
  | 4, _ => levels_7_4
  | 5, _ => levels_7_5
  | 6, _ => levels_7_6
  | 7, _ => levels_7_7
  | 8, _ => levels_7_8
  | 9, _ => levels_7_9
  | 10, _ => levels_7_10
  | 11, _ => levels_7_11
  | 12, _ => levels_7_12
  | r + 13, h => absurd h (by omega)
theorem good_Levels_8 : ∀ r1 : Nat, r1 < 13 → Good_Levels 8 r1
  | 0, _ => levels_8_0
  | 1, _ => levels_8_1
  | 2, _ => levels_8_2
  | 3, _ => levels_8_3
  | 4, _ => levels_8_4
  | 5, _ => levels_8_5
  | 6, _ => levels_8_6
  | 7, _ => levels_8_7
  | 8, _ => levels_8_8
  | 9, _ => levels_8_9
  | 10, _ => levels_8_10
  | 11, _ => levels_8_11
  | 12, _ => levels_8_12
  | r + 13, h => absurd h (by omega)
theorem good_Levels_9 : ∀ r1 : Nat, r1 < 13 → Good_Levels 9 r1
  | 0, _ => levels_9_0
  | 1, _ => levels_9_1
  | 2, _ => levels_9_2
  | 3, _ => levels_9_3
  | 4, _ => levels_9_4
  | 5, _ => levels_9_5
  | 6, _ => levels_9_6
  | 7, _ => levels_9_7
  | 8, _ => levels_9_8
  | 9, _ => levels_9_9
  | 10, _ => levels_9_10
  | 11, _ => levels_9_11
  | 12, _ => levels_9_12
  | r + 13, h => absurd h (by omega)
theorem good_Levels_10 : ∀ r1 : Nat, r1 < 13 → Good_Levels 10 r1
  | 0, _ => levels_10_0
  | 1, _ => levels_10_1
  | 2, _ => levels_10_2
  | 3, _ => levels_10_3
  | 4, _ => levels_10_4
  | 5, _ => levels_10_5
  | 6, _ => levels_10_6
  | 7, _ => levels_10_7
  | 8, _ => levels_10_8
  | 9, _ => levels_10_9
  | 10, _ => levels_10_10
  | 11, _ => levels_10_11
  | 12, _ => levels_10_12
  | r + 13, h => absurd h (by omega)
theorem good_Levels_11 : ∀ r1 : Nat, r1 < 13 → Good_Levels 11 r1
  | 0, _ => levels_11_0
  | 1, _ => levels_11_1
  | 2, _ => levels_11_2
  | 3, _ => levels_11_3
  | 4, _ => levels_11_4
  | 5, _ => levels_11_5
  | 6, _ => levels_11_6
  | 7, _ => levels_11_7
  | 8, _ => levels_11_8
  | 9, _ => levels_11_9
  | 10, _ => levels_11_10
  | 11, _ => levels_11_11
  | 12, _ => levels_11_12
  | r + 13, h => absurd h (by omega)
theorem good_Levels_12 : ∀ r1 : Nat, r1 < 13 → Good_Levels 12 r1
  | 0, _ => levels_12_0
  | 1, _ => levels_12_1
  | 2, _ => levels_12_2
  | 3, _ => levels_12_3
  | 4, _ => levels_12_4
  | 5, _ => levels_12_5
  | 6, _ => levels_12_6
  | 7, _ => levels_12_7
  | 8, _ => levels_12_8
  | 9, _ => levels_12_9
  | 10, _ => levels_12_10
  | 11, _ => levels_12_11
  | 12, _ => levels_12_12
  | r + 13, h => absurd h (by omega)
theorem good_Levels : ∀ r0 r1 : Nat, r0 < 13 → r1 < 13 → Good_Levels  r0 r1
  | 0, _, _, h1 => good_Levels_0 _ h1
  | 1, _, _, h1 => good_Levels_1 _ h1
  | 2, _, _, h1 => good_Levels_2 _ h1
  | 3, _, _, h1 => good_Levels_3 _ h1
  | 4, _, _, h1 => good_Levels_4 _ h1
  | 5, _, _, h1 => good_Levels_5 _ h1
  | 6, _, _, h1 => good_Levels_6 _ h1
  | 7, _, _, h1 => good_Levels_7 _ h1
  | 8, _, _, h1 => good_Levels_8 _ h1
  | 9, _, _, h1 => good_Levels_9 _ h1
  | 10, _, _, h1 => good_Levels_10 _ h1
  | 11, _, _, h1 => good_Levels_11 _ h1
  | 12, _, _, h1 => good_Levels_12 _ h1
  | r + 13, _, h, _ => absurd h (by omega)
theorem get_Levels : tableX.get 7 = some sh7 := by kernel_rfl
theorem levels_ev (n0 n1 : Nat) : evF tableX 1001 7 [.int 8 (.ofNat n0), .int 8 (.ofNat n1)] st0 = some (.ret (.bool true), st0) := by
  have hx := examples10_true
  have hst : ({ next := 11, low := 11, mem := st0.mem } : St) = st0 := rfl
  have hn : st0.next = 11 := rfl
  have ha0 : wrapC 63 (Int.ofNat (n0 % 13)) = Int.ofNat (n0 % 13) := wrap63 (by omega)
  have ha1 : wrapC 63 (Int.ofNat (n1 % 13)) = Int.ofNat (n1 % 13) := wrap63 (by omega)
  have hg0 : ((st0.new (.cells 9 (row_Levels_0.map V.str) true)).new (.cells 3 row_Levels_2 true)).mem.get 11 = some (.cells 9 (row_Levels_0.map V.str) true) := by kernel_rfl
  have hg1 : ((st0.new (.cells 9 (row_Levels_0.map V.str) true)).new (.cells 3 row_Levels_2 true)).mem.get 12 = some (.cells 3 row_Levels_2 true) := by kernel_rfl
  rw [ev_mk get_Levels]
  simp only [c7_0, c7_1, c7_2, c7_3, c7_4, c7_5, c7_6, c7_7, x_seq, x_reg, x_skip, x_ret, x_exit, x_cond, x_condT, x_condF, x_block, x_loop, x_nrm, x_then_ret, x_then_exit, x_out_nrm, x_out_ret, x_out_exit, x_endG, x_step0, x_stepG, x_isBT, x_isBF, Bool.not_true, Bool.not_false, x_recT, x_recF, x_mov, x_gP', x_gE', x_call, x_dyn, x_dynV, x_goR, x_put, x_put0, x_evc, x_evt, x_ats, x_evs, x_evs0, x_onInt, x_onStr, x_onBool, x_onNat, x_onPtr, x_onSlice, x_onSlice0, x_onCells, x_onTup, x_onAgg, x_beq, initT0, initT1, iInt, iStr, iLenS, iLenL, iNot, iPick, iExt, Nat.zero_add, if_true, if_false, reduceIte, Nat.reduceEqDiff, Nat.reduceAdd, reduceCtorEq, q0, q1, q4, q5, q6, q7, q8, q9, q10, q11, q12, q13, q14, q15, q16, q17, q18, q19, q20, q21, q22, q23, q24, q25, q26, q27, q28, q29, q30, q31, q32, q33, q34, q35, q36, q37, q38, q39, q40, q41, q42, q43, q44, q45, q46, q47, q48, q49, q50, q51, q52, q53, q54, q55, q56, q57, q58, q59, q60, q61, q62, q63, q64, q65, q66, q67, q68, q69, q70, q71, q72, q73, q74, q75, q76, q77, q78, q79, q80, q81, q82, q83, q84, q85, q86, q87, q88, q89, q90, q91, q92, q93, q94, q95, q96, q97, q98, q99, q100, q101, q102, q103, q104, q105, q106, q107, q108, q109, q110, q111, q112, q113, q114, q115, q116, q117, q118, q119, q120, q121, q122, q123, q124, q125, q126, q127, q128, q129, q130, q131, q132, q133, q134, q135, q136, q137, q138, q139, q140, q141, hn, hst, hx, iBsl, fill_Levels_0, fill_Levels_2,  new_next, fRem, fAdd, fSub, iCvi, rem_Levels_13, ha0, ha1, rem0_Levels_13]
  have key := good_Levels (n0 % 13) (n1 % 13) (Nat.mod_lt _ (by decide)) (Nat.mod_lt _ (by decide)) n0 n1
  unfold rest_Levels tm_Levels st_Levels at key
  simp only [x_seq, Nat.reduceAdd] at key
  exact key
end Go.Proofs.YtnjjkomopkgidaaGreatDoor.Av
