/-
  PathTimes: WHATEVER THE INPUT, THE ABSTRACT MACHINE ANSWERS true.
-/
import Derived.Test.YtnjjkomopkgidaaGreatDoorTimes1
import Derived.Test.YtnjjkomopkgidaaGreatDoorTimes2
import Derived.Test.YtnjjkomopkgidaaGreatDoorTimes3
namespace Go.Proofs.YtnjjkomopkgidaaGreatDoor.Av
set_option linter.unusedVariables false
set_option linter.unusedSimpArgs false
set_option maxRecDepth 1000000
open Go
theorem rem_gen_Times (n m : Nat) : Int.tmod (Int.ofNat n) (Int.ofNat m) = Int.ofNat (n % m) := Eq.trans (Eq.refl _) rfl
theorem rem_Times_4 (n : Nat) : Int.tmod (Int.ofNat n) 4 = Int.ofNat (n % 4) := Eq.trans (Eq.refl _) rfl
theorem rem0_Times_4 : eqI 4 (Int.ofNat 0) = false := Eq.trans (Eq.refl _) rfl
theorem good_Times_0_0 : ∀ r2 : Nat, r2 < 4 → Good_Times 0 0 r2
  | 0, _ => times_0_0_0
  | 1, _ => times_0_0_1
  | 2, _ => times_0_0_2
  | 3, _ => times_0_0_3
  | r + 4, h => absurd h (by omega)
theorem good_Times_0_1 : ∀ r2 : Nat, r2 < 4 → Good_Times 0 1 r2
  | 0, _ => times_0_1_0
  | 1, _ => times_0_1_1
  | 2, _ => times_0_1_2
  | 3, _ => times_0_1_3
  | r + 4, h => absurd h (by omega)
theorem good_Times_0_2 : ∀ r2 : Nat, r2 < 4 → Good_Times 0 2 r2
  | 0, _ => times_0_2_0
  | 1, _ => times_0_2_1
  | 2, _ => times_0_2_2
  | 3, _ => times_0_2_3
  | r + 4, h => absurd h (by omega)
theorem good_Times_0_3 : ∀ r2 : Nat, r2 < 4 → Good_Times 0 3 r2
  | 0, _ => times_0_3_0
  | 1, _ => times_0_3_1
  | 2, _ => times_0_3_2
  | 3, _ => times_0_3_3
  | r + 4, h => absurd h (by omega)
theorem good_Times_0 : ∀ r1 r2 : Nat, r1 < 4 - 0 → r2 < 4 → Good_Times 0 r1 r2
  | 0, _, _, h2 => good_Times_0_0 _ h2
  | 1, _, _, h2 => good_Times_0_1 _ h2
  | 2, _, _, h2 => good_Times_0_2 _ h2
  | 3, _, _, h2 => good_Times_0_3 _ h2
  | r + 4, _, h, _ => absurd h (by omega)
theorem good_Times_1_0 : ∀ r2 : Nat, r2 < 4 → Good_Times 1 0 r2
  | 0, _ => times_1_0_0
  | 1, _ => times_1_0_1
  | 2, _ => times_1_0_2
  | 3, _ => times_1_0_3
  | r + 4, h => absurd h (by omega)
theorem good_Times_1_1 : ∀ r2 : Nat, r2 < 4 → Good_Times 1 1 r2
  | 0, _ => times_1_1_0
  | 1, _ => times_1_1_1
  | 2, _ => times_1_1_2
  | 3, _ => times_1_1_3
  | r + 4, h => absurd h (by omega)
theorem good_Times_1_2 : ∀ r2 : Nat, r2 < 4 → Good_Times 1 2 r2
  | 0, _ => times_1_2_0
  | 1, _ => times_1_2_1
  | 2, _ => times_1_2_2
  | 3, _ => times_1_2_3
  | r + 4, h => absurd h (by omega)
theorem good_Times_1 : ∀ r1 r2 : Nat, r1 < 4 - 1 → r2 < 4 → Good_Times 1 r1 r2
  | 0, _, _, h2 => good_Times_1_0 _ h2
  | 1, _, _, h2 => good_Times_1_1 _ h2
  | 2, _, _, h2 => good_Times_1_2 _ h2
  | r + 3, _, h, _ => absurd h (by omega)
theorem good_Times_2_0 : ∀ r2 : Nat, r2 < 4 → Good_Times 2 0 r2
  | 0, _ => times_2_0_0
  | 1, _ => times_2_0_1
  | 2, _ => times_2_0_2
  | 3, _ => times_2_0_3
  | r + 4, h => absurd h (by omega)
theorem good_Times_2_1 : ∀ r2 : Nat, r2 < 4 → Good_Times 2 1 r2
  | 0, _ => times_2_1_0
  | 1, _ => times_2_1_1
  | 2, _ => times_2_1_2
  | 3, _ => times_2_1_3
  | r + 4, h => absurd h (by omega)
theorem good_Times_2 : ∀ r1 r2 : Nat, r1 < 4 - 2 → r2 < 4 → Good_Times 2 r1 r2
  | 0, _, _, h2 => good_Times_2_0 _ h2
  | 1, _, _, h2 => good_Times_2_1 _ h2
  | r + 2, _, h, _ => absurd h (by omega)
theorem good_Times_3_0 : ∀ r2 : Nat, r2 < 4 → Good_Times 3 0 r2
  | 0, _ => times_3_0_0
  | 1, _ => times_3_0_1
  | 2, _ => times_3_0_2
  | 3, _ => times_3_0_3
  | r + 4, h => absurd h (by omega)
theorem good_Times_3 : ∀ r1 r2 : Nat, r1 < 4 - 3 → r2 < 4 → Good_Times 3 r1 r2
  | 0, _, _, h2 => good_Times_3_0 _ h2
  | r + 1, _, h, _ => absurd h (by omega)
theorem good_Times : ∀ r0 r1 r2 : Nat, r0 < 4 → r1 < 4 - r0 → r2 < 4 → Good_Times  r0 r1 r2
  | 0, _, _, _, h1, h2 => good_Times_0 _ _ h1 h2
  | 1, _, _, _, h1, h2 => good_Times_1 _ _ h1 h2
  | 2, _, _, _, h1, h2 => good_Times_2 _ _ h1 h2
  | 3, _, _, _, h1, h2 => good_Times_3 _ _ h1 h2
  | r + 4, _, _, h, _, _ => absurd h (by omega)
theorem get_Times : tableX.get 9 = some sh9 := by kernel_rfl
theorem times_ev (n0 n1 n2 : Nat) (hb1 : n1 < 256) : evF tableX 1001 9 [.int 8 (.ofNat n0), .int 8 (.ofNat n1), .int 8 (.ofNat n2)] st0 = some (.ret (.bool true), st0) := by
  have hx := examples12_true
  have hst : ({ next := 11, low := 11, mem := st0.mem } : St) = st0 := rfl
  have hn : st0.next = 11 := rfl
  have hm1 : n1 % (4 - n0 % 4) < 4 - n0 % 4 := Nat.mod_lt _ (by omega)
  have ha0 : wrapC 63 (Int.ofNat (n0 % 4)) = Int.ofNat (n0 % 4) := wrap63 (by omega)
  have ha1 : wrapC 63 (Int.add 1 (Int.ofNat (n0 % 4))) = Int.ofNat (1 + n0 % 4) := wrap63 (i := 1 + n0 % 4) (by omega)
  have ha2 : wrapC 63 (Int.ofNat n1) = Int.ofNat n1 := wrap63 (by omega)
  have ha3 : wrapC 63 (Int.sub 5 (Int.ofNat (1 + n0 % 4))) = Int.ofNat (4 - n0 % 4) := by rw [show Int.sub 5 (Int.ofNat (1 + n0 % 4)) = Int.ofNat (4 - n0 % 4) by show (5 : Int) - (Int.ofNat (1 + n0 % 4)) = _; simp only [Int.ofNat_eq_natCast]; omega]; exact wrap63 (by omega)
  have ha4 : eqI (Int.ofNat (4 - n0 % 4)) (Int.ofNat 0) = false := beqF (by omega)
  have ha5 : wrapC 63 (Int.add (Int.ofNat (1 + n0 % 4)) (Int.ofNat (n1 % (4 - n0 % 4)))) = Int.ofNat (1 + n0 % 4 + n1 % (4 - n0 % 4)) := wrap63 (i := 1 + n0 % 4 + n1 % (4 - n0 % 4)) (by omega)
  have ha6 : wrapC 63 (Int.ofNat (n2 % 4)) = Int.ofNat (n2 % 4) := wrap63 (by omega)
  rw [ev_mk get_Times]
  simp only [c9_0, c9_1, c9_2, c9_3, c9_4, c9_5, c9_6, x_seq, x_reg, x_skip, x_ret, x_exit, x_cond, x_condT, x_condF, x_block, x_loop, x_nrm, x_then_ret, x_then_exit, x_out_nrm, x_out_ret, x_out_exit, x_endG, x_step0, x_stepG, x_isBT, x_isBF, Bool.not_true, Bool.not_false, x_recT, x_recF, x_mov, x_gP', x_gE', x_call, x_dyn, x_dynV, x_goR, x_put, x_put0, x_evc, x_evt, x_ats, x_evs, x_evs0, x_onInt, x_onStr, x_onBool, x_onNat, x_onPtr, x_onSlice, x_onSlice0, x_onCells, x_onTup, x_onAgg, x_beq, initT0, initT1, iInt, iStr, iLenS, iLenL, iNot, iPick, iExt, Nat.zero_add, if_true, if_false, reduceIte, Nat.reduceEqDiff, Nat.reduceAdd, reduceCtorEq, q0, q1, q2, q6, q7, q8, q9, q10, q11, q12, q13, q14, q15, q16, q17, q18, q19, q20, q21, q22, q23, q24, q25, q26, q27, q28, q29, q30, q31, q32, q33, q34, q35, q36, q37, q38, q39, q40, q41, q42, q43, q44, q45, q46, q47, q48, q49, q50, q51, q52, q53, q54, q55, q56, q57, q58, q59, q60, q61, q62, q63, q64, q65, q66, q67, q68, q69, q70, q71, q72, q73, q74, q75, q76, q77, q78, q79, q80, q81, q82, q83, q84, q85, q86, q87, q88, q89, q90, q91, q92, q93, q94, q95, q96, q97, q98, q99, q100, q101, q102, q103, q104, q105, q106, q107, q108, q109, q110, q111, q112, q113, q114, q115, q116, q117, q118, q119, q120, q121, q122, q123, q124, q125, q126, q127, q128, q129, q130, q131, q132, q133, q134, q135, q136, q137, q138, q139, q140, q141, q142, q143, q144, q145, q146, q147, q148, q149, q150, q151, q152, q153, q154, q155, q156, q157, q158, q159, q160, q161, q162, q163, q164, q165, q166, q167, q168, q169, q170, q171, q172, q173, q174, q175, q176, hn, hst, hx, iBsl,  new_next, fRem, fAdd, fSub, iCvi, rem_Times_4, ha0, ha1, ha2, ha3, ha4, rem_gen_Times, ha5, ha6, rem0_Times_4]
  have key := good_Times (n0 % 4) (n1 % (4 - n0 % 4)) (n2 % 4) (Nat.mod_lt _ (by decide)) hm1 (Nat.mod_lt _ (by decide)) n0 n1 n2
  unfold rest_Times tm_Times st_Times at key
  simp only [x_seq, Nat.reduceAdd] at key
  exact key
end Go.Proofs.YtnjjkomopkgidaaGreatDoor.Av
