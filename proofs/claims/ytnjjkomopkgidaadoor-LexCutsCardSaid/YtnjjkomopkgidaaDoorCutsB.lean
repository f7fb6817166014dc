/-
  LexCuts: it answers true (the loop, and the whole).
-/
import Derived.Test.YtnjjkomopkgidaaDoorCuts
namespace Go.Proofs.YtnjjkomopkgidaaDoor.Av
set_option linter.unusedVariables false
set_option linter.unusedSimpArgs false
set_option maxRecDepth 1000000
open Go

theorem all_len : ∀ (f : Nat) (l : List UInt8) (pos : Nat) (ts : List TokA), l.length < f → (allL f l pos).1 = some ts → ts.length ≤ l.length
  | 0, l, pos, ts, h, _ => by omega
  | f + 1, l, pos, ts, hf, h => by
    rcases all_cases f l with hs | ⟨u, T, c, k, v, h1, h2, h3, h4, h5⟩ | hn
    · rw [all_sp f hs] at h
      obtain rfl := Option.some.inj h
      exact Nat.zero_le _
    · have hlen := congrArg List.length h1
      rw [List.length_append, List.length_append] at hlen
      have hT := List.length_pos_iff.2 h5
      rw [h1, all_step f h2 h3 h4] at h
      cases hq : (allL f c (pos + u.length + T.length)).1 with
      | none => simp only [hq, Option.map_none] at h; exact nomatch h
      | some ts' =>
        simp only [hq, Option.map_some, Option.some.injEq] at h
        subst h
        have := all_len f c _ ts' (by omega) hq
        rw [List.length_cons]
        omega
    · rw [hn pos] at h; exact nomatch h
section
variable {call : Callee} {n : Nat} {st : St}
theorem cut_stop {tm : Tr V} {L j : Nat} {cs : List TokA} {vc : V} (hc : TokSl L st vc cs) (hj : ¬ j < cs.length) (h5 : tm.at (pa 5) = some (.bool true)) (h15 : tm.at (pa 15) = some vc) (h18 : tm.at (pa 18) = some (.int 63 (Int.ofNat j))) :
    ∃ tm', b7_0 call n tm st = some (.exit 0, tm', st) ∧ tm'.at (pa 5) = some (.bool true) := by
  have hll := tok_len hc
  have g15 := ev_at h15
  have g18 := ev_at h18
  have l1 : fLss 63 (Int.ofNat j) (Int.ofNat cs.length) = some (.bool false) := by rw [lss_ofNat, decide_eq_false hj]
  simp only [b7_0, x_seq, x_reg, x_skip, x_ret, x_exit, x_cond, x_condT, x_condF, x_block, x_loop, x_nrm, x_then_ret, x_then_exit, x_out_nrm, x_out_ret, x_out_exit, x_endG, x_step0, x_stepGT, x_stepGF, x_stepGU, x_isBT, x_isBF, Bool.not_true, Bool.not_false, x_recT, x_recF, x_mov, x_gP', x_gE', x_call, x_dyn, x_dynV, x_goR, x_put, x_put0, x_evc, x_evt, x_ats, x_evs, x_evs0, x_onInt, x_onStr, x_onBool, x_onNat, x_onPtr, x_onSlice, x_onSlice0, x_onCells, x_onTup, x_onAgg, x_beq, initT0, initT1, iInt, iStr, iLenS, iLenL, iNot, iPick, iExt, Nat.zero_add, if_true, if_false, reduceIte, Nat.reduceEqDiff, Nat.reduceAdd, reduceCtorEq, q0, q1, q2, q3, q4, q5, q6, q7, q8, q9, q10, q11, q12, q13, q14, q15, q16, q17, q18, q19, q20, q21, q22, q23, q24, q25, q26, q27, q28, q29, q30, q31, q32, q33, q34, q35, q36, q37, q38, q39, q40, q41, q42, q43, q44, q45, q46, q47, q48, q49, q50, q51, q52, q53, q54, q55, q56, q57, q58, q59, q60, q61, q62, q63, q64, q65, q66, q67, q68, q69, q70, q71, q72, q73, q74, q75, q76, q77, q78, q79, q80, q81, q82, q83, q84, q85, q86, q87, q88, q89, q90, q91, q92, q93, q94, q95, q96, q97, q98, q99, q100, q101, q102, q103, q104, q105, q106, q107, q108, q109, q110, q111, q112, q113, q114, q115, q116, q117, q118, q119, q120, q121, q122, q123, q124, q125, q126, q127, q128, q129, q130, q131, q132, q133, q134, q135, q136, q137, q138, q139, q140, q141, q142, q143, q144, q145, q146, q147, q148, q149, q150, q151, q152, q153, q154, q155, q156, q157, q158, q159, q160, q161, q162, q163, q164, q165, q166, q167, q168, q169, q170, h5, h15, h18, g15, g18, hll, l1]
  exact ⟨_, rfl, by simp only [x_seq, x_reg, x_skip, x_ret, x_exit, x_cond, x_condT, x_condF, x_block, x_loop, x_nrm, x_then_ret, x_then_exit, x_out_nrm, x_out_ret, x_out_exit, x_endG, x_step0, x_stepG, x_isBT, x_isBF, Bool.not_true, Bool.not_false, x_recT, x_recF, x_mov, x_gP', x_gE', x_call, x_dyn, x_dynV, x_goR, x_put, x_put0, x_evc, x_evt, x_ats, x_evs, x_evs0, x_onInt, x_onStr, x_onBool, x_onNat, x_onPtr, x_onSlice, x_onSlice0, x_onCells, x_onTup, x_onAgg, x_beq, initT0, initT1, iInt, iStr, iLenS, iLenL, iNot, iPick, iExt, Nat.zero_add, if_true, if_false, reduceIte, Nat.reduceEqDiff, Nat.reduceAdd, reduceCtorEq, h5]⟩
theorem cut_loop {L oa i en e1 : Nat} {x1 : Bool} {ts cs : List TokA} {vc : V} (ha : st.mem.get oa = some (.cells e1 (cellsA ts) x1)) (hc : TokSl L st vc cs) (hbig : ts.length ≤ 1000000)
    (hall : ∀ j (hj : j < cs.length), ∃ hij : i + 1 + j < ts.length, (ts[i + 1 + j]'hij).k = (cs[j]'hj).k ∧ (ts[i + 1 + j]'hij).t = (cs[j]'hj).t ∧ (ts[i + 1 + j]'hij).pos = (cs[j]'hj).pos + en ∧ (ts[i + 1 + j]'hij).pos ≤ 1000000) :
    ∀ (f j fuel : Nat) (tm : Tr V), j + f = cs.length → f < fuel → tm.at (pa 5) = some (.bool true) → tm.at (pa 7) = some (.ref 3 oa 0 ts.length ts.length false) → tm.at (pa 10) = some (.int 63 (Int.ofNat i)) → tm.at (pa 11) = some (.int 63 (Int.ofNat en)) → tm.at (pa 15) = some vc → tm.at (pa 18) = some (.int 63 (Int.ofNat j)) →
      ∃ tm', loopV fuel (b7_0 call n) tm st = some (.exit 0, tm', st) ∧ tm'.at (pa 5) = some (.bool true)
  | f, j, 0, tm, _, hf, _, _, _, _, _, _ => by omega
  | 0, j, fuel + 1, tm, hj, hf, h5, h7, h10, h11, h15, h18 => by
    obtain ⟨tm', e, e5⟩ := cut_stop (call := call) (n := n) hc (by omega) h5 h15 h18
    rw [x_loop1, e]
    exact ⟨tm', rfl, e5⟩
  | f + 1, j, fuel + 1, tm, hj, hf, h5, h7, h10, h11, h15, h18 => by
    have hj' : j < cs.length := by omega
    obtain ⟨oc, hvc, hoc⟩ := tok_at hc (List.length_pos_iff.1 (by omega))
    subst hvc
    obtain ⟨hij, a1, a2, a3, a4⟩ := hall j hj'
    obtain ⟨tm', e, e5, e7, e10, e11, e15, e18⟩ := cut_step (call := call) (n := n) ha hoc hj' hij hbig a1 a2 a3 a4 h5 h7 h10 h11 h15 h18
    rw [x_loop1, e]
    exact cut_loop ha hc hbig hall f (j + 1) fuel tm' (by omega) (by omega) e5 e7 e10 e11 e15 e18
end
set_option maxHeartbeats 8000000 in
/-- From the last question on. -/
theorem cut_tail {call : Callee} {n : Nat} {S3 st : St} {tm : Tr V} {oa i en L e1 : Nat} {x1 : Bool} {ts cs : List TokA} {vb vc : V} (h5 : tm.at (pa 5) = some (.bool true)) (h7 : tm.at (pa 7) = some (.ref 3 oa 0 ts.length ts.length false)) (h10 : tm.at (pa 10) = some (.int 63 (Int.ofNat i))) (h11 : tm.at (pa 11) = some (.int 63 (Int.ofNat en))) (h12 : tm.at (pa 12) = some vb) (h14 : tm.at (pa 14) = some (.int 63 0)) (h15 : tm.at (pa 15) = some vc) (h17 : tm.at (pa 17) = some (.int 63 0))
    (hlb : vb.onSlice none (some (V.int 63 (.ofNat 0))) (fun _ _ n _ _ => some (V.int 63 (.ofNat n))) = some (.int 63 (Int.ofNat (i + 1)))) (hlc : vc.onSlice none (some (V.int 63 (.ofNat 0))) (fun _ _ n _ _ => some (V.int 63 (.ofNat n))) = some (.int 63 (Int.ofNat cs.length)))
    (y1 : fNeq 63 0 0 = some (.bool false)) (d2 : fAdd 63 (Int.ofNat i) 1 = some (.int 63 (Int.ofNat (i + 1)))) (n1 : fNeq 63 (Int.ofNat (i + 1)) (Int.ofNat (i + 1)) = some (.bool false)) (s1 : fSub 63 (Int.ofNat ts.length) (Int.ofNat i) = some (.int 63 (Int.ofNat (ts.length - i)))) (s2 : fSub 63 (Int.ofNat (ts.length - i)) 1 = some (.int 63 (Int.ofNat cs.length))) (n2 : fNeq 63 (Int.ofNat cs.length) (Int.ofNat cs.length) = some (.bool false))
    (ha : S3.mem.get oa = some (.cells e1 (cellsA ts) x1)) (hc : TokSl L S3 vc cs) (hbig : ts.length ≤ 1000000)
    (hall : ∀ j (hj : j < cs.length), ∃ hij : i + 1 + j < ts.length, (ts[i + 1 + j]'hij).k = (cs[j]'hj).k ∧ (ts[i + 1 + j]'hij).t = (cs[j]'hj).t ∧ (ts[i + 1 + j]'hij).pos = (cs[j]'hj).pos + en ∧ (ts[i + 1 + j]'hij).pos ≤ 1000000) (hn : cs.length < n) (hlow : st.next ≤ S3.low) :
    leaveF st [.t (pa 4)] (cSeq (cSeq c7_14 c7_15) (cSeq (cSeq c7_16 c7_17) (cSeq c7_18 cRet)) call n tm S3) = some (.ret (.bool true), st) := by
  have g5 := ev_at h5
  have g7 := ev_at h7
  have g10 := ev_at h10
  have g11 := ev_at h11
  have g12 := ev_at h12
  have g14 := ev_at h14
  have g15 := ev_at h15
  have g17 := ev_at h17
  simp only [c7_14, c7_15, c7_16, c7_17, x_seq, x_reg, x_skip, x_ret, x_exit, x_cond, x_condT, x_condF, x_block, x_loop, x_nrm, x_then_ret, x_then_exit, x_out_nrm, x_out_ret, x_out_exit, x_endG, x_step0, x_stepGT, x_stepGF, x_stepGU, x_isBT, x_isBF, Bool.not_true, Bool.not_false, x_recT, x_recF, x_mov, x_gP', x_gE', x_call, x_dyn, x_dynV, x_goR, x_put, x_put0, x_evc, x_evt, x_ats, x_evs, x_evs0, x_onInt, x_onStr, x_onBool, x_onNat, x_onPtr, x_onSlice, x_onSlice0, x_onCells, x_onTup, x_onAgg, x_beq, initT0, initT1, iInt, iStr, iLenS, iLenL, iNot, iPick, iExt, Nat.zero_add, if_true, if_false, reduceIte, Nat.reduceEqDiff, Nat.reduceAdd, reduceCtorEq, q0, q1, q2, q3, q4, q5, q6, q7, q8, q9, q10, q11, q12, q13, q14, q15, q16, q17, q18, q19, q20, q21, q22, q23, q24, q25, q26, q27, q28, q29, q30, q31, q32, q33, q34, q35, q36, q37, q38, q39, q40, q41, q42, q43, q44, q45, q46, q47, q48, q49, q50, q51, q52, q53, q54, q55, q56, q57, q58, q59, q60, q61, q62, q63, q64, q65, q66, q67, q68, q69, q70, q71, q72, q73, q74, q75, q76, q77, q78, q79, q80, q81, q82, q83, q84, q85, q86, q87, q88, q89, q90, q91, q92, q93, q94, q95, q96, q97, q98, q99, q100, q101, q102, q103, q104, q105, q106, q107, q108, q109, q110, g5, g7, g10, g11, g12, g14, g15, g17, hlb, hlc, y1, d2, n1, s1, s2, n2]
  generalize hT : Tr.to (α := V) _ _ _ = TM
  obtain ⟨tm', e, e5⟩ := cut_loop (call := call) (n := n) ha hc hbig hall cs.length 0 n TM (Nat.zero_add _) hn (by rw [← hT]; simp only [x_seq, x_reg, x_skip, x_ret, x_exit, x_cond, x_condT, x_condF, x_block, x_loop, x_nrm, x_then_ret, x_then_exit, x_out_nrm, x_out_ret, x_out_exit, x_endG, x_step0, x_stepG, x_isBT, x_isBF, Bool.not_true, Bool.not_false, x_recT, x_recF, x_mov, x_gP', x_gE', x_call, x_dyn, x_dynV, x_goR, x_put, x_put0, x_evc, x_evt, x_ats, x_evs, x_evs0, x_onInt, x_onStr, x_onBool, x_onNat, x_onPtr, x_onSlice, x_onSlice0, x_onCells, x_onTup, x_onAgg, x_beq, initT0, initT1, iInt, iStr, iLenS, iLenL, iNot, iPick, iExt, Nat.zero_add, if_true, if_false, reduceIte, Nat.reduceEqDiff, Nat.reduceAdd, reduceCtorEq, h5]) (by rw [← hT]; simp only [x_seq, x_reg, x_skip, x_ret, x_exit, x_cond, x_condT, x_condF, x_block, x_loop, x_nrm, x_then_ret, x_then_exit, x_out_nrm, x_out_ret, x_out_exit, x_endG, x_step0, x_stepG, x_isBT, x_isBF, Bool.not_true, Bool.not_false, x_recT, x_recF, x_mov, x_gP', x_gE', x_call, x_dyn, x_dynV, x_goR, x_put, x_put0, x_evc, x_evt, x_ats, x_evs, x_evs0, x_onInt, x_onStr, x_onBool, x_onNat, x_onPtr, x_onSlice, x_onSlice0, x_onCells, x_onTup, x_onAgg, x_beq, initT0, initT1, iInt, iStr, iLenS, iLenL, iNot, iPick, iExt, Nat.zero_add, if_true, if_false, reduceIte, Nat.reduceEqDiff, Nat.reduceAdd, reduceCtorEq, h7]) (by rw [← hT]; simp only [x_seq, x_reg, x_skip, x_ret, x_exit, x_cond, x_condT, x_condF, x_block, x_loop, x_nrm, x_then_ret, x_then_exit, x_out_nrm, x_out_ret, x_out_exit, x_endG, x_step0, x_stepG, x_isBT, x_isBF, Bool.not_true, Bool.not_false, x_recT, x_recF, x_mov, x_gP', x_gE', x_call, x_dyn, x_dynV, x_goR, x_put, x_put0, x_evc, x_evt, x_ats, x_evs, x_evs0, x_onInt, x_onStr, x_onBool, x_onNat, x_onPtr, x_onSlice, x_onSlice0, x_onCells, x_onTup, x_onAgg, x_beq, initT0, initT1, iInt, iStr, iLenS, iLenL, iNot, iPick, iExt, Nat.zero_add, if_true, if_false, reduceIte, Nat.reduceEqDiff, Nat.reduceAdd, reduceCtorEq, h10]) (by rw [← hT]; simp only [x_seq, x_reg, x_skip, x_ret, x_exit, x_cond, x_condT, x_condF, x_block, x_loop, x_nrm, x_then_ret, x_then_exit, x_out_nrm, x_out_ret, x_out_exit, x_endG, x_step0, x_stepG, x_isBT, x_isBF, Bool.not_true, Bool.not_false, x_recT, x_recF, x_mov, x_gP', x_gE', x_call, x_dyn, x_dynV, x_goR, x_put, x_put0, x_evc, x_evt, x_ats, x_evs, x_evs0, x_onInt, x_onStr, x_onBool, x_onNat, x_onPtr, x_onSlice, x_onSlice0, x_onCells, x_onTup, x_onAgg, x_beq, initT0, initT1, iInt, iStr, iLenS, iLenL, iNot, iPick, iExt, Nat.zero_add, if_true, if_false, reduceIte, Nat.reduceEqDiff, Nat.reduceAdd, reduceCtorEq, h11]) (by rw [← hT]; simp only [x_seq, x_reg, x_skip, x_ret, x_exit, x_cond, x_condT, x_condF, x_block, x_loop, x_nrm, x_then_ret, x_then_exit, x_out_nrm, x_out_ret, x_out_exit, x_endG, x_step0, x_stepG, x_isBT, x_isBF, Bool.not_true, Bool.not_false, x_recT, x_recF, x_mov, x_gP', x_gE', x_call, x_dyn, x_dynV, x_goR, x_put, x_put0, x_evc, x_evt, x_ats, x_evs, x_evs0, x_onInt, x_onStr, x_onBool, x_onNat, x_onPtr, x_onSlice, x_onSlice0, x_onCells, x_onTup, x_onAgg, x_beq, initT0, initT1, iInt, iStr, iLenS, iLenL, iNot, iPick, iExt, Nat.zero_add, if_true, if_false, reduceIte, Nat.reduceEqDiff, Nat.reduceAdd, reduceCtorEq, h15]) (by rw [← hT]; simp only [x_seq, x_reg, x_skip, x_ret, x_exit, x_cond, x_condT, x_condF, x_block, x_loop, x_nrm, x_then_ret, x_then_exit, x_out_nrm, x_out_ret, x_out_exit, x_endG, x_step0, x_stepG, x_isBT, x_isBF, Bool.not_true, Bool.not_false, x_recT, x_recF, x_mov, x_gP', x_gE', x_call, x_dyn, x_dynV, x_goR, x_put, x_put0, x_evc, x_evt, x_ats, x_evs, x_evs0, x_onInt, x_onStr, x_onBool, x_onNat, x_onPtr, x_onSlice, x_onSlice0, x_onCells, x_onTup, x_onAgg, x_beq, initT0, initT1, iInt, iStr, iLenS, iLenL, iNot, iPick, iExt, Nat.zero_add, if_true, if_false, reduceIte, Nat.reduceEqDiff, Nat.reduceAdd, reduceCtorEq]; rfl)
  rw [e]
  have f5 := ev_at e5
  simp only [c7_18, x_seq, x_reg, x_skip, x_ret, x_exit, x_cond, x_condT, x_condF, x_block, x_loop, x_nrm, x_then_ret, x_then_exit, x_out_nrm, x_out_ret, x_out_exit, x_endG, x_step0, x_stepG, x_isBT, x_isBF, Bool.not_true, Bool.not_false, x_recT, x_recF, x_mov, x_gP', x_gE', x_call, x_dyn, x_dynV, x_goR, x_put, x_put0, x_evc, x_evt, x_ats, x_evs, x_evs0, x_onInt, x_onStr, x_onBool, x_onNat, x_onPtr, x_onSlice, x_onSlice0, x_onCells, x_onTup, x_onAgg, x_beq, initT0, initT1, iInt, iStr, iLenS, iLenL, iNot, iPick, iExt, Nat.zero_add, if_true, if_false, reduceIte, Nat.reduceEqDiff, Nat.reduceAdd, reduceCtorEq, q0, q1, q2, q3, q4, q5, q6, q7, q8, q9, q10, q11, q12, q13, q14, q15, q16, q17, q18, q19, q20, q21, q22, q23, q24, q25, q26, q27, q28, q29, q30, q31, q32, q33, q34, q35, q36, q37, q38, q39, q40, q41, q42, q43, q44, q45, q46, q47, q48, q49, q50, q51, q52, q53, q54, q55, q56, q57, q58, q59, q60, q61, q62, q63, q64, q65, q66, q67, q68, q69, q70, q71, q72, q73, q74, q75, q76, q77, q78, q79, q80, q81, q82, q83, q84, q85, q86, q87, q88, q89, q90, q91, q92, q93, q94, q95, q96, q97, q98, q99, q100, q101, q102, q103, q104, q105, q106, q107, q108, q109, q110, q111, q112, q113, q114, q115, q116, q117, q118, q119, q120, q121, q122, q123, q124, q125, q126, q127, q128, q129, q130, q131, q132, q133, q134, q135, q136, q137, q138, q139, q140, q141, q142, q143, q144, q145, q146, q147, q148, q149, q150, q151, q152, q153, q154, q155, q156, q157, q158, q159, q160, q161, q162, q163, q164, q165, q166, q167, q168, q169, q170, f5]
  exact leave_ret (v := .bool true) (by simp only [x_seq, x_reg, x_skip, x_ret, x_exit, x_cond, x_condT, x_condF, x_block, x_loop, x_nrm, x_then_ret, x_then_exit, x_out_nrm, x_out_ret, x_out_exit, x_endG, x_step0, x_stepG, x_isBT, x_isBF, Bool.not_true, Bool.not_false, x_recT, x_recF, x_mov, x_gP', x_gE', x_call, x_dyn, x_dynV, x_goR, x_put, x_put0, x_evc, x_evt, x_ats, x_evs, x_evs0, x_onInt, x_onStr, x_onBool, x_onNat, x_onPtr, x_onSlice, x_onSlice0, x_onCells, x_onTup, x_onAgg, x_beq, initT0, initT1, iInt, iStr, iLenS, iLenL, iNot, iPick, iExt, Nat.zero_add, if_true, if_false, reduceIte, Nat.reduceEqDiff, Nat.reduceAdd, reduceCtorEq]) hlow rfl
theorem TokSl.at_next {L : Nat} {st S : St} {v : V} {l : List TokA} (h : TokSl L st v l) (hg : Grew st S) (hl : l ≠ []) : ∃ o, v = .ref 3 o 0 l.length l.length false ∧ S.mem.get o = some (.cells 30 (cellsA l) true) := tok_at (h.grew hg) hl
set_option maxHeartbeats 16000000 in
/-- LexCuts answers true. -/
theorem cuts_ev {st : St} {v0 : V} {zs : List Nat} {a : Nat} (hG : 11 ≤ st.next) (hW : hasW st = true) (hrow : Row st 8 v0 zs) (hz : ∀ z ∈ zs, z < 256) (ha : a < 256) : evF tableL 1001 7 [v0, .int 8 (Int.ofNat a)] st = some (.ret (.bool true), st) := by
  rw [ev_mk get_cuts]
  have hG0 : 11 ≤ ({ next := st.next, low := st.next, mem := st.mem } : St).next := hG
  have hW0 : hasW { next := st.next, low := st.next, mem := st.mem } = true := hasW_same hW fun g _ => rfl
  have hrow0 : Row { next := st.next, low := st.next, mem := st.mem } 8 v0 zs := hrow
  have hlow0 : ({ next := st.next, low := st.next, mem := st.mem } : St).low = st.next := rfl
  have hnext0 : ({ next := st.next, low := st.next, mem := st.mem } : St).next = st.next := rfl
  generalize ({ next := st.next, low := st.next, mem := st.mem } : St) = S0 at *
  have he := exL_ev 999 S0 hW0
  obtain ⟨s, hs, ew⟩ := words_ev 999 false hrow0 hz (by decide)
  obtain ⟨va, S1, e1, g1, t1⟩ := all_ev 998 s S0 hG0 hW0 (by omega) (by omega)
  have hcut := fun ts i hi h => all_cut (s.length + 1) s 0 ts i hi (Nat.lt_succ_self _) h
  have hlenT := fun ts h => all_len (s.length + 1) s 0 ts (Nat.lt_succ_self _) h
  generalize allL (s.length + 1) s 0 = R at e1 t1 hcut hlenT
  obtain ⟨r, at1⟩ := R
  have hG1 : 11 ≤ S1.next := Nat.le_trans hG0 g1.next
  have hW1 := g1.hasW hG0 hW0
  have low1 : st.next ≤ S1.low := g1.low st.next (by rw [hlow0]; exact Nat.le_refl _) (by rw [hnext0]; exact Nat.le_refl _)
  match r, e1, t1, hcut, hlenT with
  | none, e1, t1, _, _ =>
    have e1' : evF tableL 1000 10 [.str s] S0 = some (.ret (.tup [va, .int 63 (.ofNat at1), .int 63 2]), S1) := e1
    have y1 : fNeq 63 2 0 = some (.bool true) := rfl
    have y2 : fEql 63 2 2 = some (.bool true) := rfl
    simp only [c7_0, c7_1, c7_2, c7_3, c7_4, c7_5, c7_6, c7_7, x_seq, x_reg, x_skip, x_ret, x_exit, x_cond, x_condT, x_condF, x_block, x_loop, x_nrm, x_then_ret, x_then_exit, x_out_nrm, x_out_ret, x_out_exit, x_endG, x_step0, x_stepGT, x_stepGF, x_stepGU, x_isBT, x_isBF, Bool.not_true, Bool.not_false, x_recT, x_recF, x_mov, x_gP', x_gE', x_call, x_dyn, x_dynV, x_goR, x_put, x_put0, x_evc, x_evt, x_ats, x_evs, x_evs0, x_onInt, x_onStr, x_onBool, x_onNat, x_onPtr, x_onSlice, x_onSlice0, x_onCells, x_onTup, x_onAgg, x_beq, initT0, initT1, iInt, iStr, iLenS, iLenL, iNot, iPick, iExt, Nat.zero_add, if_true, if_false, reduceIte, Nat.reduceEqDiff, Nat.reduceAdd, reduceCtorEq, q0, q1, q2, q3, q4, q5, q6, q7, q8, q9, q10, q11, q12, q13, q14, q15, q16, q17, q18, q19, q20, q21, q22, q23, q24, q25, q26, q27, q28, q29, q30, q31, q32, q33, q34, q35, q36, q37, q38, q39, q40, q41, q42, q43, q44, q45, q46, q47, q48, q49, q50, q51, q52, q53, q54, q55, q56, q57, q58, q59, q60, he, ew, e1', u_nth0, u_nth1, u_nth2, y1, y2]
    exact leave_ret (v := .bool true) (by simp only [x_seq, x_reg, x_skip, x_ret, x_exit, x_cond, x_condT, x_condF, x_block, x_loop, x_nrm, x_then_ret, x_then_exit, x_out_nrm, x_out_ret, x_out_exit, x_endG, x_step0, x_stepG, x_isBT, x_isBF, Bool.not_true, Bool.not_false, x_recT, x_recF, x_mov, x_gP', x_gE', x_call, x_dyn, x_dynV, x_goR, x_put, x_put0, x_evc, x_evt, x_ats, x_evs, x_evs0, x_onInt, x_onStr, x_onBool, x_onNat, x_onPtr, x_onSlice, x_onSlice0, x_onCells, x_onTup, x_onAgg, x_beq, initT0, initT1, iInt, iStr, iLenS, iLenL, iNot, iPick, iExt, Nat.zero_add, if_true, if_false, reduceIte, Nat.reduceEqDiff, Nat.reduceAdd, reduceCtorEq]) low1 rfl
  | some [], e1, t1, _, _ =>
    have e1' : evF tableL 1000 10 [.str s] S0 = some (.ret (.tup [va, .int 63 (.ofNat at1), .int 63 0]), S1) := e1
    have hll := tok_len t1
    have hll' : va.onSlice none (some (V.int 63 (.ofNat 0))) (fun _ _ n _ _ => some (V.int 63 (.ofNat n))) = some (.int 63 (Int.ofNat 0)) := hll
    have y1 : fNeq 63 0 0 = some (.bool false) := rfl
    have y2 : fEql 63 0 2 = some (.bool false) := rfl
    have y3 : fEql 63 (Int.ofNat 0) 0 = some (.bool true) := rfl
    simp only [c7_0, c7_1, c7_2, c7_3, c7_4, c7_5, c7_6, c7_7, x_seq, x_reg, x_skip, x_ret, x_exit, x_cond, x_condT, x_condF, x_block, x_loop, x_nrm, x_then_ret, x_then_exit, x_out_nrm, x_out_ret, x_out_exit, x_endG, x_step0, x_stepGT, x_stepGF, x_stepGU, x_isBT, x_isBF, Bool.not_true, Bool.not_false, x_recT, x_recF, x_mov, x_gP', x_gE', x_call, x_dyn, x_dynV, x_goR, x_put, x_put0, x_evc, x_evt, x_ats, x_evs, x_evs0, x_onInt, x_onStr, x_onBool, x_onNat, x_onPtr, x_onSlice, x_onSlice0, x_onCells, x_onTup, x_onAgg, x_beq, initT0, initT1, iInt, iStr, iLenS, iLenL, iNot, iPick, iExt, Nat.zero_add, if_true, if_false, reduceIte, Nat.reduceEqDiff, Nat.reduceAdd, reduceCtorEq, q0, q1, q2, q3, q4, q5, q6, q7, q8, q9, q10, q11, q12, q13, q14, q15, q16, q17, q18, q19, q20, q21, q22, q23, q24, q25, q26, q27, q28, q29, q30, q31, q32, q33, q34, q35, q36, q37, q38, q39, q40, q41, q42, q43, q44, q45, q46, q47, q48, q49, q50, q51, q52, q53, q54, q55, q56, q57, q58, q59, q60, he, ew, e1', u_nth0, u_nth1, u_nth2, y1, y2, y3, hll']
    exact leave_ret (v := .bool true) (by simp only [x_seq, x_reg, x_skip, x_ret, x_exit, x_cond, x_condT, x_condF, x_block, x_loop, x_nrm, x_then_ret, x_then_exit, x_out_nrm, x_out_ret, x_out_exit, x_endG, x_step0, x_stepG, x_isBT, x_isBF, Bool.not_true, Bool.not_false, x_recT, x_recF, x_mov, x_gP', x_gE', x_call, x_dyn, x_dynV, x_goR, x_put, x_put0, x_evc, x_evt, x_ats, x_evs, x_evs0, x_onInt, x_onStr, x_onBool, x_onNat, x_onPtr, x_onSlice, x_onSlice0, x_onCells, x_onTup, x_onAgg, x_beq, initT0, initT1, iInt, iStr, iLenS, iLenL, iNot, iPick, iExt, Nat.zero_add, if_true, if_false, reduceIte, Nat.reduceEqDiff, Nat.reduceAdd, reduceCtorEq]) low1 rfl
  | some (x0 :: ts0), e1, t1, hcut, hlenT =>
    obtain ⟨ts, hts⟩ : ∃ ts, ts = x0 :: ts0 := ⟨_, rfl⟩
    rw [← hts] at e1 t1 hcut hlenT
    have hpos : 0 < ts.length := by rw [hts]; exact Nat.succ_pos _
    clear hts
    have e1' : evF tableL 1000 10 [.str s] S0 = some (.ret (.tup [va, .int 63 (.ofNat at1), .int 63 0]), S1) := e1
    have hL := hlenT ts rfl
    have hi : a % ts.length < ts.length := Nat.mod_lt _ hpos
    have hposB : ∀ j (hj : j < ts.length), (ts[j]'hj).pos + (ts[j]'hj).t.length ≤ s.length := fun j hj => by
      obtain ⟨A, B, k1, k2, _⟩ := hcut ts j hj rfl
      rw [← k2, k1, List.length_append]; omega
    obtain ⟨A, B, k1, k2, _, ⟨g, bs, k5, k6, k7⟩, g', k8, k9⟩ := hcut ts (a % ts.length) hi rfl
    have r0 : fRem 63 (Int.ofNat a) (Int.ofNat ts.length) = some (.int 63 (Int.ofNat (a % ts.length))) := rem_ofNat 63 a ts.length (beqF (by omega))
    obtain ⟨i, hia⟩ : ∃ i, i = a % ts.length := ⟨_, rfl⟩
    simp only [← hia] at hi k2 k7 k9 r0
    rw [Nat.zero_add] at k2 k9
    have hA : A.length ≤ s.length := by rw [k1, List.length_append]; omega
    have hB : B.length ≤ s.length := by rw [k1, List.length_append]; omega
    have shA := all_shift g (A.length + 1) A 0 0 k5 (Nat.lt_succ_self _)
    rw [k6] at shA
    have shA' : (allL (A.length + 1) A 0).1 = some (bs.map fun x => x.at 0) := shA
    have hbsl : (bs.map fun x => x.at 0).length = i + 1 := by rw [List.length_map, k7]
    have shB := all_shift (B.length + 1) g' B 0 A.length (Nat.lt_succ_self _) k8
    rw [Nat.zero_add, k9] at shB
    obtain ⟨vb, S2, e2, g2, t2⟩ := all_ev 998 A S1 hG1 hW1 (by omega) (by omega)
    have hG2 : 11 ≤ S2.next := Nat.le_trans hG1 g2.next
    have hW2 := g2.hasW hG1 hW1
    obtain ⟨vc, S3, e3, g3, t3⟩ := all_ev 998 B S2 hG2 hW2 (by omega) (by omega)
    rw [shA'] at e2 t2
    generalize (bs.map fun x => x.at 0) = bs' at *
    generalize allL (A.length + 1) A 0 = RA at e2
    generalize allL (B.length + 1) B 0 = RB at e3 t3 shB
    obtain ⟨ra, pa'⟩ := RA
    obtain ⟨rb, pb'⟩ := RB
    match rb, shB, e3, t3 with
    | none, shB, _, _ => exact nomatch shB
    | some cs, shB, e3, t3 =>
    have hmap : ts.drop (i + 1) = cs.map fun x => x.at A.length := Option.some.inj shB
    have hcl : cs.length = ts.length - (i + 1) := by
      have := congrArg List.length hmap
      rw [List.length_drop, List.length_map] at this
      exact this.symm
    have e2' : evF tableL 1000 10 [.str A] S1 = some (.ret (.tup [vb, .int 63 (.ofNat pa'), .int 63 0]), S2) := e2
    have e3' : evF tableL 1000 10 [.str B] S2 = some (.ret (.tup [vc, .int 63 (.ofNat pb'), .int 63 0]), S3) := e3
    obtain ⟨oa, hva, hoa⟩ := tok_at t1 (List.length_pos_iff.1 hpos)
    subst hva
    have hoa3 : S3.mem.get oa = some (.cells 30 (cellsA ts) true) := by
      obtain ⟨o', ho', hg'⟩ := TokSl.at_next t1 (g2.trans g3) (List.length_pos_iff.1 hpos)
      injection ho' with _ ho' _ _ _ _
      rw [ho']; exact hg'
    have hlb : vb.onSlice none (some (V.int 63 (.ofNat 0))) (fun _ _ n _ _ => some (V.int 63 (.ofNat n))) = some (.int 63 (Int.ofNat (i + 1))) := (tok_len t2).trans (by rw [hbsl])
    have hlc : vc.onSlice none (some (V.int 63 (.ofNat 0))) (fun _ _ n _ _ => some (V.int 63 (.ofNat n))) = some (.int 63 (Int.ofNat cs.length)) := tok_len t3
    have hposi := hposB i hi
    have y1 : fNeq 63 0 0 = some (.bool false) := rfl
    have y3 : fEql 63 (Int.ofNat ts.length) 0 = some (.bool false) := (eql_ofNat 63 ts.length 0).trans (by rw [decide_eq_false (by omega)])
    have w1 : wrapC 63 (Int.ofNat a) = Int.ofNat a := wrap63 (by omega)
    have i1 : ∀ (tm : Tr V) (p q : Pa), X.ev tm (.t p) = .ref 3 oa 0 ts.length ts.length false → X.ev tm (.t q) = .int 63 (Int.ofNat i) → iIad 4 (.t p) (.t q) tm S1 = some (.ref 1 oa (i * 4) 0 0 false) := fun tm p q h h' => tok_iad h h' hi
    have f1 : ∀ (off : Nat) (tm : Tr V) (p : Pa), X.ev tm (.t p) = .ref 1 oa (i * 4) 0 0 false → iFad off (.t p) tm S1 = some (.ref 1 oa (i * 4 + off) 0 0 false) := fun off tm p h => tok_fad off h
    have tt1 : ∀ (tm : Tr V) (p : Pa), X.ev tm (.t p) = .ref 1 oa (i * 4 + 1) 0 0 false → iLoad false 1 (.t p) tm S1 = some (.str (ts[i]'hi).t) := fun tm p h => tok_t hoa hi h
    have pp1 : ∀ (tm : Tr V) (p : Pa), X.ev tm (.t p) = .ref 1 oa (i * 4 + 3) 0 0 false → iLoad false 1 (.t p) tm S1 = some (.int 63 (Int.ofNat (ts[i]'hi).pos)) := fun tm p h => tok_p hoa hi h
    have d1 : fAdd 63 (Int.ofNat (ts[i]'hi).pos) (Int.ofNat (ts[i]'hi).t.length) = some (.int 63 (Int.ofNat A.length)) := (add_ofNat (by omega)).trans (by rw [k2])
    have gt : fGtr 63 (Int.ofNat A.length) (Int.ofNat s.length) = some (.bool false) := by
      show some (V.bool (ltI (Int.ofNat s.length) (Int.ofNat A.length))) = _
      rw [ltI_cast, decide_eq_false (by omega)]
    have b0 : Nat.ble 0 A.length = true := bleT (Nat.zero_le _)
    have b1 : Nat.ble A.length s.length = true := bleT hA
    have b2 : Nat.ble s.length s.length = true := bleT (Nat.le_refl _)
    have x1 : dropL (takeL s A.length) 0 = A := by rw [dropL_eq, takeL_eq, List.drop_zero, k1, List.take_left]
    have x2 : dropL (takeL s s.length) A.length = B := by rw [dropL_eq, takeL_eq, List.take_length, k1, List.drop_left]
    have d2 : fAdd 63 (Int.ofNat i) 1 = some (.int 63 (Int.ofNat (i + 1))) := add_ofNat (a := i) (b := 1) (by omega)
    have n1 : fNeq 63 (Int.ofNat (i + 1)) (Int.ofNat (i + 1)) = some (.bool false) := neq_self _ _
    have s1 : fSub 63 (Int.ofNat ts.length) (Int.ofNat i) = some (.int 63 (Int.ofNat (ts.length - i))) := sub_ofNat (by omega) (by omega)
    have s2 : fSub 63 (Int.ofNat (ts.length - i)) 1 = some (.int 63 (Int.ofNat cs.length)) := (sub_ofNat (a := ts.length - i) (b := 1) (by omega) (by omega)).trans (by rw [hcl, Nat.sub_sub])
    have n2 : fNeq 63 (Int.ofNat cs.length) (Int.ofNat cs.length) = some (.bool false) := neq_self _ _
    have hall : ∀ j (hj : j < cs.length), ∃ hij : i + 1 + j < ts.length, (ts[i + 1 + j]'hij).k = (cs[j]'hj).k ∧ (ts[i + 1 + j]'hij).t = (cs[j]'hj).t ∧ (ts[i + 1 + j]'hij).pos = (cs[j]'hj).pos + A.length ∧ (ts[i + 1 + j]'hij).pos ≤ 1000000 := fun j hj => by
      have hij : i + 1 + j < ts.length := by omega
      have hp := hposB (i + 1 + j) hij
      have hq := congrArg (fun l => l[j]?) hmap
      simp only [List.getElem?_drop, List.getElem?_map, List.getElem?_eq_getElem hij, List.getElem?_eq_getElem hj, Option.map_some, Option.some.injEq] at hq
      refine ⟨hij, ?_, ?_, ?_, by omega⟩
      · rw [hq]; rfl
      · rw [hq]; rfl
      · rw [hq]; rfl
    generalize (ts[i]'hi).t = Ti at *
    generalize (ts[i]'hi).pos = Pi at *
    simp only [c7_0, c7_1, c7_2, c7_3, c7_4, c7_5, c7_6, c7_7, c7_8, x_seq, x_reg, x_skip, x_ret, x_exit, x_cond, x_condT, x_condF, x_block, x_loop, x_nrm, x_then_ret, x_then_exit, x_out_nrm, x_out_ret, x_out_exit, x_endG, x_step0, x_stepGT, x_stepGF, x_stepGU, x_isBT, x_isBF, Bool.not_true, Bool.not_false, x_recT, x_recF, x_mov, x_gP', x_gE', x_call, x_dyn, x_dynV, x_goR, x_put, x_put0, x_evc, x_evt, x_ats, x_evs, x_evs0, x_onInt, x_onStr, x_onBool, x_onNat, x_onPtr, x_onSlice, x_onSlice0, x_onCells, x_onTup, x_onAgg, x_beq, initT0, initT1, iInt, iStr, iLenS, iLenL, iNot, iPick, iExt, Nat.zero_add, if_true, if_false, reduceIte, Nat.reduceEqDiff, Nat.reduceAdd, reduceCtorEq, q0, q1, q2, q3, q4, q5, q6, q7, q8, q9, q10, q11, q12, q13, q14, q15, q16, q17, q18, q19, q20, q21, q22, q23, q24, q25, q26, q27, q28, q29, q30, q31, q32, q33, q34, q35, q36, q37, q38, q39, q40, q41, q42, q43, q44, q45, q46, q47, q48, q49, q50, q51, q52, q53, q54, q55, q56, q57, q58, q59, q60, he, ew, e1', u_nth0, u_nth1, u_nth2, y1, y3, iCvi, w1, r0]
    simp only [c7_9, c7_10, c7_11, x_seq, x_reg, x_skip, x_ret, x_exit, x_cond, x_condT, x_condF, x_block, x_loop, x_nrm, x_then_ret, x_then_exit, x_out_nrm, x_out_ret, x_out_exit, x_endG, x_step0, x_stepGT, x_stepGF, x_stepGU, x_isBT, x_isBF, Bool.not_true, Bool.not_false, x_recT, x_recF, x_mov, x_gP', x_gE', x_call, x_dyn, x_dynV, x_goR, x_put, x_put0, x_evc, x_evt, x_ats, x_evs, x_evs0, x_onInt, x_onStr, x_onBool, x_onNat, x_onPtr, x_onSlice, x_onSlice0, x_onCells, x_onTup, x_onAgg, x_beq, initT0, initT1, iInt, iStr, iLenS, iLenL, iNot, iPick, iExt, Nat.zero_add, if_true, if_false, reduceIte, Nat.reduceEqDiff, Nat.reduceAdd, reduceCtorEq, x_draw, x_endD, x_stepRT, x_stepRF, x_stepQT, x_stepQF, x_stepLT, x_stepLF, x_stepCT, x_stepCF, x_stepR0, x_stepQ0, x_stepL0, x_oneK, x_oneL, x_oneP, x_oneM, x_oneE, x_oneC2, oneR_nrm, x_pick0, x_pick1, q0, q1, q2, q3, q4, q5, q6, q7, q8, q9, q10, q11, q12, q13, q14, q15, q16, q17, q18, q19, q20, q21, q22, q23, q24, q25, q26, q27, q28, q29, q30, q31, q32, q33, q34, q35, q36, q37, q38, q39, q40, q41, q42, q43, q44, q45, q46, q47, q48, q49, q50, q51, q52, q53, q54, q55, q56, q57, q58, q59, q60, q61, q62, q63, q64, q65, q66, q67, q68, q69, q70, i1, f1, tt1, pp1, x_lenS, d1, gt]
    simp only [c7_12, c7_13, x_seq, x_reg, x_skip, x_ret, x_exit, x_cond, x_condT, x_condF, x_block, x_loop, x_nrm, x_then_ret, x_then_exit, x_out_nrm, x_out_ret, x_out_exit, x_endG, x_step0, x_stepGT, x_stepGF, x_stepGU, x_isBT, x_isBF, Bool.not_true, Bool.not_false, x_recT, x_recF, x_mov, x_gP', x_gE', x_call, x_dyn, x_dynV, x_goR, x_put, x_put0, x_evc, x_evt, x_ats, x_evs, x_evs0, x_onInt, x_onStr, x_onBool, x_onNat, x_onPtr, x_onSlice, x_onSlice0, x_onCells, x_onTup, x_onAgg, x_beq, initT0, initT1, iInt, iStr, iLenS, iLenL, iNot, iPick, iExt, Nat.zero_add, if_true, if_false, reduceIte, Nat.reduceEqDiff, Nat.reduceAdd, reduceCtorEq, q0, q1, q2, q3, q4, q5, q6, q7, q8, q9, q10, q11, q12, q13, q14, q15, q16, q17, q18, q19, q20, q21, q22, q23, q24, q25, q26, q27, q28, q29, q30, q31, q32, q33, q34, q35, q36, q37, q38, q39, q40, q41, q42, q43, q44, q45, q46, q47, q48, q49, q50, q51, q52, q53, q54, q55, q56, q57, q58, q59, q60, q61, q62, q63, q64, q65, q66, q67, q68, q69, q70, q71, q72, q73, q74, q75, q76, q77, q78, q79, q80, q81, q82, q83, q84, q85, q86, q87, q88, q89, q90, iSls, optN, x_lenS, b0, b1, b2, Bool.and_self, cond_true, x1, x2, e2', e3', u_nth0, u_nth1, u_nth2]
    generalize hT : Tr.to (α := V) _ _ _ = TM
    have q5 : TM.at (pa 5) = some (.bool true) := by rw [← hT]; simp only [x_seq, x_reg, x_skip, x_ret, x_exit, x_cond, x_condT, x_condF, x_block, x_loop, x_nrm, x_then_ret, x_then_exit, x_out_nrm, x_out_ret, x_out_exit, x_endG, x_step0, x_stepG, x_isBT, x_isBF, Bool.not_true, Bool.not_false, x_recT, x_recF, x_mov, x_gP', x_gE', x_call, x_dyn, x_dynV, x_goR, x_put, x_put0, x_evc, x_evt, x_ats, x_evs, x_evs0, x_onInt, x_onStr, x_onBool, x_onNat, x_onPtr, x_onSlice, x_onSlice0, x_onCells, x_onTup, x_onAgg, x_beq, initT0, initT1, iInt, iStr, iLenS, iLenL, iNot, iPick, iExt, Nat.zero_add, if_true, if_false, reduceIte, Nat.reduceEqDiff, Nat.reduceAdd, reduceCtorEq]
    have q7 : TM.at (pa 7) = some (.ref 3 oa 0 ts.length ts.length false) := by rw [← hT]; simp only [x_seq, x_reg, x_skip, x_ret, x_exit, x_cond, x_condT, x_condF, x_block, x_loop, x_nrm, x_then_ret, x_then_exit, x_out_nrm, x_out_ret, x_out_exit, x_endG, x_step0, x_stepG, x_isBT, x_isBF, Bool.not_true, Bool.not_false, x_recT, x_recF, x_mov, x_gP', x_gE', x_call, x_dyn, x_dynV, x_goR, x_put, x_put0, x_evc, x_evt, x_ats, x_evs, x_evs0, x_onInt, x_onStr, x_onBool, x_onNat, x_onPtr, x_onSlice, x_onSlice0, x_onCells, x_onTup, x_onAgg, x_beq, initT0, initT1, iInt, iStr, iLenS, iLenL, iNot, iPick, iExt, Nat.zero_add, if_true, if_false, reduceIte, Nat.reduceEqDiff, Nat.reduceAdd, reduceCtorEq]
    have q10 : TM.at (pa 10) = some (.int 63 (Int.ofNat i)) := by rw [← hT]; simp only [x_seq, x_reg, x_skip, x_ret, x_exit, x_cond, x_condT, x_condF, x_block, x_loop, x_nrm, x_then_ret, x_then_exit, x_out_nrm, x_out_ret, x_out_exit, x_endG, x_step0, x_stepG, x_isBT, x_isBF, Bool.not_true, Bool.not_false, x_recT, x_recF, x_mov, x_gP', x_gE', x_call, x_dyn, x_dynV, x_goR, x_put, x_put0, x_evc, x_evt, x_ats, x_evs, x_evs0, x_onInt, x_onStr, x_onBool, x_onNat, x_onPtr, x_onSlice, x_onSlice0, x_onCells, x_onTup, x_onAgg, x_beq, initT0, initT1, iInt, iStr, iLenS, iLenL, iNot, iPick, iExt, Nat.zero_add, if_true, if_false, reduceIte, Nat.reduceEqDiff, Nat.reduceAdd, reduceCtorEq]
    have q11 : TM.at (pa 11) = some (.int 63 (Int.ofNat A.length)) := by rw [← hT]; simp only [x_seq, x_reg, x_skip, x_ret, x_exit, x_cond, x_condT, x_condF, x_block, x_loop, x_nrm, x_then_ret, x_then_exit, x_out_nrm, x_out_ret, x_out_exit, x_endG, x_step0, x_stepG, x_isBT, x_isBF, Bool.not_true, Bool.not_false, x_recT, x_recF, x_mov, x_gP', x_gE', x_call, x_dyn, x_dynV, x_goR, x_put, x_put0, x_evc, x_evt, x_ats, x_evs, x_evs0, x_onInt, x_onStr, x_onBool, x_onNat, x_onPtr, x_onSlice, x_onSlice0, x_onCells, x_onTup, x_onAgg, x_beq, initT0, initT1, iInt, iStr, iLenS, iLenL, iNot, iPick, iExt, Nat.zero_add, if_true, if_false, reduceIte, Nat.reduceEqDiff, Nat.reduceAdd, reduceCtorEq]
    have q12 : TM.at (pa 12) = some vb := by rw [← hT]; simp only [x_seq, x_reg, x_skip, x_ret, x_exit, x_cond, x_condT, x_condF, x_block, x_loop, x_nrm, x_then_ret, x_then_exit, x_out_nrm, x_out_ret, x_out_exit, x_endG, x_step0, x_stepG, x_isBT, x_isBF, Bool.not_true, Bool.not_false, x_recT, x_recF, x_mov, x_gP', x_gE', x_call, x_dyn, x_dynV, x_goR, x_put, x_put0, x_evc, x_evt, x_ats, x_evs, x_evs0, x_onInt, x_onStr, x_onBool, x_onNat, x_onPtr, x_onSlice, x_onSlice0, x_onCells, x_onTup, x_onAgg, x_beq, initT0, initT1, iInt, iStr, iLenS, iLenL, iNot, iPick, iExt, Nat.zero_add, if_true, if_false, reduceIte, Nat.reduceEqDiff, Nat.reduceAdd, reduceCtorEq]
    have q14 : TM.at (pa 14) = some (.int 63 0) := by rw [← hT]; simp only [x_seq, x_reg, x_skip, x_ret, x_exit, x_cond, x_condT, x_condF, x_block, x_loop, x_nrm, x_then_ret, x_then_exit, x_out_nrm, x_out_ret, x_out_exit, x_endG, x_step0, x_stepG, x_isBT, x_isBF, Bool.not_true, Bool.not_false, x_recT, x_recF, x_mov, x_gP', x_gE', x_call, x_dyn, x_dynV, x_goR, x_put, x_put0, x_evc, x_evt, x_ats, x_evs, x_evs0, x_onInt, x_onStr, x_onBool, x_onNat, x_onPtr, x_onSlice, x_onSlice0, x_onCells, x_onTup, x_onAgg, x_beq, initT0, initT1, iInt, iStr, iLenS, iLenL, iNot, iPick, iExt, Nat.zero_add, if_true, if_false, reduceIte, Nat.reduceEqDiff, Nat.reduceAdd, reduceCtorEq]
    have q15 : TM.at (pa 15) = some vc := by rw [← hT]; simp only [x_seq, x_reg, x_skip, x_ret, x_exit, x_cond, x_condT, x_condF, x_block, x_loop, x_nrm, x_then_ret, x_then_exit, x_out_nrm, x_out_ret, x_out_exit, x_endG, x_step0, x_stepG, x_isBT, x_isBF, Bool.not_true, Bool.not_false, x_recT, x_recF, x_mov, x_gP', x_gE', x_call, x_dyn, x_dynV, x_goR, x_put, x_put0, x_evc, x_evt, x_ats, x_evs, x_evs0, x_onInt, x_onStr, x_onBool, x_onNat, x_onPtr, x_onSlice, x_onSlice0, x_onCells, x_onTup, x_onAgg, x_beq, initT0, initT1, iInt, iStr, iLenS, iLenL, iNot, iPick, iExt, Nat.zero_add, if_true, if_false, reduceIte, Nat.reduceEqDiff, Nat.reduceAdd, reduceCtorEq]
    have q17 : TM.at (pa 17) = some (.int 63 0) := by rw [← hT]; simp only [x_seq, x_reg, x_skip, x_ret, x_exit, x_cond, x_condT, x_condF, x_block, x_loop, x_nrm, x_then_ret, x_then_exit, x_out_nrm, x_out_ret, x_out_exit, x_endG, x_step0, x_stepG, x_isBT, x_isBF, Bool.not_true, Bool.not_false, x_recT, x_recF, x_mov, x_gP', x_gE', x_call, x_dyn, x_dynV, x_goR, x_put, x_put0, x_evc, x_evt, x_ats, x_evs, x_evs0, x_onInt, x_onStr, x_onBool, x_onNat, x_onPtr, x_onSlice, x_onSlice0, x_onCells, x_onTup, x_onAgg, x_beq, initT0, initT1, iInt, iStr, iLenS, iLenL, iNot, iPick, iExt, Nat.zero_add, if_true, if_false, reduceIte, Nat.reduceEqDiff, Nat.reduceAdd, reduceCtorEq]
    clear hT
    exact cut_tail (S3 := S3) (tm := TM) (n := 1000) (call := evF tableL 1000) q5 q7 q10 q11 q12 q14 q15 q17 hlb hlc y1 d2 n1 s1 s2 n2 hoa3 t3 (by omega) hall (by omega) ((g2.trans g3).low st.next low1 (by have := g1.next; omega))
end Go.Proofs.YtnjjkomopkgidaaDoor.Av
