/-
  LexAgain: its outer loop, and the loop that compares.
-/
import Derived.Test.YtnjjkomopkgidaaDoorAgain
namespace Go.Proofs.YtnjjkomopkgidaaDoor.Av
set_option linter.unusedVariables false
set_option linter.unusedSimpArgs false
set_option maxRecDepth 1000000
open Go

section
variable {call : Callee} {n : Nat} {st : St} {s : List UInt8} {oa i e1 : Nat} {ts : List TokA} {w : Bool} {v5 v8 : V}
set_option maxHeartbeats 8000000 in
theorem ag_step {tm : Tr V} {last : Nat} {acc : List UInt8} (ha : st.mem.get oa = some (.cells e1 (cellsA ts) w)) (hi : i < ts.length) (hlast : last ≤ (ts[i]'hi).pos) (hT : (ts[i]'hi).t ≠ []) (hend : (ts[i]'hi).pos + (ts[i]'hi).t.length ≤ s.length) (hs : s.length ≤ 810) (hn : 811 ≤ n) (hil : i ≤ 1000000)
    (hsl : dropL (takeL s ((ts[i]'hi).pos + (ts[i]'hi).t.length)) (ts[i]'hi).pos = (ts[i]'hi).t) (hsp : ∀ j, last ≤ j → j < (ts[i]'hi).pos → ∃ b, s[j]? = some b ∧ isSp b) (hacc : acc.length ≤ 100000)
    (h5 : tm.at (pa 5) = some v5) (h6 : tm.at (pa 6) = some (.str s)) (h7 : tm.at (pa 7) = some (.ref 3 oa 0 ts.length ts.length false)) (h8 : tm.at (pa 8) = some v8) (h10 : tm.at (pa 10) = some (.str acc)) (h11 : tm.at (pa 11) = some (.int 63 (Int.ofNat last))) (h12 : tm.at (pa 12) = some (.int 63 (Int.ofNat i))) :
    ∃ tm', b3_1 call n tm st = some (.nrm, tm', st) ∧ tm'.at (pa 5) = some v5 ∧ tm'.at (pa 6) = some (.str s) ∧ tm'.at (pa 7) = some (.ref 3 oa 0 ts.length ts.length false) ∧ tm'.at (pa 8) = some v8 ∧ tm'.at (pa 10) = some (.str (acc ++ (32 :: (ts[i]'hi).t))) ∧ tm'.at (pa 11) = some (.int 63 (Int.ofNat ((ts[i]'hi).pos + (ts[i]'hi).t.length))) ∧ tm'.at (pa 12) = some (.int 63 (Int.ofNat (i + 1))) := by
  have g5 := ev_at h5
  have g6 := ev_at h6
  have g7 := ev_at h7
  have g8 := ev_at h8
  have g10 := ev_at h10
  have g11 := ev_at h11
  have g12 := ev_at h12
  have i1 : ∀ (tm : Tr V) (p q : Pa), X.ev tm (.t p) = .ref 3 oa 0 ts.length ts.length false → X.ev tm (.t q) = .int 63 (Int.ofNat i) → iIad 4 (.t p) (.t q) tm st = some (.ref 1 oa (i * 4) 0 0 false) := fun tm p q h h' => tok_iad h h' hi
  have f1 : ∀ (off : Nat) (tm : Tr V) (p : Pa), X.ev tm (.t p) = .ref 1 oa (i * 4) 0 0 false → iFad off (.t p) tm st = some (.ref 1 oa (i * 4 + off) 0 0 false) := fun off tm p h => tok_fad off h
  have p1 : ∀ (tm : Tr V) (p : Pa), X.ev tm (.t p) = .ref 1 oa (i * 4 + 3) 0 0 false → iLoad false 1 (.t p) tm st = some (.int 63 (Int.ofNat (ts[i]'hi).pos)) := fun tm p h => tok_p ha hi h
  have t1 : ∀ (tm : Tr V) (p : Pa), X.ev tm (.t p) = .ref 1 oa (i * 4 + 1) 0 0 false → iLoad false 1 (.t p) tm st = some (.str (ts[i]'hi).t) := fun tm p h => tok_t ha hi h
  have l1 : fLss 63 (Int.ofNat i) (Int.ofNat ts.length) = some (.bool true) := by rw [lss_ofNat, decide_eq_true hi]
  have l2 : fLss 63 (Int.ofNat (ts[i]'hi).pos) (Int.ofNat last) = some (.bool false) := by rw [lss_ofNat, decide_eq_false (by omega)]
  have d1 : fAdd 63 (Int.ofNat (ts[i]'hi).pos) (Int.ofNat (ts[i]'hi).t.length) = some (.int 63 (Int.ofNat ((ts[i]'hi).pos + (ts[i]'hi).t.length))) := add_ofNat (by omega)
  have d3 : fAdd 63 (Int.ofNat i) 1 = some (.int 63 (Int.ofNat (i + 1))) := add_ofNat (a := i) (b := 1) (by omega)
  have gt : fGtr 63 (Int.ofNat ((ts[i]'hi).pos + (ts[i]'hi).t.length)) (Int.ofNat s.length) = some (.bool false) := by
    show some (V.bool (ltI (Int.ofNat s.length) (Int.ofNat ((ts[i]'hi).pos + (ts[i]'hi).t.length)))) = _
    rw [ltI_cast, decide_eq_false (by omega)]
  have b1 : Nat.ble (ts[i]'hi).pos ((ts[i]'hi).pos + (ts[i]'hi).t.length) = true := bleT (Nat.le_add_right _ _)
  have b2 : Nat.ble ((ts[i]'hi).pos + (ts[i]'hi).t.length) s.length = true := bleT hend
  have sl : ∀ (tm : Tr V) (p q r : Pa), X.ev tm (.t p) = .str s → X.ev tm (.t q) = .int 63 (Int.ofNat (ts[i]'hi).pos) → X.ev tm (.t r) = .int 63 (Int.ofNat ((ts[i]'hi).pos + (ts[i]'hi).t.length)) → iSls (.t p) (some (.t q)) (some (.t r)) tm st = some (.str (ts[i]'hi).t) := fun tm p q r h h' h'' => by
    simp only [iSls, optN, h, h', h'', x_onStr, x_onNat, x_lenS, b1, b2, Bool.and_self, cond_true, hsl]
  have se : sEql (ts[i]'hi).t [] = some (.bool false) := by unfold sEql; rw [eqS_eq, decide_eq_false hT]
  have sn := sneq_self (ts[i]'hi).t
  have hw := fun (tm : Tr V) q5 q6 q7 q8 q10 q12 q13 => sp_walk' (call := call) (n := n) (st := st) (s := s) (v5 := v5) (v8 := v8) (v10 := .str acc) ha hi (by omega) ((ts[i]'hi).pos - last) last n tm (by omega) (by omega) hsp q5 q6 q7 q8 q10 q12 q13
  have htl : (ts[i]'hi).t.length ≤ 810 := by omega
  have ad1 : sAdd acc [32] = some (.str (acc ++ [32])) := sAdd_mid (Nat.le_trans hacc (by decide)) (by decide)
  have ad2 : sAdd (acc ++ [32]) (ts[i]'hi).t = some (.str (acc ++ (32 :: (ts[i]'hi).t))) := by
    unfold sAdd
    rw [bleT (by rw [lenL_eq, lenL_eq]; show (acc ++ [32]).length + _ ≤ _; rw [List.length_append]; simp only [List.length_singleton]; omega), appL_eq, List.append_assoc]
    rfl
  generalize (ts[i]'hi).t = T at *
  generalize (ts[i]'hi).pos = PP at *
  simp only [b3_1, x_seq, x_reg, x_skip, x_ret, x_exit, x_cond, x_condT, x_condF, x_block, x_loop, x_nrm, x_then_ret, x_then_exit, x_out_nrm, x_out_ret, x_out_exit, x_endG, x_step0, x_stepGT, x_stepGF, x_stepGU, x_isBT, x_isBF, Bool.not_true, Bool.not_false, x_recT, x_recF, x_mov, x_gP', x_gE', x_call, x_dyn, x_dynV, x_goR, x_put, x_put0, x_evc, x_evt, x_ats, x_evs, x_evs0, x_onInt, x_onStr, x_onBool, x_onNat, x_onPtr, x_onSlice, x_onSlice0, x_onCells, x_onTup, x_onAgg, x_beq, initT0, initT1, iInt, iStr, iLenS, iLenL, iNot, iPick, iExt, Nat.zero_add, if_true, if_false, reduceIte, Nat.reduceEqDiff, Nat.reduceAdd, reduceCtorEq, x_draw, x_endD, x_stepRT, x_stepRF, x_stepQT, x_stepQF, x_stepLT, x_stepLF, x_stepCT, x_stepCF, x_stepR0, x_stepQ0, x_stepL0, x_oneK, x_oneL, x_oneP, x_oneM, x_oneE, x_oneC2, oneR_nrm, x_pick0, x_pick1, q0, q1, q2, q3, q4, q5, q6, q7, q8, q9, q10, q11, q12, q13, q14, q15, q16, q17, q18, q19, q20, q21, q22, q23, q24, q25, q26, q27, q28, q29, q30, q31, q32, q33, q34, q35, q36, q37, q38, q39, q40, q41, q42, q43, q44, q45, q46, q47, q48, q49, q50, q51, q52, q53, q54, q55, q56, q57, q58, q59, q60, q61, q62, q63, q64, q65, q66, q67, q68, q69, q70, q71, q72, q73, q74, q75, q76, q77, q78, q79, q80, q81, q82, q83, q84, q85, q86, q87, q88, q89, q90, q91, q92, q93, q94, q95, q96, q97, q98, q99, q100, q101, q102, q103, q104, q105, q106, q107, q108, q109, q110, q111, q112, q113, q114, q115, q116, q117, q118, q119, q120, q121, q122, q123, q124, q125, q126, q127, q128, q129, q130, q131, q132, q133, q134, q135, q136, q137, q138, q139, q140, q141, q142, q143, q144, q145, q146, q147, q148, q149, q150, q151, q152, q153, q154, q155, q156, q157, q158, q159, q160, q161, q162, q163, q164, q165, q166, q167, q168, q169, q170, h5, h6, h7, h8, h10, h11, h12, g5, g6, g7, g8, g10, g11, g12, i1, f1, p1, t1, l1, l2, d1, gt, sl, se, sn, x_lenS]
  generalize hTM : Tr.to (α := V) _ _ _ = TM
  obtain ⟨tm', e, e5, e6, e7, e8, e10, e12⟩ := hw TM (by rw [← hTM]; simp only [x_ats, x_evt, if_true, if_false, reduceIte, Nat.reduceEqDiff, reduceCtorEq, h5]) (by rw [← hTM]; simp only [x_ats, x_evt, if_true, if_false, reduceIte, Nat.reduceEqDiff, reduceCtorEq, h6]) (by rw [← hTM]; simp only [x_ats, x_evt, if_true, if_false, reduceIte, Nat.reduceEqDiff, reduceCtorEq, h7]) (by rw [← hTM]; simp only [x_ats, x_evt, if_true, if_false, reduceIte, Nat.reduceEqDiff, reduceCtorEq, h8]) (by rw [← hTM]; simp only [x_ats, x_evt, if_true, if_false, reduceIte, Nat.reduceEqDiff, reduceCtorEq, h10]) (by rw [← hTM]; simp only [x_ats, x_evt, if_true, if_false, reduceIte, Nat.reduceEqDiff, reduceCtorEq, h12]) (by rw [← hTM]; simp only [x_ats, x_evt, if_true, if_false, reduceIte, Nat.reduceEqDiff, reduceCtorEq])
  rw [e]
  clear hTM
  have k5 := ev_at e5
  have k6 := ev_at e6
  have k7 := ev_at e7
  have k8 := ev_at e8
  have k10 := ev_at e10
  have k12 := ev_at e12
  simp only [x_seq, x_reg, x_skip, x_ret, x_exit, x_cond, x_condT, x_condF, x_block, x_loop, x_nrm, x_then_ret, x_then_exit, x_out_nrm, x_out_ret, x_out_exit, x_endG, x_step0, x_stepGT, x_stepGF, x_stepGU, x_isBT, x_isBF, Bool.not_true, Bool.not_false, x_recT, x_recF, x_mov, x_gP', x_gE', x_call, x_dyn, x_dynV, x_goR, x_put, x_put0, x_evc, x_evt, x_ats, x_evs, x_evs0, x_onInt, x_onStr, x_onBool, x_onNat, x_onPtr, x_onSlice, x_onSlice0, x_onCells, x_onTup, x_onAgg, x_beq, initT0, initT1, iInt, iStr, iLenS, iLenL, iNot, iPick, iExt, Nat.zero_add, if_true, if_false, reduceIte, Nat.reduceEqDiff, Nat.reduceAdd, reduceCtorEq, x_draw, x_endD, x_stepRT, x_stepRF, x_stepQT, x_stepQF, x_stepLT, x_stepLF, x_stepCT, x_stepCF, x_stepR0, x_stepQ0, x_stepL0, x_oneK, x_oneL, x_oneP, x_oneM, x_oneE, x_oneC2, oneR_nrm, x_pick0, x_pick1, q0, q1, q2, q3, q4, q5, q6, q7, q8, q9, q10, q11, q12, q13, q14, q15, q16, q17, q18, q19, q20, q21, q22, q23, q24, q25, q26, q27, q28, q29, q30, q31, q32, q33, q34, q35, q36, q37, q38, q39, q40, q41, q42, q43, q44, q45, q46, q47, q48, q49, q50, q51, q52, q53, q54, q55, q56, q57, q58, q59, q60, q61, q62, q63, q64, q65, q66, q67, q68, q69, q70, q71, q72, q73, q74, q75, q76, q77, q78, q79, q80, q81, q82, q83, q84, q85, q86, q87, q88, q89, q90, q91, q92, q93, q94, q95, q96, q97, q98, q99, q100, q101, q102, q103, q104, q105, q106, q107, q108, q109, q110, q111, q112, q113, q114, q115, q116, q117, q118, q119, q120, q121, q122, q123, q124, q125, q126, q127, q128, q129, q130, q131, q132, q133, q134, q135, q136, q137, q138, q139, q140, q141, q142, q143, q144, q145, q146, q147, q148, q149, q150, q151, q152, q153, q154, q155, q156, q157, q158, q159, q160, q161, q162, q163, q164, q165, q166, q167, q168, q169, q170, e5, e6, e7, e8, e10, e12, k5, k6, k7, k8, k10, k12, i1, f1, p1, t1, d1, d3, ad1, ad2, x_lenS]
  exact ⟨_, rfl, by simp only [x_ats, x_evt, if_true, if_false, reduceIte, Nat.reduceEqDiff, reduceCtorEq, e5], by simp only [x_ats, x_evt, if_true, if_false, reduceIte, Nat.reduceEqDiff, reduceCtorEq, e6], by simp only [x_ats, x_evt, if_true, if_false, reduceIte, Nat.reduceEqDiff, reduceCtorEq, e7], by simp only [x_ats, x_evt, if_true, if_false, reduceIte, Nat.reduceEqDiff, reduceCtorEq, e8], by simp only [x_ats, x_evt, if_true, if_false, reduceIte, Nat.reduceEqDiff, reduceCtorEq], by simp only [x_ats, x_evt, if_true, if_false, reduceIte, Nat.reduceEqDiff, reduceCtorEq], by simp only [x_ats, x_evt, if_true, if_false, reduceIte, Nat.reduceEqDiff, reduceCtorEq]⟩
theorem ag_stop {tm : Tr V} {L : Nat} {va v10 : V} (ha : TokSl L st va ts) (hi : ¬ i < ts.length) (h5 : tm.at (pa 5) = some v5) (h6 : tm.at (pa 6) = some (.str s)) (h7 : tm.at (pa 7) = some va) (h8 : tm.at (pa 8) = some v8) (h10 : tm.at (pa 10) = some v10) (h12 : tm.at (pa 12) = some (.int 63 (Int.ofNat i))) :
    ∃ tm', b3_1 call n tm st = some (.exit 0, tm', st) ∧ tm'.at (pa 5) = some v5 ∧ tm'.at (pa 6) = some (.str s) ∧ tm'.at (pa 7) = some va ∧ tm'.at (pa 8) = some v8 ∧ tm'.at (pa 10) = some v10 := by
  have hll := tok_len ha
  have g7 := ev_at h7
  have g12 := ev_at h12
  have l1 : fLss 63 (Int.ofNat i) (Int.ofNat ts.length) = some (.bool false) := by rw [lss_ofNat, decide_eq_false hi]
  simp only [b3_1, x_seq, x_reg, x_skip, x_ret, x_exit, x_cond, x_condT, x_condF, x_block, x_loop, x_nrm, x_then_ret, x_then_exit, x_out_nrm, x_out_ret, x_out_exit, x_endG, x_step0, x_stepGT, x_stepGF, x_stepGU, x_isBT, x_isBF, Bool.not_true, Bool.not_false, x_recT, x_recF, x_mov, x_gP', x_gE', x_call, x_dyn, x_dynV, x_goR, x_put, x_put0, x_evc, x_evt, x_ats, x_evs, x_evs0, x_onInt, x_onStr, x_onBool, x_onNat, x_onPtr, x_onSlice, x_onSlice0, x_onCells, x_onTup, x_onAgg, x_beq, initT0, initT1, iInt, iStr, iLenS, iLenL, iNot, iPick, iExt, Nat.zero_add, if_true, if_false, reduceIte, Nat.reduceEqDiff, Nat.reduceAdd, reduceCtorEq, q0, q1, q2, q3, q4, q5, q6, q7, q8, q9, q10, q11, q12, q13, q14, q15, q16, q17, q18, q19, q20, q21, q22, q23, q24, q25, q26, q27, q28, q29, q30, q31, q32, q33, q34, q35, q36, q37, q38, q39, q40, q41, q42, q43, q44, q45, q46, q47, q48, q49, q50, q51, q52, q53, q54, q55, q56, q57, q58, q59, q60, q61, q62, q63, q64, q65, q66, q67, q68, q69, q70, q71, q72, q73, q74, q75, q76, q77, q78, q79, q80, q81, q82, q83, q84, q85, q86, q87, q88, q89, q90, q91, q92, q93, q94, q95, q96, q97, q98, q99, q100, q101, q102, q103, q104, q105, q106, q107, q108, q109, q110, q111, q112, q113, q114, q115, q116, q117, q118, q119, q120, q121, q122, q123, q124, q125, q126, q127, q128, q129, q130, q131, q132, q133, q134, q135, q136, q137, q138, q139, q140, q141, q142, q143, q144, q145, q146, q147, q148, q149, q150, q151, q152, q153, q154, q155, q156, q157, q158, q159, q160, q161, q162, q163, q164, q165, q166, q167, q168, q169, q170, h5, h6, h7, h8, h10, h12, g7, g12, hll, l1]
  exact ⟨_, rfl, by simp only [x_ats, x_evt, if_true, if_false, reduceIte, Nat.reduceEqDiff, reduceCtorEq, h5], by simp only [x_ats, x_evt, if_true, if_false, reduceIte, Nat.reduceEqDiff, reduceCtorEq, h6], by simp only [x_ats, x_evt, if_true, if_false, reduceIte, Nat.reduceEqDiff, reduceCtorEq, h7], by simp only [x_ats, x_evt, if_true, if_false, reduceIte, Nat.reduceEqDiff, reduceCtorEq, h8], by simp only [x_ats, x_evt, if_true, if_false, reduceIte, Nat.reduceEqDiff, reduceCtorEq, h10]⟩
theorem ag_loop {L : Nat} {va : V} (ha : TokSl L st va ts) (hs : s.length ≤ 810) (hn : 811 ≤ n) (htn : ts.length ≤ 1000) :
    ∀ (rest : List TokA) (i fuel : Nat) (pre l acc : List UInt8) (tm : Tr V), rest = ts.drop i → i + rest.length = ts.length → rest.length < fuel → s = pre ++ l → Seg l pre.length rest → acc.length + 2 * l.length ≤ 100000 → tm.at (pa 5) = some v5 → tm.at (pa 6) = some (.str s) → tm.at (pa 7) = some va → tm.at (pa 8) = some v8 → tm.at (pa 10) = some (.str acc) → tm.at (pa 11) = some (.int 63 (Int.ofNat pre.length)) → tm.at (pa 12) = some (.int 63 (Int.ofNat i)) →
      ∃ tm', loopV fuel (b3_1 call n) tm st = some (.exit 0, tm', st) ∧ tm'.at (pa 5) = some v5 ∧ tm'.at (pa 6) = some (.str s) ∧ tm'.at (pa 7) = some va ∧ tm'.at (pa 8) = some v8 ∧ tm'.at (pa 10) = some (.str (acc ++ joinA rest)) := by
  intro rest
  induction rest with
  | nil =>
    intro i fuel pre l acc tm hr hi hf hsp hseg hacc h5 h6 h7 h8 h10 h11 h12
    obtain ⟨fuel, rfl⟩ : ∃ k, fuel = k + 1 := ⟨fuel - 1, by simp at hf; omega⟩
    obtain ⟨tm', e, r⟩ := ag_stop (call := call) (n := n) (i := i) ha (by simp at hi; omega) h5 h6 h7 h8 h10 h12
    rw [x_loop1, e]
    refine ⟨tm', rfl, ?_⟩
    rw [show acc ++ joinA [] = acc from List.append_nil acc]
    exact r
  | cons x rest ih =>
    intro i fuel pre l acc tm hr hi hf hsp hseg hacc h5 h6 h7 h8 h10 h11 h12
    obtain ⟨fuel, rfl⟩ : ∃ k, fuel = k + 1 := ⟨fuel - 1, by simp at hf; omega⟩
    rw [List.length_cons] at hi hf
    have hi' : i < ts.length := by omega
    have hx : ts[i]'hi' = x ∧ rest = ts.drop (i + 1) := by
      rw [List.drop_eq_getElem_cons hi'] at hr
      injection hr with h1 h2
      exact ⟨h1.symm, h2⟩
    obtain ⟨oa, hva, hoa⟩ := tok_at ha (List.length_pos_iff.1 (by omega))
    subst hva
    obtain ⟨u, c, k1, k2, k3, k4, k5, k6⟩ := hseg
    have hlen := congrArg List.length k1
    rw [List.length_append, List.length_append] at hlen
    have hsl := congrArg List.length hsp
    rw [List.length_append] at hsl
    have hpos : x.pos = (pre ++ u).length := by rw [k5, List.length_append]
    have hs2 : s = (pre ++ u) ++ (x.t ++ c) := by rw [hsp, k1, List.append_assoc]
    have hcut : dropL (takeL s (x.pos + x.t.length)) x.pos = x.t := by
      rw [dropL_eq, takeL_eq, hpos, hs2, ← List.append_assoc, ← List.length_append, List.take_left, List.drop_left]
    have hspc : ∀ j, pre.length ≤ j → j < x.pos → ∃ b, s[j]? = some b ∧ isSp b := fun j h1 h2 => by
      have hj : j - pre.length < u.length := by rw [k5] at h2; omega
      refine ⟨u[j - pre.length]'hj, ?_, k2 _ (List.getElem_mem hj)⟩
      rw [hsp, k1, List.getElem?_append_right h1, List.getElem?_append_left hj, List.getElem?_eq_getElem hj]
    obtain ⟨tm', e, e5, e6, e7, e8, e10, e11, e12⟩ := ag_step (call := call) (n := n) (st := st) (s := s) (i := i) (v5 := v5) (v8 := v8) (last := pre.length) (acc := acc) hoa hi' (by rw [hx.1, k5]; omega) (by rw [hx.1]; exact k4) (by rw [hx.1, k5]; omega) hs hn (by omega) (by rw [hx.1]; exact hcut) (by rw [hx.1]; exact hspc) (by omega) h5 h6 h7 h8 h10 h11 h12
    rw [hx.1] at e10 e11
    rw [x_loop1, e]
    have hpl : (pre ++ (u ++ x.t)).length = x.pos + x.t.length := by rw [List.length_append, List.length_append, k5]; omega
    have hT := List.length_pos_iff.2 k4
    obtain ⟨tm2, r0, r5, r6, r7, r8, r10⟩ := ih (i + 1) fuel (pre ++ (u ++ x.t)) c (acc ++ (32 :: x.t)) tm' hx.2 (by omega) (by omega) (by rw [hsp, k1]; simp only [List.append_assoc]) (by rw [hpl, k5]; exact k6) (by rw [List.length_append, List.length_cons]; omega) e5 e6 e7 e8 e10 (by rw [hpl]; exact e11) e12
    refine ⟨tm2, r0, r5, r6, r7, r8, ?_⟩
    rw [r10, List.append_assoc]; rfl
end
end Go.Proofs.YtnjjkomopkgidaaDoor.Av
