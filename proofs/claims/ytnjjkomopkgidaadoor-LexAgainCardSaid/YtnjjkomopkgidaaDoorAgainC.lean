/-
  LexAgain: it answers true.
-/
import Derived.Test.YtnjjkomopkgidaaDoorAgainB
namespace Go.Proofs.YtnjjkomopkgidaaDoor.Av
set_option linter.unusedVariables false
set_option linter.unusedSimpArgs false
set_option maxRecDepth 1000000
open Go

theorem all_len : ∀ (f : Nat) (l : List UInt8) (pos : Nat) (ts : List TokA), l.length < f → (allL f l pos).1 = some ts → ts.length ≤ l.length
  | 0, l, pos, ts, h, _ => by omega
  | f + 1, l, pos, ts, hf, h => by
    rcases all_cases f l with hs | ⟨u, T, c, k, v, h1, h2, h3, h4, h5⟩ | hn
    · rw [all_sp f hs] at h
      obtain rfl := Option.some.inj h
      exact Nat.zero_le _
    · have hlen := congrArg List.length h1
      rw [List.length_append, List.length_append] at hlen
      have hT := List.length_pos_iff.2 h5
      rw [h1, all_step f h2 h3 h4] at h
      cases hq : (allL f c (pos + u.length + T.length)).1 with
      | none => simp only [hq, Option.map_none] at h; exact nomatch h
      | some ts' =>
        simp only [hq, Option.map_some, Option.some.injEq] at h
        subst h
        have := all_len f c _ ts' (by omega) hq
        rw [List.length_cons]
        omega
    · rw [hn pos] at h; exact nomatch h
section
variable {call : Callee} {n : Nat} {st : St} {v5 v6 v8 : V}
set_option maxHeartbeats 8000000 in
theorem cmp_step {tm : Tr V} {oa ob i : Nat} {ts bs : List TokA} {e1 e2 : Nat} {x1 x2 : Bool} (ha : st.mem.get oa = some (.cells e1 (cellsA ts) x1)) (hb : st.mem.get ob = some (.cells e2 (cellsA bs) x2)) (hi : i < ts.length) (hi' : i < bs.length) (hbig : i ≤ 1000000) (hlow : st.low ≤ st.next)
    (hk : (ts[i]'hi).k = (bs[i]'hi').k) (ht : (ts[i]'hi).t = (bs[i]'hi').t) (hv : (ts[i]'hi).v = (bs[i]'hi').v) (hcl : decide ((ts[i]'hi).k = 1) = isNameL (ts[i]'hi).t)
    (hcall : call 11 [.str (ts[i]'hi).t] st.fresh = some (.ret (.bool (isNameL (ts[i]'hi).t)), st.fresh))
    (h5 : tm.at (pa 5) = some v5) (h6 : tm.at (pa 6) = some v6) (h7 : tm.at (pa 7) = some (.ref 3 oa 0 ts.length ts.length false)) (h8 : tm.at (pa 8) = some v8) (h14 : tm.at (pa 14) = some (.ref 3 ob 0 bs.length bs.length false)) (h17 : tm.at (pa 17) = some (.int 63 (Int.ofNat i))) :
    ∃ tm', b3_2 call n tm st = some (.nrm, tm', st) ∧ tm'.at (pa 5) = some v5 ∧ tm'.at (pa 6) = some v6 ∧ tm'.at (pa 7) = some (.ref 3 oa 0 ts.length ts.length false) ∧ tm'.at (pa 8) = some v8 ∧ tm'.at (pa 14) = some (.ref 3 ob 0 bs.length bs.length false) ∧ tm'.at (pa 17) = some (.int 63 (Int.ofNat (i + 1))) := by
  have g7 := ev_at h7
  have g14 := ev_at h14
  have g17 := ev_at h17
  have l1 : fLss 63 (Int.ofNat i) (Int.ofNat ts.length) = some (.bool true) := by rw [lss_ofNat, decide_eq_true hi]
  have d3 : fAdd 63 (Int.ofNat i) 1 = some (.int 63 (Int.ofNat (i + 1))) := add_ofNat (a := i) (b := 1) (by omega)
  have i1 : ∀ (tm : Tr V) (p q : Pa), X.ev tm (.t p) = .ref 3 oa 0 ts.length ts.length false → X.ev tm (.t q) = .int 63 (Int.ofNat i) → iIad 4 (.t p) (.t q) tm st = some (.ref 1 oa (i * 4) 0 0 false) := fun tm p q h h' => tok_iad h h' hi
  have i2 : ∀ (tm : Tr V) (p q : Pa), X.ev tm (.t p) = .ref 3 ob 0 bs.length bs.length false → X.ev tm (.t q) = .int 63 (Int.ofNat i) → iIad 4 (.t p) (.t q) tm st = some (.ref 1 ob (i * 4) 0 0 false) := fun tm p q h h' => tok_iad h h' hi'
  have f1 : ∀ (off : Nat) (tm : Tr V) (p : Pa), X.ev tm (.t p) = .ref 1 oa (i * 4) 0 0 false → iFad off (.t p) tm st = some (.ref 1 oa (i * 4 + off) 0 0 false) := fun off tm p h => tok_fad off h
  have f2 : ∀ (off : Nat) (tm : Tr V) (p : Pa), X.ev tm (.t p) = .ref 1 ob (i * 4) 0 0 false → iFad off (.t p) tm st = some (.ref 1 ob (i * 4 + off) 0 0 false) := fun off tm p h => tok_fad off h
  have k1 : ∀ (tm : Tr V) (p : Pa), X.ev tm (.t p) = .ref 1 oa (i * 4 + 0) 0 0 false → iLoad false 1 (.t p) tm st = some (.int 63 (ts[i]'hi).k) := fun tm p h => tok_k ha hi h
  have k2 : ∀ (tm : Tr V) (p : Pa), X.ev tm (.t p) = .ref 1 ob (i * 4 + 0) 0 0 false → iLoad false 1 (.t p) tm st = some (.int 63 (ts[i]'hi).k) := fun tm p h => (tok_k hb hi' h).trans (by rw [hk])
  have t1 : ∀ (tm : Tr V) (p : Pa), X.ev tm (.t p) = .ref 1 oa (i * 4 + 1) 0 0 false → iLoad false 1 (.t p) tm st = some (.str (ts[i]'hi).t) := fun tm p h => tok_t ha hi h
  have t2 : ∀ (tm : Tr V) (p : Pa), X.ev tm (.t p) = .ref 1 ob (i * 4 + 1) 0 0 false → iLoad false 1 (.t p) tm st = some (.str (ts[i]'hi).t) := fun tm p h => (tok_t hb hi' h).trans (by rw [ht])
  have u1 : ∀ (tm : Tr V) (p : Pa), X.ev tm (.t p) = .ref 1 oa (i * 4 + 2) 0 0 false → iLoad false 1 (.t p) tm st = some (.int 63 (ts[i]'hi).v) := fun tm p h => tok_v ha hi h
  have u2 : ∀ (tm : Tr V) (p : Pa), X.ev tm (.t p) = .ref 1 ob (i * 4 + 2) 0 0 false → iLoad false 1 (.t p) tm st = some (.int 63 (ts[i]'hi).v) := fun tm p h => (tok_v hb hi' h).trans (by rw [hv])
  have y1 : fEql 63 (ts[i]'hi).k 1 = some (.bool (isNameL (ts[i]'hi).t)) := (eql_int 63 _ 1).trans (by rw [hcl])
  generalize (ts[i]'hi).t = T at *
  generalize (ts[i]'hi).k = K at *
  generalize (ts[i]'hi).v = N at *
  generalize isNameL T = B at *
  have n1 := neq_self 63 K
  have n2 := sneq_self T
  have n3 := neq_self 63 N
  simp only [b3_2, x_seq, x_reg, x_skip, x_ret, x_exit, x_cond, x_condT, x_condF, x_block, x_loop, x_nrm, x_then_ret, x_then_exit, x_out_nrm, x_out_ret, x_out_exit, x_endG, x_step0, x_stepGT, x_stepGF, x_stepGU, x_isBT, x_isBF, Bool.not_true, Bool.not_false, x_recT, x_recF, x_mov, x_gP', x_gE', x_call, x_dyn, x_dynV, x_goR, x_put, x_put0, x_evc, x_evt, x_ats, x_evs, x_evs0, x_onInt, x_onStr, x_onBool, x_onNat, x_onPtr, x_onSlice, x_onSlice0, x_onCells, x_onTup, x_onAgg, x_beq, initT0, initT1, iInt, iStr, iLenS, iLenL, iNot, iPick, iExt, Nat.zero_add, if_true, if_false, reduceIte, Nat.reduceEqDiff, Nat.reduceAdd, reduceCtorEq, x_draw, x_endD, x_stepRT, x_stepRF, x_stepQT, x_stepQF, x_stepLT, x_stepLF, x_stepCT, x_stepCF, x_stepR0, x_stepQ0, x_stepL0, x_oneK, x_oneL, x_oneP, x_oneM, x_oneE, x_oneC2, oneR_nrm, x_pick0, x_pick1, q0, q1, q2, q3, q4, q5, q6, q7, q8, q9, q10, q11, q12, q13, q14, q15, q16, q17, q18, q19, q20, q21, q22, q23, q24, q25, q26, q27, q28, q29, q30, q31, q32, q33, q34, q35, q36, q37, q38, q39, q40, q41, q42, q43, q44, q45, q46, q47, q48, q49, q50, q51, q52, q53, q54, q55, q56, q57, q58, q59, q60, q61, q62, q63, q64, q65, q66, q67, q68, q69, q70, q71, q72, q73, q74, q75, q76, q77, q78, q79, q80, q81, q82, q83, q84, q85, q86, q87, q88, q89, q90, q91, q92, q93, q94, q95, q96, q97, q98, q99, q100, q101, q102, q103, q104, q105, q106, q107, q108, q109, q110, q111, q112, q113, q114, q115, q116, q117, q118, q119, q120, q121, q122, q123, q124, q125, q126, q127, q128, q129, q130, q131, q132, q133, q134, q135, q136, q137, q138, q139, q140, q141, q142, q143, q144, q145, q146, q147, q148, q149, q150, q151, q152, q153, q154, q155, q156, q157, q158, q159, q160, q161, q162, q163, q164, q165, q166, q167, q168, q169, q170, q171, q172, q173, q174, q175, q176, q177, q178, q179, q180, q181, q182, q183, q184, q185, q186, q187, q188, q189, q190, q191, q192, q193, q194, q195, q196, q197, q198, q199, q200, q201, q202, q203, q204, q205, q206, q207, q208, q209, q210, q211, q212, q213, q214, q215, q216, q217, q218, q219, q220, q221, q222, q223, q224, q225, q226, q227, q228, q229, q230, q231, q232, q233, q234, q235, q236, q237, q238, q239, q240, q241, q242, q243, q244, q245, h5, h6, h7, h8, h14, h17, g7, g14, g17, l1, d3, i1, i2, f1, f2, k1, k2, t1, t2, u1, u2, y1, n1, n2, n3]
  rw [x_stepC0 (v := .bool B) (x_oneC (by simp only [x_seq, x_reg, x_skip, x_ret, x_exit, x_cond, x_condT, x_condF, x_block, x_loop, x_nrm, x_then_ret, x_then_exit, x_out_nrm, x_out_ret, x_out_exit, x_endG, x_step0, x_stepG, x_isBT, x_isBF, Bool.not_true, Bool.not_false, x_recT, x_recF, x_mov, x_gP', x_gE', x_call, x_dyn, x_dynV, x_goR, x_put, x_put0, x_evc, x_evt, x_ats, x_evs, x_evs0, x_onInt, x_onStr, x_onBool, x_onNat, x_onPtr, x_onSlice, x_onSlice0, x_onCells, x_onTup, x_onAgg, x_beq, initT0, initT1, iInt, iStr, iLenS, iLenL, iNot, iPick, iExt, Nat.zero_add, if_true, if_false, reduceIte, Nat.reduceEqDiff, Nat.reduceAdd, reduceCtorEq, x_draw, x_endD, x_stepRT, x_stepRF, x_stepQT, x_stepQF, x_stepLT, x_stepLF, x_stepCT, x_stepCF, x_stepR0, x_stepQ0, x_stepL0, x_oneK, x_oneL, x_oneP, x_oneM, x_oneE, x_oneC2, oneR_nrm, x_pick0, x_pick1]; exact hcall)) hlow]
  have bb : (B != B) = false := by cases B <;> rfl
  simp only [x_seq, x_reg, x_skip, x_ret, x_exit, x_cond, x_condT, x_condF, x_block, x_loop, x_nrm, x_then_ret, x_then_exit, x_out_nrm, x_out_ret, x_out_exit, x_endG, x_step0, x_stepGT, x_stepGF, x_stepGU, x_isBT, x_isBF, Bool.not_true, Bool.not_false, x_recT, x_recF, x_mov, x_gP', x_gE', x_call, x_dyn, x_dynV, x_goR, x_put, x_put0, x_evc, x_evt, x_ats, x_evs, x_evs0, x_onInt, x_onStr, x_onBool, x_onNat, x_onPtr, x_onSlice, x_onSlice0, x_onCells, x_onTup, x_onAgg, x_beq, initT0, initT1, iInt, iStr, iLenS, iLenL, iNot, iPick, iExt, Nat.zero_add, if_true, if_false, reduceIte, Nat.reduceEqDiff, Nat.reduceAdd, reduceCtorEq, x_draw, x_endD, x_stepRT, x_stepRF, x_stepQT, x_stepQF, x_stepLT, x_stepLF, x_stepCT, x_stepCF, x_stepR0, x_stepQ0, x_stepL0, x_oneK, x_oneL, x_oneP, x_oneM, x_oneE, x_oneC2, oneR_nrm, x_pick0, x_pick1, q0, q1, q2, q3, q4, q5, q6, q7, q8, q9, q10, q11, q12, q13, q14, q15, q16, q17, q18, q19, q20, q21, q22, q23, q24, q25, q26, q27, q28, q29, q30, q31, q32, q33, q34, q35, q36, q37, q38, q39, q40, q41, q42, q43, q44, q45, q46, q47, q48, q49, q50, q51, q52, q53, q54, q55, q56, q57, q58, q59, q60, q61, q62, q63, q64, q65, q66, q67, q68, q69, q70, q71, q72, q73, q74, q75, q76, q77, q78, q79, q80, q81, q82, q83, q84, q85, q86, q87, q88, q89, q90, q91, q92, q93, q94, q95, q96, q97, q98, q99, q100, q101, q102, q103, q104, q105, q106, q107, q108, q109, q110, q111, q112, q113, q114, q115, q116, q117, q118, q119, q120, q121, q122, q123, q124, q125, q126, q127, q128, q129, q130, q131, q132, q133, q134, q135, q136, q137, q138, q139, q140, q141, q142, q143, q144, q145, q146, q147, q148, q149, q150, q151, q152, q153, q154, q155, q156, q157, q158, q159, q160, q161, q162, q163, q164, q165, q166, q167, q168, q169, q170, q171, q172, q173, q174, q175, q176, q177, q178, q179, q180, q181, q182, q183, q184, q185, q186, q187, q188, q189, q190, q191, q192, q193, q194, q195, q196, q197, q198, q199, q200, q201, q202, q203, q204, q205, q206, q207, q208, q209, q210, q211, q212, q213, q214, q215, q216, q217, q218, q219, q220, q221, q222, q223, q224, q225, q226, q227, q228, q229, q230, q231, q232, q233, q234, q235, q236, q237, q238, q239, q240, q241, q242, q243, q244, q245, iBoo, bb, h5, h6, h7, h8, h14, h17, g7, g14, g17, d3]
  exact ⟨_, rfl, by simp only [x_ats, x_evt, if_true, if_false, reduceIte, Nat.reduceEqDiff, reduceCtorEq, h5], by simp only [x_ats, x_evt, if_true, if_false, reduceIte, Nat.reduceEqDiff, reduceCtorEq, h6], by simp only [x_ats, x_evt, if_true, if_false, reduceIte, Nat.reduceEqDiff, reduceCtorEq, h7], by simp only [x_ats, x_evt, if_true, if_false, reduceIte, Nat.reduceEqDiff, reduceCtorEq, h8], by simp only [x_ats, x_evt, if_true, if_false, reduceIte, Nat.reduceEqDiff, reduceCtorEq, h14], by simp only [x_ats, x_evt, if_true, if_false, reduceIte, Nat.reduceEqDiff, reduceCtorEq]⟩
theorem cmp_stop {tm : Tr V} {i : Nat} {va : V} {L : Nat} {ts : List TokA} (ha : TokSl L st va ts) (hi : ¬ i < ts.length) (h5 : tm.at (pa 5) = some v5) (h6 : tm.at (pa 6) = some v6) (h7 : tm.at (pa 7) = some va) (h8 : tm.at (pa 8) = some v8) (h17 : tm.at (pa 17) = some (.int 63 (Int.ofNat i))) :
    ∃ tm', b3_2 call n tm st = some (.exit 4, tm', st) ∧ tm'.at (pa 5) = some v5 ∧ tm'.at (pa 6) = some v6 ∧ tm'.at (pa 8) = some v8 := by
  have hll := tok_len ha
  have g7 := ev_at h7
  have g17 := ev_at h17
  have l1 : fLss 63 (Int.ofNat i) (Int.ofNat ts.length) = some (.bool false) := by rw [lss_ofNat, decide_eq_false hi]
  simp only [b3_2, x_seq, x_reg, x_skip, x_ret, x_exit, x_cond, x_condT, x_condF, x_block, x_loop, x_nrm, x_then_ret, x_then_exit, x_out_nrm, x_out_ret, x_out_exit, x_endG, x_step0, x_stepGT, x_stepGF, x_stepGU, x_isBT, x_isBF, Bool.not_true, Bool.not_false, x_recT, x_recF, x_mov, x_gP', x_gE', x_call, x_dyn, x_dynV, x_goR, x_put, x_put0, x_evc, x_evt, x_ats, x_evs, x_evs0, x_onInt, x_onStr, x_onBool, x_onNat, x_onPtr, x_onSlice, x_onSlice0, x_onCells, x_onTup, x_onAgg, x_beq, initT0, initT1, iInt, iStr, iLenS, iLenL, iNot, iPick, iExt, Nat.zero_add, if_true, if_false, reduceIte, Nat.reduceEqDiff, Nat.reduceAdd, reduceCtorEq, q0, q1, q2, q3, q4, q5, q6, q7, q8, q9, q10, q11, q12, q13, q14, q15, q16, q17, q18, q19, q20, q21, q22, q23, q24, q25, q26, q27, q28, q29, q30, q31, q32, q33, q34, q35, q36, q37, q38, q39, q40, q41, q42, q43, q44, q45, q46, q47, q48, q49, q50, q51, q52, q53, q54, q55, q56, q57, q58, q59, q60, q61, q62, q63, q64, q65, q66, q67, q68, q69, q70, q71, q72, q73, q74, q75, q76, q77, q78, q79, q80, q81, q82, q83, q84, q85, q86, q87, q88, q89, q90, q91, q92, q93, q94, q95, q96, q97, q98, q99, q100, q101, q102, q103, q104, q105, q106, q107, q108, q109, q110, q111, q112, q113, q114, q115, q116, q117, q118, q119, q120, q121, q122, q123, q124, q125, q126, q127, q128, q129, q130, q131, q132, q133, q134, q135, q136, q137, q138, q139, q140, q141, q142, q143, q144, q145, q146, q147, q148, q149, q150, q151, q152, q153, q154, q155, q156, q157, q158, q159, q160, q161, q162, q163, q164, q165, q166, q167, q168, q169, q170, q171, q172, q173, q174, q175, q176, q177, q178, q179, q180, q181, q182, q183, q184, q185, q186, q187, q188, q189, q190, q191, q192, q193, q194, q195, q196, q197, q198, q199, q200, q201, q202, q203, q204, q205, q206, q207, q208, q209, q210, q211, q212, q213, q214, q215, q216, q217, q218, q219, q220, q221, q222, q223, q224, q225, q226, q227, q228, q229, q230, q231, q232, q233, q234, q235, q236, q237, q238, q239, q240, q241, q242, q243, q244, q245, h5, h6, h7, h8, h17, g7, g17, hll, l1]
  exact ⟨_, rfl, by simp only [x_ats, x_evt, if_true, if_false, reduceIte, Nat.reduceEqDiff, reduceCtorEq, h5], by simp only [x_ats, x_evt, if_true, if_false, reduceIte, Nat.reduceEqDiff, reduceCtorEq, h6], by simp only [x_ats, x_evt, if_true, if_false, reduceIte, Nat.reduceEqDiff, reduceCtorEq, h8]⟩
theorem cmp_loop {va vb : V} {L L' : Nat} {ts bs : List TokA} (ha : TokSl L st va ts) (hb : TokSl L' st vb bs) (hs : Same ts bs) (hbig : ts.length ≤ 1000000) (hlow : st.low ≤ st.next) (hcl : ∀ x ∈ ts, Cl x.t x.k x.v)
    (hcall : ∀ x ∈ ts, call 11 [.str x.t] st.fresh = some (.ret (.bool (isNameL x.t)), st.fresh)) :
    ∀ (f i fuel : Nat) (tm : Tr V), i + f = ts.length → f < fuel → tm.at (pa 5) = some v5 → tm.at (pa 6) = some v6 → tm.at (pa 7) = some va → tm.at (pa 8) = some v8 → tm.at (pa 14) = some vb → tm.at (pa 17) = some (.int 63 (Int.ofNat i)) →
      ∃ tm', loopV fuel (b3_2 call n) tm st = some (.exit 4, tm', st) ∧ tm'.at (pa 5) = some v5 ∧ tm'.at (pa 6) = some v6 ∧ tm'.at (pa 8) = some v8
  | f, i, 0, tm, _, hf, _, _, _, _, _, _ => by omega
  | 0, i, fuel + 1, tm, hi, hf, h5, h6, h7, h8, h14, h17 => by
    obtain ⟨tm', e, r⟩ := cmp_stop (call := call) (n := n) ha (by omega) h5 h6 h7 h8 h17
    rw [x_loop1, e]
    exact ⟨tm', rfl, r⟩
  | f + 1, i, fuel + 1, tm, hi, hf, h5, h6, h7, h8, h14, h17 => by
    have hi1 : i < ts.length := by omega
    have hi2 : i < bs.length := by rw [← hs.1]; exact hi1
    obtain ⟨oa, hva, hoa⟩ := tok_at ha (List.length_pos_iff.1 (by omega))
    obtain ⟨ob, hvb, hob⟩ := tok_at hb (List.length_pos_iff.1 (by omega))
    subst hva hvb
    obtain ⟨a1, a2, a3⟩ := hs.2 i hi1 hi2
    have hm := List.getElem_mem hi1
    obtain ⟨tm', e, e5, e6, e7, e8, e14, e17⟩ := cmp_step (call := call) (n := n) hoa hob hi1 hi2 (by omega) hlow a1 a2 a3 (cl_name (hcl _ hm)) (hcall _ hm) h5 h6 h7 h8 h14 h17
    rw [x_loop1, e]
    exact cmp_loop ha hb hs hbig hlow hcl hcall f (i + 1) fuel tm' (by omega) (by omega) e5 e6 e7 e8 e14 e17
end
theorem back_low (st : St) (r : CR) (st' : St) : (back st r st').low ≤ st.low := by
  unfold back
  cases (Nat.ble st.next st'.low && r.under st.next) with
  | true => exact Nat.le_refl _
  | false =>
    show (bif Nat.ble st.low st'.low then st.low else st'.low) ≤ st.low
    cases h : Nat.ble st.low st'.low with
    | true => exact Nat.le_refl _
    | false =>
      show st'.low ≤ st.low
      have : ¬ st.low ≤ st'.low := fun h' => by rw [bleT h'] at h; exact nomatch h
      omega
theorem ev_low {fns : Tr Fs} {f n : Nat} {args : List V} {rs : List RV} {b : CEv} {st S : St} {v : V} (h : fns.get f = some (.mk rs b)) (e : evF fns (n + 1) f args st = some (.ret v, S)) : S.low ≤ st.low := by
  rw [ev_mk h] at e
  generalize b (evF fns n) n (initT args 0 .leaf) { next := st.next, low := st.next, mem := st.mem } = r at e
  match r, e with
  | none, e => exact nomatch e
  | some (x, tm, st'), e =>
    cases x with
    | ret =>
      have e' : (Option.rec none (fun v => some (CR.ret v, back st (.ret v) st')) (resV tm st' rs) : Option (CR × St)) = some (.ret v, S) := e
      cases hr : resV tm st' rs with
      | none => rw [hr] at e'; exact nomatch e'
      | some u =>
        rw [hr] at e'
        have hS : back st (.ret u) st' = S := congrArg Prod.snd (Option.some.inj e')
        rw [← hS]
        exact back_low _ _ _
    | nrm =>
      have e' : (Option.rec none (fun v => some (CR.ret v, back st (.ret v) st')) (resV tm st' rs) : Option (CR × St)) = some (.ret v, S) := e
      cases hr : resV tm st' rs with
      | none => rw [hr] at e'; exact nomatch e'
      | some u =>
        rw [hr] at e'
        have hS : back st (.ret u) st' = S := congrArg Prod.snd (Option.some.inj e')
        rw [← hS]
        exact back_low _ _ _
    | exit i => exact nomatch e
    | pan u =>
      have := congrArg Prod.fst (Option.some.inj e)
      exact nomatch this
theorem join_len : ∀ ts : List TokA, ts.length ≤ (joinA ts).length
  | [] => Nat.zero_le _
  | x :: ts => by
    have := join_len ts
    show (x :: ts).length ≤ (32 :: (x.t ++ joinA ts)).length
    rw [List.length_cons, List.length_cons, List.length_append]; omega
set_option maxHeartbeats 16000000 in
/-- LexAgain answers true. -/
theorem again_ev {st : St} {v0 : V} {zs : List Nat} {tight : Bool} (hG : 11 ≤ st.next) (hW : hasW st = true) (hrow : Row st 8 v0 zs) (hz : ∀ z ∈ zs, z < 256) : evF tableL 2001 3 [v0, .bool tight] st = some (.ret (.bool true), st) := by
  rw [ev_mk get_again]
  have hG0 : 11 ≤ ({ next := st.next, low := st.next, mem := st.mem } : St).next := hG
  have hW0 : hasW { next := st.next, low := st.next, mem := st.mem } = true := hasW_same hW fun g _ => rfl
  have hrow0 : Row { next := st.next, low := st.next, mem := st.mem } 8 v0 zs := hrow
  have hlow0 : ({ next := st.next, low := st.next, mem := st.mem } : St).low = st.next := rfl
  have hnext0 : ({ next := st.next, low := st.next, mem := st.mem } : St).next = st.next := rfl
  generalize ({ next := st.next, low := st.next, mem := st.mem } : St) = S0 at *
  have he := exL_ev 1999 S0 hW0
  obtain ⟨s, hs, ew⟩ := words_ev 1999 tight hrow0 hz (by decide)
  obtain ⟨va, S1, e1, g1, t1⟩ := all_ev 1998 s S0 hG0 hW0 (by omega) (by omega)
  have hbad := all_bad (s.length + 1) s 0 (Nat.lt_succ_self _)
  have hseg := fun ts h => all_seg (s.length + 1) s 0 ts (Nat.lt_succ_self _) h
  have hlenT := fun ts h => all_len (s.length + 1) s 0 ts (Nat.lt_succ_self _) h
  generalize allL (s.length + 1) s 0 = R at e1 t1 hbad hseg hlenT
  obtain ⟨r, at1⟩ := R
  have hG1 : 11 ≤ S1.next := Nat.le_trans hG0 g1.next
  have hW1 := g1.hasW hG0 hW0
  have low1 : st.next ≤ S1.low := g1.low st.next (by rw [hlow0]; exact Nat.le_refl _) (by rw [hnext0]; exact Nat.le_refl _)
  match r, e1, t1, hbad, hseg, hlenT with
  | none, e1, t1, hbad, _, _ =>
    have e1' : evF tableL 2000 10 [.str s] S0 = some (.ret (.tup [va, .int 63 (.ofNat at1), .int 63 2]), S1) := e1
    have t1' : va = .ref 2 0 0 0 0 false := t1
    subst t1'
    have hlt : at1 < s.length := by have := hbad rfl; rwa [Nat.zero_add] at this
    have y1 : fNeq 63 2 0 = some (.bool true) := rfl
    have y2 : fEql 63 2 2 = some (.bool true) := rfl
    have y3 : fEql 63 (Int.ofNat 0) 0 = some (.bool true) := rfl
    have y4 : fGeq 63 (Int.ofNat at1) 0 = some (.bool true) := (geq_ofNat 63 at1 0).trans (by rw [decide_eq_true (Nat.zero_le _)])
    have y5 : fLss 63 (Int.ofNat at1) (Int.ofNat s.length) = some (.bool true) := by rw [lss_ofNat, decide_eq_true hlt]
    simp only [c3_0, c3_1, c3_2, c3_3, c3_4, c3_5, c3_6, c3_7, x_seq, x_reg, x_skip, x_ret, x_exit, x_cond, x_condT, x_condF, x_block, x_loop, x_nrm, x_then_ret, x_then_exit, x_out_nrm, x_out_ret, x_out_exit, x_endG, x_step0, x_stepGT, x_stepGF, x_stepGU, x_isBT, x_isBF, Bool.not_true, Bool.not_false, x_recT, x_recF, x_mov, x_gP', x_gE', x_call, x_dyn, x_dynV, x_goR, x_put, x_put0, x_evc, x_evt, x_ats, x_evs, x_evs0, x_onInt, x_onStr, x_onBool, x_onNat, x_onPtr, x_onSlice, x_onSlice0, x_onCells, x_onTup, x_onAgg, x_beq, initT0, initT1, iInt, iStr, iLenS, iLenL, iNot, iPick, iExt, Nat.zero_add, if_true, if_false, reduceIte, Nat.reduceEqDiff, Nat.reduceAdd, reduceCtorEq, q0, q1, q2, q3, q4, q5, q6, q7, q8, q9, q10, q11, q12, q13, q14, q15, q16, q17, q18, q19, q20, q21, q22, q23, q24, q25, q26, q27, q28, q29, q30, q31, q32, q33, q34, q35, q36, q37, q38, q39, q40, q41, q42, q43, q44, q45, q46, q47, q48, q49, q50, q51, q52, q53, q54, q55, q56, q57, q58, q59, q60, he, ew, e1', u_nth0, u_nth1, u_nth2, y1, y2, y3, y4, y5, x_lenS]
    exact leave_ret (v := .bool true) (by simp only [x_ats, x_evt, if_true, if_false, reduceIte, Nat.reduceEqDiff, reduceCtorEq]) low1 rfl
  | some ts, e1, t1, _, hseg, hlenT =>
    have e1' : evF tableL 2000 10 [.str s] S0 = some (.ret (.tup [va, .int 63 (.ofNat at1), .int 63 0]), S1) := e1
    obtain ⟨hat, hsg⟩ := hseg ts rfl
    have hat' : at1 = s.length := by have : at1 = 0 + s.length := hat; rwa [Nat.zero_add] at this
    have hL := hlenT ts rfl
    obtain ⟨hcl, hjl⟩ := seg_cl hsg
    have hjn := join_len ts
    obtain ⟨bs, b1, b2⟩ := all_again ts ((joinA ts).length + 1) 0 hcl (by omega)
    obtain ⟨vb, S2, e2, g2, t2⟩ := all_ev 1998 (joinA ts) S1 hG1 hW1 (by omega) (by omega)
    have hW2 := g2.hasW hG1 hW1
    generalize allL ((joinA ts).length + 1) (joinA ts) 0 = RB at e2 t2 b1
    obtain ⟨rb, atb⟩ := RB
    obtain rfl : rb = some bs := b1
    have e2' : evF tableL 2000 10 [.str (joinA ts)] S1 = some (.ret (.tup [vb, .int 63 (.ofNat atb), .int 63 0]), S2) := e2
    have hla := tok_len t1
    have hlb := tok_len t2
    rw [← b2.1] at hlb
    have low2 : st.next ≤ S2.low := g2.low st.next low1 (Nat.le_trans (by rw [← hnext0]; exact g1.next) (Nat.le_refl _))
    have y1 : fNeq 63 0 0 = some (.bool false) := rfl
    have n1 : fNeq 63 (Int.ofNat ts.length) (Int.ofNat ts.length) = some (.bool false) := neq_self _ _
    have y5 : fEql 63 (Int.ofNat at1) (Int.ofNat s.length) = some (.bool true) := by rw [eql_ofNat, decide_eq_true hat']
    simp only [c3_0, c3_1, c3_2, c3_3, c3_4, c3_5, c3_6, c3_7, c3_8, c3_9, c3_10, c3_11, x_seq, x_reg, x_skip, x_ret, x_exit, x_cond, x_condT, x_condF, x_block, x_loop, x_nrm, x_then_ret, x_then_exit, x_out_nrm, x_out_ret, x_out_exit, x_endG, x_step0, x_stepGT, x_stepGF, x_stepGU, x_isBT, x_isBF, Bool.not_true, Bool.not_false, x_recT, x_recF, x_mov, x_gP', x_gE', x_call, x_dyn, x_dynV, x_goR, x_put, x_put0, x_evc, x_evt, x_ats, x_evs, x_evs0, x_onInt, x_onStr, x_onBool, x_onNat, x_onPtr, x_onSlice, x_onSlice0, x_onCells, x_onTup, x_onAgg, x_beq, initT0, initT1, iInt, iStr, iLenS, iLenL, iNot, iPick, iExt, Nat.zero_add, if_true, if_false, reduceIte, Nat.reduceEqDiff, Nat.reduceAdd, reduceCtorEq, q0, q1, q2, q3, q4, q5, q6, q7, q8, q9, q10, q11, q12, q13, q14, q15, q16, q17, q18, q19, q20, q21, q22, q23, q24, q25, q26, q27, q28, q29, q30, q31, q32, q33, q34, q35, q36, q37, q38, q39, q40, q41, q42, q43, q44, q45, q46, q47, q48, q49, q50, q51, q52, q53, q54, q55, q56, q57, q58, q59, q60, he, ew, e1', u_nth0, u_nth1, u_nth2, y1]
    generalize hT : Tr.to (α := V) _ _ _ = TM
    obtain ⟨tm1, k0, k5, k6, k7, k8, k10⟩ := ag_loop (call := evF tableL 2000) (n := 2000) (st := S1) (s := s) (v5 := .bool true) (v8 := .int 63 (.ofNat at1)) t1 hs (by decide) (by omega) ts 0 2000 [] s [] TM rfl (Nat.zero_add _) (by omega) rfl hsg (by show 0 + _ ≤ _; omega) (by rw [← hT]; simp only [x_ats, x_evt, if_true, if_false, reduceIte, Nat.reduceEqDiff, reduceCtorEq]) (by rw [← hT]; simp only [x_ats, x_evt, if_true, if_false, reduceIte, Nat.reduceEqDiff, reduceCtorEq]) (by rw [← hT]; simp only [x_ats, x_evt, if_true, if_false, reduceIte, Nat.reduceEqDiff, reduceCtorEq]) (by rw [← hT]; simp only [x_ats, x_evt, if_true, if_false, reduceIte, Nat.reduceEqDiff, reduceCtorEq]) (by rw [← hT]; simp only [x_ats, x_evt, if_true, if_false, reduceIte, Nat.reduceEqDiff, reduceCtorEq]) (by rw [← hT]; simp only [x_ats, x_evt, if_true, if_false, reduceIte, Nat.reduceEqDiff, reduceCtorEq]; rfl) (by rw [← hT]; simp only [x_ats, x_evt, if_true, if_false, reduceIte, Nat.reduceEqDiff, reduceCtorEq]; rfl)
    rw [k0]
    clear hT
    rw [List.nil_append] at k10
    have m5 := ev_at k5
    have m6 := ev_at k6
    have m7 := ev_at k7
    have m8 := ev_at k8
    have m10 := ev_at k10
    simp only [c3_12, c3_13, c3_14, c3_15, c3_16, x_seq, x_reg, x_skip, x_ret, x_exit, x_cond, x_condT, x_condF, x_block, x_loop, x_nrm, x_then_ret, x_then_exit, x_out_nrm, x_out_ret, x_out_exit, x_endG, x_step0, x_stepGT, x_stepGF, x_stepGU, x_isBT, x_isBF, Bool.not_true, Bool.not_false, x_recT, x_recF, x_mov, x_gP', x_gE', x_call, x_dyn, x_dynV, x_goR, x_put, x_put0, x_evc, x_evt, x_ats, x_evs, x_evs0, x_onInt, x_onStr, x_onBool, x_onNat, x_onPtr, x_onSlice, x_onSlice0, x_onCells, x_onTup, x_onAgg, x_beq, initT0, initT1, iInt, iStr, iLenS, iLenL, iNot, iPick, iExt, Nat.zero_add, if_true, if_false, reduceIte, Nat.reduceEqDiff, Nat.reduceAdd, reduceCtorEq, q0, q1, q2, q3, q4, q5, q6, q7, q8, q9, q10, q11, q12, q13, q14, q15, q16, q17, q18, q19, q20, q21, q22, q23, q24, q25, q26, q27, q28, q29, q30, q31, q32, q33, q34, q35, q36, q37, q38, q39, q40, q41, q42, q43, q44, q45, q46, q47, q48, q49, q50, q51, q52, q53, q54, q55, q56, q57, q58, q59, q60, q61, q62, q63, q64, q65, q66, q67, q68, q69, q70, q71, q72, q73, q74, q75, q76, q77, q78, q79, q80, q81, q82, q83, q84, q85, q86, q87, q88, q89, q90, q91, q92, q93, q94, q95, q96, q97, q98, q99, q100, q101, q102, q103, q104, q105, q106, q107, q108, q109, q110, q111, q112, q113, q114, q115, q116, q117, q118, q119, q120, q121, q122, q123, q124, q125, q126, q127, q128, q129, q130, q131, q132, q133, q134, q135, q136, q137, q138, q139, q140, q141, q142, q143, q144, q145, q146, q147, q148, q149, q150, q151, q152, q153, q154, q155, q156, q157, q158, q159, q160, q161, q162, q163, q164, q165, q166, q167, q168, q169, q170, q171, q172, q173, q174, q175, q176, q177, q178, q179, q180, q181, q182, q183, q184, q185, q186, q187, q188, q189, q190, q191, q192, q193, q194, q195, q196, q197, q198, q199, q200, q201, q202, q203, q204, q205, q206, q207, q208, q209, q210, q211, q212, q213, q214, q215, q216, q217, q218, q219, q220, q221, q222, q223, q224, q225, q226, q227, q228, q229, q230, q231, q232, q233, q234, q235, q236, q237, q238, q239, q240, q241, q242, q243, q244, q245, m5, m6, m7, m8, m10, e2', u_nth0, u_nth1, u_nth2, y1, hla, hlb, n1]
    generalize hT : Tr.to (α := V) _ _ _ = TM2
    have hlowS : S2.low ≤ S2.next := Nat.le_trans (ev_low get_all e2) (Nat.le_trans (ev_low get_all e1) (by rw [hlow0, ← hnext0]; exact (g1.trans g2).next))
    obtain ⟨tm2, q0, z5, z6, z8⟩ := cmp_loop (call := evF tableL 2000) (n := 2000) (st := S2) (v5 := .bool true) (v6 := .str s) (v8 := .int 63 (.ofNat at1)) (t1.grew g2) t2 b2 (by omega) hlowS hcl (fun x hx => nameL_ev 1999 x.t S2.fresh (hasW_U hW2) (by
        have hxl : ∀ (l : List TokA) (x : TokA), x ∈ l → x.t.length ≤ (joinA l).length := by
          intro l
          induction l with
          | nil => intro x hx; exact nomatch hx
          | cons y l ih =>
            intro x hx
            show _ ≤ (32 :: (y.t ++ joinA l)).length
            rw [List.length_cons, List.length_append]
            rcases List.mem_cons.1 hx with rfl | hx
            · omega
            · have := ih x hx; omega
        have := hxl ts x hx
        omega)) ts.length 0 2000 TM2 (Nat.zero_add _) (by omega) (by rw [← hT]; simp only [x_ats, x_evt, if_true, if_false, reduceIte, Nat.reduceEqDiff, reduceCtorEq, k5]) (by rw [← hT]; simp only [x_ats, x_evt, if_true, if_false, reduceIte, Nat.reduceEqDiff, reduceCtorEq, k6]) (by rw [← hT]; simp only [x_ats, x_evt, if_true, if_false, reduceIte, Nat.reduceEqDiff, reduceCtorEq, k7]) (by rw [← hT]; simp only [x_ats, x_evt, if_true, if_false, reduceIte, Nat.reduceEqDiff, reduceCtorEq, k8]) (by rw [← hT]; simp only [x_ats, x_evt, if_true, if_false, reduceIte, Nat.reduceEqDiff, reduceCtorEq]) (by rw [← hT]; simp only [x_ats, x_evt, if_true, if_false, reduceIte, Nat.reduceEqDiff, reduceCtorEq]; rfl)
    rw [q0]
    have w5 := ev_at z5
    have w6 := ev_at z6
    have w8 := ev_at z8
    simp only [c3_17, x_seq, x_reg, x_skip, x_ret, x_exit, x_cond, x_condT, x_condF, x_block, x_loop, x_nrm, x_then_ret, x_then_exit, x_out_nrm, x_out_ret, x_out_exit, x_endG, x_step0, x_stepGT, x_stepGF, x_stepGU, x_isBT, x_isBF, Bool.not_true, Bool.not_false, x_recT, x_recF, x_mov, x_gP', x_gE', x_call, x_dyn, x_dynV, x_goR, x_put, x_put0, x_evc, x_evt, x_ats, x_evs, x_evs0, x_onInt, x_onStr, x_onBool, x_onNat, x_onPtr, x_onSlice, x_onSlice0, x_onCells, x_onTup, x_onAgg, x_beq, initT0, initT1, iInt, iStr, iLenS, iLenL, iNot, iPick, iExt, Nat.zero_add, if_true, if_false, reduceIte, Nat.reduceEqDiff, Nat.reduceAdd, reduceCtorEq, q0, q1, q2, q3, q4, q5, q6, q7, q8, q9, q10, q11, q12, q13, q14, q15, q16, q17, q18, q19, q20, q21, q22, q23, q24, q25, q26, q27, q28, q29, q30, q31, q32, q33, q34, q35, q36, q37, q38, q39, q40, q41, q42, q43, q44, q45, q46, q47, q48, q49, q50, q51, q52, q53, q54, q55, q56, q57, q58, q59, q60, q61, q62, q63, q64, q65, q66, q67, q68, q69, q70, q71, q72, q73, q74, q75, q76, q77, q78, q79, q80, q81, q82, q83, q84, q85, q86, q87, q88, q89, q90, q91, q92, q93, q94, q95, q96, q97, q98, q99, q100, q101, q102, q103, q104, q105, q106, q107, q108, q109, q110, q111, q112, q113, q114, q115, q116, q117, q118, q119, q120, q121, q122, q123, q124, q125, q126, q127, q128, q129, q130, q131, q132, q133, q134, q135, q136, q137, q138, q139, q140, q141, q142, q143, q144, q145, q146, q147, q148, q149, q150, q151, q152, q153, q154, q155, q156, q157, q158, q159, q160, q161, q162, q163, q164, q165, q166, q167, q168, q169, q170, q171, q172, q173, q174, q175, q176, q177, q178, q179, q180, q181, q182, q183, q184, q185, q186, q187, q188, q189, q190, q191, q192, q193, q194, q195, q196, q197, q198, q199, q200, q201, q202, q203, q204, q205, q206, q207, q208, q209, q210, q211, q212, q213, q214, q215, q216, q217, q218, q219, q220, q221, q222, q223, q224, q225, q226, q227, q228, q229, q230, q231, q232, q233, q234, q235, q236, q237, q238, q239, q240, q241, q242, q243, q244, q245, q246, q247, q248, w5, w6, w8, y5, x_lenS]
    exact leave_ret (v := .bool true) (by simp only [x_ats, x_evt, if_true, if_false, reduceIte, Nat.reduceEqDiff, reduceCtorEq]) low2 rfl
end Go.Proofs.YtnjjkomopkgidaaDoor.Av
