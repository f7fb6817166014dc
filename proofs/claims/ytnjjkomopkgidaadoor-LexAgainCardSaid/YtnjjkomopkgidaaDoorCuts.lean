/-
  LexCuts: it answers true.
-/
import Derived.Test.YtnjjkomopkgidaaDoorCutsL
import Derived.Test.YtnjjkomopkgidaaDoorWords
import Derived.Test.YtnjjkomopkgidaaDoorHelp
namespace Go.Proofs.YtnjjkomopkgidaaDoor.Av
set_option linter.unusedVariables false
set_option linter.unusedSimpArgs false
set_option maxRecDepth 1000000
open Go

theorem get_cuts : tableL.get 7 = some sh7 := by kernel_rfl
theorem cellsA_get : ∀ (l : List TokA) (j : Nat) (h : j < l.length) (off : Nat), off < 4 → (cellsA l)[j * 4 + off]? = (l[j]'h).cells[off]?
  | x :: l, 0, h, off, ho => by
    show (x.cells ++ cellsA l)[0 * 4 + off]? = x.cells[off]?
    rw [Nat.zero_mul, Nat.zero_add]
    exact List.getElem?_append_left (show off < 4 from ho)
  | x :: l, j + 1, h, off, ho => by
    show (x.cells ++ cellsA l)[(j + 1) * 4 + off]? = _
    have h4 : x.cells.length = 4 := rfl
    rw [List.getElem?_append_right (by rw [h4]; omega), h4, show (j + 1) * 4 + off - 4 = j * 4 + off by omega]
    exact cellsA_get l j (by simpa using h) off ho
section
variable {st : St} {o j : Nat} {l : List TokA} {w : Bool} {e : Nat}
theorem tok_iad {n kk : Nat} {ex : Bool} {x y : X} {tm : Tr V} (hx : x.ev tm = .ref 3 o 0 n n ex) (hy : y.ev tm = .int kk (Int.ofNat j)) (hj : j < n) : iIad 4 x y tm st = some (.ref 1 o (j * 4) 0 0 false) := by
  have h := x_iad (n := 4) (st := st) (x := x) (i := y) (tm := tm) (o := o) (b := 0) (m := n) (c := n) (k := j) (kk := kk) (ex := ex) hx hy hj
  rw [h, Nat.zero_add]
theorem tok_fad {i : Nat} {x : X} {tm : Tr V} (off : Nat) (hx : x.ev tm = .ref 1 o i 0 0 false) : iFad off x tm st = some (.ref 1 o (i + off) 0 0 false) := by
  unfold iFad; rw [hx]; rfl
theorem tok_k (hg : st.mem.get o = some (.cells e (cellsA l) w)) (h : j < l.length) {x : X} {tm : Tr V} (hx : x.ev tm = .ref 1 o (j * 4 + 0) 0 0 false) : iLoad false 1 x tm st = some (.int 63 (l[j]'h).k) :=
  x_load1 hx hg (cellsA_get l j h 0 (by decide))
theorem tok_t (hg : st.mem.get o = some (.cells e (cellsA l) w)) (h : j < l.length) {x : X} {tm : Tr V} (hx : x.ev tm = .ref 1 o (j * 4 + 1) 0 0 false) : iLoad false 1 x tm st = some (.str (l[j]'h).t) :=
  x_load1 hx hg (cellsA_get l j h 1 (by decide))
theorem tok_v (hg : st.mem.get o = some (.cells e (cellsA l) w)) (h : j < l.length) {x : X} {tm : Tr V} (hx : x.ev tm = .ref 1 o (j * 4 + 2) 0 0 false) : iLoad false 1 x tm st = some (.int 63 (l[j]'h).v) :=
  x_load1 hx hg (cellsA_get l j h 2 (by decide))
theorem tok_p (hg : st.mem.get o = some (.cells e (cellsA l) w)) (h : j < l.length) {x : X} {tm : Tr V} (hx : x.ev tm = .ref 1 o (j * 4 + 3) 0 0 false) : iLoad false 1 x tm st = some (.int 63 (Int.ofNat (l[j]'h).pos)) :=
  x_load1 hx hg (cellsA_get l j h 3 (by decide))
end
theorem tok_len {L : Nat} {st : St} {v : V} {l : List TokA} (h : TokSl L st v l) : v.onSlice none (some (V.int 63 (.ofNat 0))) (fun _ _ n _ _ => some (V.int 63 (.ofNat n))) = some (.int 63 (Int.ofNat l.length)) := by
  rcases h with ⟨rfl, rfl⟩ | ⟨o, _, _, _, rfl, _⟩
  · rfl
  · rfl
theorem neq_self (k : Nat) (a : Int) : fNeq k a a = some (.bool false) := by
  show some (V.bool (!eqI a a)) = _
  rw [eqI_eq, decide_eq_true rfl]; rfl
theorem sneq_self (a : List UInt8) : sNeq a a = some (.bool false) := by
  show some (V.bool (!eqS a a)) = _
  rw [eqS_eq, decide_eq_true rfl]; rfl
theorem sub_ofNat {a b : Nat} (h : b ≤ a) (ha : a < 9223372036854775808) : fSub 63 (Int.ofNat a) (Int.ofNat b) = some (.int 63 (Int.ofNat (a - b))) := by
  show some (V.int 63 (wrapC 63 (Int.sub (Int.ofNat a) (Int.ofNat b)))) = _
  rw [show Int.sub (Int.ofNat a) (Int.ofNat b) = Int.ofNat (a - b) by
    show Int.ofNat a - Int.ofNat b = _
    simp only [Int.ofNat_eq_natCast]; omega, wrap63 (by omega)]
theorem add_ofNat {a b : Nat} (h : a + b < 9223372036854775808) : fAdd 63 (Int.ofNat a) (Int.ofNat b) = some (.int 63 (Int.ofNat (a + b))) := by
  show some (V.int 63 (wrapC 63 (Int.ofNat (a + b)))) = _
  rw [wrap63 h]
section
variable {call : Callee} {n : Nat} {st : St}
set_option maxHeartbeats 8000000 in
theorem cut_step {tm : Tr V} {oa oc i j en : Nat} {ts cs : List TokA} {e1 e2 : Nat} {x1 x2 : Bool} (ha : st.mem.get oa = some (.cells e1 (cellsA ts) x1)) (hc : st.mem.get oc = some (.cells e2 (cellsA cs) x2)) (hj : j < cs.length) (hij : i + 1 + j < ts.length) (hbig : ts.length ≤ 1000000)
    (hk : (ts[i + 1 + j]'hij).k = (cs[j]'hj).k) (ht : (ts[i + 1 + j]'hij).t = (cs[j]'hj).t) (hp : (ts[i + 1 + j]'hij).pos = (cs[j]'hj).pos + en) (hpb : (ts[i + 1 + j]'hij).pos ≤ 1000000)
    (h5 : tm.at (pa 5) = some (.bool true)) (h7 : tm.at (pa 7) = some (.ref 3 oa 0 ts.length ts.length false)) (h10 : tm.at (pa 10) = some (.int 63 (Int.ofNat i))) (h11 : tm.at (pa 11) = some (.int 63 (Int.ofNat en))) (h15 : tm.at (pa 15) = some (.ref 3 oc 0 cs.length cs.length false)) (h18 : tm.at (pa 18) = some (.int 63 (Int.ofNat j))) :
    ∃ tm', b7_0 call n tm st = some (.nrm, tm', st) ∧ tm'.at (pa 5) = some (.bool true) ∧ tm'.at (pa 7) = some (.ref 3 oa 0 ts.length ts.length false) ∧ tm'.at (pa 10) = some (.int 63 (Int.ofNat i)) ∧ tm'.at (pa 11) = some (.int 63 (Int.ofNat en)) ∧ tm'.at (pa 15) = some (.ref 3 oc 0 cs.length cs.length false) ∧ tm'.at (pa 18) = some (.int 63 (Int.ofNat (j + 1))) := by
  have g5 := ev_at h5
  have g7 := ev_at h7
  have g10 := ev_at h10
  have g11 := ev_at h11
  have g15 := ev_at h15
  have g18 := ev_at h18
  have l1 : fLss 63 (Int.ofNat j) (Int.ofNat cs.length) = some (.bool true) := by rw [lss_ofNat, decide_eq_true hj]
  have d1 : fAdd 63 (Int.ofNat i) 1 = some (.int 63 (Int.ofNat (i + 1))) := add_ofNat (a := i) (b := 1) (by omega)
  have d2 : fAdd 63 (Int.ofNat (i + 1)) (Int.ofNat j) = some (.int 63 (Int.ofNat (i + 1 + j))) := add_ofNat (by omega)
  have d3 : fAdd 63 (Int.ofNat j) 1 = some (.int 63 (Int.ofNat (j + 1))) := add_ofNat (a := j) (b := 1) (by omega)
  have i1 : ∀ (tm : Tr V) (p q : Pa), X.ev tm (.t p) = .ref 3 oa 0 ts.length ts.length false → X.ev tm (.t q) = .int 63 (Int.ofNat (i + 1 + j)) → iIad 4 (.t p) (.t q) tm st = some (.ref 1 oa ((i + 1 + j) * 4) 0 0 false) := fun tm p q h h' => tok_iad h h' hij
  have i2 : ∀ (tm : Tr V) (p q : Pa), X.ev tm (.t p) = .ref 3 oc 0 cs.length cs.length false → X.ev tm (.t q) = .int 63 (Int.ofNat j) → iIad 4 (.t p) (.t q) tm st = some (.ref 1 oc (j * 4) 0 0 false) := fun tm p q h h' => tok_iad h h' hj
  have f1 : ∀ (off : Nat) (tm : Tr V) (p : Pa), X.ev tm (.t p) = .ref 1 oa ((i + 1 + j) * 4) 0 0 false → iFad off (.t p) tm st = some (.ref 1 oa ((i + 1 + j) * 4 + off) 0 0 false) := fun off tm p h => tok_fad off h
  have f2 : ∀ (off : Nat) (tm : Tr V) (p : Pa), X.ev tm (.t p) = .ref 1 oc (j * 4) 0 0 false → iFad off (.t p) tm st = some (.ref 1 oc (j * 4 + off) 0 0 false) := fun off tm p h => tok_fad off h
  have t1 : ∀ (tm : Tr V) (p : Pa), X.ev tm (.t p) = .ref 1 oa ((i + 1 + j) * 4 + 1) 0 0 false → iLoad false 1 (.t p) tm st = some (.str (cs[j]'hj).t) := fun tm p h => (tok_t ha hij h).trans (by rw [ht])
  have t2 : ∀ (tm : Tr V) (p : Pa), X.ev tm (.t p) = .ref 1 oc (j * 4 + 1) 0 0 false → iLoad false 1 (.t p) tm st = some (.str (cs[j]'hj).t) := fun tm p h => tok_t hc hj h
  have k1 : ∀ (tm : Tr V) (p : Pa), X.ev tm (.t p) = .ref 1 oa ((i + 1 + j) * 4 + 0) 0 0 false → iLoad false 1 (.t p) tm st = some (.int 63 (cs[j]'hj).k) := fun tm p h => (tok_k ha hij h).trans (by rw [hk])
  have k2 : ∀ (tm : Tr V) (p : Pa), X.ev tm (.t p) = .ref 1 oc (j * 4 + 0) 0 0 false → iLoad false 1 (.t p) tm st = some (.int 63 (cs[j]'hj).k) := fun tm p h => tok_k hc hj h
  have p1 : ∀ (tm : Tr V) (p : Pa), X.ev tm (.t p) = .ref 1 oa ((i + 1 + j) * 4 + 3) 0 0 false → iLoad false 1 (.t p) tm st = some (.int 63 (Int.ofNat ((cs[j]'hj).pos + en))) := fun tm p h => (tok_p ha hij h).trans (by rw [hp])
  have p2 : ∀ (tm : Tr V) (p : Pa), X.ev tm (.t p) = .ref 1 oc (j * 4 + 3) 0 0 false → iLoad false 1 (.t p) tm st = some (.int 63 (Int.ofNat (cs[j]'hj).pos)) := fun tm p h => tok_p hc hj h
  rw [hp] at hpb
  have s1 : fSub 63 (Int.ofNat ((cs[j]'hj).pos + en)) (Int.ofNat en) = some (.int 63 (Int.ofNat (cs[j]'hj).pos)) := (sub_ofNat (Nat.le_add_left _ _) (by omega)).trans (by rw [Nat.add_sub_cancel])
  generalize (cs[j]'hj).t = T at *
  generalize (cs[j]'hj).k = K at *
  generalize (cs[j]'hj).pos = PP at *
  have n1 := sneq_self T
  have n2 := neq_self 63 K
  have n3 := neq_self 63 (Int.ofNat PP)
  simp only [b7_0, x_seq, x_reg, x_skip, x_ret, x_exit, x_cond, x_condT, x_condF, x_block, x_loop, x_nrm, x_then_ret, x_then_exit, x_out_nrm, x_out_ret, x_out_exit, x_endG, x_step0, x_stepGT, x_stepGF, x_stepGU, x_isBT, x_isBF, Bool.not_true, Bool.not_false, x_recT, x_recF, x_mov, x_gP', x_gE', x_call, x_dyn, x_dynV, x_goR, x_put, x_put0, x_evc, x_evt, x_ats, x_evs, x_evs0, x_onInt, x_onStr, x_onBool, x_onNat, x_onPtr, x_onSlice, x_onSlice0, x_onCells, x_onTup, x_onAgg, x_beq, initT0, initT1, iInt, iStr, iLenS, iLenL, iNot, iPick, iExt, Nat.zero_add, if_true, if_false, reduceIte, Nat.reduceEqDiff, Nat.reduceAdd, reduceCtorEq, x_draw, x_endD, x_stepRT, x_stepRF, x_stepQT, x_stepQF, x_stepLT, x_stepLF, x_stepCT, x_stepCF, x_stepR0, x_stepQ0, x_stepL0, x_oneK, x_oneL, x_oneP, x_oneM, x_oneE, x_oneC2, oneR_nrm, x_pick0, x_pick1, q0, q1, q2, q3, q4, q5, q6, q7, q8, q9, q10, q11, q12, q13, q14, q15, q16, q17, q18, q19, q20, q21, q22, q23, q24, q25, q26, q27, q28, q29, q30, q31, q32, q33, q34, q35, q36, q37, q38, q39, q40, q41, q42, q43, q44, q45, q46, q47, q48, q49, q50, q51, q52, q53, q54, q55, q56, q57, q58, q59, q60, q61, q62, q63, q64, q65, q66, q67, q68, q69, q70, q71, q72, q73, q74, q75, q76, q77, q78, q79, q80, q81, q82, q83, q84, q85, q86, q87, q88, q89, q90, q91, q92, q93, q94, q95, q96, q97, q98, q99, q100, q101, q102, q103, q104, q105, q106, q107, q108, q109, q110, q111, q112, q113, q114, q115, q116, q117, q118, q119, q120, q121, q122, q123, q124, q125, q126, q127, q128, q129, q130, q131, q132, q133, q134, q135, q136, q137, q138, q139, q140, q141, q142, q143, q144, q145, q146, q147, q148, q149, q150, q151, q152, q153, q154, q155, q156, q157, q158, q159, q160, q161, q162, q163, q164, q165, q166, q167, q168, q169, q170, h5, h7, h10, h11, h15, h18, g5, g7, g10, g11, g15, g18, l1, d1, d2, d3, i1, i2, f1, f2, t1, t2, k1, k2, p1, p2, s1, n1, n2, n3]
  exact ⟨_, rfl, by simp only [x_seq, x_reg, x_skip, x_ret, x_exit, x_cond, x_condT, x_condF, x_block, x_loop, x_nrm, x_then_ret, x_then_exit, x_out_nrm, x_out_ret, x_out_exit, x_endG, x_step0, x_stepG, x_isBT, x_isBF, Bool.not_true, Bool.not_false, x_recT, x_recF, x_mov, x_gP', x_gE', x_call, x_dyn, x_dynV, x_goR, x_put, x_put0, x_evc, x_evt, x_ats, x_evs, x_evs0, x_onInt, x_onStr, x_onBool, x_onNat, x_onPtr, x_onSlice, x_onSlice0, x_onCells, x_onTup, x_onAgg, x_beq, initT0, initT1, iInt, iStr, iLenS, iLenL, iNot, iPick, iExt, Nat.zero_add, if_true, if_false, reduceIte, Nat.reduceEqDiff, Nat.reduceAdd, reduceCtorEq, h5], by simp only [x_seq, x_reg, x_skip, x_ret, x_exit, x_cond, x_condT, x_condF, x_block, x_loop, x_nrm, x_then_ret, x_then_exit, x_out_nrm, x_out_ret, x_out_exit, x_endG, x_step0, x_stepG, x_isBT, x_isBF, Bool.not_true, Bool.not_false, x_recT, x_recF, x_mov, x_gP', x_gE', x_call, x_dyn, x_dynV, x_goR, x_put, x_put0, x_evc, x_evt, x_ats, x_evs, x_evs0, x_onInt, x_onStr, x_onBool, x_onNat, x_onPtr, x_onSlice, x_onSlice0, x_onCells, x_onTup, x_onAgg, x_beq, initT0, initT1, iInt, iStr, iLenS, iLenL, iNot, iPick, iExt, Nat.zero_add, if_true, if_false, reduceIte, Nat.reduceEqDiff, Nat.reduceAdd, reduceCtorEq, h7], by simp only [x_seq, x_reg, x_skip, x_ret, x_exit, x_cond, x_condT, x_condF, x_block, x_loop, x_nrm, x_then_ret, x_then_exit, x_out_nrm, x_out_ret, x_out_exit, x_endG, x_step0, x_stepG, x_isBT, x_isBF, Bool.not_true, Bool.not_false, x_recT, x_recF, x_mov, x_gP', x_gE', x_call, x_dyn, x_dynV, x_goR, x_put, x_put0, x_evc, x_evt, x_ats, x_evs, x_evs0, x_onInt, x_onStr, x_onBool, x_onNat, x_onPtr, x_onSlice, x_onSlice0, x_onCells, x_onTup, x_onAgg, x_beq, initT0, initT1, iInt, iStr, iLenS, iLenL, iNot, iPick, iExt, Nat.zero_add, if_true, if_false, reduceIte, Nat.reduceEqDiff, Nat.reduceAdd, reduceCtorEq, h10], by simp only [x_seq, x_reg, x_skip, x_ret, x_exit, x_cond, x_condT, x_condF, x_block, x_loop, x_nrm, x_then_ret, x_then_exit, x_out_nrm, x_out_ret, x_out_exit, x_endG, x_step0, x_stepG, x_isBT, x_isBF, Bool.not_true, Bool.not_false, x_recT, x_recF, x_mov, x_gP', x_gE', x_call, x_dyn, x_dynV, x_goR, x_put, x_put0, x_evc, x_evt, x_ats, x_evs, x_evs0, x_onInt, x_onStr, x_onBool, x_onNat, x_onPtr, x_onSlice, x_onSlice0, x_onCells, x_onTup, x_onAgg, x_beq, initT0, initT1, iInt, iStr, iLenS, iLenL, iNot, iPick, iExt, Nat.zero_add, if_true, if_false, reduceIte, Nat.reduceEqDiff, Nat.reduceAdd, reduceCtorEq, h11], by simp only [x_seq, x_reg, x_skip, x_ret, x_exit, x_cond, x_condT, x_condF, x_block, x_loop, x_nrm, x_then_ret, x_then_exit, x_out_nrm, x_out_ret, x_out_exit, x_endG, x_step0, x_stepG, x_isBT, x_isBF, Bool.not_true, Bool.not_false, x_recT, x_recF, x_mov, x_gP', x_gE', x_call, x_dyn, x_dynV, x_goR, x_put, x_put0, x_evc, x_evt, x_ats, x_evs, x_evs0, x_onInt, x_onStr, x_onBool, x_onNat, x_onPtr, x_onSlice, x_onSlice0, x_onCells, x_onTup, x_onAgg, x_beq, initT0, initT1, iInt, iStr, iLenS, iLenL, iNot, iPick, iExt, Nat.zero_add, if_true, if_false, reduceIte, Nat.reduceEqDiff, Nat.reduceAdd, reduceCtorEq, h15], by simp only [x_seq, x_reg, x_skip, x_ret, x_exit, x_cond, x_condT, x_condF, x_block, x_loop, x_nrm, x_then_ret, x_then_exit, x_out_nrm, x_out_ret, x_out_exit, x_endG, x_step0, x_stepG, x_isBT, x_isBF, Bool.not_true, Bool.not_false, x_recT, x_recF, x_mov, x_gP', x_gE', x_call, x_dyn, x_dynV, x_goR, x_put, x_put0, x_evc, x_evt, x_ats, x_evs, x_evs0, x_onInt, x_onStr, x_onBool, x_onNat, x_onPtr, x_onSlice, x_onSlice0, x_onCells, x_onTup, x_onAgg, x_beq, initT0, initT1, iInt, iStr, iLenS, iLenL, iNot, iPick, iExt, Nat.zero_add, if_true, if_false, reduceIte, Nat.reduceEqDiff, Nat.reduceAdd, reduceCtorEq]⟩
end
end Go.Proofs.YtnjjkomopkgidaaDoor.Av
