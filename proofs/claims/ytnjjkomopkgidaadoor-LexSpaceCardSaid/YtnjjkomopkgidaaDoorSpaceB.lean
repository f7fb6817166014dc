/-
  LexSpace: it answers true.
-/
import Derived.Test.YtnjjkomopkgidaaDoorSpace
import Derived.Test.YtnjjkomopkgidaaDoorNamesB
namespace Go.Proofs.YtnjjkomopkgidaaDoor.Av
set_option linter.unusedVariables false
set_option linter.unusedSimpArgs false
set_option maxRecDepth 1000000
open Go

theorem get_spaceLaw : tableL.get 6 = some sh6 := by kernel_rfl
theorem bsl_words (st : St) (tm : Tr V) : iBsl 9 8 [.str [], .str [], .str [], .str [], .str [], .str [], .str [], .str []] [(0, (1, (.c (.str [97])))), (1, (1, (.c (.str [87, 73, 84, 72, 73, 78])))), (2, (1, (.c (.str [49, 50])))), (3, (1, (.c (.str [195, 169])))), (4, (1, (.c (.str [60, 61])))), (5, (1, (.c (.str [40])))), (6, (1, (.c (.str [120, 57])))), (7, (1, (.c (.str [33, 61]))))] tm st = some (.ref 3 st.next 0 8 8 true, st.new (strO words8)) := Eq.trans (Eq.refl _) rfl
theorem sAdd_len {a b : List UInt8} (h : a.length + b.length ≤ 1000) : sAdd a b = some (.str (a ++ b)) := by
  unfold sAdd
  rw [bleT (by rw [lenL_eq, lenL_eq]; show a.length + b.length ≤ _; omega), appL_eq]
theorem ev_at {tm : Tr V} {p : Pa} {v : V} (h : tm.at p = some v) : X.ev tm (.t p) = v := by
  rw [ev_t, h]; rfl
theorem x_fresh (st : St) (h : st.low = st.next) : st.fresh = st := by
  cases st; unfold St.fresh; cases h; rfl
section
variable {st3 : St} {o o8 : Nat} {w1 w2 s sx : List UInt8} {k1 k2 v1 v2 : Int} {j1 j2 ia ib a b : Nat} {call : Callee} {n : Nat} {TM : Tr V}
set_option maxHeartbeats 8000000 in
/-- The last answer. -/
theorem spl_end (ho : st3.mem.get o = some (.cells 30 [.int 63 k1, .str w1, .int 63 v1, .int 63 (.ofNat j1), .int 63 k2, .str w2, .int 63 v2, .int 63 (.ofNat j2)] true)) (ho8 : st3.mem.get o8 = some (strO words8))
    (hw1 : word8 (a % 8) = w1) (hw2 : word8 (b % 8) = w2)
    (f0 : TM.at (pa 0) = some (.int 8 (Int.ofNat a))) (f1 : TM.at (pa 1) = some (.int 8 (Int.ofNat b))) (f11 : TM.at (pa 11) = some (.bool true)) (f12 : TM.at (pa 12) = some (.ref 3 o8 0 8 8 true)) (f13 : TM.at (pa 13) = some (.str s)) (f14 : TM.at (pa 14) = some (.int 63 (Int.ofNat j1))) (f15 : TM.at (pa 15) = some (.int 63 (Int.ofNat j2)))
    (f16 : TM.at (pa 16) = some (.ref 3 o 0 2 2 false)) (f17 : TM.at (pa 17) = some (.int 63 (Int.ofNat s.length))) (f18 : TM.at (pa 18) = some (.int 63 0)) :
    ∃ tm', c6_11 call n TM st3 = some (.nrm, tm', st3) ∧ tm'.at (pa 10) = some (.bool true) := by
  have ma : a % 8 < 8 := Nat.mod_lt _ (by decide)
  have mb : b % 8 < 8 := Nat.mod_lt _ (by decide)
  have y1 : fEql 63 0 0 = some (.bool true) := rfl
  have y2 : fEql 63 (Int.ofNat 2) 2 = some (.bool true) := rfl
  have y3 : fEql 63 (Int.ofNat j1) (Int.ofNat j1) = some (.bool true) := by rw [eql_ofNat, decide_eq_true rfl]
  have y4 : fEql 63 (Int.ofNat j2) (Int.ofNat j2) = some (.bool true) := by rw [eql_ofNat, decide_eq_true rfl]
  have y5 : fEql 63 (Int.ofNat s.length) (Int.ofNat s.length) = some (.bool true) := by rw [eql_ofNat, decide_eq_true rfl]
  have y6 : sEql w1 w1 = some (.bool true) := by unfold sEql; rw [eqS_eq, decide_eq_true rfl]
  have y7 : sEql w2 w2 = some (.bool true) := by unfold sEql; rw [eqS_eq, decide_eq_true rfl]
  have r1 : fRem 8 (Int.ofNat a) 8 = some (.int 8 (Int.ofNat (a % 8))) := rem_ofNat 8 a 8 rfl
  have r2 : fRem 8 (Int.ofNat b) 8 = some (.int 8 (Int.ofNat (b % 8))) := rem_ofNat 8 b 8 rfl
  have a1 : ∀ (tm : Tr V) (p : Pa), X.ev tm (.t p) = .ref 3 o 0 2 2 false → iIad 4 (.t p) (.c (.int 63 0)) tm st3 = some (.ref 1 o 0 0 0 false) := fun tm p h => by unfold iIad; rw [h]; rfl
  have a2 : ∀ (tm : Tr V) (p : Pa), X.ev tm (.t p) = .ref 3 o 0 2 2 false → iIad 4 (.t p) (.c (.int 63 1)) tm st3 = some (.ref 1 o 4 0 0 false) := fun tm p h => by unfold iIad; rw [h]; rfl
  have b1 : ∀ (tm : Tr V) (p : Pa), X.ev tm (.t p) = .ref 1 o 0 0 0 false → iFad 3 (.t p) tm st3 = some (.ref 1 o 3 0 0 false) := fun tm p h => by unfold iFad; rw [h]; rfl
  have b2 : ∀ (tm : Tr V) (p : Pa), X.ev tm (.t p) = .ref 1 o 4 0 0 false → iFad 3 (.t p) tm st3 = some (.ref 1 o 7 0 0 false) := fun tm p h => by unfold iFad; rw [h]; rfl
  have b3 : ∀ (tm : Tr V) (p : Pa), X.ev tm (.t p) = .ref 1 o 0 0 0 false → iFad 1 (.t p) tm st3 = some (.ref 1 o 1 0 0 false) := fun tm p h => by unfold iFad; rw [h]; rfl
  have b4 : ∀ (tm : Tr V) (p : Pa), X.ev tm (.t p) = .ref 1 o 4 0 0 false → iFad 1 (.t p) tm st3 = some (.ref 1 o 5 0 0 false) := fun tm p h => by unfold iFad; rw [h]; rfl
  have l1 : ∀ (tm : Tr V) (p : Pa), X.ev tm (.t p) = .ref 1 o 3 0 0 false → iLoad false 1 (.t p) tm st3 = some (.int 63 (Int.ofNat j1)) := fun tm p h => x_load1 (o := o) (i := 3) h ho rfl
  have l2 : ∀ (tm : Tr V) (p : Pa), X.ev tm (.t p) = .ref 1 o 7 0 0 false → iLoad false 1 (.t p) tm st3 = some (.int 63 (Int.ofNat j2)) := fun tm p h => x_load1 (o := o) (i := 7) h ho rfl
  have l3 : ∀ (tm : Tr V) (p : Pa), X.ev tm (.t p) = .ref 1 o 1 0 0 false → iLoad false 1 (.t p) tm st3 = some (.str w1) := fun tm p h => x_load1 (o := o) (i := 1) h ho rfl
  have l4 : ∀ (tm : Tr V) (p : Pa), X.ev tm (.t p) = .ref 1 o 5 0 0 false → iLoad false 1 (.t p) tm st3 = some (.str w2) := fun tm p h => x_load1 (o := o) (i := 5) h ho rfl
  have c1 : ∀ (tm : Tr V) (p q : Pa), X.ev tm (.t p) = .ref 3 o8 0 8 8 true → X.ev tm (.t q) = .int 8 (Int.ofNat (a % 8)) → iIad 1 (.t p) (.t q) tm st3 = some (.ref 1 o8 (a % 8) 0 0 false) := fun tm p q h h' => str_iad h h' ma
  have c2 : ∀ (tm : Tr V) (p q : Pa), X.ev tm (.t p) = .ref 3 o8 0 8 8 true → X.ev tm (.t q) = .int 8 (Int.ofNat (b % 8)) → iIad 1 (.t p) (.t q) tm st3 = some (.ref 1 o8 (b % 8) 0 0 false) := fun tm p q h h' => str_iad h h' mb
  have d1 : ∀ (tm : Tr V) (p : Pa), X.ev tm (.t p) = .ref 1 o8 (a % 8) 0 0 false → iLoad false 1 (.t p) tm st3 = some (.str w1) := fun tm p h => (str_ld (l := words8) ho8 ma h).trans (by rw [← hw1]; rfl)
  have d2 : ∀ (tm : Tr V) (p : Pa), X.ev tm (.t p) = .ref 1 o8 (b % 8) 0 0 false → iLoad false 1 (.t p) tm st3 = some (.str w2) := fun tm p h => (str_ld (l := words8) ho8 mb h).trans (by rw [← hw2]; rfl)
  have e0 := ev_at f0
  have e1 := ev_at f1
  have e11 := ev_at f11
  have e12 := ev_at f12
  have e13 := ev_at f13
  have e14 := ev_at f14
  have e15 := ev_at f15
  have e16 := ev_at f16
  have e17 := ev_at f17
  have e18 := ev_at f18
  simp only [c6_11, x_seq, x_reg, x_skip, x_ret, x_exit, x_cond, x_condT, x_condF, x_block, x_loop, x_nrm, x_then_ret, x_then_exit, x_out_nrm, x_out_ret, x_out_exit, x_endG, x_step0, x_stepGT, x_stepGF, x_stepGU, x_isBT, x_isBF, Bool.not_true, Bool.not_false, x_recT, x_recF, x_mov, x_gP', x_gE', x_call, x_dyn, x_dynV, x_goR, x_put, x_put0, x_evc, x_evt, x_ats, x_evs, x_evs0, x_onInt, x_onStr, x_onBool, x_onNat, x_onPtr, x_onSlice, x_onSlice0, x_onCells, x_onTup, x_onAgg, x_beq, initT0, initT1, iInt, iStr, iLenS, iLenL, iNot, iPick, iExt, Nat.zero_add, if_true, if_false, reduceIte, Nat.reduceEqDiff, Nat.reduceAdd, reduceCtorEq, x_draw, x_endD, x_stepRT, x_stepRF, x_stepQT, x_stepQF, x_stepLT, x_stepLF, x_stepCT, x_stepCF, x_stepR0, x_stepQ0, x_stepL0, x_oneK, x_oneL, x_oneP, x_oneM, x_oneE, x_oneC2, oneR_nrm, x_pick0, x_pick1, q0, q1, q2, q3, q4, q5, q6, q7, q8, q9, q10, q11, q12, q13, q14, q15, q16, q17, q18, q19, q20, q21, q22, q23, q24, q25, q26, q27, q28, q29, q30, q31, q32, q33, q34, q35, q36, q37, q38, q39, q40, q41, q42, q43, q44, q45, q46, q47, q48, q49, q50, q51, q52, q53, q54, q55, q56, q57, q58, q59, q60, q61, q62, q63, q64, q65, q66, q67, q68, q69, q70, q71, q72, q73, q74, q75, q76, q77, q78, q79, q80, q81, q82, q83, q84, q85, q86, q87, q88, q89, q90, q91, q92, q93, q94, q95, q96, q97, q98, q99, q100, q101, q102, q103, q104, q105, q106, q107, q108, q109, q110, q111, q112, q113, q114, q115, q116, q117, q118, q119, q120, f0, f1, f11, f12, f13, f14, f15, f16, f17, f18, e0, e1, e11, e12, e13, e14, e15, e16, e17, e18, y1, y2, y3, y4, y5, y6, y7, r1, r2, a1, a2, b1, b2, b3, b4, l1, l2, l3, l4, c1, c2, d1, d2, x_lenS]
  exact ⟨_, rfl, by simp only [x_seq, x_reg, x_skip, x_ret, x_exit, x_cond, x_condT, x_condF, x_block, x_loop, x_nrm, x_then_ret, x_then_exit, x_out_nrm, x_out_ret, x_out_exit, x_endG, x_step0, x_stepG, x_isBT, x_isBF, Bool.not_true, Bool.not_false, x_recT, x_recF, x_mov, x_gP', x_gE', x_call, x_dyn, x_dynV, x_goR, x_put, x_put0, x_evc, x_evt, x_ats, x_evs, x_evs0, x_onInt, x_onStr, x_onBool, x_onNat, x_onPtr, x_onSlice, x_onSlice0, x_onCells, x_onTup, x_onAgg, x_beq, initT0, initT1, iInt, iStr, iLenS, iLenL, iNot, iPick, iExt, Nat.zero_add, if_true, if_false, reduceIte, Nat.reduceEqDiff, Nat.reduceAdd, reduceCtorEq]⟩
end
set_option maxHeartbeats 8000000 in
/-- LexSpace answers true. -/
theorem spl_ev {st : St} {a b : Nat} {v2 v3 v4 : V} {xs ys zs : List Nat} (hG : 11 ≤ st.next) (hW : hasW st = true) (h2 : Row st 8 v2 xs) (h3 : Row st 8 v3 ys) (h4 : Row st 8 v4 zs) :
    evF tableL 1001 6 [.int 8 (Int.ofNat a), .int 8 (Int.ofNat b), v2, v3, v4] st = some (.ret (.bool true), st) := by
  rw [ev_mk get_spaceLaw]
  have hG0 : 11 ≤ ({ next := st.next, low := st.next, mem := st.mem } : St).next := hG
  have hW0 : hasW { next := st.next, low := st.next, mem := st.mem } = true := hasW_same hW fun g _ => rfl
  have h20 : Row { next := st.next, low := st.next, mem := st.mem } 8 v2 xs := h2
  have h30 : Row { next := st.next, low := st.next, mem := st.mem } 8 v3 ys := h3
  have h40 : Row { next := st.next, low := st.next, mem := st.mem } 8 v4 zs := h4
  have hlow0 : ({ next := st.next, low := st.next, mem := st.mem } : St).low = st.next := rfl
  have hnext0 : ({ next := st.next, low := st.next, mem := st.mem } : St).next = st.next := rfl
  generalize ({ next := st.next, low := st.next, mem := st.mem } : St) = S0 at *
  have he := exL_ev 999 S0 hW0
  have hb := bsl_words S0
  have g1 := Grew.new S0 (strO words8)
  have ho8 : (S0.new (strO words8)).mem.get S0.next = some (strO words8) := new_get_self S0 _
  have hn1 : (S0.new (strO words8)).next = S0.next + 1 := rfl
  have hl1 : (S0.new (strO words8)).low ≤ (S0.new (strO words8)).next := by rw [hn1]; show S0.low ≤ _; rw [hlow0, hnext0]; exact Nat.le_succ _
  have hW1 := g1.hasW hG0 hW0
  have r2 := h20.grew g1
  have r3 := h30.grew g1
  have r4 := h40.grew g1
  obtain ⟨S1, hS1⟩ : ∃ S1, S1 = S0.new (strO words8) := ⟨_, rfl⟩
  rw [← hS1] at hb g1 ho8 hn1 hl1 hW1 r2 r3 r4
  have e2 := space_ev 999 r2 (by decide)
  have e3 := space_ev 999 (st := S1.fresh) (v0 := v3) (zs := ys) r3 (by decide)
  have e4 := space_ev 999 (st := S1.fresh) (v0 := v4) (zs := zs) r4 (by decide)
  have hsx := spA_len xs
  have hsy := spA_len ys
  have hsz := spA_len zs
  have kx := spA_ok xs
  have ky := spA_ok ys
  have kz := spA_ok zs
  generalize spA xs = sx at *
  generalize spA ys = sy at *
  generalize spA zs = sz at *
  have ma : a % 8 < 8 := Nat.mod_lt _ (by decide)
  have mb : b % 8 < 8 := Nat.mod_lt _ (by decide)
  obtain ⟨w1, hw1⟩ : ∃ w, word8 (a % 8) = w := ⟨_, rfl⟩
  obtain ⟨w2, hw2⟩ : ∃ w, word8 (b % 8) = w := ⟨_, rfl⟩
  have hk1 := word8_ok ma
  have hk2 := word8_ok mb
  rw [hw1] at hk1
  rw [hw2] at hk2
  have r1 : fRem 8 (Int.ofNat a) 8 = some (.int 8 (Int.ofNat (a % 8))) := rem_ofNat 8 a 8 rfl
  have r2' : fRem 8 (Int.ofNat b) 8 = some (.int 8 (Int.ofNat (b % 8))) := rem_ofNat 8 b 8 rfl
  have c1 : ∀ (tm : Tr V) (p q : Pa), X.ev tm (.t p) = .ref 3 S0.next 0 8 8 true → X.ev tm (.t q) = .int 8 (Int.ofNat (a % 8)) → iIad 1 (.t p) (.t q) tm S1 = some (.ref 1 S0.next (a % 8) 0 0 false) := fun tm p q h h' => str_iad h h' ma
  have c2 : ∀ (tm : Tr V) (p q : Pa), X.ev tm (.t p) = .ref 3 S0.next 0 8 8 true → X.ev tm (.t q) = .int 8 (Int.ofNat (b % 8)) → iIad 1 (.t p) (.t q) tm S1 = some (.ref 1 S0.next (b % 8) 0 0 false) := fun tm p q h h' => str_iad h h' mb
  have d1 : ∀ (tm : Tr V) (p : Pa), X.ev tm (.t p) = .ref 1 S0.next (a % 8) 0 0 false → iLoad false 1 (.t p) tm S1 = some (.str w1) := fun tm p h => (str_ld (l := words8) ho8 ma h).trans (by rw [← hw1]; rfl)
  have d2 : ∀ (tm : Tr V) (p : Pa), X.ev tm (.t p) = .ref 1 S0.next (b % 8) 0 0 false → iLoad false 1 (.t p) tm S1 = some (.str w2) := fun tm p h => (str_ld (l := words8) ho8 mb h).trans (by rw [← hw2]; rfl)
  have p1 : sAdd sx w1 = some (.str (sx ++ w1)) := sAdd_len (by omega)
  have p2 : sAdd (sx ++ w1) [32] = some (.str (sx ++ w1 ++ [32])) := sAdd_len (by rw [List.length_append, List.length_singleton]; omega)
  have p3 : sAdd (sx ++ w1 ++ [32]) sy = some (.str (sx ++ w1 ++ [32] ++ sy)) := sAdd_len (by rw [List.length_append, List.length_append, List.length_singleton]; omega)
  have hlenT : (sx ++ w1 ++ [32] ++ sy).length = sx.length + w1.length + (32 :: sy).length := by simp only [List.length_append, List.length_cons, List.length_nil]; omega
  have hTeq : (sx ++ w1 ++ [32] ++ sy) ++ w2 ++ sz = sx ++ (w1 ++ ((32 :: sy) ++ (w2 ++ sz))) := by simp only [List.append_assoc, List.cons_append, List.nil_append]
  have hTs : (sx ++ w1 ++ [32] ++ sy).length ≤ 100 := by rw [hlenT, List.length_cons]; omega
  have p4 : sAdd (sx ++ w1 ++ [32] ++ sy) w2 = some (.str (sx ++ w1 ++ [32] ++ sy ++ w2)) := sAdd_len (by omega)
  have p5 : sAdd (sx ++ w1 ++ [32] ++ sy ++ w2) sz = some (.str (sx ++ w1 ++ [32] ++ sy ++ w2 ++ sz)) := sAdd_len (by rw [List.length_append]; omega)
  have hsl : (sx ++ w1 ++ [32] ++ sy ++ w2 ++ sz).length ≤ 200 := by rw [List.length_append, List.length_append]; omega
  obtain ⟨t1, u1, t2, u2, hall⟩ := all_two kx (u2 := 32 :: sy) (fun x hx => (List.mem_cons.1 hx).elim (fun h => .inl h) (ky x)) (by simp) kz hk1.1 hk2.1
  rw [← hTeq, ← hlenT] at hall
  obtain ⟨va, S2, e5, g2, tk⟩ := all_ev 998 (sx ++ w1 ++ [32] ++ sy ++ w2 ++ sz) S1 (Nat.le_trans hG0 g1.next) hW1 (by omega) (by omega)
  rw [hall] at e5 tk
  generalize sx ++ w1 ++ [32] ++ sy ++ w2 ++ sz = s at *
  obtain ⟨o, hva, ho⟩ := tok_at tk (by simp)
  have hva' : va = .ref 3 o 0 2 2 false := hva
  subst hva'
  have ho' : S2.mem.get o = some (.cells 30 [.int 63 t1, .str w1, .int 63 u1, .int 63 (.ofNat sx.length), .int 63 t2, .str w2, .int 63 u2, .int 63 (.ofNat (sx ++ w1 ++ [32] ++ sy).length)] true) := ho
  have ho82 : S2.mem.get S0.next = some (strO words8) := (g2.mem _ (by rw [hn1]; exact Nat.lt_succ_self _)).trans ho8
  have e5' : evF tableL 1000 10 [.str s] S1 = some (.ret (.tup [.ref 3 o 0 2 2 false, .int 63 (.ofNat s.length), .int 63 0]), S2) := e5
  simp only [c6_0, c6_1, c6_2, c6_3, c6_4, c6_5, c6_6, x_seq, x_reg, x_skip, x_ret, x_exit, x_cond, x_condT, x_condF, x_block, x_loop, x_nrm, x_then_ret, x_then_exit, x_out_nrm, x_out_ret, x_out_exit, x_endG, x_step0, x_stepG, x_isBT, x_isBF, Bool.not_true, Bool.not_false, x_recT, x_recF, x_mov, x_gP', x_gE', x_call, x_dyn, x_dynV, x_goR, x_put, x_put0, x_evc, x_evt, x_ats, x_evs, x_evs0, x_onInt, x_onStr, x_onBool, x_onNat, x_onPtr, x_onSlice, x_onSlice0, x_onCells, x_onTup, x_onAgg, x_beq, initT0, initT1, iInt, iStr, iLenS, iLenL, iNot, iPick, iExt, Nat.zero_add, if_true, if_false, reduceIte, Nat.reduceEqDiff, Nat.reduceAdd, reduceCtorEq, q0, q1, q2, q3, q4, q5, q6, q7, q8, q9, q10, q11, q12, q13, q14, q15, q16, q17, q18, q19, q20, q21, q22, q23, q24, q25, q26, q27, q28, q29, q30, he, hb, e2, x_lenS]
  simp only [c6_7, x_seq, x_reg, x_skip, x_ret, x_exit, x_cond, x_condT, x_condF, x_block, x_loop, x_nrm, x_then_ret, x_then_exit, x_out_nrm, x_out_ret, x_out_exit, x_endG, x_step0, x_stepGT, x_stepGF, x_stepGU, x_isBT, x_isBF, Bool.not_true, Bool.not_false, x_recT, x_recF, x_mov, x_gP', x_gE', x_call, x_dyn, x_dynV, x_goR, x_put, x_put0, x_evc, x_evt, x_ats, x_evs, x_evs0, x_onInt, x_onStr, x_onBool, x_onNat, x_onPtr, x_onSlice, x_onSlice0, x_onCells, x_onTup, x_onAgg, x_beq, initT0, initT1, iInt, iStr, iLenS, iLenL, iNot, iPick, iExt, Nat.zero_add, if_true, if_false, reduceIte, Nat.reduceEqDiff, Nat.reduceAdd, reduceCtorEq, x_draw, x_endD, x_stepRT, x_stepRF, x_stepQT, x_stepQF, x_stepLT, x_stepLF, x_stepCT, x_stepCF, x_stepR0, x_stepQ0, x_stepL0, x_oneK, x_oneL, x_oneP, x_oneM, x_oneE, x_oneC2, oneR_nrm, x_pick0, x_pick1, q0, q1, q2, q3, q4, q5, q6, q7, q8, q9, q10, q11, q12, q13, q14, q15, q16, q17, q18, q19, q20, q21, q22, q23, q24, q25, q26, q27, q28, q29, q30, q31, q32, q33, q34, q35, q36, q37, q38, q39, q40, q41, q42, q43, q44, q45, q46, q47, q48, q49, q50, q51, q52, q53, q54, q55, q56, q57, q58, q59, q60, r1, c1, d1, p1, p2]
  rw [x_stepC0 (v := .str sy) (x_oneC (by simp only [x_seq, x_reg, x_skip, x_ret, x_exit, x_cond, x_condT, x_condF, x_block, x_loop, x_nrm, x_then_ret, x_then_exit, x_out_nrm, x_out_ret, x_out_exit, x_endG, x_step0, x_stepG, x_isBT, x_isBF, Bool.not_true, Bool.not_false, x_recT, x_recF, x_mov, x_gP', x_gE', x_call, x_dyn, x_dynV, x_goR, x_put, x_put0, x_evc, x_evt, x_ats, x_evs, x_evs0, x_onInt, x_onStr, x_onBool, x_onNat, x_onPtr, x_onSlice, x_onSlice0, x_onCells, x_onTup, x_onAgg, x_beq, initT0, initT1, iInt, iStr, iLenS, iLenL, iNot, iPick, iExt, Nat.zero_add, if_true, if_false, reduceIte, Nat.reduceEqDiff, Nat.reduceAdd, reduceCtorEq, x_draw, x_endD, x_stepRT, x_stepRF, x_stepQT, x_stepQF, x_stepLT, x_stepLF, x_stepCT, x_stepCF, x_stepR0, x_stepQ0, x_stepL0, x_oneK, x_oneL, x_oneP, x_oneM, x_oneE, x_oneC2, oneR_nrm, x_pick0, x_pick1]; exact e3)) hl1]
  simp only [x_seq, x_reg, x_skip, x_ret, x_exit, x_cond, x_condT, x_condF, x_block, x_loop, x_nrm, x_then_ret, x_then_exit, x_out_nrm, x_out_ret, x_out_exit, x_endG, x_step0, x_stepGT, x_stepGF, x_stepGU, x_isBT, x_isBF, Bool.not_true, Bool.not_false, x_recT, x_recF, x_mov, x_gP', x_gE', x_call, x_dyn, x_dynV, x_goR, x_put, x_put0, x_evc, x_evt, x_ats, x_evs, x_evs0, x_onInt, x_onStr, x_onBool, x_onNat, x_onPtr, x_onSlice, x_onSlice0, x_onCells, x_onTup, x_onAgg, x_beq, initT0, initT1, iInt, iStr, iLenS, iLenL, iNot, iPick, iExt, Nat.zero_add, if_true, if_false, reduceIte, Nat.reduceEqDiff, Nat.reduceAdd, reduceCtorEq, x_draw, x_endD, x_stepRT, x_stepRF, x_stepQT, x_stepQF, x_stepLT, x_stepLF, x_stepCT, x_stepCF, x_stepR0, x_stepQ0, x_stepL0, x_oneK, x_oneL, x_oneP, x_oneM, x_oneE, x_oneC2, oneR_nrm, x_pick0, x_pick1, p3]
  simp only [c6_8, x_seq, x_reg, x_skip, x_ret, x_exit, x_cond, x_condT, x_condF, x_block, x_loop, x_nrm, x_then_ret, x_then_exit, x_out_nrm, x_out_ret, x_out_exit, x_endG, x_step0, x_stepGT, x_stepGF, x_stepGU, x_isBT, x_isBF, Bool.not_true, Bool.not_false, x_recT, x_recF, x_mov, x_gP', x_gE', x_call, x_dyn, x_dynV, x_goR, x_put, x_put0, x_evc, x_evt, x_ats, x_evs, x_evs0, x_onInt, x_onStr, x_onBool, x_onNat, x_onPtr, x_onSlice, x_onSlice0, x_onCells, x_onTup, x_onAgg, x_beq, initT0, initT1, iInt, iStr, iLenS, iLenL, iNot, iPick, iExt, Nat.zero_add, if_true, if_false, reduceIte, Nat.reduceEqDiff, Nat.reduceAdd, reduceCtorEq, q0, q1, q2, q3, q4, q5, q6, q7, q8, q9, q10, q11, q12, q13, q14, q15, q16, q17, q18, q19, q20, q21, q22, q23, q24, q25, q26, q27, q28, q29, q30, q31, q32, q33, q34, q35, q36, q37, q38, q39, q40, q41, q42, q43, q44, q45, q46, q47, q48, q49, q50, q51, q52, q53, q54, q55, q56, q57, q58, q59, q60, x_lenS]
  simp only [c6_9, x_seq, x_reg, x_skip, x_ret, x_exit, x_cond, x_condT, x_condF, x_block, x_loop, x_nrm, x_then_ret, x_then_exit, x_out_nrm, x_out_ret, x_out_exit, x_endG, x_step0, x_stepGT, x_stepGF, x_stepGU, x_isBT, x_isBF, Bool.not_true, Bool.not_false, x_recT, x_recF, x_mov, x_gP', x_gE', x_call, x_dyn, x_dynV, x_goR, x_put, x_put0, x_evc, x_evt, x_ats, x_evs, x_evs0, x_onInt, x_onStr, x_onBool, x_onNat, x_onPtr, x_onSlice, x_onSlice0, x_onCells, x_onTup, x_onAgg, x_beq, initT0, initT1, iInt, iStr, iLenS, iLenL, iNot, iPick, iExt, Nat.zero_add, if_true, if_false, reduceIte, Nat.reduceEqDiff, Nat.reduceAdd, reduceCtorEq, x_draw, x_endD, x_stepRT, x_stepRF, x_stepQT, x_stepQF, x_stepLT, x_stepLF, x_stepCT, x_stepCF, x_stepR0, x_stepQ0, x_stepL0, x_oneK, x_oneL, x_oneP, x_oneM, x_oneE, x_oneC2, oneR_nrm, x_pick0, x_pick1, q0, q1, q2, q3, q4, q5, q6, q7, q8, q9, q10, q11, q12, q13, q14, q15, q16, q17, q18, q19, q20, q21, q22, q23, q24, q25, q26, q27, q28, q29, q30, q31, q32, q33, q34, q35, q36, q37, q38, q39, q40, q41, q42, q43, q44, q45, q46, q47, q48, q49, q50, q51, q52, q53, q54, q55, q56, q57, q58, q59, q60, r2', c2, d2, p4]
  rw [x_stepC0 (v := .str sz) (x_oneC (by simp only [x_seq, x_reg, x_skip, x_ret, x_exit, x_cond, x_condT, x_condF, x_block, x_loop, x_nrm, x_then_ret, x_then_exit, x_out_nrm, x_out_ret, x_out_exit, x_endG, x_step0, x_stepG, x_isBT, x_isBF, Bool.not_true, Bool.not_false, x_recT, x_recF, x_mov, x_gP', x_gE', x_call, x_dyn, x_dynV, x_goR, x_put, x_put0, x_evc, x_evt, x_ats, x_evs, x_evs0, x_onInt, x_onStr, x_onBool, x_onNat, x_onPtr, x_onSlice, x_onSlice0, x_onCells, x_onTup, x_onAgg, x_beq, initT0, initT1, iInt, iStr, iLenS, iLenL, iNot, iPick, iExt, Nat.zero_add, if_true, if_false, reduceIte, Nat.reduceEqDiff, Nat.reduceAdd, reduceCtorEq, x_draw, x_endD, x_stepRT, x_stepRF, x_stepQT, x_stepQF, x_stepLT, x_stepLF, x_stepCT, x_stepCF, x_stepR0, x_stepQ0, x_stepL0, x_oneK, x_oneL, x_oneP, x_oneM, x_oneE, x_oneC2, oneR_nrm, x_pick0, x_pick1]; exact e4)) hl1]
  simp only [x_seq, x_reg, x_skip, x_ret, x_exit, x_cond, x_condT, x_condF, x_block, x_loop, x_nrm, x_then_ret, x_then_exit, x_out_nrm, x_out_ret, x_out_exit, x_endG, x_step0, x_stepGT, x_stepGF, x_stepGU, x_isBT, x_isBF, Bool.not_true, Bool.not_false, x_recT, x_recF, x_mov, x_gP', x_gE', x_call, x_dyn, x_dynV, x_goR, x_put, x_put0, x_evc, x_evt, x_ats, x_evs, x_evs0, x_onInt, x_onStr, x_onBool, x_onNat, x_onPtr, x_onSlice, x_onSlice0, x_onCells, x_onTup, x_onAgg, x_beq, initT0, initT1, iInt, iStr, iLenS, iLenL, iNot, iPick, iExt, Nat.zero_add, if_true, if_false, reduceIte, Nat.reduceEqDiff, Nat.reduceAdd, reduceCtorEq, x_draw, x_endD, x_stepRT, x_stepRF, x_stepQT, x_stepQF, x_stepLT, x_stepLF, x_stepCT, x_stepCF, x_stepR0, x_stepQ0, x_stepL0, x_oneK, x_oneL, x_oneP, x_oneM, x_oneE, x_oneC2, oneR_nrm, x_pick0, x_pick1, p5]
  simp only [c6_10, x_seq, x_reg, x_skip, x_ret, x_exit, x_cond, x_condT, x_condF, x_block, x_loop, x_nrm, x_then_ret, x_then_exit, x_out_nrm, x_out_ret, x_out_exit, x_endG, x_step0, x_stepGT, x_stepGF, x_stepGU, x_isBT, x_isBF, Bool.not_true, Bool.not_false, x_recT, x_recF, x_mov, x_gP', x_gE', x_call, x_dyn, x_dynV, x_goR, x_put, x_put0, x_evc, x_evt, x_ats, x_evs, x_evs0, x_onInt, x_onStr, x_onBool, x_onNat, x_onPtr, x_onSlice, x_onSlice0, x_onCells, x_onTup, x_onAgg, x_beq, initT0, initT1, iInt, iStr, iLenS, iLenL, iNot, iPick, iExt, Nat.zero_add, if_true, if_false, reduceIte, Nat.reduceEqDiff, Nat.reduceAdd, reduceCtorEq, q0, q1, q2, q3, q4, q5, q6, q7, q8, q9, q10, q11, q12, q13, q14, q15, q16, q17, q18, q19, q20, q21, q22, q23, q24, q25, q26, q27, q28, q29, q30, q31, q32, q33, q34, q35, q36, q37, q38, q39, q40, q41, q42, q43, q44, q45, q46, q47, q48, q49, q50, q51, q52, q53, q54, q55, q56, q57, q58, q59, q60, e5', u_nth0, u_nth1, u_nth2]
  generalize hT : Tr.to (α := V) _ _ _ = TM
  obtain ⟨tm', k1, k2⟩ := spl_end (call := evF tableL 1000) (n := 1000) (TM := TM) (s := s) ho' ho82 hw1 hw2 (a := a) (b := b) (by rw [← hT]; simp only [x_seq, x_reg, x_skip, x_ret, x_exit, x_cond, x_condT, x_condF, x_block, x_loop, x_nrm, x_then_ret, x_then_exit, x_out_nrm, x_out_ret, x_out_exit, x_endG, x_step0, x_stepG, x_isBT, x_isBF, Bool.not_true, Bool.not_false, x_recT, x_recF, x_mov, x_gP', x_gE', x_call, x_dyn, x_dynV, x_goR, x_put, x_put0, x_evc, x_evt, x_ats, x_evs, x_evs0, x_onInt, x_onStr, x_onBool, x_onNat, x_onPtr, x_onSlice, x_onSlice0, x_onCells, x_onTup, x_onAgg, x_beq, initT0, initT1, iInt, iStr, iLenS, iLenL, iNot, iPick, iExt, Nat.zero_add, if_true, if_false, reduceIte, Nat.reduceEqDiff, Nat.reduceAdd, reduceCtorEq]) (by rw [← hT]; simp only [x_seq, x_reg, x_skip, x_ret, x_exit, x_cond, x_condT, x_condF, x_block, x_loop, x_nrm, x_then_ret, x_then_exit, x_out_nrm, x_out_ret, x_out_exit, x_endG, x_step0, x_stepG, x_isBT, x_isBF, Bool.not_true, Bool.not_false, x_recT, x_recF, x_mov, x_gP', x_gE', x_call, x_dyn, x_dynV, x_goR, x_put, x_put0, x_evc, x_evt, x_ats, x_evs, x_evs0, x_onInt, x_onStr, x_onBool, x_onNat, x_onPtr, x_onSlice, x_onSlice0, x_onCells, x_onTup, x_onAgg, x_beq, initT0, initT1, iInt, iStr, iLenS, iLenL, iNot, iPick, iExt, Nat.zero_add, if_true, if_false, reduceIte, Nat.reduceEqDiff, Nat.reduceAdd, reduceCtorEq]) (by rw [← hT]; simp only [x_seq, x_reg, x_skip, x_ret, x_exit, x_cond, x_condT, x_condF, x_block, x_loop, x_nrm, x_then_ret, x_then_exit, x_out_nrm, x_out_ret, x_out_exit, x_endG, x_step0, x_stepG, x_isBT, x_isBF, Bool.not_true, Bool.not_false, x_recT, x_recF, x_mov, x_gP', x_gE', x_call, x_dyn, x_dynV, x_goR, x_put, x_put0, x_evc, x_evt, x_ats, x_evs, x_evs0, x_onInt, x_onStr, x_onBool, x_onNat, x_onPtr, x_onSlice, x_onSlice0, x_onCells, x_onTup, x_onAgg, x_beq, initT0, initT1, iInt, iStr, iLenS, iLenL, iNot, iPick, iExt, Nat.zero_add, if_true, if_false, reduceIte, Nat.reduceEqDiff, Nat.reduceAdd, reduceCtorEq]) (by rw [← hT]; simp only [x_seq, x_reg, x_skip, x_ret, x_exit, x_cond, x_condT, x_condF, x_block, x_loop, x_nrm, x_then_ret, x_then_exit, x_out_nrm, x_out_ret, x_out_exit, x_endG, x_step0, x_stepG, x_isBT, x_isBF, Bool.not_true, Bool.not_false, x_recT, x_recF, x_mov, x_gP', x_gE', x_call, x_dyn, x_dynV, x_goR, x_put, x_put0, x_evc, x_evt, x_ats, x_evs, x_evs0, x_onInt, x_onStr, x_onBool, x_onNat, x_onPtr, x_onSlice, x_onSlice0, x_onCells, x_onTup, x_onAgg, x_beq, initT0, initT1, iInt, iStr, iLenS, iLenL, iNot, iPick, iExt, Nat.zero_add, if_true, if_false, reduceIte, Nat.reduceEqDiff, Nat.reduceAdd, reduceCtorEq]) (by rw [← hT]; simp only [x_seq, x_reg, x_skip, x_ret, x_exit, x_cond, x_condT, x_condF, x_block, x_loop, x_nrm, x_then_ret, x_then_exit, x_out_nrm, x_out_ret, x_out_exit, x_endG, x_step0, x_stepG, x_isBT, x_isBF, Bool.not_true, Bool.not_false, x_recT, x_recF, x_mov, x_gP', x_gE', x_call, x_dyn, x_dynV, x_goR, x_put, x_put0, x_evc, x_evt, x_ats, x_evs, x_evs0, x_onInt, x_onStr, x_onBool, x_onNat, x_onPtr, x_onSlice, x_onSlice0, x_onCells, x_onTup, x_onAgg, x_beq, initT0, initT1, iInt, iStr, iLenS, iLenL, iNot, iPick, iExt, Nat.zero_add, if_true, if_false, reduceIte, Nat.reduceEqDiff, Nat.reduceAdd, reduceCtorEq]) (by rw [← hT]; simp only [x_seq, x_reg, x_skip, x_ret, x_exit, x_cond, x_condT, x_condF, x_block, x_loop, x_nrm, x_then_ret, x_then_exit, x_out_nrm, x_out_ret, x_out_exit, x_endG, x_step0, x_stepG, x_isBT, x_isBF, Bool.not_true, Bool.not_false, x_recT, x_recF, x_mov, x_gP', x_gE', x_call, x_dyn, x_dynV, x_goR, x_put, x_put0, x_evc, x_evt, x_ats, x_evs, x_evs0, x_onInt, x_onStr, x_onBool, x_onNat, x_onPtr, x_onSlice, x_onSlice0, x_onCells, x_onTup, x_onAgg, x_beq, initT0, initT1, iInt, iStr, iLenS, iLenL, iNot, iPick, iExt, Nat.zero_add, if_true, if_false, reduceIte, Nat.reduceEqDiff, Nat.reduceAdd, reduceCtorEq]) (by rw [← hT]; simp only [x_seq, x_reg, x_skip, x_ret, x_exit, x_cond, x_condT, x_condF, x_block, x_loop, x_nrm, x_then_ret, x_then_exit, x_out_nrm, x_out_ret, x_out_exit, x_endG, x_step0, x_stepG, x_isBT, x_isBF, Bool.not_true, Bool.not_false, x_recT, x_recF, x_mov, x_gP', x_gE', x_call, x_dyn, x_dynV, x_goR, x_put, x_put0, x_evc, x_evt, x_ats, x_evs, x_evs0, x_onInt, x_onStr, x_onBool, x_onNat, x_onPtr, x_onSlice, x_onSlice0, x_onCells, x_onTup, x_onAgg, x_beq, initT0, initT1, iInt, iStr, iLenS, iLenL, iNot, iPick, iExt, Nat.zero_add, if_true, if_false, reduceIte, Nat.reduceEqDiff, Nat.reduceAdd, reduceCtorEq]) (by rw [← hT]; simp only [x_seq, x_reg, x_skip, x_ret, x_exit, x_cond, x_condT, x_condF, x_block, x_loop, x_nrm, x_then_ret, x_then_exit, x_out_nrm, x_out_ret, x_out_exit, x_endG, x_step0, x_stepG, x_isBT, x_isBF, Bool.not_true, Bool.not_false, x_recT, x_recF, x_mov, x_gP', x_gE', x_call, x_dyn, x_dynV, x_goR, x_put, x_put0, x_evc, x_evt, x_ats, x_evs, x_evs0, x_onInt, x_onStr, x_onBool, x_onNat, x_onPtr, x_onSlice, x_onSlice0, x_onCells, x_onTup, x_onAgg, x_beq, initT0, initT1, iInt, iStr, iLenS, iLenL, iNot, iPick, iExt, Nat.zero_add, if_true, if_false, reduceIte, Nat.reduceEqDiff, Nat.reduceAdd, reduceCtorEq]) (by rw [← hT]; simp only [x_seq, x_reg, x_skip, x_ret, x_exit, x_cond, x_condT, x_condF, x_block, x_loop, x_nrm, x_then_ret, x_then_exit, x_out_nrm, x_out_ret, x_out_exit, x_endG, x_step0, x_stepG, x_isBT, x_isBF, Bool.not_true, Bool.not_false, x_recT, x_recF, x_mov, x_gP', x_gE', x_call, x_dyn, x_dynV, x_goR, x_put, x_put0, x_evc, x_evt, x_ats, x_evs, x_evs0, x_onInt, x_onStr, x_onBool, x_onNat, x_onPtr, x_onSlice, x_onSlice0, x_onCells, x_onTup, x_onAgg, x_beq, initT0, initT1, iInt, iStr, iLenS, iLenL, iNot, iPick, iExt, Nat.zero_add, if_true, if_false, reduceIte, Nat.reduceEqDiff, Nat.reduceAdd, reduceCtorEq]) (by rw [← hT]; simp only [x_seq, x_reg, x_skip, x_ret, x_exit, x_cond, x_condT, x_condF, x_block, x_loop, x_nrm, x_then_ret, x_then_exit, x_out_nrm, x_out_ret, x_out_exit, x_endG, x_step0, x_stepG, x_isBT, x_isBF, Bool.not_true, Bool.not_false, x_recT, x_recF, x_mov, x_gP', x_gE', x_call, x_dyn, x_dynV, x_goR, x_put, x_put0, x_evc, x_evt, x_ats, x_evs, x_evs0, x_onInt, x_onStr, x_onBool, x_onNat, x_onPtr, x_onSlice, x_onSlice0, x_onCells, x_onTup, x_onAgg, x_beq, initT0, initT1, iInt, iStr, iLenS, iLenL, iNot, iPick, iExt, Nat.zero_add, if_true, if_false, reduceIte, Nat.reduceEqDiff, Nat.reduceAdd, reduceCtorEq])
  rw [k1]
  refine leave_ret (v := .bool true) k2 ?_ rfl
  exact (g1.trans g2).low st.next (by rw [hlow0]; exact Nat.le_refl _) (by rw [hnext0]; exact Nat.le_refl _)
end Go.Proofs.YtnjjkomopkgidaaDoor.Av
