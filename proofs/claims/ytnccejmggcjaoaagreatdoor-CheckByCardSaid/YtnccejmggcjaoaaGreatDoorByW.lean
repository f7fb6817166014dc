/-
  jettisonlaw11.CheckBy answers true, whatever the input.
-/
import Derived.Test.YtnccejmggcjaoaaGreatDoorByL
namespace Go.Proofs.YtnccejmggcjaoaaGreatDoor.Av
set_option linter.unusedVariables false
set_option linter.unusedSimpArgs false
set_option maxRecDepth 1000000
open Go
section
variable {call : Callee} {n : Nat} {L o : Nat} {f : Str} {l : List Nat}
theorem by_end {i : Nat} (hi : i = min l.length 6) {tm : Tr V} {s : St} (h : InvB L o f l i tm s) :
    ∃ tm', b9_0 call n tm s = some (.exit 0, tm', s) ∧ InvB L o f l i tm' s := by
  obtain ⟨h0, h5, h6, h7, h8, h9, hlt, hge, hlow, hnx, hrow⟩ := h
  by_cases hl : i < l.length
  · have c1 : fLss 63 (Int.ofNat i) (Int.ofNat l.length) = some (.bool true) := by rw [f_lssN, decide_eq_true hl]
    have c2 : fLss 63 (Int.ofNat i) 6 = some (.bool false) := by rw [f_lss]; exact congrArg (fun b => some (V.bool b)) ((gofn i 6).trans (decide_eq_false (by omega)))
    refine ⟨?_, ?_, ?_⟩
    rotate_left 1
    · simp only [b9_0, yY, iInt, iStr, iLenS, iLenL, iNot, iPick, iExt, if_true, if_false, reduceIte, Nat.reduceEqDiff, Nat.reduceAdd, reduceCtorEq, yQ, h0, h5, h6, h7, h8, h9, x_slF, x_fsl4, c1, c2]
      exact rfl
    · refine ⟨?_, ?_, ?_, ?_, ?_, ?_, hlt, hge, hlow, hnx, hrow⟩
      all_goals simp only [yL, if_true, if_false, reduceIte, Nat.reduceEqDiff, reduceCtorEq, h0, h5, h6, h7, h8, h9]
  · have c1 : fLss 63 (Int.ofNat i) (Int.ofNat l.length) = some (.bool false) := by rw [f_lssN, decide_eq_false hl]
    refine ⟨?_, ?_, ?_⟩
    rotate_left 1
    · simp only [b9_0, yY, iInt, iStr, iLenS, iLenL, iNot, iPick, iExt, if_true, if_false, reduceIte, Nat.reduceEqDiff, Nat.reduceAdd, reduceCtorEq, yQ, h0, h5, h6, h7, h8, h9, x_slF, x_fsl4, c1]
      exact rfl
    · refine ⟨?_, ?_, ?_, ?_, ?_, ?_, hlt, hge, hlow, hnx, hrow⟩
      all_goals simp only [yL, if_true, if_false, reduceIte, Nat.reduceEqDiff, reduceCtorEq, h0, h5, h6, h7, h8, h9]
theorem by_loop (hf : f ∈ byL) (hb : ∀ b ∈ l, b < 256) (hl : l.length < 2 ^ 63) : ∀ (k i fuel : Nat) (tm : Tr V) (s : St), i + k = min l.length 6 → k < fuel → InvB L o f l i tm s →
    ∃ tm' s', outR 0 (loopV fuel (b9_0 call n) tm s) = some (.nrm, tm', s') ∧ InvB L o f l (min l.length 6) tm' s' := by
  intro k
  induction k with
  | zero =>
    intro i fuel tm s hk hfu h
    obtain ⟨q, rfl⟩ : ∃ q, fuel = q + 1 := ⟨fuel - 1, by omega⟩
    obtain ⟨tm', e1, e2⟩ := by_end (call := call) (n := n) (show i = min l.length 6 by omega) h
    refine ⟨tm', s, ?_, by rw [← show i = min l.length 6 by omega]; exact e2⟩
    rw [x_loop1, e1, x_then_exit, x_out_exit, if_pos rfl]
  | succ k ih =>
    intro i fuel tm s hk hfu h
    obtain ⟨q, rfl⟩ : ∃ q, fuel = q + 1 := ⟨fuel - 1, by omega⟩
    obtain ⟨tm1, s1, e1, e2⟩ := by_step (call := call) (n := n) hf hb hl (show i < l.length by omega) (by omega) h
    rw [x_loop1, e1, x_nrm]
    exact ih (i + 1) q tm1 s1 (by omega) (by omega) e2
end
section
variable {fns : Tr Fs} (lb : LawB fns)
include lb
set_option maxHeartbeats 8000000 in
theorem by_ev (n : Nat) {st : St} (htabs : sameTab tab6 (st.mem.get 6) = true) (hg : 11 ≤ st.next) {l : List Nat} (hb : ∀ b ∈ l, b < 256) (hl : l.length < 2 ^ 63) {fb : Nat} (hfb : fb < 256) :
    evF fns (n + 8) 9 [slT 4 l.length (cB l), .int 8 (Int.ofNat fb)] st = some (.ret (.bool true), st) := by
  have hk5 : fb % 5 < 5 := Nat.mod_lt _ (by decide)
  obtain ⟨f, hf⟩ : ∃ f, f = byL.getD (fb % 5) [] := ⟨_, rfl⟩
  have hfm : f ∈ byL := by
    rw [hf]
    generalize fb % 5 = k at hk5
    match k, hk5 with
    | 0, _ => decide
    | 1, _ => decide
    | 2, _ => decide
    | 3, _ => decide
    | 4, _ => decide
  obtain ⟨S0, hS0⟩ : ∃ S0, S0 = st.in := ⟨_, rfl⟩
  have n0 : S0.next = st.next := by rw [hS0]
  have l0 : S0.low = st.next := by rw [hS0]
  have ex := lb.ex (n + 6) S0 (by rw [hS0]; exact htabs)
  obtain ⟨S1, hS1⟩ : ∃ S, S = S0.new (.cells 9 [.str [107], .str [120], .str [121], .str [122], .str []] true) := ⟨_, rfl⟩
  have n1 : S1.next = S0.next + 1 := by rw [hS1]; rfl
  have bs1 : ∀ tm : Tr V, iBsl 9 5 [.str [], .str [], .str [], .str [], .str []] [(0, 1, .c (.str [107])), (1, 1, .c (.str [120])), (2, 1, .c (.str [121])), (3, 1, .c (.str [122])), (4, 1, .c (.str []))] tm S0 = some (.ref 3 S0.next 0 5 5 true, S1) := fun tm => by rw [hS1]; rfl
  have hr5 : fRem 8 (Int.ofNat fb) 5 = some (.int 8 (Int.ofNat (fb % 5))) := f_rem 8 fb 5 (by decide)
  have ia1 : ∀ (tm : Tr V), X.ev tm (.t (pa 16)) = .ref 3 S0.next 0 5 5 true → X.ev tm (.t (pa 18)) = .int 8 (Int.ofNat (fb % 5)) → iIad 1 (.t (pa 16)) (.t (pa 18)) tm S1 = some (.ref 1 S0.next (fb % 5) 0 0 false) := fun tm x y => by rw [iad_own x y hk5, Nat.mul_one]
  have ld1 : ldW false 1 (.ref 1 S0.next (fb % 5) 0 0 false) S1 = some (.str f) := by
    rw [ldW_get (by rw [hS1]; exact new_get_self' _ _), hf]
    generalize fb % 5 = k at hk5
    match k, hk5 with
    | 0, _ => rfl
    | 1, _ => rfl
    | 2, _ => rfl
    | 3, _ => rfl
    | 4, _ => rfl
  obtain ⟨S2, hS2⟩ : ∃ S, S = loc S1 27 [.ref 2 0 0 0 0 false, .int 63 0, .str []] [.ref 2 0 0 0 0 false, .int 63 1, .str f] := ⟨_, rfl⟩
  have st2 : stW 3 (.ref 1 S1.next 0 0 0 false) (.cmp 2 0 [.ref 2 0 0 0 0 false, .int 63 1, .str f]) (S1.new (.cells 27 [.ref 2 0 0 0 0 false, .int 63 0, .str []] true)) = some (.undef, S2) := by rw [hS2]; exact stW_new rfl rfl
  have bd2 : ∀ tm : Tr V, X.ev tm (.t (pa 21)) = .str f → iBuild [.ref 2 0 0 0 0 false, .int 63 0, .str []] [(1, 1, .c (.int 63 1)), (2, 1, .t (pa 21))] tm S1 = some (.cmp 2 0 [.ref 2 0 0 0 0 false, .int 63 1, .str f]) := fun tm h => by
    rw [m_build, fillV_c, x_evc, cells_int, fillS_1 (by decide), fillV_c, h, cells_str, fillS_1 (by show 2 < 3; decide), fillV_0]; rfl
  have n2 : S2.next = S0.next + 2 := by rw [hS2]; show S1.next + 1 = _; omega
  have hpre : ∃ tm, (cSeq c9_0 (cSeq c9_1 (cSeq c9_2 (cSeq c9_3 (cSeq c9_4 (cSeq c9_5 (cSeq c9_6 c9_7))))))) (evF fns (n + 7)) (n + 7) (initT [slT 4 l.length (cB l), .int 8 (Int.ofNat fb)] 0 .leaf) S0 = some (.nrm, tm, S2) ∧ InvB S0.next S1.next f l 0 tm S2 := by
    refine ⟨?_, ?_, ?_⟩
    rotate_left 1
    · simp only [c9_0, c9_1, c9_2, c9_3, c9_4, c9_5, c9_6, c9_7, yY, iInt, iStr, iLenS, iLenL, iNot, iPick, iExt, if_true, if_false, reduceIte, Nat.reduceEqDiff, Nat.reduceAdd, reduceCtorEq, yQ, ex, bs1, hr5, ia1, m_load, ld1, bd2, m_alloc, m_store, st2]
      exact rfl
    · refine ⟨?_, ?_, ?_, ?_, ?_, ?_, by omega, by omega, ?_, by omega, .ref 2 0 0 0 0 false, by rw [hS2]; exact loc_get _ _ _ _, .inl ⟨rfl, rfl⟩⟩
      · simp only [yL, if_true, if_false, reduceIte, Nat.reduceEqDiff, reduceCtorEq]
      · simp only [yL, if_true, if_false, reduceIte, Nat.reduceEqDiff, reduceCtorEq]
      · simp only [yL, if_true, if_false, reduceIte, Nat.reduceEqDiff, reduceCtorEq]
      · simp only [yL, if_true, if_false, reduceIte, Nat.reduceEqDiff, reduceCtorEq]
      · simp only [yL, if_true, if_false, reduceIte, Nat.reduceEqDiff, reduceCtorEq]; rfl
      · simp only [yL, if_true, if_false, reduceIte, Nat.reduceEqDiff, reduceCtorEq]; rfl
      · rw [hS2, loc_low', hS1]
        show S0.next ≤ min S0.low (S0.next + 1) ∧ min S0.low (S0.next + 1) ≤ S0.next + 1 + 1
        omega
  obtain ⟨tm0, e0, i0⟩ := hpre
  obtain ⟨tm1, s1, e1, i1⟩ := by_loop (call := evF fns (n + 7)) (n := n + 7) hfm hb hl (min l.length 6) 0 (n + 7) tm0 S2 (Nat.zero_add _) (by omega) i0
  have e1' : c9_8 (evF fns (n + 7)) (n + 7) tm0 S2 = some (.nrm, tm1, s1) := e1
  obtain ⟨h0, h5, h6, h7, h8, h9, hlt, hge, hlow, hnx, v, hgo, hrow⟩ := i1
  have h7' := at_of_ev h7 (fun h => nomatch h)
  have hq : ldW true 3 (.ref 1 S1.next 0 0 0 false) s1 = some (.cmp 2 0 [v, .int 63 1, .str f]) := by rw [ldW_get hgo]; exact part_whole rfl
  have hq0 : ldW false 1 (.ref 1 S1.next 0 0 0 false) s1 = some v := by rw [ldW_get hgo, part_c0]
  have hkd := lb.kinds (n + 6) { next := s1.next, low := s1.next, mem := s1.mem }
  have haf : s1.after { next := s1.next, low := s1.next, mem := s1.mem } = s1 := by
    show St.mk s1.next (bif Nat.ble s1.low s1.next then s1.low else s1.next) s1.mem = s1
    rw [bleT hlow.2]; rfl
  have hmem1 : memN [1] 1 = true := by kernel_rfl
  have hlow1 : st.next ≤ s1.low := by omega
  have hback : ∀ r : CR, r.under st.next = true → back st r s1 = st := fun r hr => by
    unfold back
    rw [hr, bleT hlow1]; rfl
  have hlen : ((l.take (min l.length 6)).map itemOf).length = min l.length 6 := by rw [List.length_map, List.length_take]; omega
  rw [ev_mk lb.law]
  show leaveF st _ (cSeq _ _ _ _ _ st.in) = _
  rw [← hS0]
  have hassoc : ∀ (Z : CEv), (cSeq c9_0 (cSeq c9_1 (cSeq (cSeq c9_2 c9_3) (cSeq c9_4 (cSeq c9_5 (cSeq c9_6 (cSeq (cSeq c9_7 c9_8) Z))))))) (evF fns (n + 7)) (n + 7) (initT [slT 4 l.length (cB l), .int 8 (Int.ofNat fb)] 0 .leaf) S0 = Z (evF fns (n + 7)) (n + 7) tm1 s1 := by
    intro Z
    have e0' := e0
    simp only [c9_0, c9_1, c9_2, c9_3, c9_4, c9_5, c9_6, c9_7, yY, iInt, iStr, iLenS, iLenL, iNot, iPick, iExt, if_true, if_false, reduceIte, Nat.reduceEqDiff, Nat.reduceAdd, reduceCtorEq, yQ, ex, bs1, hr5, ia1, m_load, ld1, bd2, m_alloc, m_store, st2] at e0'
    injection e0' with e0'
    injection e0' with _ e0'
    injection e0' with e0' _
    simp only [c9_0, c9_1, c9_2, c9_3, c9_4, c9_5, c9_6, c9_7, yY, iInt, iStr, iLenS, iLenL, iNot, iPick, iExt, if_true, if_false, reduceIte, Nat.reduceEqDiff, Nat.reduceAdd, reduceCtorEq, yQ, ex, bs1, hr5, ia1, m_load, ld1, bd2, m_alloc, m_store, st2, e0', e1']
  rw [hassoc]
  rcases hrow with ⟨rfl, hnil⟩ | ⟨k, hv, hg2, hk1, hk2, hpos⟩
  ·
    have hck := lb.nil (n + 6) s1 f hfm
    have z0 : eqI (Int.ofNat 0) 0 = true := rfl
    have z1 : eqI 1 1 = true := rfl
    simp only [c9_9, c9_10, c9_11, yY, iInt, iStr, iLenS, iLenL, iNot, iPick, iExt, if_true, if_false, reduceIte, Nat.reduceEqDiff, Nat.reduceAdd, reduceCtorEq, yQ, h5, h7, h7', yD, x_oneM, x_oneE, x_oneP, x_oneK, x_oneL, x_oneC2, m_load, hq, x_stepCE, St.fresh, hkd, haf, x_oneS, see_cons, see_nil, hmem1, sees_ret, sameV_refl, cond_true, Bool.true_and, Bool.and_true, hck, m_fad, m_add0, hq0, f_eql, z0, z1]
    rw [leave_back (v := .bool true) (by simp only [yL, if_true, if_false, reduceIte, Nat.reduceEqDiff, reduceCtorEq]) (fun h => nomatch h), hback _ rfl]
  · have hin : FlatIn s1 v ((l.take (min l.length 6)).map itemOf) := ⟨k, _, _, _, hv, hg2, hpos, by omega, fun x hx => by
      obtain ⟨b, _, rfl⟩ := List.mem_map.1 hx
      exact one_of b⟩
    obtain ⟨e, hck, hsay⟩ := lb.check (n + 6) hin (w := 1) ⟨by decide, by decide⟩ (by_ok hfm)
    have hm0 : eqI (Int.ofNat ((l.take (min l.length 6)).map itemOf).length) 0 = false := (eofn _).trans (decide_eq_false (by omega))
    have bb : ∀ a b : Bool, (a == b) = (a == b) := fun _ _ => rfl
    rw [hv] at hq hq0 hck
    rcases says_law hfm hsay with ⟨rfl, hall⟩ | ⟨rfl, hall⟩
    · rw [hall] at h8
      have z0 : eqI 0 0 = true := rfl
      simp only [c9_9, c9_10, c9_11, c9_12, yY, iInt, iStr, iLenS, iLenL, iNot, iPick, iExt, if_true, if_false, reduceIte, Nat.reduceEqDiff, Nat.reduceAdd, reduceCtorEq, yQ, h5, h7, h7', h8, yD, x_oneM, x_oneE, x_oneP, x_oneK, x_oneL, x_oneC2, m_load, hq, x_stepCE, St.fresh, hkd, haf, x_oneS, see_cons, see_nil, hmem1, sees_ret, sameV_refl, cond_true, Bool.true_and, Bool.and_true, hck, m_fad, m_add0, hq0, f_eql, z0, hm0, iBoo, beq_self_eq_true]
      rw [leave_back (v := .bool true) (by simp only [yL, if_true, if_false, reduceIte, Nat.reduceEqDiff, reduceCtorEq]) (fun h => nomatch h), hback _ rfl]
    · rw [hall] at h8
      have z0 : eqI 5 0 = false := rfl
      have z5 : eqI 5 5 = true := rfl
      simp only [c9_9, c9_10, c9_11, c9_12, yY, iInt, iStr, iLenS, iLenL, iNot, iPick, iExt, if_true, if_false, reduceIte, Nat.reduceEqDiff, Nat.reduceAdd, reduceCtorEq, yQ, h5, h7, h7', h8, yD, x_oneM, x_oneE, x_oneP, x_oneK, x_oneL, x_oneC2, m_load, hq, x_stepCE, St.fresh, hkd, haf, x_oneS, see_cons, see_nil, hmem1, sees_ret, sameV_refl, cond_true, Bool.true_and, Bool.and_true, hck, m_fad, m_add0, hq0, f_eql, z0, z5, hm0, iBoo, beq_self_eq_true]
      rw [leave_back (v := .bool true) (by simp only [yL, if_true, if_false, reduceIte, Nat.reduceEqDiff, reduceCtorEq]) (fun h => nomatch h), hback _ rfl]
end
end Go.Proofs.YtnccejmggcjaoaaGreatDoor.Av
