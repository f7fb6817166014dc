/-
  jettisonlaw12.PathStraight answers true, whatever the input.
-/
import Derived.Test.YtnccejmggcjaoaaGreatDoorStr
namespace Go.Proofs.YtnccejmggcjaoaaGreatDoor.Av
set_option linter.unusedVariables false
set_option linter.unusedSimpArgs false
set_option maxRecDepth 1000000
open Go
theorem cPs_drop : ∀ (k : Nat) (l : List Sp), (cPs l).drop (k * 4) = cPs (l.drop k)
  | 0, l => by simp
  | k + 1, [] => by simp [cPs]
  | k + 1, e :: l => by
    rw [List.drop_succ_cons, ← cPs_drop k l, show (k + 1) * 4 = 4 + k * 4 by omega]
    show ((cP e ++ cPs l).drop (4 + k * 4)) = _
    rw [List.drop_append, show (cP e).length = 4 from rfl, Nat.add_sub_cancel_left, List.drop_of_length_le (by show 4 ≤ _; omega)]; rfl
theorem iad_P {L : List Sp} {x y : X} {tm : Tr V} {st : St} {i : Nat} (hx : x.ev tm = slT 4 L.length (cPs L)) (hy : y.ev tm = .int 63 (Int.ofNat i)) (hi : i < L.length) : iIad 4 x y tm st = some (.cmp 5 0 (cP L[i] ++ cPs (L.drop (i + 1)))) := by
  have hc : (cPs L).drop (i * 4) = cP L[i] ++ cPs (L.drop (i + 1)) := by rw [cPs_drop, List.drop_eq_getElem_cons hi]; rfl
  rw [m_iad4 hx hy hi (by rw [cPs_len]; omega), hc]
theorem rI_len (x : It) : (rI x).length = 7 := by cases x; rfl
theorem rIs_at : ∀ (l : List It) (i j : Nat) (hi : i < l.length), j < 7 → (rIs l)[i * 7 + j]? = (rI l[i])[j]?
  | x :: l, 0, j, _, hj => by
    show (rI x ++ rIs l)[0 * 7 + j]? = (rI x)[j]?
    rw [Nat.zero_mul, Nat.zero_add, List.getElem?_append_left (by rw [rI_len]; exact hj)]
  | x :: l, i + 1, j, hi, hj => by
    show (rI x ++ rIs l)[(i + 1) * 7 + j]? = (rI (l[i]'(by simpa using hi)))[j]?
    rw [List.getElem?_append_right (by rw [rI_len]; omega), rI_len, show (i + 1) * 7 + j - 7 = i * 7 + j by omega]
    exact rIs_at l i j (by simpa using hi) hj
theorem mem3a : memN [11, 14, 18] 11 = true := by kernel_rfl
theorem mem3b : memN [11, 14, 18] 14 = true := by kernel_rfl
theorem mem3c : memN [11, 14, 18] 18 = true := by kernel_rfl
theorem mem1a : memN [11] 11 = true := by kernel_rfl
theorem mem1b : memN [11] 14 = false := by kernel_rfl
theorem mem1c : memN [11] 18 = false := by kernel_rfl
structure InvSu (L o r m : Nat) (l : List Nat) (i : Nat) (tm : Tr V) (s : St) : Prop where
  p3 : X.ev tm (.t (pa 3)) = .bool true
  p4 : X.ev tm (.t (pa 4)) = .int 63 (Int.ofNat m)
  p5 : X.ev tm (.t (pa 5)) = .ref 1 o 0 0 0 false
  p8 : X.ev tm (.t (pa 8)) = slT 4 1 [slT 4 ((itsS l m).map stepOf).length (cPs ((itsS l m).map stepOf))]
  p10 : X.ev tm (.t (pa 10)) = .int 63 (Int.ofNat i)
  lt : o < s.next
  low : L ≤ s.low ∧ s.low ≤ s.next
  nx : L ≤ s.next
  q : s.mem.get o = some (.cells 27 [.ref 3 r 0 m m false, .int 63 3, .str []] true)
  rl : r < s.next
  row : s.mem.get r = some (.cells 34 (rIs (itsS l m)) true)
section
variable {fns : Tr Fs} (ls : LawS fns)
include ls
set_option maxHeartbeats 16000000 in
theorem chk_step {L o r m n : Nat} {l : List Nat} {i : Nat} (hi : i < m) (hm : m ≤ 11) {tm : Tr V} {s : St} (h : InvSu L o r m l i tm s) :
    ∃ tm' s', b11_1 (evF fns (n + 1)) (n + 1) tm s = some (.nrm, tm', s') ∧ InvSu L o r m l (i + 1) tm' s' := by
  obtain ⟨h3, h4, h5, h8, h10, hlt, hlow, hnx, hq, hrl, hrow⟩ := h
  have hil : i < (itsS l m).length := by rw [itsS_len]; exact hi
  have hit? : (itsS l m)[i]? = some (itS l i) := by unfold itsS; rw [List.getElem?_map, List.getElem?_range hi]; rfl
  have hit : (itsS l m)[i] = itS l i := (List.getElem?_eq_some_iff.1 hit?).2
  obtain ⟨P, hP⟩ : ∃ P, P = (itsS l m).map stepOf := ⟨_, rfl⟩
  have hPl : P.length = m := by rw [hP, List.length_map, itsS_len]
  have hPi : i < P.length := by omega
  have hfk := (nmS_fnd l i).1
  obtain ⟨k, hk⟩ : ∃ k, k = kb l i % 3 := ⟨_, rfl⟩
  rw [← hk] at hfk
  have hk3 : k < 3 := by rw [hk]; exact Nat.mod_lt _ (by decide)
  have hst : P[i] = (k, vS i) := by
    have : P[i] = stepOf (itsS l m)[i] := by simp only [hP, List.getElem_map]
    rw [this, hit]; show (kOf (nmS l i), vS i) = _; rw [kOf_eq hfk]
  have c1 : fLss 63 (Int.ofNat i) (Int.ofNat m) = some (.bool true) := by rw [f_lssN, decide_eq_true hi]
  rw [← hP] at h8
  have ia1 : ∀ (tm : Tr V) (s : St), X.ev tm (.t (pa 78)) = slT 4 1 [slT 4 P.length (cPs P)] → iIad 1 (.t (pa 78)) (.c (.int 63 0)) tm s = some (.cmp 5 0 [slT 4 P.length (cPs P)]) := fun tm s x => by
    rw [m_iad4 (k := 0) x rfl (by decide) (by show 0 < 1; decide)]; rfl
  have ld1 : ∀ s : St, ldW false 1 (.cmp 5 0 [slT 4 P.length (cPs P)]) s = some (slT 4 P.length (cPs P)) := fun s => by rw [ldW_5, part_c0]
  have ia2 : ∀ (tm : Tr V) (s : St), X.ev tm (.t (pa 80)) = slT 4 P.length (cPs P) → X.ev tm (.t (pa 81)) = .int 63 (Int.ofNat i) → iIad 4 (.t (pa 80)) (.t (pa 81)) tm s = some (.cmp 5 0 (cP (k, vS i) ++ cPs (P.drop (i + 1)))) := fun tm s x y => by rw [iad_P x y hPi, hst]
  have ld2 : ldW true 4 (.cmp 5 0 (cP (k, vS i) ++ cPs (P.drop (i + 1)))) s = some (.cmp 2 0 (cP (k, vS i))) := by rw [ldW_5, part_app (show (cP (k, vS i)).length = 4 from rfl)]
  obtain ⟨T, hT⟩ : ∃ T, T = loc s 89 [.int 63 0, .str [], nilS, nilS] (cP (k, vS i)) := ⟨_, rfl⟩
  have stT : stW 4 (.ref 1 s.next 0 0 0 false) (.cmp 2 0 (cP (k, vS i))) (s.new (.cells 89 [.int 63 0, .str [], .ref 2 0 0 0 0 false, .ref 2 0 0 0 0 false] true)) = some (.undef, T) := by rw [hT]; exact stW_new rfl rfl
  have nT : T.next = s.next + 1 := by rw [hT, loc_next]
  have lp : ∀ g i' q, ldW g q (.ref 1 s.next i' 0 0 false) T = part g [.int 63 (Int.ofNat k), .str (vS i), e4, e4] i' q := fun g i' q => by rw [hT]; exact ldW_loc
  have gq : T.mem.get o = some (.cells 27 [.ref 3 r 0 m m false, .int 63 3, .str []] true) := by rw [hT, loc_ne (by omega)]; exact hq
  have gr : T.mem.get r = some (.cells 34 (rIs (itsS l m)) true) := by rw [hT, loc_ne (by omega)]; exact hrow
  have lq : ldW false 1 (.ref 1 o 0 0 0 false) T = some (.ref 3 r 0 m m false) := by rw [ldW_get gq, part_c0]
  have hrx : rI (itsS l m)[i] = [.int 63 0, .str (nmS l i), .str (vS i), .ref 2 0 0 0 0 false, .int 63 0, .int 63 0, .ref 2 0 0 0 0 false] := by rw [hit]; rfl
  have lv : ldW false 1 (.ref 1 r (Nat.add (i * 7) 2) 0 0 false) T = some (.str (vS i)) := by
    rw [ldW_get gr]
    exact part_nth ((rIs_at (itsS l m) i 2 hil (by decide)).trans (by rw [hrx]; rfl))
  have ln : ldW false 1 (.ref 1 r (Nat.add (i * 7) 1) 0 0 false) T = some (.str (nmS l i)) := by
    rw [ldW_get gr]
    exact part_nth ((rIs_at (itsS l m) i 1 hil (by decide)).trans (by rw [hrx]; rfl))
  have ia3 : ∀ (tm : Tr V) (x y : Pa), X.ev tm (.t x) = .ref 3 r 0 m m false → X.ev tm (.t y) = .int 63 (Int.ofNat i) → iIad 7 (.t x) (.t y) tm T = some (.ref 1 r (i * 7) 0 0 false) := fun tm x y a b => iad_own a b hi
  have cmpv : sNeq (vS i) (vS i) = some (.bool false) := by
    show some (V.bool (!eqS (vS i) (vS i))) = _
    rw [eqS_eq, decide_eq_true rfl]; rfl
  have cmpk : fNeq 63 (Int.ofNat k) (Int.ofNat k) = some (.bool false) := by
    show some (V.bool (!eqI (Int.ofNat k) (Int.ofNat k))) = _
    rw [eqI_nat, decide_eq_true rfl]; rfl
  have lowT : T.low ≤ T.next := by rw [hT, loc_low', loc_next]; omega
  have hkd := ls.kinds n { next := T.next, low := T.next, mem := T.mem }
  have hfd := ls.find n hfk { next := T.next, low := T.next, mem := T.mem }
  have haf : T.after { next := T.next, low := T.next, mem := T.mem } = T := by
    show St.mk T.next (bif Nat.ble T.low T.next then T.low else T.next) T.mem = T
    rw [bleT lowT]; rfl
  have z0 : fGtr 63 (Int.ofNat 0) 0 = some (.bool false) := rfl
  have hadd : fAdd 63 (Int.ofNat i) 1 = some (.int 63 (Int.ofNat (i + 1))) := f_add 63 i 1 (by omega)
  have h5' := at_of_ev h5 (fun h => nomatch h)
  have h10' := at_of_ev h10 (fun h => nomatch h)
  have fin : ∀ tm' : Tr V, X.ev tm' (.t (pa 3)) = .bool true → X.ev tm' (.t (pa 4)) = .int 63 (Int.ofNat m) → X.ev tm' (.t (pa 5)) = .ref 1 o 0 0 0 false → X.ev tm' (.t (pa 8)) = slT 4 1 [slT 4 P.length (cPs P)] → X.ev tm' (.t (pa 10)) = .int 63 (Int.ofNat (i + 1)) → InvSu L o r m l (i + 1) tm' T := fun tm' e3 e4_ e5 e8 e10 =>
    ⟨e3, e4_, e5, by rw [← hP]; exact e8, e10, by omega, by rw [hT, loc_low', loc_next]; omega, by omega, gq, by omega, gr⟩
  clear hP hst hrow hq gq gr hrx hit hit?
  refine ⟨?_, T, ?_, ?_⟩
  rotate_left 1
  · simp only [b11_1, yY, iInt, iStr, iLenS, iLenL, iNot, iPick, iExt, if_true, if_false, reduceIte, Nat.reduceEqDiff, Nat.reduceAdd, reduceCtorEq, yQ, h3, h4, h5, h5', h8, h10, h10', c1, ia1, m_load, ld1, ia2, ld2, m_alloc, m_store, stT, yD, x_oneM, x_oneE, x_oneP, x_oneK, x_oneL, x_oneC2, m_fad, m_add0, lp, part_c0, part_cs, lq, ia3, lv, ln, cmpv, x_stepCE, St.fresh, hkd, haf, x_oneS, see_cons, see_nil, mem3a, mem3b, mem3c, mem1a, mem1b, mem1c, sees_ret, sameV_refl, cond_true, cond_false, Bool.true_and, Bool.and_true, hfd, cmpk, x_slF, x_fsl4, z0, hadd]
    exact rfl
  · refine fin _ ?_ ?_ ?_ ?_ ?_
    all_goals simp only [yL, if_true, if_false, reduceIte, Nat.reduceEqDiff, reduceCtorEq, h3, h4, h5, h8]
theorem chk_loop {L o r m n : Nat} {l : List Nat} (hm : m ≤ 11) : ∀ (k i fuel : Nat) (tm : Tr V) (s : St), i + k = m → k < fuel → InvSu L o r m l i tm s →
    ∃ tm' s', outR 2 (loopV fuel (b11_1 (evF fns (n + 1)) (n + 1)) tm s) = some (.nrm, tm', s') ∧ InvSu L o r m l m tm' s' := by
  intro k
  induction k with
  | zero =>
    intro i fuel tm s hk hfu h
    obtain ⟨q, rfl⟩ : ∃ q, fuel = q + 1 := ⟨fuel - 1, by omega⟩
    obtain rfl : i = m := by omega
    obtain ⟨h3, h4, h5, h8, h10, y1, y2, y3, y4, y5, y6⟩ := h
    have c1 : fLss 63 (Int.ofNat i) (Int.ofNat i) = some (.bool false) := by rw [f_lssN, decide_eq_false (by omega)]
    have e1 : ∃ tm', b11_1 (evF fns (n + 1)) (n + 1) tm s = some (.exit 2, tm', s) ∧ X.ev tm' (.t (pa 3)) = .bool true ∧ X.ev tm' (.t (pa 4)) = .int 63 (Int.ofNat i) ∧ X.ev tm' (.t (pa 5)) = .ref 1 o 0 0 0 false ∧ X.ev tm' (.t (pa 8)) = slT 4 1 [slT 4 ((itsS l i).map stepOf).length (cPs ((itsS l i).map stepOf))] ∧ X.ev tm' (.t (pa 10)) = .int 63 (Int.ofNat i) := by
      refine ⟨?_, ?_, ?_, ?_, ?_, ?_, ?_⟩
      rotate_left 1
      · simp only [b11_1, yY, iInt, iStr, iLenS, iLenL, iNot, iPick, iExt, if_true, if_false, reduceIte, Nat.reduceEqDiff, Nat.reduceAdd, reduceCtorEq, yQ, h4, h10, c1]
        exact rfl
      all_goals simp only [yL, if_true, if_false, reduceIte, Nat.reduceEqDiff, reduceCtorEq, h3, h4, h5, h8, h10]
    obtain ⟨tm', e1, e3, e4_, e5, e8, e10⟩ := e1
    refine ⟨tm', s, ?_, ⟨e3, e4_, e5, e8, e10, y1, y2, y3, y4, y5, y6⟩⟩
    rw [x_loop1, e1, x_then_exit, x_out_exit, if_pos rfl]
  | succ k ih =>
    intro i fuel tm s hk hfu h
    obtain ⟨q, rfl⟩ : ∃ q, fuel = q + 1 := ⟨fuel - 1, by omega⟩
    obtain ⟨tm1, s1, e1, e2⟩ := chk_step ls (n := n) (show i < m by omega) hm h
    rw [x_loop1, e1, x_nrm]
    exact ih (i + 1) q tm1 s1 (by omega) (by omega) e2
set_option maxHeartbeats 8000000 in
theorem str_ev (n : Nat) {st : St} (htabs : sameTab tab6 (st.mem.get 6) = true) {l : List Nat} (hl : l.length < 2 ^ 63) :
    evF fns (n + 15) 11 [slT 4 l.length (cB l)] st = some (.ret (.bool true), st) := by
  obtain ⟨m, hm⟩ : ∃ m, m = 1 + min l.length 10 := ⟨_, rfl⟩
  have hm11 : m ≤ 11 := by omega
  have hm0 : 0 < m := by omega
  obtain ⟨call, hcall⟩ : ∃ call, call = evF fns (n + 14) := ⟨_, rfl⟩
  obtain ⟨S0, hS0⟩ : ∃ S0, S0 = st.in := ⟨_, rfl⟩
  have n0 : S0.next = st.next := by rw [hS0]
  have l0 : S0.low = st.next := by rw [hS0]
  have ex := ls.ex (n + 13) S0 (by rw [hS0]; exact htabs)
  rw [← hcall] at ex
  have hmn : (bif ltI (10 : Int) (Int.ofNat l.length) then (10 : Int) else Int.ofNat l.length) = Int.ofNat (min l.length 10) := mn_nat l.length 10
  have had : fAdd 63 1 (Int.ofNat (min l.length 10)) = some (.int 63 (Int.ofNat m)) := by rw [hm]; exact f_add 63 1 (min l.length 10) (by omega)
  obtain ⟨S1, hS1⟩ : ∃ S, S = loc S0 27 [.ref 2 0 0 0 0 false, .int 63 0, .str []] [.ref 2 0 0 0 0 false, .int 63 3, .str []] := ⟨_, rfl⟩
  have st1 : stW 3 (.ref 1 S0.next 0 0 0 false) (.cmp 2 0 [.ref 2 0 0 0 0 false, .int 63 3, .str []]) (S0.new (.cells 27 [.ref 2 0 0 0 0 false, .int 63 0, .str []] true)) = some (.undef, S1) := by rw [hS1]; exact stW_new rfl rfl
  have bd1 : ∀ (tm : Tr V), iBuild [.ref 2 0 0 0 0 false, .int 63 0, .str []] [(1, 1, .c (.int 63 3))] tm S0 = some (.cmp 2 0 [.ref 2 0 0 0 0 false, .int 63 3, .str []]) := fun tm => by
    rw [m_build, fillV_c, x_evc, cells_int, fillS_1 (by decide), fillV_0]; rfl
  obtain ⟨t0, f0, a0⟩ : ∃ t, c11_0 call (n + 14) (Tr.leaf.to (pa 0) (some (slT 4 l.length (cB l)))) S0 = some (.nrm, t, S0) ∧ X.ev t (.t (pa 0)) = slT 4 l.length (cB l) := by
    refine ⟨?_, ?_, ?_⟩
    rotate_left 1
    · simp only [c11_0, yY, iInt, iStr, iLenS, iLenL, iNot, iPick, iExt, if_true, if_false, reduceIte, Nat.reduceEqDiff, Nat.reduceAdd, reduceCtorEq, yQ]; exact rfl
    · simp only [yL, if_true, if_false, reduceIte, Nat.reduceEqDiff, reduceCtorEq]
  obtain ⟨t1, f1, a1, b1⟩ : ∃ t, c11_1 call (n + 14) t0 S0 = some (.nrm, t, S0) ∧ X.ev t (.t (pa 0)) = slT 4 l.length (cB l) ∧ X.ev t (.t (pa 3)) = .bool true := by
    refine ⟨?_, ?_, ?_, ?_⟩
    rotate_left 1
    · simp only [c11_1, yY, iInt, iStr, iLenS, iLenL, iNot, iPick, iExt, if_true, if_false, reduceIte, Nat.reduceEqDiff, Nat.reduceAdd, reduceCtorEq, yQ, ex]; exact rfl
    all_goals simp only [yL, if_true, if_false, reduceIte, Nat.reduceEqDiff, reduceCtorEq, a0]
  obtain ⟨t2, f2, a2, b2⟩ : ∃ t, cSeq c11_2 c11_3 call (n + 14) t1 S0 = some (.nrm, t, S0) ∧ X.ev t (.t (pa 0)) = slT 4 l.length (cB l) ∧ X.ev t (.t (pa 3)) = .bool true := by
    refine ⟨?_, ?_, ?_, ?_⟩
    rotate_left 1
    · simp only [c11_2, c11_3, yY, iInt, iStr, iLenS, iLenL, iNot, iPick, iExt, if_true, if_false, reduceIte, Nat.reduceEqDiff, Nat.reduceAdd, reduceCtorEq, yQ, b1]; exact rfl
    all_goals simp only [yL, if_true, if_false, reduceIte, Nat.reduceEqDiff, reduceCtorEq, a1, b1]
  obtain ⟨t4, f4, a4, b4, d4⟩ : ∃ t, c11_4 call (n + 14) t2 S0 = some (.nrm, t, S0) ∧ X.ev t (.t (pa 0)) = slT 4 l.length (cB l) ∧ X.ev t (.t (pa 3)) = .bool true ∧ X.ev t (.t (pa 4)) = .int 63 (Int.ofNat m) := by
    refine ⟨?_, ?_, ?_, ?_, ?_⟩
    rotate_left 1
    · simp only [c11_4, yY, iInt, iStr, iLenS, iLenL, iNot, iPick, iExt, if_true, if_false, reduceIte, Nat.reduceEqDiff, Nat.reduceAdd, reduceCtorEq, yQ, a2, x_slF, x_fsl4, m_mn, cond_true, hmn, had]; exact rfl
    all_goals simp only [yL, if_true, if_false, reduceIte, Nat.reduceEqDiff, reduceCtorEq, a2, b2]
  obtain ⟨t5, f5, a5, b5, d5, g5⟩ : ∃ t, c11_5 call (n + 14) t4 S0 = some (.nrm, t, S1) ∧ X.ev t (.t (pa 0)) = slT 4 l.length (cB l) ∧ X.ev t (.t (pa 3)) = .bool true ∧ X.ev t (.t (pa 4)) = .int 63 (Int.ofNat m) ∧ X.ev t (.t (pa 5)) = .ref 1 S0.next 0 0 0 false := by
    refine ⟨?_, ?_, ?_, ?_, ?_, ?_⟩
    rotate_left 1
    · simp only [c11_5, yY, iInt, iStr, iLenS, iLenL, iNot, iPick, iExt, if_true, if_false, reduceIte, Nat.reduceEqDiff, Nat.reduceAdd, reduceCtorEq, yQ, bd1, m_alloc, m_store, st1]; exact rfl
    all_goals simp only [yL, if_true, if_false, reduceIte, Nat.reduceEqDiff, reduceCtorEq, a4, b4, d4]
  obtain ⟨t6, f6, i6⟩ : ∃ t, c11_6 call (n + 14) t5 S1 = some (.nrm, t, S1) ∧ InvSt S0.next S0.next m l 0 t S1 := by
    refine ⟨?_, ?_, ?_⟩
    rotate_left 1
    · simp only [c11_6, yY, iInt, iStr, iLenS, iLenL, iNot, iPick, iExt, if_true, if_false, reduceIte, Nat.reduceEqDiff, Nat.reduceAdd, reduceCtorEq, yQ]; exact rfl
    · refine ⟨?_, ?_, ?_, ?_, ?_, by rw [hS1, loc_next]; omega, Nat.le_refl _, by rw [hS1, loc_low', loc_next]; omega, by rw [hS1, loc_next]; omega, .ref 2 0 0 0 0 false, by rw [hS1]; exact loc_get _ _ _ _, .inl ⟨rfl, rfl⟩⟩
      · simp only [yL, if_true, if_false, reduceIte, Nat.reduceEqDiff, reduceCtorEq, a5]
      · simp only [yL, if_true, if_false, reduceIte, Nat.reduceEqDiff, reduceCtorEq, b5]
      · simp only [yL, if_true, if_false, reduceIte, Nat.reduceEqDiff, reduceCtorEq, d5]
      · simp only [yL, if_true, if_false, reduceIte, Nat.reduceEqDiff, reduceCtorEq, g5]
      · simp only [yL, if_true, if_false, reduceIte, Nat.reduceEqDiff, reduceCtorEq]; rfl
  obtain ⟨t7, S7, f7, i7⟩ := str_loop (call := call) (n := n + 14) hl hm11 m 0 (n + 14) t6 S1 (Nat.zero_add _) (by omega) i6
  have f7' : c11_7 call (n + 14) t6 S1 = some (.nrm, t7, S7) := f7
  obtain ⟨h0, h3, h4, h5, h6, hlt, hge, hlow, hnx, v, hq, hrow⟩ := i7
  rcases hrow with ⟨_, hnil⟩ | ⟨r, hv, hg, hr1, hr2, hr3⟩
  · have := congrArg List.length hnil
    rw [itsS_len] at this
    exact absurd this (by show m ≠ 0; omega)
  have hin : FlatIn S7 v (itsS l m) := ⟨r, _, _, _, hv, hg, hr3, by rw [itsS_len]; omega, ones_itsS l hm11⟩
  rw [itsS_len] at hv
  subst hv
  obtain ⟨P, hP⟩ : ∃ P, P = (itsS l m).map stepOf := ⟨_, rfl⟩
  have hPl : P.length = m := by rw [hP, List.length_map, itsS_len]
  have hof := ls.of_ (n + 13) hin 3 ⟨by decide, by decide⟩
  rw [← hcall, ← hP] at hof
  have hkd := ls.kinds (n + 13) { next := S7.next, low := S7.next, mem := S7.mem }
  rw [← hcall] at hkd
  have haf : S7.after { next := S7.next, low := S7.next, mem := S7.mem } = S7 := by
    show St.mk S7.next (bif Nat.ble S7.low S7.next then S7.low else S7.next) S7.mem = S7
    rw [bleT hlow.2]; rfl
  have hlq : ldW true 3 (.ref 1 S0.next 0 0 0 false) S7 = some (.cmp 2 0 [.ref 3 r 0 m m false, .int 63 3, .str []]) := by rw [ldW_get hq]; exact part_whole rfl
  have hmem1 : memN [1] 1 = true := by kernel_rfl
  have h5' := at_of_ev h5 (fun h => nomatch h)
  have x0 : ∀ (u w : V) (tm : Tr V) (s : St) (p : Pa), X.ev tm (.t p) = .cmp 3 0 [u, w] → iExt (.t p) 0 tm s = some u := fun u w tm s p h => by unfold iExt; rw [h]; rfl
  have x1 : ∀ (u w : V) (tm : Tr V) (s : St) (p : Pa), X.ev tm (.t p) = .cmp 3 0 [u, w] → iExt (.t p) 1 tm s = some w := fun u w tm s p h => by unfold iExt; rw [h]; rfl
  obtain ⟨t8, f8, a8, b8, d8, g8, j8⟩ : ∃ t, c11_8 call (n + 14) t7 S7 = some (.nrm, t, S7) ∧ X.ev t (.t (pa 3)) = .bool true ∧ X.ev t (.t (pa 4)) = .int 63 (Int.ofNat m) ∧ X.ev t (.t (pa 5)) = .ref 1 S0.next 0 0 0 false ∧ X.ev t (.t (pa 8)) = slT 4 1 [slT 4 P.length (cPs P)] ∧ X.ev t (.t (pa 9)) = .int 63 0 := by
    refine ⟨?_, ?_, ?_, ?_, ?_, ?_, ?_⟩
    rotate_left 1
    · simp only [c11_8, yY, iInt, iStr, iLenS, iLenL, iNot, iPick, iExt, if_true, if_false, reduceIte, Nat.reduceEqDiff, Nat.reduceAdd, reduceCtorEq, yQ, h5, h5', yD, x_oneM, x_oneE, x_oneP, x_oneK, x_oneL, x_oneC2, m_load, hlq, x_stepCE, St.fresh, hkd, haf, x_oneS, see_cons, see_nil, hmem1, sees_ret, sameV_refl, cond_true, Bool.true_and, Bool.and_true, hof, x0 (slT 4 1 [slT 4 P.length (cPs P)]) (.int 63 0), x1 (slT 4 1 [slT 4 P.length (cPs P)]) (.int 63 0)]
      exact rfl
    all_goals simp only [yL, if_true, if_false, reduceIte, Nat.reduceEqDiff, reduceCtorEq, h3, h4, h5]
  have z0 : fNeq 63 0 0 = some (.bool false) := rfl
  have z1 : fNeq 63 (Int.ofNat 1) 1 = some (.bool false) := rfl
  have zm : fNeq 63 (Int.ofNat P.length) (Int.ofNat m) = some (.bool false) := by
    show some (V.bool (!eqI (Int.ofNat P.length) (Int.ofNat m))) = _
    rw [eqI_nat, decide_eq_true hPl]; rfl
  have ia1 : ∀ (tm : Tr V) (s : St), X.ev tm (.t (pa 66)) = slT 4 1 [slT 4 P.length (cPs P)] → iIad 1 (.t (pa 66)) (.c (.int 63 0)) tm s = some (.cmp 5 0 [slT 4 P.length (cPs P)]) := fun tm s x => by
    rw [m_iad4 (k := 0) x rfl (by decide) (by show 0 < 1; decide)]; rfl
  have ld1 : ∀ s : St, ldW false 1 (.cmp 5 0 [slT 4 P.length (cPs P)]) s = some (slT 4 P.length (cPs P)) := fun s => by rw [ldW_5, part_c0]
  obtain ⟨t9, f9, a9, b9, d9, g9⟩ : ∃ t, cSeq c11_9 c11_10 call (n + 14) t8 S7 = some (.nrm, t, S7) ∧ X.ev t (.t (pa 3)) = .bool true ∧ X.ev t (.t (pa 4)) = .int 63 (Int.ofNat m) ∧ X.ev t (.t (pa 5)) = .ref 1 S0.next 0 0 0 false ∧ X.ev t (.t (pa 8)) = slT 4 1 [slT 4 P.length (cPs P)] := by
    refine ⟨?_, ?_, ?_, ?_, ?_, ?_⟩
    rotate_left 1
    · simp only [c11_9, c11_10, yY, iInt, iStr, iLenS, iLenL, iNot, iPick, iExt, if_true, if_false, reduceIte, Nat.reduceEqDiff, Nat.reduceAdd, reduceCtorEq, yQ, b8, g8, j8, z0, x_slF, x_fsl4, z1, ia1, m_load, ld1, zm]
      exact rfl
    all_goals simp only [yL, if_true, if_false, reduceIte, Nat.reduceEqDiff, reduceCtorEq, a8, b8, d8, g8]
  obtain ⟨t11, f11, i11⟩ : ∃ t, c11_11 call (n + 14) t9 S7 = some (.nrm, t, S7) ∧ InvSu S0.next S0.next r m l 0 t S7 := by
    refine ⟨?_, ?_, ?_⟩
    rotate_left 1
    · simp only [c11_11, yY, iInt, iStr, iLenS, iLenL, iNot, iPick, iExt, if_true, if_false, reduceIte, Nat.reduceEqDiff, Nat.reduceAdd, reduceCtorEq, yQ]; exact rfl
    · refine ⟨?_, ?_, ?_, ?_, ?_, hlt, hlow, hnx, hq, hr2, hg⟩
      · simp only [yL, if_true, if_false, reduceIte, Nat.reduceEqDiff, reduceCtorEq, a9]
      · simp only [yL, if_true, if_false, reduceIte, Nat.reduceEqDiff, reduceCtorEq, b9]
      · simp only [yL, if_true, if_false, reduceIte, Nat.reduceEqDiff, reduceCtorEq, d9]
      · simp only [yL, if_true, if_false, reduceIte, Nat.reduceEqDiff, reduceCtorEq, g9, hP]
      · simp only [yL, if_true, if_false, reduceIte, Nat.reduceEqDiff, reduceCtorEq]; rfl
  rw [hcall] at f0 f1 f2 f4 f5 f6 f7' f8 f9 f11
  obtain ⟨t12, S12, f12, i12⟩ := chk_loop ls (n := n + 13) hm11 m 0 (n + 14) t11 S7 (Nat.zero_add _) (by omega) i11
  have f12' : c11_12 (evF fns (n + 14)) (n + 14) t11 S7 = some (.nrm, t12, S12) := f12
  have e3 := i12.p3
  have el := i12.low
  rw [ev_mk ls.law]
  show leaveF st _ (cSeq _ _ _ _ _ st.in) = _
  rw [← hS0]
  simp only [initT0, initT1, Nat.zero_add, x_seq] at f2 f9 ⊢
  simp only [f0, x_nrm, f1, f2, f4, f5, f6, f7', f8, f9, f11, f12', c11_13, yX, iInt, iStr, iLenS, iLenL, iNot, iPick, iExt, if_true, if_false, reduceIte, Nat.reduceEqDiff, Nat.reduceAdd, reduceCtorEq, yQ, e3]
  rw [leave_back (v := .bool true) (by simp only [yL, if_true, if_false, reduceIte, Nat.reduceEqDiff, reduceCtorEq]) (fun h => nomatch h)]
  unfold Av.back
  rw [show (CR.ret (V.bool true)).under st.next = true from rfl, bleT (show st.next ≤ S12.low by omega)]; rfl
end
end Go.Proofs.YtnccejmggcjaoaaGreatDoor.Av
