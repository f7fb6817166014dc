/-
  A TRUTH, by the feed.
-/
import Derived.Test.YtnccejmggcjaoaaGreatDoorNumT
namespace Go.Proofs.YtnccejmggcjaoaaGreatDoor.Av
set_option linter.unusedVariables false
set_option linter.unusedSimpArgs false
set_option maxRecDepth 1000000
open Go
section
variable {fns : Tr Fs} (gt : GenT fns) (htab : TableOk Tryz.prog fns)
include gt htab
set_option maxHeartbeats 8000000 in
theorem truth_at (n : Nat) {st : St} {o : Nat} {f : Fd} {vv vo : V} (h : FeedAt st o f vv vo) (own kind : Str) (d : Nat) (hd : d ≤ 3)
    (hnum : ∀ {st : St} {f : Fd} {vv vo : V}, FeedAt st o f vv vo → ∃ e a st', evF fns (n + 2) 261 [.ref 1 o 0 0 0 false, .str own, .str kind, .int 63 1] st = some (.ret (.cmp 2 0 (cE e)), st') ∧ szE e ≤ 3 ∧ Moved o f vv vo a st st')
    (hrec : ∀ d', d' + 1 = d → ∀ {st : St} {f : Fd} {vv vo : V}, FeedAt st o f vv vo → ∃ e a st', evF fns (n + 2) 249 (numArgs o own kind d') st = some (.ret (.cmp 2 0 (cE e)), st') ∧ szE e ≤ 2 ^ (d' + 3) - 1 ∧ Moved o f vv vo a st st') :
    ∃ e a st', CallAt Tryz.prog 249 (numArgs o own kind d) st (.ret (.cmp 2 0 (cE e))) st' ∧ szE e ≤ 2 ^ (d + 3) - 1 ∧ Moved o f vv vo a st st' := by
  have call : ∀ {r : CR} {T : St}, enterF (evF fns (n + 2)) (n + 2) _ _ (numArgs o own kind d) st = some (r, T) → CallAt Tryz.prog 249 (numArgs o own kind d) st r T := fun h => callAt_in mixedZ htab ok249 h
  unfold enterF at call
  obtain ⟨S0, hS0⟩ : ∃ S0 : St, S0 = { next := st.next, low := st.next, mem := st.mem } := ⟨_, rfl⟩
  have hn0 : S0.next = st.next := by rw [hS0]
  have h0 : FeedAt S0 o f vv vo := by rw [hS0]; exact h.low _
  rw [← hS0] at call
  have hlt := h.lt
  obtain ⟨S, hS⟩ : ∃ S, S = S0.new (.cells 43 zE true) := ⟨_, rfl⟩
  have m1 : Moved o f vv vo f.at_ S0 S := by rw [hS]; exact (Moved.start h0).new h0 _
  have hpe0 : S.mem.get S0.next = some (.cells 43 zE true) := by rw [hS, new_get, if_pos rfl]
  have hSn : S.next = S0.next + 1 := by rw [hS]; rfl
  obtain ⟨b, a, S1, k1, k2, k3⟩ := next_ev gt.next (n + 1) m1.feed
  have m2 := m1.trans k3
  have hpe : S1.mem.get S0.next = some (.cells 43 zE true) := by rw [k3.mem _ (by omega) (by omega)]; exact hpe0
  have hnew : ∀ tm : Tr V, iAlloc 43 zE tm S0 = some (.ref 1 S0.next 0 0 0 false, S) := fun tm => by rw [hS]; rfl
  have hr8 : fRem 63 (Int.ofNat b) 8 = some (.int 63 (Int.ofNat (b % 8))) := f_rem 63 _ 8 (by decide)
  have hq8 : fQuo 63 (Int.ofNat b) 8 = some (.int 63 (Int.ofNat (b / 8))) := f_quo 63 b 8 (by omega) (by decide)
  have l3 : ltI (Int.ofNat (b % 8)) 3 = decide (b % 8 < 3) := ltI_nat _ 3
  have l0 : ltI 0 (Int.ofNat d) = decide (0 < d) := ltI_nat 0 _
  have e0 : eqI (Int.ofNat (b % 8)) 0 = decide (b % 8 = 0) := eqI_nat _ 0
  have hS0S1 : S0.next < S1.next := by have := k3.next; omega
  have h2d : 8 ≤ 2 ^ (d + 3) := by have : 2 ^ 3 ≤ 2 ^ (d + 3) := Nat.pow_le_pow_right (by decide) (by omega); omega
  by_cases c1 : 0 < d ∧ b % 8 < 3
  · obtain ⟨c1, c2⟩ := c1
    have d1 : decide (0 < d) = true := decide_eq_true c1
    have d3 : decide (b % 8 < 3) = true := decide_eq_true c2
    have hsub : fSub 63 (Int.ofNat d) 1 = some (.int 63 (Int.ofNat (d - 1))) := f_sub 63 d 1 (by omega) (by omega)
    obtain ⟨e1, a1, S2, r1, r2, r3⟩ := hrec (d - 1) (by omega) m2.feed
    have m3 := m2.trans r3
    have hpe2 : S2.mem.get S0.next = some (.cells 43 zE true) := by rw [r3.mem _ hS0S1 (by omega)]; exact hpe
    have hn2 : S1.next ≤ S2.next := r3.next
    have hp : 2 ^ (d + 3) = 2 ^ (d - 1 + 3) + 2 ^ (d - 1 + 3) := by rw [show d + 3 = d - 1 + 3 + 1 by omega, Nat.pow_succ]; omega
    have h2e : 8 ≤ 2 ^ (d - 1 + 3) := by have : 2 ^ 3 ≤ 2 ^ (d - 1 + 3) := Nat.pow_le_pow_right (by decide) (by omega); omega
    by_cases c5 : b % 8 = 0
    ·
      have d5 : decide (b % 8 = 0) = true := decide_eq_true c5
      obtain ⟨S3, hS3⟩ : ∃ S3, S3 = S2.new (.cells 43 (cEs [e1]) true) := ⟨_, rfl⟩
      have m4 : Moved o f vv vo a1 S0 S3 := by rw [hS3]; exact m3.new h0 _
      have hz3 : S3.mem.get S0.next = some (.cells 43 zE true) := by rw [hS3, new_get, if_neg (by omega)]; exact hpe2
      obtain ⟨U, V', u1, u2, u3, u4⟩ := fin_kids (k := 2) (op := [33]) h hS0 m4 hz3 (ko := S2.next) (m := 1) [e1] (by rw [hS3, new_get_self']) (by omega) rfl
      have hcE : cEs [e1] = cE e1 := by simp only [cEs, List.append_nil]
      have hbs : ∀ (tm : Tr V), X.ev tm (.t (pa 26)) = .cmp 2 0 (cE e1) → iBsl 43 1 zE [(0, 6, .t (pa 26))] tm S2 = some (.ref 3 S2.next 0 1 1 true, S3) := fun tm h => by
        rw [m_bsl, fillV_c, h, cells_agg2, fillS_w (cE_len _) rfl, fillV_0, hS3, hcE]
      refine ⟨.mk 2 [33] 0 [] [] [e1], a1, V', u3 (call (r := .ret (rawE 2 [33] 0 [] [] (.ref 3 S2.next 0 1 1 true))) ?_), ?_, u4⟩
      · simp only [c249_0, c249_1, c249_2, c249_3, yY, iInt, iStr, iLenS, iLenL, iNot, iPick, iExt, if_true, if_false, reduceIte, Nat.reduceEqDiff, Nat.reduceAdd, reduceCtorEq, yQ, hnew, k1, hr8, f_gtr, l0, d1, f_eql, e0, d5, hsub, r1, hbs, m_build, cells_ref, fillV_c, fillV_0, cells_int, cells_str, fillS_1, List.length_cons, List.length_nil, Nat.reduceLT, List.set_cons_zero, List.set_cons_succ, m_store, u1]
        rw [leave_mem (v := rawE 2 [33] 0 [] [] (.ref 3 S2.next 0 1 1 true)) (by simp only [yL, if_true, if_false, reduceIte, Nat.reduceEqDiff, reduceCtorEq]; exact u2)]
      · simp only [szE, szEs]; omega
    · have d5 : decide (b % 8 = 0) = false := decide_eq_false c5
      have hb5 : b / 8 % 2 < 2 := Nat.mod_lt _ (by decide)
      have hrr : fRem 63 (Int.ofNat (b / 8)) 2 = some (.int 63 (Int.ofNat (b / 8 % 2))) := f_rem 63 _ 2 (by decide)
      obtain ⟨op, hop⟩ : ∃ op : Str, ([V.str [38, 38], .str [124, 124]])[b / 8 % 2]? = some (.str op) := by
        rcases (show b / 8 % 2 = 0 ∨ b / 8 % 2 = 1 by omega) with h | h <;> rw [h] <;> exact ⟨_, rfl⟩
      obtain ⟨A, hA⟩ : ∃ A, A = loc S2 43 zE (cE e1) := ⟨_, rfl⟩
      obtain ⟨B, hB⟩ : ∃ B, B = A.new (.cells 9 [.str [38, 38], .str [124, 124]] true) := ⟨_, rfl⟩
      have hAn : A.next = S2.next + 1 := by rw [hA]; rfl
      have mB : Moved o f vv vo a1 S0 B := by rw [hB, hA]; exact (m3.loc h0 _ _ _).new h0 _
      obtain ⟨e2, a2, S4, t1, t2, t3⟩ := hrec (d - 1) (by omega) (mB.feed.low B.next)
      obtain ⟨v1, v2, v3, v4, D, U, V', hD, u1, u2, u3, u4⟩ := fin_two h hS0 m3 hpe2 e1 e2 [.str [38, 38], .str [124, 124]] hop (by rw [hB, hA]) (by omega) t3 3
      have hal : ∀ tm : Tr V, iAlloc 43 zE tm S2 = some (.ref 1 S2.next 0 0 0 false, S2.new (.cells 43 zE true)) := fun tm => rfl
      have hst : stW 6 (.ref 1 S2.next 0 0 0 false) (.cmp 2 0 (cE e1)) (S2.new (.cells 43 zE true)) = some (.undef, A) := by
        rw [stW_whole (new_get_self' _ _) (cE_len _) rfl, hA]; rfl
      have hbs1 : ∀ tm : Tr V, iBsl 9 2 [.str [], .str []] [(0, 1, .c (.str [38, 38])), (1, 1, .c (.str [124, 124]))] tm A = some (.ref 3 (S2.next + 1) 0 2 2 true, B) := fun tm => by rw [hB, ← hAn]; rfl
      have hia : ∀ (tm : Tr V), X.ev tm (.t (pa 42)) = .ref 3 (S2.next + 1) 0 2 2 true → X.ev tm (.t (pa 45)) = .int 63 (Int.ofNat (b / 8 % 2)) → iIad 1 (.t (pa 42)) (.t (pa 45)) tm B = some (.ref 1 (S2.next + 1) (b / 8 % 2) 0 0 false) := fun tm h1 h2 => by rw [iad_own h1 h2 hb5, Nat.mul_one]
      have hbs2 : ∀ (tm : Tr V), X.ev tm (.t (pa 48)) = .cmp 2 0 (cE e1) → X.ev tm (.t (pa 54)) = .cmp 2 0 (cE e2) → iBsl 43 2 zE2 [(0, 6, .t (pa 48)), (6, 6, .t (pa 54))] tm (B.after S4) = some (.ref 3 (B.after S4).next 0 2 2 true, D) := fun tm h1 h2 => by
        rw [m_bsl, fill_two h1 h2 (cE_len _) (cE_len _) rfl, hD]
      refine ⟨.mk 3 op 0 [] [] [e1, e2], a2, V', u3 (call (r := .ret (rawE 3 op 0 [] [] (.ref 3 (B.after S4).next 0 2 2 true))) ?_), ?_, u4⟩
      · simp only [c249_0, c249_1, c249_2, c249_3, c249_4, c249_5, yY, iInt, iStr, iLenS, iLenL, iNot, iPick, iExt, if_true, if_false, reduceIte, Nat.reduceEqDiff, Nat.reduceAdd, reduceCtorEq, yQ, hnew, k1, hr8, f_gtr, l0, d1, f_eql, e0, d5, f_lss, l3, d3, hsub, r1, hal, m_store, hst, yD, x_oneM, x_oneE, x_oneP, x_oneK, x_oneL, x_oneC2, hbs1, hq8, hrr, hia, m_load, v1, v3, x_stepCE, St.fresh, t1, x_oneS, see_cons, see_nil, mem56a, mem56b, sees_ret, v2, v4, sameV_refl, cond_true, Bool.true_and, Bool.and_true, hbs2, m_build, cells_ref, fillV_c, fillV_0, cells_int, cells_str, fillS_1, List.length_cons, List.length_nil, Nat.reduceLT, List.set_cons_zero, List.set_cons_succ, m_store, u1]
        rw [leave_mem (v := rawE 3 op 0 [] [] (.ref 3 (B.after S4).next 0 2 2 true)) (by simp only [yL, if_true, if_false, reduceIte, Nat.reduceEqDiff, reduceCtorEq]; exact u2)]
      · simp only [szE, szEs]; omega
  · obtain ⟨e1, a1, S2, r1, r2, r3⟩ := hnum m2.feed
    have m3 := m2.trans r3
    have hpe2 : S2.mem.get S0.next = some (.cells 43 zE true) := by rw [r3.mem _ hS0S1 (by omega)]; exact hpe
    have hn2 : S1.next ≤ S2.next := r3.next
    by_cases c2 : 0 < d
    · have d1 : decide (0 < d) = true := decide_eq_true c2
      have d3 : decide (b % 8 < 3) = false := decide_eq_false fun h => c1 ⟨c2, h⟩
      have d5 : decide (b % 8 = 0) = false := decide_eq_false fun h => c1 ⟨c2, by omega⟩
      have hb5 : b / 8 % 8 < 8 := Nat.mod_lt _ (by decide)
      have hrr : fRem 63 (Int.ofNat (b / 8)) 8 = some (.int 63 (Int.ofNat (b / 8 % 8))) := f_rem 63 _ 8 (by decide)
      obtain ⟨op, hop⟩ : ∃ op : Str, ([V.str [61, 61], .str [33, 61], .str [60], .str [60, 61], .str [62], .str [62, 61], .str [60, 61], .str [62, 61]])[b / 8 % 8]? = some (.str op) := by
        rcases (show b / 8 % 8 = 0 ∨ b / 8 % 8 = 1 ∨ b / 8 % 8 = 2 ∨ b / 8 % 8 = 3 ∨ b / 8 % 8 = 4 ∨ b / 8 % 8 = 5 ∨ b / 8 % 8 = 6 ∨ b / 8 % 8 = 7 by omega) with h | h | h | h | h | h | h | h <;> rw [h] <;> exact ⟨_, rfl⟩
      obtain ⟨A, hA⟩ : ∃ A, A = loc S2 43 zE (cE e1) := ⟨_, rfl⟩
      obtain ⟨B, hB⟩ : ∃ B, B = A.new (.cells 9 [.str [61, 61], .str [33, 61], .str [60], .str [60, 61], .str [62], .str [62, 61], .str [60, 61], .str [62, 61]] true) := ⟨_, rfl⟩
      have hAn : A.next = S2.next + 1 := by rw [hA]; rfl
      have mB : Moved o f vv vo a1 S0 B := by rw [hB, hA]; exact (m3.loc h0 _ _ _).new h0 _
      obtain ⟨e2, a2, S4, t1, t2, t3⟩ := hnum (mB.feed.low B.next)
      obtain ⟨v1, v2, v3, v4, D, U, V', hD, u1, u2, u3, u4⟩ := fin_two h hS0 m3 hpe2 e1 e2 [.str [61, 61], .str [33, 61], .str [60], .str [60, 61], .str [62], .str [62, 61], .str [60, 61], .str [62, 61]] hop (by rw [hB, hA]) (by omega) t3 3
      have hal : ∀ tm : Tr V, iAlloc 43 zE tm S2 = some (.ref 1 S2.next 0 0 0 false, S2.new (.cells 43 zE true)) := fun tm => rfl
      have hst : stW 6 (.ref 1 S2.next 0 0 0 false) (.cmp 2 0 (cE e1)) (S2.new (.cells 43 zE true)) = some (.undef, A) := by
        rw [stW_whole (new_get_self' _ _) (cE_len _) rfl, hA]; rfl
      have hbs1 : ∀ tm : Tr V, iBsl 9 8 [.str [], .str [], .str [], .str [], .str [], .str [], .str [], .str []] [(0, 1, .c (.str [61, 61])), (1, 1, .c (.str [33, 61])), (2, 1, .c (.str [60])), (3, 1, .c (.str [60, 61])), (4, 1, .c (.str [62])), (5, 1, .c (.str [62, 61])), (6, 1, .c (.str [60, 61])), (7, 1, .c (.str [62, 61]))] tm A = some (.ref 3 (S2.next + 1) 0 8 8 true, B) := fun tm => by rw [hB, ← hAn]; rfl
      have hia : ∀ (tm : Tr V), X.ev tm (.t (pa 61)) = .ref 3 (S2.next + 1) 0 8 8 true → X.ev tm (.t (pa 64)) = .int 63 (Int.ofNat (b / 8 % 8)) → iIad 1 (.t (pa 61)) (.t (pa 64)) tm B = some (.ref 1 (S2.next + 1) (b / 8 % 8) 0 0 false) := fun tm h1 h2 => by rw [iad_own h1 h2 hb5, Nat.mul_one]
      have hbs2 : ∀ (tm : Tr V), X.ev tm (.t (pa 67)) = .cmp 2 0 (cE e1) → X.ev tm (.t (pa 71)) = .cmp 2 0 (cE e2) → iBsl 43 2 zE2 [(0, 6, .t (pa 67)), (6, 6, .t (pa 71))] tm (B.after S4) = some (.ref 3 (B.after S4).next 0 2 2 true, D) := fun tm h1 h2 => by
        rw [m_bsl, fill_two h1 h2 (cE_len _) (cE_len _) rfl, hD]
      refine ⟨.mk 3 op 0 [] [] [e1, e2], a2, V', u3 (call (r := .ret (rawE 3 op 0 [] [] (.ref 3 (B.after S4).next 0 2 2 true))) ?_), ?_, u4⟩
      · simp only [c249_0, c249_1, c249_2, c249_3, c249_4, c249_5, c249_6, c249_7, yY, iInt, iStr, iLenS, iLenL, iNot, iPick, iExt, if_true, if_false, reduceIte, Nat.reduceEqDiff, Nat.reduceAdd, reduceCtorEq, yQ, hnew, k1, hr8, f_gtr, l0, d1, f_eql, e0, d5, f_lss, l3, d3, r1, hal, m_store, hst, yD, x_oneM, x_oneE, x_oneP, x_oneK, x_oneL, x_oneC2, hbs1, hq8, hrr, hia, m_load, v1, v3, x_stepCE, St.fresh, t1, x_oneS, see_cons, see_nil, mem56a, mem56b, sees_ret, v2, v4, sameV_refl, cond_true, Bool.true_and, Bool.and_true, hbs2, m_build, cells_ref, fillV_c, fillV_0, cells_int, cells_str, fillS_1, List.length_cons, List.length_nil, Nat.reduceLT, List.set_cons_zero, List.set_cons_succ, m_store, u1]
        rw [leave_mem (v := rawE 3 op 0 [] [] (.ref 3 (B.after S4).next 0 2 2 true)) (by simp only [yL, if_true, if_false, reduceIte, Nat.reduceEqDiff, reduceCtorEq]; exact u2)]
      · simp only [szE, szEs]; omega
    · have d1 : decide (0 < d) = false := decide_eq_false c2
      have hb5 : b / 8 % 8 < 8 := Nat.mod_lt _ (by decide)
      have hrr : fRem 63 (Int.ofNat (b / 8)) 8 = some (.int 63 (Int.ofNat (b / 8 % 8))) := f_rem 63 _ 8 (by decide)
      obtain ⟨op, hop⟩ : ∃ op : Str, ([V.str [61, 61], .str [33, 61], .str [60], .str [60, 61], .str [62], .str [62, 61], .str [60, 61], .str [62, 61]])[b / 8 % 8]? = some (.str op) := by
        rcases (show b / 8 % 8 = 0 ∨ b / 8 % 8 = 1 ∨ b / 8 % 8 = 2 ∨ b / 8 % 8 = 3 ∨ b / 8 % 8 = 4 ∨ b / 8 % 8 = 5 ∨ b / 8 % 8 = 6 ∨ b / 8 % 8 = 7 by omega) with h | h | h | h | h | h | h | h <;> rw [h] <;> exact ⟨_, rfl⟩
      obtain ⟨A, hA⟩ : ∃ A, A = loc S2 43 zE (cE e1) := ⟨_, rfl⟩
      obtain ⟨B, hB⟩ : ∃ B, B = A.new (.cells 9 [.str [61, 61], .str [33, 61], .str [60], .str [60, 61], .str [62], .str [62, 61], .str [60, 61], .str [62, 61]] true) := ⟨_, rfl⟩
      have hAn : A.next = S2.next + 1 := by rw [hA]; rfl
      have mB : Moved o f vv vo a1 S0 B := by rw [hB, hA]; exact (m3.loc h0 _ _ _).new h0 _
      obtain ⟨e2, a2, S4, t1, t2, t3⟩ := hnum (mB.feed.low B.next)
      obtain ⟨v1, v2, v3, v4, D, U, V', hD, u1, u2, u3, u4⟩ := fin_two h hS0 m3 hpe2 e1 e2 [.str [61, 61], .str [33, 61], .str [60], .str [60, 61], .str [62], .str [62, 61], .str [60, 61], .str [62, 61]] hop (by rw [hB, hA]) (by omega) t3 3
      have hal : ∀ tm : Tr V, iAlloc 43 zE tm S2 = some (.ref 1 S2.next 0 0 0 false, S2.new (.cells 43 zE true)) := fun tm => rfl
      have hst : stW 6 (.ref 1 S2.next 0 0 0 false) (.cmp 2 0 (cE e1)) (S2.new (.cells 43 zE true)) = some (.undef, A) := by
        rw [stW_whole (new_get_self' _ _) (cE_len _) rfl, hA]; rfl
      have hbs1 : ∀ tm : Tr V, iBsl 9 8 [.str [], .str [], .str [], .str [], .str [], .str [], .str [], .str []] [(0, 1, .c (.str [61, 61])), (1, 1, .c (.str [33, 61])), (2, 1, .c (.str [60])), (3, 1, .c (.str [60, 61])), (4, 1, .c (.str [62])), (5, 1, .c (.str [62, 61])), (6, 1, .c (.str [60, 61])), (7, 1, .c (.str [62, 61]))] tm A = some (.ref 3 (S2.next + 1) 0 8 8 true, B) := fun tm => by rw [hB, ← hAn]; rfl
      have hia : ∀ (tm : Tr V), X.ev tm (.t (pa 61)) = .ref 3 (S2.next + 1) 0 8 8 true → X.ev tm (.t (pa 64)) = .int 63 (Int.ofNat (b / 8 % 8)) → iIad 1 (.t (pa 61)) (.t (pa 64)) tm B = some (.ref 1 (S2.next + 1) (b / 8 % 8) 0 0 false) := fun tm h1 h2 => by rw [iad_own h1 h2 hb5, Nat.mul_one]
      have hbs2 : ∀ (tm : Tr V), X.ev tm (.t (pa 67)) = .cmp 2 0 (cE e1) → X.ev tm (.t (pa 71)) = .cmp 2 0 (cE e2) → iBsl 43 2 zE2 [(0, 6, .t (pa 67)), (6, 6, .t (pa 71))] tm (B.after S4) = some (.ref 3 (B.after S4).next 0 2 2 true, D) := fun tm h1 h2 => by
        rw [m_bsl, fill_two h1 h2 (cE_len _) (cE_len _) rfl, hD]
      refine ⟨.mk 3 op 0 [] [] [e1, e2], a2, V', u3 (call (r := .ret (rawE 3 op 0 [] [] (.ref 3 (B.after S4).next 0 2 2 true))) ?_), ?_, u4⟩
      · simp only [c249_0, c249_1, c249_2, c249_3, c249_4, c249_5, c249_6, c249_7, yY, iInt, iStr, iLenS, iLenL, iNot, iPick, iExt, if_true, if_false, reduceIte, Nat.reduceEqDiff, Nat.reduceAdd, reduceCtorEq, yQ, hnew, k1, hr8, f_gtr, l0, d1, r1, hal, m_store, hst, yD, x_oneM, x_oneE, x_oneP, x_oneK, x_oneL, x_oneC2, hbs1, hq8, hrr, hia, m_load, v1, v3, x_stepCE, St.fresh, t1, x_oneS, see_cons, see_nil, mem56a, mem56b, sees_ret, v2, v4, sameV_refl, cond_true, Bool.true_and, Bool.and_true, hbs2, m_build, cells_ref, fillV_c, fillV_0, cells_int, cells_str, fillS_1, List.length_cons, List.length_nil, Nat.reduceLT, List.set_cons_zero, List.set_cons_succ, m_store, u1]
        rw [leave_mem (v := rawE 3 op 0 [] [] (.ref 3 (B.after S4).next 0 2 2 true)) (by simp only [yL, if_true, if_false, reduceIte, Nat.reduceEqDiff, reduceCtorEq]; exact u2)]
      · simp only [szE, szEs]; omega
end
end Go.Proofs.YtnccejmggcjaoaaGreatDoor.Av
