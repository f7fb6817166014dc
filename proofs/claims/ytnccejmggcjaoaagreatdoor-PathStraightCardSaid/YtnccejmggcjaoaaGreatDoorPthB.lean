/-
  PATHS OF PLAIN STEPS: begun.then is known; maker.times, maker.item, of a One.
-/
import Derived.Test.YtnccejmggcjaoaaGreatDoorPthA
namespace Go.Proofs.YtnccejmggcjaoaaGreatDoor.Av
set_option linter.unusedVariables false
set_option linter.unusedSimpArgs false
set_option maxRecDepth 1000000
open Go
theorem cBg_app (p : List Sp) (s : Sp) : cBg (p ++ [s]) = [slT 4 (p.length + 1) (cPs (p ++ [s])), e4] := by
  unfold cBg
  rw [List.length_append]; rfl
theorem then_known : ∃ g, MemoOk Tryz.prog 234 g ∧ ∀ fns : Tr Fs, fns.get 234 = some (.memo g) → ∀ (n : Nat) (p : List Sp) (s : Sp), p.length < 1000000 → ∀ st : St,
    evF fns (n + 1) 234 [.cmp 2 0 (cBg p), .cmp 2 0 (cPr s)] st = some (.ret (.cmp 2 0 (cBg (p ++ [s]))), st) := by
  obtain ⟨g, m, k⟩ := memo_pure (F := 234) (R0 := fun args v => ∃ p s, p.length < 1000000 ∧ args = [.cmp 2 0 (cBg p), .cmp 2 0 (cPr s)] ∧ v = .cmp 2 0 (cBg (p ++ [s]))) (fun args v ⟨p, s, h1, h2, h3⟩ st => by
    subst h2 h3
    obtain ⟨S, r, e1, e2, e3⟩ := then_ev get_then p s h1 0 stN
    have hfa : (([.cmp 2 0 (cBg p), .cmp 2 0 (cPr s)] : List V).all fun v => v.fine) = true := by
      simp only [List.all_cons, List.all_nil, fine_agg (cBg_fine p), Bool.true_and, Bool.and_true]; rfl
    refine flat_of globals.symm (mem := .leaf) no_lt (no_tabs st) (Ars.flats hfa) (callAt_ev mixedZ tab (fnOk_of tab get_then) e1) ?_ (fine_agg (cBg_fine _))
    rw [cBg_app]
    refine .cmp 2 _ _ 0 (by decide) (.cons (.fsl r 0 _ _ false 89 4 _ _ e2 (fun h => nomatch h) e3 size_step (by rw [cPs_len, List.length_append]; show 0 + (p.length + 1) * 4 ≤ (p.length + 1) * 4; omega) ?_) (.cons .nil .nil))
    rw [List.drop_zero, List.take_of_length_le (by rw [cPs_len, List.length_append]; exact Nat.le_refl _)]
    exact Frs.flats (cPs_fine _)) (fun args v v' ⟨p, s, _, h2, h3⟩ ⟨p', s', _, h2', h3'⟩ => by
    rw [h2] at h2'
    injection h2' with e1 e2
    injection e1 with _ _ e1
    injection e2 with e2 _
    injection e2 with _ _ e2
    injection e2 with e3 e2
    injection e2 with e4 _
    injection e3 with _ e3
    injection e4 with e4
    obtain rfl := cBg_inj e1
    obtain ⟨a, b⟩ := s
    obtain ⟨c, d⟩ := s'
    simp only at e3 e4
    rw [h3, h3', Int.ofNat.inj e3, e4])
  exact ⟨g, m, fun fns hf n p s hp st => k fns hf n _ _ ⟨p, s, hp, rfl, rfl⟩ st⟩
structure PthTab (fns : Tr Fs) : Prop where
  ok : TableOk Tryz.prog fns
  old : ∀ k, k ∉ [81, 53, 195, 84, 32, 49, 234] → fns.get k = table.get k
  find : ∀ (n : Nat) {s : Str} {k : Nat}, FndK s k → ∀ st : St, evF fns (n + 1) 53 [ksV, .str s] st = some (.ret (.int 63 (Int.ofNat k)), st)
  then_ : ∀ (n : Nat) (p : List Sp) (s : Sp), p.length < 1000000 → ∀ st : St, evF fns (n + 1) 234 [.cmp 2 0 (cBg p), .cmp 2 0 (cPr s)] st = some (.ret (.cmp 2 0 (cBg (p ++ [s]))), st)
theorem pth_tab : ∃ fns, PthTab fns := by
  obtain ⟨T, ct⟩ := chk_tab
  obtain ⟨g, m, k⟩ := then_known
  obtain ⟨T', hT'⟩ : ∃ T', T' = T.set 234 (some (.memo g)) := ⟨_, rfl⟩
  obtain ⟨g2, m2, k2⟩ := finds_known
  obtain ⟨T2, hT2⟩ : ∃ T2, T2 = T'.set 53 (some (.memo g2)) := ⟨_, rfl⟩
  refine ⟨T2, by rw [hT2, hT']; exact tableMemo (tableMemo ct.ok m) m2, fun q hq => ?_, fun n {s k} h st => k2 T2 (by rw [hT2, get_set, if_pos rfl]) n h st, k T2 (by rw [hT2, get_set, if_neg (by decide), hT', get_set, if_pos rfl])⟩
  simp only [List.mem_cons, List.not_mem_nil, or_false, not_or] at hq
  obtain ⟨h1, h2, h3, h4, h5, h6, h7⟩ := hq
  rw [hT2, get_set, if_neg h2, hT', get_set, if_neg h7, ct.old q (by simp only [List.mem_cons, List.not_mem_nil, or_false, not_or]; exact ⟨h1, h2, h3, h4, h5, h6⟩)]
theorem mem68a : memN [6, 8] 6 = true := by kernel_rfl
theorem mem68b : memN [6, 8] 8 = true := by kernel_rfl
abbrev mkV : V := .cmp 2 0 [ksV]
section
variable {fns : Tr Fs} (pt : PthTab fns)
include pt
set_option maxHeartbeats 8000000 in
theorem times_ev (p : List Sp) {nm vr : Str} {k : Nat} (hk : FndK nm k) (hp : p.length < 1000) (n : Nat) (st : St) :
    ∃ S r, evF fns (n + 4) 203 [mkV, .cmp 2 0 (cBg p), .cmp 2 0 (cI (.mk 0 nm vr [] 0 0 [])), .int 63 1, .int 63 1] st = some (.ret (.ref 3 r 0 1 1 false), S) ∧ st.next ≤ r ∧ S.mem.get r = some (.cells 163 (cBg (p ++ [(k, vr)])) true) := by
  have hget : fns.get 203 = some sh203 := (pt.old _ (by decide)).trans (by kernel_rfl)
  obtain ⟨x, hx⟩ : ∃ x, x = It.mk 0 nm vr [] 0 0 [] := ⟨_, rfl⟩
  have hcx : cI x = [.int 63 0, .str nm, .str vr, e4, .int 63 0, .int 63 0, e4] := by rw [hx]; rfl
  rw [← hx]
  obtain ⟨S1, hS1⟩ : ∃ S, S = st.in.new (.cells 160 [ksV] true) := ⟨_, rfl⟩
  obtain ⟨S2, hS2⟩ : ∃ S, S = S1.new (.cells 163 (cBg p) true) := ⟨_, rfl⟩
  obtain ⟨S3, hS3⟩ : ∃ S, S = S2.new (.cells 34 (cI x) true) := ⟨_, rfl⟩
  have n1 : S1.next = st.next + 1 := by rw [hS1]; rfl
  have n2 : S2.next = st.next + 2 := by rw [hS2]; show S1.next + 1 = _; omega
  have n3 : S3.next = st.next + 3 := by rw [hS3]; show S2.next + 1 = _; omega
  have b1 : ∀ tm : Tr V, X.ev tm (.t (pa 0)) = mkV → iBox 160 (.t (pa 0)) tm st.in = some (.ref 1 st.next 0 0 0 false, S1) := fun tm h => by rw [m_box (cs := [ksV]) (by rw [h]; rfl), hS1]
  have b2 : ∀ tm : Tr V, X.ev tm (.t (pa 1)) = .cmp 2 0 (cBg p) → iBox 163 (.t (pa 1)) tm S1 = some (.ref 1 S1.next 0 0 0 false, S2) := fun tm h => by rw [m_box (cs := cBg p) (by rw [h]; rfl), hS2]
  have b3 : ∀ tm : Tr V, X.ev tm (.t (pa 2)) = .cmp 2 0 (cI x) → iBox 34 (.t (pa 2)) tm S2 = some (.ref 1 S2.next 0 0 0 false, S3) := fun tm h => by rw [m_box (cs := cI x) (by rw [h]; rfl), hS3]
  have g1 : S3.mem.get st.next = some (.cells 160 [ksV] true) := by rw [hS3, new_get, if_neg (by omega), hS2, new_get, if_neg (by omega), hS1]; exact new_get_self' _ _
  have g2 : S3.mem.get S1.next = some (.cells 163 (cBg p) true) := by rw [hS3, new_get, if_neg (by omega), hS2]; exact new_get_self' _ _
  have g3 : S3.mem.get S2.next = some (.cells 34 (cI x) true) := by rw [hS3]; exact new_get_self' _ _
  obtain ⟨S4, hS4⟩ : ∃ S, S = S3.new (.cells 89 [.int 63 0, .str [], nilS, nilS] true) := ⟨_, rfl⟩
  have n4 : S4.next = st.next + 4 := by rw [hS4]; show S3.next + 1 = _; omega
  have b4 : ∀ tm : Tr V, iAlloc 89 [.int 63 0, .str [], .ref 2 0 0 0 0 false, .ref 2 0 0 0 0 false] tm S3 = some (.ref 1 S3.next 0 0 0 false, S4) := fun tm => by rw [hS4]; rfl
  have m4 : ∀ y, y < S3.next → S4.mem.get y = S3.mem.get y := fun y hy => by rw [hS4, new_get, if_neg (by omega)]
  have l1 : ∀ g i q, ldW g q (.ref 1 st.next i 0 0 false) S3 = part g [ksV] i q := fun g i q => ldW_get g1
  have l3 : ∀ g i q, ldW g q (.ref 1 S2.next i 0 0 false) S3 = part g [.int 63 0, .str nm, .str vr, e4, .int 63 0, .int 63 0, e4] i q := fun g i q => by rw [← hcx]; exact ldW_get g3
  have l4 : ∀ g i q, ldW g q (.ref 1 S2.next i 0 0 false) S4 = part g [.int 63 0, .str nm, .str vr, e4, .int 63 0, .int 63 0, e4] i q := fun g i q => by rw [← hcx]; exact ldW_get ((m4 _ (by omega)).trans g3)
  have hfd := pt.find (n + 2) hk { next := S4.next, low := S4.next, mem := S4.mem }
  have lo4 : S4.low = st.next := by rw [hS4, hS3, hS2, hS1]; rfl
  have haf : S4.after { next := S4.next, low := S4.next, mem := S4.mem } = S4 := by
    show St.mk S4.next (bif Nat.ble S4.low S4.next then S4.low else S4.next) S4.mem = S4
    rw [bleT (show S4.low ≤ S4.next by omega)]; rfl
  have bd : ∀ (tm : Tr V) (s : St), X.ev tm (.t (pa 18)) = .int 63 (Int.ofNat k) → X.ev tm (.t (pa 20)) = .str vr → X.ev tm (.t (pa 22)) = e4 → iBuild [.int 63 0, .str [], .ref 2 0 0 0 0 false, .ref 2 0 0 0 0 false] [(0, 1, .t (pa 18)), (1, 1, .t (pa 20)), (2, 1, .t (pa 22))] tm s = some (.cmp 2 0 (cPr (k, vr))) := fun tm s h1 h2 h3 => by
    rw [m_build, fillV_c, h1, cells_int, fillS_1 (by decide), fillV_c, h2, cells_str, fillS_1 (by show 1 < 4; decide), fillV_c, h3, cells_fsl _ _ _ (by decide) (by decide), fillS_1 (by show 2 < 4; decide), fillV_0]; rfl
  obtain ⟨S5, hS5⟩ : ∃ S, S = S4.put S3.next (some (.cells 89 (cPr (k, vr)) true)) := ⟨_, rfl⟩
  have st5 : stW 4 (.ref 1 S3.next 0 0 0 false) (.cmp 2 0 (cPr (k, vr))) S4 = some (.undef, S5) := by rw [hS5]; exact stW_whole (by rw [hS4]; exact new_get_self' _ _) rfl rfl
  have n5 : S5.next = st.next + 4 := by rw [hS5]; exact n4
  have g52 : S5.mem.get S1.next = some (.cells 163 (cBg p) true) := by rw [hS5, put_get, if_neg (by omega), m4 _ (by omega)]; exact g2
  have l5 : ldW true 2 (.ref 1 S1.next 0 0 0 false) S5 = some (.cmp 2 0 (cBg p)) := by rw [ldW_get g52]; exact part_whole rfl
  have l6 : ldW true 4 (.ref 1 S3.next 0 0 0 false) S5 = some (.cmp 2 0 (cPr (k, vr))) := by rw [ldW_get (by rw [hS5, put_get, if_pos rfl])]; exact part_whole rfl
  have ht := pt.then_ (n + 2) p (k, vr) (by omega) S5
  obtain ⟨S6, hS6⟩ : ∃ S, S = S5.put S1.next (some (.cells 163 (cBg (p ++ [(k, vr)])) true)) := ⟨_, rfl⟩
  have st6 : stW 2 (.ref 1 S1.next 0 0 0 false) (.cmp 2 0 (cBg (p ++ [(k, vr)]))) S5 = some (.undef, S6) := by rw [hS6]; exact stW_whole g52 rfl rfl
  have l7 : ldW true 2 (.ref 1 S1.next 0 0 0 false) S6 = some (.cmp 2 0 (cBg (p ++ [(k, vr)]))) := by rw [ldW_get (by rw [hS6, put_get, if_pos rfl])]; exact part_whole rfl
  have n6 : S6.next = st.next + 4 := by rw [hS6]; exact n5
  obtain ⟨S7, hS7⟩ : ∃ S, S = S6.new (.cells 163 (cBg (p ++ [(k, vr)])) true) := ⟨_, rfl⟩
  have bs : ∀ tm : Tr V, X.ev tm (.t (pa 36)) = .cmp 2 0 (cBg (p ++ [(k, vr)])) → iBsl 163 1 [.ref 2 0 0 0 0 false, .ref 2 0 0 0 0 false] [(0, 2, .t (pa 36))] tm S6 = some (.ref 3 S6.next 0 1 1 true, S7) := fun tm h => by
    rw [m_bsl, fillV_c, h, cells_agg2, fillS_w (n := 2) rfl rfl, fillV_0, hS7]
  have n7 : S7.next = st.next + 5 := by rw [hS7]; show S6.next + 1 = _; omega
  obtain ⟨S8, a1, a2, a3, _, a5⟩ := app_row (st := S7) (e := 163) (size := 2) (bytes := 48) (n := 0) (ks := S6.next) (v := nilS) (cs := []) (news := cBg (p ++ [(k, vr)])) (.inl ⟨rfl, rfl, rfl⟩) rfl (by rw [hS7]; exact new_get_self' _ _) rfl (by decide)
  have ap : ∀ tm : Tr V, X.ev tm (.t (pa 35)) = .ref 2 0 0 0 0 false → X.ev tm (.t (pa 37)) = .ref 3 S6.next 0 1 1 true → iApp false 163 2 48 (.t (pa 35)) (.t (pa 37)) tm S7 = some (.ref 3 S7.next 0 1 1 false, S8) := fun tm x y => a1 tm _ _ x y
  have z1 : fLeq 63 1 1 = some (.bool true) := rfl
  have z2 : fLeq 63 2 1 = some (.bool false) := rfl
  have z3 : fGeq 63 1 1 = some (.bool true) := rfl
  have z4 : fAdd 63 1 1 = some (.int 63 2) := rfl
  refine ⟨back st (.ret (.ref 3 S7.next 0 1 1 false)) S8, S7.next, ?_, by omega, ?_⟩
  · rw [ev_mk hget]
    simp only [c203_0, c203_1, c203_2, c203_3, c203_4, c203_5, b203_0, x_loop1, yY, iInt, iStr, iLenS, iLenL, iNot, iPick, iExt, if_true, if_false, reduceIte, Nat.reduceEqDiff, Nat.reduceAdd, reduceCtorEq, yQ, b1, b2, b3, m_fad, m_add0, m_load, yD, x_oneM, x_oneE, x_oneP, x_oneK, x_oneL, x_oneC2, l1, l3, b4, x_stepCE, St.fresh, hfd, haf, x_oneS, see_cons, see_nil, mem68a, mem68b, sees_ret, l4, part_c0, part_cs, sameV_refl, cond_true, Bool.true_and, Bool.and_true, bd, m_store, st5, z1, z2, z3, z4, l5, l6, ht, st6, l7, bs, ap]
    refine leave_back ?_ (fun h => nomatch h)
    simp only [yL, if_true, if_false, reduceIte, Nat.reduceEqDiff, reduceCtorEq]
  · rw [back_new (show (CR.ret (.ref 3 S7.next 0 1 1 false)).under st.next = false from under_new _ _ 1 1 false (by omega))]
    exact a3
end
end Go.Proofs.YtnccejmggcjaoaaGreatDoor.Av
