/-
  path.Of: WHAT IT ANSWERS of a query of Ones.
-/
import Derived.Test.YtnccejmggcjaoaaGreatDoorPthC
namespace Go.Proofs.YtnccejmggcjaoaaGreatDoor.Av
set_option linter.unusedVariables false
set_option linter.unusedSimpArgs false
set_option maxRecDepth 1000000
open Go
theorem leave_two {st st' : St} {tm : Tr V} {a b : Nat} {u v : V} (hu : X.ev tm (.t (pa a)) = u) (hv : X.ev tm (.t (pa b)) = v) (hun : u ≠ V.undef) (hvn : v ≠ V.undef) :
    leaveF st [.t (pa a), .t (pa b)] (some (.ret, tm, st')) = some (.ret (.tup [u, v]), back st (.ret (.tup [u, v])) st') := by
  have h1 := at_of_ev hu hun
  have h2 := at_of_ev hv hvn
  have h3 : resV tm st' [.t (pa a), .t (pa b)] = some (.tup [u, v]) := by
    show (match (match tm.at (pa a), (match tm.at (pa b), some ([] : List V) with | some v, some vs => some (v :: vs) | _, _ => none) with | some v, some vs => some (v :: vs) | _, _ => none) with | some vs => some (V.tup vs) | none => none) = _
    rw [h1, h2]
  show (Option.rec none (fun v => some (CR.ret v, back st (.ret v) st')) (resV tm st' [.t (pa a), .t (pa b)]) : Option (CR × St)) = _
  rw [h3]
theorem last_of {α : Type} : ∀ l : List α, 0 < l.length → ∃ p s, l = p ++ [s]
  | [], h => absurd h (Nat.lt_irrefl 0)
  | [x], _ => ⟨[], x, rfl⟩
  | x :: y :: l, _ => by
    obtain ⟨p, s, h⟩ := last_of (y :: l) (Nat.succ_pos _)
    exact ⟨x :: p, s, by rw [h]; rfl⟩
theorem get_of : table.get 48 = some sh48 := by kernel_rfl
theorem size_steps : sizeT Tryz.prog 86 = some 1 := by kernel_rfl
theorem check6_known : ∃ g, MemoOk Tryz.prog 35 g ∧ ∀ fns : Tr Fs, fns.get 35 = some (.memo g) → ∀ (n : Nat) (l : List It), (∀ x ∈ l, OneI x) → 0 < l.length → l.length ≤ 12 → ∀ (w : Int), 0 ≤ w ∧ w ≤ 1000000000 → ∀ st : St,
    evF fns (n + 1) 35 [ksV, .cmp 2 0 [slT 6 l.length (cIs l), .int 63 w, .str []]] st = some (.ret (.int 63 0), st) := by
  obtain ⟨T, ct⟩ := chk_tab
  obtain ⟨g, m, k⟩ := memo_pure (F := 35) (R0 := fun args v => (∃ (l : List It) (w : Int), (∀ x ∈ l, OneI x) ∧ 0 < l.length ∧ l.length ≤ 12 ∧ (0 ≤ w ∧ w ≤ 1000000000) ∧ args = [ksV, .cmp 2 0 [slT 6 l.length (cIs l), .int 63 w, .str []]]) ∧ v = .int 63 0) (fun args v ⟨⟨l, w, h1, h0, h12, hw, h2⟩, h3⟩ st => by
    subst h2 h3
    obtain ⟨s1, s2, s3, s4, s5, s6, s7, s8⟩ := ones_sz h1
    have hends : endsOk l := fun hp => by
      obtain ⟨_, _, _, e1, _⟩ := h1 l[0] (List.getElem_mem hp)
      obtain ⟨_, _, _, e2, _⟩ := h1 (l[l.length - 1]'(by omega)) (List.getElem_mem _)
      rw [e1, e2]; exact ⟨show (0 : Int) ≠ 2 by decide, show (0 : Int) ≠ 2 by decide⟩
    have h60 : (2 : Nat) ^ 60 = 1152921504606846976 := by decide
    obtain ⟨e, r1, r2⟩ := check_flat ct.raw ct.rap ct.rm ct.rc ct.hN (E := fun _ => False) (fun n e he => he.elim) ct.kt fndK_fun ct.hks (l := l) ⟨h0, s7⟩ ⟨hends, s8⟩ ⟨by omega, s6⟩ (ones_flat h1) (by omega) (by omega) (by omega) (by omega) hw (.inl rfl) (t := 6) (.inr rfl) (n := 12 * szL l + cdL l + 20) (Nat.le_refl _) (by omega) (by omega) st
    have he : e = 0 := by
      rcases r2 with ⟨h, _⟩ | ⟨_, x, hx, h⟩
      · exact h
      · obtain ⟨nm, vr, k, rfl, _⟩ := h1 x hx
        exact absurd (fun k _ => .inl rfl) h
    rw [he] at r1
    exact callAt_ev mixedZ ct.ok (fnOk_of ct.ok ct.rc.check) r1) (fun args v v' ⟨_, h⟩ ⟨_, h'⟩ => by rw [h, h'])
  exact ⟨g, m, fun fns hf n l h1 h0 h12 w hw st => k fns hf n _ _ ⟨⟨l, w, h1, h0, h12, hw, rfl⟩, rfl⟩ st⟩
theorem items_known : ∃ g, MemoOk Tryz.prog 99 g ∧ ∀ fns : Tr Fs, fns.get 99 = some (.memo g) → ∀ (n : Nat) (l : List It), (∀ x ∈ l, OneI x) → 0 < l.length → l.length ≤ 12 → ∀ (st : St) (o : Nat), st.mem.get o = some (.cells 163 [nilS, nilS] true) →
    evF fns (n + 1) 99 [mkV, .ref 3 o 0 1 1 true, slT 6 l.length (cIs l)] st = some (.ret (slT 4 1 (cBg (l.map stepOf))), st) := by
  obtain ⟨gi, mi, ki⟩ := item_known
  obtain ⟨T, hT⟩ : ∃ T, T = table.set 157 (some (.memo gi)) := ⟨_, rfl⟩
  have hok : TableOk Tryz.prog T := by rw [hT]; exact tableMemo tab mi
  have hit := ki T (by rw [hT, get_set, if_pos rfl])
  have hget : T.get 99 = some sh99 := by rw [hT, get_set, if_neg (by decide)]; exact get_pitems
  obtain ⟨R, hR⟩ : ∃ R : List V → St → CR → St → Prop, R = fun args st r st' => CallAt Tryz.prog 99 args st r st' ∧ st' = st ∧ ∃ (l : List It) (u : V), args = [mkV, u, slT 6 l.length (cIs l)] ∧ r = .ret (slT 4 1 (cBg (l.map stepOf))) := ⟨_, rfl⟩
  refine ⟨memoG R, memo_of fun args st r st' h => by rw [hR] at h; exact h.1, fun fns hf n l h1 h0 h12 st o ho => ?_⟩
  obtain ⟨S, r, e1, e2, e3⟩ := items_ev hit hget h1 h0 (by omega) (n := l.length) (by omega) stN
  obtain ⟨p0, s0, hne⟩ := last_of (l.map stepOf) (by rw [List.length_map]; exact h0)
  have hfr : Fr Tryz.prog 11 [] [] 0 S (.ref 3 r 0 1 1 false) (slT 4 1 (cBg (l.map stepOf))) := by
    rw [hne] at e3 ⊢
    exact begun_frz e2 e3
  have hat : CallAt Tryz.prog 99 [mkV, .ref 3 o 0 1 1 true, slT 6 l.length (cIs l)] st (.ret (slT 4 1 (cBg (l.map stepOf)))) st := by
    refine flat_of globals.symm (mem := .leaf) no_lt (no_tabs st) (.cons (.flat _ rfl) (.cons (.own o 0 1 1 true 163 2 [nilS, nilS] [e4, e4] true (by simp) ho (by decide) (.cons .nil4 (.cons .nil4 .nil))) (.cons (.wk66 l.length l.length false (cIs l) (cIs l) (Ars.flats (cIs_fine l))) .nil))) (callAt_ev mixedZ hok (fnOk_of hok hget) e1) hfr (sl1_fine _)
  obtain ⟨r', st'', h3, h4⟩ := memo_at (n := n) hf (args := [mkV, .ref 3 o 0 1 1 true, slT 6 l.length (cIs l)]) (st := st) (r := .ret (slT 4 1 (cBg (l.map stepOf)))) (st' := st) (by rw [hR]; exact ⟨hat, rfl, l, _, rfl, rfl⟩)
  rw [hR] at h3
  obtain ⟨_, rfl, l', u, h5, rfl⟩ := h3
  injection h5 with _ h5
  injection h5 with _ h5
  injection h5 with h5 _
  obtain ⟨h6, h7⟩ := slT_inj h5
  obtain rfl := cIs_inj h6 h7
  exact h4
theorem po_b : b48_0 = rangeB 0 1 (pa 25) (pa 24) (pa 23) (pa 33) d48_0 := rfl
section
variable {fns : Tr Fs} (hget : fns.get 48 = some sh48)
  (hck : ∀ (n : Nat) (l : List It), (∀ x ∈ l, OneI x) → 0 < l.length → l.length ≤ 12 → ∀ (w : Int), 0 ≤ w ∧ w ≤ 1000000000 → ∀ st : St, evF fns (n + 1) 35 [ksV, .cmp 2 0 [slT 6 l.length (cIs l), .int 63 w, .str []]] st = some (.ret (.int 63 0), st))
  (hit : ∀ (n : Nat) (l : List It), (∀ x ∈ l, OneI x) → 0 < l.length → l.length ≤ 12 → ∀ (st : St) (o : Nat), st.mem.get o = some (.cells 163 [nilS, nilS] true) → evF fns (n + 1) 99 [mkV, .ref 3 o 0 1 1 true, slT 6 l.length (cIs l)] st = some (.ret (slT 4 1 (cBg (l.map stepOf))), st))
include hget hck hit
set_option maxHeartbeats 8000000 in
theorem of_ev {l : List It} (hl : ∀ x ∈ l, OneI x) (h0 : 0 < l.length) (h12 : l.length ≤ 12) {w : Int} (hw : 0 ≤ w ∧ w ≤ 1000000000) (n : Nat) (st : St) :
    ∃ S r, evF fns (n + 5) 48 [ksV, .cmp 2 0 [slT 6 l.length (cIs l), .int 63 w, .str []]] st = some (.ret (.tup [.ref 3 r 0 1 1 false, .int 63 0]), S) ∧ st.next ≤ r ∧ S.mem.get r = some (.cells 86 [slT 4 (l.map stepOf).length (cPs (l.map stepOf))] true) := by
  obtain ⟨p, hp⟩ : ∃ p, p = l.map stepOf := ⟨_, rfl⟩
  rw [← hp]
  obtain ⟨q, hq⟩ : ∃ q : List V, q = [slT 6 l.length (cIs l), .int 63 w, .str []] := ⟨_, rfl⟩
  rw [← hq]
  obtain ⟨S1, hS1⟩ : ∃ S, S = st.in.new (.cells 27 q true) := ⟨_, rfl⟩
  have n1 : S1.next = st.next + 1 := by rw [hS1]; rfl
  have b1 : ∀ tm : Tr V, X.ev tm (.t (pa 1)) = .cmp 2 0 q → iBox 27 (.t (pa 1)) tm st.in = some (.ref 1 st.next 0 0 0 false, S1) := fun tm h => by rw [m_box (cs := q) (by rw [h]; rfl), hS1]
  have g1 : S1.mem.get st.next = some (.cells 27 q true) := by rw [hS1]; exact new_get_self' _ _
  have l1 : ldW true 3 (.ref 1 st.next 0 0 0 false) S1 = some (.cmp 2 0 q) := by rw [ldW_get g1]; exact part_whole (by rw [hq]; rfl)
  have k1 := hck (n + 3) l hl h0 h12 w hw S1
  rw [← hq] at k1
  obtain ⟨S2, hS2⟩ : ∃ S, S = S1.new (.cells 163 [nilS, nilS] true) := ⟨_, rfl⟩
  have n2 : S2.next = st.next + 2 := by rw [hS2]; show S1.next + 1 = _; omega
  have bd1 : ∀ tm : Tr V, X.ev tm (.t (pa 16)) = ksV → iBuild [.ref 2 0 0 0 0 false] [(0, 1, .t (pa 16))] tm S1 = some mkV := fun tm h => by
    rw [m_build, fillV_c, h, cells_fsl _ _ _ (by decide) (by decide), fillS_1 (by decide), fillV_0]; rfl
  have bd2 : ∀ tm : Tr V, iBuild [.ref 2 0 0 0 0 false, .ref 2 0 0 0 0 false] [] tm S1 = some (.cmp 2 0 [nilS, nilS]) := fun tm => by rw [m_build, fillV_0]
  have bs2 : ∀ tm : Tr V, X.ev tm (.t (pa 18)) = .cmp 2 0 [nilS, nilS] → iBsl 163 1 [.ref 2 0 0 0 0 false, .ref 2 0 0 0 0 false] [(0, 2, .t (pa 18))] tm S1 = some (.ref 3 S1.next 0 1 1 true, S2) := fun tm h => by
    rw [m_bsl, fillV_c, h, cells_agg2, fillS_w (n := 2) rfl rfl, fillV_0, hS2]
  have l2 : ldW false 1 (.ref 1 st.next 0 0 0 false) S2 = some (slT 6 l.length (cIs l)) := by rw [hS2, ldW_new (by omega), ldW_get g1, hq]; rfl
  have k2 := hit (n + 3) l hl h0 h12 S2 S1.next (by rw [hS2]; exact new_get_self' _ _)
  rw [← hp] at k2
  have ia : ∀ (tm : Tr V) (s : St), X.ev tm (.t (pa 22)) = slT 4 1 (cBg p) → X.ev tm (.t (pa 24)) = .int 63 0 → iIad 2 (.t (pa 22)) (.t (pa 24)) tm s = some (.cmp 5 0 (cBg p)) := fun tm s x y => by
    rw [m_iad4 (k := 0) x y (by decide) (by show 0 < 2; decide)]; rfl
  have l3 : ldW true 2 (.cmp 5 0 (cBg p)) S2 = some (.cmp 2 0 (cBg p)) := by rw [ldW_5]; exact part_whole rfl
  obtain ⟨S3, hS3⟩ : ∃ S, S = loc S2 163 [nilS, nilS] (cBg p) := ⟨_, rfl⟩
  have st3 : stW 2 (.ref 1 S2.next 0 0 0 false) (.cmp 2 0 (cBg p)) (S2.new (.cells 163 [nilS, nilS] true)) = some (.undef, S3) := by rw [hS3]; exact stW_new rfl rfl
  have n3 : S3.next = st.next + 3 := by rw [hS3, loc_next]; omega
  have l4 : ldW false 1 (.ref 1 S2.next 0 0 0 false) S3 = some (slT 4 p.length (cPs p)) := by rw [hS3, ldW_loc]; rfl
  obtain ⟨S4, hS4⟩ : ∃ S, S = S3.new (.cells 86 [slT 4 p.length (cPs p)] true) := ⟨_, rfl⟩
  have n4 : S4.next = st.next + 4 := by rw [hS4]; show S3.next + 1 = _; omega
  have bs4 : ∀ tm : Tr V, X.ev tm (.t (pa 30)) = slT 4 p.length (cPs p) → iBsl 86 1 [.ref 2 0 0 0 0 false] [(0, 1, .t (pa 30))] tm S3 = some (.ref 3 S3.next 0 1 1 true, S4) := fun tm h => by
    rw [m_bsl, fillV_c, h, cells_fsl _ _ _ (by decide) (by decide), fillS_1 (by decide), fillV_0, hS4]; rfl
  obtain ⟨S5, a1, a2, a3, _, a5⟩ := app_row (st := S4) (e := 86) (size := 1) (bytes := 24) (n := 0) (ks := S3.next) (v := nilS) (cs := []) (news := [slT 4 p.length (cPs p)]) (.inl ⟨rfl, rfl, rfl⟩) rfl (by rw [hS4]; exact new_get_self' _ _) rfl (by decide)
  have ap : ∀ tm : Tr V, X.ev tm (.t (pa 28)) = .ref 2 0 0 0 0 false → X.ev tm (.t (pa 31)) = .ref 3 S3.next 0 1 1 true → iApp false 86 1 24 (.t (pa 28)) (.t (pa 31)) tm S4 = some (.ref 3 S4.next 0 1 1 false, S5) := fun tm x y => a1 tm _ _ x y
  have z0 : fNeq 63 0 0 = some (.bool false) := rfl
  have z1 : fLss 63 0 (Int.ofNat 1) = some (.bool true) := rfl
  have z2 : fLss 63 1 (Int.ofNat 1) = some (.bool false) := rfl
  have z3 : fAdd 63 0 1 = some (.int 63 1) := rfl
  refine ⟨back st (.ret (.tup [.ref 3 S4.next 0 1 1 false, .int 63 0])) S5, S4.next, ?_, by omega, ?_⟩
  · rw [ev_mk hget]
    simp only [c48_0, c48_1, c48_2, c48_3, c48_4, c48_5, c48_6, c48_7, b48_0, d48_0, x_loop1, yY, iInt, iStr, iLenS, iLenL, iNot, iPick, iExt, if_true, if_false, reduceIte, Nat.reduceEqDiff, Nat.reduceAdd, reduceCtorEq, yQ, b1, m_load, l1, k1, z0, bd1, bd2, bs2, m_fad, m_add0, l2, k2, x_slF, x_fsl4, z1, z2, z3, ia, l3, m_alloc, m_store, st3, l4, bs4, ap]
    exact leave_two (by simp only [yL, if_true, if_false, reduceIte, Nat.reduceEqDiff, reduceCtorEq]) (by simp only [yL, if_true, if_false, reduceIte, Nat.reduceEqDiff, reduceCtorEq]) (fun h => nomatch h) (fun h => nomatch h)
  · rw [back_new (by
      show (V.cmp 3 0 [.ref 3 S4.next 0 1 1 false, .int 63 0]).under st.next = false
      rw [under_cmp]
      simp only [List.all_cons, under_new st.next S4.next _ _ _ (by omega), Bool.false_and])]
    exact a3
end
theorem of_known : ∃ g, MemoOk Tryz.prog 48 g ∧ ∀ fns : Tr Fs, fns.get 48 = some (.memo g) → ∀ (n : Nat) {st : St} {v : V} {l : List It}, FlatIn st v l → ∀ (w : Int), 0 ≤ w ∧ w ≤ 1000000000 →
    evF fns (n + 1) 48 [ksV, .cmp 2 0 [v, .int 63 w, .str []]] st = some (.ret (.tup [slT 4 1 [slT 4 (l.map stepOf).length (cPs (l.map stepOf))], .int 63 0]), st) := by
  obtain ⟨g1, m1, k1⟩ := check6_known
  obtain ⟨g2, m2, k2⟩ := items_known
  obtain ⟨T, hT⟩ : ∃ T, T = (table.set 35 (some (.memo g1))).set 99 (some (.memo g2)) := ⟨_, rfl⟩
  have hok : TableOk Tryz.prog T := by rw [hT]; exact tableMemo (tableMemo tab m1) m2
  have hck := k1 T (by rw [hT, get_set, if_neg (by decide), get_set, if_pos rfl])
  have hit := k2 T (by rw [hT, get_set, if_pos rfl])
  have hget : T.get 48 = some sh48 := by rw [hT, get_set, if_neg (by decide), get_set, if_neg (by decide)]; exact get_of
  obtain ⟨R, hR⟩ : ∃ R : List V → St → CR → St → Prop, R = fun args st r st' => CallAt Tryz.prog 48 args st r st' ∧ st' = st ∧ ∃ (l : List It) (v : V) (w : Int), FlatIn st v l ∧ args = [ksV, .cmp 2 0 [v, .int 63 w, .str []]] ∧ r = .ret (.tup [slT 4 1 [slT 4 (l.map stepOf).length (cPs (l.map stepOf))], .int 63 0]) := ⟨_, rfl⟩
  refine ⟨memoG R, memo_of fun args st r st' h => by rw [hR] at h; exact h.1, fun fns hf n st v l h w hw => ?_⟩
  have hat : CallAt Tryz.prog 48 [ksV, .cmp 2 0 [v, .int 63 w, .str []]] st (.ret (.tup [slT 4 1 [slT 4 (l.map stepOf).length (cPs (l.map stepOf))], .int 63 0])) st := by
    obtain ⟨k, c, x, w', rfl, hg, h0, h12, h1⟩ := h
    obtain ⟨S, r, e1, e2, e3⟩ := of_ev hget hck hit h1 h0 h12 hw 0 stN
    have hfin : (([slT 4 (l.map stepOf).length (cPs (l.map stepOf))] : List V).all fun v => v.fine) = true := by
      simp only [List.all_cons, List.all_nil, fine_sl4 _ (cPs_fine (l.map stepOf)), Bool.and_true]
    have hfin2 : (V.tup [slT 4 1 [slT 4 (l.map stepOf).length (cPs (l.map stepOf))], .int 63 0]).fine = true := by
      rw [fine_cmp, beqF (by decide), beqF (by decide), List.all_cons, fine_sl4 1 hfin]; rfl
    refine flat_of globals.symm (mem := .leaf) no_lt (no_tabs st) (.cons (.flat _ rfl) (.cons (.cmp 2 _ _ 0 (by decide) (.cons (.own k 0 l.length c x _ 7 (rIs l) (cIs l) w' (by simp) hg (by rw [rIs_len]; omega) ?_) (.cons (.flat _ rfl) (.cons (.flat _ rfl) .nil)))) .nil)) (callAt_ev mixedZ hok (fnOk_of hok hget) e1) (.cmp 3 _ _ 0 (by decide) (.cons (.fsl r 0 1 1 false 86 1 _ _ e2 (fun h => nomatch h) e3 size_steps (by show 0 + 1 * 1 ≤ 1; decide) ?_) (.cons (.flat _ rfl) .nil))) hfin2
    · rw [List.drop_zero, List.take_of_length_le (by rw [rIs_len]; exact Nat.le_refl _)]
      exact rIs_ars h1
    · exact Frs.flats hfin
  obtain ⟨r', st'', h3, h4⟩ := memo_at (n := n) hf (args := [ksV, .cmp 2 0 [v, .int 63 w, .str []]]) (st := st) (st' := st) (by rw [hR]; exact ⟨hat, rfl, l, v, w, h, rfl, rfl⟩)
  rw [hR] at h3
  obtain ⟨_, rfl, l', v', w', h5, h6, rfl⟩ := h3
  injection h6 with _ h6
  injection h6 with h6 _
  injection h6 with _ _ h6
  injection h6 with h6 _
  subst h6
  obtain rfl := h.uniq h5
  exact h4
end Go.Proofs.YtnccejmggcjaoaaGreatDoor.Av
