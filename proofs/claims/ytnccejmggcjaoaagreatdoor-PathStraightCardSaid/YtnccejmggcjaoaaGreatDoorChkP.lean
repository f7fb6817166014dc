/-
  check.placed, pattern.Count: WHAT THEY ANSWER.
-/
import Derived.Test.YtnccejmggcjaoaaGreatDoorChkB
namespace Go.Proofs.YtnccejmggcjaoaaGreatDoor.Av
set_option linter.unusedVariables false
set_option linter.unusedSimpArgs false
set_option maxRecDepth 1000000
open Go
def It.knd : It → Int
  | .mk k _ _ _ _ _ _ => k
def endsOk (l : List It) : Prop := ∀ h : 0 < l.length, l[0].knd ≠ 2 ∧ (l[l.length - 1]'(by omega)).knd ≠ 2
mutual
def plI : It → Prop
  | .mk _ _ _ _ _ _ ks => plK ks
def plM : List It → Prop
  | [] => True
  | x :: l => plI x ∧ plM l
def plK : List (List It) → Prop
  | [] => True
  | l :: ks => (endsOk l ∧ plM l) ∧ plK ks
end
def plL (l : List It) : Prop := endsOk l ∧ plM l
theorem plM_iff : ∀ {l : List It}, plM l ↔ ∀ x ∈ l, plI x
  | [] => by simp [plM]
  | x :: l => by simp only [plM, plM_iff, List.mem_cons, forall_eq_or_imp]
theorem plK_iff : ∀ {l : List (List It)}, plK l ↔ ∀ x ∈ l, plL x
  | [] => by simp [plK]
  | x :: l => by simp only [plK, plK_iff, List.mem_cons, forall_eq_or_imp, plL]
theorem pl_kid {x : It} (h : plI x) {kid : List It} (hk : kid ∈ x.kids) : plL kid := by
  obtain ⟨k, n, v, p, lo, hi, ks⟩ := x
  simp only [plI] at h
  exact plK_iff.1 h kid hk
structure RawP (fns : Tr Fs) : Prop where
  pl : fns.get 85 = some sh85
  p1 : fns.get 142 = some sh142
  p2 : fns.get 144 = some sh144
  p3 : fns.get 146 = some sh146
  count : fns.get 86 = some sh86
section
variable {fns : Tr Fs} (raw : RawR fns) (rap : RawP fns)
include rap in
theorem not_ev (x : It) (n : Nat) (st : St) : evF fns (n + 1) 142 [.cmp 2 0 (cI x)] st = some (.ret (.bool (eqI x.knd 2)), st) := by
  obtain ⟨k, nm, vr, pr, lo, hi, ks⟩ := x
  obtain ⟨T, hT⟩ : ∃ T, T = st.in.new (.cells 34 (cI (.mk k nm vr pr lo hi ks)) true) := ⟨_, rfl⟩
  have hb : ∀ tm : Tr V, X.ev tm (.t (pa 0)) = .cmp 2 0 (cI (.mk k nm vr pr lo hi ks)) → iBox 34 (.t (pa 0)) tm st.in = some (.ref 1 st.next 0 0 0 false, T) := fun tm h => by rw [m_box (cs := cI (.mk k nm vr pr lo hi ks)) (by rw [h]; rfl), hT]
  have hl : ∀ g i q, ldW g q (.ref 1 st.next i 0 0 false) T = part g [.int 63 k, .str nm, .str vr, slT 4 pr.length (cEs pr), .int 63 lo, .int 63 hi, slT 4 ks.length (cKs ks)] i q := fun g i q => by rw [hT]; exact ldW_nb (st := st.in)
  rw [ev_mk rap.p1]
  simp only [c142_0, c142_1, yX, iInt, iStr, iLenS, iLenL, iNot, iPick, iExt, if_true, if_false, reduceIte, Nat.reduceEqDiff, Nat.reduceAdd, reduceCtorEq, yQ, hb, m_load, m_fad, m_add0, hl, part_c0, f_eql]
  refine leave_scalar (v := .bool (eqI k 2)) ?_ (fun h => nomatch h) rfl (by rw [hT]; exact Aft.box)
  simp only [yL, if_true, if_false, reduceIte, Nat.reduceEqDiff, reduceCtorEq]
include raw rap
theorem placedL : ∀ (m : Nat) (l : List It), szL l ≤ m → plL l → okL l → ∀ n : Nat, 12 * szL l + 12 ≤ n → ∀ (t : Nat), t = 4 ∨ t = 6 → ∀ st : St,
    evF fns n 85 [slT t l.length (cIs l)] st = some (.ret (.bool true), st) := by
  intro m
  induction m with
  | zero =>
    intro l hm hl hok n hn t ht st
    obtain rfl : l = [] := by have := len_szL l; exact List.length_eq_zero_iff.1 (by omega)
    obtain ⟨q, rfl⟩ : ∃ q, n = q + 11 := ⟨n - 11, by omega⟩
    have hcf := cfI_none (st := st.in) (t := t) (l := []) (g := 144) (cs := []) (n := q + 8) raw.ci raw.ii ht (by decide) (by show 0 < _; omega) (fun x hx => nomatch hx)
    have h0 : ltI 0 (Int.ofNat ([] : List It).length) = false := rfl
    rw [ev_mk rap.pl]
    rcases ht with rfl | rfl
    all_goals
      simp only [c85_0, c85_1, c85_2, c85_3, yY, iInt, iStr, iLenS, iLenL, iNot, iPick, iExt, if_true, if_false, reduceIte, Nat.reduceEqDiff, Nat.reduceAdd, reduceCtorEq, yQ, x_slF, x_fsl4, x_fsl6, f_gtr, h0, hcf]
      refine leave_scalar (v := .bool true) ?_ (fun h => nomatch h) rfl (Aft.refl _ _)
      simp only [yL, if_true, if_false, reduceIte, Nat.reduceEqDiff, reduceCtorEq]
  | succ m ih =>
    intro l hm hl hok n hn t ht st
    obtain ⟨hl60, hx⟩ := okL_iff.1 hok
    have hsz := len_szL l
    obtain ⟨q, rfl⟩ : ∃ q, n = q + 11 := ⟨n - 11, by omega⟩
    have hcf := cfI_none (st := st.in) (t := t) (l := l) (g := 144) (cs := []) (n := q + 8) raw.ci raw.ii ht hl60 (by omega) (fun x hxl => by
      have h1 := szL_kids hxl
      have ho := hx x hxl
      have hpl := plM_iff.1 hl.2 x hxl
      have hkid : ∀ kid ∈ x.kids, ∀ s : St, evF fns (q + 5) 146 [slT 4 kid.length (cIs kid)] s = some (.ret (.bool false), s) := fun kid hk s => by
        have h2 := szL_kid hxl hk
        have h3 := ih kid (by omega) (pl_kid hpl hk) (okI_kid ho hk) (q + 4) (by omega) 4 (.inl rfl) s.in
        rw [ev_mk rap.p3]
        simp only [c146_0, c146_1, yX, iInt, iStr, iLenS, iLenL, iNot, iPick, iExt, if_true, if_false, reduceIte, Nat.reduceEqDiff, Nat.reduceAdd, reduceCtorEq, yQ, h3]
        refine leave_scalar (v := .bool false) ?_ (fun h => nomatch h) rfl (Aft.refl _ _)
        simp only [yL, if_true, if_false, reduceIte, Nat.reduceEqDiff, reduceCtorEq]
      obtain ⟨k, nm, vr, pr, lo, hi, ks⟩ := x
      simp only [It.kids] at h1 hkid
      obtain ⟨T, hT⟩ : ∃ T, T = st.in.in.new (.cells 34 (cI (.mk k nm vr pr lo hi ks)) true) := ⟨_, rfl⟩
      have hb : ∀ tm : Tr V, X.ev tm (.t (pa 0)) = .cmp 2 0 (cI (.mk k nm vr pr lo hi ks)) → iBox 34 (.t (pa 0)) tm st.in.in = some (.ref 1 st.next 0 0 0 false, T) := fun tm h => by rw [m_box (cs := cI (.mk k nm vr pr lo hi ks)) (by rw [h]; rfl), hT]
      have hd : ∀ g i q, ldW g q (.ref 1 st.next i 0 0 false) T = part g [.int 63 k, .str nm, .str vr, slT 4 pr.length (cEs pr), .int 63 lo, .int 63 hi, slT 4 ks.length (cKs ks)] i q := fun g i q => by rw [hT]; exact ldW_nb (st := st.in.in)
      have hcK := cfK_none (st := T) (t := 4) (l := ks) (g := 146) (cs := []) (n := q + 5) raw.ck raw.ik (.inl rfl) (okI_at ho).1 (by omega) (fun kid hk => hkid kid hk T.in)
      rw [ev_mk rap.p2]
      simp only [c144_0, c144_1, yX, iInt, iStr, iLenS, iLenL, iNot, iPick, iExt, if_true, if_false, reduceIte, Nat.reduceEqDiff, Nat.reduceAdd, reduceCtorEq, yQ, hb, m_load, m_fad, m_add0, hd, part_c0, part_cs, hcK]
      refine leave_scalar (v := .bool false) ?_ (fun h => nomatch h) rfl (by rw [hT]; exact Aft.box)
      simp only [yL, if_true, if_false, reduceIte, Nat.reduceEqDiff, reduceCtorEq])
    rw [ev_mk rap.pl]
    by_cases hpos : 0 < l.length
    · obtain ⟨f1, f2⟩ := hl.1 hpos
      have h0 : ltI 0 (Int.ofNat l.length) = true := (gofn 0 l.length).trans (decide_eq_true hpos)
      have i0 : ∀ (tm : Tr V) (p : Pa) (s : St), X.ev tm (.t p) = slT t l.length (cIs l) → iIad 7 (.t p) (.c (.int 63 0)) tm s = _ := fun tm p s a => iad_I (i := 0) ht a rfl hpos
      have i1 : ∀ (tm : Tr V) (p p' : Pa) (s : St), X.ev tm (.t p) = slT t l.length (cIs l) → X.ev tm (.t p') = .int 63 (Int.ofNat (l.length - 1)) → iIad 7 (.t p) (.t p') tm s = _ := fun tm p p' s a b => iad_I (i := l.length - 1) ht a b (by omega)
      have hsub : fSub 63 (Int.ofNat l.length) 1 = some (.int 63 (Int.ofNat (l.length - 1))) := f_sub 63 l.length 1 hpos (by omega)
      have n1 := not_ev rap l[0] (q + 9) st.in
      have n2 := not_ev rap (l[l.length - 1]'(by omega)) (q + 9) st.in
      rw [show eqI l[0].knd 2 = false by rw [eqI_eq]; exact decide_eq_false f1] at n1
      rw [show eqI (l[l.length - 1]'(by omega)).knd 2 = false by rw [eqI_eq]; exact decide_eq_false f2] at n2
      rcases ht with rfl | rfl
      all_goals
        simp only [c85_0, c85_1, c85_2, c85_3, yY, iInt, iStr, iLenS, iLenL, iNot, iPick, iExt, if_true, if_false, reduceIte, Nat.reduceEqDiff, Nat.reduceAdd, reduceCtorEq, yQ, x_slF, x_fsl4, x_fsl6, f_gtr, h0, i0, i1, m_load, ld_I (.inl rfl), ld_I (.inr rfl), List.append_nil, n1, n2, hsub, hcf]
        refine leave_scalar (v := .bool true) ?_ (fun h => nomatch h) rfl (Aft.refl _ _)
        simp only [yL, if_true, if_false, reduceIte, Nat.reduceEqDiff, reduceCtorEq]
    · have h0 : ltI 0 (Int.ofNat l.length) = false := (gofn 0 l.length).trans (decide_eq_false hpos)
      rcases ht with rfl | rfl
      all_goals
        simp only [c85_0, c85_1, c85_2, c85_3, yY, iInt, iStr, iLenS, iLenL, iNot, iPick, iExt, if_true, if_false, reduceIte, Nat.reduceEqDiff, Nat.reduceAdd, reduceCtorEq, yQ, x_slF, x_fsl4, x_fsl6, f_gtr, h0, hcf]
        refine leave_scalar (v := .bool true) ?_ (fun h => nomatch h) rfl (Aft.refl _ _)
        simp only [yL, if_true, if_false, reduceIte, Nat.reduceEqDiff, reduceCtorEq]
end
mutual
def ctI : It → Nat
  | .mk _ _ _ _ _ _ ks => ctK ks
def ctL : List It → Nat
  | [] => 0
  | x :: l => 1 + ctI x + ctL l
def ctK : List (List It) → Nat
  | [] => 0
  | l :: ks => ctL l + ctK ks
end
mutual
theorem ctI_sz : ∀ x : It, ctI x < szI x
  | .mk _ _ _ _ _ _ ks => by have := ctK_sz ks; simp only [ctI, szI]; omega
theorem ctL_sz : ∀ l : List It, ctL l ≤ szL l
  | [] => Nat.le_refl _
  | x :: l => by have := ctI_sz x; have := ctL_sz l; simp only [ctL, szL]; omega
theorem ctK_sz : ∀ l : List (List It), ctK l ≤ szK l
  | [] => Nat.le_refl _
  | x :: l => by have := ctL_sz x; have := ctK_sz l; simp only [ctK, szK]; omega
end
theorem ctL_fold : ∀ (l : List It) (m : Nat), l.foldl (fun m x => m + ctI x) (m + l.length) = m + ctL l
  | [], m => rfl
  | x :: l, m => by rw [List.foldl_cons, List.length_cons, show m + (l.length + 1) + ctI x = (m + 1 + ctI x) + l.length by omega, ctL_fold l]; simp only [ctL]; omega
theorem ctK_fold : ∀ (l : List (List It)) (m : Nat), l.foldl (fun m x => m + ctL x) m = m + ctK l
  | [], m => rfl
  | x :: l, m => by rw [List.foldl_cons, ctK_fold l]; simp only [ctK]; omega
theorem fold_ge {α : Type} (f : α → Nat) : ∀ (l : List α) (m : Nat), m ≤ l.foldl (fun m x => m + f x) m
  | [], m => Nat.le_refl _
  | x :: l, m => Nat.le_trans (Nat.le_add_right m (f x)) (fold_ge f l _)
theorem fold_take_le {α : Type} (f : α → Nat) (l : List α) (i m : Nat) : (l.take i).foldl (fun m x => m + f x) m ≤ l.foldl (fun m x => m + f x) m := by
  conv => rhs; rw [← List.take_append_drop i l, List.foldl_append]
  exact fold_ge f _ _
theorem ck_b : b86_0 = rangeB 2 3 (pa 20) (pa 19) (pa 18) (pa 27) d86_0 := rfl
theorem cl_b : b86_1 = rangeB 0 1 (pa 13) (pa 12) (pa 11) (pa 28) d86_1 := rfl
section
variable {call : Callee} {n : Nat}
theorem ck_loop {ks : List (List It)} {st : St} {acc : Nat} (hks : ks.length < 2 ^ 60) (hn : ks.length < n) (hb : acc + ctK ks < 2 ^ 62) (hc : ∀ l ∈ ks, call 86 [slT 4 l.length (cIs l)] st = some (.ret (.int 63 (Int.ofNat (ctL l))), st)) (tm : Tr V)
    (h : X.ev tm (.t (pa 17)) = slT 4 ks.length (cKs ks) ∧ X.ev tm (.t (pa 18)) = .int 63 (Int.ofNat ks.length) ∧ X.ev tm (.t (pa 19)) = .int 63 0 ∧ X.ev tm (.t (pa 3)) = .int 63 (Int.ofNat acc)) :
    ∃ tm', Keep [3, 7, 19, 20, 21, 22, 23, 24, 25, 26, 27] tm tm' ∧ outR 2 (loopV n (b86_0 call n) tm st) = some (.nrm, tm', st) ∧ X.ev tm' (.t (pa 3)) = .int 63 (Int.ofNat (acc + ctK ks)) := by
  obtain ⟨h17, h18, h19, h3⟩ := h
  rw [ck_b]
  obtain ⟨tm', st', g1, _, g3, g4, g5⟩ := range_one (call := call) (n := n) (id := 2) (bid := 3) (kc := 20) (ki := 19) (kl := 18) (kt := 27) (B := d86_0) (S := [3, 7, 19, 20, 21, 22, 23, 24, 25, 26, 27]) (S0 := [3, 7, 21, 22, 23, 24, 25, 26]) (ka := 3) (L := 0) (len := ks.length) (tm0 := tm) (st0 := st)
    (g := fun i => .int 63 (Int.ofNat ((ks.take i).foldl (fun n l => n + ctL l) acc))) (Q := fun _ s => s = st) (fuel := n) (by omega) (by decide) (by decide) h18 h19 rfl h3 hn
    (fun i tm1 s hi hK _ hs h3' hI => by
      subst hs
      have h17' := (hK 17 (by decide)).trans h17
      have hcl := hc ks[i] (List.getElem_mem hi)
      have hia : ∀ (tm : Tr V), X.ev tm (.t (pa 17)) = slT 4 ks.length (cKs ks) → X.ev tm (.t (pa 19)) = .int 63 (Int.ofNat i) → iIad 1 (.t (pa 17)) (.t (pa 19)) tm s = _ := fun tm a b => iad_K (.inl rfl) a b hi
      have hf := foldl_take (fun n l => n + ctL l) acc ks hi
      have hle := fold_take_le ctL ks (i + 1) acc
      rw [ctK_fold ks acc] at hle
      have hf' : (ks.take (i + 1)).foldl (fun n l => n + ctL l) acc = (ks.take i).foldl (fun n l => n + ctL l) acc + ctL ks[i] := hf
      have hadd := f_add 63 ((ks.take i).foldl (fun n l => n + ctL l) acc) (ctL ks[i]) (by omega)
      simp only [d86_0, yX, iInt, iStr, iLenS, iLenL, iNot, iPick, iExt, if_true, if_false, reduceIte, Nat.reduceEqDiff, Nat.reduceAdd, reduceCtorEq, yQ, h17', h3', hI, hia, m_load, ld_K (.inl rfl), hcl, hadd]
      refine ⟨_, _, rfl, Aft.refl _ _, rfl, ?_, ?_⟩
      · simp only [yL, if_true, if_false, reduceIte, Nat.reduceEqDiff, reduceCtorEq, hf]
      · repeat (first | exact Keep.refl _ _ | refine Keep.to ?_ (by decide)))
  subst g4
  exact ⟨tm', g1, g3, by rw [g5, List.take_length, ctK_fold]⟩
theorem cl_loop {L : List It} {st : St} {t : Nat} (ht : t = 4 ∨ t = 6) (hL : L.length < 2 ^ 60) (hn : L.length < n) (hb : ctL L < 2 ^ 60) (hx : ∀ x ∈ L, x.kids.length < 2 ^ 60 ∧ x.kids.length < n ∧ ∀ l ∈ x.kids, ∀ st, call 86 [slT 4 l.length (cIs l)] st = some (.ret (.int 63 (Int.ofNat (ctL l))), st)) (tm : Tr V)
    (h : X.ev tm (.t (pa 10)) = slT t L.length (cIs L) ∧ X.ev tm (.t (pa 11)) = .int 63 (Int.ofNat L.length) ∧ X.ev tm (.t (pa 12)) = .int 63 0 ∧ X.ev tm (.t (pa 3)) = .int 63 (Int.ofNat L.length)) :
    ∃ tm' st', Keep [3, 5, 7, 12, 13, 14, 15, 16, 17, 18, 19, 20, 21, 22, 23, 24, 25, 26, 27, 28] tm tm' ∧ Aft st.next st st' ∧ outR 0 (loopV n (b86_1 call n) tm st) = some (.nrm, tm', st') ∧ X.ev tm' (.t (pa 3)) = .int 63 (Int.ofNat (ctL L)) := by
  obtain ⟨h10, h11, h12, h3⟩ := h
  rw [cl_b]
  obtain ⟨tm', st', g1, g2, g3, _, g5⟩ := range_one (call := call) (n := n) (id := 0) (bid := 1) (kc := 13) (ki := 12) (kl := 11) (kt := 28) (B := d86_1) (S := [3, 5, 7, 12, 13, 14, 15, 16, 17, 18, 19, 20, 21, 22, 23, 24, 25, 26, 27, 28]) (S0 := [3, 5, 7, 14, 15, 16, 17, 18, 19, 20, 21, 22, 23, 24, 25, 26, 27]) (ka := 3) (L := st.next) (len := L.length) (tm0 := tm) (st0 := st)
    (g := fun i => .int 63 (Int.ofNat ((L.take i).foldl (fun m x => m + ctI x) L.length))) (Q := fun _ _ => True) (fuel := n) (by omega) (by decide) (by decide) h11 h12 trivial h3 hn
    (fun i tm1 s hi hK hA _ h3' hI => by
      have h10' := (hK 10 (by decide)).trans h10
      have hia : ∀ (tm : Tr V), X.ev tm (.t (pa 10)) = slT t L.length (cIs L) → X.ev tm (.t (pa 12)) = .int 63 (Int.ofNat i) → iIad 7 (.t (pa 10)) (.t (pa 12)) tm s = _ := fun tm a b => iad_I ht a b hi
      obtain ⟨ho, hkl, hcl⟩ := hx L[i] (List.getElem_mem hi)
      have hf := foldl_take (fun m x => m + ctI x) L.length L hi
      have hle := fold_take_le ctI L (i + 1) L.length
      have hall := ctL_fold L 0
      rw [Nat.zero_add] at hall
      rw [hall, Nat.zero_add] at hle
      rw [hf] at hle
      generalize (L.take i).foldl (fun m x => m + ctI x) L.length = acc at *
      obtain ⟨S, c1, c2, c3, c4, _, _, _⟩ := copy_I 34 s L[i]
      have hSA := c3 st.next hA.next
      generalize L[i] = x at *
      obtain ⟨k, nm, vr, pr, lo, hi', ks⟩ := x
      simp only [It.kids] at ho hkl hcl
      simp only [cI] at c4
      rw [show ctI (.mk k nm vr pr lo hi' ks) = ctK ks from rfl] at *
      obtain ⟨F, hF, hF2⟩ := loopF (fun tm h => ck_loop (call := call) (n := n) (st := S) (acc := acc) ho hkl (by omega) (fun l hl => hcl l hl S) tm h)
      have hFr := fun tm a b c d => (hF2 tm ⟨a, b, c, d⟩).1
      have hF3 := fun tm a b c d => (hF2 tm ⟨a, b, c, d⟩).2
      simp only [d86_1, yX, iInt, iStr, iLenS, iLenL, iNot, iPick, iExt, if_true, if_false, reduceIte, Nat.reduceEqDiff, Nat.reduceAdd, reduceCtorEq, yQ, h10', h3', hI, hia, m_load, ld_I ht, m_alloc, m_store, c1, m_fad, m_add0, c4, part_c0, part_cs, x_slF, x_fsl4, hFr]
      refine ⟨_, _, rfl, hSA, trivial, ?_, ?_⟩
      · rw [hF3, hf]
        all_goals simp only [yL, if_true, if_false, reduceIte, Nat.reduceEqDiff, reduceCtorEq, h3']
      · repeat (first | exact Keep.refl _ _ | refine Keep.to ?_ (by decide) | refine Keep.trans ?_ ((hF _).mono (by decide))))
  refine ⟨tm', st', g1, g2, g3, ?_⟩
  have hall := ctL_fold L 0
  rw [Nat.zero_add, Nat.zero_add] at hall
  rw [g5, List.take_length, hall]
end
theorem count_ev {fns : Tr Fs} (rap : RawP fns) : ∀ (n : Nat) (l : List It), szL l + 1 < n → okL l → szL l < 2 ^ 60 → ∀ (t : Nat), t = 4 ∨ t = 6 → ∀ st : St, evF fns n 86 [slT t l.length (cIs l)] st = some (.ret (.int 63 (Int.ofNat (ctL l))), st) := by
  refine by_size (P := fun l n => okL l → szL l < 2 ^ 60 → ∀ (t : Nat), t = 4 ∨ t = 6 → ∀ st : St, evF fns n 86 [slT t l.length (cIs l)] st = some (.ret (.int 63 (Int.ofNat (ctL l))), st)) fun l n ih hn hok h60 t ht st => ?_
  obtain ⟨hl60, hx⟩ := okL_iff.1 hok
  obtain ⟨F, Z, hF, hF2⟩ := loopG (fun tm h => cl_loop (call := evF fns n) (n := n) (st := { next := st.next, low := st.next, mem := st.mem }) ht hl60 (by have := len_szL l; omega) (by have := ctL_sz l; omega) (fun x hxl => ⟨by
      have := hx x hxl
      obtain ⟨k, nm, vr, pr, lo, hi, ks⟩ := x
      exact (okI_at this).1, by have := szL_kids hxl; omega, fun kid hk st => ih x hxl kid hk (okI_kid (hx x hxl) hk) (by have := szL_kid hxl hk; omega) 4 (.inl rfl) st⟩) tm h)
  have hFr := fun tm a b c d => (hF2 tm ⟨a, b, c, d⟩).2.1
  have hF3 := fun tm a b c d => (hF2 tm ⟨a, b, c, d⟩).2.2
  have hFa := fun tm a b c d => (hF2 tm ⟨a, b, c, d⟩).1
  rw [ev_mk rap.count]
  rcases ht with rfl | rfl
  all_goals
    simp only [c86_0, c86_1, c86_2, c86_3, c86_4, yX, iInt, iStr, iLenS, iLenL, iNot, iPick, iExt, if_true, if_false, reduceIte, Nat.reduceEqDiff, Nat.reduceAdd, reduceCtorEq, yQ, x_slF, x_fsl4, x_fsl6, hFr, hF3]
    refine leave_scalar (v := .int 63 (Int.ofNat (ctL l))) ?_ (fun h => nomatch h) rfl (hFa _ ?_ ?_ ?_ ?_)
    all_goals simp only [yL, if_true, if_false, reduceIte, Nat.reduceEqDiff, reduceCtorEq]
end Go.Proofs.YtnccejmggcjaoaaGreatDoor.Av
