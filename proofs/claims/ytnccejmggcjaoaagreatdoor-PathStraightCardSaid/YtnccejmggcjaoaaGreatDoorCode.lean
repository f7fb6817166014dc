/-
  check.Code: WHAT IT ANSWERS of items.
-/
import Derived.Test.YtnccejmggcjaoaaGreatDoorSize
namespace Go.Proofs.YtnccejmggcjaoaaGreatDoor.Av
set_option linter.unusedVariables false
set_option linter.unusedSimpArgs false
set_option maxRecDepth 1000000
open Go
mutual
def cdI : It → Nat
  | .mk _ _ _ p _ _ ks => szEs p + cdK ks
def cdL : List It → Nat
  | [] => 0
  | x :: l => cdI x + cdL l
def cdK : List (List It) → Nat
  | [] => 0
  | l :: ks => cdL l + cdK ks
end
theorem cdL_app : ∀ (l r : List It), cdL (l ++ r) = cdL l + cdL r
  | [], r => by simp [cdL]
  | e :: l, r => by simp only [List.cons_append, cdL, cdL_app l r, Nat.add_assoc]
theorem cdK_app : ∀ (l r : List (List It)), cdK (l ++ r) = cdK l + cdK r
  | [], r => by simp [cdK]
  | e :: l, r => by simp only [List.cons_append, cdK, cdK_app l r, Nat.add_assoc]
theorem cdL_mem {x : It} : ∀ {l : List It}, x ∈ l → cdI x ≤ cdL l
  | y :: l, h => by
    simp only [cdL]
    rcases List.mem_cons.1 h with rfl | h
    · omega
    · have := cdL_mem h; omega
theorem cdK_mem {x : List It} : ∀ {l : List (List It)}, x ∈ l → cdL x ≤ cdK l
  | y :: l, h => by
    simp only [cdK]
    rcases List.mem_cons.1 h with rfl | h
    · omega
    · have := cdK_mem h; omega
theorem cdL_take (l : List It) (i : Nat) : cdL (l.take i) ≤ cdL l := by
  have := cdL_app (l.take i) (l.drop i)
  rw [List.take_append_drop] at this
  omega
theorem cdK_take (l : List (List It)) (i : Nat) : cdK (l.take i) ≤ cdK l := by
  have := cdK_app (l.take i) (l.drop i)
  rw [List.take_append_drop] at this
  omega
theorem get_codeT : table.get 42 = some sh42 := by kernel_rfl
theorem cdp_b : b42_0 = rangeB 2 3 (pa 20) (pa 19) (pa 18) (pa 27) d42_0 := rfl
theorem cdk_b : b42_1 = rangeB 4 5 (pa 32) (pa 31) (pa 30) (pa 39) d42_1 := rfl
theorem cdl_b : b42_2 = rangeB 0 1 (pa 13) (pa 12) (pa 11) (pa 40) d42_2 := rfl
section
variable {call : Callee} {n : Nat}
theorem cdp_loop {p : List Et} {st : St} {c0 : Nat} (hp : p.length < 2 ^ 60) (hn : p.length < n) (hb : c0 + szEs p < 2 ^ 61) (hc : ∀ e ∈ p, ∀ st, call 93 [.agg (cE e)] st = some (.ret (.int 63 (Int.ofNat (szE e))), st)) (tm : Tr V)
    (h : X.ev tm (.t (pa 17)) = slT 4 p.length (cEs p) ∧ X.ev tm (.t (pa 18)) = .int 63 (Int.ofNat p.length) ∧ X.ev tm (.t (pa 19)) = .int 63 0 ∧ X.ev tm (.t (pa 3)) = .int 63 (Int.ofNat c0)) :
    ∃ tm' st', Keep [3, 7, 19, 20, 21, 22, 23, 24, 25, 26, 27] tm tm' ∧ Aft st.next st st' ∧ outR 2 (loopV n (b42_0 call n) tm st) = some (.nrm, tm', st') ∧ X.ev tm' (.t (pa 3)) = .int 63 (Int.ofNat (c0 + szEs p)) := by
  obtain ⟨h17, h18, h19, h3⟩ := h
  rw [cdp_b]
  obtain ⟨tm', st', g1, g2, g3, _, g5⟩ := range_one (call := call) (n := n) (id := 2) (bid := 3) (kc := 20) (ki := 19) (kl := 18) (kt := 27) (B := d42_0) (S := [3, 7, 19, 20, 21, 22, 23, 24, 25, 26, 27]) (S0 := [3, 7, 21, 22, 23, 24, 25, 26]) (ka := 3) (L := st.next) (len := p.length) (tm0 := tm) (st0 := st)
    (g := fun i => .int 63 (Int.ofNat (c0 + szEs (p.take i)))) (Q := fun _ _ => True) (fuel := n) (by omega) (by decide) (by decide) h18 h19 trivial h3 hn
    (fun i tm1 s hi hK hA _ h3' hI => by
      have h17' := (hK 17 (by decide)).trans h17
      have hia : ∀ (tm : Tr V), X.ev tm (.t (pa 17)) = slT 4 p.length (cEs p) → X.ev tm (.t (pa 19)) = .int 63 (Int.ofNat i) → iIad 6 (.t (pa 17)) (.t (pa 19)) tm s = _ := fun tm a b => iad_E (.inl rfl) a b hi
      obtain ⟨S, c1, c2, c3, c4, _, _, _⟩ := copy_E 43 s p[i]
      have hsz : szEs (p.take (i + 1)) = szEs (p.take i) + szE p[i] := by
        rw [List.take_succ_eq_append_getElem hi, szEs_app]; simp only [szEs, Nat.add_zero]
      have hle := szEs_take p (i + 1)
      have hcl := hc p[i] (List.getElem_mem hi) S
      have e8 := f_add 63 (c0 + szEs (p.take i)) (szE p[i]) (by omega)
      simp only [d42_0, yX, iInt, iStr, iLenS, iLenL, iNot, iPick, iExt, if_true, if_false, reduceIte, Nat.reduceEqDiff, Nat.reduceAdd, reduceCtorEq, yQ, h17', h3', hI, hia, m_load, ld_E (.inl rfl), m_alloc, m_store, c1, c4, part_whole (cE_len _), hcl, e8]
      refine ⟨_, _, rfl, c3 st.next hA.next, trivial, ?_, ?_⟩
      · simp only [yL, if_true, if_false, reduceIte, Nat.reduceEqDiff, reduceCtorEq, hsz, Nat.add_assoc]
      · repeat (first | exact Keep.refl _ _ | refine Keep.to ?_ (by decide)))
  exact ⟨tm', st', g1, g2, g3, by rw [g5, List.take_length]⟩
theorem cdk_loop {ks : List (List It)} {st : St} {c0 : Nat} (hks : ks.length < 2 ^ 60) (hn : ks.length < n) (hb : c0 + cdK ks < 2 ^ 61) (hc : ∀ l ∈ ks, call 42 [slT 4 l.length (cIs l)] st = some (.ret (.int 63 (Int.ofNat (cdL l))), st)) (tm : Tr V)
    (h : X.ev tm (.t (pa 29)) = slT 4 ks.length (cKs ks) ∧ X.ev tm (.t (pa 30)) = .int 63 (Int.ofNat ks.length) ∧ X.ev tm (.t (pa 31)) = .int 63 0 ∧ X.ev tm (.t (pa 3)) = .int 63 (Int.ofNat c0)) :
    ∃ tm', Keep [3, 9, 31, 32, 33, 34, 35, 36, 37, 38, 39] tm tm' ∧ outR 4 (loopV n (b42_1 call n) tm st) = some (.nrm, tm', st) ∧ X.ev tm' (.t (pa 3)) = .int 63 (Int.ofNat (c0 + cdK ks)) := by
  obtain ⟨h29, h30, h31, h3⟩ := h
  rw [cdk_b]
  obtain ⟨tm', st', g1, _, g3, g4, g5⟩ := range_one (call := call) (n := n) (id := 4) (bid := 5) (kc := 32) (ki := 31) (kl := 30) (kt := 39) (B := d42_1) (S := [3, 9, 31, 32, 33, 34, 35, 36, 37, 38, 39]) (S0 := [3, 9, 33, 34, 35, 36, 37, 38]) (ka := 3) (L := 0) (len := ks.length) (tm0 := tm) (st0 := st)
    (g := fun i => .int 63 (Int.ofNat (c0 + cdK (ks.take i)))) (Q := fun _ s => s = st) (fuel := n) (by omega) (by decide) (by decide) h30 h31 rfl h3 hn
    (fun i tm1 s hi hK _ hs h3' hI => by
      subst hs
      have h29' := (hK 29 (by decide)).trans h29
      have hcl := hc ks[i] (List.getElem_mem hi)
      have hia : ∀ (tm : Tr V), X.ev tm (.t (pa 29)) = slT 4 ks.length (cKs ks) → X.ev tm (.t (pa 31)) = .int 63 (Int.ofNat i) → iIad 1 (.t (pa 29)) (.t (pa 31)) tm s = _ := fun tm a b => iad_K (.inl rfl) a b hi
      have hsz : cdK (ks.take (i + 1)) = cdK (ks.take i) + cdL ks[i] := by
        rw [List.take_succ_eq_append_getElem hi, cdK_app]; simp only [cdK, Nat.add_zero]
      have hle := cdK_take ks (i + 1)
      have e8 := f_add 63 (c0 + cdK (ks.take i)) (cdL ks[i]) (by omega)
      simp only [d42_1, yX, iInt, iStr, iLenS, iLenL, iNot, iPick, iExt, if_true, if_false, reduceIte, Nat.reduceEqDiff, Nat.reduceAdd, reduceCtorEq, yQ, h29', h3', hI, hia, m_load, ld_K (.inl rfl), hcl, e8]
      refine ⟨_, _, rfl, Aft.refl _ _, rfl, ?_, ?_⟩
      · simp only [yL, if_true, if_false, reduceIte, Nat.reduceEqDiff, reduceCtorEq, hsz, Nat.add_assoc]
      · repeat (first | exact Keep.refl _ _ | refine Keep.to ?_ (by decide)))
  subst g4
  exact ⟨tm', g1, g3, by rw [g5, List.take_length]⟩
theorem cdl_loop {L : List It} {st : St} {t : Nat} (ht : t = 4 ∨ t = 6) (hL : L.length < 2 ^ 60) (hn : L.length < n) (hb : cdL L < 2 ^ 61)
    (hx : ∀ x ∈ L, x.kids.length < 2 ^ 60 ∧ x.kids.length < n ∧ x.pred.length < 2 ^ 60 ∧ x.pred.length < n ∧ (∀ e ∈ x.pred, ∀ st, call 93 [.agg (cE e)] st = some (.ret (.int 63 (Int.ofNat (szE e))), st)) ∧
      ∀ l ∈ x.kids, ∀ st, call 42 [slT 4 l.length (cIs l)] st = some (.ret (.int 63 (Int.ofNat (cdL l))), st)) (tm : Tr V)
    (h : X.ev tm (.t (pa 10)) = slT t L.length (cIs L) ∧ X.ev tm (.t (pa 11)) = .int 63 (Int.ofNat L.length) ∧ X.ev tm (.t (pa 12)) = .int 63 0 ∧ X.ev tm (.t (pa 3)) = .int 63 0) :
    ∃ tm' st', Keep [3, 5, 7, 9, 12, 13, 14, 15, 16, 17, 18, 19, 20, 21, 22, 23, 24, 25, 26, 27, 28, 29, 30, 31, 32, 33, 34, 35, 36, 37, 38, 39, 40] tm tm' ∧ Aft st.next st st' ∧ outR 0 (loopV n (b42_2 call n) tm st) = some (.nrm, tm', st') ∧ X.ev tm' (.t (pa 3)) = .int 63 (Int.ofNat (cdL L)) := by
  obtain ⟨h10, h11, h12, h3⟩ := h
  rw [cdl_b]
  obtain ⟨tm', st', g1, g2, g3, _, g5⟩ := range_one (call := call) (n := n) (id := 0) (bid := 1) (kc := 13) (ki := 12) (kl := 11) (kt := 40) (B := d42_2) (S := [3, 5, 7, 9, 12, 13, 14, 15, 16, 17, 18, 19, 20, 21, 22, 23, 24, 25, 26, 27, 28, 29, 30, 31, 32, 33, 34, 35, 36, 37, 38, 39, 40]) (S0 := [3, 5, 7, 9, 14, 15, 16, 17, 18, 19, 20, 21, 22, 23, 24, 25, 26, 27, 28, 29, 30, 31, 32, 33, 34, 35, 36, 37, 38, 39]) (ka := 3) (L := st.next) (len := L.length) (tm0 := tm) (st0 := st)
    (g := fun i => .int 63 (Int.ofNat (cdL (L.take i)))) (Q := fun _ _ => True) (fuel := n) (by omega) (by decide) (by decide) h11 h12 trivial h3 hn
    (fun i tm1 s hi hK hA _ h3' hI => by
      have h10' := (hK 10 (by decide)).trans h10
      have hia : ∀ (tm : Tr V), X.ev tm (.t (pa 10)) = slT t L.length (cIs L) → X.ev tm (.t (pa 12)) = .int 63 (Int.ofNat i) → iIad 7 (.t (pa 10)) (.t (pa 12)) tm s = _ := fun tm a b => iad_I ht a b hi
      obtain ⟨o1, o2, o3, o4, hcs, hcl⟩ := hx L[i] (List.getElem_mem hi)
      have hsz : cdL (L.take (i + 1)) = cdL (L.take i) + cdI L[i] := by
        rw [List.take_succ_eq_append_getElem hi, cdL_app]; simp only [cdL, Nat.add_zero]
      have hle := cdL_take L (i + 1)
      rw [hsz] at hle ⊢
      obtain ⟨S, c1, c2, c3, c4, _, _, _⟩ := copy_I 34 s L[i]
      have hSA := c3 st.next hA.next
      have hSn := hA.next
      generalize L[i] = x at *
      generalize cdL (L.take i) = acc at *
      obtain ⟨k, nm, vr, pr, lo, hi', ks⟩ := x
      rw [show cdI (.mk k nm vr pr lo hi' ks) = szEs pr + cdK ks from rfl] at *
      simp only [It.kids, It.pred] at o1 o2 o3 o4 hcs hcl
      simp only [cI] at c4
      obtain ⟨F, Z, hF, hF2⟩ := loopG (fun tm h => cdp_loop (call := call) (n := n) (st := S) (c0 := acc) o3 o4 (by omega) hcs tm h)
      have hFr := fun tm a b c d => (hF2 tm ⟨a, b, c, d⟩).2.1
      have hF3 := fun tm a b c d => (hF2 tm ⟨a, b, c, d⟩).2.2
      have hFa := fun tm a b c d => (hF2 tm ⟨a, b, c, d⟩).1
      have hF5 := fun tm => hF tm 5 (by decide)
      have hF12 := fun tm => hF tm 12 (by decide)
      have hZl : ∀ tm a b c d g i q, ldW g q (.ref 1 s.next i 0 0 false) (Z tm) = part g [.int 63 k, .str nm, .str vr, slT 4 pr.length (cEs pr), .int 63 lo, .int 63 hi', slT 4 ks.length (cKs ks)] i q := fun tm a b c d g i q => by
        rw [← c4]
        unfold ldW
        rw [x_onPtr, x_onPtr, (hFa tm a b c d).mem s.next (by omega)]
      have hk2 : ∀ (tm : Tr V) (T : St), _ → _ := fun tm T h => cdk_loop (call := call) (n := n) (st := T) (c0 := acc + szEs pr) o1 o2 (by omega) (fun l hl => hcl l hl T) tm h
      obtain ⟨H, hH, hH2⟩ := loopF2 hk2
      have hHr := fun tm T a b c d => (hH2 tm T ⟨a, b, c, d⟩).1
      have hH3 := fun tm T a b c d => (hH2 tm T ⟨a, b, c, d⟩).2
      have hH12 := fun tm T => hH tm T 12 (by decide)
      simp only [d42_2, yX, iInt, iStr, iLenS, iLenL, iNot, iPick, iExt, if_true, if_false, reduceIte, Nat.reduceEqDiff, Nat.reduceAdd, reduceCtorEq, yQ, h10', h3', hI, hia, m_load, ld_I ht, m_alloc, m_store, c1, m_fad, m_add0, c4, part_c0, part_cs, x_slF, x_fsl4, hFr, hF3, hF5, hF12, hZl, hHr, hH3, hH12]
      refine ⟨_, _, rfl, hSA.trans ?_, trivial, ?_, ?_⟩
      · refine Aft.weak (hFa _ ?_ ?_ ?_ ?_) (by omega)
        all_goals simp only [yL, if_true, if_false, reduceIte, Nat.reduceEqDiff, reduceCtorEq, h3']
      · simp only [yL, if_true, if_false, reduceIte, Nat.reduceEqDiff, reduceCtorEq, hH3, hF3, h3', Nat.add_assoc]
      · repeat (first | exact Keep.refl _ _ | refine Keep.to ?_ (by decide) | refine Keep.trans ?_ ((hF _).mono (by decide)) | refine Keep.trans ?_ ((hH _ _).mono (by decide))))
  exact ⟨tm', st', g1, g2, g3, by rw [g5, List.take_length]⟩
end
theorem szE_cd {l : List It} {x : It} (hx : x ∈ l) : szEs x.pred ≤ cdL l := by
  have := cdL_mem hx
  obtain ⟨k, nm, vr, pr, lo, hi, ks⟩ := x
  simp only [cdI] at this
  simp only [It.pred]; omega
theorem cd_kid {l : List It} {x : It} (hx : x ∈ l) {kid : List It} (hk : kid ∈ x.kids) : cdL kid ≤ cdL l := by
  have := cdL_mem hx
  obtain ⟨k, nm, vr, pr, lo, hi, ks⟩ := x
  have h2 := cdK_mem hk
  simp only [cdI] at this
  simp only [It.kids] at h2
  omega
theorem code_evF {fns : Tr Fs} (get_code : fns.get 42 = some sh42) (get_size : fns.get 93 = some sh93) (get_size1 : fns.get 154 = some sh154) (get_walk : fns.get 153 = some sh153) : ∀ (n : Nat) (l : List It), szL l + cdL l + 2 + 1 < n → okL l → cdL l < 2 ^ 60 → ∀ (t : Nat), t = 4 ∨ t = 6 → ∀ st : St, evF fns n 42 [slT t l.length (cIs l)] st = some (.ret (.int 63 (Int.ofNat (cdL l))), st) := by
  refine by_meas (M := fun l => szL l + cdL l + 2) (fun l x hx kid hk => by have := szL_kid hx hk; have := cd_kid hx hk; show szL kid + cdL kid + 2 < szL l + cdL l + 2; omega)
    (P := fun l n => okL l → cdL l < 2 ^ 60 → ∀ (t : Nat), t = 4 ∨ t = 6 → ∀ st : St, evF fns n 42 [slT t l.length (cIs l)] st = some (.ret (.int 63 (Int.ofNat (cdL l))), st)) fun l n ih hn hok hcd t ht st => ?_
  obtain ⟨hl60, hx⟩ := okL_iff.1 hok
  have hn' : szL l + cdL l + 2 < n := hn
  obtain ⟨F, Z, hF, hF2⟩ := loopG (fun tm h => cdl_loop (call := evF fns n) (n := n) (st := { next := st.next, low := st.next, mem := st.mem }) ht hl60 (by have := len_szL l; omega) (by omega) (fun x hxl => by
    have h1 := szL_kids hxl
    have h2 := szE_cd hxl
    have h3 := len_szEs x.pred
    refine ⟨?_, by omega, by omega, by omega, fun e he st => ?_, fun kid hk st => ih x hxl kid hk (okI_kid (hx x hxl) hk) (by have := cd_kid hxl hk; omega) 4 (.inl rfl) st⟩
    · have := hx x hxl
      obtain ⟨k, nm, vr, pr, lo, hi, ks⟩ := x
      exact (okI_at this).1
    · have := szE_mem he
      exact size_evF get_size get_size1 get_walk n e (by omega) (by omega) st) tm h)
  have hFr := fun tm a b c d => (hF2 tm ⟨a, b, c, d⟩).2.1
  have hF3 := fun tm a b c d => (hF2 tm ⟨a, b, c, d⟩).2.2
  have hFa := fun tm a b c d => (hF2 tm ⟨a, b, c, d⟩).1
  rw [ev_mk get_code]
  rcases ht with rfl | rfl
  all_goals
    simp only [c42_0, c42_1, c42_2, c42_3, c42_4, yX, iInt, iStr, iLenS, iLenL, iNot, iPick, iExt, if_true, if_false, reduceIte, Nat.reduceEqDiff, Nat.reduceAdd, reduceCtorEq, yQ, x_slF, x_fsl4, x_fsl6, hFr, hF3]
    refine leave_scalar (v := .int 63 (Int.ofNat (cdL l))) ?_ (fun h => nomatch h) rfl (hFa _ ?_ ?_ ?_ ?_)
    all_goals simp only [yL, if_true, if_false, reduceIte, Nat.reduceEqDiff, reduceCtorEq]
theorem get_code : table.get 42 = some sh42 := get_codeT
theorem code_ev : type_of% (@code_evF table get_codeT get_sizeT get_size1T get_walkT) := @code_evF table get_codeT get_sizeT get_size1T get_walkT
end Go.Proofs.YtnccejmggcjaoaaGreatDoor.Av
