/-
  PATHS OF PLAIN STEPS: maker.times, maker.item are known, of a One; maker.items.
-/
import Derived.Test.YtnccejmggcjaoaaGreatDoorPthB
namespace Go.Proofs.YtnccejmggcjaoaaGreatDoor.Av
set_option linter.unusedVariables false
set_option linter.unusedSimpArgs false
set_option maxRecDepth 1000000
open Go
theorem get_pitem : table.get 157 = some sh157 := by kernel_rfl
theorem get_pitems : table.get 99 = some sh99 := by kernel_rfl
noncomputable def kOf (s : Str) : Nat := bif eqS s [65] then 0 else bif eqS s [66] then 1 else 2
noncomputable def stepOf : It → Sp
  | .mk _ nm vr _ _ _ _ => (kOf nm, vr)
theorem kOf_eq {s : Str} {k : Nat} (h : FndK s k) : kOf s = k := by
  rcases h with ⟨rfl, rfl⟩ | ⟨rfl, rfl⟩ | ⟨rfl, rfl⟩ <;> rfl
theorem one_step {x : It} (h : OneI x) : ∃ nm vr k, x = .mk 0 nm vr [] 0 0 [] ∧ FndK nm k ∧ stepOf x = (k, vr) := by
  obtain ⟨nm, vr, k, rfl, h1, _⟩ := h
  exact ⟨nm, vr, k, rfl, h1, by show (kOf nm, vr) = _; rw [kOf_eq h1]⟩
theorem cI_inj1 {x y : It} (h : (V.cmp 2 0 (cI x)) = .cmp 2 0 (cI y)) : x = y := by
  injection h with _ _ h
  exact cI_inj h
theorem begun_frz {p : List Sp} {s : Sp} {r : Nat} {S : St} (hr : 11 ≤ r) (hg : S.mem.get r = some (.cells 163 (cBg (p ++ [s])) true)) : Fr Tryz.prog 11 [] [] 0 S (.ref 3 r 0 1 1 false) (slT 4 1 (cBg (p ++ [s]))) := by
  refine .fsl r 0 1 1 false 163 2 _ _ hr (fun h => nomatch h) hg size_begun (by show 0 + 1 * 2 ≤ (cBg (p ++ [s])).length; exact Nat.le_refl _) ?_
  rw [List.drop_zero, List.take_of_length_le (by show (cBg (p ++ [s])).length ≤ 1 * 2; exact Nat.le_refl _)]
  exact Frs.flats (cBg_fine _)
theorem sl1_fine (p : List Sp) : (slT 4 1 (cBg p)).fine = true := fine_sl4 1 (cBg_fine p)
theorem times_known : ∃ g, MemoOk Tryz.prog 203 g ∧ ∀ fns : Tr Fs, fns.get 203 = some (.memo g) → ∀ (n : Nat) (p : List Sp) (x : It), OneI x → p.length < 1000 → ∀ st : St,
    evF fns (n + 1) 203 [mkV, .cmp 2 0 (cBg p), .cmp 2 0 (cI x), .int 63 1, .int 63 1] st = some (.ret (slT 4 1 (cBg (p ++ [stepOf x]))), st) := by
  obtain ⟨T, pt⟩ := pth_tab
  obtain ⟨g, m, k⟩ := memo_pure (F := 203) (R0 := fun args v => ∃ p x, OneI x ∧ p.length < 1000 ∧ args = [mkV, .cmp 2 0 (cBg p), .cmp 2 0 (cI x), .int 63 1, .int 63 1] ∧ v = slT 4 1 (cBg (p ++ [stepOf x]))) (fun args v ⟨p, x, h0, h1, h2, h3⟩ st => by
    subst h2 h3
    obtain ⟨nm, vr, k, rfl, hk, hs⟩ := one_step h0
    obtain ⟨S, r, e1, e2, e3⟩ := times_ev pt p hk (vr := vr) h1 0 stN
    have hfa : (([mkV, .cmp 2 0 (cBg p), .cmp 2 0 (cI (.mk 0 nm vr [] 0 0 [])), .int 63 1, .int 63 1] : List V).all fun v => v.fine) = true := by
      simp only [List.all_cons, List.all_nil, fine_agg (cBg_fine p), fine_agg (cI_fine _), Bool.true_and, Bool.and_true]; rfl
    rw [hs]
    exact flat_of globals.symm (mem := .leaf) no_lt (no_tabs st) (Ars.flats hfa) (callAt_ev mixedZ pt.ok (fnOk_of pt.ok ((pt.old _ (by decide)).trans get_times)) e1) (begun_frz e2 e3) (sl1_fine _)) (fun args v v' ⟨p, x, _, _, h2, h3⟩ ⟨p', x', _, _, h2', h3'⟩ => by
    rw [h2] at h2'
    injection h2' with _ h2'
    injection h2' with e1 h2'
    injection h2' with e2 _
    injection e1 with _ _ e1
    rw [h3, h3', cBg_inj e1, cI_inj1 e2])
  exact ⟨g, m, fun fns hf n p x hx hp st => k fns hf n _ _ ⟨p, x, hx, hp, rfl, rfl⟩ st⟩
theorem item_known : ∃ g, MemoOk Tryz.prog 157 g ∧ ∀ fns : Tr Fs, fns.get 157 = some (.memo g) → ∀ (n : Nat) (p : List Sp) (x : It), OneI x → p.length < 1000 → ∀ st : St,
    evF fns (n + 1) 157 [mkV, .cmp 2 0 (cBg p), .cmp 2 0 (cI x)] st = some (.ret (slT 4 1 (cBg (p ++ [stepOf x]))), st) := by
  obtain ⟨gt, mt, kt⟩ := times_known
  obtain ⟨T, hT⟩ : ∃ T, T = table.set 203 (some (.memo gt)) := ⟨_, rfl⟩
  have hok : TableOk Tryz.prog T := by rw [hT]; exact tableMemo tab mt
  have ht := kt T (by rw [hT, get_set, if_pos rfl])
  have hget : T.get 157 = some sh157 := by rw [hT, get_set, if_neg (by decide)]; exact get_pitem
  obtain ⟨g, m, k⟩ := memo_pure (F := 157) (R0 := fun args v => ∃ p x, OneI x ∧ p.length < 1000 ∧ args = [mkV, .cmp 2 0 (cBg p), .cmp 2 0 (cI x)] ∧ v = slT 4 1 (cBg (p ++ [stepOf x]))) (fun args v ⟨p, x, h0, h1, h2, h3⟩ st => by
    subst h2 h3
    refine callAt_ev mixedZ hok (fnOk_of hok hget) (n := 3) ?_
    have hti := ht 1 p x h0 h1
    obtain ⟨w, hw⟩ : ∃ w, w = slT 4 1 (cBg (p ++ [stepOf x])) := ⟨_, rfl⟩
    have hwf : w.fine = true := by rw [hw]; exact sl1_fine _
    have hwu : w ≠ V.undef := by rw [hw]; exact fun h => nomatch h
    rw [← hw] at hti ⊢
    obtain ⟨nm, vr, k, rfl, hk, _⟩ := one_step h0
    obtain ⟨S1, hS1⟩ : ∃ S, S = st.in.new (.cells 160 [ksV] true) := ⟨_, rfl⟩
    obtain ⟨S2, hS2⟩ : ∃ S, S = S1.new (.cells 163 (cBg p) true) := ⟨_, rfl⟩
    obtain ⟨x, hx⟩ : ∃ x, x = It.mk 0 nm vr [] 0 0 [] := ⟨_, rfl⟩
    have hcx : cI x = [.int 63 0, .str nm, .str vr, e4, .int 63 0, .int 63 0, e4] := by rw [hx]; rfl
    rw [← hx] at hti ⊢
    obtain ⟨S3, hS3⟩ : ∃ S, S = S2.new (.cells 34 (cI x) true) := ⟨_, rfl⟩
    have n1 : S1.next = st.next + 1 := by rw [hS1]; rfl
    have n2 : S2.next = st.next + 2 := by rw [hS2]; show S1.next + 1 = _; omega
    have b1 : ∀ tm : Tr V, X.ev tm (.t (pa 0)) = mkV → iBox 160 (.t (pa 0)) tm st.in = some (.ref 1 st.next 0 0 0 false, S1) := fun tm h => by rw [m_box (cs := [ksV]) (by rw [h]; rfl), hS1]
    have b2 : ∀ tm : Tr V, X.ev tm (.t (pa 1)) = .cmp 2 0 (cBg p) → iBox 163 (.t (pa 1)) tm S1 = some (.ref 1 S1.next 0 0 0 false, S2) := fun tm h => by rw [m_box (cs := cBg p) (by rw [h]; rfl), hS2]
    have b3 : ∀ tm : Tr V, X.ev tm (.t (pa 2)) = .cmp 2 0 (cI x) → iBox 34 (.t (pa 2)) tm S2 = some (.ref 1 S2.next 0 0 0 false, S3) := fun tm h => by rw [m_box (cs := cI x) (by rw [h]; rfl), hS3]
    have g1 : S3.mem.get st.next = some (.cells 160 [ksV] true) := by rw [hS3, new_get, if_neg (by omega), hS2, new_get, if_neg (by omega), hS1]; exact new_get_self' _ _
    have g2 : S3.mem.get S1.next = some (.cells 163 (cBg p) true) := by rw [hS3, new_get, if_neg (by omega), hS2]; exact new_get_self' _ _
    have g3 : S3.mem.get S2.next = some (.cells 34 (cI x) true) := by rw [hS3]; exact new_get_self' _ _
    have l1 : ldW true 1 (.ref 1 st.next 0 0 0 false) S3 = some mkV := by rw [ldW_get g1]; exact part_whole rfl
    have l2 : ldW true 2 (.ref 1 S1.next 0 0 0 false) S3 = some (.cmp 2 0 (cBg p)) := by rw [ldW_get g2]; exact part_whole rfl
    have l3 : ldW true 7 (.ref 1 S2.next 0 0 0 false) S3 = some (.cmp 2 0 (cI x)) := by rw [ldW_get g3]; exact part_whole (cI_len _)
    have l4 : ldW false 1 (.ref 1 S2.next 0 0 0 false) S3 = some (.int 63 0) := by rw [ldW_get g3, hcx]; rfl
    rw [ev_mk hget]
    simp only [c157_0, c157_1, c157_2, c157_3, yY, iInt, iStr, iLenS, iLenL, iNot, iPick, iExt, if_true, if_false, reduceIte, Nat.reduceEqDiff, Nat.reduceAdd, reduceCtorEq, yQ, b1, b2, b3, m_fad, m_add0, m_load, l1, l2, l3, l4, f_eql, e01, e02, e03, hti]
    rw [leave_back (v := w) (by simp only [yL, if_true, if_false, reduceIte, Nat.reduceEqDiff, reduceCtorEq]) hwu]
    have hlow : S3.low = st.next := by rw [hS3, hS2, hS1]; rfl
    unfold Av.back
    rw [show (CR.ret w).under st.next = true from fine_under _ _ hwf, bleT (show st.next ≤ S3.low by omega)]; rfl) (fun args v v' ⟨p, x, _, _, h2, h3⟩ ⟨p', x', _, _, h2', h3'⟩ => by
    rw [h2] at h2'
    injection h2' with _ h2'
    injection h2' with e1 h2'
    injection h2' with e2 _
    injection e1 with _ _ e1
    rw [h3, h3', cBg_inj e1, cI_inj1 e2])
  exact ⟨g, m, fun fns hf n p x hx hp st => k fns hf n _ _ ⟨p, x, hx, hp, rfl, rfl⟩ st⟩
theorem pi_b : b99_1 = rangeB 0 1 (pa 15) (pa 14) (pa 13) (pa 32) d99_1 := rfl
theorem pj_b : b99_0 = rangeB 2 3 (pa 21) (pa 20) (pa 19) (pa 30) d99_0 := rfl
noncomputable def slot1 (b i : Nat) : V := match i with
  | 0 => slT 6 1 (cBg [])
  | i + 1 => .ref 3 (b + 3 * i + 2) 0 1 1 false
theorem app_nil_frz {st : St} {e size bytes : Nat} {cs : List V} (hl : cs.length = size) (hb : 1 * bytes ≤ 140737488355328) (tm : Tr V) (x y : X) (hx : X.ev tm x = .ref 2 0 0 0 0 false) (hy : X.ev tm y = slT 4 1 cs) :
    iApp false e size bytes x y tm st = some (.ref 3 st.next 0 1 1 false, st.new (.cells e cs true)) := by
  have hsrc : srcF false st size (slT 4 1 cs) = some (cs, 1) := by
    show (bif Nat.ble (Nat.mul 1 size) (lenL cs) then some (takeL cs (Nat.mul 1 size), 1) else none) = _
    have h1 : Nat.mul 1 size = size := Nat.one_mul _
    rw [lenL_eq, h1, bleT (show size ≤ cs.length by omega), takeL_eq, List.take_of_length_le (by omega)]; rfl
  unfold iApp
  rw [hx, hy, hsrc]
  show (bif Nat.ble (Nat.mul 1 bytes) 140737488355328 then some (V.ref 3 st.next 0 1 1 false, st.new (.cells e cs true)) else none) = _
  rw [show Nat.ble (Nat.mul 1 bytes) 140737488355328 = true from bleT hb]; rfl
section
variable {fns : Tr Fs} (hit : ∀ (n : Nat) (p : List Sp) (x : It), OneI x → p.length < 1000 → ∀ st : St, evF fns (n + 1) 157 [mkV, .cmp 2 0 (cBg p), .cmp 2 0 (cI x)] st = some (.ret (slT 4 1 (cBg (p ++ [stepOf x]))), st))
  (hget : fns.get 99 = some sh99)
include hit hget
set_option maxHeartbeats 8000000 in
theorem items_ev {l : List It} (hl : ∀ x ∈ l, OneI x) (h0 : 0 < l.length) (h100 : l.length < 100) {n : Nat} (hn : l.length < n + 4) (st : St) :
    ∃ S r, evF fns (n + 5) 99 [mkV, slT 6 1 (cBg []), slT 6 l.length (cIs l)] st = some (.ret (.ref 3 r 0 1 1 false), S) ∧ st.next ≤ r ∧ S.mem.get r = some (.cells 163 (cBg (l.map stepOf)) true) := by
  obtain ⟨S1, hS1⟩ : ∃ S, S = st.in.new (.cells 160 [ksV] true) := ⟨_, rfl⟩
  have n1 : S1.next = st.next + 1 := by rw [hS1]; rfl
  have b1 : ∀ tm : Tr V, X.ev tm (.t (pa 0)) = mkV → iBox 160 (.t (pa 0)) tm st.in = some (.ref 1 st.next 0 0 0 false, S1) := fun tm h => by rw [m_box (cs := [ksV]) (by rw [h]; rfl), hS1]
  have gm : S1.mem.get st.next = some (.cells 160 [ksV] true) := by rw [hS1]; exact new_get_self' _ _
  obtain ⟨tm1, e1, a1, a3, a12, a13, a14⟩ : ∃ tm, thenR (c99_0 (evF fns (n + 4)) (n + 4) (((Tr.leaf.to (pa 0) (some mkV)).to (pa 1) (some (slT 6 1 (cBg [])))).to (pa 2) (some (slT 6 l.length (cIs l)))) st.in) (c99_1 (evF fns (n + 4)) (n + 4)) = some (.nrm, tm, S1) ∧ X.ev tm (.t (pa 1)) = slT 6 1 (cBg []) ∧ X.ev tm (.t (pa 3)) = .ref 1 st.next 0 0 0 false ∧ X.ev tm (.t (pa 12)) = slT 6 l.length (cIs l) ∧ X.ev tm (.t (pa 13)) = .int 63 (Int.ofNat l.length) ∧ X.ev tm (.t (pa 14)) = .int 63 0 := by
    refine ⟨?_, ?_, ?_, ?_, ?_, ?_, ?_⟩
    rotate_left 1
    · simp only [c99_0, c99_1, yY, iInt, iStr, iLenS, iLenL, iNot, iPick, iExt, if_true, if_false, reduceIte, Nat.reduceEqDiff, Nat.reduceAdd, reduceCtorEq, yQ, b1, x_slF, x_fsl6]; exact rfl
    all_goals simp only [yL, if_true, if_false, reduceIte, Nat.reduceEqDiff, reduceCtorEq]
  obtain ⟨b, hb⟩ : ∃ b, b = S1.next := ⟨_, rfl⟩
  have hloop := range_all (call := evF fns (n + 4)) (n := n + 4) (id := 0) (bid := 1) (kc := 15) (ki := 14) (kl := 13) (kt := 32) (B := d99_1) (S := [1, 8, 9, 11, 14, 15, 16, 17, 18, 19, 20, 21, 22, 23, 24, 25, 26, 27, 28, 29, 30, 31, 32]) (S0 := [1, 8, 9, 11, 16, 17, 18, 19, 20, 21, 22, 23, 24, 25, 26, 27, 28, 29, 30, 31]) (L := S1.next) (len := l.length) (tm0 := tm1) (st0 := S1)
    (A := fun i tm => X.ev tm (.t (pa 1)) = slot1 b i) (Q := fun i s => s.next = b + 3 * i ∧ ∀ j, i = j + 1 → s.mem.get (b + 3 * j + 2) = some (.cells 163 (cBg ((l.take i).map stepOf)) true)) (fuel := n + 4) (by omega) (by decide)
    (fun i tm j v hj h => by rcases hj with rfl | rfl | rfl <;> (rw [x_evt, if_neg (by decide)]; exact h)) a13 a14 ⟨by omega, fun j h => nomatch h⟩ a1 hn
    (fun i tm s hi hK hA ⟨q1, q2_⟩ ha hI => by
      have a3' := (hK 3 (by decide)).trans a3
      have a12' := (hK 12 (by decide)).trans a12
      have hia : ∀ (tm : Tr V), X.ev tm (.t (pa 12)) = slT 6 l.length (cIs l) → X.ev tm (.t (pa 14)) = .int 63 (Int.ofNat i) → iIad 7 (.t (pa 12)) (.t (pa 14)) tm s = _ := fun tm a b => iad_I (.inr rfl) a b hi
      have hx1 := hl l[i] (List.getElem_mem hi)
      obtain ⟨x, hx⟩ : ∃ x, x = l[i] := ⟨_, rfl⟩
      obtain ⟨S, c1, c2, c3, c4, c5, c6, _⟩ := copy_I 34 s l[i]
      rw [← hx] at c1 c4 hia hx1
      have htk : (l.take (i + 1)).map stepOf = (l.take i).map stepOf ++ [stepOf x] := by rw [List.take_succ_eq_append_getElem hi, List.map_append, hx]; rfl
      have hlen : ((l.take i).map stepOf).length = i := by rw [List.length_map, List.length_take]; omega
      obtain ⟨p, hp⟩ : ∃ p, p = (l.take i).map stepOf := ⟨_, rfl⟩
      rw [← hp] at htk hlen q2_
      have hcx : part true (cI x) 0 7 = some (.cmp 2 0 (cI x)) := part_whole (cI_len x)
      obtain ⟨T, hT⟩ : ∃ T, T = loc S 163 [nilS, nilS] (cBg p) := ⟨_, rfl⟩
      have hst : stW 2 (.ref 1 S.next 0 0 0 false) (.cmp 2 0 (cBg p)) (S.new (.cells 163 [nilS, nilS] true)) = some (.undef, T) := by rw [hT]; exact stW_new rfl rfl
      have nT : T.next = s.next + 2 := by rw [hT, loc_next]; omega
      have hsl : st.next < s.next := by omega
      have gS : S.mem.get st.next = some (.cells 160 [ksV] true) := by rw [c6 _ hsl, hA.mem _ (by omega)]; exact gm
      have gT : T.mem.get st.next = some (.cells 160 [ksV] true) := by rw [hT, loc_ne (by omega)]; exact gS
      have t1 : ldW true 1 (.ref 1 st.next 0 0 0 false) T = some mkV := by rw [ldW_get gT]; exact part_whole rfl
      have t2 : ldW true 2 (.ref 1 S.next 0 0 0 false) T = some (.cmp 2 0 (cBg p)) := by rw [hT, ldW_loc]; exact part_whole rfl
      have t3 : ldW true 7 (.ref 1 s.next 0 0 0 false) T = some (.cmp 2 0 (cI x)) := by rw [hT, ldW_lt (by omega), c4]; exact hcx
      have hcall := hit (n + 3) p x hx1 (by omega) T
      obtain ⟨U, hU⟩ : ∃ U, U = T.new (.cells 163 (cBg (p ++ [stepOf x])) true) := ⟨_, rfl⟩
      have nU : U.next = s.next + 3 := by rw [hU]; show T.next + 1 = _; omega
      have happ : ∀ tm : Tr V, X.ev tm (.t (pa 24)) = .ref 2 0 0 0 0 false → X.ev tm (.t (pa 28)) = slT 4 1 (cBg (p ++ [stepOf x])) → iApp false 163 2 48 (.t (pa 24)) (.t (pa 28)) tm T = some (.ref 3 T.next 0 1 1 false, U) := fun tm x y => by rw [hU]; exact app_nil_frz rfl (by decide) tm _ _ x y
      have hAU : Aft S1.next s U := by
        rw [hU, hT]
        exact ((c3 S1.next hA.next).loc (by have := hA.next; omega)).new (by rw [loc_next]; have := hA.next; omega)
      have z1 : fLss 63 0 (Int.ofNat 1) = some (.bool true) := rfl
      have z2 : fLss 63 1 (Int.ofNat 1) = some (.bool false) := rfl
      have z3 : fAdd 63 0 1 = some (.int 63 1) := rfl
      have fin : ∀ tm' : Tr V, X.ev tm' (.t (pa 1)) = .ref 3 T.next 0 1 1 false → X.ev tm' (.t (pa 1)) = slot1 b (i + 1) := fun tm' h => by
        rw [h]; show V.ref 3 T.next 0 1 1 false = .ref 3 (b + 3 * i + 2) 0 1 1 false
        rw [show T.next = b + 3 * i + 2 by omega]
      have hQ : U.next = b + 3 * (i + 1) ∧ ∀ j, i + 1 = j + 1 → U.mem.get (b + 3 * j + 2) = some (.cells 163 (cBg ((l.take (i + 1)).map stepOf)) true) := by
        refine ⟨by omega, fun j hj => ?_⟩
        obtain rfl : i = j := by omega
        rw [htk, hU, new_get, if_pos (by omega)]
      cases i with
      | zero =>
        have hp0 : p = [] := by rw [hp]; rfl
        have ha' : X.ev tm (.t (pa 1)) = slT 6 1 (cBg p) := by rw [hp0]; exact ha
        have hi2 : ∀ (tm : Tr V) (s : St), X.ev tm (.t (pa 18)) = slT 6 1 (cBg p) → X.ev tm (.t (pa 20)) = .int 63 0 → iIad 2 (.t (pa 18)) (.t (pa 20)) tm s = some (.cmp 7 0 (cBg p)) := fun tm s x y => by
          rw [m_iad6 (k := 0) x y (by decide) (by show 0 < 2; decide)]; rfl
        have hl2 : ldW true 2 (.cmp 7 0 (cBg p)) S = some (.cmp 2 0 (cBg p)) := by rw [ldW_7]; exact part_whole rfl
        refine ⟨?_, U, ?_, hAU, ?_, hQ, fin _ ?_⟩
        rotate_left 2
        · simp only [d99_1, d99_0, b99_0, x_loop1, yY, iInt, iStr, iLenS, iLenL, iNot, iPick, iExt, if_true, if_false, reduceIte, Nat.reduceEqDiff, Nat.reduceAdd, reduceCtorEq, yQ, a3', a12', ha', hI, hia, m_load, ld_I (.inr rfl), m_alloc, m_store, c1, x_slF, x_fsl6, z1, z2, z3, hi2, hl2, hst, t1, t2, t3, hcall, happ]
          exact rfl
        · simp only [yL, if_true, if_false, reduceIte, Nat.reduceEqDiff, reduceCtorEq]
        · repeat (first | exact Keep.refl _ _ | refine Keep.to ?_ (by decide))
      | succ i =>
        have ha' : X.ev tm (.t (pa 1)) = .ref 3 (b + 3 * i + 2) 0 1 1 false := ha
        have hg := q2_ i rfl
        have hi2 : ∀ (tm : Tr V) (s : St), X.ev tm (.t (pa 18)) = .ref 3 (b + 3 * i + 2) 0 1 1 false → X.ev tm (.t (pa 20)) = .int 63 0 → iIad 2 (.t (pa 18)) (.t (pa 20)) tm s = some (.ref 1 (b + 3 * i + 2) 0 0 0 false) := fun tm s x y => by
          rw [iad_own (i := 0) x y (by decide), Nat.zero_mul]
        have hl2 : ldW true 2 (.ref 1 (b + 3 * i + 2) 0 0 0 false) S = some (.cmp 2 0 (cBg p)) := by rw [ldW_get (by rw [c6 _ (by omega)]; exact hg)]; exact part_whole rfl
        refine ⟨?_, U, ?_, hAU, ?_, hQ, fin _ ?_⟩
        rotate_left 2
        · simp only [d99_1, d99_0, b99_0, x_loop1, yY, iInt, iStr, iLenS, iLenL, iNot, iPick, iExt, if_true, if_false, reduceIte, Nat.reduceEqDiff, Nat.reduceAdd, reduceCtorEq, yQ, a3', a12', ha', hI, hia, m_load, ld_I (.inr rfl), m_alloc, m_store, c1, z1, z2, z3, hi2, hl2, hst, t1, t2, t3, hcall, happ]
          exact rfl
        · simp only [yL, if_true, if_false, reduceIte, Nat.reduceEqDiff, reduceCtorEq]
        · repeat (first | exact Keep.refl _ _ | refine Keep.to ?_ (by decide)))
  rw [← pi_b] at hloop
  obtain ⟨tm2, S2, k1, k2, k3, ⟨k4, k5⟩, k6⟩ := hloop
  obtain ⟨m, hm⟩ : ∃ m, l.length = m + 1 := ⟨l.length - 1, by omega⟩
  rw [hm] at k4 k6
  have k5' := k5 m hm
  rw [List.take_length] at k5'
  have e2 : c99_2 (evF fns (n + 4)) (n + 4) tm1 S1 = some (.nrm, tm2, S2) := k3
  refine ⟨back st (.ret (.ref 3 (b + 3 * m + 2) 0 1 1 false)) S2, b + 3 * m + 2, ?_, by omega, ?_⟩
  · rw [ev_mk hget]
    have e1' := e1
    show leaveF st _ (thenR (c99_0 (evF fns (n + 4)) (n + 4) (((Tr.leaf.to (pa 0) (some mkV)).to (pa 1) (some (slT 6 1 (cBg [])))).to (pa 2) (some (slT 6 l.length (cIs l)))) st.in) ((cSeq (cSeq c99_1 c99_2) (cSeq c99_3 cRet)) (evF fns (n + 4)) (n + 4))) = _
    obtain ⟨tm0, S0', e0⟩ : ∃ tm0 S0', c99_0 (evF fns (n + 4)) (n + 4) (((Tr.leaf.to (pa 0) (some mkV)).to (pa 1) (some (slT 6 1 (cBg [])))).to (pa 2) (some (slT 6 l.length (cIs l)))) st.in = some (.nrm, tm0, S0') := by
      refine ⟨?_, ?_, ?_⟩
      rotate_left 2
      · simp only [c99_0, yY, iInt, iStr, iLenS, iLenL, iNot, iPick, iExt, if_true, if_false, reduceIte, Nat.reduceEqDiff, Nat.reduceAdd, reduceCtorEq, yQ, b1]; exact rfl
    rw [e0, x_nrm] at e1'
    rw [e0]
    simp only [x_nrm, x_seq, e1', e2, c99_3, yX, iInt, iStr, iLenS, iLenL, iNot, iPick, iExt, if_true, if_false, reduceIte, Nat.reduceEqDiff, Nat.reduceAdd, reduceCtorEq, yQ, k6]
    refine leave_back ?_ (fun h => nomatch h)
    simp only [yL, if_true, if_false, reduceIte, Nat.reduceEqDiff, reduceCtorEq, k6]; rfl
  · rw [back_new (show (CR.ret (.ref 3 (b + 3 * m + 2) 0 1 1 false)).under st.next = false from under_new _ _ 1 1 false (by omega))]
    exact k5'
end
end Go.Proofs.YtnccejmggcjaoaaGreatDoor.Av
