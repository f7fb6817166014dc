/-
  check.Steps: WHAT IT ANSWERS of items.
-/
import Derived.Test.YtnccejmggcjaoaaGreatDoorLoop
import Derived.Test.YtnccejmggcjaoaaGreatDoorIcT
import Derived.KernelRfl
namespace Go.Proofs.YtnccejmggcjaoaaGreatDoor.Av
set_option linter.unusedVariables false
set_option linter.unusedSimpArgs false
set_option maxRecDepth 1000000
open Go
mutual
def stI : It → Nat
  | .mk k _ _ _ lo hi ks => if k = 1 then min (max hi 0).toNat 1048576 else if k = 2 then 0 else if k = 3 then stK ks 0 else 1
def stL : List It → Nat → Nat
  | [], m => m
  | x :: l, m => stL l (min (m + stI x) 1048576)
def stK : List (List It) → Nat → Nat
  | [], n => n
  | l :: ks, n => stK ks (max n (stL l 0))
end
theorem stL_fold : ∀ (l : List It) (m : Nat), stL l m = l.foldl (fun m x => min (m + stI x) 1048576) m
  | [], m => rfl
  | x :: l, m => stL_fold l _
theorem stK_fold : ∀ (l : List (List It)) (m : Nat), stK l m = l.foldl (fun n l => max n (stL l 0)) m
  | [], m => rfl
  | x :: l, m => stK_fold l _
theorem stL_le : ∀ (l : List It) (m : Nat), m ≤ 1048576 → stL l m ≤ 1048576
  | [], m, h => h
  | x :: l, m, _ => stL_le l _ (Nat.min_le_right _ _)
theorem stK_le : ∀ (ks : List (List It)) (n : Nat), n ≤ 1048576 → stK ks n ≤ 1048576
  | [], n, h => h
  | l :: ks, n, h => stK_le ks _ (by have := stL_le l 0 (by decide); omega)
theorem stI_le : ∀ x : It, stI x ≤ 1048576
  | .mk k _ _ _ lo hi ks => by
    simp only [stI]
    split
    · exact Nat.min_le_right _ _
    · split
      · exact Nat.zero_le _
      · split
        · exact stK_le ks 0 (by decide)
        · decide
theorem get_stepsT : table.get 40 = some sh40 := by kernel_rfl
theorem sk_b : b40_0 = rangeB 3 4 (pa 31) (pa 30) (pa 29) (pa 38) d40_0 := rfl
theorem sl_b : b40_1 = rangeB 0 1 (pa 12) (pa 11) (pa 10) (pa 43) d40_1 := rfl
section
variable {call : Callee} {n : Nat}
theorem sk_loop {ks : List (List It)} {st : St} (hks : ks.length < 2 ^ 60) (hn : ks.length < n) (hc : ∀ l ∈ ks, call 40 [slT 4 l.length (cIs l)] st = some (.ret (.int 63 (Int.ofNat (stL l 0))), st)) (tm : Tr V)
    (h : X.ev tm (.t (pa 28)) = slT 4 ks.length (cKs ks) ∧ X.ev tm (.t (pa 29)) = .int 63 (Int.ofNat ks.length) ∧ X.ev tm (.t (pa 30)) = .int 63 0 ∧ X.ev tm (.t (pa 6)) = .int 63 0) :
    ∃ tm', Keep [6, 8, 30, 31, 32, 33, 34, 35, 36, 37, 38] tm tm' ∧ outR 3 (loopV n (b40_0 call n) tm st) = some (.nrm, tm', st) ∧ X.ev tm' (.t (pa 6)) = .int 63 (Int.ofNat (stK ks 0)) := by
  obtain ⟨h28, h29, h30, h6⟩ := h
  rw [sk_b]
  obtain ⟨tm', st', g1, _, g3, g4, g5⟩ := range_one (call := call) (n := n) (id := 3) (bid := 4) (kc := 31) (ki := 30) (kl := 29) (kt := 38) (B := d40_0) (S := [6, 8, 30, 31, 32, 33, 34, 35, 36, 37, 38]) (S0 := [6, 8, 32, 33, 34, 35, 36, 37]) (ka := 6) (L := 0) (len := ks.length) (tm0 := tm) (st0 := st)
    (g := fun i => .int 63 (Int.ofNat ((ks.take i).foldl (fun n l => max n (stL l 0)) 0))) (Q := fun _ s => s = st) (fuel := n) (by omega) (by decide) (by decide) h29 h30 rfl h6 hn
    (fun i tm1 s hi hK _ hs h6' hI => by
      subst hs
      have h28' := (hK 28 (by decide)).trans h28
      have hcl := hc ks[i] (List.getElem_mem hi)
      have hia : ∀ (tm : Tr V), X.ev tm (.t (pa 28)) = slT 4 ks.length (cKs ks) → X.ev tm (.t (pa 30)) = .int 63 (Int.ofNat i) → iIad 1 (.t (pa 28)) (.t (pa 30)) tm s = _ := fun tm a b => iad_K (.inl rfl) a b hi
      simp only [d40_0, yX, iInt, iStr, iLenS, iLenL, iNot, iPick, iExt, if_true, if_false, reduceIte, Nat.reduceEqDiff, Nat.reduceAdd, reduceCtorEq, yQ, h28', h6', hI, hia, m_load, ld_K (.inl rfl), hcl, m_mx, cond_true, mx_nat]
      refine ⟨_, _, rfl, Aft.refl _ _, rfl, ?_, ?_⟩
      · simp only [yL, if_true, if_false, reduceIte, Nat.reduceEqDiff, reduceCtorEq, foldl_take _ _ _ hi]
      · repeat (first | exact Keep.refl _ _ | refine Keep.to ?_ (by decide)))
  subst g4
  exact ⟨tm', g1, g3, by rw [g5, stK_fold, foldl_all]⟩
theorem sl_loop {L : List It} {st : St} {t : Nat} (ht : t = 4 ∨ t = 6) (hL : L.length < 2 ^ 60) (hn : L.length < n) (hx : ∀ x ∈ L, okI x ∧ x.kids.length < n ∧ ∀ l ∈ x.kids, ∀ st, call 40 [slT 4 l.length (cIs l)] st = some (.ret (.int 63 (Int.ofNat (stL l 0))), st)) (tm : Tr V)
    (h : X.ev tm (.t (pa 9)) = slT t L.length (cIs L) ∧ X.ev tm (.t (pa 10)) = .int 63 (Int.ofNat L.length) ∧ X.ev tm (.t (pa 11)) = .int 63 0 ∧ X.ev tm (.t (pa 3)) = .int 63 0) :
    ∃ tm' st', Keep [3, 5, 6, 8, 11, 12, 13, 14, 15, 16, 17, 18, 19, 20, 21, 22, 23, 24, 25, 26, 27, 28, 29, 30, 31, 32, 33, 34, 35, 36, 37, 38, 39, 40, 41, 42, 43] tm tm' ∧ Aft st.next st st' ∧ outR 0 (loopV n (b40_1 call n) tm st) = some (.nrm, tm', st') ∧ X.ev tm' (.t (pa 3)) = .int 63 (Int.ofNat (stL L 0)) := by
  obtain ⟨h9, h10, h11, h3⟩ := h
  rw [sl_b]
  obtain ⟨tm', st', g1, g2, g3, _, g5⟩ := range_one (call := call) (n := n) (id := 0) (bid := 1) (kc := 12) (ki := 11) (kl := 10) (kt := 43) (B := d40_1) (S := [3, 5, 6, 8, 11, 12, 13, 14, 15, 16, 17, 18, 19, 20, 21, 22, 23, 24, 25, 26, 27, 28, 29, 30, 31, 32, 33, 34, 35, 36, 37, 38, 39, 40, 41, 42, 43]) (S0 := [3, 5, 6, 8, 13, 14, 15, 16, 17, 18, 19, 20, 21, 22, 23, 24, 25, 26, 27, 28, 29, 30, 31, 32, 33, 34, 35, 36, 37, 38, 39, 40, 41, 42]) (ka := 3) (L := st.next) (len := L.length) (tm0 := tm) (st0 := st)
    (g := fun i => .int 63 (Int.ofNat ((L.take i).foldl (fun m x => min (m + stI x) 1048576) 0))) (Q := fun _ _ => True) (fuel := n) (by omega) (by decide) (by decide) h10 h11 trivial h3 hn
    (fun i tm1 s hi hK hA _ h3' hI => by
      have h9' := (hK 9 (by decide)).trans h9
      have hia : ∀ (tm : Tr V), X.ev tm (.t (pa 9)) = slT t L.length (cIs L) → X.ev tm (.t (pa 11)) = .int 63 (Int.ofNat i) → iIad 7 (.t (pa 9)) (.t (pa 11)) tm s = _ := fun tm a b => iad_I ht a b hi
      obtain ⟨ho, hkl, hcl⟩ := hx L[i] (List.getElem_mem hi)
      have hf := foldl_take (fun m x => min (m + stI x) 1048576) 0 L hi
      have hacc : (L.take i).foldl (fun m x => min (m + stI x) 1048576) 0 ≤ 1048576 := by rw [← stL_fold]; exact stL_le _ 0 (by decide)
      generalize (L.take i).foldl (fun m x => min (m + stI x) 1048576) 0 = acc at *
      obtain ⟨S, c1, c2, c3, c4, _, _, _⟩ := copy_I 34 s L[i]
      have hSA := c3 st.next hA.next
      generalize L[i] = x at *
      have hle := stI_le x
      obtain ⟨k, nm, vr, pr, lo, hi', ks⟩ := x
      obtain ⟨o1, o2, _⟩ := okI_at ho
      simp only [cI] at c4
      have e8 := f_add 63 acc (stI (.mk k nm vr pr lo hi' ks)) (by omega)
      have hmn : ∀ a : Nat, (bif ltI (1048576 : Int) (Int.ofNat a) then (1048576 : Int) else Int.ofNat a) = Int.ofNat (min a 1048576) := fun a => mn_nat a 1048576
      by_cases h1 : k = 1
      · subst h1
        have e1 : eqI (1 : Int) 1 = true := rfl
        have em : (bif ltI hi' 0 then (0 : Int) else hi') = Int.ofNat (max hi' 0).toNat := by
          rw [ltI_eq]
          by_cases h : hi' < 0
          · rw [decide_eq_true h, cond_true, show max hi' 0 = 0 by omega]; rfl
          · rw [decide_eq_false h, cond_false, show max hi' 0 = hi' by omega]; simp only [Int.ofNat_eq_natCast]; omega
        rw [show stI (.mk 1 nm vr pr lo hi' ks) = min (max hi' 0).toNat 1048576 from rfl] at *
        simp only [d40_1, yX, iInt, iStr, iLenS, iLenL, iNot, iPick, iExt, if_true, if_false, reduceIte, Nat.reduceEqDiff, Nat.reduceAdd, reduceCtorEq, yQ, h9', h3', hI, hia, m_load, ld_I ht, m_alloc, m_store, c1, m_fad, m_add0, c4, part_c0, part_cs, f_eql, e1, m_mx, em, m_mn, hmn, cond_true, e8]
        refine ⟨_, _, rfl, hSA, trivial, ?_, ?_⟩
        · simp only [yL, if_true, if_false, reduceIte, Nat.reduceEqDiff, reduceCtorEq, hf]
        · repeat (first | exact Keep.refl _ _ | refine Keep.to ?_ (by decide))
      have e1 : eqI k 1 = false := by rw [eqI_eq]; exact decide_eq_false h1
      by_cases h2 : k = 2
      · subst h2
        have e2 : eqI (2 : Int) 2 = true := rfl
        rw [show stI (.mk 2 nm vr pr lo hi' ks) = 0 from rfl] at *
        have e8' : fAdd 63 (Int.ofNat acc) 0 = some (.int 63 (Int.ofNat (acc + 0))) := e8
        simp only [d40_1, yX, iInt, iStr, iLenS, iLenL, iNot, iPick, iExt, if_true, if_false, reduceIte, Nat.reduceEqDiff, Nat.reduceAdd, reduceCtorEq, yQ, h9', h3', hI, hia, m_load, ld_I ht, m_alloc, m_store, c1, m_fad, m_add0, c4, part_c0, part_cs, f_eql, e1, e2, m_mn, hmn, cond_true, e8']
        refine ⟨_, _, rfl, hSA, trivial, ?_, ?_⟩
        · simp only [yL, if_true, if_false, reduceIte, Nat.reduceEqDiff, reduceCtorEq, hf]
        · repeat (first | exact Keep.refl _ _ | refine Keep.to ?_ (by decide))
      have e2 : eqI k 2 = false := by rw [eqI_eq]; exact decide_eq_false h2
      by_cases h3 : k = 3
      · subst h3
        have e3 : eqI (3 : Int) 3 = true := rfl
        rw [show stI (.mk 3 nm vr pr lo hi' ks) = stK ks 0 from rfl] at *
        obtain ⟨F, hF, hF2⟩ := loopF (fun tm h => sk_loop (call := call) (n := n) (st := S) o1 hkl (fun l hl => hcl l hl S) tm h)
        have hFr := fun tm a b c d => (hF2 tm ⟨a, b, c, d⟩).1
        have hF6 := fun tm a b c d => (hF2 tm ⟨a, b, c, d⟩).2
        have hF3 := fun tm => hF tm 3 (by decide)
        simp only [d40_1, yX, iInt, iStr, iLenS, iLenL, iNot, iPick, iExt, if_true, if_false, reduceIte, Nat.reduceEqDiff, Nat.reduceAdd, reduceCtorEq, yQ, h9', h3', hI, hia, m_load, ld_I ht, m_alloc, m_store, c1, m_fad, m_add0, c4, part_c0, part_cs, f_eql, e1, e2, e3, x_slF, x_fsl4, hFr, hF6, hF3, m_mn, hmn, cond_true, e8]
        refine ⟨_, _, rfl, hSA, trivial, ?_, ?_⟩
        · simp only [yL, if_true, if_false, reduceIte, Nat.reduceEqDiff, reduceCtorEq, hf]
        · repeat (first | exact Keep.refl _ _ | refine Keep.to ?_ (by decide) | refine Keep.trans ?_ ((hF _).mono (by decide)))
      · have e3 : eqI k 3 = false := by rw [eqI_eq]; exact decide_eq_false h3
        rw [show stI (.mk k nm vr pr lo hi' ks) = 1 from by simp only [stI]; rw [if_neg h1, if_neg h2, if_neg h3]] at *
        have e8' : fAdd 63 (Int.ofNat acc) 1 = some (.int 63 (Int.ofNat (acc + 1))) := e8
        simp only [d40_1, yX, iInt, iStr, iLenS, iLenL, iNot, iPick, iExt, if_true, if_false, reduceIte, Nat.reduceEqDiff, Nat.reduceAdd, reduceCtorEq, yQ, h9', h3', hI, hia, m_load, ld_I ht, m_alloc, m_store, c1, m_fad, m_add0, c4, part_c0, part_cs, f_eql, e1, e2, e3, m_mn, hmn, cond_true, e8']
        refine ⟨_, _, rfl, hSA, trivial, ?_, ?_⟩
        · simp only [yL, if_true, if_false, reduceIte, Nat.reduceEqDiff, reduceCtorEq, hf]
        · repeat (first | exact Keep.refl _ _ | refine Keep.to ?_ (by decide)))
  exact ⟨tm', st', g1, g2, g3, by rw [g5, stL_fold, foldl_all]⟩
end
theorem steps_evF {fns : Tr Fs} (get_steps : fns.get 40 = some sh40) : ∀ (n : Nat) (l : List It), szL l + 1 < n → okL l → ∀ (t : Nat), t = 4 ∨ t = 6 → ∀ st : St, evF fns n 40 [slT t l.length (cIs l)] st = some (.ret (.int 63 (Int.ofNat (stL l 0))), st) := by
  refine by_size (P := fun l n => okL l → ∀ (t : Nat), t = 4 ∨ t = 6 → ∀ st : St, evF fns n 40 [slT t l.length (cIs l)] st = some (.ret (.int 63 (Int.ofNat (stL l 0))), st)) fun l n ih hn hok t ht st => ?_
  obtain ⟨hl60, hx⟩ := okL_iff.1 hok
  obtain ⟨F, Z, hF, hF2⟩ := loopG (fun tm h => sl_loop (call := evF fns n) (n := n) (st := { next := st.next, low := st.next, mem := st.mem }) ht hl60 (by have := len_szL l; omega) (fun x hxl => ⟨hx x hxl, by have := szL_kids hxl; omega, fun kid hk st => ih x hxl kid hk (okI_kid (hx x hxl) hk) 4 (.inl rfl) st⟩) tm h)
  have hFr := fun tm a b c d => (hF2 tm ⟨a, b, c, d⟩).2.1
  have hF3 := fun tm a b c d => (hF2 tm ⟨a, b, c, d⟩).2.2
  have hFa := fun tm a b c d => (hF2 tm ⟨a, b, c, d⟩).1
  rw [ev_mk get_steps]
  rcases ht with rfl | rfl
  all_goals
    simp only [c40_0, c40_1, c40_2, c40_3, c40_4, yX, iInt, iStr, iLenS, iLenL, iNot, iPick, iExt, if_true, if_false, reduceIte, Nat.reduceEqDiff, Nat.reduceAdd, reduceCtorEq, yQ, x_slF, x_fsl4, x_fsl6, hFr, hF3]
    refine leave_scalar (v := .int 63 (Int.ofNat (stL l 0))) ?_ (fun h => nomatch h) rfl (hFa _ ?_ ?_ ?_ ?_)
    all_goals simp only [yL, if_true, if_false, reduceIte, Nat.reduceEqDiff, reduceCtorEq]
theorem get_steps : table.get 40 = some sh40 := get_stepsT
theorem steps_ev : type_of% (@steps_evF table get_stepsT) := @steps_evF table get_stepsT
end Go.Proofs.YtnccejmggcjaoaaGreatDoor.Av
