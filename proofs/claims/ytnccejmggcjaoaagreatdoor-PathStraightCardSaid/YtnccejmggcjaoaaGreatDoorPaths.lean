/-
  check.Paths: WHAT IT ANSWERS of items.
-/
import Derived.Test.YtnccejmggcjaoaaGreatDoorSiz
import Derived.Test.YtnccejmggcjaoaaGreatDoorIcT
import Derived.KernelRfl
namespace Go.Proofs.YtnccejmggcjaoaaGreatDoor.Av
set_option linter.unusedVariables false
set_option linter.unusedSimpArgs false
set_option maxRecDepth 1000000
open Go
mutual
def nI : It → Nat
  | .mk k _ _ _ lo hi ks => if k = 1 then (if lo ≤ hi then min (hi - lo).toNat 1048575 + 1 else 0) else if k = 3 then nK ks 0 else 1
def nL : List It → Nat → Nat
  | [], m => m
  | x :: l, m => nL l (min (m * nI x) 1048576)
def nK : List (List It) → Nat → Nat
  | [], n => n
  | l :: ks, n => nK ks (min (n + nL l 1) 1048576)
end
theorem get_pathsT : table.get 38 = some sh38 := by kernel_rfl
theorem nK_le : ∀ (ks : List (List It)) (n : Nat), n ≤ 1048576 → nK ks n ≤ 1048576
  | [], n, h => h
  | l :: ks, n, _ => nK_le ks _ (Nat.min_le_right _ _)
section
variable {call : Callee} {n0 : Nat}
set_option maxHeartbeats 4000000 in
theorem pk_loop (st : St) (L : List (List It)) (rest : List (List It)) : ∀ (i acc fuel : Nat) (tm : Tr V), (∀ l ∈ rest, call 38 [slT 4 l.length (cIs l)] st = some (.ret (.int 63 (Int.ofNat (nL l 1))), st)) → (∀ l ∈ rest, nL l 1 ≤ 1048576) →
      X.ev tm (.t (pa 37)) = slT 4 L.length (cKs L) → X.ev tm (.t (pa 38)) = .int 63 (Int.ofNat L.length) → X.ev tm (.t (pa 39)) = .int 63 (Int.ofNat i) → X.ev tm (.t (pa 6)) = .int 63 (Int.ofNat acc) →
      acc ≤ 1048576 → L.drop i = rest → L.length < 2 ^ 62 → rest.length < fuel →
      ∃ tm', Keep [6, 8, 39, 40, 41, 42, 43, 44, 45, 46, 47, 48] tm tm' ∧ outR 3 (loopV fuel (b38_0 call n0) tm st) = some (.nrm, tm', st) ∧ X.ev tm' (.t (pa 6)) = .int 63 (Int.ofNat (nK rest acc)) := by
  induction rest with
  | nil =>
    intro i acc fuel tm hc hb h37 h38 h39 h6 hacc hd hL hf
    obtain ⟨f, rfl⟩ : ∃ f, fuel = f + 1 := ⟨fuel - 1, by simp at hf; omega⟩
    have hi : ¬ i < L.length := by have := congrArg List.length hd; simp at this; omega
    rw [x_loop1]
    simp only [b38_0, d38_0, yX, iInt, iStr, iLenS, iLenL, iNot, iPick, iExt, if_true, if_false, reduceIte, Nat.reduceEqDiff, Nat.reduceAdd, reduceCtorEq, yQ, h37, h38, h39, h6, f_lssN, hi, decide_false]
    exact ⟨_, (Keep.refl _ _).to (by decide), rfl, by simp only [yL, if_true, if_false, reduceIte, Nat.reduceEqDiff, reduceCtorEq, h6]; rfl⟩
  | cons l rest ih =>
    intro i acc fuel tm hc hb h37 h38 h39 h6 hacc hd hL hf
    obtain ⟨f, rfl⟩ : ∃ f, fuel = f + 1 := ⟨fuel - 1, by simp at hf; omega⟩
    have hlen := congrArg List.length hd
    simp only [List.length_drop, List.length_cons] at hlen
    have hi : i < L.length := by omega
    have hcell : (cKs L).drop (i * 1) = slT 4 l.length (cIs l) :: cKs rest := by rw [Nat.mul_one, cKs_drop, hd]; rfl
    have hia : ∀ tm : Tr V, X.ev tm (.t (pa 37)) = slT 4 L.length (cKs L) → X.ev tm (.t (pa 39)) = .int 63 (Int.ofNat i) → iIad 1 (.t (pa 37)) (.t (pa 39)) tm st = some (.cmp 5 0 (slT 4 l.length (cIs l) :: cKs rest)) := fun tm h h' => by
      rw [m_iad4 h h' hi (by rw [cKs_len]; omega), hcell]
    have hcl := hc l (List.mem_cons_self ..)
    have hbl := hb l (List.mem_cons_self ..)
    have hdr : L.drop (i + 1) = rest := by rw [← List.drop_drop, hd]; rfl
    have hadd : fAdd 63 (Int.ofNat i) 1 = some (.int 63 (Int.ofNat (i + 1))) := f_add 63 i 1 (by omega)
    have hmn : ∀ a : Nat, (bif ltI (1048576 : Int) (Int.ofNat a) then (1048576 : Int) else Int.ofNat a) = Int.ofNat (min a 1048576) := fun a => mn_nat a 1048576
    rw [x_loop1]
    simp only [b38_0, d38_0, yX, iInt, iStr, iLenS, iLenL, iNot, iPick, iExt, if_true, if_false, reduceIte, Nat.reduceEqDiff, Nat.reduceAdd, reduceCtorEq, yQ, h37, h38, h39, h6, f_lssN, hi, decide_true, hia, m_load, ldW_5, part_c0, hcl, f_add 63 acc (nL l 1) (by omega), hadd, m_mn, cond_true, hmn]
    refine keep_ex (ih (i + 1) (min (acc + nL l 1) 1048576) f _ (fun l' hl' => hc l' (List.mem_cons_of_mem _ hl')) (fun l' hl' => hb l' (List.mem_cons_of_mem _ hl')) ?_ ?_ ?_ ?_ (Nat.min_le_right _ _) hdr hL (by simp at hf; omega)) ?_
    · simp only [yL, if_true, if_false, reduceIte, Nat.reduceEqDiff, reduceCtorEq]; exact h37
    · simp only [yL, if_true, if_false, reduceIte, Nat.reduceEqDiff, reduceCtorEq]; exact h38
    · simp only [yL, if_true, if_false, reduceIte, Nat.reduceEqDiff, reduceCtorEq]
    · simp only [yL, if_true, if_false, reduceIte, Nat.reduceEqDiff, reduceCtorEq]
    · repeat (first | exact Keep.refl _ _ | refine Keep.to ?_ (by decide))
set_option maxHeartbeats 4000000 in
theorem pl_loop (G : Nat) (L : List It) (hL : L.length < 2 ^ 60) (hk : ∀ x ∈ L, match x with | .mk k _ _ _ lo hi ks => ks.length < 2 ^ 60 ∧ (k = 1 → 0 ≤ lo ∧ hi < 2 ^ 62) ∧ ∀ l ∈ ks, nL l 1 ≤ 1048576 ∧ ∀ st : St, call 38 [slT 4 l.length (cIs l)] st = some (.ret (.int 63 (Int.ofNat (nL l 1))), st))
    (t : Nat) (ht : t = 4 ∨ t = 6) (n1 : Nat) (hn1 : ∀ x ∈ L, match x with | .mk _ _ _ _ _ _ ks => ks.length < n1) (rest : List It) : ∀ (i acc fuel : Nat) (tm : Tr V) (st : St), G ≤ st.next →
      X.ev tm (.t (pa 9)) = slT t L.length (cIs L) → X.ev tm (.t (pa 10)) = .int 63 (Int.ofNat L.length) → X.ev tm (.t (pa 11)) = .int 63 (Int.ofNat i) → X.ev tm (.t (pa 3)) = .int 63 (Int.ofNat acc) →
      acc ≤ 1048576 → L.drop i = rest → rest.length < fuel →
      ∃ tm' st', Keep [3, 5, 6, 8, 11, 12, 13, 14, 15, 16, 17, 18, 19, 20, 21, 22, 23, 24, 25, 26, 27, 28, 29, 30, 31, 32, 33, 34, 35, 36, 37, 38, 39, 40, 41, 42, 43, 44, 45, 46, 47, 48, 49, 50, 51, 52, 53] tm tm' ∧ Aft G st st' ∧ outR 0 (loopV fuel (b38_1 call n1) tm st) = some (.nrm, tm', st') ∧ X.ev tm' (.t (pa 3)) = .int 63 (Int.ofNat (nL rest acc)) := by
  induction rest with
  | nil =>
    intro i acc fuel tm st hG h9 h10 h11 h3 hacc hd hf
    obtain ⟨f, rfl⟩ : ∃ f, fuel = f + 1 := ⟨fuel - 1, by simp at hf; omega⟩
    have hi : ¬ i < L.length := by have := congrArg List.length hd; simp at this; omega
    rw [x_loop1]
    simp only [b38_1, d38_1, yX, iInt, iStr, iLenS, iLenL, iNot, iPick, iExt, if_true, if_false, reduceIte, Nat.reduceEqDiff, Nat.reduceAdd, reduceCtorEq, yQ, h9, h10, h11, h3, f_lssN, hi, decide_false]
    exact ⟨_, _, (Keep.refl _ _).to (by decide), Aft.refl _ _, rfl, by simp only [yL, if_true, if_false, reduceIte, Nat.reduceEqDiff, reduceCtorEq, h3]; rfl⟩
  | cons x rest ih =>
    intro i acc fuel tm st hG h9 h10 h11 h3 hacc hd hf
    obtain ⟨f, rfl⟩ : ∃ f, fuel = f + 1 := ⟨fuel - 1, by simp at hf; omega⟩
    have hlen := congrArg List.length hd
    simp only [List.length_drop, List.length_cons] at hlen
    have hi : i < L.length := by omega
    have hx : x ∈ L := by have : x ∈ L.drop i := by rw [hd]; exact List.mem_cons_self ..
                          exact List.mem_of_mem_drop this
    have hcell : (cIs L).drop (i * 7) = cI x ++ cIs rest := by rw [cIs_drop, hd]; rfl
    have hia : ∀ tm : Tr V, X.ev tm (.t (pa 9)) = slT t L.length (cIs L) → X.ev tm (.t (pa 11)) = .int 63 (Int.ofNat i) → iIad 7 (.t (pa 9)) (.t (pa 11)) tm st = some (.cmp (t + 1) 0 (cI x ++ cIs rest)) := fun tm h h' => by
      rcases ht with rfl | rfl
      · rw [m_iad4 h h' hi (by rw [cIs_len]; omega), hcell]
      · rw [m_iad6 h h' hi (by rw [cIs_len]; omega), hcell]
    have hld : ldW true 7 (.cmp (t + 1) 0 (cI x ++ cIs rest)) st = some (.cmp 2 0 (cI x)) := by
      rcases ht with rfl | rfl
      · rw [ldW_5, part_app (cI_len x)]
      · rw [ldW_7, part_app (cI_len x)]
    have hdr : L.drop (i + 1) = rest := by rw [← List.drop_drop, hd]; rfl
    have hkx := hk x hx
    have hnx := hn1 x hx
    obtain ⟨k, nm, vr, pr, lo, hi', ks⟩ := x
    simp only at hkx hnx
    obtain ⟨hks, hk1, hkc⟩ := hkx
    have hnew := stW_new (n := 7) (e := 34) (st := st) (l := cI (.mk k nm vr pr lo hi' ks)) (z := [.int 63 0, .str [], .str [], .ref 2 0 0 0 0 false, .int 63 0, .int 63 0, .ref 2 0 0 0 0 false]) (cI_len _) rfl
    obtain ⟨S, hS⟩ : ∃ S, S = loc st 34 [.int 63 0, .str [], .str [], .ref 2 0 0 0 0 false, .int 63 0, .int 63 0, .ref 2 0 0 0 0 false] (cI (.mk k nm vr pr lo hi' ks)) := ⟨_, rfl⟩
    have hSn : S.next = st.next + 1 := by rw [hS]; rfl
    have hSa : Aft G st S := by rw [hS]; exact (Aft.refl _ _).loc hG
    have hSl : ∀ g n i, ldW g n (.ref 1 st.next i 0 0 false) S = part g [.int 63 k, .str nm, .str vr, slT 4 pr.length (cEs pr), .int 63 lo, .int 63 hi', slT 4 ks.length (cKs ks)] i n := fun g n i => by rw [hS]; exact ldW_loc
    rw [← hS] at hnew
    have hadd : fAdd 63 (Int.ofNat i) 1 = some (.int 63 (Int.ofNat (i + 1))) := f_add 63 i 1 (by omega)
    have hmn : ∀ a : Nat, (bif ltI (1048576 : Int) (Int.ofNat a) then (1048576 : Int) else Int.ofNat a) = Int.ofNat (min a 1048576) := fun a => mn_nat a 1048576
    have hmn2 : ∀ a : Nat, (bif ltI (1048575 : Int) (Int.ofNat a) then (1048575 : Int) else Int.ofNat a) = Int.ofNat (min a 1048575) := fun a => mn_nat a 1048575
    have next : ∀ (m : Nat) (tm1 : Tr V), nI (.mk k nm vr pr lo hi' ks) = m → Keep [3, 5, 6, 8, 11, 12, 13, 14, 15, 16, 17, 18, 19, 20, 21, 22, 23, 24, 25, 26, 27, 28, 29, 30, 31, 32, 33, 34, 35, 36, 37, 38, 39, 40, 41, 42, 43, 44, 45, 46, 47, 48, 49, 50, 51, 52, 53] tm tm1 → X.ev tm1 (.t (pa 11)) = .int 63 (Int.ofNat (i + 1)) → X.ev tm1 (.t (pa 3)) = .int 63 (Int.ofNat (min (acc * m) 1048576)) →
        ∃ tm' st', Keep [3, 5, 6, 8, 11, 12, 13, 14, 15, 16, 17, 18, 19, 20, 21, 22, 23, 24, 25, 26, 27, 28, 29, 30, 31, 32, 33, 34, 35, 36, 37, 38, 39, 40, 41, 42, 43, 44, 45, 46, 47, 48, 49, 50, 51, 52, 53] tm tm' ∧ Aft G st st' ∧ outR 0 (loopV f (b38_1 call n1) tm1 S) = some (.nrm, tm', st') ∧ X.ev tm' (.t (pa 3)) = .int 63 (Int.ofNat (nL (.mk k nm vr pr lo hi' ks :: rest) acc)) := by
      intro m tm1 hm hkp h11' h3'
      rw [show nL (.mk k nm vr pr lo hi' ks :: rest) acc = nL rest (min (acc * m) 1048576) from by rw [← hm]; rfl]
      refine keep_ex2 (ih (i + 1) (min (acc * m) 1048576) f tm1 S (by omega) ?_ ?_ h11' h3' (Nat.min_le_right _ _) hdr (by simp at hf; omega)) hkp hSa
      · rw [hkp 9 (by decide)]; exact h9
      · rw [hkp 10 (by decide)]; exact h10
    rw [x_loop1]
    by_cases h1 : k = 1
    · subst h1
      have e1 : eqI (1 : Int) 1 = true := rfl
      obtain ⟨hlo, hhi⟩ := hk1 rfl
      by_cases h2 : lo ≤ hi'
      · have e2 : ltI hi' lo = false := by rw [ltI_eq]; exact decide_eq_false (by omega)
        obtain ⟨a, rfl⟩ : ∃ a : Nat, lo = Int.ofNat a := ⟨lo.toNat, by simp only [Int.ofNat_eq_natCast]; omega⟩
        obtain ⟨b, rfl⟩ : ∃ b : Nat, hi' = Int.ofNat b := ⟨hi'.toNat, by simp only [Int.ofNat_eq_natCast] at *; omega⟩
        simp only [Int.ofNat_eq_natCast] at h2 hhi
        have hab : a ≤ b := by omega
        have e3 : wrapC 64 (Int.ofNat b) = Int.ofNat b := wrap_lt (by omega)
        have e4 : wrapC 64 (Int.ofNat a) = Int.ofNat a := wrap_lt (by omega)
        have e5 := f_sub 64 b a hab (by omega)
        have e6 : wrapC 63 (Int.ofNat (min (b - a) 1048575)) = Int.ofNat (min (b - a) 1048575) := wrap_lt (by omega)
        have e7 : fAdd 63 (Int.ofNat (min (b - a) 1048575)) 1 = some (.int 63 (Int.ofNat (min (b - a) 1048575 + 1))) := f_add 63 _ 1 (by omega)
        have e8 := f_mul 63 acc (min (b - a) 1048575 + 1) (Nat.lt_of_le_of_lt (Nat.mul_le_mul hacc (Nat.add_le_add_right (Nat.min_le_right _ _) 1)) (by decide))
        simp only [b38_1, d38_1, yX, iInt, iStr, iLenS, iLenL, iNot, iPick, iExt, if_true, if_false, reduceIte, Nat.reduceEqDiff, Nat.reduceAdd, reduceCtorEq, yQ, h9, h10, h11, h3, f_lssN, hi, decide_true, hia, m_load, hld, m_alloc, m_store, hnew, m_fad, m_add0, hSl, part_c0, part_cs, f_eql, e1, f_leq, e2, m_cvi, e3, e4, e5, m_mn, cond_true, hmn2, e6, e7, e8, hmn, hadd]
        refine next (min (b - a) 1048575 + 1) _ ?_ ?_ (by simp only [yL, if_true, if_false, reduceIte, Nat.reduceEqDiff, reduceCtorEq]) (by simp only [yL, if_true, if_false, reduceIte, Nat.reduceEqDiff, reduceCtorEq])
        · show (if (1 : Int) = 1 then (if Int.ofNat a ≤ Int.ofNat b then min (Int.ofNat b - Int.ofNat a).toNat 1048575 + 1 else 0) else if (1 : Int) = 3 then nK ks 0 else 1) = _
          rw [if_pos rfl, if_pos (by simp only [Int.ofNat_eq_natCast]; omega)]
          congr 2
          simp only [Int.ofNat_eq_natCast]; omega
        · repeat (first | exact Keep.refl _ _ | refine Keep.to ?_ (by decide))
      · have e2 : ltI hi' lo = true := by rw [ltI_eq]; exact decide_eq_true (by omega)
        have e8 : fMul 63 (Int.ofNat acc) 0 = some (.int 63 (Int.ofNat (acc * 0))) := f_mul 63 acc 0 (by omega)
        simp only [b38_1, d38_1, yX, iInt, iStr, iLenS, iLenL, iNot, iPick, iExt, if_true, if_false, reduceIte, Nat.reduceEqDiff, Nat.reduceAdd, reduceCtorEq, yQ, h9, h10, h11, h3, f_lssN, hi, decide_true, hia, m_load, hld, m_alloc, m_store, hnew, m_fad, m_add0, hSl, part_c0, part_cs, f_eql, e1, f_leq, e2, m_mn, cond_true, e8, hmn, hadd]
        refine next 0 _ ?_ ?_ (by simp only [yL, if_true, if_false, reduceIte, Nat.reduceEqDiff, reduceCtorEq]) (by simp only [yL, if_true, if_false, reduceIte, Nat.reduceEqDiff, reduceCtorEq])
        · show (if (1 : Int) = 1 then (if lo ≤ hi' then min (hi' - lo).toNat 1048575 + 1 else 0) else if (1 : Int) = 3 then nK ks 0 else 1) = _
          rw [if_pos rfl, if_neg h2]
        · repeat (first | exact Keep.refl _ _ | refine Keep.to ?_ (by decide))
    · have e1 : eqI k 1 = false := by rw [eqI_eq]; exact decide_eq_false h1
      by_cases h2 : k = 3
      · subst h2
        have e2 : eqI (3 : Int) 3 = true := rfl
        have e1' : eqI (3 : Int) 1 = false := rfl
        have hb : nK ks 0 ≤ 1048576 := nK_le ks 0 (by decide)
        obtain ⟨F, hF, hF2⟩ := loopF (H := fun tm => X.ev tm (.t (pa 37)) = slT 4 ks.length (cKs ks) ∧ X.ev tm (.t (pa 38)) = .int 63 (Int.ofNat ks.length) ∧ X.ev tm (.t (pa 39)) = .int 63 0 ∧ X.ev tm (.t (pa 6)) = .int 63 0)
          fun tm h => pk_loop (call := call) (n0 := n1) S ks ks 0 0 n1 tm (fun l hl => (hkc l hl).2 S) (fun l hl => (hkc l hl).1) h.1 h.2.1 h.2.2.1 h.2.2.2 (Nat.zero_le _) rfl (by omega) hnx
        have hFr := fun tm a b c d => (hF2 tm ⟨a, b, c, d⟩).1
        have hF6 := fun tm a b c d => (hF2 tm ⟨a, b, c, d⟩).2
        have hF3 := fun tm => hF tm 3 (by decide)
        have hF11 := fun tm => hF tm 11 (by decide)
        have e8 := f_mul 63 acc (nK ks 0) (Nat.lt_of_le_of_lt (Nat.mul_le_mul hacc hb) (by decide))
        simp only [b38_1, d38_1, yX, iInt, iStr, iLenS, iLenL, iNot, iPick, iExt, if_true, if_false, reduceIte, Nat.reduceEqDiff, Nat.reduceAdd, reduceCtorEq, yQ, h9, h10, h11, h3, f_lssN, hi, decide_true, hia, m_load, hld, m_alloc, m_store, hnew, m_fad, m_add0, hSl, part_c0, part_cs, f_eql, e1', e2, x_slF, x_fsl4, hFr, hF6, hF3, hF11, m_mn, cond_true, e8, hmn, hadd]
        refine next (nK ks 0) _ rfl ?_ (by simp only [yL, if_true, if_false, reduceIte, Nat.reduceEqDiff, reduceCtorEq]) (by simp only [yL, if_true, if_false, reduceIte, Nat.reduceEqDiff, reduceCtorEq])
        repeat (first | exact Keep.refl _ _ | refine Keep.to ?_ (by decide) | refine Keep.trans ?_ ((hF _).mono (by decide)))
      · have e2 : eqI k 3 = false := by rw [eqI_eq]; exact decide_eq_false h2
        have e8 : fMul 63 (Int.ofNat acc) 1 = some (.int 63 (Int.ofNat (acc * 1))) := f_mul 63 acc 1 (by omega)
        simp only [b38_1, d38_1, yX, iInt, iStr, iLenS, iLenL, iNot, iPick, iExt, if_true, if_false, reduceIte, Nat.reduceEqDiff, Nat.reduceAdd, reduceCtorEq, yQ, h9, h10, h11, h3, f_lssN, hi, decide_true, hia, m_load, hld, m_alloc, m_store, hnew, m_fad, m_add0, hSl, part_c0, part_cs, f_eql, e1, e2, m_mn, cond_true, e8, hmn, hadd]
        refine next 1 _ ?_ ?_ (by simp only [yL, if_true, if_false, reduceIte, Nat.reduceEqDiff, reduceCtorEq]) (by simp only [yL, if_true, if_false, reduceIte, Nat.reduceEqDiff, reduceCtorEq])
        · show (if k = 1 then (if lo ≤ hi' then min (hi' - lo).toNat 1048575 + 1 else 0) else if k = 3 then nK ks 0 else 1) = _
          rw [if_neg h1, if_neg h2]
        · repeat (first | exact Keep.refl _ _ | refine Keep.to ?_ (by decide))
end
theorem nL_le : ∀ (l : List It) (m : Nat), m ≤ 1048576 → nL l m ≤ 1048576
  | [], m, h => h
  | x :: l, m, _ => nL_le l _ (Nat.min_le_right _ _)
theorem paths_evF {fns : Tr Fs} (get_paths : fns.get 38 = some sh38) : ∀ (n : Nat) (l : List It), szL l + 1 < n → okL l → ∀ (t : Nat), t = 4 ∨ t = 6 → ∀ st : St, evF fns n 38 [slT t l.length (cIs l)] st = some (.ret (.int 63 (Int.ofNat (nL l 1))), st) := by
  refine by_size (P := fun l n => okL l → ∀ (t : Nat), t = 4 ∨ t = 6 → ∀ st : St, evF fns n 38 [slT t l.length (cIs l)] st = some (.ret (.int 63 (Int.ofNat (nL l 1))), st)) fun l n ih hn hok t ht st => ?_
  obtain ⟨hl60, hx⟩ := okL_iff.1 hok
  rw [ev_mk get_paths]
  obtain ⟨F, Z, hF, hF2⟩ := loopG (H := fun tm => X.ev tm (.t (pa 9)) = slT t l.length (cIs l) ∧ X.ev tm (.t (pa 10)) = .int 63 (Int.ofNat l.length) ∧ X.ev tm (.t (pa 11)) = .int 63 0 ∧ X.ev tm (.t (pa 3)) = .int 63 1)
    fun tm h => pl_loop (call := evF fns n) st.next l hl60 (fun x hxl => by
      have hox := hx x hxl
      have hih := ih x hxl
      obtain ⟨k, nm, vr, pr, lo, hi, ks⟩ := x
      have ho := okI_at hox
      exact ⟨ho.1, ho.2.1, fun kid hk => ⟨nL_le _ _ (by decide), fun st => hih kid hk (ho.2.2 kid hk) 4 (.inl rfl) st⟩⟩) t ht n (fun x hxl => by
      have := szL_kids hxl
      obtain ⟨k, nm, vr, pr, lo, hi, ks⟩ := x
      exact Nat.lt_trans this hn) l 0 1 n tm { next := st.next, low := st.next, mem := st.mem } (Nat.le_refl _) h.1 h.2.1 h.2.2.1 h.2.2.2 (by decide) rfl (by have := len_szL l; omega)
  have hFr := fun tm a b c d => (hF2 tm ⟨a, b, c, d⟩).2.1
  have hF3 := fun tm a b c d => (hF2 tm ⟨a, b, c, d⟩).2.2
  have hFa := fun tm a b c d => (hF2 tm ⟨a, b, c, d⟩).1
  rcases ht with rfl | rfl
  all_goals
    simp only [c38_0, c38_1, c38_2, c38_3, c38_4, yX, iInt, iStr, iLenS, iLenL, iNot, iPick, iExt, if_true, if_false, reduceIte, Nat.reduceEqDiff, Nat.reduceAdd, reduceCtorEq, yQ, x_slF, x_fsl4, x_fsl6, hFr, hF3]
    refine leave_scalar (v := .int 63 (Int.ofNat (nL l 1))) ?_ (fun h => nomatch h) rfl (hFa _ ?_ ?_ ?_ ?_)
    all_goals simp only [yL, if_true, if_false, reduceIte, Nat.reduceEqDiff, reduceCtorEq]
theorem get_paths : table.get 38 = some sh38 := get_pathsT
theorem paths_ev : type_of% (@paths_evF table get_pathsT) := @paths_evF table get_pathsT
end Go.Proofs.YtnccejmggcjaoaaGreatDoor.Av
