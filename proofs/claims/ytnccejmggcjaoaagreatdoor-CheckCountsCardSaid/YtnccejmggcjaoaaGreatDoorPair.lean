/-
  ONE CHOICE OF TWO LISTS, in rows of the caller's own: how many paths, how long, how much code.
-/
import Derived.Test.YtnccejmggcjaoaaGreatDoorQp
namespace Go.Proofs.YtnccejmggcjaoaaGreatDoor.Av
set_option linter.unusedVariables false
set_option linter.unusedSimpArgs false
set_option maxRecDepth 1000000
open Go
theorem get_p40 : table.get 40 = some sh40 := by kernel_rfl
theorem get_p42 : table.get 42 = some sh42 := by kernel_rfl
structure PairAt (st : St) (k k2 : Nat) (l r : List It) : Prop where
  one : st.mem.get k = some (.cells 34 (row7 3 [] [] nilV 0 0 (.ref 3 k2 0 2 2 true)) true)
  two : st.mem.get k2 = some (.cells 25 [slT 4 l.length (cIs l), slT 4 r.length (cIs r)] true)
  lt : k < st.next ∧ k2 < st.next
theorem lt00 : ltI 0 (Int.ofNat 0) = false := by kernel_rfl
theorem lt01 : ltI 0 (Int.ofNat 1) = true := by kernel_rfl
theorem lt11 : ltI 1 (Int.ofNat 1) = false := by kernel_rfl
theorem lt02 : ltI 0 (Int.ofNat 2) = true := by kernel_rfl
theorem lt12 : ltI 1 (Int.ofNat 2) = true := by kernel_rfl
theorem lt22 : ltI 2 (Int.ofNat 2) = false := by kernel_rfl
theorem ad01 : fAdd 63 0 1 = some (.int 63 1) := by kernel_rfl
theorem ad11 : fAdd 63 1 1 = some (.int 63 2) := by kernel_rfl
theorem eq31 : eqI 3 1 = false := by kernel_rfl
theorem eq32 : eqI 3 2 = false := by kernel_rfl
theorem eq33 : eqI 3 3 = true := by kernel_rfl
theorem ad0 (a : Nat) (h : a < 2 ^ 60) : fAdd 63 0 (Int.ofNat a) = some (.int 63 (Int.ofNat a)) := by
  have := f_add 63 0 a (by omega)
  rw [Nat.zero_add] at this; exact this
theorem mu1 (a : Nat) (h : a < 2 ^ 60) : fMul 63 1 (Int.ofNat a) = some (.int 63 (Int.ofNat a)) := by
  have := f_mul 63 1 a (by omega)
  rw [Nat.one_mul] at this; exact this
theorem ltcap (a : Nat) (h : a ≤ 1048576) : ltI 1048576 (Int.ofNat a) = false := by
  have := ltI_nat 1048576 a
  rw [decide_eq_false (by omega)] at this; exact this
theorem mx0 (a : Nat) : (bif ltI 0 (Int.ofNat a) then Int.ofNat a else 0) = Int.ofNat a := by
  have := mx_nat 0 a
  rw [Nat.max_eq_right (Nat.zero_le _)] at this; exact this
section
variable {st : St} {k k2 : Nat} {l r : List It} (h : PairAt st k k2 l r) (hl : Good l) (hr : Good r) (hwl : wL l ≤ 9) (hwr : wL r ≤ 9)
include h hl hr hwl hwr
set_option maxHeartbeats 8000000 in
theorem pair_ev (x : Bool) : ∃ n, evF table n 38 [.ref 3 k 0 1 1 x] st = some (.ret (.int 63 (Int.ofNat (pL l + pL r))), st) ∧
    evF table n 40 [.ref 3 k 0 1 1 x] st = some (.ret (.int 63 (Int.ofNat (max (sL l) (sL r)))), st) ∧
    evF table n 42 [.ref 3 k 0 1 1 x] st = some (.ret (.int 63 (Int.ofNat (cdL l + cdL r))), st) := by
  obtain ⟨h1, h2, h3, h4⟩ := h
  obtain ⟨ol, pl, sl, cl⟩ := good_law hl (by omega)
  obtain ⟨or_, pr, sr, cr⟩ := good_law hr (by omega)
  obtain ⟨al, bl, dl, el, _, _, _⟩ := good_all hl
  obtain ⟨ar, br, dr, er, _, _, _⟩ := good_all hr
  have e9 : (2 : Nat) ^ 9 = 512 := by decide
  have ql : 2 ^ wL l ≤ 2 ^ 9 := Nat.pow_le_pow_right (by decide) hwl
  have qr : 2 ^ wL r ≤ 2 ^ 9 := Nat.pow_le_pow_right (by decide) hwr
  obtain ⟨m, hm⟩ : ∃ m, m = szL l + cdL l + szL r + cdL r + 10 := ⟨_, rfl⟩
  obtain ⟨S0, hS0⟩ : ∃ S0 : St, S0 = { next := st.next, low := st.next, mem := st.mem } := ⟨_, rfl⟩
  obtain ⟨S2, hS2⟩ : ∃ S, S = loc S0 34 zI (row7 3 [] [] nilV 0 0 (.ref 3 k2 0 2 2 true)) := ⟨_, rfl⟩
  have n0 : S0.next = st.next := by rw [hS0]
  have g1 : S0.mem.get k = some (.cells 34 (row7 3 [] [] nilV 0 0 (.ref 3 k2 0 2 2 true)) true) := by rw [hS0]; exact h1
  have g2 : S2.mem.get k2 = some (.cells 25 [slT 4 l.length (cIs l), slT 4 r.length (cIs r)] true) := by rw [hS2, loc_ne (by omega), hS0]; exact h2
  have g3 : S2.mem.get S0.next = some (.cells 34 (row7 3 [] [] nilV 0 0 (.ref 3 k2 0 2 2 true)) true) := by rw [hS2]; exact loc_get _ _ _ _
  have af : Aft st.next { next := st.next, low := st.next, mem := st.mem } S2 := by rw [hS2, hS0]; exact (Aft.refl st.next ({ next := st.next, low := st.next, mem := st.mem } : St)).loc (Nat.le_refl _)
  have i7 : ∀ (tm : Tr V) (p q : Pa) (s : St), X.ev tm (.t p) = .ref 3 k 0 1 1 x → X.ev tm (.t q) = .int 63 0 → iIad 7 (.t p) (.t q) tm s = some (.ref 1 k 0 0 0 false) := fun tm p q s a b => iad_own (i := 0) a b (by decide)
  have i10 : ∀ (tm : Tr V) (p q : Pa) (s : St), X.ev tm (.t p) = .ref 3 k2 0 2 2 true → X.ev tm (.t q) = .int 63 0 → iIad 1 (.t p) (.t q) tm s = some (.ref 1 k2 0 0 0 false) := fun tm p q s a b => iad_own (i := 0) a b (by decide)
  have i11 : ∀ (tm : Tr V) (p q : Pa) (s : St), X.ev tm (.t p) = .ref 3 k2 0 2 2 true → X.ev tm (.t q) = .int 63 1 → iIad 1 (.t p) (.t q) tm s = some (.ref 1 k2 1 0 0 false) := fun tm p q s a b => iad_own (i := 1) a b (by decide)
  have ld1 : ldW true 7 (.ref 1 k 0 0 0 false) S0 = some (.cmp 2 0 (row7 3 [] [] nilV 0 0 (.ref 3 k2 0 2 2 true))) := by rw [ldW_get g1]; exact part_whole rfl
  have al7 : ∀ tm : Tr V, iAlloc 34 zI tm S0 = some (.ref 1 S0.next 0 0 0 false, S0.new (.cells 34 zI true)) := fun tm => rfl
  have st7 : stW 7 (.ref 1 S0.next 0 0 0 false) (.cmp 2 0 (row7 3 [] [] nilV 0 0 (.ref 3 k2 0 2 2 true))) (S0.new (.cells 34 zI true)) = some (.undef, S2) := (stW_whole (n := 7) (new_get_self' _ _) rfl rfl).trans (by rw [hS2]; rfl)
  have f0 : ldW false 1 (.ref 1 S0.next 0 0 0 false) S2 = some (.int 63 3) := by rw [ldW_get g3]; rfl
  have f3 : ldW false 1 (.ref 1 S0.next 3 0 0 false) S2 = some nilV := by rw [ldW_get g3]; rfl
  have f6 : ldW false 1 (.ref 1 S0.next 6 0 0 false) S2 = some (.ref 3 k2 0 2 2 true) := by rw [ldW_get g3]; rfl
  have k0 : ldW false 1 (.ref 1 k2 0 0 0 false) S2 = some (slT 4 l.length (cIs l)) := by rw [ldW_get g2]; rfl
  have k1 : ldW false 1 (.ref 1 k2 1 0 0 false) S2 = some (slT 4 r.length (cIs r)) := by rw [ldW_get g2]; rfl
  refine ⟨m + 4, ?_, ?_, ?_⟩
  · have c0 := paths_ev (m + 3) l (by omega) ol 4 (.inl rfl) S2
    have c1 := paths_ev (m + 3) r (by omega) or_ 4 (.inl rfl) S2
    rw [pl] at c0
    rw [pr] at c1
    have a0 := ad0 (pL l) (by omega)
    have a1 : fAdd 63 (Int.ofNat (pL l)) (Int.ofNat (pL r)) = some (.int 63 (Int.ofNat (pL l + pL r))) := f_add 63 _ _ (by omega)
    have b0 := ltcap (pL l) (by omega)
    have b1 := ltcap (pL l + pL r) (by omega)
    have m1 := mu1 (pL l + pL r) (by omega)
    rw [ev_mk get_paths, ← hS0]
    simp only [c38_0, c38_1, c38_2, c38_3, c38_4, b38_0, b38_1, d38_0, d38_1, x_loop1, yY, iInt, iStr, iLenS, iLenL, iNot, iPick, iExt, if_true, if_false, reduceIte, Nat.reduceEqDiff, Nat.reduceAdd, reduceCtorEq, yQ, f_lss, lt00, lt01, lt11, lt02, lt12, lt22, ad01, ad11, i7, i10, i11, ld1, al7, m_load, m_store, m_fad, st7, f0, f3, f6, k0, k1, f_eql, eq31, eq32, eq33, c0, c1, a0, a1, m_mn, b0, b1, m1, cond_false, cond_true]
    refine leave_scalar (v := .int 63 (Int.ofNat (pL l + pL r))) ?_ (fun h => nomatch h) rfl af
    simp only [yL, if_true, if_false, reduceIte, Nat.reduceEqDiff, reduceCtorEq]
  · have c0 := steps_ev (m + 3) l (by omega) ol 4 (.inl rfl) S2
    have c1 := steps_ev (m + 3) r (by omega) or_ 4 (.inl rfl) S2
    rw [sl] at c0
    rw [sr] at c1
    have a0 := ad0 (max (sL l) (sL r)) (by omega)
    have b1 := ltcap (max (sL l) (sL r)) (by omega)
    have m0 := mx0 (sL l)
    have m1 := mx_nat (sL l) (sL r)
    rw [ev_mk get_p40, ← hS0]
    simp only [c40_0, c40_1, c40_2, c40_3, c40_4, b40_0, b40_1, d40_0, d40_1, x_loop1, yY, iInt, iStr, iLenS, iLenL, iNot, iPick, iExt, if_true, if_false, reduceIte, Nat.reduceEqDiff, Nat.reduceAdd, reduceCtorEq, yQ, f_lss, lt00, lt01, lt11, lt02, lt12, lt22, ad01, ad11, i7, i10, i11, ld1, al7, m_load, m_store, m_fad, st7, f0, f3, f6, k0, k1, f_eql, eq31, eq32, eq33, c0, c1, a0, m_mn, m_mx, m0, m1, b1, cond_false, cond_true]
    refine leave_scalar (v := .int 63 (Int.ofNat (max (sL l) (sL r)))) ?_ (fun h => nomatch h) rfl af
    simp only [yL, if_true, if_false, reduceIte, Nat.reduceEqDiff, reduceCtorEq]
  · have c0 := code_ev (m + 3) l (by omega) ol cl 4 (.inl rfl) S2
    have c1 := code_ev (m + 3) r (by omega) or_ cr 4 (.inl rfl) S2
    have a0 := ad0 (cdL l) (by omega)
    have a1 : fAdd 63 (Int.ofNat (cdL l)) (Int.ofNat (cdL r)) = some (.int 63 (Int.ofNat (cdL l + cdL r))) := f_add 63 _ _ (by omega)
    rw [ev_mk get_p42, ← hS0]
    simp only [c42_0, c42_1, c42_2, c42_3, c42_4, b42_0, b42_1, b42_2, d42_0, d42_1, d42_2, x_loop1, yY, iInt, iStr, iLenS, iLenL, iNot, iPick, iExt, if_true, if_false, reduceIte, Nat.reduceEqDiff, Nat.reduceAdd, reduceCtorEq, yQ, f_lss, lt00, lt01, lt11, lt02, lt12, lt22, ad01, ad11, i7, i10, i11, ld1, al7, m_load, m_store, m_fad, st7, f0, f3, f6, k0, k1, f_eql, eq31, eq32, eq33, c0, c1, a0, a1, cond_false, cond_true]
    refine leave_scalar (v := .int 63 (Int.ofNat (cdL l + cdL r))) ?_ (fun h => nomatch h) rfl af
    simp only [yL, if_true, if_false, reduceIte, Nat.reduceEqDiff, reduceCtorEq]
end
end Go.Proofs.YtnccejmggcjaoaaGreatDoor.Av
