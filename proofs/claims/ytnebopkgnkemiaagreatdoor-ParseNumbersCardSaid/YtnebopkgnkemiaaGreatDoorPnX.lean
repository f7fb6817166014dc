/-
  ParseNumbers answers true of every three numbers: the law as a whole.
-/
import Derived.Test.YtnebopkgnkemiaaGreatDoorPnW
namespace Go.Proofs.YtnebopkgnkemiaaGreatDoor.Av
set_option linter.unusedVariables false
set_option linter.unusedSimpArgs false
set_option maxRecDepth 1000000
open Go
theorem get_law : table.get 3 = some sh3 := by kernel_rfl
structure PnT (T : Tr Fs) : Prop where
  ok : TableOk Tryz.prog T
  law : T.get 3 = some sh3
  ex : ∀ (n : Nat) {st : St}, hasW st = true → evF T (n + 1) 4 [] st = some (.ret (.bool true), st)
  parse : ∀ (n : Nat) {a b w : Nat}, a < 8 → b < 8 → w < 9223372036854775808 → ∀ {st : St}, hasW st = true → evF T (n + 1) 5 [.str (txtP a b w)] st = some (.ret (pRes a b w), st)
theorem pn_table : ∃ T, PnT T := by
  obtain ⟨g, m, k⟩ := parse_known
  refine ⟨(table.set 4 (some (.spec exG))).set 5 (some (.memo g)), tableMemo (tableSpec tab ex10_spec) m, ?_, fun n st hW => ev_spec (g := exG) ?_ ?_, fun n a b w ha hb hw st hW => k _ ?_ n ha hb hw hW⟩
  · rw [get_set, if_neg (by decide), get_set, if_neg (by decide)]; exact get_law
  · rw [get_set, if_neg (by decide), get_set, if_pos rfl]
  · show (bif hasW st then some (V.bool true) else none) = _
    rw [hW]; rfl
  · rw [get_set, if_pos rfl]
section
variable {T : Tr Fs} (pt : PnT T)
include pt
theorem tail_all {a b w : Nat} (ha : a < 8) (hb : b < 8) (hw : w < 9223372036854775808) {tm : Tr V} {st : St} (hW : hasW st = true) (f7 : X.ev tm (.t (pa 7)) = .bool true) (f8 : X.ev tm (.t (pa 8)) = .int 63 (Int.ofNat a)) (f9 : X.ev tm (.t (pa 9)) = .int 63 (Int.ofNat b)) (f10 : X.ev tm (.t (pa 10)) = .int 63 (Int.ofNat w)) (f11 : X.ev tm (.t (pa 11)) = .str (preP a b)) (f12 : X.ev tm (.t (pa 12)) = .int 63 16) (f13 : X.ev tm (.t (pa 13)) = .str (Lib.decDigits w)) : Ans T tm st := by
  have hl := digits_len20 (m := w) (by omega)
  have hs : sAdd (preP a b) (Lib.decDigits w) = some (.str (txtP a b w)) := by
    unfold sAdd
    rw [bleT (by rw [lenL_eq, lenL_eq]; show 16 + (Lib.decDigits w).length ≤ _; omega), appL_eq]; rfl
  have hp := pt.parse 999 ha hb hw hW
  unfold pRes at hp
  by_cases h1 : a < 1
  · rw [if_pos (.inl h1)] at hp
    exact tail_a1 f7 f8 f9 f11 f13 hs h1 hp
  · by_cases h2 : 4 < a
    · rw [if_pos (.inr h2)] at hp
      exact tail_a4 f7 f8 f9 f11 f13 hs h1 h2 hp
    · rw [if_neg (by omega)] at hp
      by_cases h3 : b < a
      · rw [if_pos (.inl h3)] at hp
        exact tail_b1 f7 f8 f9 f10 f11 f13 hs h1 h2 h3 hp
      · by_cases h4 : 4 < b
        · rw [if_pos (.inr h4)] at hp
          exact tail_b4 f7 f8 f9 f10 f11 f13 hs h1 h2 h3 h4 hp
        · rw [if_neg (by omega)] at hp
          by_cases h5 : 1000000000 < w
          · rw [if_pos h5] at hp
            exact tail_w f7 f8 f9 f10 f11 f12 f13 hs h1 h2 h3 h4 h5 hp
          · rw [if_neg h5] at hp
            exact tail_ok f7 f8 f9 f10 f11 f13 hs h1 h2 h3 h4 h5 _ hp
theorem law_ev {l h v : Nat} (hl : l < 256) (hh : h < 256) (hv : v < 4294967296) : evF T 1001 3 [.int 8 (Int.ofNat l), .int 8 (Int.ofNat h), .int 32 (Int.ofNat v)] st0 = some (.ret (.bool true), st0) := by
  have he := pt.ex 999 (st := { next := st0.next, low := st0.next, mem := st0.mem }) hasW_st0
  obtain ⟨a, ha⟩ : ∃ a, a = l % 8 := ⟨_, rfl⟩
  obtain ⟨b, hb⟩ : ∃ b, b = h % 8 := ⟨_, rfl⟩
  obtain ⟨w, hw⟩ : ∃ w, w = v % 1000000010 := ⟨_, rfl⟩
  have r1 : fRem 8 (Int.ofNat l) 8 = some (.int 8 (Int.ofNat a)) := by rw [ha]; exact rem_ofNat 8 l 8 rfl
  have r2 : fRem 8 (Int.ofNat h) 8 = some (.int 8 (Int.ofNat b)) := by rw [hb]; exact rem_ofNat 8 h 8 rfl
  have r3 : fRem 32 (Int.ofNat v) 1000000010 = some (.int 32 (Int.ofNat w)) := by rw [hw]; exact rem_ofNat 32 v 1000000010 rfl
  have ha8 : a < 8 := by omega
  have hb8 : b < 8 := by omega
  have hw9 : w < 1000000010 := by omega
  clear ha hb hw
  have c1 : wrapC 63 (Int.ofNat a) = Int.ofNat a := wrap_lt (by show _ < 9223372036854775808; omega)
  have c2 : wrapC 63 (Int.ofNat b) = Int.ofNat b := wrap_lt (by show _ < 9223372036854775808; omega)
  have c3 : wrapC 63 (Int.ofNat w) = Int.ofNat w := wrap_lt (by show _ < 9223372036854775808; omega)
  have d1 : wrapC 8 (Int.ofNat a) = Int.ofNat a := wrap_lt (by show _ < 256; omega)
  have d2 : wrapC 8 (Int.ofNat b) = Int.ofNat b := wrap_lt (by show _ < 256; omega)
  have s1 := add48 (d := a) (by omega)
  have s2 := add48 (d := b) (by omega)
  have t1 : sAdd [65, 32, 97, 123] [UInt8.ofNat (48 + a)] = some (.str [65, 32, 97, 123, UInt8.ofNat (48 + a)]) := rfl
  have t2 : sAdd [65, 32, 97, 123, UInt8.ofNat (48 + a)] [44] = some (.str [65, 32, 97, 123, UInt8.ofNat (48 + a), 44]) := rfl
  have t3 : sAdd [65, 32, 97, 123, UInt8.ofNat (48 + a), 44] [UInt8.ofNat (48 + b)] = some (.str [65, 32, 97, 123, UInt8.ofNat (48 + a), 44, UInt8.ofNat (48 + b)]) := rfl
  have t4 : sAdd [65, 32, 97, 123, UInt8.ofNat (48 + a), 44, UInt8.ofNat (48 + b)] [125, 32, 87, 73, 84, 72, 73, 78, 32] = some (.str (preP a b)) := rfl
  have t5 : iLenS (.t (pa 44)) = fun tm st => (X.ev tm (.t (pa 44))).onStr none (fun s => some (.int 63 (.ofNat (lenL s)))) := rfl
  have t6 : Int.ofNat (lenL (preP a b)) = 16 := rfl
  obtain ⟨S0, hS0⟩ : ∃ S, S = ({ next := st0.next, low := st0.next, mem := st0.mem } : St) := ⟨_, rfl⟩
  obtain ⟨S1, hS1⟩ : ∃ S, S = S0.new (digO a) := ⟨_, rfl⟩
  obtain ⟨S2, hS2⟩ : ∃ S, S = S1.new (digO b) := ⟨_, rfl⟩
  have b1 := bsl_dig S0 a
  have v1 := cvbs_dig S0 a
  have b2 := bsl_dig S1 b
  have v2 := cvbs_dig S1 b
  rw [← hS1] at b1 v1
  rw [← hS2] at b2 v2
  have hW2 : hasW S2 = true := by rw [hS2, hS1, hS0]; exact hasW_new (hasW_new hasW_st0 (Nat.le_refl _)) (Nat.le_succ _)
  have g2 : Grew S0 S2 := by rw [hS2, hS1]; exact (Grew.new _ _).trans (Grew.new _ _)
  rw [ev_mk pt.law]
  rw [← hS0] at he ⊢
  simp only [c3_0, c3_1, c3_2, c3_3, c3_4, c3_5, c3_6, c3_7, c3_8, c3_9, c3_10, c3_11, yX, iInt, iStr, iLenS, iLenL, iNot, iPick, iExt, if_true, if_false, reduceIte, Nat.reduceEqDiff, Nat.reduceAdd, reduceCtorEq, yQ, he, r1, r2, r3, iCvi, c1, c2, c3, d1, d2, s1, s2, b1, v1, b2, v2, t1, t2, t3, t4, t6]
  generalize hT : Tr.to (α := V) _ _ _ = TM
  obtain ⟨tm1, st1, e1, k1, k2, k3⟩ := num_all (call := evF T 1000) (n := 1000) w 1000 TM S2 (by omega) (by decide) (by rw [← hT]; simp only [yX, iInt, iStr, iLenS, iLenL, iNot, iPick, iExt, if_true, if_false, reduceIte, Nat.reduceEqDiff, Nat.reduceAdd, reduceCtorEq]) (by rw [← hT]; simp only [yX, iInt, iStr, iLenS, iLenL, iNot, iPick, iExt, if_true, if_false, reduceIte, Nat.reduceEqDiff, Nat.reduceAdd, reduceCtorEq])
  have hG : 11 ≤ S2.next := by rw [hS2, hS1, hS0]; show 11 ≤ 11 + 1 + 1; omega
  obtain ⟨tm', st', e2, k4, k5⟩ := tail_all pt ha8 hb8 (by omega) (tm := tm1) (k1.hasW hG hW2) ((k3 7 (by decide)).trans (by rw [← hT]; simp only [yX, iInt, iStr, iLenS, iLenL, iNot, iPick, iExt, if_true, if_false, reduceIte, Nat.reduceEqDiff, Nat.reduceAdd, reduceCtorEq])) ((k3 8 (by decide)).trans (by rw [← hT]; simp only [yX, iInt, iStr, iLenS, iLenL, iNot, iPick, iExt, if_true, if_false, reduceIte, Nat.reduceEqDiff, Nat.reduceAdd, reduceCtorEq])) ((k3 9 (by decide)).trans (by rw [← hT]; simp only [yX, iInt, iStr, iLenS, iLenL, iNot, iPick, iExt, if_true, if_false, reduceIte, Nat.reduceEqDiff, Nat.reduceAdd, reduceCtorEq])) ((k3 10 (by decide)).trans (by rw [← hT]; simp only [yX, iInt, iStr, iLenS, iLenL, iNot, iPick, iExt, if_true, if_false, reduceIte, Nat.reduceEqDiff, Nat.reduceAdd, reduceCtorEq])) ((k3 11 (by decide)).trans (by rw [← hT]; simp only [yX, iInt, iStr, iLenS, iLenL, iNot, iPick, iExt, if_true, if_false, reduceIte, Nat.reduceEqDiff, Nat.reduceAdd, reduceCtorEq])) ((k3 12 (by decide)).trans (by rw [← hT]; simp only [yX, iInt, iStr, iLenS, iLenL, iNot, iPick, iExt, if_true, if_false, reduceIte, Nat.reduceEqDiff, Nat.reduceAdd, reduceCtorEq])) k2
  have hlow : S0.low = S0.next := by rw [hS0]
  have gA := (g2.trans k1).trans k4
  rw [e1]
  unfold restC at e2
  simp only [x_out_exit, if_true, reduceIte, x_nrm]
  rw [e2]
  exact leave_ret k5 (gA.low _ (by rw [hS0]; exact Nat.le_refl _) (by rw [hS0]; exact Nat.le_refl _)) rfl
end
end Go.Proofs.YtnebopkgnkemiaaGreatDoor.Av
