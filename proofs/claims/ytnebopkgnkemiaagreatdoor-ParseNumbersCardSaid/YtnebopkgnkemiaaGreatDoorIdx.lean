/-
  slices.IndexFunc over texts: WHAT IT ANSWERS.
-/
import Derived.Test.YtnebopkgnkemiaaGreatDoorPre
namespace Go.Proofs.YtnebopkgnkemiaaGreatDoor.Av
set_option linter.unusedVariables false
set_option linter.unusedSimpArgs false
set_option maxRecDepth 100000
open Go
noncomputable def fidx {α : Type} (p : α → Bool) (l : List α) : Nat → Int :=
  List.rec (motive := fun _ => Nat → Int) (fun _ => .negSucc 0) (fun x _ ih i => bif p x then .ofNat i else ih (Nat.succ i)) l
theorem fidx_nil {α : Type} (p : α → Bool) (i : Nat) : fidx p [] i = .negSucc 0 := rfl
theorem fidx_cons {α : Type} (p : α → Bool) (x : α) (l : List α) (i : Nat) : fidx p (x :: l) i = bif p x then .ofNat i else fidx p l (i + 1) := rfl
theorem wrap63 {i : Nat} (h : i < 9223372036854775808) : wrapC 63 (Int.ofNat i) = Int.ofNat i := by
  show (Bool.rec ((kindC 63).wrap (.ofNat i)) (.ofNat i) (Nat.blt i (Nat.pow 2 63)) : Int) = _
  have : Nat.blt i (Nat.pow 2 63) = true := blt_iff.2 (by show i < 2 ^ 63; omega)
  rw [this]
theorem add_one (i : Nat) : Int.add (Int.ofNat i) 1 = Int.ofNat (i + 1) := rfl
theorem get_idx : table.get 91 = some sh91 := by kernel_rfl
section
variable {call : Callee} {n : Nat} {st : St} {o m cap e g : Nat} {ex w : Bool} {cs : List V} {strs : List (List UInt8)} {p : List UInt8 → Bool}
theorem idx_loop (hm : m = strs.length) (hbig : m < 9223372036854775807) (hg : st.mem.get o = some (.cells e (strs.map .str) w)) (hp : ∀ x ∈ strs, call g (.str x :: cs) st = some (.ret (.bool (p x)), st)) :
    ∀ (k i fuel : Nat) (tm : Tr V), i + k = m → k < fuel → X.ev tm (.t (pa 0)) = .ref 3 o 0 m cap ex → X.ev tm (.t (pa 1)) = .cmp 0 g cs → X.ev tm (.t (pa 7)) = .int 63 (Int.ofNat m) → X.ev tm (.t (pa 8)) = .int 63 (Int.ofNat i) →
      ∃ tm', (loopV fuel (b91_0 call n) tm st = some (.ret, tm', st) ∧ tm'.at (pa 4) = some (.int 63 (fidx p (strs.drop i) i))) ∨
        (loopV fuel (b91_0 call n) tm st = some (.exit 0, tm', st) ∧ fidx p (strs.drop i) i = .negSucc 0)
  | 0, i, fuel + 1, tm, hi, hf, h0, h1, h7, h8 => by
    have hlt : decide (i < m) = false := decide_eq_false (by omega)
    rw [List.drop_eq_nil_of_le (by omega), x_loop1]
    simp only [b91_0, d91_0, yX, iInt, iStr, iLenS, iLenL, iNot, iPick, iExt, if_true, if_false, reduceIte, Nat.reduceEqDiff, Nat.reduceAdd, reduceCtorEq, yQ, h8, h7, fLss, ltI_cast, hlt]
    exact ⟨_, .inr ⟨rfl, rfl⟩⟩
  | k + 1, i, fuel + 1, tm, hi, hf, h0, h1, h7, h8 => by
    have hlt : decide (i < m) = true := decide_eq_true (by omega)
    have hblt : Nat.blt i m = true := blt_iff.2 (by omega)
    have hil : i < strs.length := by omega
    have hdrop : strs.drop i = strs[i] :: strs.drop (i + 1) := List.drop_eq_getElem_cons hil
    have hcell : (strs.map V.str)[i]? = some (.str strs[i]) := by simp [hil]
    have hpi := hp strs[i] (List.getElem_mem hil)
    rw [hdrop, fidx_cons, x_loop1]
    cases hb : p strs[i] with
    | true =>
      rw [hb] at hpi
      simp only [b91_0, d91_0, yX, iInt, iStr, iLenS, iLenL, iNot, iPick, iExt, if_true, if_false, reduceIte, Nat.reduceEqDiff, Nat.reduceAdd, reduceCtorEq, yQ, h8, h7, h0, h1, fLss, ltI_cast, hlt, iIad, hblt, cond_true, iLoad, part, hg, Nat.add_eq, Nat.mul_eq, Nat.mul_one, nth_eq, hcell, List.cons_append, List.nil_append, hpi]
      exact ⟨_, .inl ⟨rfl, by simp only [yX, iInt, iStr, iLenS, iLenL, iNot, iPick, iExt, if_true, if_false, reduceIte, Nat.reduceEqDiff, Nat.reduceAdd, reduceCtorEq]⟩⟩
    | false =>
      rw [hb] at hpi
      simp only [b91_0, d91_0, yX, iInt, iStr, iLenS, iLenL, iNot, iPick, iExt, if_true, if_false, reduceIte, Nat.reduceEqDiff, Nat.reduceAdd, reduceCtorEq, yQ, h8, h7, h0, h1, fLss, ltI_cast, hlt, iIad, hblt, cond_true, iLoad, part, hg, Nat.add_eq, Nat.mul_eq, Nat.mul_one, nth_eq, hcell, List.cons_append, List.nil_append, hpi, fAdd, add_one, cond_false]
      rw [wrap63 (by omega)]
      refine idx_loop hm hbig hg hp k (i + 1) fuel _ (by omega) (by omega) ?_ ?_ ?_ ?_ <;> simp only [yX, iInt, iStr, iLenS, iLenL, iNot, iPick, iExt, if_true, if_false, reduceIte, Nat.reduceEqDiff, Nat.reduceAdd, reduceCtorEq, h0, h1, h7]
theorem idx_ev (hm : m = strs.length) (hbig : m < 9223372036854775807) (hg : st.mem.get o = some (.cells e (strs.map .str) w)) (hn : m < n) (hp : ∀ x ∈ strs, evF table n g (.str x :: cs) { next := st.next, low := st.next, mem := st.mem } = some (.ret (.bool (p x)), { next := st.next, low := st.next, mem := st.mem })) :
    evF table (n + 1) 91 [.ref 3 o 0 m cap ex, .cmp 0 g cs] st = some (.ret (.int 63 (fidx p strs 0)), st) := by
  rw [ev_mk get_idx]
  simp only [c91_0, c91_1, c91_2, c91_3, yX, iInt, iStr, iLenS, iLenL, iNot, iPick, iExt, if_true, if_false, reduceIte, Nat.reduceEqDiff, Nat.reduceAdd, reduceCtorEq, yQ]
  obtain ⟨tm', ⟨h1, h2⟩ | ⟨h1, h2⟩⟩ := idx_loop (call := evF table n) (n := n) (st := { next := st.next, low := st.next, mem := st.mem }) (o := o) (m := m) (cap := cap) (ex := ex) (g := g) (cs := cs) (strs := strs) (p := p) hm hbig hg hp m 0 n
    (((((Tr.leaf.to (pa 0) (some (.ref 3 o 0 m cap ex))).to (pa 1) (some (.cmp 0 g cs))).to (pa 4) (some (.int 63 0))).to (pa 6) (some (.ref 3 o 0 m cap ex))).to (pa 7) (some (.int 63 (Int.ofNat m))) |>.to (pa 8) (some (.int 63 (Int.ofNat 0)))) (by omega) hn (by simp only [yX, iInt, iStr, iLenS, iLenL, iNot, iPick, iExt, if_true, if_false, reduceIte, Nat.reduceEqDiff, Nat.reduceAdd, reduceCtorEq]) (by simp only [yX, iInt, iStr, iLenS, iLenL, iNot, iPick, iExt, if_true, if_false, reduceIte, Nat.reduceEqDiff, Nat.reduceAdd, reduceCtorEq]) (by simp only [yX, iInt, iStr, iLenS, iLenL, iNot, iPick, iExt, if_true, if_false, reduceIte, Nat.reduceEqDiff, Nat.reduceAdd, reduceCtorEq]) (by simp only [yX, iInt, iStr, iLenS, iLenL, iNot, iPick, iExt, if_true, if_false, reduceIte, Nat.reduceEqDiff, Nat.reduceAdd, reduceCtorEq])
  · rw [show (0 : Int) = Int.ofNat 0 from rfl] at h1 ⊢
    rw [h1]
    simp only [yX, iInt, iStr, iLenS, iLenL, iNot, iPick, iExt, if_true, if_false, reduceIte, Nat.reduceEqDiff, Nat.reduceAdd, reduceCtorEq]
    exact leave_ret h2 (Nat.le_refl _) rfl
  · rw [show (0 : Int) = Int.ofNat 0 from rfl] at h1 ⊢
    rw [h1]
    rw [List.drop_zero] at h2
    rw [h2]
    simp only [yX, iInt, iStr, iLenS, iLenL, iNot, iPick, iExt, if_true, if_false, reduceIte, Nat.reduceEqDiff, Nat.reduceAdd, reduceCtorEq]
    exact leave_ret (by simp only [yX, iInt, iStr, iLenS, iLenL, iNot, iPick, iExt, if_true, if_false, reduceIte, Nat.reduceEqDiff, Nat.reduceAdd, reduceCtorEq]; rfl) (Nat.le_refl _) rfl
end
end Go.Proofs.YtnebopkgnkemiaaGreatDoor.Av
