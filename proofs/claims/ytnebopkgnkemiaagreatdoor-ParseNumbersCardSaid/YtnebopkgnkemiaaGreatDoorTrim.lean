/-
  strings.TrimLeft of a text and the four spaces: WHAT IT ANSWERS.
-/
import Derived.Test.YtnebopkgnkemiaaGreatDoorSign
namespace Go.Proofs.YtnebopkgnkemiaaGreatDoor.Av
set_option linter.unusedVariables false
set_option linter.unusedSimpArgs false
set_option maxRecDepth 100000
open Go
def cut : List UInt8 := [9, 10, 13, 32]
noncomputable def spN (b : Nat) : Bool := Nat.beq b 32 || (Nat.beq b 10 || (Nat.beq b 9 || Nat.beq b 13))
noncomputable def dropSp (s : List UInt8) : List UInt8 := List.rec [] (fun b s ih => bif spN b.toNat then ih else b :: s) s
theorem dropSp_cons (b : UInt8) (s : List UInt8) : dropSp (b :: s) = bif spN b.toNat then dropSp s else b :: s := rfl
noncomputable def spArr : List V := (List.range 256).map fun i => .bool (spN i)
noncomputable def falses : List V := List.replicate 256 (.bool false)
theorem spArr_get (b : Nat) (h : b < 256) : spArr[b]? = some (.bool (spN b)) := by
  unfold spArr
  rw [List.getElem?_map, List.getElem?_range h]; rfl
theorem spArr_len : spArr.length = 256 := by unfold spArr; simp
noncomputable def stTr : St := { next := 11, low := 11, mem := Tr.leaf }
noncomputable def stT : St := (stTr.new (.cells 111 falses true)).put 11 (some (.cells 111 (splice falses 0 spArr) true))
theorem stT_get : stT.mem.get 11 = some (.cells 111 spArr true) := by kernel_rfl
theorem set_ev (n : Nat) : evF table (n + 999) 63 [.str cut] stTr = some (.ret (.tup [.agg spArr, .bool true]), stTr) := by kernel_rfl
theorem get_has : table.get 81 = some sh81 := by kernel_rfl
theorem get_trimA : table.get 64 = some sh64 := by kernel_rfl
theorem get_trim : table.get 39 = some sh39 := by kernel_rfl
theorem has_ev (n : Nat) (b : Nat) (st : St) (e : Nat) (o : Nat) (hg : st.mem.get o = some (.cells e spArr true)) (hb : b < 256) : evF table (n + 1) 81 [.ref 1 o 0 0 0 false, .int 8 (.ofNat b)] st = some (.ret (.bool (spN b)), st) := by
  have h1 : Nat.blt b 256 = true := blt_iff.2 hb
  rw [ev_mk get_has]
  simp only [c81_0, c81_1, yX, iInt, iStr, iLenS, iLenL, iNot, iPick, iExt, if_true, if_false, reduceIte, Nat.reduceEqDiff, Nat.reduceAdd, reduceCtorEq, yQ, iNck, iIaa, h1, cond_true, iLoad, part, hg, Nat.add_eq, Nat.mul_eq, Nat.mul_one, Nat.zero_add, nth_eq, spArr_get b hb]
  refine leave_ret (v := .bool _) ?_ (Nat.le_refl _) rfl
  simp only [yX, iInt, iStr, iLenS, iLenL, iNot, iPick, iExt, if_true, if_false, reduceIte, Nat.reduceEqDiff, Nat.reduceAdd, reduceCtorEq, yQ]
theorem x_onNat0 {α : Type} (d : α) (f : Nat → α) (k : Nat) : (V.int k 0).onNat d f = f 0 := Eq.trans (Eq.refl _) rfl
theorem x_onNat1 {α : Type} (d : α) (f : Nat → α) (k : Nat) : (V.int k 1).onNat d f = f 1 := Eq.trans (Eq.refl _) rfl
theorem gtr_zero (n : Nat) : ltI 0 (Int.ofNat n) = decide (0 < n) := ltI_cast 0 n
theorem trimA_loop {call : Callee} {n e o : Nat} {st : St} (hg : st.mem.get o = some (.cells e spArr true)) (hp : ∀ b, b < 256 → call 81 [.ref 1 o 0 0 0 false, .int 8 (.ofNat b)] st = some (.ret (.bool (spN b)), st)) :
    ∀ (s : List UInt8) (fuel : Nat) (tm : Tr V), s.length < fuel → X.ev tm (.t (pa 0)) = .str s → X.ev tm (.t (pa 1)) = .ref 1 o 0 0 0 false →
      ∃ tm', loopV fuel (b64_0 call n) tm st = some (.exit 0, tm', st) ∧ X.ev tm' (.t (pa 0)) = .str (dropSp s)
  | [], fuel + 1, tm, hf, h0, h1 => by
    rw [x_loop1]
    simp only [b64_0, yX, iInt, iStr, iLenS, iLenL, iNot, iPick, iExt, if_true, if_false, reduceIte, Nat.reduceEqDiff, Nat.reduceAdd, reduceCtorEq, yQ, h0, x_lenS, List.length_nil, fGtr, gtr_zero, Nat.lt_irrefl, decide_false]
    exact ⟨_, rfl, by simp only [yX, iInt, iStr, iLenS, iLenL, iNot, iPick, iExt, if_true, if_false, reduceIte, Nat.reduceEqDiff, Nat.reduceAdd, reduceCtorEq, h0]; rfl⟩
  | b :: s, fuel + 1, tm, hf, h0, h1 => by
    have hlt : decide (0 < (b :: s).length) = true := decide_eq_true (Nat.succ_pos _)
    have hnth : nth (b :: s) 0 = some b := rfl
    have hpb := hp b.toNat b.toNat_lt
    have hble : Nat.ble 1 (b :: s).length = true := bleT (Nat.succ_pos _)
    rw [x_loop1, dropSp_cons]
    cases hb : spN b.toNat with
    | true =>
      rw [hb] at hpb
      simp only [b64_0, yX, iInt, iStr, iLenS, iLenL, iNot, iPick, iExt, if_true, if_false, reduceIte, Nat.reduceEqDiff, Nat.reduceAdd, reduceCtorEq, yQ, h0, h1, x_lenS, fGtr, gtr_zero, hlt, iIxs, x_onNat0, hnth, hpb, Bool.not_true, iSls, optN, Nat.ble_eq, hble, cond_true]
      have hx : dropL (takeL (b :: s) (b :: s).length) 1 = s := by rw [dropL_eq, takeL_eq, List.take_length]; rfl
      simp only [x_onNat1, x_onNat, hble, Nat.ble_self_eq_true, bleT (Nat.le_refl _), Bool.and_self, cond_true, hx, Bool.and_true, yX, iInt, iStr, iLenS, iLenL, iNot, iPick, iExt, if_true, if_false, reduceIte, Nat.reduceEqDiff, Nat.reduceAdd, reduceCtorEq]
      refine trimA_loop hg hp s fuel _ (by simp at hf; omega) ?_ ?_ <;> simp only [yX, iInt, iStr, iLenS, iLenL, iNot, iPick, iExt, if_true, if_false, reduceIte, Nat.reduceEqDiff, Nat.reduceAdd, reduceCtorEq, h1]
    | false =>
      rw [hb] at hpb
      simp only [b64_0, yX, iInt, iStr, iLenS, iLenL, iNot, iPick, iExt, if_true, if_false, reduceIte, Nat.reduceEqDiff, Nat.reduceAdd, reduceCtorEq, yQ, h0, h1, x_lenS, fGtr, gtr_zero, hlt, iIxs, x_onNat0, hnth, hpb, Bool.not_false, cond_false]
      exact ⟨_, rfl, by simp only [yX, iInt, iStr, iLenS, iLenL, iNot, iPick, iExt, if_true, if_false, reduceIte, Nat.reduceEqDiff, Nat.reduceAdd, reduceCtorEq, h0]⟩
theorem trimA_ev (n e o : Nat) (s : List UInt8) (st : St) (hg : st.mem.get o = some (.cells e spArr true)) (hn : s.length < n) : evF table (n + 1) 64 [.str s, .ref 1 o 0 0 0 false] st = some (.ret (.str (dropSp s)), st) := by
  rw [ev_mk get_trimA]
  obtain ⟨m, rfl⟩ : ∃ m, n = m + 1 := ⟨n - 1, by omega⟩
  obtain ⟨tm', h1, h2⟩ := trimA_loop (call := evF table (m + 1)) (n := m + 1) (e := e) (o := o) (st := { next := st.next, low := st.next, mem := st.mem }) hg (fun b hb => has_ev m b _ e o hg hb) s (m + 1) (((Tr.leaf.to (pa 0) (some (.str s))).to (pa 1) (some (.ref 1 o 0 0 0 false))).to (pa 4) (some (.str []))) hn (by simp only [yX, iInt, iStr, iLenS, iLenL, iNot, iPick, iExt, if_true, if_false, reduceIte, Nat.reduceEqDiff, Nat.reduceAdd, reduceCtorEq]) (by simp only [yX, iInt, iStr, iLenS, iLenL, iNot, iPick, iExt, if_true, if_false, reduceIte, Nat.reduceEqDiff, Nat.reduceAdd, reduceCtorEq])
  simp only [c64_0, c64_1, c64_2, yX, iInt, iStr, iLenS, iLenL, iNot, iPick, iExt, if_true, if_false, reduceIte, Nat.reduceEqDiff, Nat.reduceAdd, reduceCtorEq, yQ]
  rw [h1]
  simp only [yX, iInt, iStr, iLenS, iLenL, iNot, iPick, iExt, if_true, if_false, reduceIte, Nat.reduceEqDiff, Nat.reduceAdd, reduceCtorEq, yQ, h2]
  refine leave_ret (v := .str _) ?_ (Nat.le_refl _) rfl
  simp only [yX, iInt, iStr, iLenS, iLenL, iNot, iPick, iExt, if_true, if_false, reduceIte, Nat.reduceEqDiff, Nat.reduceAdd, reduceCtorEq, yQ]
theorem falses_eq : falses = [.bool false, .bool false, .bool false, .bool false, .bool false, .bool false, .bool false, .bool false, .bool false, .bool false, .bool false, .bool false, .bool false, .bool false, .bool false, .bool false, .bool false, .bool false, .bool false, .bool false, .bool false, .bool false, .bool false, .bool false, .bool false, .bool false, .bool false, .bool false, .bool false, .bool false, .bool false, .bool false, .bool false, .bool false, .bool false, .bool false, .bool false, .bool false, .bool false, .bool false, .bool false, .bool false, .bool false, .bool false, .bool false, .bool false, .bool false, .bool false, .bool false, .bool false, .bool false, .bool false, .bool false, .bool false, .bool false, .bool false, .bool false, .bool false, .bool false, .bool false, .bool false, .bool false, .bool false, .bool false, .bool false, .bool false, .bool false, .bool false, .bool false, .bool false, .bool false, .bool false, .bool false, .bool false, .bool false, .bool false, .bool false, .bool false, .bool false, .bool false, .bool false, .bool false, .bool false, .bool false, .bool false, .bool false, .bool false, .bool false, .bool false, .bool false, .bool false, .bool false, .bool false, .bool false, .bool false, .bool false, .bool false, .bool false, .bool false, .bool false, .bool false, .bool false, .bool false, .bool false, .bool false, .bool false, .bool false, .bool false, .bool false, .bool false, .bool false, .bool false, .bool false, .bool false, .bool false, .bool false, .bool false, .bool false, .bool false, .bool false, .bool false, .bool false, .bool false, .bool false, .bool false, .bool false, .bool false, .bool false, .bool false, .bool false, .bool false, .bool false, .bool false, .bool false, .bool false, .bool false, .bool false, .bool false, .bool false, .bool false, .bool false, .bool false, .bool false, .bool false, .bool false, .bool false, .bool false, .bool false, .bool false, .bool false, .bool false, .bool false, .bool false, .bool false, .bool false, .bool false, .bool false, .bool false, .bool false, .bool false, .bool false, .bool false, .bool false, .bool false, .bool false, .bool false, .bool false, .bool false, .bool false, .bool false, .bool false, .bool false, .bool false, .bool false, .bool false, .bool false, .bool false, .bool false, .bool false, .bool false, .bool false, .bool false, .bool false, .bool false, .bool false, .bool false, .bool false, .bool false, .bool false, .bool false, .bool false, .bool false, .bool false, .bool false, .bool false, .bool false, .bool false, .bool false, .bool false, .bool false, .bool false, .bool false, .bool false, .bool false, .bool false, .bool false, .bool false, .bool false, .bool false, .bool false, .bool false, .bool false, .bool false, .bool false, .bool false, .bool false, .bool false, .bool false, .bool false, .bool false, .bool false, .bool false, .bool false, .bool false, .bool false, .bool false, .bool false, .bool false, .bool false, .bool false, .bool false, .bool false, .bool false, .bool false, .bool false, .bool false, .bool false, .bool false, .bool false, .bool false, .bool false, .bool false, .bool false, .bool false, .bool false, .bool false, .bool false, .bool false, .bool false, .bool false, .bool false, .bool false, .bool false, .bool false, .bool false, .bool false] := by kernel_rfl
theorem e_nth0 {α : Type} (a : α) (l : List α) : nth (a :: l) 0 = some a := Eq.trans (Eq.refl _) rfl
theorem e_nth1 {α : Type} (a b : α) (l : List α) : nth (a :: b :: l) 1 = some b := Eq.trans (Eq.refl _) rfl
theorem stL_self : ({ next := 11, low := 11, mem := stTr.mem } : St) = stTr := rfl
theorem trim_ev (s : List UInt8) (n : Nat) : evF table (n + s.length + 1000) 39 [.str s, .str cut] stTr = some (.ret (.str (dropSp s)), stTr) := by
  cases s with
  | nil => kernel_rfl
  | cons b s =>
    have h1 := set_ev (n + (b :: s).length)
    have h2 : eqS (b :: s) [] = false := rfl
    have h3 : eqS cut [] = false := rfl
    have h4 : eqI (Int.ofNat cut.length) 1 = false := rfl
    have hn : stTr.next = 11 := rfl
    have h5 := trimA_ev (n + (b :: s).length + 998) 111 11 (b :: s) stT stT_get (by omega)
    rw [ev_mk get_trim]
    simp only [c39_0, c39_1, c39_2, c39_3, c39_4, yX, iInt, iStr, iLenS, iLenL, iNot, iPick, iExt, if_true, if_false, reduceIte, Nat.reduceEqDiff, Nat.reduceAdd, reduceCtorEq, yQ, sEql, h2, h3, iPick, x_lenS, fEql, h4, stL_self, hn]
    simp only [c39_5, yX, iInt, iStr, iLenS, iLenL, iNot, iPick, iExt, if_true, if_false, reduceIte, Nat.reduceEqDiff, Nat.reduceAdd, reduceCtorEq, yQ, h1, stL_self, hn]
    simp only [iExt, x_onTup, e_nth0, e_nth1, yX, iInt, iStr, iLenS, iLenL, iNot, iPick, iExt, if_true, if_false, reduceIte, Nat.reduceEqDiff, Nat.reduceAdd, reduceCtorEq, iAlloc, ← falses_eq, hn]
    rw [x_store (n := 256) (o := 11) (i := 0) (l := spArr) (cs := falses) (e := 111) (by simp only [yX, iInt, iStr, iLenS, iLenL, iNot, iPick, iExt, if_true, if_false, reduceIte, Nat.reduceEqDiff, Nat.reduceAdd, reduceCtorEq]) (by simp only [yX, iInt, iStr, iLenS, iLenL, iNot, iPick, iExt, if_true, if_false, reduceIte, Nat.reduceEqDiff, Nat.reduceAdd, reduceCtorEq]; rfl) (by rw [new_get, if_pos hn.symm]) (by rw [spArr_len]) (Nat.le_refl _)]
    simp only [yX, iInt, iStr, iLenS, iLenL, iNot, iPick, iExt, if_true, if_false, reduceIte, Nat.reduceEqDiff, Nat.reduceAdd, reduceCtorEq]
    simp only [c39_6, c39_7, yX, iInt, iStr, iLenS, iLenL, iNot, iPick, iExt, if_true, if_false, reduceIte, Nat.reduceEqDiff, Nat.reduceAdd, reduceCtorEq, yQ]
    have h6 : (stTr.new (.cells 111 falses true)).put 11 (some (.cells 111 (splice falses 0 spArr) true)) = stT := rfl
    rw [h6, h5]
    simp only [yX, iInt, iStr, iLenS, iLenL, iNot, iPick, iExt, if_true, if_false, reduceIte, Nat.reduceEqDiff, Nat.reduceAdd, reduceCtorEq]
    exact leave_ret (by simp only [yX, iInt, iStr, iLenS, iLenL, iNot, iPick, iExt, if_true, if_false, reduceIte, Nat.reduceEqDiff, Nat.reduceAdd, reduceCtorEq]) (Nat.le_refl _) rfl
noncomputable def trimG (args : List V) (_ : St) : Option V :=
  List.rec none (fun a l _ => List.rec none (fun b l2 _ => a.onStr none (fun s => b.onStr none (fun c => List.rec (bif eqS c cut then some (.str (dropSp s)) else none) (fun _ _ _ => none) l2))) l) args
theorem trim_spec : SpecOk Tryz.prog 39 trimG := by
  refine spec_of mixed tab get_trim (mem := Tr.leaf) (G := 11) globals.symm (fun g b hb => by rw [get_leaf] at hb; exact nomatch hb) fun args st v h => ?_
  match args, h with
  | [], h => exact nomatch h
  | [a], h => exact nomatch h
  | a :: b :: d :: l, h =>
    obtain ⟨s, rfl, h1⟩ := onStr_some (show a.onStr none (fun s => b.onStr none (fun c => (none : Option V))) = some v from h)
    obtain ⟨c, rfl, h2⟩ := onStr_some h1
    exact nomatch h2
  | [a, b], h =>
    obtain ⟨s, rfl, h1⟩ := onStr_some (show a.onStr none (fun s => b.onStr none (fun c => bif eqS c cut then some (V.str (dropSp s)) else none)) = some v from h)
    obtain ⟨c, rfl, h2⟩ := onStr_some h1
    obtain ⟨h2, h3⟩ := bif_none h2
    rw [eqS_eq] at h2
    obtain rfl := of_decide_eq_true h2
    obtain rfl := Option.some.inj h3
    exact ⟨fun g b hb => (by rw [get_leaf] at hb; exact (nomatch hb)), by rfl, by rfl, 0 + s.length + 1000, _, trim_ev s 0⟩
end Go.Proofs.YtnebopkgnkemiaaGreatDoor.Av
