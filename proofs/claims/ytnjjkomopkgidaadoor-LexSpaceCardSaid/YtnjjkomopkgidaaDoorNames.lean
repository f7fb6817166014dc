/-
  LexNames: WHAT IT ANSWERS of every row of numbers.
-/
import Derived.Test.YtnjjkomopkgidaaDoorNameL
import Derived.Test.YtnjjkomopkgidaaDoorNumbers
namespace Go.Proofs.YtnjjkomopkgidaaDoor.Av
set_option linter.unusedVariables false
set_option linter.unusedSimpArgs false
set_option maxRecDepth 1000000
open Go

/-! ### rows of numbers -/
/-- A row of numbers, as an argument. -/
def Row (st : St) (k : Nat) (v : V) (zs : List Nat) : Prop := (v = .ref 2 0 0 0 0 false ∧ zs = []) ∨ ∃ o cap, v = .ref 3 o 0 zs.length cap true ∧ o < st.next ∧ st.mem.get o = some (.cells 0 (zs.map fun z => .int k (Int.ofNat z)) false)
theorem Row.grew {st S : St} {k : Nat} {v : V} {zs : List Nat} (h : Row st k v zs) (hg : Grew st S) : Row S k v zs := by
  rcases h with h | ⟨o, cap, h1, h2, h3⟩
  · exact .inl h
  · exact .inr ⟨o, cap, h1, Nat.lt_of_lt_of_le h2 hg.next, (hg.mem o h2).trans h3⟩
theorem Row.len {st : St} {k : Nat} {v : V} {zs : List Nat} (h : Row st k v zs) : v.onSlice none (some (V.int 63 (.ofNat 0))) (fun _ _ n _ _ => some (V.int 63 (.ofNat n))) = some (.int 63 (Int.ofNat zs.length)) := by
  rcases h with ⟨rfl, rfl⟩ | ⟨o, cap, rfl, _⟩
  · rfl
  · rfl
/-- Where the row stands. -/
theorem Row.at {st : St} {k : Nat} {v : V} {zs : List Nat} (h : Row st k v zs) {i : Nat} (hi : i < zs.length) : ∃ o cap, v = .ref 3 o 0 zs.length cap true ∧ st.mem.get o = some (.cells 0 (zs.map fun z => .int k (Int.ofNat z)) false) := by
  rcases h with ⟨_, rfl⟩ | ⟨o, cap, h1, _, h3⟩
  · simp at hi
  · exact ⟨o, cap, h1, h3⟩
theorem row_ld {st : St} {k o i : Nat} {zs : List Nat} (hg : st.mem.get o = some (.cells 0 (zs.map fun z => .int k (Int.ofNat z)) false)) (hi : i < zs.length) {x : X} {tm : Tr V} (hx : x.ev tm = .ref 1 o i 0 0 false) : iLoad false 1 x tm st = some (.int k (Int.ofNat zs[i])) :=
  x_load1 (o := o) (i := i) hx hg (by rw [List.getElem?_map, List.getElem?_eq_getElem hi]; rfl)
theorem row_iad {st : St} {o i n cap kk : Nat} {x y : X} {tm : Tr V} (hx : x.ev tm = .ref 3 o 0 n cap true) (hy : y.ev tm = .int kk (Int.ofNat i)) (hi : i < n) : iIad 1 x y tm st = some (.ref 1 o i 0 0 false) := by
  have h := x_iad (n := 1) (st := st) (x := x) (i := y) (tm := tm) (o := o) (b := 0) (m := n) (c := cap) (k := i) (kk := kk) (ex := true) hx hy hi
  rw [h]
  simp
/-! ### the runes -/
def tabRu : List UInt8 := [97, 98, 122, 65, 90, 48, 49, 57, 95, 59]
def runeA (z : Nat) : Nat := if 55296 ≤ z ∧ z ≤ 57343 then 90 else z
def runeN (z : Nat) : Nat := if runeA z < 128 then (tabRu.getD (runeA z % 10) 0).toNat else runeA z
theorem tab_lt : ∀ k, k < 10 → (tabRu.getD k 0).toNat < 128 ∧ spN (tabRu.getD k 0).toNat = false := by
  intro k hk
  have h : k = 0 ∨ k = 1 ∨ k = 2 ∨ k = 3 ∨ k = 4 ∨ k = 5 ∨ k = 6 ∨ k = 7 ∨ k = 8 ∨ k = 9 := by omega
  rcases h with rfl | rfl | rfl | rfl | rfl | rfl | rfl | rfl | rfl | rfl <;> exact ⟨by decide, rfl⟩
theorem rune_ok {z : Nat} (hz : z < 65536) : VRune (runeN z) ∧ (runeN z < 128 → spN (runeN z) = false) := by
  have hm : runeA z % 10 < 10 := Nat.mod_lt _ (by decide)
  unfold runeN
  by_cases h : runeA z < 128
  · rw [if_pos h]
    have := tab_lt _ hm
    refine ⟨?_, fun _ => this.2⟩
    unfold VRune
    omega
  · rw [if_neg h]
    refine ⟨?_, fun h' => absurd h' h⟩
    unfold VRune
    unfold runeA at h ⊢
    split <;> omega
theorem iIxs_tab {st : St} {tm : Tr V} {p : Pa} {k kk : Nat} (hk : k < 10) (h : X.ev tm (.t p) = .int kk (Int.ofNat k)) : iIxs (.c (.str [97, 98, 122, 65, 90, 48, 49, 57, 95, 59])) (.t p) tm st = some (.int 8 (Int.ofNat (tabRu.getD k 0).toNat)) := by
  unfold iIxs
  rw [h]
  have h : k = 0 ∨ k = 1 ∨ k = 2 ∨ k = 3 ∨ k = 4 ∨ k = 5 ∨ k = 6 ∨ k = 7 ∨ k = 8 ∨ k = 9 := by omega
  rcases h with rfl | rfl | rfl | rfl | rfl | rfl | rfl | rfl | rfl | rfl <;> rfl
theorem enc_le {r : Nat} (hv : VRune r) : (enc r).length ≤ 4 := by
  by_cases h : r < 128
  · rw [enc1 h]; simp
  · exact (enc_big hv (by omega)).2.1
section
variable {call : Callee} {n : Nat} {st : St}
theorem sAdd_short {a b : List UInt8} (ha : a.length ≤ 1000) (hb : b.length ≤ 4) : sAdd a b = some (.str (a ++ b)) := by
  unfold sAdd
  rw [bleT (by rw [lenL_eq, lenL_eq]; show a.length + b.length ≤ _; omega), appL_eq]
theorem geq_ofNat (k a b : Nat) : fGeq k (Int.ofNat a) (Int.ofNat b) = some (.bool (decide (b ≤ a))) := by
  show some (V.bool (!ltI (Int.ofNat a) (Int.ofNat b))) = _
  rw [ltI_cast]
  by_cases h : a < b
  · rw [decide_eq_true h, decide_eq_false (by omega)]; rfl
  · rw [decide_eq_false h, decide_eq_true (by omega)]; rfl
theorem leq_ofNat (k a b : Nat) : fLeq k (Int.ofNat a) (Int.ofNat b) = some (.bool (decide (a ≤ b))) := geq_ofNat k b a
set_option maxHeartbeats 4000000 in
theorem nms_step {tm : Tr V} {v0 v3 : V} {zs : List Nat} {acc : List UInt8} {i : Nat} (hrow : Row st 16 v0 zs) (hz : ∀ z ∈ zs, z < 65536) (hi : i < zs.length) (h14 : i < 14) (hacc : acc.length ≤ 1000)
    (h0 : X.ev tm (.t (pa 0)) = v0) (h3 : X.ev tm (.t (pa 3)) = v3) (h4 : X.ev tm (.t (pa 4)) = .str acc) (h5 : X.ev tm (.t (pa 5)) = .int 63 (Int.ofNat i)) :
    ∃ tm', b4_0 call n tm st = some (.nrm, tm', st) ∧ X.ev tm' (.t (pa 0)) = v0 ∧ X.ev tm' (.t (pa 3)) = v3 ∧ X.ev tm' (.t (pa 4)) = .str (acc ++ enc (runeN zs[i])) ∧ X.ev tm' (.t (pa 5)) = .int 63 (Int.ofNat (i + 1)) := by
  have hzi := hz zs[i] (List.getElem_mem hi)
  obtain ⟨o, cap, rfl, hg⟩ := hrow.at hi
  have hia : ∀ (tm : Tr V) (p q : Pa), X.ev tm (.t p) = .ref 3 o 0 zs.length cap true → X.ev tm (.t q) = .int 63 (Int.ofNat i) → iIad 1 (.t p) (.t q) tm st = some (.ref 1 o i 0 0 false) := fun tm p q h h' => row_iad h h' hi
  have hld : ∀ (tm : Tr V) (p : Pa), X.ev tm (.t p) = .ref 1 o i 0 0 false → iLoad false 1 (.t p) tm st = some (.int 16 (Int.ofNat zs[i])) := fun tm p h => row_ld hg hi h
  have l1 : fLss 63 (Int.ofNat i) (Int.ofNat zs.length) = some (.bool true) := by rw [lss_ofNat, decide_eq_true hi]
  have l2 : fLss 63 (Int.ofNat i) 14 = some (.bool true) := (lss_ofNat 63 i 14).trans (by rw [decide_eq_true h14])
  have l3 : fAdd 63 (Int.ofNat i) 1 = some (.int 63 (Int.ofNat (i + 1))) := by
    show some (V.int 63 (wrapC 63 (Int.ofNat (i + 1)))) = _
    rw [wrap63 (by omega)]
  have hrv := rune_ok hzi
  have hadd := sAdd_short hacc (enc_le hrv.1)
  have hen : ∀ r : Nat, (Utf8.encode (Int.ofNat r)).data.toList = enc r := fun r => rfl
  generalize zs[i] = z at *
  have w1 : wrapC 31 (Int.ofNat z) = Int.ofNat z := wrap_lt (by omega)
  have g1 : fGeq 31 (Int.ofNat z) 55296 = some (.bool (decide (55296 ≤ z))) := geq_ofNat 31 z 55296
  have g2 : fLeq 31 (Int.ofNat z) 57343 = some (.bool (decide (z ≤ 57343))) := leq_ofNat 31 z 57343
  have hm : runeA z % 10 < 10 := Nat.mod_lt _ (by decide)
  have hix : ∀ (tm : Tr V) (p : Pa), X.ev tm (.t p) = .int 31 (Int.ofNat (runeA z % 10)) → iIxs (.c (.str [97, 98, 122, 65, 90, 48, 49, 57, 95, 59])) (.t p) tm st = some (.int 8 (Int.ofNat (tabRu.getD (runeA z % 10) 0).toNat)) := fun tm p h => iIxs_tab hm h
  have ht := (tab_lt _ hm).1
  by_cases ha : 55296 ≤ z
  · rw [decide_eq_true ha] at g1
    by_cases hb : z ≤ 57343
    · rw [decide_eq_true hb] at g2
      have hA : runeA z = 90 := if_pos ⟨ha, hb⟩
      have hN : runeN z = 97 := by unfold runeN; rw [hA]; rfl
      rw [hN] at hadd ⊢
      have r1 : fLss 31 90 128 = some (.bool true) := rfl
      have r2 : fRem 31 90 10 = some (.int 31 (Int.ofNat 0)) := rfl
      have r3 : ∀ (tm : Tr V) (p : Pa), X.ev tm (.t p) = .int 31 (Int.ofNat 0) → iIxs (.c (.str [97, 98, 122, 65, 90, 48, 49, 57, 95, 59])) (.t p) tm st = some (.int 8 (Int.ofNat 97)) := fun tm p h => iIxs_tab (k := 0) (by decide) h
      have r4 : wrapC 31 (Int.ofNat 97) = Int.ofNat 97 := rfl
      simp only [b4_0, x_seq, x_reg, x_skip, x_ret, x_exit, x_cond, x_condT, x_condF, x_block, x_loop, x_nrm, x_then_ret, x_then_exit, x_out_nrm, x_out_ret, x_out_exit, x_endG, x_step0, x_stepGT, x_stepGF, x_stepGU, x_isBT, x_isBF, Bool.not_true, Bool.not_false, x_recT, x_recF, x_mov, x_gP', x_gE', x_call, x_dyn, x_dynV, x_goR, x_put, x_put0, x_evc, x_evt, x_ats, x_evs, x_evs0, x_onInt, x_onStr, x_onBool, x_onNat, x_onPtr, x_onSlice, x_onSlice0, x_onCells, x_onTup, x_onAgg, x_beq, initT0, initT1, iInt, iStr, iLenS, iLenL, iNot, iPick, iExt, Nat.zero_add, if_true, if_false, reduceIte, Nat.reduceEqDiff, Nat.reduceAdd, reduceCtorEq, q0, q1, q2, q3, q4, q5, q6, q7, q8, q9, q10, q11, q12, q13, q14, q15, q16, q17, q18, q19, q20, q21, q22, q23, q24, q25, q26, q27, q28, q29, q30, q31, q32, q33, q34, q35, q36, q37, q38, q39, q40, q41, q42, q43, q44, q45, q46, q47, q48, q49, q50, h0, h3, h4, h5, hia, hld, l1, l2, l3, iCvi, iCvis, w1, g1, g2, r1, r2, r3, r4, hen, hadd]
      exact ⟨_, rfl, by simp only [x_seq, x_reg, x_skip, x_ret, x_exit, x_cond, x_condT, x_condF, x_block, x_loop, x_nrm, x_then_ret, x_then_exit, x_out_nrm, x_out_ret, x_out_exit, x_endG, x_step0, x_stepG, x_isBT, x_isBF, Bool.not_true, Bool.not_false, x_recT, x_recF, x_mov, x_gP', x_gE', x_call, x_dyn, x_dynV, x_goR, x_put, x_put0, x_evc, x_evt, x_ats, x_evs, x_evs0, x_onInt, x_onStr, x_onBool, x_onNat, x_onPtr, x_onSlice, x_onSlice0, x_onCells, x_onTup, x_onAgg, x_beq, initT0, initT1, iInt, iStr, iLenS, iLenL, iNot, iPick, iExt, Nat.zero_add, if_true, if_false, reduceIte, Nat.reduceEqDiff, Nat.reduceAdd, reduceCtorEq, h0], by simp only [x_seq, x_reg, x_skip, x_ret, x_exit, x_cond, x_condT, x_condF, x_block, x_loop, x_nrm, x_then_ret, x_then_exit, x_out_nrm, x_out_ret, x_out_exit, x_endG, x_step0, x_stepG, x_isBT, x_isBF, Bool.not_true, Bool.not_false, x_recT, x_recF, x_mov, x_gP', x_gE', x_call, x_dyn, x_dynV, x_goR, x_put, x_put0, x_evc, x_evt, x_ats, x_evs, x_evs0, x_onInt, x_onStr, x_onBool, x_onNat, x_onPtr, x_onSlice, x_onSlice0, x_onCells, x_onTup, x_onAgg, x_beq, initT0, initT1, iInt, iStr, iLenS, iLenL, iNot, iPick, iExt, Nat.zero_add, if_true, if_false, reduceIte, Nat.reduceEqDiff, Nat.reduceAdd, reduceCtorEq, h3], by simp only [x_seq, x_reg, x_skip, x_ret, x_exit, x_cond, x_condT, x_condF, x_block, x_loop, x_nrm, x_then_ret, x_then_exit, x_out_nrm, x_out_ret, x_out_exit, x_endG, x_step0, x_stepG, x_isBT, x_isBF, Bool.not_true, Bool.not_false, x_recT, x_recF, x_mov, x_gP', x_gE', x_call, x_dyn, x_dynV, x_goR, x_put, x_put0, x_evc, x_evt, x_ats, x_evs, x_evs0, x_onInt, x_onStr, x_onBool, x_onNat, x_onPtr, x_onSlice, x_onSlice0, x_onCells, x_onTup, x_onAgg, x_beq, initT0, initT1, iInt, iStr, iLenS, iLenL, iNot, iPick, iExt, Nat.zero_add, if_true, if_false, reduceIte, Nat.reduceEqDiff, Nat.reduceAdd, reduceCtorEq], by simp only [x_seq, x_reg, x_skip, x_ret, x_exit, x_cond, x_condT, x_condF, x_block, x_loop, x_nrm, x_then_ret, x_then_exit, x_out_nrm, x_out_ret, x_out_exit, x_endG, x_step0, x_stepG, x_isBT, x_isBF, Bool.not_true, Bool.not_false, x_recT, x_recF, x_mov, x_gP', x_gE', x_call, x_dyn, x_dynV, x_goR, x_put, x_put0, x_evc, x_evt, x_ats, x_evs, x_evs0, x_onInt, x_onStr, x_onBool, x_onNat, x_onPtr, x_onSlice, x_onSlice0, x_onCells, x_onTup, x_onAgg, x_beq, initT0, initT1, iInt, iStr, iLenS, iLenL, iNot, iPick, iExt, Nat.zero_add, if_true, if_false, reduceIte, Nat.reduceEqDiff, Nat.reduceAdd, reduceCtorEq]⟩
    · rw [decide_eq_false hb] at g2
      have hA : runeA z = z := if_neg (by omega)
      have hN : runeN z = z := by unfold runeN; rw [hA, if_neg (by omega)]
      rw [hN] at hadd ⊢
      have r1 : fLss 31 (Int.ofNat z) 128 = some (.bool false) := (lss_ofNat 31 z 128).trans (by rw [decide_eq_false (by omega)])
      simp only [b4_0, x_seq, x_reg, x_skip, x_ret, x_exit, x_cond, x_condT, x_condF, x_block, x_loop, x_nrm, x_then_ret, x_then_exit, x_out_nrm, x_out_ret, x_out_exit, x_endG, x_step0, x_stepGT, x_stepGF, x_stepGU, x_isBT, x_isBF, Bool.not_true, Bool.not_false, x_recT, x_recF, x_mov, x_gP', x_gE', x_call, x_dyn, x_dynV, x_goR, x_put, x_put0, x_evc, x_evt, x_ats, x_evs, x_evs0, x_onInt, x_onStr, x_onBool, x_onNat, x_onPtr, x_onSlice, x_onSlice0, x_onCells, x_onTup, x_onAgg, x_beq, initT0, initT1, iInt, iStr, iLenS, iLenL, iNot, iPick, iExt, Nat.zero_add, if_true, if_false, reduceIte, Nat.reduceEqDiff, Nat.reduceAdd, reduceCtorEq, q0, q1, q2, q3, q4, q5, q6, q7, q8, q9, q10, q11, q12, q13, q14, q15, q16, q17, q18, q19, q20, q21, q22, q23, q24, q25, q26, q27, q28, q29, q30, q31, q32, q33, q34, q35, q36, q37, q38, q39, q40, q41, q42, q43, q44, q45, q46, q47, q48, q49, q50, h0, h3, h4, h5, hia, hld, l1, l2, l3, iCvi, iCvis, w1, g1, g2, r1, hen, hadd]
      exact ⟨_, rfl, by simp only [x_seq, x_reg, x_skip, x_ret, x_exit, x_cond, x_condT, x_condF, x_block, x_loop, x_nrm, x_then_ret, x_then_exit, x_out_nrm, x_out_ret, x_out_exit, x_endG, x_step0, x_stepG, x_isBT, x_isBF, Bool.not_true, Bool.not_false, x_recT, x_recF, x_mov, x_gP', x_gE', x_call, x_dyn, x_dynV, x_goR, x_put, x_put0, x_evc, x_evt, x_ats, x_evs, x_evs0, x_onInt, x_onStr, x_onBool, x_onNat, x_onPtr, x_onSlice, x_onSlice0, x_onCells, x_onTup, x_onAgg, x_beq, initT0, initT1, iInt, iStr, iLenS, iLenL, iNot, iPick, iExt, Nat.zero_add, if_true, if_false, reduceIte, Nat.reduceEqDiff, Nat.reduceAdd, reduceCtorEq, h0], by simp only [x_seq, x_reg, x_skip, x_ret, x_exit, x_cond, x_condT, x_condF, x_block, x_loop, x_nrm, x_then_ret, x_then_exit, x_out_nrm, x_out_ret, x_out_exit, x_endG, x_step0, x_stepG, x_isBT, x_isBF, Bool.not_true, Bool.not_false, x_recT, x_recF, x_mov, x_gP', x_gE', x_call, x_dyn, x_dynV, x_goR, x_put, x_put0, x_evc, x_evt, x_ats, x_evs, x_evs0, x_onInt, x_onStr, x_onBool, x_onNat, x_onPtr, x_onSlice, x_onSlice0, x_onCells, x_onTup, x_onAgg, x_beq, initT0, initT1, iInt, iStr, iLenS, iLenL, iNot, iPick, iExt, Nat.zero_add, if_true, if_false, reduceIte, Nat.reduceEqDiff, Nat.reduceAdd, reduceCtorEq, h3], by simp only [x_seq, x_reg, x_skip, x_ret, x_exit, x_cond, x_condT, x_condF, x_block, x_loop, x_nrm, x_then_ret, x_then_exit, x_out_nrm, x_out_ret, x_out_exit, x_endG, x_step0, x_stepG, x_isBT, x_isBF, Bool.not_true, Bool.not_false, x_recT, x_recF, x_mov, x_gP', x_gE', x_call, x_dyn, x_dynV, x_goR, x_put, x_put0, x_evc, x_evt, x_ats, x_evs, x_evs0, x_onInt, x_onStr, x_onBool, x_onNat, x_onPtr, x_onSlice, x_onSlice0, x_onCells, x_onTup, x_onAgg, x_beq, initT0, initT1, iInt, iStr, iLenS, iLenL, iNot, iPick, iExt, Nat.zero_add, if_true, if_false, reduceIte, Nat.reduceEqDiff, Nat.reduceAdd, reduceCtorEq], by simp only [x_seq, x_reg, x_skip, x_ret, x_exit, x_cond, x_condT, x_condF, x_block, x_loop, x_nrm, x_then_ret, x_then_exit, x_out_nrm, x_out_ret, x_out_exit, x_endG, x_step0, x_stepG, x_isBT, x_isBF, Bool.not_true, Bool.not_false, x_recT, x_recF, x_mov, x_gP', x_gE', x_call, x_dyn, x_dynV, x_goR, x_put, x_put0, x_evc, x_evt, x_ats, x_evs, x_evs0, x_onInt, x_onStr, x_onBool, x_onNat, x_onPtr, x_onSlice, x_onSlice0, x_onCells, x_onTup, x_onAgg, x_beq, initT0, initT1, iInt, iStr, iLenS, iLenL, iNot, iPick, iExt, Nat.zero_add, if_true, if_false, reduceIte, Nat.reduceEqDiff, Nat.reduceAdd, reduceCtorEq]⟩
  · rw [decide_eq_false ha] at g1
    have hA : runeA z = z := if_neg (by omega)
    by_cases hb : z < 128
    · have hN : runeN z = (tabRu.getD (z % 10) 0).toNat := by unfold runeN; rw [hA, if_pos hb]
      rw [hA] at hix ht
      rw [hN] at hadd ⊢
      have r1 : fLss 31 (Int.ofNat z) 128 = some (.bool true) := (lss_ofNat 31 z 128).trans (by rw [decide_eq_true hb])
      have r2 : fRem 31 (Int.ofNat z) 10 = some (.int 31 (Int.ofNat (z % 10))) := rem_ofNat 31 z 10 rfl
      have r4 : wrapC 31 (Int.ofNat (tabRu.getD (z % 10) 0).toNat) = Int.ofNat (tabRu.getD (z % 10) 0).toNat := wrap_lt (by omega)
      simp only [b4_0, x_seq, x_reg, x_skip, x_ret, x_exit, x_cond, x_condT, x_condF, x_block, x_loop, x_nrm, x_then_ret, x_then_exit, x_out_nrm, x_out_ret, x_out_exit, x_endG, x_step0, x_stepGT, x_stepGF, x_stepGU, x_isBT, x_isBF, Bool.not_true, Bool.not_false, x_recT, x_recF, x_mov, x_gP', x_gE', x_call, x_dyn, x_dynV, x_goR, x_put, x_put0, x_evc, x_evt, x_ats, x_evs, x_evs0, x_onInt, x_onStr, x_onBool, x_onNat, x_onPtr, x_onSlice, x_onSlice0, x_onCells, x_onTup, x_onAgg, x_beq, initT0, initT1, iInt, iStr, iLenS, iLenL, iNot, iPick, iExt, Nat.zero_add, if_true, if_false, reduceIte, Nat.reduceEqDiff, Nat.reduceAdd, reduceCtorEq, q0, q1, q2, q3, q4, q5, q6, q7, q8, q9, q10, q11, q12, q13, q14, q15, q16, q17, q18, q19, q20, q21, q22, q23, q24, q25, q26, q27, q28, q29, q30, q31, q32, q33, q34, q35, q36, q37, q38, q39, q40, q41, q42, q43, q44, q45, q46, q47, q48, q49, q50, h0, h3, h4, h5, hia, hld, l1, l2, l3, iCvi, iCvis, w1, g1, r1, r2, r4, hix, hen, hadd]
      exact ⟨_, rfl, by simp only [x_seq, x_reg, x_skip, x_ret, x_exit, x_cond, x_condT, x_condF, x_block, x_loop, x_nrm, x_then_ret, x_then_exit, x_out_nrm, x_out_ret, x_out_exit, x_endG, x_step0, x_stepG, x_isBT, x_isBF, Bool.not_true, Bool.not_false, x_recT, x_recF, x_mov, x_gP', x_gE', x_call, x_dyn, x_dynV, x_goR, x_put, x_put0, x_evc, x_evt, x_ats, x_evs, x_evs0, x_onInt, x_onStr, x_onBool, x_onNat, x_onPtr, x_onSlice, x_onSlice0, x_onCells, x_onTup, x_onAgg, x_beq, initT0, initT1, iInt, iStr, iLenS, iLenL, iNot, iPick, iExt, Nat.zero_add, if_true, if_false, reduceIte, Nat.reduceEqDiff, Nat.reduceAdd, reduceCtorEq, h0], by simp only [x_seq, x_reg, x_skip, x_ret, x_exit, x_cond, x_condT, x_condF, x_block, x_loop, x_nrm, x_then_ret, x_then_exit, x_out_nrm, x_out_ret, x_out_exit, x_endG, x_step0, x_stepG, x_isBT, x_isBF, Bool.not_true, Bool.not_false, x_recT, x_recF, x_mov, x_gP', x_gE', x_call, x_dyn, x_dynV, x_goR, x_put, x_put0, x_evc, x_evt, x_ats, x_evs, x_evs0, x_onInt, x_onStr, x_onBool, x_onNat, x_onPtr, x_onSlice, x_onSlice0, x_onCells, x_onTup, x_onAgg, x_beq, initT0, initT1, iInt, iStr, iLenS, iLenL, iNot, iPick, iExt, Nat.zero_add, if_true, if_false, reduceIte, Nat.reduceEqDiff, Nat.reduceAdd, reduceCtorEq, h3], by simp only [x_seq, x_reg, x_skip, x_ret, x_exit, x_cond, x_condT, x_condF, x_block, x_loop, x_nrm, x_then_ret, x_then_exit, x_out_nrm, x_out_ret, x_out_exit, x_endG, x_step0, x_stepG, x_isBT, x_isBF, Bool.not_true, Bool.not_false, x_recT, x_recF, x_mov, x_gP', x_gE', x_call, x_dyn, x_dynV, x_goR, x_put, x_put0, x_evc, x_evt, x_ats, x_evs, x_evs0, x_onInt, x_onStr, x_onBool, x_onNat, x_onPtr, x_onSlice, x_onSlice0, x_onCells, x_onTup, x_onAgg, x_beq, initT0, initT1, iInt, iStr, iLenS, iLenL, iNot, iPick, iExt, Nat.zero_add, if_true, if_false, reduceIte, Nat.reduceEqDiff, Nat.reduceAdd, reduceCtorEq], by simp only [x_seq, x_reg, x_skip, x_ret, x_exit, x_cond, x_condT, x_condF, x_block, x_loop, x_nrm, x_then_ret, x_then_exit, x_out_nrm, x_out_ret, x_out_exit, x_endG, x_step0, x_stepG, x_isBT, x_isBF, Bool.not_true, Bool.not_false, x_recT, x_recF, x_mov, x_gP', x_gE', x_call, x_dyn, x_dynV, x_goR, x_put, x_put0, x_evc, x_evt, x_ats, x_evs, x_evs0, x_onInt, x_onStr, x_onBool, x_onNat, x_onPtr, x_onSlice, x_onSlice0, x_onCells, x_onTup, x_onAgg, x_beq, initT0, initT1, iInt, iStr, iLenS, iLenL, iNot, iPick, iExt, Nat.zero_add, if_true, if_false, reduceIte, Nat.reduceEqDiff, Nat.reduceAdd, reduceCtorEq]⟩
    · have hN : runeN z = z := by unfold runeN; rw [hA, if_neg hb]
      rw [hN] at hadd ⊢
      have r1 : fLss 31 (Int.ofNat z) 128 = some (.bool false) := (lss_ofNat 31 z 128).trans (by rw [decide_eq_false hb])
      simp only [b4_0, x_seq, x_reg, x_skip, x_ret, x_exit, x_cond, x_condT, x_condF, x_block, x_loop, x_nrm, x_then_ret, x_then_exit, x_out_nrm, x_out_ret, x_out_exit, x_endG, x_step0, x_stepGT, x_stepGF, x_stepGU, x_isBT, x_isBF, Bool.not_true, Bool.not_false, x_recT, x_recF, x_mov, x_gP', x_gE', x_call, x_dyn, x_dynV, x_goR, x_put, x_put0, x_evc, x_evt, x_ats, x_evs, x_evs0, x_onInt, x_onStr, x_onBool, x_onNat, x_onPtr, x_onSlice, x_onSlice0, x_onCells, x_onTup, x_onAgg, x_beq, initT0, initT1, iInt, iStr, iLenS, iLenL, iNot, iPick, iExt, Nat.zero_add, if_true, if_false, reduceIte, Nat.reduceEqDiff, Nat.reduceAdd, reduceCtorEq, q0, q1, q2, q3, q4, q5, q6, q7, q8, q9, q10, q11, q12, q13, q14, q15, q16, q17, q18, q19, q20, q21, q22, q23, q24, q25, q26, q27, q28, q29, q30, q31, q32, q33, q34, q35, q36, q37, q38, q39, q40, q41, q42, q43, q44, q45, q46, q47, q48, q49, q50, h0, h3, h4, h5, hia, hld, l1, l2, l3, iCvi, iCvis, w1, g1, r1, hen, hadd]
      exact ⟨_, rfl, by simp only [x_seq, x_reg, x_skip, x_ret, x_exit, x_cond, x_condT, x_condF, x_block, x_loop, x_nrm, x_then_ret, x_then_exit, x_out_nrm, x_out_ret, x_out_exit, x_endG, x_step0, x_stepG, x_isBT, x_isBF, Bool.not_true, Bool.not_false, x_recT, x_recF, x_mov, x_gP', x_gE', x_call, x_dyn, x_dynV, x_goR, x_put, x_put0, x_evc, x_evt, x_ats, x_evs, x_evs0, x_onInt, x_onStr, x_onBool, x_onNat, x_onPtr, x_onSlice, x_onSlice0, x_onCells, x_onTup, x_onAgg, x_beq, initT0, initT1, iInt, iStr, iLenS, iLenL, iNot, iPick, iExt, Nat.zero_add, if_true, if_false, reduceIte, Nat.reduceEqDiff, Nat.reduceAdd, reduceCtorEq, h0], by simp only [x_seq, x_reg, x_skip, x_ret, x_exit, x_cond, x_condT, x_condF, x_block, x_loop, x_nrm, x_then_ret, x_then_exit, x_out_nrm, x_out_ret, x_out_exit, x_endG, x_step0, x_stepG, x_isBT, x_isBF, Bool.not_true, Bool.not_false, x_recT, x_recF, x_mov, x_gP', x_gE', x_call, x_dyn, x_dynV, x_goR, x_put, x_put0, x_evc, x_evt, x_ats, x_evs, x_evs0, x_onInt, x_onStr, x_onBool, x_onNat, x_onPtr, x_onSlice, x_onSlice0, x_onCells, x_onTup, x_onAgg, x_beq, initT0, initT1, iInt, iStr, iLenS, iLenL, iNot, iPick, iExt, Nat.zero_add, if_true, if_false, reduceIte, Nat.reduceEqDiff, Nat.reduceAdd, reduceCtorEq, h3], by simp only [x_seq, x_reg, x_skip, x_ret, x_exit, x_cond, x_condT, x_condF, x_block, x_loop, x_nrm, x_then_ret, x_then_exit, x_out_nrm, x_out_ret, x_out_exit, x_endG, x_step0, x_stepG, x_isBT, x_isBF, Bool.not_true, Bool.not_false, x_recT, x_recF, x_mov, x_gP', x_gE', x_call, x_dyn, x_dynV, x_goR, x_put, x_put0, x_evc, x_evt, x_ats, x_evs, x_evs0, x_onInt, x_onStr, x_onBool, x_onNat, x_onPtr, x_onSlice, x_onSlice0, x_onCells, x_onTup, x_onAgg, x_beq, initT0, initT1, iInt, iStr, iLenS, iLenL, iNot, iPick, iExt, Nat.zero_add, if_true, if_false, reduceIte, Nat.reduceEqDiff, Nat.reduceAdd, reduceCtorEq], by simp only [x_seq, x_reg, x_skip, x_ret, x_exit, x_cond, x_condT, x_condF, x_block, x_loop, x_nrm, x_then_ret, x_then_exit, x_out_nrm, x_out_ret, x_out_exit, x_endG, x_step0, x_stepG, x_isBT, x_isBF, Bool.not_true, Bool.not_false, x_recT, x_recF, x_mov, x_gP', x_gE', x_call, x_dyn, x_dynV, x_goR, x_put, x_put0, x_evc, x_evt, x_ats, x_evs, x_evs0, x_onInt, x_onStr, x_onBool, x_onNat, x_onPtr, x_onSlice, x_onSlice0, x_onCells, x_onTup, x_onAgg, x_beq, initT0, initT1, iInt, iStr, iLenS, iLenL, iNot, iPick, iExt, Nat.zero_add, if_true, if_false, reduceIte, Nat.reduceEqDiff, Nat.reduceAdd, reduceCtorEq]⟩
theorem nms_stop {tm : Tr V} {v0 : V} {zs : List Nat} {i : Nat} (hrow : Row st 16 v0 zs) (hi : ¬ i < zs.length ∨ ¬ i < 14)
    (h0 : X.ev tm (.t (pa 0)) = v0) (h5 : X.ev tm (.t (pa 5)) = .int 63 (Int.ofNat i)) :
    ∃ tm', b4_0 call n tm st = some (.exit 0, tm', st) ∧ X.ev tm' (.t (pa 3)) = X.ev tm (.t (pa 3)) ∧ X.ev tm' (.t (pa 4)) = X.ev tm (.t (pa 4)) := by
  have hll := hrow.len
  by_cases hi' : i < zs.length
  · have l1 : fLss 63 (Int.ofNat i) (Int.ofNat zs.length) = some (.bool true) := by rw [lss_ofNat, decide_eq_true hi']
    have l2 : fLss 63 (Int.ofNat i) 14 = some (.bool false) := (lss_ofNat 63 i 14).trans (by rw [decide_eq_false (by omega)])
    simp only [b4_0, x_seq, x_reg, x_skip, x_ret, x_exit, x_cond, x_condT, x_condF, x_block, x_loop, x_nrm, x_then_ret, x_then_exit, x_out_nrm, x_out_ret, x_out_exit, x_endG, x_step0, x_stepGT, x_stepGF, x_stepGU, x_isBT, x_isBF, Bool.not_true, Bool.not_false, x_recT, x_recF, x_mov, x_gP', x_gE', x_call, x_dyn, x_dynV, x_goR, x_put, x_put0, x_evc, x_evt, x_ats, x_evs, x_evs0, x_onInt, x_onStr, x_onBool, x_onNat, x_onPtr, x_onSlice, x_onSlice0, x_onCells, x_onTup, x_onAgg, x_beq, initT0, initT1, iInt, iStr, iLenS, iLenL, iNot, iPick, iExt, Nat.zero_add, if_true, if_false, reduceIte, Nat.reduceEqDiff, Nat.reduceAdd, reduceCtorEq, q0, q1, q2, q3, q4, q5, q6, q7, q8, q9, q10, q11, q12, q13, q14, q15, q16, q17, q18, q19, q20, q21, q22, q23, q24, q25, q26, q27, q28, q29, q30, q31, q32, q33, q34, q35, q36, q37, q38, q39, q40, q41, q42, q43, q44, q45, q46, q47, q48, q49, q50, h0, h5, hll, l1, l2]
    exact ⟨_, rfl, by simp only [x_seq, x_reg, x_skip, x_ret, x_exit, x_cond, x_condT, x_condF, x_block, x_loop, x_nrm, x_then_ret, x_then_exit, x_out_nrm, x_out_ret, x_out_exit, x_endG, x_step0, x_stepG, x_isBT, x_isBF, Bool.not_true, Bool.not_false, x_recT, x_recF, x_mov, x_gP', x_gE', x_call, x_dyn, x_dynV, x_goR, x_put, x_put0, x_evc, x_evt, x_ats, x_evs, x_evs0, x_onInt, x_onStr, x_onBool, x_onNat, x_onPtr, x_onSlice, x_onSlice0, x_onCells, x_onTup, x_onAgg, x_beq, initT0, initT1, iInt, iStr, iLenS, iLenL, iNot, iPick, iExt, Nat.zero_add, if_true, if_false, reduceIte, Nat.reduceEqDiff, Nat.reduceAdd, reduceCtorEq], by simp only [x_seq, x_reg, x_skip, x_ret, x_exit, x_cond, x_condT, x_condF, x_block, x_loop, x_nrm, x_then_ret, x_then_exit, x_out_nrm, x_out_ret, x_out_exit, x_endG, x_step0, x_stepG, x_isBT, x_isBF, Bool.not_true, Bool.not_false, x_recT, x_recF, x_mov, x_gP', x_gE', x_call, x_dyn, x_dynV, x_goR, x_put, x_put0, x_evc, x_evt, x_ats, x_evs, x_evs0, x_onInt, x_onStr, x_onBool, x_onNat, x_onPtr, x_onSlice, x_onSlice0, x_onCells, x_onTup, x_onAgg, x_beq, initT0, initT1, iInt, iStr, iLenS, iLenL, iNot, iPick, iExt, Nat.zero_add, if_true, if_false, reduceIte, Nat.reduceEqDiff, Nat.reduceAdd, reduceCtorEq]⟩
  · have l1 : fLss 63 (Int.ofNat i) (Int.ofNat zs.length) = some (.bool false) := by rw [lss_ofNat, decide_eq_false hi']
    simp only [b4_0, x_seq, x_reg, x_skip, x_ret, x_exit, x_cond, x_condT, x_condF, x_block, x_loop, x_nrm, x_then_ret, x_then_exit, x_out_nrm, x_out_ret, x_out_exit, x_endG, x_step0, x_stepGT, x_stepGF, x_stepGU, x_isBT, x_isBF, Bool.not_true, Bool.not_false, x_recT, x_recF, x_mov, x_gP', x_gE', x_call, x_dyn, x_dynV, x_goR, x_put, x_put0, x_evc, x_evt, x_ats, x_evs, x_evs0, x_onInt, x_onStr, x_onBool, x_onNat, x_onPtr, x_onSlice, x_onSlice0, x_onCells, x_onTup, x_onAgg, x_beq, initT0, initT1, iInt, iStr, iLenS, iLenL, iNot, iPick, iExt, Nat.zero_add, if_true, if_false, reduceIte, Nat.reduceEqDiff, Nat.reduceAdd, reduceCtorEq, q0, q1, q2, q3, q4, q5, q6, q7, q8, q9, q10, q11, q12, q13, q14, q15, q16, q17, q18, q19, q20, q21, q22, q23, q24, q25, q26, q27, q28, q29, q30, q31, q32, q33, q34, q35, q36, q37, q38, q39, q40, q41, q42, q43, q44, q45, q46, q47, q48, q49, q50, h0, h5, hll, l1]
    exact ⟨_, rfl, by simp only [x_seq, x_reg, x_skip, x_ret, x_exit, x_cond, x_condT, x_condF, x_block, x_loop, x_nrm, x_then_ret, x_then_exit, x_out_nrm, x_out_ret, x_out_exit, x_endG, x_step0, x_stepG, x_isBT, x_isBF, Bool.not_true, Bool.not_false, x_recT, x_recF, x_mov, x_gP', x_gE', x_call, x_dyn, x_dynV, x_goR, x_put, x_put0, x_evc, x_evt, x_ats, x_evs, x_evs0, x_onInt, x_onStr, x_onBool, x_onNat, x_onPtr, x_onSlice, x_onSlice0, x_onCells, x_onTup, x_onAgg, x_beq, initT0, initT1, iInt, iStr, iLenS, iLenL, iNot, iPick, iExt, Nat.zero_add, if_true, if_false, reduceIte, Nat.reduceEqDiff, Nat.reduceAdd, reduceCtorEq], by simp only [x_seq, x_reg, x_skip, x_ret, x_exit, x_cond, x_condT, x_condF, x_block, x_loop, x_nrm, x_then_ret, x_then_exit, x_out_nrm, x_out_ret, x_out_exit, x_endG, x_step0, x_stepG, x_isBT, x_isBF, Bool.not_true, Bool.not_false, x_recT, x_recF, x_mov, x_gP', x_gE', x_call, x_dyn, x_dynV, x_goR, x_put, x_put0, x_evc, x_evt, x_ats, x_evs, x_evs0, x_onInt, x_onStr, x_onBool, x_onNat, x_onPtr, x_onSlice, x_onSlice0, x_onCells, x_onTup, x_onAgg, x_beq, initT0, initT1, iInt, iStr, iLenS, iLenL, iNot, iPick, iExt, Nat.zero_add, if_true, if_false, reduceIte, Nat.reduceEqDiff, Nat.reduceAdd, reduceCtorEq]⟩
theorem nms_loop {v0 v3 : V} {zs : List Nat} (hrow : Row st 16 v0 zs) (hz : ∀ z ∈ zs, z < 65536) : ∀ (f i fuel : Nat) (acc : List UInt8) (tm : Tr V), i + f = 14 → f < fuel → acc.length ≤ 4 * i → X.ev tm (.t (pa 0)) = v0 → X.ev tm (.t (pa 3)) = v3 → X.ev tm (.t (pa 4)) = .str acc → X.ev tm (.t (pa 5)) = .int 63 (Int.ofNat i) →
    ∃ tm', loopV fuel (b4_0 call n) tm st = some (.exit 0, tm', st) ∧ X.ev tm' (.t (pa 3)) = v3 ∧ X.ev tm' (.t (pa 4)) = .str (acc ++ flatR (((zs.drop i).take f).map runeN))
  | f, i, 0, acc, tm, _, hf, _, _, _, _, _ => by omega
  | 0, i, fuel + 1, acc, tm, hi, hf, _, h0, h3, h4, h5 => by
    obtain ⟨tm', e, e3, e4⟩ := nms_stop (call := call) (n := n) hrow (.inr (by omega)) h0 h5
    rw [x_loop1, e]
    exact ⟨tm', rfl, e3.trans h3, by rw [e4, h4, List.take_zero, List.map_nil, flatR_nil, List.append_nil]⟩
  | f + 1, i, fuel + 1, acc, tm, hi, hf, ha, h0, h3, h4, h5 => by
    by_cases hl : i < zs.length
    · obtain ⟨tm', e, e0, e3, e4, e5⟩ := nms_step (call := call) (n := n) hrow hz hl (by omega) (by omega) h0 h3 h4 h5
      rw [x_loop1, e]
      obtain ⟨E, hE⟩ : ∃ E, E = enc (runeN (zs[i]'hl)) := ⟨_, rfl⟩
      have hE4 : E.length ≤ 4 := hE ▸ enc_le (rune_ok (hz (zs[i]'hl) (List.getElem_mem hl))).1
      rw [← hE] at e4
      obtain ⟨tm2, k1, k3, k4⟩ := nms_loop hrow hz f (i + 1) fuel (acc ++ E) tm' (by omega) (by omega) (by rw [List.length_append]; omega) e0 e3 e4 e5
      refine ⟨tm2, k1, k3, ?_⟩
      rw [k4, List.drop_eq_getElem_cons hl, List.take_succ_cons, List.map_cons, flatR_cons, ← hE, List.append_assoc]
    · obtain ⟨tm', e, e3, e4⟩ := nms_stop (call := call) (n := n) hrow (.inl hl) h0 h5
      rw [x_loop1, e]
      exact ⟨tm', rfl, e3.trans h3, by rw [e4, h4, List.drop_eq_nil_of_le (by omega), List.take_nil, List.map_nil, flatR_nil, List.append_nil]⟩
end
end Go.Proofs.YtnjjkomopkgidaaDoor.Av
