/-
  words: IT ANSWERS SOME TEXT, not long, of every row of numbers.
-/
import Derived.Test.YtnjjkomopkgidaaDoorHelp
namespace Go.Proofs.YtnjjkomopkgidaaDoor.Av
set_option linter.unusedVariables false
set_option linter.unusedSimpArgs false
set_option maxRecDepth 1000000
open Go

theorem get_words : tableL.get 9 = some sh9 := by kernel_rfl
def parts : List (List UInt8) := [[65], [66], [97], [98], [120], [107], [59], [33], [124], [40], [41], [123], [125], [44], [91], [93], [46], [43], [45], [42], [47], [37], [60], [62], [61, 61], [33, 61], [60, 61], [62, 61], [38, 38], [124, 124], [48], [49], [50], [51], [52, 50], [87, 73, 84, 72, 73, 78], [66, 89], [57, 50, 50, 51, 51, 55, 50, 48, 51, 54, 56, 53, 52, 55, 55, 53, 56, 48, 55], [57, 50, 50, 51, 51, 55, 50, 48, 51, 54, 56, 53, 52, 55, 55, 53, 56, 48, 56], [48, 55], [195, 169], [240, 159, 152, 128], [239, 191, 189], [255], [64], [97, 98, 99, 100, 101, 102, 103, 104, 105, 106, 107, 108, 109, 110, 111, 112, 113, 114, 115, 116, 117, 118, 119, 120, 121], [61], [38], [87, 73, 84, 72, 73, 78, 120], [195]]
def seps : List (List UInt8) := [[32], [9], [10], [32, 13]]
theorem parts_len : ∀ k, (parts.getD k []).length ≤ 25 := by
  intro k
  by_cases h : k < 50
  · have key : ∀ p ∈ parts, p.length ≤ 25 := by decide
    rw [List.getD_eq_getElem?_getD, List.getElem?_eq_getElem (show k < parts.length from h)]
    exact key _ (List.getElem_mem _)
  · rw [List.getD_eq_getElem?_getD, List.getElem?_eq_none (by show 50 ≤ k; omega)]
    exact Nat.zero_le _
theorem seps_len : ∀ k, (seps.getD k []).length ≤ 2 := by
  intro k
  by_cases h : k < 4
  · have key : ∀ p ∈ seps, p.length ≤ 2 := by decide
    rw [List.getD_eq_getElem?_getD, List.getElem?_eq_getElem (show k < seps.length from h)]
    exact key _ (List.getElem_mem _)
  · rw [List.getD_eq_getElem?_getD, List.getElem?_eq_none (by show 4 ≤ k; omega)]
    exact Nat.zero_le _
theorem bsl_seps (st : St) (tm : Tr V) : iBsl 9 4 [.str [], .str [], .str [], .str []] [(0, (1, (.c (.str [32])))), (1, (1, (.c (.str [9])))), (2, (1, (.c (.str [10])))), (3, (1, (.c (.str [32, 13]))))] tm st = some (.ref 3 st.next 0 4 4 true, st.new (strO seps)) := Eq.trans (Eq.refl _) rfl
theorem bsl_parts (st : St) (tm : Tr V) : iBsl 9 50 [(.str []), (.str []), (.str []), (.str []), (.str []), (.str []), (.str []), (.str []), (.str []), (.str []), (.str []), (.str []), (.str []), (.str []), (.str []), (.str []), (.str []), (.str []), (.str []), (.str []), (.str []), (.str []), (.str []), (.str []), (.str []), (.str []), (.str []), (.str []), (.str []), (.str []), (.str []), (.str []), (.str []), (.str []), (.str []), (.str []), (.str []), (.str []), (.str []), (.str []), (.str []), (.str []), (.str []), (.str []), (.str []), (.str []), (.str []), (.str []), (.str []), (.str [])] [(0, (1, (.c (.str [65])))), (1, (1, (.c (.str [66])))), (2, (1, (.c (.str [97])))), (3, (1, (.c (.str [98])))), (4, (1, (.c (.str [120])))), (5, (1, (.c (.str [107])))), (6, (1, (.c (.str [59])))), (7, (1, (.c (.str [33])))), (8, (1, (.c (.str [124])))), (9, (1, (.c (.str [40])))), (10, (1, (.c (.str [41])))), (11, (1, (.c (.str [123])))), (12, (1, (.c (.str [125])))), (13, (1, (.c (.str [44])))), (14, (1, (.c (.str [91])))), (15, (1, (.c (.str [93])))), (16, (1, (.c (.str [46])))), (17, (1, (.c (.str [43])))), (18, (1, (.c (.str [45])))), (19, (1, (.c (.str [42])))), (20, (1, (.c (.str [47])))), (21, (1, (.c (.str [37])))), (22, (1, (.c (.str [60])))), (23, (1, (.c (.str [62])))), (24, (1, (.c (.str [61, 61])))), (25, (1, (.c (.str [33, 61])))), (26, (1, (.c (.str [60, 61])))), (27, (1, (.c (.str [62, 61])))), (28, (1, (.c (.str [38, 38])))), (29, (1, (.c (.str [124, 124])))), (30, (1, (.c (.str [48])))), (31, (1, (.c (.str [49])))), (32, (1, (.c (.str [50])))), (33, (1, (.c (.str [51])))), (34, (1, (.c (.str [52, 50])))), (35, (1, (.c (.str [87, 73, 84, 72, 73, 78])))), (36, (1, (.c (.str [66, 89])))), (37, (1, (.c (.str [57, 50, 50, 51, 51, 55, 50, 48, 51, 54, 56, 53, 52, 55, 55, 53, 56, 48, 55])))), (38, (1, (.c (.str [57, 50, 50, 51, 51, 55, 50, 48, 51, 54, 56, 53, 52, 55, 55, 53, 56, 48, 56])))), (39, (1, (.c (.str [48, 55])))), (40, (1, (.c (.str [195, 169])))), (41, (1, (.c (.str [240, 159, 152, 128])))), (42, (1, (.c (.str [239, 191, 189])))), (43, (1, (.c (.str [255])))), (44, (1, (.c (.str [64])))), (45, (1, (.c (.str [97, 98, 99, 100, 101, 102, 103, 104, 105, 106, 107, 108, 109, 110, 111, 112, 113, 114, 115, 116, 117, 118, 119, 120, 121])))), (46, (1, (.c (.str [61])))), (47, (1, (.c (.str [38])))), (48, (1, (.c (.str [87, 73, 84, 72, 73, 78, 120])))), (49, (1, (.c (.str [195]))))] tm st = some (.ref 3 st.next 0 50 50 true, st.new (strO parts)) := Eq.trans (Eq.refl _) rfl
theorem sAdd_mid {a b : List UInt8} (ha : a.length ≤ 100000) (hb : b.length ≤ 25) : sAdd a b = some (.str (a ++ b)) := by
  unfold sAdd
  rw [bleT (by rw [lenL_eq, lenL_eq]; show a.length + b.length ≤ _; omega), appL_eq]
section
variable {call : Callee} {n : Nat}
def partK (z : Nat) : Nat := (if z < 235 then z % 38 else z) % 50
set_option maxHeartbeats 8000000 in
theorem wd_step {st : St} {tm : Tr V} {v0 : V} {tight : Bool} {o5 : Nat} {zs : List Nat} {acc : List UInt8} {i : Nat} (hrow : Row st 8 v0 zs) (hz : ∀ z ∈ zs, z < 256) (hi : i < zs.length) (h30 : i < 30) (hacc : acc.length ≤ 10000)
    (ho5 : st.mem.get o5 = some (strO parts)) (ho5n : o5 < st.next)
    (h0 : X.ev tm (.t (pa 0)) = v0) (h1 : X.ev tm (.t (pa 1)) = .bool tight) (h5 : X.ev tm (.t (pa 5)) = .ref 3 o5 0 50 50 true) (h6 : X.ev tm (.t (pa 6)) = .str acc) (h7 : X.ev tm (.t (pa 7)) = .int 63 (Int.ofNat i)) :
    ∃ tm' st' acc', b9_0 call n tm st = some (.nrm, tm', st') ∧ Grew st st' ∧ acc'.length ≤ acc.length + 27 ∧ X.ev tm' (.t (pa 0)) = v0 ∧ X.ev tm' (.t (pa 1)) = .bool tight ∧ X.ev tm' (.t (pa 5)) = .ref 3 o5 0 50 50 true ∧ X.ev tm' (.t (pa 6)) = .str acc' ∧ X.ev tm' (.t (pa 7)) = .int 63 (Int.ofNat (i + 1)) := by
  have hg := Grew.new st (strO seps)
  have hb := bsl_seps st
  have hzi := hz (zs[i]'hi) (List.getElem_mem hi)
  obtain ⟨o, cap, rfl, hgo⟩ := hrow.at hi
  have hia : ∀ (tm : Tr V) (p q : Pa), X.ev tm (.t p) = .ref 3 o 0 zs.length cap true → X.ev tm (.t q) = .int 63 (Int.ofNat i) → iIad 1 (.t p) (.t q) tm st = some (.ref 1 o i 0 0 false) := fun tm p q h h' => row_iad h h' hi
  have hld : ∀ (tm : Tr V) (p : Pa), X.ev tm (.t p) = .ref 1 o i 0 0 false → iLoad false 1 (.t p) tm st = some (.int 8 (Int.ofNat (zs[i]'hi))) := fun tm p h => row_ld hgo hi h
  have hgo' : (st.new (strO seps)).mem.get o = some (.cells 0 (zs.map fun z => .int 8 (Int.ofNat z)) false) := by
    obtain ⟨o', cap', h, hgo'⟩ := (hrow.grew hg).at hi
    injection h with _ h _ _ _ _
    subst h
    exact hgo'
  have hiaN : ∀ (tm : Tr V) (p q : Pa), X.ev tm (.t p) = .ref 3 o 0 zs.length cap true → X.ev tm (.t q) = .int 63 (Int.ofNat i) → iIad 1 (.t p) (.t q) tm (st.new (strO seps)) = some (.ref 1 o i 0 0 false) := fun tm p q h h' => row_iad h h' hi
  have hldN : ∀ (tm : Tr V) (p : Pa), X.ev tm (.t p) = .ref 1 o i 0 0 false → iLoad false 1 (.t p) tm (st.new (strO seps)) = some (.int 8 (Int.ofNat (zs[i]'hi))) := fun tm p h => row_ld hgo' hi h
  generalize (zs[i]'hi) = z at *
  have hm : z % 4 < 4 := Nat.mod_lt _ (by decide)
  have hm2 : partK z < 50 := Nat.mod_lt _ (by decide)
  have hia2 : ∀ (tm : Tr V) (p q : Pa), X.ev tm (.t p) = .ref 3 st.next 0 4 4 true → X.ev tm (.t q) = .int 8 (Int.ofNat (z % 4)) → iIad 1 (.t p) (.t q) tm (st.new (strO seps)) = some (.ref 1 st.next (z % 4) 0 0 false) := fun tm p q h h' => str_iad h h' hm
  have hld2 : ∀ (tm : Tr V) (p : Pa), X.ev tm (.t p) = .ref 1 st.next (z % 4) 0 0 false → iLoad false 1 (.t p) tm (st.new (strO seps)) = some (.str (seps.getD (z % 4) [])) := fun tm p h => str_ld (l := seps) (new_get_self st (strO seps)) hm h
  have hia3 : ∀ (tm : Tr V) (p q : Pa), X.ev tm (.t p) = .ref 3 o5 0 50 50 true → X.ev tm (.t q) = .int 63 (Int.ofNat (partK z)) → iIad 1 (.t p) (.t q) tm st = some (.ref 1 o5 (partK z) 0 0 false) := fun tm p q h h' => str_iad h h' hm2
  have hld3 : ∀ (tm : Tr V) (p : Pa), X.ev tm (.t p) = .ref 1 o5 (partK z) 0 0 false → iLoad false 1 (.t p) tm st = some (.str (parts.getD (partK z) [])) := fun tm p h => str_ld (l := parts) ho5 hm2 h
  have l1 : fLss 63 (Int.ofNat i) (Int.ofNat zs.length) = some (.bool true) := by rw [lss_ofNat, decide_eq_true hi]
  have l2 : fLss 63 (Int.ofNat i) 30 = some (.bool true) := (lss_ofNat 63 i 30).trans (by rw [decide_eq_true h30])
  have l3 : fAdd 63 (Int.ofNat i) 1 = some (.int 63 (Int.ofNat (i + 1))) := by
    show some (V.int 63 (wrapC 63 (Int.ofNat (i + 1)))) = _
    rw [wrap63 (by omega)]
  have w1 : wrapC 63 (Int.ofNat z) = Int.ofNat z := wrap63 (by omega)
  have r2 : fRem 8 (Int.ofNat z) 4 = some (.int 8 (Int.ofNat (z % 4))) := rem_ofNat 8 z 4 rfl
  have n1 := parts_len (partK z)
  have n2 := seps_len (z % 4)
  have hadd := sAdd_mid (a := acc) (Nat.le_trans hacc (by decide)) n1
  have hadd2 := sAdd_mid (a := acc ++ parts.getD (partK z) []) (b := seps.getD (z % 4) []) (by rw [List.length_append]; omega) (Nat.le_trans n2 (by decide))
  have hlen1 : (acc ++ parts.getD (partK z) []).length ≤ acc.length + 27 := by rw [List.length_append]; omega
  have hlen2 : (acc ++ parts.getD (partK z) [] ++ seps.getD (z % 4) []).length ≤ acc.length + 27 := by rw [List.length_append, List.length_append]; omega
  generalize parts.getD (partK z) [] = P at *
  generalize seps.getD (z % 4) [] = S at *
  by_cases h235 : z < 235
  · have r1 : fLss 63 (Int.ofNat z) 235 = some (.bool true) := (lss_ofNat 63 z 235).trans (by rw [decide_eq_true h235])
    have hP : partK z = z % 38 % 50 := by unfold partK; rw [if_pos h235]
    rw [hP] at hia3 hld3
    have r3 : fRem 63 (Int.ofNat z) 38 = some (.int 63 (Int.ofNat (z % 38))) := rem_ofNat 63 z 38 rfl
    have r4 : fRem 63 (Int.ofNat (z % 38)) 50 = some (.int 63 (Int.ofNat (z % 38 % 50))) := rem_ofNat 63 (z % 38) 50 rfl
    cases tight with
    | true =>
      simp only [b9_0, x_seq, x_reg, x_skip, x_ret, x_exit, x_cond, x_condT, x_condF, x_block, x_loop, x_nrm, x_then_ret, x_then_exit, x_out_nrm, x_out_ret, x_out_exit, x_endG, x_step0, x_stepGT, x_stepGF, x_stepGU, x_isBT, x_isBF, Bool.not_true, Bool.not_false, x_recT, x_recF, x_mov, x_gP', x_gE', x_call, x_dyn, x_dynV, x_goR, x_put, x_put0, x_evc, x_evt, x_ats, x_evs, x_evs0, x_onInt, x_onStr, x_onBool, x_onNat, x_onPtr, x_onSlice, x_onSlice0, x_onCells, x_onTup, x_onAgg, x_beq, initT0, initT1, iInt, iStr, iLenS, iLenL, iNot, iPick, iExt, Nat.zero_add, if_true, if_false, reduceIte, Nat.reduceEqDiff, Nat.reduceAdd, reduceCtorEq, q0, q1, q2, q3, q4, q5, q6, q7, q8, q9, q10, q11, q12, q13, q14, q15, q16, q17, q18, q19, q20, q21, q22, q23, q24, q25, q26, q27, q28, q29, q30, q31, q32, q33, q34, q35, q36, q37, q38, q39, q40, q41, q42, q43, q44, q45, q46, q47, q48, q49, q50, h0, h1, h5, h6, h7, hia, hld, hia3, hld3, l1, l2, l3, iCvi, w1, r1, r3, r4, hadd]
      exact ⟨_, _, _, rfl, Grew.refl st, hlen1, by simp only [x_ats, x_evt, if_true, if_false, reduceIte, Nat.reduceEqDiff, reduceCtorEq, h0], by simp only [x_ats, x_evt, if_true, if_false, reduceIte, Nat.reduceEqDiff, reduceCtorEq, h1], by simp only [x_ats, x_evt, if_true, if_false, reduceIte, Nat.reduceEqDiff, reduceCtorEq, h5], by simp only [x_ats, x_evt, if_true, if_false, reduceIte, Nat.reduceEqDiff, reduceCtorEq], by simp only [x_ats, x_evt, if_true, if_false, reduceIte, Nat.reduceEqDiff, reduceCtorEq]⟩
    | false =>
      simp only [b9_0, x_seq, x_reg, x_skip, x_ret, x_exit, x_cond, x_condT, x_condF, x_block, x_loop, x_nrm, x_then_ret, x_then_exit, x_out_nrm, x_out_ret, x_out_exit, x_endG, x_step0, x_stepGT, x_stepGF, x_stepGU, x_isBT, x_isBF, Bool.not_true, Bool.not_false, x_recT, x_recF, x_mov, x_gP', x_gE', x_call, x_dyn, x_dynV, x_goR, x_put, x_put0, x_evc, x_evt, x_ats, x_evs, x_evs0, x_onInt, x_onStr, x_onBool, x_onNat, x_onPtr, x_onSlice, x_onSlice0, x_onCells, x_onTup, x_onAgg, x_beq, initT0, initT1, iInt, iStr, iLenS, iLenL, iNot, iPick, iExt, Nat.zero_add, if_true, if_false, reduceIte, Nat.reduceEqDiff, Nat.reduceAdd, reduceCtorEq, q0, q1, q2, q3, q4, q5, q6, q7, q8, q9, q10, q11, q12, q13, q14, q15, q16, q17, q18, q19, q20, q21, q22, q23, q24, q25, q26, q27, q28, q29, q30, q31, q32, q33, q34, q35, q36, q37, q38, q39, q40, q41, q42, q43, q44, q45, q46, q47, q48, q49, q50, h0, h1, h5, h6, h7, hb, hia, hld, hiaN, hldN, hia2, hld2, hia3, hld3, l1, l2, l3, iCvi, w1, r1, r2, r3, r4, hadd, hadd2]
      exact ⟨_, _, _, rfl, hg, hlen2, by simp only [x_ats, x_evt, if_true, if_false, reduceIte, Nat.reduceEqDiff, reduceCtorEq, h0], by simp only [x_ats, x_evt, if_true, if_false, reduceIte, Nat.reduceEqDiff, reduceCtorEq, h1], by simp only [x_ats, x_evt, if_true, if_false, reduceIte, Nat.reduceEqDiff, reduceCtorEq, h5], by simp only [x_ats, x_evt, if_true, if_false, reduceIte, Nat.reduceEqDiff, reduceCtorEq], by simp only [x_ats, x_evt, if_true, if_false, reduceIte, Nat.reduceEqDiff, reduceCtorEq]⟩
  · have r1 : fLss 63 (Int.ofNat z) 235 = some (.bool false) := (lss_ofNat 63 z 235).trans (by rw [decide_eq_false h235])
    have hP : partK z = z % 50 := by unfold partK; rw [if_neg h235]
    rw [hP] at hia3 hld3
    have r4 : fRem 63 (Int.ofNat z) 50 = some (.int 63 (Int.ofNat (z % 50))) := rem_ofNat 63 z 50 rfl
    cases tight with
    | true =>
      simp only [b9_0, x_seq, x_reg, x_skip, x_ret, x_exit, x_cond, x_condT, x_condF, x_block, x_loop, x_nrm, x_then_ret, x_then_exit, x_out_nrm, x_out_ret, x_out_exit, x_endG, x_step0, x_stepGT, x_stepGF, x_stepGU, x_isBT, x_isBF, Bool.not_true, Bool.not_false, x_recT, x_recF, x_mov, x_gP', x_gE', x_call, x_dyn, x_dynV, x_goR, x_put, x_put0, x_evc, x_evt, x_ats, x_evs, x_evs0, x_onInt, x_onStr, x_onBool, x_onNat, x_onPtr, x_onSlice, x_onSlice0, x_onCells, x_onTup, x_onAgg, x_beq, initT0, initT1, iInt, iStr, iLenS, iLenL, iNot, iPick, iExt, Nat.zero_add, if_true, if_false, reduceIte, Nat.reduceEqDiff, Nat.reduceAdd, reduceCtorEq, q0, q1, q2, q3, q4, q5, q6, q7, q8, q9, q10, q11, q12, q13, q14, q15, q16, q17, q18, q19, q20, q21, q22, q23, q24, q25, q26, q27, q28, q29, q30, q31, q32, q33, q34, q35, q36, q37, q38, q39, q40, q41, q42, q43, q44, q45, q46, q47, q48, q49, q50, h0, h1, h5, h6, h7, hia, hld, hia3, hld3, l1, l2, l3, iCvi, w1, r1, r4, hadd]
      exact ⟨_, _, _, rfl, Grew.refl st, hlen1, by simp only [x_ats, x_evt, if_true, if_false, reduceIte, Nat.reduceEqDiff, reduceCtorEq, h0], by simp only [x_ats, x_evt, if_true, if_false, reduceIte, Nat.reduceEqDiff, reduceCtorEq, h1], by simp only [x_ats, x_evt, if_true, if_false, reduceIte, Nat.reduceEqDiff, reduceCtorEq, h5], by simp only [x_ats, x_evt, if_true, if_false, reduceIte, Nat.reduceEqDiff, reduceCtorEq], by simp only [x_ats, x_evt, if_true, if_false, reduceIte, Nat.reduceEqDiff, reduceCtorEq]⟩
    | false =>
      simp only [b9_0, x_seq, x_reg, x_skip, x_ret, x_exit, x_cond, x_condT, x_condF, x_block, x_loop, x_nrm, x_then_ret, x_then_exit, x_out_nrm, x_out_ret, x_out_exit, x_endG, x_step0, x_stepGT, x_stepGF, x_stepGU, x_isBT, x_isBF, Bool.not_true, Bool.not_false, x_recT, x_recF, x_mov, x_gP', x_gE', x_call, x_dyn, x_dynV, x_goR, x_put, x_put0, x_evc, x_evt, x_ats, x_evs, x_evs0, x_onInt, x_onStr, x_onBool, x_onNat, x_onPtr, x_onSlice, x_onSlice0, x_onCells, x_onTup, x_onAgg, x_beq, initT0, initT1, iInt, iStr, iLenS, iLenL, iNot, iPick, iExt, Nat.zero_add, if_true, if_false, reduceIte, Nat.reduceEqDiff, Nat.reduceAdd, reduceCtorEq, q0, q1, q2, q3, q4, q5, q6, q7, q8, q9, q10, q11, q12, q13, q14, q15, q16, q17, q18, q19, q20, q21, q22, q23, q24, q25, q26, q27, q28, q29, q30, q31, q32, q33, q34, q35, q36, q37, q38, q39, q40, q41, q42, q43, q44, q45, q46, q47, q48, q49, q50, h0, h1, h5, h6, h7, hb, hia, hld, hiaN, hldN, hia2, hld2, hia3, hld3, l1, l2, l3, iCvi, w1, r1, r2, r4, hadd, hadd2]
      exact ⟨_, _, _, rfl, hg, hlen2, by simp only [x_ats, x_evt, if_true, if_false, reduceIte, Nat.reduceEqDiff, reduceCtorEq, h0], by simp only [x_ats, x_evt, if_true, if_false, reduceIte, Nat.reduceEqDiff, reduceCtorEq, h1], by simp only [x_ats, x_evt, if_true, if_false, reduceIte, Nat.reduceEqDiff, reduceCtorEq, h5], by simp only [x_ats, x_evt, if_true, if_false, reduceIte, Nat.reduceEqDiff, reduceCtorEq], by simp only [x_ats, x_evt, if_true, if_false, reduceIte, Nat.reduceEqDiff, reduceCtorEq]⟩
theorem wd_stop {st : St} {tm : Tr V} {v0 : V} {zs : List Nat} {i : Nat} (hrow : Row st 8 v0 zs) (hi : ¬ i < zs.length ∨ ¬ i < 30)
    (h0 : X.ev tm (.t (pa 0)) = v0) (h7 : X.ev tm (.t (pa 7)) = .int 63 (Int.ofNat i)) :
    ∃ tm', b9_0 call n tm st = some (.exit 0, tm', st) ∧ X.ev tm' (.t (pa 6)) = X.ev tm (.t (pa 6)) := by
  have hll := hrow.len
  by_cases hi' : i < zs.length
  · have l1 : fLss 63 (Int.ofNat i) (Int.ofNat zs.length) = some (.bool true) := by rw [lss_ofNat, decide_eq_true hi']
    have l2 : fLss 63 (Int.ofNat i) 30 = some (.bool false) := (lss_ofNat 63 i 30).trans (by rw [decide_eq_false (by omega)])
    simp only [b9_0, x_seq, x_reg, x_skip, x_ret, x_exit, x_cond, x_condT, x_condF, x_block, x_loop, x_nrm, x_then_ret, x_then_exit, x_out_nrm, x_out_ret, x_out_exit, x_endG, x_step0, x_stepGT, x_stepGF, x_stepGU, x_isBT, x_isBF, Bool.not_true, Bool.not_false, x_recT, x_recF, x_mov, x_gP', x_gE', x_call, x_dyn, x_dynV, x_goR, x_put, x_put0, x_evc, x_evt, x_ats, x_evs, x_evs0, x_onInt, x_onStr, x_onBool, x_onNat, x_onPtr, x_onSlice, x_onSlice0, x_onCells, x_onTup, x_onAgg, x_beq, initT0, initT1, iInt, iStr, iLenS, iLenL, iNot, iPick, iExt, Nat.zero_add, if_true, if_false, reduceIte, Nat.reduceEqDiff, Nat.reduceAdd, reduceCtorEq, q0, q1, q2, q3, q4, q5, q6, q7, q8, q9, q10, q11, q12, q13, q14, q15, q16, q17, q18, q19, q20, q21, q22, q23, q24, q25, q26, q27, q28, q29, q30, q31, q32, q33, q34, q35, q36, q37, q38, q39, q40, q41, q42, q43, q44, q45, q46, q47, q48, q49, q50, h0, h7, hll, l1, l2]
    exact ⟨_, rfl, by simp only [x_ats, x_evt, if_true, if_false, reduceIte, Nat.reduceEqDiff, reduceCtorEq]⟩
  · have l1 : fLss 63 (Int.ofNat i) (Int.ofNat zs.length) = some (.bool false) := by rw [lss_ofNat, decide_eq_false hi']
    simp only [b9_0, x_seq, x_reg, x_skip, x_ret, x_exit, x_cond, x_condT, x_condF, x_block, x_loop, x_nrm, x_then_ret, x_then_exit, x_out_nrm, x_out_ret, x_out_exit, x_endG, x_step0, x_stepGT, x_stepGF, x_stepGU, x_isBT, x_isBF, Bool.not_true, Bool.not_false, x_recT, x_recF, x_mov, x_gP', x_gE', x_call, x_dyn, x_dynV, x_goR, x_put, x_put0, x_evc, x_evt, x_ats, x_evs, x_evs0, x_onInt, x_onStr, x_onBool, x_onNat, x_onPtr, x_onSlice, x_onSlice0, x_onCells, x_onTup, x_onAgg, x_beq, initT0, initT1, iInt, iStr, iLenS, iLenL, iNot, iPick, iExt, Nat.zero_add, if_true, if_false, reduceIte, Nat.reduceEqDiff, Nat.reduceAdd, reduceCtorEq, q0, q1, q2, q3, q4, q5, q6, q7, q8, q9, q10, q11, q12, q13, q14, q15, q16, q17, q18, q19, q20, q21, q22, q23, q24, q25, q26, q27, q28, q29, q30, q31, q32, q33, q34, q35, q36, q37, q38, q39, q40, q41, q42, q43, q44, q45, q46, q47, q48, q49, q50, h0, h7, hll, l1]
    exact ⟨_, rfl, by simp only [x_ats, x_evt, if_true, if_false, reduceIte, Nat.reduceEqDiff, reduceCtorEq]⟩
theorem wd_loop {v0 : V} {tight : Bool} {o5 : Nat} {zs : List Nat} (hz : ∀ z ∈ zs, z < 256) : ∀ (f i fuel : Nat) (acc : List UInt8) (tm : Tr V) (st : St), Row st 8 v0 zs → i + f = 30 → f < fuel → acc.length ≤ 27 * i → st.mem.get o5 = some (strO parts) → o5 < st.next → X.ev tm (.t (pa 0)) = v0 → X.ev tm (.t (pa 1)) = .bool tight → X.ev tm (.t (pa 5)) = .ref 3 o5 0 50 50 true → X.ev tm (.t (pa 6)) = .str acc → X.ev tm (.t (pa 7)) = .int 63 (Int.ofNat i) →
    ∃ tm' st' s, loopV fuel (b9_0 call n) tm st = some (.exit 0, tm', st') ∧ Grew st st' ∧ X.ev tm' (.t (pa 6)) = .str s ∧ s.length ≤ 810
  | f, i, 0, acc, tm, st, _, _, hf, _, _, _, _, _, _, _, _ => by omega
  | 0, i, fuel + 1, acc, tm, st, hrow, hi, hf, ha, _, _, h0, h1, h5, h6, h7 => by
    obtain ⟨tm', e, e6⟩ := wd_stop (call := call) (n := n) hrow (.inr (by omega)) h0 h7
    rw [x_loop1, e]
    exact ⟨tm', st, acc, rfl, Grew.refl _, e6.trans h6, by omega⟩
  | f + 1, i, fuel + 1, acc, tm, st, hrow, hi, hf, ha, ho, hon, h0, h1, h5, h6, h7 => by
    by_cases hl : i < zs.length
    · obtain ⟨tm', st', acc', e, g, ha', e0, e1, e5, e6, e7⟩ := wd_step (call := call) (n := n) hrow hz hl (by omega) (by omega) ho hon h0 h1 h5 h6 h7
      rw [x_loop1, e]
      obtain ⟨tm2, st2, s, k1, k2, k3, k4⟩ := wd_loop hz f (i + 1) fuel acc' tm' st' (hrow.grew g) (by omega) (by omega) (by omega) ((g.mem o5 hon).trans ho) (Nat.lt_of_lt_of_le hon g.next) e0 e1 e5 e6 e7
      exact ⟨tm2, st2, s, k1, g.trans k2, k3, k4⟩
    · obtain ⟨tm', e, e6⟩ := wd_stop (call := call) (n := n) hrow (.inl hl) h0 h7
      rw [x_loop1, e]
      exact ⟨tm', st, acc, rfl, Grew.refl _, e6.trans h6, by omega⟩
end
theorem words_ev (n : Nat) {st : St} {v0 : V} {zs : List Nat} (tight : Bool) (hrow : Row st 8 v0 zs) (hz : ∀ z ∈ zs, z < 256) (hn : 31 ≤ n) : ∃ s, s.length ≤ 810 ∧ evF tableL (n + 1) 9 [v0, .bool tight] st = some (.ret (.str s), st) := by
  rw [ev_mk get_words]
  have hrow0 : Row { next := st.next, low := st.next, mem := st.mem } 8 v0 zs := hrow
  have hlow0 : ({ next := st.next, low := st.next, mem := st.mem } : St).low = st.next := rfl
  have hnext0 : ({ next := st.next, low := st.next, mem := st.mem } : St).next = st.next := rfl
  generalize ({ next := st.next, low := st.next, mem := st.mem } : St) = S0 at *
  have g0 := Grew.new S0 (strO parts)
  have hpB := bsl_parts S0
  simp only [c9_0, c9_1, c9_2, c9_3, c9_4, x_seq, x_reg, x_skip, x_ret, x_exit, x_cond, x_condT, x_condF, x_block, x_loop, x_nrm, x_then_ret, x_then_exit, x_out_nrm, x_out_ret, x_out_exit, x_endG, x_step0, x_stepG, x_isBT, x_isBF, Bool.not_true, Bool.not_false, x_recT, x_recF, x_mov, x_gP', x_gE', x_call, x_dyn, x_dynV, x_goR, x_put, x_put0, x_evc, x_evt, x_ats, x_evs, x_evs0, x_onInt, x_onStr, x_onBool, x_onNat, x_onPtr, x_onSlice, x_onSlice0, x_onCells, x_onTup, x_onAgg, x_beq, initT0, initT1, iInt, iStr, iLenS, iLenL, iNot, iPick, iExt, Nat.zero_add, if_true, if_false, reduceIte, Nat.reduceEqDiff, Nat.reduceAdd, reduceCtorEq, q0, q1, q2, q3, q4, q5, q6, q7, q8, q9, q10, q11, q12, q13, q14, q15, q16, q17, q18, q19, q20, q21, q22, q23, q24, q25, q26, q27, q28, q29, q30, q31, q32, q33, q34, q35, q36, q37, q38, q39, q40, q41, q42, q43, q44, q45, q46, q47, q48, q49, q50, hpB]
  generalize hT : Tr.to (α := V) _ _ _ = TM
  obtain ⟨tm1, st1, s, e1, g1, k6, ks⟩ := wd_loop (call := evF tableL n) (n := n) (tight := tight) (o5 := S0.next) hz 30 0 n [] TM (S0.new (strO parts)) (hrow0.grew g0) rfl (by omega) (Nat.zero_le _) (new_get_self S0 _) (Nat.lt_succ_self _) (by rw [← hT]; simp only [x_ats, x_evt, if_true, if_false, reduceIte, Nat.reduceEqDiff, reduceCtorEq]) (by rw [← hT]; simp only [x_ats, x_evt, if_true, if_false, reduceIte, Nat.reduceEqDiff, reduceCtorEq]) (by rw [← hT]; simp only [x_ats, x_evt, if_true, if_false, reduceIte, Nat.reduceEqDiff, reduceCtorEq]) (by rw [← hT]; simp only [x_ats, x_evt, if_true, if_false, reduceIte, Nat.reduceEqDiff, reduceCtorEq]) (by rw [← hT]; simp only [x_ats, x_evt, if_true, if_false, reduceIte, Nat.reduceEqDiff, reduceCtorEq]; rfl)
  rw [e1]
  simp only [c9_5, x_seq, x_reg, x_skip, x_ret, x_exit, x_cond, x_condT, x_condF, x_block, x_loop, x_nrm, x_then_ret, x_then_exit, x_out_nrm, x_out_ret, x_out_exit, x_endG, x_step0, x_stepG, x_isBT, x_isBF, Bool.not_true, Bool.not_false, x_recT, x_recF, x_mov, x_gP', x_gE', x_call, x_dyn, x_dynV, x_goR, x_put, x_put0, x_evc, x_evt, x_ats, x_evs, x_evs0, x_onInt, x_onStr, x_onBool, x_onNat, x_onPtr, x_onSlice, x_onSlice0, x_onCells, x_onTup, x_onAgg, x_beq, initT0, initT1, iInt, iStr, iLenS, iLenL, iNot, iPick, iExt, Nat.zero_add, if_true, if_false, reduceIte, Nat.reduceEqDiff, Nat.reduceAdd, reduceCtorEq, q0, q1, q2, q3, q4, q5, q6, q7, q8, q9, q10, q11, q12, q13, q14, q15, q16, q17, q18, q19, q20, q21, q22, q23, q24, q25, q26, q27, q28, q29, q30, q31, q32, q33, q34, q35, q36, q37, q38, q39, q40, q41, q42, q43, q44, q45, q46, q47, q48, q49, q50, k6]
  exact ⟨s, ks, leave_ret (by simp only [x_ats, x_evt, if_true, if_false, reduceIte, Nat.reduceEqDiff, reduceCtorEq]) ((g0.trans g1).low st.next (by rw [hlow0]; exact Nat.le_refl _) (by rw [hnext0]; exact Nat.le_refl _)) rfl⟩
end Go.Proofs.YtnjjkomopkgidaaDoor.Av
