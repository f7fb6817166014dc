/-
  ITEMS, by the feed: the whole function; items as entries of a table.
-/
import Derived.Test.YtnccejmggcjaoaaGreatDoorIts
namespace Go.Proofs.YtnccejmggcjaoaaGreatDoor.Av
set_option linter.unusedVariables false
set_option linter.unusedSimpArgs false
set_option maxRecDepth 1000000
open Go
theorem Went.out {st S0 T : St} {o : Nat} {f f' : Fd} {v w : V} (hS0 : S0 = { next := st.next, low := st.next, mem := st.mem }) (hlt : o < st.next) (r : CR) (hw : Went o f f' v w S0 T) (hlo : T.low ≤ o) : Went o f f' v w st (Av.back st r T) ∧ (Av.back st r T).low ≤ o := by
  rw [hS0] at hw
  refine ⟨hw.back r hlo, ?_⟩
  unfold Av.back
  rw [bleF (by omega), Bool.false_and]
  show (bif Nat.ble st.low _ then st.low else _) ≤ o
  by_cases hb : st.low ≤ T.low
  · rw [bleT hb, cond_true]; omega
  · rw [bleF hb, cond_false]; exact hlo
theorem nadd0 (n : Nat) : Nat.add n 0 = n := rfl
theorem eqI_two (k : Int) : eqI k 2 = decide (k = 2) := by rw [eqI_dec]
section
variable {fns : Tr Fs} (htab : TableOk Tryz.prog fns)
include htab
set_option maxHeartbeats 8000000 in
theorem items_at (n : Nat) {st : St} {o : Nat} {f : Fd} {vv vo : V} (h : FeedAt st o f vv vo) (hs : Sep o vv vo) (d most : Nat) (hmost : most = 2 ∨ most = 3) (hm : f.many ≤ 6) (ki : KnownI d fns) (k0 : KnownI 0 fns) :
    ∃ l f' vv' vo' st', CallAt Tryz.prog 140 (itsArgs o d most) st (.ret (slT 4 l.length (cIs l))) st' ∧ ItsPost d most f f' l ∧ Went o f f' vv' vo' st st' ∧ st'.low ≤ o := by
  have call : ∀ {r : CR} {T : St}, enterF (evF fns (n + 3 + 1)) (n + 3 + 1) _ _ (itsArgs o d most) st = some (r, T) → CallAt Tryz.prog 140 (itsArgs o d most) st r T := fun h => callAt_in mixedZ htab ok140 h
  unfold enterF at call
  obtain ⟨S0, hS0⟩ : ∃ S0 : St, S0 = { next := st.next, low := st.next, mem := st.mem } := ⟨_, rfl⟩
  have hn0 : S0.next = st.next := by rw [hS0]
  have h0 : FeedAt S0 o f vv vo := by rw [hS0]; exact h.low _
  rw [← hS0] at call
  have hlt := h.lt
  obtain ⟨y, f1, v1, w1, S1, t1, t2, t3, t4⟩ := ki (n + 3) h0 hs (by omega) false
  obtain ⟨S2, hS2⟩ : ∃ S, S = S1.new (.cells 34 (cI y) true) := ⟨_, rfl⟩
  have n1 := t3.next
  have n2 : S2.next = S1.next + 1 := by rw [hS2]; rfl
  have hcI : cIs [y] = cI y := by simp only [cIs, List.append_nil]
  have bs : ∀ (tm : Tr V), X.ev tm (.t (pa 11)) = .cmp 2 0 (cI y) → iBsl 34 1 zI [(0, 7, .t (pa 11))] tm S1 = some (.ref 3 S1.next 0 1 1 true, S2) := fun tm ha => by rw [m_bsl, fillV_c, ha, cells_agg2, fillS_w (cI_len _) rfl, fillV_0, hS2]
  have wy : wI y = 1 ∨ f1.many ≤ 8 := by
    rcases t2.2.1 with h | ⟨_, _, h⟩
    · left
      obtain ⟨k, n, v, p, lo, hi, ks⟩ := y
      have e : ks = [] := h.2.1
      rw [e]; rfl
    · exact .inr h
  have inv0 : ItsInv o d most f S0 S2 f1 v1 w1 [y] S1.next true 1 := by
    obtain ⟨w1, w2, w3⟩ := t2
    refine ⟨by rw [hS2]; exact t3.new _, by rw [hS2]; exact t4, by rw [hS2, new_get_self', hcI], ⟨n1, by omega⟩, fun x hx => ?_, rfl, ⟨by show _ = _ + (wI y + 0); omega, by omega⟩⟩
    obtain rfl := List.mem_singleton.1 hx
    exact ⟨w2.imp id fun h => ⟨h.1, h.2.1⟩, fun _ => w3 rfl⟩
  have e0 : ∃ tm, c140_0 (evF fns (n + 3 + 1)) (n + 3 + 1) (initT (itsArgs o d most) 0 .leaf) S0 = some (.nrm, tm, S0) ∧ X.ev tm (.t (pa 0)) = .ref 1 o 0 0 0 false ∧ X.ev tm (.t (pa 1)) = .int 63 (Int.ofNat d) ∧ X.ev tm (.t (pa 2)) = .int 63 (Int.ofNat most) := by
    refine ⟨?_, ?_, ?_, ?_, ?_⟩
    rotate_left 1
    · simp only [c140_0, yY, iInt, iStr, iLenS, iLenL, iNot, iPick, iExt, if_true, if_false, reduceIte, Nat.reduceEqDiff, Nat.reduceAdd, reduceCtorEq, yQ]; exact rfl
    · simp only [yL, if_true, if_false, reduceIte, Nat.reduceEqDiff, reduceCtorEq]
    · simp only [yL, if_true, if_false, reduceIte, Nat.reduceEqDiff, reduceCtorEq]
    · simp only [yL, if_true, if_false, reduceIte, Nat.reduceEqDiff, reduceCtorEq]
  obtain ⟨tm0, e0, a0, a1, a2⟩ := e0
  have e1 : ∃ tm, c140_1 (evF fns (n + 3 + 1)) (n + 3 + 1) tm0 S0 = some (.nrm, tm, S2) ∧ X.ev tm (.t (pa 0)) = .ref 1 o 0 0 0 false ∧ X.ev tm (.t (pa 1)) = .int 63 (Int.ofNat d) ∧ X.ev tm (.t (pa 2)) = .int 63 (Int.ofNat most) ∧ X.ev tm (.t (pa 7)) = .ref 3 S1.next 0 1 1 true := by
    refine ⟨?_, ?_, ?_, ?_, ?_, ?_⟩
    rotate_left 1
    · simp only [c140_1, yY, iInt, iStr, iLenS, iLenL, iNot, iPick, iExt, if_true, if_false, reduceIte, Nat.reduceEqDiff, Nat.reduceAdd, reduceCtorEq, yQ, a0, a1, a2, t1, bs]; exact rfl
    · simp only [yL, if_true, if_false, reduceIte, Nat.reduceEqDiff, reduceCtorEq, a0]
    · simp only [yL, if_true, if_false, reduceIte, Nat.reduceEqDiff, reduceCtorEq, a1]
    · simp only [yL, if_true, if_false, reduceIte, Nat.reduceEqDiff, reduceCtorEq, a2]
    · simp only [yL, if_true, if_false, reduceIte, Nat.reduceEqDiff, reduceCtorEq]
  obtain ⟨tm1, e1, b0, b1, b2, b7⟩ := e1
  have e2 : ∃ tm, c140_2 (evF fns (n + 3 + 1)) (n + 3 + 1) tm1 S2 = some (.nrm, tm, S2) ∧ X.ev tm (.t (pa 0)) = .ref 1 o 0 0 0 false ∧ X.ev tm (.t (pa 1)) = .int 63 (Int.ofNat d) ∧ X.ev tm (.t (pa 2)) = .int 63 (Int.ofNat most) ∧ X.ev tm (.t (pa 7)) = .ref 3 S1.next 0 1 1 true ∧ X.ev tm (.t (pa 8)) = .int 63 (Int.ofNat 1) := by
    refine ⟨?_, ?_, ?_, ?_, ?_, ?_, ?_⟩
    rotate_left 1
    · simp only [c140_2, yY, iInt, iStr, iLenS, iLenL, iNot, iPick, iExt, if_true, if_false, reduceIte, Nat.reduceEqDiff, Nat.reduceAdd, reduceCtorEq, q8]; exact rfl
    · simp only [yL, if_true, if_false, reduceIte, Nat.reduceEqDiff, reduceCtorEq, b0]
    · simp only [yL, if_true, if_false, reduceIte, Nat.reduceEqDiff, reduceCtorEq, b1]
    · simp only [yL, if_true, if_false, reduceIte, Nat.reduceEqDiff, reduceCtorEq, b2]
    · simp only [yL, if_true, if_false, reduceIte, Nat.reduceEqDiff, reduceCtorEq, b7]
    · simp only [yL, if_true, if_false, reduceIte, Nat.reduceEqDiff, reduceCtorEq]; rfl
  obtain ⟨tm2, e2, b0, b1, b2, b7, b8⟩ := e2
  obtain ⟨tm3, T, f2, v2, w2, l, k, x, i, e3, kp3, inv, r7, hi1, hi2⟩ := its_loop (n + 3) o d most ki (by omega) (f0 := f) (S0 := S0) (most - 1) (n + 3 + 1) 1 tm2 S2 f1 v1 w1 [y] S1.next true (by omega) (by omega) (Nat.le_refl _) (by omega) inv0 ⟨b0, b1, b2⟩ b7 b8
  have e3' : c140_3 (evF fns (n + 3 + 1)) (n + 3 + 1) tm2 S2 = some (.nrm, tm3, T) := by
    simp only [c140_3, x_block, x_loop]; exact e3
  have c0 : X.ev tm3 (.t (pa 0)) = .ref 1 o 0 0 0 false := (kp3 0 (by decide)).trans b0
  have hl := inv.len
  have hne : l ≠ [] := fun e => by rw [e] at hl; simp at hl; omega
  obtain ⟨ls, z, rfl⟩ : ∃ ls z, l = ls ++ [z] := ⟨l.dropLast, l.getLast hne, (List.dropLast_concat_getLast hne).symm⟩
  have hls : ls.length = i - 1 := by rw [List.length_append] at hl; simp at hl; omega
  have hz : (cIs (ls ++ [z]))[(i - 1) * 7]? = some (.int 63 z.k) := by
    rw [cIs_app, List.getElem?_append_right (by rw [cIs_len, hls]; exact Nat.le_refl _), cIs_len, hls, Nat.sub_self]
    obtain ⟨k, n, v, p, lo, hi, ks⟩ := z
    rfl
  have hld : ldW false 1 (.ref 1 k ((i - 1) * 7) 0 0 false) T = some (.int 63 z.k) := by rw [ldW_get inv.get]; exact part_nth hz
  have hsub : fSub 63 (Int.ofNat i) 1 = some (.int 63 (Int.ofNat (i - 1))) := f_sub 63 i 1 (by omega) (by omega)
  have hia : ∀ (tm : Tr V), X.ev tm (.t (pa 47)) = .ref 3 k 0 i i x → X.ev tm (.t (pa 50)) = .int 63 (Int.ofNat (i - 1)) → iIad 7 (.t (pa 47)) (.t (pa 50)) tm T = some (.ref 1 k ((i - 1) * 7) 0 0 false) := fun tm h1 h2 => iad_own h1 h2 (by omega)
  have lenL : ∀ (tm : Tr V), X.ev tm (.t (pa 48)) = .ref 3 k 0 i i x → iLenL (.t (pa 48)) tm T = some (.int 63 (Int.ofNat i)) := fun tm h => by unfold iLenL; rw [h]; rfl
  have e4 : ∃ tm, c140_4 (evF fns (n + 3 + 1)) (n + 3 + 1) tm3 T = some (.nrm, tm, T) ∧ X.ev tm (.t (pa 0)) = .ref 1 o 0 0 0 false ∧ X.ev tm (.t (pa 7)) = .ref 3 k 0 i i x ∧ X.ev tm (.t (pa 54)) = .bool (decide (z.k = 2)) := by
    refine ⟨?_, ?_, ?_, ?_, ?_⟩
    rotate_left 1
    · simp only [c140_4, yY, iInt, iStr, iLenS, iLenL, iNot, iPick, iExt, if_true, if_false, reduceIte, Nat.reduceEqDiff, Nat.reduceAdd, reduceCtorEq, yQ, r7, lenL, hsub, hia, m_fad, nadd0, m_load, hld, f_eql, eqI_two]; exact rfl
    · simp only [yL, if_true, if_false, reduceIte, Nat.reduceEqDiff, reduceCtorEq, c0]
    · simp only [yL, if_true, if_false, reduceIte, Nat.reduceEqDiff, reduceCtorEq, r7]
    · simp only [yL, if_true, if_false, reduceIte, Nat.reduceEqDiff, reduceCtorEq]
  obtain ⟨tm4, e4, d0, d7, d54⟩ := e4
  obtain ⟨i1, i2⟩ := inv.many
  have hown := inv.own
  have size7 : ∀ l : List It, (cIs l).length = l.length * 7 := cIs_len
  by_cases cz : z.k = 2
  ·
    rw [decide_eq_true cz] at d54
    have hm3 : most = 3 := by
      rcases hmost with h | h
      · exact absurd cz ((inv.all z (List.mem_append_right _ (List.mem_singleton.2 rfl))).2 (by omega))
      · exact h
    obtain ⟨u, f3, v3, w3, T1, u1, u2, u3, u4⟩ := k0 (n + 3) inv.went.feed inv.went.sep (by omega) false
    have u1' : evF fns (n + 3 + 1) 191 [.ref 1 o 0 0 0 false, .int 63 0, .bool false] T = some (.ret (.cmp 2 0 (cI u)), T1) := u1
    obtain ⟨T3, g1, g2, g3, g4, g5, g6⟩ := inv.more (y := u) (by omega) u3 u4
    have e5 : ∃ tm, c140_5 (evF fns (n + 3 + 1)) (n + 3 + 1) tm4 T = some (.nrm, tm, T3) ∧ X.ev tm (.t (pa 7)) = .ref 3 (T1.next + 1) 0 (i + 1) (i + 1) false := by
      refine ⟨?_, ?_, ?_⟩
      rotate_left 1
      · simp only [c140_5, yY, iInt, iStr, iLenS, iLenL, iNot, iPick, iExt, if_true, if_false, reduceIte, Nat.reduceEqDiff, Nat.reduceAdd, reduceCtorEq, yQ, d0, d7, d54, u1', g1, g2]; exact rfl
      · simp only [yL, if_true, if_false, reduceIte, Nat.reduceEqDiff, reduceCtorEq]
    obtain ⟨tm5, e5, f7⟩ := e5
    obtain ⟨o1, o2⟩ := g3.out hS0 hlt (.ret (.ref 3 (T1.next + 1) 0 (i + 1) (i + 1) false)) g4
    have hko : st.next ≤ T1.next + 1 := by have := u3.next; have := inv.went.next; omega
    have hgb : (back st (.ret (.ref 3 (T1.next + 1) 0 (i + 1) (i + 1) false)) T3).mem.get (T1.next + 1) = some (.cells 34 (cIs (ls ++ [z] ++ [u])) true) := by
      rw [back_new (under_row hko)]; exact g5
    have hlen : (ls ++ [z] ++ [u]).length = i + 1 := by rw [List.length_append, hl]; rfl
    have hfr := freezeR (e := 34) (k := 7) (cs := cIs (ls ++ [z] ++ [u])) (ko := T1.next + 1) (m := i + 1) (x := false) size_I (call (r := .ret (.ref 3 (T1.next + 1) 0 (i + 1) (i + 1) false)) (T := back st (.ret (.ref 3 (T1.next + 1) 0 (i + 1) (i + 1) false)) T3) (by
      simp only [x_seq, e0, e1, e2, e3', e4, e5, x_nrm]
      simp only [c140_6, yY, iInt, iStr, iLenS, iLenL, iNot, iPick, iExt, if_true, if_false, reduceIte, Nat.reduceEqDiff, Nat.reduceAdd, reduceCtorEq, yQ, f7]
      rw [leave_slot (v := .ref 3 (T1.next + 1) 0 (i + 1) (i + 1) false) (by simp only [yL, if_true, if_false, reduceIte, Nat.reduceEqDiff, reduceCtorEq]) (fun h => nomatch h)])) hko hgb (by rw [cIs_len, hlen])
    refine ⟨ls ++ [z] ++ [u], f3, v3, w3, _, (by rw [hlen]; exact hfr), ⟨fun x hx => ?_, by omega, by omega, by omega, ?_, ?_⟩, o1.put (e := 34) hko hgb ⟨by decide, by decide⟩ none, by rw [put_low]; omega⟩
    · rcases List.mem_append.1 hx with hx | hx
      · exact (inv.all x hx).1
      · obtain rfl := List.mem_singleton.1 hx
        exact u2.2.1.imp id fun h => absurd h.1 (by omega)
    · rw [wL_app]; show _ = _ + (_ + (wI u + 0)); have := u2.1; omega
    · have : wI u = 1 := by
        rcases u2.2.1 with h | h
        · obtain ⟨k, n, v, p, lo, hi, ks⟩ := u
          have e : ks = [] := h.2.1
          rw [e]; rfl
        · exact absurd h.1 (by omega)
      have := u2.1
      omega
  · rw [decide_eq_false cz] at d54
    have e5 : ∃ tm, c140_5 (evF fns (n + 3 + 1)) (n + 3 + 1) tm4 T = some (.nrm, tm, T) ∧ X.ev tm (.t (pa 7)) = .ref 3 k 0 i i x := by
      refine ⟨?_, ?_, ?_⟩
      rotate_left 1
      · simp only [c140_5, yY, iInt, iStr, iLenS, iLenL, iNot, iPick, iExt, if_true, if_false, reduceIte, Nat.reduceEqDiff, Nat.reduceAdd, reduceCtorEq, yQ, d0, d7, d54]; exact rfl
      · simp only [yL, if_true, if_false, reduceIte, Nat.reduceEqDiff, reduceCtorEq, d7]
    obtain ⟨tm5, e5, f7⟩ := e5
    obtain ⟨o1, o2⟩ := inv.went.out hS0 hlt (.ret (.ref 3 k 0 i i x)) inv.low
    have hko : st.next ≤ k := by omega
    have hgb : (back st (.ret (.ref 3 k 0 i i x)) T).mem.get k = some (.cells 34 (cIs (ls ++ [z])) true) := by
      rw [back_new (under_row hko)]; exact inv.get
    have hfr := freezeR (e := 34) (k := 7) (cs := cIs (ls ++ [z])) (ko := k) (m := i) (x := x) size_I (call (r := .ret (.ref 3 k 0 i i x)) (T := back st (.ret (.ref 3 k 0 i i x)) T) (by
      simp only [x_seq, e0, e1, e2, e3', e4, e5, x_nrm]
      simp only [c140_6, yY, iInt, iStr, iLenS, iLenL, iNot, iPick, iExt, if_true, if_false, reduceIte, Nat.reduceEqDiff, Nat.reduceAdd, reduceCtorEq, yQ, f7]
      rw [leave_slot (v := .ref 3 k 0 i i x) (by simp only [yL, if_true, if_false, reduceIte, Nat.reduceEqDiff, reduceCtorEq]) (fun h => nomatch h)])) hko hgb (by rw [cIs_len, hl])
    exact ⟨ls ++ [z], f2, v2, w2, _, (by rw [hl]; exact hfr), ⟨fun x hx => (inv.all x hx).1, by omega, by omega, by omega, i1, by omega⟩, o1.put (e := 34) hko hgb ⟨by decide, by decide⟩ none, by rw [put_low]; omega⟩
end
end Go.Proofs.YtnccejmggcjaoaaGreatDoor.Av
