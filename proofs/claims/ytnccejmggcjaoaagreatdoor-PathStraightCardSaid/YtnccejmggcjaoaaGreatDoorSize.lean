/-
  expr.Size: WHAT IT ANSWERS of an expression.
-/
import Derived.Test.YtnccejmggcjaoaaGreatDoorLoop
import Derived.Test.YtnccejmggcjaoaaGreatDoorIcT
import Derived.KernelRfl
namespace Go.Proofs.YtnccejmggcjaoaaGreatDoor.Av
set_option linter.unusedVariables false
set_option linter.unusedSimpArgs false
set_option maxRecDepth 1000000
open Go
theorem get_sizeT : table.get 93 = some sh93 := by kernel_rfl
theorem get_size1T : table.get 154 = some sh154 := by kernel_rfl
theorem get_walkT : table.get 153 = some sh153 := by kernel_rfl
theorem walk_b : b153_0 = rangeB 0 1 (pa 13) (pa 12) (pa 11) (pa 19) d153_0 := rfl
structure Ticked (o k c : Nat) (st st' : St) : Prop where
  at_ : st'.mem.get o = some (.cells k [.int 63 (Int.ofNat c)] true)
  low : st'.low ≤ o
  aft : ∀ L, L ≤ o → L ≤ st.next → Aft L st st'
  mem : ∀ x, x < st.next → x ≠ o → st'.mem.get x = st.mem.get x
theorem ticked_back {o k c : Nat} {st st' : St} {l : Nat} (h : Ticked o k c { next := st.next, low := st.next, mem := st.mem } st') : Ticked o k c st { next := st'.next, low := bif Nat.ble st.low st'.low then st.low else st'.low, mem := st'.mem } :=
  ⟨h.at_, by have := h.low; show (bif Nat.ble st.low st'.low then st.low else st'.low) ≤ o; by_cases hb : st.low ≤ st'.low
             · rw [bleT hb]; show st.low ≤ o; omega
             · rw [bleF hb]; exact this,
   fun L h1 h2 => ⟨(h.aft L h1 h2).next, by
      have h4 := (h.aft L h1 h2).low
      have h5 : min L st.next ≤ st'.low := h4
      show min L st.low ≤ (bif Nat.ble st.low st'.low then st.low else st'.low)
      by_cases hb : st.low ≤ st'.low
      · rw [bleT hb]; exact Nat.min_le_right _ _
      · rw [bleF hb]; show min L st.low ≤ st'.low; omega, (h.aft L h1 h2).mem⟩, h.mem⟩
theorem leave_tick {o k c : Nat} {st st' : St} {tm : Tr V} {e : Ex} (h : Ticked o k c { next := st.next, low := st.next, mem := st.mem } st') (hlt : o < st.next) (he : e = .nrm ∨ e = .ret) :
    ∃ st'', leaveF st [] (some (e, tm, st')) = some (.ret .undef, st'') ∧ Ticked o k c st st'' := by
  rw [leave_void he (Nat.lt_of_le_of_lt h.low hlt)]
  exact ⟨_, rfl, ticked_back (l := 0) h⟩
theorem size1_evF {fns : Tr Fs} (get_size1 : fns.get 154 = some sh154) (n : Nat) (e : Et) {st : St} {o k c : Nat} (ho : st.mem.get o = some (.cells k [.int 63 (Int.ofNat c)] true)) (hlt : o < st.next) (hc : c < 2 ^ 62) :
    ∃ st', evF fns (n + 1) 154 [.agg (cE e), .ref 1 o 0 0 0 false] st = some (.ret .undef, st') ∧ Ticked o k (c + 1) st st' := by
  rw [ev_mk get_size1]
  obtain ⟨S0, hS0⟩ : ∃ S0 : St, S0 = { next := st.next, low := st.next, mem := st.mem } := ⟨_, rfl⟩
  have ho0 : S0.mem.get o = some (.cells k [.int 63 (Int.ofNat c)] true) := by rw [hS0]; exact ho
  obtain ⟨S, hS⟩ : ∃ S, S = S0.new (.cells 43 (cE e) true) := ⟨_, rfl⟩
  have hbox : ∀ tm : Tr V, X.ev tm (.t (pa 0)) = .agg (cE e) → iBox 43 (.t (pa 0)) tm S0 = some (.ref 1 S0.next 0 0 0 false, S) := fun tm h => by rw [hS]; exact m_box (by rw [h]; rfl)
  have hg : S.mem.get o = some (.cells k [.int 63 (Int.ofNat c)] true) := by rw [hS, new_get, if_neg (by rw [hS0]; show o ≠ st.next; omega)]; exact ho0
  have hadd : fAdd 63 (Int.ofNat c) 1 = some (.int 63 (Int.ofNat (c + 1))) := f_add 63 c 1 (by omega)
  rw [← hS0]
  simp only [c154_0, c154_1, yX, iInt, iStr, iLenS, iLenL, iNot, iPick, iExt, if_true, if_false, reduceIte, Nat.reduceEqDiff, Nat.reduceAdd, reduceCtorEq, yQ, hbox, m_load, m_store, ldW_get hg, part_c0, hadd, stW_get hg (cells_int _ _)]
  have hlow : (S.put o (some (.cells k [.int 63 (Int.ofNat (c + 1))] true))).low < st.next := by rw [put_low]; omega
  rw [leave_void (.inl rfl) hlow]
  refine ⟨_, rfl, ticked_back (l := 0) ⟨by rw [put_get, if_pos rfl], by rw [put_low]; omega, fun L h1 h2 => ?_, fun x h1 h2 => ?_⟩⟩
  · rw [hS, hS0]; exact ((Aft.refl _ _).new h2).put h1
  · rw [put_get, if_neg h2, hS, new_get, if_neg (by rw [hS0]; show x ≠ st.next; exact Nat.ne_of_lt h1), hS0]
theorem walk_evF {fns : Tr Fs} (get_size1 : fns.get 154 = some sh154) (get_walk : fns.get 153 = some sh153) : ∀ (n : Nat) (e : Et), szE e + 1 < n → ∀ {st : St} {o k c : Nat}, st.mem.get o = some (.cells k [.int 63 (Int.ofNat c)] true) → o < st.next → c + szE e < 2 ^ 62 →
    ∃ st', evF fns n 153 [.agg (cE e), .func 154 [.ref 1 o 0 0 0 false]] st = some (.ret .undef, st') ∧ Ticked o k (c + szE e) st st' := by
  refine by_sizeE (P := fun e n => ∀ {st : St} {o k c : Nat}, st.mem.get o = some (.cells k [.int 63 (Int.ofNat c)] true) → o < st.next → c + szE e < 2 ^ 62 →
    ∃ st', evF fns n 153 [.agg (cE e), .func 154 [.ref 1 o 0 0 0 false]] st = some (.ret .undef, st') ∧ Ticked o k (c + szE e) st st') fun e n ih hn st o k c ho hlt hc => ?_
  rw [ev_mk get_walk]
  obtain ⟨S0, hS0⟩ : ∃ S0 : St, S0 = { next := st.next, low := st.next, mem := st.mem } := ⟨_, rfl⟩
  rw [← hS0]
  have hn0 : S0.next = st.next := by rw [hS0]
  obtain ⟨S, hS⟩ : ∃ S, S = S0.new (.cells 43 (cE e) true) := ⟨_, rfl⟩
  have hSn : S.next = st.next + 1 := by rw [hS, hS0]; rfl
  have hbox : ∀ tm : Tr V, X.ev tm (.t (pa 0)) = .agg (cE e) → iBox 43 (.t (pa 0)) tm S0 = some (.ref 1 S0.next 0 0 0 false, S) := fun tm h => by rw [hS]; exact m_box (by rw [h]; rfl)
  have hg : S.mem.get o = some (.cells k [.int 63 (Int.ofNat c)] true) := by rw [hS, new_get, if_neg (by omega), hS0]; exact ho
  have hge : S.mem.get st.next = some (.cells 43 (cE e) true) := by rw [hS, new_get, if_pos hn0.symm]
  obtain ⟨S1, k1, k2⟩ := size1_evF get_size1 (n - 1) e hg (by omega) (by have := szE_pos e; omega)
  rw [show n - 1 + 1 = n by omega] at k1
  have hge1 : S1.mem.get st.next = some (.cells 43 (cE e) true) := by rw [k2.mem _ (by omega) (by omega)]; exact hge
  obtain ⟨kk, op, nn, vv, ff, ks⟩ := e
  have hks := szE_kids (.mk kk op nn vv ff ks)
  simp only [Et.kids] at hks
  have hszs : szE (.mk kk op nn vv ff ks) = 1 + szEs ks := rfl
  have hl1 : ∀ g i m, ldW g m (.ref 1 S0.next i 0 0 false) S = part g (cE (.mk kk op nn vv ff ks)) i m := fun g i m => by rw [hn0]; exact ldW_get hge
  have hl2 : ∀ g i m, ldW g m (.ref 1 S0.next i 0 0 false) S1 = part g [.int 63 kk, .str op, .int 63 nn, .str vv, .str ff, slT 4 ks.length (cEs ks)] i m := fun g i m => by rw [hn0]; exact ldW_get hge1
  have hloop : ∀ tm : Tr V, (X.ev tm (.t (pa 10)) = slT 4 ks.length (cEs ks) ∧ X.ev tm (.t (pa 11)) = .int 63 (Int.ofNat ks.length) ∧ X.ev tm (.t (pa 12)) = .int 63 0 ∧ X.ev tm (.t (pa 1)) = .func 154 [.ref 1 o 0 0 0 false]) →
      ∃ tm' st', Keep [5, 12, 13, 14, 15, 16, 17, 18, 19] tm tm' ∧ outR 0 (loopV n (b153_0 (evF fns n) n) tm S1) = some (.nrm, tm', st') ∧ Ticked o k (c + szE (.mk kk op nn vv ff ks)) { next := st.next, low := st.next, mem := st.mem } st' := by
    intro tm ⟨h10, h11, h12, h1⟩
    rw [walk_b]
    obtain ⟨tm', st', g1, g2, g3, g4, _⟩ := range_all (call := evF fns n) (n := n) (id := 0) (bid := 1) (kc := 13) (ki := 12) (kl := 11) (kt := 19) (B := d153_0) (S := [5, 12, 13, 14, 15, 16, 17, 18, 19]) (S0 := [5, 14, 15, 16, 17, 18]) (L := 0) (len := ks.length) (tm0 := tm) (st0 := S1)
      (A := fun _ _ => True) (Q := fun i s => Ticked o k (c + 1 + szEs (ks.take i)) { next := st.next, low := st.next, mem := st.mem } s) (fuel := n) (by omega) (by decide) (fun _ _ _ _ _ _ => trivial) h11 h12 (by
        rw [List.take_zero]
        refine ⟨k2.at_, k2.low, fun L a b => ?_, fun x a b => ?_⟩
        · have : Aft L { next := st.next, low := st.next, mem := st.mem } S := by rw [hS, hS0]; exact (Aft.refl _ _).new b
          exact this.trans (k2.aft L a (by omega))
        · rw [k2.mem x (by rw [hSn]; exact Nat.lt_succ_of_lt a) b, hS, new_get, if_neg (by rw [hn0]; exact Nat.ne_of_lt a), hS0]) trivial (by omega)
      (fun i tm1 s hi hK hA hQ _ hI => by
        have h10' := (hK 10 (by decide)).trans h10
        have h1' := (hK 1 (by decide)).trans h1
        have hia : ∀ (tm : Tr V), X.ev tm (.t (pa 10)) = slT 4 ks.length (cEs ks) → X.ev tm (.t (pa 12)) = .int 63 (Int.ofNat i) → iIad 6 (.t (pa 10)) (.t (pa 12)) tm s = _ := fun tm a b => iad_E (.inl rfl) a b hi
        have hsn := (hQ.aft 0 (Nat.zero_le _) (Nat.zero_le _)).next
        obtain ⟨T, c1, c2, c3, c4, c5, c6, c7⟩ := copy_E 43 s ks[i]
        have hTo : T.mem.get o = some (.cells k [.int 63 (Int.ofNat (c + 1 + szEs (ks.take i)))] true) := by rw [c6 o (by have : st.next ≤ s.next := hsn; omega)]; exact hQ.at_
        have hsz : szEs (ks.take (i + 1)) = szEs (ks.take i) + szE ks[i] := by
          rw [List.take_succ_eq_append_getElem hi, szEs_app]; simp only [szEs, Nat.add_zero]
        have hle : szEs (ks.take (i + 1)) ≤ szEs ks := szEs_take _ _
        obtain ⟨U, e1, e2⟩ := ih ks[i] (List.getElem_mem hi) hTo (by rw [c2]; have : st.next ≤ s.next := hsn; omega) (by omega)
        simp only [d153_0, yX, iInt, iStr, iLenS, iLenL, iNot, iPick, iExt, if_true, if_false, reduceIte, Nat.reduceEqDiff, Nat.reduceAdd, reduceCtorEq, yQ, h10', h1', hI, hia, m_load, ld_E (.inl rfl), m_alloc, m_store, c1, c4, part_whole (cE_len _), e1]
        refine ⟨_, _, ?_, ?_, rfl, ?_, trivial⟩
        · repeat (first | exact Keep.refl _ _ | refine Keep.to ?_ (by decide))
        · exact (c3 0 (Nat.zero_le _)).trans (e2.aft 0 (Nat.zero_le _) (Nat.zero_le _))
        · have hsn' : st.next ≤ s.next := hsn
          refine ⟨?_, e2.low, fun L a b => ?_, fun x a b => ?_⟩
          · rw [e2.at_, hsz]; simp only [Nat.add_assoc]
          · exact ((hQ.aft L a b).trans (c3 L (Nat.le_trans b hsn))).trans (e2.aft L a (by rw [c2]; have : L ≤ st.next := b; omega))
          · have : x < st.next := a
            rw [e2.mem x (by omega) b, c6 x (by omega)]; exact hQ.mem x a b)
    refine ⟨tm', st', g1, g3, ?_⟩
    rw [List.take_length] at g4
    rw [hszs, ← Nat.add_assoc]; exact g4
  obtain ⟨F, Z, hF, hF2⟩ := loopG hloop
  have hFr := fun tm a b c d => (hF2 tm ⟨a, b, c, d⟩).1
  have hFt := fun tm a b c d => (hF2 tm ⟨a, b, c, d⟩).2
  simp only [c153_0, c153_1, c153_2, c153_3, yX, iInt, iStr, iLenS, iLenL, iNot, iPick, iExt, if_true, if_false, reduceIte, Nat.reduceEqDiff, Nat.reduceAdd, reduceCtorEq, yQ, hbox, m_load, hl1, part_whole (cE_len _), List.cons_append, List.nil_append, k1, m_fad, m_add0, hl2, part_c0, part_cs, x_slF, x_fsl4, hFr]
  refine leave_tick (hFt _ ?_ ?_ ?_ ?_) hlt (.inl rfl)
  all_goals simp only [yL, if_true, if_false, reduceIte, Nat.reduceEqDiff, reduceCtorEq]
theorem size_evF {fns : Tr Fs} (get_size : fns.get 93 = some sh93) (get_size1 : fns.get 154 = some sh154) (get_walk : fns.get 153 = some sh153) (n : Nat) (e : Et) (hn : szE e + 2 < n) (hc : szE e < 2 ^ 61) (st : St) : evF fns n 93 [.agg (cE e)] st = some (.ret (.int 63 (Int.ofNat (szE e))), st) := by
  obtain ⟨m, rfl⟩ : ∃ m, n = m + 1 := ⟨n - 1, by omega⟩
  rw [ev_mk get_size]
  obtain ⟨S0, hS0⟩ : ∃ S0 : St, S0 = { next := st.next, low := st.next, mem := st.mem } := ⟨_, rfl⟩
  have hn0 : S0.next = st.next := by rw [hS0]
  obtain ⟨S, hS⟩ : ∃ S, S = S0.new (.cells 43 (cE e) true) := ⟨_, rfl⟩
  have hSn : S.next = st.next + 1 := by rw [hS, hS0]; rfl
  have hbox : ∀ tm : Tr V, X.ev tm (.t (pa 0)) = .agg (cE e) → iBox 43 (.t (pa 0)) tm S0 = some (.ref 1 S0.next 0 0 0 false, S) := fun tm h => by rw [hS]; exact m_box (by rw [h]; rfl)
  obtain ⟨T, hT⟩ : ∃ T, T = loc S 3 [.int 63 0] [.int 63 0] := ⟨_, rfl⟩
  have hst : stW 1 (.ref 1 S.next 0 0 0 false) (.int 63 0) (S.new (.cells 3 [.int 63 0] true)) = some (.undef, T) := by rw [hT]; exact stW_new1 (cells_int _ _)
  have hTe : T.mem.get st.next = some (.cells 43 (cE e) true) := by rw [hT, loc_ne (by omega), hS, new_get, if_pos hn0.symm]
  have hTc : T.mem.get S.next = some (.cells 3 [.int 63 (Int.ofNat 0)] true) := by rw [hT]; exact loc_get _ _ _ _
  have hTn : T.next = st.next + 2 := by rw [hT]; show S.next + 1 = _; omega
  obtain ⟨U, k1, k2⟩ := walk_evF get_size1 get_walk m e (by omega) hTc (by omega) (by omega)
  rw [Nat.zero_add] at k2
  have hl : ∀ g i q, ldW g q (.ref 1 S0.next i 0 0 false) T = part g (cE e) i q := fun g i q => by rw [hn0]; exact ldW_get hTe
  have hl2 : ∀ g i q, ldW g q (.ref 1 S.next i 0 0 false) U = part g [.int 63 (Int.ofNat (szE e))] i q := fun g i q => ldW_get k2.at_
  rw [← hS0]
  simp only [c93_0, c93_1, c93_2, c93_3, yX, iInt, iStr, iLenS, iLenL, iNot, iPick, iExt, if_true, if_false, reduceIte, Nat.reduceEqDiff, Nat.reduceAdd, reduceCtorEq, yQ, hbox, m_alloc, m_store, hst, m_load, hl, part_whole (cE_len _), iMkf, k1, hl2, part_c0]
  refine leave_scalar (v := .int 63 (Int.ofNat (szE e))) (by simp only [yL, if_true, if_false, reduceIte, Nat.reduceEqDiff, reduceCtorEq]) (fun h => nomatch h) rfl ?_
  have hA : Aft st.next { next := st.next, low := st.next, mem := st.mem } T := by rw [hT, hS, hS0]; exact Aft.loc (L := st.next) (b := St.new { next := st.next, low := st.next, mem := st.mem } _) (Aft.new (L := st.next) (Aft.refl st.next { next := st.next, low := st.next, mem := st.mem }) (Nat.le_refl _)) (Nat.le_succ _)
  exact hA.trans (k2.aft st.next (by omega) (by omega))
theorem size_ev : type_of% (@size_evF table get_sizeT get_size1T get_walkT) := @size_evF table get_sizeT get_size1T get_walkT
end Go.Proofs.YtnccejmggcjaoaaGreatDoor.Av
