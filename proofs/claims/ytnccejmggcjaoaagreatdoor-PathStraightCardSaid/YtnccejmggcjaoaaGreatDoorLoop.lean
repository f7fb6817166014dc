/-
  LOOPS OVER THE ELEMENTS OF A ROW, once for all.
-/
import Derived.Test.YtnccejmggcjaoaaGreatDoorSiz
namespace Go.Proofs.YtnccejmggcjaoaaGreatDoor.Av
set_option linter.unusedVariables false
set_option linter.unusedSimpArgs false
open Go
noncomputable def rangeB (id bid : Nat) (pc pi pl pt : Pa) (B : CEv) : CEv :=
  cSeq (cReg (step0 (some pc) (gP (iInt fLss 63 (.t pi) (.t pl))) endG))
  (cSeq (cCond (.t pc) cSkip (cExit id))
  (cSeq (cBlock bid B)
  (cReg (step0 (some pt) (gP (iInt fAdd 63 (.t pi) (.c (.int 63 1)))) (step0 (some pi) (gMov (.t pt)) endG)))))
def Stops (r : Ex × Tr V × St) : Prop := r.1 = .ret ∨ ∃ v, r.1 = .pan v
section
variable {call : Callee} {n : Nat} {id bid kc ki kl kt : Nat} {B : CEv}
theorem range_step {tm : Tr V} {st : St} {i len : Nat} (hi : i < len) (hlen : len < 2 ^ 62) (h1 : kc ≠ ki) (h2 : kc ≠ kl) (hI : X.ev tm (.t (pa ki)) = .int 63 (Int.ofNat i)) (hL : X.ev tm (.t (pa kl)) = .int 63 (Int.ofNat len)) :
    rangeB id bid (pa kc) (pa ki) (pa kl) (pa kt) B call n tm st = thenR (outR bid (B call n (tm.to (pa kc) (some (.bool true))) st)) (cReg (step0 (some (pa kt)) (gP (iInt fAdd 63 (.t (pa ki)) (.c (.int 63 1)))) (step0 (some (pa ki)) (gMov (.t (pa kt))) endG)) call n) := by
  simp only [rangeB, yX, iInt, iStr, iLenS, iLenL, iNot, iPick, iExt, if_true, if_false, reduceIte, Nat.reduceEqDiff, Nat.reduceAdd, reduceCtorEq, hI, hL, f_lssN, hi, decide_true]
theorem range_end {tm : Tr V} {st : St} {len : Nat} (h1 : kc ≠ ki) (h2 : kc ≠ kl) (hI : X.ev tm (.t (pa ki)) = .int 63 (Int.ofNat len)) (hL : X.ev tm (.t (pa kl)) = .int 63 (Int.ofNat len)) :
    rangeB id bid (pa kc) (pa ki) (pa kl) (pa kt) B call n tm st = some (.exit id, tm.to (pa kc) (some (.bool false)), st) := by
  simp only [rangeB, yX, iInt, iStr, iLenS, iLenL, iNot, iPick, iExt, if_true, if_false, reduceIte, Nat.reduceEqDiff, Nat.reduceAdd, reduceCtorEq, hI, hL, f_lssN, Nat.lt_irrefl, decide_false]
theorem range_loop {S S0 : List Nat} {L len : Nat} {tm0 : Tr V} {st0 : St} {A : Nat → Tr V → Prop} {Q : Nat → St → Prop} {E : Ex × Tr V × St → Prop} (hlen : len < 2 ^ 62)
    (hS : (kc ≠ ki ∧ kc ≠ kl ∧ kc ∈ S ∧ ki ∈ S ∧ kt ∈ S ∧ kl ∉ S ∧ kt ≠ ki ∧ kc ∉ S0 ∧ ki ∉ S0 ∧ (∀ j ∈ S0, j ∈ S))) (hA : ∀ (i : Nat) (tm : Tr V) (j : Nat) (v : V), (j = kc ∨ j = ki ∨ j = kt) → A i tm → A i (tm.to (pa j) (some v))) (h0 : X.ev tm0 (.t (pa kl)) = .int 63 (Int.ofNat len))
    (hbody : ∀ i tm st, i < len → Keep S tm0 tm → Aft L st0 st → Q i st → A i tm → X.ev tm (.t (pa ki)) = .int 63 (Int.ofNat i) →
      (∃ tm' st', Keep S0 tm tm' ∧ Aft L st st' ∧ outR bid (B call n tm st) = some (.nrm, tm', st') ∧ Q (i + 1) st' ∧ A (i + 1) tm') ∨ ∃ r, outR bid (B call n tm st) = some r ∧ Stops r ∧ E r) :
    ∀ (k i fuel : Nat) (tm : Tr V) (st : St), i + k = len → k < fuel → Keep S tm0 tm → Aft L st0 st → Q i st → A i tm → X.ev tm (.t (pa ki)) = .int 63 (Int.ofNat i) →
      (∃ tm' st', Keep S tm0 tm' ∧ Aft L st0 st' ∧ outR id (loopV fuel (rangeB id bid (pa kc) (pa ki) (pa kl) (pa kt) B call n) tm st) = some (.nrm, tm', st') ∧ Q len st' ∧ A len tm') ∨
        ∃ r, outR id (loopV fuel (rangeB id bid (pa kc) (pa ki) (pa kl) (pa kt) B call n) tm st) = some r ∧ Stops r ∧ E r := by
  obtain ⟨s1, s2, s3, s4, s5, s6, s10, s7, s8, s9⟩ := hS
  intro k
  induction k with
  | zero =>
    intro i fuel tm st hk hf hK hAf hQ ha hi
    obtain ⟨f, rfl⟩ : ∃ f, fuel = f + 1 := ⟨fuel - 1, by omega⟩
    obtain rfl : i = len := by omega
    left
    refine ⟨tm.to (pa kc) (some (.bool false)), st, hK.to s3, hAf, ?_, hQ, hA _ _ _ _ (.inl rfl) ha⟩
    · rw [x_loop1, range_end s1 s2 hi (by rw [hK kl s6]; exact h0), x_then_exit, x_out_exit, if_pos rfl]
  | succ k ih =>
    intro i fuel tm st hk hf hK hAf hQ ha hi
    obtain ⟨f, rfl⟩ : ∃ f, fuel = f + 1 := ⟨fuel - 1, by omega⟩
    have hlt : i < len := by omega
    rw [x_loop1, range_step hlt hlen s1 s2 hi (by rw [hK kl s6]; exact h0)]
    rcases hbody i (tm.to (pa kc) (some (.bool true))) st hlt (hK.to s3) hAf hQ (hA _ _ _ _ (.inl rfl) ha) (by rw [x_evt, if_neg s1]; exact hi) with ⟨tm', st', g1, g2, g3, g4, g5⟩ | ⟨r, g1, g2, g3⟩
    · rw [g3, x_nrm]
      have hi' : X.ev tm' (.t (pa ki)) = .int 63 (Int.ofNat i) := by rw [g1 ki s8, x_evt, if_neg s1]; exact hi
      have hadd : fAdd 63 (Int.ofNat i) 1 = some (.int 63 (Int.ofNat (i + 1))) := f_add 63 i 1 (by omega)
      simp only [yX, iInt, iStr, iLenS, iLenL, iNot, iPick, iExt, if_true, if_false, reduceIte, Nat.reduceEqDiff, Nat.reduceAdd, reduceCtorEq, hi', hadd]
      refine ih (i + 1) f _ st' (by omega) (by omega) ?_ (hAf.trans g2) g4 (hA _ _ _ _ (.inr (.inl rfl)) (hA _ _ _ _ (.inr (.inr rfl)) g5)) (by rw [x_evt, if_pos rfl])
      · exact (((hK.to s3).trans (g1.mono s9)).to s5).to s4
    · right
      obtain ⟨e, tm', st'⟩ := r
      rcases g2 with g2 | ⟨v, g2⟩
      · obtain rfl : e = .ret := g2
        exact ⟨_, by rw [g1, x_then_ret, x_then_ret, x_out_ret], .inl rfl, g3⟩
      · obtain rfl : e = .pan v := g2
        exact ⟨_, by rw [g1, x_then_pan, x_then_pan, x_out_pan], .inr ⟨v, rfl⟩, g3⟩
theorem range_all {S S0 : List Nat} {L len : Nat} {tm0 : Tr V} {st0 : St} {A : Nat → Tr V → Prop} {Q : Nat → St → Prop} {fuel : Nat} (hlen : len < 2 ^ 62)
    (hS : (kc ≠ ki ∧ kc ≠ kl ∧ kc ∈ S ∧ ki ∈ S ∧ kt ∈ S ∧ kl ∉ S ∧ kt ≠ ki ∧ kc ∉ S0 ∧ ki ∉ S0 ∧ (∀ j ∈ S0, j ∈ S))) (hA : ∀ (i : Nat) (tm : Tr V) (j : Nat) (v : V), (j = kc ∨ j = ki ∨ j = kt) → A i tm → A i (tm.to (pa j) (some v))) (h0 : X.ev tm0 (.t (pa kl)) = .int 63 (Int.ofNat len)) (hi : X.ev tm0 (.t (pa ki)) = .int 63 0)
    (hq : Q 0 st0) (ha : A 0 tm0) (hf : len < fuel)
    (hbody : ∀ i tm st, i < len → Keep S tm0 tm → Aft L st0 st → Q i st → A i tm → X.ev tm (.t (pa ki)) = .int 63 (Int.ofNat i) →
      ∃ tm' st', Keep S0 tm tm' ∧ Aft L st st' ∧ outR bid (B call n tm st) = some (.nrm, tm', st') ∧ Q (i + 1) st' ∧ A (i + 1) tm') :
    ∃ tm' st', Keep S tm0 tm' ∧ Aft L st0 st' ∧ outR id (loopV fuel (rangeB id bid (pa kc) (pa ki) (pa kl) (pa kt) B call n) tm0 st0) = some (.nrm, tm', st') ∧ Q len st' ∧ A len tm' := by
  rcases range_loop (E := fun _ => False) hlen hS hA h0 (fun i tm st h1 h2 h3 h4 h5 h6 => .inl (hbody i tm st h1 h2 h3 h4 h5 h6)) len 0 fuel tm0 st0 (Nat.zero_add _) hf (Keep.refl _ _) (Aft.refl _ _) hq ha hi with h | ⟨_, _, _, h⟩
  · exact h
  · exact h.elim
theorem range_one {S S0 : List Nat} {L len ka : Nat} {tm0 : Tr V} {st0 : St} {g : Nat → V} {Q : Nat → St → Prop} {fuel : Nat} (hlen : len < 2 ^ 62)
    (hS : kc ≠ ki ∧ kc ≠ kl ∧ kc ∈ S ∧ ki ∈ S ∧ kt ∈ S ∧ kl ∉ S ∧ kt ≠ ki ∧ kc ∉ S0 ∧ ki ∉ S0 ∧ (∀ j ∈ S0, j ∈ S)) (hA : ka ≠ kc ∧ ka ≠ ki ∧ ka ≠ kt) (h0 : X.ev tm0 (.t (pa kl)) = .int 63 (Int.ofNat len)) (hi : X.ev tm0 (.t (pa ki)) = .int 63 0)
    (hq : Q 0 st0) (ha : X.ev tm0 (.t (pa ka)) = g 0) (hf : len < fuel)
    (hbody : ∀ i tm st, i < len → Keep S tm0 tm → Aft L st0 st → Q i st → X.ev tm (.t (pa ka)) = g i → X.ev tm (.t (pa ki)) = .int 63 (Int.ofNat i) →
      ∃ tm' st', outR bid (B call n tm st) = some (.nrm, tm', st') ∧ Aft L st st' ∧ Q (i + 1) st' ∧ X.ev tm' (.t (pa ka)) = g (i + 1) ∧ Keep S0 tm tm') :
    ∃ tm' st', Keep S tm0 tm' ∧ Aft L st0 st' ∧ outR id (loopV fuel (rangeB id bid (pa kc) (pa ki) (pa kl) (pa kt) B call n) tm0 st0) = some (.nrm, tm', st') ∧ Q len st' ∧ X.ev tm' (.t (pa ka)) = g len :=
  range_all (A := fun i tm => X.ev tm (.t (pa ka)) = g i) hlen hS (fun i tm j v hj h => by
    rw [x_evt, if_neg (fun e => by rcases hj with hj | hj | hj <;> subst hj <;> omega)]; exact h) h0 hi hq ha hf (fun i tm st h1 h2 h3 h4 h5 h6 => by
    obtain ⟨tm', st', g1, g2, g3, g4, g5⟩ := hbody i tm st h1 h2 h3 h4 h5 h6
    exact ⟨tm', st', g5, g2, g1, g3, g4⟩)
end
section
variable {t i : Nat} {x y : X} {tm : Tr V} {st : St} {n : Nat}
theorem iad_I {L : List It} (ht : t = 4 ∨ t = 6) (hx : x.ev tm = slT t L.length (cIs L)) (hy : y.ev tm = .int 63 (Int.ofNat i)) (hi : i < L.length) : iIad 7 x y tm st = some (.cmp (t + 1) 0 (cI L[i] ++ cIs (L.drop (i + 1)))) := by
  have hc : (cIs L).drop (i * 7) = cI L[i] ++ cIs (L.drop (i + 1)) := by rw [cIs_drop, List.drop_eq_getElem_cons hi]; rfl
  rcases ht with rfl | rfl
  · rw [m_iad4 hx hy hi (by rw [cIs_len]; omega), hc]
  · rw [m_iad6 hx hy hi (by rw [cIs_len]; omega), hc]
theorem iad_E {L : List Et} (ht : t = 4 ∨ t = 6) (hx : x.ev tm = slT t L.length (cEs L)) (hy : y.ev tm = .int 63 (Int.ofNat i)) (hi : i < L.length) : iIad 6 x y tm st = some (.cmp (t + 1) 0 (cE L[i] ++ cEs (L.drop (i + 1)))) := by
  have hc : (cEs L).drop (i * 6) = cE L[i] ++ cEs (L.drop (i + 1)) := by rw [cEs_drop, List.drop_eq_getElem_cons hi]; rfl
  rcases ht with rfl | rfl
  · rw [m_iad4 hx hy hi (by rw [cEs_len]; omega), hc]
  · rw [m_iad6 hx hy hi (by rw [cEs_len]; omega), hc]
theorem iad_K {L : List (List It)} (ht : t = 4 ∨ t = 6) (hx : x.ev tm = slT t L.length (cKs L)) (hy : y.ev tm = .int 63 (Int.ofNat i)) (hi : i < L.length) : iIad 1 x y tm st = some (.cmp (t + 1) 0 (slT 4 L[i].length (cIs L[i]) :: cKs (L.drop (i + 1)))) := by
  have hc : (cKs L).drop (i * 1) = slT 4 L[i].length (cIs L[i]) :: cKs (L.drop (i + 1)) := by rw [Nat.mul_one, cKs_drop, List.drop_eq_getElem_cons hi]; rfl
  rcases ht with rfl | rfl
  · rw [m_iad4 hx hy hi (by rw [cKs_len]; omega), hc]
  · rw [m_iad6 hx hy hi (by rw [cKs_len]; omega), hc]
theorem ld_I {a : It} {l : List V} (ht : t = 4 ∨ t = 6) : ldW true 7 (.cmp (t + 1) 0 (cI a ++ l)) st = some (.cmp 2 0 (cI a)) := by
  rcases ht with rfl | rfl
  · rw [ldW_5, part_app (cI_len a)]
  · rw [ldW_7, part_app (cI_len a)]
theorem ld_E {a : Et} {l : List V} (ht : t = 4 ∨ t = 6) : ldW true 6 (.cmp (t + 1) 0 (cE a ++ l)) st = some (.cmp 2 0 (cE a)) := by
  rcases ht with rfl | rfl
  · rw [ldW_5, part_app (cE_len a)]
  · rw [ldW_7, part_app (cE_len a)]
theorem ld_K {v : V} {l : List V} (ht : t = 4 ∨ t = 6) : ldW false 1 (.cmp (t + 1) 0 (v :: l)) st = some v := by
  rcases ht with rfl | rfl
  · rw [ldW_5, part_c0]
  · rw [ldW_7, part_c0]
theorem len_T {m : Nat} {l : List V} (ht : t = 4 ∨ t = 6) : V.onSlice (V.onFsl none (fun _ n _ _ _ => some (V.int 63 (Int.ofNat n))) (slT t m l)) (some (V.int 63 (Int.ofNat 0))) (fun _ _ n _ _ => some (V.int 63 (Int.ofNat n))) (slT t m l) = some (.int 63 (Int.ofNat m)) := by
  rcases ht with rfl | rfl
  · rfl
  · rfl
end
theorem foldl_take {α β : Type} (f : β → α → β) (b : β) (l : List α) {i : Nat} (hi : i < l.length) : (l.take (i + 1)).foldl f b = f ((l.take i).foldl f b) l[i] := by
  rw [List.take_succ_eq_append_getElem hi, List.foldl_append]; rfl
theorem foldl_all {α β : Type} (f : β → α → β) (b : β) (l : List α) : (l.take l.length).foldl f b = l.foldl f b := by rw [List.take_length]
abbrev zI : List V := [.int 63 0, .str [], .str [], .ref 2 0 0 0 0 false, .int 63 0, .int 63 0, .ref 2 0 0 0 0 false]
abbrev zE : List V := [.int 63 0, .str [], .int 63 0, .str [], .str [], .ref 2 0 0 0 0 false]
theorem loc_low (s : St) (e : Nat) (z c : List V) : (loc s e z c).low ≤ s.low := by
  unfold loc; rw [put_low]; exact Nat.min_le_left _ _
theorem stW_get {S : St} {o k : Nat} {u v : V} (h : S.mem.get o = some (.cells k [u] true)) (hv : v.cells? = some [v]) : stW 1 (.ref 1 o 0 0 0 false) v S = some (.undef, S.put o (some (.cells k [v] true))) := by
  unfold stW
  rw [x_onPtr, hv]
  show onCells none _ (S.mem.get o) = _
  rw [h]; rfl
theorem ldW_get {S : St} {o k i n : Nat} {g w : Bool} {cs : List V} (h : S.mem.get o = some (.cells k cs w)) : ldW g n (.ref 1 o i 0 0 false) S = part g cs i n := by
  unfold ldW
  rw [x_onPtr, h, x_onCells]
theorem leave_void {st st' : St} {tm : Tr V} {e : Ex} (he : e = .nrm ∨ e = .ret) (h : st'.low < st.next) : leaveF st [] (some (e, tm, st')) = some (.ret .undef, { next := st'.next, low := bif Nat.ble st.low st'.low then st.low else st'.low, mem := st'.mem }) := by
  have hb : back st (.ret .undef) st' = { next := st'.next, low := bif Nat.ble st.low st'.low then st.low else st'.low, mem := st'.mem } := by
    unfold back
    rw [bleF (show ¬ st.next ≤ st'.low by omega)]; rfl
  rcases he with rfl | rfl
  · show some (CR.ret V.undef, back st (.ret .undef) st') = _
    rw [hb]
  · show some (CR.ret V.undef, back st (.ret .undef) st') = _
    rw [hb]
theorem copy_I (e : Nat) (st : St) (x : It) : ∃ S, stW 7 (.ref 1 st.next 0 0 0 false) (.cmp 2 0 (cI x)) (st.new (.cells e zI true)) = some (.undef, S) ∧ S.next = st.next + 1 ∧ (∀ L, L ≤ st.next → Aft L st S) ∧
    (∀ g i n, ldW g n (.ref 1 st.next i 0 0 false) S = part g (cI x) i n) ∧ (∀ o g i n, o < st.next → ldW g n (.ref 1 o i 0 0 false) S = ldW g n (.ref 1 o i 0 0 false) st) ∧ (∀ o, o < st.next → S.mem.get o = st.mem.get o) ∧ S.low ≤ st.low :=
  ⟨loc st e zI (cI x), stW_new (cI_len x) rfl, rfl, fun L h => (Aft.refl _ _).loc h, fun g i n => ldW_loc, fun o g i n h => ldW_lt h, fun o h => loc_ne (by omega), loc_low _ _ _ _⟩
theorem copy_E (e : Nat) (st : St) (x : Et) : ∃ S, stW 6 (.ref 1 st.next 0 0 0 false) (.cmp 2 0 (cE x)) (st.new (.cells e zE true)) = some (.undef, S) ∧ S.next = st.next + 1 ∧ (∀ L, L ≤ st.next → Aft L st S) ∧
    (∀ g i n, ldW g n (.ref 1 st.next i 0 0 false) S = part g (cE x) i n) ∧ (∀ o g i n, o < st.next → ldW g n (.ref 1 o i 0 0 false) S = ldW g n (.ref 1 o i 0 0 false) st) ∧ (∀ o, o < st.next → S.mem.get o = st.mem.get o) ∧ S.low ≤ st.low :=
  ⟨loc st e zE (cE x), stW_new (cE_len x) rfl, rfl, fun L h => (Aft.refl _ _).loc h, fun g i n => ldW_loc, fun o g i n h => ldW_lt h, fun o h => loc_ne (by omega), loc_low _ _ _ _⟩
end Go.Proofs.YtnccejmggcjaoaaGreatDoor.Av
