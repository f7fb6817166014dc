/-
  ITEMS CHECKED, one by one: (*check.checker).items, of items without predicates, no choice among them.
-/
import Derived.Test.YtnccejmggcjaoaaGreatDoorChkI
namespace Go.Proofs.YtnccejmggcjaoaaGreatDoor.Av
set_option linter.unusedVariables false
set_option linter.unusedSimpArgs false
set_option maxRecDepth 1000000
open Go
theorem il_b : b87_1 = rangeB 0 1 (pa 14) (pa 13) (pa 12) (pa 40) d87_1 := rfl
theorem ldW_mem {a b : St} {o : Nat} (h : a.mem.get o = b.mem.get o) (g : Bool) (n i : Nat) : ldW g n (.ref 1 o i 0 0 false) a = ldW g n (.ref 1 o i 0 0 false) b := by
  unfold ldW
  rw [x_onPtr, x_onPtr, h]
theorem leave_back {st st' : St} {tm : Tr V} {j : Nat} {v : V} (hv : X.ev tm (.t (pa j)) = v) (hne : v ≠ V.undef) : leaveF st [.t (pa j)] (some (.ret, tm, st')) = some (.ret v, back st (.ret v) st') := by
  show (Option.rec none (fun v => some (CR.ret v, back st (.ret v) st')) (tm.at (pa j)) : Option (CR × St)) = _
  rw [at_of_ev hv hne]
theorem Aft.back {st st' : St} {L : Nat} (h : Aft L st.in st') (hL : L ≤ st.next) (r : CR) : Aft L st (Av.back st r st') := by
  have h1 : min L st.next ≤ st'.low := h.low
  unfold Av.back
  cases (Nat.ble st.next st'.low && r.under st.next) with
  | true => exact Aft.refl _ _
  | false =>
    refine ⟨h.next, ?_, h.mem⟩
    show min L st.low ≤ (bif Nat.ble st.low st'.low then st.low else st'.low)
    rw [low_min]; omega
theorem bound_set {v : Str} {b' : Bnd} {w : Str} : ∀ {B : List Bnd}, b'.nm = v → (boundB (setB v b' B) w).length ≤ max (boundB B w).length b'.ks.length := by
  intro B hb
  have key : ∀ B : List Bnd, findB w (setB v b' B) = some b' ∨ findB w (setB v b' B) = findB w B := by
    intro B
    induction B with
    | nil =>
      show (bif eqS w b'.nm then some b' else none) = some b' ∨ (bif eqS w b'.nm then some b' else none) = none
      cases eqS w b'.nm
      · exact .inr rfl
      · exact .inl rfl
    | cons b l ih =>
      show findB w (bif eqS v b.nm then b' :: l else b :: setB v b' l) = some b' ∨ findB w (bif eqS v b.nm then b' :: l else b :: setB v b' l) = (bif eqS w b.nm then some b else findB w l)
      cases h : eqS v b.nm with
      | true =>
        have e : v = b.nm := by rw [eqS_eq] at h; exact of_decide_eq_true h
        show (bif eqS w b'.nm then some b' else findB w l) = some b' ∨ (bif eqS w b'.nm then some b' else findB w l) = _
        rw [hb, ← e]
        cases eqS w v
        · exact .inr rfl
        · exact .inl rfl
      | false =>
        show (bif eqS w b.nm then some b else findB w (setB v b' l)) = some b' ∨ (bif eqS w b.nm then some b else findB w (setB v b' l)) = _
        cases eqS w b.nm
        · exact ih
        · exact .inr rfl
  unfold boundB
  rcases key B with h | h
  · rw [h]; exact Nat.le_max_right _ _
  · rw [h]; exact Nat.le_max_left _ _
def FlatI (Fnd : Str → Nat → Prop) (x : It) : Prop := ∃ kd nm vr lo hi k, x = .mk kd nm vr [] lo hi [] ∧ kd ≠ 3 ∧ Fnd nm k
def PassI (Fnd : Str → Nat → Prop) (fld : Nat → Str → Int) (by_ : Str) : It → Prop
  | .mk _ nm _ _ _ _ _ => ∀ k, Fnd nm k → by_ = [] ∨ 0 ≤ fld k by_
section
variable {fns : Tr Fs} {Fnd : Str → Nat → Prop} {By : Str → Prop} {fld : Nat → Str → Int} (rc : RawC fns) (kt : KindT fns Fnd By fld) (hfun : ∀ s k k', Fnd s k → Fnd s k' → k = k')
include rc kt hfun
set_option maxHeartbeats 4000000 in
theorem items_flat {st : St} {o m : Nat} {by_ : Str} {B : List Bnd} (hc : CkAt st o m ksV by_ B) {c0 : Nat} (hB : ∀ v, (boundB B v).length ≤ c0) {l : List It} (hl : ∀ x ∈ l, FlatI Fnd x) (hlen : c0 + l.length < 900) (hby : by_ = [] ∨ (eqS by_ [] = false ∧ By by_)) {t : Nat} (ht : t = 4 ∨ t = 6) {n : Nat} (hn : l.length < n + 3)
    {L : Nat} (hL1 : L ≤ m) (hL2 : L ≤ st.next) (hL3 : ∀ b ∈ B, L ≤ b.at_) :
    ∃ e st', evF fns (n + 4) 87 [.ref 1 o 0 0 0 false, slT t l.length (cIs l)] st = some (.ret (.int 63 e), st') ∧ Aft L st st' ∧ ((e = 0 ∧ ∀ x ∈ l, PassI Fnd fld by_ x) ∨ (e = 5 ∧ ∃ x ∈ l, ¬ PassI Fnd fld by_ x)) := by
  obtain ⟨S0, hS0⟩ : ∃ S0, S0 = st.in := ⟨_, rfl⟩
  have n0 : S0.next = st.next := by rw [hS0]
  have hc0 : CkAt S0 o m ksV by_ B := by rw [hS0]; exact hc.low _
  obtain ⟨tmA, eA, a0, a1⟩ : ∃ tm, c87_0 (evF fns (n + 3)) (n + 3) (initT [.ref 1 o 0 0 0 false, slT t l.length (cIs l)] 0 .leaf) S0 = some (.nrm, tm, S0) ∧ X.ev tm (.t (pa 0)) = .ref 1 o 0 0 0 false ∧ X.ev tm (.t (pa 1)) = slT t l.length (cIs l) := by
    refine ⟨?_, ?_, ?_, ?_⟩
    rotate_left 1
    · simp only [c87_0, yY, iInt, iStr, iLenS, iLenL, iNot, iPick, iExt, if_true, if_false, reduceIte, Nat.reduceEqDiff, Nat.reduceAdd, reduceCtorEq, yQ]; exact rfl
    · simp only [yL, if_true, if_false, reduceIte, Nat.reduceEqDiff, reduceCtorEq]
    · simp only [yL, if_true, if_false, reduceIte, Nat.reduceEqDiff, reduceCtorEq]
  simp only [initT0, initT1, Nat.zero_add, Nat.reduceAdd] at eA
  obtain ⟨tm1, e1, b0, b11, b12, b13⟩ : ∃ tm, c87_1 (evF fns (n + 3)) (n + 3) tmA S0 = some (.nrm, tm, S0) ∧ X.ev tm (.t (pa 0)) = .ref 1 o 0 0 0 false ∧ X.ev tm (.t (pa 11)) = slT t l.length (cIs l) ∧ X.ev tm (.t (pa 12)) = .int 63 (Int.ofNat l.length) ∧ X.ev tm (.t (pa 13)) = .int 63 0 := by
    refine ⟨?_, ?_, ?_, ?_, ?_, ?_⟩
    rotate_left 1
    · simp only [c87_1, yY, iInt, iStr, iLenS, iLenL, iNot, iPick, iExt, if_true, if_false, reduceIte, Nat.reduceEqDiff, Nat.reduceAdd, reduceCtorEq, yQ, a0, a1, len_T ht]; exact rfl
    · simp only [yL, if_true, if_false, reduceIte, Nat.reduceEqDiff, reduceCtorEq, a0]
    · simp only [yL, if_true, if_false, reduceIte, Nat.reduceEqDiff, reduceCtorEq, a1]
    · simp only [yL, if_true, if_false, reduceIte, Nat.reduceEqDiff, reduceCtorEq]
    · simp only [yL, if_true, if_false, reduceIte, Nat.reduceEqDiff, reduceCtorEq]
  have hloop := range_loop (call := evF fns (n + 3)) (n := n + 3) (id := 0) (bid := 1) (kc := 14) (ki := 13) (kl := 12) (kt := 40) (B := d87_1) (S := [4, 6, 7, 9, 10, 13, 14, 15, 16, 17, 18, 19, 20, 21, 22, 23, 24, 25, 26, 27, 28, 29, 30, 31, 32, 33, 34, 35, 36, 37, 38, 39, 40]) (S0 := [4, 6, 7, 9, 10, 15, 16, 17, 18, 19, 20, 21, 22, 23, 24, 25, 26, 27, 28, 29, 30, 31, 32, 33, 34, 35, 36, 37, 38, 39]) (L := L) (len := l.length) (tm0 := tm1) (st0 := S0) (A := fun _ _ => True)
    (Q := fun i s => ∃ B', CkAt s o m ksV by_ B' ∧ (∀ v, (boundB B' v).length ≤ c0 + i) ∧ (∀ b ∈ B', L ≤ b.at_) ∧ ∀ x ∈ l.take i, PassI Fnd fld by_ x)
    (E := fun r => r.1 = .ret ∧ X.ev r.2.1 (.t (pa 4)) = .int 63 5 ∧ Aft L S0 r.2.2 ∧ ∃ x ∈ l, ¬ PassI Fnd fld by_ x) (by omega) (by decide) (fun _ _ _ _ _ h => h) b12
    (fun i tm s hi hK hA ⟨B', q1, q2_, q3_, q4_⟩ _ hI => by
      have b0' := (hK 0 (by decide)).trans b0
      have b11' := (hK 11 (by decide)).trans b11
      have hia : ∀ (tm : Tr V), X.ev tm (.t (pa 11)) = slT t l.length (cIs l) → X.ev tm (.t (pa 13)) = .int 63 (Int.ofNat i) → iIad 7 (.t (pa 11)) (.t (pa 13)) tm s = _ := fun tm a b => iad_I ht a b hi
      have htk : l.take (i + 1) = l.take i ++ [l[i]] := List.take_succ_eq_append_getElem hi
      obtain ⟨kd, nm, vr, lo, hi', k, hx, hk3, hk⟩ := hl l[i] (List.getElem_mem hi)
      obtain ⟨S, c1, c2, c3, c4, c5, c6, _⟩ := copy_I 34 s l[i]
      rw [hx] at c1 c4 hia
      have e3 : fNeq 63 kd 3 = some (.bool true) := by show some (V.bool (!eqI kd 3)) = _; rw [eqI_eq, decide_eq_false hk3]; rfl
      have hsn : L ≤ s.next := Nat.le_trans (by rw [n0]; exact hL2) hA.next
      have hcS : CkAt S o m ksV by_ B' := q1.aft (c3 s.next (Nat.le_refl _))
      have hcop : ldW true 7 (.ref 1 s.next 0 0 0 false) S = some (.cmp 2 0 (cI (.mk kd nm vr [] lo hi' []))) := (c4 true 0 7).trans (part_whole (cI_len _))
      have h0 : ltI 0 (Int.ofNat ([] : List (List It)).length) = false := rfl
      have z1 : fNeq 63 0 0 = some (.bool false) := rfl
      have z2 : fNeq 63 5 0 = some (.bool true) := rfl
      have k6 : ldW false 1 (.ref 1 s.next 6 0 0 false) S = some (slT 4 ([] : List (List It)).length (cKs [])) := (c4 false 6 1).trans rfl
      have f0 : part false (cI (.mk kd nm vr [] lo hi' [])) 0 1 = some (.int 63 kd) := rfl
      have f6 : part false (cI (.mk kd nm vr [] lo hi' [])) 6 1 = some (slT 4 ([] : List (List It)).length (cKs [])) := rfl
      have fw : part true (cI (.mk kd nm vr [] lo hi' [])) 0 7 = some (.cmp 2 0 (cI (.mk kd nm vr [] lo hi' []))) := part_whole (cI_len _)
      rcases item_ev rc kt hcS (x := .mk kd nm vr [] lo hi' []) rfl hk hby (show (boundB B' vr).length + 1 < 1000 by have := q2_ vr; omega) n with ⟨r1, r2, r3⟩ | ⟨r1, r2, r3⟩ | ⟨r1, r2, st', a, r3, r4, r5⟩
      · right
        refine ⟨_, by
          simp only [d87_1, yX, iInt, iStr, iLenS, iLenL, iNot, iPick, iExt, if_true, if_false, reduceIte, Nat.reduceEqDiff, Nat.reduceAdd, reduceCtorEq, yQ, b0', b11', hI, hia, m_load, ld_I ht, m_alloc, m_store, c1, m_fad, m_add0, c4, f0, f6, fw, e3, r3, z2]
          exact rfl, .inl rfl, rfl, ?_, hA.trans (c3 L hsn), ⟨l[i], List.getElem_mem hi, fun hp => ?_⟩⟩
        · simp only [yL, if_true, if_false, reduceIte, Nat.reduceEqDiff, reduceCtorEq]
        · rw [hx] at hp
          rcases hp k hk with h | h
          · exact r1 h
          · omega
      · left
        refine ⟨?_, S, ?_, c3 L hsn, ?_, ⟨B', hcS, fun v => by have := q2_ v; omega, q3_, fun x hxm => ?_⟩, trivial⟩
        rotate_left 2
        · simp only [d87_1, b87_0, x_loop1, yX, iInt, iStr, iLenS, iLenL, iNot, iPick, iExt, if_true, if_false, reduceIte, Nat.reduceEqDiff, Nat.reduceAdd, reduceCtorEq, yQ, b0', b11', hI, hia, m_load, ld_I ht, m_alloc, m_store, c1, m_fad, m_add0, c4, f0, f6, fw, e3, r3, z1, x_slF, x_fsl4, f_lss, h0]
          exact rfl
        · rw [htk] at hxm
          rcases List.mem_append.1 hxm with h | h
          · exact q4_ x h
          · obtain rfl := List.mem_singleton.1 h
            rw [hx]; intro k' hk'
            obtain rfl := hfun _ _ _ hk hk'
            exact r1
        · repeat (first | exact Keep.refl _ _ | refine Keep.to ?_ (by decide))
      · left
        have hm1 := q1.hm
        have hg : st'.mem.get s.next = S.mem.get s.next := r5.mem _ (by omega) (by omega) (fun b hb e => by have := (q1.rows b hb).1; omega)
        have k6' : ldW false 1 (.ref 1 s.next 6 0 0 false) st' = some (slT 4 ([] : List (List It)).length (cKs [])) := (ldW_mem hg false 1 6).trans k6
        obtain ⟨r6, r7⟩ := r5.aft L hL1 (by omega) q3_
        refine ⟨?_, st', ?_, (c3 L hsn).trans r6, ?_, ⟨_, r4, fun v => ?_, r7, fun x hxm => ?_⟩, trivial⟩
        rotate_left 2
        · simp only [d87_1, b87_0, x_loop1, yX, iInt, iStr, iLenS, iLenL, iNot, iPick, iExt, if_true, if_false, reduceIte, Nat.reduceEqDiff, Nat.reduceAdd, reduceCtorEq, yQ, b0', b11', hI, hia, m_load, ld_I ht, m_alloc, m_store, c1, m_fad, m_add0, c4, f0, f6, fw, e3, r3, z1, k6', x_slF, x_fsl4, f_lss, h0]
          exact rfl
        · have h1 := bound_set (v := vr) (b' := ⟨vr, a, boundB B' vr ++ [k]⟩) (w := v) (B := B') rfl
          have h2 := q2_ v
          have h3 := q2_ vr
          simp only [List.length_append, List.length_cons, List.length_nil] at h1
          omega
        · rw [htk] at hxm
          rcases List.mem_append.1 hxm with h | h
          · exact q4_ x h
          · obtain rfl := List.mem_singleton.1 h
            rw [hx]; intro k' hk'
            obtain rfl := hfun _ _ _ hk hk'
            exact r1
        · repeat (first | exact Keep.refl _ _ | refine Keep.to ?_ (by decide))) l.length 0 (n + 3) tm1 S0 (Nat.zero_add _) hn (Keep.refl _ _) (Aft.refl _ _) ⟨B, hc0, fun v => hB v, hL3, fun x h => nomatch h⟩ trivial b13
  rw [← il_b] at hloop
  rw [ev_mk rc.items]
  rcases hloop with ⟨tm2, st2, k1, k2, k3, ⟨B', k4, _, _, k5⟩, _⟩ | ⟨r, k3, k4, k5, k6, k7, k8⟩
  · refine ⟨0, back st (.ret (.int 63 0)) st2, ?_, Aft.back (by rw [← hS0]; exact k2) hL2 _, .inl ⟨rfl, fun x hx => k5 x (by rw [List.take_length]; exact hx)⟩⟩
    have e2 : c87_2 (evF fns (n + 3)) (n + 3) tm1 S0 = some (.nrm, tm2, st2) := k3
    show leaveF st _ (cSeq _ _ _ _ _ st.in) = _
    rw [← hS0]
    simp only [x_seq, eA, x_nrm, e1, e2, c87_3, yX, iInt, iStr, iLenS, iLenL, iNot, iPick, iExt, if_true, if_false, reduceIte, Nat.reduceEqDiff, Nat.reduceAdd, reduceCtorEq, yQ]
    refine leave_back ?_ (fun h => nomatch h)
    simp only [yL, if_true, if_false, reduceIte, Nat.reduceEqDiff, reduceCtorEq]
  · obtain ⟨ex, tm2, st2⟩ := r
    obtain rfl : ex = .ret := k5
    refine ⟨5, back st (.ret (.int 63 5)) st2, ?_, Aft.back (by rw [← hS0]; exact k7) hL2 _, .inr ⟨rfl, k8⟩⟩
    have e2 : c87_2 (evF fns (n + 3)) (n + 3) tm1 S0 = some (.ret, tm2, st2) := k3
    show leaveF st _ (cSeq _ _ _ _ _ st.in) = _
    rw [← hS0]
    simp only [initT0, initT1, Nat.zero_add, Nat.reduceAdd, x_seq, eA, x_nrm, e1, e2, x_then_ret]
    exact leave_back k6 (fun h => nomatch h)
end
end Go.Proofs.YtnccejmggcjaoaaGreatDoor.Av
