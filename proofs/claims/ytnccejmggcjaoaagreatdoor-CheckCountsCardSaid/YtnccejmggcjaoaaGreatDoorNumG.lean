/-
  A NUMBER, by the feed.
-/
import Derived.Test.YtnccejmggcjaoaaGreatDoorFrzE
import Derived.Test.YtnccejmggcjaoaaGreatDoorStart
namespace Go.Proofs.YtnccejmggcjaoaaGreatDoor.Av
set_option linter.unusedVariables false
set_option linter.unusedSimpArgs false
set_option maxRecDepth 1000000
open Go
def RNum (D : Nat) (args : List V) (st : St) (r : CR) (st' : St) : Prop :=
  ∃ (o : Nat) (f : Fd) (vv vo : V) (own kind : Str) (d : Nat), args = [.ref 1 o 0 0 0 false, .str own, .str kind, .int 63 (Int.ofNat d)] ∧ d ≤ D ∧ FeedAt st o f vv vo ∧ ∃ e a, r = .ret (.cmp 2 0 (cE e)) ∧ szE e ≤ 2 ^ (d + 1) - 1 ∧ Moved o f vv vo a st st'
abbrev numArgs (o : Nat) (own kind : Str) (d : Nat) : List V := [.ref 1 o 0 0 0 false, .str own, .str kind, .int 63 (Int.ofNat d)]
theorem mixedZ : Tryz.prog.follows .mixedOrders = true := by kernel_rfl
abbrev zE2 : List V := [.int 63 0, .str [], .int 63 0, .str [], .str [], .ref 2 0 0 0 0 false, .int 63 0, .str [], .int 63 0, .str [], .str [], .ref 2 0 0 0 0 false]
theorem mem56a : memN [5, 6] 5 = true := by kernel_rfl
theorem mem56b : memN [5, 6] 6 = true := by kernel_rfl
noncomputable def oneS (see : St → Bool) (f : V → St → Option DR) (st : St) (r : Option (CR × St)) : Option DR :=
  Option.rec none (fun p => Prod.rec (fun c s' => CR.rec (fun v => bif Nat.ble st.next s'.low then f v (st.after s') else bif see (st.after s') then f v (st.after s') else none) (fun v => some (.pan v (st.after s'))) c) p) r
theorem x_stepCE {call : Callee} {tm : Tr V} {st : St} {d : Option Pa} {k : DK} {rs : Rds} {us : List Pa} {go : Option Pa → K → K} {cs : List Nat} :
    stepC cs us d go none k call tm st rs = oneS (seeAll cs rs) (fun v s => k call (putT tm d v) s rs) st (oneV go call (pickT us tm) st.fresh) := Eq.trans (Eq.refl _) rfl
theorem x_oneS {see : St → Bool} {f : V → St → Option DR} {st s' : St} {v : V} (h : see (st.after s') = true) : oneS see f st (some (.ret v, s')) = f v (st.after s') := by
  show (bif Nat.ble st.next s'.low then f v (st.after s') else bif see (st.after s') then f v (st.after s') else none) = _
  rw [h]
  cases Nat.ble st.next s'.low <;> rfl
abbrev rawE (k : Int) (op : Str) (n : Int) (v fl : Str) (ks : V) : V := .cmp 2 0 [.int 63 k, .str op, .int 63 n, .str v, .str fl, ks]
theorem fin_kids {st S0 T : St} {o a : Nat} {f : Fd} {vv vo : V} (h : FeedAt st o f vv vo) (hS0 : S0 = { next := st.next, low := st.next, mem := st.mem }) (hm : Moved o f vv vo a S0 T)
    (hz : T.mem.get S0.next = some (.cells 43 zE true)) {ko m : Nat} (ks : List Et) (hg : T.mem.get ko = some (.cells 43 (cEs ks) true)) (hko : S0.next < ko) (hl : m = ks.length) (k : Int) (op : Str) :
    ∃ U V', stW 6 (.ref 1 S0.next 0 0 0 false) (rawE k op 0 [] [] (.ref 3 ko 0 m m true)) T = some (.undef, U) ∧ ldW true 6 (.ref 1 S0.next 0 0 0 false) U = some (rawE k op 0 [] [] (.ref 3 ko 0 m m true)) ∧
      (∀ {g : Nat} {args : List V}, CallAt Tryz.prog g args st (.ret (rawE k op 0 [] [] (.ref 3 ko 0 m m true))) (back st (.ret (rawE k op 0 [] [] (.ref 3 ko 0 m m true))) U) → CallAt Tryz.prog g args st (.ret (.cmp 2 0 (cE (.mk k op 0 [] [] ks)))) V') ∧ Moved o f vv vo a st V' := by
  have h0 : FeedAt S0 o f vv vo := by rw [hS0]; exact h.low _
  have hn0 : S0.next = st.next := by rw [hS0]
  obtain ⟨U, hU⟩ : ∃ U, U = T.put S0.next (some (.cells 43 [.int 63 k, .str op, .int 63 0, .str [], .str [], .ref 3 ko 0 m m true] true)) := ⟨_, rfl⟩
  have hmU : Moved o f vv vo a S0 U := by rw [hU]; exact hm.put h0 (Nat.le_refl _) _
  have hgU : U.mem.get ko = some (.cells 43 (cEs ks) true) := by rw [hU, put_get, if_neg (by omega)]; exact hg
  refine ⟨U, (back st (.ret (rawE k op 0 [] [] (.ref 3 ko 0 m m true))) U).put ko none, by rw [hU]; exact stW_whole hz rfl rfl, by rw [ldW_get (by rw [hU, put_get, if_pos rfl])]; exact part_whole rfl, ?_, ?_⟩
  · intro g args hc
    refine freezeE hc (by omega) ?_ hl
    rw [back_new (under_slice (by omega))]; exact hgU
  · exact Moved.put h (Moved.back h _ (by rw [hS0] at hmU; exact hmU)) (by omega) none
theorem fin_two {st S0 S B T : St} {o a a2 : Nat} {f : Fd} {vv vo : V} (h : FeedAt st o f vv vo) (hS0 : S0 = { next := st.next, low := st.next, mem := st.mem }) (hm : Moved o f vv vo a S0 S)
    (hz : S.mem.get S0.next = some (.cells 43 zE true)) (e1 e2 : Et) (strs : List V) {i : Nat} {op : Str} (hi : strs[i]? = some (.str op))
    (hB : B = (loc S 43 zE (cE e1)).new (.cells 9 strs true)) (hSn : S0.next < S.next) (hT : Moved o { f with at_ := a } vv vo a2 B.fresh T) (k : Int) :
    ldW false 1 (.ref 1 (S.next + 1) i 0 0 false) B = some (.str op) ∧ ldW false 1 (.ref 1 (S.next + 1) i 0 0 false) (B.after T) = some (.str op) ∧
    ldW true 6 (.ref 1 S.next 0 0 0 false) B = some (.cmp 2 0 (cE e1)) ∧ ldW true 6 (.ref 1 S.next 0 0 0 false) (B.after T) = some (.cmp 2 0 (cE e1)) ∧
    ∃ D U V', D = (B.after T).new (.cells 43 (cE e1 ++ cE e2) true) ∧ stW 6 (.ref 1 S0.next 0 0 0 false) (rawE k op 0 [] [] (.ref 3 (B.after T).next 0 2 2 true)) D = some (.undef, U) ∧ ldW true 6 (.ref 1 S0.next 0 0 0 false) U = some (rawE k op 0 [] [] (.ref 3 (B.after T).next 0 2 2 true)) ∧
      (∀ {g : Nat} {args : List V}, CallAt Tryz.prog g args st (.ret (rawE k op 0 [] [] (.ref 3 (B.after T).next 0 2 2 true))) (back st (.ret (rawE k op 0 [] [] (.ref 3 (B.after T).next 0 2 2 true))) U) → CallAt Tryz.prog g args st (.ret (.cmp 2 0 (cE (.mk k op 0 [] [] [e1, e2])))) V') ∧ Moved o f vv vo a2 st V' := by
  have h0 : FeedAt S0 o f vv vo := by rw [hS0]; exact h.low _
  have hlt := h0.lt
  have hBn : B.next = S.next + 2 := by rw [hB]; rfl
  have mB : Moved o f vv vo a S0 B := by rw [hB]; exact (hm.loc h0 _ _ _).new h0 _
  have hlow : B.low ≤ B.next := by have := mB.low.2; have hl : S0.low = S0.next := by rw [hS0]
                                   omega
  have mC : Moved o { f with at_ := a } vv vo a2 B (B.after T) := hT.after hlow
  have m2 := mB.trans mC
  have g10 : B.mem.get S.next = some (.cells 43 (cE e1) true) := by
    rw [hB, new_get, if_neg (by show S.next ≠ S.next + 1; omega)]
    show ((S.new _).put S.next _).mem.get S.next = _
    rw [put_get, if_pos rfl]
  have gs : B.mem.get (S.next + 1) = some (.cells 9 strs true) := by rw [hB]; exact new_get_self' _ _
  have gz : B.mem.get S0.next = some (.cells 43 zE true) := by
    rw [hB, new_get, if_neg (by show S0.next ≠ S.next + 1; omega)]
    show ((S.new _).put S.next _).mem.get S0.next = _
    rw [put_get, if_neg (by omega), new_get, if_neg (by omega)]; exact hz
  have k1 : ∀ x, x < S.next + 2 → x ≠ o → (B.after T).mem.get x = B.mem.get x := fun x hx hne => mC.mem x (by omega) hne
  have hCn : S.next + 2 ≤ (B.after T).next := by have := mC.next; omega
  refine ⟨by rw [ldW_get gs]; exact part_nth hi, by rw [ldW_get ((k1 _ (by omega) (by omega)).trans gs)]; exact part_nth hi, by rw [ldW_get g10]; exact part_whole (cE_len _), by rw [ldW_get ((k1 _ (by omega) (by omega)).trans g10)]; exact part_whole (cE_len _), ?_⟩
  obtain ⟨D, hD⟩ : ∃ D, D = (B.after T).new (.cells 43 (cE e1 ++ cE e2) true) := ⟨_, rfl⟩
  have mD : Moved o f vv vo a2 S0 D := by rw [hD]; exact m2.new h0 _
  have gD : D.mem.get (B.after T).next = some (.cells 43 (cEs [e1, e2]) true) := by
    rw [hD, new_get_self']; simp only [cEs, List.append_nil]
  have zD : D.mem.get S0.next = some (.cells 43 zE true) := by
    rw [hD, new_get, if_neg (by omega), k1 _ (by omega) (by omega)]; exact gz
  obtain ⟨U, V', u1, u2, u3, u4⟩ := fin_kids h hS0 mD zD [e1, e2] gD (by omega) rfl k op
  exact ⟨D, U, V', hD, u1, u2, u3, u4⟩
section
variable {fns : Tr Fs} (gt : GenT fns) (htab : TableOk Tryz.prog fns)
include gt htab
set_option maxHeartbeats 8000000 in
theorem number_at (n : Nat) {st : St} {o : Nat} {f : Fd} {vv vo : V} (h : FeedAt st o f vv vo) (own kind : Str) (d : Nat) (hd : d ≤ 3)
    (hrec : ∀ d', d' + 1 = d → ∀ {st : St} {f : Fd} {vv vo : V}, FeedAt st o f vv vo → ∃ e a st', evF fns (n + 2) 261 (numArgs o own kind d') st = some (.ret (.cmp 2 0 (cE e)), st') ∧ szE e ≤ 2 ^ (d' + 1) - 1 ∧ Moved o f vv vo a st st') :
    ∃ e a st', CallAt Tryz.prog 261 (numArgs o own kind d) st (.ret (.cmp 2 0 (cE e))) st' ∧ szE e ≤ 2 ^ (d + 1) - 1 ∧ Moved o f vv vo a st st' := by
  have call : ∀ {r : CR} {T : St}, enterF (evF fns (n + 2)) (n + 2) _ _ (numArgs o own kind d) st = some (r, T) → CallAt Tryz.prog 261 (numArgs o own kind d) st r T := fun h => callAt_in mixedZ htab ok261 h
  unfold enterF at call
  obtain ⟨S0, hS0⟩ : ∃ S0 : St, S0 = { next := st.next, low := st.next, mem := st.mem } := ⟨_, rfl⟩
  have hn0 : S0.next = st.next := by rw [hS0]
  have h0 : FeedAt S0 o f vv vo := by rw [hS0]; exact h.low _
  rw [← hS0] at call
  have hlt := h.lt
  obtain ⟨S, hS⟩ : ∃ S, S = S0.new (.cells 43 zE true) := ⟨_, rfl⟩
  have m1 : Moved o f vv vo f.at_ S0 S := by rw [hS]; exact (Moved.start h0).new h0 _
  have hpe0 : S.mem.get S0.next = some (.cells 43 zE true) := by rw [hS, new_get, if_pos rfl]
  have hSn : S.next = S0.next + 1 := by rw [hS]; rfl
  obtain ⟨b, a, S1, k1, k2, k3⟩ := next_ev gt.next (n + 1) m1.feed
  have m2 := m1.trans k3
  have hpe : S1.mem.get S0.next = some (.cells 43 zE true) := by rw [k3.mem _ (by omega) (by omega)]; exact hpe0
  have hnew : ∀ tm : Tr V, iAlloc 43 zE tm S0 = some (.ref 1 S0.next 0 0 0 false, S) := fun tm => by rw [hS]; rfl
  have hr8 : fRem 63 (Int.ofNat b) 8 = some (.int 63 (Int.ofNat (b % 8))) := f_rem 63 _ 8 (by decide)
  have hr2 : fRem 63 (Int.ofNat b) 2 = some (.int 63 (Int.ofNat (b % 2))) := f_rem 63 _ 2 (by decide)
  have hq8 : fQuo 63 (Int.ofNat b) 8 = some (.int 63 (Int.ofNat (b / 8))) := f_quo 63 b 8 (by omega) (by decide)
  have hr6 : fRem 63 (Int.ofNat (b / 8)) 6 = some (.int 63 (Int.ofNat (b / 8 % 6))) := f_rem 63 _ 6 (by decide)
  have hr5 : fRem 63 (Int.ofNat (b / 8)) 5 = some (.int 63 (Int.ofNat (b / 8 % 5))) := f_rem 63 _ 5 (by decide)
  have l3 : ltI (Int.ofNat (b % 8)) 3 = decide (b % 8 < 3) := ltI_nat _ 3
  have l6 : ltI (Int.ofNat (b % 8)) 6 = decide (b % 8 < 6) := ltI_nat _ 6
  have l1 : ltI (Int.ofNat d) 1 = decide (d < 1) := ltI_nat _ 1
  have e0 : eqI (Int.ofNat (b % 2)) 0 = decide (b % 2 = 0) := eqI_nat _ 0
  have e6 : eqI (Int.ofNat (b % 8)) 6 = decide (b % 8 = 6) := eqI_nat _ 6
  have fin : ∀ {a' : Nat} (T : St) (k nn : Int) (op v fl : Str) (ks : V) (r : CR), Moved o f vv vo a' S0 T → T.mem.get S0.next = some (.cells 43 zE true) →
      ∃ U, stW 6 (.ref 1 S0.next 0 0 0 false) (rawE k op nn v fl ks) T = some (.undef, U) ∧ ldW true 6 (.ref 1 S0.next 0 0 0 false) U = some (rawE k op nn v fl ks) ∧ Moved o f vv vo a' S0 U ∧ ∀ x, x ≠ S0.next → U.mem.get x = T.mem.get x := by
    intro a' T k nn op v fl ks r hm hg
    exact ⟨_, stW_whole hg rfl rfl, by rw [ldW_get (by rw [put_get, if_pos rfl])]; exact part_whole rfl, hm.put h0 (Nat.le_refl _) _, fun x hx => by rw [put_get, if_neg hx]⟩
  have out : ∀ {a' : Nat} {T : St} (r : CR), Moved o f vv vo a' S0 T → Moved o f vv vo a' st (back st r T) := fun r hm => Moved.back h r (by rw [hS0] at hm; exact hm)
  have h2d : 1 ≤ 2 ^ (d + 1) - 1 := by have : 2 ^ 1 ≤ 2 ^ (d + 1) := Nat.pow_le_pow_right (by decide) (by omega); omega
  by_cases c1 : b % 8 < 3 ∨ (d < 1 ∧ b % 2 = 0)
  ·
    have hb6 : b / 8 % 6 < 6 := Nat.mod_lt _ (by decide)
    obtain ⟨N, hN⟩ : ∃ N : Int, ([V.int 63 0, .int 63 1, .int 63 2, .int 63 3, .int 63 5, .int 63 9223372036854775807])[b / 8 % 6]? = some (.int 63 N) := by
      rcases (show b / 8 % 6 = 0 ∨ b / 8 % 6 = 1 ∨ b / 8 % 6 = 2 ∨ b / 8 % 6 = 3 ∨ b / 8 % 6 = 4 ∨ b / 8 % 6 = 5 by omega) with h | h | h | h | h | h <;> rw [h] <;> exact ⟨_, rfl⟩
    obtain ⟨S2, hS2⟩ : ∃ S2, S2 = S1.new (.cells 2 [.int 63 0, .int 63 1, .int 63 2, .int 63 3, .int 63 5, .int 63 9223372036854775807] true) := ⟨_, rfl⟩
    have m3 : Moved o f vv vo a S0 S2 := by rw [hS2]; exact m2.new h0 _
    have hg2 : S2.mem.get S0.next = some (.cells 43 zE true) := by rw [hS2, new_get, if_neg (by have := k3.next; omega)]; exact hpe
    have hgN : S2.mem.get S1.next = some (.cells 2 [.int 63 0, .int 63 1, .int 63 2, .int 63 3, .int 63 5, .int 63 9223372036854775807] true) := by rw [hS2]; exact new_get_self' _ _
    have hbs : ∀ tm : Tr V, iBsl 2 6 [.int 63 0, .int 63 0, .int 63 0, .int 63 0, .int 63 0, .int 63 0] [(0, 1, .c (.int 63 0)), (1, 1, .c (.int 63 1)), (2, 1, .c (.int 63 2)), (3, 1, .c (.int 63 3)), (4, 1, .c (.int 63 5)), (5, 1, .c (.int 63 9223372036854775807))] tm S1 = some (.ref 3 S1.next 0 6 6 true, S2) := fun tm => by rw [hS2]; rfl
    have hia : ∀ (tm : Tr V), X.ev tm (.t (pa 26)) = .ref 3 S1.next 0 6 6 true → X.ev tm (.t (pa 29)) = .int 63 (Int.ofNat (b / 8 % 6)) → iIad 1 (.t (pa 26)) (.t (pa 29)) tm S2 = some (.ref 1 S1.next (b / 8 % 6) 0 0 false) := fun tm h1 h2 => by rw [iad_own h1 h2 hb6, Nat.mul_one]
    have hlN : ldW false 1 (.ref 1 S1.next (b / 8 % 6) 0 0 false) S2 = some (.int 63 N) := by rw [ldW_get hgN]; exact part_nth hN
    obtain ⟨U, u1, u2, u3, _⟩ := fin S2 0 N [] [] [] (.ref 2 0 0 0 0 false) (.ret .undef) m3 hg2
    refine ⟨.mk 0 [] N [] [] [], a, _, freezeE0 (call (r := .ret (rawE 0 [] N [] [] (.ref 2 0 0 0 0 false))) ?_), h2d, out (.ret (rawE 0 [] N [] [] (.ref 2 0 0 0 0 false))) u3⟩
    by_cases c2 : b % 8 < 3
    · have d1 : decide (b % 8 < 3) = true := decide_eq_true c2
      simp only [c261_0, c261_1, c261_2, yY, iInt, iStr, iLenS, iLenL, iNot, iPick, iExt, if_true, if_false, reduceIte, Nat.reduceEqDiff, Nat.reduceAdd, reduceCtorEq, yQ, hnew, k1, hr8, f_lss, l3, d1, hq8, hr6, hbs, hia, m_load, hlN, m_build, fillV_c, fillV_0, cells_int, fillS_1, List.length_cons, List.length_nil, Nat.reduceLT, List.set_cons_zero, List.set_cons_succ, m_store, u1]
      rw [leave_mem (v := rawE 0 [] N [] [] (.ref 2 0 0 0 0 false)) (by simp only [yL, if_true, if_false, reduceIte, Nat.reduceEqDiff, reduceCtorEq]; exact u2)]
    · obtain ⟨c3, c4⟩ := c1.resolve_left c2
      have d1 : decide (b % 8 < 3) = false := decide_eq_false c2
      have d2 : decide (d < 1) = true := decide_eq_true c3
      have d3 : decide (b % 2 = 0) = true := decide_eq_true c4
      simp only [c261_0, c261_1, c261_2, yY, iInt, iStr, iLenS, iLenL, iNot, iPick, iExt, if_true, if_false, reduceIte, Nat.reduceEqDiff, Nat.reduceAdd, reduceCtorEq, yQ, hnew, k1, hr8, f_lss, l3, d1, l1, d2, hr2, f_eql, e0, d3, hq8, hr6, hbs, hia, m_load, hlN, m_build, fillV_c, fillV_0, cells_int, fillS_1, List.length_cons, List.length_nil, Nat.reduceLT, List.set_cons_zero, List.set_cons_succ, m_store, u1]
      rw [leave_mem (v := rawE 0 [] N [] [] (.ref 2 0 0 0 0 false)) (by simp only [yL, if_true, if_false, reduceIte, Nat.reduceEqDiff, reduceCtorEq]; exact u2)]
  · have c2 : ¬ b % 8 < 3 := fun h => c1 (.inl h)
    have d1 : decide (b % 8 < 3) = false := decide_eq_false c2
    by_cases c3 : b % 8 < 6 ∨ d < 1
    ·
      obtain ⟨v, fl, a2, S2, r1, r2⟩ := ref_ev gt n m2.feed own kind
      have m3 := m2.trans r2
      have hpe2 : S2.mem.get S0.next = some (.cells 43 zE true) := by rw [r2.mem _ (by have := k3.next; omega) (by omega)]; exact hpe
      obtain ⟨U, u1, u2, u3, _⟩ := fin S2 1 0 [] v fl (.ref 2 0 0 0 0 false) (.ret .undef) m3 hpe2
      refine ⟨.mk 1 [] 0 v fl [], a2, _, freezeE0 (call (r := .ret (rawR v fl)) ?_), h2d, out (.ret (rawR v fl)) u3⟩
      by_cases c4 : d < 1
      · have d2 : decide (d < 1) = true := decide_eq_true c4
        have d3 : decide (b % 2 = 0) = false := decide_eq_false fun h => c1 (.inr ⟨c4, h⟩)
        by_cases c5 : b % 8 < 6
        · have d4 : decide (b % 8 < 6) = true := decide_eq_true c5
          simp only [c261_0, c261_1, c261_2, yY, iInt, iStr, iLenS, iLenL, iNot, iPick, iExt, if_true, if_false, reduceIte, Nat.reduceEqDiff, Nat.reduceAdd, reduceCtorEq, yQ, hnew, k1, hr8, f_lss, l3, d1, l1, d2, hr2, f_eql, e0, d3, l6, d4, r1, m_store, u1]
          rw [leave_mem (v := rawR v fl) (by simp only [yL, if_true, if_false, reduceIte, Nat.reduceEqDiff, reduceCtorEq]; exact u2)]
        · have d4 : decide (b % 8 < 6) = false := decide_eq_false c5
          simp only [c261_0, c261_1, c261_2, yY, iInt, iStr, iLenS, iLenL, iNot, iPick, iExt, if_true, if_false, reduceIte, Nat.reduceEqDiff, Nat.reduceAdd, reduceCtorEq, yQ, hnew, k1, hr8, f_lss, l3, d1, l1, d2, hr2, f_eql, e0, d3, l6, d4, r1, m_store, u1]
          rw [leave_mem (v := rawR v fl) (by simp only [yL, if_true, if_false, reduceIte, Nat.reduceEqDiff, reduceCtorEq]; exact u2)]
      · have d2 : decide (d < 1) = false := decide_eq_false c4
        have d4 : decide (b % 8 < 6) = true := decide_eq_true (c3.resolve_right c4)
        simp only [c261_0, c261_1, c261_2, yY, iInt, iStr, iLenS, iLenL, iNot, iPick, iExt, if_true, if_false, reduceIte, Nat.reduceEqDiff, Nat.reduceAdd, reduceCtorEq, yQ, hnew, k1, hr8, f_lss, l3, d1, l1, d2, hr2, f_eql, e0, l6, d4, r1, m_store, u1]
        rw [leave_mem (v := rawR v fl) (by simp only [yL, if_true, if_false, reduceIte, Nat.reduceEqDiff, reduceCtorEq]; exact u2)]
    · have c4 : ¬ d < 1 := fun h => c3 (.inr h)
      have d2 : decide (d < 1) = false := decide_eq_false c4
      have d4 : decide (b % 8 < 6) = false := decide_eq_false fun h => c3 (.inl h)
      have hsub : fSub 63 (Int.ofNat d) 1 = some (.int 63 (Int.ofNat (d - 1))) := f_sub 63 d 1 (by omega) (by omega)
      obtain ⟨e1, a1, S2, r1, r2, r3⟩ := hrec (d - 1) (by omega) m2.feed
      have m3 := m2.trans r3
      have hS0S1 : S0.next < S1.next := by have := k3.next; omega
      have hpe2 : S2.mem.get S0.next = some (.cells 43 zE true) := by rw [r3.mem _ hS0S1 (by omega)]; exact hpe
      have hn2 : S1.next ≤ S2.next := r3.next
      have hp : 2 ^ (d + 1) = 2 ^ (d - 1 + 1) + 2 ^ (d - 1 + 1) := by rw [show d + 1 = d - 1 + 1 + 1 by omega, Nat.pow_succ]; omega
      by_cases c5 : b % 8 = 6
      ·
        have d5 : decide (b % 8 = 6) = true := decide_eq_true c5
        obtain ⟨S3, hS3⟩ : ∃ S3, S3 = S2.new (.cells 43 (cEs [e1]) true) := ⟨_, rfl⟩
        have m4 : Moved o f vv vo a1 S0 S3 := by rw [hS3]; exact m3.new h0 _
        have hz3 : S3.mem.get S0.next = some (.cells 43 zE true) := by rw [hS3, new_get, if_neg (by omega)]; exact hpe2
        obtain ⟨U, V', u1, u2, u3, u4⟩ := fin_kids (k := 2) (op := [45]) h hS0 m4 hz3 (ko := S2.next) (m := 1) [e1] (by rw [hS3, new_get_self']) (by omega) rfl
        have hcE : cEs [e1] = cE e1 := by simp only [cEs, List.append_nil]
        have hbs : ∀ (tm : Tr V), X.ev tm (.t (pa 54)) = .cmp 2 0 (cE e1) → iBsl 43 1 zE [(0, 6, .t (pa 54))] tm S2 = some (.ref 3 S2.next 0 1 1 true, S3) := fun tm h => by
          rw [m_bsl, fillV_c, h, cells_agg2, fillS_w (cE_len _) rfl, fillV_0, hS3, hcE]
        refine ⟨.mk 2 [45] 0 [] [] [e1], a1, V', u3 (call (r := .ret (rawE 2 [45] 0 [] [] (.ref 3 S2.next 0 1 1 true))) ?_), ?_, u4⟩
        · simp only [c261_0, c261_1, c261_2, yY, iInt, iStr, iLenS, iLenL, iNot, iPick, iExt, if_true, if_false, reduceIte, Nat.reduceEqDiff, Nat.reduceAdd, reduceCtorEq, yQ, hnew, k1, hr8, f_lss, l3, d1, l1, d2, l6, d4, f_eql, e6, d5, hsub, r1, hbs, m_build, cells_ref, fillV_c, fillV_0, cells_int, cells_str, fillS_1, List.length_cons, List.length_nil, Nat.reduceLT, List.set_cons_zero, List.set_cons_succ, m_store, u1]
          rw [leave_mem (v := rawE 2 [45] 0 [] [] (.ref 3 S2.next 0 1 1 true)) (by simp only [yL, if_true, if_false, reduceIte, Nat.reduceEqDiff, reduceCtorEq]; exact u2)]
        · simp only [szE, szEs]; omega
      ·
        have d5 : decide (b % 8 = 6) = false := decide_eq_false c5
        have hb5 : b / 8 % 5 < 5 := Nat.mod_lt _ (by decide)
        obtain ⟨op, hop⟩ : ∃ op : Str, ([V.str [43], .str [45], .str [42], .str [47], .str [37]])[b / 8 % 5]? = some (.str op) := by
          rcases (show b / 8 % 5 = 0 ∨ b / 8 % 5 = 1 ∨ b / 8 % 5 = 2 ∨ b / 8 % 5 = 3 ∨ b / 8 % 5 = 4 by omega) with h | h | h | h | h <;> rw [h] <;> exact ⟨_, rfl⟩
        obtain ⟨A, hA⟩ : ∃ A, A = loc S2 43 zE (cE e1) := ⟨_, rfl⟩
        obtain ⟨B, hB⟩ : ∃ B, B = A.new (.cells 9 [.str [43], .str [45], .str [42], .str [47], .str [37]] true) := ⟨_, rfl⟩
        have hAn : A.next = S2.next + 1 := by rw [hA]; rfl
        have mB : Moved o f vv vo a1 S0 B := by rw [hB, hA]; exact (m3.loc h0 _ _ _).new h0 _
        obtain ⟨e2, a2, S4, t1, t2, t3⟩ := hrec (d - 1) (by omega) (mB.feed.low B.next)
        obtain ⟨v1, v2, v3, v4, D, U, V', hD, u1, u2, u3, u4⟩ := fin_two h hS0 m3 hpe2 e1 e2 [.str [43], .str [45], .str [42], .str [47], .str [37]] hop (by rw [hB, hA]) (by omega) t3 3
        have hal : ∀ tm : Tr V, iAlloc 43 zE tm S2 = some (.ref 1 S2.next 0 0 0 false, S2.new (.cells 43 zE true)) := fun tm => rfl
        have hst : stW 6 (.ref 1 S2.next 0 0 0 false) (.cmp 2 0 (cE e1)) (S2.new (.cells 43 zE true)) = some (.undef, A) := by
          rw [stW_whole (new_get_self' _ _) (cE_len _) rfl, hA]; rfl
        have hbs1 : ∀ tm : Tr V, iBsl 9 5 [.str [], .str [], .str [], .str [], .str []] [(0, 1, .c (.str [43])), (1, 1, .c (.str [45])), (2, 1, .c (.str [42])), (3, 1, .c (.str [47])), (4, 1, .c (.str [37]))] tm A = some (.ref 3 (S2.next + 1) 0 5 5 true, B) := fun tm => by rw [hB, ← hAn]; rfl
        have hia : ∀ (tm : Tr V), X.ev tm (.t (pa 63)) = .ref 3 (S2.next + 1) 0 5 5 true → X.ev tm (.t (pa 66)) = .int 63 (Int.ofNat (b / 8 % 5)) → iIad 1 (.t (pa 63)) (.t (pa 66)) tm B = some (.ref 1 (S2.next + 1) (b / 8 % 5) 0 0 false) := fun tm h1 h2 => by rw [iad_own h1 h2 hb5, Nat.mul_one]
        have hbs2 : ∀ (tm : Tr V), X.ev tm (.t (pa 69)) = .cmp 2 0 (cE e1) → X.ev tm (.t (pa 75)) = .cmp 2 0 (cE e2) → iBsl 43 2 zE2 [(0, 6, .t (pa 69)), (6, 6, .t (pa 75))] tm (B.after S4) = some (.ref 3 (B.after S4).next 0 2 2 true, D) := fun tm h1 h2 => by
          rw [m_bsl, fill_two h1 h2 (cE_len _) (cE_len _) rfl, hD]
        refine ⟨.mk 3 op 0 [] [] [e1, e2], a2, V', u3 (call (r := .ret (rawE 3 op 0 [] [] (.ref 3 (B.after S4).next 0 2 2 true))) ?_), ?_, u4⟩
        · simp only [c261_0, c261_1, c261_2, c261_3, c261_4, yY, iInt, iStr, iLenS, iLenL, iNot, iPick, iExt, if_true, if_false, reduceIte, Nat.reduceEqDiff, Nat.reduceAdd, reduceCtorEq, yQ, hnew, k1, hr8, f_lss, l3, d1, l1, d2, l6, d4, f_eql, e6, d5, hsub, r1, hal, m_store, hst, yD, x_oneM, x_oneE, x_oneP, x_oneK, x_oneL, x_oneC2, hbs1, hq8, hr5, hia, m_load, v1, v3, x_stepCE, St.fresh, t1, x_oneS, see_cons, see_nil, mem56a, mem56b, sees_ret, v2, v4, sameV_refl, cond_true, Bool.true_and, Bool.and_true, hbs2, m_build, cells_ref, fillV_c, fillV_0, cells_int, cells_str, fillS_1, List.length_cons, List.length_nil, Nat.reduceLT, List.set_cons_zero, List.set_cons_succ, m_store, u1]
          rw [leave_mem (v := rawE 3 op 0 [] [] (.ref 3 (B.after S4).next 0 2 2 true)) (by simp only [yL, if_true, if_false, reduceIte, Nat.reduceEqDiff, reduceCtorEq]; exact u2)]
        · simp only [szE, szEs]; omega
end
end Go.Proofs.YtnccejmggcjaoaaGreatDoor.Av
