/-
  BYTES OF WHICH A QUERY IS MADE: the feed in memory; its next byte.
-/
import Derived.Test.YtnccejmggcjaoaaGreatDoorLoop
import Derived.Test.YtnccejmggcjaoaaGreatDoorIcT
import Derived.KernelRfl
namespace Go.Proofs.YtnccejmggcjaoaaGreatDoor.Av
set_option linter.unusedVariables false
set_option linter.unusedSimpArgs false
set_option maxRecDepth 1000000
open Go
structure Fd where
  l : List Nat
  at_ : Nat
  vars : List Str
  of_ : List Str
  many : Nat
def cB (l : List Nat) : List V := l.map fun b => .int 8 (Int.ofNat b)
def SlS (st : St) (v : V) (ss : List Str) : Prop := (ss = [] ∧ v = .ref 2 0 0 0 0 false) ∨ ∃ k, ss ≠ [] ∧ v = .ref 3 k 0 ss.length ss.length false ∧ k < st.next ∧ st.mem.get k = some (.cells 9 (ss.map .str) true)
structure FeedAt (st : St) (o : Nat) (f : Fd) (vv vo : V) : Prop where
  lt : o < st.next
  get : st.mem.get o = some (.cells 215 [slT 4 f.l.length (cB f.l), .int 63 (Int.ofNat f.at_), vv, vo, .int 63 (Int.ofNat f.many)] true)
  vars : SlS st vv f.vars
  of_ : SlS st vo f.of_
  len : f.vars.length = f.of_.length ∧ f.vars.length ≤ f.many ∧ f.many < 1000
  bytes : (∀ b ∈ f.l, b < 256) ∧ f.at_ ≤ f.l.length ∧ f.l.length < 2 ^ 63
structure Moved (o : Nat) (f : Fd) (vv vo : V) (a : Nat) (st st' : St) : Prop where
  lt : o < st.next
  feed : FeedAt st' o { f with at_ := a } vv vo
  le : f.at_ ≤ a
  next : st.next ≤ st'.next
  low : min o st.low ≤ st'.low ∧ st'.low ≤ st.low
  mem : ∀ x, x < st.next → x ≠ o → st'.mem.get x = st.mem.get x
  same : o < st'.low → st'.mem.get o = st.mem.get o
theorem SlS.keep {st st' : St} {o : Nat} {v : V} {ss : List Str} (h : SlS st v ss) {e : Nat} {cs : List V} (ho : st.mem.get o = some (.cells e cs true)) (hne : ∀ k, v = .ref 3 k 0 ss.length ss.length false → ss ≠ [] → k ≠ o) (hn : st.next ≤ st'.next) (hm : ∀ x, x < st.next → x ≠ o → st'.mem.get x = st.mem.get x) : SlS st' v ss := by
  rcases h with h | ⟨k, h0, h1, h2, h3⟩
  · exact .inl h
  · exact .inr ⟨k, h0, h1, by omega, by rw [hm k h2 (hne k h1 h0)]; exact h3⟩
theorem FeedAt.ne {st : St} {o : Nat} {f : Fd} {vv vo : V} (h : FeedAt st o f vv vo) {v : V} {ss : List Str} (hs : SlS st v ss) : ∀ k, v = .ref 3 k 0 ss.length ss.length false → ss ≠ [] → k ≠ o := by
  intro k hv h0 e
  subst e
  rcases hs with ⟨h1, _⟩ | ⟨k', _, h1, _, h3⟩
  · exact h0 h1
  · rw [hv] at h1
    injection h1 with h4 h5
    subst h5
    rw [h.get] at h3
    injection h3 with h3
    injection h3 with h4 h5
    exact absurd h4 (by decide)
theorem FeedAt.move {st st' : St} {o : Nat} {f : Fd} {vv vo : V} (h : FeedAt st o f vv vo) {a : Nat} (ha : a ≤ f.l.length)
    (hg : st'.mem.get o = some (.cells 215 [slT 4 f.l.length (cB f.l), .int 63 (Int.ofNat a), vv, vo, .int 63 (Int.ofNat f.many)] true)) (hn : st.next ≤ st'.next) (hm : ∀ x, x < st.next → x ≠ o → st'.mem.get x = st.mem.get x) : FeedAt st' o { f with at_ := a } vv vo :=
  ⟨Nat.lt_of_lt_of_le h.lt hn, hg, h.vars.keep h.get (h.ne h.vars) hn hm, h.of_.keep h.get (h.ne h.of_) hn hm, h.len, h.bytes.1, ha, h.bytes.2.2⟩
theorem Moved.trans {o : Nat} {f : Fd} {vv vo : V} {a b : Nat} {st st1 st2 : St} (h : Moved o f vv vo a st st1) (h' : Moved o { f with at_ := a } vv vo b st1 st2) : Moved o f vv vo b st st2 :=
  ⟨h.lt, h'.feed, Nat.le_trans h.le h'.le, Nat.le_trans h.next h'.next, by have := h.low; have := h'.low; omega, fun x hx hne => (h'.mem x (Nat.lt_of_lt_of_le hx h.next) hne).trans (h.mem x hx hne), fun hl => (h'.same hl).trans (h.same (Nat.lt_of_lt_of_le hl h'.low.2))⟩
theorem Moved.of_aft {o : Nat} {f : Fd} {vv vo : V} {st st' : St} (h : FeedAt st o f vv vo) (ha : Aft st.next st st') (hl : st'.low ≤ st.low) : Moved o f vv vo f.at_ st st' :=
  ⟨h.lt, h.move h.bytes.2.1 (by rw [ha.mem o h.lt]; exact h.get) ha.next fun x hx _ => ha.mem x hx, Nat.le_refl _, ha.next, ⟨by have := ha.low; have := h.lt; omega, hl⟩, fun x hx _ => ha.mem x hx, fun _ => ha.mem o h.lt⟩
theorem FeedAt.low {st : St} {o : Nat} {f : Fd} {vv vo : V} (h : FeedAt st o f vv vo) (l : Nat) : FeedAt { next := st.next, low := l, mem := st.mem } o f vv vo := ⟨h.lt, h.get, h.vars, h.of_, h.len, h.bytes⟩
theorem Moved.back {o : Nat} {f : Fd} {vv vo : V} {a : Nat} {st st' : St} (h0 : FeedAt st o f vv vo) (r : CR) (h : Moved o f vv vo a { next := st.next, low := st.next, mem := st.mem } st') : Moved o f vv vo a st (back st r st') := by
  have hl : (bif Nat.ble st.low st'.low then st.low else st'.low) = min st.low st'.low := by
    by_cases hb : st.low ≤ st'.low
    · rw [bleT hb, cond_true]; omega
    · rw [bleF hb, cond_false]; omega
  have h1 := h.low
  simp only at h1
  have hlt : o < st.next := h.lt
  unfold Av.back
  cases hb : Nat.ble st.next st'.low && r.under st.next with
  | true =>
    rw [Bool.and_eq_true] at hb
    have hle := ble_iff.1 hb.1
    have hs := h.same (by omega)
    have ha : f.at_ = a := by
      have e := h.feed.get
      rw [hs] at e
      have e2 := h0.get.symm.trans e
      injection e2 with e2
      injection e2 with _ e2 _
      injection e2 with _ e2
      injection e2 with e2 _
      injection e2 with _ e2
      exact Int.ofNat.inj e2
    subst ha
    exact Moved.of_aft h0 (Aft.refl _ _) (Nat.le_refl _)
  | false => exact ⟨hlt, h.feed.low _, h.le, h.next, ⟨by rw [hl]; show min o st.low ≤ min st.low st'.low; omega, by rw [hl]; exact Nat.min_le_left _ _⟩, h.mem, fun hx => h.same (by rw [hl] at hx; have hx' : o < min st.low st'.low := hx; omega)⟩
theorem Moved.new {o : Nat} {f : Fd} {vv vo : V} {a : Nat} {S0 S : St} (h0 : FeedAt S0 o f vv vo) (h : Moved o f vv vo a S0 S) (b : Ob) : Moved o f vv vo a S0 (S.new b) := by
  have hn : S0.next ≤ S.next := h.next
  have hlt := h.lt
  have hm : ∀ x, x < S0.next → (S.new b).mem.get x = S.mem.get x := fun x hx => by rw [new_get, if_neg (by omega)]
  exact ⟨hlt, h0.move h.feed.bytes.2.1 (by rw [hm o hlt]; exact h.feed.get) (Nat.le_succ_of_le hn) fun x hx hne => (hm x hx).trans (h.mem x hx hne), h.le, Nat.le_succ_of_le hn, h.low, fun x hx hne => (hm x hx).trans (h.mem x hx hne), fun hl => (hm o hlt).trans (h.same hl)⟩
theorem Moved.put {o : Nat} {f : Fd} {vv vo : V} {a : Nat} {S0 S : St} (h0 : FeedAt S0 o f vv vo) (h : Moved o f vv vo a S0 S) {k : Nat} (hk : S0.next ≤ k) (b : Option Ob) : Moved o f vv vo a S0 (S.put k b) := by
  have hn : S0.next ≤ S.next := h.next
  have hlt := h.lt
  have hm : ∀ x, x < S0.next → (S.put k b).mem.get x = S.mem.get x := fun x hx => by rw [put_get, if_neg (by omega)]
  have hlow := h.low
  exact ⟨hlt, h0.move h.feed.bytes.2.1 (by rw [hm o hlt]; exact h.feed.get) hn fun x hx hne => (hm x hx).trans (h.mem x hx hne), h.le, hn, ⟨by rw [put_low]; omega, by rw [put_low]; omega⟩, fun x hx hne => (hm x hx).trans (h.mem x hx hne), fun hl => (hm o hlt).trans (h.same (by rw [put_low] at hl; omega))⟩
theorem Moved.loc {o : Nat} {f : Fd} {vv vo : V} {a : Nat} {S0 S : St} (h0 : FeedAt S0 o f vv vo) (h : Moved o f vv vo a S0 S) (e : Nat) (z c : List V) : Moved o f vv vo a S0 (loc S e z c) :=
  (h.new h0 _).put h0 h.next _
theorem Moved.start {o : Nat} {f : Fd} {vv vo : V} {S0 : St} (h0 : FeedAt S0 o f vv vo) : Moved o f vv vo f.at_ S0 S0 := Moved.of_aft h0 (Aft.refl _ _) (Nat.le_refl _)
theorem stW_at {S : St} {o k i : Nat} {v : V} {cs : List V} (h : S.mem.get o = some (.cells k cs true)) (hv : v.cells? = some [v]) (hi : i < cs.length) : stW 1 (.ref 1 o i 0 0 false) v S = some (.undef, S.put o (some (.cells k (cs.set i v) true))) := by
  unfold stW
  rw [x_onPtr, hv]
  show onCells none _ (S.mem.get o) = _
  rw [h]
  show (bif true && (Nat.beq 1 1 && Nat.ble (Nat.add i 1) (lenL cs)) then some (V.undef, S.put o (some (.cells k (splice cs i [v]) true))) else none) = _
  rw [lenL_eq, show Nat.ble (Nat.add i 1) cs.length = true from bleT hi]
  have : splice cs i [v] = cs.set i v := by
    rw [splice_eq, List.set_eq_take_append_cons_drop, if_pos hi]; rfl
  rw [this]; rfl
theorem m_nck {tm : Tr V} {st : St} {x : X} : iNck x tm st = (x.ev tm).onPtr ((x.ev tm).onCmp none (fun t a l => bif Nat.ble t 1 || (Nat.beq t 5 || Nat.beq t 7) then some (.cmp t a l) else none)) (fun o i => some (.ref 1 o i 0 0 false)) := Eq.trans (Eq.refl _) rfl
theorem cB_len (l : List Nat) : (cB l).length = l.length := List.length_map _
theorem iad_B {L : List Nat} {x y : X} {tm : Tr V} {st : St} {i : Nat} (hx : x.ev tm = slT 4 L.length (cB L)) (hy : y.ev tm = .int 63 (Int.ofNat i)) (hi : i < L.length) : iIad 1 x y tm st = some (.cmp 5 0 (.int 8 (Int.ofNat L[i]) :: cB (L.drop (i + 1)))) := by
  rw [m_iad4 hx hy hi (by rw [cB_len]; omega)]
  congr 2
  rw [Nat.mul_one]
  unfold cB
  rw [← List.map_drop, List.drop_eq_getElem_cons hi]; rfl
theorem leave_slot {st st' : St} {tm : Tr V} {j : Nat} {v : V} (hv : X.ev tm (.t (pa j)) = v) (hne : v ≠ V.undef) : leaveF st [.t (pa j)] (some (.ret, tm, st')) = some (.ret v, back st (.ret v) st') := by
  show (Option.rec none (fun v => some (.ret v, back st (.ret v) st')) (tm.at (pa j)) : Option (CR × St)) = _
  rw [at_of_ev hv hne]
theorem next_ev {fns : Tr Fs} (get_next : fns.get 139 = some sh139) (n : Nat) {st : St} {o : Nat} {f : Fd} {vv vo : V} (h : FeedAt st o f vv vo) :
    ∃ b a st', evF fns (n + 1) 139 [.ref 1 o 0 0 0 false] st = some (.ret (.int 63 (Int.ofNat b)), st') ∧ b < 256 ∧ Moved o f vv vo a st st' := by
  rw [ev_mk get_next]
  obtain ⟨S0, hS0⟩ : ∃ S0 : St, S0 = { next := st.next, low := st.next, mem := st.mem } := ⟨_, rfl⟩
  have hn0 : S0.next = st.next := by rw [hS0]
  have hl0 : S0.low = st.next := by rw [hS0]
  have h0 : FeedAt S0 o f vv vo := by rw [hS0]; exact h.low _
  rw [← hS0]
  have hg := h0.get
  have hlt := h.lt
  by_cases hat : f.at_ < f.l.length
  · obtain ⟨S1, hS1⟩ : ∃ S1, S1 = S0.put o (some (.cells 215 [slT 4 f.l.length (cB f.l), .int 63 (Int.ofNat (f.at_ + 1)), vv, vo, .int 63 (Int.ofNat f.many)] true)) := ⟨_, rfl⟩
    have hst : stW 1 (.ref 1 o 1 0 0 false) (.int 63 (Int.ofNat (f.at_ + 1))) S0 = some (.undef, S1) := by rw [hS1, stW_at hg (cells_int _ _) (show 1 < 5 by decide)]; rfl
    have hg1 : S1.mem.get o = some (.cells 215 [slT 4 f.l.length (cB f.l), .int 63 (Int.ofNat (f.at_ + 1)), vv, vo, .int 63 (Int.ofNat f.many)] true) := by rw [hS1, put_get, if_pos rfl]
    have hadd : fAdd 63 (Int.ofNat f.at_) 1 = some (.int 63 (Int.ofNat (f.at_ + 1))) := f_add 63 _ 1 (by have := h.bytes; omega)
    have hsub : fSub 63 (Int.ofNat (f.at_ + 1)) 1 = some (.int 63 (Int.ofNat f.at_)) := f_sub 63 (f.at_ + 1) 1 (by omega) (by have := h.bytes; omega)
    have hia : ∀ (tm : Tr V) (p q : Pa), X.ev tm (.t p) = slT 4 f.l.length (cB f.l) → X.ev tm (.t q) = .int 63 (Int.ofNat f.at_) → iIad 1 (.t p) (.t q) tm S1 = _ := fun tm p q a b => iad_B a b hat
    have hb : f.l[f.at_] < 256 := h.bytes.1 _ (List.getElem_mem hat)
    have hcv : wrapC 63 (Int.ofNat f.l[f.at_]) = Int.ofNat f.l[f.at_] := wrap_lt (by omega)
    have hge : (!decide (f.at_ < f.l.length)) = false := by rw [decide_eq_true hat]; rfl
    simp only [c139_0, c139_1, c139_2, c139_3, c139_4, yX, iInt, iStr, iLenS, iLenL, iNot, iPick, iExt, if_true, if_false, reduceIte, Nat.reduceEqDiff, Nat.reduceAdd, reduceCtorEq, yD, yQ, x_oneK, x_oneL, m_nck, m_fad, m_add0, m_load, ldW_get hg, ldW_get hg1, part_c0, part_cs, x_slF, x_fsl4, f_geq, ltI_nat, hge, hadd, m_store, hst, hsub, hia, ldW_5, m_cvi, hcv]
    rw [leave_slot (v := .int 63 (Int.ofNat f.l[f.at_])) (by simp only [yL, if_true, if_false, reduceIte, Nat.reduceEqDiff, reduceCtorEq]) (fun h => nomatch h)]
    refine ⟨_, f.at_ + 1, _, rfl, hb, Moved.back h _ ⟨hlt, ?_, Nat.le_succ _, by rw [hS1]; exact Nat.le_of_eq hn0.symm, ⟨by rw [hS1, put_low]; simp only; omega, by rw [hS1, put_low]; simp only; omega⟩, fun x hx hne => by rw [hS1, put_get, if_neg hne, hS0], fun hl => by rw [hS1, put_low] at hl; omega⟩⟩
    exact (h.low st.next).move (by omega) hg1 (by rw [hS1]; exact Nat.le_of_eq hn0.symm) fun x hx hne => by rw [hS1, put_get, if_neg hne, hS0]
  · have hge : (!decide (f.at_ < f.l.length)) = true := by rw [decide_eq_false hat]; rfl
    simp only [c139_0, c139_1, c139_2, c139_3, c139_4, yX, iInt, iStr, iLenS, iLenL, iNot, iPick, iExt, if_true, if_false, reduceIte, Nat.reduceEqDiff, Nat.reduceAdd, reduceCtorEq, yD, yQ, x_oneK, x_oneL, m_nck, m_fad, m_add0, m_load, ldW_get hg, part_c0, part_cs, x_slF, x_fsl4, f_geq, ltI_nat, hge]
    refine ⟨0, f.at_, st, leave_scalar (v := .int 63 (Int.ofNat 0)) (by simp only [yL, if_true, if_false, reduceIte, Nat.reduceEqDiff, reduceCtorEq]; rfl) (fun h => nomatch h) rfl (by rw [hS0]; exact Aft.refl _ _), by decide, Moved.of_aft h (Aft.refl _ _) (Nat.le_refl _)⟩
end Go.Proofs.YtnccejmggcjaoaaGreatDoor.Av
