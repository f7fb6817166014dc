/-
  A FIELD OF A VARIABLE, by the feed.
-/
import Derived.Test.YtnccejmggcjaoaaGreatDoorFill
namespace Go.Proofs.YtnccejmggcjaoaaGreatDoor.Av
set_option linter.unusedVariables false
set_option linter.unusedSimpArgs false
set_option maxRecDepth 1000000
open Go
structure GenT (fns : Tr Fs) : Prop where
  next : fns.get 139 = some sh139
  map3 : fns.get 286 = some sh286
  ref : fns.get 277 = some sh277
section
variable {fns : Tr Fs} (gt : GenT fns)
include gt
theorem map3_ev (n : Nat) (kind : Str) (st : St) : evF fns (n + 1) 286 [.str kind] st = some (.ret (.str (if eqS kind [66] then [121] else [120])), st) := by
  rw [ev_mk gt.map3]
  have h : ∀ a : Str, sEql a [66] = some (.bool (eqS a [66])) := fun a => Eq.trans (Eq.refl _) rfl
  cases hk : eqS kind [66] with
  | true =>
    simp only [c286_0, c286_1, c286_2, c286_3, yX, iInt, iStr, iLenS, iLenL, iNot, iPick, iExt, if_true, if_false, reduceIte, Nat.reduceEqDiff, Nat.reduceAdd, reduceCtorEq, yQ, h, hk]
    exact leave_scalar (v := .str [121]) (by simp only [yL, if_true, if_false, reduceIte, Nat.reduceEqDiff, reduceCtorEq]) (fun h => nomatch h) rfl (Aft.refl _ _)
  | false =>
    simp only [c286_0, c286_1, c286_2, c286_3, yX, iInt, iStr, iLenS, iLenL, iNot, iPick, iExt, if_true, if_false, reduceIte, Nat.reduceEqDiff, Nat.reduceAdd, reduceCtorEq, yQ, h, hk]
    exact leave_scalar (v := .str [120]) (by simp only [yL, if_true, if_false, reduceIte, Nat.reduceEqDiff, reduceCtorEq]) (fun h => nomatch h) rfl (Aft.refl _ _)
omit gt in
theorem SlS.at {st : St} {v : V} {ss : List Str} (h : SlS st v ss) {i : Nat} (hi : i < ss.length) : ∃ k, v = .ref 3 k 0 ss.length ss.length false ∧ st.mem.get k = some (.cells 9 (ss.map .str) true) := by
  rcases h with ⟨rfl, _⟩ | ⟨k, _, h1, _, h3⟩
  · simp at hi
  · exact ⟨k, h1, h3⟩
omit gt in
theorem SlS.len {st : St} {v : V} {ss : List Str} (h : SlS st v ss) : V.onSlice (V.onFsl none (fun _ n _ _ _ => some (V.int 63 (Int.ofNat n))) v) (some (V.int 63 (Int.ofNat 0))) (fun _ _ n _ _ => some (V.int 63 (Int.ofNat n))) v = some (.int 63 (Int.ofNat ss.length)) := by
  rcases h with ⟨rfl, rfl⟩ | ⟨k, _, rfl, _⟩
  · rfl
  · rfl
abbrev rawR (v f : Str) : V := .cmp 2 0 [.int 63 1, .str [], .int 63 0, .str v, .str f, .ref 2 0 0 0 0 false]
set_option maxHeartbeats 4000000 in
theorem ref_ev (n : Nat) {st : St} {o : Nat} {f : Fd} {vv vo : V} (h : FeedAt st o f vv vo) (own kind : Str) :
    ∃ v fl a st', evF fns (n + 2) 277 [.ref 1 o 0 0 0 false, .str own, .str kind] st = some (.ret (rawR v fl), st') ∧ Moved o f vv vo a st st' := by
  rw [ev_mk gt.ref]
  obtain ⟨S0, hS0⟩ : ∃ S0 : St, S0 = { next := st.next, low := st.next, mem := st.mem } := ⟨_, rfl⟩
  have hn0 : S0.next = st.next := by rw [hS0]
  have h0 : FeedAt S0 o f vv vo := by rw [hS0]; exact h.low _
  rw [← hS0]
  have hlt := h.lt
  obtain ⟨S, hS⟩ : ∃ S, S = S0.new (.cells 43 zE true) := ⟨_, rfl⟩
  have m1 : Moved o f vv vo f.at_ S0 S := by rw [hS]; exact (Moved.start h0).new h0 _
  have hpe0 : S.mem.get S0.next = some (.cells 43 zE true) := by rw [hS, new_get, if_pos rfl]
  have hSn : S.next = S0.next + 1 := by rw [hS]; rfl
  obtain ⟨b, a, S1, k1, k2, k3⟩ := next_ev gt.next n m1.feed
  have m2 := m1.trans k3
  have hpe : S1.mem.get S0.next = some (.cells 43 zE true) := by rw [k3.mem _ (by omega) (by omega)]; exact hpe0
  have hg := m2.feed.get
  have hvs := m2.feed.vars
  have hos := m2.feed.of_
  obtain ⟨hl1, hl2, hl3⟩ := h.len
  have hnew : ∀ tm : Tr V, iAlloc 43 zE tm S0 = some (.ref 1 S0.next 0 0 0 false, S) := fun tm => by rw [hS]; rfl
  have hbsl : ∀ (tm : Tr V) (s : Str), X.ev tm (.t (pa 48)) = .str s → iBsl 9 2 [.str [], .str []] [(0, 1, .c (.str [107])), (1, 1, .t (pa 48))] tm S1 = some (.ref 3 S1.next 0 2 2 true, S1.new (.cells 9 [.str [107], .str s] true)) := fun tm s hs => by
    rw [m_bsl, fillV_c, x_evc, cells_str, fillS_1 (by decide), fillV_c, hs, cells_str, fillS_1 (by decide), fillV_0]; rfl
  have hq : fQuo 63 (Int.ofNat b) 64 = some (.int 63 (Int.ofNat (b / 64))) := f_quo 63 b 64 (by omega) (by decide)
  have hr : fRem 63 (Int.ofNat (b / 64)) 2 = some (.int 63 (Int.ofNat (b / 64 % 2))) := f_rem 63 _ 2 (by decide)
  have hr3 : fRem 63 (Int.ofNat b) 3 = some (.int 63 (Int.ofNat (b % 3))) := f_rem 63 _ 3 (by decide)
  have hq3 : fQuo 63 (Int.ofNat b) 3 = some (.int 63 (Int.ofNat (b / 3))) := f_quo 63 b 3 (by omega) (by decide)
  have hgt : ltI 0 (Int.ofNat f.vars.length) = decide (0 < f.vars.length) := ltI_nat 0 _
  have he0 : eqI (Int.ofNat (b % 3)) 0 = decide (b % 3 = 0) := eqI_nat _ 0
  have hz : b / 64 % 2 < 2 := Nat.mod_lt _ (by decide)
  have fin : ∀ (own2 s : Str), ∃ fl, (∀ tm : Tr V, X.ev tm (.t (pa 49)) = .ref 3 S1.next 0 2 2 true → X.ev tm (.t (pa 52)) = .int 63 (Int.ofNat (b / 64 % 2)) → iIad 1 (.t (pa 49)) (.t (pa 52)) tm (S1.new (.cells 9 [.str [107], .str s] true)) = some (.ref 1 S1.next (b / 64 % 2) 0 0 false)) ∧
      ldW false 1 (.ref 1 S1.next (b / 64 % 2) 0 0 false) (S1.new (.cells 9 [.str [107], .str s] true)) = some (.str fl) ∧
      ∃ T, stW 6 (.ref 1 S0.next 0 0 0 false) (.cmp 2 0 [.int 63 1, .str [], .int 63 0, .str own2, .str fl, .ref 2 0 0 0 0 false]) (S1.new (.cells 9 [.str [107], .str s] true)) = some (.undef, T) ∧ ldW true 6 (.ref 1 S0.next 0 0 0 false) T = some (rawR own2 fl) ∧ ∀ r, Moved o f vv vo a st (back st r T) := by
    intro own2 s
    have hge : (S1.new (.cells 9 [.str [107], .str s] true)).mem.get S0.next = some (.cells 43 zE true) := by
      rw [new_get, if_neg (by have := k3.next; omega)]; exact hpe
    have hgs : (S1.new (.cells 9 [.str [107], .str s] true)).mem.get S1.next = some (.cells 9 [.str [107], .str s] true) := new_get_self' _ _
    have hcs : ∃ fl, ([V.str [107], V.str s])[b / 64 % 2]? = some (.str fl) := by
      rcases (show b / 64 % 2 = 0 ∨ b / 64 % 2 = 1 by omega) with h | h <;> rw [h] <;> exact ⟨_, rfl⟩
    obtain ⟨fl, hfl⟩ := hcs
    refine ⟨fl, fun tm h1 h2 => by rw [iad_own h1 h2 hz, Nat.mul_one], by rw [ldW_get hgs]; exact part_nth hfl, _, stW_whole hge rfl rfl, by rw [ldW_get (by rw [put_get, if_pos rfl])]; exact part_whole rfl, fun r => Moved.back h r ?_⟩
    have := ((m2.new h0 (.cells 9 [.str [107], .str s] true)).put h0 (Nat.le_refl _) (some (.cells 43 [.int 63 1, .str [], .int 63 0, .str own2, .str fl, .ref 2 0 0 0 0 false] true)))
    rw [hS0] at this ⊢; exact this
  have hm3 := fun kd => map3_ev gt n kd S1
  by_cases hc : 0 < f.vars.length ∧ b % 3 = 0
  · obtain ⟨hc1, hc2⟩ := hc
    have hd1 : decide (0 < f.vars.length) = true := decide_eq_true hc1
    have hd2 : decide (b % 3 = 0) = true := decide_eq_true hc2
    have hri : fRem 63 (Int.ofNat (b / 3)) (Int.ofNat f.vars.length) = some (.int 63 (Int.ofNat (b / 3 % f.vars.length))) := f_rem 63 _ _ hc1
    have hi : b / 3 % f.vars.length < f.vars.length := Nat.mod_lt _ hc1
    obtain ⟨kv, rfl, hgv⟩ := hvs.at hi
    have hio : b / 3 % f.vars.length < f.of_.length := by rw [← hl1]; exact hi
    obtain ⟨ko, rfl, hgo⟩ := hos.at hio
    have hv1 : ldW false 1 (.ref 1 kv (b / 3 % f.vars.length) 0 0 false) S1 = some (.str f.vars[b / 3 % f.vars.length]) := by rw [ldW_get hgv]; exact part_nth (by rw [List.getElem?_map, List.getElem?_eq_getElem hi]; rfl)
    have ho1 : ldW false 1 (.ref 1 ko (b / 3 % f.vars.length) 0 0 false) S1 = some (.str f.of_[b / 3 % f.vars.length]) := by rw [ldW_get hgo]; exact part_nth (by rw [List.getElem?_map, List.getElem?_eq_getElem hio]; rfl)
    have hia : ∀ (tm : Tr V) (p q : Pa), X.ev tm (.t p) = .ref 3 kv 0 f.vars.length f.vars.length false → X.ev tm (.t q) = .int 63 (Int.ofNat (b / 3 % f.vars.length)) → iIad 1 (.t p) (.t q) tm S1 = some (.ref 1 kv (b / 3 % f.vars.length) 0 0 false) := fun tm p q a b => by rw [iad_own a b hi, Nat.mul_one]
    have hib : ∀ (tm : Tr V) (p q : Pa), X.ev tm (.t p) = .ref 3 ko 0 f.of_.length f.of_.length false → X.ev tm (.t q) = .int 63 (Int.ofNat (b / 3 % f.vars.length)) → iIad 1 (.t p) (.t q) tm S1 = some (.ref 1 ko (b / 3 % f.vars.length) 0 0 false) := fun tm p q a b => by rw [iad_own a b hio, Nat.mul_one]
    obtain ⟨fl, f1, f2, T, f3, f4, f5⟩ := fin f.vars[b / 3 % f.vars.length] (if eqS f.of_[b / 3 % f.vars.length] [66] then [121] else [120])
    have hbs := fun tm => hbsl tm (if eqS f.of_[b / 3 % f.vars.length] [66] then [121] else [120])
    simp only [c277_0, c277_1, c277_2, c277_3, c277_4, c277_5, yX, iInt, iStr, iLenS, iLenL, iNot, iPick, iExt, if_true, if_false, reduceIte, Nat.reduceEqDiff, Nat.reduceAdd, reduceCtorEq, yQ, hnew, k1, m_nck, m_fad, m_add0, m_load, ldW_get hg, part_c0, part_cs, hvs.len, f_gtr, hgt, hd1, hr3, f_eql, he0, hd2, hq3, hri, hia, hib, hv1, ho1, hm3, hbs, hq, hr, f1, f2, m_build, fillV_c, fillV_0, cells_int, cells_str, fillS_1, List.length_cons, List.length_nil, Nat.reduceLT, List.set_cons_zero, List.set_cons_succ, m_store, f3]
    rw [leave_mem (v := rawR f.vars[b / 3 % f.vars.length] fl) (by simp only [yL, if_true, if_false, reduceIte, Nat.reduceEqDiff, reduceCtorEq]; exact f4)]
    exact ⟨_, _, a, _, rfl, f5 _⟩
  · have hd : (Bool.rec (some (V.bool false)) (some (V.bool (decide (b % 3 = 0)))) (decide (0 < f.vars.length)) : Option V) = some (.bool false) := by
      by_cases h1 : 0 < f.vars.length
      · rw [decide_eq_true h1, decide_eq_false (fun h => hc ⟨h1, h⟩)]
      · rw [decide_eq_false h1]
    obtain ⟨fl, f1, f2, T, f3, f4, f5⟩ := fin own (if eqS kind [66] then [121] else [120])
    have hbs := fun tm => hbsl tm (if eqS kind [66] then [121] else [120])
    by_cases h1 : 0 < f.vars.length
    · have hd1 : decide (0 < f.vars.length) = true := decide_eq_true h1
      have hd2 : decide (b % 3 = 0) = false := decide_eq_false fun h => hc ⟨h1, h⟩
      simp only [c277_0, c277_1, c277_2, c277_3, c277_4, c277_5, yX, iInt, iStr, iLenS, iLenL, iNot, iPick, iExt, if_true, if_false, reduceIte, Nat.reduceEqDiff, Nat.reduceAdd, reduceCtorEq, yQ, hnew, k1, m_nck, m_fad, m_add0, m_load, ldW_get hg, part_c0, part_cs, hvs.len, f_gtr, hgt, hd1, hr3, f_eql, he0, hd2, hm3, hbs, hq, hr, f1, f2, m_build, fillV_c, fillV_0, cells_int, cells_str, fillS_1, List.length_cons, List.length_nil, Nat.reduceLT, List.set_cons_zero, List.set_cons_succ, m_store, f3]
      rw [leave_mem (v := rawR own fl) (by simp only [yL, if_true, if_false, reduceIte, Nat.reduceEqDiff, reduceCtorEq]; exact f4)]
      exact ⟨_, _, a, _, rfl, f5 _⟩
    · have hd1 : decide (0 < f.vars.length) = false := decide_eq_false h1
      simp only [c277_0, c277_1, c277_2, c277_3, c277_4, c277_5, yX, iInt, iStr, iLenS, iLenL, iNot, iPick, iExt, if_true, if_false, reduceIte, Nat.reduceEqDiff, Nat.reduceAdd, reduceCtorEq, yQ, hnew, k1, m_nck, m_fad, m_add0, m_load, ldW_get hg, part_c0, part_cs, hvs.len, f_gtr, hgt, hd1, hm3, hbs, hq, hr, f1, f2, m_build, fillV_c, fillV_0, cells_int, cells_str, fillS_1, List.length_cons, List.length_nil, Nat.reduceLT, List.set_cons_zero, List.set_cons_succ, m_store, f3]
      rw [leave_mem (v := rawR own fl) (by simp only [yL, if_true, if_false, reduceIte, Nat.reduceEqDiff, reduceCtorEq]; exact f4)]
      exact ⟨_, _, a, _, rfl, f5 _⟩
end
end Go.Proofs.YtnccejmggcjaoaaGreatDoor.Av
