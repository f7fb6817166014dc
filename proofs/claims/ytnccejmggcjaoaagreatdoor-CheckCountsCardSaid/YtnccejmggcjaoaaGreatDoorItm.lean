/-
  AN ITEM, by the feed.
-/
import Derived.Test.YtnccejmggcjaoaaGreatDoorWent
namespace Go.Proofs.YtnccejmggcjaoaaGreatDoor.Av
set_option linter.unusedVariables false
set_option linter.unusedSimpArgs false
set_option maxRecDepth 1000000
open Go
def plainI : It → Prop
  | .mk k n v p lo hi ks => (k = 0 ∧ lo = 0 ∧ hi = 0 ∨ k = 1 ∧ 1 ≤ lo ∧ lo ≤ 2 ∧ lo ≤ hi ∧ hi ≤ lo + 1 ∨ k = 2 ∧ lo = 0 ∧ hi = 0) ∧ ks = [] ∧ p.length ≤ 1 ∧ szEs p ≤ 15
def altI : It → Prop
  | .mk k n v p lo hi ks => k = 3 ∧ lo = 0 ∧ hi = 0 ∧ p = [] ∧ ∃ l r, ks = [l, r] ∧ ((∀ x ∈ l, plainI x) ∧ 1 ≤ l.length ∧ l.length ≤ 2) ∧ (∀ x ∈ r, plainI x) ∧ 1 ≤ r.length ∧ r.length ≤ 2
def wI : It → Nat
  | .mk _ _ _ _ _ _ ks => 1 + (ks.map List.length).sum
def It.k : It → Int
  | .mk k _ _ _ _ _ _ => k
def ItemPost (d : Nat) (nt : Bool) (f f' : Fd) (x : It) : Prop := f'.many = f.many + wI x ∧ (plainI x ∨ 0 < d ∧ altI x ∧ f'.many ≤ 8) ∧ (nt = false → x.k ≠ 2)
def Its0 (f f' : Fd) (l : List It) : Prop := (∀ x ∈ l, plainI x) ∧ 1 ≤ l.length ∧ l.length ≤ 2 ∧ f'.many = f.many + l.length
abbrev itemArgs (o d : Nat) (nt : Bool) : List V := [.ref 1 o 0 0 0 false, .int 63 (Int.ofNat d), .bool nt]
abbrev row7 (k : Int) (n v : Str) (p : V) (lo hi : Int) (ks : V) : List V := [.int 63 k, .str n, .str v, p, .int 63 lo, .int 63 hi, ks]
abbrev nilV : V := .ref 2 0 0 0 0 false
abbrev feedC (f : Fd) (vv vo : V) : List V := [slT 4 f.l.length (cB f.l), .int 63 (Int.ofNat f.at_), vv, vo, .int 63 (Int.ofNat f.many)]
theorem mem1 : memN [1] 1 = true := by kernel_rfl
theorem cells_slT (n : Nat) (l : List V) : (slT 4 n l).cells? = some [slT 4 n l] := cells_fsl _ _ _ (by decide) (by decide)
theorem Went.after {o : Nat} {f f' : Fd} {v w : V} {s s' : St} (h : Went o f f' v w s.fresh s') (hl : s.low ≤ s.next) : Went o f f' v w s (s.after s') := by
  have h1 := h.low
  have h2 : s.fresh.low = s.next := rfl
  have hlt : o < s.next := h.lt
  have hlo : (s.after s').low = min s.low s'.low := by
    show (bif Nat.ble s.low s'.low then s.low else s'.low) = _
    by_cases hb : s.low ≤ s'.low
    · rw [bleT hb, cond_true]; omega
    · rw [bleF hb, cond_false]; omega
  exact ⟨hlt, ⟨h.feed.lt, h.feed.get, h.feed.vars, h.feed.of_, h.feed.len, h.feed.bytes⟩, h.sep, h.next, by rw [hlo]; omega, h.mem, h.l⟩
theorem fin7 {T : St} {a k : Nat} {z R : List V} (hz : T.mem.get a = some (.cells 34 z true)) (hzl : z.length = 7) (hg : T.mem.get k = some (.cells 34 R true)) (hl : R.length = 7) :
    ldW true 7 (.ref 1 k 0 0 0 false) T = some (.cmp 2 0 R) ∧ stW 7 (.ref 1 a 0 0 0 false) (.cmp 2 0 R) T = some (.undef, T.put a (some (.cells 34 R true))) ∧ ldW true 7 (.ref 1 a 0 0 0 false) (T.put a (some (.cells 34 R true))) = some (.cmp 2 0 R) :=
  ⟨by rw [ldW_get hg]; exact part_whole hl, stW_whole hz hl hzl, by rw [ldW_get (by rw [put_get, if_pos rfl])]; exact part_whole hl⟩
theorem names_ev {T : St} {o : Nat} {f : Fd} {vv vo : V} (h : FeedAt T o f vv vo) (hs : Sep o vv vo) (own kind : Str) (hm : f.vars.length < f.many) (hlw : T.low ≤ o) :
    ∃ T2 T3 T5 T6 v2 w2, ldW false 1 (.ref 1 o 2 0 0 false) T = some vv ∧
      (∀ (tm : Tr V) (x y : X), X.ev tm x = vv → X.ev tm y = .ref 3 T.next 0 1 1 true → iApp false 9 1 16 x y tm (T.new (.cells 9 [.str own] true)) = some (v2, T2)) ∧ stW 1 (.ref 1 o 2 0 0 false) v2 T2 = some (.undef, T3) ∧
      ldW false 1 (.ref 1 o 3 0 0 false) T3 = some vo ∧
      (∀ (tm : Tr V) (x y : X), X.ev tm x = vo → X.ev tm y = .ref 3 T3.next 0 1 1 true → iApp false 9 1 16 x y tm (T3.new (.cells 9 [.str kind] true)) = some (w2, T5)) ∧ stW 1 (.ref 1 o 3 0 0 false) w2 T5 = some (.undef, T6) ∧
      Went o f { f with vars := f.vars ++ [own], of_ := f.of_ ++ [kind] } v2 w2 T T6 ∧ T6.low ≤ o := by
  obtain ⟨hl1, hl2, hl3⟩ := h.len
  obtain ⟨T1, hT1⟩ : ∃ T1, T1 = T.new (.cells 9 [.str own] true) := ⟨_, rfl⟩
  have n1 : T1.next = T.next + 1 := by rw [hT1]; rfl
  have f1 : FeedAt T1 o f vv vo := h.same (by omega) fun x hx _ => by rw [hT1, new_get, if_neg (by omega)]
  obtain ⟨T2, a1, a2, a3, a4, a5, a6⟩ := app_ev f1.vars (ks := T.next) (s := own) (by rw [hT1]; exact new_get_self' _ _) (by omega)
  have hlt := h.lt
  have g2 : T2.mem.get o = some (.cells 215 (feedC f vv vo) true) := by
    rw [a4 o (by omega) (fun n e => by have := hs.v o n e; omega)]; exact f1.get
  obtain ⟨T3, hT3⟩ : ∃ T3, T3 = T2.put o (some (.cells 215 [slT 4 f.l.length (cB f.l), .int 63 (Int.ofNat f.at_), .ref 3 T1.next 0 (f.vars.length + 1) (f.vars.length + 1) false, vo, .int 63 (Int.ofNat f.many)] true)) := ⟨_, rfl⟩
  have n3 : T3.next = T.next + 2 := by rw [hT3]; show T2.next = _; omega
  have hof3 : SlS T3 vo f.of_ := by
    rcases f1.of_ with h | ⟨k, h0, h1, h2, h3⟩
    · exact .inl h
    · have hko : o < k := hs.w k _ h1
      exact .inr ⟨k, h0, h1, by omega, by rw [hT3, put_get, if_neg (by omega), a4 k h2 (fun n e => hs.ne k n _ e h1)]; exact h3⟩
  obtain ⟨T4, hT4⟩ : ∃ T4, T4 = T3.new (.cells 9 [.str kind] true) := ⟨_, rfl⟩
  have n4 : T4.next = T.next + 3 := by rw [hT4]; show T3.next + 1 = _; omega
  have hof4 : SlS T4 vo f.of_ := by
    rcases hof3 with h | ⟨k, h0, h1, h2, h3⟩
    · exact .inl h
    · exact .inr ⟨k, h0, h1, by omega, by rw [hT4, new_get, if_neg (by omega)]; exact h3⟩
  obtain ⟨T5, b1, b2, b3, b4, b5, b6⟩ := app_ev hof4 (ks := T3.next) (s := kind) (by rw [hT4]; exact new_get_self' _ _) (by omega)
  have g3 : T3.mem.get o = some (.cells 215 [slT 4 f.l.length (cB f.l), .int 63 (Int.ofNat f.at_), .ref 3 T1.next 0 (f.vars.length + 1) (f.vars.length + 1) false, vo, .int 63 (Int.ofNat f.many)] true) := by rw [hT3, put_get, if_pos rfl]
  have g4 : T4.mem.get o = T3.mem.get o := by rw [hT4, new_get, if_neg (by omega)]
  have g5 : T5.mem.get o = T3.mem.get o := by rw [b4 o (by omega) (fun n e => by have := hs.w o n e; omega), g4]
  have hv3 : T3.mem.get T1.next = some (.cells 9 ((f.vars ++ [own]).map .str) true) := by rw [hT3, put_get, if_neg (by omega)]; exact a3
  have hvn : ∀ n, vo ≠ .ref 3 T1.next 0 n n false := fun n e => by
    rcases f1.of_ with h | ⟨k, h0, h1, h2, h3⟩
    · rw [h.2] at e; exact nomatch e
    · rw [h1] at e; injection e with _ e; omega
  have hv5 : T5.mem.get T1.next = some (.cells 9 ((f.vars ++ [own]).map .str) true) := by
    rw [b4 _ (by omega) hvn, hT4, new_get, if_neg (by omega)]; exact hv3
  obtain ⟨T6, hT6⟩ : ∃ T6, T6 = T5.put o (some (.cells 215 [slT 4 f.l.length (cB f.l), .int 63 (Int.ofNat f.at_), .ref 3 T1.next 0 (f.vars.length + 1) (f.vars.length + 1) false, .ref 3 T4.next 0 (f.of_.length + 1) (f.of_.length + 1) false, .int 63 (Int.ofNat f.many)] true)) := ⟨_, rfl⟩
  have n6 : T6.next = T.next + 4 := by rw [hT6]; show T5.next = _; omega
  have s6 : Sep o (.ref 3 T1.next 0 (f.vars.length + 1) (f.vars.length + 1) false) (.ref 3 T4.next 0 (f.of_.length + 1) (f.of_.length + 1) false) :=
    ⟨fun k n e => by injection e with _ e; omega, fun k n e => by injection e with _ e; omega, fun k n m e e' => by injection e with _ e; injection e' with _ e'; omega⟩
  have q6 : FeedAt T6 o { f with vars := f.vars ++ [own], of_ := f.of_ ++ [kind] } (.ref 3 T1.next 0 (f.vars.length + 1) (f.vars.length + 1) false) (.ref 3 T4.next 0 (f.of_.length + 1) (f.of_.length + 1) false) := by
    refine ⟨by omega, by rw [hT6, put_get, if_pos rfl], .inr ⟨T1.next, by simp, by simp, by omega, by rw [hT6, put_get, if_neg (by omega)]; exact hv5⟩, .inr ⟨T4.next, by simp, by simp, by omega, by rw [hT6, put_get, if_neg (by omega)]; exact b3⟩, ⟨by simp [hl1], by simp only [List.length_append, List.length_cons, List.length_nil]; omega, hl3⟩, h.bytes⟩
  have lo3 : T3.low ≤ T.low ∧ min o T.low ≤ T3.low := by
    have e1 : T1.low = T.low := by rw [hT1]; rfl
    have e2 := a6 (min o T.low) (by omega) (fun k n e => by have := hs.v k n e; omega)
    rw [hT3, put_low]; omega
  have lo6 : T6.low ≤ T.low ∧ min o T.low ≤ T6.low ∧ T6.low ≤ o := by
    have e1 : T4.low = T3.low := by rw [hT4]; rfl
    have e2 := b6 (min o T.low) (by omega) (fun k n e => by have := hs.w k n e; omega)
    rw [hT6, put_low]; omega
  refine ⟨T2, T3, T5, T6, _, _, by rw [ldW_get h.get]; rfl, fun tm x y hx hy => ?_, ?_, by rw [ldW_get g3]; rfl, fun tm x y hx hy => ?_, ?_, ⟨hlt, q6, s6, by omega, ⟨lo6.2.1, lo6.1⟩, fun x hx hne hns => ?_, rfl⟩, lo6.2.2⟩
  · rw [← hT1]; exact a1 tm x y hx hy
  · rw [stW_at g2 (cells_ref _ _ _ _ _ _) (show 2 < 5 by decide), hT3]; rfl
  · rw [← hT4]; exact b1 tm x y hx hy
  · rw [stW_at (g5.trans g3) (cells_ref _ _ _ _ _ _) (show 3 < 5 by decide), hT6]; rfl
  · have h1 : ∀ n, vv ≠ .ref 3 x 0 n n false := fun n e => by
      rcases h.vars with h | ⟨k, h0, h1, h2, h3⟩
      · rw [h.2] at e; exact nomatch e
      · rw [h1] at e; injection e with _ e; subst e; exact hns _ h3
    have h2 : ∀ n, vo ≠ .ref 3 x 0 n n false := fun n e => by
      rcases h.of_ with h | ⟨k, h0, h1, h2, h3⟩
      · rw [h.2] at e; exact nomatch e
      · rw [h1] at e; injection e with _ e; subst e; exact hns _ h3
    rw [hT6, put_get, if_neg hne, b4 x (by omega) h2, hT4, new_get, if_neg (by omega), hT3, put_get, if_neg hne, a4 x (by omega) h1, hT1, new_get, if_neg (by omega)]
section
variable {fns : Tr Fs} (gt : GenT fns) (htab : TableOk Tryz.prog fns)
include gt htab
set_option maxHeartbeats 16000000 in
theorem item_at (n : Nat) {st : St} {o : Nat} {f : Fd} {vv vo : V} (h : FeedAt st o f vv vo) (hs : Sep o vv vo) (d : Nat) (hd : d ≤ 1) (nt : Bool) (hm : f.many ≤ 20) (kp : KnownP fns)
    (hits : 0 < d → ∀ {st : St} {f : Fd} {vv vo : V}, FeedAt st o f vv vo → Sep o vv vo → f.many ≤ 6 → ∃ l f' vv' vo' st', evF fns (n + 2) 140 [.ref 1 o 0 0 0 false, .int 63 (Int.ofNat (d - 1)), .int 63 2] st = some (.ret (slT 4 l.length (cIs l)), st') ∧ Its0 f f' l ∧ Went o f f' vv' vo' st st' ∧ st'.low ≤ o) :
    ∃ x f' vv' vo' st', CallAt Tryz.prog 191 (itemArgs o d nt) st (.ret (.cmp 2 0 (cI x))) st' ∧ ItemPost d nt f f' x ∧ Went o f f' vv' vo' st st' ∧ st'.low ≤ o := by
  have call : ∀ {r : CR} {T : St}, enterF (evF fns (n + 2)) (n + 2) _ _ (itemArgs o d nt) st = some (r, T) → CallAt Tryz.prog 191 (itemArgs o d nt) st r T := fun h => callAt_in mixedZ htab ok191 h
  unfold enterF at call
  obtain ⟨S0, hS0⟩ : ∃ S0 : St, S0 = { next := st.next, low := st.next, mem := st.mem } := ⟨_, rfl⟩
  have hn0 : S0.next = st.next := by rw [hS0]
  have h0 : FeedAt S0 o f vv vo := by rw [hS0]; exact h.low _
  rw [← hS0] at call
  have hlt := h.lt
  obtain ⟨hl1, hl2, hl3⟩ := h.len
  obtain ⟨S1, hS1⟩ : ∃ S, S = S0.new (.cells 34 zI true) := ⟨_, rfl⟩
  have n1 : S1.next = S0.next + 1 := by rw [hS1]; rfl
  have w1 : Went o f f vv vo S0 S1 := by rw [hS1]; exact (Went.start h0 hs).new _
  have g1 : S1.mem.get S0.next = some (.cells 34 zI true) := by rw [hS1, new_get, if_pos rfl]
  obtain ⟨b, a, S2, k1, k2, k3⟩ := next_ev gt.next (n + 1) w1.feed
  have w2 := w1.trans (k3.went hs)
  have n2 := k3.next
  have g2 : S2.mem.get S0.next = some (.cells 34 zI true) := by rw [k3.mem _ (by omega) (by omega)]; exact g1
  have qm2 := w2.feed.get
  obtain ⟨f3, hf3⟩ : ∃ f3 : Fd, f3 = { f with at_ := a, many := f.many + 1 } := ⟨_, rfl⟩
  obtain ⟨S3, hS3⟩ : ∃ S, S = S2.put o (some (.cells 215 (feedC f3 vv vo) true)) := ⟨_, rfl⟩
  have n3 : S3.next = S2.next := by rw [hS3]; rfl
  have w3 : Went o f f3 vv vo S0 S3 := by
    rw [hS3]
    refine w2.own (by rw [hf3]) ⟨w2.feed.lt, by rw [put_get, if_pos rfl], ?_, ?_, ?_, ?_⟩ hs
    · rw [hf3]; exact w2.feed.vars.keep qm2 (w2.feed.ne w2.feed.vars) (Nat.le_refl _) fun x _ hne => by rw [put_get, if_neg hne]
    · rw [hf3]; exact w2.feed.of_.keep qm2 (w2.feed.ne w2.feed.of_) (Nat.le_refl _) fun x _ hne => by rw [put_get, if_neg hne]
    · rw [hf3]; exact ⟨hl1, by show f.vars.length ≤ f.many + 1; omega, by show f.many + 1 < 1000; omega⟩
    · rw [hf3]; exact w2.feed.bytes
  have lo3 : S3.low ≤ o := by rw [hS3, put_low]; exact Nat.min_le_right _ _
  have g3 : S3.mem.get S0.next = some (.cells 34 zI true) := by rw [hS3, put_get, if_neg (by omega)]; exact g2
  obtain ⟨S4, hS4⟩ : ∃ S, S = S3.new (.cells 9 [.str [65], .str [66], .str [67]] true) := ⟨_, rfl⟩
  obtain ⟨S5, hS5⟩ : ∃ S, S = S4.new (.cells 9 [.str [97], .str [98], .str [99], .str [100], .str [101], .str [102], .str [103], .str [104], .str [105], .str [106], .str [108], .str [109]] true) := ⟨_, rfl⟩
  have n4 : S4.next = S3.next + 1 := by rw [hS4]; rfl
  have n5 : S5.next = S3.next + 2 := by rw [hS5]; show S4.next + 1 = _; omega
  have w5 : Went o f f3 vv vo S0 S5 := by rw [hS5, hS4]; exact (w3.new _).new _
  have g5 : S5.mem.get S0.next = some (.cells 34 zI true) := by rw [hS5, new_get, if_neg (by omega), hS4, new_get, if_neg (by omega)]; exact g3
  have hb3 : b % 3 < 3 := Nat.mod_lt _ (by decide)
  have hb12 : (f.many + 1) % 12 < 12 := Nat.mod_lt _ (by decide)
  obtain ⟨kind, hkind⟩ : ∃ kind : Str, ([V.str [65], .str [66], .str [67]])[b % 3]? = some (.str kind) := by
    rcases (show b % 3 = 0 ∨ b % 3 = 1 ∨ b % 3 = 2 by omega) with h | h | h <;> rw [h] <;> exact ⟨_, rfl⟩
  obtain ⟨own, hown⟩ : ∃ own : Str, ([V.str [97], .str [98], .str [99], .str [100], .str [101], .str [102], .str [103], .str [104], .str [105], .str [106], .str [108], .str [109]])[(f.many + 1) % 12]? = some (.str own) := by
    rcases (show (f.many + 1) % 12 = 0 ∨ (f.many + 1) % 12 = 1 ∨ (f.many + 1) % 12 = 2 ∨ (f.many + 1) % 12 = 3 ∨ (f.many + 1) % 12 = 4 ∨ (f.many + 1) % 12 = 5 ∨ (f.many + 1) % 12 = 6 ∨ (f.many + 1) % 12 = 7 ∨ (f.many + 1) % 12 = 8 ∨ (f.many + 1) % 12 = 9 ∨ (f.many + 1) % 12 = 10 ∨ (f.many + 1) % 12 = 11 by omega) with h | h | h | h | h | h | h | h | h | h | h | h <;> rw [h] <;> exact ⟨_, rfl⟩
  obtain ⟨S6, hS6⟩ : ∃ S, S = loc S5 34 zI (row7 0 kind own nilV 0 0 nilV) := ⟨_, rfl⟩
  have n6 : S6.next = S5.next + 1 := by rw [hS6]; rfl
  have gz5 : ∀ c : Ob, (S5.new c).mem.get S5.next = some c := fun c => new_get_self' _ _
  have w6 : Went o f f3 vv vo S0 S6 := by rw [hS6]; exact (w5.new _).put (by omega) (gz5 _) ⟨by decide, by decide⟩ _
  have g6 : S6.mem.get S0.next = some (.cells 34 zI true) := by rw [hS6, loc_ne (by omega)]; exact g5
  have r6 : S6.mem.get S5.next = some (.cells 34 (row7 0 kind own nilV 0 0 nilV) true) := by rw [hS6]; exact loc_get _ _ _ _
  have lo6 : S6.low ≤ o := by
    have e4 : S5.low = S3.low := by rw [hS5, hS4]; rfl
    rw [hS6, loc_low']; omega
  have hnew : ∀ tm : Tr V, iAlloc 34 zI tm S0 = some (.ref 1 S0.next 0 0 0 false, S1) := fun tm => by rw [hS1]; rfl
  have many2 : ldW false 1 (.ref 1 o 4 0 0 false) S2 = some (.int 63 (Int.ofNat f.many)) := by rw [ldW_get qm2]; rfl
  have hadd : fAdd 63 (Int.ofNat f.many) 1 = some (.int 63 (Int.ofNat (f.many + 1))) := f_add 63 _ 1 (by omega)
  have st3 : stW 1 (.ref 1 o 4 0 0 false) (.int 63 (Int.ofNat (f.many + 1))) S2 = some (.undef, S3) := by rw [stW_at qm2 (cells_int _ _) (show 4 < 5 by decide), hS3, hf3]; rfl
  have bs3 : ∀ tm : Tr V, iBsl 9 3 [.str [], .str [], .str []] [(0, 1, .c (.str [65])), (1, 1, .c (.str [66])), (2, 1, .c (.str [67]))] tm S3 = some (.ref 3 S3.next 0 3 3 true, S4) := fun tm => by rw [hS4]; rfl
  have hr3 : fRem 63 (Int.ofNat b) 3 = some (.int 63 (Int.ofNat (b % 3))) := f_rem 63 _ 3 (by decide)
  have ia3 : ∀ (tm : Tr V), X.ev tm (.t (pa 20)) = .ref 3 S3.next 0 3 3 true → X.ev tm (.t (pa 22)) = .int 63 (Int.ofNat (b % 3)) → iIad 1 (.t (pa 20)) (.t (pa 22)) tm S4 = some (.ref 1 S3.next (b % 3) 0 0 false) := fun tm h1 h2 => by rw [iad_own h1 h2 hb3, Nat.mul_one]
  have ld4 : ldW false 1 (.ref 1 S3.next (b % 3) 0 0 false) S4 = some (.str kind) := by rw [ldW_get (by rw [hS4]; exact new_get_self' _ _)]; exact part_nth hkind
  have bs12 : ∀ tm : Tr V, iBsl 9 12 [.str [], .str [], .str [], .str [], .str [], .str [], .str [], .str [], .str [], .str [], .str [], .str []] [(0, 1, .c (.str [97])), (1, 1, .c (.str [98])), (2, 1, .c (.str [99])), (3, 1, .c (.str [100])), (4, 1, .c (.str [101])), (5, 1, .c (.str [102])), (6, 1, .c (.str [103])), (7, 1, .c (.str [104])), (8, 1, .c (.str [105])), (9, 1, .c (.str [106])), (10, 1, .c (.str [108])), (11, 1, .c (.str [109]))] tm S4 = some (.ref 3 S4.next 0 12 12 true, S5) := fun tm => by rw [hS5]; rfl
  have many5 : ldW false 1 (.ref 1 o 4 0 0 false) S5 = some (.int 63 (Int.ofNat (f.many + 1))) := by rw [ldW_get w5.feed.get, hf3]; rfl
  have hr12 : fRem 63 (Int.ofNat (f.many + 1)) 12 = some (.int 63 (Int.ofNat ((f.many + 1) % 12))) := f_rem 63 _ 12 (by decide)
  have ia12 : ∀ (tm : Tr V), X.ev tm (.t (pa 25)) = .ref 3 S4.next 0 12 12 true → X.ev tm (.t (pa 30)) = .int 63 (Int.ofNat ((f.many + 1) % 12)) → iIad 1 (.t (pa 25)) (.t (pa 30)) tm S5 = some (.ref 1 S4.next ((f.many + 1) % 12) 0 0 false) := fun tm h1 h2 => by rw [iad_own h1 h2 hb12, Nat.mul_one]
  have ld5 : ldW false 1 (.ref 1 S4.next ((f.many + 1) % 12) 0 0 false) S5 = some (.str own) := by rw [ldW_get (by rw [hS5]; exact new_get_self' _ _)]; exact part_nth hown
  have al10 : ∀ tm : Tr V, iAlloc 34 zI tm S5 = some (.ref 1 S5.next 0 0 0 false, S5.new (.cells 34 zI true)) := fun tm => rfl
  have st10 : stW 7 (.ref 1 S5.next 0 0 0 false) (.cmp 2 0 (row7 0 kind own nilV 0 0 nilV)) (S5.new (.cells 34 zI true)) = some (.undef, S6) := (stW_whole (n := 7) (new_get_self' _ _) rfl rfl).trans (by rw [hS6]; rfl)
  have hr8 : fRem 63 (Int.ofNat b) 8 = some (.int 63 (Int.ofNat (b % 8))) := f_rem 63 _ 8 (by decide)
  have e7 : eqI (Int.ofNat (b % 8)) 7 = decide (b % 8 = 7) := eqI_nat _ 7
  have e6 : eqI (Int.ofNat (b % 8)) 6 = decide (b % 8 = 6) := eqI_nat _ 6
  have e5 : eqI (Int.ofNat (b % 8)) 5 = decide (b % 8 = 5) := eqI_nat _ 5
  have l0 : ltI 0 (Int.ofNat d) = decide (0 < d) := ltI_nat 0 _
  have l5 : ltI (Int.ofNat (f.many + 1)) 5 = decide (f.many + 1 < 5) := ltI_nat _ 5
  have many6 : ldW false 1 (.ref 1 o 4 0 0 false) S6 = some (.int 63 (Int.ofNat (f.many + 1))) := by rw [ldW_get w6.feed.get, hf3]; rfl
  have hf3m : f3.many = f.many + 1 := by rw [hf3]
  have out : ∀ {f' : Fd} {v' w' : V} {T : St} (r : CR), Went o f f' v' w' S0 T → T.low ≤ o → Went o f f' v' w' st (back st r T) ∧ (back st r T).low ≤ o := fun {f' v' w' T} r hw hlo => by
    rw [hS0] at hw
    refine ⟨hw.back r hlo, ?_⟩
    unfold Av.back
    rw [bleF (by omega), Bool.false_and]
    show (bif Nat.ble st.low _ then st.low else _) ≤ o
    by_cases hb : st.low ≤ T.low
    · rw [bleT hb, cond_true]; omega
    · rw [bleF hb, cond_false]; exact hlo
  have zl : (zI : List V).length = 7 := rfl
  by_cases cA : nt = true ∧ b % 8 = 7
  ·
    obtain ⟨rfl, c7⟩ := cA
    have d7 : decide (b % 8 = 7) = true := decide_eq_true c7
    obtain ⟨S7, hS7⟩ : ∃ S, S = S6.put S5.next (some (.cells 34 (row7 2 kind own nilV 0 0 nilV) true)) := ⟨_, rfl⟩
    have w7 : Went o f f3 vv vo S0 S7 := by rw [hS7]; exact w6.put (by omega) r6 ⟨by decide, by decide⟩ _
    have st7 : stW 1 (.ref 1 S5.next 0 0 0 false) (.int 63 2) S6 = some (.undef, S7) := by rw [stW_at r6 (cells_int _ _) (show 0 < 7 by decide), hS7]; rfl
    have r7 : S7.mem.get S5.next = some (.cells 34 (row7 2 kind own nilV 0 0 nilV) true) := by rw [hS7, put_get, if_pos rfl]
    have g7 : S7.mem.get S0.next = some (.cells 34 zI true) := by rw [hS7, put_get, if_neg (by omega)]; exact g6
    have n7 : S7.next = S6.next := by rw [hS7]; rfl
    obtain ⟨p, a2, S8, p1, p2, p3⟩ := kp (n + 1) w7.feed own kind
    have w8 := w7.trans (p3.went hs)
    have n8 := p3.next
    have hSo : S5.next ≠ o := by omega
    have r8 : S8.mem.get S5.next = some (.cells 34 (row7 2 kind own nilV 0 0 nilV) true) := by rw [p3.mem _ (by omega) hSo]; exact r7
    have g8 : S8.mem.get S0.next = some (.cells 34 zI true) := by rw [p3.mem _ (by omega) (by omega)]; exact g7
    obtain ⟨S9, hS9⟩ : ∃ S, S = S8.put S5.next (some (.cells 34 (row7 2 kind own (slT 4 p.length (cEs p)) 0 0 nilV) true)) := ⟨_, rfl⟩
    have st9 : stW 1 (.ref 1 S5.next 3 0 0 false) (slT 4 p.length (cEs p)) S8 = some (.undef, S9) := by rw [stW_at r8 (cells_slT _ _) (show 3 < 7 by decide), hS9]; rfl
    have w9 := w8.put (by omega) r8 ⟨by decide, by decide⟩ (some (.cells 34 (row7 2 kind own (slT 4 p.length (cEs p)) 0 0 nilV) true))
    rw [← hS9] at w9
    have r9 : S9.mem.get S5.next = some (.cells 34 (row7 2 kind own (slT 4 p.length (cEs p)) 0 0 nilV) true) := by rw [hS9, put_get, if_pos rfl]
    have g9 : S9.mem.get S0.next = some (.cells 34 zI true) := by rw [hS9, put_get, if_neg (by omega)]; exact g8
    obtain ⟨u1, u2, u3⟩ := fin7 g9 zl r9 rfl
    have w10 := w9.put (Nat.le_refl _) g9 ⟨by decide, by decide⟩ (some (.cells 34 (row7 2 kind own (slT 4 p.length (cEs p)) 0 0 nilV) true))
    have lo10 : (S9.put S0.next (some (.cells 34 (row7 2 kind own (slT 4 p.length (cEs p)) 0 0 nilV) true))).low ≤ o := by
      have := p3.low
      have e7 : S7.low ≤ o := by rw [hS7, put_low]; omega
      rw [put_low, hS9, put_low]; omega
    obtain ⟨v1, v2⟩ := out (.ret (.cmp 2 0 (row7 2 kind own (slT 4 p.length (cEs p)) 0 0 nilV))) w10 lo10
    refine ⟨.mk 2 kind own p 0 0 [], _, _, _, _, freezeI0 (call (r := .ret (.cmp 2 0 (row7 2 kind own (slT 4 p.length (cEs p)) 0 0 nilV))) ?_), ⟨by simp only [wI, hf3m]; rfl, .inl ⟨.inr (.inr ⟨rfl, rfl, rfl⟩), rfl, p2.1, p2.2⟩, fun e => (nomatch e)⟩, v1, v2⟩
    simp only [c191_0, c191_1, c191_2, c191_3, c191_4, c191_5, c191_6, c191_7, yY, iInt, iStr, iLenS, iLenL, iNot, iPick, iExt, if_true, if_false, reduceIte, Nat.reduceEqDiff, Nat.reduceAdd, reduceCtorEq, yQ, hnew, k1, m_nck, m_fad, m_load, many2, hadd, m_store, st3, bs3, hr3, ia3, ld4, bs12, many5, hr12, ia12, ld5, al10, st10, m_build, cells_ref, fillV_c, fillV_0, cells_int, cells_str, fillS_1, List.length_cons, List.length_nil, Nat.reduceLT, List.set_cons_zero, List.set_cons_succ, f_eql, hr8, e7, e6, e5, f_gtr, l0, f_lss, l5, many6, d7, st7, p1, st9, u1, u2]
    rw [leave_mem (v := .cmp 2 0 (row7 2 kind own (slT 4 p.length (cEs p)) 0 0 nilV)) (by simp only [yL, if_true, if_false, reduceIte, Nat.reduceEqDiff, reduceCtorEq]; exact u3)]
  · by_cases cB : 0 < d ∧ b % 8 = 6 ∧ f.many + 1 < 5
    ·
      obtain ⟨c1, c6, c5⟩ := cB
      have d0 : decide (0 < d) = true := decide_eq_true c1
      have d7 : decide (b % 8 = 7) = false := decide_eq_false (by omega)
      have d6 : decide (b % 8 = 6) = true := decide_eq_true c6
      have dm : decide (f.many + 1 < 5) = true := decide_eq_true c5
      have hsub : fSub 63 (Int.ofNat d) 1 = some (.int 63 (Int.ofNat (d - 1))) := f_sub 63 d 1 (by omega) (by omega)
      obtain ⟨l1, f4, v4, o4, S7, t1, t2, t3, t4⟩ := hits c1 w6.feed w6.sep (by omega)
      have w7 := w6.trans t3
      have n7 := t3.next
      have ns : ∀ {T : St} {k e : Nat} {c : List V}, T.mem.get k = some (.cells e c true) → e ≠ 9 → ∀ cs, T.mem.get k ≠ some (.cells 9 cs true) := fun hk he cs hc => by
        rw [hk] at hc; injection hc with hc; injection hc with hc _; exact he hc
      have r7 : S7.mem.get S5.next = some (.cells 34 (row7 0 kind own nilV 0 0 nilV) true) := by rw [t3.mem _ (by omega) (by omega) (ns r6 (by decide))]; exact r6
      have g7 : S7.mem.get S0.next = some (.cells 34 zI true) := by rw [t3.mem _ (by omega) (by omega) (ns g6 (by decide))]; exact g6
      obtain ⟨S8, hS8⟩ : ∃ S, S = S7.new (.cells 25 [slT 4 l1.length (cIs l1)] true) := ⟨_, rfl⟩
      have n8 : S8.next = S7.next + 1 := by rw [hS8]; rfl
      have w8 : Went o f f4 v4 o4 S0 S8 := by rw [hS8]; exact w7.new _
      have r8 : S8.mem.get S5.next = some (.cells 34 (row7 0 kind own nilV 0 0 nilV) true) := by rw [hS8, new_get, if_neg (by omega)]; exact r7
      have g8 : S8.mem.get S0.next = some (.cells 34 zI true) := by rw [hS8, new_get, if_neg (by omega)]; exact g7
      have k8 : S8.mem.get S7.next = some (.cells 25 [slT 4 l1.length (cIs l1)] true) := by rw [hS8]; exact new_get_self' _ _
      have bs8 : ∀ (tm : Tr V), X.ev tm (.t (pa 66)) = slT 4 l1.length (cIs l1) → iBsl 25 1 [nilV] [(0, 1, .t (pa 66))] tm S7 = some (.ref 3 S7.next 0 1 1 true, S8) := fun tm h => by
        rw [m_bsl, fillV_c, h, cells_slT, fillS_1 (by decide), fillV_0, hS8]; rfl
      obtain ⟨S9, hS9⟩ : ∃ S, S = S8.put S5.next (some (.cells 34 (row7 3 [] [] nilV 0 0 (.ref 3 S7.next 0 1 1 true)) true)) := ⟨_, rfl⟩
      have n9 : S9.next = S8.next := by rw [hS9]; rfl
      have w9 : Went o f f4 v4 o4 S0 S9 := by rw [hS9]; exact w8.put (by omega) r8 ⟨by decide, by decide⟩ _
      have st9 : stW 7 (.ref 1 S5.next 0 0 0 false) (.cmp 2 0 (row7 3 [] [] nilV 0 0 (.ref 3 S7.next 0 1 1 true))) S8 = some (.undef, S9) := (stW_whole (n := 7) r8 rfl rfl).trans (by rw [hS9])
      have r9 : S9.mem.get S5.next = some (.cells 34 (row7 3 [] [] nilV 0 0 (.ref 3 S7.next 0 1 1 true)) true) := by rw [hS9, put_get, if_pos rfl]
      have g9 : S9.mem.get S0.next = some (.cells 34 zI true) := by rw [hS9, put_get, if_neg (by omega)]; exact g8
      have k9 : S9.mem.get S7.next = some (.cells 25 [slT 4 l1.length (cIs l1)] true) := by rw [hS9, put_get, if_neg (by omega)]; exact k8
      have lo9 : S9.low ≤ S9.next := by have := w9.low.2; have e : S0.low = S0.next := by rw [hS0]
                                        have := w9.next; omega
      obtain ⟨i1, i2, i3, i4⟩ := t2
      obtain ⟨l2, f5, v5, o5, T, y1, y2, y3, y4⟩ := hits c1 (w9.feed.low S9.next) w9.sep (by omega)
      obtain ⟨j1, j2, j3, j4⟩ := y2
      have yA := y3.after lo9
      have w10 := w9.trans yA
      have n10 := yA.next
      have r10 : (S9.after T).mem.get S5.next = some (.cells 34 (row7 3 [] [] nilV 0 0 (.ref 3 S7.next 0 1 1 true)) true) := by rw [yA.mem _ (by omega) (by omega) (ns r9 (by decide))]; exact r9
      have g10 : (S9.after T).mem.get S0.next = some (.cells 34 zI true) := by rw [yA.mem _ (by omega) (by omega) (ns g9 (by decide))]; exact g9
      have k10 : (S9.after T).mem.get S7.next = some (.cells 25 [slT 4 l1.length (cIs l1)] true) := by rw [yA.mem _ (by omega) (by omega) (ns k9 (by decide))]; exact k9
      have lo10 : (S9.after T).low ≤ o := by
        show (bif Nat.ble S9.low T.low then S9.low else T.low) ≤ o
        by_cases hb : S9.low ≤ T.low
        · rw [bleT hb, cond_true]; omega
        · rw [bleF hb, cond_false]; exact y4
      have ld9 : ldW false 1 (.ref 1 S5.next 6 0 0 false) S9 = some (.ref 3 S7.next 0 1 1 true) := by rw [ldW_get r9]; rfl
      have ld10 : ldW false 1 (.ref 1 S5.next 6 0 0 false) (S9.after T) = some (.ref 3 S7.next 0 1 1 true) := by rw [ldW_get r10]; rfl
      obtain ⟨S11, hS11⟩ : ∃ S, S = (S9.after T).new (.cells 25 [slT 4 l2.length (cIs l2)] true) := ⟨_, rfl⟩
      have n11 : S11.next = (S9.after T).next + 1 := by rw [hS11]; rfl
      have w11 : Went o f f5 v5 o5 S0 S11 := by rw [hS11]; exact w10.new _
      have r11 : S11.mem.get S5.next = some (.cells 34 (row7 3 [] [] nilV 0 0 (.ref 3 S7.next 0 1 1 true)) true) := by rw [hS11, new_get, if_neg (by omega)]; exact r10
      have g11 : S11.mem.get S0.next = some (.cells 34 zI true) := by rw [hS11, new_get, if_neg (by omega)]; exact g10
      have k11 : S11.mem.get S7.next = some (.cells 25 [slT 4 l1.length (cIs l1)] true) := by rw [hS11, new_get, if_neg (by omega)]; exact k10
      have bs11 : ∀ (tm : Tr V), X.ev tm (.t (pa 74)) = slT 4 l2.length (cIs l2) → iBsl 25 1 [nilV] [(0, 1, .t (pa 74))] tm (S9.after T) = some (.ref 3 (S9.after T).next 0 1 1 true, S11) := fun tm h => by
        rw [m_bsl, fillV_c, h, cells_slT, fillS_1 (by decide), fillV_0, hS11]; rfl
      obtain ⟨S12, hS12⟩ : ∃ S, S = S11.new (.cells 25 (cKs [l1, l2]) true) := ⟨_, rfl⟩
      have n12 : S12.next = S11.next + 1 := by rw [hS12]; rfl
      have w12 : Went o f f5 v5 o5 S0 S12 := by rw [hS12]; exact w11.new _
      have ap12 : ∀ (tm : Tr V), X.ev tm (.t (pa 70)) = .ref 3 S7.next 0 1 1 true → X.ev tm (.t (pa 75)) = .ref 3 (S9.after T).next 0 1 1 true → iApp false 25 1 24 (.t (pa 70)) (.t (pa 75)) tm S11 = some (.ref 3 S11.next 0 2 2 false, S12) := fun tm h1 h2 => by
        unfold iApp
        rw [h1, h2]
        have hsrc : srcF false S11 1 (.ref 3 (S9.after T).next 0 1 1 true) = some ([slT 4 l2.length (cIs l2)], 1) := by
          show onCells none (fun _ cs _ => bif Nat.ble (Nat.add 0 (Nat.mul 1 1)) (lenL cs) then some (takeL (dropL cs 0) (Nat.mul 1 1), 1) else none) (S11.mem.get (S9.after T).next) = _
          rw [hS11, new_get_self']; rfl
        rw [hsrc]
        show onCells none _ (S11.mem.get S7.next) = _
        rw [k11, hS12]; rfl
      have r12 : S12.mem.get S5.next = some (.cells 34 (row7 3 [] [] nilV 0 0 (.ref 3 S7.next 0 1 1 true)) true) := by rw [hS12, new_get, if_neg (by omega)]; exact r11
      have g12 : S12.mem.get S0.next = some (.cells 34 zI true) := by rw [hS12, new_get, if_neg (by omega)]; exact g11
      have k12 : S12.mem.get S11.next = some (.cells 25 (cKs [l1, l2]) true) := by rw [hS12]; exact new_get_self' _ _
      obtain ⟨S13, hS13⟩ : ∃ S, S = S12.put S5.next (some (.cells 34 (row7 3 [] [] nilV 0 0 (.ref 3 S11.next 0 2 2 false)) true)) := ⟨_, rfl⟩
      have st13 : stW 1 (.ref 1 S5.next 6 0 0 false) (.ref 3 S11.next 0 2 2 false) S12 = some (.undef, S13) := by rw [stW_at r12 (cells_ref _ _ _ _ _ _) (show 6 < 7 by decide), hS13]; rfl
      have w13 : Went o f f5 v5 o5 S0 S13 := by rw [hS13]; exact w12.put (by omega) r12 ⟨by decide, by decide⟩ _
      have r13 : S13.mem.get S5.next = some (.cells 34 (row7 3 [] [] nilV 0 0 (.ref 3 S11.next 0 2 2 false)) true) := by rw [hS13, put_get, if_pos rfl]
      have g13 : S13.mem.get S0.next = some (.cells 34 zI true) := by rw [hS13, put_get, if_neg (by omega)]; exact g12
      have k13 : S13.mem.get S11.next = some (.cells 25 (cKs [l1, l2]) true) := by rw [hS13, put_get, if_neg (by omega)]; exact k12
      obtain ⟨u1, u2, u3⟩ := fin7 g13 zl r13 rfl
      have w14 := w13.put (Nat.le_refl _) g13 ⟨by decide, by decide⟩ (some (.cells 34 (row7 3 [] [] nilV 0 0 (.ref 3 S11.next 0 2 2 false)) true))
      have lo14 : (S13.put S0.next (some (.cells 34 (row7 3 [] [] nilV 0 0 (.ref 3 S11.next 0 2 2 false)) true))).low ≤ o := by
        have e12 : S12.low = (S9.after T).low := by rw [hS12, hS11]; rfl
        rw [put_low, hS13, put_low]; omega
      have hu : (CR.ret (.cmp 2 0 (row7 3 [] [] nilV 0 0 (.ref 3 S11.next 0 2 2 false)))).under st.next = false := by
        show (V.cmp 2 0 (row7 3 [] [] nilV 0 0 (.ref 3 S11.next 0 2 2 false))).under st.next = false
        rw [under_cmp]
        have : (V.ref 3 S11.next 0 2 2 false).under st.next = false := by
          cases hb : (V.ref 3 S11.next 0 2 2 false).under st.next with
          | false => rfl
          | true => have := (under_ref st.next 3 S11.next 0 2 2 false).1 hb (.inr (.inl rfl)); omega
        simp only [row7, List.all_cons, this, Bool.false_and, Bool.and_false]
      obtain ⟨v1, v2⟩ := out (.ret (.cmp 2 0 (row7 3 [] [] nilV 0 0 (.ref 3 S11.next 0 2 2 false)))) w14 lo14
      have hkb : (back st (.ret (.cmp 2 0 (row7 3 [] [] nilV 0 0 (.ref 3 S11.next 0 2 2 false)))) (S13.put S0.next (some (.cells 34 (row7 3 [] [] nilV 0 0 (.ref 3 S11.next 0 2 2 false)) true)))).mem.get S11.next = some (.cells 25 (cKs [l1, l2]) true) := by
        rw [back_new hu]
        show (S13.put S0.next _).mem.get S11.next = _
        rw [put_get, if_neg (by omega)]; exact k13
      refine ⟨.mk 3 [] [] [] 0 0 [l1, l2], f5, v5, o5, _, freezeI2 (call (r := .ret (.cmp 2 0 (row7 3 [] [] nilV 0 0 (.ref 3 S11.next 0 2 2 false)))) ?_) (by omega) hkb rfl, ⟨?_, .inr ⟨c1, ⟨rfl, rfl, rfl, rfl, l1, l2, rfl, ⟨i1, i2, i3⟩, j1, j2, j3⟩, by omega⟩, fun _ => by show (3 : Int) ≠ 2; decide⟩, v1.put (by omega) hkb ⟨by decide, by decide⟩ none, by rw [put_low]; omega⟩
      · cases nt
        · simp only [c191_0, c191_1, c191_2, c191_3, c191_4, c191_5, c191_6, c191_7, c191_8, c191_9, yY, iInt, iStr, iLenS, iLenL, iNot, iPick, iExt, if_true, if_false, reduceIte, Nat.reduceEqDiff, Nat.reduceAdd, reduceCtorEq, yQ, hnew, k1, m_nck, m_fad, m_load, many2, hadd, m_store, st3, bs3, hr3, ia3, ld4, bs12, many5, hr12, ia12, ld5, al10, st10, m_build, cells_ref, fillV_c, fillV_0, cells_int, cells_str, fillS_1, List.length_cons, List.length_nil, Nat.reduceLT, List.set_cons_zero, List.set_cons_succ, f_eql, hr8, e7, e6, e5, f_gtr, l0, f_lss, l5, many6, d0, d7, d6, dm, hsub, t1, bs8, st9, yD, x_oneM, x_oneE, x_oneP, x_oneK, x_oneL, x_oneC2, ld9, x_stepCE, St.fresh, y1, x_oneS, see_cons, see_nil, mem1, sees_ret, ld10, sameV_refl, cond_true, Bool.true_and, Bool.and_true, bs11, ap12, st13, u1, u2]
          rw [leave_mem (v := .cmp 2 0 (row7 3 [] [] nilV 0 0 (.ref 3 S11.next 0 2 2 false))) (by simp only [yL, if_true, if_false, reduceIte, Nat.reduceEqDiff, reduceCtorEq]; exact u3)]
        · simp only [c191_0, c191_1, c191_2, c191_3, c191_4, c191_5, c191_6, c191_7, c191_8, c191_9, yY, iInt, iStr, iLenS, iLenL, iNot, iPick, iExt, if_true, if_false, reduceIte, Nat.reduceEqDiff, Nat.reduceAdd, reduceCtorEq, yQ, hnew, k1, m_nck, m_fad, m_load, many2, hadd, m_store, st3, bs3, hr3, ia3, ld4, bs12, many5, hr12, ia12, ld5, al10, st10, m_build, cells_ref, fillV_c, fillV_0, cells_int, cells_str, fillS_1, List.length_cons, List.length_nil, Nat.reduceLT, List.set_cons_zero, List.set_cons_succ, f_eql, hr8, e7, e6, e5, f_gtr, l0, f_lss, l5, many6, d0, d7, d6, dm, hsub, t1, bs8, st9, yD, x_oneM, x_oneE, x_oneP, x_oneK, x_oneL, x_oneC2, ld9, x_stepCE, St.fresh, y1, x_oneS, see_cons, see_nil, mem1, sees_ret, ld10, sameV_refl, cond_true, Bool.true_and, Bool.and_true, bs11, ap12, st13, u1, u2]
          rw [leave_mem (v := .cmp 2 0 (row7 3 [] [] nilV 0 0 (.ref 3 S11.next 0 2 2 false))) (by simp only [yL, if_true, if_false, reduceIte, Nat.reduceEqDiff, reduceCtorEq]; exact u3)]
      · simp only [wI, List.map_cons, List.map_nil, List.sum_cons, List.sum_nil]; omega
    · by_cases c5 : b % 8 = 5
      ·
        have d5 : decide (b % 8 = 5) = true := decide_eq_true c5
        have d6 : decide (b % 8 = 6) = false := decide_eq_false (by omega)
        have d7 : decide (b % 8 = 7) = false := decide_eq_false (by omega)
        obtain ⟨lo, hlo⟩ : ∃ lo : Int, lo = Int.ofNat (1 + b / 8 % 2) := ⟨_, rfl⟩
        obtain ⟨hi, hhi⟩ : ∃ hi : Int, hi = Int.ofNat (1 + b / 8 % 2 + b / 16 % 2) := ⟨_, rfl⟩
        have hq8 : fQuo 63 (Int.ofNat b) 8 = some (.int 63 (Int.ofNat (b / 8))) := f_quo 63 b 8 (by omega) (by decide)
        have hq16 : fQuo 63 (Int.ofNat b) 16 = some (.int 63 (Int.ofNat (b / 16))) := f_quo 63 b 16 (by omega) (by decide)
        have hr2 : fRem 63 (Int.ofNat (b / 8)) 2 = some (.int 63 (Int.ofNat (b / 8 % 2))) := f_rem 63 _ 2 (by decide)
        have hr22 : fRem 63 (Int.ofNat (b / 16)) 2 = some (.int 63 (Int.ofNat (b / 16 % 2))) := f_rem 63 _ 2 (by decide)
        have ha1 : fAdd 63 1 (Int.ofNat (b / 8 % 2)) = some (.int 63 lo) := by rw [hlo]; exact f_add 63 1 _ (by omega)
        have ha2 : fAdd 63 lo (Int.ofNat (b / 16 % 2)) = some (.int 63 hi) := by rw [hlo, hhi]; exact f_add 63 _ _ (by omega)
        obtain ⟨T1, hT1⟩ : ∃ S, S = S6.put S5.next (some (.cells 34 (row7 1 kind own nilV 0 0 nilV) true)) := ⟨_, rfl⟩
        have qt1 : T1.mem.get S5.next = some (.cells 34 (row7 1 kind own nilV 0 0 nilV) true) := by rw [hT1, put_get, if_pos rfl]
        have s1 : stW 1 (.ref 1 S5.next 0 0 0 false) (.int 63 1) S6 = some (.undef, T1) := by rw [stW_at r6 (cells_int _ _) (show 0 < 7 by decide), hT1]; rfl
        have x1 : Went o f f3 vv vo S0 T1 := by rw [hT1]; exact w6.put (by omega) r6 ⟨by decide, by decide⟩ _
        obtain ⟨T2, hT2⟩ : ∃ S, S = T1.put S5.next (some (.cells 34 (row7 1 kind own nilV lo 0 nilV) true)) := ⟨_, rfl⟩
        have q2' : T2.mem.get S5.next = some (.cells 34 (row7 1 kind own nilV lo 0 nilV) true) := by rw [hT2, put_get, if_pos rfl]
        have s2 : stW 1 (.ref 1 S5.next 4 0 0 false) (.int 63 lo) T1 = some (.undef, T2) := by rw [stW_at qt1 (cells_int _ _) (show 4 < 7 by decide), hT2]; rfl
        have x2 : Went o f f3 vv vo S0 T2 := by rw [hT2]; exact x1.put (by omega) qt1 ⟨by decide, by decide⟩ _
        have ldlo : ldW false 1 (.ref 1 S5.next 4 0 0 false) T2 = some (.int 63 lo) := by rw [ldW_get q2']; rfl
        obtain ⟨S9, hT3⟩ : ∃ S, S = T2.put S5.next (some (.cells 34 (row7 1 kind own nilV lo hi nilV) true)) := ⟨_, rfl⟩
        have r9 : S9.mem.get S5.next = some (.cells 34 (row7 1 kind own nilV lo hi nilV) true) := by rw [hT3, put_get, if_pos rfl]
        have s3 : stW 1 (.ref 1 S5.next 5 0 0 false) (.int 63 hi) T2 = some (.undef, S9) := by rw [stW_at q2' (cells_int _ _) (show 5 < 7 by decide), hT3]; rfl
        have w9 : Went o f f3 vv vo S0 S9 := by rw [hT3]; exact x2.put (by omega) q2' ⟨by decide, by decide⟩ _
        have g9 : S9.mem.get S0.next = some (.cells 34 zI true) := by rw [hT3, put_get, if_neg (by omega), hT2, put_get, if_neg (by omega), hT1, put_get, if_neg (by omega)]; exact g6
        have n9 : S9.next = S6.next := by rw [hT3, hT2, hT1]; rfl
        have lo9 : S9.low ≤ o := by rw [hT3, put_low, hT2, put_low, hT1, put_low]; omega
        obtain ⟨p, a2, S10, p1, p2, p3⟩ := kp (n + 1) w9.feed own kind
        have w10 := w9.trans (p3.went hs)
        have n10 := p3.next
        have r10 : S10.mem.get S5.next = some (.cells 34 (row7 1 kind own nilV lo hi nilV) true) := by rw [p3.mem _ (by omega) (by omega)]; exact r9
        have g10 : S10.mem.get S0.next = some (.cells 34 zI true) := by rw [p3.mem _ (by omega) (by omega)]; exact g9
        obtain ⟨S11, hS11⟩ : ∃ S, S = S10.put S5.next (some (.cells 34 (row7 1 kind own (slT 4 p.length (cEs p)) lo hi nilV) true)) := ⟨_, rfl⟩
        have n11 : S11.next = S10.next := by rw [hS11]; rfl
        have st11 : stW 1 (.ref 1 S5.next 3 0 0 false) (slT 4 p.length (cEs p)) S10 = some (.undef, S11) := by rw [stW_at r10 (cells_slT _ _) (show 3 < 7 by decide), hS11]; rfl
        have w11 : Went o f { f3 with at_ := a2 } vv vo S0 S11 := by rw [hS11]; exact w10.put (by omega) r10 ⟨by decide, by decide⟩ _
        have r11 : S11.mem.get S5.next = some (.cells 34 (row7 1 kind own (slT 4 p.length (cEs p)) lo hi nilV) true) := by rw [hS11, put_get, if_pos rfl]
        have g11 : S11.mem.get S0.next = some (.cells 34 zI true) := by rw [hS11, put_get, if_neg (by omega)]; exact g10
        have lo11 : S11.low ≤ o := by have := p3.low; rw [hS11, put_low]; omega
        obtain ⟨T2', T3', T5, T6, v2, o2, m1, m2, m3, m4, m5, m6, m7, m8⟩ := names_ev w11.feed hs own kind (by show f3.vars.length < f3.many; rw [hf3]; show f.vars.length < f.many + 1; omega) lo11
        have w12 := w11.trans m7
        have n12 := m7.next
        have ns : ∀ {T : St} {k e : Nat} {c : List V}, T.mem.get k = some (.cells e c true) → e ≠ 9 → ∀ cs, T.mem.get k ≠ some (.cells 9 cs true) := fun hk he cs hc => by
          rw [hk] at hc; injection hc with hc; injection hc with hc _; exact he hc
        have r12 : T6.mem.get S5.next = some (.cells 34 (row7 1 kind own (slT 4 p.length (cEs p)) lo hi nilV) true) := by rw [m7.mem _ (by omega) (by omega) (ns r11 (by decide))]; exact r11
        have g12 : T6.mem.get S0.next = some (.cells 34 zI true) := by rw [m7.mem _ (by omega) (by omega) (ns g11 (by decide))]; exact g11
        have bsA : ∀ tm : Tr V, X.ev tm (.t (pa 105)) = .str own → iBsl 9 1 [.str []] [(0, 1, .t (pa 105))] tm S11 = some (.ref 3 S11.next 0 1 1 true, S11.new (.cells 9 [.str own] true)) := fun tm h => by rw [m_bsl, fillV_c, h, cells_str, fillS_1 (by decide), fillV_0]; rfl
        have bsB : ∀ tm : Tr V, X.ev tm (.t (pa 115)) = .str kind → iBsl 9 1 [.str []] [(0, 1, .t (pa 115))] tm T3' = some (.ref 3 T3'.next 0 1 1 true, T3'.new (.cells 9 [.str kind] true)) := fun tm h => by rw [m_bsl, fillV_c, h, cells_str, fillS_1 (by decide), fillV_0]; rfl
        obtain ⟨u1, u2, u3⟩ := fin7 g12 zl r12 rfl
        have w13 := w12.put (Nat.le_refl _) g12 ⟨by decide, by decide⟩ (some (.cells 34 (row7 1 kind own (slT 4 p.length (cEs p)) lo hi nilV) true))
        have lo13 : (T6.put S0.next (some (.cells 34 (row7 1 kind own (slT 4 p.length (cEs p)) lo hi nilV) true))).low ≤ o := by rw [put_low]; omega
        obtain ⟨v1, v3⟩ := out (.ret (.cmp 2 0 (row7 1 kind own (slT 4 p.length (cEs p)) lo hi nilV))) w13 lo13
        refine ⟨.mk 1 kind own p lo hi [], _, _, _, _, freezeI0 (call (r := .ret (.cmp 2 0 (row7 1 kind own (slT 4 p.length (cEs p)) lo hi nilV))) ?_), ⟨?_, .inl ⟨.inr (.inl ⟨rfl, ?_⟩), rfl, p2.1, p2.2⟩, fun _ => by show (1 : Int) ≠ 2; decide⟩, v1, v3⟩
        rotate_left
        · show f3.many = f.many + 1; exact hf3m
        · rw [hlo, hhi]
          have : ∀ k : Nat, Int.ofNat k = (k : Int) := fun _ => rfl
          rw [this, this]; omega
        by_cases c0 : 0 < d
        · have d0 : decide (0 < d) = true := decide_eq_true c0
          cases nt
          · simp only [c191_0, c191_1, c191_2, c191_3, c191_4, c191_5, c191_6, c191_7, c191_8, c191_9, c191_10, c191_11, c191_12, c191_13, c191_14, c191_15, yY, iInt, iStr, iLenS, iLenL, iNot, iPick, iExt, if_true, if_false, reduceIte, Nat.reduceEqDiff, Nat.reduceAdd, reduceCtorEq, yQ, hnew, k1, m_nck, m_fad, m_load, many2, hadd, m_store, st3, bs3, hr3, ia3, ld4, bs12, many5, hr12, ia12, ld5, al10, st10, m_build, cells_ref, fillV_c, fillV_0, cells_int, cells_str, fillS_1, List.length_cons, List.length_nil, Nat.reduceLT, List.set_cons_zero, List.set_cons_succ, f_eql, hr8, e7, e6, e5, f_gtr, l0, f_lss, l5, many6, d0, d5, d6, d7, hq8, hq16, hr2, hr22, ha1, ha2, s1, s2, ldlo, s3, p1, st11, m1, bsA, m2, m3, m4, bsB, m5, m6, u1, u2]
            rw [leave_mem (v := .cmp 2 0 (row7 1 kind own (slT 4 p.length (cEs p)) lo hi nilV)) (by simp only [yL, if_true, if_false, reduceIte, Nat.reduceEqDiff, reduceCtorEq]; exact u3)]
          · simp only [c191_0, c191_1, c191_2, c191_3, c191_4, c191_5, c191_6, c191_7, c191_8, c191_9, c191_10, c191_11, c191_12, c191_13, c191_14, c191_15, yY, iInt, iStr, iLenS, iLenL, iNot, iPick, iExt, if_true, if_false, reduceIte, Nat.reduceEqDiff, Nat.reduceAdd, reduceCtorEq, yQ, hnew, k1, m_nck, m_fad, m_load, many2, hadd, m_store, st3, bs3, hr3, ia3, ld4, bs12, many5, hr12, ia12, ld5, al10, st10, m_build, cells_ref, fillV_c, fillV_0, cells_int, cells_str, fillS_1, List.length_cons, List.length_nil, Nat.reduceLT, List.set_cons_zero, List.set_cons_succ, f_eql, hr8, e7, e6, e5, f_gtr, l0, f_lss, l5, many6, d0, d5, d6, d7, hq8, hq16, hr2, hr22, ha1, ha2, s1, s2, ldlo, s3, p1, st11, m1, bsA, m2, m3, m4, bsB, m5, m6, u1, u2]
            rw [leave_mem (v := .cmp 2 0 (row7 1 kind own (slT 4 p.length (cEs p)) lo hi nilV)) (by simp only [yL, if_true, if_false, reduceIte, Nat.reduceEqDiff, reduceCtorEq]; exact u3)]
        · have d0 : decide (0 < d) = false := decide_eq_false c0
          cases nt
          · simp only [c191_0, c191_1, c191_2, c191_3, c191_4, c191_5, c191_6, c191_7, c191_8, c191_9, c191_10, c191_11, c191_12, c191_13, c191_14, c191_15, yY, iInt, iStr, iLenS, iLenL, iNot, iPick, iExt, if_true, if_false, reduceIte, Nat.reduceEqDiff, Nat.reduceAdd, reduceCtorEq, yQ, hnew, k1, m_nck, m_fad, m_load, many2, hadd, m_store, st3, bs3, hr3, ia3, ld4, bs12, many5, hr12, ia12, ld5, al10, st10, m_build, cells_ref, fillV_c, fillV_0, cells_int, cells_str, fillS_1, List.length_cons, List.length_nil, Nat.reduceLT, List.set_cons_zero, List.set_cons_succ, f_eql, hr8, e7, e6, e5, f_gtr, l0, f_lss, l5, many6, d0, d5, d6, d7, hq8, hq16, hr2, hr22, ha1, ha2, s1, s2, ldlo, s3, p1, st11, m1, bsA, m2, m3, m4, bsB, m5, m6, u1, u2]
            rw [leave_mem (v := .cmp 2 0 (row7 1 kind own (slT 4 p.length (cEs p)) lo hi nilV)) (by simp only [yL, if_true, if_false, reduceIte, Nat.reduceEqDiff, reduceCtorEq]; exact u3)]
          · simp only [c191_0, c191_1, c191_2, c191_3, c191_4, c191_5, c191_6, c191_7, c191_8, c191_9, c191_10, c191_11, c191_12, c191_13, c191_14, c191_15, yY, iInt, iStr, iLenS, iLenL, iNot, iPick, iExt, if_true, if_false, reduceIte, Nat.reduceEqDiff, Nat.reduceAdd, reduceCtorEq, yQ, hnew, k1, m_nck, m_fad, m_load, many2, hadd, m_store, st3, bs3, hr3, ia3, ld4, bs12, many5, hr12, ia12, ld5, al10, st10, m_build, cells_ref, fillV_c, fillV_0, cells_int, cells_str, fillS_1, List.length_cons, List.length_nil, Nat.reduceLT, List.set_cons_zero, List.set_cons_succ, f_eql, hr8, e7, e6, e5, f_gtr, l0, f_lss, l5, many6, d0, d5, d6, d7, hq8, hq16, hr2, hr22, ha1, ha2, s1, s2, ldlo, s3, p1, st11, m1, bsA, m2, m3, m4, bsB, m5, m6, u1, u2]
            rw [leave_mem (v := .cmp 2 0 (row7 1 kind own (slT 4 p.length (cEs p)) lo hi nilV)) (by simp only [yL, if_true, if_false, reduceIte, Nat.reduceEqDiff, reduceCtorEq]; exact u3)]
      ·
        have d5 : decide (b % 8 = 5) = false := decide_eq_false c5
        obtain ⟨S9, hT3⟩ : ∃ S, S = S6 := ⟨_, rfl⟩
        have r9 : S9.mem.get S5.next = some (.cells 34 (row7 0 kind own nilV 0 0 nilV) true) := by rw [hT3]; exact r6
        have w9 : Went o f f3 vv vo S0 S9 := by rw [hT3]; exact w6
        have g9 : S9.mem.get S0.next = some (.cells 34 zI true) := by rw [hT3]; exact g6
        have n9 : S9.next = S6.next := by rw [hT3]
        have lo9 : S9.low ≤ o := by rw [hT3]; exact lo6
        obtain ⟨p, a2, S10, p1, p2, p3⟩ := kp (n + 1) w9.feed own kind
        have w10 := w9.trans (p3.went hs)
        have n10 := p3.next
        have r10 : S10.mem.get S5.next = some (.cells 34 (row7 0 kind own nilV 0 0 nilV) true) := by rw [p3.mem _ (by omega) (by omega)]; exact r9
        have g10 : S10.mem.get S0.next = some (.cells 34 zI true) := by rw [p3.mem _ (by omega) (by omega)]; exact g9
        obtain ⟨S11, hS11⟩ : ∃ S, S = S10.put S5.next (some (.cells 34 (row7 0 kind own (slT 4 p.length (cEs p)) 0 0 nilV) true)) := ⟨_, rfl⟩
        have n11 : S11.next = S10.next := by rw [hS11]; rfl
        have st11 : stW 1 (.ref 1 S5.next 3 0 0 false) (slT 4 p.length (cEs p)) S10 = some (.undef, S11) := by rw [stW_at r10 (cells_slT _ _) (show 3 < 7 by decide), hS11]; rfl
        have w11 : Went o f { f3 with at_ := a2 } vv vo S0 S11 := by rw [hS11]; exact w10.put (by omega) r10 ⟨by decide, by decide⟩ _
        have r11 : S11.mem.get S5.next = some (.cells 34 (row7 0 kind own (slT 4 p.length (cEs p)) 0 0 nilV) true) := by rw [hS11, put_get, if_pos rfl]
        have g11 : S11.mem.get S0.next = some (.cells 34 zI true) := by rw [hS11, put_get, if_neg (by omega)]; exact g10
        have lo11 : S11.low ≤ o := by have := p3.low; rw [hS11, put_low]; omega
        obtain ⟨T2', T3', T5, T6, v2, o2, m1, m2, m3, m4, m5, m6, m7, m8⟩ := names_ev w11.feed hs own kind (by show f3.vars.length < f3.many; rw [hf3]; show f.vars.length < f.many + 1; omega) lo11
        have w12 := w11.trans m7
        have n12 := m7.next
        have ns : ∀ {T : St} {k e : Nat} {c : List V}, T.mem.get k = some (.cells e c true) → e ≠ 9 → ∀ cs, T.mem.get k ≠ some (.cells 9 cs true) := fun hk he cs hc => by
          rw [hk] at hc; injection hc with hc; injection hc with hc _; exact he hc
        have r12 : T6.mem.get S5.next = some (.cells 34 (row7 0 kind own (slT 4 p.length (cEs p)) 0 0 nilV) true) := by rw [m7.mem _ (by omega) (by omega) (ns r11 (by decide))]; exact r11
        have g12 : T6.mem.get S0.next = some (.cells 34 zI true) := by rw [m7.mem _ (by omega) (by omega) (ns g11 (by decide))]; exact g11
        have bsA : ∀ tm : Tr V, X.ev tm (.t (pa 105)) = .str own → iBsl 9 1 [.str []] [(0, 1, .t (pa 105))] tm S11 = some (.ref 3 S11.next 0 1 1 true, S11.new (.cells 9 [.str own] true)) := fun tm h => by rw [m_bsl, fillV_c, h, cells_str, fillS_1 (by decide), fillV_0]; rfl
        have bsB : ∀ tm : Tr V, X.ev tm (.t (pa 115)) = .str kind → iBsl 9 1 [.str []] [(0, 1, .t (pa 115))] tm T3' = some (.ref 3 T3'.next 0 1 1 true, T3'.new (.cells 9 [.str kind] true)) := fun tm h => by rw [m_bsl, fillV_c, h, cells_str, fillS_1 (by decide), fillV_0]; rfl
        obtain ⟨u1, u2, u3⟩ := fin7 g12 zl r12 rfl
        have w13 := w12.put (Nat.le_refl _) g12 ⟨by decide, by decide⟩ (some (.cells 34 (row7 0 kind own (slT 4 p.length (cEs p)) 0 0 nilV) true))
        have lo13 : (T6.put S0.next (some (.cells 34 (row7 0 kind own (slT 4 p.length (cEs p)) 0 0 nilV) true))).low ≤ o := by rw [put_low]; omega
        obtain ⟨v1, v3⟩ := out (.ret (.cmp 2 0 (row7 0 kind own (slT 4 p.length (cEs p)) 0 0 nilV))) w13 lo13
        refine ⟨.mk 0 kind own p 0 0 [], _, _, _, _, freezeI0 (call (r := .ret (.cmp 2 0 (row7 0 kind own (slT 4 p.length (cEs p)) 0 0 nilV))) ?_), ⟨?_, .inl ⟨.inl ⟨rfl, rfl, rfl⟩, rfl, p2.1, p2.2⟩, fun _ => by show (0 : Int) ≠ 2; decide⟩, v1, v3⟩
        rotate_left
        · show f3.many = f.many + 1; exact hf3m
        subst hT3
        have dn : nt = true → decide (b % 8 = 7) = false := fun e => decide_eq_false fun e' => cA ⟨e, e'⟩
        by_cases c0 : 0 < d
        · have d0 : decide (0 < d) = true := decide_eq_true c0
          by_cases c6 : b % 8 = 6
          · have d6 : decide (b % 8 = 6) = true := decide_eq_true c6
            have d7 : decide (b % 8 = 7) = false := decide_eq_false (by omega)
            have dm : decide (f.many + 1 < 5) = false := decide_eq_false fun h => cB ⟨c0, c6, h⟩
            cases nt
            · simp only [c191_0, c191_1, c191_2, c191_3, c191_4, c191_5, c191_6, c191_7, c191_8, c191_9, c191_10, c191_11, c191_12, c191_13, c191_14, c191_15, yY, iInt, iStr, iLenS, iLenL, iNot, iPick, iExt, if_true, if_false, reduceIte, Nat.reduceEqDiff, Nat.reduceAdd, reduceCtorEq, yQ, hnew, k1, m_nck, m_fad, m_load, many2, hadd, m_store, st3, bs3, hr3, ia3, ld4, bs12, many5, hr12, ia12, ld5, al10, st10, m_build, cells_ref, fillV_c, fillV_0, cells_int, cells_str, fillS_1, List.length_cons, List.length_nil, Nat.reduceLT, List.set_cons_zero, List.set_cons_succ, f_eql, hr8, e7, e6, e5, f_gtr, l0, f_lss, l5, many6, d0, d5, d6, d7, dm, p1, st11, m1, bsA, m2, m3, m4, bsB, m5, m6, u1, u2]
              rw [leave_mem (v := .cmp 2 0 (row7 0 kind own (slT 4 p.length (cEs p)) 0 0 nilV)) (by simp only [yL, if_true, if_false, reduceIte, Nat.reduceEqDiff, reduceCtorEq]; exact u3)]
            · simp only [c191_0, c191_1, c191_2, c191_3, c191_4, c191_5, c191_6, c191_7, c191_8, c191_9, c191_10, c191_11, c191_12, c191_13, c191_14, c191_15, yY, iInt, iStr, iLenS, iLenL, iNot, iPick, iExt, if_true, if_false, reduceIte, Nat.reduceEqDiff, Nat.reduceAdd, reduceCtorEq, yQ, hnew, k1, m_nck, m_fad, m_load, many2, hadd, m_store, st3, bs3, hr3, ia3, ld4, bs12, many5, hr12, ia12, ld5, al10, st10, m_build, cells_ref, fillV_c, fillV_0, cells_int, cells_str, fillS_1, List.length_cons, List.length_nil, Nat.reduceLT, List.set_cons_zero, List.set_cons_succ, f_eql, hr8, e7, e6, e5, f_gtr, l0, f_lss, l5, many6, d0, d5, d6, d7, dm, p1, st11, m1, bsA, m2, m3, m4, bsB, m5, m6, u1, u2]
              rw [leave_mem (v := .cmp 2 0 (row7 0 kind own (slT 4 p.length (cEs p)) 0 0 nilV)) (by simp only [yL, if_true, if_false, reduceIte, Nat.reduceEqDiff, reduceCtorEq]; exact u3)]
          · have d6 : decide (b % 8 = 6) = false := decide_eq_false c6
            cases nt
            · simp only [c191_0, c191_1, c191_2, c191_3, c191_4, c191_5, c191_6, c191_7, c191_8, c191_9, c191_10, c191_11, c191_12, c191_13, c191_14, c191_15, yY, iInt, iStr, iLenS, iLenL, iNot, iPick, iExt, if_true, if_false, reduceIte, Nat.reduceEqDiff, Nat.reduceAdd, reduceCtorEq, yQ, hnew, k1, m_nck, m_fad, m_load, many2, hadd, m_store, st3, bs3, hr3, ia3, ld4, bs12, many5, hr12, ia12, ld5, al10, st10, m_build, cells_ref, fillV_c, fillV_0, cells_int, cells_str, fillS_1, List.length_cons, List.length_nil, Nat.reduceLT, List.set_cons_zero, List.set_cons_succ, f_eql, hr8, e7, e6, e5, f_gtr, l0, f_lss, l5, many6, d0, d5, d6, p1, st11, m1, bsA, m2, m3, m4, bsB, m5, m6, u1, u2]
              rw [leave_mem (v := .cmp 2 0 (row7 0 kind own (slT 4 p.length (cEs p)) 0 0 nilV)) (by simp only [yL, if_true, if_false, reduceIte, Nat.reduceEqDiff, reduceCtorEq]; exact u3)]
            · have d7 := dn rfl
              simp only [c191_0, c191_1, c191_2, c191_3, c191_4, c191_5, c191_6, c191_7, c191_8, c191_9, c191_10, c191_11, c191_12, c191_13, c191_14, c191_15, yY, iInt, iStr, iLenS, iLenL, iNot, iPick, iExt, if_true, if_false, reduceIte, Nat.reduceEqDiff, Nat.reduceAdd, reduceCtorEq, yQ, hnew, k1, m_nck, m_fad, m_load, many2, hadd, m_store, st3, bs3, hr3, ia3, ld4, bs12, many5, hr12, ia12, ld5, al10, st10, m_build, cells_ref, fillV_c, fillV_0, cells_int, cells_str, fillS_1, List.length_cons, List.length_nil, Nat.reduceLT, List.set_cons_zero, List.set_cons_succ, f_eql, hr8, e7, e6, e5, f_gtr, l0, f_lss, l5, many6, d0, d5, d6, d7, p1, st11, m1, bsA, m2, m3, m4, bsB, m5, m6, u1, u2]
              rw [leave_mem (v := .cmp 2 0 (row7 0 kind own (slT 4 p.length (cEs p)) 0 0 nilV)) (by simp only [yL, if_true, if_false, reduceIte, Nat.reduceEqDiff, reduceCtorEq]; exact u3)]
        · have d0 : decide (0 < d) = false := decide_eq_false c0
          cases nt
          · simp only [c191_0, c191_1, c191_2, c191_3, c191_4, c191_5, c191_6, c191_7, c191_8, c191_9, c191_10, c191_11, c191_12, c191_13, c191_14, c191_15, yY, iInt, iStr, iLenS, iLenL, iNot, iPick, iExt, if_true, if_false, reduceIte, Nat.reduceEqDiff, Nat.reduceAdd, reduceCtorEq, yQ, hnew, k1, m_nck, m_fad, m_load, many2, hadd, m_store, st3, bs3, hr3, ia3, ld4, bs12, many5, hr12, ia12, ld5, al10, st10, m_build, cells_ref, fillV_c, fillV_0, cells_int, cells_str, fillS_1, List.length_cons, List.length_nil, Nat.reduceLT, List.set_cons_zero, List.set_cons_succ, f_eql, hr8, e7, e6, e5, f_gtr, l0, f_lss, l5, many6, d0, d5, p1, st11, m1, bsA, m2, m3, m4, bsB, m5, m6, u1, u2]
            rw [leave_mem (v := .cmp 2 0 (row7 0 kind own (slT 4 p.length (cEs p)) 0 0 nilV)) (by simp only [yL, if_true, if_false, reduceIte, Nat.reduceEqDiff, reduceCtorEq]; exact u3)]
          · have d7 := dn rfl
            simp only [c191_0, c191_1, c191_2, c191_3, c191_4, c191_5, c191_6, c191_7, c191_8, c191_9, c191_10, c191_11, c191_12, c191_13, c191_14, c191_15, yY, iInt, iStr, iLenS, iLenL, iNot, iPick, iExt, if_true, if_false, reduceIte, Nat.reduceEqDiff, Nat.reduceAdd, reduceCtorEq, yQ, hnew, k1, m_nck, m_fad, m_load, many2, hadd, m_store, st3, bs3, hr3, ia3, ld4, bs12, many5, hr12, ia12, ld5, al10, st10, m_build, cells_ref, fillV_c, fillV_0, cells_int, cells_str, fillS_1, List.length_cons, List.length_nil, Nat.reduceLT, List.set_cons_zero, List.set_cons_succ, f_eql, hr8, e7, e6, e5, f_gtr, l0, f_lss, l5, many6, d0, d5, d7, p1, st11, m1, bsA, m2, m3, m4, bsB, m5, m6, u1, u2]
            rw [leave_mem (v := .cmp 2 0 (row7 0 kind own (slT 4 p.length (cEs p)) 0 0 nilV)) (by simp only [yL, if_true, if_false, reduceIte, Nat.reduceEqDiff, reduceCtorEq]; exact u3)]
end
end Go.Proofs.YtnccejmggcjaoaaGreatDoor.Av
