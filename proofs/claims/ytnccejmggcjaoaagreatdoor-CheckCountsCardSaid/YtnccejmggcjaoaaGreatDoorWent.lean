/-
  THE FEED GOES ON: its bytes, its count, its rows of names; items that come back.
-/
import Derived.Test.YtnccejmggcjaoaaGreatDoorPred
namespace Go.Proofs.YtnccejmggcjaoaaGreatDoor.Av
set_option linter.unusedVariables false
set_option linter.unusedSimpArgs false
set_option maxRecDepth 1000000
open Go
structure Sep (o : Nat) (vv vo : V) : Prop where
  v : ∀ k n, vv = .ref 3 k 0 n n false → o < k
  w : ∀ k n, vo = .ref 3 k 0 n n false → o < k
  ne : ∀ k n m, vv = .ref 3 k 0 n n false → vo = .ref 3 k 0 m m false → False
structure Went (o : Nat) (f f' : Fd) (vv' vo' : V) (st st' : St) : Prop where
  lt : o < st.next
  feed : FeedAt st' o f' vv' vo'
  sep : Sep o vv' vo'
  next : st.next ≤ st'.next
  low : min o st.low ≤ st'.low ∧ st'.low ≤ st.low
  mem : ∀ x, x < st.next → x ≠ o → (∀ cs, st.mem.get x ≠ some (.cells 9 cs true)) → st'.mem.get x = st.mem.get x
  l : f'.l = f.l
theorem FeedAt.same {st st' : St} {o : Nat} {f : Fd} {vv vo : V} (h : FeedAt st o f vv vo) (hn : st.next ≤ st'.next)
    (hm : ∀ x, x < st.next → (∃ e cs, st.mem.get x = some (.cells e cs true) ∧ (e = 9 ∨ e = 215)) → st'.mem.get x = st.mem.get x) : FeedAt st' o f vv vo := by
  have hs : ∀ {v : V} {ss : List Str}, SlS st v ss → SlS st' v ss := by
    intro v ss hv
    rcases hv with h | ⟨k, h0, h1, h2, h3⟩
    · exact .inl h
    · exact .inr ⟨k, h0, h1, by omega, by rw [hm k h2 ⟨_, _, h3, .inl rfl⟩]; exact h3⟩
  exact ⟨Nat.lt_of_lt_of_le h.lt hn, by rw [hm o h.lt ⟨_, _, h.get, .inr rfl⟩]; exact h.get, hs h.vars, hs h.of_, h.len, h.bytes⟩
theorem Went.start {o : Nat} {f : Fd} {vv vo : V} {S0 : St} (h : FeedAt S0 o f vv vo) (hs : Sep o vv vo) : Went o f f vv vo S0 S0 :=
  ⟨h.lt, h, hs, Nat.le_refl _, ⟨Nat.min_le_right _ _, Nat.le_refl _⟩, fun _ _ _ _ => rfl, rfl⟩
theorem Moved.went {o : Nat} {f : Fd} {vv vo : V} {a : Nat} {st st' : St} (h : Moved o f vv vo a st st') (hs : Sep o vv vo) : Went o f { f with at_ := a } vv vo st st' :=
  ⟨h.lt, h.feed, hs, h.next, h.low, fun x h1 h2 _ => h.mem x h1 h2, rfl⟩
theorem Went.trans {o : Nat} {f f1 f2 : Fd} {v1 w1 v2 w2 : V} {st st1 st2 : St} (h : Went o f f1 v1 w1 st st1) (h' : Went o f1 f2 v2 w2 st1 st2) : Went o f f2 v2 w2 st st2 :=
  ⟨h.lt, h'.feed, h'.sep, Nat.le_trans h.next h'.next, by have := h.low; have := h'.low; omega, fun x hx hne hs => by
    have e := h.mem x hx hne hs
    rw [h'.mem x (Nat.lt_of_lt_of_le hx h.next) hne (by rw [e]; exact hs), e], h'.l.trans h.l⟩
theorem Went.new {o : Nat} {f f' : Fd} {v w : V} {S0 S : St} (h : Went o f f' v w S0 S) (b : Ob) : Went o f f' v w S0 (S.new b) := by
  have hn := h.next
  exact ⟨h.lt, h.feed.same (Nat.le_succ _) fun x hx _ => by rw [new_get, if_neg (by omega)], h.sep, Nat.le_succ_of_le hn, h.low, fun x hx hne hs => by rw [new_get, if_neg (by omega)]; exact h.mem x hx hne hs, h.l⟩
theorem Went.put {o : Nat} {f f' : Fd} {v w : V} {S0 S : St} (h : Went o f f' v w S0 S) {k e : Nat} {cs : List V} (hk : S0.next ≤ k) (hg : S.mem.get k = some (.cells e cs true)) (he : e ≠ 9 ∧ e ≠ 215) (b : Option Ob) : Went o f f' v w S0 (S.put k b) := by
  have hlt := h.lt
  have hlow := h.low
  have ho := h.feed.lt
  refine ⟨hlt, h.feed.same (Nat.le_refl _) fun x hx hx' => ?_, h.sep, h.next, ⟨by rw [put_low]; omega, by rw [put_low]; omega⟩, fun x hx hne hs => by rw [put_get, if_neg (by omega)]; exact h.mem x hx hne hs, h.l⟩
  rw [put_get, if_neg ?_]
  rintro rfl
  obtain ⟨e', cs', h1, h2⟩ := hx'
  rw [hg] at h1
  injection h1 with h1
  injection h1 with h1 _
  omega
theorem Went.own {o : Nat} {f f' f2 : Fd} {v w v2 w2 : V} {S0 S : St} (h : Went o f f' v w S0 S) (hl : f2.l = f'.l)
    (h2 : FeedAt (S.put o (some (.cells 215 [slT 4 f2.l.length (cB f2.l), .int 63 (Int.ofNat f2.at_), v2, w2, .int 63 (Int.ofNat f2.many)] true))) o f2 v2 w2) (hs : Sep o v2 w2) :
    Went o f f2 v2 w2 S0 (S.put o (some (.cells 215 [slT 4 f2.l.length (cB f2.l), .int 63 (Int.ofNat f2.at_), v2, w2, .int 63 (Int.ofNat f2.many)] true))) := by
  have hlow := h.low
  exact ⟨h.lt, h2, hs, h.next, ⟨by rw [put_low]; omega, by rw [put_low]; omega⟩, fun x hx hne hs => by rw [put_get, if_neg hne]; exact h.mem x hx hne hs, hl.trans h.l⟩
theorem Went.back {o : Nat} {f f' : Fd} {v' w' : V} {st st' : St} (r : CR) (h : Went o f f' v' w' { next := st.next, low := st.next, mem := st.mem } st') (hlo : st'.low ≤ o) : Went o f f' v' w' st (back st r st') := by
  have hlt : o < st.next := h.lt
  have hl : (bif Nat.ble st.low st'.low then st.low else st'.low) = min st.low st'.low := by
    by_cases hb : st.low ≤ st'.low
    · rw [bleT hb, cond_true]; omega
    · rw [bleF hb, cond_false]; omega
  have h1 := h.low
  simp only at h1
  unfold Av.back
  rw [bleF (by omega : ¬ st.next ≤ st'.low), Bool.false_and]
  show Went o f f' v' w' st { next := st'.next, low := bif Nat.ble st.low st'.low then st.low else st'.low, mem := st'.mem }
  rw [hl]
  exact ⟨hlt, h.feed.low _, h.sep, h.next, ⟨by show min o st.low ≤ min st.low st'.low; omega, Nat.min_le_left _ _⟩, h.mem, h.l⟩
theorem app_ev {T : St} {v : V} {ss : List Str} (h : SlS T v ss) {ks : Nat} {s : Str} (hs : T.mem.get ks = some (.cells 9 [.str s] true)) (hlen : ss.length < 1000) :
    ∃ T', (∀ (tm : Tr V) (x y : X), X.ev tm x = v → X.ev tm y = .ref 3 ks 0 1 1 true → iApp false 9 1 16 x y tm T = some (.ref 3 T.next 0 (ss.length + 1) (ss.length + 1) false, T')) ∧ T'.next = T.next + 1 ∧
      T'.mem.get T.next = some (.cells 9 ((ss ++ [s]).map .str) true) ∧ (∀ x, x < T.next → (∀ n, v ≠ .ref 3 x 0 n n false) → T'.mem.get x = T.mem.get x) ∧ T'.low ≤ T.low ∧ ∀ L, L ≤ T.low → (∀ k n, v = .ref 3 k 0 n n false → L ≤ k) → L ≤ T'.low := by
  have hsrc : srcF false T 1 (.ref 3 ks 0 1 1 true) = some ([.str s], 1) := by
    show onCells none (fun _ cs _ => bif Nat.ble (Nat.add 0 (Nat.mul 1 1)) (lenL cs) then some (takeL (dropL cs 0) (Nat.mul 1 1), 1) else none) (T.mem.get ks) = _
    rw [hs]; rfl
  rcases h with ⟨rfl, rfl⟩ | ⟨k, hne, rfl, hk, hg⟩
  · refine ⟨T.new (.cells 9 [.str s] true), fun tm x y hx hy => ?_, rfl, new_get_self' _ _, fun x hx _ => by rw [new_get, if_neg (by omega)], Nat.le_refl _, fun L hL _ => hL⟩
    unfold iApp
    rw [hx, hy, hsrc]; rfl
  · refine ⟨(T.put k none).new (.cells 9 ((ss ++ [s]).map .str) true), fun tm x y hx hy => ?_, rfl, new_get_self' _ _, fun x hx hv => ?_, ?_, fun L hL hv => ?_⟩
    · unfold iApp
      rw [hx, hy, hsrc]
      show (bif Nat.ble (Nat.add ss.length 1) ss.length then appIn T 1 [.str s] 1 k 0 ss.length ss.length false else appNew T 9 1 16 [.str s] 1 k 0 ss.length false) = _
      rw [show Nat.ble (Nat.add ss.length 1) ss.length = false from bleF (by show ¬ ss.length + 1 ≤ ss.length; omega)]
      show onCells none _ (T.mem.get k) = _
      rw [hg]
      show (bif Nat.ble (Nat.add 0 (Nat.mul ss.length 1)) (lenL (ss.map V.str)) && Nat.ble (Nat.mul (Nat.add ss.length 1) 16) 140737488355328 then
        (some (V.ref 3 T.next 0 (Nat.add ss.length 1) (Nat.add ss.length 1) false, (T.put k none).new (.cells 9 (appL (takeL (dropL (ss.map V.str) 0) (Nat.mul ss.length 1)) [.str s]) true))) else none) = _
      rw [lenL_eq, show Nat.ble (Nat.add 0 (Nat.mul ss.length 1)) (ss.map V.str).length = true from bleT (by show 0 + ss.length * 1 ≤ _; rw [List.length_map]; omega), show Nat.ble (Nat.mul (Nat.add ss.length 1) 16) 140737488355328 = true from bleT (by show (ss.length + 1) * 16 ≤ _; omega)]
      have : appL (takeL (dropL (ss.map V.str) 0) (Nat.mul ss.length 1)) [V.str s] = (ss ++ [s]).map .str := by
        rw [appL_eq, takeL_eq, dropL_eq, List.drop_zero, List.map_append]
        rw [List.take_of_length_le (by show _ ≤ ss.length * 1; rw [List.length_map]; omega)]; rfl
      rw [this]; rfl
    · rw [new_get, if_neg (by show x ≠ T.next; omega), put_get, if_neg (fun e => hv ss.length (by rw [e]))]
    · show (T.put k none).low ≤ _; rw [put_low]; exact Nat.min_le_left _ _
    · show L ≤ (T.put k none).low
      rw [put_low]
      have := hv k ss.length rfl
      omega
theorem size_I : sizeT Tryz.prog 34 = some 7 := by kernel_rfl
theorem size_Is : sizeT Tryz.prog 25 = some 1 := by kernel_rfl
section
variable {f : Nat} {args : List V} {st s : St}
theorem freezeI0 {k lo hi : Int} {n v : Str} {p : List Et} (h : CallAt Tryz.prog f args st (.ret (.cmp 2 0 [.int 63 k, .str n, .str v, slT 4 p.length (cEs p), .int 63 lo, .int 63 hi, .ref 2 0 0 0 0 false])) s) : CallAt Tryz.prog f args st (.ret (.cmp 2 0 (cI (.mk k n v p lo hi [])))) s :=
  freeze (D := fun _ => False) h (fun _ hd => hd.elim) ⟨rfl, fun _ hd => hd.elim, fun o b' hb => ⟨b', hb, .inl rfl⟩⟩ (Nat.le_refl _) (fun _ _ _ => rfl) (fun _ _ _ => rfl)
    (.ret _ _ (.cmp 2 0 _ _ (by decide) (.cons (.same _) (.cons (.same _) (.cons (.same _) (.cons (.same _) (.cons (.same _) (.cons (.same _) (.cons .nil .nil)))))))))
theorem freezeI2 {k lo hi : Int} {n v : Str} {ko m : Nat} {x : Bool} {ks : List (List It)} (h : CallAt Tryz.prog f args st (.ret (.cmp 2 0 [.int 63 k, .str n, .str v, .ref 2 0 0 0 0 false, .int 63 lo, .int 63 hi, .ref 3 ko 0 m m x])) s) (hko : st.next ≤ ko)
    (hg : s.mem.get ko = some (.cells 25 (cKs ks) true)) (hm : m = ks.length) : CallAt Tryz.prog f args st (.ret (.cmp 2 0 (cI (.mk k n v [] lo hi ks)))) (s.put ko none) := by
  subst hm
  refine freeze (D := fun y => y = ko) h (fun _ hd => by subst hd; exact hko) ⟨rfl, fun y hd => by rw [put_get, if_pos hd], fun o b' hb => ?_⟩ (by rw [put_low]; exact Nat.min_le_left _ _) (fun o ho _ => by rw [put_get, if_neg (by omega)]) (fun o ho _ => by rw [put_get, if_neg (by omega)]) ?_
  · rw [put_get] at hb
    split at hb
    · exact nomatch hb
    · exact ⟨b', hb, .inl rfl⟩
  · refine .ret _ _ (.cmp 2 0 _ _ (by decide) (.cons (.same _) (.cons (.same _) (.cons (.same _) (.cons .nil (.cons (.same _) (.cons (.same _) (.cons ?_ .nil))))))))
    refine .fsl ko 0 _ _ _ 25 1 (cKs ks) (cKs ks) rfl hg size_Is (by rw [cKs_len]; omega) ?_
    rw [List.drop_zero, List.take_of_length_le (by rw [cKs_len]; omega)]
    exact Fvs.refl _
end
end Go.Proofs.YtnccejmggcjaoaaGreatDoor.Av
