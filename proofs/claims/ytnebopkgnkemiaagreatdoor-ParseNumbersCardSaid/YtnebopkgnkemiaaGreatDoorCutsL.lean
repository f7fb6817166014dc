/-
  A TEXT CUT BEHIND A WORD: plain Lean.
-/
import Derived.Test.YtnebopkgnkemiaaGreatDoorTokL
namespace Go.Proofs.YtnebopkgnkemiaaGreatDoor.Av
set_option linter.unusedVariables false
set_option linter.unusedSimpArgs false
set_option maxRecDepth 1000000
open Go
theorem spaces_of : ∀ l : List UInt8, ∃ u, l = u ++ dropSp l ∧ ∀ b ∈ u, isSp b
  | [] => ⟨[], rfl, fun b hb => nomatch hb⟩
  | b :: l => by
    rw [dropSp_cons]
    cases h : spN b.toNat with
    | false => exact ⟨[], by rw [cond_false]; rfl, fun b hb => nomatch hb⟩
    | true =>
      obtain ⟨u, h1, h2⟩ := spaces_of l
      refine ⟨b :: u, by rw [cond_true, List.cons_append, ← h1], fun x hx => ?_⟩
      rcases List.mem_cons.1 hx with rfl | hx
      · unfold spN at h
        have key : ∀ n : Nat, n < 256 → Nat.beq x.toNat n = true → x = UInt8.ofNat n := fun n _ hn => by rw [← beq_iff.1 hn]; simp
        rcases Bool.or_eq_true _ _ ▸ h with h | h
        · exact .inl (key 32 (by decide) h)
        rcases Bool.or_eq_true _ _ ▸ h with h | h
        · exact .inr (.inl (key 10 (by decide) h))
        rcases Bool.or_eq_true _ _ ▸ h with h | h
        · exact .inr (.inr (.inl (key 9 (by decide) h)))
        · exact .inr (.inr (.inr (key 13 (by decide) h)))
      · exact h2 x hx
theorem all_step (f : Nat) {u T c : List UInt8} {k v : Int} (hu : ∀ b ∈ u, isSp b) (hc : Cl T k v) (he : EndsW k T c) (pos : Nat) : allL (f + 1) (u ++ (T ++ c)) pos =
    ((allL f c (pos + u.length + T.length)).1.map fun ts => ⟨k, T, v, pos + u.length⟩ :: ts, (allL f c (pos + u.length + T.length)).2) := by
  obtain ⟨e1, e2, e3, e4, e5, e6⟩ := word_next hc he
  have h1 : dropSp (u ++ (T ++ c)) = T ++ c := by rw [drop_sp hu, e5]
  have h4 : (u ++ (T ++ c)).length - (T ++ c).length = u.length := by rw [List.length_append]; omega
  have h5 : T ++ c ≠ [] := fun h => e6 (List.append_eq_nil_iff.1 h).1
  show (if dropSp (u ++ (T ++ c)) = [] then (some [], pos + (u ++ (T ++ c)).length) else if nextB (dropSp (u ++ (T ++ c))) = true then
      ((allL f ((dropSp (u ++ (T ++ c))).drop (nextT (dropSp (u ++ (T ++ c)))).length) (pos + ((u ++ (T ++ c)).length - (dropSp (u ++ (T ++ c))).length) + (nextT (dropSp (u ++ (T ++ c)))).length)).1.map fun ts => (⟨nextK (dropSp (u ++ (T ++ c))), nextT (dropSp (u ++ (T ++ c))), nextN (dropSp (u ++ (T ++ c))), pos + ((u ++ (T ++ c)).length - (dropSp (u ++ (T ++ c))).length)⟩ : TokA) :: ts,
        (allL f ((dropSp (u ++ (T ++ c))).drop (nextT (dropSp (u ++ (T ++ c)))).length) (pos + ((u ++ (T ++ c)).length - (dropSp (u ++ (T ++ c))).length) + (nextT (dropSp (u ++ (T ++ c)))).length)).2)
    else (none, pos + ((u ++ (T ++ c)).length - (dropSp (u ++ (T ++ c))).length))) = _
  rw [h1, if_neg h5, if_pos e2, e1, e3, e4, h4, List.drop_left]
theorem all_cases (f : Nat) (l : List UInt8) : (∀ b ∈ l, isSp b) ∨ (∃ u T c k v, l = u ++ (T ++ c) ∧ (∀ b ∈ u, isSp b) ∧ Cl T k v ∧ EndsW k T c ∧ T ≠ []) ∨ ∀ pos, (allL (f + 1) l pos).1 = none := by
  obtain ⟨u, h1, h2⟩ := spaces_of l
  by_cases hl : dropSp l = []
  · left
    rw [hl, List.append_nil] at h1
    rw [h1]; exact h2
  right
  by_cases hb : nextB (dropSp l) = true
  · left
    obtain ⟨c1, c2, c3⟩ := word_of hb
    have hne := (word_next c1 c2).2.2.2.2.2
    exact ⟨u, nextT (dropSp l), (dropSp l).drop (nextT (dropSp l)).length, _, _, by rw [← c3]; exact h1, h2, c1, c2, hne⟩
  · right
    intro pos
    unfold allL
    rw [if_neg hl, if_neg hb]
theorem all_sp (f : Nat) {l : List UInt8} (h : ∀ b ∈ l, isSp b) (pos : Nat) : allL (f + 1) l pos = (some [], pos + l.length) := all_end f h pos
def TokA.at (x : TokA) (d : Nat) : TokA := ⟨x.k, x.t, x.v, x.pos + d⟩
theorem all_shift : ∀ (f g : Nat) (l : List UInt8) (pos d : Nat), l.length < f → l.length < g → (allL g l (pos + d)).1 = (allL f l pos).1.map fun ts => ts.map fun x => x.at d
  | 0, g, l, pos, d, h, _ => by omega
  | f + 1, 0, l, pos, d, _, h => by omega
  | f + 1, g + 1, l, pos, d, hf, hg => by
    rcases all_cases f l with h | ⟨u, T, c, k, v, h1, h2, h3, h4, h5⟩ | h
    · rw [all_sp f h, all_sp g h]; rfl
    · have hlen := congrArg List.length h1
      rw [List.length_append, List.length_append] at hlen
      have hT := List.length_pos_iff.2 h5
      rw [h1, all_step f h2 h3 h4, all_step g h2 h3 h4]
      have ih := all_shift f g c (pos + u.length + T.length) d (by omega) (by omega)
      rw [show pos + d + u.length + T.length = pos + u.length + T.length + d by omega]
      show (allL g c (pos + u.length + T.length + d)).1.map _ = ((allL f c (pos + u.length + T.length)).1.map _).map _
      rw [ih]
      cases (allL f c (pos + u.length + T.length)).1 with
      | none => rfl
      | some ts =>
        show some _ = some _
        congr 1
        show _ :: _ = _ :: _
        congr 1
        unfold TokA.at
        simp only [TokA.mk.injEq, true_and]
        omega
    · have hn : (allL (g + 1) l (pos + d)).1 = none := by
        rcases all_cases g l with h' | ⟨u, T, c, k, v, h1, h2, h3, h4, h5⟩ | h'
        · have := h pos
          rw [all_sp f h'] at this
          exact nomatch this
        · have hlen := congrArg List.length h1
          rw [List.length_append, List.length_append] at hlen
          have hT := List.length_pos_iff.2 h5
          have hp := h pos
          rw [h1, all_step f h2 h3 h4] at hp
          have ih := all_shift f g c (pos + u.length + T.length) d (by omega) (by omega)
          cases hq : (allL f c (pos + u.length + T.length)).1 with
          | some ts => simp only [hq, Option.map_some] at hp; exact nomatch hp
          | none =>
            rw [hq] at ih
            rw [h1, all_step g h2 h3 h4, show pos + d + u.length + T.length = pos + u.length + T.length + d by omega]
            simp only [ih, Option.map_none]
        · exact h' _
      rw [hn, h pos]; rfl
theorem ends_nil {T : List UInt8} {k v : Int} (hc : Cl T k v) : EndsW k T [] := by
  rcases hc with ⟨r, rs, hT, hv, h1, h2, hb, hk, hv0⟩ | ⟨hne, hd, hn, hk⟩ | ⟨hs, hk, hv0⟩
  · rw [hk, ends_nm]; exact fst_nil _
  · rw [hk, ends_dg]; exact fst_nil _
  · rw [hk, ends_sg, List.append_nil]
    unfold signs at hs
    simp only [List.mem_cons, List.not_mem_nil, or_false] at hs
    rcases hs with rfl | rfl | rfl | rfl | rfl | rfl | rfl | rfl | rfl | rfl | rfl | rfl | rfl | rfl | rfl | rfl | rfl | rfl | rfl | rfl | rfl | rfl | rfl | rfl <;> rfl
theorem first_rune {T : List UInt8} {k v : Int} (hc : Cl T k v) : ∃ r x, T = enc r ++ x ∧ VRune r := by
  rcases hc with ⟨r, rs, hT, hv, _⟩ | ⟨hne, hd, hn, hk⟩ | ⟨hs, hk, hv0⟩
  · exact ⟨r, flatR rs, by rw [hT, flatR_cons], hv r (List.mem_cons_self ..)⟩
  · obtain ⟨a, t, rfl⟩ := List.exists_cons_of_ne_nil hne
    have ha := (hd a (List.mem_cons_self ..)).2
    exact ⟨a.toNat, t, by rw [enc1 (by omega), ofNat_self]; rfl, by unfold VRune; omega⟩
  · obtain ⟨a, t, rfl, h1, _⟩ := sign_first T hs
    exact ⟨a.toNat, t, by rw [enc1 h1, ofNat_self]; rfl, by unfold VRune; omega⟩
theorem fst0_same {p : Nat → Bool} {r : Nat} {y : List UInt8} (hv : VRune r) (h : ∀ f, fstN p f (enc r ++ y) = 0) (z : List UInt8) : ∀ f, fstN p f (enc r ++ z) = 0 := by
  have hp : p r = false := by
    cases hp : p r with
    | false => rfl
    | true =>
      have h1 := h 1
      rw [fst_enc hv hp] at h1
      have := enc_pos r
      exact absurd h1 (Nat.ne_of_gt (Nat.lt_of_lt_of_le this (Nat.le_add_right _ _)))
  intro f
  cases f with
  | zero => rfl
  | succ f =>
    show (if enc r ++ z = [] then 0 else if (badB (enc r ++ z) || !p (Lib.decodeL (enc r ++ z)).1) = true then 0 else (Lib.decodeL (enc r ++ z)).2 + fstN p f ((enc r ++ z).drop (Lib.decodeL (enc r ++ z)).2)) = 0
    rw [if_neg (fun h => enc_ne r (List.append_eq_nil_iff.1 h).1), dec_enc hv, hp, if_pos (by rw [Bool.not_false, Bool.or_true])]
theorem pre_iff (c s : List UInt8) : isPre c s = true ↔ ∃ t, s = c ++ t := by
  rw [isPre_eq, Bool.and_eq_true]
  constructor
  · intro ⟨_, h⟩
    exact ⟨s.drop c.length, by have := (List.take_append_drop c.length s).symm; rwa [of_decide_eq_true h] at this⟩
  · rintro ⟨t, rfl⟩
    exact ⟨decide_eq_true (by rw [List.length_append]; omega), decide_eq_true List.take_left⟩
theorem fstPre_cut {T a b : List UInt8} : ∀ {L : List (List UInt8)}, fstPre (T ++ (a ++ b)) L = some T → fstPre (T ++ a) L = some T
  | [], h => nomatch h
  | d :: L, h => by
    have h' : (bif isPre d (T ++ (a ++ b)) then some d else fstPre (T ++ (a ++ b)) L) = some T := h
    show (bif isPre d (T ++ a) then some d else fstPre (T ++ a) L) = some T
    cases hp : isPre d (T ++ (a ++ b)) with
    | true =>
      rw [hp, cond_true] at h'
      obtain rfl := Option.some.inj h'
      rw [(pre_iff d (d ++ a)).2 ⟨a, rfl⟩, cond_true]
    | false =>
      rw [hp, cond_false] at h'
      have hq : isPre d (T ++ a) = false := by
        cases hq : isPre d (T ++ a) with
        | false => rfl
        | true =>
          obtain ⟨t, ht⟩ := (pre_iff _ _).1 hq
          have : isPre d (T ++ (a ++ b)) = true := (pre_iff _ _).2 ⟨t ++ b, by rw [← List.append_assoc, ht, List.append_assoc]⟩
          rw [this] at hp; exact nomatch hp
      rw [hq, cond_false]
      exact fstPre_cut h'
theorem ends_cut {T y z : List UInt8} {k v : Int} {r : Nat} (hc : Cl T k v) (hr : VRune r) (he : EndsW k T (enc r ++ (y ++ z))) : EndsW k T (enc r ++ y) := by
  rcases hc with ⟨r', rs, hT, hv, h1, h2, hb, hk, hv0⟩ | ⟨hne, hd, hn, hk⟩ | ⟨hs, hk, hv0⟩
  · rw [hk, ends_nm] at he ⊢
    exact fst0_same hr he y
  · rw [hk, ends_dg] at he ⊢
    exact fst0_same hr he y
  · rw [hk, ends_sg] at he ⊢
    rw [← List.append_assoc] at he
    have he' : fstPre (T ++ ((enc r ++ y) ++ z)) signs = some T := by rw [List.append_assoc (enc r)]; rw [List.append_assoc] at he; exact he
    exact fstPre_cut he'
theorem all_cut : ∀ (f : Nat) (l : List UInt8) (pos : Nat) (ts : List TokA) (i : Nat) (hi : i < ts.length), l.length < f → (allL f l pos).1 = some ts →
    ∃ a b, l = a ++ b ∧ pos + a.length = (ts[i]'hi).pos + (ts[i]'hi).t.length ∧ (∃ r x, a = enc r ++ x ∧ VRune r) ∧ (∃ g bs, a.length < g ∧ (allL g a pos).1 = some bs ∧ bs.length = i + 1) ∧ ∃ g, b.length < g ∧ (allL g b (pos + a.length)).1 = some (ts.drop (i + 1))
  | 0, l, pos, ts, i, hi, h, _ => by omega
  | f + 1, l, pos, ts, i, hi, hf, h => by
    rcases all_cases f l with hs | ⟨u, T, c, k, v, h1, h2, h3, h4, h5⟩ | hn
    · rw [all_sp f hs] at h
      obtain rfl := Option.some.inj h
      exact absurd hi (Nat.not_lt_zero _)
    · have hlen := congrArg List.length h1
      rw [List.length_append, List.length_append] at hlen
      have hT := List.length_pos_iff.2 h5
      rw [h1, all_step f h2 h3 h4] at h
      have hfirst : ∀ x : List UInt8, ∃ r y, u ++ (T ++ x) = enc r ++ y ∧ VRune r := fun x => by
        cases u with
        | nil =>
          obtain ⟨r, y, hy, hr⟩ := first_rune h3
          exact ⟨r, y ++ x, by rw [List.nil_append, hy, List.append_assoc], hr⟩
        | cons b u =>
          have hb : b.toNat < 128 := by
            rcases h2 b (List.mem_cons_self ..) with rfl | rfl | rfl | rfl <;> decide
          exact ⟨b.toNat, u ++ (T ++ x), by rw [enc1 hb, ofNat_self]; rfl, by unfold VRune; omega⟩
      cases hq : (allL f c (pos + u.length + T.length)).1 with
      | none => simp only [hq, Option.map_none] at h; exact nomatch h
      | some ts' =>
        simp only [hq, Option.map_some, Option.some.injEq] at h
        subst h
        cases i with
        | zero =>
          refine ⟨u ++ T, c, by rw [h1, List.append_assoc], ?_, ?_, ⟨u.length + T.length + 2, [⟨k, T, v, pos + u.length⟩], ?_, ?_, rfl⟩, f, by omega, ?_⟩
          · show pos + (u ++ T).length = pos + u.length + T.length
            rw [List.length_append]; omega
          · have := hfirst []
            rwa [List.append_nil] at this
          · rw [List.length_append]; omega
          · have hst := all_step (u.length + T.length + 1) h2 h3 (ends_nil h3) pos
            rw [List.append_nil] at hst
            rw [hst, all_sp (u.length + T.length) (l := []) (fun b hb => nomatch hb)]
            rfl
          · rw [List.length_append, ← Nat.add_assoc, hq]
            rfl
        | succ i =>
          have hi' : i < ts'.length := by simpa using hi
          obtain ⟨a, b, k1, k2, ⟨r, x, k3, k4⟩, ⟨g, bs, k5, k6, k7⟩, g', k8, k9⟩ := all_cut f c (pos + u.length + T.length) ts' i hi' (by omega) hq
          have he : EndsW k T a := by
            rw [k1, k3, List.append_assoc] at h4
            rw [k3]
            exact ends_cut h3 k4 h4
          have hal : pos + (u ++ (T ++ a)).length = pos + u.length + T.length + a.length := by rw [List.length_append, List.length_append]; omega
          refine ⟨u ++ (T ++ a), b, by rw [h1, k1]; simp only [List.append_assoc], ?_, hfirst a, ⟨g + (u.length + T.length) + 1, ⟨k, T, v, pos + u.length⟩ :: bs, ?_, ?_, by rw [List.length_cons, k7]⟩, g', k8, ?_⟩
          · rw [hal, k2]; rfl
          · rw [List.length_append, List.length_append]; omega
          · rw [all_step _ h2 h3 he]
            have hsh := all_shift g (g + (u.length + T.length)) a (pos + u.length + T.length) 0 k5 (by omega)
            rw [Nat.add_zero, k6] at hsh
            have hid : (bs.map fun x => x.at 0) = bs := by
              have : (fun x : TokA => x.at 0) = id := by funext x; cases x; rfl
              rw [this, List.map_id]
            rw [Option.map_some, hid] at hsh
            simp only [hsh, Option.map_some]
          · rw [hal, k9]
            rfl
    · rw [hn pos] at h; exact nomatch h
end Go.Proofs.YtnebopkgnkemiaaGreatDoor.Av
