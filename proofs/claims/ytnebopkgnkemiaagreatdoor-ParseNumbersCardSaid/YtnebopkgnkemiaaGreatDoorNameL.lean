/-
  ONE WORD, A NAME, JUST IF IT IS A NAME: plain Lean, of a text of runes none of which is a space.
-/
import Derived.Test.YtnebopkgnkemiaaGreatDoorNum
namespace Go.Proofs.YtnebopkgnkemiaaGreatDoor.Av
set_option linter.unusedVariables false
set_option linter.unusedSimpArgs false
set_option maxRecDepth 1000000
open Go
def flatR (rs : List Nat) : List UInt8 := rs.flatMap enc
theorem flatR_cons (r : Nat) (rs : List Nat) : flatR (r :: rs) = enc r ++ flatR rs := rfl
theorem bad_enc {r : Nat} (hv : VRune r) (t : List UInt8) : badB (enc r ++ t) = false := by
  unfold badB
  rw [dec_enc hv]
  by_cases h : r = 65533
  · subst h
    rw [enc3 hv (by omega) (by omega)]
    rfl
  · simp only [beqF h, Bool.false_and]
theorem flatR_ne (r : Nat) (rs : List Nat) : flatR (r :: rs) ≠ [] := by
  rw [flatR_cons]
  intro h
  exact enc_ne r (List.append_eq_nil_iff.1 h).1
theorem enc_pos (r : Nat) : 0 < (enc r).length := List.length_pos_iff.2 (enc_ne r)
theorem flatR_nil : flatR [] = [] := rfl
theorem fst_nil (p : Nat → Bool) (f : Nat) : fstN p f [] = 0 := by
  cases f with
  | zero => rfl
  | succ f => unfold fstN; rw [if_pos rfl]
theorem nm_nil (f : Nat) (b : Bool) : nmN f b [] = true := by
  cases f with
  | zero => rfl
  | succ f => unfold nmN; rw [if_pos rfl]
theorem fst_flatR (p : Nat → Bool) (rs : List Nat) : ∀ f : Nat, (∀ r ∈ rs, VRune r) → (flatR rs).length ≤ f → fstN p f (flatR rs) = (flatR (rs.takeWhile p)).length := by
  induction rs with
  | nil => intro f _ _; rw [flatR_nil, fst_nil]; rfl
  | cons r rs ih =>
    intro f hv h
    have hr := hv r (List.mem_cons_self ..)
    have hp := enc_pos r
    rw [flatR_cons, List.length_append] at h
    obtain ⟨f, rfl⟩ : ∃ k, f = k + 1 := ⟨f - 1, by omega⟩
    show (if flatR (r :: rs) = [] then 0 else if (badB (flatR (r :: rs)) || !p (Lib.decodeL (flatR (r :: rs))).1) = true then 0 else (Lib.decodeL (flatR (r :: rs))).2 + fstN p f ((flatR (r :: rs)).drop (Lib.decodeL (flatR (r :: rs))).2)) = _
    rw [if_neg (flatR_ne r rs), flatR_cons, dec_enc hr, bad_enc hr, List.drop_left, List.takeWhile_cons]
    cases hpr : p r with
    | false => rw [if_pos (by decide), if_neg (by decide)]; rfl
    | true =>
      rw [if_neg (by decide), if_pos rfl, flatR_cons, List.length_append, ih f (fun x hx => hv x (List.mem_cons_of_mem _ hx)) (by omega)]
theorem nm_flatR (rs : List Nat) : ∀ f : Nat, (∀ r ∈ rs, VRune r) → (flatR rs).length ≤ f → nmN f false (flatR rs) = rs.all bothG := by
  induction rs with
  | nil => intro f _ _; rw [flatR_nil, nm_nil]; rfl
  | cons r rs ih =>
    intro f hv h
    have hr := hv r (List.mem_cons_self ..)
    have hp := enc_pos r
    rw [flatR_cons, List.length_append] at h
    obtain ⟨f, rfl⟩ : ∃ k, f = k + 1 := ⟨f - 1, by omega⟩
    show (if flatR (r :: rs) = [] then true else (letterG (Lib.decodeL (flatR (r :: rs))).1 || (!false && digitG (Lib.decodeL (flatR (r :: rs))).1)) && nmN f false ((flatR (r :: rs)).drop (Lib.decodeL (flatR (r :: rs))).2)) = _
    rw [if_neg (flatR_ne r rs), flatR_cons, dec_enc hr, List.drop_left, ih f (fun x hx => hv x (List.mem_cons_of_mem _ hx)) (by omega)]
    rfl
theorem nm_flat1 {r : Nat} {rs : List Nat} (hv : ∀ x ∈ r :: rs, VRune x) : nmN (flatR (r :: rs)).length true (flatR (r :: rs)) = (letterG r && rs.all bothG) := by
  have hr := hv r (List.mem_cons_self ..)
  have hp := enc_pos r
  obtain ⟨k, hk⟩ : ∃ k, (flatR (r :: rs)).length = k + 1 := ⟨(flatR (r :: rs)).length - 1, by rw [flatR_cons, List.length_append]; omega⟩
  rw [hk]
  show (if flatR (r :: rs) = [] then true else (letterG (Lib.decodeL (flatR (r :: rs))).1 || (!true && digitG (Lib.decodeL (flatR (r :: rs))).1)) && nmN k false ((flatR (r :: rs)).drop (Lib.decodeL (flatR (r :: rs))).2)) = _
  rw [flatR_cons, List.length_append] at hk
  rw [if_neg (flatR_ne r rs), flatR_cons, dec_enc hr, List.drop_left, nm_flatR rs k (fun x hx => hv x (List.mem_cons_of_mem _ hx)) (by omega), Bool.not_true, Bool.false_and, Bool.or_false]
theorem all_takeWhile {α : Type} {p : α → Bool} : ∀ {l : List α}, l.all p = true → l.takeWhile p = l
  | [], _ => rfl
  | x :: l, h => by
    rw [List.all_cons, Bool.and_eq_true] at h
    rw [List.takeWhile_cons, if_pos h.1, all_takeWhile h.2]
theorem name_first {rs : List Nat} (hv : ∀ r ∈ rs, VRune r) (h : isNameL (flatR rs) = true) : Nat.blt 0 (firstL letterG (flatR rs)) = true ∧ nextT (flatR rs) = flatR rs ∧ nextK (flatR rs) = 1 ∧ nextB (flatR rs) = true := by
  have h0 := h
  unfold isNameL at h
  rw [Bool.and_eq_true, Bool.and_eq_true, Bool.and_eq_true, Bool.and_eq_true, Bool.and_eq_true] at h
  obtain ⟨h1, _, h3, h4, _, h6⟩ := h
  cases rs with
  | nil => exact absurd rfl (of_decide_eq_true h1)
  | cons r rs =>
    rw [nm_flat1 hv, Bool.and_eq_true] at h6
    have hb : (r :: rs).all bothG = true := by
      rw [List.all_cons, h6.2]
      unfold bothG
      rw [h6.1]; rfl
    have e1 : Nat.blt 0 (firstL letterG (flatR (r :: rs))) = true := by
      unfold firstL
      rw [fst_flatR letterG _ _ hv (Nat.le_refl _), List.takeWhile_cons, if_pos h6.1, flatR_cons, List.length_append]
      have := enc_pos r
      exact blt_iff.2 (by omega)
    have e2 : firstL bothG (flatR (r :: rs)) = (flatR (r :: rs)).length := by
      unfold firstL
      rw [fst_flatR bothG _ _ hv (Nat.le_refl _), all_takeWhile hb]
    have e3 : nextT (flatR (r :: rs)) = flatR (r :: rs) := by
      unfold nextT
      rw [e1, cond_true, e2, List.take_length]
    have e4 : isKeyL (flatR (r :: rs)) = false := by
      unfold isKeyL
      rw [eqS_eq, eqS_eq, decide_eq_false (of_decide_eq_true h3), decide_eq_false (of_decide_eq_true h4)]
      rfl
    refine ⟨e1, e3, ?_, ?_⟩
    · unfold nextK
      rw [e1, cond_true, e3, e4, cond_false]
    · unfold nextB
      rw [e1, cond_true, e3, h0, Bool.or_true]
theorem dropSp_ns {l : List UInt8} (h : ∀ b ∈ l, spN b.toNat = false) : dropSp l = l := by
  cases l with
  | nil => rfl
  | cons b l => rw [dropSp_cons, h b (List.mem_cons_self ..), cond_false]
theorem enc_ns {r : Nat} (hv : VRune r) (h : r < 128 → spN r = false) : ∀ b ∈ enc r, spN b.toNat = false := by
  intro b hb
  by_cases h1 : r < 128
  · rw [enc1 h1, List.mem_singleton] at hb
    subst hb
    rw [ofNat_toNat (by omega)]
    exact h h1
  · obtain ⟨_, _, h2⟩ := enc_big hv (by omega)
    have := h2 b hb
    unfold spN
    rw [beqF (show b.toNat ≠ 32 by omega), beqF (show b.toNat ≠ 10 by omega), beqF (show b.toNat ≠ 9 by omega), beqF (show b.toNat ≠ 13 by omega)]
    rfl
theorem flatR_ns {rs : List Nat} (hv : ∀ r ∈ rs, VRune r) (h : ∀ r ∈ rs, r < 128 → spN r = false) : ∀ b ∈ flatR rs, spN b.toNat = false := by
  intro b hb
  obtain ⟨r, hr, hb⟩ := List.mem_flatMap.1 hb
  exact enc_ns (hv r hr) (h r hr) b hb
def oneB (R : Option (List TokA) × Nat) (n : Nat) : Bool := match R.1 with
  | some [x] => decide (x.k = 1) && decide (R.2 = n)
  | _ => false
theorem allL_succ (f : Nat) (l : List UInt8) (pos : Nat) (h : dropSp l = l) : allL (f + 1) l pos = if l = [] then (some [], pos + l.length) else if nextB l = true then
      ((allL f (l.drop (nextT l).length) (pos + (nextT l).length)).1.map fun ts => ⟨nextK l, nextT l, nextN l, pos⟩ :: ts, (allL f (l.drop (nextT l).length) (pos + (nextT l).length)).2)
    else (none, pos) := by
  show (if dropSp l = [] then (some [], pos + l.length) else if nextB (dropSp l) = true then
      ((allL f ((dropSp l).drop (nextT (dropSp l)).length) (pos + (l.length - (dropSp l).length) + (nextT (dropSp l)).length)).1.map fun ts => (⟨nextK (dropSp l), nextT (dropSp l), nextN (dropSp l), pos + (l.length - (dropSp l).length)⟩ : TokA) :: ts,
        (allL f ((dropSp l).drop (nextT (dropSp l)).length) (pos + (l.length - (dropSp l).length) + (nextT (dropSp l)).length)).2)
    else (none, pos + (l.length - (dropSp l).length))) = _
  rw [h, Nat.sub_self, Nat.add_zero]
theorem one_name {rs : List Nat} (hv : ∀ r ∈ rs, VRune r) (hs : ∀ r ∈ rs, r < 128 → spN r = false) : oneB (allL ((flatR rs).length + 1) (flatR rs) 0) (flatR rs).length = isNameL (flatR rs) := by
  have hns := flatR_ns hv hs
  have hname := fun h => name_first hv h
  generalize flatR rs = s at *
  have key : ∀ b : Bool, (isNameL s = true → b = true) → (b = true → isNameL s = true) → b = isNameL s := fun b h1 h2 => by
    cases hb : b with
    | true => exact (h2 hb).symm
    | false =>
      cases hn : isNameL s with
      | false => rfl
      | true => rw [h1 hn] at hb; exact nomatch hb
  rw [allL_succ s.length s 0 (dropSp_ns hns)]
  by_cases he : s = []
  · subst he
    rw [if_pos rfl]
    rfl
  rw [if_neg he]
  have hlen : 0 < s.length := List.length_pos_iff.2 he
  by_cases hB : nextB s = true
  · rw [if_pos hB]
    obtain ⟨k, hk⟩ : ∃ k, s.length = k + 1 := ⟨s.length - 1, by omega⟩
    have hns' : ∀ b ∈ s.drop (nextT s).length, spN b.toNat = false := fun b hb => hns b (List.mem_of_mem_drop hb)
    rw [hk, allL_succ k _ _ (dropSp_ns hns'), ← hk, Nat.zero_add]
    by_cases hr : s.drop (nextT s).length = []
    · rw [if_pos hr, hr]
      have hle := List.drop_eq_nil_iff.1 hr
      have hle' := nextT_le s
      refine key _ (fun hn => ?_) (fun hb => ?_)
      · obtain ⟨_, h2, h3, _⟩ := hname hn
        show (decide (nextK s = 1) && decide ((nextT s).length + 0 = s.length)) = true
        rw [h2, h3, Nat.add_zero, decide_eq_true rfl, decide_eq_true rfl]
        rfl
      · have hb' : (decide (nextK s = 1) && decide ((nextT s).length + 0 = s.length)) = true := hb
        rw [Bool.and_eq_true] at hb'
        have hk1 : nextK s = 1 := of_decide_eq_true hb'.1
        unfold nextK at hk1
        cases hl : Nat.blt 0 (firstL letterG s) with
        | false =>
          rw [hl, cond_false] at hk1
          cases hd : Nat.blt 0 (firstL digitG s) with
          | true => rw [hd, cond_true] at hk1; exact absurd hk1 (by decide)
          | false =>
            rw [hd, cond_false] at hk1
            cases hp : (fstPre s signs).isSome with
            | true => rw [hp] at hk1; exact absurd hk1 (by decide)
            | false => rw [hp] at hk1; exact absurd hk1 (by decide)
        | true =>
          rw [hl, cond_true] at hk1
          have hT : nextT s = s := by
            have ht : nextT s = s.take (firstL bothG s) := by
              unfold nextT
              rw [hl, cond_true]
            rw [ht] at hle ⊢
            rw [List.length_take] at hle
            exact List.take_of_length_le (by omega)
          cases hkey : isKeyL (nextT s) with
          | true => rw [hkey] at hk1; exact absurd hk1 (by decide)
          | false =>
            unfold nextB at hB
            rw [hl, cond_true, hkey, hT, Bool.false_or] at hB
            exact hB
    · rw [if_neg hr]
      have hn : isNameL s = false := by
        cases hn : isNameL s with
        | false => rfl
        | true =>
          obtain ⟨_, h2, _, _⟩ := hname hn
          rw [h2, List.drop_length] at hr
          exact absurd rfl hr
      rw [hn]
      by_cases hB2 : nextB (s.drop (nextT s).length) = true
      · rw [if_pos hB2]
        cases hq : (allL k ((s.drop (nextT s).length).drop (nextT (s.drop (nextT s).length)).length) ((nextT s).length + (nextT (s.drop (nextT s).length)).length)).1 with
        | none => unfold oneB; simp only [hq, Option.map_none]
        | some ts => unfold oneB; simp only [hq, Option.map_some]
      · rw [if_neg hB2]
        rfl
  · rw [if_neg hB]
    have hn : isNameL s = false := by
      cases hn : isNameL s with
      | false => rfl
      | true => exact absurd (hname hn).2.2.2 hB
    rw [hn]
    rfl
theorem all_keys : allL (([87, 73, 84, 72, 73, 78, 32, 66, 89] : List UInt8).length + 1) [87, 73, 84, 72, 73, 78, 32, 66, 89] 0 = (some [⟨4, [87, 73, 84, 72, 73, 78], 0, 0⟩, ⟨4, [66, 89], 0, 7⟩], 9) := by kernel_rfl
end Go.Proofs.YtnebopkgnkemiaaGreatDoor.Av
