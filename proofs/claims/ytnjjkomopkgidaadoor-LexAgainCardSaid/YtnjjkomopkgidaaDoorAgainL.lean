/-
  WORDS JOINED BY SPACES ARE THE SAME WORDS; where they stand: plain Lean.
-/
import Derived.Test.YtnjjkomopkgidaaDoorCutsL
namespace Go.Proofs.YtnjjkomopkgidaaDoor.Av
set_option linter.unusedVariables false
set_option linter.unusedSimpArgs false
set_option maxRecDepth 1000000
open Go

/-- Where it is wrong is inside. -/
theorem all_bad : ∀ (f : Nat) (l : List UInt8) (pos : Nat), l.length < f → (allL f l pos).1 = none → (allL f l pos).2 < pos + l.length
  | 0, l, pos, h, _ => by omega
  | f + 1, l, pos, hf, h => by
    obtain ⟨u, h1, h2⟩ := spaces_of l
    have hlen := congrArg List.length h1
    rw [List.length_append] at hlen
    have hstep : allL (f + 1) l pos = if dropSp l = [] then (some [], pos + l.length)
      else if nextB (dropSp l) = true then
        ((allL f ((dropSp l).drop (nextT (dropSp l)).length) (pos + (l.length - (dropSp l).length) + (nextT (dropSp l)).length)).1.map fun ts => ⟨nextK (dropSp l), nextT (dropSp l), nextN (dropSp l), pos + (l.length - (dropSp l).length)⟩ :: ts,
          (allL f ((dropSp l).drop (nextT (dropSp l)).length) (pos + (l.length - (dropSp l).length) + (nextT (dropSp l)).length)).2)
      else (none, pos + (l.length - (dropSp l).length)) := rfl
    rw [hstep] at h ⊢
    by_cases hl : dropSp l = []
    · rw [if_pos hl] at h; exact nomatch h
    rw [if_neg hl] at h ⊢
    have hp := List.length_pos_iff.2 hl
    by_cases hb : nextB (dropSp l) = true
    · rw [if_pos hb] at h ⊢
      have hT := nextT_le (dropSp l)
      have hT1 := nextT_pos hb
      have hd : ((dropSp l).drop (nextT (dropSp l)).length).length = (dropSp l).length - (nextT (dropSp l)).length := List.length_drop
      have ih := all_bad f ((dropSp l).drop (nextT (dropSp l)).length) (pos + (l.length - (dropSp l).length) + (nextT (dropSp l)).length) (by omega)
      cases hq : (allL f ((dropSp l).drop (nextT (dropSp l)).length) (pos + (l.length - (dropSp l).length) + (nextT (dropSp l)).length)).1 with
      | some ts => simp only [hq, Option.map_some] at h; exact nomatch h
      | none =>
        have := ih hq
        show (allL f ((dropSp l).drop (nextT (dropSp l)).length) (pos + (l.length - (dropSp l).length) + (nextT (dropSp l)).length)).2 < _
        omega
    · rw [if_neg hb]
      show pos + (l.length - (dropSp l).length) < _
      omega
/-- How words stand in a text. -/
def Seg : List UInt8 → Nat → List TokA → Prop
  | _, _, [] => True
  | l, pos, x :: ts => ∃ u c, l = u ++ (x.t ++ c) ∧ (∀ b ∈ u, isSp b) ∧ Cl x.t x.k x.v ∧ x.t ≠ [] ∧ x.pos = pos + u.length ∧ Seg c (pos + u.length + x.t.length) ts
theorem all_seg : ∀ (f : Nat) (l : List UInt8) (pos : Nat) (ts : List TokA), l.length < f → (allL f l pos).1 = some ts → (allL f l pos).2 = pos + l.length ∧ Seg l pos ts
  | 0, l, pos, ts, h, _ => by omega
  | f + 1, l, pos, ts, hf, h => by
    rcases all_cases f l with hs | ⟨u, T, c, k, v, h1, h2, h3, h4, h5⟩ | hn
    · rw [all_sp f hs] at h ⊢
      obtain rfl := Option.some.inj h
      exact ⟨rfl, trivial⟩
    · have hlen := congrArg List.length h1
      rw [List.length_append, List.length_append] at hlen
      have hT := List.length_pos_iff.2 h5
      rw [h1, all_step f h2 h3 h4] at h ⊢
      cases hq : (allL f c (pos + u.length + T.length)).1 with
      | none => simp only [hq, Option.map_none] at h; exact nomatch h
      | some ts' =>
        simp only [hq, Option.map_some, Option.some.injEq] at h
        subst h
        obtain ⟨k1, k2⟩ := all_seg f c _ ts' (by omega) hq
        refine ⟨?_, u, c, rfl, h2, h3, h5, rfl, k2⟩
        show (allL f c (pos + u.length + T.length)).2 = _
        rw [k1, ← h1]; omega
    · rw [hn pos] at h; exact nomatch h
def joinA : List TokA → List UInt8
  | [] => []
  | x :: ts => 32 :: (x.t ++ joinA ts)
theorem join_stops (ts : List TokA) : Stops (joinA ts) := by
  cases ts with
  | nil => exact .inl rfl
  | cons x ts => exact .inr ⟨32, x.t ++ joinA ts, rfl, .inl rfl⟩
theorem ends_stops {T c : List UInt8} {k v : Int} (hc : Cl T k v) (h : Stops c) : EndsW k T c := by
  rcases hc with ⟨r, rs, hT, hv, h1, h2, hb, hk, hv0⟩ | ⟨hne, hd, hn, hk⟩ | ⟨hs, hk, hv0⟩
  · rw [hk, ends_nm]; exact fst_stops rfl rfl rfl rfl h
  · rw [hk, ends_dg]; exact fst_stops rfl rfl rfl rfl h
  · rw [hk, ends_sg]
    unfold signs at hs
    simp only [List.mem_cons, List.not_mem_nil, or_false] at hs
    rcases h with rfl | ⟨b, t, rfl, rfl | rfl | rfl | rfl⟩ <;> rcases hs with rfl | rfl | rfl | rfl | rfl | rfl | rfl | rfl | rfl | rfl | rfl | rfl | rfl | rfl | rfl | rfl | rfl | rfl | rfl | rfl | rfl | rfl | rfl | rfl <;> rfl
/-- The same words, wherever they stand. -/
def Same (a b : List TokA) : Prop := a.length = b.length ∧ ∀ j (h : j < a.length) (h' : j < b.length), (a[j]'h).k = (b[j]'h').k ∧ (a[j]'h).t = (b[j]'h').t ∧ (a[j]'h).v = (b[j]'h').v
theorem all_again : ∀ (ts : List TokA) (f pos : Nat), (∀ x ∈ ts, Cl x.t x.k x.v) → ts.length < f → ∃ bs, (allL f (joinA ts) pos).1 = some bs ∧ Same ts bs
  | [], 0, pos, _, h => by simp at h
  | [], f + 1, pos, _, _ => by
    refine ⟨[], ?_, rfl, fun j h _ => absurd h (Nat.not_lt_zero _)⟩
    rw [show joinA [] = [] from rfl, all_sp f (l := []) (fun b hb => nomatch hb)]
  | x :: ts, 0, pos, _, h => by simp at h
  | x :: ts, f + 1, pos, hc, h => by
    have hx := hc x (List.mem_cons_self ..)
    obtain ⟨bs, h1, h2, h3⟩ := all_again ts f (pos + 1 + x.t.length) (fun y hy => hc y (List.mem_cons_of_mem _ hy)) (by simpa using h)
    have hst := all_step f (u := [32]) (c := joinA ts) (fun b hb => by rw [List.mem_singleton] at hb; subst hb; exact .inl rfl) hx (ends_stops hx (join_stops ts)) pos
    refine ⟨⟨x.k, x.t, x.v, pos + 1⟩ :: bs, ?_, by rw [List.length_cons, List.length_cons, h2], ?_⟩
    · show (allL (f + 1) ([32] ++ (x.t ++ joinA ts)) pos).1 = _
      rw [hst]
      show (allL f (joinA ts) (pos + 1 + x.t.length)).1.map _ = _
      rw [h1]; rfl
    · intro j hj hj'
      cases j with
      | zero => exact ⟨rfl, rfl, rfl⟩
      | succ j => exact h3 j (by simpa using hj) (by simpa using hj')
theorem seg_cl : ∀ {ts : List TokA} {l : List UInt8} {pos : Nat}, Seg l pos ts → (∀ x ∈ ts, Cl x.t x.k x.v) ∧ (joinA ts).length ≤ 2 * l.length
  | [], l, pos, _ => ⟨(fun x hx => nomatch hx), Nat.zero_le _⟩
  | x :: ts, l, pos, h => by
    obtain ⟨u, c, h1, h2, h3, h4, h5, h6⟩ := h
    obtain ⟨k1, k2⟩ := seg_cl h6
    refine ⟨fun y hy => ?_, ?_⟩
    · rcases List.mem_cons.1 hy with rfl | hy
      · exact h3
      · exact k1 y hy
    · have hT := List.length_pos_iff.2 h4
      have hlen := congrArg List.length h1
      rw [List.length_append, List.length_append] at hlen
      show (32 :: (x.t ++ joinA ts)).length ≤ _
      rw [List.length_cons, List.length_append]
      omega
theorem cl_name {T : List UInt8} {k v : Int} (hc : Cl T k v) : decide (k = 1) = isNameL T := by
  have key : ∀ (a : UInt8) (t : List UInt8), a.toNat < 128 → letterG a.toNat = false → isNameL (a :: t) = false := fun a t h1 h2 => by
    have hn : nmN (a :: t).length true (a :: t) = false := by
      show (if (a :: t) = [] then true else (letterG (Lib.decodeL (a :: t)).1 || (!true && digitG (Lib.decodeL (a :: t)).1)) && nmN t.length false ((a :: t).drop (Lib.decodeL (a :: t)).2)) = false
      rw [if_neg (by simp), dec1 h1, h2]
      rfl
    unfold isNameL
    rw [hn]
    simp
  rcases hc with ⟨r, rs, hT, hv, h1, h2, hb, hk, hv0⟩ | ⟨hne, hd, hn, hk⟩ | ⟨hs, hk, hv0⟩
  · rw [hk]
    cases hkey : isKeyL T with
    | true =>
      rw [cond_true, decide_eq_false (by decide)]
      unfold isKeyL at hkey
      rw [eqS_eq, eqS_eq, Bool.or_eq_true] at hkey
      unfold isNameL
      rcases hkey with h | h
      · have := of_decide_eq_true h
        subst this; rfl
      · have := of_decide_eq_true h
        subst this; rfl
    | false =>
      rw [cond_false, decide_eq_true rfl]
      rw [hkey, Bool.false_or] at hb
      exact hb.symm
  · obtain ⟨a, t, rfl⟩ := List.exists_cons_of_ne_nil hne
    have ha := hd a (List.mem_cons_self ..)
    rw [hk, decide_eq_false (by decide), key a t (by have := ha.2; omega) (digL ha)]
  · obtain ⟨a, t, rfl, _, _, _, _, h6⟩ := sign_first T hs
    rw [hk, decide_eq_false (by decide), h6]
end Go.Proofs.YtnjjkomopkgidaaDoor.Av
