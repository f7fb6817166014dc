/-
  REGIONS WHOSE ORDER IS OPEN: every order comes to what the order of the text comes to.
-/
import Derived.Test.YtjdbcfnlehedmaaGreatDoorAvRun
namespace Go.Proofs.YtjdbcfnlehedmaaGreatDoor.Av
set_option linter.unusedVariables false
set_option linter.unusedSimpArgs false
open Go Go.RowKit

/-! ### instructions that look at no memory -/
theorem gP_inj {f g : Tr V → St → Option V} (h : gP f = gP g) : f = g := by
  funext tm st
  have h1 := congrFun (congrFun (congrFun (congrFun (congrFun h (some .h)) (fun _ tm st => some (.nrm, tm, st))) (fun _ _ _ => none)) tm) st
  have h2 : (Option.rec none (fun v => some (Ex.nrm, putT tm (some .h) v, st)) (f tm st) : Run) = Option.rec none (fun v => some (Ex.nrm, putT tm (some .h) v, st)) (g tm st) := h1
  cases hf : f tm st with
  | none =>
    cases hg : g tm st with
    | none => rfl
    | some y => rw [hf, hg] at h2; exact nomatch h2
  | some x =>
    cases hg : g tm st with
    | none => rw [hf, hg] at h2; exact nomatch h2
    | some y =>
      rw [hf, hg] at h2
      have h3 := (Prod.mk.inj (Prod.mk.inj (Option.some.inj h2)).2).1
      have h4 := congrArg (fun t => Tr.at t .h) h3
      have h5 : ∀ v : V, (putT tm (some .h) v).at .h = some v := fun v => at_to_same tm .h (some v)
      have h6 : (some x : Option V) = some y := (h5 x).symm.trans (h4.trans (h5 y))
      exact h6
theorem dull_ok (i : I) (h : kindI i = 0) : ∃ f : Tr V → St → Option V, i.go = gP f ∧ ∀ tm s s', f tm s = f tm s' := by
  cases i with
  | len k x =>
    by_cases h0 : k = 0
    · subst h0; exact ⟨_, rfl, fun _ _ _ => rfl⟩
    · by_cases h1 : k = 1
      · subst h1; exact ⟨_, rfl, fun _ _ _ => rfl⟩
      · have h' : (if k = 0 then 0 else if k = 1 then 0 else 1) = 0 := h
        rw [if_neg h0, if_neg h1] at h'
        exact absurd h' (by decide)
  | bin op k x y =>
    refine ⟨binF op k x y, rfl, fun tm s s' => ?_⟩
    unfold binF
    split
    · cases op <;> rfl
    · split
      · cases op <;> rfl
      · cases op <;> rfl
  | un op k x => exact ⟨unF op k x, rfl, fun tm s s' => by cases op <;> rfl⟩
  | load => exact nomatch h
  | sll => exact nomatch h
  | lok => exact nomatch h
  | cvbs => exact nomatch h
  | alloc => exact nomatch h
  | box => exact nomatch h
  | bsl => exact nomatch h
  | store => exact nomatch h
  | cvsb => exact nomatch h
  | mkm => exact nomatch h
  | mks => exact nomatch h
  | upd => exact nomatch h
  | rng => exact nomatch h
  | nxt => exact nomatch h
  | app => exact nomatch h
  | cpy => exact nomatch h
  | call => exact nomatch h
  | dyn => exact nomatch h
  | panic => exact nomatch h
  | no => exact nomatch h
  | mov x => exact ⟨iMov x, rfl, fun _ _ _ => rfl⟩
  | mki t x => exact ⟨iMki t x, rfl, fun _ _ _ => rfl⟩
  | mkf f cs => exact ⟨iMkf f cs, rfl, fun _ _ _ => rfl⟩
  | _ => refine ⟨_, rfl, ?_⟩; intro tm s s'; rfl
theorem read_ok (i : I) (h : kindI i = 1) : ∃ f : Tr V → St → Option V, i.go = gP f ∧ ∀ (tm : Tr V) (n l n' l' : Nat) (m : Tr Ob), f tm { next := n, low := l, mem := m } = f tm { next := n', low := l', mem := m } := by
  cases i with
  | load => exact ⟨_, rfl, fun _ _ _ _ _ _ => rfl⟩
  | sll => exact ⟨_, rfl, fun _ _ _ _ _ _ => rfl⟩
  | lok => exact ⟨_, rfl, fun _ _ _ _ _ _ => rfl⟩
  | cvbs => exact ⟨_, rfl, fun _ _ _ _ _ _ => rfl⟩
  | len k x =>
    refine ⟨_, rfl, fun _ _ _ _ _ _ => ?_⟩
    unfold lenF
    split
    · rfl
    · split <;> rfl
  | _ => exact nomatch h
/-- What does not turn memory is of the first kind. -/
theorem cls_pure {P : Program} {o : Oper} {i : I} (h : Cls P o i) (hk : kindI i = 0 ∨ kindI i = 1) : ∃ f, i.go = gP f ∧ PureOk P o f ∧ (kindI i = 0 → ∀ tm s s', f tm s = f tm s') ∧
    ∀ (tm : Tr V) (n l n' l' : Nat) (m : Tr Ob), f tm { next := n, low := l, mem := m } = f tm { next := n', low := l', mem := m } := by
  cases h with
  | pure _ f hg hf =>
    have h0 : kindI i = 0 → ∀ tm s s', f tm s = f tm s' := fun h0 => by
      obtain ⟨g, h1, h2⟩ := dull_ok i h0
      obtain rfl := gP_inj (hg.symm.trans h1)
      exact h2
    refine ⟨f, hg, hf, h0, fun tm n l n' l' m => ?_⟩
    rcases hk with hk | hk
    · exact h0 hk _ _ _
    · obtain ⟨g, h1, h2⟩ := read_ok i hk
      obtain rfl := gP_inj (hg.symm.trans h1)
      exact h2 tm n l n' l' m
  | loud _ f hk' hg hf => omega
  | call f xs c _ _ _ => exact absurd hk (by simp [kindI])
  | dyn x y xs c _ _ _ _ => exact absurd hk (by simp [kindI])
  | panic x y _ _ => exact absurd hk (by simp [kindI])
theorem gE_inj {f g : Tr V → St → Ev} (h : gE f = gE g) : f = g := by
  funext tm st
  have h1 := congrFun (congrFun (congrFun (congrFun (congrFun h (some .h)) (fun _ tm st => some (.nrm, tm, st))) (fun _ _ _ => none)) tm) st
  have h2 : (Option.rec none (fun p => Prod.rec (fun v st' => some (Ex.nrm, putT tm (some .h) v, st')) p) (f tm st) : Run) = Option.rec none (fun p => Prod.rec (fun v st' => some (Ex.nrm, putT tm (some .h) v, st')) p) (g tm st) := h1
  cases hf : f tm st with
  | none =>
    cases hg : g tm st with
    | none => rfl
    | some y => rw [hf, hg] at h2; exact nomatch h2
  | some x =>
    cases hg : g tm st with
    | none => rw [hf, hg] at h2; exact nomatch h2
    | some y =>
      rw [hf, hg] at h2
      obtain ⟨x1, x2⟩ := x
      obtain ⟨y1, y2⟩ := y
      obtain ⟨_, h3⟩ := Prod.mk.inj (Option.some.inj (h2 : some (Ex.nrm, putT tm (some .h) x1, x2) = some (Ex.nrm, putT tm (some .h) y1, y2)))
      obtain ⟨h4, rfl⟩ := Prod.mk.inj h3
      have h5 := congrArg (fun t => Tr.at t .h) h4
      have h6 : ∀ v : V, (putT tm (some .h) v).at .h = some v := fun v => at_to_same tm .h (some v)
      have h7 : (some x1 : Option V) = some y1 := (h6 x1).symm.trans (h5.trans (h6 y1))
      rw [Option.some.inj h7]
/-- What makes one object makes it whatever the memory is. -/
theorem soft_ok (i : I) (h : kindI i = 4) : ∃ f : Tr V → St → Ev, i.go = gE f ∧ ∀ tm st v st', f tm st = some (v, st') → ∃ (r : Nat → V) (b : Ob), v = r st.next ∧ st' = st.new b ∧ b.own = true ∧ ∀ st2, f tm st2 = some (r st2.next, st2.new b) := by
  cases i with
  | alloc e z =>
    refine ⟨iAlloc e z, rfl, fun tm st v st' h => ⟨fun k => .ptr k 0, .cells e z true, ?_⟩⟩
    obtain ⟨rfl, rfl⟩ := Prod.mk.inj (Option.some.inj h)
    exact ⟨rfl, rfl, rfl, fun _ => rfl⟩
  | box e x =>
    refine ⟨iBox e x, rfl, fun tm st v st' h => ?_⟩
    obtain ⟨cs, h1, h2⟩ := orec_none h
    obtain ⟨rfl, rfl⟩ := Prod.mk.inj (Option.some.inj h2)
    refine ⟨fun k => .ptr k 0, .cells e cs true, rfl, rfl, rfl, fun st2 => ?_⟩
    show (Option.rec none (fun cs => some (.ptr st2.next 0, st2.new (.cells e cs true))) (x.ev tm).cells? : Ev) = _
    rw [h1]
  | bsl e n z ps =>
    refine ⟨iBsl e n z ps, rfl, fun tm st v st' h => ?_⟩
    obtain ⟨cs, h1, h2⟩ := orec_none h
    obtain ⟨rfl, rfl⟩ := Prod.mk.inj (Option.some.inj h2)
    refine ⟨fun k => .slice k 0 n n true, .cells e cs true, rfl, rfl, rfl, fun st2 => ?_⟩
    show (Option.rec none (fun l => some (.slice st2.next 0 n n true, st2.new (.cells e l true))) (fillV tm z ps) : Ev) = _
    rw [h1]
  | mkm =>
    refine ⟨iMkm, rfl, fun tm st v st' h => ⟨fun k => .map k, .map [], ?_⟩⟩
    obtain ⟨rfl, rfl⟩ := Prod.mk.inj (Option.some.inj h)
    exact ⟨rfl, rfl, rfl, fun _ => rfl⟩
  | len k x =>
    have h' : (if k = 0 then 0 else if k = 1 then 0 else 1) = 4 := h
    split at h' <;> (try split at h') <;> omega
  | _ => exact nomatch h
theorem cls_soft {P : Program} {o : Oper} {i : I} (h : Cls P o i) (hk : kindI i = 4) : ∃ f, i.go = gE f ∧ SoftOk P o f := by
  cases h with
  | pure _ f hg hf =>
    obtain ⟨g, h1, h2⟩ := soft_ok i hk
    refine ⟨g, h1, ?_⟩
    intro base ρ st st' w nt tm a v c hv
    exfalso
    obtain ⟨r, b, rfl, rfl, _, _⟩ := h2 tm st v st' hv
    have h3 := congrFun (congrFun (congrFun (congrFun (congrFun (h1.symm.trans hg) (some .h)) (fun _ tm st => some (.nrm, tm, st))) (fun _ _ _ => none)) tm) st
    have h4 : (Option.rec none (fun p => Prod.rec (fun v st' => some (Ex.nrm, putT tm (some .h) v, st')) p) (g tm st) : Run) = Option.rec none (fun v => some (Ex.nrm, putT tm (some .h) v, st)) (f tm st) := h3
    rw [hv] at h4
    cases hf : f tm st with
    | none => rw [hf] at h4; exact nomatch h4
    | some y =>
      rw [hf] at h4
      obtain ⟨_, h5⟩ := Prod.mk.inj (Option.some.inj (h4 : some (Ex.nrm, putT tm (some .h) (r st.next), st.new b) = some (Ex.nrm, putT tm (some .h) y, st)))
      have h6 := congrArg St.next (Prod.mk.inj h5).2
      rw [new_next] at h6
      omega
  | loud _ f hk' hg hf =>
    rcases hk' with h1 | ⟨_, h1⟩
    · omega
    · exact ⟨f, hg, h1⟩
  | call f xs c _ _ _ => exact absurd hk (by simp [kindI])
  | dyn x y xs c _ _ _ _ => exact absurd hk (by simp [kindI])
  | panic x y _ _ => exact absurd hk (by simp [kindI])
/-! ### what is before what -/
def EdgeTo (o : Oper) (j : Nat) : Prop := ∃ e ∈ o.after, Region.binds .any e = true ∧ e.on = j
theorem preOne_bit {pre : List Nat} {o : Oper} {k : Nat} (h : (preOne pre o).testBit k = true) : ∃ j, EdgeTo o j ∧ (j = k ∨ (pre.getD j 0).testBit k = true) := by
  have key : ∀ (l : List Edge) (m : Nat), (l.foldl (fun m e => if Region.binds .any e then m ||| (2 ^ e.on ||| pre.getD e.on 0) else m) m).testBit k = true →
      m.testBit k = true ∨ ∃ e ∈ l, Region.binds .any e = true ∧ (e.on = k ∨ (pre.getD e.on 0).testBit k = true) := by
    intro l
    induction l with
    | nil => intro m h; exact .inl h
    | cons e l ih =>
      intro m h
      rw [List.foldl_cons] at h
      rcases ih _ h with h1 | ⟨e', he, hb⟩
      · split at h1
        · rename_i hb
          rw [Nat.testBit_or, Nat.testBit_or, Bool.or_eq_true, Bool.or_eq_true] at h1
          rcases h1 with h1 | h1 | h1
          · exact .inl h1
          · refine .inr ⟨e, List.mem_cons_self .., hb, .inl ?_⟩
            rw [Nat.testBit_two_pow] at h1
            simpa using h1
          · exact .inr ⟨e, List.mem_cons_self .., hb, .inr h1⟩
        · exact .inl h1
      · exact .inr ⟨e', List.mem_cons_of_mem _ he, hb⟩
  rcases key _ 0 h with h1 | ⟨e, he, hb, h2⟩
  · simp at h1
  · exact ⟨e.on, ⟨e, by simpa using he, hb, rfl⟩, h2⟩
theorem pres_len : ∀ (l : List Oper) (acc : List Nat), (pres l acc).length = acc.length + l.length
  | [], acc => rfl
  | o :: l, acc => by unfold pres; rw [pres_len l]; simp; omega
theorem pres_old : ∀ (l : List Oper) (acc : List Nat) (i : Nat), i < acc.length → (pres l acc)[i]? = acc[i]?
  | [], acc, i, h => rfl
  | o :: l, acc, i, h => by
    unfold pres
    rw [pres_old l _ i (by simp; omega), List.getElem?_append_left h]
theorem pres_at : ∀ (l : List Oper) (acc : List Nat) (j : Nat) (o : Oper), l[j]? = some o → ∃ acc', acc'.length = acc.length + j ∧ (∀ i, i < acc'.length → (pres l acc)[i]? = acc'[i]?) ∧ (pres l acc)[acc.length + j]? = some (preOne acc' o)
  | [], acc, j, o, h => by simp at h
  | o' :: l, acc, 0, o, h => by
    obtain rfl : o' = o := by simpa using h
    refine ⟨acc, rfl, fun i hi => pres_old _ acc i hi, ?_⟩
    unfold pres
    rw [Nat.add_zero, pres_old l _ _ (by simp)]
    simp
  | o' :: l, acc, j + 1, o, h => by
    obtain ⟨acc', h1, h2, h3⟩ := pres_at l (acc ++ [preOne acc o']) j o (by simpa using h)
    refine ⟨acc', by rw [h1]; simp; omega, h2, ?_⟩
    rw [show acc.length + (j + 1) = (acc ++ [preOne acc o']).length + j by simp; omega]
    exact h3
/-- A bit of what is before: by an edge, or before an edge's end. -/
theorem bit_step {ops : Array Oper} {i k : Nat} {o : Oper} (ho : ops[i]? = some o) (he : ∀ j, EdgeTo o j → j < i) (h : ((pres ops.toList []).getD i 0).testBit k = true) :
    ∃ j, EdgeTo o j ∧ (j = k ∨ ((pres ops.toList []).getD j 0).testBit k = true) := by
  obtain ⟨acc', h1, h2, h3⟩ := pres_at ops.toList [] i o (by simpa using ho)
  simp only [List.length_nil, Nat.zero_add] at h1 h3
  rw [List.getD_eq_getElem?_getD, h3] at h
  obtain ⟨j, h4, h5⟩ := preOne_bit (show (preOne acc' o).testBit k = true from h)
  refine ⟨j, h4, h5.imp id fun h6 => ?_⟩
  rw [List.getD_eq_getElem?_getD, h2 j (by rw [h1]; exact he j h4), ← List.getD_eq_getElem?_getD]
  exact h6
theorem last_or_none (p : Nat → Prop) : ∀ i, (∀ k, k < i → ¬ p k) ∨ ∃ k, k < i ∧ p k ∧ ∀ k', k < k' → k' < i → ¬ p k'
  | 0 => .inl fun k h => absurd h (Nat.not_lt_zero _)
  | i + 1 => by
    by_cases h : p i
    · exact .inr ⟨i, by omega, h, fun k' h1 h2 => by omega⟩
    · rcases last_or_none p i with h1 | ⟨k, h1, h2, h3⟩
      · refine .inl fun k hk => ?_
        by_cases e : k = i
        · subst e; exact h
        · exact h1 k (by omega)
      · refine .inr ⟨k, by omega, h2, fun k' h4 h5 => ?_⟩
        by_cases e : k' = i
        · subst e; exact h
        · exact h3 k' h4 (by omega)
end Go.Proofs.YtjdbcfnlehedmaaGreatDoor.Av
