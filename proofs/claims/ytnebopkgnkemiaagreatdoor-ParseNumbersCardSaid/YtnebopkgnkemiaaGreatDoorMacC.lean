/-
  THE ABSTRACT MACHINE: open orders, deferred calls, the table, the start, and its steps as equations.
-/
import Derived.Test.YtnebopkgnkemiaaGreatDoorMacB
import Derived.Recover
import Derived.Lib.LaidU8
namespace Go.Proofs.YtnebopkgnkemiaaGreatDoor.Av
set_option linter.unusedVariables false
set_option linter.unusedSimpArgs false
open Go Go.RowKit
theorem gP_inj {f g : Tr V → St → Option V} (h : gP f = gP g) : f = g := by
  funext tm st
  have h1 := congrFun (congrFun (congrFun (congrFun (congrFun h (some .h)) (fun _ tm st => some (.nrm, tm, st))) (fun _ _ _ => none)) tm) st
  have h2 : (Option.rec none (fun v => some (Ex.nrm, putT tm (some .h) v, st)) (f tm st) : Run) = Option.rec none (fun v => some (Ex.nrm, putT tm (some .h) v, st)) (g tm st) := h1
  cases hf : f tm st with
  | none =>
    cases hg : g tm st with
    | none => rfl
    | some y => rw [hf, hg] at h2; exact nomatch h2
  | some x =>
    cases hg : g tm st with
    | none => rw [hf, hg] at h2; exact nomatch h2
    | some y =>
      rw [hf, hg] at h2
      have h3 := (Prod.mk.inj (Prod.mk.inj (Option.some.inj h2)).2).1
      have h4 := congrArg (fun t => Tr.at t .h) h3
      have h5 : ∀ v : V, (putT tm (some .h) v).at .h = some v := fun v => at_to_same tm .h (some v)
      have h6 : (some x : Option V) = some y := (h5 x).symm.trans (h4.trans (h5 y))
      exact h6
theorem dull_ok (i : I) (h : kindI i = 0) : ∃ f : Tr V → St → Option V, i.go = gP f ∧ ∀ tm s s', f tm s = f tm s' := by
  cases i with
  | len k x =>
    by_cases h0 : k = 0
    · subst h0; exact ⟨_, rfl, fun _ _ _ => rfl⟩
    · by_cases h1 : k = 1
      · subst h1; exact ⟨_, rfl, fun _ _ _ => rfl⟩
      · have h' : (if k = 0 then 0 else if k = 1 then 0 else 1) = 0 := h
        rw [if_neg h0, if_neg h1] at h'
        exact absurd h' (by decide)
  | bin op k x y =>
    refine ⟨binF op k x y, rfl, fun tm s s' => ?_⟩
    unfold binF
    split
    · cases op <;> rfl
    · split
      · cases op <;> rfl
      · cases op <;> rfl
  | un op k x => exact ⟨unF op k x, rfl, fun tm s s' => by cases op <;> rfl⟩
  | load => exact nomatch h
  | sll => exact nomatch h
  | lok => exact nomatch h
  | cvbs => exact nomatch h
  | alloc => exact nomatch h
  | box => exact nomatch h
  | bsl => exact nomatch h
  | store => exact nomatch h
  | cvsb => exact nomatch h
  | mkm => exact nomatch h
  | mks => exact nomatch h
  | upd => exact nomatch h
  | rng => exact nomatch h
  | nxt => exact nomatch h
  | app => exact nomatch h
  | cpy => exact nomatch h
  | call => exact nomatch h
  | dyn => exact nomatch h
  | panic => exact nomatch h
  | no => exact nomatch h
  | mov x => exact ⟨iMov x, rfl, fun _ _ _ => rfl⟩
  | mki t x => exact ⟨iMki t x, rfl, fun _ _ _ => rfl⟩
  | mkf f cs => exact ⟨iMkf f cs, rfl, fun _ _ _ => rfl⟩
  | _ => refine ⟨_, rfl, ?_⟩; intro tm s s'; rfl
theorem read_ok (i : I) (h : kindI i = 1) : ∃ f : Tr V → St → Option V, i.go = gP f ∧ ∀ (tm : Tr V) (n l n' l' : Nat) (m : Tr Ob), f tm { next := n, low := l, mem := m } = f tm { next := n', low := l', mem := m } := by
  cases i with
  | load => exact ⟨_, rfl, fun _ _ _ _ _ _ => rfl⟩
  | sll => exact ⟨_, rfl, fun _ _ _ _ _ _ => rfl⟩
  | lok => exact ⟨_, rfl, fun _ _ _ _ _ _ => rfl⟩
  | cvbs => exact ⟨_, rfl, fun _ _ _ _ _ _ => rfl⟩
  | len k x =>
    refine ⟨_, rfl, fun _ _ _ _ _ _ => ?_⟩
    unfold lenF
    split
    · rfl
    · split <;> rfl
  | _ => exact nomatch h
theorem cls_pure {P : Program} {o : Oper} {i : I} (h : Cls P o i) (hk : kindI i = 0 ∨ kindI i = 1) : ∃ f, i.go = gP f ∧ PureOk P o f ∧ (kindI i = 0 → ∀ tm s s', f tm s = f tm s') ∧
    ∀ (tm : Tr V) (n l n' l' : Nat) (m : Tr Ob), f tm { next := n, low := l, mem := m } = f tm { next := n', low := l', mem := m } := by
  cases h with
  | pure _ f hg hf =>
    have h0 : kindI i = 0 → ∀ tm s s', f tm s = f tm s' := fun h0 => by
      obtain ⟨g, h1, h2⟩ := dull_ok i h0
      obtain rfl := gP_inj (hg.symm.trans h1)
      exact h2
    refine ⟨f, hg, hf, h0, fun tm n l n' l' m => ?_⟩
    rcases hk with hk | hk
    · exact h0 hk _ _ _
    · obtain ⟨g, h1, h2⟩ := read_ok i hk
      obtain rfl := gP_inj (hg.symm.trans h1)
      exact h2 tm n l n' l' m
  | loud _ f hk' hg hf => omega
  | call f xs c _ _ _ => exact absurd hk (by simp [kindI])
  | dyn x y xs c _ _ _ _ => exact absurd hk (by simp [kindI])
  | panic x y _ _ => exact absurd hk (by simp [kindI])
theorem gE_inj {f g : Tr V → St → Ev} (h : gE f = gE g) : f = g := by
  funext tm st
  have h1 := congrFun (congrFun (congrFun (congrFun (congrFun h (some .h)) (fun _ tm st => some (.nrm, tm, st))) (fun _ _ _ => none)) tm) st
  have h2 : (Option.rec none (fun p => Prod.rec (fun v st' => some (Ex.nrm, putT tm (some .h) v, st')) p) (f tm st) : Run) = Option.rec none (fun p => Prod.rec (fun v st' => some (Ex.nrm, putT tm (some .h) v, st')) p) (g tm st) := h1
  cases hf : f tm st with
  | none =>
    cases hg : g tm st with
    | none => rfl
    | some y => rw [hf, hg] at h2; exact nomatch h2
  | some x =>
    cases hg : g tm st with
    | none => rw [hf, hg] at h2; exact nomatch h2
    | some y =>
      rw [hf, hg] at h2
      obtain ⟨x1, x2⟩ := x
      obtain ⟨y1, y2⟩ := y
      obtain ⟨_, h3⟩ := Prod.mk.inj (Option.some.inj (h2 : some (Ex.nrm, putT tm (some .h) x1, x2) = some (Ex.nrm, putT tm (some .h) y1, y2)))
      obtain ⟨h4, rfl⟩ := Prod.mk.inj h3
      have h5 := congrArg (fun t => Tr.at t .h) h4
      have h6 : ∀ v : V, (putT tm (some .h) v).at .h = some v := fun v => at_to_same tm .h (some v)
      have h7 : (some x1 : Option V) = some y1 := (h6 x1).symm.trans (h5.trans (h6 y1))
      rw [Option.some.inj h7]
theorem soft_ok (i : I) (h : kindI i = 4) : ∃ f : Tr V → St → Ev, i.go = gE f ∧ ∀ tm st v st', f tm st = some (v, st') → ∃ (r : Nat → V) (b : Ob), v = r st.next ∧ st' = st.new b ∧ b.own = true ∧ ∀ st2, f tm st2 = some (r st2.next, st2.new b) := by
  cases i with
  | alloc e z =>
    refine ⟨iAlloc e z, rfl, fun tm st v st' h => ⟨fun k => .ptr k 0, .cells e z true, ?_⟩⟩
    obtain ⟨rfl, rfl⟩ := Prod.mk.inj (Option.some.inj h)
    exact ⟨rfl, rfl, rfl, fun _ => rfl⟩
  | box e x =>
    refine ⟨iBox e x, rfl, fun tm st v st' h => ?_⟩
    obtain ⟨cs, h1, h2⟩ := orec_none h
    obtain ⟨rfl, rfl⟩ := Prod.mk.inj (Option.some.inj h2)
    refine ⟨fun k => .ptr k 0, .cells e cs true, rfl, rfl, rfl, fun st2 => ?_⟩
    show (Option.rec none (fun cs => some (.ptr st2.next 0, st2.new (.cells e cs true))) (x.ev tm).cells? : Ev) = _
    rw [h1]
  | bsl e n z ps =>
    refine ⟨iBsl e n z ps, rfl, fun tm st v st' h => ?_⟩
    obtain ⟨cs, h1, h2⟩ := orec_none h
    obtain ⟨rfl, rfl⟩ := Prod.mk.inj (Option.some.inj h2)
    refine ⟨fun k => .slice k 0 n n true, .cells e cs true, rfl, rfl, rfl, fun st2 => ?_⟩
    show (Option.rec none (fun l => some (.slice st2.next 0 n n true, st2.new (.cells e l true))) (fillV tm z ps) : Ev) = _
    rw [h1]
  | mkm =>
    refine ⟨iMkm, rfl, fun tm st v st' h => ⟨fun k => .map k, .map [], ?_⟩⟩
    obtain ⟨rfl, rfl⟩ := Prod.mk.inj (Option.some.inj h)
    exact ⟨rfl, rfl, rfl, fun _ => rfl⟩
  | len k x =>
    have h' : (if k = 0 then 0 else if k = 1 then 0 else 1) = 4 := h
    split at h' <;> (try split at h') <;> omega
  | _ => exact nomatch h
theorem cls_soft {P : Program} {o : Oper} {i : I} (h : Cls P o i) (hk : kindI i = 4) : ∃ f, i.go = gE f ∧ SoftOk P o f := by
  cases h with
  | pure _ f hg hf =>
    obtain ⟨g, h1, h2⟩ := soft_ok i hk
    refine ⟨g, h1, ?_⟩
    intro base ρ st st' w nt tm a v c hv
    exfalso
    obtain ⟨r, b, rfl, rfl, _, _⟩ := h2 tm st v st' hv
    have h3 := congrFun (congrFun (congrFun (congrFun (congrFun (h1.symm.trans hg) (some .h)) (fun _ tm st => some (.nrm, tm, st))) (fun _ _ _ => none)) tm) st
    have h4 : (Option.rec none (fun p => Prod.rec (fun v st' => some (Ex.nrm, putT tm (some .h) v, st')) p) (g tm st) : Run) = Option.rec none (fun v => some (Ex.nrm, putT tm (some .h) v, st)) (f tm st) := h3
    rw [hv] at h4
    cases hf : f tm st with
    | none => rw [hf] at h4; exact nomatch h4
    | some y =>
      rw [hf] at h4
      obtain ⟨_, h5⟩ := Prod.mk.inj (Option.some.inj (h4 : some (Ex.nrm, putT tm (some .h) (r st.next), st.new b) = some (Ex.nrm, putT tm (some .h) y, st)))
      have h6 := congrArg St.next (Prod.mk.inj h5).2
      rw [new_next] at h6
      omega
  | loud _ f hk' hg hf =>
    rcases hk' with h1 | ⟨_, h1⟩
    · omega
    · exact ⟨f, hg, h1⟩
  | call f xs c _ _ _ => exact absurd hk (by simp [kindI])
  | dyn x y xs c _ _ _ _ => exact absurd hk (by simp [kindI])
  | panic x y _ _ => exact absurd hk (by simp [kindI])
def EdgeTo (o : Oper) (j : Nat) : Prop := ∃ e ∈ o.after, Region.binds .any e = true ∧ e.on = j
theorem preOne_bit {pre : List Nat} {o : Oper} {k : Nat} (h : (preOne pre o).testBit k = true) : ∃ j, EdgeTo o j ∧ (j = k ∨ (pre.getD j 0).testBit k = true) := by
  have key : ∀ (l : List Edge) (m : Nat), (l.foldl (fun m e => if Region.binds .any e then m ||| (2 ^ e.on ||| pre.getD e.on 0) else m) m).testBit k = true →
      m.testBit k = true ∨ ∃ e ∈ l, Region.binds .any e = true ∧ (e.on = k ∨ (pre.getD e.on 0).testBit k = true) := by
    intro l
    induction l with
    | nil => intro m h; exact .inl h
    | cons e l ih =>
      intro m h
      rw [List.foldl_cons] at h
      rcases ih _ h with h1 | ⟨e', he, hb⟩
      · split at h1
        · rename_i hb
          rw [Nat.testBit_or, Nat.testBit_or, Bool.or_eq_true, Bool.or_eq_true] at h1
          rcases h1 with h1 | h1 | h1
          · exact .inl h1
          · refine .inr ⟨e, List.mem_cons_self .., hb, .inl ?_⟩
            rw [Nat.testBit_two_pow] at h1
            simpa using h1
          · exact .inr ⟨e, List.mem_cons_self .., hb, .inr h1⟩
        · exact .inl h1
      · exact .inr ⟨e', List.mem_cons_of_mem _ he, hb⟩
  rcases key _ 0 h with h1 | ⟨e, he, hb, h2⟩
  · simp at h1
  · exact ⟨e.on, ⟨e, by simpa using he, hb, rfl⟩, h2⟩
theorem pres_len : ∀ (l : List Oper) (acc : List Nat), (pres l acc).length = acc.length + l.length
  | [], acc => rfl
  | o :: l, acc => by unfold pres; rw [pres_len l]; simp; omega
theorem pres_old : ∀ (l : List Oper) (acc : List Nat) (i : Nat), i < acc.length → (pres l acc)[i]? = acc[i]?
  | [], acc, i, h => rfl
  | o :: l, acc, i, h => by
    unfold pres
    rw [pres_old l _ i (by simp; omega), List.getElem?_append_left h]
theorem pres_at : ∀ (l : List Oper) (acc : List Nat) (j : Nat) (o : Oper), l[j]? = some o → ∃ acc', acc'.length = acc.length + j ∧ (∀ i, i < acc'.length → (pres l acc)[i]? = acc'[i]?) ∧ (pres l acc)[acc.length + j]? = some (preOne acc' o)
  | [], acc, j, o, h => by simp at h
  | o' :: l, acc, 0, o, h => by
    obtain rfl : o' = o := by simpa using h
    refine ⟨acc, rfl, fun i hi => pres_old _ acc i hi, ?_⟩
    unfold pres
    rw [Nat.add_zero, pres_old l _ _ (by simp)]
    simp
  | o' :: l, acc, j + 1, o, h => by
    obtain ⟨acc', h1, h2, h3⟩ := pres_at l (acc ++ [preOne acc o']) j o (by simpa using h)
    refine ⟨acc', by rw [h1]; simp; omega, h2, ?_⟩
    rw [show acc.length + (j + 1) = (acc ++ [preOne acc o']).length + j by simp; omega]
    exact h3
theorem bit_step {ops : Array Oper} {i k : Nat} {o : Oper} (ho : ops[i]? = some o) (he : ∀ j, EdgeTo o j → j < i) (h : ((pres ops.toList []).getD i 0).testBit k = true) :
    ∃ j, EdgeTo o j ∧ (j = k ∨ ((pres ops.toList []).getD j 0).testBit k = true) := by
  obtain ⟨acc', h1, h2, h3⟩ := pres_at ops.toList [] i o (by simpa using ho)
  simp only [List.length_nil, Nat.zero_add] at h1 h3
  rw [List.getD_eq_getElem?_getD, h3] at h
  obtain ⟨j, h4, h5⟩ := preOne_bit (show (preOne acc' o).testBit k = true from h)
  refine ⟨j, h4, h5.imp id fun h6 => ?_⟩
  rw [List.getD_eq_getElem?_getD, h2 j (by rw [h1]; exact he j h4), ← List.getD_eq_getElem?_getD]
  exact h6
theorem last_or_none (p : Nat → Prop) : ∀ i, (∀ k, k < i → ¬ p k) ∨ ∃ k, k < i ∧ p k ∧ ∀ k', k < k' → k' < i → ¬ p k'
  | 0 => .inl fun k h => absurd h (Nat.not_lt_zero _)
  | i + 1 => by
    by_cases h : p i
    · exact .inr ⟨i, by omega, h, fun k' h1 h2 => by omega⟩
    · rcases last_or_none p i with h1 | ⟨k, h1, h2, h3⟩
      · refine .inl fun k hk => ?_
        by_cases e : k = i
        · subst e; exact h
        · exact h1 k (by omega)
      · refine .inr ⟨k, by omega, h2, fun k' h4 h5 => ?_⟩
        by_cases e : k' = i
        · subst e; exact h
        · exact h3 k' h4 (by omega)
end Go.Proofs.YtnebopkgnkemiaaGreatDoor.Av
namespace Go.Proofs.YtnebopkgnkemiaaGreatDoor.Av
set_option linter.unusedVariables false
set_option linter.unusedSimpArgs false
open Go Go.RowKit
theorem sameV_nil (l : List V) : (V.rec (motive_1 := fun _ => V → Bool) (motive_2 := fun _ => List V → Bool)
    (fun k n u => u.onInt false (fun j m => Nat.beq j k && eqI m n))
    (fun s u => u.onStr false (fun t => eqS t s))
    (fun b u => u.onBool false (fun c => Bool.rec (Bool.rec true false c) c b))
    (fun t o i n c x u => V.rec (motive_1 := fun _ => Bool) (motive_2 := fun _ => Unit) (fun _ _ => false) (fun _ => false) (fun _ => false)
      (fun t' o' i' n' c' x' => Nat.beq t' t && (Nat.beq o' o && (Nat.beq i' i && (Nat.beq n' n && (Nat.beq c' c && Bool.rec (Bool.rec true false x') x' x))))) (fun _ _ _ _ => false) () (fun _ _ _ _ => ()) u)
    (fun t a _ ih u => u.onCmp false (fun t' a' l' => Nat.beq t' t && (Nat.beq a' a && ih l')))
    (fun l => List.rec true (fun _ _ _ => false) l)
    (fun _ _ ih ihs l => List.rec false (fun u us _ => ih u && ihs us) l) (.cmp 0 0 []) (.cmp 0 0 l) : Bool) = l.isEmpty := by cases l <;> rfl
theorem sameV_cmp0 (t a : Nat) (u : V) : sameV (.cmp t a []) u = u.onCmp false (fun t' a' l' => Nat.beq t' t && (Nat.beq a' a && List.rec true (fun _ _ _ => false) l')) := rfl
theorem sameV_int (k : Nat) (n : Int) (u : V) : sameV (.int k n) u = u.onInt false (fun j m => Nat.beq j k && eqI m n) := rfl
noncomputable def sameL (l : List V) : List V → Bool :=
  List.rec (motive := fun _ => List V → Bool) (fun l => List.rec true (fun _ _ _ => false) l) (fun v _ ihs l => List.rec false (fun u us _ => sameV v u && ihs us) l) l
theorem sameV_cmp (t a : Nat) (l : List V) (u : V) : sameV (.cmp t a l) u = u.onCmp false (fun t' a' l' => Nat.beq t' t && (Nat.beq a' a && sameL l l')) := by
  have key : ∀ l : List V, ∀ l', (sameV (.cmp 0 0 l) (.cmp 0 0 l')) = sameL l l' := by
    intro l
    induction l with
    | nil => intro l'; cases l' <;> rfl
    | cons v l ih =>
      intro l'
      cases l' with
      | nil => rfl
      | cons u us =>
        have h1 : sameV (.cmp 0 0 (v :: l)) (.cmp 0 0 (u :: us)) = (sameV v u && sameV (.cmp 0 0 l) (.cmp 0 0 us)) := rfl
        rw [h1, ih]; rfl
  cases u with
  | cmp t' a' l' =>
    show (Nat.beq t' t && (Nat.beq a' a && _)) = (Nat.beq t' t && (Nat.beq a' a && sameL l l'))
    congr 2
    exact key l l'
  | _ => rfl
mutual
theorem sameV_eq : ∀ {v u : V}, sameV v u = true → v = u
  | .int k n, u, h => by
    rw [sameV_int] at h
    cases u with
    | int j m =>
      have h' : (Nat.beq j k && eqI m n) = true := h
      rw [Bool.and_eq_true, eqI_eq] at h'
      rw [beq_iff.1 h'.1, of_decide_eq_true h'.2]
    | _ => exact nomatch h
  | .str s, u, h => by
    cases u with
    | str t =>
      have h' : eqS t s = true := h
      rw [eqS_eq] at h'
      rw [of_decide_eq_true h']
    | _ => exact nomatch h
  | .bool b, u, h => by
    cases u with
    | bool c => cases b <;> cases c <;> first | rfl | exact nomatch h
    | _ => exact nomatch h
  | .ref t o i n c x, u, h => by
    cases u with
    | ref t' o' i' n' c' x' =>
      have h' : (Nat.beq t' t && (Nat.beq o' o && (Nat.beq i' i && (Nat.beq n' n && (Nat.beq c' c && Bool.rec (Bool.rec true false x') x' x))))) = true := h
      simp only [Bool.and_eq_true] at h'
      obtain ⟨h1, h2, h3, h4, h5, h6⟩ := h'
      rw [beq_iff.1 h1, beq_iff.1 h2, beq_iff.1 h3, beq_iff.1 h4, beq_iff.1 h5]
      cases x <;> cases x' <;> first | rfl | exact nomatch h6
    | _ => exact nomatch h
  | .cmp t a l, u, h => by
    rw [sameV_cmp] at h
    cases u with
    | cmp t' a' l' =>
      have h' : (Nat.beq t' t && (Nat.beq a' a && sameL l l')) = true := h
      simp only [Bool.and_eq_true] at h'
      rw [beq_iff.1 h'.1, beq_iff.1 h'.2.1, sameL_eq h'.2.2]
    | _ => exact nomatch h
theorem sameL_eq : ∀ {l l' : List V}, sameL l l' = true → l = l'
  | [], [], _ => rfl
  | [], _ :: _, h => nomatch h
  | _ :: _, [], h => nomatch h
  | v :: l, u :: l', h => by
    have h' : (sameV v u && sameL l l') = true := h
    rw [Bool.and_eq_true] at h'
    rw [sameV_eq h'.1, sameL_eq h'.2]
end
theorem sees_some {v : V} {r : Option (CR × St)} (h : seesV v r = true) : ∃ s', r = some (.ret v, s') := by
  cases r with
  | none => exact nomatch h
  | some p =>
    obtain ⟨c, s⟩ := p
    cases c with
    | ret u =>
      have h' : sameV v u = true := h
      rw [sameV_eq h']; exact ⟨s, rfl⟩
    | pan u => exact nomatch h
theorem memN_iff (l : List Nat) (n : Nat) : memN l n = true ↔ n ∈ l := by
  induction l with
  | nil => exact ⟨fun h => (nomatch h), fun h => (nomatch h)⟩
  | cons x l ih =>
    have h1 : memN (x :: l) n = bif Nat.beq x n then true else memN l n := rfl
    rw [h1]
    by_cases e : x = n
    · rw [beqT e, e]
      exact ⟨fun _ => List.mem_cons_self .., fun _ => rfl⟩
    · rw [beqF e]
      exact ⟨fun h => List.mem_cons_of_mem _ (ih.1 h), fun h => ih.2 ((List.mem_cons.1 h).resolve_left (fun h => e h.symm))⟩
theorem seeAll_at {cs : List Nat} {s : St} : ∀ {rs : Rds}, seeAll cs rs s = true → ∀ r ∈ rs, r.1 ∈ cs → r.2 s = true
  | [], _, r, hr, _ => by simp at hr
  | q :: rs, h, r, hr, hc => by
    have h1 : seeAll cs (q :: rs) s = bif memN cs q.1 then q.2 s && seeAll cs rs s else seeAll cs rs s := rfl
    rw [h1] at h
    rcases List.mem_cons.1 hr with rfl | hr
    · rw [(memN_iff cs r.1).2 hc] at h
      simp only [cond_true, Bool.and_eq_true] at h
      exact h.1
    · refine seeAll_at (rs := rs) ?_ r hr hc
      cases hm : memN cs q.1 with
      | true => rw [hm] at h; simp only [cond_true, Bool.and_eq_true] at h; exact h.2
      | false => rw [hm] at h; exact h
structure StepAt (call : Callee) (d : D) (tm : Tr V) (s : St) (rs : Rds) (v : V) (tm2 : Tr V) (s2 : St) (rs2 : Rds) : Prop where
  slot : tm2 = putT tm d.o.d v
  more : ∀ r ∈ rs, r ∈ rs2
  off : wantedV (pickT d.us tm) d.o.g = false → v = .undef ∧ s2 = s
  quiet : wantedV (pickT d.us tm) d.o.g = true → (d.m = 0 ∨ d.m = 1) → s2 = s ∧ ∃ s', oneV d.o.i.go call (pickT d.us tm) s = some (.ret v, s')
  remember : wantedV (pickT d.us tm) d.o.g = true → d.m = 1 → (d.id, fun s' => seesV v (oneV d.o.i.go call (pickT d.us tm) s')) ∈ rs2
  plain : wantedV (pickT d.us tm) d.o.g = true → d.m ≠ 0 → d.m ≠ 1 → d.m ≠ 3 → oneV d.o.i.go call (pickT d.us tm) s = some (.ret v, s2)
  checked : wantedV (pickT d.us tm) d.o.g = true → d.m = 3 → ∃ s', oneV d.o.i.go call (pickT d.us tm) s.fresh = some (.ret v, s') ∧ s2 = s.after s' ∧ (s.next ≤ s'.low ∨ seeAll d.cs rs s2 = true)
def PanAt (call : Callee) (d : D) (tm : Tr V) (s : St) (v : V) (s' : St) : Prop :=
  wantedV (pickT d.us tm) d.o.g = true ∧ d.m ≠ 0 ∧ d.m ≠ 1 ∧ ((d.m = 3 ∧ ∃ s1, oneV d.o.i.go call (pickT d.us tm) s.fresh = some (.pan v, s1) ∧ s' = s.after s1) ∨ (d.m ≠ 3 ∧ oneV d.o.i.go call (pickT d.us tm) s = some (.pan v, s')))
theorem evD_cons (call : Callee) (d : D) (ds : List D) (tm : Tr V) (s : St) (rs : Rds) {r : DR} (h : evD (d :: ds) call tm s rs = some r) :
    (∃ v tm2 s2 rs2, StepAt call d tm s rs v tm2 s2 rs2 ∧ evD ds call tm2 s2 rs2 = some r) ∨ (∃ v s', r = .pan v s' ∧ PanAt call d tm s v s') := by
  have h' : (Bool.rec (Bool.rec (Bool.rec (stepL d.us d.o.d d.o.i.go d.o.g (evD ds)) (stepC d.cs d.us d.o.d d.o.i.go d.o.g (evD ds)) (Nat.beq d.m 3)) (stepQ d.id d.us d.o.d d.o.i.go d.o.g (evD ds)) (Nat.beq d.m 1)) (stepR d.us d.o.d d.o.i.go d.o.g (evD ds)) (Nat.beq d.m 0) : DK) call tm s rs = some r := h
  have hoff : wantedV (pickT d.us tm) d.o.g = false → evD ds call (putT tm d.o.d .undef) s rs = some r → ∃ v tm2 s2 rs2, StepAt call d tm s rs v tm2 s2 rs2 ∧ evD ds call tm2 s2 rs2 = some r := fun hw h3 =>
    ⟨.undef, _, _, _, ⟨rfl, fun _ h => h, fun _ => ⟨rfl, rfl⟩, fun hw' => (by rw [hw] at hw'; exact nomatch hw'), fun hw' => (by rw [hw] at hw'; exact nomatch hw'), fun hw' => (by rw [hw] at hw'; exact nomatch hw'), fun hw' => (by rw [hw] at hw'; exact nomatch hw')⟩, h3⟩
  by_cases h0 : d.m = 0
  · rw [beqT h0] at h'
    have h2 : (Bool.rec (evD ds call (putT tm d.o.d .undef) s rs)
      (Option.rec none (fun p => Prod.rec (fun c _ => CR.rec (fun v => evD ds call (putT tm d.o.d v) s rs) (fun _ => none) c) p) (oneV d.o.i.go call (pickT d.us tm) s)) (wantedV (pickT d.us tm) d.o.g) : Option DR) = some r := h'
    left
    cases hw : wantedV (pickT d.us tm) d.o.g with
    | false => rw [hw] at h2; exact hoff hw h2
    | true =>
      rw [hw] at h2
      obtain ⟨⟨c, s'⟩, h3, h4⟩ := orec_none h2
      cases c with
      | pan u => exact nomatch h4
      | ret u => exact ⟨u, _, _, _, ⟨rfl, fun _ h => h, fun hw' => (by rw [hw] at hw'; exact nomatch hw'), fun _ _ => ⟨rfl, s', h3⟩, fun _ h => absurd (h0.symm.trans h) (by decide), fun _ h => absurd h0 h, fun _ h => absurd (h0.symm.trans h) (by decide)⟩, h4⟩
  · rw [beqF h0] at h'
    by_cases h1 : d.m = 1
    · rw [beqT h1] at h'
      have h2 : (Bool.rec (evD ds call (putT tm d.o.d .undef) s rs)
        (Option.rec none (fun p => Prod.rec (fun c _ => CR.rec (fun v => evD ds call (putT tm d.o.d v) s ((d.id, fun s' => seesV v (oneV d.o.i.go call (pickT d.us tm) s')) :: rs)) (fun _ => none) c) p) (oneV d.o.i.go call (pickT d.us tm) s)) (wantedV (pickT d.us tm) d.o.g) : Option DR) = some r := h'
      left
      cases hw : wantedV (pickT d.us tm) d.o.g with
      | false => rw [hw] at h2; exact hoff hw h2
      | true =>
        rw [hw] at h2
        obtain ⟨⟨c, s'⟩, h3, h4⟩ := orec_none h2
        cases c with
        | pan u => exact nomatch h4
        | ret u => exact ⟨u, _, _, _, ⟨rfl, fun _ h => List.mem_cons_of_mem _ h, fun hw' => (by rw [hw] at hw'; exact nomatch hw'), fun _ _ => ⟨rfl, s', h3⟩, fun _ _ => List.mem_cons_self .., fun _ _ h => absurd h1 h, fun _ h => absurd (h1.symm.trans h) (by decide)⟩, h4⟩
    · rw [beqF h1] at h'
      by_cases h5 : d.m = 3
      · rw [beqT h5] at h'
        have h2 : (Bool.rec (evD ds call (putT tm d.o.d .undef) s rs)
          (Option.rec none (fun p => Prod.rec (fun c s' => CR.rec
            (fun v => bif Nat.ble s.next s'.low then evD ds call (putT tm d.o.d v) (s.after s') rs else bif seeAll d.cs rs (s.after s') then evD ds call (putT tm d.o.d v) (s.after s') rs else none)
            (fun v => some (.pan v (s.after s'))) c) p) (oneV d.o.i.go call (pickT d.us tm) s.fresh)) (wantedV (pickT d.us tm) d.o.g) : Option DR) = some r := h'
        cases hw : wantedV (pickT d.us tm) d.o.g with
        | false => rw [hw] at h2; exact .inl (hoff hw h2)
        | true =>
          rw [hw] at h2
          obtain ⟨⟨c, s'⟩, h3, h4⟩ := orec_none h2
          cases c with
          | pan u =>
            obtain rfl := Option.some.inj (show some (DR.pan u (s.after s')) = some r from h4)
            exact .inr ⟨u, _, rfl, hw, h0, h1, .inl ⟨h5, s', h3, rfl⟩⟩
          | ret u =>
            have h6 : (bif Nat.ble s.next s'.low then evD ds call (putT tm d.o.d u) (s.after s') rs else bif seeAll d.cs rs (s.after s') then evD ds call (putT tm d.o.d u) (s.after s') rs else none) = some r := h4
            left
            have fin : evD ds call (putT tm d.o.d u) (s.after s') rs = some r → (s.next ≤ s'.low ∨ seeAll d.cs rs (s.after s') = true) → ∃ v tm2 s2 rs2, StepAt call d tm s rs v tm2 s2 rs2 ∧ evD ds call tm2 s2 rs2 = some r := fun e1 e2 =>
              ⟨u, _, _, _, ⟨rfl, fun _ h => h, fun hw' => (by rw [hw] at hw'; exact nomatch hw'), fun _ h => absurd h (by omega), fun _ h => absurd h h1, fun _ _ _ h => absurd h5 h, fun _ _ => ⟨s', h3, rfl, e2⟩⟩, e1⟩
            cases hb : Nat.ble s.next s'.low with
            | true => rw [hb] at h6; exact fin h6 (.inl (ble_iff.1 hb))
            | false =>
              rw [hb] at h6
              have h7 : (bif seeAll d.cs rs (s.after s') then evD ds call (putT tm d.o.d u) (s.after s') rs else none) = some r := h6
              obtain ⟨h8, h9⟩ := bif_none h7
              exact fin h9 (.inr h8)
      · rw [beqF h5] at h'
        have h2 : (Bool.rec (evD ds call (putT tm d.o.d .undef) s rs)
          (Option.rec none (fun p => Prod.rec (fun c s' => CR.rec (fun v => evD ds call (putT tm d.o.d v) s' rs) (fun v => some (.pan v s')) c) p) (oneV d.o.i.go call (pickT d.us tm) s)) (wantedV (pickT d.us tm) d.o.g) : Option DR) = some r := h'
        cases hw : wantedV (pickT d.us tm) d.o.g with
        | false => rw [hw] at h2; exact .inl (hoff hw h2)
        | true =>
          rw [hw] at h2
          obtain ⟨⟨c, s'⟩, h3, h4⟩ := orec_none h2
          cases c with
          | pan u =>
            obtain rfl := Option.some.inj (show some (DR.pan u s') = some r from h4)
            exact .inr ⟨u, _, rfl, hw, h0, h1, .inr ⟨h5, h3⟩⟩
          | ret u =>
            exact .inl ⟨u, _, _, _, ⟨rfl, fun _ h => h, fun hw' => (by rw [hw] at hw'; exact nomatch hw'), fun _ h => absurd h (by omega), fun _ h => absurd h h1, fun _ _ _ _ => h3, fun _ h => absurd h h5⟩, h4⟩
def Ends (call : Callee) (ds : List D) (r : DR) (N : Nat) (tm : Tr V) (s : St) : Prop :=
  (N = ds.length ∧ r = .nrm tm s) ∨ (∃ d v s', ds[N]? = some d ∧ r = .pan v s' ∧ PanAt call d tm s v s')
theorem trace (call : Callee) : ∀ (ds : List D) (tm : Tr V) (s : St) (rs : Rds) (r : DR), evD ds call tm s rs = some r →
    ∃ (N : Nat) (tmv : Nat → Tr V) (sv : Nat → St) (rv : Nat → Rds) (v : Nat → V), tmv 0 = tm ∧ sv 0 = s ∧ rv 0 = rs ∧ N ≤ ds.length ∧ Ends call ds r N (tmv N) (sv N) ∧
      ∀ p d, p < N → ds[p]? = some d → StepAt call d (tmv p) (sv p) (rv p) (v p) (tmv (p + 1)) (sv (p + 1)) (rv (p + 1))
  | [], tm, s, rs, r, h => by
    obtain rfl := Option.some.inj (show some (DR.nrm tm s) = some r from h)
    exact ⟨0, fun _ => tm, fun _ => s, fun _ => rs, fun _ => .undef, rfl, rfl, rfl, Nat.le_refl _, .inl ⟨rfl, rfl⟩, fun p d h => absurd h (Nat.not_lt_zero _)⟩
  | d :: ds, tm, s, rs, r, h => by
    rcases evD_cons call d ds tm s rs h with ⟨v, tm2, s2, rs2, h1, h2⟩ | ⟨v, s', rfl, h1⟩
    · obtain ⟨N, tmv, sv, rv, vs, h3, h4, h5, h6, h7, h8⟩ := trace call ds tm2 s2 rs2 r h2
      refine ⟨N + 1, fun i => Nat.casesOn i tm tmv, fun i => Nat.casesOn i s sv, fun i => Nat.casesOn i rs rv, fun i => Nat.casesOn i v vs, rfl, rfl, rfl, by simpa using h6, ?_, fun p d' hp hd => ?_⟩
      · rcases h7 with ⟨h9, h10⟩ | ⟨d', v', s', h9, h10, h11⟩
        · exact .inl ⟨by simp [h9], h10⟩
        · exact .inr ⟨d', v', s', by simpa using h9, h10, h11⟩
      · cases p with
        | zero =>
          obtain rfl : d = d' := by simpa using hd
          show StepAt call d tm s rs v (tmv 0) (sv 0) (rv 0)
          rw [h3, h4, h5]; exact h1
        | succ p => exact h8 p d' (by omega) (by simpa using hd)
    · exact ⟨0, fun _ => tm, fun _ => s, fun _ => rs, fun _ => .undef, rfl, rfl, rfl, Nat.zero_le _, .inr ⟨d, v, s', rfl, rfl, h1⟩, fun p d h => absurd h (Nat.not_lt_zero _)⟩
theorem at_pickT : ∀ (us : List Pa) (tm : Tr V) (p : Pa), (p ∈ us → (pickT us tm).at p = tm.at p) ∧ (p ∉ us → (pickT us tm).at p = none)
  | [], tm, p => ⟨fun h => by simp at h, fun _ => at_leaf p⟩
  | q :: us, tm, p => by
    have h : pickT (q :: us) tm = (pickT us tm).to q (tm.at q) := rfl
    rw [h]
    by_cases e : q = p
    · subst e
      exact ⟨fun _ => at_to_same _ _ _, fun h => absurd (List.mem_cons_self ..) h⟩
    · rw [at_to_ne _ _ e]
      obtain ⟨h1, h2⟩ := at_pickT us tm p
      refine ⟨fun h => h1 ?_, fun h => h2 fun h' => h (List.mem_cons_of_mem _ h')⟩
      rcases List.mem_cons.1 h with h | h
      · exact absurd h.symm e
      · exact h
def Act.only (a : Act) (l : List Tmp) : Act := { tmps := a.tmps.mapIdx fun t v => if t ∈ l then v else Go.undef, defers := a.defers }
theorem only_in (a : Act) {l : List Tmp} {t : Nat} (h : t ∈ l) : (Act.only a l).tmps[t]? = a.tmps[t]? := by
  unfold Act.only
  rw [Array.getElem?_mapIdx]
  cases a.tmps[t]? with
  | none => rfl
  | some v => simp [h]
theorem only_out (a : Act) {l : List Tmp} {t : Nat} (h : t ∉ l) : (Act.only a l).tmps.getD t Go.undef = Go.undef := by
  unfold Act.only
  rw [Array.getD_eq_getD_getElem?, Array.getElem?_mapIdx]
  cases a.tmps[t]? with
  | none => rfl
  | some v => simp [h]
theorem only_exec {ops : Array Oper} {o : Oper} (a : Act) (hs : ∀ cs b, o.op ≠ .select cs b) : execOp a.eval o = execOp (Act.only a (o.looksAt ops)).eval o :=
  execOp_congr o hs fun x hx => by
    cases x with
    | tmp t =>
      have ht : t ∈ o.looksAt ops := List.mem_append_left _ (List.mem_filterMap.2 ⟨.tmp t, by simpa using hx, rfl⟩)
      simp only [Act.eval, Array.getD_eq_getD_getElem?, only_in a ht]
    | _ => rfl
theorem only_wanted {ops : Array Oper} {o : Oper} (a : Act) : Region.wanted o (yielded ops a.tmps) = Region.wanted o (yielded ops (Act.only a (o.looksAt ops)).tmps) := by
  unfold Region.wanted
  cases hg : o.guard with
  | none => rfl
  | some gw =>
    obtain ⟨g, want⟩ := gw
    have hy : yielded ops a.tmps g = yielded ops (Act.only a (o.looksAt ops)).tmps g := by
      unfold yielded
      cases ht : (ops[g]?).bind (·.dst) with
      | none => rfl
      | some t =>
        have hin : t ∈ o.looksAt ops := by simp [Oper.looksAt, hg, ht]
        simp only [Option.bind_some, only_in a hin]
    simp only [hy]
theorem only_tms {ρ : Map} {n nt : Nat} {tm : Tr V} {a : Act} {l : List Tmp} (hs : nt ≤ a.tmps.size) (h : ∀ t, t ∈ l → VR ρ n ((tm.at (pa t)).getD .undef) (a.tmps.getD t Go.undef)) : TmR ρ n nt (pickT (l.map pa) tm) (Act.only a l).tmps := by
  refine ⟨by unfold Act.only; simpa using hs, fun i => ?_⟩
  by_cases hi : i ∈ l
  · rw [(at_pickT _ tm (pa i)).1 (List.mem_map_of_mem hi), Array.getD_eq_getD_getElem?, only_in a hi, ← Array.getD_eq_getD_getElem?]
    exact h i hi
  · rw [(at_pickT _ tm (pa i)).2 (fun h' => by
      obtain ⟨j, h1, h2⟩ := List.mem_map.1 h'
      exact hi (by rw [← pa_inj h2]; exact h1)), only_out a hi]
    exact .tup [] [] .nil
section
variable {P : Program} {base nt : Nat} {call : Callee} {ρ : Map} {st : St} {w : World} {tm : Tr V} {a b : Act} {o : Oper} {Q : Exit → Act → World → Prop} {next : Act → World → Prop}
theorem oneR_put {v : V} {c : CR} {s s' : St} (h : oneR (some (Ex.nrm, putT tm (some .h) v, s)) = some (c, s')) : c = .ret v ∧ s = s' := by
  have h2 : (Option.rec none (fun v => some (CR.ret v, s)) ((tm.to .h (some v)).at .h) : Option (CR × St)) = some (c, s') := h
  rw [at_to_same] at h2
  obtain ⟨h3, h4⟩ := Prod.mk.inj (Option.some.inj h2)
  exact ⟨h3.symm, h4⟩
theorem oneV_pure {i : I} {f : Tr V → St → Option V} (hg : i.go = gP f) {c : CR} {s s' : St} (h : oneV i.go call tm s = some (c, s')) : ∃ v, c = .ret v ∧ f tm s = some v ∧ s' = s := by
  rw [hg] at h
  have h' : oneR (Option.rec none (fun v => some (Ex.nrm, putT tm (some .h) v, s)) (f tm s)) = some (c, s') := h
  cases hf : f tm s with
  | none => rw [hf] at h'; exact nomatch h'
  | some u =>
    rw [hf] at h'
    obtain ⟨h1, h2⟩ := oneR_put h'
    exact ⟨u, h1, rfl, h2.symm⟩
theorem oneV_of_pure {i : I} {f : Tr V → St → Option V} (hg : i.go = gP f) {v : V} {s : St} (h : f tm s = some v) : oneV i.go call tm s = some (.ret v, s) := by
  rw [hg]
  show oneR (Option.rec none (fun v => some (Ex.nrm, putT tm (some .h) v, s)) (f tm s)) = _
  rw [h]
  show (Option.rec none (fun v => some (CR.ret v, s)) ((tm.to .h (some v)).at .h) : Option (CR × St)) = _
  rw [at_to_same]
theorem oneV_loud {i : I} {f : Tr V → St → Ev} (hg : i.go = gE f) {c : CR} {s s' : St} (h : oneV i.go call tm s = some (c, s')) : ∃ v, c = .ret v ∧ f tm s = some (v, s') := by
  rw [hg] at h
  have h' : oneR (Option.rec none (fun p => Prod.rec (fun v st' => some (Ex.nrm, putT tm (some .h) v, st')) p) (f tm s)) = some (c, s') := h
  cases hf : f tm s with
  | none => rw [hf] at h'; exact nomatch h'
  | some p =>
    obtain ⟨u, s1⟩ := p
    rw [hf] at h'
    obtain ⟨h1, h2⟩ := oneR_put (show oneR (some (Ex.nrm, putT tm (some .h) u, s1)) = some (c, s') from h')
    exact ⟨u, h1, by rw [h2]⟩
theorem one_sound (hc : CallOk P call) {i : I} (hcl : Cls P o i) (c : Ctx P base ρ st w nt tm b) (hb : base ≤ w.heap.size) (he : execOp a.eval o = execOp b.eval o) {r : CR} {st' : St} (h : oneV i.go call tm st = some (r, st'))
    (hn : ∀ v v' ρ' w', r = .ret v → Now P base ρ st w ρ' st' w' → VR ρ' st'.next v v' → next (a.put o.dst v') w')
    (hp : ∀ v v' ρ' w', r = .pan v → Now P base ρ st w ρ' st' w' → VR ρ' st'.next v v' → Q (.panic [{ v := v', recovered := false }]) a w') : o.wp P a w next Q := by
  cases hcl with
  | pure _ f hg hf =>
    obtain ⟨v, rfl, h1, rfl⟩ := oneV_pure hg h
    obtain ⟨v', h2, h3⟩ := hf c h1
    unfold Oper.wp
    rw [he, h2]
    exact hn v v' ρ w rfl (Now.refl c.rel) h3
  | loud _ f hk hg hf =>
    obtain ⟨v, rfl, h1⟩ := oneV_loud hg h
    obtain ⟨v', w', ρ', h1, h2, h3, h4, h5, h6, h7⟩ := hf c hb h1
    unfold Oper.wp
    rw [he]
    rcases h1 with h1 | ⟨h1, rfl⟩
    · rw [h1]; exact hn v v' ρ' w' rfl ⟨h2, h4, h5, h6, h7⟩ h3
    · rw [h1]; exact hn v _ ρ' w' rfl ⟨h2, h4, h5, h6, h7⟩ h3
  | call f ys cl ho hcl hys =>
    have h' : oneR (goR (some .h) endG call tm (call f (X.evs tm ys) st)) = some (r, st') := h
    cases hr : call f (X.evs tm ys) st with
    | none => rw [hr] at h'; exact nomatch h'
    | some p =>
      obtain ⟨c', s1⟩ := p
      rw [hr] at h'
      have h2 : c' = r ∧ s1 = st' := by
        cases c' with
        | pan u => exact Prod.mk.inj (Option.some.inj (show some (CR.pan u, s1) = some (r, st') from h'))
        | ret u => obtain ⟨e1, e2⟩ := oneR_put (show oneR (some (Ex.nrm, putT tm (some .h) u, s1)) = some (r, st') from h'); exact ⟨e1.symm, e2⟩
      obtain ⟨rfl, rfl⟩ := h2
      have hvs : VRs ρ st.next (X.evs tm ys) (cl.args.map b.eval).toList := by rw [Array.toList_map]; exact c.opds hys
      have hcalls := hc hr c.rel hb hvs
      exact upon_call (by rw [he]; exact exec_call ho hcl) c.rel hcalls (fun h => run_callFunc h _) hn hp
  | dyn y z ys cl ho hcl hz hys =>
    have h' : oneR (goR (some .h) endG call tm (dynV call (X.evs tm ys) st (y.ev tm))) = some (r, st') := h
    cases hr : dynV call (X.evs tm ys) st (y.ev tm) with
    | none => rw [hr] at h'; exact nomatch h'
    | some p =>
      obtain ⟨c', s1⟩ := p
      rw [hr] at h'
      have h2 : c' = r ∧ s1 = st' := by
        cases c' with
        | pan u => exact Prod.mk.inj (Option.some.inj (show some (CR.pan u, s1) = some (r, st') from h'))
        | ret u => obtain ⟨e1, e2⟩ := oneR_put (show oneR (some (Ex.nrm, putT tm (some .h) u, s1)) = some (r, st') from h'); exact ⟨e1.symm, e2⟩
      obtain ⟨rfl, rfl⟩ := h2
      obtain ⟨f, cs, hf, hv2⟩ := onFunc_some hr
      have hz' := c.opd hz
      rw [hf] at hz'
      obtain ⟨cs', hz2, hcs⟩ := hz'.func_inv
      rw [appL_eq] at hv2
      have hvs : VRs ρ st.next (X.evs tm ys ++ cs) ((cl.args.map b.eval).toList ++ cs') := by rw [Array.toList_map]; exact (c.opds hys).append hcs
      have hcalls := hc hv2 c.rel hb hvs
      have harr : ((cl.args.map b.eval).toList ++ cs').toArray = cl.args.map b.eval ++ cs'.toArray := by apply Array.toList_inj.1; simp
      rw [harr] at hcalls
      exact upon_call (by rw [he]; exact exec_dyn ho hcl hz2) c.rel hcalls (fun h => run_callFunc h _) hn hp
  | panic y z ho hz =>
    have h' : oneR ((y.ev tm).onIface none none (fun t v => some (Ex.pan (.iface t v), tm, st))) = some (r, st') := h
    cases hr : (y.ev tm).onIface none none (fun t v => some (Ex.pan (.iface t v), tm, st)) with
    | none => rw [hr] at h'; exact nomatch h'
    | some p =>
      rcases onIface_some hr with ⟨_, _, _, _, _, _, h0⟩ | ⟨t, u, l', hv, h2⟩
      · exact nomatch h0
      · obtain rfl := Option.some.inj h2
        rw [hr] at h'
        obtain ⟨rfl, rfl⟩ := Prod.mk.inj (Option.some.inj (show some (CR.pan (.iface t u), st) = some (r, st') from h'))
        have hz' := c.opd hz
        rw [hv] at hz'
        obtain ⟨u', hz2, hu⟩ := hz'.iface_inv
        unfold Oper.wp
        have : (execOp a.eval o).run P w = .halt (.panic (.iface t u')) w := by
          rw [he]
          simp [execOp, ho, hz2, Instr.panic]
        rw [this]
        exact hp _ _ ρ w rfl (Now.refl c.rel) (.iface t u u' hu)
theorem not_select {i : I} (h : compOp P o = some i) : ∀ cs b, o.op ≠ .select cs b := by
  intro cs b ho
  unfold compOp at h
  rw [ho] at h
  exact nomatch h
end
end Go.Proofs.YtnebopkgnkemiaaGreatDoor.Av
namespace Go.Proofs.YtnebopkgnkemiaaGreatDoor.Av
set_option linter.unusedVariables false
set_option linter.unusedSimpArgs false
open Go Go.RowKit
def Bit (pre : List Nat) (i k : Nat) : Prop := (pre.getD i 0).testBit k = true
structure Facts (ops : Array Oper) (ks pre π : List Nat) : Prop where
  cover : ∀ i, i < ops.size → ∃ p : Nat, π[p]? = some i
  kind : ∀ i, i < ops.size → ks.getD i 3 ≠ 3
  edge : ∀ (i : Nat) o, ops[i]? = some o → ∀ j, EdgeTo o j → j < i
  range : ∀ (p i : Nat), π[p]? = some i → i < ops.size
  pos : ∀ (p i : Nat) o, π[p]? = some i → ops[i]? = some o → ∀ j, EdgeTo o j → ∃ r : Nat, r < p ∧ π[r]? = some j
  pair : ∀ (r p i k : Nat) oi ok, r < p → π[r]? = some i → π[p]? = some k → ops[i]? = some oi → ops[k]? = some ok → i ≠ k ∧ (Bit pre k i ∨
    (ks.getD i 0 ≠ 2 ∧ (∀ t, oi.dst = some t → t ∉ ok.looksAt ops ∧ ok.dst ≠ some t) ∧ ∀ t, ok.dst = some t → t ∉ oi.looksAt ops))
theorem getD_of {l : List Nat} {p i : Nat} (h : l[p]? = some i) : l.getD p 0 = i := by rw [List.getD_eq_getElem?_getD, h]; rfl
theorem lt_of_at {α : Type} {l : List α} {p : Nat} {i : α} (h : l[p]? = some i) : p < l.length := (List.getElem?_eq_some_iff.1 h).1
theorem facts_of {ks pre π : List Nat} {ops : Array Oper} (h : okD ks pre ops π = true) : Facts ops ks pre π := by
  unfold okD at h
  rw [Bool.and_eq_true, List.all_eq_true, List.all_eq_true] at h
  obtain ⟨h1, h2⟩ := h
  have hA : ∀ i, i < ops.size → i ∈ π ∧ ks.getD i 3 ≠ 3 ∧ ((ops[i]?).map fun o => o.after.all fun e => !Region.binds .any e || decide (e.on < i)).getD true = true := fun i hi => by
    have := h1 i (List.mem_range.2 hi)
    simp only [Bool.and_eq_true, bne_iff_ne, List.contains_iff_mem] at this
    exact ⟨this.1, this.2.1, this.2.2⟩
  have hB : ∀ (p i : Nat), π[p]? = some i → (∃ o, ops[i]? = some o ∧ ∀ j, EdgeTo o j → j ∈ π.take p) ∧ ∀ r, r < p → okPair ks pre ops (π.getD r 0) i = true := fun p i hp => by
    have := h2 p (List.mem_range.2 (lt_of_at hp))
    rw [Bool.and_eq_true, List.all_eq_true] at this
    obtain ⟨h3, h4⟩ := this
    rw [getD_of hp] at h3
    refine ⟨?_, fun r hr => by have := h4 r (List.mem_range.2 hr); rwa [getD_of hp] at this⟩
    cases ho : ops[i]? with
    | none => rw [ho] at h3; exact nomatch h3
    | some o =>
      rw [ho] at h3
      refine ⟨o, rfl, fun j hj => ?_⟩
      obtain ⟨e, he, hb, rfl⟩ := hj
      have h5 := Array.all_eq_true_iff_forall_mem.1 (show (o.after.all fun e => !Region.binds .any e || (π.take p).contains e.on) = true from h3) e he
      rw [hb] at h5
      simpa using h5
  refine ⟨fun i hi => ?_, fun i hi => (hA i hi).2.1, fun i o ho j hj => ?_, fun p i hp => ?_, fun p i o hp ho j hj => ?_, fun r p i k oi ok hlt hr hp hi hk => ?_⟩
  · obtain ⟨p, hp, he⟩ := List.mem_iff_getElem.1 (hA i hi).1
    exact ⟨p, by rw [List.getElem?_eq_getElem hp, he]⟩
  · have h3 := (hA i (Array.getElem?_eq_some_iff.1 ho).1).2.2
    rw [ho] at h3
    obtain ⟨e, he, hb, rfl⟩ := hj
    have h4 := Array.all_eq_true_iff_forall_mem.1 (show (o.after.all fun e => !Region.binds .any e || decide (e.on < i)) = true from h3) e he
    rw [hb] at h4
    simpa using h4
  · obtain ⟨⟨o, ho, _⟩, _⟩ := hB p i hp
    exact (Array.getElem?_eq_some_iff.1 ho).1
  · obtain ⟨⟨o', ho', h3⟩, _⟩ := hB p i hp
    obtain rfl := Option.some.inj (ho.symm.trans ho')
    obtain ⟨r, hr, he⟩ := List.mem_iff_getElem.1 (h3 j hj)
    have hrp : r < p := by rw [List.length_take] at hr; omega
    refine ⟨r, hrp, ?_⟩
    rw [List.getElem_take] at he
    rw [List.getElem?_eq_getElem (by rw [List.length_take] at hr; omega), he]
  · have h3 := (hB p k hp).2 r hlt
    rw [getD_of hr] at h3
    unfold okPair at h3
    rw [hi, hk] at h3
    simp only [Bool.and_eq_true, Bool.or_eq_true, bne_iff_ne] at h3
    refine ⟨h3.1, h3.2.imp id fun h4 => ⟨h4.1.1, fun t ht => ?_, fun t ht => ?_⟩⟩
    · have h5 := h4.1.2
      rw [ht] at h5
      simp only [Bool.and_eq_true, Bool.not_eq_true', bne_iff_ne] at h5
      exact ⟨fun hc => (by rw [List.contains_iff_mem.2 hc] at h5; exact nomatch h5.1), h5.2⟩
    · have h5 := h4.2
      rw [ht] at h5
      simp only [Bool.not_eq_true'] at h5
      exact fun hc => by rw [List.contains_iff_mem.2 hc] at h5; exact nomatch h5
section
variable {P : Program} {nt : Nat} {ops : Array Oper}
theorem compOs_at : ∀ {l : List Oper} {os : List O}, compOs P nt ops l = some os → os.length = l.length ∧ ∀ (i : Nat) (o : Oper), l[i]? = some o → ∃ x, os[i]? = some x ∧ compO P nt ops o = some x
  | [], os, h => by obtain rfl := Option.some.inj h; exact ⟨rfl, fun i o h => by simp at h⟩
  | o :: l, os, h => by
    unfold compOs at h
    split at h
    · rename_i x xs hx hxs
      obtain rfl := Option.some.inj h
      obtain ⟨h1, h2⟩ := compOs_at hxs
      refine ⟨by simp [h1], fun i o' ho => ?_⟩
      cases i with
      | zero => obtain rfl : o = o' := by simpa using ho
                exact ⟨x, rfl, hx⟩
      | succ i => simpa using h2 i o' (by simpa using ho)
    · exact nomatch h
end
theorem dsOf_at {ks pre π : List Nat} {ops : Array Oper} {os : List O} {p i : Nat} {o : Oper} {x : O} (hp : π[p]? = some i) (ho : ops[i]? = some o) (hx : os[i]? = some x) :
    (dsOf ks pre ops os π)[p]? = some { m := kindD ks pre π p, id := i, cs := lateOf ks pre π p, us := (o.looksAt ops).map pa, o := x } := by
  unfold dsOf
  rw [List.getElem?_map, List.getElem?_range (lt_of_at hp)]
  simp only [Option.map_some, getD_of hp, ho, hx, Option.getD_some]
theorem dsOf_length (ks pre π : List Nat) (ops : Array Oper) (os : List O) : (dsOf ks pre ops os π).length = π.length := by simp [dsOf]
theorem kindD_eq {ks pre π : List Nat} {p i : Nat} (hp : π[p]? = some i) : kindD ks pre π p = if ks.getD i 3 = 2 then (if (lateOf ks pre π p).isEmpty then 2 else 3) else if ks.getD i 3 = 4 then 4
    else if ks.getD i 3 = 1 && (List.range π.length).any (fun r => ks.getD (π.getD r 0) 0 == 2 && (lateOf ks pre π r).contains i) then 1 else 0 := by
  unfold kindD
  rw [getD_of hp]
theorem mem_late {ks pre π : List Nat} {r p i k : Nat} (hlt : r < p) (hr : π[r]? = some i) (hp : π[p]? = some k) (hi : ks.getD i 0 = 1) (hb : ¬ Bit pre k i) : i ∈ lateOf ks pre π p := by
  unfold lateOf
  rw [List.mem_filter, getD_of hp]
  refine ⟨List.mem_iff_getElem?.2 ⟨r, by rw [List.getElem?_take, if_pos hlt, hr]⟩, ?_⟩
  rw [hi]
  have : (pre.getD k 0).testBit i = false := by
    cases h : (pre.getD k 0).testBit i with
    | false => rfl
    | true => exact absurd h hb
  rw [this]; rfl
def Sees (call : Callee) (ops : Array Oper) (x : O) (o : Oper) (tm : Tr V) (v : V) (s : St) : Prop := ∃ s', oneV x.i.go call (pickT ((o.looksAt ops).map pa) tm) s = some (.ret v, s')
noncomputable def Wants (ops : Array Oper) (x : O) (o : Oper) (tm : Tr V) : Bool := wantedV (pickT ((o.looksAt ops).map pa) tm) x.g
def Turned (call : Callee) (ops : Array Oper) (x : O) (o : Oper) (tm : Tr V) (c : CR) (s s2 : St) : Prop :=
  oneV x.i.go call (pickT ((o.looksAt ops).map pa) tm) s = some (c, s2) ∨ ∃ s', oneV x.i.go call (pickT ((o.looksAt ops).map pa) tm) s.fresh = some (c, s') ∧ s2 = s.after s'
structure Ran (call : Callee) (ops : Array Oper) (os : List O) (ks pre π : List Nat) (tm0 : Tr V) (st0 : St) (N : Nat) (S : Nat → St) (v : Nat → V) (tmv : Nat → Tr V) : Prop where
  zero : S 0 = st0
  tm0 : tmv 0 = tm0
  le : N ≤ π.length
  slot : ∀ (p i : Nat) x, p < N → π[p]? = some i → os[i]? = some x → tmv (p + 1) = putT (tmv p) x.d (v p)
  off : ∀ (p i : Nat) x o, p < N → π[p]? = some i → ops[i]? = some o → os[i]? = some x → Wants ops x o (tmv p) = false → v p = .undef ∧ S (p + 1) = S p
  quiet : ∀ (p i : Nat) x o, p < N → π[p]? = some i → ops[i]? = some o → os[i]? = some x → ks.getD i 0 = 0 ∨ ks.getD i 0 = 1 → Wants ops x o (tmv p) = true → S (p + 1) = S p ∧ Sees call ops x o (tmv p) (v p) (S p)
  soft : ∀ (p i : Nat) x o, p < N → π[p]? = some i → ops[i]? = some o → os[i]? = some x → ks.getD i 0 = 4 → Wants ops x o (tmv p) = true → oneV x.i.go call (pickT ((o.looksAt ops).map pa) (tmv p)) (S p) = some (.ret (v p), S (p + 1))
  hard : ∀ (p i : Nat) x o, p < N → π[p]? = some i → ops[i]? = some o → os[i]? = some x → ks.getD i 0 = 2 → Wants ops x o (tmv p) = true →
    (oneV x.i.go call (pickT ((o.looksAt ops).map pa) (tmv p)) (S p) = some (.ret (v p), S (p + 1)) ∧ ∀ (r k : Nat), r < p → π[r]? = some k → ks.getD k 0 = 1 → Bit pre i k) ∨
    ∃ s', oneV x.i.go call (pickT ((o.looksAt ops).map pa) (tmv p)) (S p).fresh = some (.ret (v p), s') ∧ S (p + 1) = (S p).after s' ∧ ((S p).next ≤ s'.low ∨
      ∀ (r k : Nat) xk ok, r < p → π[r]? = some k → ops[k]? = some ok → os[k]? = some xk → ks.getD k 0 = 1 → ¬ Bit pre i k → Wants ops xk ok (tmv r) = true → Sees call ops xk ok (tmv r) (v r) (S (p + 1)))
def RanEnds (call : Callee) (ops : Array Oper) (os : List O) (ks π : List Nat) (r : DR) (N : Nat) (S : Nat → St) (tmv : Nat → Tr V) : Prop :=
  (N = π.length ∧ r = .nrm (tmv N) (S N)) ∨ ∃ (i : Nat) (x : O) (o : Oper) (u : V) (s' : St), π[N]? = some i ∧ ops[i]? = some o ∧ os[i]? = some x ∧ r = .pan u s' ∧ ks.getD i 0 = 2 ∧ Wants ops x o (tmv N) = true ∧ Turned call ops x o (tmv N) (.pan u) (S N) s'
theorem ran_of {P : Program} {nt : Nat} {ops : Array Oper} {os : List O} (hos : compOs P nt ops ops.toList = some os) {ks pre π : List Nat} (hks : ks = os.map fun x => kindI x.i) (hf : Facts ops ks pre π)
    (hcls : ∀ (i : Nat) x, os[i]? = some x → i < ops.size → ∃ o, Cls P o x.i) {call : Callee} {tm0 : Tr V} {st0 : St} {r : DR}
    (h : evD (dsOf ks pre ops os π) call tm0 st0 [] = some r) : ∃ N S v tmv, Ran call ops os ks pre π tm0 st0 N S v tmv ∧ RanEnds call ops os ks π r N S tmv := by
  obtain ⟨N, tmv, S, rv, v, h1, h2, h3, h4, h5, h6⟩ := trace call _ _ _ _ _ h
  rw [dsOf_length] at h4
  have hlen : os.length = ops.size := by rw [(compOs_at hos).1]; simp
  have hk3 : ∀ i, i < ops.size → ks.getD i 3 = ks.getD i 0 := fun i hi => by
    rw [List.getD_eq_getElem?_getD, List.getD_eq_getElem?_getD, List.getElem?_eq_getElem (by rw [hks, List.length_map]; omega)]; rfl
  have hkx : ∀ (i : Nat) x, os[i]? = some x → ks.getD i 0 = kindI x.i := fun i x hx => by rw [hks, List.getD_eq_getElem?_getD, List.getElem?_map, hx]; rfl
  have hstep : ∀ (p i : Nat) x o, p < N → π[p]? = some i → ops[i]? = some o → os[i]? = some x → StepAt call { m := kindD ks pre π p, id := i, cs := lateOf ks pre π p, us := (o.looksAt ops).map pa, o := x } (tmv p) (S p) (rv p) (v p) (tmv (p + 1)) (S (p + 1)) (rv (p + 1)) :=
    fun p i x o hp hi ho hx => h6 p _ hp (dsOf_at hi ho hx)
  have hkd : ∀ (p i : Nat), π[p]? = some i → (ks.getD i 0 = 2 → kindD ks pre π p = 2 ∧ lateOf ks pre π p = [] ∨ kindD ks pre π p = 3) ∧ (ks.getD i 0 = 4 → kindD ks pre π p = 4) ∧ (ks.getD i 0 = 0 ∨ ks.getD i 0 = 1 → kindD ks pre π p = 0 ∨ kindD ks pre π p = 1) := fun p i hp => by
    have hi := hf.range p i hp
    have e := kindD_eq (ks := ks) (pre := pre) hp
    rw [hk3 i hi] at e
    refine ⟨fun hk => ?_, fun hk => ?_, fun hk => ?_⟩
    · rw [if_pos hk] at e
      cases hl : (lateOf ks pre π p) with
      | nil => rw [hl] at e; exact .inl ⟨e, rfl⟩
      | cons y l => rw [hl] at e; exact .inr e
    · rw [if_neg (by omega), if_pos hk] at e; exact e
    · rw [if_neg (by omega), if_neg (by omega)] at e
      rw [e]; split
      · exact .inr rfl
      · exact .inl rfl
  have hrem : ∀ p, p ≤ N → ∀ (r k : Nat) xk ok, r < p → π[r]? = some k → ops[k]? = some ok → os[k]? = some xk → kindD ks pre π r = 1 → Wants ops xk ok (tmv r) = true → (k, fun s' => seesV (v r) (oneV xk.i.go call (pickT ((ok.looksAt ops).map pa) (tmv r)) s')) ∈ rv p := by
    intro p
    induction p with
    | zero => intro _ r k xk ok hr; exact absurd hr (Nat.not_lt_zero _)
    | succ p ih =>
      intro hp r k xk ok hr hk ho hx hm hw
      by_cases e : r = p
      · subst e
        exact (hstep r k xk ok (by omega) hk ho hx).remember hw hm
      · obtain ⟨i, hi⟩ : ∃ i, π[p]? = some i := ⟨_, List.getElem?_eq_getElem (by omega)⟩
        have hil := hf.range p i hi
        exact (hstep p i _ _ (by omega) hi (Array.getElem?_eq_getElem hil) (List.getElem?_eq_getElem (by omega))).more _ (ih (by omega) r k xk ok (by omega) hk ho hx hm hw)
  refine ⟨N, S, v, tmv, ⟨h2, h1, h4, fun p i x hp hi hx => ?_, fun p i x o hp hi ho hx hw => (hstep p i x o hp hi ho hx).off hw, fun p i x o hp hi ho hx hk hw => (hstep p i x o hp hi ho hx).quiet hw ((hkd p i hi).2.2 hk), fun p i x o hp hi ho hx hk hw => ?_, fun p i x o hp hi ho hx hk hw => ?_⟩, ?_⟩
  · have hil := hf.range p i hi
    exact (hstep p i x _ hp hi (Array.getElem?_eq_getElem hil) hx).slot
  · have hm := (hkd p i hi).2.1 hk
    exact (hstep p i x o hp hi ho hx).plain hw (fun e => absurd (hm.symm.trans e) (by decide)) (fun e => absurd (hm.symm.trans e) (by decide)) (fun e => absurd (hm.symm.trans e) (by decide))
  · rcases (hkd p i hi).1 hk with ⟨hm, hnil⟩ | hm3
    · refine .inl ⟨(hstep p i x o hp hi ho hx).plain hw (fun e => absurd (hm.symm.trans e) (by decide)) (fun e => absurd (hm.symm.trans e) (by decide)) (fun e => absurd (hm.symm.trans e) (by decide)), fun r k hr hk' hk1 => ?_⟩
      refine Classical.byContradiction fun hnb => ?_
      have hin := mem_late (ks := ks) hr hk' hi hk1 hnb
      rw [hnil] at hin; exact nomatch hin
    obtain ⟨s', e1, e2, e3⟩ := (hstep p i x o hp hi ho hx).checked hw hm3
    refine .inr ⟨s', e1, e2, e3.imp id fun e3 r k xk ok hr hk' hok hxk hk1 hnb hwk => ?_⟩
    have hin := mem_late (ks := ks) hr hk' hi hk1 hnb
    have hm1 : kindD ks pre π r = 1 := by
      have hkl := hf.range r k hk'
      have e := kindD_eq (ks := ks) (pre := pre) hk'
      rw [hk3 k hkl, if_neg (by omega), if_neg (by omega), if_pos] at e
      · exact e
      · rw [hk1]
        simp only [decide_true, Bool.true_and, List.any_eq_true, List.mem_range, Bool.and_eq_true, beq_iff_eq]
        exact ⟨p, lt_of_at hi, by rw [getD_of hi]; exact hk, List.contains_iff_mem.2 hin⟩
    obtain ⟨s'', e4⟩ := sees_some (seeAll_at e3 _ (hrem p (by omega) r k xk ok hr hk' hok hxk hm1 hwk) hin)
    exact ⟨s'', e4⟩
  · rcases h5 with ⟨e1, e2⟩ | ⟨d, u, s', e1, e2, e3⟩
    · exact .inl ⟨by rw [e1, dsOf_length], e2⟩
    · right
      have hN : N < π.length := by have := lt_of_at e1; rwa [dsOf_length] at this
      have hi : π[N]? = some π[N] := List.getElem?_eq_getElem hN
      have hil := hf.range N _ hi
      have ho : ops[π[N]]? = some ops[π[N]] := Array.getElem?_eq_getElem hil
      have hx : os[π[N]]? = some os[π[N]] := List.getElem?_eq_getElem (by omega)
      rw [dsOf_at hi ho hx] at e1
      obtain rfl := Option.some.inj e1
      obtain ⟨hw, hm0, hm1, hrun⟩ := e3
      have hk2 : ks.getD π[N] 0 = 2 := by
        have h3k := hf.kind _ hil
        rw [hk3 _ hil] at h3k
        rcases Nat.lt_or_ge (ks.getD π[N] 0) 2 with h7 | h7
        · have := (hkd N _ hi).2.2 (by omega)
          exact absurd this (by simp only at hm0 hm1; omega)
        · by_cases h8 : ks.getD π[N] 0 = 2
          · exact h8
          · exfalso
            obtain ⟨o', hcl⟩ := hcls _ _ hx hil
            have h9 := hkx _ _ hx
            have h10 : kindI os[π[N]].i ≤ 4 := by cases os[π[N]].i <;> simp only [kindI] <;> (try split) <;> (try split) <;> omega
            have h11 : kindI os[π[N]].i = 4 := by omega
            obtain ⟨f, hgo, _⟩ := cls_soft hcl h11
            rcases hrun with ⟨_, s1, e4, _⟩ | ⟨_, e4⟩
            · obtain ⟨v', e5, _⟩ := oneV_loud hgo e4; exact nomatch e5
            · obtain ⟨v', e5, _⟩ := oneV_loud hgo e4; exact nomatch e5
      refine ⟨_, _, _, u, s', hi, ho, hx, e2, hk2, hw, ?_⟩
      rcases hrun with ⟨_, s1, e4, e5⟩ | ⟨_, e4⟩
      · exact .inr ⟨s1, e4, e5⟩
      · exact .inl e4
end Go.Proofs.YtnebopkgnkemiaaGreatDoor.Av
namespace Go.Proofs.YtnebopkgnkemiaaGreatDoor.Av
set_option linter.unusedVariables false
set_option linter.unusedSimpArgs false
open Go Go.RowKit
def Sub (s s' : St) : Prop := ∀ o b, s.mem.get o = some b → s'.mem.get o = some b
theorem Sub.refl (s : St) : Sub s s := fun _ _ h => h
theorem Sub.trans {a b c : St} (h : Sub a b) (h' : Sub b c) : Sub a c := fun o x hx => h' o x (h o x hx)
section
variable {P : Program} {base nt : Nat} {dl : List Deferred} {call : Callee} {ops : Array Oper} {os : List O} {ks pre π : List Nat} {tm0 : Tr V} {st0 : St} {N : Nat} {S : Nat → St} {v : Nat → V} {tmv : Nat → Tr V} {ρ0 : Map} {w0 : World}
theorem Rel.sub {ρ : Map} {s s' : St} {w : World} (h : Rel P base ρ s w) (hs : Sub s' s) : Rel P base ρ { next := s.next, low := s'.low, mem := s'.mem } w :=
  ⟨fun o b hb => h.obj o b (hs o b hb), fun o o' b b' hl hl' hb hb' => h.sep o o' b b' hl hl' (hs o b hb) (hs o' b' hb'), fun o b hl hb => h.base o b hl (hs o b hb), h.glob,
    fun b x hx => ⟨(h.fz b x hx).1, (h.fz b x hx).2.1, fun o ob hl hg => (h.fz b x hx).2.2 o ob hl (hs o ob hg)⟩, fun b x hx => ⟨(h.kp b x hx).1, fun o ob hl hg => (h.kp b x hx).2 o ob hl (hs o ob hg)⟩⟩
def Pl.dead : Pl := ⟨0, 0, 0, 0, false⟩
theorem Rel.ghost {ρ : Map} {s : St} {w : World} (h : Rel P base ρ s w) (b : Ob) : Rel P base (ρ.new s.next .dead) (s.new b) w := by
  have hne : ∀ o, ((ρ.new s.next .dead) o).live = true → o ≠ s.next := fun o hl e => by rw [e, Map.new_same] at hl; exact nomatch hl
  have fzk : ∀ b1, (∀ k ob, (ρ k).live = true → s.mem.get k = some ob → ob.own = true → (ρ k).b ≠ b1) →
      ∀ k ob, ((ρ.new s.next .dead) k).live = true → (s.new b).mem.get k = some ob → ob.own = true → ((ρ.new s.next .dead) k).b ≠ b1 := fun b1 h2 k ob hl hk ho => by
    have e := hne k hl
    rw [new_get, if_neg e] at hk
    rw [Map.new_ne _ _ e] at hl ⊢
    exact h2 k ob hl hk ho
  refine ⟨fun o c hc => ?_, fun o o' c c' hl hl' hc hc' hn ho => ?_, fun o c hl hc ho => ?_, ⟨by rw [new_next]; have := h.glob.1; omega, fun g hg => by rw [Map.new_ne _ _ (by have := h.glob.1; omega)]; exact h.glob.2 g hg⟩,
    fun b' x' hx => ⟨(h.fz b' x' hx).1, (h.fz b' x' hx).2.1, fzk b' (h.fz b' x' hx).2.2⟩, fun b' x' hx => ⟨(h.kp b' x' hx).1, fzk b' (h.kp b' x' hx).2⟩⟩
  · rw [new_get] at hc
    by_cases e : o = s.next
    · exact ⟨by rw [new_next]; omega, fun hl => absurd e (hne o hl)⟩
    · rw [if_neg e] at hc
      obtain ⟨h1, h2⟩ := h.obj o c hc
      refine ⟨by rw [new_next]; omega, ?_⟩
      rw [Map.new_ne _ _ e]
      exact fun hl => (h2 hl).mono (Map.new_ext _ _ _) (by rw [new_next]; omega) rfl
  · have e := hne o hl
    have e' := hne o' hl'
    rw [new_get, if_neg e] at hc
    rw [new_get, if_neg e'] at hc'
    rw [Map.new_ne _ _ e] at hl ⊢
    rw [Map.new_ne _ _ e'] at hl' ⊢
    exact h.sep o o' c c' hl hl' hc hc' hn ho
  · have e := hne o hl
    rw [new_get, if_neg e] at hc
    rw [Map.new_ne _ _ e] at hl ⊢
    exact h.base o c hl hc ho
theorem Rel.alive {ρ : Map} {s : St} {w : World} (h : Rel P base ρ s w) (hb : base ≤ w.heap.size) {k : Nat} (hk : k < s.next) (hd : (ρ k).live = false) {b : Ob} (hg : s.mem.get k = some b) {x : Obj} {p : Pl} (hp : p.b = w.heap.size)
    (ho : OR P ρ s.next { w with heap := w.heap.push x } p b) : Rel P base (ρ.new k p) s { w with heap := w.heap.push x } := by
  have hext : Ext ρ (ρ.new k p) s.next := ⟨fun o _ hl => Map.new_ne _ _ fun e => by rw [e, hd] at hl; exact (nomatch hl), fun _ _ h => h, fun _ _ h => h⟩
  have fzk : ∀ b1 x', w.heap[b1]? = some x' → (∀ o ob, (ρ o).live = true → s.mem.get o = some ob → ob.own = true → (ρ o).b ≠ b1) →
      (({ w with heap := w.heap.push x } : World).heap[b1]? = some x' ∧ ∀ o ob, ((ρ.new k p) o).live = true → s.mem.get o = some ob → ob.own = true → ((ρ.new k p) o).b ≠ b1) := fun b1 x' h1 h2 => by
    have hlt := (Array.getElem?_eq_some_iff.1 h1).1
    refine ⟨(push_old w x hlt).trans h1, fun o ob hl hg' ho => ?_⟩
    by_cases e : o = k
    · rw [e, Map.new_same, hp]; omega
    · rw [Map.new_ne _ _ e] at hl ⊢
      exact h2 o ob hl hg' ho
  refine ⟨fun o c hc => ?_, fun o o' c c' hl hl' hc hc' hn hown => ?_, fun o c hl hc hown => ?_, ⟨h.glob.1, fun g hgl => ?_⟩,
    fun b' x' hx => ⟨(fzk b' x' (h.fz b' x' hx).1 (h.fz b' x' hx).2.2).1, (h.fz b' x' hx).2.1, (fzk b' x' (h.fz b' x' hx).1 (h.fz b' x' hx).2.2).2⟩,
    fun b' x' hx => fzk b' x' (h.kp b' x' hx).1 (h.kp b' x' hx).2⟩
  · refine ⟨(h.obj o c hc).1, fun hl => ?_⟩
    by_cases e : o = k
    · subst e
      rw [hg] at hc
      obtain rfl := Option.some.inj hc
      rw [Map.new_same]
      exact ho.mono hext (Nat.le_refl _) rfl
    · rw [Map.new_ne _ _ e] at hl ⊢
      have h1 := (h.obj o c hc).2 hl
      exact h1.mono hext (Nat.le_refl _) (push_old w x h1.lt)
  · by_cases e : o = k
    · have e' : o' ≠ k := fun e' => hn (by omega)
      rw [Map.new_ne _ _ e'] at hl'
      rw [e, Map.new_same, Map.new_ne _ _ e', hp]
      have := ((h.obj o' c' hc').2 hl').lt
      omega
    · rw [Map.new_ne _ _ e] at hl ⊢
      by_cases e' : o' = k
      · rw [e', Map.new_same, hp]
        have := ((h.obj o c hc).2 hl).lt
        omega
      · rw [Map.new_ne _ _ e'] at hl' ⊢
        exact h.sep o o' c c' hl hl' hc hc' hn hown
  · by_cases e : o = k
    · rw [e, Map.new_same, hp]; exact hb
    · rw [Map.new_ne _ _ e] at hl ⊢
      exact h.base o c hl hc hown
  · have h1 := h.glob.2 g hgl
    rw [Map.new_ne _ _ fun e => by rw [← e, h1.2.2] at hd; exact nomatch hd]
    exact h1
structure InvW (P : Program) (base : Nat) (call : Callee) (ops : Array Oper) (os : List O) (ks pre π : List Nat) (st0 : St) (N : Nat) (S : Nat → St) (v : Nat → V) (tmv : Nat → Tr V) (ρ0 : Map) (w0 : World) (D : Nat → Bool) (q : Nat) (ρ : Map) (w : World) : Prop where
  le : q ≤ N
  early : ∀ (p i : Nat), q ≤ p → π[p]? = some i → D i = false
  hard : ∀ (p i : Nat), p < q → π[p]? = some i → ks.getD i 0 = 2 → D i = true
  closed : ∀ (k : Nat) o, ops[k]? = some o → D k = true → ∀ j, EdgeTo o j → D j = true
  start : Now P base ρ0 st0 w0 ρ (S q) w
  mono : ∀ p p', p ≤ p' → p' ≤ q → (S p).next ≤ (S p').next
  ghost : ∀ (p i : Nat) x o, p < q → π[p]? = some i → ops[i]? = some o → os[i]? = some x → ks.getD i 0 = 4 → D i = false → Wants ops x o (tmv p) = true →
    (ρ (S p).next).live = false ∧ (S p).next + 1 = (S (p + 1)).next ∧ (S q).mem.get (S p).next = (S (p + 1)).mem.get (S p).next
  read : ∀ (p i : Nat) x o, p < q → π[p]? = some i → ops[i]? = some o → os[i]? = some x → ks.getD i 0 = 1 → D i = false → Wants ops x o (tmv p) = true → ∃ T, Sub T (S q) ∧ Sees call ops x o (tmv p) (v p) T
structure InvS (ops : Array Oper) (nt : Nat) (dl : List Deferred) (π : List Nat) (tm0 : Tr V) (v : Nat → V) (D : Nat → Bool) (ρ : Map) (n : Nat) (a : Act) : Prop where
  nod : a.defers = dl
  size : nt ≤ a.tmps.size
  last : ∀ (t p i : Nat) o, π[p]? = some i → ops[i]? = some o → D i = true → o.dst = some t → (∀ (p' i' : Nat) o', π[p']? = some i' → ops[i']? = some o' → D i' = true → o'.dst = some t → p' ≤ p) → VR ρ n (v p) (a.tmps.getD t Go.undef)
  non : ∀ t, (∀ (k : Nat) o, ops[k]? = some o → D k = true → o.dst ≠ some t) → VR ρ n ((tm0.at (pa t)).getD .undef) (a.tmps.getD t Go.undef)
theorem InvS.mono {D : Nat → Bool} {ρ ρ' : Map} {n n' : Nat} {a : Act} (h : InvS ops nt dl π tm0 v D ρ n a) (he : Ext ρ ρ' n) (hn : n ≤ n') : InvS ops nt dl π tm0 v D ρ' n' a :=
  ⟨h.nod, h.size, fun t p i o h1 h2 h3 h4 h5 => (h.last t p i o h1 h2 h3 h4 h5).mono he hn, fun t h1 => (h.non t h1).mono he hn⟩
theorem bit_closed (hf : Facts ops ks (pres ops.toList []) π) {D : Nat → Bool} (hcl : ∀ (k : Nat) o, ops[k]? = some o → D k = true → ∀ j, EdgeTo o j → D j = true) :
    ∀ (i : Nat) (o : Oper) (k : Nat), ops[i]? = some o → (∀ j, EdgeTo o j → D j = true) → Bit (pres ops.toList []) i k → D k = true := by
  intro i
  induction i using Nat.strongRecOn with
  | _ i ih =>
    intro o k ho he hb
    obtain ⟨j, h1, h2⟩ := bit_step ho (hf.edge i o ho) hb
    rcases h2 with rfl | h2
    · exact he j h1
    · have hlt := hf.edge i o ho j h1
      have hi := (Array.getElem?_eq_some_iff.1 ho).1
      have hj : ops[j]? = some ops[j] := Array.getElem?_eq_getElem (by omega)
      exact ih j hlt _ k hj (hcl j _ hj (he j h1)) h2
theorem inj_at (hf : Facts ops ks pre π) {r p i : Nat} (hr : π[r]? = some i) (hp : π[p]? = some i) : r = p := by
  have key : ∀ {r p : Nat}, r < p → π[r]? = some i → π[p]? = some i → False := fun {r p} hlt hr hp => by
    have hi := hf.range p i hp
    exact (hf.pair r p i i _ _ hlt hr hp (Array.getElem?_eq_getElem hi) (Array.getElem?_eq_getElem hi)).1 rfl
  rcases Nat.lt_trichotomy r p with h | h | h
  · exact (key h hr hp).elim
  · exact h
  · exact (key h hp hr).elim
theorem tm_last (hos : compOs P nt ops ops.toList = some os) (hf : Facts ops ks pre π) (R : Ran call ops os ks pre π tm0 st0 N S v tmv) : ∀ p, p ≤ N → ∀ t,
    (∀ (r i : Nat) o, r < p → π[r]? = some i → ops[i]? = some o → o.dst = some t → (∀ (r' i' : Nat) o', r < r' → r' < p → π[r']? = some i' → ops[i']? = some o' → o'.dst ≠ some t) → (tmv p).at (pa t) = some (v r)) ∧
    ((∀ (r i : Nat) o, r < p → π[r]? = some i → ops[i]? = some o → o.dst ≠ some t) → (tmv p).at (pa t) = tm0.at (pa t)) := by
  intro p
  induction p with
  | zero => intro _ t; exact ⟨fun r i o hr => absurd hr (Nat.not_lt_zero _), fun _ => by rw [R.tm0]⟩
  | succ p ih =>
    intro hp t
    obtain ⟨ih1, ih2⟩ := ih (by omega) t
    have hpl : p < π.length := Nat.lt_of_lt_of_le hp R.le
    have hi : π[p]? = some π[p] := List.getElem?_eq_getElem hpl
    have hil := hf.range p _ hi
    have ho : ops[π[p]]? = some ops[π[p]] := Array.getElem?_eq_getElem hil
    obtain ⟨x, hx, hcx⟩ := (compOs_at hos).2 π[p] ops[π[p]] (by simp)
    obtain ⟨_, hxd, _, _⟩ := compO_inv hcx
    have hs := R.slot p _ x hp hi hx
    rw [hs, hxd]
    have hne : ops[π[p]].dst ≠ some t → (putT (tmv p) (ops[π[p]].dst.map pa) (v p)).at (pa t) = (tmv p).at (pa t) := fun h => by
      cases hd : ops[π[p]].dst with
      | none => rfl
      | some d => exact at_to_ne _ _ fun e => h (by rw [hd, pa_inj e])
    refine ⟨fun r i o hr hri hoi hd hl => ?_, fun h => ?_⟩
    · by_cases e : r = p
      · subst e
        obtain rfl := Option.some.inj (hi.symm.trans hri)
        obtain rfl := Option.some.inj (ho.symm.trans hoi)
        rw [hd]
        exact at_to_same _ _ _
      · rw [hne (hl p _ _ (by omega) (by omega) hi ho)]
        exact ih1 r i o (by omega) hri hoi hd fun r' i' o' h1 h2 => hl r' i' o' h1 (by omega)
    · rw [hne (h p _ _ (by omega) hi ho)]
      exact ih2 fun r i o hr => h r i o (by omega)
section inv
variable {D : Nat → Bool} {q : Nat} {ρ : Map} {a : Act} {w : World} {n : Nat}
theorem InvS.slots (hos : compOs P nt ops ops.toList = some os) (hf : Facts ops ks (pres ops.toList []) π) (R : Ran call ops os ks (pres ops.toList []) π tm0 st0 N S v tmv)
    (hcl : ∀ (k : Nat) o, ops[k]? = some o → D k = true → ∀ j, EdgeTo o j → D j = true) (inv : InvS ops nt dl π tm0 v D ρ n a) {p i : Nat} {o : Oper} (hpN : p ≤ N) (hp : π[p]? = some i) (ho : ops[i]? = some o) (hD : D i = false) (hr : ∀ j, EdgeTo o j → D j = true) {t : Nat} (ht : t ∈ o.looksAt ops) :
    VR ρ n (((tmv p).at (pa t)).getD .undef) (a.tmps.getD t Go.undef) := by
  obtain ⟨h1, h2⟩ := tm_last hos hf R p hpN t
  have hlater : ∀ (p' i' : Nat) o', π[p']? = some i' → ops[i']? = some o' → D i' = true → o'.dst = some t → p' < p := fun p' i' o' hp' ho' hD' hd => by
    rcases Nat.lt_trichotomy p' p with h | h | h
    · exact h
    · subst h
      obtain rfl := Option.some.inj (hp.symm.trans hp')
      rw [hD] at hD'; exact nomatch hD'
    · exfalso
      rcases (hf.pair p p' i i' o o' h hp hp' ho ho').2 with hb | ⟨_, _, h4⟩
      · have := bit_closed hf hcl i' o' i ho' (hcl i' o' ho' hD') hb
        rw [hD] at this; exact nomatch this
      · exact h4 t hd ht
  rcases last_or_none (fun r => ∃ i' o', π[r]? = some i' ∧ ops[i']? = some o' ∧ o'.dst = some t) p with hn | ⟨r, hrp, ⟨k, ok, hk, hok, hd⟩, hl⟩
  · rw [h2 fun r i' o' hr' hi' ho' hd => hn r hr' ⟨i', o', hi', ho', hd⟩]
    refine inv.non t fun k ok hok hDk hd => ?_
    obtain ⟨p', hp'⟩ := hf.cover k (Array.getElem?_eq_some_iff.1 hok).1
    exact hn p' (hlater p' k ok hp' hok hDk hd) ⟨k, ok, hp', hok, hd⟩
  · rw [h1 r k ok hrp hk hok hd fun r' i' o' h3 h4 h5 h6 h7 => hl r' h3 h4 ⟨i', o', h5, h6, h7⟩]
    have hDk : D k = true := by
      rcases (hf.pair r p k i ok o hrp hk hp hok ho).2 with hb | ⟨_, h3, _⟩
      · exact bit_closed hf hcl i o k ho hr hb
      · exact absurd ht (h3 t hd).1
    refine inv.last t r k ok hk hok hDk hd fun p' i' o' hp' ho' hD' hd' => ?_
    have h3 := hlater p' i' o' hp' ho' hD' hd'
    rcases Nat.lt_or_ge r p' with h4 | h4
    · exact absurd ⟨i', o', hp', ho', hd'⟩ (hl p' h4 h3)
    · exact h4
theorem InvS.put (hf : Facts ops ks (pres ops.toList []) π) (hcl : ∀ (k : Nat) o, ops[k]? = some o → D k = true → ∀ j, EdgeTo o j → D j = true) (inv : InvS ops nt dl π tm0 v D ρ n a) {p i : Nat} {o : Oper} (hp : π[p]? = some i) (ho : ops[i]? = some o) (hdn : ∀ t, o.dst = some t → t < nt) (hD : D i = false)
    {v' : Value} (hv : VR ρ n (v p) v') : InvS ops nt dl π tm0 v (fun k => D k || k == i) ρ n (a.put o.dst v') := by
  have hput : ∀ t, o.dst = some t → (a.put o.dst v').tmps.getD t Go.undef = v' := fun t ht => by
    rw [ht]
    have : t < a.tmps.size := Nat.lt_of_lt_of_le (hdn t ht) inv.size
    simp [Act.put, Array.getD, this]
  have hput' : ∀ t, o.dst ≠ some t → (a.put o.dst v').tmps.getD t Go.undef = a.tmps.getD t Go.undef := fun t ht => by
    cases hd : o.dst with
    | none => rfl
    | some d =>
      have hne : d ≠ t := fun e => ht (by rw [hd, e])
      simp only [Act.put, Array.getD_eq_getD_getElem?, Array.getElem?_setIfInBounds_ne hne]
  have hor : ∀ k, (D k || k == i) = true → k ≠ i → D k = true := fun k h hne => by
    rw [Bool.or_eq_true] at h
    exact h.resolve_right (by simpa using hne)
  refine ⟨put_nod inv.nod _ _, by cases o.dst <;> simpa [Act.put] using inv.size, fun t r k ok hr hok hk hd hlast => ?_, fun t hn => ?_⟩
  · by_cases hdi : o.dst = some t
    · rw [hput t hdi]
      by_cases e : k = i
      · subst e
        rw [inj_at hf hr hp]; exact hv
      · exfalso
        have hpr := hlast p i o hp ho (by simp) hdi
        have hDk := hor k hk e
        have hne : p ≠ r := fun e' => e (by subst e'; exact Option.some.inj (hr.symm.trans hp))
        rcases (hf.pair p r i k o ok (by omega) hp hr ho hok).2 with hb | ⟨_, h3, _⟩
        · have := bit_closed hf hcl k ok i hok (hcl k ok hok hDk) hb
          rw [hD] at this; exact nomatch this
        · exact (h3 t hdi).2 hd
    · rw [hput' t hdi]
      have e : k ≠ i := fun e => by
        subst e
        obtain rfl := Option.some.inj (ho.symm.trans hok)
        exact hdi hd
      exact inv.last t r k ok hr hok (hor k hk e) hd fun p' i' o' h1 h2 h3 h4 => hlast p' i' o' h1 h2 (by rw [h3]; rfl) h4
  · have hdi : o.dst ≠ some t := hn i o ho (by simp)
    rw [hput' t hdi]
    exact inv.non t fun k ok hok hDk => hn k ok hok (by rw [hDk]; rfl)
theorem InvW.advance (hos : compOs P nt ops ops.toList = some os) (hks : ks = os.map fun x => kindI x.i) (hf : Facts ops ks pre π) (R : Ran call ops os ks pre π tm0 st0 N S v tmv) (inv : InvW P base call ops os ks pre π st0 N S v tmv ρ0 w0 D q ρ w) {i : Nat} (hqN : q < N) (hq : π[q]? = some i) (hk : ks.getD i 0 ≠ 2) :
    ∃ ρ', InvW P base call ops os ks pre π st0 N S v tmv ρ0 w0 D (q + 1) ρ' w ∧ Ext ρ ρ' (S q).next ∧ (S q).next ≤ (S (q + 1)).next := by
  have hil := hf.range q i hq
  have ho : ops[i]? = some ops[i] := Array.getElem?_eq_getElem hil
  have hlen : os.length = ops.size := by rw [(compOs_at hos).1]; simp
  have hx : os[i]? = some os[i] := List.getElem?_eq_getElem (by omega)
  have hkx : ks.getD i 0 = kindI os[i].i := by rw [hks, List.getD_eq_getElem?_getD, List.getElem?_map, hx]; rfl
  have hk3 : ks.getD i 0 ≠ 3 := by
    have := hf.kind i hil
    rwa [show ks.getD i 3 = ks.getD i 0 by rw [List.getD_eq_getElem?_getD, List.getD_eq_getElem?_getD, List.getElem?_eq_getElem (by rw [hks, List.length_map]; omega)]; rfl] at this
  have hk4 : ks.getD i 0 = 0 ∨ ks.getD i 0 = 1 ∨ ks.getD i 0 = 4 := by
    have : kindI os[i].i ≤ 4 := by cases os[i].i <;> simp only [kindI] <;> (try split) <;> (try split) <;> omega
    omega
  have hstay : S (q + 1) = S q → (ks.getD i 0 = 4 → Wants ops os[i] ops[i] (tmv q) = false) → (ks.getD i 0 = 1 → Wants ops os[i] ops[i] (tmv q) = true → Sees call ops os[i] ops[i] (tmv q) (v q) (S q)) →
      ∃ ρ', InvW P base call ops os ks pre π st0 N S v tmv ρ0 w0 D (q + 1) ρ' w ∧ Ext ρ ρ' (S q).next ∧ (S q).next ≤ (S (q + 1)).next := fun he h4 h1 => by
    refine ⟨ρ, ⟨by omega, fun p k hp => inv.early p k (by omega), fun p k hp hpk hk2 => ?_, inv.closed, by rw [he]; exact inv.start, fun p p' h5 h6 => ?_, fun p k x o hp hpk hok hxk hk4' hDk hw => ?_, fun p k x o hp hpk hok hxk hk1 hDk hw => ?_⟩, Ext.refl _ _, by rw [he]; exact Nat.le_refl _⟩
    · by_cases e : p = q
      · subst e; obtain rfl := Option.some.inj (hq.symm.trans hpk); exact absurd hk2 hk
      · exact inv.hard p k (by omega) hpk hk2
    · by_cases e : p' = q + 1
      · subst e
        by_cases e2 : p = q + 1
        · rw [e2]; exact Nat.le_refl _
        · rw [he]; exact inv.mono p q (by omega) (Nat.le_refl _)
      · exact inv.mono p p' h5 (by omega)
    · by_cases e : p = q
      · subst e
        obtain rfl := Option.some.inj (hq.symm.trans hpk)
        obtain rfl := Option.some.inj (ho.symm.trans hok)
        obtain rfl := Option.some.inj (hx.symm.trans hxk)
        rw [h4 hk4'] at hw; exact nomatch hw
      · rw [he]; exact inv.ghost p k x o (by omega) hpk hok hxk hk4' hDk hw
    · by_cases e : p = q
      · subst e
        obtain rfl := Option.some.inj (hq.symm.trans hpk)
        obtain rfl := Option.some.inj (ho.symm.trans hok)
        obtain rfl := Option.some.inj (hx.symm.trans hxk)
        exact ⟨S p, by rw [he]; exact Sub.refl _, h1 hk1 hw⟩
      · rw [he]; exact inv.read p k x o (by omega) hpk hok hxk hk1 hDk hw
  cases hw : Wants ops os[i] ops[i] (tmv q) with
  | false => exact hstay (R.off q i _ _ hqN hq ho hx hw).2 (fun _ => hw) fun _ h => by rw [hw] at h; exact nomatch h
  | true =>
    rcases hk4 with hk0 | hk1 | hk4
    · exact hstay (R.quiet q i _ _ hqN hq ho hx (.inl hk0) hw).1 (fun h => by omega) fun h => by omega
    · obtain ⟨h1, h2⟩ := R.quiet q i _ _ hqN hq ho hx (.inr hk1) hw
      exact hstay h1 (fun h => by omega) fun _ _ => h2
    · obtain ⟨f, hgo, hshape⟩ := soft_ok os[i].i (by omega)
      obtain ⟨u, hu, h1⟩ := oneV_loud hgo (R.soft q i _ _ hqN hq ho hx hk4 hw)
      obtain ⟨r, b, _, hsn, hown, _⟩ := hshape _ _ _ _ h1
      have hnx : (S (q + 1)).next = (S q).next + 1 := by rw [hsn, new_next]
      refine ⟨ρ.new (S q).next .dead, ⟨by omega, fun p k hp => inv.early p k (by omega), fun p k hp hpk hk2 => ?_, inv.closed, ?_, fun p p' h5 h6 => ?_, fun p k x o hp hpk hok hxk hk4' hDk hw' => ?_, fun p k x o hp hpk hok hxk hk1 hDk hw' => ?_⟩, Map.new_ext _ _ _, by omega⟩
      · by_cases e : p = q
        · subst e; obtain rfl := Option.some.inj (hq.symm.trans hpk); exact absurd hk2 hk
        · exact inv.hard p k (by omega) hpk hk2
      · rw [hsn]
        exact inv.start.trans ⟨Map.new_ext _ _ _, inv.start.rel.ghost b, Turn.new _ _, Below.refl _ _, Dead.new _ _ _ _⟩
      · by_cases e : p' = q + 1
        · subst e
          by_cases e2 : p = q + 1
          · rw [e2]; exact Nat.le_refl _
          · have := inv.mono p q (by omega) (Nat.le_refl _); omega
        · exact inv.mono p p' h5 (by omega)
      · by_cases e : p = q
        · subst e
          exact ⟨by rw [Map.new_same]; rfl, hnx.symm, rfl⟩
        · obtain ⟨h5, h6, h7⟩ := inv.ghost p k x o (by omega) hpk hok hxk hk4' hDk hw'
          have h8 := inv.mono (p + 1) q (by omega) (Nat.le_refl _)
          refine ⟨by rw [Map.new_ne _ _ (by omega)]; exact h5, h6, ?_⟩
          rw [hsn, new_get, if_neg (by omega)]; exact h7
      · by_cases e : p = q
        · subst e
          obtain rfl := Option.some.inj (hq.symm.trans hpk)
          omega
        · obtain ⟨T, h5, h6⟩ := inv.read p k x o (by omega) hpk hok hxk hk1 hDk hw'
          refine ⟨T, fun o' b' hb' => ?_, h6⟩
          have h7 := h5 o' b' hb'
          have h8 := (inv.start.rel.obj o' b' h7).1
          rw [hsn, new_get, if_neg (by omega)]; exact h7
theorem InvW.reach (hos : compOs P nt ops ops.toList = some os) (hks : ks = os.map fun x => kindI x.i) (hf : Facts ops ks pre π) (R : Ran call ops os ks pre π tm0 st0 N S v tmv) : ∀ (d q : Nat) (ρ : Map), InvW P base call ops os ks pre π st0 N S v tmv ρ0 w0 D q ρ w → q + d ≤ N →
    (∀ (r k : Nat), q ≤ r → r < q + d → π[r]? = some k → ks.getD k 0 ≠ 2) → ∃ ρ', InvW P base call ops os ks pre π st0 N S v tmv ρ0 w0 D (q + d) ρ' w ∧ Ext ρ ρ' (S q).next ∧ (S q).next ≤ (S (q + d)).next
  | 0, q, ρ, inv, _, _ => ⟨ρ, inv, Ext.refl _ _, Nat.le_refl _⟩
  | d + 1, q, ρ, inv, hN, hh => by
    have hql : q < π.length := by have := R.le; omega
    obtain ⟨ρ1, h1, h2, h3⟩ := inv.advance hos hks hf R (by omega) (List.getElem?_eq_getElem hql) (hh q _ (Nat.le_refl _) (by omega) (List.getElem?_eq_getElem hql))
    obtain ⟨ρ2, h4, h5, h6⟩ := InvW.reach hos hks hf R d (q + 1) ρ1 h1 (by omega) fun r k hr hr2 => hh r k (by omega) (by omega)
    rw [show q + (d + 1) = q + 1 + d by omega]
    exact ⟨ρ2, h4, h2.trans h5 h3, Nat.le_trans h3 h6⟩
theorem InvW.done (inv : InvW P base call ops os ks pre π st0 N S v tmv ρ0 w0 D q ρ w) {p i : Nat} {o : Oper} (hf : Facts ops ks pre π) (hpq : p < q) (hp : π[p]? = some i) (ho : ops[i]? = some o) (hr : ∀ j, EdgeTo o j → D j = true) : InvW P base call ops os ks pre π st0 N S v tmv ρ0 w0 (fun k => D k || k == i) q ρ w := by
  have hor : ∀ k, (D k || k == i) = false → D k = false := fun k h => by rw [Bool.or_eq_false_iff] at h; exact h.1
  refine ⟨inv.le, fun r k hrq hrk => ?_, fun r k hrq hrk hk2 => by rw [inv.hard r k hrq hrk hk2]; rfl, fun k ok hok hk j hj => ?_, inv.start, inv.mono, fun r k x ok hrq hrk hok hx hk4 hDk hw => inv.ghost r k x ok hrq hrk hok hx hk4 (hor k hDk) hw, fun r k x ok hrq hrk hok hx hk1 hDk hw => inv.read r k x ok hrq hrk hok hx hk1 (hor k hDk) hw⟩
  · have h1 := inv.early r k hrq hrk
    have h2 : k ≠ i := fun e => by subst e; have := inj_at hf hrk hp; omega
    rw [h1]; simpa using h2
  · rw [Bool.or_eq_true] at hk ⊢
    left
    rcases hk with hk | hk
    · exact inv.closed k ok hok hk j hj
    · obtain rfl : k = i := by simpa using hk
      obtain rfl := Option.some.inj (ho.symm.trans hok)
      exact hr j hj
end inv
end
end Go.Proofs.YtnebopkgnkemiaaGreatDoor.Av
namespace Go.Proofs.YtnebopkgnkemiaaGreatDoor.Av
set_option linter.unusedVariables false
set_option linter.unusedSimpArgs false
open Go Go.RowKit
section
variable {P : Program} {base nt : Nat} {dl : List Deferred} {call : Callee} {ops : Array Oper} {os : List O} {ks π : List Nat} {tm0 : Tr V} {st0 : St} {N : Nat} {S : Nat → St} {v : Nat → V} {tmv : Nat → Tr V} {ρ0 : Map} {w0 : World} {res : DR}
variable {D : Nat → Bool} {q : Nat} {ρ : Map} {a : Act} {w : World} {Q : Exit → Act → World → Prop} {K : Act → World → Prop}
theorem after_low (s s' : St) : (s.after s').low = min s.low s'.low := by
  show (bif Nat.ble s.low s'.low then s.low else s'.low) = _
  by_cases h : s.low ≤ s'.low
  · rw [bleT h]; simp; omega
  · rw [bleF h]; simp; omega
theorem now_after {ρ1 : Map} {s s' : St} {w1 : World} (h : Now P base ρ s.fresh w ρ1 s' w1) : Now P base ρ s w ρ1 (s.after s') w1 :=
  ⟨h.ext, h.rel.low _, ⟨h.turn.next, by rw [after_low]; omega, fun o ho hl => h.turn.mem o ho (by rw [after_low] at hl; omega)⟩, h.below, h.dead⟩
theorem sub_after {ρ1 : Map} {s s' : St} {w1 : World} (hrel : Rel P base ρ s w) (h : Now P base ρ s.fresh w ρ1 s' w1) (hl : s.next ≤ s'.low) : Sub s (s.after s') := fun o b hb => by
  have h1 := (hrel.obj o b hb).1
  show s'.mem.get o = some b
  rw [h.turn.mem o h1 (by omega)]; exact hb
theorem InvW.turned (hf : Facts ops ks (pres ops.toList []) π) (inv : InvW P base call ops os ks (pres ops.toList []) π st0 N S v tmv ρ0 w0 D q ρ w) {i : Nat} {o : Oper} (hqN : q < N) (hq : π[q]? = some i) (ho : ops[i]? = some o) (hk : ks.getD i 0 = 2) (hr : ∀ j, EdgeTo o j → D j = true)
    {ρ1 : Map} {w1 : World} (hn : Now P base ρ (S q) w ρ1 (S (q + 1)) w1)
    (hl : (∀ (r k : Nat), r < q → π[r]? = some k → ks.getD k 0 = 1 → Bit (pres ops.toList []) i k) ∨ Sub (S q) (S (q + 1)) ∨ ∀ (r k : Nat) xk ok, r < q → π[r]? = some k → ops[k]? = some ok → os[k]? = some xk → ks.getD k 0 = 1 → ¬ Bit (pres ops.toList []) i k → Wants ops xk ok (tmv r) = true → Sees call ops xk ok (tmv r) (v r) (S (q + 1))) :
    InvW P base call ops os ks (pres ops.toList []) π st0 N S v tmv ρ0 w0 (fun k => D k || k == i) (q + 1) ρ1 w1 := by
  have hor : ∀ k, (D k || k == i) = false → D k = false := fun k h => by rw [Bool.or_eq_false_iff] at h; exact h.1
  have hnx := hn.turn.next
  refine ⟨by omega, fun r k hrq hrk => ?_, fun r k hrq hrk hk2 => ?_, fun k ok hok hk j hj => ?_, inv.start.trans hn, fun p p' h5 h6 => ?_, fun r k x ok hrq hrk hok hx hk4 hDk hw => ?_, fun r k x ok hrq hrk hok hx hk1 hDk hw => ?_⟩
  · have h1 := inv.early r k (by omega) hrk
    have h2 : k ≠ i := fun e => by subst e; have := inj_at hf hrk hq; omega
    rw [h1]; simpa using h2
  · by_cases e : r = q
    · subst e
      obtain rfl := Option.some.inj (hq.symm.trans hrk)
      simp
    · rw [inv.hard r k (by omega) hrk hk2]; rfl
  · rw [Bool.or_eq_true] at hk ⊢
    left
    rcases hk with hk | hk
    · exact inv.closed k ok hok hk j hj
    · obtain rfl : k = i := by simpa using hk
      obtain rfl := Option.some.inj (ho.symm.trans hok)
      exact hr j hj
  · by_cases e : p' = q + 1
    · subst e
      by_cases e2 : p = q + 1
      · rw [e2]; exact Nat.le_refl _
      · have := inv.mono p q (by omega) (Nat.le_refl _); omega
    · exact inv.mono p p' h5 (by omega)
  · have hrq' : r ≠ q := fun e => by subst e; obtain rfl := Option.some.inj (hq.symm.trans hrk); omega
    obtain ⟨h1, h2, h3⟩ := inv.ghost r k x ok (by omega) hrk hok hx hk4 (hor k hDk) hw
    have h4 := inv.mono (r + 1) q (by omega) (Nat.le_refl _)
    obtain ⟨h5, h6⟩ := hn.dead _ (by omega) h1
    exact ⟨h5, h2, h6.trans h3⟩
  · have hrq' : r ≠ q := fun e => by subst e; obtain rfl := Option.some.inj (hq.symm.trans hrk); omega
    obtain ⟨T, h1, h2⟩ := inv.read r k x ok (by omega) hrk hok hx hk1 (hor k hDk) hw
    have hnb : ¬ Bit (pres ops.toList []) i k := fun hb => by
      have := bit_closed hf inv.closed i o k ho hr hb
      rw [hor k hDk] at this; exact nomatch this
    rcases hl with hl | hl | hl
    · exact absurd (hl r k (by omega) hrk hk1) hnb
    · exact ⟨T, h1.trans hl, h2⟩
    · exact ⟨_, Sub.refl _, hl r k x ok (by omega) hrk hok hx hk1 hnb hw⟩
theorem InvW.made (hz : S 0 = st0) (hf : Facts ops ks (pres ops.toList []) π) (inv : InvW P base call ops os ks (pres ops.toList []) π st0 N S v tmv ρ0 w0 D q ρ w) (hb : base ≤ w.heap.size) {p i : Nat} {x : O} {o : Oper} (hpq : p < q) (hp : π[p]? = some i) (ho : ops[i]? = some o) (hx : os[i]? = some x) (hk : ks.getD i 0 = 4) (hD : D i = false) (hr : ∀ j, EdgeTo o j → D j = true)
    (hw : Wants ops x o (tmv p) = true) {y : Obj} {pl : Pl} {b : Ob} (hg : (S (p + 1)).mem.get (S p).next = some b) (hpl : pl.b = w.heap.size) (hOR : OR P ρ (S q).next { w with heap := w.heap.push y } pl b) :
    InvW P base call ops os ks (pres ops.toList []) π st0 N S v tmv ρ0 w0 (fun k => D k || k == i) q (ρ.new (S p).next pl) { w with heap := w.heap.push y } ∧ Ext ρ (ρ.new (S p).next pl) (S q).next ∧ (S p).next < (S q).next := by
  have hor : ∀ k, (D k || k == i) = false → D k = false := fun k h => by rw [Bool.or_eq_false_iff] at h; exact h.1
  obtain ⟨h1, h2, h3⟩ := inv.ghost p i x o hpq hp ho hx hk hD hw
  have h4 := inv.mono (p + 1) q (by omega) (Nat.le_refl _)
  have hlt : (S p).next < (S q).next := by omega
  have hext : Ext ρ (ρ.new (S p).next pl) (S q).next := ⟨fun o' _ hl => Map.new_ne _ _ fun e => by rw [e, h1] at hl; exact (nomatch hl), fun _ _ h => h, fun _ _ h => h⟩
  have inv' := inv.done hf hpq hp ho hr
  refine ⟨⟨inv'.le, inv'.early, inv'.hard, inv'.closed, ?_, inv'.mono, fun r k x' ok hrq hrk hok hx' hk4 hDk hw' => ?_, inv'.read⟩, hext, hlt⟩
  · have hrel := inv.start.rel.alive hb hlt h1 (h3.trans hg) hpl hOR
    refine ⟨⟨fun o' ho' hl => ?_, inv.start.ext.fz, inv.start.ext.kp⟩, hrel, inv.start.turn, inv.start.below.trans (below_push hb y), fun o' ho' hd => ?_⟩
    · have e := inv.start.ext o' ho' hl
      rw [← e]
      exact hext o' (Nat.lt_of_lt_of_le ho' inv.start.turn.next) (by rw [e]; exact hl)
    · obtain ⟨e1, e2⟩ := inv.start.dead o' ho' hd
      refine ⟨?_, e2⟩
      by_cases e : o' = (S p).next
      · have := inv.mono 0 p (Nat.zero_le _) (by omega)
        rw [hz] at this
        omega
      · rw [Map.new_ne _ _ e]; exact e1
  · have hne : k ≠ i := fun e => by subst e; simp at hDk
    have hrp : r ≠ p := fun e => hne (by subst e; exact Option.some.inj (hrk.symm.trans hp))
    obtain ⟨e1, e2, e3⟩ := inv.ghost r k x' ok hrq hrk hok hx' hk4 (hor k hDk) hw'
    have hnn : (S r).next ≠ (S p).next := fun e => by
      rcases Nat.lt_or_ge r p with h | h
      · have := inv.mono (r + 1) p (by omega) (by omega); omega
      · have := inv.mono (p + 1) r (by omega) (by omega); omega
    exact ⟨by rw [Map.new_ne _ _ hnn]; exact e1, e2, e3⟩
theorem draw_step (hc : CallOk P call) (hos : compOs P nt ops ops.toList = some os) (hks : ks = os.map fun x => kindI x.i) (hf : Facts ops ks (pres ops.toList []) π) (hb0 : base ≤ w0.heap.size)
    (R : Ran call ops os ks (pres ops.toList []) π tm0 st0 N S v tmv) (hE : RanEnds call ops os ks π res N S tmv)
    (iw : InvW P base call ops os ks (pres ops.toList []) π st0 N S v tmv ρ0 w0 D q ρ w) (is : InvS ops nt dl π tm0 v D ρ (S q).next a)
    {i : Nat} {o : Oper} (ho : ops[i]? = some o) (hD : D i = false) (hr : ∀ j, EdgeTo o j → D j = true)
    (hK : ∀ q' ρ' a' w', InvW P base call ops os ks (pres ops.toList []) π st0 N S v tmv ρ0 w0 (fun k => D k || k == i) q' ρ' w' → InvS ops nt dl π tm0 v (fun k => D k || k == i) ρ' (S q').next a' → K a' w')
    (hP : ∀ u s' ρ' u' w', res = .pan u s' → Now P base ρ0 st0 w0 ρ' s' w' → VR ρ' s'.next u u' → InvS ops nt dl π tm0 v D ρ' s'.next a → Q (.panic [{ v := u', recovered := false }]) a w') : wpOp P ops Q i K a w := by
  have hi := (Array.getElem?_eq_some_iff.1 ho).1
  obtain ⟨p, hp⟩ := hf.cover i hi
  have hpl := lt_of_at hp
  obtain ⟨x, hx, hcx⟩ := (compOs_at hos).2 i o (by simpa using ho)
  obtain ⟨hdn, hxd, hxi, hg⟩ := compO_inv hcx
  have hkx : ks.getD i 0 = kindI x.i := by rw [hks, List.getD_eq_getElem?_getD, List.getElem?_map, hx]; rfl
  have hk3 : kindI x.i ≠ 3 := by
    have := hf.kind i hi
    rw [hks, List.getD_eq_getElem?_getD, List.getElem?_map, hx] at this
    exact this
  obtain ⟨i0, hi0⟩ : ∃ i0, compOp P o = some i0 := by
    cases hcp : compOp P o with
    | none => rw [hcp] at hxi; rw [hxi] at hk3; exact absurd rfl hk3
    | some i0 => exact ⟨i0, rfl⟩
  have hcl : Cls P o x.i := by
    rw [hi0] at hxi
    rw [show x.i = i0 from hxi]
    exact cls hi0
  have hsel := not_select hi0
  have hexec := only_exec (ops := ops) a hsel
  have hnoh : ∀ (r k : Nat), q ≤ r → r < p → π[r]? = some k → ks.getD k 0 ≠ 2 := fun r k hqr hrp hrk hk2 => by
    have hkl := hf.range r k hrk
    rcases (hf.pair r p k i _ o hrp hrk hp (Array.getElem?_eq_getElem hkl) ho).2 with hb | ⟨h1, _⟩
    · have := bit_closed hf iw.closed i o k ho hr hb
      rw [iw.early r k hqr hrk] at this; exact nomatch this
    · exact h1 hk2
  have hpN : p ≤ N := by
    rcases Nat.lt_or_ge N p with h | h
    · exfalso
      rcases hE with ⟨e, _⟩ | ⟨k, xk, ok, u, s', e1, _, _, _, e5, _⟩
      · omega
      · exact hnoh N k iw.le h e1 e5
    · exact h
  by_cases hk2 : ks.getD i 0 = 2
  ·
    have hqp : q ≤ p := by
      rcases Nat.lt_or_ge p q with h | h
      · have := iw.hard p i h hp hk2
        rw [hD] at this; exact nomatch this
      · exact h
    obtain ⟨ρ1, iw1, he1, hn1⟩ := InvW.reach hos hks hf R (p - q) q ρ iw (by omega) fun r k h1 h2 h3 => hnoh r k h1 (by omega) h3
    rw [show q + (p - q) = p by omega] at iw1 hn1
    have is1 := is.mono he1 hn1
    have hb : base ≤ w.heap.size := size_le hb0 iw1.start.below
    have hslots : TmR ρ1 (S p).next nt (pickT ((o.looksAt ops).map pa) (tmv p)) (Act.only a (o.looksAt ops)).tmps :=
      only_tms is1.size fun t ht => is1.slots hos hf R iw1.closed hpN hp ho hD hr ht
    have hwant : Region.wanted o (yielded ops a.tmps) = Wants ops x o (tmv p) := by
      rw [only_wanted a]; exact wanted_eq hslots hg
    unfold wpOp
    simp only [ho]
    rw [hwant]
    have hnext : p < N → ∀ {ρ2 : Map} {w2 : World} {v2 : Value}, Now P base ρ1 (S p) w ρ2 (S (p + 1)) w2 → ((∀ (r k : Nat), r < p → π[r]? = some k → ks.getD k 0 = 1 → Bit (pres ops.toList []) i k) ∨ Sub (S p) (S (p + 1)) ∨
        ∀ (r k : Nat) xk ok, r < p → π[r]? = some k → ops[k]? = some ok → os[k]? = some xk → ks.getD k 0 = 1 → ¬ Bit (pres ops.toList []) i k → Wants ops xk ok (tmv r) = true → Sees call ops xk ok (tmv r) (v r) (S (p + 1))) →
        VR ρ2 (S (p + 1)).next (v p) v2 → K (a.put o.dst v2) w2 := fun hlt ρ2 w2 v2 hn hl hv =>
      hK (p + 1) ρ2 _ w2 (iw1.turned hf hlt hp ho hk2 hr hn hl) ((is1.mono hn.ext hn.turn.next).put hf iw1.closed hp ho hdn hD hv)
    cases hw : Wants ops x o (tmv p) with
    | false =>
      simp only [Bool.false_eq_true, if_false]
      rcases Nat.lt_or_ge p N with hlt | hge
      · obtain ⟨h1, h2⟩ := R.off p i x o hlt hp ho hx hw
        refine hnext hlt (by rw [h2]; exact Now.refl iw1.start.rel) (.inr (.inl (by rw [h2]; exact Sub.refl _))) ?_
        rw [h1]
        exact .tup [] [] .nil
      · exfalso
        obtain rfl : p = N := by omega
        rcases hE with ⟨e, _⟩ | ⟨k, xk, ok, u, s', e1, e2, e3, _, _, e6, _⟩
        · omega
        · obtain rfl := Option.some.inj (hp.symm.trans e1)
          obtain rfl := Option.some.inj (ho.symm.trans e2)
          obtain rfl := Option.some.inj (hx.symm.trans e3)
          rw [hw] at e6; exact nomatch e6
    | true =>
      simp only [if_true]
      left
      rcases Nat.lt_or_ge p N with hlt | hge
      · rcases R.hard p i x o hlt hp ho hx hk2 hw with ⟨h1, h2⟩ | ⟨s', h1, h2, h3⟩
        · refine one_sound hc hcl (b := Act.only a (o.looksAt ops)) ⟨iw1.start.rel, hslots⟩ hb hexec h1 (fun v0 v' ρ' w' e hn hv => ?_) fun v0 v' ρ' w' e _ _ => nomatch e
          obtain rfl : v p = v0 := by injection e
          exact hnext hlt hn (.inl h2) hv
        · refine one_sound hc hcl (b := Act.only a (o.looksAt ops)) (st := (S p).fresh) ⟨iw1.start.rel.low _, hslots⟩ hb hexec h1 (fun v0 v' ρ' w' e hn hv => ?_) fun v0 v' ρ' w' e _ _ => nomatch e
          obtain rfl : v p = v0 := by injection e
          have hn2 := now_after hn
          rw [← h2] at hn2
          refine hnext hlt hn2 ?_ (by rw [h2]; exact hv)
          rcases h3 with h3 | h3
          · exact .inr (.inl (by rw [h2]; exact sub_after iw1.start.rel hn h3))
          · exact .inr (.inr h3)
      · obtain rfl : p = N := by omega
        rcases hE with ⟨e, _⟩ | ⟨k, xk, ok, u, s', e1, e2, e3, e4, _, _, e7⟩
        · omega
        · obtain rfl := Option.some.inj (hp.symm.trans e1)
          obtain rfl := Option.some.inj (ho.symm.trans e2)
          obtain rfl := Option.some.inj (hx.symm.trans e3)
          rcases e7 with h1 | ⟨s1, h1, rfl⟩
          · refine one_sound hc hcl (b := Act.only a (o.looksAt ops)) ⟨iw1.start.rel, hslots⟩ hb hexec h1 (fun v0 v' ρ' w' e _ _ => nomatch e) fun v0 v' ρ' w' e hn hv => ?_
            obtain rfl : u = v0 := by injection e
            exact hP u _ ρ' v' w' e4 (iw1.start.trans hn) hv (is1.mono hn.ext hn.turn.next)
          · refine one_sound hc hcl (b := Act.only a (o.looksAt ops)) (st := (S p).fresh) ⟨iw1.start.rel.low _, hslots⟩ hb hexec h1 (fun v0 v' ρ' w' e _ _ => nomatch e) fun v0 v' ρ' w' e hn hv => ?_
            obtain rfl : u = v0 := by injection e
            exact hP u _ ρ' v' w' e4 (iw1.start.trans (now_after hn)) hv (is1.mono hn.ext hn.turn.next)
  ·
    have hpN' : p < N := by
      rcases Nat.lt_or_ge p N with h | h
      · exact h
      · exfalso
        obtain rfl : p = N := by omega
        rcases hE with ⟨e, _⟩ | ⟨k, xk, ok, u, s', e1, _, _, _, e5, _⟩
        · omega
        · obtain rfl := Option.some.inj (hp.symm.trans e1)
          exact hk2 e5
    obtain ⟨q', ρ1, hpq, iw1, he1, hn1⟩ : ∃ q' ρ1, p < q' ∧ InvW P base call ops os ks (pres ops.toList []) π st0 N S v tmv ρ0 w0 D q' ρ1 w ∧ Ext ρ ρ1 (S q).next ∧ (S q).next ≤ (S q').next := by
      rcases Nat.lt_or_ge p q with h | h
      · exact ⟨q, ρ, h, iw, Ext.refl _ _, Nat.le_refl _⟩
      · obtain ⟨ρ1, h1, h2, h3⟩ := InvW.reach hos hks hf R (p + 1 - q) q ρ iw (by omega) fun r k h1 h2 h3 => by
          by_cases e : r = p
          · subst e
            obtain rfl := Option.some.inj (hp.symm.trans h3)
            exact hk2
          · exact hnoh r k h1 (by omega) h3
        rw [show q + (p + 1 - q) = p + 1 by omega] at h1 h3
        exact ⟨p + 1, ρ1, by omega, h1, h2, h3⟩
    have is1 := is.mono he1 hn1
    have hb : base ≤ w.heap.size := size_le hb0 iw1.start.below
    have hslots : TmR ρ1 (S q').next nt (pickT ((o.looksAt ops).map pa) (tmv p)) (Act.only a (o.looksAt ops)).tmps :=
      only_tms is1.size fun t ht => is1.slots hos hf R iw1.closed hpN hp ho hD hr ht
    have hwant : Region.wanted o (yielded ops a.tmps) = Wants ops x o (tmv p) := by
      rw [only_wanted a]; exact wanted_eq hslots hg
    unfold wpOp
    simp only [ho]
    rw [hwant]
    have hnext : ∀ {v2 : Value}, VR ρ1 (S q').next (v p) v2 → K (a.put o.dst v2) w := fun hv =>
      hK q' ρ1 _ w (iw1.done hf hpq hp ho hr) (is1.put hf iw1.closed hp ho hdn hD hv)
    cases hw : Wants ops x o (tmv p) with
    | false =>
      simp only [Bool.false_eq_true, if_false]
      obtain ⟨h1, _⟩ := R.off p i x o hpN' hp ho hx hw
      refine hnext ?_
      rw [h1]
      exact .tup [] [] .nil
    | true =>
      simp only [if_true]
      left
      have hk4 : kindI x.i = 0 ∨ kindI x.i = 1 ∨ kindI x.i = 4 := by
        have : kindI x.i ≤ 4 := by cases x.i <;> simp only [kindI] <;> (try split) <;> (try split) <;> omega
        omega
      by_cases hk : kindI x.i = 4
      ·
        obtain ⟨f, hgo, hsoft⟩ := cls_soft hcl hk
        obtain ⟨u, hu, h1⟩ := oneV_loud hgo (R.soft p i x o hpN' hp ho hx (by omega) hw)
        obtain rfl : v p = u := by injection hu
        obtain ⟨g, hgo2, hshape⟩ := soft_ok x.i hk
        obtain rfl := gE_inj (hgo.symm.trans hgo2)
        obtain ⟨r, b, e1, e2, _, e4⟩ := hshape _ _ _ _ h1
        obtain ⟨r2, b2, v', y, pl, h2, h3, h4, h5, h6, h7, h8⟩ := hsoft (a := Act.only a (o.looksAt ops)) ⟨iw1.start.rel, hslots⟩ (e4 (S q'))
        have h9 := h2 (S p)
        rw [h1] at h9
        obtain ⟨e5, e6⟩ := Prod.mk.inj (Option.some.inj h9)
        have hgb : (S (p + 1)).mem.get (S p).next = some b2 := by rw [e6, new_get, if_pos rfl]
        obtain ⟨iw2, he2, hlt⟩ := iw1.made R.zero hf hb hpq hp ho hx (by omega) hD hr hw hgb h4 h7
        unfold Oper.wp
        rw [hexec, h3]
        refine hK q' _ _ _ iw2 (((is1.mono he2 (Nat.le_refl _)).put hf iw1.closed hp ho hdn hD ?_))
        rw [e5]
        exact h8 _ _ _ hlt (Map.new_same _ _ _)
      · have hk01 : kindI x.i = 0 ∨ kindI x.i = 1 := by omega
        obtain ⟨f, hgo, hpure, hdull, hmem⟩ := cls_pure hcl hk01
        have fin : ∀ T, Sub T (S q') → f (pickT ((o.looksAt ops).map pa) (tmv p)) T = some (v p) → o.wp P a w K Q := fun T hT hfv => by
          have h1 : f (pickT ((o.looksAt ops).map pa) (tmv p)) { next := (S q').next, low := T.low, mem := T.mem } = some (v p) := by
            rw [← hfv]; exact hmem _ _ _ T.next T.low T.mem
          obtain ⟨v', h5, h6⟩ := hpure (nt := nt) (a := Act.only a (o.looksAt ops)) ⟨iw1.start.rel.sub hT, hslots⟩ h1
          unfold Oper.wp
          rw [hexec, h5]
          exact hnext h6
        rcases hk01 with hk0 | hk1
        · obtain ⟨_, s', h1⟩ := R.quiet p i x o hpN' hp ho hx (.inl (by omega)) hw
          obtain ⟨u, hu, h2, _⟩ := oneV_pure hgo h1
          obtain rfl : v p = u := by injection hu
          exact fin (S q') (Sub.refl _) (by rw [← h2]; exact hdull hk0 _ _ _)
        · obtain ⟨T, hT, s', h1⟩ := iw1.read p i x o hpq hp ho hx (by omega) hD hw
          obtain ⟨u, hu, h2, _⟩ := oneV_pure hgo h1
          obtain rfl : v p = u := by injection hu
          exact fin T hT h2
def cnt (f : Nat → Bool) : Nat → Nat
  | 0 => 0
  | n + 1 => cnt f n + if f n then 0 else 1
theorem cnt_set {f g : Nat → Bool} {i : Nat} (hf : f i = false) (hg : g i = true) (he : ∀ k, k ≠ i → g k = f k) : ∀ n, i < n → cnt g n + 1 = cnt f n
  | 0, h => absurd h (Nat.not_lt_zero _)
  | n + 1, h => by
    have same : ∀ k, k ≤ i → cnt g k = cnt f k := by
      intro k
      induction k with
      | zero => intro _; rfl
      | succ k ih => intro hk; simp only [cnt, ih (by omega), he k (by omega)]
    by_cases e : n = i
    · subst e
      simp only [cnt, same n (Nat.le_refl _), hf, hg]
      simp
    · simp only [cnt, he n e]
      have := cnt_set hf hg he n (by omega)
      omega
theorem cnt_zero {f : Nat → Bool} : ∀ n, cnt f n = 0 → ∀ k, k < n → f k = true
  | 0, _, k, h => absurd h (Nat.not_lt_zero _)
  | n + 1, h, k, hk => by
    simp only [cnt] at h
    by_cases e : k = n
    · subst e
      cases hf : f k with
      | true => rfl
      | false => rw [hf] at h; simp at h
    · exact cnt_zero n (by omega) k (by omega)
theorem all_listed (hf : Facts ops ks (pres ops.toList []) π) {listed : Array Bool} (hs : listed.size = ops.size) (hr : Region.ready .any ops listed = []) : ∀ k, k < ops.size → listed.getD k false = true := by
  intro k
  induction k using Nat.strongRecOn with
  | _ k ih =>
    intro hk
    cases hl : listed.getD k false with
    | true => rfl
    | false =>
      exfalso
      have hok : ops[k]? = some ops[k] := Array.getElem?_eq_getElem hk
      have : k ∈ Region.ready .any ops listed := mem_ready.2 ⟨by
        rw [Array.getD_eq_getD_getElem?, Array.getElem?_eq_getElem (by omega)] at hl ⊢; exact hl, ops[k], hok, fun e he hb => by
          have hlt := hf.edge k _ hok e.on ⟨e, he, hb, rfl⟩
          exact ih e.on hlt (by omega)⟩
      rw [hr] at this
      exact nomatch this
theorem any_sound (hc : CallOk P call) (hos : compOs P nt ops ops.toList = some os) (hks : ks = os.map fun x => kindI x.i) (hf : Facts ops ks (pres ops.toList []) π)
    (hb0 : base ≤ w0.heap.size) (R : Ran call ops os ks (pres ops.toList []) π tm0 st0 N S v tmv) (hE : RanEnds call ops os ks π res N S tmv)
    (hQ : ∀ D q ρ a w, (∀ k, k < ops.size → D k = true) → InvW P base call ops os ks (pres ops.toList []) π st0 N S v tmv ρ0 w0 D q ρ w → InvS ops nt dl π tm0 v D ρ (S q).next a → Q .normal a w)
    (hP : ∀ u s' D ρ' u' a w', res = .pan u s' → Now P base ρ0 st0 w0 ρ' s' w' → VR ρ' s'.next u u' → InvS ops nt dl π tm0 v D ρ' s'.next a → Q (.panic [{ v := u', recovered := false }]) a w') :
    ∀ (fuel : Nat) (listed : Array Bool) (q : Nat) (ρ : Map) (a : Act) (w : World), listed.size = ops.size → cnt (fun k => listed.getD k false) ops.size ≤ fuel →
      InvW P base call ops os ks (pres ops.toList []) π st0 N S v tmv ρ0 w0 (fun k => listed.getD k false) q ρ w → InvS ops nt dl π tm0 v (fun k => listed.getD k false) ρ (S q).next a → wpAny P .any ops Q fuel listed a w
  | 0, listed, q, ρ, a, w, hs, hcn, iw, is => by
    have hall := cnt_zero ops.size (by omega : cnt (fun k => listed.getD k false) ops.size = 0)
    refine ⟨?_, hQ _ q ρ a w hall iw is⟩
    cases hr : Region.ready .any ops listed with
    | nil => rfl
    | cons j l =>
      exfalso
      obtain ⟨h1, o, ho, h2⟩ := mem_ready.1 (show j ∈ Region.ready .any ops listed from by rw [hr]; exact List.mem_cons_self ..)
      have hj := (Array.getElem?_eq_some_iff.1 ho).1
      have h3 := hall j hj
      rw [Array.getD_eq_getD_getElem?, Array.getElem?_eq_getElem (by omega)] at h1 h3
      have h4 : listed[j] = true := h3
      have h5 : listed[j] = false := h1
      rw [h4] at h5
      exact nomatch h5
  | fuel + 1, listed, q, ρ, a, w, hs, hcn, iw, is => by
    refine ⟨fun hr => hQ _ q ρ a w (all_listed hf hs hr) iw is, fun i hi => ?_⟩
    obtain ⟨h1, o, ho, h2⟩ := mem_ready.1 hi
    have hlt := (Array.getElem?_eq_some_iff.1 ho).1
    have hD : listed.getD i false = false := by
      rw [Array.getD_eq_getD_getElem?, Array.getElem?_eq_getElem (by omega)] at h1 ⊢; exact h1
    have hset : ∀ k, (listed.setIfInBounds i true).getD k false = (listed.getD k false || k == i) := fun k => by
      by_cases e : k = i
      · subst e
        simp [Array.getD, hs, hlt]
      · have : (k == i) = false := by simpa using e
        rw [this, Bool.or_false, Array.getD_eq_getD_getElem?, Array.getD_eq_getD_getElem?, Array.getElem?_setIfInBounds_ne (Ne.symm e)]
    have hfe : (fun k => (listed.setIfInBounds i true).getD k false) = fun k => (listed.getD k false || k == i) := funext hset
    refine draw_step hc hos hks hf hb0 R hE iw is ho hD (fun j hj => ?_) (fun q' ρ' a' w' hiw his => ?_) fun u s' ρ' u' w' => hP u s' _ ρ' u' a w'
    · obtain ⟨e, he, hb, rfl⟩ := hj
      exact h2 e he hb
    · refine any_sound hc hos hks hf hb0 R hE hQ hP fuel _ q' ρ' a' w' (by simpa using hs) ?_ (by rw [hfe]; exact hiw) (by rw [hfe]; exact his)
      have := cnt_set (f := fun k => listed.getD k false) (g := fun k => (listed.setIfInBounds i true).getD k false) hD (by rw [hset]; simp) (fun k hk => by
        show (listed.setIfInBounds i true).getD k false = listed.getD k false
        rw [hset]
        have : (k == i) = false := by simpa using hk
        rw [this, Bool.or_false]) ops.size hlt
      omega
end
theorem at_veil : ∀ (ws : List Pa) (tm : Tr V) (p : Pa), (p ∈ ws → (veil ws tm).at p = none) ∧ (p ∉ ws → (veil ws tm).at p = tm.at p)
  | [], tm, p => ⟨fun h => (nomatch h), fun _ => rfl⟩
  | r :: ws, tm, p => by
    have h : veil (r :: ws) tm = (veil ws tm).to r none := rfl
    rw [h]
    by_cases e : r = p
    · subst e
      exact ⟨fun _ => at_to_same _ _ _, fun h => absurd (List.mem_cons_self ..) h⟩
    · rw [at_to_ne _ _ e]
      obtain ⟨h1, h2⟩ := at_veil ws tm p
      exact ⟨fun h => h1 ((List.mem_cons.1 h).resolve_left fun e' => e e'.symm), fun h => h2 fun h' => h (List.mem_cons_of_mem _ h')⟩
theorem drawOk {P : Program} (hm : P.follows .mixedOrders = true) (call : Callee) (hc : CallOk P call) : DrawOk P call := by
  intro base nt id dl ops c n hcd ρ st w tm a r hat hr
  unfold compDraw at hcd
  split at hcd
  · exact nomatch hcd
  · rename_i os hos
    split at hcd
    · rename_i hok
      obtain rfl := Option.some.inj hcd
      rw [Bool.and_eq_true] at hok
      have hf := facts_of hok.1
      have hlen : os.length = ops.size := by rw [(compOs_at hos).1]; simp
      obtain ⟨res, h1, h2⟩ := orec_none (show (Option.rec none (fun r => DR.rec (fun tm' s => some (Ex.nrm, tm', s)) (fun v s => some (.pan v, veil (ops.toList.filterMap fun o => o.dst.map pa) tm, s)) r)
        (evD (dsOf (os.map fun a => kindI a.i) (pres ops.toList []) ops os (orderGo (os.map fun a => kindI a.i) (pres ops.toList []) ops.size ops.size 0)) call tm st []) : Run) = some r from hr)
      have hcls : ∀ (i : Nat) x, os[i]? = some x → i < ops.size → kindI x.i ≠ 3 → ∃ o, Cls P o x.i := fun i x hx hi hk3 => by
        obtain ⟨y, hy, hcy⟩ := (compOs_at hos).2 i ops[i] (by simp)
        obtain rfl := Option.some.inj (hx.symm.trans hy)
        obtain ⟨_, _, hxi, _⟩ := compO_inv hcy
        refine ⟨ops[i], ?_⟩
        cases hcp : compOp P ops[i] with
        | none => rw [hcp] at hxi; rw [hxi] at hk3; exact absurd rfl hk3
        | some i0 =>
          rw [hcp] at hxi
          rw [show x.i = i0 from hxi]
          exact cls hcp
      obtain ⟨N, S, v, tmv, R, hE⟩ := ran_of hos rfl hf (fun i x hx hi => hcls i x hx hi (by
        have := hf.kind i hi
        rw [List.getD_eq_getElem?_getD, List.getElem?_map, hx] at this
        exact this)) h1
      have hnow : Now P base ρ st w ρ st { w with drawn := w.drawn + 1 } := ⟨Ext.refl _ _, hat.ctx.rel.of_heap rfl, Turn.refl _, ⟨rfl, rfl, rfl, Nat.le_refl _, fun _ _ => rfl⟩, Dead.refl _ _⟩
      have hfalse : ∀ k, (Array.replicate ops.size false).getD k false = false := fun k => by
        rw [Array.getD_eq_getD_getElem?, Array.getElem?_replicate]; split <;> rfl
      refine wp_region_any hm ?_
      refine any_sound (base := base) (nt := nt) (dl := dl) (ρ0 := ρ) (w0 := { w with drawn := w.drawn + 1 }) hc hos rfl hf hat.hb R hE ?_ ?_ ops.size (Array.replicate ops.size false) 0 ρ a _ (by simp) ?_ ?_ ?_
      ·
        intro D q ρ' a' w' hall iw is
        have hend : N = (orderGo (os.map fun a => kindI a.i) (pres ops.toList []) ops.size ops.size 0).length ∧ res = .nrm (tmv N) (S N) := by
          rcases hE with h | ⟨i, x, o, u, s', e1, e2, _⟩
          · exact h
          · exfalso
            have := iw.early N i iw.le e1
            rw [hall i (hf.range N i e1)] at this; exact nomatch this
        obtain ⟨hN, rfl⟩ := hend
        have hqN : q = N := by
          rcases Nat.lt_or_ge q N with h | h
          · exfalso
            have hi := List.getElem?_eq_getElem (l := orderGo (os.map fun a => kindI a.i) (pres ops.toList []) ops.size ops.size 0) (i := q) (by omega)
            have := iw.early q _ (Nat.le_refl _) hi
            rw [hall _ (hf.range q _ hi)] at this; exact nomatch this
          · have := iw.le; omega
        subst hqN
        obtain rfl := Option.some.inj (show some (Ex.nrm, tmv q, S q) = some r from h2)
        refine ⟨ρ', hnow.trans iw.start, is.nod, is.size, fun t => ?_⟩
        show VR ρ' (S q).next (((tmv q).at (pa t)).getD .undef) (a'.tmps.getD t Go.undef)
        obtain ⟨h3, h4⟩ := tm_last hos hf R q (Nat.le_refl _) t
        rcases last_or_none (fun p => ∃ i o, (orderGo (os.map fun a => kindI a.i) (pres ops.toList []) ops.size ops.size 0)[p]? = some i ∧ ops[i]? = some o ∧ o.dst = some t) q with hn | ⟨p, hp, ⟨i, o, hi, ho, hd⟩, hl⟩
        · rw [h4 fun p i o hp hi ho hd => hn p hp ⟨i, o, hi, ho, hd⟩]
          refine is.non t fun k ok hok hDk hd => ?_
          obtain ⟨p, hp⟩ := hf.cover k (Array.getElem?_eq_some_iff.1 hok).1
          exact hn p (by rw [hN]; exact lt_of_at hp) ⟨k, ok, hp, hok, hd⟩
        · rw [h3 p i o hp hi ho hd fun p' i' o' h5 h6 h7 h8 h9 => hl p' h5 h6 ⟨i', o', h7, h8, h9⟩]
          refine is.last t p i o hi ho (hall i (hf.range p i hi)) hd fun p' i' o' hp' ho' _ hd' => ?_
          rcases Nat.lt_or_ge p p' with h5 | h5
          · exact absurd ⟨i', o', hp', ho', hd'⟩ (hl p' h5 (by rw [hN]; exact lt_of_at hp'))
          · exact h5
      ·
        intro u s' D ρ' u' a' w' hres hn hu is
        rw [hres] at h2
        obtain rfl := Option.some.inj (show some (Ex.pan u, veil (ops.toList.filterMap fun o => o.dst.map pa) tm, s') = some r from h2)
        refine ⟨ρ', hnow.trans hn, is.nod, u', rfl, hu, is.size, fun t v0 hv0 => ?_⟩
        have hv1 : (veil (ops.toList.filterMap fun o => o.dst.map pa) tm).at (pa t) = some v0 := hv0
        obtain ⟨h3, h4⟩ := at_veil (ops.toList.filterMap fun o => o.dst.map pa) tm (pa t)
        by_cases hin : pa t ∈ ops.toList.filterMap fun o => o.dst.map pa
        · rw [h3 hin] at hv1; exact nomatch hv1
        · rw [h4 hin] at hv1
          have h5 := is.non t fun k ok hok _ hd => hin (List.mem_filterMap.2 ⟨ok, by
            rw [← Array.getElem?_toList] at hok
            exact List.mem_of_getElem? hok, by rw [hd]; rfl⟩)
          rw [hv1] at h5
          exact h5
      ·
        have : ∀ (f : Nat → Bool) n, cnt f n ≤ n := by
          intro f n
          induction n with
          | zero => exact Nat.le_refl _
          | succ n ih => simp only [cnt]; split <;> omega
        exact this _ _
      ·
        refine ⟨Nat.zero_le _, fun p i _ _ => hfalse i, fun p i hp => absurd hp (Nat.not_lt_zero _), fun k o ho hk => ?_, by rw [R.zero]; exact Now.refl hnow.rel, fun p p' h3 h4 => ?_, fun p i x o hp => absurd hp (Nat.not_lt_zero _), fun p i x o hp => absurd hp (Nat.not_lt_zero _)⟩
        · rw [hfalse] at hk; exact nomatch hk
        · rw [show p = p' by omega]; exact Nat.le_refl _
      · refine ⟨hat.nod, hat.ctx.tms.1, fun t p i o _ _ hk => ?_, fun t _ => by rw [R.zero]; exact hat.ctx.tms.2 t⟩
        rw [hfalse] at hk; exact nomatch hk
    · obtain rfl := Option.some.inj hcd
      exact nomatch hr
end Go.Proofs.YtnebopkgnkemiaaGreatDoor.Av
namespace Go.Proofs.YtnebopkgnkemiaaGreatDoor.Av
set_option linter.unusedVariables false
set_option linter.unusedSimpArgs false
open Go Go.RowKit
section
variable {P : Program} {base nt : Nat} {dl : List Deferred} {call : Callee} {ρ ρ' : Map} {st st' : St} {w w' : World} {tm : Tr V} {a : Act}
def ExtOk (P : Program) (f k : Nat) : Prop := ∃ fn e, P.funcs[f]? = some fn ∧ (fn.name == "runtime.NumGoroutine") = false ∧ fn.body.isNone = true ∧ Extern.findNext fn = none ∧ Extern.find fn = some e ∧ k = 0 ∧ e = Extern.BytealgIndexByte.indexByte
def SpecOk (P : Program) (f : Nat) (g : List V → St → Option V) : Prop :=
  ∀ ⦃base : Nat⦄ ⦃args : List V⦄ ⦃st : St⦄ ⦃v : V⦄ ⦃ρ : Map⦄ ⦃w : World⦄ ⦃args' : List Value⦄, g args st = some v → Rel P base ρ st w → base ≤ w.heap.size → VRs ρ st.next args args' →
    FnOk P f ∧ Calls P f args'.toArray w (Came P base ρ st w (.ret v) st)
def CallAt (P : Program) (f : Nat) (args : List V) (st : St) (r : CR) (st' : St) : Prop :=
  ∀ ⦃base : Nat⦄ ⦃ρ : Map⦄ ⦃w : World⦄ ⦃args' : List Value⦄, Rel P base ρ st w → base ≤ w.heap.size → VRs ρ st.next args args' → FnOk P f ∧ Calls P f args'.toArray w (Came P base ρ st w r st')
def MemoOk (P : Program) (f : Nat) (g : List V → St → Option (CR × St)) : Prop := ∀ ⦃args : List V⦄ ⦃st st' : St⦄ ⦃r : CR⦄, g args st = some (r, st') → CallAt P f args st r st'
def FOk (P : Program) (f : Nat) : Fs → Prop
  | .mk rs b => ∃ fn ir, P.funcs[f]? = some fn ∧ (fn.name == "runtime.NumGoroutine") = false ∧ compF P fn = some ir ∧ rs = ir.rs ∧ b = ir.b.ev
  | .ext k => ExtOk P f k
  | .dfr rs b => ∃ fn cd, P.funcs[f]? = some fn ∧ (fn.name == "runtime.NumGoroutine") = false ∧ compFD P fn = some (rs, cd) ∧ b = cd.ev
  | .rcv t0 b => ∃ fn c, P.funcs[f]? = some fn ∧ (fn.name == "runtime.NumGoroutine") = false ∧ compFR P fn = some (t0, c) ∧ b = c.ev
  | .spec g => SpecOk P f g
  | .memo g => MemoOk P f g
def TableOk (P : Program) (fns : Tr Fs) : Prop := ∀ f fs, fns.get f = some fs → FOk P f fs
theorem idxL_eq (c : UInt8) : ∀ (s pre : List UInt8), (match (List.range' pre.length s.length).find? fun i => (pre ++ s)[i]! == c with
    | some i => (i : Int)
    | none => -1) = idxL c s pre.length
  | [], pre => rfl
  | b :: s, pre => by
    have h1 : idxL c (b :: s) pre.length = bif eqB b c then (pre.length : Int) else idxL c s (pre.length + 1) := rfl
    have h2 : (pre ++ b :: s)[pre.length]! = b := by simp
    rw [h1, List.length_cons, List.range'_succ, List.find?_cons, eqB_iff]
    by_cases hb : b = c
    · have h3 : ((pre ++ b :: s)[pre.length]! == c) = true := by rw [h2]; simpa using hb
      rw [h3]
      simp [hb]
    · have h3 : ((pre ++ b :: s)[pre.length]! == c) = false := by rw [h2]; simpa using hb
      rw [h3]
      have := idxL_eq c s (pre ++ [b])
      simp only [List.length_append, List.length_cons, List.length_nil, List.append_assoc, List.cons_append, List.nil_append] at this
      simp only [hb, decide_false, cond_false]
      exact this
theorem firstIdx_eq (s : List UInt8) (c : UInt8) : firstIdx ⟨⟨s⟩⟩ c = idxL c s 0 := by
  have h := idxL_eq c s []
  rw [List.nil_append] at h
  rw [show ([] : List UInt8).length = 0 from rfl] at h
  rw [← h]
  unfold firstIdx
  rw [List.range_eq_range']
  have hp : (fun i : Nat => (⟨⟨s⟩⟩ : ByteArray)[i]! == c) = fun i : Nat => s[i]! == c := by
    funext i
    congr 1
    by_cases hi : i < s.length
    · have h1 : (⟨⟨s⟩⟩ : ByteArray)[i]! = s[i] := by
        rw [getElem!_pos (⟨⟨s⟩⟩ : ByteArray) i hi]; rfl
      rw [h1, getElem!_pos s i hi]
    · have h1 : (⟨⟨s⟩⟩ : ByteArray)[i]! = default := getElem!_neg (⟨⟨s⟩⟩ : ByteArray) i hi
      rw [h1, getElem!_neg s i hi]
  rw [hp]
  rfl
theorem ext_ok {f k : Nat} (h : ExtOk P f k) {n : Nat} {args : List V} {args' : List Value} {v : V} (hv : evX k args = some v) (ha : VRs ρ n args args') : ∃ v', (callFunc f args'.toArray).run P w = .ok (.value v') w ∧ VR ρ n v v' := by
  obtain ⟨fn, e, h1, h2, h3, h4, h5, rfl, rfl⟩ := h
  have hv' : (List.rec none (fun a l _ => a.onStr none (fun s => List.rec none (fun b l' _ => b.onInt none (fun j c =>
    bif Nat.beq j 8 then List.rec (some (.int 63 (idxL c.toNat.toUInt8 s 0))) (fun _ _ _ => none) l' else none)) l)) args : Option V) = some v := hv
  cases ha with
  | nil => exact nomatch hv'
  | cons ha1 hr =>
    obtain ⟨s, rfl, h6⟩ := onStr_some hv'
    cases hr with
    | nil => exact nomatch h6
    | cons ha2 hr2 =>
      obtain ⟨j, c, rfl, h7⟩ := onInt_some h6
      obtain ⟨h8, h9⟩ := bif_none h7
      cases hr2 with
      | cons _ _ => exact nomatch h9
      | nil =>
        obtain rfl := beq_iff.1 h8
        obtain rfl := ha1.str_inv
        obtain rfl := ha2.int_at
        obtain rfl := Option.some.inj h9
        refine ⟨.int .i64 (firstIdx ⟨⟨s⟩⟩ c.toNat.toUInt8), ?_, by rw [firstIdx_eq]; exact .int .i64 _⟩
        rw [run_callFunc_extern h1 h2 h3 h4 h5]
        have := run_indexByte_string (P := P) ⟨⟨s⟩⟩ c w
        rw [show (#[Value.string ⟨⟨s⟩⟩, Value.int (kindC 8) c] : Array Value) = #[.string ⟨⟨s⟩⟩, .int .u8 c] from rfl] 
        rw [this]
        rfl
theorem opsN_wpOpsS {ops : Array Oper} {Q : Exit → Act → World → Prop} {next : Act → World → Prop} {Q2 : Exit → Act → List Frame → World → Prop} {cs : List Frame} (hn : ∀ a w, next a w → Q2 .normal a cs w) (hq : ∀ e a w, Q e a w → Q2 e a cs w) :
    ∀ (l : List Nat) (a : Act) (w : World), opsN P ops Q next l a w → wpOpsS P ops Q2 l a cs w
  | [], a, w, h => hn _ _ h
  | i :: l, a, w, h => by
    simp only [opsN] at h
    simp only [wpOpsS]
    split
    · rename_i hi; rw [hi] at h; exact opsN_wpOpsS hn hq l a w h
    · rename_i o hi
      rw [hi] at h
      split
      · rename_i hw
        simp only [hw, if_true] at h
        have h2 : o.wp P a w (fun a' w' => wpOpsS P ops Q2 l a' cs w') (fun e a' w' => Q2 e a' cs w') := upon_mono hq (fun a w => opsN_wpOpsS hn hq l a w) h
        unfold Oper.wp at h2
        split
        · rename_i w1 hr
          rw [hr] at h2
          exact h2.elim
        · exact h2
      · rename_i hw
        simp only [hw] at h
        exact opsN_wpOpsS hn hq l _ w h
theorem exec_recover {o : Oper} {c : Call} (ho : o.op = .call c) (hcl : c.callee = .builtin .recover) : (execOp a.eval o).run P w = .ok .recover w := by
  have h : execOp a.eval o = (do let d ← resolve a.eval c o.type; invoke d.target d.args) := by unfold execOp; rw [ho]
  have h2 : ∃ x, resolve a.eval c o.type = pure { target := .builtin .recover c.argTypes o.type x, args := c.args.map a.eval } := by unfold resolve; rw [hcl]; exact ⟨_, rfl⟩
  obtain ⟨x, h2⟩ := h2
  rw [h, h2]
  rfl
def RecAt (ρ : Map) (n : Nat) (rv : V) (u : FrameMode) : Prop :=
  (u = .returning ∧ rv = .nilIface) ∨ ∃ v', u = .panicking [{ v := v', recovered := false }] ∧ VR ρ n rv v'
theorem rec_step {rv : V} {u : FrameMode} {n : Nat} (h : RecAt ρ n rv u) {c₀ : Frame} {cs : List Frame} (hu : c₀.mode = u) {K : Value → List Frame → Prop}
    (hk : ∀ v0 u', VR ρ n rv v0 → settle u' = .returning → K v0 ({ c₀ with mode := u' } :: cs)) : match recoverD (c₀ :: cs) with
      | some (v, cs') => K v cs'
      | none => K .nilIface (c₀ :: cs) := by
  rcases h with ⟨rfl, rfl⟩ | ⟨v', rfl, hv⟩
  · have h1 : recoverD (c₀ :: cs) = none := by simp [recoverD, hu]
    rw [h1]
    have := hk .nilIface .returning .nilIface rfl
    have h2 : ({ c₀ with mode := .returning } : Frame) = c₀ := by rw [← hu]
    rw [h2] at this
    exact this
  · have h1 : recoverD (c₀ :: cs) = some (v', { c₀ with mode := .panicking [{ v := v', recovered := true }] } :: cs) := by simp [recoverD, hu]
    rw [h1]
    exact hk v' _ hv rfl
theorem rcv_sound (hc : CallOk P call) (hd : DrawOk P call) {g : Nat} {t0 : Pa} {b : CEv} (hf : FOk P g (.rcv t0 b)) {n : Nat} {rv : V} {cs : List V} {cs' : List Value} {st2 : St} (h : enterR call n t0 b rv cs st = some st2)
    (hrel : Rel P base ρ st w) (hb : base ≤ w.heap.size) (hcs : VRs ρ st.next cs cs') {u : FrameMode} (hu : RecAt ρ st.next rv u) :
    CallsD P g cs'.toArray u w fun e u' w' => (∃ v, e = .returned v) ∧ settle u' = .returning ∧ ∃ ρ', Now P base ρ st w ρ' st2 w' := by
  obtain ⟨fn, c, hfn, hname, hcomp, rfl⟩ := hf
  unfold compFR at hcomp
  obtain ⟨body, hbody, hcomp⟩ := bind_some' hcomp
  split at hcomp
  · rename_i id ops rest hres
    split at hcomp
    · rename_i o l hops
      split at hcomp
      · rename_i cl ho
        split at hcomp
        · rename_i t hcl hg hdst
          obtain ⟨os, hos, hcomp⟩ := bind_some' hcomp
          obtain ⟨r, hr, hcomp⟩ := bind_some' hcomp
          split at hcomp
          · rename_i ht
            obtain ⟨rfl, rfl⟩ := Prod.mk.inj (Option.some.inj hcomp)
            obtain ⟨⟨e, tmf, st3⟩, h1, h2⟩ := orec_none (show (Option.rec none (fun p => Prod.rec (fun e q => Prod.rec (fun _ st' => Ex.rec (some st') (fun _ => none) (some st') (fun _ => none) e) q) p)
              ((C.seq (.reg os) r).ev call n ((initT cs 0 .leaf).to (pa t) (some rv)) st) : Option St) = some st2 from h)
            have he : (e = .nrm ∨ e = .ret) ∧ st3 = st2 := by
              cases e with
              | nrm => exact ⟨.inl rfl, Option.some.inj h2⟩
              | ret => exact ⟨.inr rfl, Option.some.inj h2⟩
              | exit id => exact nomatch h2
              | pan v => exact nomatch h2
            obtain ⟨he, rfl⟩ := he
            obtain ⟨e1, tm1, s1, h3, h4⟩ := thenR_some (show thenR (evO os call ((initT cs 0 .leaf).to (pa t) (some rv)) st) (r.ev call n) = some (e, tmf, st3) from h1)
            refine callsD_of_wpS hfn hbody fun c₀ cs₀ hm => ?_
            have hopsz : ops.size = l.length + 1 := by
              have := congrArg List.length hops
              simpa using this
            have hat0 : ops[0]? = some o := by
              have : ops.toList[0]? = some o := by rw [hops]; rfl
              simpa using this
            have hend : ∀ {u' : FrameMode} {x : Exit} {a1 : Act} {w1 : World}, settle u' = .returning → Fin P base fn.ntmps [] ρ st w (e, tmf, st3) x a1 w1 →
                bodyPostS P fn c₀ cs₀ (fun e u' w' => (∃ v, e = .returned v) ∧ settle u' = .returning ∧ ∃ ρ', Now P base ρ st w ρ' st3 w') x a1 ({ c₀ with mode := u' } :: cs₀) w1 := by
              intro u' x a1 w1 hs hfin
              obtain ⟨ρ', hn, hnod, hm⟩ := hfin
              have hres' : (results fn a1.tmps).run P w1 = .ok (.tuple #[]) w1 := by
                have : (fn.results.toList.mapM (resOne a1.tmps) : Sem (List Value)).run P w1 = .ok [] w1 := by rw [hres]; rfl
                exact results_run this
              rcases he with rfl | rfl
              · cases x with
                | normal => exact ⟨hnod, u', rfl, _, hres', ⟨_, rfl⟩, hs, ρ', hn⟩
                | _ => exact hm.elim
              · cases x with
                | ret => exact ⟨hnod, u', rfl, _, hres', ⟨_, rfl⟩, hs, ρ', hn⟩
                | _ => exact hm.elim
            refine wpS_seq (wpS_region ?_)
            rw [hopsz, List.range_eq_range', List.range'_succ]
            simp only [wpOpsS, hat0]
            have hwant : Region.wanted o (yielded ops (cs'.toArray ++ Array.replicate (fn.ntmps - cs'.toArray.size) Go.undef)) = true := by simp [Region.wanted, hg]
            rw [if_pos hwant]
            rw [exec_recover ho hcl]
            refine rec_step hu hm fun v0 u' hv0 hs => ?_
            have htm := init_tms (nt := fn.ntmps) hcs
            have hat : At P base [] ρ st w fn.ntmps ((initT cs 0 .leaf).to (pa t) (some rv)) (({ tmps := cs'.toArray ++ Array.replicate (fn.ntmps - cs'.toArray.size) Go.undef, defers := [] } : Act).put o.dst v0) := by
              rw [hdst]
              exact ⟨⟨hrel, htm.put ht hv0⟩, hb, rfl⟩
            have hops' := ops_sound hc ops l 1 os hos (fun j o' hj => by
              have : ops.toList[j + 1]? = some o' := by rw [hops]; simpa using hj
              rw [Nat.add_comm]; simpa using this) hat h3
            refine opsN_wpOpsS (fun a1 w1 hf1 => ?_) (fun x a1 w1 hf1 => ?_) _ _ _ hops'
            · obtain ⟨he1, ρ1, hn1, hat1⟩ := Fin.at_nrm hb hf1
              have he1' : e1 = .nrm := he1
              subst he1'
              rcases h4 with ⟨_, h4⟩ | ⟨hne, _⟩
              · exact wpS_of_wp (wp_mono (code_sound hc hd hr hat1 h4) fun x a2 w2 hf2 => hend hs (Fin.mono hn1 hf2))
              · exact absurd rfl hne
            · rcases h4 with ⟨rfl, h4⟩ | ⟨hne, h4⟩
              · cases x with
                | normal =>
                  obtain ⟨he1, ρ1, hn1, hat1⟩ := Fin.at_nrm hb hf1
                  exact wpS_of_wp (wp_mono (code_sound hc hd hr hat1 h4) fun x a2 w2 hf2 => hend hs (Fin.mono hn1 hf2))
                | _ => obtain ⟨ρ', _, _, h5⟩ := hf1; exact h5.elim
              · obtain ⟨hx, hf2⟩ := Fin.of_ne hne hf1
                have h6 := hend (u' := u') hs (h4 ▸ hf2)
                cases x with
                | normal => exact absurd rfl hx
                | _ => exact h6
          · exact nomatch hcomp
        · exact nomatch hcomp
      · exact nomatch hcomp
    · exact nomatch hcomp
  · exact nomatch hcomp
def FinD (P : Program) (base nt : Nat) (ρ : Map) (st : St) (w : World) (od : Option V) (r : Ex × Tr V × St) (x : Exit) (a : Act) (w' : World) : Prop :=
  match od with
  | none => Fin P base nt [] ρ st w r x a w'
  | some dv => ∃ g cs cs' ρ1 s1 w1, dv = .func g cs ∧ VRs ρ1 s1.next cs cs' ∧ Now P base ρ st w ρ1 s1 w1 ∧ Fin P base nt [{ target := .fn (.func g) cs'.toArray, args := #[] }] ρ1 s1 w1 r x a w'
theorem FinD.mono {ρ1 : Map} {st1 : St} {w1 : World} {od : Option V} {r : Ex × Tr V × St} (h : Now P base ρ st w ρ1 st1 w1) {e : Exit} {a : Act} {w' : World} (hf : FinD P base nt ρ1 st1 w1 od r e a w') : FinD P base nt ρ st w od r e a w' := by
  cases od with
  | none => exact Fin.mono h hf
  | some dv =>
    obtain ⟨g, cs, cs', ρ2, s2, w2, h1, h2, h3, h4⟩ := hf
    exact ⟨g, cs, cs', ρ2, s2, w2, h1, h2, h.trans h3, h4⟩
def SoundD (P : Program) (base nt : Nat) (run : Tr V → St → Option (Option V × Ex × Tr V × St)) (c : Code) : Prop :=
  ∀ ⦃ρ : Map⦄ ⦃st : St⦄ ⦃w : World⦄ ⦃tm : Tr V⦄ ⦃a : Act⦄ ⦃od : Option V⦄ ⦃r : Ex × Tr V × St⦄, At P base [] ρ st w nt tm a → run tm st = some (od, r) → c.wp P (FinD P base nt ρ st w od r) a w
theorem dPre_sound {x y : Code} {ra : CEv} {rk : DEv} {n : Nat} (h1 : Sound P base nt [] (ra call n) x) (h2 : SoundD P base nt (rk call n) y) : SoundD P base nt (dPre ra rk call n) (.seq x y) := by
  intro ρ st w tm a od r hat hr
  obtain ⟨⟨e, tm1, st1⟩, h3, h4⟩ := orec_none (show (Option.rec none (fun p => Prod.rec (fun e q => Prod.rec (fun tm' st' => Ex.rec (rk call n tm' st') (fun _ => none) (some (none, .ret, tm', st')) (fun v => some (none, .pan v, tm', st')) e) q) p) (ra call n tm st) : Option (Option V × Ex × Tr V × St)) = some (od, r) from hr)
  refine wp_seq (wp_mono (h1 hat h3) fun z a1 w1 hf => ?_)
  cases e with
  | nrm =>
    cases z with
    | normal =>
      obtain ⟨_, ρ1, hn, hat1⟩ := Fin.at_nrm hat.hb hf
      exact wp_mono (h2 hat1 h4) fun x a2 w2 hf2 => FinD.mono hn hf2
    | _ => obtain ⟨ρ', _, _, h5⟩ := hf; exact h5.elim
  | exit id => exact nomatch h4
  | ret =>
    obtain ⟨rfl, rfl⟩ := Prod.mk.inj (Option.some.inj h4)
    obtain ⟨hz, hf2⟩ := Fin.of_ne (by simp) hf
    exact then_of_ne hz hf2
  | pan v =>
    obtain ⟨rfl, rfl⟩ := Prod.mk.inj (Option.some.inj h4)
    obtain ⟨hz, hf2⟩ := Fin.of_ne (by simp) hf
    exact then_of_ne hz hf2
theorem exec_defer {o : Oper} {c : Call} {y : Operand} {g : Nat} {cs : Array Value} (ho : o.op = .defer c) (hcl : c.callee = .value y) (hargs : c.args.toList = []) (hy : a.eval y = .func (.func g) #[] cs) :
    (execOp a.eval o).run P w = .ok (.defer { target := .fn (.func g) cs, args := #[] }) w := by
  have h : execOp a.eval o = (do pure (Next.defer (← resolve a.eval c o.type))) := by unfold execOp; rw [ho]
  have ha : c.args = #[] := by apply Array.toList_inj.1; rw [hargs]
  have h2 : resolve a.eval c o.type = pure { target := .fn (.func g) cs, args := #[] } := by unfold resolve; rw [hcl, ha]; simp [hy, Deferred.ofValue]
  rw [h, h2]
  rfl
theorem upon_mono2 {o : Oper} {Q Q' : Exit → Act → World → Prop} {next next' : Act → World → Prop} (hq : ∀ e a w, e ≠ .normal → Q e a w → Q' e a w) (hn : ∀ a w, next a w → next' a w) (h : o.wp P a w next Q) : o.wp P a w next' Q' := by
  unfold Oper.wp at *
  generalize (execOp a.eval o).run P w = r at *
  cases r with
  | ok n w' =>
    cases n <;> simp only [Oper.upon] at h ⊢ <;>
      first
        | exact hn _ _ h
        | exact Calls.mono h (fun e w'' he => by
            cases e with
            | returned v => exact hn _ _ he
            | panicked c => exact hq _ _ _ (by simp) he
            | outgrown => obtain ⟨a0, w0, h0⟩ := he; exact ⟨a0, w0, hq _ _ _ (by simp) h0⟩)
        | exact Rows.mono h (fun _ _ he => hn _ _ he)
        | exact h
  | halt x w' => cases x <;> simp only [Oper.upon] at h ⊢ <;> first | exact hq _ _ _ (by simp) h | exact h
theorem opsN_mono2 {Q Q' : Exit → Act → World → Prop} {next next' : Act → World → Prop} {ops : Array Oper} (hq : ∀ e a w, e ≠ .normal → Q e a w → Q' e a w) (hn : ∀ a w, next a w → next' a w) : ∀ (l : List Nat) (a : Act) (w : World), opsN P ops Q next l a w → opsN P ops Q' next' l a w
  | [], a, w, h => hn _ _ h
  | i :: l, a, w, h => by
    simp only [opsN] at h ⊢
    split
    · rename_i hi; rw [hi] at h; exact opsN_mono2 hq hn l a w h
    · rename_i o hi
      rw [hi] at h
      split
      · rename_i hw
        simp only [hw, if_true] at h
        exact upon_mono2 hq (fun a w => opsN_mono2 hq hn l a w) h
      · rename_i hw
        simp only [hw] at h
        exact opsN_mono2 hq hn l _ w h
theorem dfr_sound (hc : CallOk P call) (hd : DrawOk P call) {n : Nat} {ops : Array Oper} {o : Oper} {c : Call} {y : Operand} {b : Code} {id : Nat} {os : List O} {x : X} {r' : C} (hlast : ops.toList.getLast? = some o) (ho : o.op = .defer c) (hcl : c.callee = .value y) (hargs : c.args.toList = []) (hg : o.guard = none) (hdst : o.dst = none)
    (hos : compOs P nt ops ops.toList.dropLast = some os) (hx : compX P y = some x) (hr' : comp P nt b = some r') : SoundD P base nt ((CD.dfr os x r').ev call n) (.seq (.region id ops false) b) := by
  intro ρ st w tm a od r hat hr
  obtain ⟨⟨e, tm1, st1⟩, h3, h4⟩ := orec_none (show (Option.rec none (fun p => Prod.rec (fun e q => Prod.rec (fun tm' st' => Ex.rec ((x.ev tm').onFunc none (fun g cs => Option.rec none (fun q => some (some (.func g cs), q)) (r'.ev call n tm' st'))) (fun _ => none) none (fun v => some (none, .pan v, tm', st')) e) q) p)
    (evO os call tm st) : Option (Option V × Ex × Tr V × St)) = some (od, r) from hr)
  have hsplit : ops.toList = ops.toList.dropLast ++ [o] := by
    obtain ⟨l, hl⟩ := List.getLast?_eq_some_iff.1 hlast
    rw [hl]; simp
  have hlen : ops.size = ops.toList.dropLast.length + 1 := by
    have := congrArg List.length hsplit
    simpa using this
  have hidx : ∀ j o', ops.toList.dropLast[j]? = some o' → ops[0 + j]? = some o' := fun j o' hj => by
    have h5 : ops.toList[j]? = some o' := by
      rw [hsplit, List.getElem?_append_left (List.getElem?_eq_some_iff.1 hj).1]
      exact hj
    rw [Nat.zero_add]; simpa using h5
  have ho2 : ops[ops.toList.dropLast.length]? = some o := by
    have h5 : ops.toList[ops.toList.dropLast.length]? = some o := by
      rw [hsplit]; simp
    simpa using h5
  have hops := ops_sound hc ops ops.toList.dropLast 0 os hos hidx hat h3
  refine wp_seq (wp_region (opsN_wpOps _ _ _ ?_))
  rw [hlen, List.range_eq_range', List.range'_concat, opsN_append]
  refine opsN_mono2 (fun z a1 w1 hz hf => ?_) (fun a1 w1 hf => ?_) _ _ _ hops
  · cases e with
    | nrm =>
      cases z with
      | normal => exact absurd rfl hz
      | _ => obtain ⟨ρ', _, _, h5⟩ := hf; exact h5.elim
    | exit id => exact nomatch h4
    | ret => exact nomatch h4
    | pan v =>
      obtain ⟨rfl, rfl⟩ := Prod.mk.inj (Option.some.inj h4)
      exact then_of_ne hz hf
  · obtain ⟨he1, ρ1, hn1, hat1⟩ := Fin.at_nrm hat.hb hf
    have he1' : e = .nrm := he1
    subst he1'
    obtain ⟨g, cs, hdv, h5⟩ := onFunc_some (show (x.ev tm1).onFunc none (fun g cs => Option.rec none (fun q => some (some (V.func g cs), q)) (r'.ev call n tm1 st1)) = some (od, r) from h4)
    obtain ⟨r1, h6, h7⟩ := orec_none h5
    obtain ⟨rfl, rfl⟩ := Prod.mk.inj (Option.some.inj h7)
    have hy := hat1.ctx.opd hx
    rw [hdv] at hy
    obtain ⟨cs', hy2, hcs⟩ := hy.func_inv
    simp only [opsN, Nat.zero_add, Nat.one_mul, ho2]
    have hwant : Region.wanted o (yielded ops a1.tmps) = true := by simp [Region.wanted, hg]
    rw [if_pos hwant]
    unfold Oper.wp
    rw [exec_defer ho hcl hargs hy2]
    show b.wp P _ (({ a1 with defers := { target := .fn (.func g) cs'.toArray, args := #[] } :: a1.defers } : Act).put o.dst Go.undef) w1
    rw [hdst, hat1.nod]
    have hat2 : At P base [{ target := .fn (.func g) cs'.toArray, args := #[] }] ρ1 st1 w1 nt tm1 ({ tmps := a1.tmps, defers := [{ target := .fn (.func g) cs'.toArray, args := #[] }] } : Act) := ⟨⟨hat1.ctx.rel, hat1.ctx.tms⟩, hat1.hb, rfl⟩
    exact wp_mono (code_sound hc hd hr' hat2 h6) fun z a2 w2 hf2 => ⟨g, cs, cs', ρ1, st1, w1, rfl, hcs, hn1, hf2⟩
theorem compD_sound (hc : CallOk P call) (hd : DrawOk P call) {n : Nat} : ∀ {c : Code} {cd : CD}, compD P nt c = some cd → SoundD P base nt (cd.ev call n) c
  | .seq x b, cd, h => by
    have plain : (do pure (CD.pre (← comp P nt x) (← compD P nt b)) : Option CD) = some cd → SoundD P base nt (cd.ev call n) (.seq x b) := fun h' => by
      obtain ⟨x', hx, h'⟩ := bind_some' h'
      obtain ⟨k', hk, h'⟩ := bind_some' h'
      obtain rfl := Option.some.inj h'
      exact dPre_sound (code_sound hc hd hx) (compD_sound hc hd hk)
    cases x with
    | region id ops draw =>
      cases draw with
      | true => exact plain h
      | false =>
        have h' : (match ops.toList.getLast? with
          | some o => match o.op with
            | .defer c => match c.callee, c.args.toList, o.guard, o.dst with
              | .value y, [], none, none => do pure (.dfr (← compOs P nt ops ops.toList.dropLast) (← compX P y) (← comp P nt b))
              | _, _, _, _ => none
            | _ => do pure (.pre (← comp P nt (.region id ops false)) (← compD P nt b))
          | none => none) = some cd := h
        split at h'
        · rename_i o hlast
          split at h'
          · rename_i c ho
            split at h'
            · rename_i y hcl hargs hg hdst
              obtain ⟨os, hos, h'⟩ := bind_some' h'
              obtain ⟨z, hz, h'⟩ := bind_some' h'
              obtain ⟨r', hr', h'⟩ := bind_some' h'
              obtain rfl := Option.some.inj h'
              exact dfr_sound hc hd hlast ho hcl hargs hg hdst hos hz hr'
            · exact nomatch h'
          · exact plain h'
        · exact nomatch h'
    | _ => exact plain h
  | .skip, cd, h => nomatch h
  | .region _ _ _, cd, h => nomatch h
  | .cond _ _ _, cd, h => nomatch h
  | .block _ _, cd, h => nomatch h
  | .loop _, cd, h => nomatch h
  | .rangeFunc _ _ _ _, cd, h => nomatch h
  | .exit _, cd, h => nomatch h
  | .scope _, cd, h => nomatch h
  | .label _, cd, h => nomatch h
  | .goto _, cd, h => nomatch h
  | .ret, cd, h => nomatch h
  | .refuse _, cd, h => nomatch h
theorem enterD_sound {fns : Tr Fs} (ht : TableOk P fns) (hc : CallOk P call) (hd : DrawOk P call) {f : Nat} {rs : List RV} {b : DEv} (hf : FOk P f (.dfr rs b)) {n : Nat} {args : List V} {args' : List Value} {r : CR} (h : enterD fns call n rs b args st = some (r, st'))
    (hrel : Rel P base ρ st w) (hb : base ≤ w.heap.size) (hargs : VRs ρ st.next args args') : FnOk P f ∧ Calls P f args'.toArray w (Came P base ρ st w r st') := by
  obtain ⟨fn, cd, hfn, hname, hcomp, rfl⟩ := hf
  unfold compFD at hcomp
  obtain ⟨c, hbody, hcomp⟩ := bind_some' hcomp
  obtain ⟨cd', hcd, hcomp⟩ := bind_some' hcomp
  obtain ⟨rs', hres, hcomp⟩ := bind_some' hcomp
  obtain ⟨rfl, rfl⟩ := Prod.mk.inj (Option.some.inj hcomp)
  refine ⟨⟨fn, hfn, hname, by rw [hbody]; rfl⟩, calls_of_wp_defers hfn hbody ?_⟩
  obtain ⟨⟨od, e, tm1, st1⟩, h3, h4⟩ := orec_none (show (Option.rec none (fun p => Prod.rec (fun od q => Prod.rec (fun e q2 => Prod.rec (fun tm1 st1 =>
    Option.rec (leaveF st rs' (some (e, tm1, st1))) (fun dv => deferD fns call n rs' st e tm1 st1 dv) od) q2) q) p) (cd'.ev call n (initT args 0 .leaf) { next := st.next, low := st.next, mem := st.mem }) : Option (CR × St)) = some (r, st') from h)
  have hat : At P base [] ρ { next := st.next, low := st.next, mem := st.mem } w fn.ntmps (initT args 0 .leaf) { tmps := args'.toArray ++ Array.replicate (fn.ntmps - args'.toArray.size) Go.undef, defers := [] } :=
    ⟨⟨hrel.low _, init_tms hargs⟩, hb, rfl⟩
  refine wp_mono (compD_sound hc hd hcd hat h3) fun x a w' hf => ?_
  have hend : ∀ {ρ' : Map} {s2 : St} {w2 : World}, Now P base ρ { next := st.next, low := st.next, mem := st.mem } w ρ' s2 w2 → TmW ρ' s2.next fn.ntmps tm1 a.tmps → endF st tm1 s2 rs' = some (r, st') →
      ∃ v, (results fn a.tmps).run P w2 = .ok v w2 ∧ Came P base ρ st w r st' (.returned v) w2 := by
    intro ρ' s2 w2 hn htm hr
    obtain ⟨v, hv, h5⟩ := orec_none hr
    obtain ⟨rfl, rfl⟩ := Prod.mk.inj (Option.some.inj h5)
    obtain ⟨v', h6, h7⟩ := res_ok (a := a) hn.rel htm hres hv
    obtain ⟨h8, h9, h10, h11⟩ := back_came (r := .ret v) hrel hn
    exact ⟨v', h6, ρ', ⟨hn.ext, h8, h9, hn.below, h11⟩, h10 v v' (.inl rfl) h7⟩
  cases od with
  | none =>
    obtain ⟨ρ', hn, hnod, h5⟩ := hf
    cases e with
    | nrm => cases x with
      | normal => show Leaves P fn a.tmps _ a.defers .returning w'; rw [hnod]; exact hend hn h5.weak h4
      | _ => exact h5.elim
    | exit id => exact nomatch h4
    | ret => cases x with
      | ret => show Leaves P fn a.tmps _ a.defers .returning w'; rw [hnod]; exact hend hn h5.weak h4
      | _ => exact h5.elim
    | pan v => cases x with
      | panic chain =>
        obtain ⟨v', rfl, h6, _⟩ := h5
        obtain ⟨rfl, rfl⟩ := Prod.mk.inj (Option.some.inj h4)
        obtain ⟨h8, h9, h10, h11⟩ := back_came (r := .pan v) hrel hn
        show Leaves P fn a.tmps _ a.defers (.panicking _) w'
        rw [hnod]
        exact ⟨ρ', ⟨hn.ext, h8, h9, hn.below, h11⟩, v', rfl, h10 v v' (.inr rfl) h6⟩
      | _ => exact h5.elim
  | some dv =>
    obtain ⟨g, cs, cs', ρ1, s1, w1, rfl, hcs, hn1, ρ', hn2, hnod, h5⟩ := hf
    obtain ⟨rv, hrv, h6⟩ := orec_none (show (Option.rec none (fun rv => (Option.rec none (fun fs => Fs.rec (fun _ _ => none) (fun _ => none) (fun _ _ => none)
      (fun t0 b => Option.rec none (fun st2 => endF st tm1 st2 rs') (enterR call n t0 b rv cs st1)) (fun _ => none) (fun _ => none) fs) (fns.get g) : Option (CR × St))) (recV e) : Option (CR × St)) = some (r, st') from h4)
    obtain ⟨fs, hfs, h7⟩ := orec_none h6
    have hg := ht g fs hfs
    cases fs with
    | mk _ _ => exact nomatch h7
    | ext _ => exact nomatch h7
    | dfr _ _ => exact nomatch h7
    | spec _ => exact nomatch h7
    | memo _ => exact nomatch h7
    | rcv t0 b' =>
      obtain ⟨st2, h8, h9⟩ := orec_none (show (Option.rec none (fun st2 => endF st tm1 st2 rs') (enterR call n t0 b' rv cs st1) : Option (CR × St)) = some (r, st') from h7)
      have hgok : FnOk P g := by
        obtain ⟨gn, gc, h10, h11, h12, _⟩ := hg
        refine ⟨gn, h10, h11, ?_⟩
        unfold compFR at h12
        obtain ⟨gb, h13, _⟩ := bind_some' h12
        rw [h13]; rfl
      have hcs2 : VRs ρ' st1.next cs cs' := hcs.mono hn2.ext hn2.turn.next
      have key : ∀ {u : FrameMode}, u ≠ .run → RecAt ρ' st1.next rv u → TmW ρ' st1.next fn.ntmps tm1 a.tmps → Leaves P fn a.tmps (Came P base ρ st w r st') a.defers u w' := by
        intro u hu hrec htm
        rw [hnod]
        refine leaves_cons (f := g) (args := cs'.toArray) hu ?_ (CallsD.mono (rcv_sound hc hd hg h8 hn2.rel (size_le (size_le hb hn1.below) hn2.below) hcs2 hrec) fun e' u' w2 hw2 => ?_)
        · have := run_callFunc (P := P) (w := w') hgok (#[] ++ cs'.toArray)
          show (callFunc g (#[] ++ cs'.toArray)).run P w' = _
          rw [this]; simp
        · obtain ⟨⟨v0, rfl⟩, hs, ρ2, hn3⟩ := hw2
          show Leaves P fn a.tmps _ [] (settle u') w2
          rw [hs]
          exact hend ((hn1.trans hn2).trans hn3) (hn3.tmsW htm) h9
      cases e with
      | nrm => cases x with
        | normal => exact key (by simp) (.inl ⟨rfl, (Option.some.inj hrv).symm⟩) h5.weak
        | _ => exact h5.elim
      | exit id => exact nomatch hrv
      | ret => cases x with
        | ret => exact key (by simp) (.inl ⟨rfl, (Option.some.inj hrv).symm⟩) h5.weak
        | _ => exact h5.elim
      | pan v => cases x with
        | panic chain =>
          obtain ⟨v', rfl, h10, h11⟩ := h5
          obtain rfl := Option.some.inj hrv
          exact key (by simp) (.inr ⟨v', rfl, h10⟩) h11
        | _ => exact h5.elim
theorem enterF_sound {call : Callee} (ih : CallOk P call) (hd : DrawOk P call) {f n : Nat} {rs0 : List RV} {b0 : CEv} (hentry : FOk P f (.mk rs0 b0)) {args : List V} {st st' : St} {r : CR} (h1 : enterF call n rs0 b0 args st = some (r, st')) : CallAt P f args st r st' := by
  intro base ρ w args' hrel hb hargs
  obtain ⟨fn, ir, hf, hname, hcomp, hrs, hbd⟩ := hentry
  obtain rfl : rs0 = ir.rs := hrs
  obtain rfl : b0 = ir.b.ev := hbd
  unfold compF at hcomp
  obtain ⟨c, hbody, hcomp⟩ := bind_some' hcomp
  obtain ⟨b, hcb, hcomp⟩ := bind_some' hcomp
  obtain ⟨rs, hres, hcomp⟩ := bind_some' hcomp
  obtain rfl := Option.some.inj hcomp
  refine ⟨⟨fn, hf, hname, by rw [hbody]; rfl⟩, calls_of_wp hf hbody ?_⟩
  have h2 : leaveF st rs (b.ev call n (initT args 0 .leaf) { next := st.next, low := st.next, mem := st.mem }) = some (r, st') := h1
  obtain ⟨⟨e, tm1, st1⟩, h3, h4⟩ := orec_none h2
  have hat : At P base [] ρ { next := st.next, low := st.next, mem := st.mem } w fn.ntmps (initT args 0 .leaf) { tmps := args'.toArray ++ Array.replicate (fn.ntmps - args'.toArray.size) Go.undef, defers := [] } :=
    ⟨⟨hrel.low _, init_tms hargs⟩, hb, rfl⟩
  refine wp_mono (code_sound ih hd hcb hat h3) fun x a w' hf => ?_
  have hend : ∀ ρ', Now P base ρ { next := st.next, low := st.next, mem := st.mem } w ρ' st1 w' → a.defers = [] → TmR ρ' st1.next fn.ntmps tm1 a.tmps → endF st tm1 st1 rs = some (r, st') →
      a.defers = [] ∧ ∃ v, (results fn a.tmps).run P w' = .ok v w' ∧ Came P base ρ st w r st' (.returned v) w' := by
    intro ρ' hn hnod htm hr
    obtain ⟨v, hv, h5⟩ := orec_none hr
    obtain ⟨rfl, rfl⟩ := Prod.mk.inj (Option.some.inj h5)
    obtain ⟨v', h6, h7⟩ := res_ok (a := a) hn.rel htm.weak hres hv
    obtain ⟨h8, h9, h10, h11⟩ := back_came (r := .ret v) hrel hn
    exact ⟨hnod, v', h6, ρ', ⟨hn.ext, h8, h9, hn.below, h11⟩, h10 v v' (.inl rfl) h7⟩
  obtain ⟨ρ', hn, hnod, h5⟩ := hf
  cases e with
  | nrm => cases x with
    | normal => exact hend ρ' hn hnod h5 h4
    | _ => exact h5.elim
  | exit id => exact nomatch h4
  | ret => cases x with
    | ret => exact hend ρ' hn hnod h5 h4
    | _ => exact h5.elim
  | pan v => cases x with
    | panic chain =>
      obtain ⟨v', rfl, h6, _⟩ := h5
      obtain ⟨rfl, rfl⟩ := Prod.mk.inj (Option.some.inj h4)
      obtain ⟨h8, h9, h10, h11⟩ := back_came (r := .pan v) hrel hn
      exact ⟨hnod, ρ', ⟨hn.ext, h8, h9, hn.below, h11⟩, v', rfl, h10 v v' (.inr rfl) h6⟩
    | _ => exact h5.elim
theorem evF_sound {fns : Tr Fs} (ht : TableOk P fns) (hd : ∀ call, CallOk P call → DrawOk P call) : ∀ n, CallOk P (evF fns n)
  | 0 => by
    intro base f args st st' r ρ w args' h
    exact nomatch h
  | n + 1 => by
    intro base f args st st' r ρ w args' h hrel hb hargs
    obtain ⟨fs, hfs, h1⟩ := orec_none (show (Option.rec none (fun fn => Fs.rec (fun rs b => enterF (evF fns n) n rs b args st) (fun k => Option.rec none (fun v => some (.ret v, st)) (evX k args)) (fun rs b => enterD fns (evF fns n) n rs b args st) (fun _ _ => none) (fun g => Option.rec none (fun v => some (.ret v, st)) (g args st)) (fun g => g args st) fn) (fns.get f) : Option (CR × St)) = some (r, st') from h)
    have hentry := ht f fs hfs
    cases fs with
    | ext k =>
      obtain ⟨v, hv, h2⟩ := orec_none (show (Option.rec none (fun v => some (CR.ret v, st)) (evX k args) : Option (CR × St)) = some (r, st') from h1)
      obtain ⟨rfl, rfl⟩ := Prod.mk.inj (Option.some.inj h2)
      obtain ⟨v', h3, h4⟩ := ext_ok (w := w) hentry hv hargs
      exact .inr ⟨v, v', rfl, rfl, h3, h4⟩
    | rcv t0 b => exact nomatch h1
    | spec g =>
      obtain ⟨v, hv, h2⟩ := orec_none (show (Option.rec none (fun v => some (CR.ret v, st)) (g args st) : Option (CR × St)) = some (r, st') from h1)
      obtain ⟨rfl, rfl⟩ := Prod.mk.inj (Option.some.inj h2)
      exact .inl (hentry hv hrel hb hargs)
    | memo g => exact .inl (hentry (show g args st = some (r, st') from h1) hrel hb hargs)
    | dfr rs0 b0 => exact .inl (enterD_sound ht (evF_sound ht hd n) (hd _ (evF_sound ht hd n)) hentry h1 hrel hb hargs)
    | mk rs0 b0 => exact .inl (enterF_sound (evF_sound ht hd n) (hd _ (evF_sound ht hd n)) hentry h1 hrel hb hargs)
theorem sound {P : Program} (hm : P.follows .mixedOrders = true) {fns : Tr Fs} (ht : TableOk P fns) (n : Nat) : CallOk P (evF fns n) := evF_sound ht (drawOk hm) n
end
end Go.Proofs.YtnebopkgnkemiaaGreatDoor.Av
namespace Go.Proofs.YtnebopkgnkemiaaGreatDoor.Av
set_option linter.unusedVariables false
open Go Go.RowKit
def AllT {α : Type} : (Nat → α → Prop) → Tr α → Prop
  | _, .leaf => True
  | Q, .node l o r => AllT (fun n => Q (2 * n + 1)) l ∧ (∀ x, o = some x → Q 0 x) ∧ AllT (fun n => Q (2 * n + 2)) r
theorem AllT.get {α : Type} : ∀ {t : Tr α} {Q : Nat → α → Prop}, AllT Q t → ∀ n x, t.get n = some x → Q n x
  | .leaf, Q, _, n, x, h => by rw [get_leaf] at h; exact nomatch h
  | .node l o r, Q, ⟨h1, h2, h3⟩, n, x, h => by
    rw [get_node] at h
    split at h
    · rename_i h0; subst h0; exact h2 x h
    · split at h
      · rename_i h0 h4
        have := AllT.get h1 _ x h
        rwa [show 2 * (n / 2) + 1 = n by omega] at this
      · rename_i h0 h4
        have := AllT.get h3 _ x h
        rwa [show 2 * (n / 2 - 1) + 2 = n by omega] at this
theorem no_entry {Q : Fs → Prop} : ∀ x, (none : Option Fs) = some x → Q x := fun x h => nomatch h
theorem an_entry {Q : Fs → Prop} {fs : Fs} (h : Q fs) : ∀ x, (some fs : Option Fs) = some x → Q x := fun x e => by cases e; exact h
theorem tableOk {P : Program} {fns : Tr Fs} (h : AllT (FOk P) fns) : TableOk P fns := fun f fs hf => AllT.get h f fs hf
theorem fokM {P : Program} {f : Nat} {fn : Func} {fs : Fs} (h1 : P.funcs[f]? = some fn) (h2 : (fn.name == "runtime.NumGoroutine") = false) (h3 : (compF P fn).map (fun ir => Fs.mk ir.rs ir.b.ev) = some fs) : FOk P f fs := by
  obtain ⟨ir, h4, rfl⟩ := Option.map_eq_some_iff.1 h3
  exact ⟨fn, ir, h1, h2, h4, rfl, rfl⟩
theorem fokD {P : Program} {f : Nat} {fn : Func} {fs : Fs} (h1 : P.funcs[f]? = some fn) (h2 : (fn.name == "runtime.NumGoroutine") = false) (h3 : (compFD P fn).map (fun x => Fs.dfr x.1 x.2.ev) = some fs) : FOk P f fs := by
  obtain ⟨x, h4, rfl⟩ := Option.map_eq_some_iff.1 h3
  exact ⟨fn, x.2, h1, h2, h4, rfl⟩
theorem fokR {P : Program} {f : Nat} {fn : Func} {fs : Fs} (h1 : P.funcs[f]? = some fn) (h2 : (fn.name == "runtime.NumGoroutine") = false) (h3 : (compFR P fn).map (fun x => Fs.rcv x.1 x.2.ev) = some fs) : FOk P f fs := by
  obtain ⟨x, h4, rfl⟩ := Option.map_eq_some_iff.1 h3
  exact ⟨fn, x.2, h1, h2, h4, rfl⟩
noncomputable def noF : Fs := .spec (fun _ _ => none)
noncomputable def cF (P : Program) (fn : Func) : Fs := match compF P fn with
  | some ir => .mk ir.rs ir.b.ev
  | none => noF
noncomputable def cD (P : Program) (fn : Func) : Fs := match compFD P fn with
  | some x => .dfr x.1 x.2.ev
  | none => noF
noncomputable def cR (P : Program) (fn : Func) : Fs := match compFR P fn with
  | some x => .rcv x.1 x.2.ev
  | none => noF
theorem noF_ok (P : Program) (f : Nat) : FOk P f noF := by
  intro base args st v ρ w args' h
  exact nomatch h
theorem fokC {P : Program} {f : Nat} {fn : Func} (h1 : P.funcs[f]? = some fn) (h2 : (fn.name == "runtime.NumGoroutine") = false) : FOk P f (cF P fn) := by
  unfold cF
  split
  · rename_i ir h; exact ⟨fn, ir, h1, h2, h, rfl, rfl⟩
  · exact noF_ok P f
theorem fokCD {P : Program} {f : Nat} {fn : Func} (h1 : P.funcs[f]? = some fn) (h2 : (fn.name == "runtime.NumGoroutine") = false) : FOk P f (cD P fn) := by
  unfold cD
  split
  · rename_i x h; exact ⟨fn, x.2, h1, h2, h, rfl⟩
  · exact noF_ok P f
theorem fokCR {P : Program} {f : Nat} {fn : Func} (h1 : P.funcs[f]? = some fn) (h2 : (fn.name == "runtime.NumGoroutine") = false) : FOk P f (cR P fn) := by
  unfold cR
  split
  · rename_i x h; exact ⟨fn, x.2, h1, h2, h, rfl⟩
  · exact noF_ok P f
end Go.Proofs.YtnebopkgnkemiaaGreatDoor.Av
namespace Go.Proofs.YtnebopkgnkemiaaGreatDoor.Av
set_option linter.unusedVariables false
set_option linter.unusedSimpArgs false
open Go Go.RowKit
def flat : DataW Unit → Option (List V)
  | .lit (.int k n) => some [.int (codeK k) n]
  | .agg l => flats l
  | _ => none
where
  flats : List (DataW Unit) → Option (List V)
    | [] => some []
    | d :: l => match flat d, flats l with
      | some a, some b => some (a ++ b)
      | _, _ => none
section
variable {P : Program}
def consec (P : Program) : List Field → Nat → Option Nat
  | [], o => some o
  | f :: l, o => if f.offset = o then consec P l (o + P.cellsOf f.type) else none
def okT (P : Program) : Nat → TypeId → Bool
  | 0, _ => false
  | f + 1, t => match P.underlying t with
    | some (.int _) => true
    | some (.array n e) => P.cellsOf t == n * P.cellsOf e && okT P f e
    | some (.struct fs) => consec P fs.toList 0 == some (P.cellsOf t) && fs.toList.all fun x => okT P f x.type
    | _ => false
theorem cs_consec (cs : List Value) : ∀ (l : List Field) (o : Nat), consec P l o = some cs.length → cs.drop o = l.flatMap fun f => (cs.drop f.offset).take (P.cellsOf f.type)
  | [], o, h => by
    obtain rfl := Option.some.inj (show some o = some cs.length from h)
    simp
  | f :: l, o, h => by
    unfold consec at h
    split at h
    · rename_i ho
      rw [List.flatMap_cons, ← cs_consec cs l _ h, ho]
      rw [← List.drop_drop, List.take_append_drop]
    · exact nomatch h
theorem cs_chunks (cs : List Value) (c : Nat) : ∀ n, n * c ≤ cs.length → ((List.range n).flatMap fun i => (cs.drop (i * c)).take c) = cs.take (n * c)
  | 0, _ => by simp
  | n + 1, h => by
    have h1 : n * c ≤ cs.length := by rw [Nat.succ_mul] at h; omega
    rw [List.range_succ, List.flatMap_append, cs_chunks cs c n h1, Nat.succ_mul, List.take_add]
    simp
theorem flats_ok {ρ : Map} {n : Nat} {ι : Type} (c : ι → List Value) (g : ι → Option (DataW Unit × List MemPlace)) :
    ∀ (L : List ι) (xs : List (DataW Unit × List MemPlace)) (vs : List V), (∀ i ∈ L, ∀ x vs, g i = some x → flat x.1 = some vs → VRs ρ n vs (c i) ∧ ∀ u ∈ c i, One u) →
      L.mapM g = some xs → flat.flats (xs.map (·.1)) = some vs → VRs ρ n vs (L.flatMap c) ∧ ∀ u ∈ L.flatMap c, One u
  | [], xs, vs, _, h, hv => by
    obtain rfl := Option.some.inj (show some [] = some xs from h)
    obtain rfl := Option.some.inj (show some [] = some vs from hv)
    exact ⟨.nil, fun u hu => by simp at hu⟩
  | i :: L, xs, vs, hg, h, hv => by
    simp only [List.mapM_cons, Option.bind_eq_bind, Option.bind_eq_some_iff, Option.pure_def, Option.some.injEq] at h
    obtain ⟨x, hx, xs', hxs, rfl⟩ := h
    rw [List.map_cons] at hv
    unfold flat.flats at hv
    split at hv
    · rename_i a b ha hb
      obtain rfl := Option.some.inj hv
      obtain ⟨h1, h2⟩ := hg i (List.mem_cons_self ..) x a hx ha
      obtain ⟨h3, h4⟩ := flats_ok c g L xs' b (fun j hj => hg j (List.mem_cons_of_mem _ hj)) hxs hb
      refine ⟨h1.append h3, fun u hu => ?_⟩
      rw [List.flatMap_cons, List.mem_append] at hu
      exact hu.elim (h2 u) (h4 u)
    · exact nomatch hv
theorem flat_ok {ρ : Map} {m : Nat} {w : World} {base : Nat} {sp : Nat → Bool} {held : Bool} : ∀ (fuel f : Nat) (t : TypeId) (cs : List Value) (x : DataW Unit × List MemPlace) (vs : List V), okT P f t = true →
    DataW.trod (fun _ => ()) P w base sp held fuel t cs = some x → flat x.1 = some vs → VRs ρ m vs cs ∧ ∀ u ∈ cs, One u
  | 0, f, t, cs, x, vs, _, h, _ => by simp [DataW.trod] at h
  | fuel + 1, 0, t, cs, x, vs, ht, _, _ => nomatch ht
  | fuel + 1, f + 1, t, cs, x, vs, ht, h, hv => by
    unfold okT at ht
    split at ht
    · rename_i k hu
      obtain ⟨d, p⟩ := x
      obtain ⟨z, hc, hd, hp⟩ := DataW.trod_int hu h
      obtain ⟨rfl, rfl⟩ := Prod.mk.inj hd
      subst hc
      have hv' : some [V.int (codeK k) z] = some vs := hv
      obtain rfl := Option.some.inj hv'
      exact ⟨.cons (.int k z) .nil, fun u hu' => by simp at hu'; subst hu'; rfl⟩
    · rename_i n e hu
      simp only [Bool.and_eq_true, beq_iff_eq] at ht
      simp only [DataW.trod, hu] at h
      split at h
      · rename_i hl
        obtain ⟨xs, hm, rfl⟩ := Option.map_eq_some_iff.1 h
        have hv' : flat.flats (xs.map (·.1)) = some vs := hv
        have h1 := flats_ok (ρ := ρ) (n := m) (fun i => (cs.drop (i * P.cellsOf e)).take (P.cellsOf e)) _ (List.range n) xs vs (fun i _ x vs h1 h2 => flat_ok fuel f e _ x vs ht.2 h1 h2) hm hv'
        rwa [cs_chunks cs _ n (by omega), List.take_of_length_le (by omega)] at h1
      · exact nomatch h
    · rename_i fs hu
      simp only [Bool.and_eq_true, beq_iff_eq] at ht
      simp only [DataW.trod, hu] at h
      split at h
      · rename_i hl
        obtain ⟨xs, hm, rfl⟩ := Option.map_eq_some_iff.1 h
        have hv' : flat.flats (xs.map (·.1)) = some vs := hv
        have h1 := flats_ok (ρ := ρ) (n := m) (fun (x : Field) => (cs.drop x.offset).take (P.cellsOf x.type)) _ fs.toList xs vs (fun i hi x vs h1 h2 => flat_ok fuel f i.type _ x vs (List.all_eq_true.1 ht.2 i hi) h1 h2) hm hv'
        rwa [← cs_consec cs fs.toList 0 (by rw [ht.1, hl]), List.drop_zero] at h1
      · exact nomatch h
    · exact nomatch ht
def Holds (w : World) (g : Nat) (vs : List V) : Prop := ∃ (c : Array Value) (e' : TypeId) (f : Nat × Nat), w.heap[g]? = some (.cells c e' f) ∧ c.size = vs.length ∧ ∀ (ρ : Map) (n : Nat), VRs ρ n vs c.toList ∧ ∀ u ∈ c.toList, One u
theorem holds_of_reads {w : World} {name : String} {d : DataW Unit} (h : Lib.VarReads P w name d) {g : Nat} {vs : List V} (hg : P.globalNamed name = some g) (ht : ((P.globals[g]?).map fun x => okT P 4 x.type) = some true) (hv : flat d = some vs) : Holds w g vs := by
  obtain ⟨g', t, cs, fuel, p, hg', ht', hvar, hd⟩ := h
  obtain rfl := Option.some.inj (hg.symm.trans hg')
  have hok : okT P 4 t = true := by
    cases hx : P.globals[g]? with
    | none => rw [hx] at ht'; exact nomatch ht'
    | some x =>
      rw [hx] at ht ht'
      obtain rfl := Option.some.inj ht'
      exact Option.some.inj ht
  unfold World.var? at hvar
  rw [hg] at hvar
  simp only [Option.bind_some] at hvar
  split at hvar
  · rename_i c e' f hh
    obtain rfl := Option.some.inj hvar
    refine ⟨c, e', f, hh, ?_, fun ρ n => flat_ok (ρ := ρ) (m := n) fuel 4 t c.toList (d, p) vs hok hd hv⟩
    have := (flat_ok (ρ := ⟨fun _ => ⟨0, 0, 0, 0, true⟩, fun _ => none, fun _ => none⟩) (m := 0) fuel 4 t c.toList (d, p) vs hok hd hv).1.length
    simpa using this.symm
  · exact nomatch hvar
theorem holds_of_iface {w : World} {name nm : String} {d : DataW Unit} (h : Lib.VarReads P w name (.iface nm d)) {g : Nat} (hg : P.globalNamed name = some g) (ht : ((P.globals[g]?).bind fun x => P.underlying x.type).map (fun u => match u with
    | .interface _ => true
    | _ => false) = some true) : Holds w g [.cmp 1 0 []] := by
  obtain ⟨g', t, cs, fuel, p, hg', ht', hvar, hd⟩ := h
  obtain rfl := Option.some.inj (hg.symm.trans hg')
  obtain ⟨ms, hi⟩ : ∃ ms, P.underlying t = some (.interface ms) := by
    cases hx : P.globals[g]? with
    | none => rw [hx] at ht'; exact nomatch ht'
    | some x =>
      rw [hx] at ht ht'
      obtain rfl := Option.some.inj ht'
      cases hu : P.underlying x.type with
      | none => rw [Option.bind_some, hu] at ht; exact nomatch ht
      | some u =>
        rw [Option.bind_some, hu] at ht
        cases u with
        | interface ms => exact ⟨ms, rfl⟩
        | _ => exact nomatch ht
  obtain ⟨T, v, hcs⟩ : ∃ T v, cs.toList = [.iface T v] := by
    cases fuel with
    | zero => simp [DataW.trod] at hd
    | succ fuel =>
      generalize hl : cs.toList = l at hd
      unfold DataW.trod at hd
      rw [hi] at hd
      split at hd <;> simp_all
  unfold World.var? at hvar
  rw [hg] at hvar
  simp only [Option.bind_some] at hvar
  split at hvar
  · rename_i c e' f hh
    obtain rfl := Option.some.inj hvar
    refine ⟨c, e', f, hh, ?_, fun ρ n => ?_⟩
    · have := congrArg List.length hcs
      simpa using this
    · rw [hcs]
      exact ⟨.cons (.wild 0 T v) .nil, fun u hu => by simp at hu; subst hu; rfl⟩
  · exact nomatch hvar
def startMap (w : World) (G : Nat) (more : Nat → Pl) : Map := ⟨fun o => if o < G then ⟨o, 0, ((w.heap[o]?).bind fun | .cells c _ _ => some c.size | _ => none).getD 0, 0, true⟩ else more o, fun _ => none, fun _ => none⟩
theorem startMap_at (w : World) (G : Nat) (more : Nat → Pl) (o : Nat) : startMap w G more o = if o < G then ⟨o, 0, ((w.heap[o]?).bind fun | .cells c _ _ => some c.size | _ => none).getD 0, 0, true⟩ else more o := rfl
def StartOk (w : World) (G : Nat) (o : Nat) : Ob → Prop
  | .cells e vs false => o < G ∧ Holds w o vs ∧ (e = 0 ∨ vs.length = e)
  | _ => False
theorem start_rel {w : World} {mem : Tr Ob} {l : Nat} (h : AllT (StartOk w P.globals.size) mem) (more : Nat → Pl) : Rel P w.heap.size (startMap w P.globals.size more) { next := P.globals.size, low := l, mem := mem } w := by
  have key : ∀ o b, mem.get o = some b → ∃ e vs, b = .cells e vs false ∧ o < P.globals.size ∧ Holds w o vs ∧ (e = 0 ∨ vs.length = e) := by
    intro o b hb
    have := h.get o b hb
    cases b with
    | cells e vs own => cases own with
      | true => exact this.elim
      | false => exact ⟨e, vs, rfl, this⟩
    | iter s pos => exact this.elim
    | map es => exact this.elim
  refine ⟨fun o b hb => ?_, fun o o' b b' _ _ hb hb' hne hown => ?_, fun o b _ hb hown => ?_, ⟨Nat.le_refl _, fun g hg => ?_⟩, (fun _ _ h => nomatch h), (fun _ _ h => nomatch h)⟩
  · obtain ⟨e, vs, rfl, ho, ⟨c, e', f, h1, h2, h3⟩, he⟩ := key o b hb
    refine ⟨ho, fun _ => ⟨c, e', f.1, f.2, ?_, fun j v hv => ?_, ?_, (fun h => nomatch h), fun _ => he.imp id fun he => h2.trans he⟩⟩
    · show w.heap[(startMap w P.globals.size more o).b]? = _
      rw [startMap_at, if_pos ho]; exact h1
    · obtain ⟨h4, h5⟩ := h3 (startMap w P.globals.size more) P.globals.size
      obtain ⟨v', h6, h7⟩ := h4.get j v hv
      refine ⟨v', ?_, h7, h5 v' (List.mem_of_getElem? h6)⟩
      rw [startMap_at, if_pos ho]
      simpa using h6
    · show c.size = (startMap w P.globals.size more o).tot
      rw [startMap_at, if_pos ho, h1]
      rfl
  · obtain ⟨e, vs, rfl, _⟩ := key o b hb
    exact nomatch hown
  · obtain ⟨e, vs, rfl, _⟩ := key o b hb
    exact nomatch hown
  · rw [startMap_at, if_pos hg]
    exact ⟨rfl, rfl, rfl⟩
theorem answers {fns : Tr Fs} (hm : P.follows .mixedOrders = true) (ht : TableOk P fns) {n f : Nat} {rs : List RV} {b : CEv} (hf : fns.get f = some (.mk rs b)) {args : List V} {args' : List Value} {st st' : St} {r : V} {ρ : Map} {w : World}
    (h : evF fns n f args st = some (.ret r, st')) (hrel : Rel P w.heap.size ρ st w) (hargs : VRs ρ st.next args args') :
    Calls P f args'.toArray w fun e w' => ∃ v, e = .returned v ∧ (∃ ρ' m, VR ρ' m r v) ∧ Below w.heap.size w w' := by
  obtain ⟨fn, ir, h1, h2, h3, _⟩ := ht f _ hf
  have hbody : fn.body.isNone = false := by
    unfold compF at h3
    obtain ⟨c, hb, _⟩ := bind_some' h3
    rw [hb]; rfl
  rcases sound hm ht n h hrel (Nat.le_refl _) hargs with ⟨_, h4⟩ | ⟨v, v', _, _, h5, _⟩
  · refine h4.mono fun e w' hc => ?_
    obtain ⟨ρ', hn, hc⟩ := hc
    cases e with
    | returned v => exact ⟨v, rfl, ⟨ρ', _, hc⟩, hn.below⟩
    | _ => exact hc.elim
  · have := run_callFunc (P := P) (w := w) ⟨fn, h1, h2, hbody⟩ args'.toArray
    rw [h5] at this
    exact nomatch this
end
end Go.Proofs.YtnebopkgnkemiaaGreatDoor.Av
namespace Go.Proofs.YtnebopkgnkemiaaGreatDoor.Av
set_option linter.unusedVariables false
set_option linter.unusedSimpArgs false
open Go Go.RowKit
noncomputable def V.fine (v : V) : Bool :=
  V.rec (motive_1 := fun _ => Bool) (motive_2 := fun _ => Bool) (fun _ _ => true) (fun _ => true) (fun _ => true)
    (fun t _ _ _ _ _ => !(Nat.beq t 1 || (Nat.beq t 3 || Nat.beq t 5))) (fun t _ _ h => bif Nat.beq t 6 || Nat.beq t 7 then false else h) true (fun _ _ a b => Bool.rec false b a) v
theorem fine_cmp (t a : Nat) (l : List V) : (V.cmp t a l).fine = bif Nat.beq t 6 || Nat.beq t 7 then false else l.all fun v => v.fine := by
  have key : (V.rec_1 (motive_1 := fun _ => Bool) (motive_2 := fun _ => Bool) (fun _ _ => true) (fun _ => true) (fun _ => true)
    (fun t _ _ _ _ _ => !(Nat.beq t 1 || (Nat.beq t 3 || Nat.beq t 5))) (fun t _ _ h => bif Nat.beq t 6 || Nat.beq t 7 then false else h) true (fun _ _ a b => Bool.rec false b a) l : Bool) = l.all fun v => v.fine := by
    induction l with
    | nil => rfl
    | cons v l ih =>
      rw [List.all_cons, ← ih]
      show (Bool.rec false _ (v.fine) : Bool) = _
      cases v.fine <;> rfl
  show (bif Nat.beq t 6 || Nat.beq t 7 then false else V.rec_1 (motive_1 := fun _ => Bool) (motive_2 := fun _ => Bool) (fun _ _ => true) (fun _ => true) (fun _ => true)
    (fun t _ _ _ _ _ => !(Nat.beq t 1 || (Nat.beq t 3 || Nat.beq t 5))) (fun t _ _ h => bif Nat.beq t 6 || Nat.beq t 7 then false else h) true (fun _ _ a b => Bool.rec false b a) l : Bool) = _
  rw [key]
theorem fine_ref {t o i m c : Nat} {x : Bool} (h : (V.ref t o i m c x).fine = true) : t ≠ 1 ∧ t ≠ 3 ∧ t ≠ 5 := by
  have h' : (!(Nat.beq t 1 || (Nat.beq t 3 || Nat.beq t 5))) = true := h
  refine ⟨fun e => ?_, fun e => ?_, fun e => ?_⟩ <;> (subst e; exact nomatch h')
def FzLe (ρ ρ' : Map) : Prop := ∀ b x, ρ.fz b = some x → ρ'.fz b = some x
theorem Fz.le {ρ ρ' : Map} (he : FzLe ρ ρ') {a : Addr} {l' : List Value} (h : Fz 4 ρ a l') : Fz 4 ρ' a l' := h.mono he (fun _ _ h => absurd h (by decide))
mutual
theorem VR.flat {ρ ρ' : Map} {n n' : Nat} (he : FzLe ρ ρ') : ∀ {v : V} {v' : Value}, VR ρ n v v' → v.fine = true → VR ρ' n' v v'
  | _, _, .int k i, _ => .int k i
  | _, _, .str s, _ => .str s
  | _, _, .bool b, _ => .bool b
  | _, _, .nilPtr, _ => .nilPtr
  | _, _, .ptr o i h, hu => absurd rfl (fine_ref hu).1
  | _, _, .nilSlice, _ => .nilSlice
  | _, _, .slice o i len cap x a c h h1 h2 h3 h4 h5, hu => absurd rfl (fine_ref hu).2.1
  | _, _, .nilMap, _ => .nilMap
  | _, _, .map o h, hu => absurd rfl (fine_ref hu).2.2
  | _, _, .nilFunc, _ => .nilFunc
  | _, _, .func f l l' h, hu => .func f l l' (VRs.flat he h (by rw [fine_cmp] at hu; exact hu))
  | _, _, .nilIface, _ => .nilIface
  | _, _, .iface t v v' h, hu => .iface t v v' (VR.flat he h (by
      rw [fine_cmp] at hu
      have hu' : ([v].all fun v => v.fine) = true := hu
      simpa using hu'))
  | _, _, .wild t t' v', _ => .wild t t' v'
  | _, _, .agg l l' h h1, hu => .agg l l' (VRs.flat he h (by rw [fine_cmp] at hu; exact hu)) h1
  | _, _, .tup l l' h, hu => .tup l l' (VRs.flat he h (by rw [fine_cmp] at hu; exact hu))
  | _, _, .any v h h1, _ => .any v h h1
  | _, _, .fsl q cap c x a l l' h1 h2 h3 h7 h4 h5 h6, hu => .fsl q cap c x a l l' h1 h2 h3 h7 (fun h => let ⟨a, e, f⟩ := h4 h; ⟨a, e, f.le he⟩) (VRs.flat he h5 (by
      rw [fine_cmp] at hu
      have hu' : ((V.ref 8 0 0 q cap x :: l).all fun v => v.fine) = true := hu
      rw [List.all_cons, Bool.and_eq_true] at hu'; exact hu'.2)) h6
  | _, _, .fptr a l l' h1 h2 h3, hu => .fptr a l l' (h1.le he) (VRs.flat he h2 (by rw [fine_cmp] at hu; exact hu)) h3
  | _, _, .bsl q cap c x a l l' h1 h2 h3 h7 h4 h5 h6, hu => by rw [fine_cmp] at hu; exact nomatch hu
  | _, _, .bptr a l l' h1 h2 h3, hu => by rw [fine_cmp] at hu; exact nomatch hu
theorem VRs.flat {ρ ρ' : Map} {n n' : Nat} (he : FzLe ρ ρ') : ∀ {l : List V} {l' : List Value}, VRs ρ n l l' → (l.all fun v => v.fine) = true → VRs ρ' n' l l'
  | _, _, .nil, _ => .nil
  | _, _, .cons h hs, hu => by
    rw [List.all_cons, Bool.and_eq_true] at hu
    exact .cons (VR.flat he h hu.1) (VRs.flat he hs hu.2)
end
inductive Nm (o : Nat) : V → Prop
  | ptr (i n c : Nat) (x : Bool) : Nm o (.ref 1 o i n c x)
  | slice (i n c : Nat) (x : Bool) : Nm o (.ref 3 o i n c x)
  | map (i n c : Nat) (x : Bool) : Nm o (.ref 5 o i n c x)
  | cmp (t a : Nat) (l : List V) (v : V) : t ≤ 3 → v ∈ l → Nm o v → Nm o (.cmp t a l)
inductive Led (st : St) (args : List V) : Nat → Prop
  | arg (o : Nat) (v : V) : v ∈ args → Nm o v → Led st args o
  | cell (o o' e : Nat) (cs : List V) (w : Bool) (v : V) : Led st args o' → st.mem.get o' = some (.cells e cs w) → v ∈ cs → Nm o v → Led st args o
  | entry (o o' : Nat) (es : List (V × V)) (k v : V) : Led st args o' → st.mem.get o' = some (.map es) → (k, v) ∈ es → Nm o v → Led st args o
theorem VRs.mem {ρ : Map} {n : Nat} {l : List V} {l' : List Value} (h : VRs ρ n l l') {v : V} (hv : v ∈ l) : ∃ v', VR ρ n v v' := by
  obtain ⟨i, hi⟩ := List.getElem?_of_mem hv
  obtain ⟨v', _, h2⟩ := h.get i v hi
  exact ⟨v', h2⟩
theorem Nm.lv {ρ : Map} {n o : Nat} {v : V} (h : Nm o v) : ∀ {v' : Value}, VR ρ n v v' → Lv ρ n o := by
  induction h with
  | ptr i n c x => intro v' hv; exact hv.ptr_inv.1
  | slice i n c x => intro v' hv; obtain ⟨_, _, _, h, _⟩ := hv.slice_inv; exact h
  | map i n c x => intro v' hv; exact hv.map_inv.1
  | cmp t a l v ht hm _ ih =>
    intro v' hv
    have key : ∀ {l' : List Value}, VRs ρ n l l' → Lv ρ n o := fun h => by obtain ⟨u, hu⟩ := h.mem hm; exact ih hu
    cases hv with
    | func f l l' h => exact key h
    | iface t u u' h => exact key (.cons h .nil)
    | wild t t' u' => exact nomatch hm
    | agg l l' h _ => exact key h
    | tup l l' h => exact key h
    | fsl => omega
    | fptr => omega
    | bsl => omega
    | bptr => omega
theorem Entries.mem {ρ : Map} {n : Nat} : ∀ {l : List (V × V)} {l' : List MapEntry}, Entries ρ n l l' → ∀ k v, (k, v) ∈ l → ∃ v', VR ρ n v v'
  | [], [], _, k, v, hm => nomatch hm
  | (k0, v0) :: l, e :: l', h, k, v, hm => by
    rcases List.mem_cons.1 hm with hm | hm
    · obtain ⟨rfl, rfl⟩ := Prod.mk.inj hm; exact ⟨_, h.2.1⟩
    · exact Entries.mem h.2.2 k v hm
  | [], _ :: _, h, _, _, _ => h.elim
  | _ :: _, [], h, _, _, _ => h.elim
theorem Led.lv {P : Program} {base : Nat} {ρ : Map} {st : St} {w : World} (hrel : Rel P base ρ st w) {args : List V} {args' : List Value} (ha : VRs ρ st.next args args') {o : Nat} (h : Led st args o) : Lv ρ st.next o := by
  induction h with
  | arg o v hv hn => obtain ⟨v', h1⟩ := ha.mem hv; exact hn.lv h1
  | cell o o' e cs w v _ hg hv hn ih =>
    obtain ⟨c, e', lo, hi, h1, h2, _⟩ := hrel.at hg ih
    obtain ⟨i, hi⟩ := List.getElem?_of_mem hv
    obtain ⟨v', _, h3, _⟩ := h2 i v hi
    exact hn.lv h3
  | entry o o' es k v _ hg hv hn ih =>
    obtain ⟨es', clock, h1, h2⟩ := hrel.at hg ih
    obtain ⟨v', h3⟩ := h2.mem k v hv
    exact hn.lv h3
def tgt (G : Nat) (os ns : List Nat) (n k : Nat) : Option Nat :=
  if k < G then some k else if k < G + os.length then os[k - G]? else (ns.idxOf? k).map (n + ·)
mutual
inductive Fr (P : Program) (G : Nat) (os ns : List Nat) (n : Nat) (sc : St) : V → V → Prop
  | flat (v : V) : v.fine = true → Fr P G os ns n sc v v
  | ptr (k j o : Nat) : tgt G os ns n k = some o → Fr P G os ns n sc (.ptr k j) (.ptr o j)
  | slice (k i m c : Nat) (x : Bool) (o : Nat) : tgt G os ns n k = some o → Fr P G os ns n sc (.slice k i m c x) (.slice o i m c x)
  | map (k o : Nat) : tgt G os ns n k = some o → Fr P G os ns n sc (.map k) (.map o)
  | nil : Fr P G os ns n sc .nilSlice (.fsl 0 0 false [])
  | fsl (k i m c : Nat) (x : Bool) (e z : Nat) (cs l : List V) : G + os.length ≤ k → k ∉ ns → sc.mem.get k = some (.cells e cs true) → sizeT P e = some z → i + m * z ≤ cs.length →
      Frs P G os ns n sc ((cs.drop i).take (m * z)) l → Fr P G os ns n sc (.slice k i m c x) (.fsl m m false l)
  | wk (m c : Nat) (x : Bool) (l l' : List V) : Frs P G os ns n sc l l' → Fr P G os ns n sc (.fsl m c x l) (.fsl m m false l')
  | cmp (t : Nat) (l l' : List V) (a : Nat) : t ≤ 3 → Frs P G os ns n sc l l' → Fr P G os ns n sc (.cmp t a l) (.cmp t a l')
inductive Frs (P : Program) (G : Nat) (os ns : List Nat) (n : Nat) (sc : St) : List V → List V → Prop
  | nil : Frs P G os ns n sc [] []
  | cons {v v' : V} {l l' : List V} : Fr P G os ns n sc v v' → Frs P G os ns n sc l l' → Frs P G os ns n sc (v :: l) (v' :: l')
end
mutual
inductive Ar (P : Program) (G : Nat) (os : List Nat) (st : St) : V → V → Prop
  | flat (v : V) : v.fine = true → Ar P G os st v v
  | ptr (k j o : Nat) : tgt G os [] st.next k = some o → Ar P G os st (.ptr k j) (.ptr o j)
  | slice (k i m c : Nat) (x : Bool) (o : Nat) : tgt G os [] st.next k = some o → Ar P G os st (.slice k i m c x) (.slice o i m c x)
  | map (k o : Nat) : tgt G os [] st.next k = some o → Ar P G os st (.map k) (.map o)
  | nil4 : Ar P G os st (.fsl 0 0 false []) .nilSlice
  | nil6 : Ar P G os st (.bsl 0 0 false []) .nilSlice
  | own (o i m c : Nat) (x : Bool) (e z : Nat) (cs l : List V) (w : Bool) : o ∉ os → st.mem.get o = some (.cells e cs w) → i + m * z ≤ cs.length →
      Ars P G os st l ((cs.drop i).take (m * z)) → Ar P G os st (.bsl m m false l) (.slice o i m c x)
  | optr (o i : Nat) (e : Nat) (cs l : List V) (w : Bool) : o ∉ os → st.mem.get o = some (.cells e cs w) → Ars P G os st l (cs.drop i) → Ar P G os st (.bptr l) (.ptr o i)
  | wk44 (m c : Nat) (x : Bool) (l l' : List V) : Ars P G os st l l' → Ar P G os st (.fsl m m false l) (.fsl m c x l')
  | wk46 (m c : Nat) (x : Bool) (l l' : List V) : Ars P G os st l l' → Ar P G os st (.bsl m m false l) (.fsl m c x l')
  | wk66 (m c : Nat) (x : Bool) (l l' : List V) : Ars P G os st l l' → Ar P G os st (.bsl m m false l) (.bsl m c x l')
  | wkp (l l' : List V) : Ars P G os st l l' → Ar P G os st (.bptr l) (.fptr l')
  | wkq (l l' : List V) : Ars P G os st l l' → Ar P G os st (.bptr l) (.bptr l')
  | cmp (t : Nat) (l l' : List V) (a : Nat) : t ≤ 3 → Ars P G os st l l' → Ar P G os st (.cmp t a l) (.cmp t a l')
inductive Ars (P : Program) (G : Nat) (os : List Nat) (st : St) : List V → List V → Prop
  | nil : Ars P G os st [] []
  | cons {v v' : V} {l l' : List V} : Ar P G os st v v' → Ars P G os st l l' → Ars P G os st (v :: l) (v' :: l')
end
inductive All2 (R : V → V → Prop) : List V → List V → Prop
  | nil : All2 R [] []
  | cons {v v' : V} {l l' : List V} : R v v' → All2 R l l' → All2 R (v :: l) (v' :: l')
theorem All2.get {R : V → V → Prop} : ∀ {l l' : List V}, All2 R l l' → ∀ (i : Nat) (v' : V), l'[i]? = some v' → ∃ v, l[i]? = some v ∧ R v v'
  | _, _, .nil, i, v, h => by simp at h
  | _, _, .cons h hs, 0, v, e => ⟨_, rfl, by simp at e; subst e; exact h⟩
  | _, _, .cons h hs, i + 1, v, e => by simpa using All2.get hs i v (by simpa using e)
theorem All2.get' {R : V → V → Prop} : ∀ {l l' : List V}, All2 R l l' → ∀ (i : Nat) (v : V), l[i]? = some v → ∃ v', l'[i]? = some v' ∧ R v v'
  | _, _, .nil, i, v, h => by simp at h
  | _, _, .cons h hs, 0, v, e => ⟨_, rfl, by simp at e; subst e; exact h⟩
  | _, _, .cons h hs, i + 1, v, e => by simpa using All2.get' hs i v (by simpa using e)
theorem All2.up {R : V → V → Prop} {ρ ρ' : Map} {n n' : Nat} (hR : ∀ v v1, R v v1 → ∀ {v' : Value}, VR ρ n v1 v' → VR ρ' n' v v') : ∀ {l l1 : List V}, All2 R l l1 → ∀ {l' : List Value}, VRs ρ n l1 l' → VRs ρ' n' l l'
  | _, _, .nil, _, .nil => .nil
  | _, _, .cons h hs, _, .cons h1 h2 => .cons (hR _ _ h h1) (All2.up hR hs h2)
theorem All2.down {R : V → V → Prop} {ρ ρ' : Map} {n n' : Nat} (hR : ∀ v v1, R v v1 → ∀ {v' : Value}, VR ρ n v v' → VR ρ' n' v1 v') : ∀ {l l1 : List V}, All2 R l l1 → ∀ {l' : List Value}, VRs ρ n l l' → VRs ρ' n' l1 l'
  | _, _, .nil, _, .nil => .nil
  | _, _, .cons h hs, _, .cons h1 h2 => .cons (hR _ _ h h1) (All2.down hR hs h2)
theorem Frs.all2 {P : Program} {G : Nat} {os ns : List Nat} {n : Nat} {sc : St} : ∀ {l l' : List V}, Frs P G os ns n sc l l' → All2 (Fr P G os ns n sc) l l'
  | _, _, .nil => .nil
  | _, _, .cons h hs => .cons h (Frs.all2 hs)
theorem Ars.all2 {P : Program} {G : Nat} {os : List Nat} {st : St} : ∀ {l l' : List V}, Ars P G os st l l' → All2 (Ar P G os st) l l'
  | _, _, .nil => .nil
  | _, _, .cons h hs => .cons h (Ars.all2 hs)
theorem Frs.length {P : Program} {G : Nat} {os ns : List Nat} {n : Nat} {sc : St} : ∀ {l l' : List V}, Frs P G os ns n sc l l' → l.length = l'.length
  | _, _, .nil => rfl
  | _, _, .cons _ h => by simp [Frs.length h]
theorem Ars.length {P : Program} {G : Nat} {os : List Nat} {st : St} : ∀ {l l' : List V}, Ars P G os st l l' → l.length = l'.length
  | _, _, .nil => rfl
  | _, _, .cons _ h => by simp [Ars.length h]
theorem Frs.flats {P : Program} {G : Nat} {os ns : List Nat} {n : Nat} {sc : St} : ∀ {l : List V}, (l.all fun v => v.fine) = true → Frs P G os ns n sc l l
  | [], _ => .nil
  | v :: l, h => by
    rw [List.all_cons, Bool.and_eq_true] at h
    exact .cons (.flat v h.1) (Frs.flats h.2)
theorem Ars.flats {P : Program} {G : Nat} {os : List Nat} {st : St} : ∀ {l : List V}, (l.all fun v => v.fine) = true → Ars P G os st l l
  | [], _ => .nil
  | v :: l, h => by
    rw [List.all_cons, Bool.and_eq_true] at h
    exact .cons (.flat v h.1) (Ars.flats h.2)
theorem Frs.append {P : Program} {G : Nat} {os ns : List Nat} {n : Nat} {sc : St} : ∀ {l l' r r' : List V}, Frs P G os ns n sc l l' → Frs P G os ns n sc r r' → Frs P G os ns n sc (l ++ r) (l' ++ r')
  | _, _, _, _, .nil, h => h
  | _, _, _, _, .cons h hs, h' => .cons h (Frs.append hs h')
theorem Ars.append {P : Program} {G : Nat} {os : List Nat} {st : St} : ∀ {l l' r r' : List V}, Ars P G os st l l' → Ars P G os st r r' → Ars P G os st (l ++ r) (l' ++ r')
  | _, _, _, _, .nil, h => h
  | _, _, _, _, .cons h hs, h' => .cons h (Ars.append hs h')
inductive ObR (R : V → V → Prop) : Ob → Ob → Prop
  | cells (e : Nat) (cs cs' : List V) : All2 R cs cs' → ObR R (.cells e cs true) (.cells e cs' true)
  | iter (s : List UInt8) (p : Nat) : ObR R (.iter s p) (.iter s p)
  | map (es es' : List (V × V)) : All2 R (es.map (·.1)) (es'.map (·.1)) → All2 R (es.map (·.2)) (es'.map (·.2)) → ObR R (.map es) (.map es')
theorem ObR.own {R : V → V → Prop} {b b' : Ob} (h : ObR R b b') : b.own = true ∧ b'.own = true := by
  cases h <;> exact ⟨rfl, rfl⟩
theorem lies_cells {ρ : Map} {n : Nat} {p : Pl} {cs : List V} {arr : Array Value} (h : Lies ρ n p cs arr) (i m : Nat) : ∃ l1, VRs ρ n ((cs.drop i).take m) l1 ∧ (∀ u ∈ l1, One u) ∧ ∀ (j : Nat) u, l1[j]? = some u → arr[p.off + i + j]? = some u := by
  have key : ∀ (q : List V) (off : Nat), (∀ (j : Nat) v, q[j]? = some v → ∃ v', arr[off + j]? = some v' ∧ VR ρ n v v' ∧ One v') → ∃ l1, VRs ρ n q l1 ∧ (∀ u ∈ l1, One u) ∧ ∀ (j : Nat) u, l1[j]? = some u → arr[off + j]? = some u := by
    intro q
    induction q with
    | nil => intro off _; exact ⟨[], .nil, by simp, by simp⟩
    | cons v q ih =>
      intro off hq
      obtain ⟨v', g1, g2, g3⟩ := hq 0 v rfl
      obtain ⟨l1, g4, g5, g6⟩ := ih (off + 1) fun j u hu => by
        obtain ⟨u', g⟩ := hq (j + 1) u (by simpa using hu)
        exact ⟨u', by rw [Nat.add_assoc, Nat.add_comm 1 j]; exact g.1, g.2⟩
      refine ⟨v' :: l1, .cons g2 g4, fun u hu => (List.mem_cons.1 hu).elim (fun e => e ▸ g3) (g5 u), fun j u hu => ?_⟩
      cases j with
      | zero => simp at hu; subst hu; exact g1
      | succ j => rw [show off + (j + 1) = off + 1 + j by omega]; exact g6 j u (by simpa using hu)
  refine key _ _ fun j v hv => ?_
  rw [List.getElem?_take] at hv
  split at hv
  · rw [List.getElem?_drop] at hv
    obtain ⟨v', g⟩ := h (i + j) v hv
    exact ⟨v', by rw [Nat.add_assoc]; exact g.1, g.2⟩
  · exact nomatch hv
section
variable {P : Program} {G : Nat} {os ns : List Nat} {n : Nat} {sc st : St}
theorem Ar.up {base : Nat} {w : World} {ρ ρc : Map} {nc : Nat} (hrel : Rel P base ρ st w) (hf : FzLe ρ ρc) (hG : ∀ k o, tgt G os [] st.next k = some o → Lv ρ st.next o → ρc k = ρ o ∧ k < nc)
    (hkp : ∀ b x, ρ.kp b = some x → ρc.kp b = some x)
    (hown : ∀ o e cs own c e' lo hi, o ∉ os → (ρ o).live = true → st.mem.get o = some (.cells e cs own) → w.heap[(ρ o).b]? = some (.cells c e' (lo, hi)) → ρc.fz (ρ o).b = some (.cells c e' (lo, hi)) ∨ ρc.kp (ρ o).b = some (.cells c e' (lo, hi))) :
    ∀ {v v1 : V}, Ar P G os st v v1 → ∀ {v' : Value}, VR ρ st.next v1 v' → VR ρc nc v v' := by
  have h46 : ∀ {a : Addr} {l' : List Value}, Fz 4 ρ a l' → Fz 6 ρc a l' := fun h => by
    obtain ⟨b, off, c, e, lo, hi, h1, h2, h3⟩ := h
    exact ⟨b, off, c, e, lo, hi, h1, h2.elim (fun h => .inl (hf b _ h)) (fun h => absurd h.1 (by decide)), h3⟩
  have h66 : ∀ {a : Addr} {l' : List Value}, Fz 6 ρ a l' → Fz 6 ρc a l' := fun h => h.mono hf (fun b x _ => hkp b x)
  intro v v1 h
  refine Ar.rec (motive_1 := fun v v1 _ => ∀ {v' : Value}, VR ρ st.next v1 v' → VR ρc nc v v') (motive_2 := fun l l1 _ => ∀ {l' : List Value}, VRs ρ st.next l1 l' → VRs ρc nc l l') ?_ ?_ ?_ ?_ ?_ ?_ ?_ ?_ ?_ ?_ ?_ ?_ ?_ ?_ ?_ ?_ h
  · intro v hu v' hv; exact hv.flat hf hu
  · intro k j o ht v' hv
    obtain ⟨h1, rfl⟩ := hv.ptr_inv
    obtain ⟨h2, h3⟩ := hG k o ht h1
    rw [← h2]; exact .ptr k j ⟨h3, by rw [h2]; exact h1.2⟩
  · intro k i m c x o ht v' hv
    obtain ⟨a, c', rfl, h1, h4, h5, h6, h7, h8⟩ := hv.slice_inv
    obtain ⟨h2, h3⟩ := hG k o ht h1
    exact .slice k i m c x a c' ⟨h3, by rw [h2]; exact h1.2⟩ h4 h5 h6 (by rw [h2]; exact h7) (by rw [h2]; exact h8)
  · intro k o ht v' hv
    obtain ⟨h1, rfl⟩ := hv.map_inv
    obtain ⟨h2, h3⟩ := hG k o ht h1
    rw [← h2]; exact .map k ⟨h3, by rw [h2]; exact h1.2⟩
  · intro v' hv; obtain rfl := hv.nilSlice_inv
    exact .fsl 0 0 0 false none [] [] (Nat.le_refl _) (Nat.le_refl _) (fun _ => rfl) (fun _ => rfl) (fun h => absurd rfl h) .nil (by simp)
  · intro v' hv; obtain rfl := hv.nilSlice_inv
    exact .bsl 0 0 0 false none [] [] (Nat.le_refl _) (Nat.le_refl _) (fun _ => rfl) (fun _ => rfl) (fun h => absurd rfl h) .nil (by simp)
  · intro o i m c x e z cs l own hno hg hle hl ih v' hv
    obtain ⟨a, c', rfl, h1, h4, h5, h6, h7, h8⟩ := hv.slice_inv
    obtain ⟨arr, e', lo, hi, h9, h10, _⟩ := hrel.at hg h1
    obtain ⟨l1, g1, g2, g3⟩ := lies_cells h10 i (m * z)
    refine .bsl m m c' false (some a) l l1 (Nat.le_refl _) (Nat.le_trans h4 h5) (fun h => nomatch h) (fun h => nomatch h) (fun hne => ?_) (ih g1) g2
    have hlen := hl.length
    have hm0 : m * z ≠ 0 := fun e0 => hne (by
      rw [e0] at hlen
      simp at hlen
      exact hlen)
    have ha := h7.resolve_left (fun e0 => hm0 (by rw [show m = 0 by omega, Nat.zero_mul]))
    exact ⟨a, rfl, (ρ o).b, (ρ o).off + i, arr, e', lo, hi, by rw [ha]; rfl, (hown o e cs own arr e' lo hi hno h1.2 hg h9).imp id (fun h => ⟨rfl, h⟩), g3⟩
  · intro o i e cs l own hno hg hl ih v' hv
    obtain ⟨h1, rfl⟩ := hv.ptr_inv
    obtain ⟨arr, e', lo, hi, h9, h10, _⟩ := hrel.at hg h1
    obtain ⟨l1, g1, g2, g3⟩ := lies_cells h10 i (cs.drop i).length
    rw [List.take_length] at g1
    exact .bptr _ l l1 ⟨(ρ o).b, (ρ o).off + i, arr, e', lo, hi, rfl, (hown o e cs own arr e' lo hi hno h1.2 hg h9).imp id (fun h => ⟨rfl, h⟩), g3⟩ (ih g1) g2
  · intro m c x l l' _ ih v' hv
    obtain ⟨ad, c', l1, rfl, h1, h2, h3, h4, h5, h6, h7⟩ := hv.fsl_inv (t := 4) (.inl rfl)
    have hl := Ars.length ‹Ars P G os st l l'›
    exact .fsl m m c' false ad l l1 (Nat.le_refl _) (Nat.le_trans h1 h2) (fun h => nomatch h) h4 (fun hne => let ⟨a, e, f⟩ := h5 (fun e => hne (by rw [e] at hl; exact List.length_eq_zero_iff.1 hl)); ⟨a, e, f.le hf⟩) (ih h6) h7
  · intro m c x l l' _ ih v' hv
    obtain ⟨ad, c', l1, rfl, h1, h2, h3, h4, h5, h6, h7⟩ := hv.fsl_inv (t := 4) (.inl rfl)
    have hl := Ars.length ‹Ars P G os st l l'›
    exact .bsl m m c' false ad l l1 (Nat.le_refl _) (Nat.le_trans h1 h2) (fun h => nomatch h) h4 (fun hne => let ⟨a, e, f⟩ := h5 (fun e => hne (by rw [e] at hl; exact List.length_eq_zero_iff.1 hl)); ⟨a, e, h46 f⟩) (ih h6) h7
  · intro m c x l l' _ ih v' hv
    obtain ⟨ad, c', l1, rfl, h1, h2, h3, h4, h5, h6, h7⟩ := hv.fsl_inv (t := 6) (.inr rfl)
    have hl := Ars.length ‹Ars P G os st l l'›
    exact .bsl m m c' false ad l l1 (Nat.le_refl _) (Nat.le_trans h1 h2) (fun h => nomatch h) h4 (fun hne => let ⟨a, e, f⟩ := h5 (fun e => hne (by rw [e] at hl; exact List.length_eq_zero_iff.1 hl)); ⟨a, e, h66 f⟩) (ih h6) h7
  · intro l l' _ ih v' hv
    obtain ⟨ad, l1, rfl, h1, h2, h3⟩ := hv.fptr_inv (t := 4) (.inl rfl)
    exact .bptr _ l l1 (h46 h1) (ih h2) h3
  · intro l l' _ ih v' hv
    obtain ⟨ad, l1, rfl, h1, h2, h3⟩ := hv.fptr_inv (t := 6) (.inr rfl)
    exact .bptr _ l l1 (h66 h1) (ih h2) h3
  · intro t l l' a ht _ ih v' hv
    generalize hc : V.cmp t a l' = u at hv
    cases hv with
    | func f l1 l1' h1 => cases hc; exact .func _ _ _ (ih h1)
    | iface t1 u1 u1' h1 =>
      cases hc
      have := ih (.cons h1 .nil)
      cases this with
      | cons h2 h3 => cases h3; exact .iface _ _ _ h2
    | wild t1 t' u1 =>
      cases hc
      have := ih .nil
      cases this; exact .wild _ _ _
    | agg l1 l1' h1 h2 => cases hc; exact .agg _ _ (ih h1) h2
    | tup l1 l1' h1 => cases hc; exact .tup _ _ (ih h1)
    | fsl => cases hc; omega
    | fptr => cases hc; omega
    | bsl => cases hc; omega
    | bptr => cases hc; omega
    | _ => exact nomatch hc
  · intro l' hv; cases hv; exact .nil
  · intro v v' l l' _ _ ih1 ih2 l1 hv
    cases hv with
    | cons h1 h2 => exact .cons (ih1 h1) (ih2 h2)
theorem Fr.down {ρ ρc : Map} {nc n' : Nat} {w : World} {base : Nat} (hrel : Rel P base ρc sc w) (hnc : nc = sc.next) (hf : FzLe ρc ρ) (hG : ∀ k o, tgt G os ns n k = some o → Lv ρc nc k → ρ o = ρc k ∧ o < n')
    (hfree : ∀ k e cs c e' lo hi, G + os.length ≤ k → k ∉ ns → (ρc k).live = true → sc.mem.get k = some (.cells e cs true) → w.heap[(ρc k).b]? = some (.cells c e' (lo, hi)) → ρ.fz (ρc k).b = some (.cells c e' (lo, hi))) :
    ∀ {v v1 : V}, Fr P G os ns n sc v v1 → ∀ {v' : Value}, VR ρc nc v v' → VR ρ n' v1 v' := by
  intro v v1 h
  refine Fr.rec (motive_1 := fun v v1 _ => ∀ {v' : Value}, VR ρc nc v v' → VR ρ n' v1 v') (motive_2 := fun l l1 _ => ∀ {l' : List Value}, VRs ρc nc l l' → VRs ρ n' l1 l') ?_ ?_ ?_ ?_ ?_ ?_ ?_ ?_ ?_ ?_ h
  · intro v hu v' hv; exact hv.flat hf hu
  · intro k j o ht v' hv
    obtain ⟨h1, rfl⟩ := hv.ptr_inv
    obtain ⟨h2, h3⟩ := hG k o ht h1
    rw [← h2]; exact .ptr o j ⟨h3, by rw [h2]; exact h1.2⟩
  · intro k i m c x o ht v' hv
    obtain ⟨a, c', rfl, h1, h4, h5, h6, h7, h8⟩ := hv.slice_inv
    obtain ⟨h2, h3⟩ := hG k o ht h1
    exact .slice o i m c x a c' ⟨h3, by rw [h2]; exact h1.2⟩ h4 h5 h6 (by rw [h2]; exact h7) (by rw [h2]; exact h8)
  · intro k o ht v' hv
    obtain ⟨h1, rfl⟩ := hv.map_inv
    obtain ⟨h2, h3⟩ := hG k o ht h1
    rw [← h2]; exact .map o ⟨h3, by rw [h2]; exact h1.2⟩
  · intro v' hv; obtain rfl := hv.nilSlice_inv
    exact .fsl 0 0 0 false none [] [] (Nat.le_refl _) (Nat.le_refl _) (fun _ => rfl) (fun _ => rfl) (fun h => absurd rfl h) .nil (by simp)
  · intro k i m c x e z cs l hk hn hg hz hle hl ih v' hv
    obtain ⟨a, c', rfl, h1, h4, h5, h6, h7, h8⟩ := hv.slice_inv
    subst hnc
    obtain ⟨arr, e', lo, hi, h9, h10, _⟩ := hrel.at hg h1
    obtain ⟨l1, g1, g2, g3⟩ := lies_cells h10 i (m * z)
    refine .fsl m m c' false (some a) l l1 (Nat.le_refl _) (Nat.le_trans h4 h5) (fun h => nomatch h) (fun h => nomatch h) (fun hne => ?_) (ih g1) g2
    have hlen := hl.length
    have hm0 : m * z ≠ 0 := fun e0 => hne (by
      rw [e0] at hlen
      simp at hlen
      exact List.length_eq_zero_iff.1 hlen.symm)
    have ha := h7.resolve_left (fun e0 => hm0 (by rw [show m = 0 by omega, Nat.zero_mul]))
    exact ⟨a, rfl, (ρc k).b, (ρc k).off + i, arr, e', lo, hi, by rw [ha]; rfl, .inl (hfree k e cs arr e' lo hi hk hn h1.2 hg h9), g3⟩
  · intro m c x l l' _ ih v' hv
    obtain ⟨ad, c', l1, rfl, h1, h2, h3, h4, h5, h6, h7⟩ := hv.fsl_inv (t := 4) (.inl rfl)
    have hl := Frs.length ‹Frs P G os ns n sc l l'›
    exact .fsl m m c' false ad l' l1 (Nat.le_refl _) (Nat.le_trans h1 h2) (fun h => nomatch h) h4 (fun hne => let ⟨a, e, f⟩ := h5 (fun e => hne (by rw [e] at hl; exact List.length_eq_zero_iff.1 hl.symm)); ⟨a, e, f.le hf⟩) (ih h6) h7
  · intro t l l' a ht _ ih v' hv
    generalize hc : V.cmp t a l = u at hv
    cases hv with
    | func f l1 l1' h1 => cases hc; exact .func _ _ _ (ih h1)
    | iface t1 u1 u1' h1 =>
      cases hc
      have := ih (.cons h1 .nil)
      cases this with
      | cons h2 h3 => cases h3; exact .iface _ _ _ h2
    | wild t1 t' u1 =>
      cases hc
      have := ih .nil
      cases this; exact .wild _ _ _
    | agg l1 l1' h1 h2 => cases hc; exact .agg _ _ (ih h1) h2
    | tup l1 l1' h1 => cases hc; exact .tup _ _ (ih h1)
    | fsl => cases hc; omega
    | fptr => cases hc; omega
    | bsl => cases hc; omega
    | bptr => cases hc; omega
    | _ => exact nomatch hc
  · intro l' hv; cases hv; exact .nil
  · intro v v' l l' _ _ ih1 ih2 l1 hv
    cases hv with
    | cons h1 h2 => exact .cons (ih1 h1) (ih2 h2)
end
structure Cut (P : Program) (G : Nat) (os : List Nat) (st sc : St) : Prop where
  next : sc.next = G + os.length
  tabs : ∀ g b, g < G → sc.mem.get g = some b → ∃ e vs, b = .cells e vs false ∧ (vs.all fun v => v.fine) = true ∧ ∃ e', st.mem.get g = some (.cells e' vs false) ∧ (e = 0 ∨ e = e')
  objs : ∀ i o, os[i]? = some o → ∃ b b', sc.mem.get (G + i) = some b ∧ st.mem.get o = some b' ∧ ObR (Ar P G os st) b b'
  none : ∀ k, G + os.length ≤ k → sc.mem.get k = none
  nodup : os.Nodup
structure Join (P : Program) (G : Nat) (os ns : List Nat) (st sc' st' : St) : Prop where
  next : st'.next = st.next + ns.length
  keep : ∀ o, o < st.next → o ∉ os → st'.mem.get o = st.mem.get o
  objs : ∀ i o b', os[i]? = some o → st'.mem.get o = some b' → ∃ b, sc'.mem.get (G + i) = some b ∧ ObR (Fr P G os ns st.next sc') b b'
  news : ∀ j k b', ns[j]? = some k → st'.mem.get (st.next + j) = some b' → ∃ b, sc'.mem.get k = some b ∧ ObR (Fr P G os ns st.next sc') b b'
  none : ∀ o, st.next + ns.length ≤ o → st'.mem.get o = none
  fresh : ∀ k ∈ ns, G + os.length ≤ k
  nodup : ns.Nodup
  low : st'.low ≤ st.low ∧ ∀ o ∈ os, st'.low ≤ o
section
variable {P : Program} {base : Nat} {ρ : Map} {st sc : St} {w : World} {os ns : List Nat}
open Classical in
noncomputable def cutMap (G : Nat) (os : List Nat) (ρ : Map) (w : World) : Map :=
  { pl := fun k => if k < G then ρ k else match os[k - G]? with
      | some o => ρ o
      | none => ⟨0, 0, 0, 0, false⟩
    fz := ρ.fz
    kp := fun b => if ρ.fz b = none ∧ ∀ o ∈ os, (ρ o).b ≠ b then w.heap[b]? else none }
theorem cut_glob {G k : Nat} (h : k < G) : cutMap G os ρ w k = ρ k := if_pos h
theorem cut_os {G i o : Nat} (h : os[i]? = some o) : cutMap G os ρ w (G + i) = ρ o := by
  show (if G + i < G then ρ (G + i) else match os[G + i - G]? with
      | some o => ρ o
      | none => ⟨0, 0, 0, 0, false⟩) = _
  rw [if_neg (by omega), Nat.add_sub_cancel_left, h]
theorem cut_kp {G b : Nat} {x : Obj} (h : (cutMap G os ρ w).kp b = some x) : w.heap[b]? = some x ∧ ρ.fz b = none ∧ ∀ o ∈ os, (ρ o).b ≠ b := by
  have h' : (if ρ.fz b = none ∧ ∀ o ∈ os, (ρ o).b ≠ b then w.heap[b]? else none) = some x := h
  split at h'
  · rename_i hc; exact ⟨h', hc⟩
  · exact nomatch h'
theorem cut_kp_mk {G b : Nat} {x : Obj} (h : w.heap[b]? = some x) (h1 : ρ.fz b = none) (h2 : ∀ o ∈ os, (ρ o).b ≠ b) : (cutMap G os ρ w).kp b = some x := by
  show (if ρ.fz b = none ∧ ∀ o ∈ os, (ρ o).b ≠ b then w.heap[b]? else none) = some x
  rw [if_pos ⟨h1, h2⟩, h]
theorem getElem?_inj_nodup {os : List Nat} (h : os.Nodup) {i j o : Nat} (h1 : os[i]? = some o) (h2 : os[j]? = some o) : i = j := by
  obtain ⟨a1, a2⟩ := List.getElem?_eq_some_iff.1 h1
  obtain ⟨b1, b2⟩ := List.getElem?_eq_some_iff.1 h2
  exact (List.getElem?_inj a1 h).1 (h1.trans h2.symm)
theorem tgt_os {G : Nat} {n k o : Nat} (h : tgt G os [] n k = some o) : (k < G ∧ o = k) ∨ ∃ i, k = G + i ∧ os[i]? = some o := by
  unfold tgt at h
  split at h
  · exact .inl ⟨by assumption, (Option.some.inj h).symm⟩
  · split at h
    · exact .inr ⟨k - G, by omega, h⟩
    · simp at h
theorem idxOf_some {ns : List Nat} {k j : Nat} (h : ns.idxOf? k = some j) : ns[j]? = some k := by
  have := List.of_findIdx?_eq_some (xs := ns) (p := fun x => x == k) (i := j) (by simpa [List.idxOf?] using h)
  split at this
  · rename_i a ha; rw [ha]; simpa using this
  · exact nomatch this
theorem tgt_ns {G : Nat} {n k o : Nat} (h : tgt G os ns n k = some o) : (k < G ∧ o = k) ∨ (∃ i, k = G + i ∧ os[i]? = some o) ∨ ∃ j, G + os.length ≤ k ∧ ns[j]? = some k ∧ o = n + j := by
  unfold tgt at h
  split at h
  · exact .inl ⟨by assumption, (Option.some.inj h).symm⟩
  · split at h
    · exact .inr (.inl ⟨k - G, by omega, h⟩)
    · obtain ⟨j, h1, h2⟩ := Option.map_eq_some_iff.1 h
      exact .inr (.inr ⟨j, by omega, idxOf_some h1, h2.symm⟩)
theorem Entries.of_vrs {ρ : Map} {n : Nat} : ∀ {l : List (V × V)} {l' : List MapEntry}, VRs ρ n (l.map (·.1)) (l'.map (·.key)) → VRs ρ n (l.map (·.2)) (l'.map (·.val)) → Entries ρ n l l'
  | [], [], _, _ => trivial
  | (k, v) :: l, e :: l', .cons h1 h2, .cons h3 h4 => ⟨h1, h3, Entries.of_vrs h2 h4⟩
  | [], _ :: _, h, _ => nomatch h
  | _ :: _, [], h, _ => nomatch h
theorem Entries.vrs {ρ : Map} {n : Nat} : ∀ {l : List (V × V)} {l' : List MapEntry}, Entries ρ n l l' → VRs ρ n (l.map (·.1)) (l'.map (·.key)) ∧ VRs ρ n (l.map (·.2)) (l'.map (·.val))
  | [], [], _ => ⟨.nil, .nil⟩
  | (k, v) :: l, e :: l', h => ⟨.cons h.1 (Entries.vrs h.2.2).1, .cons h.2.1 (Entries.vrs h.2.2).2⟩
  | [], _ :: _, h => h.elim
  | _ :: _, [], h => h.elim
theorem ObR.up {R : V → V → Prop} {ρc : Map} {nc n : Nat} {b b' : Ob} (h : ObR R b b') (hR : ∀ v v1, R v v1 → ∀ {v' : Value}, VR ρ n v1 v' → VR ρc nc v v') {p : Pl} (ho : OR P ρ n w p b') : OR P ρc nc w p b := by
  cases h with
  | cells e cs cs' hc =>
    obtain ⟨c, e', lo, hi, h1, h2, h3, h4⟩ := ho
    refine ⟨c, e', lo, hi, h1, fun j v hv => ?_, h3, h4⟩
    obtain ⟨v1, h5, h6⟩ := hc.get' j v hv
    obtain ⟨v', h7, h8, h9⟩ := h2 j v1 h5
    exact ⟨v', h7, hR _ _ h6 h8, h9⟩
  | iter s p => exact ho
  | map es es' h1 h2 =>
    obtain ⟨es1, clock, h3, h4⟩ := ho
    obtain ⟨h5, h6⟩ := h4.vrs
    exact ⟨es1, clock, h3, Entries.of_vrs (h1.up hR h5) (h2.up hR h6)⟩
theorem ObR.down {R : V → V → Prop} {ρc : Map} {nc n' : Nat} {b b' : Ob} (h : ObR R b b') (hR : ∀ v v1, R v v1 → ∀ {v' : Value}, VR ρc nc v v' → VR ρ n' v1 v') {p : Pl} (ho : OR P ρc nc w p b) : OR P ρ n' w p b' := by
  cases h with
  | cells e cs cs' hc =>
    obtain ⟨c, e', lo, hi, h1, h2, h3, h4⟩ := ho
    refine ⟨c, e', lo, hi, h1, fun j v hv => ?_, h3, h4⟩
    obtain ⟨v1, h5, h6⟩ := hc.get j v hv
    obtain ⟨v', h7, h8, h9⟩ := h2 j v1 h5
    exact ⟨v', h7, hR _ _ h6 h8, h9⟩
  | iter s p => exact ho
  | map es es' h1 h2 =>
    obtain ⟨es1, clock, h3, h4⟩ := ho
    obtain ⟨h5, h6⟩ := h4.vrs
    exact ⟨es1, clock, h3, Entries.of_vrs (h1.down hR h5) (h2.down hR h6)⟩
theorem os_own {G : Nat} (hc : Cut P G os st sc) : ∀ o ∈ os, ∃ (i : Nat) (b' : Ob), os[i]? = some o ∧ st.mem.get o = some b' ∧ b'.own = true := fun o ho => by
  obtain ⟨i, hi⟩ := List.getElem?_of_mem ho
  obtain ⟨b, b', _, h2, h3⟩ := hc.objs i o hi
  exact ⟨i, b', hi, h2, h3.own.2⟩
theorem os_block {G : Nat} (hrel : Rel P base ρ st w) (hc : Cut P G os st sc) (hlive : ∀ o ∈ os, Lv ρ st.next o) : ∀ o ob, o ∉ os → (ρ o).live = true → st.mem.get o = some ob → ∀ o1 ∈ os, (ρ o1).b ≠ (ρ o).b := fun o ob hno hl hg o1 ho1 => by
  obtain ⟨_, b', _, h2, h3⟩ := os_own hc o1 ho1
  exact hrel.sep o1 o b' ob (hlive o1 ho1).2 hl h2 hg (fun e => hno (by rw [← e]; exact ho1)) h3
theorem kp_keep {G : Nat} (hrel : Rel P base ρ st w) (hc : Cut P G os st sc) (hlive : ∀ o ∈ os, Lv ρ st.next o) : ∀ b x, ρ.kp b = some x → (cutMap G os ρ w).kp b = some x := fun b x hx => by
  obtain ⟨h1, h2⟩ := hrel.kp b x hx
  refine cut_kp_mk h1 ?_ fun o ho e => ?_
  · cases hf : ρ.fz b with
    | none => rfl
    | some y => have := (hrel.fz b y hf).2.1; rw [hx] at this; exact nomatch this
  · obtain ⟨_, b', _, h3, h4⟩ := os_own hc o ho
    exact h2 o b' (hlive o ho).2 h3 h4 e
theorem up_of {G : Nat} (hrel : Rel P base ρ st w) (hc : Cut P G os st sc) (hlive : ∀ o ∈ os, Lv ρ st.next o) : ∀ v v1, Ar P G os st v v1 → ∀ {v' : Value}, VR ρ st.next v1 v' → VR (cutMap G os ρ w) sc.next v v' := fun v v1 h {v'} hv => by
  refine Ar.up (ρc := cutMap G os ρ w) hrel (fun _ _ h => h) (fun k o ht hl => ?_) (kp_keep hrel hc hlive) (fun o e cs own c e' lo hi hno hl hg hh => ?_) h hv
  · rcases tgt_os ht with ⟨h1, rfl⟩ | ⟨i, rfl, h1⟩
    · exact ⟨cut_glob h1, by have := hc.next; omega⟩
    · exact ⟨cut_os h1, by have := hc.next; have := (List.getElem?_eq_some_iff.1 h1).1; omega⟩
  · cases hf : ρ.fz (ρ o).b with
    | some y =>
      have h3 := (hrel.fz _ y hf).1
      rw [hh] at h3
      obtain rfl := Option.some.inj h3
      exact .inl hf
    | none => exact .inr (cut_kp_mk hh hf (os_block hrel hc hlive o _ hno hl hg))
theorem cut_rel {G : Nat} (hG : G = P.globals.size) (hrel : Rel P base ρ st w) (hc : Cut P G os st sc) (hlive : ∀ o ∈ os, Lv ρ st.next o) : Rel P base (cutMap G os ρ w) sc w := by
  have hnx := hc.next
  have src : ∀ k b, sc.mem.get k = some b → k < sc.next ∧ ((k < G ∧ cutMap G os ρ w k = ρ k ∧ b.own = false ∧ ∃ b', st.mem.get k = some b' ∧ b'.own = false) ∨ ∃ i o b', k = G + i ∧ os[i]? = some o ∧ cutMap G os ρ w k = ρ o ∧ st.mem.get o = some b' ∧ ObR (Ar P G os st) b b') := fun k b hb => by
    by_cases hk : k < G
    · obtain ⟨e, vs, rfl, _, e', h1, _⟩ := hc.tabs k b hk hb
      exact ⟨by omega, .inl ⟨hk, cut_glob hk, rfl, _, h1, rfl⟩⟩
    · by_cases hk2 : k < G + os.length
      · have hi : os[k - G]? = some os[k - G] := List.getElem?_eq_getElem (by omega)
        obtain ⟨b1, b', h1, h2, h3⟩ := hc.objs (k - G) _ hi
        rw [show G + (k - G) = k by omega] at h1
        obtain rfl := Option.some.inj (h1.symm.trans hb)
        exact ⟨by omega, .inr ⟨k - G, _, b', by omega, hi, by have := cut_os (G := G) (ρ := ρ) (w := w) hi; rwa [show G + (k - G) = k by omega] at this, h2, h3⟩⟩
      · rw [hc.none k (by omega)] at hb; exact nomatch hb
  have ownb : ∀ k b, sc.mem.get k = some b → b.own = true → ∃ i o b', k = G + i ∧ os[i]? = some o ∧ cutMap G os ρ w k = ρ o ∧ st.mem.get o = some b' ∧ ObR (Ar P G os st) b b' := fun k b hb ho => by
    rcases (src k b hb).2 with ⟨_, _, h, _⟩ | h
    · rw [h] at ho; exact nomatch ho
    · exact h
  refine ⟨fun k b hb => ⟨(src k b hb).1, fun hl => ?_⟩, fun k k' b b' hl hl' hb hb' hne hown => ?_, fun k b hl hb hown => ?_, ⟨by omega, fun g hg => by rw [cut_glob (by omega)]; exact hrel.glob.2 g hg⟩, fun b x hx => ?_, fun b x hx => ?_⟩
  · rcases (src k b hb).2 with ⟨h1, h2, _⟩ | ⟨i, o, b', rfl, h1, h2, h3, h4⟩
    · obtain ⟨e, vs, rfl, hf, e', h3, he⟩ := hc.tabs k b h1 hb
      rw [h2] at hl ⊢
      obtain ⟨c, e2, lo, hi, h4, h5, h6, _, h8⟩ := (hrel.obj k _ h3).2 hl
      refine ⟨c, e2, lo, hi, h4, fun j v hv => ?_, h6, (fun h => nomatch h), fun _ => he.elim .inl fun he => by rw [he]; exact h8 rfl⟩
      obtain ⟨v', h9, h10, h11⟩ := h5 j v hv
      exact ⟨v', h9, VR.flat (ρ := ρ) (ρ' := cutMap G os ρ w) (n' := sc.next) (fun b x h => h) h10 (List.all_eq_true.1 hf v (List.mem_of_getElem? hv)), h11⟩
    · rw [h2] at hl ⊢
      exact h4.up (up_of hrel hc hlive) ((hrel.obj o _ h3).2 hl)
  · obtain ⟨i, o, b1, rfl, h1, h2, h3, h4⟩ := ownb k b hb hown
    rw [h2] at hl ⊢
    rcases (src k' b' hb').2 with ⟨h5, h6, h7, b2, h8, h9⟩ | ⟨j, o', b2, rfl, h5, h6, h7, h8⟩
    · rw [h6] at hl' ⊢
      refine hrel.sep o k' b1 b2 hl hl' h3 h8 (fun e => ?_) h4.own.2
      subst e
      rw [h8] at h3
      obtain rfl := Option.some.inj h3
      rw [h4.own.2] at h9; exact nomatch h9
    · rw [h6] at hl' ⊢
      exact hrel.sep o o' b1 b2 hl hl' h3 h7 (fun e => hne (by subst e; rw [getElem?_inj_nodup hc.nodup h1 h5])) h4.own.2
  · obtain ⟨i, o, b1, rfl, h1, h2, h3, h4⟩ := ownb k b hb hown
    rw [h2] at hl ⊢
    exact hrel.base o b1 hl h3 h4.own.2
  · have h1 := hrel.fz b x hx
    refine ⟨h1.1, ?_, fun k ob hl hg ho => ?_⟩
    · cases hk : (cutMap G os ρ w).kp b with
      | none => rfl
      | some y => have := (cut_kp hk).2.1; rw [show ρ.fz b = some x from hx] at this; exact nomatch this
    · obtain ⟨i, o, b1, rfl, h2, h3, h4, h5⟩ := ownb k ob hg ho
      rw [h3] at hl ⊢
      exact h1.2.2 o b1 hl h4 h5.own.2
  · obtain ⟨h1, _, h2⟩ := cut_kp hx
    refine ⟨h1, fun k ob hl hg ho => ?_⟩
    obtain ⟨i, o, b1, rfl, h3, h4, _⟩ := ownb k ob hg ho
    rw [h4]
    exact h2 o (List.mem_of_getElem? h3)
end
section
variable {P : Program} {base : Nat} {ρ ρ' : Map} {st sc sc' st' : St} {w w' : World} {os ns : List Nat} {G : Nat}
open Classical in
noncomputable def joinMap (G : Nat) (os ns : List Nat) (ρ : Map) (st : St) (ρ' : Map) (sc' : St) (w' : World) : Map :=
  { pl := fun o => if o < st.next then ρ o else match ns[o - st.next]? with
      | some k => ρ' k
      | none => ⟨0, 0, 0, 0, false⟩
    fz := fun b => if ρ'.fz b = none then (if ∃ k e cs, G + os.length ≤ k ∧ k ∉ ns ∧ (ρ' k).live = true ∧ sc'.mem.get k = some (.cells e cs true) ∧ (ρ' k).b = b then w'.heap[b]? else none) else ρ'.fz b
    kp := ρ.kp }
theorem join_old {o : Nat} (h : o < st.next) : joinMap G os ns ρ st ρ' sc' w' o = ρ o := if_pos h
theorem join_new {j k : Nat} (h : ns[j]? = some k) : joinMap G os ns ρ st ρ' sc' w' (st.next + j) = ρ' k := by
  show (if st.next + j < st.next then ρ (st.next + j) else match ns[st.next + j - st.next]? with
      | some k => ρ' k
      | none => ⟨0, 0, 0, 0, false⟩) = _
  rw [if_neg (by omega), Nat.add_sub_cancel_left, h]
theorem join_fz1 {b : Nat} {x : Obj} (h : ρ'.fz b = some x) : (joinMap G os ns ρ st ρ' sc' w').fz b = some x := by
  show (if ρ'.fz b = none then _ else ρ'.fz b) = _
  rw [if_neg (by rw [h]; exact fun h => nomatch h), h]
open Classical in
theorem join_fz2 {k e : Nat} {cs : List V} {x : Obj} (hf : ρ'.fz (ρ' k).b = none) (h1 : G + os.length ≤ k) (h2 : k ∉ ns) (h3 : (ρ' k).live = true) (h4 : sc'.mem.get k = some (.cells e cs true)) (h5 : w'.heap[(ρ' k).b]? = some x) :
    (joinMap G os ns ρ st ρ' sc' w').fz (ρ' k).b = some x := by
  show (if ρ'.fz (ρ' k).b = none then (if ∃ k' e cs, G + os.length ≤ k' ∧ k' ∉ ns ∧ (ρ' k').live = true ∧ sc'.mem.get k' = some (.cells e cs true) ∧ (ρ' k').b = (ρ' k).b then w'.heap[(ρ' k).b]? else none) else ρ'.fz (ρ' k).b) = _
  rw [if_pos hf, if_pos ⟨k, e, cs, h1, h2, h3, h4, rfl⟩, h5]
open Classical in
theorem join_fz {b : Nat} {x : Obj} (h : (joinMap G os ns ρ st ρ' sc' w').fz b = some x) : ρ'.fz b = some x ∨ (ρ'.fz b = none ∧ w'.heap[b]? = some x ∧ ∃ k e cs, G + os.length ≤ k ∧ k ∉ ns ∧ (ρ' k).live = true ∧ sc'.mem.get k = some (.cells e cs true) ∧ (ρ' k).b = b) := by
  have h' : (if ρ'.fz b = none then (if ∃ k e cs, G + os.length ≤ k ∧ k ∉ ns ∧ (ρ' k).live = true ∧ sc'.mem.get k = some (.cells e cs true) ∧ (ρ' k).b = b then w'.heap[b]? else none) else ρ'.fz b) = some x := h
  split at h'
  · rename_i h1
    split at h'
    · rename_i h2; exact .inr ⟨h1, h', h2⟩
    · exact nomatch h'
  · exact .inl h'
theorem join_rel (hG : G = P.globals.size) (hrel : Rel P base ρ st w) (hc : Cut P G os st sc) (hlive : ∀ o ∈ os, Lv ρ st.next o) (hn : Now P base (cutMap G os ρ w) sc w ρ' sc' w') (hj : Join P G os ns st sc' st') :
    Now P base ρ st w (joinMap G os ns ρ st ρ' sc' w') st' w' ∧ ∀ v v1, Fr P G os ns st.next sc' v v1 → ∀ {v' : Value}, VR ρ' sc'.next v v' → VR (joinMap G os ns ρ st ρ' sc' w') st'.next v1 v' := by
  obtain ⟨ρ2, hρ2⟩ : ∃ ρ2, ρ2 = joinMap G os ns ρ st ρ' sc' w' := ⟨_, rfl⟩
  rw [← hρ2]
  have hnx := hc.next
  have hjn := hj.next
  have A : ∀ i o, os[i]? = some o → ρ' (G + i) = ρ o := fun i o h => by
    have h1 := cut_os (G := G) (ρ := ρ) (w := w) h
    rw [← h1]
    exact hn.ext (G + i) (by have := (List.getElem?_eq_some_iff.1 h).1; omega) (by rw [h1]; exact (hlive o (List.mem_of_getElem? h)).2)
  have K : ∀ b x, w.heap[b]? = some x → ρ.fz b = none → (∀ o ∈ os, (ρ o).b ≠ b) → ρ'.kp b = some x := fun b x h1 h2 h3 => hn.ext.kp b x (cut_kp_mk h1 h2 h3)
  have B : ∀ b x, w.heap[b]? = some x → (∀ o ∈ os, (ρ o).b ≠ b) → w'.heap[b]? = some x := fun b x h1 h2 => by
    cases hf : ρ.fz b with
    | some y =>
      have h3 := (hrel.fz b y hf).1
      rw [h1] at h3
      obtain rfl := Option.some.inj h3
      exact (hn.rel.fz b _ (hn.ext.fz b _ hf)).1
    | none => exact (hn.rel.kp b x (K b x h1 hf h2)).1
  have oso := os_own hc
  have oldOs := os_block hrel hc hlive
  have src : ∀ o b', st'.mem.get o = some b' → o < st'.next ∧ ((o < st.next ∧ o ∉ os ∧ ρ2 o = ρ o ∧ st.mem.get o = some b') ∨
      ∃ k b, ((∃ i, k = G + i ∧ os[i]? = some o) ∨ (∃ j, ns[j]? = some k ∧ o = st.next + j)) ∧ ρ2 o = ρ' k ∧ sc'.mem.get k = some b ∧ ObR (Fr P G os ns st.next sc') b b') := fun o b' hb => by
    by_cases h1 : o < st.next
    · by_cases h2 : o ∈ os
      · obtain ⟨i, hi⟩ := List.getElem?_of_mem h2
        obtain ⟨b, h3, h4⟩ := hj.objs i o b' hi hb
        exact ⟨by omega, .inr ⟨G + i, b, .inl ⟨i, rfl, hi⟩, by rw [hρ2, join_old h1, A i o hi], h3, h4⟩⟩
      · exact ⟨by omega, .inl ⟨h1, h2, by rw [hρ2, join_old h1], by rw [← hj.keep o h1 h2]; exact hb⟩⟩
    · by_cases h2 : o < st.next + ns.length
      · have hi : ns[o - st.next]? = some ns[o - st.next] := List.getElem?_eq_getElem (by omega)
        have ho : st.next + (o - st.next) = o := by omega
        obtain ⟨b, h3, h4⟩ := hj.news (o - st.next) _ b' hi (by rw [ho]; exact hb)
        refine ⟨by omega, .inr ⟨_, b, .inr ⟨o - st.next, hi, ho.symm⟩, ?_, h3, h4⟩⟩
        have := join_new (G := G) (os := os) (ρ := ρ) (st := st) (ρ' := ρ') (sc' := sc') (w' := w') hi
        rw [hρ2]; rwa [ho] at this
      · rw [hj.none o (by omega)] at hb; exact nomatch hb
  have uniq : ∀ k o o', ((∃ i, k = G + i ∧ os[i]? = some o) ∨ (∃ j, ns[j]? = some k ∧ o = st.next + j)) → ((∃ i, k = G + i ∧ os[i]? = some o') ∨ (∃ j, ns[j]? = some k ∧ o' = st.next + j)) → o = o' := fun k o o' h h' => by
    have fr : ∀ j, ns[j]? = some k → G + os.length ≤ k := fun j hj' => hj.fresh k (List.mem_of_getElem? hj')
    rcases h with ⟨i, h1, h2⟩ | ⟨j, h1, h2⟩ <;> rcases h' with ⟨i', h3, h4⟩ | ⟨j', h3, h4⟩
    · obtain rfl : i = i' := by omega
      rw [h2] at h4; exact Option.some.inj h4
    · have := fr j' h3; have := (List.getElem?_eq_some_iff.1 h2).1; omega
    · have := fr j h1; have := (List.getElem?_eq_some_iff.1 h4).1; omega
    · have := getElem?_inj_nodup hj.nodup h1 h3; omega
  have hfzle : FzLe ρ' ρ2 := fun b x h => by rw [hρ2]; exact join_fz1 h
  have hdown : ∀ v v1, Fr P G os ns st.next sc' v v1 → ∀ {v' : Value}, VR ρ' sc'.next v v' → VR ρ2 st'.next v1 v' := fun v v1 h {v'} hv => by
    refine Fr.down (w := w') (base := base) hn.rel rfl hfzle (fun k o ht hl => ?_) (fun k e cs c e' lo hi h1 h2 h3 h4 h5 => ?_) h hv
    · rcases tgt_ns ht with ⟨h1, rfl⟩ | ⟨i, rfl, h1⟩ | ⟨j, h1, h2, rfl⟩
      · have hg := hrel.glob.2 o (by omega)
        have e1 : ρ' o = ρ o := by
          have h2 := cut_glob (os := os) (ρ := ρ) (w := w) h1
          rw [← h2]
          exact hn.ext o (by omega) (by rw [h2]; exact hg.2.2)
        have := hrel.glob.1
        exact ⟨by rw [hρ2, join_old (by omega), e1], by omega⟩
      · have := (hlive o (List.mem_of_getElem? h1)).1
        exact ⟨by rw [hρ2, join_old this, A i o h1], by omega⟩
      · have := (List.getElem?_eq_some_iff.1 h2).1
        exact ⟨by rw [hρ2, join_new h2], by omega⟩
    · rw [hρ2]
      refine join_fz2 ?_ h1 h2 h3 h4 h5
      cases hf : ρ'.fz (ρ' k).b with
      | none => rfl
      | some x => exact absurd rfl ((hn.rel.fz _ x hf).2.2 k _ h3 h4 rfl)
  have kpx : ∀ b x, ρ.kp b = some x → ρ'.kp b = some x := fun b x hx => hn.ext.kp b x (kp_keep hrel hc hlive b x hx)
  have oldkp : ∀ o ob, o ∉ os → (ρ o).live = true → st.mem.get o = some ob → ob.own = true → ∃ x, ρ'.kp (ρ o).b = some x := fun o ob hno hl hg ho => by
    have hlt := ((hrel.obj o ob hg).2 hl).lt
    obtain ⟨x, hx⟩ : ∃ x, w.heap[(ρ o).b]? = some x := ⟨_, Array.getElem?_eq_getElem hlt⟩
    refine ⟨x, K _ x hx ?_ (oldOs o ob hno hl hg)⟩
    cases hf : ρ.fz (ρ o).b with
    | none => rfl
    | some y => exact absurd rfl ((hrel.fz _ y hf).2.2 o ob hl hg ho)
  have hext2 : Ext ρ ρ2 st.next := ⟨fun o' ho' _ => by rw [hρ2, join_old ho'], fun b' x' hx' => hfzle b' x' (hn.ext.fz b' x' hx'), fun b' x' hx' => by rw [hρ2]; exact hx'⟩
  have hR : Rel P base ρ2 st' w' := by
    refine ⟨fun o b hb => ⟨(src o b hb).1, fun hl => ?_⟩, fun o o' b b' hl hl' hb hb' hne hown => ?_, fun o b hl hb hown => ?_, ⟨by have := hrel.glob.1; omega, fun g hg => by rw [hρ2, join_old (by have := hrel.glob.1; omega)]; exact hrel.glob.2 g hg⟩, fun b x hx => ?_, fun b x hx => ?_⟩
    · rcases (src o b hb).2 with ⟨h1, h2, h3, h4⟩ | ⟨k, b1, _, h2, h3, h4⟩
      · rw [h3] at hl ⊢
        have h5 := (hrel.obj o b h4).2 hl
        refine OR.mono hext2 (by omega) ?_ h5
        have hlt := h5.lt
        rw [Array.getElem?_eq_getElem hlt]
        exact B _ _ (Array.getElem?_eq_getElem hlt) (oldOs o b h2 hl h4)
      · rw [h2] at hl ⊢
        exact h4.down hdown ((hn.rel.obj k b1 h3).2 hl)
    · rcases (src o b hb).2 with ⟨h1, h2, h3, h4⟩ | ⟨k, b1, h1, h2, h3, h4⟩ <;> rcases (src o' b' hb').2 with ⟨g1, g2, g3, g4⟩ | ⟨k', b1', g1, g2, g3, g4⟩
      · rw [h3] at hl ⊢; rw [g3] at hl' ⊢
        exact hrel.sep o o' b b' hl hl' h4 g4 hne hown
      · rw [h3] at hl ⊢; rw [g2] at hl' ⊢
        obtain ⟨x, hx⟩ := oldkp o b h2 hl h4 hown
        exact ((hn.rel.kp _ x hx).2 k' b1' hl' g3 g4.own.1).symm
      · rw [h2] at hl ⊢; rw [g3] at hl' ⊢
        have hlt := ((hrel.obj o' b' g4).2 hl').lt
        obtain ⟨x, hx⟩ : ∃ x, w.heap[(ρ o').b]? = some x := ⟨_, Array.getElem?_eq_getElem hlt⟩
        cases hf : ρ.fz (ρ o').b with
        | some y => exact (hn.rel.fz _ y (hn.ext.fz _ y hf)).2.2 k b1 hl h3 h4.own.1
        | none => exact (hn.rel.kp _ x (K _ x hx hf (oldOs o' b' g2 hl' g4))).2 k b1 hl h3 h4.own.1
      · rw [h2] at hl ⊢; rw [g2] at hl' ⊢
        exact hn.rel.sep k k' b1 b1' hl hl' h3 g3 (fun e => hne (by subst e; exact uniq k o o' h1 g1)) h4.own.1
    · rcases (src o b hb).2 with ⟨h1, h2, h3, h4⟩ | ⟨k, b1, h1, h2, h3, h4⟩
      · rw [h3] at hl ⊢; exact hrel.base o b hl h4 hown
      · rw [h2] at hl ⊢; exact hn.rel.base k b1 hl h3 h4.own.1
    · rw [hρ2] at hx
      have hkp : ρ2.kp b = ρ.kp b := by rw [hρ2]; rfl
      rcases join_fz hx with hx | ⟨_, h1, k, e, cs, h2, h3, h4, h5, rfl⟩
      · obtain ⟨h1, h2, h3⟩ := hn.rel.fz b x hx
        refine ⟨h1, ?_, fun o ob hl hg ho => ?_⟩
        · rw [hkp]
          cases hk : ρ.kp b with
          | none => rfl
          | some y => rw [kpx b y hk] at h2; exact nomatch h2
        · rcases (src o ob hg).2 with ⟨g1, g2, g3, g4⟩ | ⟨k, b1, _, g2, g3, g4⟩
          · rw [g3] at hl ⊢
            obtain ⟨y, hy⟩ := oldkp o ob g2 hl g4 ho
            intro e
            rw [e] at hy
            rw [hy] at h2; exact nomatch h2
          · rw [g2] at hl ⊢
            exact h3 k b1 hl g3 g4.own.1
      · refine ⟨h1, ?_, fun o ob hl hg ho => ?_⟩
        · rw [hkp]
          cases hk : ρ.kp (ρ' k).b with
          | none => rfl
          | some y => exact absurd rfl ((hn.rel.kp _ y (kpx _ y hk)).2 k _ h4 h5 rfl)
        · rcases (src o ob hg).2 with ⟨g1, g2, g3, g4⟩ | ⟨k', b1, g1, g2, g3, g4⟩
          · rw [g3] at hl ⊢
            obtain ⟨y, hy⟩ := oldkp o ob g2 hl g4 ho
            exact ((hn.rel.kp _ y hy).2 k _ h4 h5 rfl).symm
          · rw [g2] at hl ⊢
            refine hn.rel.sep k' k b1 _ hl h4 g3 h5 (fun e => ?_) g4.own.1
            subst e
            rcases g1 with ⟨i, rfl, hi⟩ | ⟨j, hj', _⟩
            · have := (List.getElem?_eq_some_iff.1 hi).1; omega
            · exact h3 (List.mem_of_getElem? hj')
    · have hx' : ρ.kp b = some x := by rw [hρ2] at hx; exact hx
      obtain ⟨h1, h2⟩ := hn.rel.kp b x (kpx b x hx')
      refine ⟨h1, fun o ob hl hg ho => ?_⟩
      rcases (src o ob hg).2 with ⟨g1, g2, g3, g4⟩ | ⟨k, b1, _, g2, g3, g4⟩
      · rw [g3] at hl ⊢; exact (hrel.kp b x hx').2 o ob hl g4 ho
      · rw [g2] at hl ⊢; exact h2 k b1 hl g3 g4.own.1
  refine ⟨⟨⟨fun o ho _ => by rw [hρ2, join_old ho], fun b x hx => hfzle b x (hn.ext.fz b x hx), fun b x hx => by rw [hρ2]; exact hx⟩, hR, ⟨by omega, hj.low.1, fun o ho hl => hj.keep o ho fun h => by have := hj.low.2 o h; omega⟩, hn.below, fun o ho hd => ?_⟩, hdown⟩
  refine ⟨by rw [hρ2, join_old ho]; exact hd, hj.keep o ho fun h => ?_⟩
  have := (hlive o h).2
  rw [hd] at this; exact nomatch this
inductive FrR (P : Program) (G : Nat) (os ns : List Nat) (n : Nat) (sc : St) : CR → CR → Prop
  | ret (v v1 : V) : Fr P G os ns n sc v v1 → FrR P G os ns n sc (.ret v) (.ret v1)
  | pan (v v1 : V) : Fr P G os ns n sc v v1 → FrR P G os ns n sc (.pan v) (.pan v1)
theorem canon {f : Nat} (hG : G = P.globals.size) {args argc : List V} {r rc : CR}
    (hc : Cut P G os st sc) (hled : ∀ o ∈ os, Led st args o) (ha : Ars P G os st argc args) (h : CallAt P f argc sc rc sc') (hj : Join P G os ns st sc' st') (hr : FrR P G os ns st.next sc' rc r) : CallAt P f args st r st' := by
  intro base ρ w args' hrel hb hargs
  have hlive : ∀ o ∈ os, Lv ρ st.next o := fun o ho => (hled o ho).lv hrel hargs
  have hargc : VRs (cutMap G os ρ w) sc.next argc args' := ha.all2.up (up_of hrel hc hlive) hargs
  obtain ⟨hfn, h5⟩ := h (cut_rel hG hrel hc hlive) hb hargc
  refine ⟨hfn, h5.mono fun e w' hcm => ?_⟩
  obtain ⟨ρ', hn, hcm⟩ := hcm
  obtain ⟨h6, h7⟩ := join_rel hG hrel hc hlive hn hj
  refine ⟨_, h6, ?_⟩
  cases hr with
  | ret v v1 hv =>
    cases e with
    | returned v' => exact h7 _ _ hv hcm
    | _ => exact hcm.elim
  | pan v v1 hv =>
    cases e with
    | panicked chain => obtain ⟨v', e1, h8⟩ := hcm; exact ⟨v', e1, h7 _ _ hv h8⟩
    | _ => exact hcm.elim
def HasTabs (mem : Tr Ob) (st : St) : Prop := ∀ g b, mem.get g = some b → ∃ e vs, b = .cells e vs false ∧ (vs.all fun v => v.fine) = true ∧ ∃ e', st.mem.get g = some (.cells e' vs false) ∧ (e = 0 ∨ e = e')
theorem fnOk_of {fns : Tr Fs} (htab : TableOk P fns) {f : Nat} {rs : List RV} {b : CEv} (hf : fns.get f = some (.mk rs b)) : FnOk P f := by
  obtain ⟨fn, ir, e1, e2, e3, _⟩ := htab f _ hf
  refine ⟨fn, e1, e2, ?_⟩
  unfold compF at e3
  obtain ⟨c, hb, _⟩ := bind_some' e3
  rw [hb]; rfl
theorem callAt_ev {fns : Tr Fs} (hm : P.follows .mixedOrders = true) (htab : TableOk P fns) {f : Nat} (hfn : FnOk P f) {n : Nat} {args : List V} {st st' : St} {r : CR} (h : evF fns n f args st = some (r, st')) : CallAt P f args st r st' := by
  intro base ρ w args' hrel hb hargs
  rcases sound hm htab n h hrel hb hargs with h5 | ⟨_, v', _, _, h5, _⟩
  · exact h5
  · have := run_callFunc (P := P) (w := w) hfn args'.toArray
    rw [h5] at this
    exact nomatch this
theorem callAt_in {fns : Tr Fs} (hm : P.follows .mixedOrders = true) (htab : TableOk P fns) {f : Nat} {rs : List RV} {b : CEv} (hf : FOk P f (.mk rs b)) {n m : Nat} {args : List V} {st st' : St} {r : CR} (h : enterF (evF fns n) m rs b args st = some (r, st')) : CallAt P f args st r st' :=
  enterF_sound (sound hm htab n) (drawOk hm _ (sound hm htab n)) hf h
theorem Rel.later {w' : World} (h : Rel P base ρ st w) (hb : ∀ k, k < w.heap.size → w'.heap[k]? = w.heap[k]?) : Rel P base ρ st w' :=
  ⟨fun o b hg => ⟨(h.obj o b hg).1, fun hl => ((h.obj o b hg).2 hl).mono (Ext.refl _ _) (Nat.le_refl _) (hb _ ((h.obj o b hg).2 hl).lt)⟩, h.sep, h.base, h.glob,
    fun b x hx => ⟨(hb b (Array.getElem?_eq_some_iff.1 (h.fz b x hx).1).1).trans (h.fz b x hx).1, (h.fz b x hx).2⟩, fun b x hx => ⟨(hb b (Array.getElem?_eq_some_iff.1 (h.kp b x hx).1).1).trans (h.kp b x hx).1, (h.kp b x hx).2⟩⟩
theorem low_of {st : St} (hrel : Rel P base ρ st w) : ∀ o, st.next ≤ o → st.mem.get o = none := fun o ho => by
  cases h : st.mem.get o with
  | none => rfl
  | some b => have := (hrel.obj o b h).1; omega
theorem Fr.move {sc : St} {n n' : Nat} {a b : V} (h : Fr P G [] [] n sc a b) (hb : b.fine = true) : Fr P G [] [] n' sc a b := by
  refine Fr.rec (motive_1 := fun a b _ => b.fine = true → Fr P G [] [] n' sc a b) (motive_2 := fun l l' _ => (l'.all fun v => v.fine) = true → Frs P G [] [] n' sc l l') ?_ ?_ ?_ ?_ ?_ ?_ ?_ ?_ ?_ ?_ h hb
  · intro v hu _; exact .flat v hu
  · intro k j o _ hu; exact absurd rfl (fine_ref hu).1
  · intro k i m c x o _ hu; exact absurd rfl (fine_ref hu).2.1
  · intro k o _ hu; exact absurd rfl (fine_ref hu).2.2
  · intro _; exact .nil
  · intro k i m c x e z cs l h1 h2 h3 h4 h5 _ ih hu
    rw [fine_cmp] at hu
    have hu' : ((V.ref 8 0 0 m m false :: l).all fun v => v.fine) = true := hu
    rw [List.all_cons, Bool.and_eq_true] at hu'
    exact .fsl k i m c x e z cs l h1 h2 h3 h4 h5 (ih hu'.2)
  · intro m c x l l' _ ih hu
    rw [fine_cmp] at hu
    have hu' : ((V.ref 8 0 0 m m false :: l').all fun v => v.fine) = true := hu
    rw [List.all_cons, Bool.and_eq_true] at hu'
    exact .wk m c x l l' (ih hu'.2)
  · intro t l l' a h1 _ ih hu
    rw [fine_cmp] at hu
    refine .cmp t l l' a h1 (ih ?_)
    rwa [beqF (by omega), beqF (by omega)] at hu
  · intro _; exact .nil
  · intro v v' l l' _ _ ih1 ih2 hu
    rw [List.all_cons, Bool.and_eq_true] at hu
    exact .cons (ih1 hu.1) (ih2 hu.2)
theorem flat_of {f : Nat} {mem : Tr Ob} (hG : G = P.globals.size) (hlt : ∀ g b, mem.get g = some b → g < G) {args argc : List V} {st : St} {v v0 : V} {l : Nat}
    (ht : HasTabs mem st) (ha : Ars P G [] st argc args) {sc' : St} (h : CallAt P f argc { next := G, low := l, mem := mem } (.ret v0) sc') (hv : Fr P G [] [] 0 sc' v0 v) (hu : v.fine = true) : CallAt P f args st (.ret v) st := by
  intro base ρ w args' hrel hb hargs
  have hno := low_of hrel
  have hc : Cut P G [] st { next := G, low := l, mem := mem } := ⟨rfl, fun g b _ hb => ht g b hb, fun i o h => by simp at h, fun k hk => by
    cases hg : mem.get k with
    | none => rfl
    | some b => have := hlt k b hg; simp at hk; omega, List.nodup_nil⟩
  have hj : Join P G [] [] st sc' st := ⟨rfl, fun _ _ _ => rfl, fun i o b' h => by simp at h, fun j k b' h => by simp at h, fun o ho => hno o (by simpa using ho), (fun k hk => nomatch hk), List.nodup_nil, Nat.le_refl _, (fun o ho => nomatch ho)⟩
  exact canon hG hc (fun o ho => nomatch ho) ha h hj (.ret _ _ (hv.move hu)) hrel hb hargs
theorem spec_of {fns : Tr Fs} (hm : P.follows .mixedOrders = true) (htab : TableOk P fns) {f : Nat} {rs : List RV} {b : CEv} (hf : fns.get f = some (.mk rs b)) {mem : Tr Ob} {G : Nat} (hG : G = P.globals.size) (hlt : ∀ g b, mem.get g = some b → g < G) {g : List V → St → Option V}
    (h : ∀ args st v, g args st = some v → HasTabs mem st ∧ (args.all fun v => v.fine) = true ∧ v.fine = true ∧ ∃ n st', evF fns n f args { next := G, low := G, mem := mem } = some (.ret v, st')) : SpecOk P f g := by
  intro base args st v ρ w args' hg hrel hb hargs
  obtain ⟨h1, h2, h3, n, st', h4⟩ := h args st v hg
  exact flat_of hG hlt h1 (Ars.flats h2) (callAt_ev hm htab (fnOk_of htab hf) h4) (.flat v h3) h3 hrel hb hargs
noncomputable def memoG (R : List V → St → CR → St → Prop) (args : List V) (st : St) : Option (CR × St) := by
  classical exact if h : ∃ p : CR × St, R args st p.1 p.2 then some h.choose else none
theorem memo_of {f : Nat} {R : List V → St → CR → St → Prop} (h : ∀ args st r st', R args st r st' → CallAt P f args st r st') : MemoOk P f (memoG R) := by
  intro args st st' r hg
  unfold memoG at hg
  split at hg
  · rename_i hx
    have hc := hx.choose_spec
    have e := Option.some.inj hg
    rw [e] at hc
    exact h _ _ _ _ hc
  · exact nomatch hg
theorem memo_at {fns : Tr Fs} {f n : Nat} {R : List V → St → CR → St → Prop} (hf : fns.get f = some (.memo (memoG R))) {args : List V} {st : St} {r : CR} {st' : St} (h : R args st r st') : ∃ r st', R args st r st' ∧ evF fns (n + 1) f args st = some (r, st') := by
  have hx : ∃ p : CR × St, R args st p.1 p.2 := ⟨(r, st'), h⟩
  refine ⟨hx.choose.1, hx.choose.2, hx.choose_spec, ?_⟩
  show (Option.rec none (fun fn => Fs.rec (fun rs b => enterF (evF fns n) n rs b args st) (fun k => Option.rec none (fun v => some (.ret v, st)) (evX k args)) (fun rs b => enterD fns (evF fns n) n rs b args st) (fun _ _ => none) (fun g => Option.rec none (fun v => some (.ret v, st)) (g args st)) (fun g => g args st) fn) (fns.get f) : Option (CR × St)) = _
  rw [hf]
  show memoG R args st = _
  unfold memoG
  rw [dif_pos hx]
noncomputable def sameTab (vs : List V) (b : Option Ob) : Bool := onCells false (fun _ cs w => Bool.rec (sameL cs vs) false w) b
noncomputable def sameTabE (vs : List V) (b : Option Ob) : Bool := onCells false (fun e cs w => Bool.rec (sameL cs vs && Nat.beq e (lenL vs)) false w) b
theorem sameTabE_eq {vs : List V} {b : Option Ob} (h : sameTabE vs b = true) : b = some (.cells vs.length vs false) := by
  cases b with
  | none => exact nomatch h
  | some b =>
    cases b with
    | cells e cs w =>
      cases w with
      | true => exact nomatch h
      | false =>
        have h' : (sameL cs vs && Nat.beq e (lenL vs)) = true := h
        rw [Bool.and_eq_true, lenL_eq] at h'
        rw [sameL_eq h'.1, Nat.eq_of_beq_eq_true h'.2]
    | iter s p => exact nomatch h
    | map es => exact nomatch h
theorem sameTab_eq {vs : List V} {b : Option Ob} (h : sameTab vs b = true) : ∃ e, b = some (.cells e vs false) := by
  cases b with
  | none => exact nomatch h
  | some b =>
    cases b with
    | cells e cs w =>
      cases w with
      | true => exact nomatch h
      | false => exact ⟨e, by rw [sameL_eq (show sameL cs vs = true from h)]⟩
    | iter s p => exact nomatch h
    | map es => exact nomatch h
end
end Go.Proofs.YtnebopkgnkemiaaGreatDoor.Av
namespace Go.Proofs.YtnebopkgnkemiaaGreatDoor.Av
set_option linter.unusedVariables false
set_option linter.unusedSimpArgs false
open Go
section
variable {call : Callee} {n : Nat} {tm : Tr V} {st : St} {d : Option Pa} {k : K}
theorem x_seq (a b : CEv) : cSeq a b call n tm st = thenR (a call n tm st) (b call n) := Eq.trans (Eq.refl _) rfl
theorem x_reg (k : K) : cReg k call n tm st = k call tm st := Eq.trans (Eq.refl _) rfl
theorem x_skip : cSkip call n tm st = some (.nrm, tm, st) := Eq.trans (Eq.refl _) rfl
theorem x_ret : cRet call n tm st = some (.ret, tm, st) := Eq.trans (Eq.refl _) rfl
theorem x_exit (i : Nat) : cExit i call n tm st = some (.exit i, tm, st) := Eq.trans (Eq.refl _) rfl
theorem x_cond (c : X) (a b : CEv) : cCond c a b call n tm st = condV (a call n tm st) (b call n tm st) (c.ev tm) := Eq.trans (Eq.refl _) rfl
theorem x_condT (a b : Run) : condV a b (.bool true) = a := Eq.trans (Eq.refl _) rfl
theorem x_condF (a b : Run) : condV a b (.bool false) = b := Eq.trans (Eq.refl _) rfl
theorem x_block (i : Nat) (b : CEv) : cBlock i b call n tm st = outR i (b call n tm st) := Eq.trans (Eq.refl _) rfl
theorem x_loop (b : CEv) : cLoop b call n tm st = loopV n (b call n) tm st := Eq.trans (Eq.refl _) rfl
theorem x_loop1 (n : Nat) (body : Tr V → St → Run) (tm : Tr V) (st : St) : loopV (n + 1) body tm st = thenR (body tm st) (loopV n body) := Eq.trans (Eq.refl _) rfl
theorem x_nrm (tm : Tr V) (st : St) (f : Tr V → St → Run) : thenR (some (.nrm, tm, st)) f = f tm st := Eq.trans (Eq.refl _) rfl
theorem x_then_ret (tm : Tr V) (st : St) (f : Tr V → St → Run) : thenR (some (.ret, tm, st)) f = some (.ret, tm, st) := Eq.trans (Eq.refl _) rfl
theorem x_then_exit (i : Nat) (tm : Tr V) (st : St) (f : Tr V → St → Run) : thenR (some (.exit i, tm, st)) f = some (.exit i, tm, st) := Eq.trans (Eq.refl _) rfl
theorem x_then_pan (v : V) (tm : Tr V) (st : St) (f : Tr V → St → Run) : thenR (some (.pan v, tm, st)) f = some (.pan v, tm, st) := Eq.trans (Eq.refl _) rfl
theorem x_out_nrm (i : Nat) (tm : Tr V) (st : St) : outR i (some (.nrm, tm, st)) = some (.nrm, tm, st) := Eq.trans (Eq.refl _) rfl
theorem x_out_ret (i : Nat) (tm : Tr V) (st : St) : outR i (some (.ret, tm, st)) = some (.ret, tm, st) := Eq.trans (Eq.refl _) rfl
theorem x_out_pan (i : Nat) (v : V) (tm : Tr V) (st : St) : outR i (some (.pan v, tm, st)) = some (.pan v, tm, st) := Eq.trans (Eq.refl _) rfl
theorem x_out_exit (i j : Nat) (tm : Tr V) (st : St) : outR i (some (.exit j, tm, st)) = if j = i then some (.nrm, tm, st) else some (.exit j, tm, st) := by
  show (Bool.rec (some (.exit j, tm, st)) (some (.nrm, tm, st)) (Nat.beq j i) : Run) = _
  by_cases h : j = i
  · rw [beqT h, if_pos h]
  · rw [beqF h, if_neg h]
theorem x_endG : endG call tm st = some (.nrm, tm, st) := Eq.trans (Eq.refl _) rfl
theorem x_step0 (go : Option Pa → K → K) : step0 d go k call tm st = go d k call tm st := Eq.trans (Eq.refl _) rfl
theorem x_stepG (go : Option Pa → K → K) (p : Pa) (w : Bool) : stepG d go (some (p, w)) k call tm st = Bool.rec (k call (putT tm d .undef) st) (go d k call tm st) (isB w (X.ev tm (.t p))) := by
  show (Bool.rec (k call (putT tm d .undef) st) (go d k call tm st) (Option.rec false (fun v => isB w v) (tm.at p)) : Run) = _
  rw [ev_t]
  cases tm.at p <;> rfl
theorem x_stepGT {go : Option Pa → K → K} {p : Pa} {w : Bool} (h : X.ev tm (.t p) = .bool w) : stepG d go (some (p, w)) k call tm st = go d k call tm st := by
  rw [x_stepG, h]; cases w <;> rfl
theorem x_stepGF {go : Option Pa → K → K} {p : Pa} {w : Bool} (h : X.ev tm (.t p) = .bool (!w)) : stepG d go (some (p, w)) k call tm st = k call (putT tm d .undef) st := by
  rw [x_stepG, h]; cases w <;> rfl
theorem x_stepGU {go : Option Pa → K → K} {p : Pa} {w : Bool} (h : X.ev tm (.t p) = V.undef) : stepG d go (some (p, w)) k call tm st = k call (putT tm d .undef) st := by
  rw [x_stepG, h]; rfl
theorem x_isBT (b : Bool) : isB true (.bool b) = b := by cases b <;> rfl
theorem x_isBF (b : Bool) : isB false (.bool b) = !b := by cases b <;> rfl
theorem x_recT {α : Type} (a b : α) : (Bool.rec a b true : α) = b := Eq.trans (Eq.refl _) rfl
theorem x_recF {α : Type} (a b : α) : (Bool.rec a b false : α) = a := Eq.trans (Eq.refl _) rfl
theorem x_mov (x : X) : gMov x d k call tm st = k call (putT tm d (x.ev tm)) st := Eq.trans (Eq.refl _) rfl
theorem x_gP {f : Tr V → St → Option V} {v : V} (h : f tm st = some v) : gP f d k call tm st = k call (putT tm d v) st := by
  show (Option.rec none (fun v => k call (putT tm d v) st) (f tm st) : Run) = _
  rw [h]
theorem x_gP' {f : Tr V → St → Option V} : gP f d k call tm st = Option.rec none (fun v => k call (putT tm d v) st) (f tm st) := Eq.trans (Eq.refl _) rfl
theorem x_gE' {f : Tr V → St → Ev} : gE f d k call tm st = Option.rec none (fun p => Prod.rec (fun v st' => k call (putT tm d v) st') p) (f tm st) := Eq.trans (Eq.refl _) rfl
theorem x_call (f : Nat) (xs : List X) : gCall f xs d k call tm st = goR d k call tm (call f (X.evs tm xs) st) := Eq.trans (Eq.refl _) rfl
theorem x_dyn (x : X) (xs : List X) : gDyn x xs d k call tm st = goR d k call tm (dynV call (X.evs tm xs) st (x.ev tm)) := Eq.trans (Eq.refl _) rfl
theorem x_dynV (args : List V) (f : Nat) (cs : List V) : dynV call args st (.func f cs) = call f (args ++ cs) st := by
  show call f (appL args cs) st = _
  rw [appL_eq]
theorem x_goR (v : V) (st' : St) : goR d k call tm (some (.ret v, st')) = k call (putT tm d v) st' := Eq.trans (Eq.refl _) rfl
theorem x_put (p : Pa) (v : V) : putT tm (some p) v = tm.to p (some v) := Eq.trans (Eq.refl _) rfl
theorem x_put0 (v : V) : putT tm none v = tm := Eq.trans (Eq.refl _) rfl
theorem x_evc (v : V) : X.ev tm (.c v) = v := Eq.trans (Eq.refl _) rfl
theorem x_evt (i j : Nat) (v : V) : X.ev (tm.to (pa i) (some v)) (.t (pa j)) = if i = j then v else X.ev tm (.t (pa j)) := by
  rw [ev_t, ev_t]
  by_cases h : i = j
  · subst h; rw [at_to_same, if_pos rfl]; rfl
  · rw [at_to_ne _ _ (fun e => h (pa_inj e)), if_neg h]
theorem x_ats (i j : Nat) (v : V) : (tm.to (pa i) (some v)).at (pa j) = if i = j then some v else tm.at (pa j) := by
  by_cases h : i = j
  · subst h; rw [at_to_same, if_pos rfl]
  · rw [at_to_ne _ _ (fun e => h (pa_inj e)), if_neg h]
theorem x_evs (x : X) (l : List X) : X.evs tm (x :: l) = x.ev tm :: X.evs tm l := Eq.trans (Eq.refl _) rfl
theorem x_evs0 : X.evs tm [] = [] := Eq.trans (Eq.refl _) rfl
theorem x_onInt {α : Type} (d : α) (f : Nat → Int → α) (k : Nat) (n : Int) : (V.int k n).onInt d f = f k n := Eq.trans (Eq.refl _) rfl
theorem x_onStr {α : Type} (d : α) (f : List UInt8 → α) (s : List UInt8) : (V.str s).onStr d f = f s := Eq.trans (Eq.refl _) rfl
theorem x_onBool {α : Type} (d : α) (f : Bool → α) (b : Bool) : (V.bool b).onBool d f = f b := Eq.trans (Eq.refl _) rfl
theorem x_onNat {α : Type} (d : α) (f : Nat → α) (k : Nat) (n : Nat) : (V.int k (Int.ofNat n)).onNat d f = f n := Eq.trans (Eq.refl _) rfl
theorem x_onPtr {α : Type} (d : α) (f : Nat → Nat → α) (o i n c : Nat) (x : Bool) : (V.ref 1 o i n c x).onPtr d f = f o i := Eq.trans (Eq.refl _) rfl
theorem x_onSlice {α : Type} (d z : α) (f : Nat → Nat → Nat → Nat → Bool → α) (o i n c : Nat) (x : Bool) : (V.ref 3 o i n c x).onSlice d z f = f o i n c x := Eq.trans (Eq.refl _) rfl
theorem x_onSlice0 {α : Type} (d z : α) (f : Nat → Nat → Nat → Nat → Bool → α) (o i n c : Nat) (x : Bool) : (V.ref 2 o i n c x).onSlice d z f = z := Eq.trans (Eq.refl _) rfl
theorem x_onCells {α : Type} (d : α) (f : Nat → List V → Bool → α) (e : Nat) (cs : List V) (w : Bool) : onCells d f (some (.cells e cs w)) = f e cs w := Eq.trans (Eq.refl _) rfl
theorem x_onTup {α : Type} (d : α) (f : List V → α) (a : Nat) (l : List V) : (V.cmp 3 a l).onTup d f = f l := Eq.trans (Eq.refl _) rfl
theorem x_onAgg {α : Type} (d : α) (f : List V → α) (a : Nat) (l : List V) : (V.cmp 2 a l).onAgg d f = f l := Eq.trans (Eq.refl _) rfl
theorem x_slF {α : Type} (d z : α) (f : Nat → Nat → Nat → Nat → Bool → α) (t a : Nat) (l : List V) : (V.cmp t a l).onSlice d z f = d := Eq.trans (Eq.refl _) rfl
theorem x_fsl4 {α : Type} (d : α) (f : Nat → Nat → Nat → Bool → List V → α) (a o i n c : Nat) (x : Bool) (l : List V) : (V.cmp 4 a (.ref 8 o i n c x :: l)).onFsl d f = f 4 n c x l := Eq.trans (Eq.refl _) rfl
theorem x_fsl6 {α : Type} (d : α) (f : Nat → Nat → Nat → Bool → List V → α) (a o i n c : Nat) (x : Bool) (l : List V) : (V.cmp 6 a (.ref 8 o i n c x :: l)).onFsl d f = f 6 n c x l := Eq.trans (Eq.refl _) rfl
theorem x_ptrF {α : Type} (d : α) (f : Nat → Nat → α) (t a : Nat) (l : List V) : (V.cmp t a l).onPtr d f = d := Eq.trans (Eq.refl _) rfl
theorem x_fptr5 {α : Type} (d : α) (f : Nat → List V → α) (a : Nat) (l : List V) : (V.cmp 5 a l).onFptr d f = f 5 l := Eq.trans (Eq.refl _) rfl
theorem x_fptr7 {α : Type} (d : α) (f : Nat → List V → α) (a : Nat) (l : List V) : (V.cmp 7 a l).onFptr d f = f 7 l := Eq.trans (Eq.refl _) rfl
theorem x_beq (n : Nat) : Nat.beq n n = true := Nat.beq_refl n
theorem x_int (f : F2) (k : Nat) (x y : X) (a b : Int) (hx : x.ev tm = .int k a) (hy : y.ev tm = .int k b) : iInt f k x y tm st = f k a b := by
  unfold iInt
  rw [hx, hy, x_onInt, x_onInt, x_beq]
end
section
variable {fns : Tr Fs} {n f : Nat} {args : List V} {st : St}
theorem ev_mk {rs : List RV} {b : CEv} (h : fns.get f = some (.mk rs b)) : evF fns (n + 1) f args st = leaveF st rs (b (evF fns n) n (initT args 0 .leaf) { next := st.next, low := st.next, mem := st.mem }) := by
  show (Option.rec none (fun fn => Fs.rec (fun rs b => enterF (evF fns n) n rs b args st) (fun k => Option.rec none (fun v => some (.ret v, st)) (evX k args)) (fun rs b => enterD fns (evF fns n) n rs b args st) (fun _ _ => none) (fun g => Option.rec none (fun v => some (.ret v, st)) (g args st)) (fun g => g args st) fn) (fns.get f) : Option (CR × St)) = _
  rw [h]
  rfl
theorem ev_spec {g : List V → St → Option V} {v : V} (h : fns.get f = some (.spec g)) (hg : g args st = some v) : evF fns (n + 1) f args st = some (.ret v, st) := by
  show (Option.rec none (fun fn => Fs.rec (fun rs b => enterF (evF fns n) n rs b args st) (fun k => Option.rec none (fun v => some (.ret v, st)) (evX k args)) (fun rs b => enterD fns (evF fns n) n rs b args st) (fun _ _ => none) (fun g => Option.rec none (fun v => some (.ret v, st)) (g args st)) (fun g => g args st) fn) (fns.get f) : Option (CR × St)) = _
  rw [h]
  show (Option.rec none (fun v => some (CR.ret v, st)) (g args st) : Option (CR × St)) = _
  rw [hg]
theorem ev_ext {k : Nat} {v : V} (h : fns.get f = some (.ext k)) (hv : evX k args = some v) : evF fns (n + 1) f args st = some (.ret v, st) := by
  show (Option.rec none (fun fn => Fs.rec (fun rs b => enterF (evF fns n) n rs b args st) (fun k => Option.rec none (fun v => some (.ret v, st)) (evX k args)) (fun rs b => enterD fns (evF fns n) n rs b args st) (fun _ _ => none) (fun g => Option.rec none (fun v => some (.ret v, st)) (g args st)) (fun g => g args st) fn) (fns.get f) : Option (CR × St)) = _
  rw [h]
  show (Option.rec none (fun v => some (CR.ret v, st)) (evX k args) : Option (CR × St)) = _
  rw [hv]
theorem ev_memo {g : List V → St → Option (CR × St)} (h : fns.get f = some (.memo g)) : evF fns (n + 1) f args st = g args st := by
  show (Option.rec none (fun fn => Fs.rec (fun rs b => enterF (evF fns n) n rs b args st) (fun k => Option.rec none (fun v => some (.ret v, st)) (evX k args)) (fun rs b => enterD fns (evF fns n) n rs b args st) (fun _ _ => none) (fun g => Option.rec none (fun v => some (.ret v, st)) (g args st)) (fun g => g args st) fn) (fns.get f) : Option (CR × St)) = _
  rw [h]
theorem leave_ret {tm : Tr V} {st' : St} {p : Pa} {v : V} (hv : tm.at p = some v) (hl : st.next ≤ st'.low) (hu : v.under st.next = true) : leaveF st [.t p] (some (.ret, tm, st')) = some (.ret v, st) := by
  show (Option.rec none (fun v => some (.ret v, back st (.ret v) st')) (tm.at p) : Option (CR × St)) = _
  rw [hv]
  show some (CR.ret v, back st (.ret v) st') = _
  unfold back
  rw [show (CR.ret v).under st.next = true from hu, bleT hl]
  rfl
theorem leave_nrm {tm : Tr V} {st' : St} {p : Pa} {v : V} (hv : tm.at p = some v) (hl : st.next ≤ st'.low) (hu : v.under st.next = true) : leaveF st [.t p] (some (.nrm, tm, st')) = some (.ret v, st) := leave_ret hv hl hu
end
section
variable {tm : Tr V} {st : St}
theorem x_store {n : Nat} {a x : X} {o i e : Nat} {l cs : List V} (ha : a.ev tm = .ref 1 o i 0 0 false) (hx : (x.ev tm).cells? = some l) (hg : st.mem.get o = some (.cells e cs true)) (hl : l.length = n) (hi : i + n ≤ cs.length) :
    iStore n a x tm st = some (.undef, st.put o (some (.cells e (splice cs i l) true))) := by
  unfold iStore
  rw [ha, x_onPtr, hx]
  show onCells none _ (st.mem.get o) = _
  rw [hg, x_onCells]
  have h1 : Nat.beq (lenL l) n = true := by rw [lenL_eq]; exact beqT hl
  have h2 : Nat.ble (Nat.add i n) (lenL cs) = true := by rw [lenL_eq]; exact bleT hi
  rw [h1, h2]
  rfl
theorem x_loadA {n : Nat} {x : X} {o i e : Nat} {cs : List V} {w : Bool} (hx : x.ev tm = .ref 1 o i 0 0 false) (hg : st.mem.get o = some (.cells e cs w)) (hi : i + n ≤ cs.length) : iLoad true n x tm st = some (.agg ((cs.drop i).take n)) := by
  unfold iLoad
  rw [hx, x_onPtr, hg, x_onCells]
  show (bif Nat.ble (Nat.add i n) (lenL cs) then some (V.agg (takeL (dropL cs i) n)) else none) = _
  have h2 : Nat.ble (Nat.add i n) (lenL cs) = true := by rw [lenL_eq]; exact bleT hi
  rw [h2, takeL_eq, dropL_eq]
  rfl
theorem x_load1 {x : X} {o i e : Nat} {cs : List V} {w : Bool} {v : V} (hx : x.ev tm = .ref 1 o i 0 0 false) (hg : st.mem.get o = some (.cells e cs w)) (hv : cs[i]? = some v) : iLoad false 1 x tm st = some v := by
  unfold iLoad
  rw [hx, x_onPtr, hg, x_onCells]
  show nth cs i = _
  rw [nth_eq, hv]
theorem x_iad {n : Nat} {x i : X} {o b m c k kk : Nat} {ex : Bool} (hx : x.ev tm = .ref 3 o b m c ex) (hi : i.ev tm = .int kk (Int.ofNat k)) (hk : k < m) : iIad n x i tm st = some (.ptr o (b + k * n)) := by
  unfold iIad
  rw [hx, x_onSlice, hi, x_onNat, blt_iff.2 hk]
  rfl
theorem x_fill0 (z : List V) : fillV tm z [] = some z := Eq.trans (Eq.refl _) rfl
theorem x_rvm (p : Pa) (g : Bool) (n : Nat) : RV.ev tm st (.m p g n) = iLoad g n (.t p) tm st := Eq.trans (Eq.refl _) rfl
theorem x_rvt (p : Pa) : RV.ev tm st (.t p) = tm.at p := Eq.trans (Eq.refl _) rfl
theorem leave_ret2 {st0 : St} {r1 r2 : RV} {v1 v2 : V} (h1 : RV.ev tm st r1 = some v1) (h2 : RV.ev tm st r2 = some v2) (hl : st0.next ≤ st.low) (hu : (V.tup [v1, v2]).under st0.next = true) :
    leaveF st0 [r1, r2] (some (.ret, tm, st)) = some (.ret (.tup [v1, v2]), st0) := by
  show (Option.rec none (fun v => some (.ret v, back st0 (.ret v) st)) (resV tm st [r1, r2]) : Option (CR × St)) = _
  have h3 : RV.evs tm st [r1, r2] = some [v1, v2] := by
    show (match RV.ev tm st r1, (match RV.ev tm st r2, (some [] : Option (List V)) with
      | some v, some vs => some (v :: vs)
      | _, _ => none) with
      | some v, some vs => some (v :: vs)
      | _, _ => none) = _
    rw [h1, h2]
  have h4 : resV tm st [r1, r2] = some (.tup [v1, v2]) := by
    show (match RV.evs tm st [r1, r2] with
      | some vs => some (V.tup vs)
      | none => none) = _
    rw [h3]
  rw [h4]
  show some (CR.ret (V.tup [v1, v2]), back st0 (.ret (.tup [v1, v2])) st) = _
  unfold back
  rw [show (CR.ret (V.tup [v1, v2])).under st0.next = true from hu, bleT hl]
  rfl
end
theorem initT0 (tm : Tr V) (i : Nat) : initT [] i tm = tm := Eq.trans (Eq.refl _) rfl
theorem initT1 (v : V) (l : List V) (i : Nat) (tm : Tr V) : initT (v :: l) i tm = initT l (i + 1) (tm.to (pa i) (some v)) := Eq.trans (Eq.refl _) rfl
theorem tableSpec {P : Program} {fns : Tr Fs} (h : TableOk P fns) {f : Nat} {g : List V → St → Option V} (hg : SpecOk P f g) : TableOk P (fns.set f (some (.spec g))) := by
  intro k fs hk
  rw [get_set] at hk
  split at hk
  · rename_i e
    obtain rfl := Option.some.inj hk
    subst e; exact hg
  · exact h k fs hk
theorem tableMemo {P : Program} {fns : Tr Fs} (h : TableOk P fns) {f : Nat} {g : List V → St → Option (CR × St)} (hg : MemoOk P f g) : TableOk P (fns.set f (some (.memo g))) := by
  intro k fs hk
  rw [get_set] at hk
  split at hk
  · rename_i e
    obtain rfl := Option.some.inj hk
    subst e; exact hg
  · exact h k fs hk
end Go.Proofs.YtnebopkgnkemiaaGreatDoor.Av
namespace Go.Proofs.YtnebopkgnkemiaaGreatDoor.Av
set_option linter.unusedVariables false
set_option linter.unusedSimpArgs false
open Go
section
variable {call : Callee} {n : Nat} {tm : Tr V} {st : St} {d : Option Pa} {k : DK} {rs : Rds} {us : List Pa} {go : Option Pa → K → K}
noncomputable def drR (ws : List Pa) (r : Option DR) : Run := Option.rec none (fun r => DR.rec (fun tm' s => some (.nrm, tm', s)) (fun v s => some (.pan v, veil ws Tr.leaf, s)) r) r
noncomputable def oneK (f : V → Option DR) (r : Option (CR × St)) : Option DR := Option.rec none (fun p => Prod.rec (fun c _ => CR.rec f (fun _ => none) c) p) r
noncomputable def oneL (f : V → St → Option DR) (r : Option (CR × St)) : Option DR := Option.rec none (fun p => Prod.rec (fun c s' => CR.rec (fun v => f v s') (fun v => some (.pan v s')) c) p) r
theorem x_drawN {ws : List Pa} {tm' : Tr V} {st' : St} (h : k call tm st [] = some (.nrm tm' st')) : cDraw ws k call n tm st = some (.nrm, tm', st') := by
  show (Option.rec none (fun r => DR.rec (fun tm' s => some (.nrm, tm', s)) (fun v s => some (.pan v, veil ws tm, s)) r) (k call tm st []) : Run) = _
  rw [h]
theorem x_draw {ws : List Pa} : cDraw ws k call n tm st = Option.rec none (fun r => DR.rec (fun tm' s => some (.nrm, tm', s)) (fun v s => some (.pan v, veil ws tm, s)) r) (k call tm st []) := Eq.trans (Eq.refl _) rfl
theorem x_oneC2 (f : Nat) (xs : List X) : oneV (gCall f xs) call tm st = oneR (goR (some .h) endG call tm (call f (X.evs tm xs) st)) := Eq.trans (Eq.refl _) rfl
theorem x_endD : endD call tm st rs = some (.nrm tm st) := Eq.trans (Eq.refl _) rfl
theorem x_stepR0 : stepR us d go none k call tm st rs = oneK (fun v => k call (putT tm d v) st rs) (oneV go call (pickT us tm) st) := Eq.trans (Eq.refl _) rfl
theorem x_stepQ0 (id : Nat) : stepQ id us d go none k call tm st rs = oneK (fun v => k call (putT tm d v) st ((id, fun s' => seesV v (oneV go call (pickT us tm) s')) :: rs)) (oneV go call (pickT us tm) st) := Eq.trans (Eq.refl _) rfl
theorem x_stepL0 : stepL us d go none k call tm st rs = oneL (fun v s' => k call (putT tm d v) s' rs) (oneV go call (pickT us tm) st) := Eq.trans (Eq.refl _) rfl
theorem x_wanted (p : Pa) (b : Bool) : wantedV tm (some (p, b)) = Option.rec false (fun v => isB b v) (tm.at p) := Eq.trans (Eq.refl _) rfl
theorem x_stepRg (g : Pa × Bool) : stepR us d go (some g) k call tm st rs = Bool.rec (k call (putT tm d .undef) st rs) (oneK (fun v => k call (putT tm d v) st rs) (oneV go call (pickT us tm) st)) (wantedV (pickT us tm) (some g)) := Eq.trans (Eq.refl _) rfl
theorem x_stepQg (id : Nat) (g : Pa × Bool) : stepQ id us d go (some g) k call tm st rs = Bool.rec (k call (putT tm d .undef) st rs) (oneK (fun v => k call (putT tm d v) st ((id, fun s' => seesV v (oneV go call (pickT us tm) s')) :: rs)) (oneV go call (pickT us tm) st)) (wantedV (pickT us tm) (some g)) := Eq.trans (Eq.refl _) rfl
theorem x_stepLg (g : Pa × Bool) : stepL us d go (some g) k call tm st rs = Bool.rec (k call (putT tm d .undef) st rs) (oneL (fun v s' => k call (putT tm d v) s' rs) (oneV go call (pickT us tm) st)) (wantedV (pickT us tm) (some g)) := Eq.trans (Eq.refl _) rfl
theorem x_oneK (f : V → Option DR) (v : V) (s : St) : oneK f (some (.ret v, s)) = f v := Eq.trans (Eq.refl _) rfl
theorem x_oneL (f : V → St → Option DR) (v : V) (s : St) : oneL f (some (.ret v, s)) = f v s := Eq.trans (Eq.refl _) rfl
theorem at_h (tm : Tr V) (v : V) : (tm.to .h (some v)).at .h = some v := at_to_same tm .h _
theorem oneR_nrm (tm : Tr V) (v : V) (s : St) : oneR (some (.nrm, tm.to .h (some v), s)) = some (.ret v, s) := by
  show (Option.rec none (fun v => some (CR.ret v, s)) ((tm.to .h (some v)).at .h) : Option (CR × St)) = _
  rw [at_h]
theorem x_oneP (f : Tr V → St → Option V) : oneV (gP f) call tm st = Option.rec none (fun v => some (.ret v, st)) (f tm st) := by
  show oneR (Option.rec none (fun v => endG call (putT tm (some .h) v) st) (f tm st)) = _
  cases f tm st with
  | none => rfl
  | some v => exact oneR_nrm tm v st
theorem x_oneM (x : X) : oneV (gMov x) call tm st = some (.ret (x.ev tm), st) := oneR_nrm tm _ st
theorem x_oneE (f : Tr V → St → Ev) : oneV (gE f) call tm st = Option.rec none (fun p => some (.ret p.1, p.2)) (f tm st) := by
  show oneR (Option.rec none (fun p => Prod.rec (fun v st' => endG call (putT tm (some .h) v) st') p) (f tm st)) = _
  cases f tm st with
  | none => rfl
  | some p => exact oneR_nrm tm p.1 p.2
theorem x_oneC {f : Nat} {xs : List X} {v : V} {st' : St} (h : call f (X.evs tm xs) st = some (.ret v, st')) : oneV (gCall f xs) call tm st = some (.ret v, st') := by
  show oneR (goR (some .h) endG call tm (call f (X.evs tm xs) st)) = _
  rw [h]
  exact oneR_nrm tm v st'
theorem x_stepC0 {cs : List Nat} {v : V} (h : oneV go call (pickT us tm) st.fresh = some (.ret v, st.fresh)) (hl : st.low ≤ st.next) : stepC cs us d go none k call tm st rs = k call (putT tm d v) st rs := by
  show (Option.rec none (fun p => Prod.rec (fun c s' => CR.rec
        (fun v => bif Nat.ble st.next s'.low then k call (putT tm d v) (st.after s') rs else bif seeAll cs rs (st.after s') then k call (putT tm d v) (st.after s') rs else none)
        (fun v => some (.pan v (st.after s'))) c) p) (oneV go call (pickT us tm) st.fresh) : Option DR) = _
  rw [h]
  show (bif Nat.ble st.next st.next then k call (putT tm d v) (st.after st.fresh) rs else _) = _
  rw [bleT (Nat.le_refl _)]
  have : st.after st.fresh = st := by
    unfold St.after St.fresh
    rw [bleT hl]
    rfl
  rw [this]
  rfl
theorem wanted_ev {tm : Tr V} {p : Pa} {w b : Bool} (h : X.ev tm (.t p) = .bool b) : wantedV tm (some (p, w)) = isB w (.bool b) := by
  show (Option.rec false (fun v => isB w v) (tm.at p) : Bool) = _
  rw [ev_t] at h
  cases hp : tm.at p with
  | none => rw [hp] at h; exact nomatch h
  | some v => rw [hp] at h; obtain rfl : v = .bool b := h; rfl
theorem x_stepRT {p : Pa} {w : Bool} (h : X.ev (pickT us tm) (.t p) = .bool w) : stepR us d go (some (p, w)) k call tm st rs = oneK (fun v => k call (putT tm d v) st rs) (oneV go call (pickT us tm) st) := by
  rw [x_stepRg, wanted_ev h]; cases w <;> rfl
theorem x_stepRF {p : Pa} {w : Bool} (h : X.ev (pickT us tm) (.t p) = .bool (!w)) : stepR us d go (some (p, w)) k call tm st rs = k call (putT tm d .undef) st rs := by
  rw [x_stepRg, wanted_ev h]; cases w <;> rfl
theorem x_stepQT {id : Nat} {p : Pa} {w : Bool} (h : X.ev (pickT us tm) (.t p) = .bool w) : stepQ id us d go (some (p, w)) k call tm st rs = oneK (fun v => k call (putT tm d v) st ((id, fun s' => seesV v (oneV go call (pickT us tm) s')) :: rs)) (oneV go call (pickT us tm) st) := by
  rw [x_stepQg, wanted_ev h]; cases w <;> rfl
theorem x_stepQF {id : Nat} {p : Pa} {w : Bool} (h : X.ev (pickT us tm) (.t p) = .bool (!w)) : stepQ id us d go (some (p, w)) k call tm st rs = k call (putT tm d .undef) st rs := by
  rw [x_stepQg, wanted_ev h]; cases w <;> rfl
theorem x_stepLT {p : Pa} {w : Bool} (h : X.ev (pickT us tm) (.t p) = .bool w) : stepL us d go (some (p, w)) k call tm st rs = oneL (fun v s' => k call (putT tm d v) s' rs) (oneV go call (pickT us tm) st) := by
  rw [x_stepLg, wanted_ev h]; cases w <;> rfl
theorem x_stepLF {p : Pa} {w : Bool} (h : X.ev (pickT us tm) (.t p) = .bool (!w)) : stepL us d go (some (p, w)) k call tm st rs = k call (putT tm d .undef) st rs := by
  rw [x_stepLg, wanted_ev h]; cases w <;> rfl
theorem x_stepCF {cs : List Nat} {p : Pa} {w : Bool} (h : X.ev (pickT us tm) (.t p) = .bool (!w)) : stepC cs us d go (some (p, w)) k call tm st rs = k call (putT tm d .undef) st rs := by
  show (Bool.rec (k call (putT tm d .undef) st rs) _ (wantedV (pickT us tm) (some (p, w))) : Option DR) = _
  rw [wanted_ev h]; cases w <;> rfl
theorem x_stepCT {cs : List Nat} {p : Pa} {w : Bool} (h : X.ev (pickT us tm) (.t p) = .bool w) : stepC cs us d go (some (p, w)) k call tm st rs = stepC cs us d go none k call tm st rs := by
  show (Bool.rec (k call (putT tm d .undef) st rs) _ (wantedV (pickT us tm) (some (p, w))) : Option DR) = _
  rw [wanted_ev h]; cases w <;> rfl
theorem x_pick0 : pickT [] tm = .leaf := Eq.trans (Eq.refl _) rfl
theorem x_pick1 (p : Pa) : pickT (p :: us) tm = (pickT us tm).to p (tm.at p) := Eq.trans (Eq.refl _) rfl
end
end Go.Proofs.YtnebopkgnkemiaaGreatDoor.Av
namespace Go.Proofs.YtnebopkgnkemiaaGreatDoor.Av
set_option linter.unusedVariables false
set_option linter.unusedSimpArgs false
open Go
noncomputable def loc (s : St) (e : Nat) (z c : List V) : St := (s.new (.cells e z true)).put s.next (some (.cells e c true))
theorem loc_next (s : St) (e : Nat) (z c : List V) : (loc s e z c).next = s.next + 1 := rfl
theorem loc_get (s : St) (e : Nat) (z c : List V) : (loc s e z c).mem.get s.next = some (.cells e c true) := by unfold loc; rw [put_get, if_pos rfl]
theorem loc_ne {s : St} {e : Nat} {z c : List V} {o : Nat} (h : o ≠ s.next) : (loc s e z c).mem.get o = s.mem.get o := by unfold loc; rw [put_get, if_neg h, new_get, if_neg h]
theorem new_get_self' (st : St) (b : Ob) : (st.new b).mem.get st.next = some b := by rw [new_get, if_pos rfl]
noncomputable def stW (n : Nat) (va vx : V) (st : St) : Ev :=
  va.onPtr none (fun o i => Option.rec none (fun l => onCells none (fun e cs w =>
    bif w && (Nat.beq (lenL l) n && Nat.ble (Nat.add i n) (lenL cs)) then some (.undef, st.put o (some (.cells e (splice cs i l) true))) else none) (st.mem.get o)) vx.cells?)
noncomputable def ldW (g : Bool) (n : Nat) (v : V) (st : St) : Option V :=
  v.onPtr (v.onFptr none (fun _ l => part g l 0 n)) (fun o i => onCells none (fun _ cs _ => (part g cs i n)) (st.mem.get o))
section
variable {n i j k o m c e t a : Nat} {x y : X} {tm : Tr V} {st : St} {g b : Bool} {z l r : List V} {u v : V}
theorem m_store : iStore n x y tm st = stW n (x.ev tm) (y.ev tm) st := Eq.trans (Eq.refl _) rfl
theorem m_load : iLoad g n x tm st = ldW g n (x.ev tm) st := Eq.trans (Eq.refl _) rfl
theorem m_alloc : iAlloc e z tm st = some (.ref 1 st.next 0 0 0 false, st.new (.cells e z true)) := Eq.trans (Eq.refl _) rfl
theorem stW_new (h : l.length = n) (h' : z.length = n) : stW n (.ref 1 st.next 0 0 0 false) (.cmp 2 0 l) (st.new (.cells e z true)) = some (.undef, loc st e z l) := by
  unfold stW
  rw [x_onPtr, new_get_self']
  show (bif true && (Nat.beq (lenL l) n && Nat.ble (Nat.add 0 n) (lenL z)) then some (V.undef, (st.new (.cells e z true)).put st.next (some (.cells e (splice z 0 l) true))) else none) = _
  rw [lenL_eq, lenL_eq, beqT h, show Nat.ble (Nat.add 0 n) z.length = true from bleT (show 0 + n ≤ z.length by omega)]
  have : splice z 0 l = l := by
    rw [splice_eq, List.take_zero, List.nil_append, List.drop_of_length_le (by omega), List.append_nil]
  rw [this]; rfl
theorem stW_new1 (h : v.cells? = some [v]) : stW 1 (.ref 1 st.next 0 0 0 false) v (st.new (.cells e [u] true)) = some (.undef, loc st e [u] [v]) := by
  unfold stW
  rw [x_onPtr, new_get_self', h]
  rfl
theorem cells_int (k : Nat) (i : Int) : (V.int k i).cells? = some [V.int k i] := rfl
theorem cells_str (s : List UInt8) : (V.str s).cells? = some [V.str s] := rfl
theorem cells_bool (b : Bool) : (V.bool b).cells? = some [V.bool b] := rfl
theorem cells_ref (t o i n c : Nat) (x : Bool) : (V.ref t o i n c x).cells? = some [V.ref t o i n c x] := rfl
theorem cells_fsl (t a : Nat) (l : List V) (h : t ≠ 2) (h' : t ≠ 3) : (V.cmp t a l).cells? = some [V.cmp t a l] := by
  show (bif Nat.beq t 2 then some l else bif Nat.beq t 3 then none else some [V.cmp t a l]) = _
  rw [beqF h, beqF h']; rfl
theorem m_box {cs : List V} (h : (x.ev tm).cells? = some cs) : iBox e x tm st = some (.ref 1 st.next 0 0 0 false, st.new (.cells e cs true)) := by
  unfold iBox
  rw [h]
theorem ldW_nb : ldW g n (.ref 1 st.next i 0 0 false) (st.new (.cells e l b)) = part g l i n := by
  unfold ldW
  rw [x_onPtr, new_get_self', x_onCells]
theorem ldW_loc : ldW g n (.ref 1 st.next i 0 0 false) (loc st e z l) = part g l i n := by
  unfold ldW
  rw [x_onPtr, loc_get, x_onCells]
theorem ldW_lt (h : o < st.next) : ldW g n (.ref 1 o i 0 0 false) (loc st e z l) = ldW g n (.ref 1 o i 0 0 false) st := by
  unfold ldW
  rw [x_onPtr, x_onPtr, loc_ne (by omega)]
theorem ldW_new (h : o < st.next) {b : Ob} : ldW g n (.ref 1 o i 0 0 false) (st.new b) = ldW g n (.ref 1 o i 0 0 false) st := by
  unfold ldW
  rw [x_onPtr, x_onPtr, new_get, if_neg (by omega)]
theorem ldW_5 : ldW g n (.cmp 5 a l) st = part g l 0 n := Eq.trans (Eq.refl _) rfl
theorem ldW_7 : ldW g n (.cmp 7 a l) st = part g l 0 n := Eq.trans (Eq.refl _) rfl
theorem part_whole (h : l.length = n) : part true l 0 n = some (.cmp 2 0 l) := by
  show (bif Nat.ble (0 + n) (lenL l) then some (V.agg (takeL (dropL l 0) n)) else none) = _
  rw [lenL_eq, show Nat.ble (0 + n) l.length = true from bleT (by omega), takeL_eq, dropL_eq, List.drop_zero, List.take_of_length_le (by omega)]; rfl
theorem part_app (h : r.length = n) : part true (r ++ l) 0 n = some (.cmp 2 0 r) := by
  show (bif Nat.ble (0 + n) (lenL (r ++ l)) then some (V.agg (takeL (dropL (r ++ l) 0) n)) else none) = _
  rw [lenL_eq, bleT (by rw [List.length_append]; omega), takeL_eq, dropL_eq, List.drop_zero, List.take_append, List.take_of_length_le (by omega), h, Nat.sub_self, List.take_zero, List.append_nil]; rfl
theorem part_c0 : part false (v :: l) 0 n = some v := Eq.trans (Eq.refl _) rfl
theorem part_cs : part false (v :: l) (i + 1) n = part false l i n := Eq.trans (Eq.refl _) rfl
theorem part_fad (h : (i.add n) ≤ l.length) : part true l i n = some (.cmp 2 0 ((l.drop i).take n)) := by
  show (bif Nat.ble (i.add n) (lenL l) then some (V.agg (takeL (dropL l i) n)) else none) = _
  rw [lenL_eq, bleT h, takeL_eq, dropL_eq]; rfl
theorem m_fad : iFad j x tm st = (x.ev tm).onPtr ((x.ev tm).onFptr none (fun t l => some (.cmp t 0 (dropL l j)))) (fun o i => some (.ref 1 o (Nat.add i j) 0 0 false)) := Eq.trans (Eq.refl _) rfl
theorem m_add0 : Nat.add 0 j = j := Nat.zero_add j
theorem dropL_0 : dropL l 0 = l := by rw [dropL_eq, List.drop_zero]
theorem dropL_s : dropL (v :: l) (i + 1) = dropL l i := Eq.trans (Eq.refl _) rfl
theorem m_iad4 (hx : x.ev tm = .cmp 4 a (.ref 8 o i m c b :: l)) (hy : y.ev tm = .int j (Int.ofNat k)) (hk : k < m) (hl : k * n < l.length) : iIad n x y tm st = some (.cmp 5 0 (l.drop (k * n))) := by
  unfold iIad
  rw [hx, hy, x_slF, x_fsl4, x_onNat, lenL_eq, blt_iff.2 hk, show Nat.blt (Nat.mul k n) l.length = true from blt_iff.2 hl, dropL_eq]
  rfl
theorem m_iad6 (hx : x.ev tm = .cmp 6 a (.ref 8 o i m c b :: l)) (hy : y.ev tm = .int j (Int.ofNat k)) (hk : k < m) (hl : k * n < l.length) : iIad n x y tm st = some (.cmp 7 0 (l.drop (k * n))) := by
  unfold iIad
  rw [hx, hy, x_slF, x_fsl6, x_onNat, lenL_eq, blt_iff.2 hk, show Nat.blt (Nat.mul k n) l.length = true from blt_iff.2 hl, dropL_eq]
  rfl
theorem m_len4 (hx : x.ev tm = .cmp 4 a (.ref 8 o i m c b :: l)) : iLenL x tm st = some (.int 63 (Int.ofNat m)) := by
  unfold iLenL
  rw [hx, x_slF, x_fsl4]
theorem m_len6 (hx : x.ev tm = .cmp 6 a (.ref 8 o i m c b :: l)) : iLenL x tm st = some (.int 63 (Int.ofNat m)) := by
  unfold iLenL
  rw [hx, x_slF, x_fsl6]
end
theorem o_some {α : Type} {β : Type} (a : α) (f : α → Option β) : (Option.rec none f (some a) : Option β) = f a := Eq.trans (Eq.refl _) rfl
theorem p_rec {α β γ : Type} (a : α) (b : β) (f : α → β → γ) : (Prod.rec f (a, b) : γ) = f a b := Eq.trans (Eq.refl _) rfl
end Go.Proofs.YtnebopkgnkemiaaGreatDoor.Av
namespace Go.Proofs.YtnebopkgnkemiaaGreatDoor.Av
set_option linter.unusedVariables false
set_option linter.unusedSimpArgs false
open Go Go.RowKit
mutual
inductive Fv (P : Program) (s : St) (D : Nat → Prop) : V → V → Prop
  | same (v : V) : Fv P s D v v
  | nil : Fv P s D .nilSlice (.fsl 0 0 false [])
  | fsl (k i m c : Nat) (x : Bool) (e z : Nat) (cs l : List V) : D k → s.mem.get k = some (.cells e cs true) → sizeT P e = some z → i + m * z ≤ cs.length → Fvs P s D ((cs.drop i).take (m * z)) l → Fv P s D (.slice k i m c x) (.fsl m m false l)
  | wk (m c : Nat) (x : Bool) (l l' : List V) : Fvs P s D l l' → Fv P s D (.fsl m c x l) (.fsl m m false l')
  | cmp (t a : Nat) (l l' : List V) : t ≤ 3 → Fvs P s D l l' → Fv P s D (.cmp t a l) (.cmp t a l')
inductive Fvs (P : Program) (s : St) (D : Nat → Prop) : List V → List V → Prop
  | nil : Fvs P s D [] []
  | cons {v v' : V} {l l' : List V} : Fv P s D v v' → Fvs P s D l l' → Fvs P s D (v :: l) (v' :: l')
end
theorem Fvs.refl {P : Program} {s : St} {D : Nat → Prop} : ∀ l : List V, Fvs P s D l l
  | [] => .nil
  | v :: l => .cons (.same v) (Fvs.refl l)
theorem Fvs.length {P : Program} {s : St} {D : Nat → Prop} : ∀ {l l' : List V}, Fvs P s D l l' → l.length = l'.length
  | _, _, .nil => rfl
  | _, _, .cons _ h => by simp [Fvs.length h]
theorem Fvs.append {P : Program} {s : St} {D : Nat → Prop} : ∀ {l l' r r' : List V}, Fvs P s D l l' → Fvs P s D r r' → Fvs P s D (l ++ r) (l' ++ r')
  | _, _, _, _, .nil, h => h
  | _, _, _, _, .cons h hs, h' => .cons h (Fvs.append hs h')
theorem Fvs.all2 {P : Program} {s : St} {D : Nat → Prop} : ∀ {l l' : List V}, Fvs P s D l l' → All2 (Fv P s D) l l'
  | _, _, .nil => .nil
  | _, _, .cons h hs => .cons h (Fvs.all2 hs)
section
variable {P : Program} {base : Nat} {ρ ρ' : Map} {st s s' : St} {w w' : World} {D : Nat → Prop}
open Classical in
noncomputable def frzMap (ρ : Map) (s : St) (D : Nat → Prop) (w : World) : Map :=
  { pl := ρ.pl
    fz := fun b => if ρ.fz b = none then (if ∃ k e cs, D k ∧ (ρ k).live = true ∧ s.mem.get k = some (.cells e cs true) ∧ (ρ k).b = b then w.heap[b]? else none) else ρ.fz b
    kp := ρ.kp }
theorem frz_fz1 {b : Nat} {x : Obj} (h : ρ.fz b = some x) : (frzMap ρ s D w).fz b = some x := by
  show (if ρ.fz b = none then _ else ρ.fz b) = _
  rw [if_neg (by rw [h]; exact fun h => nomatch h), h]
open Classical in
theorem frz_fz2 {k e : Nat} {cs : List V} {x : Obj} (hf : ρ.fz (ρ k).b = none) (h2 : D k) (h3 : (ρ k).live = true) (h4 : s.mem.get k = some (.cells e cs true)) (h5 : w.heap[(ρ k).b]? = some x) : (frzMap ρ s D w).fz (ρ k).b = some x := by
  show (if ρ.fz (ρ k).b = none then (if ∃ k' e cs, D k' ∧ (ρ k').live = true ∧ s.mem.get k' = some (.cells e cs true) ∧ (ρ k').b = (ρ k).b then w.heap[(ρ k).b]? else none) else ρ.fz (ρ k).b) = _
  rw [if_pos hf, if_pos ⟨k, e, cs, h2, h3, h4, rfl⟩, h5]
open Classical in
theorem frz_fz {b : Nat} {x : Obj} (h : (frzMap ρ s D w).fz b = some x) : ρ.fz b = some x ∨ (w.heap[b]? = some x ∧ ∃ k e cs, D k ∧ (ρ k).live = true ∧ s.mem.get k = some (.cells e cs true) ∧ (ρ k).b = b) := by
  have h' : (if ρ.fz b = none then (if ∃ k e cs, D k ∧ (ρ k).live = true ∧ s.mem.get k = some (.cells e cs true) ∧ (ρ k).b = b then w.heap[b]? else none) else ρ.fz b) = some x := h
  split at h'
  · split at h'
    · rename_i h2; exact .inr ⟨h', h2⟩
    · exact nomatch h'
  · exact .inl h'
structure Let (P : Program) (s : St) (D : Nat → Prop) (s' : St) : Prop where
  next : s'.next = s.next
  gone : ∀ k, D k → s'.mem.get k = none
  kept : ∀ o b', s'.mem.get o = some b' → ∃ b, s.mem.get o = some b ∧ (b' = b ∨ ObR (Fv P s D) b b')
theorem Fv.down (hrel : Rel P base ρ s w) : ∀ {v v1 : V}, Fv P s D v v1 → ∀ {v' : Value}, VR ρ s.next v v' → VR (frzMap ρ s D w) s.next v1 v' := by
  have hext : Ext ρ (frzMap ρ s D w) s.next := ⟨fun _ _ _ => rfl, fun b x h => frz_fz1 h, fun _ _ h => h⟩
  intro v v1 h
  refine Fv.rec (motive_1 := fun v v1 _ => ∀ {v' : Value}, VR ρ s.next v v' → VR (frzMap ρ s D w) s.next v1 v') (motive_2 := fun l l1 _ => ∀ {l' : List Value}, VRs ρ s.next l l' → VRs (frzMap ρ s D w) s.next l1 l') ?_ ?_ ?_ ?_ ?_ ?_ ?_ h
  · intro v v' hv; exact hv.mono hext (Nat.le_refl _)
  · intro v' hv; obtain rfl := hv.nilSlice_inv
    exact .fsl 0 0 0 false none [] [] (Nat.le_refl _) (Nat.le_refl _) (fun _ => rfl) (fun _ => rfl) (fun h => absurd rfl h) .nil (by simp)
  · intro k i m c x e z cs l hD hg hz hle hl ih v' hv
    obtain ⟨a, c', rfl, h1, h4, h5, h6, h7, h8⟩ := hv.slice_inv
    obtain ⟨arr, e', lo, hi, h9, h10, _⟩ := hrel.at hg h1
    obtain ⟨l1, g1, g2, g3⟩ := lies_cells h10 i (m * z)
    refine .fsl m m c' false (some a) l l1 (Nat.le_refl _) (Nat.le_trans h4 h5) (fun h => nomatch h) (fun h => nomatch h) (fun hne => ?_) (ih g1) g2
    have hlen := hl.length
    have hm0 : m * z ≠ 0 := fun e0 => hne (by
      rw [e0] at hlen
      simp at hlen
      exact List.length_eq_zero_iff.1 hlen.symm)
    have ha := h7.resolve_left (fun e0 => hm0 (by rw [show m = 0 by omega, Nat.zero_mul]))
    refine ⟨a, rfl, (ρ k).b, (ρ k).off + i, arr, e', lo, hi, by rw [ha]; rfl, .inl (frz_fz2 ?_ hD h1.2 hg h9), g3⟩
    cases hf : ρ.fz (ρ k).b with
    | none => rfl
    | some y => exact absurd rfl ((hrel.fz _ y hf).2.2 k _ h1.2 hg rfl)
  · intro m c x l l' hl ih v' hv
    obtain ⟨ad, c', l1, rfl, h1, h2, h3, h4, h5, h6, h7⟩ := hv.fsl_inv (t := 4) (.inl rfl)
    have hlen := hl.length
    exact .fsl m m c' false ad l' l1 (Nat.le_refl _) (Nat.le_trans h1 h2) (fun h => nomatch h) h4 (fun hne => let ⟨a, e, f⟩ := h5 (fun e => hne (by rw [e] at hlen; exact List.length_eq_zero_iff.1 hlen.symm)); ⟨a, e, f.le (fun b x h => frz_fz1 h)⟩) (ih h6) h7
  · intro t a l l' ht hl ih v' hv
    generalize hc : V.cmp t a l = u at hv
    cases hv with
    | func f l1 l1' h1 => cases hc; exact .func _ _ _ (ih h1)
    | iface t1 u1 u1' h1 =>
      cases hc
      have := ih (.cons h1 .nil)
      cases this with
      | cons h2 h3 => cases h3; exact .iface _ _ _ h2
    | wild t1 t' u1 =>
      cases hc
      have := ih .nil
      cases this; exact .wild _ _ _
    | agg l1 l1' h1 h2 => cases hc; exact .agg _ _ (ih h1) h2
    | tup l1 l1' h1 => cases hc; exact .tup _ _ (ih h1)
    | fsl => cases hc; omega
    | fptr => cases hc; omega
    | bsl => cases hc; omega
    | bptr => cases hc; omega
    | _ => exact nomatch hc
  · intro l' hv; cases hv; exact .nil
  · intro v v' l l' _ _ ih1 ih2 l1 hv
    cases hv with
    | cons h1 h2 => exact .cons (ih1 h1) (ih2 h2)
theorem let_rel (hrel : Rel P base ρ s w) (hs : Let P s D s') : Rel P base (frzMap ρ s D w) s' w := by
  have hext : Ext ρ (frzMap ρ s D w) s.next := ⟨fun _ _ _ => rfl, fun b x h => frz_fz1 h, fun _ _ h => h⟩
  have src : ∀ o b', s'.mem.get o = some b' → ¬ D o ∧ ∃ b, s.mem.get o = some b ∧ (b' = b ∨ ObR (Fv P s D) b b') ∧ b.own = b'.own := fun o b' h => by
    obtain ⟨b, h1, h2⟩ := hs.kept o b' h
    refine ⟨fun hd => by rw [hs.gone o hd] at h; exact (nomatch h), b, h1, h2, ?_⟩
    rcases h2 with rfl | h2
    · rfl
    · rw [h2.own.1, h2.own.2]
  refine ⟨fun o b' hb => ?_, fun o o' b b' hl hl' hb hb' hne hown => ?_, fun o b hl hb hown => ?_, ⟨by rw [hs.next]; exact hrel.glob.1, hrel.glob.2⟩, fun b x hx => ?_, fun b x hx => ⟨(hrel.kp b x hx).1, fun o ob hl hg ho => ?_⟩⟩
  · obtain ⟨_, b, h1, h2, _⟩ := src o b' hb
    obtain ⟨h3, h4⟩ := hrel.obj o b h1
    refine ⟨by rw [hs.next]; exact h3, fun hl => ?_⟩
    rw [hs.next]
    rcases h2 with rfl | h2
    · exact OR.mono hext (Nat.le_refl _) rfl (h4 hl)
    · exact h2.down (fun v v1 h => Fv.down hrel h) (h4 hl)
  · obtain ⟨_, c, h1, _, h2⟩ := src o b hb
    obtain ⟨_, c', h3, _, _⟩ := src o' b' hb'
    exact hrel.sep o o' c c' hl hl' h1 h3 hne (h2.trans hown)
  · obtain ⟨_, c, h1, _, h2⟩ := src o b hb
    exact hrel.base o c hl h1 (h2.trans hown)
  · rcases frz_fz hx with hx | ⟨h1, k, e, cs, h2, h3, h4, rfl⟩
    · refine ⟨(hrel.fz b x hx).1, (hrel.fz b x hx).2.1, fun o ob hl hg ho => ?_⟩
      obtain ⟨_, c, h1, _, h2⟩ := src o ob hg
      exact (hrel.fz b x hx).2.2 o c hl h1 (h2.trans ho)
    · refine ⟨h1, ?_, fun o ob hl hg ho => ?_⟩
      · show ρ.kp (ρ k).b = none
        cases hk : ρ.kp (ρ k).b with
        | none => rfl
        | some y => exact absurd rfl ((hrel.kp _ y hk).2 k _ h3 h4 rfl)
      · obtain ⟨hnd, c, h5, _, h6⟩ := src o ob hg
        exact hrel.sep o k c _ hl h3 h5 h4 (fun e => hnd (by rw [e]; exact h2)) (h6.trans ho)
  · obtain ⟨_, c, h1, _, h2⟩ := src o ob hg
    exact (hrel.kp b x hx).2 o c hl h1 (h2.trans ho)
inductive FvR (P : Program) (s : St) (D : Nat → Prop) : CR → CR → Prop
  | ret (v v1 : V) : Fv P s D v v1 → FvR P s D (.ret v) (.ret v1)
  | pan (v v1 : V) : Fv P s D v v1 → FvR P s D (.pan v) (.pan v1)
theorem freeze {f : Nat} {args : List V} {r r1 : CR} (h : CallAt P f args st r s) (hD : ∀ k, D k → st.next ≤ k) (hs : Let P s D s') (hlow : s'.low ≤ s.low) (hold : ∀ o, o < st.next → o < s'.low → s'.mem.get o = s.mem.get o) (hdead : ∀ o, o < st.next → s.mem.get o = st.mem.get o → s'.mem.get o = s.mem.get o)
    (hr : FvR P s D r r1) : CallAt P f args st r1 s' := by
  intro base ρ w args' hrel hb hargs
  obtain ⟨h1, h2⟩ := h hrel hb hargs
  refine ⟨h1, h2.mono fun e w' hc => ?_⟩
  obtain ⟨ρ', hn, hc⟩ := hc
  refine ⟨frzMap ρ' s D w', ⟨?_, let_rel hn.rel hs, ?_, hn.below, fun o ho hd => ?_⟩, ?_⟩
  · exact hn.ext.trans (n' := s.next) ⟨fun _ _ _ => rfl, fun b x h => frz_fz1 h, fun _ _ h => h⟩ hn.turn.next
  · exact ⟨by rw [hs.next]; exact hn.turn.next, Nat.le_trans hlow hn.turn.low, fun o ho hl => (hold o ho hl).trans (hn.turn.mem o ho (Nat.lt_of_lt_of_le hl hlow))⟩
  · obtain ⟨a, b⟩ := hn.dead o ho hd
    exact ⟨a, (hdead o ho b).trans b⟩
  · rw [hs.next]
    cases hr with
    | ret v v1 hv =>
      cases e with
      | returned v' => exact Fv.down hn.rel hv hc
      | _ => exact hc.elim
    | pan v v1 hv =>
      cases e with
      | panicked chain => obtain ⟨v', e1, h8⟩ := hc; exact ⟨v', e1, Fv.down hn.rel hv h8⟩
      | _ => exact hc.elim
end
end Go.Proofs.YtnebopkgnkemiaaGreatDoor.Av
