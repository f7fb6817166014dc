/-
  REGIONS WHOSE ORDER IS OPEN, THE END: what holds whatever has been done so far.
-/
import Derived.Test.YtjdbcfnlehedmaaGreatDoorAvDrawC
namespace Go.Proofs.YtjdbcfnlehedmaaGreatDoor.Av
set_option linter.unusedVariables false
set_option linter.unusedSimpArgs false
open Go Go.RowKit

/-- What one state has, the other has. -/
def Sub (s s' : St) : Prop := ∀ o b, s.mem.get o = some b → s'.mem.get o = some b
theorem Sub.refl (s : St) : Sub s s := fun _ _ h => h
theorem Sub.trans {a b c : St} (h : Sub a b) (h' : Sub b c) : Sub a c := fun o x hx => h' o x (h o x hx)
section
variable {P : Program} {base nt : Nat} {dl : List Deferred} {call : Callee} {ops : Array Oper} {os : List O} {ks pre π : List Nat} {tm0 : Tr V} {st0 : St} {N : Nat} {S : Nat → St} {v : Nat → V} {tmv : Nat → Tr V} {ρ0 : Map} {w0 : World}
/-! ### memory: what is not there yet -/
theorem Rel.sub {ρ : Map} {s s' : St} {w : World} (h : Rel P base ρ s w) (hs : Sub s' s) : Rel P base ρ { next := s.next, low := s'.low, mem := s'.mem } w :=
  ⟨fun o b hb => h.obj o b (hs o b hb), fun o o' b b' hl hl' hb hb' => h.sep o o' b b' hl hl' (hs o b hb) (hs o' b' hb'), fun o b hl hb => h.base o b hl (hs o b hb), h.glob⟩
def Pl.dead : Pl := ⟨0, 0, 0, 0, false⟩
theorem Rel.ghost {ρ : Map} {s : St} {w : World} (h : Rel P base ρ s w) (b : Ob) : Rel P base (ρ.new s.next .dead) (s.new b) w := by
  have hne : ∀ o, ((ρ.new s.next .dead) o).live = true → o ≠ s.next := fun o hl e => by rw [e, Map.new_same] at hl; exact nomatch hl
  refine ⟨fun o c hc => ?_, fun o o' c c' hl hl' hc hc' hn ho => ?_, fun o c hl hc ho => ?_, by rw [new_next]; have := h.glob.1; omega, fun g hg => by rw [Map.new_ne _ _ (by have := h.glob.1; omega)]; exact h.glob.2 g hg⟩
  · rw [new_get] at hc
    by_cases e : o = s.next
    · exact ⟨by rw [new_next]; omega, fun hl => absurd e (hne o hl)⟩
    · rw [if_neg e] at hc
      obtain ⟨h1, h2⟩ := h.obj o c hc
      refine ⟨by rw [new_next]; omega, ?_⟩
      rw [Map.new_ne _ _ e]
      exact fun hl => (h2 hl).mono (Map.new_ext _ _ _) (by rw [new_next]; omega) rfl
  · have e := hne o hl
    have e' := hne o' hl'
    rw [new_get, if_neg e] at hc
    rw [new_get, if_neg e'] at hc'
    rw [Map.new_ne _ _ e] at hl ⊢
    rw [Map.new_ne _ _ e'] at hl' ⊢
    exact h.sep o o' c c' hl hl' hc hc' hn ho
  · have e := hne o hl
    rw [new_get, if_neg e] at hc
    rw [Map.new_ne _ _ e] at hl ⊢
    exact h.base o c hl hc ho
/-- It comes to be there. -/
theorem Rel.alive {ρ : Map} {s : St} {w : World} (h : Rel P base ρ s w) (hb : base ≤ w.heap.size) {k : Nat} (hk : k < s.next) (hd : (ρ k).live = false) {b : Ob} (hg : s.mem.get k = some b) {x : Obj} {p : Pl} (hp : p.b = w.heap.size)
    (ho : OR P ρ s.next { w with heap := w.heap.push x } p b) : Rel P base (ρ.new k p) s { w with heap := w.heap.push x } := by
  have hext : Ext ρ (ρ.new k p) s.next := fun o _ hl => Map.new_ne _ _ fun e => by rw [e, hd] at hl; exact nomatch hl
  refine ⟨fun o c hc => ?_, fun o o' c c' hl hl' hc hc' hn hown => ?_, fun o c hl hc hown => ?_, h.glob.1, fun g hgl => ?_⟩
  · refine ⟨(h.obj o c hc).1, fun hl => ?_⟩
    by_cases e : o = k
    · subst e
      rw [hg] at hc
      obtain rfl := Option.some.inj hc
      rw [Map.new_same]
      exact ho.mono hext (Nat.le_refl _) rfl
    · rw [Map.new_ne _ _ e] at hl ⊢
      have h1 := (h.obj o c hc).2 hl
      exact h1.mono hext (Nat.le_refl _) (push_old w x h1.lt)
  · by_cases e : o = k
    · have e' : o' ≠ k := fun e' => hn (by omega)
      rw [Map.new_ne _ _ e'] at hl'
      rw [e, Map.new_same, Map.new_ne _ _ e', hp]
      have := ((h.obj o' c' hc').2 hl').lt
      omega
    · rw [Map.new_ne _ _ e] at hl ⊢
      by_cases e' : o' = k
      · rw [e', Map.new_same, hp]
        have := ((h.obj o c hc).2 hl).lt
        omega
      · rw [Map.new_ne _ _ e'] at hl' ⊢
        exact h.sep o o' c c' hl hl' hc hc' hn hown
  · by_cases e : o = k
    · rw [e, Map.new_same, hp]; exact hb
    · rw [Map.new_ne _ _ e] at hl ⊢
      exact h.base o c hl hc hown
  · have h1 := h.glob.2 g hgl
    rw [Map.new_ne _ _ fun e => by rw [← e, h1.2.2] at hd; exact nomatch hd]
    exact h1
/-! ### what holds -/
/-- Of memory, when the operations of D are done, and what is before place q has been gone through. -/
structure InvW (P : Program) (base : Nat) (call : Callee) (ops : Array Oper) (os : List O) (ks pre π : List Nat) (st0 : St) (N : Nat) (S : Nat → St) (v : Nat → V) (tmv : Nat → Tr V) (ρ0 : Map) (w0 : World) (D : Nat → Bool) (q : Nat) (ρ : Map) (w : World) : Prop where
  le : q ≤ N
  early : ∀ (p i : Nat), q ≤ p → π[p]? = some i → D i = false
  hard : ∀ (p i : Nat), p < q → π[p]? = some i → ks.getD i 0 = 2 → D i = true
  closed : ∀ (k : Nat) o, ops[k]? = some o → D k = true → ∀ j, EdgeTo o j → D j = true
  start : Now P base ρ0 st0 w0 ρ (S q) w
  mono : ∀ p p', p ≤ p' → p' ≤ q → (S p).next ≤ (S p').next
  ghost : ∀ (p i : Nat) x o, p < q → π[p]? = some i → ops[i]? = some o → os[i]? = some x → ks.getD i 0 = 4 → D i = false → Wants ops x o (tmv p) = true →
    (ρ (S p).next).live = false ∧ (S p).next + 1 = (S (p + 1)).next ∧ (S q).mem.get (S p).next = (S (p + 1)).mem.get (S p).next
  read : ∀ (p i : Nat) x o, p < q → π[p]? = some i → ops[i]? = some o → os[i]? = some x → ks.getD i 0 = 1 → D i = false → Wants ops x o (tmv p) = true → ∃ T, Sub T (S q) ∧ Sees call ops x o (tmv p) (v p) T
/-- Of slots. -/
structure InvS (ops : Array Oper) (nt : Nat) (dl : List Deferred) (π : List Nat) (tm0 : Tr V) (v : Nat → V) (D : Nat → Bool) (ρ : Map) (n : Nat) (a : Act) : Prop where
  nod : a.defers = dl
  size : nt ≤ a.tmps.size
  last : ∀ (t p i : Nat) o, π[p]? = some i → ops[i]? = some o → D i = true → o.dst = some t → (∀ (p' i' : Nat) o', π[p']? = some i' → ops[i']? = some o' → D i' = true → o'.dst = some t → p' ≤ p) → VR ρ n (v p) (a.tmps.getD t Go.undef)
  non : ∀ t, (∀ (k : Nat) o, ops[k]? = some o → D k = true → o.dst ≠ some t) → VR ρ n ((tm0.at (pa t)).getD .undef) (a.tmps.getD t Go.undef)
theorem InvS.mono {D : Nat → Bool} {ρ ρ' : Map} {n n' : Nat} {a : Act} (h : InvS ops nt dl π tm0 v D ρ n a) (he : Ext ρ ρ' n) (hn : n ≤ n') : InvS ops nt dl π tm0 v D ρ' n' a :=
  ⟨h.nod, h.size, fun t p i o h1 h2 h3 h4 h5 => (h.last t p i o h1 h2 h3 h4 h5).mono he hn, fun t h1 => (h.non t h1).mono he hn⟩
theorem bit_closed (hf : Facts ops ks (pres ops.toList []) π) {D : Nat → Bool} (hcl : ∀ (k : Nat) o, ops[k]? = some o → D k = true → ∀ j, EdgeTo o j → D j = true) :
    ∀ (i : Nat) (o : Oper) (k : Nat), ops[i]? = some o → (∀ j, EdgeTo o j → D j = true) → Bit (pres ops.toList []) i k → D k = true := by
  intro i
  induction i using Nat.strongRecOn with
  | _ i ih =>
    intro o k ho he hb
    obtain ⟨j, h1, h2⟩ := bit_step ho (hf.edge i o ho) hb
    rcases h2 with rfl | h2
    · exact he j h1
    · have hlt := hf.edge i o ho j h1
      have hi := (Array.getElem?_eq_some_iff.1 ho).1
      have hj : ops[j]? = some ops[j] := Array.getElem?_eq_getElem (by omega)
      exact ih j hlt _ k hj (hcl j _ hj (he j h1)) h2
theorem inj_at (hf : Facts ops ks pre π) {r p i : Nat} (hr : π[r]? = some i) (hp : π[p]? = some i) : r = p := by
  have key : ∀ {r p : Nat}, r < p → π[r]? = some i → π[p]? = some i → False := fun {r p} hlt hr hp => by
    have hi := hf.range p i hp
    exact (hf.pair r p i i _ _ hlt hr hp (Array.getElem?_eq_getElem hi) (Array.getElem?_eq_getElem hi)).1 rfl
  rcases Nat.lt_trichotomy r p with h | h | h
  · exact (key h hr hp).elim
  · exact h
  · exact (key h hp hr).elim
theorem tm_last (hos : compOs P nt ops ops.toList = some os) (hf : Facts ops ks pre π) (R : Ran call ops os ks pre π tm0 st0 N S v tmv) : ∀ p, p ≤ N → ∀ t,
    (∀ (r i : Nat) o, r < p → π[r]? = some i → ops[i]? = some o → o.dst = some t → (∀ (r' i' : Nat) o', r < r' → r' < p → π[r']? = some i' → ops[i']? = some o' → o'.dst ≠ some t) → (tmv p).at (pa t) = some (v r)) ∧
    ((∀ (r i : Nat) o, r < p → π[r]? = some i → ops[i]? = some o → o.dst ≠ some t) → (tmv p).at (pa t) = tm0.at (pa t)) := by
  intro p
  induction p with
  | zero => intro _ t; exact ⟨fun r i o hr => absurd hr (Nat.not_lt_zero _), fun _ => by rw [R.tm0]⟩
  | succ p ih =>
    intro hp t
    obtain ⟨ih1, ih2⟩ := ih (by omega) t
    have hpl : p < π.length := Nat.lt_of_lt_of_le hp R.le
    have hi : π[p]? = some π[p] := List.getElem?_eq_getElem hpl
    have hil := hf.range p _ hi
    have ho : ops[π[p]]? = some ops[π[p]] := Array.getElem?_eq_getElem hil
    obtain ⟨x, hx, hcx⟩ := (compOs_at hos).2 π[p] ops[π[p]] (by simp)
    obtain ⟨_, hxd, _, _⟩ := compO_inv hcx
    have hs := R.slot p _ x hp hi hx
    rw [hs, hxd]
    have hne : ops[π[p]].dst ≠ some t → (putT (tmv p) (ops[π[p]].dst.map pa) (v p)).at (pa t) = (tmv p).at (pa t) := fun h => by
      cases hd : ops[π[p]].dst with
      | none => rfl
      | some d => exact at_to_ne _ _ fun e => h (by rw [hd, pa_inj e])
    refine ⟨fun r i o hr hri hoi hd hl => ?_, fun h => ?_⟩
    · by_cases e : r = p
      · subst e
        obtain rfl := Option.some.inj (hi.symm.trans hri)
        obtain rfl := Option.some.inj (ho.symm.trans hoi)
        rw [hd]
        exact at_to_same _ _ _
      · rw [hne (hl p _ _ (by omega) (by omega) hi ho)]
        exact ih1 r i o (by omega) hri hoi hd fun r' i' o' h1 h2 => hl r' i' o' h1 (by omega)
    · rw [hne (h p _ _ (by omega) hi ho)]
      exact ih2 fun r i o hr => h r i o (by omega)
section inv
variable {D : Nat → Bool} {q : Nat} {ρ : Map} {a : Act} {w : World} {n : Nat}
/-- The slots that an operation looks at are as they were when it was gone through. -/
theorem InvS.slots (hos : compOs P nt ops ops.toList = some os) (hf : Facts ops ks (pres ops.toList []) π) (R : Ran call ops os ks (pres ops.toList []) π tm0 st0 N S v tmv)
    (hcl : ∀ (k : Nat) o, ops[k]? = some o → D k = true → ∀ j, EdgeTo o j → D j = true) (inv : InvS ops nt dl π tm0 v D ρ n a) {p i : Nat} {o : Oper} (hpN : p ≤ N) (hp : π[p]? = some i) (ho : ops[i]? = some o) (hD : D i = false) (hr : ∀ j, EdgeTo o j → D j = true) {t : Nat} (ht : t ∈ o.looksAt ops) :
    VR ρ n (((tmv p).at (pa t)).getD .undef) (a.tmps.getD t Go.undef) := by
  obtain ⟨h1, h2⟩ := tm_last hos hf R p hpN t
  have hlater : ∀ (p' i' : Nat) o', π[p']? = some i' → ops[i']? = some o' → D i' = true → o'.dst = some t → p' < p := fun p' i' o' hp' ho' hD' hd => by
    rcases Nat.lt_trichotomy p' p with h | h | h
    · exact h
    · subst h
      obtain rfl := Option.some.inj (hp.symm.trans hp')
      rw [hD] at hD'; exact nomatch hD'
    · exfalso
      rcases (hf.pair p p' i i' o o' h hp hp' ho ho').2 with hb | ⟨_, _, h4⟩
      · have := bit_closed hf hcl i' o' i ho' (hcl i' o' ho' hD') hb
        rw [hD] at this; exact nomatch this
      · exact h4 t hd ht
  rcases last_or_none (fun r => ∃ i' o', π[r]? = some i' ∧ ops[i']? = some o' ∧ o'.dst = some t) p with hn | ⟨r, hrp, ⟨k, ok, hk, hok, hd⟩, hl⟩
  · rw [h2 fun r i' o' hr' hi' ho' hd => hn r hr' ⟨i', o', hi', ho', hd⟩]
    refine inv.non t fun k ok hok hDk hd => ?_
    obtain ⟨p', hp'⟩ := hf.cover k (Array.getElem?_eq_some_iff.1 hok).1
    exact hn p' (hlater p' k ok hp' hok hDk hd) ⟨k, ok, hp', hok, hd⟩
  · rw [h1 r k ok hrp hk hok hd fun r' i' o' h3 h4 h5 h6 h7 => hl r' h3 h4 ⟨i', o', h5, h6, h7⟩]
    have hDk : D k = true := by
      rcases (hf.pair r p k i ok o hrp hk hp hok ho).2 with hb | ⟨_, h3, _⟩
      · exact bit_closed hf hcl i o k ho hr hb
      · exact absurd ht (h3 t hd).1
    refine inv.last t r k ok hk hok hDk hd fun p' i' o' hp' ho' hD' hd' => ?_
    have h3 := hlater p' i' o' hp' ho' hD' hd'
    rcases Nat.lt_or_ge r p' with h4 | h4
    · exact absurd ⟨i', o', hp', ho', hd'⟩ (hl p' h4 h3)
    · exact h4
/-- One operation more. -/
theorem InvS.put (hf : Facts ops ks (pres ops.toList []) π) (hcl : ∀ (k : Nat) o, ops[k]? = some o → D k = true → ∀ j, EdgeTo o j → D j = true) (inv : InvS ops nt dl π tm0 v D ρ n a) {p i : Nat} {o : Oper} (hp : π[p]? = some i) (ho : ops[i]? = some o) (hdn : ∀ t, o.dst = some t → t < nt) (hD : D i = false)
    {v' : Value} (hv : VR ρ n (v p) v') : InvS ops nt dl π tm0 v (fun k => D k || k == i) ρ n (a.put o.dst v') := by
  have hput : ∀ t, o.dst = some t → (a.put o.dst v').tmps.getD t Go.undef = v' := fun t ht => by
    rw [ht]
    have : t < a.tmps.size := Nat.lt_of_lt_of_le (hdn t ht) inv.size
    simp [Act.put, Array.getD, this]
  have hput' : ∀ t, o.dst ≠ some t → (a.put o.dst v').tmps.getD t Go.undef = a.tmps.getD t Go.undef := fun t ht => by
    cases hd : o.dst with
    | none => rfl
    | some d =>
      have hne : d ≠ t := fun e => ht (by rw [hd, e])
      simp only [Act.put, Array.getD_eq_getD_getElem?, Array.getElem?_setIfInBounds_ne hne]
  have hor : ∀ k, (D k || k == i) = true → k ≠ i → D k = true := fun k h hne => by
    rw [Bool.or_eq_true] at h
    exact h.resolve_right (by simpa using hne)
  refine ⟨put_nod inv.nod _ _, by cases o.dst <;> simpa [Act.put] using inv.size, fun t r k ok hr hok hk hd hlast => ?_, fun t hn => ?_⟩
  · by_cases hdi : o.dst = some t
    · rw [hput t hdi]
      by_cases e : k = i
      · subst e
        rw [inj_at hf hr hp]; exact hv
      · exfalso
        have hpr := hlast p i o hp ho (by simp) hdi
        have hDk := hor k hk e
        have hne : p ≠ r := fun e' => e (by subst e'; exact Option.some.inj (hr.symm.trans hp))
        rcases (hf.pair p r i k o ok (by omega) hp hr ho hok).2 with hb | ⟨_, h3, _⟩
        · have := bit_closed hf hcl k ok i hok (hcl k ok hok hDk) hb
          rw [hD] at this; exact nomatch this
        · exact (h3 t hdi).2 hd
    · rw [hput' t hdi]
      have e : k ≠ i := fun e => by
        subst e
        obtain rfl := Option.some.inj (ho.symm.trans hok)
        exact hdi hd
      exact inv.last t r k ok hr hok (hor k hk e) hd fun p' i' o' h1 h2 h3 h4 => hlast p' i' o' h1 h2 (by rw [h3]; rfl) h4
  · have hdi : o.dst ≠ some t := hn i o ho (by simp)
    rw [hput' t hdi]
    exact inv.non t fun k ok hok hDk => hn k ok hok (by rw [hDk]; rfl)
/-- What is gone through, and turns nothing that there is. -/
theorem InvW.advance (hos : compOs P nt ops ops.toList = some os) (hks : ks = os.map fun x => kindI x.i) (hf : Facts ops ks pre π) (R : Ran call ops os ks pre π tm0 st0 N S v tmv) (inv : InvW P base call ops os ks pre π st0 N S v tmv ρ0 w0 D q ρ w) {i : Nat} (hqN : q < N) (hq : π[q]? = some i) (hk : ks.getD i 0 ≠ 2) :
    ∃ ρ', InvW P base call ops os ks pre π st0 N S v tmv ρ0 w0 D (q + 1) ρ' w ∧ Ext ρ ρ' (S q).next ∧ (S q).next ≤ (S (q + 1)).next := by
  have hil := hf.range q i hq
  have ho : ops[i]? = some ops[i] := Array.getElem?_eq_getElem hil
  have hlen : os.length = ops.size := by rw [(compOs_at hos).1]; simp
  have hx : os[i]? = some os[i] := List.getElem?_eq_getElem (by omega)
  have hkx : ks.getD i 0 = kindI os[i].i := by rw [hks, List.getD_eq_getElem?_getD, List.getElem?_map, hx]; rfl
  have hk3 : ks.getD i 0 ≠ 3 := by
    have := hf.kind i hil
    rwa [show ks.getD i 3 = ks.getD i 0 by rw [List.getD_eq_getElem?_getD, List.getD_eq_getElem?_getD, List.getElem?_eq_getElem (by rw [hks, List.length_map]; omega)]; rfl] at this
  have hk4 : ks.getD i 0 = 0 ∨ ks.getD i 0 = 1 ∨ ks.getD i 0 = 4 := by
    have : kindI os[i].i ≤ 4 := by cases os[i].i <;> simp only [kindI] <;> (try split) <;> (try split) <;> omega
    omega
  have hstay : S (q + 1) = S q → (ks.getD i 0 = 4 → Wants ops os[i] ops[i] (tmv q) = false) → (ks.getD i 0 = 1 → Wants ops os[i] ops[i] (tmv q) = true → Sees call ops os[i] ops[i] (tmv q) (v q) (S q)) →
      ∃ ρ', InvW P base call ops os ks pre π st0 N S v tmv ρ0 w0 D (q + 1) ρ' w ∧ Ext ρ ρ' (S q).next ∧ (S q).next ≤ (S (q + 1)).next := fun he h4 h1 => by
    refine ⟨ρ, ⟨by omega, fun p k hp => inv.early p k (by omega), fun p k hp hpk hk2 => ?_, inv.closed, by rw [he]; exact inv.start, fun p p' h5 h6 => ?_, fun p k x o hp hpk hok hxk hk4' hDk hw => ?_, fun p k x o hp hpk hok hxk hk1 hDk hw => ?_⟩, Ext.refl _ _, by rw [he]; exact Nat.le_refl _⟩
    · by_cases e : p = q
      · subst e; obtain rfl := Option.some.inj (hq.symm.trans hpk); exact absurd hk2 hk
      · exact inv.hard p k (by omega) hpk hk2
    · by_cases e : p' = q + 1
      · subst e
        by_cases e2 : p = q + 1
        · rw [e2]; exact Nat.le_refl _
        · rw [he]; exact inv.mono p q (by omega) (Nat.le_refl _)
      · exact inv.mono p p' h5 (by omega)
    · by_cases e : p = q
      · subst e
        obtain rfl := Option.some.inj (hq.symm.trans hpk)
        obtain rfl := Option.some.inj (ho.symm.trans hok)
        obtain rfl := Option.some.inj (hx.symm.trans hxk)
        rw [h4 hk4'] at hw; exact nomatch hw
      · rw [he]; exact inv.ghost p k x o (by omega) hpk hok hxk hk4' hDk hw
    · by_cases e : p = q
      · subst e
        obtain rfl := Option.some.inj (hq.symm.trans hpk)
        obtain rfl := Option.some.inj (ho.symm.trans hok)
        obtain rfl := Option.some.inj (hx.symm.trans hxk)
        exact ⟨S p, by rw [he]; exact Sub.refl _, h1 hk1 hw⟩
      · rw [he]; exact inv.read p k x o (by omega) hpk hok hxk hk1 hDk hw
  cases hw : Wants ops os[i] ops[i] (tmv q) with
  | false => exact hstay (R.off q i _ _ hqN hq ho hx hw).2 (fun _ => hw) fun _ h => by rw [hw] at h; exact nomatch h
  | true =>
    rcases hk4 with hk0 | hk1 | hk4
    · exact hstay (R.quiet q i _ _ hqN hq ho hx (.inl hk0) hw).1 (fun h => by omega) fun h => by omega
    · obtain ⟨h1, h2⟩ := R.quiet q i _ _ hqN hq ho hx (.inr hk1) hw
      exact hstay h1 (fun h => by omega) fun _ _ => h2
    · obtain ⟨f, hgo, hshape⟩ := soft_ok os[i].i (by omega)
      obtain ⟨u, hu, h1⟩ := oneV_loud hgo (R.soft q i _ _ hqN hq ho hx hk4 hw)
      obtain ⟨r, b, _, hsn, hown, _⟩ := hshape _ _ _ _ h1
      have hnx : (S (q + 1)).next = (S q).next + 1 := by rw [hsn, new_next]
      refine ⟨ρ.new (S q).next .dead, ⟨by omega, fun p k hp => inv.early p k (by omega), fun p k hp hpk hk2 => ?_, inv.closed, ?_, fun p p' h5 h6 => ?_, fun p k x o hp hpk hok hxk hk4' hDk hw' => ?_, fun p k x o hp hpk hok hxk hk1 hDk hw' => ?_⟩, Map.new_ext _ _ _, by omega⟩
      · by_cases e : p = q
        · subst e; obtain rfl := Option.some.inj (hq.symm.trans hpk); exact absurd hk2 hk
        · exact inv.hard p k (by omega) hpk hk2
      · rw [hsn]
        exact inv.start.trans ⟨Map.new_ext _ _ _, inv.start.rel.ghost b, Turn.new _ _, Below.refl _ _, Dead.new _ _ _ _⟩
      · by_cases e : p' = q + 1
        · subst e
          by_cases e2 : p = q + 1
          · rw [e2]; exact Nat.le_refl _
          · have := inv.mono p q (by omega) (Nat.le_refl _); omega
        · exact inv.mono p p' h5 (by omega)
      · by_cases e : p = q
        · subst e
          exact ⟨by rw [Map.new_same]; rfl, hnx.symm, rfl⟩
        · obtain ⟨h5, h6, h7⟩ := inv.ghost p k x o (by omega) hpk hok hxk hk4' hDk hw'
          have h8 := inv.mono (p + 1) q (by omega) (Nat.le_refl _)
          refine ⟨by rw [Map.new_ne _ _ (by omega)]; exact h5, h6, ?_⟩
          rw [hsn, new_get, if_neg (by omega)]; exact h7
      · by_cases e : p = q
        · subst e
          obtain rfl := Option.some.inj (hq.symm.trans hpk)
          omega
        · obtain ⟨T, h5, h6⟩ := inv.read p k x o (by omega) hpk hok hxk hk1 hDk hw'
          refine ⟨T, fun o' b' hb' => ?_, h6⟩
          have h7 := h5 o' b' hb'
          have h8 := (inv.start.rel.obj o' b' h7).1
          rw [hsn, new_get, if_neg (by omega)]; exact h7
/-- On to a place that is not behind one that turns memory and is not done. -/
theorem InvW.reach (hos : compOs P nt ops ops.toList = some os) (hks : ks = os.map fun x => kindI x.i) (hf : Facts ops ks pre π) (R : Ran call ops os ks pre π tm0 st0 N S v tmv) : ∀ (d q : Nat) (ρ : Map), InvW P base call ops os ks pre π st0 N S v tmv ρ0 w0 D q ρ w → q + d ≤ N →
    (∀ (r k : Nat), q ≤ r → r < q + d → π[r]? = some k → ks.getD k 0 ≠ 2) → ∃ ρ', InvW P base call ops os ks pre π st0 N S v tmv ρ0 w0 D (q + d) ρ' w ∧ Ext ρ ρ' (S q).next ∧ (S q).next ≤ (S (q + d)).next
  | 0, q, ρ, inv, _, _ => ⟨ρ, inv, Ext.refl _ _, Nat.le_refl _⟩
  | d + 1, q, ρ, inv, hN, hh => by
    have hql : q < π.length := by have := R.le; omega
    obtain ⟨ρ1, h1, h2, h3⟩ := inv.advance hos hks hf R (by omega) (List.getElem?_eq_getElem hql) (hh q _ (Nat.le_refl _) (by omega) (List.getElem?_eq_getElem hql))
    obtain ⟨ρ2, h4, h5, h6⟩ := InvW.reach hos hks hf R d (q + 1) ρ1 h1 (by omega) fun r k hr hr2 => hh r k (by omega) (by omega)
    rw [show q + (d + 1) = q + 1 + d by omega]
    exact ⟨ρ2, h4, h2.trans h5 h3, Nat.le_trans h3 h6⟩
/-- One operation more, of those that have been gone through, and turn nothing. -/
theorem InvW.done (inv : InvW P base call ops os ks pre π st0 N S v tmv ρ0 w0 D q ρ w) {p i : Nat} {o : Oper} (hf : Facts ops ks pre π) (hpq : p < q) (hp : π[p]? = some i) (ho : ops[i]? = some o) (hr : ∀ j, EdgeTo o j → D j = true) : InvW P base call ops os ks pre π st0 N S v tmv ρ0 w0 (fun k => D k || k == i) q ρ w := by
  have hor : ∀ k, (D k || k == i) = false → D k = false := fun k h => by rw [Bool.or_eq_false_iff] at h; exact h.1
  refine ⟨inv.le, fun r k hrq hrk => ?_, fun r k hrq hrk hk2 => by rw [inv.hard r k hrq hrk hk2]; rfl, fun k ok hok hk j hj => ?_, inv.start, inv.mono, fun r k x ok hrq hrk hok hx hk4 hDk hw => inv.ghost r k x ok hrq hrk hok hx hk4 (hor k hDk) hw, fun r k x ok hrq hrk hok hx hk1 hDk hw => inv.read r k x ok hrq hrk hok hx hk1 (hor k hDk) hw⟩
  · have h1 := inv.early r k hrq hrk
    have h2 : k ≠ i := fun e => by subst e; have := inj_at hf hrk hp; omega
    rw [h1]; simpa using h2
  · rw [Bool.or_eq_true] at hk ⊢
    left
    rcases hk with hk | hk
    · exact inv.closed k ok hok hk j hj
    · obtain rfl : k = i := by simpa using hk
      obtain rfl := Option.some.inj (ho.symm.trans hok)
      exact hr j hj
end inv
end
end Go.Proofs.YtjdbcfnlehedmaaGreatDoor.Av
