/-
  REGIONS WHOSE ORDER IS OPEN, GONE ON: what the compiler has looked at, and the states that there are.
-/
import Derived.Test.YtjdbcfnlehedmaaGreatDoorAvDrawB
namespace Go.Proofs.YtjdbcfnlehedmaaGreatDoor.Av
set_option linter.unusedVariables false
set_option linter.unusedSimpArgs false
open Go Go.RowKit

def Bit (pre : List Nat) (i k : Nat) : Prop := (pre.getD i 0).testBit k = true
structure Facts (ops : Array Oper) (ks pre π : List Nat) : Prop where
  cover : ∀ i, i < ops.size → ∃ p : Nat, π[p]? = some i
  kind : ∀ i, i < ops.size → ks.getD i 3 ≠ 3
  edge : ∀ (i : Nat) o, ops[i]? = some o → ∀ j, EdgeTo o j → j < i
  range : ∀ (p i : Nat), π[p]? = some i → i < ops.size
  pos : ∀ (p i : Nat) o, π[p]? = some i → ops[i]? = some o → ∀ j, EdgeTo o j → ∃ r : Nat, r < p ∧ π[r]? = some j
  pair : ∀ (r p i k : Nat) oi ok, r < p → π[r]? = some i → π[p]? = some k → ops[i]? = some oi → ops[k]? = some ok → i ≠ k ∧ (Bit pre k i ∨
    (ks.getD i 0 ≠ 2 ∧ (∀ t, oi.dst = some t → t ∉ ok.looksAt ops ∧ ok.dst ≠ some t) ∧ ∀ t, ok.dst = some t → t ∉ oi.looksAt ops))
theorem getD_of {l : List Nat} {p i : Nat} (h : l[p]? = some i) : l.getD p 0 = i := by rw [List.getD_eq_getElem?_getD, h]; rfl
theorem lt_of_at {α : Type} {l : List α} {p : Nat} {i : α} (h : l[p]? = some i) : p < l.length := (List.getElem?_eq_some_iff.1 h).1
theorem facts_of {ks pre π : List Nat} {ops : Array Oper} (h : okD ks pre ops π = true) : Facts ops ks pre π := by
  unfold okD at h
  rw [Bool.and_eq_true, List.all_eq_true, List.all_eq_true] at h
  obtain ⟨h1, h2⟩ := h
  have hA : ∀ i, i < ops.size → i ∈ π ∧ ks.getD i 3 ≠ 3 ∧ ((ops[i]?).map fun o => o.after.all fun e => !Region.binds .any e || decide (e.on < i)).getD true = true := fun i hi => by
    have := h1 i (List.mem_range.2 hi)
    simp only [Bool.and_eq_true, bne_iff_ne, List.contains_iff_mem] at this
    exact ⟨this.1, this.2.1, this.2.2⟩
  have hB : ∀ (p i : Nat), π[p]? = some i → (∃ o, ops[i]? = some o ∧ ∀ j, EdgeTo o j → j ∈ π.take p) ∧ ∀ r, r < p → okPair ks pre ops (π.getD r 0) i = true := fun p i hp => by
    have := h2 p (List.mem_range.2 (lt_of_at hp))
    rw [Bool.and_eq_true, List.all_eq_true] at this
    obtain ⟨h3, h4⟩ := this
    rw [getD_of hp] at h3
    refine ⟨?_, fun r hr => by have := h4 r (List.mem_range.2 hr); rwa [getD_of hp] at this⟩
    cases ho : ops[i]? with
    | none => rw [ho] at h3; exact nomatch h3
    | some o =>
      rw [ho] at h3
      refine ⟨o, rfl, fun j hj => ?_⟩
      obtain ⟨e, he, hb, rfl⟩ := hj
      have h5 := Array.all_eq_true_iff_forall_mem.1 (show (o.after.all fun e => !Region.binds .any e || (π.take p).contains e.on) = true from h3) e he
      rw [hb] at h5
      simpa using h5
  refine ⟨fun i hi => ?_, fun i hi => (hA i hi).2.1, fun i o ho j hj => ?_, fun p i hp => ?_, fun p i o hp ho j hj => ?_, fun r p i k oi ok hlt hr hp hi hk => ?_⟩
  · obtain ⟨p, hp, he⟩ := List.mem_iff_getElem.1 (hA i hi).1
    exact ⟨p, by rw [List.getElem?_eq_getElem hp, he]⟩
  · have h3 := (hA i (Array.getElem?_eq_some_iff.1 ho).1).2.2
    rw [ho] at h3
    obtain ⟨e, he, hb, rfl⟩ := hj
    have h4 := Array.all_eq_true_iff_forall_mem.1 (show (o.after.all fun e => !Region.binds .any e || decide (e.on < i)) = true from h3) e he
    rw [hb] at h4
    simpa using h4
  · obtain ⟨⟨o, ho, _⟩, _⟩ := hB p i hp
    exact (Array.getElem?_eq_some_iff.1 ho).1
  · obtain ⟨⟨o', ho', h3⟩, _⟩ := hB p i hp
    obtain rfl := Option.some.inj (ho.symm.trans ho')
    obtain ⟨r, hr, he⟩ := List.mem_iff_getElem.1 (h3 j hj)
    have hrp : r < p := by rw [List.length_take] at hr; omega
    refine ⟨r, hrp, ?_⟩
    rw [List.getElem_take] at he
    rw [List.getElem?_eq_getElem (by rw [List.length_take] at hr; omega), he]
  · have h3 := (hB p k hp).2 r hlt
    rw [getD_of hr] at h3
    unfold okPair at h3
    rw [hi, hk] at h3
    simp only [Bool.and_eq_true, Bool.or_eq_true, bne_iff_ne] at h3
    refine ⟨h3.1, h3.2.imp id fun h4 => ⟨h4.1.1, fun t ht => ?_, fun t ht => ?_⟩⟩
    · have h5 := h4.1.2
      rw [ht] at h5
      simp only [Bool.and_eq_true, Bool.not_eq_true', bne_iff_ne] at h5
      exact ⟨fun hc => (by rw [List.contains_iff_mem.2 hc] at h5; exact nomatch h5.1), h5.2⟩
    · have h5 := h4.2
      rw [ht] at h5
      simp only [Bool.not_eq_true'] at h5
      exact fun hc => by rw [List.contains_iff_mem.2 hc] at h5; exact nomatch h5
section
variable {P : Program} {nt : Nat} {ops : Array Oper}
theorem compOs_at : ∀ {l : List Oper} {os : List O}, compOs P nt ops l = some os → os.length = l.length ∧ ∀ (i : Nat) (o : Oper), l[i]? = some o → ∃ x, os[i]? = some x ∧ compO P nt ops o = some x
  | [], os, h => by obtain rfl := Option.some.inj h; exact ⟨rfl, fun i o h => by simp at h⟩
  | o :: l, os, h => by
    unfold compOs at h
    split at h
    · rename_i x xs hx hxs
      obtain rfl := Option.some.inj h
      obtain ⟨h1, h2⟩ := compOs_at hxs
      refine ⟨by simp [h1], fun i o' ho => ?_⟩
      cases i with
      | zero => obtain rfl : o = o' := by simpa using ho
                exact ⟨x, rfl, hx⟩
      | succ i => simpa using h2 i o' (by simpa using ho)
    · exact nomatch h
end
theorem dsOf_at {ks pre π : List Nat} {ops : Array Oper} {os : List O} {p i : Nat} {o : Oper} {x : O} (hp : π[p]? = some i) (ho : ops[i]? = some o) (hx : os[i]? = some x) :
    (dsOf ks pre ops os π)[p]? = some { m := kindD ks pre π p, id := i, cs := lateOf ks pre π p, us := (o.looksAt ops).map pa, o := x } := by
  unfold dsOf
  rw [List.getElem?_map, List.getElem?_range (lt_of_at hp)]
  simp only [Option.map_some, getD_of hp, ho, hx, Option.getD_some]
theorem dsOf_length (ks pre π : List Nat) (ops : Array Oper) (os : List O) : (dsOf ks pre ops os π).length = π.length := by simp [dsOf]
theorem kindD_eq {ks pre π : List Nat} {p i : Nat} (hp : π[p]? = some i) : kindD ks pre π p = if ks.getD i 3 = 2 then (if (lateOf ks pre π p).isEmpty then 2 else 3) else if ks.getD i 3 = 4 then 4
    else if ks.getD i 3 = 1 && (List.range π.length).any (fun r => ks.getD (π.getD r 0) 0 == 2 && (lateOf ks pre π r).contains i) then 1 else 0 := by
  unfold kindD
  rw [getD_of hp]
theorem mem_late {ks pre π : List Nat} {r p i k : Nat} (hlt : r < p) (hr : π[r]? = some i) (hp : π[p]? = some k) (hi : ks.getD i 0 = 1) (hb : ¬ Bit pre k i) : i ∈ lateOf ks pre π p := by
  unfold lateOf
  rw [List.mem_filter, getD_of hp]
  refine ⟨List.mem_iff_getElem?.2 ⟨r, by rw [List.getElem?_take, if_pos hlt, hr]⟩, ?_⟩
  rw [hi]
  have : (pre.getD k 0).testBit i = false := by
    cases h : (pre.getD k 0).testBit i with
    | false => rfl
    | true => exact absurd h hb
  rw [this]; rfl
/-- What an operation saw, it sees. -/
def Sees (call : Callee) (ops : Array Oper) (x : O) (o : Oper) (tm : Tr V) (v : V) (s : St) : Prop := ∃ s', oneV x.i.go call (pickT ((o.looksAt ops).map pa) tm) s = some (.ret v, s')
noncomputable def Wants (ops : Array Oper) (x : O) (o : Oper) (tm : Tr V) : Bool := wantedV (pickT ((o.looksAt ops).map pa) tm) x.g
/-- How a turning ran. -/
def Turned (call : Callee) (ops : Array Oper) (x : O) (o : Oper) (tm : Tr V) (c : CR) (s s2 : St) : Prop :=
  oneV x.i.go call (pickT ((o.looksAt ops).map pa) tm) s = some (c, s2) ∨ ∃ s', oneV x.i.go call (pickT ((o.looksAt ops).map pa) tm) s.fresh = some (c, s') ∧ s2 = s.after s'
/-- The order that was gone through, as it ran. -/
structure Ran (call : Callee) (ops : Array Oper) (os : List O) (ks pre π : List Nat) (tm0 : Tr V) (st0 : St) (N : Nat) (S : Nat → St) (v : Nat → V) (tmv : Nat → Tr V) : Prop where
  zero : S 0 = st0
  tm0 : tmv 0 = tm0
  le : N ≤ π.length
  slot : ∀ (p i : Nat) x, p < N → π[p]? = some i → os[i]? = some x → tmv (p + 1) = putT (tmv p) x.d (v p)
  off : ∀ (p i : Nat) x o, p < N → π[p]? = some i → ops[i]? = some o → os[i]? = some x → Wants ops x o (tmv p) = false → v p = .undef ∧ S (p + 1) = S p
  quiet : ∀ (p i : Nat) x o, p < N → π[p]? = some i → ops[i]? = some o → os[i]? = some x → ks.getD i 0 = 0 ∨ ks.getD i 0 = 1 → Wants ops x o (tmv p) = true → S (p + 1) = S p ∧ Sees call ops x o (tmv p) (v p) (S p)
  soft : ∀ (p i : Nat) x o, p < N → π[p]? = some i → ops[i]? = some o → os[i]? = some x → ks.getD i 0 = 4 → Wants ops x o (tmv p) = true → oneV x.i.go call (pickT ((o.looksAt ops).map pa) (tmv p)) (S p) = some (.ret (v p), S (p + 1))
  hard : ∀ (p i : Nat) x o, p < N → π[p]? = some i → ops[i]? = some o → os[i]? = some x → ks.getD i 0 = 2 → Wants ops x o (tmv p) = true →
    (oneV x.i.go call (pickT ((o.looksAt ops).map pa) (tmv p)) (S p) = some (.ret (v p), S (p + 1)) ∧ ∀ (r k : Nat), r < p → π[r]? = some k → ks.getD k 0 = 1 → Bit pre i k) ∨
    ∃ s', oneV x.i.go call (pickT ((o.looksAt ops).map pa) (tmv p)) (S p).fresh = some (.ret (v p), s') ∧ S (p + 1) = (S p).after s' ∧ ((S p).next ≤ s'.low ∨
      ∀ (r k : Nat) xk ok, r < p → π[r]? = some k → ops[k]? = some ok → os[k]? = some xk → ks.getD k 0 = 1 → ¬ Bit pre i k → Wants ops xk ok (tmv r) = true → Sees call ops xk ok (tmv r) (v r) (S (p + 1)))
/-- How it ended. -/
def RanEnds (call : Callee) (ops : Array Oper) (os : List O) (ks π : List Nat) (r : DR) (N : Nat) (S : Nat → St) (tmv : Nat → Tr V) : Prop :=
  (N = π.length ∧ r = .nrm (tmv N) (S N)) ∨ ∃ (i : Nat) (x : O) (o : Oper) (u : V) (s' : St), π[N]? = some i ∧ ops[i]? = some o ∧ os[i]? = some x ∧ r = .pan u s' ∧ ks.getD i 0 = 2 ∧ Wants ops x o (tmv N) = true ∧ Turned call ops x o (tmv N) (.pan u) (S N) s'
theorem ran_of {P : Program} {nt : Nat} {ops : Array Oper} {os : List O} (hos : compOs P nt ops ops.toList = some os) {ks pre π : List Nat} (hks : ks = os.map fun x => kindI x.i) (hf : Facts ops ks pre π)
    (hcls : ∀ (i : Nat) x, os[i]? = some x → i < ops.size → ∃ o, Cls P o x.i) {call : Callee} {tm0 : Tr V} {st0 : St} {r : DR}
    (h : evD (dsOf ks pre ops os π) call tm0 st0 [] = some r) : ∃ N S v tmv, Ran call ops os ks pre π tm0 st0 N S v tmv ∧ RanEnds call ops os ks π r N S tmv := by
  obtain ⟨N, tmv, S, rv, v, h1, h2, h3, h4, h5, h6⟩ := trace call _ _ _ _ _ h
  rw [dsOf_length] at h4
  have hlen : os.length = ops.size := by rw [(compOs_at hos).1]; simp
  have hk3 : ∀ i, i < ops.size → ks.getD i 3 = ks.getD i 0 := fun i hi => by
    rw [List.getD_eq_getElem?_getD, List.getD_eq_getElem?_getD, List.getElem?_eq_getElem (by rw [hks, List.length_map]; omega)]; rfl
  have hkx : ∀ (i : Nat) x, os[i]? = some x → ks.getD i 0 = kindI x.i := fun i x hx => by rw [hks, List.getD_eq_getElem?_getD, List.getElem?_map, hx]; rfl
  have hstep : ∀ (p i : Nat) x o, p < N → π[p]? = some i → ops[i]? = some o → os[i]? = some x → StepAt call { m := kindD ks pre π p, id := i, cs := lateOf ks pre π p, us := (o.looksAt ops).map pa, o := x } (tmv p) (S p) (rv p) (v p) (tmv (p + 1)) (S (p + 1)) (rv (p + 1)) :=
    fun p i x o hp hi ho hx => h6 p _ hp (dsOf_at hi ho hx)
  -- the kinds
  have hkd : ∀ (p i : Nat), π[p]? = some i → (ks.getD i 0 = 2 → kindD ks pre π p = 2 ∧ lateOf ks pre π p = [] ∨ kindD ks pre π p = 3) ∧ (ks.getD i 0 = 4 → kindD ks pre π p = 4) ∧ (ks.getD i 0 = 0 ∨ ks.getD i 0 = 1 → kindD ks pre π p = 0 ∨ kindD ks pre π p = 1) := fun p i hp => by
    have hi := hf.range p i hp
    have e := kindD_eq (ks := ks) (pre := pre) hp
    rw [hk3 i hi] at e
    refine ⟨fun hk => ?_, fun hk => ?_, fun hk => ?_⟩
    · rw [if_pos hk] at e
      cases hl : (lateOf ks pre π p) with
      | nil => rw [hl] at e; exact .inl ⟨e, rfl⟩
      | cons y l => rw [hl] at e; exact .inr e
    · rw [if_neg (by omega), if_pos hk] at e; exact e
    · rw [if_neg (by omega), if_neg (by omega)] at e
      rw [e]; split
      · exact .inr rfl
      · exact .inl rfl
  -- what is remembered
  have hrem : ∀ p, p ≤ N → ∀ (r k : Nat) xk ok, r < p → π[r]? = some k → ops[k]? = some ok → os[k]? = some xk → kindD ks pre π r = 1 → Wants ops xk ok (tmv r) = true → (k, fun s' => seesV (v r) (oneV xk.i.go call (pickT ((ok.looksAt ops).map pa) (tmv r)) s')) ∈ rv p := by
    intro p
    induction p with
    | zero => intro _ r k xk ok hr; exact absurd hr (Nat.not_lt_zero _)
    | succ p ih =>
      intro hp r k xk ok hr hk ho hx hm hw
      by_cases e : r = p
      · subst e
        exact (hstep r k xk ok (by omega) hk ho hx).remember hw hm
      · obtain ⟨i, hi⟩ : ∃ i, π[p]? = some i := ⟨_, List.getElem?_eq_getElem (by omega)⟩
        have hil := hf.range p i hi
        exact (hstep p i _ _ (by omega) hi (Array.getElem?_eq_getElem hil) (List.getElem?_eq_getElem (by omega))).more _ (ih (by omega) r k xk ok (by omega) hk ho hx hm hw)
  refine ⟨N, S, v, tmv, ⟨h2, h1, h4, fun p i x hp hi hx => ?_, fun p i x o hp hi ho hx hw => (hstep p i x o hp hi ho hx).off hw, fun p i x o hp hi ho hx hk hw => (hstep p i x o hp hi ho hx).quiet hw ((hkd p i hi).2.2 hk), fun p i x o hp hi ho hx hk hw => ?_, fun p i x o hp hi ho hx hk hw => ?_⟩, ?_⟩
  · have hil := hf.range p i hi
    exact (hstep p i x _ hp hi (Array.getElem?_eq_getElem hil) hx).slot
  · have hm := (hkd p i hi).2.1 hk
    exact (hstep p i x o hp hi ho hx).plain hw (fun e => absurd (hm.symm.trans e) (by decide)) (fun e => absurd (hm.symm.trans e) (by decide)) (fun e => absurd (hm.symm.trans e) (by decide))
  · rcases (hkd p i hi).1 hk with ⟨hm, hnil⟩ | hm3
    · refine .inl ⟨(hstep p i x o hp hi ho hx).plain hw (fun e => absurd (hm.symm.trans e) (by decide)) (fun e => absurd (hm.symm.trans e) (by decide)) (fun e => absurd (hm.symm.trans e) (by decide)), fun r k hr hk' hk1 => ?_⟩
      refine Classical.byContradiction fun hnb => ?_
      have hin := mem_late (ks := ks) hr hk' hi hk1 hnb
      rw [hnil] at hin; exact nomatch hin
    obtain ⟨s', e1, e2, e3⟩ := (hstep p i x o hp hi ho hx).checked hw hm3
    refine .inr ⟨s', e1, e2, e3.imp id fun e3 r k xk ok hr hk' hok hxk hk1 hnb hwk => ?_⟩
    have hin := mem_late (ks := ks) hr hk' hi hk1 hnb
    have hm1 : kindD ks pre π r = 1 := by
      have hkl := hf.range r k hk'
      have e := kindD_eq (ks := ks) (pre := pre) hk'
      rw [hk3 k hkl, if_neg (by omega), if_neg (by omega), if_pos] at e
      · exact e
      · rw [hk1]
        simp only [decide_true, Bool.true_and, List.any_eq_true, List.mem_range, Bool.and_eq_true, beq_iff_eq]
        exact ⟨p, lt_of_at hi, by rw [getD_of hi]; exact hk, List.contains_iff_mem.2 hin⟩
    obtain ⟨s'', e4⟩ := sees_some (seeAll_at e3 _ (hrem p (by omega) r k xk ok hr hk' hok hxk hm1 hwk) hin)
    exact ⟨s'', e4⟩
  · rcases h5 with ⟨e1, e2⟩ | ⟨d, u, s', e1, e2, e3⟩
    · exact .inl ⟨by rw [e1, dsOf_length], e2⟩
    · right
      have hN : N < π.length := by have := lt_of_at e1; rwa [dsOf_length] at this
      have hi : π[N]? = some π[N] := List.getElem?_eq_getElem hN
      have hil := hf.range N _ hi
      have ho : ops[π[N]]? = some ops[π[N]] := Array.getElem?_eq_getElem hil
      have hx : os[π[N]]? = some os[π[N]] := List.getElem?_eq_getElem (by omega)
      rw [dsOf_at hi ho hx] at e1
      obtain rfl := Option.some.inj e1
      obtain ⟨hw, hm0, hm1, hrun⟩ := e3
      have hk2 : ks.getD π[N] 0 = 2 := by
        have h3k := hf.kind _ hil
        rw [hk3 _ hil] at h3k
        rcases Nat.lt_or_ge (ks.getD π[N] 0) 2 with h7 | h7
        · have := (hkd N _ hi).2.2 (by omega)
          exact absurd this (by simp only at hm0 hm1; omega)
        · by_cases h8 : ks.getD π[N] 0 = 2
          · exact h8
          · exfalso
            obtain ⟨o', hcl⟩ := hcls _ _ hx hil
            have h9 := hkx _ _ hx
            have h10 : kindI os[π[N]].i ≤ 4 := by cases os[π[N]].i <;> simp only [kindI] <;> (try split) <;> (try split) <;> omega
            have h11 : kindI os[π[N]].i = 4 := by omega
            obtain ⟨f, hgo, _⟩ := cls_soft hcl h11
            rcases hrun with ⟨_, s1, e4, _⟩ | ⟨_, e4⟩
            · obtain ⟨v', e5, _⟩ := oneV_loud hgo e4; exact nomatch e5
            · obtain ⟨v', e5, _⟩ := oneV_loud hgo e4; exact nomatch e5
      refine ⟨_, _, _, u, s', hi, ho, hx, e2, hk2, hw, ?_⟩
      rcases hrun with ⟨_, s1, e4, e5⟩ | ⟨_, e4⟩
      · exact .inr ⟨s1, e4, e5⟩
      · exact .inl e4
end Go.Proofs.YtjdbcfnlehedmaaGreatDoor.Av
