/-
  WHAT IS KNOWN OF A FUNCTION: it is enough to know it of a state that holds the listed tables alone.
-/
import Derived.Test.YtjdbcfnlehedmaaGreatDoorAvTable
namespace Go.Proofs.YtjdbcfnlehedmaaGreatDoor.Av
set_option linter.unusedVariables false
set_option linter.unusedSimpArgs false
open Go Go.RowKit

/-- Values that name no object. -/
def Flat (l : List V) : Prop := ∀ v ∈ l, v.under 0 = true
mutual
theorem VR.flat {ρ ρ' : Map} {n n' : Nat} : ∀ {v : V} {v' : Value}, VR ρ n v v' → v.under 0 = true → VR ρ' n' v v'
  | _, _, .int k i, _ => .int k i
  | _, _, .str s, _ => .str s
  | _, _, .bool b, _ => .bool b
  | _, _, .nilPtr, _ => .nilPtr
  | _, _, .ptr o i h, hu => absurd ((under_ref 0 1 o i 0 0 false).1 hu (.inl rfl)) (Nat.not_lt_zero _)
  | _, _, .nilSlice, _ => .nilSlice
  | _, _, .slice o i len cap x a c h h1 h2 h3 h4 h5, hu => absurd ((under_ref 0 3 o i len cap x).1 hu (.inr (.inl rfl))) (Nat.not_lt_zero _)
  | _, _, .nilMap, _ => .nilMap
  | _, _, .map o h, hu => absurd ((under_ref 0 5 o 0 0 0 false).1 hu (.inr (.inr rfl))) (Nat.not_lt_zero _)
  | _, _, .nilFunc, _ => .nilFunc
  | _, _, .func f l l' h, hu => .func f l l' (VRs.flat h (by rwa [under_cmp] at hu))
  | _, _, .nilIface, _ => .nilIface
  | _, _, .iface t v v' h, hu => .iface t v v' (VR.flat h (by rw [under_cmp] at hu; simpa using hu))
  | _, _, .agg l l' h h1, hu => .agg l l' (VRs.flat h (by rwa [under_cmp] at hu)) h1
  | _, _, .tup l l' h, hu => .tup l l' (VRs.flat h (by rwa [under_cmp] at hu))
  | _, _, .any v h h1, _ => .any v h h1
theorem VRs.flat {ρ ρ' : Map} {n n' : Nat} : ∀ {l : List V} {l' : List Value}, VRs ρ n l l' → (l.all fun v => v.under 0) = true → VRs ρ' n' l l'
  | _, _, .nil, _ => .nil
  | _, _, .cons h hs, hu => by
    rw [List.all_cons, Bool.and_eq_true] at hu
    exact .cons (VR.flat h hu.1) (VRs.flat hs hu.2)
end
section
variable {P : Program}
theorem Rel.later {base : Nat} {ρ : Map} {st : St} {w w' : World} (h : Rel P base ρ st w) (hb : ∀ k, k < w.heap.size → w'.heap[k]? = w.heap[k]?) : Rel P base ρ st w' :=
  ⟨fun o b hg => ⟨(h.obj o b hg).1, fun hl => ((h.obj o b hg).2 hl).mono (Ext.refl _ _) (Nat.le_refl _) (hb _ ((h.obj o b hg).2 hl).lt)⟩, h.sep, h.base, h.glob⟩
/-- Does a state hold these tables? -/
def HasTabs (mem : Tr Ob) (st : St) : Prop := ∀ g b, mem.get g = some b → ∃ e vs, b = .cells e vs false ∧ (vs.all fun v => v.under 0) = true ∧ ∃ e', st.mem.get g = some (.cells e' vs false)
/-- The relation, of the tables alone. -/
theorem Rel.tabs {base : Nat} {ρ : Map} {st : St} {w : World} (h : Rel P base ρ st w) {mem : Tr Ob} {G : Nat} (hG : G = P.globals.size) (ht : HasTabs mem st) (hlt : ∀ g b, mem.get g = some b → g < G) : Rel P w.heap.size ρ { next := G, low := G, mem := mem } w := by
  subst hG
  refine ⟨fun o b hb => ⟨hlt o b hb, fun hl => ?_⟩, fun o o' b b' hl hl' hb hb' hne hown => ?_, fun o b hl hb hown => ?_, Nat.le_refl _, h.glob.2⟩
  · obtain ⟨e, vs, rfl, hf, e', h1⟩ := ht o b hb
    obtain ⟨c, e2, lo, hi, h2, h3, h4, _⟩ := (h.obj o _ h1).2 hl
    refine ⟨c, e2, lo, hi, h2, fun j v hv => ?_, h4, fun h => nomatch h⟩
    obtain ⟨v', h5, h6, h7⟩ := h3 j v hv
    exact ⟨v', h5, h6.flat (List.all_eq_true.1 hf v (List.mem_of_getElem? hv)), h7⟩
  · obtain ⟨e, vs, rfl, _⟩ := ht o b hb
    exact nomatch hown
  · obtain ⟨e, vs, rfl, _⟩ := ht o b hb
    exact nomatch hown
/-- WHAT A FUNCTION ANSWERS AT A STATE OF THE TABLES ALONE, IT ANSWERS AT EVERY STATE THAT HOLDS THEM. -/
theorem spec_of {fns : Tr Fs} (hm : P.follows .mixedOrders = true) (htab : TableOk P fns) {f : Nat} {rs : List RV} {b : CEv} (hf : fns.get f = some (.mk rs b)) {mem : Tr Ob} {G : Nat} (hG : G = P.globals.size) (hlt : ∀ g b, mem.get g = some b → g < G) {g : List V → St → Option V}
    (h : ∀ args st v, g args st = some v → HasTabs mem st ∧ (args.all fun v => v.under 0) = true ∧ v.under 0 = true ∧ ∃ n st', evF fns n f args { next := G, low := G, mem := mem } = some (.ret v, st')) : SpecOk P f g := by
  intro base args st v ρ w args' hg hrel hb hargs
  obtain ⟨h1, h2, h3, n, st', h4⟩ := h args st v hg
  obtain ⟨fn, ir, e1, e2, e3, _⟩ := htab f _ hf
  have hbody : fn.body.isNone = false := by
    unfold compF at e3
    obtain ⟨c, hb, _⟩ := bind_some' e3
    rw [hb]; rfl
  refine ⟨⟨fn, e1, e2, hbody⟩, ?_⟩
  rcases sound hm htab n h4 (hrel.tabs hG h1 hlt) (Nat.le_refl _) (hargs.flat h2) with ⟨_, h5⟩ | ⟨_, v', _, _, h5, _⟩
  · refine h5.mono fun e w' hc => ?_
    obtain ⟨ρ', hn, hc⟩ := hc
    cases e with
    | returned v' =>
      exact ⟨ρ, ⟨Ext.refl _ _, hrel.later fun k hk => hn.below.block k hk, Turn.refl _, ⟨hn.below.os, hn.below.tape, hn.below.output, hn.below.size, fun k hk => hn.below.block k (Nat.lt_of_lt_of_le hk hb)⟩, Dead.refl _ _⟩, VR.flat hc h3⟩
    | _ => exact hc.elim
  · have := run_callFunc (P := P) (w := w) ⟨fn, e1, e2, hbody⟩ args'.toArray
    rw [h5] at this
    exact nomatch this
/-- The tables' own look. -/
noncomputable def sameTab (vs : List V) (b : Option Ob) : Bool := onCells false (fun _ cs w => Bool.rec (sameL cs vs) false w) b
theorem sameTab_eq {vs : List V} {b : Option Ob} (h : sameTab vs b = true) : ∃ e, b = some (.cells e vs false) := by
  cases b with
  | none => exact nomatch h
  | some b =>
    cases b with
    | cells e cs w =>
      cases w with
      | true => exact nomatch h
      | false => exact ⟨e, by rw [sameL_eq (show sameL cs vs = true from h)]⟩
    | iter s p => exact nomatch h
    | map es => exact nomatch h
end
end Go.Proofs.YtjdbcfnlehedmaaGreatDoor.Av
