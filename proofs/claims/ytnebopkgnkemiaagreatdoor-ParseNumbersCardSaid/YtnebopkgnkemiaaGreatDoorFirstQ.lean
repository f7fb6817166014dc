/-
  lex.first as a known function; the start's tables, all of them.
-/
import Derived.Test.YtnebopkgnkemiaaGreatDoorFirstU
namespace Go.Proofs.YtnebopkgnkemiaaGreatDoor.Av
set_option linter.unusedVariables false
set_option linter.unusedSimpArgs false
set_option maxRecDepth 1000000
open Go
noncomputable def predOf (g : Nat) : Option (Nat → Bool) := bif Nat.beq g 67 then some letterG else bif Nat.beq g 69 then some digitG else bif Nat.beq g 86 then some bothG else none
noncomputable def firstC (s : List UInt8) (g : Nat) (l : List V) (st : St) : Option V := bif hasU st && sameL l [] then Option.rec none (fun p => some (.int 63 (.ofNat (firstL p s)))) (predOf g) else none
noncomputable def firstG (args : List V) (st : St) : Option V :=
  List.rec none (fun a l _ => List.rec none (fun b l2 _ => a.onStr none (fun s => b.onFunc none (fun g cs => List.rec (firstC s g cs st) (fun _ _ _ => none) l2))) l) args
theorem onFunc_some' {v : V} {f : Nat → List V → Option V} {x : V} (h : v.onFunc none f = some x) : ∃ g l, v = .cmp 0 g l ∧ f g l = some x := by
  cases v with
  | cmp t a l =>
    have h' : (Bool.rec none (f a l) (Nat.beq t 0) : Option V) = some x := h
    obtain ⟨h1, h2⟩ := brec_none h'
    obtain rfl := Nat.eq_of_beq_eq_true h1
    exact ⟨a, l, rfl, h2⟩
  | _ => exact nomatch h
theorem first_some {args : List V} {st : St} {v : V} (h : firstG args st = some v) : ∃ s g p, args = [.str s, .cmp 0 g []] ∧ hasU st = true ∧ predOf g = some p ∧ v = .int 63 (.ofNat (firstL p s)) := by
  match args, h with
  | [], h => exact nomatch h
  | [a], h => exact nomatch h
  | a :: b :: d :: l, h =>
    obtain ⟨s, rfl, h1⟩ := onStr_some (show a.onStr none (fun s => b.onFunc none (fun g cs => (none : Option V))) = some v from h)
    obtain ⟨g, cs, rfl, h2⟩ := onFunc_some' h1
    exact nomatch h2
  | [a, b], h =>
    obtain ⟨s, rfl, h1⟩ := onStr_some (show a.onStr none (fun s => b.onFunc none (fun g cs => firstC s g cs st)) = some v from h)
    obtain ⟨g, cs, rfl, h2⟩ := onFunc_some' h1
    obtain ⟨h3, h4⟩ := bif_none h2
    rw [Bool.and_eq_true] at h3
    obtain rfl := sameL_eq h3.2
    obtain ⟨p, h5, h6⟩ := orec_none h4
    exact ⟨s, g, p, rfl, h3.1, h5, (Option.some.inj h6).symm⟩
theorem get_letterP : tableP.get 67 = some (.spec (runeG hasU letterG)) := by kernel_rfl
theorem get_digitP : tableP.get 69 = some (.spec (runeG (fun _ => true) digitG)) := by kernel_rfl
theorem get_bothP : tableP.get 86 = some (.spec (runeG hasU bothG)) := by kernel_rfl
theorem pred_ev {g : Nat} {p : Nat → Bool} (h : predOf g = some p) (n r : Nat) (st : St) (hv : VRune r) (hU : hasU st = true) : evF tableP (n + 1) g [.int 31 (.ofNat r)] st = some (.ret (.bool (p r)), st) := by
  unfold predOf at h
  cases h1 : Nat.beq g 67 with
  | true =>
    rw [h1] at h
    obtain rfl := Option.some.inj h
    obtain rfl := Nat.eq_of_beq_eq_true h1
    exact ev_spec get_letterP (rune_at hasU letterG r _ hv hU)
  | false =>
    rw [h1, cond_false] at h
    cases h2 : Nat.beq g 69 with
    | true =>
      rw [h2] at h
      obtain rfl := Option.some.inj h
      obtain rfl := Nat.eq_of_beq_eq_true h2
      exact ev_spec get_digitP (rune_at _ digitG r _ hv rfl)
    | false =>
      rw [h2, cond_false] at h
      obtain ⟨h3, h4⟩ := bif_none h
      obtain rfl := Option.some.inj h4
      obtain rfl := Nat.eq_of_beq_eq_true h3
      exact ev_spec get_bothP (rune_at hasU bothG r _ hv hU)
theorem first_spec : SpecOk Tryz.prog 66 firstG := by
  refine spec_of mixed tabP get_first (mem := memU) (G := 11) globals.symm (fun g b hb => memU_lt g b hb) fun args st v h => ?_
  obtain ⟨s, g, p, rfl, h1, h2, rfl⟩ := first_some h
  exact ⟨hasU_tabs h1, rfl, rfl, s.length + 1 + 1, stU, first_ev _ g p s stU (Nat.le_refl _) hasU_stU (Nat.lt_succ_self _) (fun r st hv hU => pred_ev h2 _ r st hv hU)⟩
noncomputable def tableQ : Tr Fs := tableP.set 66 (some (.spec firstG))
theorem tabQ : TableOk Tryz.prog tableQ := tableSpec tabP first_spec
theorem get_firstQ : tableQ.get 66 = some (.spec firstG) := by kernel_rfl
theorem firstQ_ev (n : Nat) {g : Nat} {p : Nat → Bool} (h : predOf g = some p) (s : List UInt8) (st : St) (hU : hasU st = true) : evF tableQ (n + 1) 66 [.str s, .cmp 0 g []] st = some (.ret (.int 63 (.ofNat (firstL p s))), st) := by
  refine ev_spec get_firstQ ?_
  show (bif hasU st && sameL [] [] then Option.rec none (fun p => some (V.int 63 (.ofNat (firstL p s)))) (predOf g) else none) = _
  rw [hU, h]
  rfl
theorem get_nameQ : tableQ.get 85 = some (.spec nameG) := by kernel_rfl
theorem nameQ_ev (n : Nat) (s : List UInt8) (st : St) (h : hasU st = true) (hs : s.length ≤ 9223372036854775807) : evF tableQ (n + 1) 85 [.str s] st = some (.ret (.bool (isNameL s)), st) := by
  refine ev_spec get_nameQ ?_
  show (bif hasU st && Nat.ble (lenL s) 9223372036854775807 then some (V.bool (isNameL s)) else none) = _
  rw [h, lenL_eq, bleT hs]
  rfl
noncomputable def tabE (e : Nat) (vs : List V) (b : Option Ob) : Bool := onCells false (fun e' cs w => Bool.rec (sameL cs vs && Nat.beq e e') false w) b
noncomputable def tabOk1 (st : St) (o : Option Ob) (g : Nat) : Bool := Option.rec true (fun b => Ob.rec (fun e vs w => Bool.rec (tabE e vs (st.mem.get g)) false w) (fun _ _ => false) (fun _ => false) b) o
noncomputable def tabsOk (st : St) (t : Tr Ob) : (Nat → Nat) → Bool := Tr.rec (motive := fun _ => (Nat → Nat) → Bool) (fun _ => true) (fun _ o _ hl hr f => hl (fun n => f (2 * n + 1)) && (tabOk1 st o (f 0) && hr (fun n => f (2 * n + 2)))) t
def FlatOb : Ob → Prop
  | .cells _ vs _ => (vs.all fun v => v.fine) = true
  | _ => True
theorem tabsOk_all {st : St} : ∀ {t : Tr Ob} {f : Nat → Nat}, tabsOk st t f = true → AllT (fun n b => ∃ e vs, b = .cells e vs false ∧ ∃ e', st.mem.get (f n) = some (.cells e' vs false) ∧ (e = 0 ∨ e = e')) t
  | .leaf, f, _ => trivial
  | .node l o r, f, h => by
    have h' : (tabsOk st l (fun n => f (2 * n + 1)) && (tabOk1 st o (f 0) && tabsOk st r (fun n => f (2 * n + 2)))) = true := h
    rw [Bool.and_eq_true, Bool.and_eq_true] at h'
    refine ⟨tabsOk_all h'.1, fun x hx => ?_, tabsOk_all h'.2.2⟩
    subst hx
    cases x with
    | cells e vs w =>
      cases w with
      | true => exact nomatch h'.2.1
      | false =>
        have h2 : tabE e vs (st.mem.get (f 0)) = true := h'.2.1
        cases hb : st.mem.get (f 0) with
        | none => rw [hb] at h2; exact nomatch h2
        | some b =>
          rw [hb] at h2
          cases b with
          | cells e' cs w =>
            cases w with
            | true => exact nomatch h2
            | false =>
              have h3 : (sameL cs vs && Nat.beq e e') = true := h2
              rw [Bool.and_eq_true] at h3
              obtain rfl := sameL_eq h3.1
              exact ⟨e, cs, rfl, e', rfl, .inr (Nat.eq_of_beq_eq_true h3.2)⟩
          | iter s p => exact nomatch h2
          | map es => exact nomatch h2
    | iter s p => exact nomatch h'.2.1
    | map es => exact nomatch h'.2.1
noncomputable def hasW (st : St) : Bool := tabsOk st mem0 (fun n => n)
theorem mem0_flat : AllT (fun _ b => FlatOb b) mem0 := by
  unfold mem0
  simp only [AllT, true_and, and_true, Option.some.injEq, forall_eq', reduceCtorEq, false_implies, implies_true]
  repeat' apply And.intro
  all_goals (first | exact rfl | kernel_rfl)
theorem hasW_tabs {st : St} (h : hasW st = true) : HasTabs mem0 st := fun g b hb => by
  obtain ⟨e, vs, rfl, e', h1, h2⟩ := (tabsOk_all h).get g b hb
  exact ⟨e, vs, rfl, mem0_flat.get g _ hb, e', h1, h2⟩
theorem hasW_st0 : hasW st0 = true := by kernel_rfl
theorem mem0_lt (g : Nat) (b : Ob) (h : mem0.get g = some b) : g < 11 := by
  have h1 : AllT (fun n _ => n < 11) mem0 := by
    unfold mem0
    simp only [AllT, true_and, and_true, Option.some.injEq, forall_eq', reduceCtorEq, false_implies, implies_true]
    repeat' apply And.intro
    all_goals decide
  exact h1.get g b h
theorem sameTab_self {vs : List V} {e : Nat} (h : sameL vs vs = true) : sameTab vs (some (.cells e vs false)) = true := h
theorem hasW_U {st : St} (h : hasW st = true) : hasU st = true := by
  obtain ⟨e, vs, h1, _, e', h2, _⟩ := hasW_tabs h 4 _ (by kernel_rfl : mem0.get 4 = some (.cells 256 tab4 false))
  obtain ⟨f, us, h3, _, f', h4, _⟩ := hasW_tabs h 5 _ (by kernel_rfl : mem0.get 5 = some (.cells 32 tab5 false))
  injection h1 with _ h1 _
  injection h3 with _ h3 _
  subst h1 h3
  unfold hasU
  rw [h2, h4, sameTab_self (by kernel_rfl), sameTab_self (by kernel_rfl)]
  rfl
end Go.Proofs.YtnebopkgnkemiaaGreatDoor.Av
