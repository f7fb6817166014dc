/-
  LexNames returns true for every input, and leaves its input as it is: the tied card. Conditions: those of the row alone (the listed package-level variables hold what the program's text lays, which the card ties).
-/
import Derived.Test.YtnjjkomopkgidaaDoorNamesB
import Derived.Test.YtnjjkomopkgidaaDoorArgs
import Derived.Carry
import Derived.Test.YtnjjkomopkgidaaDoorCards
import Derived.Test.YtnjjkomopkgidaaDoorTie
import Derived.WalkKit
import Derived.ProofKit
import Derived.OpenShut
import Derived.Deep.DeepHandedRow
import Derived.Deep.DeepWitnessRowRef
import Derived.Lib.LaidTab
import Derived.Lay
import Derived.MakeChecks
namespace Go.Proofs.YtnjjkomopkgidaaDoor.lawNames
open Go.ChangeShapes Go.WideShapes Go.ChangeAt Go.RowKit Go.Proofs.YtnjjkomopkgidaaDoor.Av
set_option linter.unusedVariables false
set_option maxRecDepth 1000000

theorem own : ownKnob Tryd.prog.godebug = none := by kernel_rfl
theorem calls {H : Type} {enc : TypeId × Value → H} {v : Value} {dt : DataW H} {ps : List MemPlace} {W : World} {b0 : Nat} (hval : Value.okWide Tryd.prog W .any b0 33 v) (hd : DataW.Trod enc Tryd.prog W 0 (fun _ => true) true 33 v dt ps)
    (hL : laidMet Tryd.prog Rows.lexNamesRow.laid W) :
    Calls Tryd.prog 4 #[v] W fun e w' => e = .returned (.bool true) ∧ Below W.heap.size W w' := by
  have hL' : laidMet Tryd.prog Rows.lexAgainRow.laid W := hL
  have h0 := Go.Proofs.YtnjjkomopkgidaaDoor.Av.start hL' (fun _ => ⟨0, 0, 0, 0, false⟩)
  rcases arg_nats h0 rfl Tryd.underlying33 Tryd.underlying34 rfl (by kernel_rfl) hval hd (11 + 1) with rfl | ⟨zs, cap, ρ', hz, _, hrel, _, hv⟩
  · refine (answers mixed tabL get_names (names_ev (st := st0) (v0 := .ref 2 0 0 0 0 false) (zs := []) (Nat.le_refl _) hasW_st0 (.inl ⟨rfl, rfl⟩) (fun z hz => nomatch hz)) h0 (.cons .nilSlice .nil)).mono fun e w' ⟨v, he, ⟨ρ', m, hv⟩, hb⟩ => ⟨?_, hb⟩
    rw [he, hv.bool_inv]
  · have hW : hasW { next := st0.next + 1, low := 11 + 1, mem := st0.mem.set st0.next (some (.cells 0 (zs.map fun z => .int (codeK .u16) (Int.ofNat z)) false)) } = true := hasW_new (b := .cells 0 (zs.map fun z => .int (codeK .u16) (Int.ofNat z)) false) hasW_st0 (Nat.le_refl _)
    refine (answers mixed tabL get_names (names_ev (v0 := .ref 3 st0.next 0 zs.length cap true) (zs := zs) (Nat.le_succ _) hW (.inr ⟨st0.next, cap, rfl, Nat.lt_succ_self _, new_get_self st0 _⟩) hz) hrel (.cons hv .nil)).mono fun e w' ⟨v, he, ⟨ρ', m, hv⟩, hb⟩ => ⟨?_, hb⟩
    rw [he, hv.bool_inv]

/-- WHAT THE EVALUATION GIVES, FOR EVERY ARGUMENT AND EVERY WORLD THAT HOLDS THE TABLES. -/
theorem contract (H : Type) (enc : TypeId × Value → H) (W : World) (base : Nat) (args : Array Value) (ds gs : List (DataW H)) (before : List MemPlace)
    (hval : ∀ (j : Nat) t v, Tryd.f4.params[j]? = some t → args[j]? = some v → Value.okWide Tryd.prog W .any base t v)
    (hW : DataW.Whole enc Tryd.prog Tryd.f4.params.toList Rows.lexNamesSpec.vars false W args.toList ds gs before) (hL : laidMet Tryd.prog Rows.lexNamesRow.laid W) :
    Calls Tryd.prog 4 args W fun e W' => ∃ v, e = .returned v ∧ Rows.lexNamesSpec.post enc Tryd.prog Tryd.f4 false true false false W args v W' := by
  have hW' := hW
  have hlt := hW.lt
  obtain ⟨p, q, hA0, hV, rfl, hfz, hnd⟩ := hW
  have hA : DataW.TrodAll enc Tryd.prog W 0 (fun _ => true) true Tryd.f4.params.toList args.toList ds p := hA0
  rw [Tryd.params4] at hA hval
  obtain ⟨v0, vs0, d0, ds0, p0, q0, hargs, rfl, rfl, h0, r0⟩ := trodAll_cons hA
  obtain ⟨rfl, rfl, rfl⟩ := trodAll_nil r0
  obtain rfl : args = #[v0] := by cases args; simp_all
  obtain ⟨rfl, rfl⟩ := trodVars_none hV
  clear hA0
  refine (calls (hval 0 33 v0 rfl rfl) h0 hL).mono fun e W' ⟨he, hbe⟩ => ?_
  subst he
  exact ⟨_, rfl, _, _, _, [], _, [], hW', trodAll_cons_mk (shut_bool Tryd.underlying4 _) trodAll_mk0,
    trodAll_cons_mk (Below.trod (by kernel_rfl) (by kernel_rfl) (of_decide_eq_true (by kernel_rfl)) h0 hbe fun x hx => hlt x (List.mem_append_left _ (List.mem_append_left _ hx))) trodAll_mk0,
    rfl, hbe.frame _, fun h => by cases h⟩
theorem laid_plain (W : World) (h : laidMetH Tryd.prog Rows.lexNamesRow.laid W) : laidMet Tryd.prog Rows.lexNamesRow.laid W := by
  rw [MakeChecks.laidMetH_plain _ _ _ (by kernel_rfl)] at h
  exact h
noncomputable def witArgs : Array Value := #[.slice none 0 0]
theorem reads (os : Os) {H : Type} (enc : TypeId × Value → H) : ∃ places, DataW.whole enc Tryd.prog ((World.laidAll Tryd.prog os Rows.lexNamesRow.laid).forCall (fun _ _ => 0) ⟨#[], witArgs, []⟩).memory Tryd.f4.params.toList Rows.lexNamesSpec.vars false witArgs.toList 8 = some ([.nil], [], places) :=
  ⟨[], by kernel_rfl⟩
theorem laid_met (os : Os) : laidMet Tryd.prog Rows.lexNamesRow.laid ((World.laidAll Tryd.prog os Rows.lexNamesRow.laid).forCall (fun _ _ => 0) ⟨#[], witArgs, []⟩).memory :=
  laidMet_laidAll _ (by kernel_rfl) (by kernel_rfl)
theorem lifted (os : Os) (started : os.Started) (H : Type) (enc : TypeId × Value → H) (F : Stop.Interp) :
    ReturnsInHanded {} Tryd.checked os 4 .any ((OpenSpec.ofChange Rows.lexNamesSpec).preRow enc Tryd.prog Tryd.f4 Rows.lexNamesRow.domain false Rows.lexNamesRow.laid) (((OpenSpec.ofChange Rows.lexNamesSpec).at F).post enc Tryd.prog Tryd.f4 false true false false) := by
  obtain ⟨places, hx⟩ := reads os enc
  refine returnsInHanded_of_row (C := Tryd.checked) (s := OpenSpec.ofChange Rows.lexNamesSpec) own started (by kernel_rfl) Tryd.func4
    (witness_row_atRef (enc := enc) (C := Tryd.checked) false (World.laidAll Tryd.prog os Rows.lexNamesRow.laid) witArgs (World.laidAll_os _ _ _) (by kernel_rfl) (by kernel_rfl) (by kernel_rfl)
      (OpenSpec.preRow_of_cond 8 hx (by kernel_rfl) (fun k hk => by cases hk) (by kernel_rfl) (laid_met os))) ?_
  intro W base args ds gs before hval hW _ _ _ hL _ _
  exact contract H enc W base args ds gs before hval hW (laid_plain W hL)
theorem said : Rows.LexNamesSaid :=
  OpenClaim.holds_of_cond 4 Tryd.f4 rfl rfl rfl rfl rfl rfl rfl ⟨rfl, rfl, rfl, rfl, rfl⟩ rfl rfl rfl rfl rfl (by kernel_rfl) Tryd.func4 (by kernel_rfl)
    (of_decide_eq_true (by kernel_rfl)) (by unfold Func.isWrapper; first | (rw [if_pos (by decide +kernel)]; kernel_rfl) | (rw [if_neg (by decide +kernel)]; exact ⟨rfl, rfl⟩))
    (fun os started H enc _ F => by rw [OpenClaim.pre_eq_preRow]; exact lifted os started H enc F)
theorem plain (f : FuncId) (fn : Func) (hf : Tryd.pinned.checked.prog.funcNamed "jettison/jettisonlaw06.LexNames" = some f) (hfn : Tryd.pinned.checked.prog.funcs[f]? = some fn) :
    true = Tryd.pinned.checked.prog.looks [] ∧ ∀ (j : Nat) t, fn.params[j]? = some t → Tryd.pinned.checked.prog.wantsStandIn t = false := by
  obtain rfl : f = 4 := Option.some.inj ((show Tryd.prog.funcNamed "jettison/jettisonlaw06.LexNames" = some 4 by kernel_rfl).symm.trans hf) |>.symm
  obtain rfl : fn = Tryd.f4 := (Option.some.inj (Tryd.func4.symm.trans hfn)).symm
  refine ⟨by kernel_rfl, fun j t ht => ?_⟩
  rw [Tryd.params4] at ht
  have hm := Array.mem_of_getElem? ht
  simp only [List.mem_toArray, List.mem_cons, List.not_mem_nil, or_false] at hm
  subst hm
  exact (show Tryd.prog.wantsStandIn 33 = false by kernel_rfl)
/-- THE CARD. -/
theorem card : Rows.LexNamesCardSaid :=
  Claim7.holds_tied_plain_at .later [] _ _ _ _ said (fun _ h => by cases h) (by kernel_rfl) (fun _ h => by cases h) lexNames_row_tie rfl ⟨rfl, rfl⟩ (by kernel_rfl) rfl plain (by kernel_rfl)
end Go.Proofs.YtnjjkomopkgidaaDoor.lawNames
