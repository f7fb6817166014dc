/-
  LexAgain returns true for every input, and leaves its input as it is: the tied card. Conditions: those of the row alone (the listed package-level variables hold what the program's text lays, which the card ties).
-/
import Derived.Test.YtnjjkomopkgidaaDoorAgainC
import Derived.Test.YtnjjkomopkgidaaDoorRowsA
import Derived.Carry
import Derived.Test.YtnjjkomopkgidaaDoorCards
import Derived.Test.YtnjjkomopkgidaaDoorTie
import Derived.WalkKit
import Derived.ProofKit
import Derived.OpenShut
import Derived.Deep.DeepHandedRow
import Derived.Deep.DeepWitnessRowRef
import Derived.Lib.LaidTab
import Derived.Lay
import Derived.MakeChecks
namespace Go.Proofs.YtnjjkomopkgidaaDoor.lawAgain
open Go.ChangeShapes Go.WideShapes Go.ChangeAt Go.RowKit Go.Proofs.YtnjjkomopkgidaaDoor.Av
set_option linter.unusedVariables false
set_option maxRecDepth 1000000

theorem own : ownKnob Tryd.prog.godebug = none := by kernel_rfl
theorem calls {H : Type} {enc : TypeId × Value → H} (b : Bool) {v0 : Value} {d0 : DataW H} {p0 : List MemPlace} {W : World} {b0 : Nat}
    (h2 : Value.okWide Tryd.prog W .any b0 22 v0) (k2 : DataW.Trod enc Tryd.prog W 0 (fun _ => true) true 22 v0 d0 p0)
    (hL : laidMet Tryd.prog Rows.lexAgainRow.laid W) :
    Calls Tryd.prog 3 #[v0, .bool b] W fun e w' => e = .returned (.bool true) ∧ Below W.heap.size W w' := by
  have h0 := Go.Proofs.YtnjjkomopkgidaaDoor.Av.start hL (fun _ => ⟨0, 0, 0, 0, false⟩)
  obtain ⟨xs, x, S2, ρ2, hz, r2, e2, g2, w2, u2⟩ := arg_rowN h0 rfl Tryd.underlying22 Tryd.underlying5 rfl (by kernel_rfl) h2 k2
  have hargs : VRs ρ2 S2.next [x, .bool b] [v0, Value.bool b] := .cons u2 (.cons (.bool _) .nil)
  refine (answers mixed tabL get_again (again_ev (tight := b) (Nat.le_trans (Nat.le_refl _) g2.next) (g2.hasW (Nat.le_refl _) hasW_st0) w2 hz) r2 hargs).mono fun e w' ⟨v, he, ⟨ρ', m, hv⟩, hb⟩ => ⟨?_, hb⟩
  rw [he, hv.bool_inv]

/-- WHAT THE EVALUATION GIVES, FOR EVERY ARGUMENT AND EVERY WORLD THAT HOLDS THE TABLES. -/
theorem contract (H : Type) (enc : TypeId × Value → H) (W : World) (base : Nat) (args : Array Value) (ds gs : List (DataW H)) (before : List MemPlace)
    (hval : ∀ (j : Nat) t v, Tryd.f3.params[j]? = some t → args[j]? = some v → Value.okWide Tryd.prog W .any base t v)
    (hW : DataW.Whole enc Tryd.prog Tryd.f3.params.toList Rows.lexAgainSpec.vars false W args.toList ds gs before) (hL : laidMet Tryd.prog Rows.lexAgainRow.laid W) :
    Calls Tryd.prog 3 args W fun e W' => ∃ v, e = .returned v ∧ Rows.lexAgainSpec.post enc Tryd.prog Tryd.f3 false true false false W args v W' := by
  have hW' := hW
  have hlt := hW.lt
  obtain ⟨p, q, hA0, hV, rfl, hfz, hnd⟩ := hW
  have hA : DataW.TrodAll enc Tryd.prog W 0 (fun _ => true) true Tryd.f3.params.toList args.toList ds p := hA0
  rw [Tryd.params3] at hA hval
  obtain ⟨v0, vs0, d0, ds0, p0, q0, hargs, rfl, rfl, h0, r0⟩ := trodAll_cons hA
  obtain ⟨v1, vs1, d1, ds1, p1, q1, rfl, rfl, rfl, h1, r1⟩ := trodAll_cons r0
  obtain ⟨rfl, rfl, rfl⟩ := trodAll_nil r1
  obtain rfl : args = #[v0, v1] := by cases args; simp_all
  obtain ⟨rfl, rfl⟩ := trodVars_none hV
  obtain ⟨b, rfl, rfl, rfl⟩ := open_bool Tryd.underlying4 (hval 1 4 v1 rfl rfl) h1
  clear hA0
  refine (calls b (hval 0 22 v0 rfl rfl) h0 hL).mono fun e W' ⟨he, hbe⟩ => ?_
  subst he
  exact ⟨_, rfl, _, _, _, [], _, [], hW', trodAll_cons_mk (shut_bool Tryd.underlying4 _) trodAll_mk0,
    trodAll_cons_mk (Below.trod (by kernel_rfl) (by kernel_rfl) (of_decide_eq_true (by kernel_rfl)) h0 hbe fun x hx => hlt x (List.mem_append_left _ (List.mem_append_left _ hx))) (trodAll_cons_mk (shut_bool Tryd.underlying4 _) trodAll_mk0),
    rfl, hbe.frame _, fun h => by cases h⟩
theorem laid_plain (W : World) (h : laidMetH Tryd.prog Rows.lexAgainRow.laid W) : laidMet Tryd.prog Rows.lexAgainRow.laid W := by
  rw [MakeChecks.laidMetH_plain _ _ _ (by kernel_rfl)] at h
  exact h
noncomputable def witArgs : Array Value := #[.slice none 0 0, .bool false]
theorem reads (os : Os) {H : Type} (enc : TypeId × Value → H) : ∃ places, DataW.whole enc Tryd.prog ((World.laidAll Tryd.prog os Rows.lexAgainRow.laid).forCall (fun _ _ => 0) ⟨#[], witArgs, []⟩).memory Tryd.f3.params.toList Rows.lexAgainSpec.vars false witArgs.toList 8 = some ([.nil, .lit (.bool false)], [], places) :=
  ⟨[], by kernel_rfl⟩
theorem laid_met (os : Os) : laidMet Tryd.prog Rows.lexAgainRow.laid ((World.laidAll Tryd.prog os Rows.lexAgainRow.laid).forCall (fun _ _ => 0) ⟨#[], witArgs, []⟩).memory :=
  laidMet_laidAll _ (by kernel_rfl) (by kernel_rfl)
theorem lifted (os : Os) (started : os.Started) (H : Type) (enc : TypeId × Value → H) (F : Stop.Interp) :
    ReturnsInHanded {} Tryd.checked os 3 .any ((OpenSpec.ofChange Rows.lexAgainSpec).preRow enc Tryd.prog Tryd.f3 Rows.lexAgainRow.domain false Rows.lexAgainRow.laid) (((OpenSpec.ofChange Rows.lexAgainSpec).at F).post enc Tryd.prog Tryd.f3 false true false false) := by
  obtain ⟨places, hx⟩ := reads os enc
  refine returnsInHanded_of_row (C := Tryd.checked) (s := OpenSpec.ofChange Rows.lexAgainSpec) own started (by kernel_rfl) Tryd.func3
    (witness_row_atRef (enc := enc) (C := Tryd.checked) false (World.laidAll Tryd.prog os Rows.lexAgainRow.laid) witArgs (World.laidAll_os _ _ _) (by kernel_rfl) (by kernel_rfl) (by kernel_rfl)
      (OpenSpec.preRow_of_cond 8 hx (by kernel_rfl) (fun k hk => by cases hk) (by kernel_rfl) (laid_met os))) ?_
  intro W base args ds gs before hval hW _ _ _ hL _ _
  exact contract H enc W base args ds gs before hval hW (laid_plain W hL)
theorem said : Rows.LexAgainSaid :=
  OpenClaim.holds_of_cond 3 Tryd.f3 rfl rfl rfl rfl rfl rfl rfl ⟨rfl, rfl, rfl, rfl, rfl⟩ rfl rfl rfl rfl rfl (by kernel_rfl) Tryd.func3 (by kernel_rfl)
    (of_decide_eq_true (by kernel_rfl)) (by unfold Func.isWrapper; first | (rw [if_pos (by decide +kernel)]; kernel_rfl) | (rw [if_neg (by decide +kernel)]; exact ⟨rfl, rfl⟩))
    (fun os started H enc _ F => by rw [OpenClaim.pre_eq_preRow]; exact lifted os started H enc F)
theorem plain (f : FuncId) (fn : Func) (hf : Tryd.pinned.checked.prog.funcNamed "jettison/jettisonlaw06.LexAgain" = some f) (hfn : Tryd.pinned.checked.prog.funcs[f]? = some fn) :
    true = Tryd.pinned.checked.prog.looks [] ∧ ∀ (j : Nat) t, fn.params[j]? = some t → Tryd.pinned.checked.prog.wantsStandIn t = false := by
  obtain rfl : f = 3 := Option.some.inj ((show Tryd.prog.funcNamed "jettison/jettisonlaw06.LexAgain" = some 3 by kernel_rfl).symm.trans hf) |>.symm
  obtain rfl : fn = Tryd.f3 := (Option.some.inj (Tryd.func3.symm.trans hfn)).symm
  refine ⟨by kernel_rfl, fun j t ht => ?_⟩
  rw [Tryd.params3] at ht
  have hm := Array.mem_of_getElem? ht
  simp only [List.mem_toArray, List.mem_cons, List.not_mem_nil, or_false] at hm
  rcases hm with rfl | rfl
  · exact (show Tryd.prog.wantsStandIn 22 = false by kernel_rfl)
  · exact (show Tryd.prog.wantsStandIn 4 = false by kernel_rfl)
/-- THE CARD. -/
theorem card : Rows.LexAgainCardSaid :=
  Claim7.holds_tied_plain_at .later [] _ _ _ _ said (fun _ h => by cases h) (by kernel_rfl) (fun _ h => by cases h) lexAgain_row_tie rfl ⟨rfl, rfl⟩ (by kernel_rfl) rfl plain (by kernel_rfl)
end Go.Proofs.YtnjjkomopkgidaaDoor.lawAgain
