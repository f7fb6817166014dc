/-
  PathStraight returns true for every input, and leaves its input as it is: the tied card. Conditions: those of the row alone (the listed package-level variables hold what the program's text lays, which the card ties).
-/
import Derived.Test.YtnccejmggcjaoaaGreatDoorStrW
import Derived.Test.YtnccejmggcjaoaaGreatDoorArgB
import Derived.Test.YtnccejmggcjaoaaGreatDoorFactsStraight
import Derived.Carry
import Derived.Test.YtnccejmggcjaoaaGreatDoorCards
import Derived.Test.YtnccejmggcjaoaaGreatDoorTie
import Derived.WalkKit
import Derived.ProofKit
import Derived.OpenShut
import Derived.Deep.DeepHandedRow
import Derived.Deep.DeepWitnessRowRef
import Derived.Lib.LaidTab
import Derived.Lay
import Derived.MakeChecks
namespace Go.Proofs.YtnccejmggcjaoaaGreatDoor.lawStraight
open Go.ChangeShapes Go.WideShapes Go.ChangeAt Go.RowKit Go.Proofs.YtnccejmggcjaoaaGreatDoor.Av
set_option linter.unusedVariables false
set_option maxRecDepth 1000000
theorem own : ownKnob Tryz.prog.godebug = none := by kernel_rfl
theorem calls {H : Type} {enc : TypeId × Value → H} {v0 : Value} {d0 : DataW H} {p0 : List MemPlace} {W : World} {b0 : Nat}
    (h2 : Value.okWide Tryz.prog W .any b0 24 v0) (k2 : DataW.Trod enc Tryz.prog W 0 (fun _ => true) true 24 v0 d0 p0)
    (hL : laidMet Tryz.prog Rows.pathStraightRow.laid W) :
    Calls Tryz.prog 11 #[v0] W fun e w' => e = .returned (.bool true) ∧ Below W.heap.size W w' := by
  obtain ⟨a0, len0, cap0, rfl⟩ := okWide_slice Tryz.underlying24 h2
  obtain ⟨f0, hx0⟩ := k2
  obtain ⟨l0, hb0, hl0, o0, vr0⟩ := arg_bytes h2 (fuel := f0) hx0
  have hL' : laidMet Tryz.prog Rows.parseNumbersRow.laid W := hL
  have h := (Go.Proofs.YtnccejmggcjaoaaGreatDoor.Av.start hL' (fun _ => ⟨0, 0, 0, 0, false⟩)).frozen (m := 11) (l := 11) rfl (fun _ => rfl) (fun _ => rfl) (by decide)
  obtain ⟨fns, lb⟩ := lawS
  have hargs : VRs ⟨(startMap W Tryz.prog.globals.size fun _ => ⟨0, 0, 0, 0, false⟩).pl, fun b => W.heap[b]?, fun _ => none⟩ 11 [slT 4 l0.length (cB l0)] [.slice a0 len0 cap0] :=
    .cons (vr0 _ _ fun _ => rfl) .nil
  refine (answers mixedZ lb.ok lb.law (str_ev lb 0 (st := { next := 11, low := 11, mem := st0.mem }) (by kernel_rfl) hl0) h hargs).mono fun e w' ⟨v, he, ⟨ρ', m, hv⟩, hb⟩ => ⟨?_, hb⟩
  rw [he, hv.bool_inv]
theorem contract (H : Type) (enc : TypeId × Value → H) (W : World) (base : Nat) (args : Array Value) (ds gs : List (DataW H)) (before : List MemPlace)
    (hval : ∀ (j : Nat) t v, Tryz.f11.params[j]? = some t → args[j]? = some v → Value.okWide Tryz.prog W .any base t v)
    (hW : DataW.Whole enc Tryz.prog Tryz.f11.params.toList Rows.pathStraightSpec.vars false W args.toList ds gs before) (hL : laidMet Tryz.prog Rows.pathStraightRow.laid W) :
    Calls Tryz.prog 11 args W fun e W' => ∃ v, e = .returned v ∧ Rows.pathStraightSpec.post enc Tryz.prog Tryz.f11 false true false false W args v W' := by
  have hW' := hW
  have hlt := hW.lt
  obtain ⟨p, q, hA0, hV, rfl, hfz, hnd⟩ := hW
  have hA : DataW.TrodAll enc Tryz.prog W 0 (fun _ => true) true Tryz.f11.params.toList args.toList ds p := hA0
  rw [Tryz.params11] at hA hval
  obtain ⟨v0, vs0, d0, ds0, p0, q0, hargs, rfl, rfl, h0, r0⟩ := trodAll_cons hA
  obtain ⟨rfl, rfl, rfl⟩ := trodAll_nil r0
  obtain rfl : args = #[v0] := by cases args; simp_all
  obtain ⟨rfl, rfl⟩ := trodVars_none hV
  clear hA0
  refine (calls (hval 0 24 v0 rfl rfl) h0 hL).mono fun e W' ⟨he, hbe⟩ => ?_
  subst he
  exact ⟨_, rfl, _, _, _, [], _, [], hW', trodAll_cons_mk (shut_bool Tryz.underlying4 _) trodAll_mk0,
    trodAll_cons_mk (Below.trod k_lo (by kernel_rfl) (of_decide_eq_true (by kernel_rfl)) h0 hbe fun x hx => hlt x (List.mem_append_left _ (List.mem_append_left _ hx))) trodAll_mk0,
    rfl, hbe.frame _, fun h => by cases h⟩
theorem laid_plain (W : World) (h : laidMetH Tryz.prog Rows.pathStraightRow.laid W) : laidMet Tryz.prog Rows.pathStraightRow.laid W := by
  rw [MakeChecks.laidMetH_plain _ _ _ (by kernel_rfl)] at h
  exact h
noncomputable def witArgs : Array Value := #[.slice none 0 0]
theorem reads (os : Os) {H : Type} (enc : TypeId × Value → H) : ∃ places, DataW.whole enc Tryz.prog ((World.laidAll Tryz.prog os Rows.pathStraightRow.laid).forCall (fun _ _ => 0) ⟨#[], witArgs, []⟩).memory Tryz.f11.params.toList Rows.pathStraightSpec.vars false witArgs.toList 8 = some ([.nil], [], places) :=
  ⟨[], by kernel_rfl⟩
theorem laid_met (os : Os) : laidMet Tryz.prog Rows.pathStraightRow.laid ((World.laidAll Tryz.prog os Rows.pathStraightRow.laid).forCall (fun _ _ => 0) ⟨#[], witArgs, []⟩).memory :=
  laidMet_laidAll _ (by kernel_rfl) (by kernel_rfl)
theorem lifted (os : Os) (started : os.Started) (H : Type) (enc : TypeId × Value → H) (F : Stop.Interp) :
    ReturnsInHanded {} Tryz.checked os 11 .any ((OpenSpec.ofChange Rows.pathStraightSpec).preRow enc Tryz.prog Tryz.f11 Rows.pathStraightRow.domain false Rows.pathStraightRow.laid) (((OpenSpec.ofChange Rows.pathStraightSpec).at F).post enc Tryz.prog Tryz.f11 false true false false) := by
  obtain ⟨places, hx⟩ := reads os enc
  refine returnsInHanded_of_row (C := Tryz.checked) (s := OpenSpec.ofChange Rows.pathStraightSpec) own started (by kernel_rfl) Tryz.func11
    (witness_row_atRef (enc := enc) (C := Tryz.checked) false (World.laidAll Tryz.prog os Rows.pathStraightRow.laid) witArgs (World.laidAll_os _ _ _) (by kernel_rfl) (by kernel_rfl) (by kernel_rfl)
      (OpenSpec.preRow_of_cond 8 hx (by kernel_rfl) (fun k hk => by cases hk) (by kernel_rfl) (laid_met os))) ?_
  intro W base args ds gs before hval hW _ _ _ hL _ _
  exact contract H enc W base args ds gs before hval hW (laid_plain W hL)
theorem said : Rows.PathStraightSaid :=
  OpenClaim.holds_of_cond 11 Tryz.f11 rfl rfl rfl rfl rfl rfl rfl ⟨rfl, rfl, rfl, rfl, rfl⟩ rfl rfl rfl rfl rfl (by kernel_rfl) Tryz.func11 closed
    (of_decide_eq_true (by kernel_rfl)) (by unfold Func.isWrapper; first | (rw [if_pos (by decide +kernel)]; kernel_rfl) | (rw [if_neg (by decide +kernel)]; exact ⟨rfl, rfl⟩))
    (fun os started H enc _ F => by rw [OpenClaim.pre_eq_preRow]; exact lifted os started H enc F)
theorem plain (f : FuncId) (fn : Func) (hf : Tryz.pinned.checked.prog.funcNamed "jettison/jettisonlaw12.PathStraight" = some f) (hfn : Tryz.pinned.checked.prog.funcs[f]? = some fn) :
    true = Tryz.pinned.checked.prog.looks [] ∧ ∀ (j : Nat) t, fn.params[j]? = some t → Tryz.pinned.checked.prog.wantsStandIn t = false := by
  obtain rfl : f = 11 := Option.some.inj ((show Tryz.prog.funcNamed "jettison/jettisonlaw12.PathStraight" = some 11 by kernel_rfl).symm.trans hf) |>.symm
  obtain rfl : fn = Tryz.f11 := (Option.some.inj (Tryz.func11.symm.trans hfn)).symm
  refine ⟨by kernel_rfl, fun j t ht => ?_⟩
  rw [Tryz.params11] at ht
  have hm := Array.mem_of_getElem? ht
  simp only [List.mem_toArray, List.mem_cons, List.not_mem_nil, or_false] at hm
  subst hm
  exact (show Tryz.prog.wantsStandIn 24 = false by kernel_rfl)
theorem card : Rows.PathStraightCardSaid :=
  Claim7.holds_tied_plain_at .later [] _ _ _ _ said (fun _ h => by cases h) (by kernel_rfl) (fun _ h => by cases h) pathStraight_row_tie rfl ⟨rfl, rfl⟩ (by kernel_rfl) rfl plain (by kernel_rfl)
end Go.Proofs.YtnccejmggcjaoaaGreatDoor.lawStraight
