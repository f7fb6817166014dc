/-
  jettisonlaw11.CheckCounts returns true for every input, and leaves its input as it is: the tied card. Conditions: those of the row alone (the listed package-level variables hold what the program's text lays, which the card ties).
-/
import Derived.Test.YtnccejmggcjaoaaGreatDoorLaw8
import Derived.Test.YtnccejmggcjaoaaGreatDoorShape
import Derived.Test.YtnccejmggcjaoaaGreatDoorFacts
import Derived.Test.YtnccejmggcjaoaaGreatDoorCards
import Derived.Test.YtnccejmggcjaoaaGreatDoorTie
import Derived.WalkKit
import Derived.ProofKit
import Derived.OpenShut
import Derived.Deep.DeepHandedRow
import Derived.Deep.DeepWitnessRowRef
import Derived.Lib.LaidTab
import Derived.Lay
import Derived.MakeChecks
import Derived.Carry
namespace Go.Proofs.YtnccejmggcjaoaaGreatDoor.lawCounts
open Go.ChangeShapes Go.WideShapes Go.ChangeAt Go.RowKit Go.Proofs.YtnccejmggcjaoaaGreatDoor.Av
set_option linter.unusedVariables false
set_option maxRecDepth 1000000
theorem own : ownKnob Tryz.prog.godebug = none := by kernel_rfl
theorem calls {H : Type} {enc : TypeId × Value → H} {v0 v1 : Value} {d0 d1 : DataW H} {p0 p1 : List MemPlace} {W : World} {b0 : Nat} (hv0 : Value.okWide Tryz.prog W .any b0 61 v0) (hd0 : DataW.Trod enc Tryz.prog W 0 (fun _ => true) true 61 v0 d0 p0)
    (hv1 : Value.okWide Tryz.prog W .any b0 61 v1) (hd1 : DataW.Trod enc Tryz.prog W 0 (fun _ => true) true 61 v1 d1 p1) (hL : laidMet Tryz.prog Rows.checkCountsRow.laid W) :
    Calls Tryz.prog 8 #[v0, v1] W fun e w' => e = .returned (.bool true) ∧ Below W.heap.size W w' := by
  obtain ⟨a0, z0, s0, t0, a4, rfl, ha0, ha4⟩ := open_shape hv0
  obtain ⟨f0, x0, hx0⟩ := shape_bytes hd0
  obtain ⟨l0, hb0, hl0, o0, vr0⟩ := arg_bytes ha4 hx0
  obtain ⟨pl0, u0, o1, w0⟩ := arg_any ha0 11
  obtain ⟨c0, y0, r0, q0, c4, rfl, hc0, hc4⟩ := open_shape hv1
  obtain ⟨f1, x1, hx1⟩ := shape_bytes hd1
  obtain ⟨l1, hb1, hl1, o2, vr1⟩ := arg_bytes hc4 hx1
  obtain ⟨pl1, u1, o3, w1⟩ := arg_any hc0 (11 + 1)
  have hL' : laidMet Tryz.prog Rows.parseNumbersRow.laid W := hL
  have h := (Go.Proofs.YtnccejmggcjaoaaGreatDoor.Av.start hL' (fun o => if o = 11 then pl0 else pl1)).frozen (m := 11 + 2) (l := 11 + 2) rfl (fun _ => rfl) (fun _ => rfl) (by decide)
  obtain ⟨fns, lt⟩ := law_table
  have e0 : (startMap W Tryz.prog.globals.size fun o => if o = 11 then pl0 else pl1).pl 11 = pl0 := by
    show (startMap W Tryz.prog.globals.size fun o => if o = 11 then pl0 else pl1) 11 = pl0
    rw [startMap_at, globals, if_neg (by decide), if_pos rfl]
  have e1 : (startMap W Tryz.prog.globals.size fun o => if o = 11 then pl0 else pl1).pl (11 + 1) = pl1 := by
    show (startMap W Tryz.prog.globals.size fun o => if o = 11 then pl0 else pl1) (11 + 1) = pl1
    rw [startMap_at, globals, if_neg (by decide), if_neg (by decide)]
  have one5 : ∀ {a b c d e : Value}, One a → One b → One c → One d → One e → ∀ v ∈ [a, b, c, d, e], One v := fun ha hb hc hd he v hv => by
    simp only [List.mem_cons, List.not_mem_nil, or_false] at hv
    rcases hv with rfl | rfl | rfl | rfl | rfl
    · exact ha
    · exact hb
    · exact hc
    · exact hd
    · exact he
  have hargs : VRs ⟨(startMap W Tryz.prog.globals.size fun o => if o = 11 then pl0 else pl1).pl, fun b => W.heap[b]?, fun _ => none⟩ (11 + 2) [.cmp 2 0 (row5 u0 z0 s0.data.toList t0 l0), .cmp 2 0 (row5 u1 y0 r0.data.toList q0 l1)] [.agg #[a0, .int .i64 z0, .string s0, .bool t0, a4], .agg #[c0, .int .i64 y0, .string r0, .bool q0, c4]] :=
    .cons (.agg _ [a0, .int .i64 z0, .string s0, .bool t0, a4] (.cons (w0 _ _ (by decide) e0) (.cons (.int .i64 z0) (.cons (.str s0) (.cons (.bool t0) (.cons (vr0 _ _ fun _ => rfl) .nil))))) (one5 o1 rfl rfl rfl o0))
      (.cons (.agg _ [c0, .int .i64 y0, .string r0, .bool q0, c4] (.cons (w1 _ _ (by decide) e1) (.cons (.int .i64 y0) (.cons (.str r0) (.cons (.bool q0) (.cons (vr1 _ _ fun _ => rfl) .nil))))) (one5 o3 rfl rfl rfl o2)) .nil)
  refine (answers mixedZ lt.ok lt.law (counts_ev lt 0 (st := { next := 11 + 2, low := 11 + 2, mem := st0.mem }) (show 11 ≤ 11 + 2 by decide) (by kernel_rfl) u0 u1 z0 y0 s0.data.toList r0.data.toList t0 q0 l0 l1 hb0 hb1 hl0 hl1) h hargs).mono fun e w' ⟨v, he, ⟨ρ', m, hv⟩, hb⟩ => ⟨?_, hb⟩
  rw [he, hv.bool_inv]
theorem contract (H : Type) (enc : TypeId × Value → H) (W : World) (base : Nat) (args : Array Value) (ds gs : List (DataW H)) (before : List MemPlace)
    (hval : ∀ (j : Nat) t v, Tryz.f8.params[j]? = some t → args[j]? = some v → Value.okWide Tryz.prog W .any base t v)
    (hW : DataW.Whole enc Tryz.prog Tryz.f8.params.toList Rows.checkCountsSpec.vars false W args.toList ds gs before) (hL : laidMet Tryz.prog Rows.checkCountsRow.laid W) :
    Calls Tryz.prog 8 args W fun e W' => ∃ v, e = .returned v ∧ Rows.checkCountsSpec.post enc Tryz.prog Tryz.f8 false true false false W args v W' := by
  have hW' := hW
  have hlt := hW.lt
  obtain ⟨p, q, hA0, hV, rfl, hfz, hnd⟩ := hW
  have hA : DataW.TrodAll enc Tryz.prog W 0 (fun _ => true) true Tryz.f8.params.toList args.toList ds p := hA0
  rw [Tryz.params8] at hA hval
  obtain ⟨v0, vs0, d0, ds0, p0, q0, hargs, rfl, rfl, h0, r0⟩ := trodAll_cons hA
  obtain ⟨v1, vs1, d1, ds1, p1, q1, rfl, rfl, rfl, h1, r1⟩ := trodAll_cons r0
  obtain ⟨rfl, rfl, rfl⟩ := trodAll_nil r1
  obtain rfl : args = #[v0, v1] := by cases args; simp_all
  obtain ⟨rfl, rfl⟩ := trodVars_none hV
  clear hA0
  refine (calls (hval 0 61 v0 rfl rfl) h0 (hval 1 61 v1 rfl rfl) h1 hL).mono fun e W' ⟨he, hbe⟩ => ?_
  subst he
  exact ⟨_, rfl, _, _, _, [], _, [], hW', trodAll_cons_mk (shut_bool Tryz.underlying4 _) trodAll_mk0,
    trodAll_cons_mk (Below.trod k_lo rr (of_decide_eq_true (by kernel_rfl)) h0 hbe fun x hx => hlt x (List.mem_append_left _ (List.mem_append_left _ hx))) (trodAll_cons_mk (Below.trod k_lo rr (of_decide_eq_true (by kernel_rfl)) h1 hbe fun x hx => hlt x (List.mem_append_left _ (List.mem_append_right _ (List.mem_append_left _ hx)))) trodAll_mk0),
    rfl, hbe.frame _, fun h => by cases h⟩
theorem laid_plain (W : World) (h : laidMetH Tryz.prog Rows.checkCountsRow.laid W) : laidMet Tryz.prog Rows.checkCountsRow.laid W := by
  rw [MakeChecks.laidMetH_plain _ _ _ (by kernel_rfl)] at h
  exact h
noncomputable def witArgs : Array Value := #[.agg #[.slice none 0 0, .int .i64 0, .string ⟨#[]⟩, .bool false, .slice none 0 0], .agg #[.slice none 0 0, .int .i64 0, .string ⟨#[]⟩, .bool false, .slice none 0 0]]
theorem reads (os : Os) {H : Type} (enc : TypeId × Value → H) : ∃ places, DataW.whole enc Tryz.prog ((World.laidAll Tryz.prog os Rows.checkCountsRow.laid).forCall (fun _ _ => 0) ⟨#[], witArgs, []⟩).memory Tryz.f8.params.toList Rows.checkCountsSpec.vars false witArgs.toList 8 = some ([.agg [.agg [.nil, .lit (.int .i64 0), .lit (.string [])], .lit (.bool false), .nil], .agg [.agg [.nil, .lit (.int .i64 0), .lit (.string [])], .lit (.bool false), .nil]], [], places) :=
  ⟨[], by kernel_rfl⟩
theorem laid_met (os : Os) : laidMet Tryz.prog Rows.checkCountsRow.laid ((World.laidAll Tryz.prog os Rows.checkCountsRow.laid).forCall (fun _ _ => 0) ⟨#[], witArgs, []⟩).memory :=
  laidMet_laidAll _ (by kernel_rfl) (by kernel_rfl)
theorem lifted (os : Os) (started : os.Started) (H : Type) (enc : TypeId × Value → H) (F : Stop.Interp) :
    ReturnsInHanded {} Tryz.checked os 8 .any ((OpenSpec.ofChange Rows.checkCountsSpec).preRow enc Tryz.prog Tryz.f8 Rows.checkCountsRow.domain false Rows.checkCountsRow.laid) (((OpenSpec.ofChange Rows.checkCountsSpec).at F).post enc Tryz.prog Tryz.f8 false true false false) := by
  obtain ⟨places, hx⟩ := reads os enc
  refine returnsInHanded_of_row (C := Tryz.checked) (s := OpenSpec.ofChange Rows.checkCountsSpec) own started (by kernel_rfl) Tryz.func8
    (witness_row_atRef (enc := enc) (C := Tryz.checked) false (World.laidAll Tryz.prog os Rows.checkCountsRow.laid) witArgs (World.laidAll_os _ _ _) (by kernel_rfl) (by kernel_rfl) (by kernel_rfl)
      (OpenSpec.preRow_of_cond 8 hx (by kernel_rfl) (fun k hk => by cases hk) (by kernel_rfl) (laid_met os))) ?_
  intro W base args ds gs before hval hW _ _ _ hL _ _
  exact contract H enc W base args ds gs before hval hW (laid_plain W hL)
theorem said : Rows.CheckCountsSaid :=
  OpenClaim.holds_of_cond 8 Tryz.f8 rfl rfl rfl rfl rfl rfl rfl ⟨rfl, rfl, rfl, rfl, rfl⟩ rfl rfl rfl rfl rfl (by kernel_rfl) Tryz.func8 closed
    (of_decide_eq_true (by kernel_rfl)) (by unfold Func.isWrapper; first | (rw [if_pos (by decide +kernel)]; kernel_rfl) | (rw [if_neg (by decide +kernel)]; exact ⟨rfl, rfl⟩))
    (fun os started H enc _ F => by rw [OpenClaim.pre_eq_preRow]; exact lifted os started H enc F)
theorem plain (f : FuncId) (fn : Func) (hf : Tryz.pinned.checked.prog.funcNamed "jettison/jettisonlaw11.CheckCounts" = some f) (hfn : Tryz.pinned.checked.prog.funcs[f]? = some fn) :
    true = Tryz.pinned.checked.prog.looks [] ∧ ∀ (j : Nat) t, fn.params[j]? = some t → Tryz.pinned.checked.prog.wantsStandIn t = false := by
  obtain rfl : f = 8 := Option.some.inj ((show Tryz.prog.funcNamed "jettison/jettisonlaw11.CheckCounts" = some 8 by kernel_rfl).symm.trans hf) |>.symm
  obtain rfl : fn = Tryz.f8 := (Option.some.inj (Tryz.func8.symm.trans hfn)).symm
  refine ⟨by kernel_rfl, fun j t ht => ?_⟩
  rw [Tryz.params8] at ht
  have hm := Array.mem_of_getElem? ht
  simp only [List.mem_toArray, List.mem_cons, List.not_mem_nil, or_false] at hm
  rcases hm with rfl | rfl
  all_goals exact (show Tryz.prog.wantsStandIn 61 = false by kernel_rfl)
theorem card : Rows.CheckCountsCardSaid :=
  Claim7.holds_tied_plain_at .later [] _ _ _ _ said (fun _ h => by cases h) (by kernel_rfl) (fun _ h => by cases h) checkCounts_row_tie rfl ⟨rfl, rfl⟩ (by kernel_rfl) rfl plain (by kernel_rfl)
end Go.Proofs.YtnccejmggcjaoaaGreatDoor.lawCounts
