/-
  LexSpace returns true for every input, and leaves its input as it is: the tied card. Conditions: those of the row alone (the listed package-level variables hold what the program's text lays, which the card ties).
-/
import Derived.Test.YtnjjkomopkgidaaDoorSpaceB
import Derived.Test.YtnjjkomopkgidaaDoorRowsA
import Derived.Carry
import Derived.Test.YtnjjkomopkgidaaDoorCards
import Derived.Test.YtnjjkomopkgidaaDoorTie
import Derived.WalkKit
import Derived.ProofKit
import Derived.OpenShut
import Derived.Deep.DeepHandedRow
import Derived.Deep.DeepWitnessRowRef
import Derived.Lib.LaidTab
import Derived.Lay
import Derived.MakeChecks
namespace Go.Proofs.YtnjjkomopkgidaaDoor.lawSpace
open Go.ChangeShapes Go.WideShapes Go.ChangeAt Go.RowKit Go.Proofs.YtnjjkomopkgidaaDoor.Av
set_option linter.unusedVariables false
set_option maxRecDepth 1000000

theorem own : ownKnob Tryd.prog.godebug = none := by kernel_rfl
theorem calls {H : Type} {enc : TypeId × Value → H} (a b : Int) {v2 v3 v4 : Value} {d2 d3 d4 : DataW H} {p2 p3 p4 : List MemPlace} {W : World} {b0 : Nat} (ha : 0 ≤ a) (hb : 0 ≤ b)
    (h2 : Value.okWide Tryd.prog W .any b0 22 v2) (k2 : DataW.Trod enc Tryd.prog W 0 (fun _ => true) true 22 v2 d2 p2)
    (h3 : Value.okWide Tryd.prog W .any b0 22 v3) (k3 : DataW.Trod enc Tryd.prog W 0 (fun _ => true) true 22 v3 d3 p3)
    (h4 : Value.okWide Tryd.prog W .any b0 22 v4) (k4 : DataW.Trod enc Tryd.prog W 0 (fun _ => true) true 22 v4 d4 p4)
    (hL : laidMet Tryd.prog Rows.lexSpaceRow.laid W) :
    Calls Tryd.prog 6 #[.int .u8 a, .int .u8 b, v2, v3, v4] W fun e w' => e = .returned (.bool true) ∧ Below W.heap.size W w' := by
  have hL' : laidMet Tryd.prog Rows.lexAgainRow.laid W := hL
  have h0 := Go.Proofs.YtnjjkomopkgidaaDoor.Av.start hL' (fun _ => ⟨0, 0, 0, 0, false⟩)
  obtain ⟨n0, rfl⟩ := Int.eq_ofNat_of_zero_le ha
  obtain ⟨n1, rfl⟩ := Int.eq_ofNat_of_zero_le hb
  obtain ⟨xs, x, S2, ρ2, _, r2, e2, g2, w2, u2⟩ := arg_rowN h0 rfl Tryd.underlying22 Tryd.underlying5 rfl (by kernel_rfl) h2 k2
  obtain ⟨ys, y, S3, ρ3, _, r3, e3, g3, w3, u3⟩ := arg_rowN r2 rfl Tryd.underlying22 Tryd.underlying5 rfl (by kernel_rfl) h3 k3
  obtain ⟨zs, z, S4, ρ4, _, r4, e4, g4, w4, u4⟩ := arg_rowN r3 rfl Tryd.underlying22 Tryd.underlying5 rfl (by kernel_rfl) h4 k4
  have g24 := g3.trans g4
  have hgr := g2.trans g24
  have hargs : VRs ρ4 S4.next [.int 8 (Int.ofNat n0), .int 8 (Int.ofNat n1), x, y, z] [Value.int .u8 n0, .int .u8 n1, v2, v3, v4] :=
    .cons (.int .u8 _) (.cons (.int .u8 _) (.cons (VR.mono (e3.trans e4 g3.next) g24.next u2) (.cons (VR.mono e4 g4.next u3) (.cons u4 .nil))))
  refine (answers mixed tabL get_spaceLaw (spl_ev (a := n0) (b := n1) (Nat.le_trans (Nat.le_refl _) hgr.next) (hgr.hasW (Nat.le_refl _) hasW_st0) (w2.grew g24) (w3.grew g4) w4) r4 hargs).mono fun e w' ⟨v, he, ⟨ρ', m, hv⟩, hb⟩ => ⟨?_, hb⟩
  rw [he, hv.bool_inv]

/-- WHAT THE EVALUATION GIVES, FOR EVERY ARGUMENT AND EVERY WORLD THAT HOLDS THE TABLES. -/
theorem contract (H : Type) (enc : TypeId × Value → H) (W : World) (base : Nat) (args : Array Value) (ds gs : List (DataW H)) (before : List MemPlace)
    (hval : ∀ (j : Nat) t v, Tryd.f6.params[j]? = some t → args[j]? = some v → Value.okWide Tryd.prog W .any base t v)
    (hW : DataW.Whole enc Tryd.prog Tryd.f6.params.toList Rows.lexSpaceSpec.vars false W args.toList ds gs before) (hL : laidMet Tryd.prog Rows.lexSpaceRow.laid W) :
    Calls Tryd.prog 6 args W fun e W' => ∃ v, e = .returned v ∧ Rows.lexSpaceSpec.post enc Tryd.prog Tryd.f6 false true false false W args v W' := by
  have hW' := hW
  have hlt := hW.lt
  obtain ⟨p, q, hA0, hV, rfl, hfz, hnd⟩ := hW
  have hA : DataW.TrodAll enc Tryd.prog W 0 (fun _ => true) true Tryd.f6.params.toList args.toList ds p := hA0
  rw [Tryd.params6] at hA hval
  obtain ⟨v0, vs0, d0, ds0, p0, q0, hargs, rfl, rfl, h0, r0⟩ := trodAll_cons hA
  obtain ⟨v1, vs1, d1, ds1, p1, q1, rfl, rfl, rfl, h1, r1⟩ := trodAll_cons r0
  obtain ⟨v2, vs2, d2, ds2, p2, q2, rfl, rfl, rfl, h2, r2⟩ := trodAll_cons r1
  obtain ⟨v3, vs3, d3, ds3, p3, q3, rfl, rfl, rfl, h3, r3⟩ := trodAll_cons r2
  obtain ⟨v4, vs4, d4, ds4, p4, q4, rfl, rfl, rfl, h4, r4⟩ := trodAll_cons r3
  obtain ⟨rfl, rfl, rfl⟩ := trodAll_nil r4
  obtain rfl : args = #[v0, v1, v2, v3, v4] := by cases args; simp_all
  obtain ⟨rfl, rfl⟩ := trodVars_none hV
  obtain ⟨a, rfl, rfl, rfl, wa⟩ := open_int Tryd.underlying5 (hval 0 5 v0 rfl rfl) h0
  obtain ⟨b, rfl, rfl, rfl, wb⟩ := open_int Tryd.underlying5 (hval 1 5 v1 rfl rfl) h1
  clear hA0
  have ha : 0 ≤ a ∧ a ≤ 255 := by simpa [Lit.wf, IntKind.min, IntKind.max, IntKind.signed, IntKind.bits] using wa
  have hb : 0 ≤ b ∧ b ≤ 255 := by simpa [Lit.wf, IntKind.min, IntKind.max, IntKind.signed, IntKind.bits] using wb
  have m2 : ∀ x ∈ p2, x ∈ [] ++ ([] ++ (p2 ++ (p3 ++ (p4 ++ [])))) := fun x hx => List.mem_append_right _ (List.mem_append_right _ (List.mem_append_left _ hx))
  have m3 : ∀ x ∈ p3, x ∈ [] ++ ([] ++ (p2 ++ (p3 ++ (p4 ++ [])))) := fun x hx => List.mem_append_right _ (List.mem_append_right _ (List.mem_append_right _ (List.mem_append_left _ hx)))
  have m4 : ∀ x ∈ p4, x ∈ [] ++ ([] ++ (p2 ++ (p3 ++ (p4 ++ [])))) := fun x hx => List.mem_append_right _ (List.mem_append_right _ (List.mem_append_right _ (List.mem_append_right _ (List.mem_append_left _ hx))))
  refine (calls a b ha.1 hb.1 (hval 2 22 v2 rfl rfl) h2 (hval 3 22 v3 rfl rfl) h3 (hval 4 22 v4 rfl rfl) h4 hL).mono fun e W' ⟨he, hbe⟩ => ?_
  subst he
  exact ⟨_, rfl, _, _, _, [], _, [], hW', trodAll_cons_mk (shut_bool Tryd.underlying4 _) trodAll_mk0,
    trodAll_cons_mk (shut_int Tryd.underlying5 wa) (trodAll_cons_mk (shut_int Tryd.underlying5 wb) (trodAll_cons_mk (Below.trod (by kernel_rfl) (by kernel_rfl) (of_decide_eq_true (by kernel_rfl)) h2 hbe fun x hx => hlt x (List.mem_append_left _ (m2 x hx))) (trodAll_cons_mk (Below.trod (by kernel_rfl) (by kernel_rfl) (of_decide_eq_true (by kernel_rfl)) h3 hbe fun x hx => hlt x (List.mem_append_left _ (m3 x hx))) (trodAll_cons_mk (Below.trod (by kernel_rfl) (by kernel_rfl) (of_decide_eq_true (by kernel_rfl)) h4 hbe fun x hx => hlt x (List.mem_append_left _ (m4 x hx))) trodAll_mk0)))),
    rfl, hbe.frame _, fun h => by cases h⟩
theorem laid_plain (W : World) (h : laidMetH Tryd.prog Rows.lexSpaceRow.laid W) : laidMet Tryd.prog Rows.lexSpaceRow.laid W := by
  rw [MakeChecks.laidMetH_plain _ _ _ (by kernel_rfl)] at h
  exact h
noncomputable def witArgs : Array Value := #[.int .u8 0, .int .u8 0, .slice none 0 0, .slice none 0 0, .slice none 0 0]
theorem reads (os : Os) {H : Type} (enc : TypeId × Value → H) : ∃ places, DataW.whole enc Tryd.prog ((World.laidAll Tryd.prog os Rows.lexSpaceRow.laid).forCall (fun _ _ => 0) ⟨#[], witArgs, []⟩).memory Tryd.f6.params.toList Rows.lexSpaceSpec.vars false witArgs.toList 8 = some ([.lit (.int .u8 0), .lit (.int .u8 0), .nil, .nil, .nil], [], places) :=
  ⟨[], by kernel_rfl⟩
theorem laid_met (os : Os) : laidMet Tryd.prog Rows.lexSpaceRow.laid ((World.laidAll Tryd.prog os Rows.lexSpaceRow.laid).forCall (fun _ _ => 0) ⟨#[], witArgs, []⟩).memory :=
  laidMet_laidAll _ (by kernel_rfl) (by kernel_rfl)
theorem lifted (os : Os) (started : os.Started) (H : Type) (enc : TypeId × Value → H) (F : Stop.Interp) :
    ReturnsInHanded {} Tryd.checked os 6 .any ((OpenSpec.ofChange Rows.lexSpaceSpec).preRow enc Tryd.prog Tryd.f6 Rows.lexSpaceRow.domain false Rows.lexSpaceRow.laid) (((OpenSpec.ofChange Rows.lexSpaceSpec).at F).post enc Tryd.prog Tryd.f6 false true false false) := by
  obtain ⟨places, hx⟩ := reads os enc
  refine returnsInHanded_of_row (C := Tryd.checked) (s := OpenSpec.ofChange Rows.lexSpaceSpec) own started (by kernel_rfl) Tryd.func6
    (witness_row_atRef (enc := enc) (C := Tryd.checked) false (World.laidAll Tryd.prog os Rows.lexSpaceRow.laid) witArgs (World.laidAll_os _ _ _) (by kernel_rfl) (by kernel_rfl) (by kernel_rfl)
      (OpenSpec.preRow_of_cond 8 hx (by kernel_rfl) (fun k hk => by cases hk) (by kernel_rfl) (laid_met os))) ?_
  intro W base args ds gs before hval hW _ _ _ hL _ _
  exact contract H enc W base args ds gs before hval hW (laid_plain W hL)
theorem said : Rows.LexSpaceSaid :=
  OpenClaim.holds_of_cond 6 Tryd.f6 rfl rfl rfl rfl rfl rfl rfl ⟨rfl, rfl, rfl, rfl, rfl⟩ rfl rfl rfl rfl rfl (by kernel_rfl) Tryd.func6 (by kernel_rfl)
    (of_decide_eq_true (by kernel_rfl)) (by unfold Func.isWrapper; first | (rw [if_pos (by decide +kernel)]; kernel_rfl) | (rw [if_neg (by decide +kernel)]; exact ⟨rfl, rfl⟩))
    (fun os started H enc _ F => by rw [OpenClaim.pre_eq_preRow]; exact lifted os started H enc F)
theorem plain (f : FuncId) (fn : Func) (hf : Tryd.pinned.checked.prog.funcNamed "jettison/jettisonlaw06.LexSpace" = some f) (hfn : Tryd.pinned.checked.prog.funcs[f]? = some fn) :
    true = Tryd.pinned.checked.prog.looks [] ∧ ∀ (j : Nat) t, fn.params[j]? = some t → Tryd.pinned.checked.prog.wantsStandIn t = false := by
  obtain rfl : f = 6 := Option.some.inj ((show Tryd.prog.funcNamed "jettison/jettisonlaw06.LexSpace" = some 6 by kernel_rfl).symm.trans hf) |>.symm
  obtain rfl : fn = Tryd.f6 := (Option.some.inj (Tryd.func6.symm.trans hfn)).symm
  refine ⟨by kernel_rfl, fun j t ht => ?_⟩
  rw [Tryd.params6] at ht
  have hm := Array.mem_of_getElem? ht
  simp only [List.mem_toArray, List.mem_cons, List.not_mem_nil, or_false] at hm
  rcases hm with rfl | rfl | rfl | rfl | rfl
  · exact (show Tryd.prog.wantsStandIn 5 = false by kernel_rfl)
  · exact (show Tryd.prog.wantsStandIn 5 = false by kernel_rfl)
  · exact (show Tryd.prog.wantsStandIn 22 = false by kernel_rfl)
  · exact (show Tryd.prog.wantsStandIn 22 = false by kernel_rfl)
  · exact (show Tryd.prog.wantsStandIn 22 = false by kernel_rfl)
/-- THE CARD. -/
theorem card : Rows.LexSpaceCardSaid :=
  Claim7.holds_tied_plain_at .later [] _ _ _ _ said (fun _ h => by cases h) (by kernel_rfl) (fun _ h => by cases h) lexSpace_row_tie rfl ⟨rfl, rfl⟩ (by kernel_rfl) rfl plain (by kernel_rfl)
end Go.Proofs.YtnjjkomopkgidaaDoor.lawSpace
