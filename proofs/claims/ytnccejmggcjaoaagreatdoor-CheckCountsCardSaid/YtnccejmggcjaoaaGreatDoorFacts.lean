/-
  CLOSED FACTS of the row of CheckCounts: each by itself, for the kernel's memory.
-/
import Derived.Test.YtnccejmggcjaoaaGreatDoorStart
import Derived.Test.YtnccejmggcjaoaaGreatDoorCards
import Derived.Test.YtnccejmggcjaoaaGreatDoorTie
import Derived.WalkKit
import Derived.ProofKit
import Derived.Deep.DeepHandedRow
namespace Go.Proofs.YtnccejmggcjaoaaGreatDoor.lawCounts
open Go.ChangeShapes Go.WideShapes Go.ChangeAt Go.RowKit Go.Proofs.YtnccejmggcjaoaaGreatDoor.Av
set_option linter.unusedVariables false
set_option maxRecDepth 1000000
theorem grown_fix {P : Program} {L : List TypeId} (h : P.grow L = L) : ∀ n, P.grown n L = L
  | 0 => rfl
  | n + 1 => by show P.grown n (P.grow L) = L; rw [h]; exact grown_fix h n
theorem grown_add {P : Program} : ∀ (a b : Nat) (L : List TypeId), P.grown (a + b) L = P.grown b (P.grown a L)
  | 0, b, L => by rw [Nat.zero_add]; rfl
  | a + 1, b, L => by rw [show a + 1 + b = (a + b) + 1 by omega]; exact grown_add a b (P.grow L)
theorem book_of {P : Program} {t : TypeId} (k : Nat) (h : P.grow (P.grown k [t]) = P.grown k [t]) (hk : k ≤ P.types.size) : P.book t = P.grown k [t] := by
  unfold Program.book
  rw [show P.types.size = k + (P.types.size - k) by omega, grown_add]; exact grown_fix h _
theorem bk : Tryz.pinned.checked.prog.book 61 = Tryz.pinned.checked.prog.grown 8 [61] := book_of 8 (by kernel_rfl) (of_decide_eq_true (by kernel_rfl))
theorem rr : Tryz.pinned.checked.prog.readableRec 61 = true := by unfold Program.readableRec; rw [bk]; kernel_rfl
theorem mm : Tryz.pinned.checked.prog.mapsRec 61 = false := by unfold Program.mapsRec; rw [bk]; kernel_rfl
theorem ii : Tryz.pinned.checked.prog.ifacesRec 61 = false := by unfold Program.ifacesRec; rw [bk]; kernel_rfl
theorem wk : Tryz.pinned.checked.prog.wideKeysFrom 61 = false := by unfold Program.wideKeysFrom; rw [bk]; kernel_rfl
theorem vv : Tryz.pinned.checked.prog.veiledRec 61 = false := by unfold Program.veiledRec; rw [bk]; kernel_rfl
theorem vo : Tryz.pinned.checked.prog.veiledOwn 61 = true := by unfold Program.veiledOwn; rw [vv]; rfl
theorem bv : Tryz.pinned.checked.prog.book 32 = Tryz.pinned.checked.prog.grown 8 [32] := book_of 8 (by kernel_rfl) (of_decide_eq_true (by kernel_rfl))
theorem ll : Tryz.pinned.checked.prog.loopsFrom 61 = true := by
  unfold Program.loopsFrom
  rw [List.any_eq_true]
  refine ⟨34, ?_, ?_⟩
  · rw [bk]; exact List.contains_iff_mem.1 (by kernel_rfl)
  · rw [List.any_eq_true]
    refine ⟨32, List.contains_iff_mem.1 (by kernel_rfl), ?_⟩
    rw [bv]; kernel_rfl
theorem pp : Tryz.f8.params = #[61, 61] := Tryz.params8
theorem vt : (OpenSpec.ofChange Rows.checkCountsSpec).bare.plain.varTypes Tryz.pinned.checked.prog = [] := by kernel_rfl
theorem rt : Tryz.f8.resultTypes = #[4] := by kernel_rfl
theorem k_wf : OpenClaim.wf (OpenSpec.ofChange (OpenSpec.ofChange Rows.checkCountsSpec).bare) Rows.checkCountsRow = true := by kernel_rfl
theorem k_lo : laidOutB Tryz.pinned.checked.prog = true := by kernel_rfl
theorem k_mr : mapsRowed Tryz.pinned.checked.prog = true := by kernel_rfl
theorem k_pr : Tryz.f8.params.all (Tryz.pinned.checked.prog.readableRec ·) = true := by rw [pp]; simp only [List.all_toArray, List.all_cons, List.all_nil, rr, Bool.and_true]
theorem k_nt : namedTie Tryz.pinned.checked.prog Rows.checkCountsRow.named (OpenSpec.ofChange Rows.checkCountsSpec).bare.vars = true := by kernel_rfl
theorem k_s1 : (Rows.checkCountsRow.stops == []) = true := by kernel_rfl
theorem k_s2 : (Tryz.pinned.checked.prog.stops == []) = true := by kernel_rfl
theorem k_s3 : (Rows.checkCountsRow.knobs == []) = true := by kernel_rfl
theorem k_s4 : (Tryz.pinned.checked.prog.stopKnobs == []) = true := by kernel_rfl
theorem k_ip : (Rows.checkCountsRow.inPlace == Tryz.pinned.checked.prog.inPlace 8) = true := by kernel_rfl
theorem k_uf : (Rows.checkCountsRow.unfollowed == Tryz.pinned.checked.prog.unfollowed 8) = true := by kernel_rfl
theorem k_rc : (Rows.checkCountsRow.recurses == Tryz.pinned.checked.prog.recurses 8) = true := by kernel_rfl
theorem k_vn : (Rows.checkCountsRow.named == Tryz.pinned.checked.prog.varsNamed 8) = true := by kernel_rfl
theorem k_mp : (Rows.checkCountsRow.maps == (Tryz.f8.params.toList ++ (OpenSpec.ofChange Rows.checkCountsSpec).bare.plain.varTypes Tryz.pinned.checked.prog).any (Tryz.pinned.checked.prog.mapsRec ·)) = true := by rw [vt, pp]; simp only [List.append_nil, List.any_cons, List.any_nil, mm]; kernel_rfl
theorem k_ic : (Rows.checkCountsRow.ifaces == (Tryz.f8.params.toList ++ (OpenSpec.ofChange Rows.checkCountsSpec).bare.plain.varTypes Tryz.pinned.checked.prog).any (Tryz.pinned.checked.prog.ifacesRec ·)) = true := by rw [vt, pp]; simp only [List.append_nil, List.any_cons, List.any_nil, ii]; kernel_rfl
theorem k_mo : (Rows.checkCountsRow.mapsOut == Tryz.pinned.checked.prog.mapsAmong Tryz.f8.resultTypes.toList) = true := by kernel_rfl
theorem k_lp : (Rows.checkCountsRow.loops == (Tryz.f8.params.toList ++ (OpenSpec.ofChange Rows.checkCountsSpec).bare.plain.varTypes Tryz.pinned.checked.prog).any (Tryz.pinned.checked.prog.loopsFrom ·)) = true := by rw [vt, pp]; simp only [List.append_nil, List.any_cons, List.any_nil, ll]; kernel_rfl
theorem k_wd : (Rows.checkCountsRow.wideKeys == (Tryz.f8.params.toList ++ (OpenSpec.ofChange Rows.checkCountsSpec).bare.plain.varTypes Tryz.pinned.checked.prog ++ Tryz.f8.resultTypes.toList).any (Tryz.pinned.checked.prog.wideKeysFrom ·)) = true := by rw [vt, pp, rt]; simp only [List.append_nil, List.cons_append, List.nil_append, List.any_cons, List.any_nil, wk]; kernel_rfl
theorem k_va : (OpenSpec.ofChange Rows.checkCountsSpec).bare.vars.all (Tryz.pinned.checked.prog.varReadable ·) = true := by kernel_rfl
theorem k_ra : Tryz.f8.resultTypes.all (fun t => Tryz.pinned.checked.prog.readableRec t && decide (t < Tryz.pinned.checked.prog.types.size)) = true := by kernel_rfl
theorem k_io : (Rows.checkCountsRow.ifacesOut == Tryz.f8.resultTypes.toList.any (Tryz.pinned.checked.prog.ifacesRec ·)) = true := by kernel_rfl
theorem k_l2 : (Rows.checkCountsRow.loopsOut == Tryz.f8.resultTypes.toList.any (Tryz.pinned.checked.prog.loopsFrom ·)) = true := by kernel_rfl
theorem k_pk : (Rows.checkCountsRow.plainKeys == Tryz.pinned.checked.prog.plainKeys) = true := by kernel_rfl
theorem k_st : Rows.checkCountsRow.shortTexts.isNone = true := by kernel_rfl
theorem k_sh : Tryz.pinned.checked.prog.stopsHeard = true := by kernel_rfl
theorem k_me : Tryz.pinned.checked.prog.mayEnter = true := by kernel_rfl
theorem k_lf : (Rows.checkCountsRow.lifted == Tryz.pinned.checked.prog.liftsFinal) = true := by kernel_rfl
theorem k_mk : (Tryz.pinned.checked.prog.make == some Rows.checkCountsRow.make) = true := by kernel_rfl
theorem k_ki : (Rows.checkCountsRow.kinds == (if Rows.checkCountsRow.domain.isEmpty then [] else Tryz.f8.params.toList.map fun t => match Tryz.pinned.checked.prog.underlying t with | some (.int k) => some k | _ => none)) = true := by kernel_rfl
theorem k_pn : (Rows.checkCountsRow.pinned == Rows.checkCountsRow.pinnedBy) = true := by kernel_rfl
theorem k_vl : (Rows.checkCountsRow.veiled == (Tryz.f8.params.toList ++ (OpenSpec.ofChange Rows.checkCountsSpec).bare.plain.varTypes Tryz.pinned.checked.prog ++ Tryz.f8.resultTypes.toList).any (Tryz.pinned.checked.prog.veiledRec ·)) = true := by rw [vt, pp, rt]; simp only [List.append_nil, List.cons_append, List.nil_append, List.any_cons, List.any_nil, vv]; kernel_rfl
theorem k_vf : Rows.checkCountsRow.veiledFits Tryz.pinned.checked.prog Tryz.f8.params.toList (Tryz.f8.params.toList ++ (OpenSpec.ofChange Rows.checkCountsSpec).bare.plain.varTypes Tryz.pinned.checked.prog ++ Tryz.f8.resultTypes.toList) = true := by
  unfold OpenClaim.veiledFits
  rw [vt, pp, rt]
  simp only [List.append_nil, List.cons_append, List.nil_append, List.any_cons, List.any_nil, List.all_cons, List.all_nil, vv, vo, rr]
  kernel_rfl
theorem band {a b : Bool} (ha : a = true) (hb : b = true) : (a && b) = true := by rw [ha, hb]; rfl
theorem closed : joinedFacts Tryz.pinned.checked.prog 8 Tryz.f8 (OpenSpec.ofChange Rows.checkCountsSpec).bare Rows.checkCountsRow = true := by
  unfold joinedFacts
  exact band (band (band (band (band (band (band (band (band (band (band (band (band (band (band (band (band (band (band (band (band (band (band (band (band (band (band (band (band (band (band (k_wf) k_lo) k_mr) k_pr) k_nt) k_s1) k_s2) k_s3) k_s4) k_ip) k_uf) k_rc) k_vn) k_mp) k_ic) k_mo) k_lp) k_wd) k_va) k_ra) k_io) k_l2) k_pk) k_st) k_sh) k_me) k_lf) k_mk) k_ki) k_pn) k_vl) k_vf
end Go.Proofs.YtnccejmggcjaoaaGreatDoor.lawCounts
