/-
  CLOSED FACTS of the row of PathStraight: each by itself, for the kernel's memory.
-/
import Derived.Test.YtnccejmggcjaoaaGreatDoorStart
import Derived.Test.YtnccejmggcjaoaaGreatDoorCards
import Derived.Test.YtnccejmggcjaoaaGreatDoorTie
import Derived.WalkKit
import Derived.ProofKit
import Derived.Deep.DeepHandedRow
namespace Go.Proofs.YtnccejmggcjaoaaGreatDoor.lawStraight
open Go.ChangeShapes Go.WideShapes Go.ChangeAt Go.RowKit Go.Proofs.YtnccejmggcjaoaaGreatDoor.Av
set_option linter.unusedVariables false
set_option maxRecDepth 1000000
theorem k_wf : OpenClaim.wf (OpenSpec.ofChange (OpenSpec.ofChange Rows.pathStraightSpec).bare) Rows.pathStraightRow = true := by kernel_rfl
theorem k_lo : laidOutB Tryz.pinned.checked.prog = true := by kernel_rfl
theorem k_mr : mapsRowed Tryz.pinned.checked.prog = true := by kernel_rfl
theorem k_pr : Tryz.f11.params.all (Tryz.pinned.checked.prog.readableRec ·) = true := by kernel_rfl
theorem k_nt : namedTie Tryz.pinned.checked.prog Rows.pathStraightRow.named (OpenSpec.ofChange Rows.pathStraightSpec).bare.vars = true := by kernel_rfl
theorem k_s1 : (Rows.pathStraightRow.stops == []) = true := by kernel_rfl
theorem k_s2 : (Tryz.pinned.checked.prog.stops == []) = true := by kernel_rfl
theorem k_s3 : (Rows.pathStraightRow.knobs == []) = true := by kernel_rfl
theorem k_s4 : (Tryz.pinned.checked.prog.stopKnobs == []) = true := by kernel_rfl
theorem k_ip : (Rows.pathStraightRow.inPlace == Tryz.pinned.checked.prog.inPlace 11) = true := by kernel_rfl
theorem k_uf : (Rows.pathStraightRow.unfollowed == Tryz.pinned.checked.prog.unfollowed 11) = true := by kernel_rfl
theorem k_rc : (Rows.pathStraightRow.recurses == Tryz.pinned.checked.prog.recurses 11) = true := by kernel_rfl
theorem k_vn : (Rows.pathStraightRow.named == Tryz.pinned.checked.prog.varsNamed 11) = true := by kernel_rfl
theorem k_mp : (Rows.pathStraightRow.maps == (Tryz.f11.params.toList ++ (OpenSpec.ofChange Rows.pathStraightSpec).bare.plain.varTypes Tryz.pinned.checked.prog).any (Tryz.pinned.checked.prog.mapsRec ·)) = true := by kernel_rfl
theorem k_ic : (Rows.pathStraightRow.ifaces == (Tryz.f11.params.toList ++ (OpenSpec.ofChange Rows.pathStraightSpec).bare.plain.varTypes Tryz.pinned.checked.prog).any (Tryz.pinned.checked.prog.ifacesRec ·)) = true := by kernel_rfl
theorem k_mo : (Rows.pathStraightRow.mapsOut == Tryz.pinned.checked.prog.mapsAmong Tryz.f11.resultTypes.toList) = true := by kernel_rfl
theorem k_lp : (Rows.pathStraightRow.loops == (Tryz.f11.params.toList ++ (OpenSpec.ofChange Rows.pathStraightSpec).bare.plain.varTypes Tryz.pinned.checked.prog).any (Tryz.pinned.checked.prog.loopsFrom ·)) = true := by kernel_rfl
theorem k_wd : (Rows.pathStraightRow.wideKeys == (Tryz.f11.params.toList ++ (OpenSpec.ofChange Rows.pathStraightSpec).bare.plain.varTypes Tryz.pinned.checked.prog ++ Tryz.f11.resultTypes.toList).any (Tryz.pinned.checked.prog.wideKeysFrom ·)) = true := by kernel_rfl
theorem k_va : (OpenSpec.ofChange Rows.pathStraightSpec).bare.vars.all (Tryz.pinned.checked.prog.varReadable ·) = true := by kernel_rfl
theorem k_ra : Tryz.f11.resultTypes.all (fun t => Tryz.pinned.checked.prog.readableRec t && decide (t < Tryz.pinned.checked.prog.types.size)) = true := by kernel_rfl
theorem k_io : (Rows.pathStraightRow.ifacesOut == Tryz.f11.resultTypes.toList.any (Tryz.pinned.checked.prog.ifacesRec ·)) = true := by kernel_rfl
theorem k_l2 : (Rows.pathStraightRow.loopsOut == Tryz.f11.resultTypes.toList.any (Tryz.pinned.checked.prog.loopsFrom ·)) = true := by kernel_rfl
theorem k_pk : (Rows.pathStraightRow.plainKeys == Tryz.pinned.checked.prog.plainKeys) = true := by kernel_rfl
theorem k_st : Rows.pathStraightRow.shortTexts.isNone = true := by kernel_rfl
theorem k_sh : Tryz.pinned.checked.prog.stopsHeard = true := by kernel_rfl
theorem k_me : Tryz.pinned.checked.prog.mayEnter = true := by kernel_rfl
theorem k_lf : (Rows.pathStraightRow.lifted == Tryz.pinned.checked.prog.liftsFinal) = true := by kernel_rfl
theorem k_mk : (Tryz.pinned.checked.prog.make == some Rows.pathStraightRow.make) = true := by kernel_rfl
theorem k_ki : (Rows.pathStraightRow.kinds == (if Rows.pathStraightRow.domain.isEmpty then [] else Tryz.f11.params.toList.map fun t => match Tryz.pinned.checked.prog.underlying t with | some (.int k) => some k | _ => none)) = true := by kernel_rfl
theorem k_pn : (Rows.pathStraightRow.pinned == Rows.pathStraightRow.pinnedBy) = true := by kernel_rfl
theorem k_vl : (Rows.pathStraightRow.veiled == (Tryz.f11.params.toList ++ (OpenSpec.ofChange Rows.pathStraightSpec).bare.plain.varTypes Tryz.pinned.checked.prog ++ Tryz.f11.resultTypes.toList).any (Tryz.pinned.checked.prog.veiledRec ·)) = true := by kernel_rfl
theorem k_vf : Rows.pathStraightRow.veiledFits Tryz.pinned.checked.prog Tryz.f11.params.toList (Tryz.f11.params.toList ++ (OpenSpec.ofChange Rows.pathStraightSpec).bare.plain.varTypes Tryz.pinned.checked.prog ++ Tryz.f11.resultTypes.toList) = true := by kernel_rfl
theorem band {a b : Bool} (ha : a = true) (hb : b = true) : (a && b) = true := by rw [ha, hb]; rfl
theorem closed : joinedFacts Tryz.pinned.checked.prog 11 Tryz.f11 (OpenSpec.ofChange Rows.pathStraightSpec).bare Rows.pathStraightRow = true := by
  unfold joinedFacts
  exact band (band (band (band (band (band (band (band (band (band (band (band (band (band (band (band (band (band (band (band (band (band (band (band (band (band (band (band (band (band (band (k_wf) k_lo) k_mr) k_pr) k_nt) k_s1) k_s2) k_s3) k_s4) k_ip) k_uf) k_rc) k_vn) k_mp) k_ic) k_mo) k_lp) k_wd) k_va) k_ra) k_io) k_l2) k_pk) k_st) k_sh) k_me) k_lf) k_mk) k_ki) k_pn) k_vl) k_vf
end Go.Proofs.YtnccejmggcjaoaaGreatDoor.lawStraight
