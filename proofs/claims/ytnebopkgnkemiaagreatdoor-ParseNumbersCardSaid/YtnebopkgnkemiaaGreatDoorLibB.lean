/-
  utf8.ValidString, strconv.ParseInt, strconv.FormatInt: WHAT THE KIT's PROVED CONTRACTS SAY OF THEM, as known functions of the abstract machine.
-/
import Derived.Test.YtnebopkgnkemiaaGreatDoorCame
import Derived.Test.YtnebopkgnkemiaaGreatDoorLays
import Derived.Test.YtnebopkgnkemiaaGreatDoorSign
import Derived.Lib.AppendIntMem
namespace Go.Proofs.YtnebopkgnkemiaaGreatDoor.Av
set_option linter.unusedVariables false
set_option linter.unusedSimpArgs false
set_option maxRecDepth 1000000
open Go Go.RowKit
theorem firsts_eq : tab4 = (List.range 256).map fun c => V.int (codeK .u8) (Lib.firstT c) := by kernel_rfl
theorem accs_get : ∀ i : Nat, i < 16 → tab5[2 * i]? = some (.int (codeK .u8) (Lib.accLo i)) ∧ tab5[2 * i + 1]? = some (.int (codeK .u8) (Lib.accHi i)) := by
  intro i hi
  have h : i = 0 ∨ i = 1 ∨ i = 2 ∨ i = 3 ∨ i = 4 ∨ i = 5 ∨ i = 6 ∨ i = 7 ∨ i = 8 ∨ i = 9 ∨ i = 10 ∨ i = 11 ∨ i = 12 ∨ i = 13 ∨ i = 14 ∨ i = 15 := by omega
  rcases h with rfl | rfl | rfl | rfl | rfl | rfl | rfl | rfl | rfl | rfl | rfl | rfl | rfl | rfl | rfl | rfl <;> exact ⟨rfl, rfl⟩
noncomputable def hasU (st : St) : Bool := sameTab tab4 (st.mem.get 4) && sameTab tab5 (st.mem.get 5)
theorem global_lt {g : Nat} (h : g < 11) : g < Tryz.prog.globals.size := by rw [globals]; exact h
theorem utf8_tabs {base : Nat} {ρ : Map} {st : St} {w : World} (hrel : Rel Tryz.prog base ρ st w) (h : hasU st = true) : Lib.Utf8Tabs 4 5 w := by
  unfold hasU at h
  rw [Bool.and_eq_true] at h
  obtain ⟨e1, h1⟩ := sameTab_eq h.1
  obtain ⟨e2, h2⟩ := sameTab_eq h.2
  refine ⟨fun c hc => ?_, fun i hi => ?_⟩
  · refine tab_cell hrel h1 (global_lt (by decide)) ?_
    rw [firsts_eq, List.getElem?_map, List.getElem?_range hc]; rfl
  · exact ⟨tab_cell hrel h2 (global_lt (by decide)) (accs_get i hi).1, tab_cell hrel h2 (global_lt (by decide)) (accs_get i hi).2⟩
noncomputable def validG (args : List V) (st : St) : Option V :=
  List.rec none (fun a l _ => a.onStr none (fun s => List.rec (bif hasU st && Nat.ble (lenL s) 9223372036854775807 then some (.bool (Lib.validD s)) else none) (fun _ _ _ => none) l)) args
theorem valid_spec : SpecOk Tryz.prog 98 validG := by
  intro base args st v ρ w args' hg hrel hb hargs
  refine ⟨fn_ok (fn := Tryz.f98) (by kernel_rfl) (by kernel_rfl) (by kernel_rfl), came_flat hrel hb ?_⟩
  match args, hg, hargs with
  | [], hg, _ => exact nomatch hg
  | a :: b :: l, hg, _ =>
    obtain ⟨_, _, h⟩ := onStr_some (show a.onStr none (fun s => (none : Option V)) = some v from hg)
    exact nomatch h
  | [a], hg, .cons (v' := a') ha .nil =>
    obtain ⟨s, rfl, h1⟩ := onStr_some (show a.onStr none (fun s => bif hasU st && Nat.ble (lenL s) 9223372036854775807 then some (V.bool (Lib.validD s)) else none) = some v from hg)
    obtain rfl := ha.str_inv
    obtain ⟨h2, h3⟩ := bif_none h1
    rw [Bool.and_eq_true] at h2
    obtain rfl := Option.some.inj h3
    have h4 := ble_iff.1 h2.2
    rw [lenL_eq] at h4
    exact (Any.utf8_ValidString laysValid ⟨⟨s⟩⟩ w (by simpa [ByteArray.size] using h4) (utf8_tabs hrel h2.1)).mono fun e w' ⟨he, hw⟩ => ⟨⟨_, he, .bool _⟩, hw⟩
noncomputable def pintV (s : List UInt8) : V := match Lib.parseIntB 64 s with
  | .ok v => .tup [.int 63 v, .nilIface]
  | .range => .tup [.int 63 (Lib.intSat 64 s), .cmp 1 0 []]
  | Lib.NumEnd.syntax => .tup [.int 63 0, .cmp 1 0 []]
noncomputable def hasE (g : Nat) (st : St) : Bool := onCells false (fun _ cs w => Bool.rec (sameL cs [.cmp 1 0 []]) false w) (st.mem.get g)
theorem hasE_eq {g : Nat} {st : St} (h : hasE g st = true) : ∃ e, st.mem.get g = some (.cells e [.cmp 1 0 []] false) := sameTab_eq (vs := [.cmp 1 0 []]) h
noncomputable def pintC (s : List UInt8) (st : St) : Bool := Nat.ble (lenL s) 281474976710656 && (hasE 7 st && hasE 8 st)
noncomputable def pintG (args : List V) (st : St) : Option V :=
  List.rec none (fun a l _ => a.onStr none (fun s => bif sameL l [.int 63 10, .int 63 64] && pintC s st then some (pintV s) else none)) args
theorem vrs_cons {ρ : Map} {n : Nat} {v : V} {l : List V} {l0 : List Value} (h : VRs ρ n (v :: l) l0) : ∃ x l', l0 = x :: l' ∧ VR ρ n v x ∧ VRs ρ n l l' := by
  cases h with
  | cons h hs => exact ⟨_, _, rfl, h, hs⟩
theorem vrs_nil {ρ : Map} {n : Nat} {l0 : List Value} (h : VRs ρ n [] l0) : l0 = [] := by cases h; rfl
theorem vr63 {ρ : Map} {n : Nat} (i : Int) : VR ρ n (.int 63 i) (.int .i64 i) := .int .i64 i
theorem pint_spec : SpecOk Tryz.prog 87 pintG := by
  intro base args st v ρ w args' hg hrel hb hargs
  refine ⟨fn_ok (fn := Tryz.f87) (by kernel_rfl) (by kernel_rfl) (by kernel_rfl), came_flat hrel hb ?_⟩
  match args, hg, hargs with
  | [], hg, _ => exact nomatch hg
  | a :: l, hg, .cons (v' := a') (l' := l0) ha hl =>
    obtain ⟨s, rfl, h1⟩ := onStr_some (show a.onStr none (fun s => bif sameL l [.int 63 10, .int 63 64] && pintC s st then some (pintV s) else none) = some v from hg)
    obtain rfl := ha.str_inv
    obtain ⟨h2, h3⟩ := bif_none h1
    rw [Bool.and_eq_true] at h2
    obtain rfl := sameL_eq h2.1
    obtain rfl := Option.some.inj h3
    obtain ⟨x, l1, rfl, hx, hl⟩ := vrs_cons hl
    obtain ⟨y, l2, rfl, hy, hl⟩ := vrs_cons hl
    obtain rfl := vrs_nil hl
    obtain rfl : x = Value.int .i64 10 := hx.int_at
    obtain rfl : y = Value.int .i64 64 := hy.int_at
    have h4 := h2.2
    unfold pintC at h4
    rw [Bool.and_eq_true, Bool.and_eq_true, lenL_eq] at h4
    have h5 : s.length ≤ 281474976710656 := ble_iff.1 h4.1
    obtain ⟨e1, h6⟩ := hasE_eq h4.2.1
    obtain ⟨e2, h7⟩ := hasE_eq h4.2.2
    obtain ⟨te, pe, h8⟩ := wild_cell hrel h6 (global_lt (by decide))
    obtain ⟨te', pe', h9⟩ := wild_cell hrel h7 (global_lt (by decide))
    unfold pintV
    match hp : Lib.parseIntB 64 s with
    | Lib.NumEnd.ok v =>
      refine (Any.strconv_ParseInt_10_at64_ok laysPInt ⟨⟨s⟩⟩ (by show s.length ≤ _; omega) v hp w).mono fun e w' ⟨he, hw⟩ => ⟨⟨_, he, .tup _ [_, _] (.cons (vr63 _) (.cons .nilIface .nil))⟩, ?_⟩
      rcases hw with rfl | ⟨t, rfl⟩
      · exact Below.refl _ _
      · exact Lib.bytesWorld_below _ _ _
    | Lib.NumEnd.range =>
      exact (Any.strconv_ParseInt_10_at64_range laysPInt ⟨⟨s⟩⟩ (by show s.length ≤ _; omega) hp _ w h9 (.inr ⟨_, _, rfl⟩)).mono fun e w' ⟨N, he, _, _, hw⟩ => ⟨⟨_, he, .tup _ [_, _] (.cons (vr63 _) (.cons (.wild 0 _ _) .nil))⟩, hw⟩
    | Lib.NumEnd.syntax =>
      exact (Any.strconv_ParseInt_10_at64_syntax laysPInt ⟨⟨s⟩⟩ (by show s.length ≤ _; omega) hp _ w h8 (.inr ⟨_, _, rfl⟩)).mono fun e w' ⟨N, he, _, _, hw⟩ => ⟨⟨_, he, .tup _ [_, _] (.cons (vr63 _) (.cons (.wild 0 _ _) .nil))⟩, hw⟩
noncomputable def fintC (i : Int) (st : St) : Bool := !ltI i (.negSucc 9223372036854775807) && (!ltI (.ofNat 9223372036854775807) i && sameTabE tab0 (st.mem.get 0))
noncomputable def fintG (args : List V) (st : St) : Option V :=
  List.rec none (fun a l _ => a.onInt none (fun k i => bif Nat.beq k 63 && (sameL l [.int 63 10] && fintC i st) then some (.str (Lib.itoa i)) else none)) args
theorem pows_eq : tab0 = Lib.pow10Tab.map fun z => V.int (codeK .u64) z := by kernel_rfl
theorem fint_spec : SpecOk Tryz.prog 17 fintG := by
  intro base args st v ρ w args' hg hrel hb hargs
  refine ⟨fn_ok (fn := Tryz.f17) (by kernel_rfl) (by kernel_rfl) (by kernel_rfl), came_flat hrel hb ?_⟩
  match args, hg, hargs with
  | [], hg, _ => exact nomatch hg
  | a :: l, hg, .cons (v' := a') (l' := l0) ha hl =>
    obtain ⟨k, i, rfl, h1⟩ := onInt_some (show a.onInt none (fun k i => bif Nat.beq k 63 && (sameL l [.int 63 10] && fintC i st) then some (V.str (Lib.itoa i)) else none) = some v from hg)
    obtain ⟨h2, h3⟩ := bif_none h1
    rw [Bool.and_eq_true, Bool.and_eq_true] at h2
    obtain rfl := Nat.eq_of_beq_eq_true h2.1
    obtain rfl : a' = Value.int .i64 i := ha.int_at
    obtain rfl := sameL_eq h2.2.1
    obtain rfl := Option.some.inj h3
    obtain ⟨x, l1, rfl, hx, hl⟩ := vrs_cons hl
    obtain rfl := vrs_nil hl
    obtain rfl : x = Value.int .i64 10 := hx.int_at
    have h4 := h2.2.2
    unfold fintC at h4
    rw [Bool.and_eq_true, Bool.and_eq_true, ltI_eq, ltI_eq] at h4
    have h5 := sameTabE_eq h4.2.2
    have h6 : Lib.TabIs Tryz.prog w "internal/strconv.uint64pow10" .u64 Lib.pow10Tab := by
      rw [pows_eq, List.length_map] at h5
      exact tab_is hrel h5 (global_lt (by decide)) (by decide) (by kernel_rfl)
    have h7 : -9223372036854775808 ≤ i := by have := h4.1; simp at this; omega
    have h8 : i ≤ 9223372036854775807 := by have := h4.2.1; simp at this; omega
    exact (Any.strconv_FormatInt_10 laysFInt i h7 h8 w h6).mono fun e w' ⟨he, k, os, hw⟩ => ⟨⟨_, he, .str ⟨⟨_⟩⟩⟩, hw ▸ Lib.below_grow _ w (Nat.le_refl _) k os⟩
noncomputable def tableV : Tr Fs := ((tableA.set 98 (some (.spec validG))).set 87 (some (.spec pintG))).set 17 (some (.spec fintG))
theorem tabV : TableOk Tryz.prog tableV := tableSpec (tableSpec (tableSpec tabA valid_spec) pint_spec) fint_spec
end Go.Proofs.YtnebopkgnkemiaaGreatDoor.Av
