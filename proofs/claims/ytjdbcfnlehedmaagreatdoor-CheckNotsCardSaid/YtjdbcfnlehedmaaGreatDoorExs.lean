/-
  THE CHAPTER's EXAMPLES COME OUT TRUE, evaluated by the kernel; and what a name is, of the few names that the laws use: known functions.
-/
import Derived.Test.YtjdbcfnlehedmaaGreatDoorSign
namespace Go.Proofs.YtjdbcfnlehedmaaGreatDoor.Av
set_option linter.unusedVariables false
set_option linter.unusedSimpArgs false
set_option maxRecDepth 1000000
open Go
/-- What is known of a few texts. -/
noncomputable def look (s : List UInt8) : List (List UInt8 × Bool) → Option Bool := List.rec none (fun p _ ih => Prod.rec (fun t b => bif eqS s t then some b else ih) p)
theorem look_mem {s : List UInt8} {b : Bool} : ∀ {l : List (List UInt8 × Bool)}, look s l = some b → (s, b) ∈ l
  | [], h => nomatch h
  | (t, c) :: l, h => by
    have h' : (bif eqS s t then some c else look s l) = some b := h
    by_cases e : s = t
    · rw [eqS_eq, decide_eq_true e] at h'
      obtain rfl := Option.some.inj h'
      subst e
      exact List.mem_cons_self ..
    · rw [eqS_eq, decide_eq_false e] at h'
      exact List.mem_cons_of_mem _ (look_mem h')
def names : List (List UInt8 × Bool) := [([65], true), ([66], true), ([67], true), ([97], true), ([98], true), ([118], true), ([107], true), ([120], true), ([121], true), ([122], true), ([68], true), ([99], true), ([100], true), ([101], true), ([], false), ([69], true), ([70], true), ([71], true), ([72], true), ([73], true), ([74], true), ([75], true), ([76], true), ([77], true), ([78], true), ([79], true), ([80], true), ([81], true), ([82], true), ([83], true), ([84], true), ([85], true), ([86], true), ([87], true), ([88], true), ([89], true), ([90], true), ([102], true), ([103], true), ([104], true), ([105], true), ([106], true), ([108], true), ([109], true), ([110], true), ([111], true), ([112], true), ([113], true), ([114], true), ([115], true), ([116], true), ([117], true), ([119], true), ([0], false), ([1], false), ([2], false), ([3], false), ([4], false), ([5], false), ([6], false), ([7], false), ([8], false), ([9], false), ([10], false), ([11], false), ([12], false), ([13], false), ([14], false), ([15], false), ([16], false), ([17], false), ([18], false), ([19], false), ([20], false), ([21], false), ([22], false), ([23], false), ([24], false), ([25], false), ([26], false), ([27], false), ([28], false), ([29], false), ([30], false), ([31], false), ([32], false), ([33], false), ([34], false), ([35], false), ([36], false), ([37], false), ([38], false), ([39], false), ([40], false), ([41], false), ([42], false), ([43], false), ([44], false), ([45], false), ([46], false), ([47], false), ([48], false), ([49], false), ([50], false), ([51], false), ([52], false), ([53], false), ([54], false), ([55], false), ([56], false), ([57], false), ([58], false), ([59], false), ([60], false), ([61], false), ([62], false), ([63], false), ([64], false), ([91], false), ([92], false), ([93], false), ([94], false), ([95], true), ([96], false), ([123], false), ([124], false), ([125], false), ([126], false), ([127], false)]
noncomputable def nameG (args : List V) (_ : St) : Option V := List.rec none (fun a l _ => a.onStr none (fun s => List.rec (Option.rec none (fun b => some (.bool b)) (look s names)) (fun _ _ _ => none) l)) args
noncomputable def stL : St := { next := 11, low := 11, mem := Tr.leaf }
noncomputable def eqBool (a b : Bool) : Bool := Bool.rec (Bool.rec true false b) b a
noncomputable def saysB (b : Bool) (x : Option (CR × St)) : Bool := match x with
  | some (.ret (.bool c), _) => eqBool b c
  | _ => false
theorem saysB_eq {b : Bool} {x : Option (CR × St)} (h : saysB b x = true) : ∃ st', x = some (.ret (.bool b), st') := by
  unfold saysB at h
  split at h
  · rename_i c st'
    refine ⟨st', ?_⟩
    cases b <;> cases c <;> first | rfl | exact nomatch h
  · exact nomatch h
theorem names_known : (names.all fun p => saysB p.2 (evF tableA 1000 21 [.str p.1] stL)) = true := by kernel_rfl
theorem name_known (s : List UInt8) (b : Bool) (h : (s, b) ∈ names) : ∃ st', evF tableA 1000 21 [.str s] stL = some (.ret (.bool b), st') := saysB_eq (List.all_eq_true.1 names_known (s, b) h)
theorem get_name : tableA.get 21 = some sh21 := by kernel_rfl
theorem name_spec : SpecOk Tryz.prog 21 nameG := by
  refine spec_of mixed tabA get_name (mem := Tr.leaf) (G := 11) globals.symm (fun g b hb => by rw [get_leaf] at hb; exact nomatch hb) fun args st v h => ?_
  match args, h with
  | [.str s], h =>
    have h1 : Option.rec none (fun b => some (V.bool b)) (look s names) = some v := h
    cases hl : look s names with
    | none => rw [hl] at h1; exact nomatch h1
    | some b =>
      rw [hl] at h1
      obtain rfl := Option.some.inj h1
      obtain ⟨st', h2⟩ := name_known s b (look_mem hl)
      exact ⟨fun g b hb => (by rw [get_leaf] at hb; exact (nomatch hb)), by rfl, by rfl, 1000, st', h2⟩
noncomputable def tableB : Tr Fs := tableA.set 21 (some (.spec nameG))
theorem tabB : TableOk Tryz.prog tableB := tableSpec tabA name_spec
theorem examples_at : evF tableB 1000 6 [] stS = some (.ret (.bool true), stS) := by kernel_rfl
noncomputable def exG (args : List V) (st : St) : Option V := List.rec (bif sameTab tab2 (st.mem.get 2) then some (.bool true) else none) (fun _ _ _ => none) args
theorem get_ex : tableB.get 6 = some sh6 := by kernel_rfl
theorem ex_spec : SpecOk Tryz.prog 6 exG := by
  refine spec_of mixed tabB get_ex (mem := memS) (G := 11) globals.symm (fun g b hb => by rw [(memS_get hb).1]; decide) fun args st v h => ?_
  match args, h with
  | [], h =>
    obtain ⟨h1, h2⟩ := bif_none (show (bif sameTab tab2 (st.mem.get 2) then some (V.bool true) else none) = some v from h)
    obtain rfl := Option.some.inj h2
    exact ⟨hasS h1, rfl, rfl, 1000, stS, examples_at⟩
noncomputable def tableC : Tr Fs := tableB.set 6 (some (.spec exG))
theorem tabC : TableOk Tryz.prog tableC := tableSpec tabB ex_spec
end Go.Proofs.YtjdbcfnlehedmaaGreatDoor.Av
