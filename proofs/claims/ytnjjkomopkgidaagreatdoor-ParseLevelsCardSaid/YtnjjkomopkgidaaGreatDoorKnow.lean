/-
  KNOWN FUNCTIONS, one by one: strings.Join, strings.TrimLeft, expr.Level (of the signs), lex.letter, lex.digit, lex.both (of a rune below 128).
-/
import Derived.Test.YtnjjkomopkgidaaGreatDoorTrim
namespace Go.Proofs.YtnjjkomopkgidaaGreatDoor.Av
set_option linter.unusedVariables false
set_option linter.unusedSimpArgs false
set_option maxRecDepth 1000000
open Go
noncomputable def tableJ : Tr Fs := tableA.set 44 (some (.spec joinG))
theorem tabJ : TableOk Tryz.prog tableJ := tableSpec tabA join_spec
noncomputable def trimG (args : List V) (_ : St) : Option V :=
  List.rec none (fun a l _ => List.rec none (fun b l2 _ => a.onStr none (fun s => b.onStr none (fun c => List.rec (bif eqS c cut then some (.str (dropSp s)) else none) (fun _ _ _ => none) l2))) l) args
theorem trim_spec : SpecOk Tryz.prog 78 trimG := by
  refine spec_of mixed tab get_trim (mem := Tr.leaf) (G := 11) globals.symm (fun g b hb => by rw [get_leaf] at hb; exact nomatch hb) fun args st v h => ?_
  match args, h with
  | [], h => exact nomatch h
  | [a], h => exact nomatch h
  | a :: b :: d :: l, h =>
    obtain ⟨s, rfl, h1⟩ := onStr_some (show a.onStr none (fun s => b.onStr none (fun c => (none : Option V))) = some v from h)
    obtain ⟨c, rfl, h2⟩ := onStr_some h1
    exact nomatch h2
  | [a, b], h =>
    obtain ⟨s, rfl, h1⟩ := onStr_some (show a.onStr none (fun s => b.onStr none (fun c => bif eqS c cut then some (V.str (dropSp s)) else none)) = some v from h)
    obtain ⟨c, rfl, h2⟩ := onStr_some h1
    obtain ⟨h2, h3⟩ := bif_none h2
    rw [eqS_eq] at h2
    obtain rfl := of_decide_eq_true h2
    obtain rfl := Option.some.inj h3
    exact ⟨fun g b hb => (by rw [get_leaf] at hb; exact (nomatch hb)), by rfl, by rfl, 0 + s.length + 1000, _, trim_ev s 0⟩
noncomputable def tableT : Tr Fs := tableJ.set 78 (some (.spec trimG))
theorem tabT : TableOk Tryz.prog tableT := tableSpec tabJ trim_spec
/-- What is known of a few texts. -/
noncomputable def look {α : Type} (s : List UInt8) : List (List UInt8 × α) → Option α := List.rec none (fun p _ ih => Prod.rec (fun t b => bif eqS s t then some b else ih) p)
theorem look_mem {α : Type} {s : List UInt8} {b : α} : ∀ {l : List (List UInt8 × α)}, look s l = some b → (s, b) ∈ l
  | [], h => nomatch h
  | (t, c) :: l, h => by
    have h' : (bif eqS s t then some c else look s l) = some b := h
    by_cases e : s = t
    · rw [eqS_eq, decide_eq_true e] at h'
      obtain rfl := Option.some.inj h'
      subst e
      exact List.mem_cons_self ..
    · rw [eqS_eq, decide_eq_false e] at h'
      exact List.mem_cons_of_mem _ (look_mem h')
noncomputable def saysI (b : Nat) (x : Option (CR × St)) : Bool := match x with
  | some (.ret (.int 63 (.ofNat c)), _) => Nat.beq b c
  | _ => false
theorem saysI_eq {b : Nat} {x : Option (CR × St)} (h : saysI b x = true) : ∃ st', x = some (.ret (.int 63 (.ofNat b)), st') := by
  unfold saysI at h
  split at h
  · rename_i c st'
    obtain rfl := Nat.eq_of_beq_eq_true h
    exact ⟨st', rfl⟩
  · exact nomatch h
def levs : List (List UInt8 × Nat) := [([124, 124], 1), ([38, 38], 2), ([61, 61], 3), ([33, 61], 3), ([60], 4), ([60, 61], 4), ([62], 4), ([62, 61], 4), ([43], 5), ([45], 5), ([42], 6), ([47], 6), ([37], 6), ([59], 0), ([33], 0), ([124], 0), ([40], 0), ([41], 0), ([123], 0), ([125], 0), ([44], 0), ([91], 0), ([93], 0), ([46], 0)]
noncomputable def levG (args : List V) (_ : St) : Option V := List.rec none (fun a l _ => a.onStr none (fun s => List.rec (Option.rec none (fun b => some (.int 63 (.ofNat b))) (look s levs)) (fun _ _ _ => none) l)) args
theorem levs_known : (levs.all fun p => saysI p.2 (evF tableT 1000 77 [.str p.1] stL)) = true := by kernel_rfl
theorem get_lev : tableT.get 77 = some sh77 := by kernel_rfl
theorem lev_spec : SpecOk Tryz.prog 77 levG := by
  refine spec_of mixed tabT get_lev (mem := Tr.leaf) (G := 11) globals.symm (fun g b hb => by rw [get_leaf] at hb; exact nomatch hb) fun args st v h => ?_
  match args, h with
  | [.str s], h =>
    have h1 : Option.rec none (fun b => some (V.int 63 (Int.ofNat b))) (look s levs) = some v := h
    cases hl : look s levs with
    | none => rw [hl] at h1; exact nomatch h1
    | some b =>
      rw [hl] at h1
      obtain rfl := Option.some.inj h1
      obtain ⟨st', h2⟩ := saysI_eq (List.all_eq_true.1 levs_known (s, b) (look_mem hl))
      exact ⟨fun g b hb => (by rw [get_leaf] at hb; exact (nomatch hb)), by rfl, by rfl, 1000, st', h2⟩
noncomputable def tableC : Tr Fs := tableT.set 77 (some (.spec levG))
theorem tabC : TableOk Tryz.prog tableC := tableSpec tabT lev_spec
noncomputable def eqBool (a b : Bool) : Bool := Bool.rec (Bool.rec true false b) b a
noncomputable def saysB (b : Bool) (x : Option (CR × St)) : Bool := match x with
  | some (.ret (.bool c), _) => eqBool b c
  | _ => false
theorem saysB_eq {b : Bool} {x : Option (CR × St)} (h : saysB b x = true) : ∃ st', x = some (.ret (.bool b), st') := by
  unfold saysB at h
  split at h
  · rename_i c st'
    refine ⟨st', ?_⟩
    cases b <;> cases c <;> first | rfl | exact nomatch h
  · exact nomatch h
/-- What is known of one rune. -/
noncomputable def runeG (p : Nat → Bool) (args : List V) (_ : St) : Option V :=
  List.rec none (fun a l _ => a.onInt none (fun k i => Int.rec (fun b => bif Nat.beq k 31 && Nat.blt b 128 then List.rec (some (.bool (p b))) (fun _ _ _ => none) l else none) (fun _ => none) i)) args
theorem rune_at (p : Nat → Bool) (b : Nat) (st : St) (h : b < 128) : runeG p [.int 31 (.ofNat b)] st = some (.bool (p b)) := by
  show (bif Nat.beq 31 31 && Nat.blt b 128 then some (V.bool (p b)) else none) = _
  rw [blt_iff.2 h]; rfl
theorem rune_spec {fns : Tr Fs} (htab : TableOk Tryz.prog fns) {f : Nat} {rs : List RV} {c : CEv} (hf : fns.get f = some (.mk rs c)) {p : Nat → Bool} {n : Nat}
    (h : ((List.range 128).all fun b => saysB (p b) (evF fns n f [.int 31 (.ofNat b)] stL)) = true) : SpecOk Tryz.prog f (runeG p) := by
  refine spec_of mixed htab hf (mem := Tr.leaf) (G := 11) globals.symm (fun g b hb => by rw [get_leaf] at hb; exact nomatch hb) fun args st v h1 => ?_
  match args, h1 with
  | .int k (.ofNat b) :: l, h1 =>
    have h2 : (bif Nat.beq k 31 && Nat.blt b 128 then List.rec (some (V.bool (p b))) (fun _ _ _ => none) l else none) = some v := h1
    obtain ⟨h3, h4⟩ := bif_none h2
    rw [Bool.and_eq_true] at h3
    obtain rfl := Nat.eq_of_beq_eq_true h3.1
    have hb : b < 128 := blt_iff.1 h3.2
    match l, h4 with
    | [], h4 =>
      obtain rfl := Option.some.inj h4
      obtain ⟨st', h5⟩ := saysB_eq (List.all_eq_true.1 h b (List.mem_range.2 hb))
      exact ⟨fun g b hb => (by rw [get_leaf] at hb; exact (nomatch hb)), by rfl, by rfl, n, st', h5⟩
noncomputable def letterB (b : Nat) : Bool := Nat.ble 97 b && Nat.ble b 122 || Nat.ble 65 b && Nat.ble b 90 || Nat.beq b 95
noncomputable def digitB (b : Nat) : Bool := Nat.ble 48 b && Nat.ble b 57
noncomputable def bothB (b : Nat) : Bool := letterB b || digitB b
theorem get_letter : tableC.get 118 = some sh118 := by kernel_rfl
theorem letter_spec : SpecOk Tryz.prog 118 (runeG letterB) := rune_spec tabC get_letter (n := 1000) (by kernel_rfl)
noncomputable def tableD : Tr Fs := tableC.set 118 (some (.spec (runeG letterB)))
theorem tabD : TableOk Tryz.prog tableD := tableSpec tabC letter_spec
theorem get_digit : tableD.get 120 = some sh120 := by kernel_rfl
theorem digit_spec : SpecOk Tryz.prog 120 (runeG digitB) := rune_spec tabD get_digit (n := 1000) (by kernel_rfl)
noncomputable def tableE : Tr Fs := tableD.set 120 (some (.spec (runeG digitB)))
theorem tabE : TableOk Tryz.prog tableE := tableSpec tabD digit_spec
theorem get_both : tableE.get 144 = some sh144 := by kernel_rfl
theorem both_spec : SpecOk Tryz.prog 144 (runeG bothB) := rune_spec tabE get_both (n := 1000) (by kernel_rfl)
noncomputable def tableF : Tr Fs := tableE.set 144 (some (.spec (runeG bothB)))
theorem tabF : TableOk Tryz.prog tableF := tableSpec tabE both_spec
end Go.Proofs.YtnjjkomopkgidaaGreatDoor.Av
