/-
  KNOWN FUNCTIONS, one by one: strings.Join, strings.TrimLeft, expr.Level (of the signs), lex.letter, lex.digit, lex.both (of a rune below 128).
-/
import Derived.Test.YtnccejmggcjaoaaGreatDoorTrim
import Derived.Test.YtnccejmggcjaoaaGreatDoorLib
namespace Go.Proofs.YtnccejmggcjaoaaGreatDoor.Av
set_option linter.unusedVariables false
set_option linter.unusedSimpArgs false
set_option maxRecDepth 1000000
open Go
noncomputable def tableJ : Tr Fs := tableA.set 68 (some (.spec joinG))
theorem tabJ : TableOk Tryz.prog tableJ := tableSpec tabA join_spec
noncomputable def tableT : Tr Fs := tableJ.set 164 (some (.spec trimG))
theorem tabT : TableOk Tryz.prog tableT := tableSpec tabJ trim_spec
noncomputable def look {α : Type} (s : List UInt8) : List (List UInt8 × α) → Option α := List.rec none (fun p _ ih => Prod.rec (fun t b => bif eqS s t then some b else ih) p)
theorem look_mem {α : Type} {s : List UInt8} {b : α} : ∀ {l : List (List UInt8 × α)}, look s l = some b → (s, b) ∈ l
  | [], h => nomatch h
  | (t, c) :: l, h => by
    have h' : (bif eqS s t then some c else look s l) = some b := h
    by_cases e : s = t
    · rw [eqS_eq, decide_eq_true e] at h'
      obtain rfl := Option.some.inj h'
      subst e
      exact List.mem_cons_self ..
    · rw [eqS_eq, decide_eq_false e] at h'
      exact List.mem_cons_of_mem _ (look_mem h')
noncomputable def saysI (b : Nat) (x : Option (CR × St)) : Bool := match x with
  | some (.ret (.int 63 (.ofNat c)), _) => Nat.beq b c
  | _ => false
theorem saysI_eq {b : Nat} {x : Option (CR × St)} (h : saysI b x = true) : ∃ st', x = some (.ret (.int 63 (.ofNat b)), st') := by
  unfold saysI at h
  split at h
  · rename_i c st'
    obtain rfl := Nat.eq_of_beq_eq_true h
    exact ⟨st', rfl⟩
  · exact nomatch h
def levs : List (List UInt8 × Nat) := [([124, 124], 1), ([38, 38], 2), ([61, 61], 3), ([33, 61], 3), ([60], 4), ([60, 61], 4), ([62], 4), ([62, 61], 4), ([43], 5), ([45], 5), ([42], 6), ([47], 6), ([37], 6), ([59], 0), ([33], 0), ([124], 0), ([40], 0), ([41], 0), ([123], 0), ([125], 0), ([44], 0), ([91], 0), ([93], 0), ([46], 0)]
noncomputable def levG (args : List V) (_ : St) : Option V := List.rec none (fun a l _ => a.onStr none (fun s => List.rec (Option.rec none (fun b => some (.int 63 (.ofNat b))) (look s levs)) (fun _ _ _ => none) l)) args
theorem levs_known : (levs.all fun p => saysI p.2 (evF tableT 1000 124 [.str p.1] stTr)) = true := by kernel_rfl
theorem get_lev : tableT.get 124 = some sh124 := by kernel_rfl
theorem lev_spec : SpecOk Tryz.prog 124 levG := by
  refine spec_of mixed tabT get_lev (mem := Tr.leaf) (G := 11) globals.symm (fun g b hb => by rw [get_leaf] at hb; exact nomatch hb) fun args st v h => ?_
  match args, h with
  | [.str s], h =>
    have h1 : Option.rec none (fun b => some (V.int 63 (Int.ofNat b))) (look s levs) = some v := h
    cases hl : look s levs with
    | none => rw [hl] at h1; exact nomatch h1
    | some b =>
      rw [hl] at h1
      obtain rfl := Option.some.inj h1
      obtain ⟨st', h2⟩ := saysI_eq (List.all_eq_true.1 levs_known (s, b) (look_mem hl))
      exact ⟨fun g b hb => (by rw [get_leaf] at hb; exact (nomatch hb)), by rfl, by rfl, 1000, st', h2⟩
noncomputable def tableC : Tr Fs := tableT.set 124 (some (.spec levG))
theorem tabC : TableOk Tryz.prog tableC := tableSpec tabT lev_spec
noncomputable def eqBool (a b : Bool) : Bool := Bool.rec (Bool.rec true false b) b a
noncomputable def saysB (b : Bool) (x : Option (CR × St)) : Bool := match x with
  | some (.ret (.bool c), _) => eqBool b c
  | _ => false
theorem saysB_eq {b : Bool} {x : Option (CR × St)} (h : saysB b x = true) : ∃ st', x = some (.ret (.bool b), st') := by
  unfold saysB at h
  split at h
  · rename_i c st'
    refine ⟨st', ?_⟩
    cases b <;> cases c <;> first | rfl | exact nomatch h
  · exact nomatch h
noncomputable def runeG (p : Nat → Bool) (args : List V) (_ : St) : Option V :=
  List.rec none (fun a l _ => a.onInt none (fun k i => Int.rec (fun b => bif Nat.beq k 31 && Nat.blt b 128 then List.rec (some (.bool (p b))) (fun _ _ _ => none) l else none) (fun _ => none) i)) args
theorem rune_at (p : Nat → Bool) (b : Nat) (st : St) (h : b < 128) : runeG p [.int 31 (.ofNat b)] st = some (.bool (p b)) := by
  show (bif Nat.beq 31 31 && Nat.blt b 128 then some (V.bool (p b)) else none) = _
  rw [blt_iff.2 h]; rfl
theorem rune_spec {fns : Tr Fs} (htab : TableOk Tryz.prog fns) {f : Nat} {rs : List RV} {c : CEv} (hf : fns.get f = some (.mk rs c)) {p : Nat → Bool} {n : Nat}
    (h : ((List.range 128).all fun b => saysB (p b) (evF fns n f [.int 31 (.ofNat b)] stTr)) = true) : SpecOk Tryz.prog f (runeG p) := by
  refine spec_of mixed htab hf (mem := Tr.leaf) (G := 11) globals.symm (fun g b hb => by rw [get_leaf] at hb; exact nomatch hb) fun args st v h1 => ?_
  match args, h1 with
  | .int k (.ofNat b) :: l, h1 =>
    have h2 : (bif Nat.beq k 31 && Nat.blt b 128 then List.rec (some (V.bool (p b))) (fun _ _ _ => none) l else none) = some v := h1
    obtain ⟨h3, h4⟩ := bif_none h2
    rw [Bool.and_eq_true] at h3
    obtain rfl := Nat.eq_of_beq_eq_true h3.1
    have hb : b < 128 := blt_iff.1 h3.2
    match l, h4 with
    | [], h4 =>
      obtain rfl := Option.some.inj h4
      obtain ⟨st', h5⟩ := saysB_eq (List.all_eq_true.1 h b (List.mem_range.2 hb))
      exact ⟨fun g b hb => (by rw [get_leaf] at hb; exact (nomatch hb)), by rfl, by rfl, n, st', h5⟩
noncomputable def letterB (b : Nat) : Bool := Nat.ble 97 b && Nat.ble b 122 || Nat.ble 65 b && Nat.ble b 90 || Nat.beq b 95
noncomputable def digitB (b : Nat) : Bool := Nat.ble 48 b && Nat.ble b 57
noncomputable def bothB (b : Nat) : Bool := letterB b || digitB b
theorem get_letter : tableC.get 210 = some sh210 := by kernel_rfl
theorem letter_spec : SpecOk Tryz.prog 210 (runeG letterB) := rune_spec tabC get_letter (n := 1000) (by kernel_rfl)
noncomputable def tableD : Tr Fs := tableC.set 210 (some (.spec (runeG letterB)))
theorem tabD : TableOk Tryz.prog tableD := tableSpec tabC letter_spec
theorem get_digit : tableD.get 212 = some sh212 := by kernel_rfl
theorem digit_spec : SpecOk Tryz.prog 212 (runeG digitB) := rune_spec tabD get_digit (n := 1000) (by kernel_rfl)
noncomputable def tableE : Tr Fs := tableD.set 212 (some (.spec (runeG digitB)))
theorem tabE : TableOk Tryz.prog tableE := tableSpec tabD digit_spec
theorem get_both : tableE.get 239 = some sh239 := by kernel_rfl
theorem both_spec : SpecOk Tryz.prog 239 (runeG bothB) := rune_spec tabE get_both (n := 1000) (by kernel_rfl)
noncomputable def tableF : Tr Fs := tableE.set 239 (some (.spec (runeG bothB)))
theorem tabF : TableOk Tryz.prog tableF := tableSpec tabE both_spec
end Go.Proofs.YtnccejmggcjaoaaGreatDoor.Av
