/-
  lex.letter, lex.digit, lex.both: WHAT THEY ANSWER of every rune that may be: known functions.
-/
import Derived.Test.YtnebopkgnkemiaaGreatDoorName
namespace Go.Proofs.YtnebopkgnkemiaaGreatDoor.Av
set_option linter.unusedVariables false
set_option linter.unusedSimpArgs false
set_option maxRecDepth 1000000
open Go
noncomputable def vruneB (r : Nat) : Bool := Nat.blt r 55296 || (Nat.ble 57344 r && Nat.ble r 1114111)
theorem vruneB_iff (r : Nat) : vruneB r = true ↔ VRune r := by
  unfold vruneB VRune
  rw [Bool.or_eq_true, Bool.and_eq_true, blt_iff, ble_iff, ble_iff]
noncomputable def runeG (ok : St → Bool) (p : Nat → Bool) (args : List V) (st : St) : Option V :=
  List.rec none (fun a l _ => a.onInt none (fun k i => Int.rec (fun b => bif Nat.beq k 31 && (vruneB b && ok st) then List.rec (some (.bool (p b))) (fun _ _ _ => none) l else none) (fun _ => none) i)) args
theorem rune_at (ok : St → Bool) (p : Nat → Bool) (b : Nat) (st : St) (h : VRune b) (hs : ok st = true) : runeG ok p [.int 31 (.ofNat b)] st = some (.bool (p b)) := by
  show (bif Nat.beq 31 31 && (vruneB b && ok st) then some (V.bool (p b)) else none) = _
  rw [(vruneB_iff b).2 h, hs]; rfl
theorem rune_some {ok : St → Bool} {p : Nat → Bool} {args : List V} {st : St} {v : V} (h : runeG ok p args st = some v) : ∃ b, args = [.int 31 (.ofNat b)] ∧ VRune b ∧ ok st = true ∧ v = .bool (p b) := by
  match args, h with
  | .int k (.ofNat b) :: l, h1 =>
    have h2 : (bif Nat.beq k 31 && (vruneB b && ok st) then List.rec (some (V.bool (p b))) (fun _ _ _ => none) l else none) = some v := h1
    obtain ⟨h3, h4⟩ := bif_none h2
    rw [Bool.and_eq_true, Bool.and_eq_true] at h3
    obtain rfl := Nat.eq_of_beq_eq_true h3.1
    match l, h4 with
    | [], h4 =>
      obtain rfl := Option.some.inj h4
      exact ⟨b, rfl, (vruneB_iff b).1 h3.2.1, h3.2.2, rfl⟩
theorem get_nameN : tableN.get 85 = some (.spec nameG) := by kernel_rfl
theorem nameN_ev (n : Nat) (s : List UInt8) (st : St) (h : hasU st = true) (hs : s.length ≤ 9223372036854775807) : evF tableN (n + 1) 85 [.str s] st = some (.ret (.bool (isNameL s)), st) := by
  refine ev_spec get_nameN ?_
  show (bif hasU st && Nat.ble (lenL s) 9223372036854775807 then some (V.bool (isNameL s)) else none) = _
  rw [h, lenL_eq, bleT hs]
  rfl
theorem enc_len (r : Nat) (h : VRune r) : (enc r).length ≤ 4 := by
  by_cases h1 : r < 128
  · rw [enc1 h1]; simp
  · exact (enc_big h (by omega)).2.1
theorem get_letter : tableN.get 67 = some sh67 := by kernel_rfl
theorem letter_ev (n r : Nat) (st : St) (h : VRune r) (hU : hasU st = true) : evF tableN (n + 2) 67 [.int 31 (.ofNat r)] st = some (.ret (.bool (letterG r)), st) := by
  have h1 := nameN_ev n (enc r) { next := st.next, low := st.next, mem := st.mem } hU (by have := enc_len r h; omega)
  rw [name_enc h] at h1
  have h2 : (Utf8.encode (Int.ofNat r)).data.toList = enc r := by unfold enc; rw [Int.ofNat_eq_natCast]
  rw [ev_mk get_letter]
  simp only [c67_0, c67_1, yX, iInt, iStr, iLenS, iLenL, iNot, iPick, iExt, if_true, if_false, reduceIte, Nat.reduceEqDiff, Nat.reduceAdd, reduceCtorEq, yQ, iCvis, h2, h1]
  exact leave_ret (v := .bool _) (by simp only [yX, iInt, iStr, iLenS, iLenL, iNot, iPick, iExt, if_true, if_false, reduceIte, Nat.reduceEqDiff, Nat.reduceAdd, reduceCtorEq]) (Nat.le_refl _) rfl
theorem letter_spec : SpecOk Tryz.prog 67 (runeG hasU letterG) := by
  refine spec_of mixed tabN get_letter (mem := memU) (G := 11) globals.symm (fun g b hb => memU_lt g b hb) fun args st v h => ?_
  obtain ⟨r, rfl, h1, h2, rfl⟩ := rune_some h
  exact ⟨hasU_tabs h2, rfl, rfl, 0 + 2, stU, letter_ev 0 r stU h1 hasU_stU⟩
noncomputable def stE0 : St := { next := 11, low := 11, mem := Tr.leaf }
def decs : List UInt8 := [48, 49, 50, 51, 52, 53, 54, 55, 56, 57]
theorem get_digit : tableN.get 69 = some sh69 := by kernel_rfl
theorem get_crune : tableN.get 83 = some sh83 := by kernel_rfl
theorem get_irune : tableN.get 96 = some sh96 := by kernel_rfl
theorem get_vrune : tableN.get 106 = some sh106 := by kernel_rfl
theorem get_ibyte : tableN.get 105 = some sh105 := by kernel_rfl
theorem get_ibyte2 : tableN.get 119 = some sh119 := by kernel_rfl
theorem get_ibs : tableN.get 126 = some (.ext 0) := by kernel_rfl
noncomputable def eqBool (a b : Bool) : Bool := Bool.rec (Bool.rec true false b) b a
noncomputable def saysB (b : Bool) (x : Option (CR × St)) : Bool := match x with
  | some (.ret (.bool c), _) => eqBool b c
  | _ => false
theorem saysB_eq {b : Bool} {x : Option (CR × St)} (h : saysB b x = true) : ∃ st', x = some (.ret (.bool b), st') := by
  unfold saysB at h
  split at h
  · rename_i c st'
    refine ⟨st', ?_⟩
    cases b <;> cases c <;> first | rfl | exact nomatch h
  · exact nomatch h
theorem digits_known : ((65533 :: List.range 128).all fun b => saysB (digitG b) (evF tableN 1000 69 [.int 31 (.ofNat b)] stE0)) = true := by kernel_rfl
theorem idxL_none {c : UInt8} : ∀ {s : List UInt8} {i : Nat}, (∀ b ∈ s, b ≠ c) → idxL c s i = .negSucc 0
  | [], i, _ => rfl
  | b :: s, i, h => by
    show (bif eqB b c then Int.ofNat i else idxL c s (i + 1)) = _
    rw [eqB_iff, decide_eq_false (h b (List.mem_cons_self ..))]
    exact idxL_none (fun x hx => h x (List.mem_cons_of_mem _ hx))
theorem ibs_ev (n : Nat) (s : List UInt8) (c : UInt8) (st : St) (h : ∀ b ∈ s, b ≠ c) : evF tableN (n + 1) 126 [.str s, .int 8 (.ofNat c.toNat)] st = some (.ret (.int 63 (.negSucc 0)), st) := by
  refine ev_ext get_ibs ?_
  show some (V.int 63 (idxL (Int.ofNat c.toNat).toNat.toUInt8 s 0)) = _
  rw [show (Int.ofNat c.toNat).toNat.toUInt8 = c by simp, idxL_none h]
theorem ib_ev (n : Nat) (s : List UInt8) (c : UInt8) (st : St) (h : ∀ b ∈ s, b ≠ c) : evF tableN (n + 3) 105 [.str s, .int 8 (.ofNat c.toNat)] st = some (.ret (.int 63 (.negSucc 0)), st) := by
  have h2 : ∀ st : St, evF tableN (n + 2) 119 [.str s, .int 8 (.ofNat c.toNat)] st = some (.ret (.int 63 (.negSucc 0)), st) := fun st => by
    have h1 := ibs_ev n s c { next := st.next, low := st.next, mem := st.mem } h
    rw [ev_mk get_ibyte2]
    simp only [c119_0, c119_1, yX, iInt, iStr, iLenS, iLenL, iNot, iPick, iExt, if_true, if_false, reduceIte, Nat.reduceEqDiff, Nat.reduceAdd, reduceCtorEq, yQ, h1]
    exact leave_ret (v := .int 63 _) (by simp only [yX, iInt, iStr, iLenS, iLenL, iNot, iPick, iExt, if_true, if_false, reduceIte, Nat.reduceEqDiff, Nat.reduceAdd, reduceCtorEq]) (Nat.le_refl _) rfl
  rw [ev_mk get_ibyte]
  simp only [c105_0, c105_1, yX, iInt, iStr, iLenS, iLenL, iNot, iPick, iExt, if_true, if_false, reduceIte, Nat.reduceEqDiff, Nat.reduceAdd, reduceCtorEq, yQ, h2]
  exact leave_ret (v := .int 63 _) (by simp only [yX, iInt, iStr, iLenS, iLenL, iNot, iPick, iExt, if_true, if_false, reduceIte, Nat.reduceEqDiff, Nat.reduceAdd, reduceCtorEq]) (Nat.le_refl _) rfl
theorem vrune_ev (n r : Nat) (st : St) (h : VRune r) : evF tableN (n + 1) 106 [.int 31 (.ofNat r)] st = some (.ret (.bool true), st) := by
  have h0 : ltI (Int.ofNat r) 0 = false := by rw [show (0 : Int) = Int.ofNat 0 from rfl, ltI_cast]; exact decide_eq_false (Nat.not_lt_zero _)
  have h1 : ltI (Int.ofNat r) 55296 = decide (r < 55296) := ltI_cast r 55296
  have h2 : ltI 57343 (Int.ofNat r) = decide (57343 < r) := ltI_cast 57343 r
  have h3 : ltI 1114111 (Int.ofNat r) = decide (1114111 < r) := ltI_cast 1114111 r
  rw [ev_mk get_vrune]
  by_cases hr : r < 55296
  · rw [decide_eq_true hr] at h1
    simp only [c106_0, c106_1, yY, iInt, iStr, iLenS, iLenL, iNot, iPick, iExt, if_true, if_false, reduceIte, Nat.reduceEqDiff, Nat.reduceAdd, reduceCtorEq, yQ, fLeq, fLss, h0, h1, iPick]
    exact leave_ret (v := .bool true) (by simp only [yX, iInt, iStr, iLenS, iLenL, iNot, iPick, iExt, if_true, if_false, reduceIte, Nat.reduceEqDiff, Nat.reduceAdd, reduceCtorEq]) (Nat.le_refl _) rfl
  · rw [decide_eq_false hr] at h1
    rw [decide_eq_true (by unfold VRune at h; omega)] at h2
    rw [decide_eq_false (by unfold VRune at h; omega)] at h3
    simp only [c106_0, c106_1, yY, iInt, iStr, iLenS, iLenL, iNot, iPick, iExt, if_true, if_false, reduceIte, Nat.reduceEqDiff, Nat.reduceAdd, reduceCtorEq, yQ, fLeq, fLss, h0, h1, h2, h3, iPick]
    exact leave_ret (v := .bool true) (by simp only [yX, iInt, iStr, iLenS, iLenL, iNot, iPick, iExt, if_true, if_false, reduceIte, Nat.reduceEqDiff, Nat.reduceAdd, reduceCtorEq]) (Nat.le_refl _) rfl
section
variable {n last r : Nat} {bs : List UInt8} {b c : UInt8} {st : St}
theorem irune_big (hv : VRune r) (h0 : 128 ≤ r) (h1 : r ≠ 65533) (he : enc r = bs) (hlen : bs.length = last + 1) (h3 : 1 ≤ last ∧ last ≤ 3) (hb : nth bs last = some b) (hb8 : 128 ≤ b.toNat) (hc : nth decs last = some c) (hc8 : c.toNat < 128) :
    evF tableN (n + 4) 96 [.str decs, .int 31 (.ofNat r)] st = some (.ret (.int 63 (.negSucc 0)), st) := by
  have a1 : ltI (Int.ofNat r) 0 = false := by rw [show (0 : Int) = Int.ofNat 0 from rfl, ltI_cast]; exact decide_eq_false (Nat.not_lt_zero _)
  have a2 : ltI (Int.ofNat r) 128 = false := by rw [l128, bleT h0]; rfl
  have a3 : eqI (Int.ofNat r) 65533 = false := beqF h1
  have a4 := vrune_ev (n + 2) r { next := st.next, low := st.next, mem := st.mem } hv
  have a5 : (Utf8.encode (Int.ofNat r)).data.toList = bs := by rw [← he]; unfold enc; rw [Int.ofNat_eq_natCast]
  have a6 : wrapC 63 (Int.sub (Int.ofNat bs.length) 1) = Int.ofNat last := by
    rw [hlen]
    show wrapC 63 ((Int.ofNat (last + 1)) - 1) = _
    rw [show (Int.ofNat (last + 1)) - 1 = Int.ofNat last by simp]
    exact wrap63 (by omega)
  have a7 : ltI (Int.ofNat last) (Int.ofNat decs.length) = true := by rw [ltI_cast]; exact decide_eq_true (by show last < 10; omega)
  have a8 : eqI (Int.ofNat c.toNat) (Int.ofNat b.toNat) = false := beqF (by omega)
  have a9 : wrapC 63 (Int.add (Int.ofNat last) 1) = Int.ofNat (last + 1) := wrap63 (i := last + 1) (by omega)
  have a10 : Nat.ble (last + 1) decs.length = true := bleT (by show last + 1 ≤ 10; omega)
  have a11 : Nat.ble decs.length decs.length = true := bleT (Nat.le_refl _)
  have a12 := ib_ev n (dropL (takeL decs decs.length) (last + 1)) b { next := st.next, low := st.next, mem := st.mem } (fun x hx e => by
    subst e
    rw [dropL_eq, takeL_eq] at hx
    have : x ∈ decs := List.mem_of_mem_take (List.mem_of_mem_drop hx)
    have : x.toNat < 128 := by
      unfold decs at this
      simp only [List.mem_cons, List.not_mem_nil, or_false] at this
      rcases this with rfl | rfl | rfl | rfl | rfl | rfl | rfl | rfl | rfl | rfl <;> decide
    omega)
  have a13 : ltI (.negSucc 0) 0 = true := rfl
  rw [ev_mk get_irune]
  simp only [c96_0, c96_1, yY, iInt, iStr, iLenS, iLenL, iNot, iPick, iExt, if_true, if_false, reduceIte, Nat.reduceEqDiff, Nat.reduceAdd, reduceCtorEq, yQ, fLeq, fLss, fEql, a1, a2, a3, iPick, a4, iCvis, a5, x_lenS, fSub, a6, x_loop1]
  simp only [b96_2, yY, iInt, iStr, iLenS, iLenL, iNot, iPick, iExt, if_true, if_false, reduceIte, Nat.reduceEqDiff, Nat.reduceAdd, reduceCtorEq, yD, yQ, x_lenS, fLss, a7, iIxs, x_onNat, hb, hc, fNeq, a8, Bool.not_false, fAdd, a9, iSls, optN, a10, a11, Bool.and_self, cond_true, a12, a13]
  exact leave_ret (v := .int 63 _) (by simp only [yX, iInt, iStr, iLenS, iLenL, iNot, iPick, iExt, if_true, if_false, reduceIte, Nat.reduceEqDiff, Nat.reduceAdd, reduceCtorEq]; rfl) (Nat.le_refl _) rfl
end
theorem digitG_big {r : Nat} (h : 128 ≤ r) : digitG r = false := by
  unfold digitG
  rw [bleF (show ¬ r ≤ 57 by omega), Bool.and_false]
theorem digit_big {r : Nat} (hv : VRune r) (h0 : 128 ≤ r) (h1 : r ≠ 65533) (n : Nat) (st : St) : evF tableN (n + 6) 69 [.int 31 (.ofNat r)] st = some (.ret (.bool false), st) := by
  have key : ∀ st : St, evF tableN (n + 4) 96 [.str decs, .int 31 (.ofNat r)] st = some (.ret (.int 63 (.negSucc 0)), st) := fun st => by
    have hb : ∀ k, k < 64 → 128 ≤ (UInt8.ofNat (128 + k)).toNat := fun k hk => by rw [ofNat_toNat (by omega)]; omega
    rcases hv.cases with h | ⟨g0, h⟩ | ⟨g0, h⟩ | ⟨g0, h⟩
    · omega
    · exact irune_big hv h0 h1 (enc2 g0 h) (last := 1) (c := 49) rfl (by omega) rfl (hb _ (by omega)) rfl (by decide)
    · exact irune_big hv h0 h1 (enc3 hv g0 h) (last := 2) (c := 50) rfl (by omega) rfl (hb _ (by omega)) rfl (by decide)
    · exact irune_big hv h0 h1 (enc4 hv g0) (last := 3) (c := 51) rfl (by omega) rfl (hb _ (by omega)) rfl (by decide)
  have a13 : ltI (.negSucc 0) 0 = true := rfl
  have key2 : ∀ st : St, evF tableN (n + 5) 83 [.str decs, .int 31 (.ofNat r)] st = some (.ret (.bool false), st) := fun st => by
    rw [ev_mk get_crune]
    simp only [c83_0, c83_1, yX, iInt, iStr, iLenS, iLenL, iNot, iPick, iExt, if_true, if_false, reduceIte, Nat.reduceEqDiff, Nat.reduceAdd, reduceCtorEq, yQ, key, fGeq, a13]
    exact leave_ret (v := .bool _) (by simp only [yX, iInt, iStr, iLenS, iLenL, iNot, iPick, iExt, if_true, if_false, reduceIte, Nat.reduceEqDiff, Nat.reduceAdd, reduceCtorEq]) (Nat.le_refl _) rfl
  have hd : ([48, 49, 50, 51, 52, 53, 54, 55, 56, 57] : List UInt8) = decs := rfl
  rw [ev_mk get_digit]
  simp only [c69_0, c69_1, yX, iInt, iStr, iLenS, iLenL, iNot, iPick, iExt, if_true, if_false, reduceIte, Nat.reduceEqDiff, Nat.reduceAdd, reduceCtorEq, yQ, hd, key2]
  exact leave_ret (v := .bool _) (by simp only [yX, iInt, iStr, iLenS, iLenL, iNot, iPick, iExt, if_true, if_false, reduceIte, Nat.reduceEqDiff, Nat.reduceAdd, reduceCtorEq]) (Nat.le_refl _) rfl
theorem digit_spec : SpecOk Tryz.prog 69 (runeG (fun _ => true) digitG) := by
  refine spec_of mixed tabN get_digit (mem := Tr.leaf) (G := 11) globals.symm (fun g b hb => by rw [get_leaf] at hb; exact nomatch hb) fun args st v h => ?_
  obtain ⟨r, rfl, h1, _, rfl⟩ := rune_some h
  refine ⟨fun g b hb => (by rw [get_leaf] at hb; exact (nomatch hb)), rfl, rfl, ?_⟩
  by_cases hr : r < 128 ∨ r = 65533
  · have hm : r ∈ (65533 :: List.range 128) := by
      rcases hr with hr | rfl
      · exact List.mem_cons_of_mem _ (List.mem_range.2 hr)
      · exact List.mem_cons_self ..
    obtain ⟨st', h5⟩ := saysB_eq (List.all_eq_true.1 digits_known r hm)
    exact ⟨1000, st', h5⟩
  · rw [digitG_big (by omega)]
    exact ⟨0 + 6, stE0, digit_big h1 (by omega) (by omega) 0 stE0⟩
noncomputable def tableR : Tr Fs := (tableN.set 67 (some (.spec (runeG hasU letterG)))).set 69 (some (.spec (runeG (fun _ => true) digitG)))
theorem tabR : TableOk Tryz.prog tableR := tableSpec (tableSpec tabN letter_spec) digit_spec
theorem get_letterR : tableR.get 67 = some (.spec (runeG hasU letterG)) := by kernel_rfl
theorem get_digitR : tableR.get 69 = some (.spec (runeG (fun _ => true) digitG)) := by kernel_rfl
theorem get_both : tableR.get 86 = some sh86 := by kernel_rfl
theorem both_ev (n r : Nat) (st : St) (h : VRune r) (hU : hasU st = true) : evF tableR (n + 2) 86 [.int 31 (.ofNat r)] st = some (.ret (.bool (bothG r)), st) := by
  have h1 : evF tableR (n + 1) 67 [.int 31 (.ofNat r)] { next := st.next, low := st.next, mem := st.mem } = some (.ret (.bool (letterG r)), _) := ev_spec get_letterR (rune_at hasU letterG r _ h hU)
  have h2 : evF tableR (n + 1) 69 [.int 31 (.ofNat r)] { next := st.next, low := st.next, mem := st.mem } = some (.ret (.bool (digitG r)), _) := ev_spec get_digitR (rune_at _ digitG r _ h rfl)
  rw [ev_mk get_both]
  unfold bothG
  cases hb : letterG r with
  | true =>
    rw [hb] at h1
    simp only [c86_0, c86_1, yY, iInt, iStr, iLenS, iLenL, iNot, iPick, iExt, if_true, if_false, reduceIte, Nat.reduceEqDiff, Nat.reduceAdd, reduceCtorEq, yQ, h1, iPick, Bool.true_or]
    exact leave_ret (v := .bool _) (by simp only [yX, iInt, iStr, iLenS, iLenL, iNot, iPick, iExt, if_true, if_false, reduceIte, Nat.reduceEqDiff, Nat.reduceAdd, reduceCtorEq]) (Nat.le_refl _) rfl
  | false =>
    rw [hb] at h1
    simp only [c86_0, c86_1, yY, iInt, iStr, iLenS, iLenL, iNot, iPick, iExt, if_true, if_false, reduceIte, Nat.reduceEqDiff, Nat.reduceAdd, reduceCtorEq, yQ, h1, h2, iPick, Bool.false_or]
    exact leave_ret (v := .bool _) (by simp only [yX, iInt, iStr, iLenS, iLenL, iNot, iPick, iExt, if_true, if_false, reduceIte, Nat.reduceEqDiff, Nat.reduceAdd, reduceCtorEq]) (Nat.le_refl _) rfl
theorem both_spec : SpecOk Tryz.prog 86 (runeG hasU bothG) := by
  refine spec_of mixed tabR get_both (mem := memU) (G := 11) globals.symm (fun g b hb => memU_lt g b hb) fun args st v h => ?_
  obtain ⟨r, rfl, h1, h2, rfl⟩ := rune_some h
  exact ⟨hasU_tabs h2, rfl, rfl, 0 + 2, stU, both_ev 0 r stU h1 hasU_stU⟩
noncomputable def tableF : Tr Fs := tableR.set 86 (some (.spec (runeG hasU bothG)))
theorem tabF : TableOk Tryz.prog tableF := tableSpec tabR both_spec
end Go.Proofs.YtnebopkgnkemiaaGreatDoor.Av
