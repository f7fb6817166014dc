/-
  lex.letter, lex.digit, lex.both: WHAT THEY ANSWER of every rune that may be: known functions.
-/
import Derived.Test.YtnjjkomopkgidaaDoorName
namespace Go.Proofs.YtnjjkomopkgidaaDoor.Av
set_option linter.unusedVariables false
set_option linter.unusedSimpArgs false
set_option maxRecDepth 1000000
open Go

/-- What is known of one rune. -/
noncomputable def vruneB (r : Nat) : Bool := Nat.blt r 55296 || (Nat.ble 57344 r && Nat.ble r 1114111)
theorem vruneB_iff (r : Nat) : vruneB r = true ↔ VRune r := by
  unfold vruneB VRune
  rw [Bool.or_eq_true, Bool.and_eq_true, blt_iff, ble_iff, ble_iff]
noncomputable def runeG (ok : St → Bool) (p : Nat → Bool) (args : List V) (st : St) : Option V :=
  List.rec none (fun a l _ => a.onInt none (fun k i => Int.rec (fun b => bif Nat.beq k 31 && (vruneB b && ok st) then List.rec (some (.bool (p b))) (fun _ _ _ => none) l else none) (fun _ => none) i)) args
theorem rune_at (ok : St → Bool) (p : Nat → Bool) (b : Nat) (st : St) (h : VRune b) (hs : ok st = true) : runeG ok p [.int 31 (.ofNat b)] st = some (.bool (p b)) := by
  show (bif Nat.beq 31 31 && (vruneB b && ok st) then some (V.bool (p b)) else none) = _
  rw [(vruneB_iff b).2 h, hs]; rfl
theorem rune_some {ok : St → Bool} {p : Nat → Bool} {args : List V} {st : St} {v : V} (h : runeG ok p args st = some v) : ∃ b, args = [.int 31 (.ofNat b)] ∧ VRune b ∧ ok st = true ∧ v = .bool (p b) := by
  match args, h with
  | .int k (.ofNat b) :: l, h1 =>
    have h2 : (bif Nat.beq k 31 && (vruneB b && ok st) then List.rec (some (V.bool (p b))) (fun _ _ _ => none) l else none) = some v := h1
    obtain ⟨h3, h4⟩ := bif_none h2
    rw [Bool.and_eq_true, Bool.and_eq_true] at h3
    obtain rfl := Nat.eq_of_beq_eq_true h3.1
    match l, h4 with
    | [], h4 =>
      obtain rfl := Option.some.inj h4
      exact ⟨b, rfl, (vruneB_iff b).1 h3.2.1, h3.2.2, rfl⟩
theorem get_nameN : tableN.get 11 = some (.spec nameG) := by kernel_rfl
theorem nameN_ev (n : Nat) (s : List UInt8) (st : St) (h : hasU st = true) (hs : s.length ≤ 9223372036854775807) : evF tableN (n + 1) 11 [.str s] st = some (.ret (.bool (isNameL s)), st) := by
  refine ev_spec get_nameN ?_
  show (bif hasU st && Nat.ble (lenL s) 9223372036854775807 then some (V.bool (isNameL s)) else none) = _
  rw [h, lenL_eq, bleT hs]
  rfl
theorem enc_len (r : Nat) (h : VRune r) : (enc r).length ≤ 4 := by
  by_cases h1 : r < 128
  · rw [enc1 h1]; simp
  · exact (enc_big h (by omega)).2.1
theorem get_letter : tableN.get 25 = some sh25 := by kernel_rfl
theorem letter_ev (n r : Nat) (st : St) (h : VRune r) (hU : hasU st = true) : evF tableN (n + 2) 25 [.int 31 (.ofNat r)] st = some (.ret (.bool (letterG r)), st) := by
  have h1 := nameN_ev n (enc r) { next := st.next, low := st.next, mem := st.mem } hU (by have := enc_len r h; omega)
  rw [name_enc h] at h1
  have h2 : (Utf8.encode (Int.ofNat r)).data.toList = enc r := by unfold enc; rw [Int.ofNat_eq_natCast]
  rw [ev_mk get_letter]
  simp only [c25_0, c25_1, x_seq, x_reg, x_skip, x_ret, x_exit, x_cond, x_condT, x_condF, x_block, x_loop, x_nrm, x_then_ret, x_then_exit, x_out_nrm, x_out_ret, x_out_exit, x_endG, x_step0, x_stepG, x_isBT, x_isBF, Bool.not_true, Bool.not_false, x_recT, x_recF, x_mov, x_gP', x_gE', x_call, x_dyn, x_dynV, x_goR, x_put, x_put0, x_evc, x_evt, x_ats, x_evs, x_evs0, x_onInt, x_onStr, x_onBool, x_onNat, x_onPtr, x_onSlice, x_onSlice0, x_onCells, x_onTup, x_onAgg, x_beq, initT0, initT1, iInt, iStr, iLenS, iLenL, iNot, iPick, iExt, Nat.zero_add, if_true, if_false, reduceIte, Nat.reduceEqDiff, Nat.reduceAdd, reduceCtorEq, q0, q1, q2, q3, q4, q5, q6, iCvis, h2, h1]
  exact leave_ret (v := .bool _) (by simp only [x_seq, x_reg, x_skip, x_ret, x_exit, x_cond, x_condT, x_condF, x_block, x_loop, x_nrm, x_then_ret, x_then_exit, x_out_nrm, x_out_ret, x_out_exit, x_endG, x_step0, x_stepG, x_isBT, x_isBF, Bool.not_true, Bool.not_false, x_recT, x_recF, x_mov, x_gP', x_gE', x_call, x_dyn, x_dynV, x_goR, x_put, x_put0, x_evc, x_evt, x_ats, x_evs, x_evs0, x_onInt, x_onStr, x_onBool, x_onNat, x_onPtr, x_onSlice, x_onSlice0, x_onCells, x_onTup, x_onAgg, x_beq, initT0, initT1, iInt, iStr, iLenS, iLenL, iNot, iPick, iExt, Nat.zero_add, if_true, if_false, reduceIte, Nat.reduceEqDiff, Nat.reduceAdd, reduceCtorEq]) (Nat.le_refl _) rfl
theorem letter_spec : SpecOk Tryd.prog 25 (runeG hasU letterG) := by
  refine spec_of mixed tabN get_letter (mem := memU) (G := 11) globals.symm (fun g b hb => memU_lt g b hb) fun args st v h => ?_
  obtain ⟨r, rfl, h1, h2, rfl⟩ := rune_some h
  exact ⟨hasU_tabs h2, rfl, rfl, 0 + 2, stU, letter_ev 0 r stU h1 hasU_stU⟩
/-! ### lex.digit -/
noncomputable def stE0 : St := { next := 11, low := 11, mem := Tr.leaf }
def decs : List UInt8 := [48, 49, 50, 51, 52, 53, 54, 55, 56, 57]
theorem get_digit : tableN.get 27 = some sh27 := by kernel_rfl
theorem get_crune : tableN.get 35 = some sh35 := by kernel_rfl
theorem get_irune : tableN.get 46 = some sh46 := by kernel_rfl
theorem get_vrune : tableN.get 55 = some sh55 := by kernel_rfl
theorem get_ibyte : tableN.get 54 = some sh54 := by kernel_rfl
theorem get_ibyte2 : tableN.get 69 = some sh69 := by kernel_rfl
theorem get_ibs : tableN.get 81 = some (.ext 0) := by kernel_rfl
noncomputable def eqBool (a b : Bool) : Bool := Bool.rec (Bool.rec true false b) b a
noncomputable def saysB (b : Bool) (x : Option (CR × St)) : Bool := match x with
  | some (.ret (.bool c), _) => eqBool b c
  | _ => false
theorem saysB_eq {b : Bool} {x : Option (CR × St)} (h : saysB b x = true) : ∃ st', x = some (.ret (.bool b), st') := by
  unfold saysB at h
  split at h
  · rename_i c st'
    refine ⟨st', ?_⟩
    cases b <;> cases c <;> first | rfl | exact nomatch h
  · exact nomatch h
theorem digits_known : ((65533 :: List.range 128).all fun b => saysB (digitG b) (evF tableN 1000 27 [.int 31 (.ofNat b)] stE0)) = true := by kernel_rfl
theorem idxL_none {c : UInt8} : ∀ {s : List UInt8} {i : Nat}, (∀ b ∈ s, b ≠ c) → idxL c s i = .negSucc 0
  | [], i, _ => rfl
  | b :: s, i, h => by
    show (bif eqB b c then Int.ofNat i else idxL c s (i + 1)) = _
    rw [eqB_iff, decide_eq_false (h b (List.mem_cons_self ..))]
    exact idxL_none (fun x hx => h x (List.mem_cons_of_mem _ hx))
theorem ibs_ev (n : Nat) (s : List UInt8) (c : UInt8) (st : St) (h : ∀ b ∈ s, b ≠ c) : evF tableN (n + 1) 81 [.str s, .int 8 (.ofNat c.toNat)] st = some (.ret (.int 63 (.negSucc 0)), st) := by
  refine ev_ext get_ibs ?_
  show some (V.int 63 (idxL (Int.ofNat c.toNat).toNat.toUInt8 s 0)) = _
  rw [show (Int.ofNat c.toNat).toNat.toUInt8 = c by simp, idxL_none h]
theorem ib_ev (n : Nat) (s : List UInt8) (c : UInt8) (st : St) (h : ∀ b ∈ s, b ≠ c) : evF tableN (n + 3) 54 [.str s, .int 8 (.ofNat c.toNat)] st = some (.ret (.int 63 (.negSucc 0)), st) := by
  have h2 : ∀ st : St, evF tableN (n + 2) 69 [.str s, .int 8 (.ofNat c.toNat)] st = some (.ret (.int 63 (.negSucc 0)), st) := fun st => by
    have h1 := ibs_ev n s c { next := st.next, low := st.next, mem := st.mem } h
    rw [ev_mk get_ibyte2]
    simp only [c69_0, c69_1, x_seq, x_reg, x_skip, x_ret, x_exit, x_cond, x_condT, x_condF, x_block, x_loop, x_nrm, x_then_ret, x_then_exit, x_out_nrm, x_out_ret, x_out_exit, x_endG, x_step0, x_stepG, x_isBT, x_isBF, Bool.not_true, Bool.not_false, x_recT, x_recF, x_mov, x_gP', x_gE', x_call, x_dyn, x_dynV, x_goR, x_put, x_put0, x_evc, x_evt, x_ats, x_evs, x_evs0, x_onInt, x_onStr, x_onBool, x_onNat, x_onPtr, x_onSlice, x_onSlice0, x_onCells, x_onTup, x_onAgg, x_beq, initT0, initT1, iInt, iStr, iLenS, iLenL, iNot, iPick, iExt, Nat.zero_add, if_true, if_false, reduceIte, Nat.reduceEqDiff, Nat.reduceAdd, reduceCtorEq, q0, q1, q2, q3, q4, q5, q6, q7, q8, q9, h1]
    exact leave_ret (v := .int 63 _) (by simp only [x_seq, x_reg, x_skip, x_ret, x_exit, x_cond, x_condT, x_condF, x_block, x_loop, x_nrm, x_then_ret, x_then_exit, x_out_nrm, x_out_ret, x_out_exit, x_endG, x_step0, x_stepG, x_isBT, x_isBF, Bool.not_true, Bool.not_false, x_recT, x_recF, x_mov, x_gP', x_gE', x_call, x_dyn, x_dynV, x_goR, x_put, x_put0, x_evc, x_evt, x_ats, x_evs, x_evs0, x_onInt, x_onStr, x_onBool, x_onNat, x_onPtr, x_onSlice, x_onSlice0, x_onCells, x_onTup, x_onAgg, x_beq, initT0, initT1, iInt, iStr, iLenS, iLenL, iNot, iPick, iExt, Nat.zero_add, if_true, if_false, reduceIte, Nat.reduceEqDiff, Nat.reduceAdd, reduceCtorEq]) (Nat.le_refl _) rfl
  rw [ev_mk get_ibyte]
  simp only [c54_0, c54_1, x_seq, x_reg, x_skip, x_ret, x_exit, x_cond, x_condT, x_condF, x_block, x_loop, x_nrm, x_then_ret, x_then_exit, x_out_nrm, x_out_ret, x_out_exit, x_endG, x_step0, x_stepG, x_isBT, x_isBF, Bool.not_true, Bool.not_false, x_recT, x_recF, x_mov, x_gP', x_gE', x_call, x_dyn, x_dynV, x_goR, x_put, x_put0, x_evc, x_evt, x_ats, x_evs, x_evs0, x_onInt, x_onStr, x_onBool, x_onNat, x_onPtr, x_onSlice, x_onSlice0, x_onCells, x_onTup, x_onAgg, x_beq, initT0, initT1, iInt, iStr, iLenS, iLenL, iNot, iPick, iExt, Nat.zero_add, if_true, if_false, reduceIte, Nat.reduceEqDiff, Nat.reduceAdd, reduceCtorEq, q0, q1, q2, q3, q4, q5, q6, q7, q8, q9, h2]
  exact leave_ret (v := .int 63 _) (by simp only [x_seq, x_reg, x_skip, x_ret, x_exit, x_cond, x_condT, x_condF, x_block, x_loop, x_nrm, x_then_ret, x_then_exit, x_out_nrm, x_out_ret, x_out_exit, x_endG, x_step0, x_stepG, x_isBT, x_isBF, Bool.not_true, Bool.not_false, x_recT, x_recF, x_mov, x_gP', x_gE', x_call, x_dyn, x_dynV, x_goR, x_put, x_put0, x_evc, x_evt, x_ats, x_evs, x_evs0, x_onInt, x_onStr, x_onBool, x_onNat, x_onPtr, x_onSlice, x_onSlice0, x_onCells, x_onTup, x_onAgg, x_beq, initT0, initT1, iInt, iStr, iLenS, iLenL, iNot, iPick, iExt, Nat.zero_add, if_true, if_false, reduceIte, Nat.reduceEqDiff, Nat.reduceAdd, reduceCtorEq]) (Nat.le_refl _) rfl
theorem vrune_ev (n r : Nat) (st : St) (h : VRune r) : evF tableN (n + 1) 55 [.int 31 (.ofNat r)] st = some (.ret (.bool true), st) := by
  have h0 : ltI (Int.ofNat r) 0 = false := by rw [show (0 : Int) = Int.ofNat 0 from rfl, ltI_cast]; exact decide_eq_false (Nat.not_lt_zero _)
  have h1 : ltI (Int.ofNat r) 55296 = decide (r < 55296) := ltI_cast r 55296
  have h2 : ltI 57343 (Int.ofNat r) = decide (57343 < r) := ltI_cast 57343 r
  have h3 : ltI 1114111 (Int.ofNat r) = decide (1114111 < r) := ltI_cast 1114111 r
  rw [ev_mk get_vrune]
  by_cases hr : r < 55296
  · rw [decide_eq_true hr] at h1
    simp only [c55_0, c55_1, x_seq, x_reg, x_skip, x_ret, x_exit, x_cond, x_condT, x_condF, x_block, x_loop, x_nrm, x_then_ret, x_then_exit, x_out_nrm, x_out_ret, x_out_exit, x_endG, x_step0, x_stepGT, x_stepGF, x_stepGU, x_isBT, x_isBF, Bool.not_true, Bool.not_false, x_recT, x_recF, x_mov, x_gP', x_gE', x_call, x_dyn, x_dynV, x_goR, x_put, x_put0, x_evc, x_evt, x_ats, x_evs, x_evs0, x_onInt, x_onStr, x_onBool, x_onNat, x_onPtr, x_onSlice, x_onSlice0, x_onCells, x_onTup, x_onAgg, x_beq, initT0, initT1, iInt, iStr, iLenS, iLenL, iNot, iPick, iExt, Nat.zero_add, if_true, if_false, reduceIte, Nat.reduceEqDiff, Nat.reduceAdd, reduceCtorEq, q0, q1, q2, q3, q4, q5, q6, q7, q8, q9, q10, q11, q12, q13, q14, q15, q16, fLeq, fLss, h0, h1, iPick]
    exact leave_ret (v := .bool true) (by simp only [x_seq, x_reg, x_skip, x_ret, x_exit, x_cond, x_condT, x_condF, x_block, x_loop, x_nrm, x_then_ret, x_then_exit, x_out_nrm, x_out_ret, x_out_exit, x_endG, x_step0, x_stepG, x_isBT, x_isBF, Bool.not_true, Bool.not_false, x_recT, x_recF, x_mov, x_gP', x_gE', x_call, x_dyn, x_dynV, x_goR, x_put, x_put0, x_evc, x_evt, x_ats, x_evs, x_evs0, x_onInt, x_onStr, x_onBool, x_onNat, x_onPtr, x_onSlice, x_onSlice0, x_onCells, x_onTup, x_onAgg, x_beq, initT0, initT1, iInt, iStr, iLenS, iLenL, iNot, iPick, iExt, Nat.zero_add, if_true, if_false, reduceIte, Nat.reduceEqDiff, Nat.reduceAdd, reduceCtorEq]) (Nat.le_refl _) rfl
  · rw [decide_eq_false hr] at h1
    rw [decide_eq_true (by unfold VRune at h; omega)] at h2
    rw [decide_eq_false (by unfold VRune at h; omega)] at h3
    simp only [c55_0, c55_1, x_seq, x_reg, x_skip, x_ret, x_exit, x_cond, x_condT, x_condF, x_block, x_loop, x_nrm, x_then_ret, x_then_exit, x_out_nrm, x_out_ret, x_out_exit, x_endG, x_step0, x_stepGT, x_stepGF, x_stepGU, x_isBT, x_isBF, Bool.not_true, Bool.not_false, x_recT, x_recF, x_mov, x_gP', x_gE', x_call, x_dyn, x_dynV, x_goR, x_put, x_put0, x_evc, x_evt, x_ats, x_evs, x_evs0, x_onInt, x_onStr, x_onBool, x_onNat, x_onPtr, x_onSlice, x_onSlice0, x_onCells, x_onTup, x_onAgg, x_beq, initT0, initT1, iInt, iStr, iLenS, iLenL, iNot, iPick, iExt, Nat.zero_add, if_true, if_false, reduceIte, Nat.reduceEqDiff, Nat.reduceAdd, reduceCtorEq, q0, q1, q2, q3, q4, q5, q6, q7, q8, q9, q10, q11, q12, q13, q14, q15, q16, fLeq, fLss, h0, h1, h2, h3, iPick]
    exact leave_ret (v := .bool true) (by simp only [x_seq, x_reg, x_skip, x_ret, x_exit, x_cond, x_condT, x_condF, x_block, x_loop, x_nrm, x_then_ret, x_then_exit, x_out_nrm, x_out_ret, x_out_exit, x_endG, x_step0, x_stepG, x_isBT, x_isBF, Bool.not_true, Bool.not_false, x_recT, x_recF, x_mov, x_gP', x_gE', x_call, x_dyn, x_dynV, x_goR, x_put, x_put0, x_evc, x_evt, x_ats, x_evs, x_evs0, x_onInt, x_onStr, x_onBool, x_onNat, x_onPtr, x_onSlice, x_onSlice0, x_onCells, x_onTup, x_onAgg, x_beq, initT0, initT1, iInt, iStr, iLenS, iLenL, iNot, iPick, iExt, Nat.zero_add, if_true, if_false, reduceIte, Nat.reduceEqDiff, Nat.reduceAdd, reduceCtorEq]) (Nat.le_refl _) rfl
section
variable {n last r : Nat} {bs : List UInt8} {b c : UInt8} {st : St}
/-- strings.IndexRune of the digits, and of a rune of many bytes. -/
theorem irune_big (hv : VRune r) (h0 : 128 ≤ r) (h1 : r ≠ 65533) (he : enc r = bs) (hlen : bs.length = last + 1) (h3 : 1 ≤ last ∧ last ≤ 3) (hb : nth bs last = some b) (hb8 : 128 ≤ b.toNat) (hc : nth decs last = some c) (hc8 : c.toNat < 128) :
    evF tableN (n + 4) 46 [.str decs, .int 31 (.ofNat r)] st = some (.ret (.int 63 (.negSucc 0)), st) := by
  have a1 : ltI (Int.ofNat r) 0 = false := by rw [show (0 : Int) = Int.ofNat 0 from rfl, ltI_cast]; exact decide_eq_false (Nat.not_lt_zero _)
  have a2 : ltI (Int.ofNat r) 128 = false := by rw [l128, bleT h0]; rfl
  have a3 : eqI (Int.ofNat r) 65533 = false := beqF h1
  have a4 := vrune_ev (n + 2) r { next := st.next, low := st.next, mem := st.mem } hv
  have a5 : (Utf8.encode (Int.ofNat r)).data.toList = bs := by rw [← he]; unfold enc; rw [Int.ofNat_eq_natCast]
  have a6 : wrapC 63 (Int.sub (Int.ofNat bs.length) 1) = Int.ofNat last := by
    rw [hlen]
    show wrapC 63 ((Int.ofNat (last + 1)) - 1) = _
    rw [show (Int.ofNat (last + 1)) - 1 = Int.ofNat last by simp]
    exact wrap63 (by omega)
  have a7 : ltI (Int.ofNat last) (Int.ofNat decs.length) = true := by rw [ltI_cast]; exact decide_eq_true (by show last < 10; omega)
  have a8 : eqI (Int.ofNat c.toNat) (Int.ofNat b.toNat) = false := beqF (by omega)
  have a9 : wrapC 63 (Int.add (Int.ofNat last) 1) = Int.ofNat (last + 1) := wrap63 (i := last + 1) (by omega)
  have a10 : Nat.ble (last + 1) decs.length = true := bleT (by show last + 1 ≤ 10; omega)
  have a11 : Nat.ble decs.length decs.length = true := bleT (Nat.le_refl _)
  have a12 := ib_ev n (dropL (takeL decs decs.length) (last + 1)) b { next := st.next, low := st.next, mem := st.mem } (fun x hx e => by
    subst e
    rw [dropL_eq, takeL_eq] at hx
    have : x ∈ decs := List.mem_of_mem_take (List.mem_of_mem_drop hx)
    have : x.toNat < 128 := by
      unfold decs at this
      simp only [List.mem_cons, List.not_mem_nil, or_false] at this
      rcases this with rfl | rfl | rfl | rfl | rfl | rfl | rfl | rfl | rfl | rfl <;> decide
    omega)
  have a13 : ltI (.negSucc 0) 0 = true := rfl
  rw [ev_mk get_irune]
  simp only [c46_0, c46_1, x_seq, x_reg, x_skip, x_ret, x_exit, x_cond, x_condT, x_condF, x_block, x_loop, x_nrm, x_then_ret, x_then_exit, x_out_nrm, x_out_ret, x_out_exit, x_endG, x_step0, x_stepGT, x_stepGF, x_stepGU, x_isBT, x_isBF, Bool.not_true, Bool.not_false, x_recT, x_recF, x_mov, x_gP', x_gE', x_call, x_dyn, x_dynV, x_goR, x_put, x_put0, x_evc, x_evt, x_ats, x_evs, x_evs0, x_onInt, x_onStr, x_onBool, x_onNat, x_onPtr, x_onSlice, x_onSlice0, x_onCells, x_onTup, x_onAgg, x_beq, initT0, initT1, iInt, iStr, iLenS, iLenL, iNot, iPick, iExt, Nat.zero_add, if_true, if_false, reduceIte, Nat.reduceEqDiff, Nat.reduceAdd, reduceCtorEq, q0, q1, q2, q3, q4, q5, q6, q7, q8, q9, q10, q11, q12, q13, q14, q15, q16, q17, q18, q19, q20, q21, q22, q23, q24, q25, q26, q27, q28, q29, q30, q31, q32, q33, q34, q35, q36, q37, q38, q39, q40, q41, q42, q43, q44, q45, q46, q47, q48, q49, q50, q51, q52, q53, q54, q55, q56, q57, q58, q59, q60, q61, q62, q63, q64, q65, q66, q67, q68, q69, q70, q71, q72, q73, q74, q75, q76, q77, q78, q79, q80, q81, q82, q83, q84, q85, q86, q87, q88, q89, q90, q91, q92, q93, q94, q95, q96, q97, q98, q99, q100, q101, q102, q103, q104, q105, q106, q107, q108, q109, q110, q111, q112, q113, q114, q115, q116, q117, q118, q119, q120, q121, q122, q123, q124, q125, q126, q127, q128, q129, q130, q131, q132, q133, q134, q135, q136, q137, q138, q139, q140, q141, q142, q143, q144, q145, q146, q147, q148, q149, q150, q151, q152, q153, q154, q155, q156, q157, q158, q159, q160, q161, q162, q163, q164, q165, q166, q167, q168, q169, q170, q171, q172, q173, q174, q175, q176, q177, q178, q179, q180, q181, q182, q183, q184, q185, q186, q187, fLeq, fLss, fEql, a1, a2, a3, iPick, a4, iCvis, a5, x_lenS, fSub, a6, x_loop1]
  simp only [b46_2, x_seq, x_reg, x_skip, x_ret, x_exit, x_cond, x_condT, x_condF, x_block, x_loop, x_nrm, x_then_ret, x_then_exit, x_out_nrm, x_out_ret, x_out_exit, x_endG, x_step0, x_stepGT, x_stepGF, x_stepGU, x_isBT, x_isBF, Bool.not_true, Bool.not_false, x_recT, x_recF, x_mov, x_gP', x_gE', x_call, x_dyn, x_dynV, x_goR, x_put, x_put0, x_evc, x_evt, x_ats, x_evs, x_evs0, x_onInt, x_onStr, x_onBool, x_onNat, x_onPtr, x_onSlice, x_onSlice0, x_onCells, x_onTup, x_onAgg, x_beq, initT0, initT1, iInt, iStr, iLenS, iLenL, iNot, iPick, iExt, Nat.zero_add, if_true, if_false, reduceIte, Nat.reduceEqDiff, Nat.reduceAdd, reduceCtorEq, x_draw, x_endD, x_stepR0, x_stepQ0, x_stepL0, x_oneK, x_oneL, x_oneP, x_oneM, x_oneE, x_oneC2, oneR_nrm, x_pick0, x_pick1, q0, q1, q2, q3, q4, q5, q6, q7, q8, q9, q10, q11, q12, q13, q14, q15, q16, q17, q18, q19, q20, q21, q22, q23, q24, q25, q26, q27, q28, q29, q30, q31, q32, q33, q34, q35, q36, q37, q38, q39, q40, q41, q42, q43, q44, q45, q46, q47, q48, q49, q50, q51, q52, q53, q54, q55, q56, q57, q58, q59, q60, q61, q62, q63, q64, q65, q66, q67, q68, q69, q70, q71, q72, q73, q74, q75, q76, q77, q78, q79, q80, q81, q82, q83, q84, q85, q86, q87, q88, q89, q90, q91, q92, q93, q94, q95, q96, q97, q98, q99, q100, q101, q102, q103, q104, q105, q106, q107, q108, q109, q110, q111, q112, q113, q114, q115, q116, q117, q118, q119, q120, q121, q122, q123, q124, q125, q126, q127, q128, q129, q130, q131, q132, q133, q134, q135, q136, q137, q138, q139, q140, q141, q142, q143, q144, q145, q146, q147, q148, q149, q150, q151, q152, q153, q154, q155, q156, q157, q158, q159, q160, q161, q162, q163, q164, q165, q166, q167, q168, q169, q170, q171, q172, q173, q174, q175, q176, q177, q178, q179, q180, q181, q182, q183, q184, q185, q186, q187, x_lenS, fLss, a7, iIxs, x_onNat, hb, hc, fNeq, a8, Bool.not_false, fAdd, a9, iSls, optN, a10, a11, Bool.and_self, cond_true, a12, a13]
  exact leave_ret (v := .int 63 _) (by simp only [x_seq, x_reg, x_skip, x_ret, x_exit, x_cond, x_condT, x_condF, x_block, x_loop, x_nrm, x_then_ret, x_then_exit, x_out_nrm, x_out_ret, x_out_exit, x_endG, x_step0, x_stepG, x_isBT, x_isBF, Bool.not_true, Bool.not_false, x_recT, x_recF, x_mov, x_gP', x_gE', x_call, x_dyn, x_dynV, x_goR, x_put, x_put0, x_evc, x_evt, x_ats, x_evs, x_evs0, x_onInt, x_onStr, x_onBool, x_onNat, x_onPtr, x_onSlice, x_onSlice0, x_onCells, x_onTup, x_onAgg, x_beq, initT0, initT1, iInt, iStr, iLenS, iLenL, iNot, iPick, iExt, Nat.zero_add, if_true, if_false, reduceIte, Nat.reduceEqDiff, Nat.reduceAdd, reduceCtorEq]; rfl) (Nat.le_refl _) rfl
end
theorem digitG_big {r : Nat} (h : 128 ≤ r) : digitG r = false := by
  unfold digitG
  rw [bleF (show ¬ r ≤ 57 by omega), Bool.and_false]
theorem digit_big {r : Nat} (hv : VRune r) (h0 : 128 ≤ r) (h1 : r ≠ 65533) (n : Nat) (st : St) : evF tableN (n + 6) 27 [.int 31 (.ofNat r)] st = some (.ret (.bool false), st) := by
  have key : ∀ st : St, evF tableN (n + 4) 46 [.str decs, .int 31 (.ofNat r)] st = some (.ret (.int 63 (.negSucc 0)), st) := fun st => by
    have hb : ∀ k, k < 64 → 128 ≤ (UInt8.ofNat (128 + k)).toNat := fun k hk => by rw [ofNat_toNat (by omega)]; omega
    rcases hv.cases with h | ⟨g0, h⟩ | ⟨g0, h⟩ | ⟨g0, h⟩
    · omega
    · exact irune_big hv h0 h1 (enc2 g0 h) (last := 1) (c := 49) rfl (by omega) rfl (hb _ (by omega)) rfl (by decide)
    · exact irune_big hv h0 h1 (enc3 hv g0 h) (last := 2) (c := 50) rfl (by omega) rfl (hb _ (by omega)) rfl (by decide)
    · exact irune_big hv h0 h1 (enc4 hv g0) (last := 3) (c := 51) rfl (by omega) rfl (hb _ (by omega)) rfl (by decide)
  have a13 : ltI (.negSucc 0) 0 = true := rfl
  have key2 : ∀ st : St, evF tableN (n + 5) 35 [.str decs, .int 31 (.ofNat r)] st = some (.ret (.bool false), st) := fun st => by
    rw [ev_mk get_crune]
    simp only [c35_0, c35_1, x_seq, x_reg, x_skip, x_ret, x_exit, x_cond, x_condT, x_condF, x_block, x_loop, x_nrm, x_then_ret, x_then_exit, x_out_nrm, x_out_ret, x_out_exit, x_endG, x_step0, x_stepG, x_isBT, x_isBF, Bool.not_true, Bool.not_false, x_recT, x_recF, x_mov, x_gP', x_gE', x_call, x_dyn, x_dynV, x_goR, x_put, x_put0, x_evc, x_evt, x_ats, x_evs, x_evs0, x_onInt, x_onStr, x_onBool, x_onNat, x_onPtr, x_onSlice, x_onSlice0, x_onCells, x_onTup, x_onAgg, x_beq, initT0, initT1, iInt, iStr, iLenS, iLenL, iNot, iPick, iExt, Nat.zero_add, if_true, if_false, reduceIte, Nat.reduceEqDiff, Nat.reduceAdd, reduceCtorEq, q0, q1, q2, q3, q4, q5, q6, q7, q8, q9, key, fGeq, a13]
    exact leave_ret (v := .bool _) (by simp only [x_seq, x_reg, x_skip, x_ret, x_exit, x_cond, x_condT, x_condF, x_block, x_loop, x_nrm, x_then_ret, x_then_exit, x_out_nrm, x_out_ret, x_out_exit, x_endG, x_step0, x_stepG, x_isBT, x_isBF, Bool.not_true, Bool.not_false, x_recT, x_recF, x_mov, x_gP', x_gE', x_call, x_dyn, x_dynV, x_goR, x_put, x_put0, x_evc, x_evt, x_ats, x_evs, x_evs0, x_onInt, x_onStr, x_onBool, x_onNat, x_onPtr, x_onSlice, x_onSlice0, x_onCells, x_onTup, x_onAgg, x_beq, initT0, initT1, iInt, iStr, iLenS, iLenL, iNot, iPick, iExt, Nat.zero_add, if_true, if_false, reduceIte, Nat.reduceEqDiff, Nat.reduceAdd, reduceCtorEq]) (Nat.le_refl _) rfl
  have hd : ([48, 49, 50, 51, 52, 53, 54, 55, 56, 57] : List UInt8) = decs := rfl
  rw [ev_mk get_digit]
  simp only [c27_0, c27_1, x_seq, x_reg, x_skip, x_ret, x_exit, x_cond, x_condT, x_condF, x_block, x_loop, x_nrm, x_then_ret, x_then_exit, x_out_nrm, x_out_ret, x_out_exit, x_endG, x_step0, x_stepG, x_isBT, x_isBF, Bool.not_true, Bool.not_false, x_recT, x_recF, x_mov, x_gP', x_gE', x_call, x_dyn, x_dynV, x_goR, x_put, x_put0, x_evc, x_evt, x_ats, x_evs, x_evs0, x_onInt, x_onStr, x_onBool, x_onNat, x_onPtr, x_onSlice, x_onSlice0, x_onCells, x_onTup, x_onAgg, x_beq, initT0, initT1, iInt, iStr, iLenS, iLenL, iNot, iPick, iExt, Nat.zero_add, if_true, if_false, reduceIte, Nat.reduceEqDiff, Nat.reduceAdd, reduceCtorEq, q0, q1, q2, q3, q4, q5, q6, q7, q8, q9, hd, key2]
  exact leave_ret (v := .bool _) (by simp only [x_seq, x_reg, x_skip, x_ret, x_exit, x_cond, x_condT, x_condF, x_block, x_loop, x_nrm, x_then_ret, x_then_exit, x_out_nrm, x_out_ret, x_out_exit, x_endG, x_step0, x_stepG, x_isBT, x_isBF, Bool.not_true, Bool.not_false, x_recT, x_recF, x_mov, x_gP', x_gE', x_call, x_dyn, x_dynV, x_goR, x_put, x_put0, x_evc, x_evt, x_ats, x_evs, x_evs0, x_onInt, x_onStr, x_onBool, x_onNat, x_onPtr, x_onSlice, x_onSlice0, x_onCells, x_onTup, x_onAgg, x_beq, initT0, initT1, iInt, iStr, iLenS, iLenL, iNot, iPick, iExt, Nat.zero_add, if_true, if_false, reduceIte, Nat.reduceEqDiff, Nat.reduceAdd, reduceCtorEq]) (Nat.le_refl _) rfl
theorem digit_spec : SpecOk Tryd.prog 27 (runeG (fun _ => true) digitG) := by
  refine spec_of mixed tabN get_digit (mem := Tr.leaf) (G := 11) globals.symm (fun g b hb => by rw [get_leaf] at hb; exact nomatch hb) fun args st v h => ?_
  obtain ⟨r, rfl, h1, _, rfl⟩ := rune_some h
  refine ⟨fun g b hb => (by rw [get_leaf] at hb; exact (nomatch hb)), rfl, rfl, ?_⟩
  by_cases hr : r < 128 ∨ r = 65533
  · have hm : r ∈ (65533 :: List.range 128) := by
      rcases hr with hr | rfl
      · exact List.mem_cons_of_mem _ (List.mem_range.2 hr)
      · exact List.mem_cons_self ..
    obtain ⟨st', h5⟩ := saysB_eq (List.all_eq_true.1 digits_known r hm)
    exact ⟨1000, st', h5⟩
  · rw [digitG_big (by omega)]
    exact ⟨0 + 6, stE0, digit_big h1 (by omega) (by omega) 0 stE0⟩
noncomputable def tableR : Tr Fs := (tableN.set 25 (some (.spec (runeG hasU letterG)))).set 27 (some (.spec (runeG (fun _ => true) digitG)))
theorem tabR : TableOk Tryd.prog tableR := tableSpec (tableSpec tabN letter_spec) digit_spec
theorem get_letterR : tableR.get 25 = some (.spec (runeG hasU letterG)) := by kernel_rfl
theorem get_digitR : tableR.get 27 = some (.spec (runeG (fun _ => true) digitG)) := by kernel_rfl
theorem get_both : tableR.get 37 = some sh37 := by kernel_rfl
theorem both_ev (n r : Nat) (st : St) (h : VRune r) (hU : hasU st = true) : evF tableR (n + 2) 37 [.int 31 (.ofNat r)] st = some (.ret (.bool (bothG r)), st) := by
  have h1 : evF tableR (n + 1) 25 [.int 31 (.ofNat r)] { next := st.next, low := st.next, mem := st.mem } = some (.ret (.bool (letterG r)), _) := ev_spec get_letterR (rune_at hasU letterG r _ h hU)
  have h2 : evF tableR (n + 1) 27 [.int 31 (.ofNat r)] { next := st.next, low := st.next, mem := st.mem } = some (.ret (.bool (digitG r)), _) := ev_spec get_digitR (rune_at _ digitG r _ h rfl)
  rw [ev_mk get_both]
  unfold bothG
  cases hb : letterG r with
  | true =>
    rw [hb] at h1
    simp only [c37_0, c37_1, x_seq, x_reg, x_skip, x_ret, x_exit, x_cond, x_condT, x_condF, x_block, x_loop, x_nrm, x_then_ret, x_then_exit, x_out_nrm, x_out_ret, x_out_exit, x_endG, x_step0, x_stepGT, x_stepGF, x_stepGU, x_isBT, x_isBF, Bool.not_true, Bool.not_false, x_recT, x_recF, x_mov, x_gP', x_gE', x_call, x_dyn, x_dynV, x_goR, x_put, x_put0, x_evc, x_evt, x_ats, x_evs, x_evs0, x_onInt, x_onStr, x_onBool, x_onNat, x_onPtr, x_onSlice, x_onSlice0, x_onCells, x_onTup, x_onAgg, x_beq, initT0, initT1, iInt, iStr, iLenS, iLenL, iNot, iPick, iExt, Nat.zero_add, if_true, if_false, reduceIte, Nat.reduceEqDiff, Nat.reduceAdd, reduceCtorEq, q0, q1, q2, q3, q4, q5, q6, q7, q8, q9, h1, iPick, Bool.true_or]
    exact leave_ret (v := .bool _) (by simp only [x_seq, x_reg, x_skip, x_ret, x_exit, x_cond, x_condT, x_condF, x_block, x_loop, x_nrm, x_then_ret, x_then_exit, x_out_nrm, x_out_ret, x_out_exit, x_endG, x_step0, x_stepG, x_isBT, x_isBF, Bool.not_true, Bool.not_false, x_recT, x_recF, x_mov, x_gP', x_gE', x_call, x_dyn, x_dynV, x_goR, x_put, x_put0, x_evc, x_evt, x_ats, x_evs, x_evs0, x_onInt, x_onStr, x_onBool, x_onNat, x_onPtr, x_onSlice, x_onSlice0, x_onCells, x_onTup, x_onAgg, x_beq, initT0, initT1, iInt, iStr, iLenS, iLenL, iNot, iPick, iExt, Nat.zero_add, if_true, if_false, reduceIte, Nat.reduceEqDiff, Nat.reduceAdd, reduceCtorEq]) (Nat.le_refl _) rfl
  | false =>
    rw [hb] at h1
    simp only [c37_0, c37_1, x_seq, x_reg, x_skip, x_ret, x_exit, x_cond, x_condT, x_condF, x_block, x_loop, x_nrm, x_then_ret, x_then_exit, x_out_nrm, x_out_ret, x_out_exit, x_endG, x_step0, x_stepGT, x_stepGF, x_stepGU, x_isBT, x_isBF, Bool.not_true, Bool.not_false, x_recT, x_recF, x_mov, x_gP', x_gE', x_call, x_dyn, x_dynV, x_goR, x_put, x_put0, x_evc, x_evt, x_ats, x_evs, x_evs0, x_onInt, x_onStr, x_onBool, x_onNat, x_onPtr, x_onSlice, x_onSlice0, x_onCells, x_onTup, x_onAgg, x_beq, initT0, initT1, iInt, iStr, iLenS, iLenL, iNot, iPick, iExt, Nat.zero_add, if_true, if_false, reduceIte, Nat.reduceEqDiff, Nat.reduceAdd, reduceCtorEq, q0, q1, q2, q3, q4, q5, q6, q7, q8, q9, h1, h2, iPick, Bool.false_or]
    exact leave_ret (v := .bool _) (by simp only [x_seq, x_reg, x_skip, x_ret, x_exit, x_cond, x_condT, x_condF, x_block, x_loop, x_nrm, x_then_ret, x_then_exit, x_out_nrm, x_out_ret, x_out_exit, x_endG, x_step0, x_stepG, x_isBT, x_isBF, Bool.not_true, Bool.not_false, x_recT, x_recF, x_mov, x_gP', x_gE', x_call, x_dyn, x_dynV, x_goR, x_put, x_put0, x_evc, x_evt, x_ats, x_evs, x_evs0, x_onInt, x_onStr, x_onBool, x_onNat, x_onPtr, x_onSlice, x_onSlice0, x_onCells, x_onTup, x_onAgg, x_beq, initT0, initT1, iInt, iStr, iLenS, iLenL, iNot, iPick, iExt, Nat.zero_add, if_true, if_false, reduceIte, Nat.reduceEqDiff, Nat.reduceAdd, reduceCtorEq]) (Nat.le_refl _) rfl
theorem both_spec : SpecOk Tryd.prog 37 (runeG hasU bothG) := by
  refine spec_of mixed tabR get_both (mem := memU) (G := 11) globals.symm (fun g b hb => memU_lt g b hb) fun args st v h => ?_
  obtain ⟨r, rfl, h1, h2, rfl⟩ := rune_some h
  exact ⟨hasU_tabs h2, rfl, rfl, 0 + 2, stU, both_ev 0 r stU h1 hasU_stU⟩
noncomputable def tableF : Tr Fs := tableR.set 37 (some (.spec (runeG hasU bothG)))
theorem tabF : TableOk Tryd.prog tableF := tableSpec tabR both_spec
end Go.Proofs.YtnjjkomopkgidaaDoor.Av
