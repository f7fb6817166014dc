/-
  parse.Parse IS KNOWN, of the texts of ParseNumbers.
-/
import Derived.Test.YtnebopkgnkemiaaGreatDoorPnU
import Derived.Test.YtnebopkgnkemiaaGreatDoorPnA
import Derived.Test.YtnebopkgnkemiaaGreatDoorPnT
namespace Go.Proofs.YtnebopkgnkemiaaGreatDoor.Av
set_option linter.unusedVariables false
set_option linter.unusedSimpArgs false
set_option maxRecDepth 1000000
open Go
theorem ext3 (u v w : V) (i : Nat) (tm : Tr V) (st : St) (x : X) (h : x.ev tm = .tup [u, v, w]) : iExt x i tm st = nth [u, v, w] i := by
  unfold iExt; rw [h, x_onTup]
theorem leave3m {st st' : St} {tm : Tr V} {i j k n : Nat} {u v w : V} (hu : ldW true n (X.ev tm (.t (pa i))) st' = some u) (hv : tm.at (pa j) = some v) (hw : tm.at (pa k) = some w) :
    leaveF st [.m (pa i) true n, .t (pa j), .t (pa k)] (some (.ret, tm, st')) = some (.ret (.tup [u, v, w]), back st (.ret (.tup [u, v, w])) st') := by
  have h1 : RV.ev tm st' (.m (pa i) true n) = some u := by rw [x_rvm, m_load, hu]
  have h2 : RV.ev tm st' (.t (pa j)) = some v := by rw [x_rvt, hv]
  have h3 : RV.ev tm st' (.t (pa k)) = some w := by rw [x_rvt, hw]
  have h4 : RV.evs tm st' [.m (pa i) true n, .t (pa j), .t (pa k)] = some [u, v, w] := by
    show (match RV.ev tm st' (.m (pa i) true n), (match RV.ev tm st' (.t (pa j)), (match RV.ev tm st' (.t (pa k)), (some [] : Option (List V)) with | some v, some vs => some (v :: vs) | _, _ => none) with | some v, some vs => some (v :: vs) | _, _ => none) with | some v, some vs => some (v :: vs) | _, _ => none) = _
    rw [h1, h2, h3]
  have h5 : resV tm st' [.m (pa i) true n, .t (pa j), .t (pa k)] = some (.tup [u, v, w]) := by
    show (match RV.evs tm st' [.m (pa i) true n, .t (pa j), .t (pa k)] with | some vs => some (V.tup vs) | none => none) = _
    rw [h4]
  show (Option.rec none (fun v => some (CR.ret v, back st (.ret v) st')) (resV tm st' [.m (pa i) true n, .t (pa j), .t (pa k)]) : Option (CR × St)) = _
  rw [h5]
theorem st_obQ {S : St} {qc : List V} (h : S.mem.get 11 = some obQ) (hl : qc.length = 3) : stW 3 (.ref 1 11 0 0 0 false) (.cmp 2 0 qc) S = some (.undef, S.put 11 (some (.cells 27 qc true))) := by
  show onCells none (fun e cs w => bif w && (Nat.beq (lenL qc) 3 && Nat.ble (Nat.add 0 3) (lenL cs)) then some (V.undef, S.put 11 (some (.cells e (splice cs 0 qc) true))) else none) (S.mem.get 11) = _
  rw [h]
  show (bif true && (Nat.beq (lenL qc) 3 && true) then some (V.undef, S.put 11 (some (.cells 27 (splice zQ 0 qc) true))) else none) = _
  have h1 : splice zQ 0 qc = qc := by
    rw [splice_eq, List.take_zero, List.nil_append, List.drop_of_length_le (by rw [hl]; show 3 ≤ 0 + 3; omega), List.append_nil]
  rw [lenL_eq, beqT hl, h1]; rfl
section
variable {g : List V → St → Option (CR × St)} {s : List UInt8} {qc : List V} {i e : Int} {SR : St}
theorem parse_step (hr : evF (pnTabP g) 402 10 [.str s, .cmp 0 11 []] stA1 = some (.ret (.tup [.cmp 2 0 qc, .int 63 i, .int 63 e]), SR)) (h11 : SR.mem.get 11 = some obQ) (hl : qc.length = 3) :
    evF (pnTabP g) 403 5 [.str s] st0 = some (.ret (.tup [.cmp 2 0 qc, .int 63 i, .int 63 e]), back st0 (.ret (.tup [.cmp 2 0 qc, .int 63 i, .int 63 e])) (SR.put 11 (some (.cells 27 qc true)))) := by
  have b1 : ∀ tm, iAlloc 27 [.ref 2 0 0 0 0 false, .int 63 0, .str []] tm { next := st0.next, low := st0.next, mem := st0.mem } = some (.ref 1 11 0 0 0 false, stA1) := fun tm => rfl
  have hs := st_obQ h11 hl
  have hp : ldW true 3 (.ref 1 11 0 0 0 false) (SR.put 11 (some (.cells 27 qc true))) = some (.cmp 2 0 qc) := by
    show onCells none (fun _ cs _ => part true cs 0 3) ((SR.put 11 _).mem.get 11) = _
    rw [put_get, if_pos rfl, x_onCells]; exact part_whole hl
  rw [ev_mk (get_parse g)]
  simp only [c5_0, c5_1, yY, iInt, iStr, iLenS, iLenL, iNot, iPick, iExt, if_true, if_false, reduceIte, Nat.reduceEqDiff, Nat.reduceAdd, reduceCtorEq, yQ, b1, hr, nt0, nt1, nt2, m_store, hs]
  exact leave3m (by simp only [yL, if_true, if_false, reduceIte, Nat.reduceEqDiff, reduceCtorEq]; exact hp) (by simp only [yL, if_true, if_false, reduceIte, Nat.reduceEqDiff, reduceCtorEq]) (by simp only [yL, if_true, if_false, reduceIte, Nat.reduceEqDiff, reduceCtorEq])
end
theorem dec_inj {m n : Nat} (hm : m < 9223372036854775808) (hn : n < 9223372036854775808) (h : Lib.decDigits m = Lib.decDigits n) : m = n := by
  have h1 := num_digits (m := m) (by omega)
  have h2 := num_digits (m := n) (by omega)
  rw [if_pos hm] at h1
  rw [if_pos hn, ← h, h1] at h2
  exact Int.ofNat.inj (Option.some.inj h2)
theorem dig_inj {a b : Nat} (ha : a < 10) (hb : b < 10) (h : UInt8.ofNat (48 + a) = UInt8.ofNat (48 + b)) : a = b := by
  have h1 := dig_ofNat ha
  have h2 := dig_ofNat hb
  rw [h, h2] at h1
  omega
theorem txt_inj {a b w a' b' w' : Nat} (ha : a < 8) (hb : b < 8) (hw : w < 9223372036854775808) (ha' : a' < 8) (hb' : b' < 8) (hw' : w' < 9223372036854775808) (h : txtP a b w = txtP a' b' w') : a = a' ∧ b = b' ∧ w = w' := by
  obtain ⟨h1, h2⟩ := List.append_inj (show preP a b ++ Lib.decDigits w = preP a' b' ++ Lib.decDigits w' from h) rfl
  unfold preP at h1
  simp only [List.cons.injEq, true_and, and_true] at h1
  exact ⟨dig_inj (by omega) (by omega) h1.1, dig_inj (by omega) (by omega) h1.2, dec_inj hw hw' h2⟩
noncomputable def pRes (a b w : Nat) : V :=
  if a < 1 ∨ 4 < a then .tup [.cmp 2 0 zQ, .int 63 4, .int 63 3]
  else if b < a ∨ 4 < b then .tup [.cmp 2 0 zQ, .int 63 6, .int 63 3]
  else if 1000000000 < w then .tup [.cmp 2 0 zQ, .int 63 16, .int 63 3]
  else .tup [.cmp 2 0 [.fsl 1 1 false [.int 63 1, .str [65], .str [97], .ref 2 0 0 0 0 false, .int 63 (Int.ofNat a), .int 63 (Int.ofNat b), .ref 2 0 0 0 0 false], .int 63 (Int.ofNat w), .str []], .int 63 (Int.ofNat (lenL (txtP a b w))), .int 63 0]
theorem size_itm : sizeT Tryz.prog 34 = some 7 := by kernel_rfl
theorem seeP_eq {r : Option (CR × St)} {c : CR} {o : Ob} (h : seeP r = some (c, some o)) : ∃ S, r = some (c, S) ∧ S.mem.get 11 = some o := by
  cases r with
  | none => exact nomatch h
  | some p => obtain ⟨c', s⟩ := p; injection h with h; injection h with h1 h2; exact ⟨s, by rw [show c' = c from h1], h2⟩
theorem seeR_eq {r : Option (CR × St)} {c : CR} {o o' : Ob} (h : seeR r = some (c, some o, some o')) : ∃ S, r = some (c, S) ∧ S.mem.get 11 = some o ∧ S.mem.get 27 = some o' := by
  cases r with
  | none => exact nomatch h
  | some p => obtain ⟨c', s⟩ := p; injection h with h; injection h with h1 h2; injection h2 with h2 h3; exact ⟨s, by rw [show c' = c from h1], h2, h3⟩
theorem hasW_B3 : hasW stB3 = true := by kernel_rfl
theorem toks_cells (a b w : Nat) : cellsA (toksP a b w) = tkC [UInt8.ofNat (48 + a)] [UInt8.ofNat (48 + b)] (Lib.decDigits w) a b w := by kernel_rfl
theorem parse_at {a b w : Nat} (ha : a < 8) (hb : b < 8) (hw : w < 9223372036854775808) {st : St} (hW : hasW st = true) : CallAt Tryz.prog 5 [.str (txtP a b w)] st (.ret (pRes a b w)) st := by
  obtain ⟨g, hm, hg⟩ := all_known
  have htab : TableOk Tryz.prog (pnTabP g) := tableMemo tab hm
  have hl20 := digits_len20 (m := w) (by omega)
  have hlen : (txtP a b w).length = 16 + (Lib.decDigits w).length := by unfold txtP; rw [List.length_append]; rfl
  have hall := all_txt (a := a) (b := b) (w := w) (by omega) (by omega) hw
  have hA : evF (pnTabP g) 401 21 [.str (txtP a b w)] stB3 = some (.ret (tupA [UInt8.ofNat (48 + a)] [UInt8.ofNat (48 + b)] (Lib.decDigits w) a b w (16 + (Lib.decDigits w).length)), stB3) := by
    have h1 := hg (pnTabP g) (by unfold pnTabP; rw [get_set, if_pos rfl]) 400 (s := txtP a b w) (ts := toksP a b w) (by omega) (by rw [hall]) (fun h => nomatch h) hasW_B3
    rw [hall] at h1
    unfold tokV at h1
    rw [toks_cells] at h1
    exact h1
  have hf := fnOk_of htab (get_parse g)
  unfold pRes
  by_cases h1 : a < 1 ∨ 4 < a
  · rw [if_pos h1]
    obtain ⟨S, k1, k2⟩ := seeP_eq (run_fa hA ha h1)
    exact flat_of globals.symm (mem := mem0) (fun g b hb => mem0_lt g b hb) (hasW_tabs hW) (Ars.flats rfl) (callAt_ev mixed htab hf (parse_step k1 k2 rfl)) (.flat _ rfl) rfl
  · rw [if_neg h1]
    by_cases h2 : b < a ∨ 4 < b
    · rw [if_pos h2]
      obtain ⟨S, k1, k2⟩ := seeP_eq (run_fb hA (by omega) (by omega) hb h2)
      exact flat_of globals.symm (mem := mem0) (fun g b hb => mem0_lt g b hb) (hasW_tabs hW) (Ars.flats rfl) (callAt_ev mixed htab hf (parse_step k1 k2 rfl)) (.flat _ rfl) rfl
    · rw [if_neg h2]
      have hab : okAB a b := okAB_of (by omega) (by omega) (by omega)
      by_cases h3 : 1000000000 < w
      · rw [if_pos h3]
        obtain ⟨S, k1, k2⟩ := seeP_eq (run_bad hA hab h3)
        exact flat_of globals.symm (mem := mem0) (fun g b hb => mem0_lt g b hb) (hasW_tabs hW) (Ars.flats rfl) (callAt_ev mixed htab hf (parse_step k1 k2 rfl)) (.flat _ rfl) rfl
      · rw [if_neg h3]
        obtain ⟨S, k1, k2, k3⟩ := seeR_eq (run_ok hA hab (by omega))
        have k4 := parse_step k1 k2 rfl
        obtain ⟨T, hT⟩ : ∃ T, T = back st0 (.ret (.tup [qV w, .int 63 (Int.ofNat (lenL (txtP a b w))), .int 63 0])) (S.put 11 (some (.cells 27 [aI, .int 63 (Int.ofNat w), .str []] true))) := ⟨_, rfl⟩
        have k5 : T.mem.get 27 = some (obI a b) := by
          rw [hT]
          unfold back
          have hu : (CR.ret (.tup [qV w, .int 63 (Int.ofNat (lenL (txtP a b w))), .int 63 0])).under st0.next = false := rfl
          rw [hu, Bool.and_false]
          show (S.put 11 _).mem.get 27 = _
          rw [put_get, if_neg (by decide)]; exact k3
        rw [← hT] at k4
        exact flat_of globals.symm (mem := mem0) (fun g b hb => mem0_lt g b hb) (hasW_tabs hW) (Ars.flats rfl) (callAt_ev mixed htab hf k4)
          (.cmp 3 _ _ 0 (by decide) (.cons (.cmp 2 _ _ 0 (by decide) (.cons (.fsl 27 0 1 1 true 34 7 _ _ (by decide) (fun h => nomatch h) k5 size_itm (by show 0 + 1 * 7 ≤ 7; decide) (frs_flats rfl)) (.cons (.flat _ rfl) (.cons (.flat _ rfl) .nil)))) (.cons (.flat _ rfl) (.cons (.flat _ rfl) .nil)))) rfl
theorem parse_known : ∃ g, MemoOk Tryz.prog 5 g ∧ ∀ fns : Tr Fs, fns.get 5 = some (.memo g) → ∀ (n : Nat) {a b w : Nat}, a < 8 → b < 8 → w < 9223372036854775808 → ∀ {st : St}, hasW st = true →
    evF fns (n + 1) 5 [.str (txtP a b w)] st = some (.ret (pRes a b w), st) := by
  obtain ⟨R, hR⟩ : ∃ R : List V → St → CR → St → Prop, R = fun args st r st' => CallAt Tryz.prog 5 args st r st' ∧ st' = st ∧ ∃ a b w, a < 8 ∧ b < 8 ∧ w < 9223372036854775808 ∧ args = [.str (txtP a b w)] ∧ r = .ret (pRes a b w) := ⟨_, rfl⟩
  refine ⟨memoG R, memo_of fun args st r st' h => by rw [hR] at h; exact h.1, fun fns hf n a b w ha hb hw st hW => ?_⟩
  obtain ⟨r, st'', h3, h4⟩ := memo_at (n := n) hf (args := [.str (txtP a b w)]) (st := st) (r := .ret (pRes a b w)) (st' := st) (by rw [hR]; exact ⟨parse_at ha hb hw hW, rfl, a, b, w, ha, hb, hw, rfl, rfl⟩)
  rw [hR] at h3
  obtain ⟨_, rfl, a', b', w', ha', hb', hw', h5, rfl⟩ := h3
  injection h5 with h5 _
  injection h5 with h5
  obtain ⟨rfl, rfl, rfl⟩ := txt_inj ha hb hw ha' hb' hw' h5
  exact h4
end Go.Proofs.YtnebopkgnkemiaaGreatDoor.Av
