/-
  lex.name, lex.number, lex.next: WHAT THEY ANSWER of every text: known functions.
-/
import Derived.Test.YtnebopkgnkemiaaGreatDoorFirstQ
namespace Go.Proofs.YtnebopkgnkemiaaGreatDoor.Av
set_option linter.unusedVariables false
set_option linter.unusedSimpArgs false
set_option maxRecDepth 1000000
open Go
theorem get_nm : tableQ.get 68 = some sh68 := by kernel_rfl
def tokZ : List V := [.int 63 0, .str [], .int 63 0, .int 63 0]
noncomputable def nameTok (t : List UInt8) : V := bif eqS t [87, 73, 84, 72, 73, 78] || eqS t [66, 89] then .tup [.agg [.int 63 4, .str t, .int 63 0, .int 63 0], .bool true] else .tup [.agg [.int 63 1, .str t, .int 63 0, .int 63 0], .bool (isNameL t)]
noncomputable def nA (b c : List V) : St := (st0.new (.cells 88 b true)).new (.cells 88 c true)
theorem nA_put1 (b c c' : List V) : (nA b c).put (11 + 1) (some (.cells 88 c' true)) = nA b c' := by kernel_rfl
theorem nA_put0 (b c b' : List V) : (nA b c).put 11 (some (.cells 88 b' true)) = nA b' c := by kernel_rfl
theorem nA_get1 (b c : List V) : (nA b c).mem.get (11 + 1) = some (.cells 88 c true) := by kernel_rfl
theorem nA_get0 (b c : List V) : (nA b c).mem.get 11 = some (.cells 88 b true) := by kernel_rfl
theorem nA_hasU (b c : List V) : hasU (nA b c) = true := hasU_new (hasU_new (hasW_U hasW_st0) (Nat.le_refl _)) (Nat.le_succ _)
noncomputable def stR1 (b c : List V) (n m : Nat) (o : Option (List V)) : Ev := Option.rec none (fun l => bif Nat.beq (lenL l) n && Nat.ble (Nat.add m n) (lenL c) then some (.undef, nA b (splice c m l)) else none) o
noncomputable def stR0 (b c : List V) (n m : Nat) (o : Option (List V)) : Ev := Option.rec none (fun l => bif Nat.beq (lenL l) n && Nat.ble (Nat.add m n) (lenL b) then some (.undef, nA (splice b m l) c) else none) o
theorem stR1_4 (b : List V) (e f g h i j k l : V) : stR1 b [e, f, g, h] 4 0 (some [i, j, k, l]) = some (.undef, nA b [i, j, k, l]) := Eq.trans (Eq.refl _) rfl
theorem stR1_0 (b : List V) (e f g h i : V) : stR1 b [e, f, g, h] 1 0 (some [i]) = some (.undef, nA b [i, f, g, h]) := Eq.trans (Eq.refl _) rfl
theorem stR1_2 (b : List V) (e f g h i : V) : stR1 b [e, f, g, h] 1 2 (some [i]) = some (.undef, nA b [e, f, i, h]) := Eq.trans (Eq.refl _) rfl
theorem stR0_4 (c : List V) (e f g h i j k l : V) : stR0 [e, f, g, h] c 4 0 (some [i, j, k, l]) = some (.undef, nA [i, j, k, l] c) := Eq.trans (Eq.refl _) rfl
theorem cells_agg (l : List V) : (V.cmp 2 0 l).cells? = some l := Eq.trans (Eq.refl _) rfl
section
variable {tm : Tr V} {x y : X} {a b c d e f g h i j k l : V}
theorem st_gen1 (m n : Nat) (b c : List V) (hx : x.ev tm = .ref 1 (11 + 1) m 0 0 false) : iStore n x y tm (nA b c) = stR1 b c n m (y.ev tm).cells? := by
  unfold iStore stR1
  rw [hx, x_onPtr, nA_get1]
  cases (y.ev tm).cells? with
  | none => rfl
  | some l =>
    show (bif true && (Nat.beq (lenL l) n && Nat.ble (Nat.add m n) (lenL c)) then some (V.undef, (nA b c).put (11 + 1) (some (.cells 88 (splice c m l) true))) else none) = _
    rw [nA_put1, Bool.true_and]
theorem st_gen0 (m n : Nat) (b c : List V) (hx : x.ev tm = .ref 1 11 m 0 0 false) : iStore n x y tm (nA b c) = stR0 b c n m (y.ev tm).cells? := by
  unfold iStore stR0
  rw [hx, x_onPtr, nA_get0]
  cases (y.ev tm).cells? with
  | none => rfl
  | some l =>
    show (bif true && (Nat.beq (lenL l) n && Nat.ble (Nat.add m n) (lenL b)) then some (V.undef, (nA b c).put 11 (some (.cells 88 (splice b m l) true))) else none) = _
    rw [nA_put0, Bool.true_and]
theorem st1_0 {n : Nat} {b c : List V} (hx : x.ev tm = .ref 1 (11 + 1) 0 0 0 false) : iStore n x y tm (nA b c) = stR1 b c n 0 (y.ev tm).cells? := st_gen1 0 n b c hx
theorem st1_2 {n : Nat} {b c : List V} (hx : x.ev tm = .ref 1 (11 + 1) 2 0 0 false) : iStore n x y tm (nA b c) = stR1 b c n 2 (y.ev tm).cells? := st_gen1 2 n b c hx
theorem st0_0 {n : Nat} {b c : List V} (hx : x.ev tm = .ref 1 11 0 0 0 false) : iStore n x y tm (nA b c) = stR0 b c n 0 (y.ev tm).cells? := st_gen0 0 n b c hx
theorem ld_text (hx : x.ev tm = .ref 1 (11 + 1) 1 0 0 false) : iLoad false 1 x tm (nA [a, b, c, d] [e, f, g, h]) = some f := x_load1 (o := 11 + 1) (i := 1) hx (nA_get1 _ _) rfl
theorem ld_all (hx : x.ev tm = .ref 1 (11 + 1) 0 0 0 false) : iLoad true 4 x tm (nA [a, b, c, d] [e, f, g, h]) = some (.cmp 2 0 [e, f, g, h]) := x_loadA (n := 4) (o := 11 + 1) (i := 0) hx (nA_get1 _ _) (Nat.le_refl _)
theorem ld_res (hx : x.ev tm = .ref 1 11 0 0 0 false) : iLoad true 4 x tm (nA [a, b, c, d] [e, f, g, h]) = some (.cmp 2 0 [a, b, c, d]) := x_loadA (n := 4) (o := 11) (i := 0) hx (nA_get0 _ _) (Nat.le_refl _)
theorem x_build2 {p : Pa} {k : Int} : fillV tm [.int 63 0, .str [], .int 63 0, .int 63 0] [(0, 1, .c (.int 63 k)), (1, 1, .t p)] = Option.rec none (fun cs => bif Nat.beq (lenL cs) 1 then some (splice [.int 63 k, .str [], .int 63 0, .int 63 0] 1 cs) else none) (X.ev tm (.t p)).cells? := by
  have h' : fillV tm [.int 63 0, .str [], .int 63 0, .int 63 0] [(0, 1, .c (.int 63 k)), (1, 1, .t p)] = (match (X.ev tm (.t p)).cells? with
    | none => none
    | some cs => bif Nat.beq (lenL cs) 1 && Nat.ble (Nat.add 1 1) (lenL (splice [V.int 63 0, .str [], .int 63 0, .int 63 0] 0 [.int 63 k])) then some (splice (splice [V.int 63 0, .str [], .int 63 0, .int 63 0] 0 [.int 63 k]) 1 cs) else none) := rfl
  rw [h']
  cases (X.ev tm (.t p)).cells? with
  | none => rfl
  | some cs =>
    show (bif Nat.beq (lenL cs) 1 && true then some (splice [V.int 63 k, .str [], .int 63 0, .int 63 0] 1 cs) else none) = _
    rw [Bool.and_true]
theorem x_build2s (k : Int) (t : List UInt8) : (Option.rec none (fun cs => bif Nat.beq (lenL cs) 1 then some (splice [V.int 63 k, .str [], .int 63 0, .int 63 0] 1 cs) else none) (V.str t).cells? : Option (List V)) = some [.int 63 k, .str t, .int 63 0, .int 63 0] := Eq.trans (Eq.refl _) rfl
theorem x_fad {off : Nat} (st : St) : iFad off x tm st = (x.ev tm).onPtr ((x.ev tm).onFptr none (fun t l => some (.cmp t 0 (dropL l off)))) (fun o i => some (.ptr o (Nat.add i off))) := Eq.trans (Eq.refl _) rfl
end
theorem st0_self : ({ next := 11, low := 11, mem := st0.mem } : St) = st0 := rfl
theorem nm_ev (n : Nat) (s : List UInt8) (hbig : s.length ≤ 9223372036854775807) : evF tableQ (n + 2) 68 [.str s] st0 = some (.ret (nameTok (s.take (firstL bothG s))), st0) := by
  have hself := st0_self
  have hn : st0.next = 11 := rfl
  have hf := firstQ_ev n (g := 86) (p := bothG) rfl s (st0.new (.cells 88 tokZ true)) (hasU_new (hasW_U hasW_st0) (Nat.le_refl _))
  have b1 : Nat.ble 0 (firstL bothG s) = true := bleT (Nat.zero_le _)
  have b2 : Nat.ble (firstL bothG s) s.length = true := bleT (firstL_le _ s)
  have b3 : dropL (takeL s (firstL bothG s)) 0 = s.take (firstL bothG s) := by rw [dropL_eq, takeL_eq]; rfl
  have hlen : (s.take (firstL bothG s)).length ≤ 9223372036854775807 := by rw [List.length_take]; omega
  generalize s.take (firstL bothG s) = t at *
  have hA0 : (st0.new (.cells 88 tokZ true)).new (.cells 88 tokZ true) = nA [.int 63 0, .str [], .int 63 0, .int 63 0] [.int 63 0, .str [], .int 63 0, .int 63 0] := rfl
  have hnq := nameQ_ev n t (nA [.int 63 0, .str [], .int 63 0, .int 63 0] [.int 63 1, .str t, .int 63 0, .int 63 0]).fresh (by have := nA_hasU [.int 63 0, .str [], .int 63 0, .int 63 0] [.int 63 1, .str t, .int 63 0, .int 63 0]; unfold hasU at *; exact this) hlen
  unfold tokZ at hf hA0
  rw [ev_mk get_nm]
  simp only [c68_0, c68_1, yX, iInt, iStr, iLenS, iLenL, iNot, iPick, iExt, if_true, if_false, reduceIte, Nat.reduceEqDiff, Nat.reduceAdd, reduceCtorEq, yQ, iAlloc, hself, hn, new_next, hf, iSls, optN, x_onNat, x_lenS, b1, b2, b3, Bool.and_self, cond_true, iBuild, Nat.reduceAdd, hA0, x_build2, x_build2s, st1_0, cells_agg, stR1_4]
  unfold nameTok
  cases hw : eqS t [87, 73, 84, 72, 73, 78] with
  | true =>
    simp only [c68_2, c68_3, yY, iInt, iStr, iLenS, iLenL, iNot, iPick, iExt, if_true, if_false, reduceIte, Nat.reduceEqDiff, Nat.reduceAdd, reduceCtorEq, yQ, x_fad, Nat.reduceAdd, ld_text, sEql, hw, iPick, st1_0, st0_0, cells_agg, cells_int, stR1_0, stR0_4, ld_all, Bool.true_or, cond_true]
    refine leave_ret2 ?_ ?_ (Nat.le_refl _) (by rfl)
    · rw [x_rvm, ld_res (by simp only [yX, iInt, iStr, iLenS, iLenL, iNot, iPick, iExt, if_true, if_false, reduceIte, Nat.reduceEqDiff, Nat.reduceAdd, reduceCtorEq])]
    · rw [x_rvt]; simp only [yX, iInt, iStr, iLenS, iLenL, iNot, iPick, iExt, if_true, if_false, reduceIte, Nat.reduceEqDiff, Nat.reduceAdd, reduceCtorEq]
  | false =>
  cases hb : eqS t [66, 89] with
  | true =>
    simp only [c68_2, c68_3, yY, iInt, iStr, iLenS, iLenL, iNot, iPick, iExt, if_true, if_false, reduceIte, Nat.reduceEqDiff, Nat.reduceAdd, reduceCtorEq, yQ, x_fad, Nat.reduceAdd, ld_text, sEql, hw, hb, iPick, st1_0, st0_0, cells_agg, cells_int, stR1_0, stR0_4, ld_all, Bool.false_or, cond_true]
    refine leave_ret2 ?_ ?_ (Nat.le_refl _) (by rfl)
    · rw [x_rvm, ld_res (by simp only [yX, iInt, iStr, iLenS, iLenL, iNot, iPick, iExt, if_true, if_false, reduceIte, Nat.reduceEqDiff, Nat.reduceAdd, reduceCtorEq])]
    · rw [x_rvt]; simp only [yX, iInt, iStr, iLenS, iLenL, iNot, iPick, iExt, if_true, if_false, reduceIte, Nat.reduceEqDiff, Nat.reduceAdd, reduceCtorEq]
  | false =>
    simp only [c68_2, c68_3, c68_4, yY, iInt, iStr, iLenS, iLenL, iNot, iPick, iExt, if_true, if_false, reduceIte, Nat.reduceEqDiff, Nat.reduceAdd, reduceCtorEq, yD, yQ, x_fad, Nat.reduceAdd, ld_text, sEql, hw, hb, iPick, ld_all, Bool.false_or, cond_false]
    rw [x_stepC0 (v := .bool (isNameL t)) (x_oneC (by simp only [yX, iInt, iStr, iLenS, iLenL, iNot, iPick, iExt, if_true, if_false, reduceIte, Nat.reduceEqDiff, Nat.reduceAdd, reduceCtorEq, yD]; exact hnq)) (Nat.le_succ_of_le (Nat.le_succ _))]
    simp only [yX, iInt, iStr, iLenS, iLenL, iNot, iPick, iExt, if_true, if_false, reduceIte, Nat.reduceEqDiff, Nat.reduceAdd, reduceCtorEq, yD, st0_0, cells_agg, stR0_4]
    refine leave_ret2 ?_ ?_ (Nat.le_refl _) (by rfl)
    · rw [x_rvm, ld_res (by simp only [yX, iInt, iStr, iLenS, iLenL, iNot, iPick, iExt, if_true, if_false, reduceIte, Nat.reduceEqDiff, Nat.reduceAdd, reduceCtorEq])]
    · rw [x_rvt]; simp only [yX, iInt, iStr, iLenS, iLenL, iNot, iPick, iExt, if_true, if_false, reduceIte, Nat.reduceEqDiff, Nat.reduceAdd, reduceCtorEq]
theorem st0_get_lt {b c : List V} {g : Nat} (h : g < 11) : (nA b c).mem.get g = st0.mem.get g := by
  unfold nA
  rw [new_get, new_get, if_neg (show ¬ g = (st0.new _).next from by rw [new_next]; show ¬ g = 11 + 1; omega), if_neg (show ¬ g = st0.next from by show ¬ g = 11; omega)]
theorem hasE_st0 : hasE 7 st0 = true ∧ hasE 8 st0 = true := ⟨by kernel_rfl, by kernel_rfl⟩
theorem nA_E (b c : List V) : hasE 7 (nA b c) = true ∧ hasE 8 (nA b c) = true := by
  unfold hasE
  rw [st0_get_lt (by decide), st0_get_lt (by decide)]
  exact hasE_st0
theorem pow_st0 : sameTabE tab0 (st0.mem.get 0) = true := by kernel_rfl
theorem nA_P (b c : List V) : sameTabE tab0 ((nA b c).mem.get 0) = true := by
  rw [st0_get_lt (by decide)]
  exact pow_st0
theorem get_pintQ : tableQ.get 87 = some (.spec pintG) := by kernel_rfl
theorem get_fintQ : tableQ.get 17 = some (.spec fintG) := by kernel_rfl
theorem pintQ_ev (n : Nat) (s : List UInt8) (b c : List V) (hs : s.length ≤ 281474976710656) : evF tableQ (n + 1) 87 [.str s, .int 63 10, .int 63 64] (nA b c) = some (.ret (pintV s), nA b c) := by
  refine ev_spec get_pintQ ?_
  have h : pintC s (nA b c) = true := by
    unfold pintC
    rw [(nA_E b c).1, (nA_E b c).2, lenL_eq, bleT hs]; rfl
  show (bif sameL [.int 63 10, .int 63 64] [.int 63 10, .int 63 64] && pintC s (nA b c) then some (pintV s) else none) = _
  rw [h]; rfl
theorem fintQ_ev (n : Nat) (v : Int) (b c : List V) (h0 : -9223372036854775808 ≤ v) (h1 : v ≤ 9223372036854775807) : evF tableQ (n + 1) 17 [.int 63 v, .int 63 10] (nA b c).fresh = some (.ret (.str (Lib.itoa v)), (nA b c).fresh) := by
  refine ev_spec get_fintQ ?_
  have h : fintC v (nA b c).fresh = true := by
    unfold fintC
    rw [ltI_eq, ltI_eq]
    have h2 : sameTabE tab0 ((nA b c).fresh.mem.get 0) = true := nA_P b c
    rw [h2, decide_eq_false (by omega), decide_eq_false (by show ¬ (9223372036854775807 : Int) < v; omega)]; rfl
  show (bif Nat.beq 63 63 && (sameL [.int 63 10] [.int 63 10] && fintC v (nA b c).fresh) then some (V.str (Lib.itoa v)) else none) = _
  rw [h]; rfl
noncomputable def numTok (t : List UInt8) : V := match Lib.parseIntB 64 t with
  | .ok v => bif eqS (Lib.itoa v) t then .tup [.agg [.int 63 2, .str t, .int 63 v, .int 63 0], .bool true] else .tup [.agg [.int 63 2, .str t, .int 63 0, .int 63 0], .bool false]
  | _ => .tup [.agg [.int 63 2, .str t, .int 63 0, .int 63 0], .bool false]
theorem iEqn_nil {tm : Tr V} {st : St} {x : X} (h : x.ev tm = .ref 7 0 0 0 0 false) : iEqn true 7 101 x (.c (.ref 7 0 0 0 0 false)) tm st = some (.bool false) := by
  unfold iEqn; rw [h]; rfl
theorem iEqn_wild {tm : Tr V} {st : St} {x : X} (h : x.ev tm = .cmp 1 0 []) : iEqn true 7 101 x (.c (.ref 7 0 0 0 0 false)) tm st = some (.bool true) := by
  unfold iEqn; rw [h]; rfl
theorem get_num : tableQ.get 70 = some sh70 := by kernel_rfl
theorem num_ev (n : Nat) (s : List UInt8) (hbig : s.length ≤ 281474976710656) : evF tableQ (n + 2) 70 [.str s] st0 = some (.ret (numTok (s.take (firstL digitG s))), st0) := by
  have hself := st0_self
  have hn : st0.next = 11 := rfl
  have hf := firstQ_ev n (g := 69) (p := digitG) rfl s (st0.new (.cells 88 tokZ true)) (hasU_new (hasW_U hasW_st0) (Nat.le_refl _))
  have b1 : Nat.ble 0 (firstL digitG s) = true := bleT (Nat.zero_le _)
  have b2 : Nat.ble (firstL digitG s) s.length = true := bleT (firstL_le _ s)
  have b3 : dropL (takeL s (firstL digitG s)) 0 = s.take (firstL digitG s) := by rw [dropL_eq, takeL_eq]; rfl
  have hlen : (s.take (firstL digitG s)).length ≤ 281474976710656 := by rw [List.length_take]; omega
  generalize s.take (firstL digitG s) = t at *
  have hA0 : (st0.new (.cells 88 tokZ true)).new (.cells 88 tokZ true) = nA [.int 63 0, .str [], .int 63 0, .int 63 0] [.int 63 0, .str [], .int 63 0, .int 63 0] := rfl
  have hp := pintQ_ev n t [.int 63 0, .str [], .int 63 0, .int 63 0] [.int 63 2, .str t, .int 63 0, .int 63 0] hlen
  unfold tokZ at hf hA0
  rw [ev_mk get_num]
  simp only [c70_0, c70_1, c70_2, yX, iInt, iStr, iLenS, iLenL, iNot, iPick, iExt, if_true, if_false, reduceIte, Nat.reduceEqDiff, Nat.reduceAdd, reduceCtorEq, yQ, iAlloc, hself, hn, new_next, hf, iSls, optN, x_onNat, x_lenS, b1, b2, b3, Bool.and_self, cond_true, iBuild, Nat.reduceAdd, hA0, x_build2, x_build2s, st1_0, cells_agg, stR1_4, x_fad, ld_text, hp]
  unfold numTok
  match hq : Lib.parseIntB 64 t with
  | Lib.NumEnd.ok v =>
    have hpv : pintV t = .tup [.int 63 v, .ref 7 0 0 0 0 false] := by unfold pintV; rw [hq]
    obtain ⟨v0, v1⟩ := Lib.parseIntB_bounds hq
    have v2 : -9223372036854775808 ≤ v := by simpa using v0
    have v3 : v < 9223372036854775808 := by simpa using v1
    have hfi := fintQ_ev n v [.int 63 0, .str [], .int 63 0, .int 63 0] [.int 63 2, .str t, .int 63 0, .int 63 0] v2 (by omega)
    simp only [hpv, x_onTup, u_nth0, u_nth1]
    simp only [c70_3, yY, iInt, iStr, iLenS, iLenL, iNot, iPick, iExt, if_true, if_false, reduceIte, Nat.reduceEqDiff, Nat.reduceAdd, reduceCtorEq, yD, yQ, iEqn_nil, x_fad, ld_text]
    rw [x_stepC0 (v := .str (Lib.itoa v)) (x_oneC (by simp only [yX, iInt, iStr, iLenS, iLenL, iNot, iPick, iExt, if_true, if_false, reduceIte, Nat.reduceEqDiff, Nat.reduceAdd, reduceCtorEq, yD]; exact hfi)) (Nat.le_succ_of_le (Nat.le_succ _))]
    cases he : eqS (Lib.itoa v) t with
    | true =>
      simp only [yY, iInt, iStr, iLenS, iLenL, iNot, iPick, iExt, if_true, if_false, reduceIte, Nat.reduceEqDiff, Nat.reduceAdd, reduceCtorEq, yD, sNeq, he, iPick]
      simp only [c70_4, c70_5, c70_6, yY, iInt, iStr, iLenS, iLenL, iNot, iPick, iExt, if_true, if_false, reduceIte, Nat.reduceEqDiff, Nat.reduceAdd, reduceCtorEq, yD, yQ, x_fad, Nat.reduceAdd, st1_2, st0_0, cells_agg, cells_int, stR1_2, stR0_4, ld_all]
      rw [cond_true]
      refine leave_ret2 ?_ ?_ (Nat.le_refl _) (by rfl)
      · rw [x_rvm, ld_res (by simp only [yX, iInt, iStr, iLenS, iLenL, iNot, iPick, iExt, if_true, if_false, reduceIte, Nat.reduceEqDiff, Nat.reduceAdd, reduceCtorEq])]
      · rw [x_rvt]; simp only [yX, iInt, iStr, iLenS, iLenL, iNot, iPick, iExt, if_true, if_false, reduceIte, Nat.reduceEqDiff, Nat.reduceAdd, reduceCtorEq]
    | false =>
      simp only [yY, iInt, iStr, iLenS, iLenL, iNot, iPick, iExt, if_true, if_false, reduceIte, Nat.reduceEqDiff, Nat.reduceAdd, reduceCtorEq, yD, sNeq, he, iPick]
      simp only [c70_4, yY, iInt, iStr, iLenS, iLenL, iNot, iPick, iExt, if_true, if_false, reduceIte, Nat.reduceEqDiff, Nat.reduceAdd, reduceCtorEq, yD, yQ, x_fad, Nat.reduceAdd, st0_0, cells_agg, stR0_4, ld_all]
      rw [cond_false]
      refine leave_ret2 ?_ ?_ (Nat.le_refl _) (by rfl)
      · rw [x_rvm, ld_res (by simp only [yX, iInt, iStr, iLenS, iLenL, iNot, iPick, iExt, if_true, if_false, reduceIte, Nat.reduceEqDiff, Nat.reduceAdd, reduceCtorEq])]
      · rw [x_rvt]; simp only [yX, iInt, iStr, iLenS, iLenL, iNot, iPick, iExt, if_true, if_false, reduceIte, Nat.reduceEqDiff, Nat.reduceAdd, reduceCtorEq]
  | Lib.NumEnd.range =>
    have hpv : pintV t = .tup [.int 63 (Lib.intSat 64 t), .cmp 1 0 []] := by unfold pintV; rw [hq]
    simp only [hpv, x_onTup, u_nth0, u_nth1]
    simp only [c70_3, c70_4, yY, iInt, iStr, iLenS, iLenL, iNot, iPick, iExt, if_true, if_false, reduceIte, Nat.reduceEqDiff, Nat.reduceAdd, reduceCtorEq, yD, yQ, iEqn_wild, iPick, x_fad, Nat.reduceAdd, st0_0, cells_agg, stR0_4, ld_all]
    refine leave_ret2 ?_ ?_ (Nat.le_refl _) (by rfl)
    · rw [x_rvm, ld_res (by simp only [yX, iInt, iStr, iLenS, iLenL, iNot, iPick, iExt, if_true, if_false, reduceIte, Nat.reduceEqDiff, Nat.reduceAdd, reduceCtorEq])]
    · rw [x_rvt]; simp only [yX, iInt, iStr, iLenS, iLenL, iNot, iPick, iExt, if_true, if_false, reduceIte, Nat.reduceEqDiff, Nat.reduceAdd, reduceCtorEq]
  | Lib.NumEnd.syntax =>
    have hpv : pintV t = .tup [.int 63 0, .cmp 1 0 []] := by unfold pintV; rw [hq]
    simp only [hpv, x_onTup, u_nth0, u_nth1]
    simp only [c70_3, c70_4, yY, iInt, iStr, iLenS, iLenL, iNot, iPick, iExt, if_true, if_false, reduceIte, Nat.reduceEqDiff, Nat.reduceAdd, reduceCtorEq, yD, yQ, iEqn_wild, iPick, x_fad, Nat.reduceAdd, st0_0, cells_agg, stR0_4, ld_all]
    refine leave_ret2 ?_ ?_ (Nat.le_refl _) (by rfl)
    · rw [x_rvm, ld_res (by simp only [yX, iInt, iStr, iLenS, iLenL, iNot, iPick, iExt, if_true, if_false, reduceIte, Nat.reduceEqDiff, Nat.reduceAdd, reduceCtorEq])]
    · rw [x_rvt]; simp only [yX, iInt, iStr, iLenS, iLenL, iNot, iPick, iExt, if_true, if_false, reduceIte, Nat.reduceEqDiff, Nat.reduceAdd, reduceCtorEq]
end Go.Proofs.YtnebopkgnkemiaaGreatDoor.Av
