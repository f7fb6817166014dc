/-
  lex.next: WHAT IT ANSWERS of every text: a known function.
-/
import Derived.Test.YtnebopkgnkemiaaGreatDoorNext
namespace Go.Proofs.YtnebopkgnkemiaaGreatDoor.Av
set_option linter.unusedVariables false
set_option linter.unusedSimpArgs false
set_option maxRecDepth 1000000
open Go
theorem tabsOk_congr {st st' : St} : ∀ {t : Tr Ob} {f : Nat → Nat}, AllT (fun n _ => st'.mem.get (f n) = st.mem.get (f n)) t → tabsOk st t f = true → tabsOk st' t f = true
  | .leaf, f, _, _ => rfl
  | .node l o r, f, ⟨h1, h2, h3⟩, h => by
    have h' : (tabsOk st l (fun n => f (2 * n + 1)) && (tabOk1 st o (f 0) && tabsOk st r (fun n => f (2 * n + 2)))) = true := h
    rw [Bool.and_eq_true, Bool.and_eq_true] at h'
    show (tabsOk st' l (fun n => f (2 * n + 1)) && (tabOk1 st' o (f 0) && tabsOk st' r (fun n => f (2 * n + 2)))) = true
    rw [tabsOk_congr (f := fun n => f (2 * n + 1)) h1 h'.1, tabsOk_congr (f := fun n => f (2 * n + 2)) h3 h'.2.2, Bool.true_and, Bool.and_true]
    cases o with
    | none => rfl
    | some b =>
      have h4 := h2 b rfl
      have h5 := h'.2.1
      unfold tabOk1 at *
      rw [h4]; exact h5
theorem mem0_allLt : AllT (fun n _ => n < 11) mem0 := by
  unfold mem0
  simp only [AllT, true_and, and_true, Option.some.injEq, forall_eq', reduceCtorEq, false_implies, implies_true]
  repeat' apply And.intro
  all_goals decide
theorem AllT.imp {α : Type} : ∀ {t : Tr α} {Q R : Nat → α → Prop}, (∀ n x, Q n x → R n x) → AllT Q t → AllT R t
  | .leaf, _, _, _, _ => trivial
  | .node l o r, Q, R, h, ⟨h1, h2, h3⟩ => ⟨AllT.imp (fun n x => h _ x) h1, fun x hx => h 0 x (h2 x hx), AllT.imp (fun n x => h _ x) h3⟩
theorem hasW_same {st st' : St} (h : hasW st = true) (hs : ∀ g, g < 11 → st'.mem.get g = st.mem.get g) : hasW st' = true :=
  tabsOk_congr (f := fun n => n) (AllT.imp (fun n _ hn => hs n hn) mem0_allLt) h
theorem hasW_new {st : St} {b : Ob} (h : hasW st = true) (ho : 11 ≤ st.next) : hasW (st.new b) = true :=
  hasW_same h fun g hg => by rw [new_get, if_neg (by omega)]
theorem hasW_put {st : St} {o : Nat} {b : Option Ob} (h : hasW st = true) (ho : 11 ≤ o) : hasW (st.put o b) = true :=
  hasW_same h fun g hg => by rw [put_get, if_neg (by omega)]
theorem hasW_S {st : St} (h : hasW st = true) : sameTab tab6 (st.mem.get 6) = true := by
  obtain ⟨e, vs, h1, _, e', h2, _⟩ := hasW_tabs h 6 _ (by kernel_rfl : mem0.get 6 = some (.cells 256 tab6 false))
  injection h1 with _ h1 _
  subst h1
  rw [h2]
  exact sameTab_self (by kernel_rfl)
theorem get_signQ : tableQ.get 71 = some (.spec signG) := by kernel_rfl
noncomputable def oneG (r : List UInt8 → V) (args : List V) (st : St) : Option V :=
  List.rec none (fun a l _ => a.onStr none (fun s => List.rec (bif hasW st && Nat.ble (lenL s) 281474976710656 then some (r s) else none) (fun _ _ _ => none) l)) args
theorem one_at (r : List UInt8 → V) (s : List UInt8) (st : St) (h : hasW st = true) (hs : s.length ≤ 281474976710656) : oneG r [.str s] st = some (r s) := by
  show (bif hasW st && Nat.ble (lenL s) 281474976710656 then some (r s) else none) = _
  rw [h, lenL_eq, bleT hs]; rfl
theorem one_spec {fns : Tr Fs} (htab : TableOk Tryz.prog fns) {f : Nat} {rs : List RV} {b : CEv} (hf : fns.get f = some (.mk rs b)) {r : List UInt8 → V} (hu : ∀ s, (r s).fine = true) (h : ∀ s, s.length ≤ 281474976710656 → ∃ n st', evF fns n f [.str s] st0 = some (.ret (r s), st')) : SpecOk Tryz.prog f (oneG r) := by
  refine spec_of mixed htab hf (mem := mem0) (G := 11) globals.symm (fun g b hb => mem0_lt g b hb) fun args st v hv => ?_
  obtain ⟨s, rfl, h2, rfl⟩ := oneStr_some (c := fun s => hasW st && Nat.ble (lenL s) 281474976710656) (r := r) hv
  rw [Bool.and_eq_true] at h2
  have h3 := ble_iff.1 h2.2
  rw [lenL_eq] at h3
  obtain ⟨n, st', h4⟩ := h s h3
  exact ⟨hasW_tabs h2.1, rfl, hu s, n, st', h4⟩
theorem nameTok_form (t : List UInt8) : ∃ k b, nameTok t = .tup [.agg [.int 63 k, .str t, .int 63 0, .int 63 0], .bool b] := by
  unfold nameTok
  cases (eqS t [87, 73, 84, 72, 73, 78] || eqS t [66, 89]) with
  | true => exact ⟨4, _, rfl⟩
  | false => exact ⟨1, _, rfl⟩
theorem numTok_form (t : List UInt8) : ∃ v b, numTok t = .tup [.agg [.int 63 2, .str t, .int 63 v, .int 63 0], .bool b] := by
  unfold numTok
  split
  · rename_i v _
    cases eqS (Lib.itoa v) t with
    | true => exact ⟨v, _, rfl⟩
    | false => exact ⟨0, _, rfl⟩
  · exact ⟨0, _, rfl⟩
theorem signV_form (s : List UInt8) : ∃ k t b, signV s = .tup [.agg [.int 63 k, .str t, .int 63 0, .int 63 0], .bool b] := by
  unfold signV
  cases fstPre s signs with
  | none => exact ⟨0, [], false, rfl⟩
  | some c => exact ⟨3, c, true, rfl⟩
theorem nm_spec : SpecOk Tryz.prog 68 (oneG fun s => nameTok (s.take (firstL bothG s))) :=
  one_spec tabQ get_nm (fun s => by obtain ⟨k, b, h⟩ := nameTok_form (s.take (firstL bothG s)); rw [h]; rfl) fun s hs => ⟨0 + 2, _, nm_ev 0 s (by omega)⟩
theorem num_spec : SpecOk Tryz.prog 70 (oneG fun s => numTok (s.take (firstL digitG s))) :=
  one_spec tabQ get_num (fun s => by obtain ⟨k, b, h⟩ := numTok_form (s.take (firstL digitG s)); rw [h]; rfl) fun s hs => ⟨0 + 2, _, num_ev 0 s hs⟩
noncomputable def tableS : Tr Fs := (tableQ.set 68 (some (.spec (oneG fun s => nameTok (s.take (firstL bothG s)))))).set 70 (some (.spec (oneG fun s => numTok (s.take (firstL digitG s)))))
theorem tabS : TableOk Tryz.prog tableS := tableSpec (tableSpec tabQ nm_spec) num_spec
theorem get_nmS : tableS.get 68 = some (.spec (oneG fun s => nameTok (s.take (firstL bothG s)))) := by kernel_rfl
theorem get_numS : tableS.get 70 = some (.spec (oneG fun s => numTok (s.take (firstL digitG s)))) := by kernel_rfl
theorem get_signS : tableS.get 71 = some (.spec signG) := by kernel_rfl
theorem get_firstS : tableS.get 66 = some (.spec firstG) := by kernel_rfl
theorem get_next : tableS.get 40 = some sh40 := by kernel_rfl
noncomputable def nextV (s : List UInt8) : V := bif Nat.blt 0 (firstL letterG s) then nameTok (s.take (firstL bothG s)) else bif Nat.blt 0 (firstL digitG s) then numTok (s.take (firstL digitG s)) else signV s
noncomputable def nB (c : List V) : St := st0.new (.cells 88 c true)
theorem nB_put (c c' : List V) : (nB c).put 11 (some (.cells 88 c' true)) = nB c' := by kernel_rfl
theorem nB_get (c : List V) : (nB c).mem.get 11 = some (.cells 88 c true) := by kernel_rfl
theorem nB_W (c : List V) : hasW (nB c) = true := hasW_new hasW_st0 (Nat.le_refl _)
section
variable {tm : Tr V} {x y : X} {a b c d : V}
noncomputable def stRB (c : List V) (n : Nat) (o : Option (List V)) : Ev := Option.rec none (fun l => bif Nat.beq (lenL l) n && Nat.ble (Nat.add 0 n) (lenL c) then some (.undef, nB (splice c 0 l)) else none) o
theorem stRB_4 (e f g h i j k l : V) : stRB [e, f, g, h] 4 (some [i, j, k, l]) = some (.undef, nB [i, j, k, l]) := Eq.trans (Eq.refl _) rfl
theorem stB {n : Nat} {c : List V} (hx : x.ev tm = .ref 1 11 0 0 0 false) : iStore n x y tm (nB c) = stRB c n (y.ev tm).cells? := by
  unfold iStore stRB
  rw [hx, x_onPtr, nB_get]
  cases (y.ev tm).cells? with
  | none => rfl
  | some l =>
    show (bif true && (Nat.beq (lenL l) n && Nat.ble (Nat.add 0 n) (lenL c)) then some (V.undef, (nB c).put 11 (some (.cells 88 (splice c 0 l) true))) else none) = _
    rw [nB_put, Bool.true_and]
theorem ldB (hx : x.ev tm = .ref 1 11 0 0 0 false) : iLoad true 4 x tm (nB [a, b, c, d]) = some (.cmp 2 0 [a, b, c, d]) := x_loadA (n := 4) (o := 11) (i := 0) hx (nB_get _) (Nat.le_refl _)
end
theorem next_ev (n : Nat) (s : List UInt8) (hs : s.length ≤ 281474976710656) : evF tableS (n + 2) 40 [.str s] st0 = some (.ret (nextV s), st0) := by
  have hself := st0_self
  have hn : st0.next = 11 := rfl
  have hU : hasU (nB tokZ) = true := hasW_U (nB_W _)
  have hB : st0.new (.cells 88 [.int 63 0, .str [], .int 63 0, .int 63 0] true) = nB tokZ := rfl
  have h1 : evF tableS (n + 1) 66 [.str s, .cmp 0 67 []] (nB tokZ) = some (.ret (.int 63 (.ofNat (firstL letterG s))), nB tokZ) := by
    refine ev_spec get_firstS ?_
    show (bif hasU (nB tokZ) && sameL [] [] then Option.rec none (fun p => some (V.int 63 (.ofNat (firstL p s)))) (predOf 67) else none) = _
    rw [hU]; rfl
  have h2 : evF tableS (n + 1) 66 [.str s, .cmp 0 69 []] (nB tokZ) = some (.ret (.int 63 (.ofNat (firstL digitG s))), nB tokZ) := by
    refine ev_spec get_firstS ?_
    show (bif hasU (nB tokZ) && sameL [] [] then Option.rec none (fun p => some (V.int 63 (.ofNat (firstL p s)))) (predOf 69) else none) = _
    rw [hU]; rfl
  have h3 : evF tableS (n + 1) 68 [.str s] (nB tokZ) = some (.ret (nameTok (s.take (firstL bothG s))), nB tokZ) := ev_spec get_nmS (one_at _ s _ (nB_W _) hs)
  have h4 : evF tableS (n + 1) 70 [.str s] (nB tokZ) = some (.ret (numTok (s.take (firstL digitG s))), nB tokZ) := ev_spec get_numS (one_at _ s _ (nB_W _) hs)
  have h5 : evF tableS (n + 1) 71 [.str s] (nB tokZ) = some (.ret (signV s), nB tokZ) := by
    refine ev_spec get_signS ?_
    show (bif sameTab tab6 ((nB tokZ).mem.get 6) then some (signV s) else none) = _
    rw [hasW_S (nB_W _)]; rfl
  have g1 : ltI 0 (Int.ofNat (firstL letterG s)) = Nat.blt 0 (firstL letterG s) := Eq.trans (Eq.refl _) rfl
  have g2 : ltI 0 (Int.ofNat (firstL digitG s)) = Nat.blt 0 (firstL digitG s) := Eq.trans (Eq.refl _) rfl
  rw [ev_mk get_next]
  unfold nextV
  cases hl : Nat.blt 0 (firstL letterG s) with
  | true =>
    rw [hl] at g1
    obtain ⟨k, b, hf⟩ := nameTok_form (s.take (firstL bothG s))
    rw [cond_true]
    rw [hf] at h3 ⊢
    simp only [c40_0, c40_1, yX, iInt, iStr, iLenS, iLenL, iNot, iPick, iExt, if_true, if_false, reduceIte, Nat.reduceEqDiff, Nat.reduceAdd, reduceCtorEq, yQ, iAlloc, hself, hn, new_next, hB, h1, fGtr, g1, h3, iExt, u_nth0, u_nth1, stB, cells_agg]
    unfold tokZ
    simp only [stRB_4, yX, iInt, iStr, iLenS, iLenL, iNot, iPick, iExt, if_true, if_false, reduceIte, Nat.reduceEqDiff, Nat.reduceAdd, reduceCtorEq]
    refine leave_ret2 ?_ ?_ (Nat.le_refl _) (by rfl)
    · rw [x_rvm, ldB (by simp only [yX, iInt, iStr, iLenS, iLenL, iNot, iPick, iExt, if_true, if_false, reduceIte, Nat.reduceEqDiff, Nat.reduceAdd, reduceCtorEq])]
    · rw [x_rvt]; simp only [yX, iInt, iStr, iLenS, iLenL, iNot, iPick, iExt, if_true, if_false, reduceIte, Nat.reduceEqDiff, Nat.reduceAdd, reduceCtorEq]
  | false =>
  rw [hl] at g1
  cases hd : Nat.blt 0 (firstL digitG s) with
  | true =>
    rw [hd] at g2
    obtain ⟨k, b, hf⟩ := numTok_form (s.take (firstL digitG s))
    rw [cond_false, cond_true]
    rw [hf] at h4 ⊢
    simp only [c40_0, c40_1, yX, iInt, iStr, iLenS, iLenL, iNot, iPick, iExt, if_true, if_false, reduceIte, Nat.reduceEqDiff, Nat.reduceAdd, reduceCtorEq, yQ, iAlloc, hself, hn, new_next, hB, h1, fGtr, g1, h2, g2, h4, iExt, u_nth0, u_nth1, stB, cells_agg]
    unfold tokZ
    simp only [stRB_4, yX, iInt, iStr, iLenS, iLenL, iNot, iPick, iExt, if_true, if_false, reduceIte, Nat.reduceEqDiff, Nat.reduceAdd, reduceCtorEq]
    refine leave_ret2 ?_ ?_ (Nat.le_refl _) (by rfl)
    · rw [x_rvm, ldB (by simp only [yX, iInt, iStr, iLenS, iLenL, iNot, iPick, iExt, if_true, if_false, reduceIte, Nat.reduceEqDiff, Nat.reduceAdd, reduceCtorEq])]
    · rw [x_rvt]; simp only [yX, iInt, iStr, iLenS, iLenL, iNot, iPick, iExt, if_true, if_false, reduceIte, Nat.reduceEqDiff, Nat.reduceAdd, reduceCtorEq]
  | false =>
    rw [hd] at g2
    obtain ⟨k, t, b, hf⟩ := signV_form s
    rw [cond_false, cond_false]
    rw [hf] at h5 ⊢
    simp only [c40_0, c40_1, c40_2, yX, iInt, iStr, iLenS, iLenL, iNot, iPick, iExt, if_true, if_false, reduceIte, Nat.reduceEqDiff, Nat.reduceAdd, reduceCtorEq, yQ, iAlloc, hself, hn, new_next, hB, h1, fGtr, g1, h2, g2, h5, iExt, u_nth0, u_nth1, stB, cells_agg]
    unfold tokZ
    simp only [stRB_4, yX, iInt, iStr, iLenS, iLenL, iNot, iPick, iExt, if_true, if_false, reduceIte, Nat.reduceEqDiff, Nat.reduceAdd, reduceCtorEq]
    refine leave_ret2 ?_ ?_ (Nat.le_refl _) (by rfl)
    · rw [x_rvm, ldB (by simp only [yX, iInt, iStr, iLenS, iLenL, iNot, iPick, iExt, if_true, if_false, reduceIte, Nat.reduceEqDiff, Nat.reduceAdd, reduceCtorEq])]
    · rw [x_rvt]; simp only [yX, iInt, iStr, iLenS, iLenL, iNot, iPick, iExt, if_true, if_false, reduceIte, Nat.reduceEqDiff, Nat.reduceAdd, reduceCtorEq]
theorem nextV_form (s : List UInt8) : ∃ k t v b, nextV s = .tup [.agg [.int 63 k, .str t, .int 63 v, .int 63 0], .bool b] := by
  unfold nextV
  cases Nat.blt 0 (firstL letterG s) with
  | true => obtain ⟨k, b, h⟩ := nameTok_form (s.take (firstL bothG s)); exact ⟨k, _, 0, b, h⟩
  | false =>
  cases Nat.blt 0 (firstL digitG s) with
  | true => obtain ⟨v, b, h⟩ := numTok_form (s.take (firstL digitG s)); exact ⟨2, _, v, b, h⟩
  | false => obtain ⟨k, t, b, h⟩ := signV_form s; exact ⟨k, t, 0, b, h⟩
theorem next_spec : SpecOk Tryz.prog 40 (oneG nextV) :=
  one_spec tabS get_next (fun s => by obtain ⟨k, t, v, b, h⟩ := nextV_form s; rw [h]; rfl) fun s hs => ⟨0 + 2, _, next_ev 0 s hs⟩
noncomputable def tableX : Tr Fs := tableS.set 40 (some (.spec (oneG nextV)))
theorem tabX : TableOk Tryz.prog tableX := tableSpec tabS next_spec
end Go.Proofs.YtnebopkgnkemiaaGreatDoor.Av
