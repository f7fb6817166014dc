/-
  lex.sign: WHAT IT ANSWERS.
-/
import Derived.Test.YtnebopkgnkemiaaGreatDoorIdx
import Derived.Test.YtnebopkgnkemiaaGreatDoorStart
import Derived.Test.YtnebopkgnkemiaaGreatDoorIc
namespace Go.Proofs.YtnebopkgnkemiaaGreatDoor.Av
set_option linter.unusedVariables false
set_option linter.unusedSimpArgs false
set_option maxRecDepth 100000
open Go
def signs0 : List (List UInt8) := [[59], [33], [124], [40], [41], [123], [125], [44], [91], [93], [46], [43], [45], [42], [47], [37], [60], [62], [61, 61], [33, 61], [60, 61], [62, 61], [38, 38], [124, 124]]
def signs : List (List UInt8) := [[61, 61], [33, 61], [60, 61], [62, 61], [38, 38], [124, 124], [59], [33], [124], [40], [41], [123], [125], [44], [91], [93], [46], [43], [45], [42], [47], [37], [60], [62]]
noncomputable def fstPre (s : List UInt8) (l : List (List UInt8)) : Option (List UInt8) := List.rec none (fun c _ ih => bif isPre c s then some c else ih) l
theorem fst_idx (s : List UInt8) : ∀ (l : List (List UInt8)) (i : Nat), (fstPre s l = none ∧ fidx (fun c => isPre c s) l i = .negSucc 0) ∨ ∃ j c, l[j]? = some c ∧ fstPre s l = some c ∧ fidx (fun c => isPre c s) l i = .ofNat (i + j)
  | [], i => .inl ⟨rfl, rfl⟩
  | x :: l, i => by
    have h1 : fstPre s (x :: l) = bif isPre x s then some x else fstPre s l := rfl
    rw [h1, fidx_cons]
    cases hx : isPre x s with
    | true => exact .inr ⟨0, x, rfl, rfl, rfl⟩
    | false =>
      rcases fst_idx s l (i + 1) with ⟨h2, h3⟩ | ⟨j, c, h2, h3, h4⟩
      · exact .inl ⟨h2, h3⟩
      · exact .inr ⟨j + 1, c, by simpa using h2, h3, by rw [show i + (j + 1) = i + 1 + j by omega]; exact h4⟩
noncomputable def signV (s : List UInt8) : V := Option.rec (.tup [.agg [.int 63 0, .str [], .int 63 0, .int 63 0], .bool false]) (fun c => .tup [.agg [.int 63 3, .str c, .int 63 0, .int 63 0], .bool true]) (fstPre s signs)
noncomputable def memS : Tr Ob := Tr.leaf.set 6 (some (.cells 0 tab6 false))
noncomputable def stS : St := { next := 11, low := 11, mem := memS }
noncomputable def sA (e1 e2 : Nat) (z : List V) (s : List UInt8) : St := (stS.new (.cells e1 [.str s] true)).new (.cells e2 z true)
noncomputable def sB (e1 e2 : Nat) (z : List V) (s : List UInt8) : St := (sA e1 e2 z s).new (.cells 9 (signs0.map .str) true)
noncomputable def sC (e1 e2 : Nat) (z : List V) (s : List UInt8) : St := (sA e1 e2 z s).new (.cells 9 (signs.map .str) true)
def L0 : Nat := 11 + 2
theorem signs_ev (e1 e2 : Nat) (z : List V) (s : List UInt8) : evF table 1000 88 [] (sA e1 e2 z s) = some (.ret (.ref 3 (11 + 2) 0 24 24 true), sB e1 e2 z s) := by kernel_rfl
theorem sort_ev (e1 e2 : Nat) (z : List V) (s : List UInt8) : evF table 1000 89 [.ref 3 (11 + 2) 0 24 24 true, .cmp 0 90 []] (sB e1 e2 z s) = some (.ret .undef, sC e1 e2 z s) := by kernel_rfl
theorem get_sign2 : table.get 92 = some sh92 := by kernel_rfl
theorem get_sign : table.get 71 = some sh71 := by kernel_rfl
theorem sign2_ev (n : Nat) (s x : List UInt8) (st : St) (e : Nat) (w : Bool) (q : Nat) (hg : st.mem.get q = some (.cells e [.str s] w)) : evF table (n + 3) 92 [.str x, .ref 1 q 0 0 0 false] st = some (.ret (.bool (isPre x s)), st) := by
  rw [ev_mk get_sign2]
  simp only [c92_0, c92_1, yX, iInt, iStr, iLenS, iLenL, iNot, iPick, iExt, if_true, if_false, reduceIte, Nat.reduceEqDiff, Nat.reduceAdd, reduceCtorEq, yQ, iLoad, hg, part, nth_eq, List.getElem?_cons_zero, pre_ev]
  refine leave_ret (v := .bool _) ?_ (Nat.le_refl _) rfl
  simp only [yX, iInt, iStr, iLenS, iLenL, iNot, iPick, iExt, if_true, if_false, reduceIte, Nat.reduceEqDiff, Nat.reduceAdd, reduceCtorEq, yQ]
theorem x_cells_str (s : List UInt8) : (V.str s).cells? = some [.str s] := Eq.trans (Eq.refl _) rfl
theorem stS_self : ({ next := stS.next, low := stS.next, mem := stS.mem } : St) = stS := rfl
theorem x_agg_cells (l : List V) : (V.cmp 2 0 l).cells? = some l := Eq.trans (Eq.refl _) rfl
theorem idx_sign (e1 e2 : Nat) (z : List V) (s : List UInt8) : evF table 1000 91 [.ref 3 (11 + 2) 0 24 24 true, .cmp 0 92 [.ref 1 11 0 0 0 false]] (sC e1 e2 z s) = some (.ret (.int 63 (fidx (fun c => isPre c s) signs 0)), sC e1 e2 z s) := by
  refine idx_ev (n := 999) (m := 24) (cap := 24) (ex := true) (e := 9) (w := true) (strs := signs) rfl (by decide) (by kernel_rfl) (by decide) fun x hx => ?_
  exact sign2_ev 996 s x _ e1 true 11 (by kernel_rfl)
theorem sign_ev (s : List UInt8) : evF table 1001 71 [.str s] stS = some (.ret (signV s), stS) := by
  have h1 := signs_ev 9 88 [.int 63 0, .str [], .int 63 0, .int 63 0] s
  have h2 := sort_ev 9 88 [.int 63 0, .str [], .int 63 0, .int 63 0] s
  have h3 := idx_sign 9 88 [.int 63 0, .str [], .int 63 0, .int 63 0] s
  have hA : (({ next := 11, low := 11, mem := stS.mem } : St).new (.cells 9 [.str s] true)).new (.cells 88 [.int 63 0, .str [], .int 63 0, .int 63 0] true) = sA 9 88 [.int 63 0, .str [], .int 63 0, .int 63 0] s := rfl
  have hn : stS.next = 11 := rfl
  simp only [Nat.reduceAdd] at h1 h2 h3
  have hg12 : (sC 9 88 [.int 63 0, .str [], .int 63 0, .int 63 0] s).mem.get (11 + 1) = some (.cells 88 [.int 63 0, .str [], .int 63 0, .int 63 0] true) := by kernel_rfl
  have hg13 : (sC 9 88 [.int 63 0, .str [], .int 63 0, .int 63 0] s).mem.get (11 + 2) = some (.cells 9 (signs.map .str) true) := by kernel_rfl
  simp only [Nat.reduceAdd] at hg12 hg13
  have hlow : (sC 9 88 [.int 63 0, .str [], .int 63 0, .int 63 0] s).low = 11 := rfl
  generalize sC 9 88 [.int 63 0, .str [], .int 63 0, .int 63 0] s = T at *
  have hl4 : ∀ (n : Nat) (b : Option Ob), stS.next ≤ (T.put n b).low ∨ n < 11 := fun n b => by
    rw [put_low, hlow, hn]; omega
  rw [ev_mk get_sign]
  rcases fst_idx s signs 0 with ⟨hf, hi⟩ | ⟨j, cc, hj, hf, hi⟩
  · have hlt : ltI (.negSucc 0) 0 = true := rfl
    rw [hi] at h3
    simp only [c71_0, c71_1, c71_2, c71_3, c71_4, c71_5, yX, iInt, iStr, iLenS, iLenL, iNot, iPick, iExt, if_true, if_false, reduceIte, Nat.reduceEqDiff, Nat.reduceAdd, reduceCtorEq, yQ, iBox, iAlloc, iMkf, x_cells_str, hA, hn, new_next, h1, h2, h3, fLss, hlt, iBuild, x_fill0]
    rw [x_store (n := 4) (o := 11 + 1) (i := 0) (l := [.int 63 0, .str [], .int 63 0, .int 63 0]) (cs := [.int 63 0, .str [], .int 63 0, .int 63 0]) (e := 88) (by simp only [yX, iInt, iStr, iLenS, iLenL, iNot, iPick, iExt, if_true, if_false, reduceIte, Nat.reduceEqDiff, Nat.reduceAdd, reduceCtorEq]) (by simp only [yX, iInt, iStr, iLenS, iLenL, iNot, iPick, iExt, if_true, if_false, reduceIte, Nat.reduceEqDiff, Nat.reduceAdd, reduceCtorEq]; rfl) hg12 rfl (Nat.le_refl _)]
    simp only [yX, iInt, iStr, iLenS, iLenL, iNot, iPick, iExt, if_true, if_false, reduceIte, Nat.reduceEqDiff, Nat.reduceAdd, reduceCtorEq]
    rw [show signV s = .tup [.agg [.int 63 0, .str [], .int 63 0, .int 63 0], .bool false] by unfold signV; rw [hf]]
    refine leave_ret2 ?_ ?_ ((hl4 _ _).resolve_right (by decide)) (by rfl)
    · rw [x_rvm, x_loadA (n := 4) (o := 11 + 1) (i := 0) (cs := splice [.int 63 0, .str [], .int 63 0, .int 63 0] 0 [.int 63 0, .str [], .int 63 0, .int 63 0]) (e := 88) (w := true) (by simp only [yX, iInt, iStr, iLenS, iLenL, iNot, iPick, iExt, if_true, if_false, reduceIte, Nat.reduceEqDiff, Nat.reduceAdd, reduceCtorEq]) (by rw [put_get, if_pos rfl]) (by decide)]
      rfl
    · rw [x_rvt]; simp only [yX, iInt, iStr, iLenS, iLenL, iNot, iPick, iExt, if_true, if_false, reduceIte, Nat.reduceEqDiff, Nat.reduceAdd, reduceCtorEq]
  · have hjl : j < 24 := (List.getElem?_eq_some_iff.1 hj).1
    have hlt : ltI (Int.ofNat j) 0 = false := by rw [show (0 : Int) = Int.ofNat 0 from rfl, ltI_cast]; rfl
    rw [hi, Nat.zero_add] at h3
    have hcell : (signs.map V.str)[j]? = some (.str cc) := by rw [List.getElem?_map, hj]; rfl
    simp only [c71_0, c71_1, c71_2, c71_3, c71_4, c71_5, yX, iInt, iStr, iLenS, iLenL, iNot, iPick, iExt, if_true, if_false, reduceIte, Nat.reduceEqDiff, Nat.reduceAdd, reduceCtorEq, yQ, iBox, iAlloc, iMkf, x_cells_str, hA, hn, new_next, h1, h2, h3, fLss, hlt]
    simp only [c71_6, yX, iInt, iStr, iLenS, iLenL, iNot, iPick, iExt, if_true, if_false, reduceIte, Nat.reduceEqDiff, Nat.reduceAdd, reduceCtorEq, yQ]
    rw [x_iad (kk := 63) (o := 11 + 2) (b := 0) (m := 24) (c := 24) (ex := true) (k := j) (by simp only [yX, iInt, iStr, iLenS, iLenL, iNot, iPick, iExt, if_true, if_false, reduceIte, Nat.reduceEqDiff, Nat.reduceAdd, reduceCtorEq]) (by simp only [yX, iInt, iStr, iLenS, iLenL, iNot, iPick, iExt, if_true, if_false, reduceIte, Nat.reduceEqDiff, Nat.reduceAdd, reduceCtorEq]) hjl]
    simp only [yX, iInt, iStr, iLenS, iLenL, iNot, iPick, iExt, if_true, if_false, reduceIte, Nat.reduceEqDiff, Nat.reduceAdd, reduceCtorEq, Nat.mul_one]
    rw [x_load1 (o := 11 + 2) (i := j) (by simp only [yX, iInt, iStr, iLenS, iLenL, iNot, iPick, iExt, if_true, if_false, reduceIte, Nat.reduceEqDiff, Nat.reduceAdd, reduceCtorEq]) hg13 hcell]
    simp only [yX, iInt, iStr, iLenS, iLenL, iNot, iPick, iExt, if_true, if_false, reduceIte, Nat.reduceEqDiff, Nat.reduceAdd, reduceCtorEq, iBuild]
    have hfill : ∀ tm : Tr V, X.ev tm (.t (pa 18)) = .str cc → fillV tm [.int 63 0, .str [], .int 63 0, .int 63 0] [(0, 1, .c (.int 63 3)), (1, 1, .t (pa 18))] = some [.int 63 3, .str cc, .int 63 0, .int 63 0] := fun tm h => by
      have h' : fillV tm [.int 63 0, .str [], .int 63 0, .int 63 0] [(0, 1, .c (.int 63 3)), (1, 1, .t (pa 18))] = (match (X.ev tm (.t (pa 18))).cells? with
        | none => none
        | some cs => bif Nat.beq (lenL cs) 1 && Nat.ble (Nat.add 1 1) (lenL (splice [V.int 63 0, .str [], .int 63 0, .int 63 0] 0 [.int 63 3])) then some (splice (splice [V.int 63 0, .str [], .int 63 0, .int 63 0] 0 [.int 63 3]) 1 cs) else none) := rfl
      rw [h', h]; rfl
    rw [hfill _ (by simp only [yX, iInt, iStr, iLenS, iLenL, iNot, iPick, iExt, if_true, if_false, reduceIte, Nat.reduceEqDiff, Nat.reduceAdd, reduceCtorEq])]
    simp only [yX, iInt, iStr, iLenS, iLenL, iNot, iPick, iExt, if_true, if_false, reduceIte, Nat.reduceEqDiff, Nat.reduceAdd, reduceCtorEq]
    rw [x_store (n := 4) (o := 11 + 1) (i := 0) (l := [.int 63 3, .str cc, .int 63 0, .int 63 0]) (cs := [.int 63 0, .str [], .int 63 0, .int 63 0]) (e := 88) (by simp only [yX, iInt, iStr, iLenS, iLenL, iNot, iPick, iExt, if_true, if_false, reduceIte, Nat.reduceEqDiff, Nat.reduceAdd, reduceCtorEq]) (by simp only [yX, iInt, iStr, iLenS, iLenL, iNot, iPick, iExt, if_true, if_false, reduceIte, Nat.reduceEqDiff, Nat.reduceAdd, reduceCtorEq]; rfl) hg12 rfl (Nat.le_refl _)]
    simp only [yX, iInt, iStr, iLenS, iLenL, iNot, iPick, iExt, if_true, if_false, reduceIte, Nat.reduceEqDiff, Nat.reduceAdd, reduceCtorEq]
    rw [show signV s = .tup [.agg [.int 63 3, .str cc, .int 63 0, .int 63 0], .bool true] by unfold signV; rw [hf]]
    refine leave_ret2 ?_ ?_ ((hl4 _ _).resolve_right (by decide)) (by rfl)
    · rw [x_rvm, x_loadA (n := 4) (o := 11 + 1) (i := 0) (cs := splice [.int 63 0, .str [], .int 63 0, .int 63 0] 0 [.int 63 3, .str cc, .int 63 0, .int 63 0]) (e := 88) (w := true) (by simp only [yX, iInt, iStr, iLenS, iLenL, iNot, iPick, iExt, if_true, if_false, reduceIte, Nat.reduceEqDiff, Nat.reduceAdd, reduceCtorEq]) (by rw [put_get, if_pos rfl]) (Nat.le_refl _)]
      rfl
    · rw [x_rvt]; simp only [yX, iInt, iStr, iLenS, iLenL, iNot, iPick, iExt, if_true, if_false, reduceIte, Nat.reduceEqDiff, Nat.reduceAdd, reduceCtorEq]
noncomputable def signG (args : List V) (st : St) : Option V := List.rec none (fun a l _ => a.onStr none (fun s => List.rec (bif sameTab tab6 (st.mem.get 6) then some (signV s) else none) (fun _ _ _ => none) l)) args
theorem mixed : Tryz.prog.follows .mixedOrders = true := by kernel_rfl
theorem memS_get {g : Nat} {b : Ob} (h : memS.get g = some b) : g = 6 ∧ b = .cells 0 tab6 false := by
  unfold memS at h
  rw [get_set] at h
  split at h
  · rename_i e; exact ⟨e, (Option.some.inj h).symm⟩
  · rw [get_leaf] at h; exact nomatch h
theorem hasS {st : St} (h : sameTab tab6 (st.mem.get 6) = true) : HasTabs memS st := fun g b hb => by
  obtain ⟨rfl, rfl⟩ := memS_get hb
  obtain ⟨e, he⟩ := sameTab_eq h
  exact ⟨0, _, rfl, by kernel_rfl, e, he, .inl rfl⟩
theorem sign_flat (s : List UInt8) : (signV s).fine = true := by
  unfold signV
  cases fstPre s signs <;> rfl
theorem sign_spec : SpecOk Tryz.prog 71 signG := by
  refine spec_of mixed tab get_sign (mem := memS) (G := 11) globals.symm (fun g b hb => by rw [(memS_get hb).1]; decide) fun args st v h => ?_
  match args, h with
  | [.str s], h =>
    obtain ⟨h1, h2⟩ := bif_none (show (bif sameTab tab6 (st.mem.get 6) then some (signV s) else none) = some v from h)
    obtain rfl := Option.some.inj h2
    exact ⟨hasS h1, rfl, sign_flat s, 1001, stS, sign_ev s⟩
noncomputable def tableA : Tr Fs := table.set 71 (some (.spec signG))
theorem tabA : TableOk Tryz.prog tableA := tableSpec tab sign_spec
end Go.Proofs.YtnebopkgnkemiaaGreatDoor.Av
