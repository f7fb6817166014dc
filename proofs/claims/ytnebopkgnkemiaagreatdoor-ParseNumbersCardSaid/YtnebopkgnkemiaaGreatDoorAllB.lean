/-
  lex.All: WHAT THE ABSTRACT MACHINE ANSWERS of every text.
-/
import Derived.Test.YtnebopkgnkemiaaGreatDoorAll
namespace Go.Proofs.YtnebopkgnkemiaaGreatDoor.Av
set_option linter.unusedVariables false
set_option linter.unusedSimpArgs false
set_option maxRecDepth 1000000
open Go
noncomputable def tableL : Tr Fs := tableX.set 39 (some (.spec trimG))
theorem tabL : TableOk Tryz.prog tableL := tableSpec tabX trim_spec
theorem get_nextL : tableL.get 40 = some (.spec (oneG nextV)) := by kernel_rfl
theorem get_trimL : tableL.get 39 = some (.spec trimG) := by kernel_rfl
theorem get_all : tableL.get 21 = some sh21 := by kernel_rfl
theorem trimL_ev (n : Nat) (s : List UInt8) (st : St) : evF tableL (n + 1) 39 [.str s, .str cut] st = some (.ret (.str (dropSp s)), st) := by
  refine ev_spec get_trimL ?_
  show (bif eqS cut cut then some (V.str (dropSp s)) else none) = _
  rfl
theorem nextL_ev (n : Nat) (s : List UInt8) (st : St) (h : hasW st = true) (hs : s.length ≤ 281474976710656) : evF tableL (n + 1) 40 [.str s] st = some (.ret (.tup [.agg [.int 63 (nextK s), .str (nextT s), .int 63 (nextN s), .int 63 0], .bool (nextB s)]), st) := by
  rw [← nextV_eq]
  exact ev_spec get_nextL (one_at nextV s st h hs)
def TokSl (L : Nat) (st : St) (v : V) (l : List TokA) : Prop := (l = [] ∧ v = .ref 2 0 0 0 0 false) ∨ ∃ o, L ≤ o ∧ o < st.next ∧ l ≠ [] ∧ v = .ref 3 o 0 l.length l.length false ∧ st.mem.get o = some (.cells 88 (cellsA l) true)
structure Since (L : Nat) (st st' : St) : Prop where
  next : st.next ≤ st'.next
  low : L ≤ st'.low
  mem : ∀ o, o < L → st'.mem.get o = st.mem.get o
theorem new_get_self (st : St) (b : Ob) : (st.new b).mem.get st.next = some b := by rw [new_get, if_pos rfl]
theorem app_nil (st : St) (news : List V) : appV st 88 4 40 (.ref 2 0 0 0 0 false) news 1 = some (.ref 3 st.next 0 1 1 false, st.new (.cells 88 news true)) := rfl
theorem app_more (st : St) {o n : Nat} {cs news : List V} (hg : st.mem.get o = some (.cells 88 cs true)) (hl : cs.length = n * 4) (hn : n ≤ 1000000) :
    appV st 88 4 40 (.ref 3 o 0 n n false) news 1 = some (.ref 3 st.next 0 (n + 1) (n + 1) false, (st.put o none).new (.cells 88 (cs ++ news) true)) := by
  have h1 : Nat.ble (n + 1) n = false := bleF (by omega)
  have h2 : Nat.ble (Nat.add 0 (Nat.mul n 4)) (lenL cs) = true := by rw [lenL_eq]; exact bleT (by show 0 + n * 4 ≤ _; omega)
  have h3 : Nat.ble (Nat.mul (Nat.add n 1) 40) 140737488355328 = true := bleT (by show (n + 1) * 40 ≤ _; omega)
  show (bif Nat.ble (n + 1) n then appIn st 4 news 1 o 0 n n false else appNew st 88 4 40 news 1 o 0 n false) = _
  rw [h1, cond_false]
  unfold appNew
  rw [hg, x_onCells, h2, h3]
  show (bif true && Nat.beq 88 88 then some (V.slice st.next 0 (n + 1) (n + 1) false, (st.put o none).new (.cells 88 (appL (takeL (dropL cs 0) (n * 4)) news) true)) else none) = _
  rw [appL_eq, takeL_eq, dropL_eq, List.drop_zero, List.take_of_length_le (by omega)]
  rfl
theorem src_one (st : St) {o : Nat} {a b c d : V} (hg : st.mem.get o = some (.cells 88 [a, b, c, d] true)) (y : Bool) : srcF false st 4 (.ref 3 o 0 1 1 y) = some ([a, b, c, d], 1) := by
  show onCells none (fun _ cs _ => bif Nat.ble (Nat.add 0 (Nat.mul 1 4)) (lenL cs) then some (takeL (dropL cs 0) (Nat.mul 1 4), 1) else none) (st.mem.get o) = _
  rw [hg]
  rfl
theorem fill_one {tm : Tr V} {p : Pa} (z1 z2 z3 z4 : V) : fillV tm [z1, z2, z3, z4] [(0, 4, .t p)] = Option.rec none (fun cs => bif Nat.beq (lenL cs) 4 then some (splice [z1, z2, z3, z4] 0 cs) else none) (X.ev tm (.t p)).cells? := by
  have h' : fillV tm [z1, z2, z3, z4] [(0, 4, .t p)] = (match (X.ev tm (.t p)).cells? with
    | none => none
    | some cs => bif Nat.beq (lenL cs) 4 && Nat.ble (Nat.add 0 4) (lenL [z1, z2, z3, z4]) then some (splice [z1, z2, z3, z4] 0 cs) else none) := rfl
  rw [h']
  cases (X.ev tm (.t p)).cells? with
  | none => rfl
  | some cs =>
    show (bif Nat.beq (lenL cs) 4 && true then _ else none) = _
    rw [Bool.and_true]
theorem fill_one4 (z1 z2 z3 z4 a b c d : V) : (bif (lenL [a, b, c, d]).beq 4 then some (splice [z1, z2, z3, z4] 0 [a, b, c, d]) else none) = some [a, b, c, d] := Eq.trans (Eq.refl _) rfl
theorem fst_mem {s c : List UInt8} : ∀ {l : List (List UInt8)}, fstPre s l = some c → c ∈ l
  | [], h => nomatch h
  | d :: l, h => by
    have h' : (bif isPre d s then some d else fstPre s l) = some c := h
    cases hp : isPre d s with
    | true => rw [hp] at h'; obtain rfl := Option.some.inj h'; exact List.mem_cons_self ..
    | false => rw [hp] at h'; exact List.mem_cons_of_mem _ (fst_mem h')
theorem signs_ne : ∀ c ∈ signs, c ≠ [] := by decide
theorem nextT_pos {s : List UInt8} (h : nextB s = true) : 1 ≤ (nextT s).length := by
  have key : ∀ t : List UInt8, t ≠ [] → 1 ≤ t.length := fun t ht => List.length_pos_iff.2 ht
  unfold nextB at h
  cases hl : Nat.blt 0 (firstL letterG s) with
  | true =>
    rw [hl, cond_true] at h
    refine key _ fun e => ?_
    rw [e] at h
    exact nomatch h
  | false =>
  rw [hl, cond_false] at h
  cases hd : Nat.blt 0 (firstL digitG s) with
  | true =>
    rw [hd, cond_true] at h
    refine key _ fun e => ?_
    rw [e] at h
    exact nomatch h
  | false =>
    rw [hd, cond_false] at h
    unfold nextT
    rw [hl, hd, cond_false, cond_false]
    cases hs : fstPre s signs with
    | none => rw [hs] at h; exact nomatch h
    | some c => exact key _ (signs_ne c (fst_mem hs))
section
variable {n L : Nat} {s : List UInt8} {sI : St}
def AllEnd (L : Nat) (sI : St) (acc : List TokA) (r : Option (List TokA) × Nat) (tm' : Tr V) (st' : St) : Prop :=
  Since L sI st' ∧ hasW st' = true ∧ tm'.at (pa 3) = some (.int 63 (.ofNat r.2)) ∧ ∃ v, tm'.at (pa 2) = some v ∧ match r.1 with
    | some ts => tm'.at (pa 4) = some (.int 63 0) ∧ TokSl L st' v (acc ++ ts)
    | none => tm'.at (pa 4) = some (.int 63 2) ∧ v = .ref 2 0 0 0 0 false
theorem all_loop (hL : 11 ≤ L) (hs : s.length ≤ 2048) (hI : sI.next = L) :
    ∀ (f pos fuel : Nat) (tm : Tr V) (st : St) (v : V) (acc : List TokA), s.length < pos + f → pos ≤ s.length → f < fuel → acc.length ≤ pos → X.ev tm (.t (pa 0)) = .str s → X.ev tm (.t (pa 2)) = v → X.ev tm (.t (pa 3)) = .int 63 (.ofNat pos) → TokSl L st v acc → Since L sI st → hasW st = true →
      ∃ tm' st', loopV fuel (b21_0 (evF tableL (n + 1)) (n + 1)) tm st = some (.ret, tm', st') ∧ AllEnd L sI acc (allL f (s.drop pos) pos) tm' st'
  | 0, pos, fuel, tm, st, v, acc, h1, h2, _, _, _, _, _, _, _, _ => by omega
  | f + 1, pos, 0, tm, st, v, acc, _, _, h, _, _, _, _, _, _, _ => by omega
  | f + 1, pos, fuel + 1, tm, st, v, acc, hf, hpos, hfu, hacc, h0, hv, h3, hsl, hsin, hW => by
    have b1 : Nat.ble pos s.length = true := bleT hpos
    have b2 : Nat.ble s.length s.length = true := bleT (Nat.le_refl _)
    have b3 : dropL (takeL s s.length) pos = s.drop pos := by rw [dropL_eq, takeL_eq, List.take_length]
    have hcut : ([9, 10, 13, 32] : List UInt8) = cut := rfl
    have ht := trimL_ev n (s.drop pos) st
    obtain ⟨d1, d2⟩ := dropSp_suffix (s.drop pos)
    have hdl : (s.drop pos).length = s.length - pos := List.length_drop
    rw [List.drop_drop, hdl] at d2
    have hstep : allL (f + 1) (s.drop pos) pos = if dropSp (s.drop pos) = [] then (some [], pos + (s.drop pos).length)
      else if nextB (dropSp (s.drop pos)) = true then
        ((allL f ((dropSp (s.drop pos)).drop (nextT (dropSp (s.drop pos))).length) (pos + ((s.drop pos).length - (dropSp (s.drop pos)).length) + (nextT (dropSp (s.drop pos))).length)).1.map fun ts => ⟨nextK (dropSp (s.drop pos)), nextT (dropSp (s.drop pos)), nextN (dropSp (s.drop pos)), pos + ((s.drop pos).length - (dropSp (s.drop pos)).length)⟩ :: ts,
          (allL f ((dropSp (s.drop pos)).drop (nextT (dropSp (s.drop pos))).length) (pos + ((s.drop pos).length - (dropSp (s.drop pos)).length) + (nextT (dropSp (s.drop pos))).length)).2)
      else (none, pos + ((s.drop pos).length - (dropSp (s.drop pos)).length)) := rfl
    rw [hstep, hdl]
    rw [hdl] at d1
    obtain ⟨q, hq⟩ : ∃ q, q = pos + (s.length - pos - (dropSp (s.drop pos)).length) := ⟨_, rfl⟩
    have hsub : wrapC 63 (Int.sub (Int.ofNat s.length) (Int.ofNat (dropSp (s.drop pos)).length)) = Int.ofNat q := by
      rw [show Int.sub (Int.ofNat s.length) (Int.ofNat (dropSp (s.drop pos)).length) = Int.ofNat q by
        show Int.ofNat s.length - Int.ofNat (dropSp (s.drop pos)).length = _
        simp only [Int.ofNat_eq_natCast]; omega]
      exact wrap63 (by omega)
    rw [← hq] at d2 ⊢
    have hqs : q + (dropSp (s.drop pos)).length = s.length := by omega
    have hqp : pos ≤ q := by omega
    generalize dropSp (s.drop pos) = l at *
    have c1 : Nat.ble q s.length = true := bleT (by omega)
    have c3 : dropL (takeL s s.length) q = l := by rw [dropL_eq, takeL_eq, List.take_length]; exact d2
    rw [x_loop1]
    by_cases hl : l = []
    · have e1 : eqI (Int.ofNat q) (Int.ofNat s.length) = true := beqT (by (have : l.length = 0 := by rw [hl]; rfl); omega)
      rw [if_pos hl, show pos + (s.length - pos) = q by (have : l.length = 0 := by rw [hl]; rfl); omega]
      simp only [b21_0, yX, iInt, iStr, iLenS, iLenL, iNot, iPick, iExt, if_true, if_false, reduceIte, Nat.reduceEqDiff, Nat.reduceAdd, reduceCtorEq, yQ, h0, h3, hv, x_lenS, iSls, optN, x_onNat, b1, b2, b3, Bool.and_self, cond_true, hcut, ht, fSub, hsub, fEql, e1]
      refine ⟨_, _, rfl, hsin, hW, by simp only [yX, iInt, iStr, iLenS, iLenL, iNot, iPick, iExt, if_true, if_false, reduceIte, Nat.reduceEqDiff, Nat.reduceAdd, reduceCtorEq], v, by simp only [yX, iInt, iStr, iLenS, iLenL, iNot, iPick, iExt, if_true, if_false, reduceIte, Nat.reduceEqDiff, Nat.reduceAdd, reduceCtorEq], by simp only [yX, iInt, iStr, iLenS, iLenL, iNot, iPick, iExt, if_true, if_false, reduceIte, Nat.reduceEqDiff, Nat.reduceAdd, reduceCtorEq], ?_⟩
      rw [List.append_nil]; exact hsl
    · have hpos' : 0 < l.length := List.length_pos_iff.2 hl
      have e1 : eqI (Int.ofNat q) (Int.ofNat s.length) = false := beqF (by omega)
      have hnx := nextL_ev n l st hW (by omega)
      have hGn : 11 ≤ st.next := Nat.le_trans hL (hI ▸ hsin.next)
      have hLn : L ≤ st.next := hI ▸ hsin.next
      have hn1 : hasW (st.new (.cells 88 [.int 63 0, .str [], .int 63 0, .int 63 0] true)) = true := hasW_new hW hGn
      rw [if_neg hl]
      have hA : ∀ c : List V, (st.new (.cells 88 c true)).mem.get st.next = some (.cells 88 c true) := fun c => by rw [new_get, if_pos rfl]
      simp only [b21_0, yX, iInt, iStr, iLenS, iLenL, iNot, iPick, iExt, if_true, if_false, reduceIte, Nat.reduceEqDiff, Nat.reduceAdd, reduceCtorEq, yQ, h0, h3, hv, x_lenS, iSls, optN, x_onNat, b1, b2, b3, c1, c3, Bool.and_self, cond_true, hcut, ht, fSub, hsub, fEql, e1, hnx, iExt, x_onTup, u_nth0, u_nth1, iAlloc]
      rw [x_store (n := 4) (o := st.next) (i := 0) (l := [.int 63 (nextK l), .str (nextT l), .int 63 (nextN l), .int 63 0]) (cs := [.int 63 0, .str [], .int 63 0, .int 63 0]) (e := 88) (by simp only [yX, iInt, iStr, iLenS, iLenL, iNot, iPick, iExt, if_true, if_false, reduceIte, Nat.reduceEqDiff, Nat.reduceAdd, reduceCtorEq]) (by simp only [yX, iInt, iStr, iLenS, iLenL, iNot, iPick, iExt, if_true, if_false, reduceIte, Nat.reduceEqDiff, Nat.reduceAdd, reduceCtorEq]; rfl) (hA _) rfl (Nat.le_refl _)]
      cases hb : nextB l with
      | false =>
        rw [if_neg (by decide)]
        simp only [yX, iInt, iStr, iLenS, iLenL, iNot, iPick, iExt, if_true, if_false, reduceIte, Nat.reduceEqDiff, Nat.reduceAdd, reduceCtorEq]
        refine ⟨_, _, rfl, ⟨?_, ?_, ?_⟩, ?_, by simp only [yX, iInt, iStr, iLenS, iLenL, iNot, iPick, iExt, if_true, if_false, reduceIte, Nat.reduceEqDiff, Nat.reduceAdd, reduceCtorEq], _, by simp only [yX, iInt, iStr, iLenS, iLenL, iNot, iPick, iExt, if_true, if_false, reduceIte, Nat.reduceEqDiff, Nat.reduceAdd, reduceCtorEq], by simp only [yX, iInt, iStr, iLenS, iLenL, iNot, iPick, iExt, if_true, if_false, reduceIte, Nat.reduceEqDiff, Nat.reduceAdd, reduceCtorEq], rfl⟩
        · exact Nat.le_succ_of_le hsin.next
        · rw [put_low]; have := hsin.low; show L ≤ min st.low st.next; omega
        · intro o ho
          rw [put_get, if_neg (by omega), new_get, if_neg (by omega)]
          exact hsin.mem o ho
        · exact hasW_put hn1 hGn
      | true =>
        rw [if_pos rfl]
        simp only [yX, iInt, iStr, iLenS, iLenL, iNot, iPick, iExt, if_true, if_false, reduceIte, Nat.reduceEqDiff, Nat.reduceAdd, reduceCtorEq, iFad, x_onPtr]
        have hg2 : ((st.new (.cells 88 [.int 63 0, .str [], .int 63 0, .int 63 0] true)).put st.next (some (.cells 88 (splice [.int 63 0, .str [], .int 63 0, .int 63 0] 0 [.int 63 (nextK l), .str (nextT l), .int 63 (nextN l), .int 63 0]) true))).mem.get st.next = some (.cells 88 [.int 63 (nextK l), .str (nextT l), .int 63 (nextN l), .int 63 0] true) := by rw [put_get, if_pos rfl]; rfl
        rw [x_store (n := 1) (o := st.next) (i := 3) (l := [.int 63 (.ofNat q)]) (cs := [.int 63 (nextK l), .str (nextT l), .int 63 (nextN l), .int 63 0]) (e := 88) (by simp only [yX, iInt, iStr, iLenS, iLenL, iNot, iPick, iExt, if_true, if_false, reduceIte, Nat.reduceEqDiff, Nat.reduceAdd, reduceCtorEq]) (by simp only [yX, iInt, iStr, iLenS, iLenL, iNot, iPick, iExt, if_true, if_false, reduceIte, Nat.reduceEqDiff, Nat.reduceAdd, reduceCtorEq]; rfl) hg2 rfl (by show 3 + 1 ≤ 4; decide)]
        rw [show splice [V.int 63 (nextK l), .str (nextT l), .int 63 (nextN l), .int 63 0] 3 [.int 63 (.ofNat q)] = [.int 63 (nextK l), .str (nextT l), .int 63 (nextN l), .int 63 (.ofNat q)] from rfl]
        have hp := nextT_pos hb
        have htl := nextT_le l
        generalize hS : ((st.new (.cells 88 [.int 63 0, .str [], .int 63 0, .int 63 0] true)).put st.next (some (.cells 88 (splice [.int 63 0, .str [], .int 63 0, .int 63 0] 0 [.int 63 (nextK l), .str (nextT l), .int 63 (nextN l), .int 63 0]) true))).put st.next (some (.cells 88 [.int 63 (nextK l), .str (nextT l), .int 63 (nextN l), .int 63 (.ofNat q)] true)) = S3
        have sn : S3.next = st.next + 1 := by rw [← hS]; rfl
        have sl : L ≤ S3.low := by rw [← hS, put_low, put_low]; have := hsin.low; show L ≤ min (min st.low st.next) st.next; omega
        have sg : S3.mem.get st.next = some (.cells 88 [.int 63 (nextK l), .str (nextT l), .int 63 (nextN l), .int 63 (.ofNat q)] true) := by rw [← hS, put_get, if_pos rfl]
        have sm : ∀ o, o ≠ st.next → S3.mem.get o = st.mem.get o := fun o ho => by rw [← hS, put_get, if_neg ho, put_get, if_neg ho, new_get, if_neg ho]
        have sW : hasW S3 = true := hasW_same hW fun g hg => sm g (by omega)
        clear hS hg2 hn1 hA
        have sx := src_one (S3.new (.cells 88 [.int 63 (nextK l), .str (nextT l), .int 63 (nextN l), .int 63 (.ofNat q)] true)) (o := S3.next) (by rw [new_get, if_pos rfl]) true
        have hload : ∀ tm : Tr V, X.ev tm (.t (pa 5)) = .ref 1 st.next 0 0 0 false → iLoad true 4 (.t (pa 5)) tm S3 = some (.agg [.int 63 (nextK l), .str (nextT l), .int 63 (nextN l), .int 63 (.ofNat q)]) := fun tm h => x_loadA (n := 4) (o := st.next) (i := 0) h sg (Nat.le_refl _)
        obtain ⟨v', S5, ha, t1, t2, t3, t4, t5, t6⟩ : ∃ v' S5, appV (S3.new (.cells 88 [.int 63 (nextK l), .str (nextT l), .int 63 (nextN l), .int 63 (.ofNat q)] true)) 88 4 40 v [.int 63 (nextK l), .str (nextT l), .int 63 (nextN l), .int 63 (.ofNat q)] 1 = some (v', S5) ∧
            TokSl L S5 v' (acc ++ [⟨nextK l, nextT l, nextN l, q⟩]) ∧ sI.next ≤ S5.next ∧ L ≤ S5.low ∧ (∀ o, o < L → S5.mem.get o = st.mem.get o) ∧ hasW S5 = true ∧ S5.mem.get st.next = some (.cells 88 [.int 63 (nextK l), .str (nextT l), .int 63 (nextN l), .int 63 (.ofNat q)] true) := by
          have hIn := hsin.next
          rcases hsl with ⟨rfl, rfl⟩ | ⟨o, ho1, ho2, hne, rfl, hog⟩
          · refine ⟨_, _, app_nil _ _, .inr ⟨S3.next + 1, by omega, Nat.lt_succ_self _, by simp, rfl, ?_⟩, ?_, ?_, ?_, ?_, ?_⟩
            · exact (new_get_self _ _).trans rfl
            · show sI.next ≤ S3.next + 1 + 1; omega
            · exact sl
            · intro o ho
              rw [new_get, if_neg (by rw [new_next]; omega), new_get, if_neg (by omega), sm o (by omega)]
            · exact hasW_new (hasW_new sW (by omega)) (by rw [new_next]; omega)
            · rw [new_get, if_neg (by rw [new_next]; omega), new_get, if_neg (by omega), sg]
          · have hog' : (S3.new (.cells 88 [.int 63 (nextK l), .str (nextT l), .int 63 (nextN l), .int 63 (.ofNat q)] true)).mem.get o = some (.cells 88 (cellsA acc) true) := by
              rw [new_get, if_neg (by omega), sm o (by omega), hog]
            refine ⟨_, _, app_more _ hog' (cellsA_len acc) (by omega), .inr ⟨S3.next + 1, by omega, Nat.lt_succ_self _, by simp, ?_, ?_⟩, ?_, ?_, ?_, ?_, ?_⟩
            · rw [List.length_append]; rfl
            · exact (new_get_self _ _).trans (by rw [cellsA_snoc]; rfl)
            · show sI.next ≤ S3.next + 1 + 1; omega
            · show L ≤ (St.put _ o none).low
              rw [put_low]; show L ≤ min S3.low o; omega
            · intro k hk
              rw [new_get, if_neg (by show ¬ k = S3.next + 1; omega), put_get, if_neg (by omega), new_get, if_neg (by omega), sm k (by omega)]
            · exact hasW_new (hasW_put (hasW_new sW (by omega)) (by omega)) (by show _ ≤ S3.next + 1; omega)
            · rw [new_get, if_neg (by show ¬ _ = S3.next + 1; omega), put_get, if_neg (by omega), new_get, if_neg (by omega), sg]
        have hld5 : ∀ tm : Tr V, ∀ x : X, X.ev tm x = .ref 1 st.next (Nat.add 0 1) 0 0 false → iLoad false 1 x tm S5 = some (.str (nextT l)) := fun tm x h => x_load1 (o := st.next) (i := 1) h t6 rfl
        have hadd : wrapC 63 (Int.add (Int.ofNat q) (Int.ofNat (nextT l).length)) = Int.ofNat (q + (nextT l).length) := wrap63 (i := q + (nextT l).length) (by omega)
        simp only [yX, iInt, iStr, iLenS, iLenL, iNot, iPick, iExt, if_true, if_false, reduceIte, Nat.reduceEqDiff, Nat.reduceAdd, reduceCtorEq, hv, hload, iBsl, fill_one, cells_agg, fill_one4, iApp, sx, ha, iFad, x_onPtr, hld5, x_lenS, fAdd, hadd]
        generalize hT : Tr.to (α := V) _ _ _ = TM
        have hdrop : l.drop (nextT l).length = s.drop (q + (nextT l).length) := by rw [← d2, List.drop_drop]
        obtain ⟨tm', st', k1, k2, k3, k4, v2, k5, k6⟩ := all_loop hL hs hI f (q + (nextT l).length) fuel TM S5 v' (acc ++ [⟨nextK l, nextT l, nextN l, q⟩]) (by omega) (by omega) (by omega) (by rw [List.length_append]; show acc.length + 1 ≤ _; omega)
          (by rw [← hT]; simp only [yX, iInt, iStr, iLenS, iLenL, iNot, iPick, iExt, if_true, if_false, reduceIte, Nat.reduceEqDiff, Nat.reduceAdd, reduceCtorEq, h0]) (by rw [← hT]; simp only [yX, iInt, iStr, iLenS, iLenL, iNot, iPick, iExt, if_true, if_false, reduceIte, Nat.reduceEqDiff, Nat.reduceAdd, reduceCtorEq]) (by rw [← hT]; simp only [yX, iInt, iStr, iLenS, iLenL, iNot, iPick, iExt, if_true, if_false, reduceIte, Nat.reduceEqDiff, Nat.reduceAdd, reduceCtorEq]) t1 ⟨t2, t3, fun o ho => (t4 o ho).trans (hsin.mem o ho)⟩ t5
        refine ⟨tm', st', k1, k2, k3, ?_, v2, k5, ?_⟩
        · rw [hdrop]; exact k4
        · rw [hdrop]
          cases hr : (allL f (s.drop (q + (nextT l).length)) (q + (nextT l).length)).1 with
          | none =>
            rw [hr] at k6
            exact k6
          | some ts =>
            rw [hr] at k6
            refine ⟨k6.1, ?_⟩
            have := k6.2
            rwa [List.append_assoc] at this
end
end Go.Proofs.YtnebopkgnkemiaaGreatDoor.Av
