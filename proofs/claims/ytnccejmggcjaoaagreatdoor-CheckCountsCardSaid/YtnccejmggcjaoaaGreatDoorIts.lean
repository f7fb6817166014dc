/-
  ITEMS, by the feed.
-/
import Derived.Test.YtnccejmggcjaoaaGreatDoorItm
namespace Go.Proofs.YtnccejmggcjaoaaGreatDoor.Av
set_option linter.unusedVariables false
set_option linter.unusedSimpArgs false
set_option maxRecDepth 1000000
open Go
def KnownI (d : Nat) (fns : Tr Fs) : Prop := ∀ (n : Nat) {st : St} {o : Nat} {f : Fd} {vv vo : V}, FeedAt st o f vv vo → Sep o vv vo → f.many ≤ 20 → ∀ nt : Bool, ∃ x f' vv' vo' st', evF fns (n + 1) 191 (itemArgs o d nt) st = some (.ret (.cmp 2 0 (cI x)), st') ∧ ItemPost d nt f f' x ∧ Went o f f' vv' vo' st st' ∧ st'.low ≤ o
def wL (l : List It) : Nat := (l.map wI).sum
theorem wL_app (l r : List It) : wL (l ++ r) = wL l + wL r := by unfold wL; rw [List.map_append, List.sum_append]
def ItsPost (d most : Nat) (f f' : Fd) (l : List It) : Prop := (∀ x ∈ l, plainI x ∨ 0 < d ∧ altI x) ∧ 1 ≤ l.length ∧ l.length ≤ most + 1 ∧ (most ≤ 2 → l.length ≤ 2) ∧ f'.many = f.many + wL l ∧ f'.many ≤ 9
abbrev itsArgs (o d most : Nat) : List V := [.ref 1 o 0 0 0 false, .int 63 (Int.ofNat d), .int 63 (Int.ofNat most)]
theorem app1_ev {T : St} {k m ks : Nat} {x : Bool} {cs news : List V} (hg : T.mem.get k = some (.cells 34 cs true)) (hcs : cs.length = m * 7) (hs : T.mem.get ks = some (.cells 34 news true)) (hn : news.length = 7) (hm : m < 1000) :
    ∃ T', (∀ (tm : Tr V) (a b : X), X.ev tm a = .ref 3 k 0 m m x → X.ev tm b = .ref 3 ks 0 1 1 true → iApp false 34 7 104 a b tm T = some (.ref 3 T.next 0 (m + 1) (m + 1) false, T')) ∧ T'.next = T.next + 1 ∧
      T'.mem.get T.next = some (.cells 34 (cs ++ news) true) ∧ (∀ y, y < T.next → y ≠ k → T'.mem.get y = T.mem.get y) ∧ (T' = T.new (.cells 34 (cs ++ news) true) ∨ T' = (T.put k none).new (.cells 34 (cs ++ news) true)) := by
  have hsrc : srcF false T 7 (.ref 3 ks 0 1 1 true) = some (news, 1) := by
    show onCells none (fun _ cs _ => bif Nat.ble (Nat.add 0 (Nat.mul 1 7)) (lenL cs) then some (takeL (dropL cs 0) (Nat.mul 1 7), 1) else none) (T.mem.get ks) = _
    rw [hs]
    show (bif Nat.ble 7 (lenL news) then some (takeL (dropL news 0) 7, 1) else none) = _
    rw [lenL_eq, bleT (by omega), takeL_eq, dropL_eq, List.drop_zero, List.take_of_length_le (by omega)]; rfl
  have hap : appL (takeL (dropL cs 0) (Nat.mul m 7)) news = cs ++ news := by
    rw [appL_eq, takeL_eq, dropL_eq, List.drop_zero, List.take_of_length_le (by show _ ≤ m * 7; omega)]
  have h1 : Nat.ble (Nat.add m 1) m = false := bleF (by show ¬ m + 1 ≤ m; omega)
  have h2 : Nat.ble (Nat.add 0 (Nat.mul m 7)) (lenL cs) = true := by rw [lenL_eq]; exact bleT (by show 0 + m * 7 ≤ _; omega)
  have h3 : Nat.ble (Nat.mul (Nat.add m 1) 104) 140737488355328 = true := bleT (by show (m + 1) * 104 ≤ _; omega)
  cases x with
  | true =>
    refine ⟨T.new (.cells 34 (cs ++ news) true), fun tm a b ha hb => ?_, rfl, new_get_self' _ _, fun y hy _ => by rw [new_get, if_neg (by omega)], .inl rfl⟩
    unfold iApp
    rw [ha, hb, hsrc]
    show (bif Nat.ble (Nat.add m 1) m then appIn T 7 news 1 k 0 m m true else appNew T 34 7 104 news 1 k 0 m true) = _
    rw [h1]
    show onCells none _ (T.mem.get k) = _
    rw [hg]
    show (bif Nat.ble (Nat.add 0 (Nat.mul m 7)) (lenL cs) && Nat.ble (Nat.mul (Nat.add m 1) 104) 140737488355328 then (some (V.ref 3 T.next 0 (Nat.add m 1) (Nat.add m 1) false, T.new (.cells 34 (appL (takeL (dropL cs 0) (Nat.mul m 7)) news) true))) else none) = _
    rw [h2, h3, hap]; rfl
  | false =>
    refine ⟨(T.put k none).new (.cells 34 (cs ++ news) true), fun tm a b ha hb => ?_, rfl, new_get_self' _ _, fun y hy hk => by rw [new_get, if_neg (by show y ≠ T.next; omega), put_get, if_neg hk], .inr rfl⟩
    unfold iApp
    rw [ha, hb, hsrc]
    show (bif Nat.ble (Nat.add m 1) m then appIn T 7 news 1 k 0 m m false else appNew T 34 7 104 news 1 k 0 m false) = _
    rw [h1]
    show onCells none _ (T.mem.get k) = _
    rw [hg]
    show (bif Nat.ble (Nat.add 0 (Nat.mul m 7)) (lenL cs) && Nat.ble (Nat.mul (Nat.add m 1) 104) 140737488355328 then (some (V.ref 3 T.next 0 (Nat.add m 1) (Nat.add m 1) false, (T.put k none).new (.cells 34 (appL (takeL (dropL cs 0) (Nat.mul m 7)) news) true))) else none) = _
    rw [h2, h3, hap]; rfl
structure ItsInv (o d most : Nat) (f0 : Fd) (S0 T : St) (f : Fd) (v w : V) (l : List It) (k : Nat) (x : Bool) (i : Nat) : Prop where
  went : Went o f0 f v w S0 T
  low : T.low ≤ o
  get : T.mem.get k = some (.cells 34 (cIs l) true)
  own : S0.next ≤ k ∧ k < T.next
  all : ∀ x ∈ l, (plainI x ∨ 0 < d ∧ altI x) ∧ (most ≤ 2 → x.k ≠ 2)
  len : l.length = i
  many : f.many = f0.many + wL l ∧ f.many ≤ 8
theorem not_str {T : St} {k e : Nat} {c : List V} (hk : T.mem.get k = some (.cells e c true)) (he : e ≠ 9) (cs : List V) : T.mem.get k ≠ some (.cells 9 cs true) := fun hc => by
  rw [hk] at hc; injection hc with hc; injection hc with hc _; exact he hc
theorem ItsInv.more {o d most : Nat} {f0 : Fd} {S0 T : St} {f : Fd} {v w : V} {l : List It} {k : Nat} {x : Bool} {i : Nat} (h : ItsInv o d most f0 S0 T f v w l k x i) (hi : i < 1000)
    {f' : Fd} {v' w' : V} {T1 : St} {y : It} (hw : Went o f f' v' w' T T1) (hlo : T1.low ≤ o) :
    ∃ T3, (∀ tm : Tr V, ∀ a : X, X.ev tm a = .cmp 2 0 (cI y) → iBsl 34 1 zI [(0, 7, a)] tm T1 = some (.ref 3 T1.next 0 1 1 true, T1.new (.cells 34 (cI y) true))) ∧
      (∀ (tm : Tr V) (a b : X), X.ev tm a = .ref 3 k 0 i i x → X.ev tm b = .ref 3 T1.next 0 1 1 true → iApp false 34 7 104 a b tm (T1.new (.cells 34 (cI y) true)) = some (.ref 3 (T1.next + 1) 0 (i + 1) (i + 1) false, T3)) ∧
      Went o f0 f' v' w' S0 T3 ∧ T3.low ≤ o ∧ T3.mem.get (T1.next + 1) = some (.cells 34 (cIs (l ++ [y])) true) ∧ T1.next + 1 < T3.next := by
  have hlt := h.went.lt
  obtain ⟨ho1, ho2⟩ := h.own
  have hk1 : T1.mem.get k = some (.cells 34 (cIs l) true) := by rw [hw.mem k ho2 (by omega) (not_str h.get (by decide))]; exact h.get
  have hn := hw.next
  obtain ⟨T2, hT2⟩ : ∃ S, S = T1.new (.cells 34 (cI y) true) := ⟨_, rfl⟩
  have n2 : T2.next = T1.next + 1 := by rw [hT2]; rfl
  have hk2 : T2.mem.get k = some (.cells 34 (cIs l) true) := by rw [hT2, new_get, if_neg (by omega)]; exact hk1
  obtain ⟨T3, a1, a2, a3, a4, a5⟩ := app1_ev (x := x) (m := i) (ks := T1.next) (news := cI y) hk2 (by rw [cIs_len, h.len]) (by rw [hT2]; exact new_get_self' _ _) (cI_len y) hi
  have w1 := h.went.trans hw
  have w2 : Went o f0 f' v' w' S0 T2 := by rw [hT2]; exact w1.new _
  have l2 : T2.low ≤ o := by rw [hT2]; exact hlo
  have hap : cIs l ++ cI y = cIs (l ++ [y]) := by rw [cIs_app]; simp only [cIs, List.append_nil]
  refine ⟨T3, fun tm a ha => by rw [m_bsl, fillV_c, ha, cells_agg2, fillS_w (cI_len _) rfl, fillV_0], fun tm a b ha hb => by rw [← hT2, a1 tm a b ha hb, n2], ?_, ?_, by rw [← n2, a3, hap], by omega⟩
  · rcases a5 with e | e
    · rw [e]; exact w2.new _
    · rw [e]; exact (w2.put ho1 hk2 ⟨by decide, by decide⟩ none).new _
  · rcases a5 with e | e
    · rw [e]; exact l2
    · rw [e]; show (T2.put k none).low ≤ o; rw [put_low]; omega
section
variable {fns : Tr Fs} (n : Nat) (o d most : Nat) (ki : KnownI d fns)
set_option maxHeartbeats 8000000 in
include ki in
theorem its_loop (hmost : most ≤ 3) {f0 : Fd} {S0 : St} : ∀ (m fuel i : Nat) (tm : Tr V) (T : St) (f : Fd) (v w : V) (l : List It) (k : Nat) (x : Bool), most ≤ i + m → m < fuel → 1 ≤ i → i ≤ 3 → ItsInv o d most f0 S0 T f v w l k x i →
    (X.ev tm (.t (pa 0)) = .ref 1 o 0 0 0 false ∧ X.ev tm (.t (pa 1)) = .int 63 (Int.ofNat d) ∧ X.ev tm (.t (pa 2)) = .int 63 (Int.ofNat most)) → X.ev tm (.t (pa 7)) = .ref 3 k 0 i i x → X.ev tm (.t (pa 8)) = .int 63 (Int.ofNat i) →
    ∃ tm' T' f' v' w' l' k' x' i', outR 0 (loopV fuel (b140_0 (evF fns (n + 1)) (n + 1)) tm T) = some (.nrm, tm', T') ∧ Keep [7, 8, 13, 14, 15, 16, 17, 18, 19, 20, 21, 22, 23, 24, 25, 26, 27, 28, 29, 30, 31, 32, 33, 34, 35, 36, 37, 38, 39, 40, 41, 42, 43, 44, 45, 46] tm tm' ∧ ItsInv o d most f0 S0 T' f' v' w' l' k' x' i' ∧ X.ev tm' (.t (pa 7)) = .ref 3 k' 0 i' i' x' ∧ 1 ≤ i' ∧ (i' ≤ i ∨ i' ≤ most) := by
  intro m
  induction m with
  | zero =>
    intro fuel i tm T f v w l k x hm hf hi1 hi3 hI hp h7 h8
    obtain ⟨fu, rfl⟩ : ∃ fu, fuel = fu + 1 := ⟨fuel - 1, by omega⟩
    obtain ⟨hp0, hp1, hp2⟩ := hp
    have at0 := at_of_ev hp0 (fun h => nomatch h)
    have at2 := at_of_ev hp2 (fun h => nomatch h)
    have at8 := at_of_ev h8 (fun h => nomatch h)
    have d1 : decide (i < most) = false := decide_eq_false (by omega)
    refine ⟨?_, T, f, v, w, l, k, x, i, ?_, ?_, hI, ?_, hi1, .inl (Nat.le_refl _)⟩
    rotate_left 1
    · rw [x_loop1]
      simp only [b140_0, yY, iInt, iStr, iLenS, iLenL, iNot, iPick, iExt, if_true, if_false, reduceIte, Nat.reduceEqDiff, Nat.reduceAdd, reduceCtorEq, yD, yQ, at0, at2, at8, hp0, hp1, hp2, h7, h8, f_lss, ltI_nat, d1, x_oneM, x_oneE, x_oneP, x_oneK, x_oneL]
      exact rfl
    · repeat (first | exact Keep.refl _ _ | refine Keep.to ?_ (by decide))
    · simp only [yL, if_true, if_false, reduceIte, Nat.reduceEqDiff, reduceCtorEq, h7]
  | succ m ih =>
    intro fuel i tm T f v w l k x hm hf hi1 hi3 hI hp h7 h8
    obtain ⟨fu, rfl⟩ : ∃ fu, fuel = fu + 1 := ⟨fuel - 1, by omega⟩
    obtain ⟨hp0, hp1, hp2⟩ := hp
    have at0 := at_of_ev hp0 (fun h => nomatch h)
    have at2 := at_of_ev hp2 (fun h => nomatch h)
    have at8 := at_of_ev h8 (fun h => nomatch h)
    have hg := hI.went.feed.get
    have la : ldW false 1 (.ref 1 o 1 0 0 false) T = some (.int 63 (Int.ofNat f.at_)) := by rw [ldW_get hg]; rfl
    have ll : ldW false 1 (.ref 1 o 0 0 0 false) T = some (slT 4 f.l.length (cB f.l)) := by rw [ldW_get hg]; rfl
    have lm : ldW false 1 (.ref 1 o 4 0 0 false) T = some (.int 63 (Int.ofNat f.many)) := by rw [ldW_get hg]; rfl
    have l6 : ltI (Int.ofNat f.many) 6 = decide (f.many < 6) := ltI_nat _ 6
    by_cases c1 : i < most
    · have d1 : decide (i < most) = true := decide_eq_true c1
      by_cases c2 : f.at_ < f.l.length
      · have d2 : decide (f.at_ < f.l.length) = true := decide_eq_true c2
        by_cases c3 : f.many < 6
        · have d3 : decide (f.many < 6) = true := decide_eq_true c3
          obtain ⟨y, f', v', w', T1, t1, t2, t3, t4⟩ := ki n hI.went.feed hI.went.sep (by omega) (decide (i + 1 < most))
          obtain ⟨T3, g1, g2, g3, g4, g5, g6⟩ := hI.more (y := y) (by omega) t3 t4
          have hadd : fAdd 63 (Int.ofNat i) 1 = some (.int 63 (Int.ofNat (i + 1))) := f_add 63 i 1 (by omega)
          have hI' : ItsInv o d most f0 S0 T3 f' v' w' (l ++ [y]) (T1.next + 1) false (i + 1) := by
            obtain ⟨w1, w2, w3⟩ := t2
            refine ⟨g3, g4, g5, ⟨by have := t3.next; have := hI.went.next; omega, g6⟩, fun x hx => ?_, by rw [List.length_append, hI.len]; rfl, by rw [wL_app]; show _ = _ + (_ + (wI y + 0)); have := hI.many.1; omega, ?_⟩
            · rcases List.mem_append.1 hx with hx | hx
              · exact hI.all x hx
              · obtain rfl := List.mem_singleton.1 hx
                exact ⟨w2.imp id fun h => ⟨h.1, h.2.1⟩, fun hm2 => w3 (decide_eq_false (by omega))⟩
            · rcases w2 with h | ⟨_, _, h⟩
              · have : wI y = 1 := by
                  obtain ⟨k, n, v, p, lo, hi, ks⟩ := y
                  have e : ks = [] := h.2.1
                  rw [e]; rfl
                omega
              · exact h
          have body : ∃ tm1, b140_0 (evF fns (n + 1)) (n + 1) tm T = some (.nrm, tm1, T3) ∧ Keep [7, 8, 13, 14, 15, 16, 17, 18, 19, 20, 21, 22, 23, 24, 25, 26, 27, 28, 29, 30, 31, 32, 33, 34, 35, 36, 37, 38, 39, 40, 41, 42, 43, 44, 45, 46] tm tm1 ∧ X.ev tm1 (.t (pa 7)) = .ref 3 (T1.next + 1) 0 (i + 1) (i + 1) false ∧ X.ev tm1 (.t (pa 8)) = .int 63 (Int.ofNat (i + 1)) := by
            refine ⟨?_, ?_, ?_, ?_, ?_⟩
            rotate_left 1
            · simp only [b140_0, yY, iInt, iStr, iLenS, iLenL, iNot, iPick, iExt, if_true, if_false, reduceIte, Nat.reduceEqDiff, Nat.reduceAdd, reduceCtorEq, yD, yQ, at0, at2, at8, hp0, hp1, hp2, h7, h8, f_lss, ltI_nat, d1, d2, d3, m_nck, m_fad, m_add0, m_load, la, ll, lm, l6, x_slF, x_fsl4, x_oneM, x_oneE, x_oneP, x_oneK, x_oneL, hadd, t1, g1, g2]
              exact rfl
            · repeat (first | exact Keep.refl _ _ | refine Keep.to ?_ (by decide))
            · simp only [yL, if_true, if_false, reduceIte, Nat.reduceEqDiff, reduceCtorEq]
            · simp only [yL, if_true, if_false, reduceIte, Nat.reduceEqDiff, reduceCtorEq]
          obtain ⟨tm1, b1, b2, b3, b4⟩ := body
          obtain ⟨tm', T', f2, v2, w2, l2, k2, x2, i2, r1, r2, r3, r4, r5, r6⟩ := ih fu (i + 1) tm1 T3 f' v' w' (l ++ [y]) _ false (by omega) (by omega) (by omega) (by omega) hI' ⟨(b2 0 (by decide)).trans hp0, (b2 1 (by decide)).trans hp1, (b2 2 (by decide)).trans hp2⟩ b3 b4
          exact ⟨tm', T', f2, v2, w2, l2, k2, x2, i2, by rw [x_loop1, b1, x_nrm]; exact r1, b2.trans r2, r3, r4, r5, by omega⟩
        · have d3 : decide (f.many < 6) = false := decide_eq_false c3
          refine ⟨?_, T, f, v, w, l, k, x, i, ?_, ?_, hI, ?_, hi1, .inl (Nat.le_refl _)⟩
          rotate_left 1
          · rw [x_loop1]
            simp only [b140_0, yY, iInt, iStr, iLenS, iLenL, iNot, iPick, iExt, if_true, if_false, reduceIte, Nat.reduceEqDiff, Nat.reduceAdd, reduceCtorEq, yD, yQ, at0, at2, at8, hp0, hp1, hp2, h7, h8, f_lss, ltI_nat, d1, d2, d3, m_nck, m_fad, m_add0, m_load, la, ll, lm, l6, x_slF, x_fsl4, x_oneM, x_oneE, x_oneP, x_oneK, x_oneL]
            exact rfl
          · repeat (first | exact Keep.refl _ _ | refine Keep.to ?_ (by decide))
          · simp only [yL, if_true, if_false, reduceIte, Nat.reduceEqDiff, reduceCtorEq, h7]
      · have d2 : decide (f.at_ < f.l.length) = false := decide_eq_false c2
        refine ⟨?_, T, f, v, w, l, k, x, i, ?_, ?_, hI, ?_, hi1, .inl (Nat.le_refl _)⟩
        rotate_left 1
        · rw [x_loop1]
          simp only [b140_0, yY, iInt, iStr, iLenS, iLenL, iNot, iPick, iExt, if_true, if_false, reduceIte, Nat.reduceEqDiff, Nat.reduceAdd, reduceCtorEq, yD, yQ, at0, at2, at8, hp0, hp1, hp2, h7, h8, f_lss, ltI_nat, d1, d2, m_nck, m_fad, m_add0, m_load, la, ll, lm, l6, x_slF, x_fsl4, x_oneM, x_oneE, x_oneP, x_oneK, x_oneL]
          exact rfl
        · repeat (first | exact Keep.refl _ _ | refine Keep.to ?_ (by decide))
        · simp only [yL, if_true, if_false, reduceIte, Nat.reduceEqDiff, reduceCtorEq, h7]
    · have d1 : decide (i < most) = false := decide_eq_false c1
      refine ⟨?_, T, f, v, w, l, k, x, i, ?_, ?_, hI, ?_, hi1, .inl (Nat.le_refl _)⟩
      rotate_left 1
      · rw [x_loop1]
        simp only [b140_0, yY, iInt, iStr, iLenS, iLenL, iNot, iPick, iExt, if_true, if_false, reduceIte, Nat.reduceEqDiff, Nat.reduceAdd, reduceCtorEq, yD, yQ, at0, at2, at8, hp0, hp1, hp2, h7, h8, f_lss, ltI_nat, d1, x_oneM, x_oneE, x_oneP, x_oneK, x_oneL]
        exact rfl
      · repeat (first | exact Keep.refl _ _ | refine Keep.to ?_ (by decide))
      · simp only [yL, if_true, if_false, reduceIte, Nat.reduceEqDiff, reduceCtorEq, h7]
end
end Go.Proofs.YtnccejmggcjaoaaGreatDoor.Av
