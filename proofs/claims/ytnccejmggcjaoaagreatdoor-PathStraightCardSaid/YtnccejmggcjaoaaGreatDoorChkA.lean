/-
  ASKING ALL OF A ROW: slices.IndexFunc, slices.ContainsFunc, pattern.every, over items, lists, expressions, where none is found.
-/
import Derived.Test.YtnccejmggcjaoaaGreatDoorLoop
import Derived.Test.YtnccejmggcjaoaaGreatDoorIcT
import Derived.KernelRfl
namespace Go.Proofs.YtnccejmggcjaoaaGreatDoor.Av
set_option linter.unusedVariables false
set_option linter.unusedSimpArgs false
set_option maxRecDepth 1000000
open Go
noncomputable abbrev St.in (st : St) : St := { next := st.next, low := st.next, mem := st.mem }
theorem Aft.box {st : St} {b : Ob} : Aft st.next { next := st.next, low := st.next, mem := st.mem } (st.in.new b) := Aft.new (a := st.in) (b := st.in) (Aft.refl _ _) (Nat.le_refl _)
theorem ii_bI : b193_0 = rangeB 0 1 (pa 9) (pa 8) (pa 7) (pa 18) d193_0 := rfl
section
variable {fns : Tr Fs} {st : St} {t : Nat} {l : List It} {g : Nat} {cs : List V}
theorem idxI_none (hget : fns.get 193 = some sh193) {n : Nat} (ht : t = 4 ∨ t = 6) (hl : l.length < 2 ^ 60) (hn : l.length < n)
    (hc : ∀ x ∈ l, evF fns n g ((.cmp 2 0 (cI x)) :: cs) st.in = some (.ret (.bool false), st.in)) :
    evF fns (n + 1) 193 [slT t l.length (cIs l), .cmp 0 g cs] st = some (.ret (.int 63 (-1)), st) := by
  have hF : ∀ tm : Tr V, (X.ev tm (.t (pa 0)) = slT t l.length (cIs l) ∧ X.ev tm (.t (pa 1)) = .cmp 0 g cs ∧ X.ev tm (.t (pa 7)) = .int 63 (Int.ofNat l.length) ∧ X.ev tm (.t (pa 8)) = .int 63 0) →
      ∃ tm', Keep [4, 5, 8, 9, 10, 11, 12, 13, 14, 15, 16, 17, 18] tm tm' ∧ outR 0 (loopV n (b193_0 (evF fns n) n) tm st.in) = some (.nrm, tm', st.in) := by
    intro tm ⟨h0, h1, h7, h8⟩
    rw [ii_bI]
    obtain ⟨tm', st', g1, _, g3, g4, _⟩ := range_all (call := evF fns n) (n := n) (id := 0) (bid := 1) (kc := 9) (ki := 8) (kl := 7) (kt := 18) (B := d193_0) (S := [4, 5, 8, 9, 10, 11, 12, 13, 14, 15, 16, 17, 18]) (S0 := [4, 5, 10, 11, 12, 13, 14, 15, 16, 17]) (L := 0) (len := l.length) (tm0 := tm) (st0 := st.in) (A := fun _ _ => True) (Q := fun _ s => s = st.in) (fuel := n) (by omega) (by decide) (fun _ _ _ _ _ h => h) h7 h8 rfl trivial hn
      (fun i tm1 s hi hK _ hs _ hI => by
        subst hs
        have h0' := (hK 0 (by decide)).trans h0
        have h1' := (hK 1 (by decide)).trans h1
        have hcl := hc l[i] (List.getElem_mem hi)
        have hia : ∀ (tm : Tr V) (p q : Pa), X.ev tm (.t p) = slT t l.length (cIs l) → X.ev tm (.t q) = .int 63 (Int.ofNat i) → iIad 7 (.t p) (.t q) tm st.in = _ := fun tm p q a b => iad_I ht a b hi
        simp only [d193_0, yX, iInt, iStr, iLenS, iLenL, iNot, iPick, iExt, if_true, if_false, reduceIte, Nat.reduceEqDiff, Nat.reduceAdd, reduceCtorEq, yQ, h0', h1', hI, hia, m_load, ld_I ht, List.cons_append, List.nil_append, hcl]
        refine ⟨_, _, ?_, Aft.refl _ _, rfl, rfl, trivial⟩
        repeat (first | exact Keep.refl _ _ | refine Keep.to ?_ (by decide)))
    subst g4
    exact ⟨tm', g1, g3⟩
  obtain ⟨F, hK, hF2⟩ := loopF hF
  have hFr := fun tm a b c d => hF2 tm ⟨a, b, c, d⟩
  rw [ev_mk hget]
  rcases ht with rfl | rfl
  all_goals
    simp only [c193_0, c193_1, c193_2, c193_3, yX, iInt, iStr, iLenS, iLenL, iNot, iPick, iExt, if_true, if_false, reduceIte, Nat.reduceEqDiff, Nat.reduceAdd, reduceCtorEq, yQ, x_slF, x_fsl4, x_fsl6, hFr]
    refine leave_scalar (v := .int 63 (-1)) ?_ (fun h => nomatch h) rfl (Aft.refl _ _)
    simp only [yL, if_true, if_false, reduceIte, Nat.reduceEqDiff, reduceCtorEq]
theorem cfI_none (h1 : fns.get 143 = some sh143) (h2 : fns.get 193 = some sh193) {n : Nat} (ht : t = 4 ∨ t = 6) (hl : l.length < 2 ^ 60) (hn : l.length < n)
    (hc : ∀ x ∈ l, evF fns n g ((.cmp 2 0 (cI x)) :: cs) st.in = some (.ret (.bool false), st.in)) :
    evF fns (n + 2) 143 [slT t l.length (cIs l), .cmp 0 g cs] st = some (.ret (.bool false), st) := by
  have hi := idxI_none (st := st.in) (cs := cs) h2 ht hl hn hc
  have e1 : fGeq 63 (-1) 0 = some (.bool false) := rfl
  rw [ev_mk h1]
  simp only [c143_0, c143_1, yX, iInt, iStr, iLenS, iLenL, iNot, iPick, iExt, if_true, if_false, reduceIte, Nat.reduceEqDiff, Nat.reduceAdd, reduceCtorEq, yQ, hi, e1]
  refine leave_scalar (v := .bool false) ?_ (fun h => nomatch h) rfl (Aft.refl _ _)
  simp only [yL, if_true, if_false, reduceIte, Nat.reduceEqDiff, reduceCtorEq]
theorem everyI (h1 : fns.get 134 = some sh134) (h2 : fns.get 186 = some sh186) (h3 : fns.get 143 = some sh143) (h4 : fns.get 193 = some sh193) {n : Nat} (ht : t = 4 ∨ t = 6) (hl : l.length < 2 ^ 60) (hn : l.length < n + 1)
    (hc : ∀ x ∈ l, ∀ s : St, evF fns n g [(.cmp 2 0 (cI x))] s = some (.ret (.bool true), s)) :
    evF fns (n + 4) 134 [slT t l.length (cIs l), .cmp 0 g []] st = some (.ret (.bool true), st) := by
  obtain ⟨S, hS⟩ : ∃ S, S = st.in.new (.cells 127 [.cmp 0 g []] true) := ⟨_, rfl⟩
  have hbox : ∀ tm : Tr V, X.ev tm (.t (pa 1)) = .cmp 0 g [] → iBox 127 (.t (pa 1)) tm st.in = some (.ref 1 st.next 0 0 0 false, S) := fun tm h => by rw [m_box (cs := [.cmp 0 g []]) (by rw [h]; rfl), hS]
  have hSn : S.next = st.next + 1 := by rw [hS]; rfl
  have hcl : ∀ x ∈ l, evF fns (n + 1) 186 ((.cmp 2 0 (cI x)) :: [.ref 1 st.next 0 0 0 false]) S.in = some (.ret (.bool false), S.in) := fun x hx => by
    rw [ev_mk h2]
    obtain ⟨T, hT⟩ : ∃ T, T = S.in.in.new (.cells 34 (cI x) true) := ⟨_, rfl⟩
    have hb : ∀ tm : Tr V, X.ev tm (.t (pa 0)) = (.cmp 2 0 (cI x)) → iBox 34 (.t (pa 0)) tm S.in.in = some (.ref 1 S.next 0 0 0 false, T) := fun tm h => by rw [m_box (cs := cI x) (by rw [h]; rfl), hT]
    have l1 : ldW false 1 (.ref 1 st.next 0 0 0 false) T = some (.cmp 0 g []) := by
      rw [hT, ldW_new (by show st.next < S.next; omega)]
      have : S.in.in.mem.get st.next = some (.cells 127 [.cmp 0 g []] true) := by show S.mem.get st.next = _; rw [hS]; exact new_get_self' _ _
      rw [ldW_get this]; rfl
    have l2 : ldW true 7 (.ref 1 S.next 0 0 0 false) T = some (.cmp 2 0 (cI x)) := by
      rw [hT]
      exact (ldW_nb (st := S.in.in)).trans (part_whole (cI_len x))
    simp only [c186_0, c186_1, yX, iInt, iStr, iLenS, iLenL, iNot, iPick, iExt, if_true, if_false, reduceIte, Nat.reduceEqDiff, Nat.reduceAdd, reduceCtorEq, yQ, hb, m_load, l1, l2, List.append_nil, List.cons_append, List.nil_append, hc x hx T]
    refine leave_scalar (v := .bool false) ?_ (fun h => nomatch h) rfl ?_
    · simp only [yL, if_true, if_false, reduceIte, Nat.reduceEqDiff, reduceCtorEq]
    · rw [hT]; exact Aft.box
  have hcf := cfI_none (st := S) (cs := [.ref 1 st.next 0 0 0 false]) h3 h4 ht hl hn hcl
  have hkf : ∀ tm : Tr V, X.ev tm (.t (pa 3)) = .ref 1 st.next 0 0 0 false → iMkf 186 [.t (pa 3)] tm S = some (.cmp 0 186 [.ref 1 st.next 0 0 0 false]) := fun tm h => by
    show some (V.cmp 0 _ [X.ev tm (.t (pa 3))]) = _
    rw [h]
  rw [ev_mk h1]
  simp only [c134_0, c134_1, yX, iInt, iStr, iLenS, iLenL, iNot, iPick, iExt, if_true, if_false, reduceIte, Nat.reduceEqDiff, Nat.reduceAdd, reduceCtorEq, yQ, hbox, hkf, hcf]
  refine leave_scalar (v := .bool true) ?_ (fun h => nomatch h) rfl ?_
  · simp only [yL, if_true, if_false, reduceIte, Nat.reduceEqDiff, reduceCtorEq]
  · rw [hS]; exact Aft.box
end
theorem ii_bK : b194_0 = rangeB 0 1 (pa 9) (pa 8) (pa 7) (pa 18) d194_0 := rfl
section
variable {fns : Tr Fs} {st : St} {t : Nat} {l : List (List It)} {g : Nat} {cs : List V}
theorem idxK_none (hget : fns.get 194 = some sh194) {n : Nat} (ht : t = 4 ∨ t = 6) (hl : l.length < 2 ^ 60) (hn : l.length < n)
    (hc : ∀ x ∈ l, evF fns n g ((slT 4 x.length (cIs x)) :: cs) st.in = some (.ret (.bool false), st.in)) :
    evF fns (n + 1) 194 [slT t l.length (cKs l), .cmp 0 g cs] st = some (.ret (.int 63 (-1)), st) := by
  have hF : ∀ tm : Tr V, (X.ev tm (.t (pa 0)) = slT t l.length (cKs l) ∧ X.ev tm (.t (pa 1)) = .cmp 0 g cs ∧ X.ev tm (.t (pa 7)) = .int 63 (Int.ofNat l.length) ∧ X.ev tm (.t (pa 8)) = .int 63 0) →
      ∃ tm', Keep [4, 5, 8, 9, 10, 11, 12, 13, 14, 15, 16, 17, 18] tm tm' ∧ outR 0 (loopV n (b194_0 (evF fns n) n) tm st.in) = some (.nrm, tm', st.in) := by
    intro tm ⟨h0, h1, h7, h8⟩
    rw [ii_bK]
    obtain ⟨tm', st', g1, _, g3, g4, _⟩ := range_all (call := evF fns n) (n := n) (id := 0) (bid := 1) (kc := 9) (ki := 8) (kl := 7) (kt := 18) (B := d194_0) (S := [4, 5, 8, 9, 10, 11, 12, 13, 14, 15, 16, 17, 18]) (S0 := [4, 5, 10, 11, 12, 13, 14, 15, 16, 17]) (L := 0) (len := l.length) (tm0 := tm) (st0 := st.in) (A := fun _ _ => True) (Q := fun _ s => s = st.in) (fuel := n) (by omega) (by decide) (fun _ _ _ _ _ h => h) h7 h8 rfl trivial hn
      (fun i tm1 s hi hK _ hs _ hI => by
        subst hs
        have h0' := (hK 0 (by decide)).trans h0
        have h1' := (hK 1 (by decide)).trans h1
        have hcl := hc l[i] (List.getElem_mem hi)
        have hia : ∀ (tm : Tr V) (p q : Pa), X.ev tm (.t p) = slT t l.length (cKs l) → X.ev tm (.t q) = .int 63 (Int.ofNat i) → iIad 1 (.t p) (.t q) tm st.in = _ := fun tm p q a b => iad_K ht a b hi
        simp only [d194_0, yX, iInt, iStr, iLenS, iLenL, iNot, iPick, iExt, if_true, if_false, reduceIte, Nat.reduceEqDiff, Nat.reduceAdd, reduceCtorEq, yQ, h0', h1', hI, hia, m_load, ld_K ht, List.cons_append, List.nil_append, hcl]
        refine ⟨_, _, ?_, Aft.refl _ _, rfl, rfl, trivial⟩
        repeat (first | exact Keep.refl _ _ | refine Keep.to ?_ (by decide)))
    subst g4
    exact ⟨tm', g1, g3⟩
  obtain ⟨F, hK, hF2⟩ := loopF hF
  have hFr := fun tm a b c d => hF2 tm ⟨a, b, c, d⟩
  rw [ev_mk hget]
  rcases ht with rfl | rfl
  all_goals
    simp only [c194_0, c194_1, c194_2, c194_3, yX, iInt, iStr, iLenS, iLenL, iNot, iPick, iExt, if_true, if_false, reduceIte, Nat.reduceEqDiff, Nat.reduceAdd, reduceCtorEq, yQ, x_slF, x_fsl4, x_fsl6, hFr]
    refine leave_scalar (v := .int 63 (-1)) ?_ (fun h => nomatch h) rfl (Aft.refl _ _)
    simp only [yL, if_true, if_false, reduceIte, Nat.reduceEqDiff, reduceCtorEq]
theorem cfK_none (h1 : fns.get 145 = some sh145) (h2 : fns.get 194 = some sh194) {n : Nat} (ht : t = 4 ∨ t = 6) (hl : l.length < 2 ^ 60) (hn : l.length < n)
    (hc : ∀ x ∈ l, evF fns n g ((slT 4 x.length (cIs x)) :: cs) st.in = some (.ret (.bool false), st.in)) :
    evF fns (n + 2) 145 [slT t l.length (cKs l), .cmp 0 g cs] st = some (.ret (.bool false), st) := by
  have hi := idxK_none (st := st.in) (cs := cs) h2 ht hl hn hc
  have e1 : fGeq 63 (-1) 0 = some (.bool false) := rfl
  rw [ev_mk h1]
  simp only [c145_0, c145_1, yX, iInt, iStr, iLenS, iLenL, iNot, iPick, iExt, if_true, if_false, reduceIte, Nat.reduceEqDiff, Nat.reduceAdd, reduceCtorEq, yQ, hi, e1]
  refine leave_scalar (v := .bool false) ?_ (fun h => nomatch h) rfl (Aft.refl _ _)
  simp only [yL, if_true, if_false, reduceIte, Nat.reduceEqDiff, reduceCtorEq]
theorem everyK (h1 : fns.get 187 = some sh187) (h2 : fns.get 223 = some sh223) (h3 : fns.get 145 = some sh145) (h4 : fns.get 194 = some sh194) {n : Nat} (ht : t = 4 ∨ t = 6) (hl : l.length < 2 ^ 60) (hn : l.length < n + 1)
    (hc : ∀ x ∈ l, ∀ s : St, evF fns n g [(slT 4 x.length (cIs x))] s = some (.ret (.bool true), s)) :
    evF fns (n + 4) 187 [slT t l.length (cKs l), .cmp 0 g []] st = some (.ret (.bool true), st) := by
  obtain ⟨S, hS⟩ : ∃ S, S = st.in.new (.cells 128 [.cmp 0 g []] true) := ⟨_, rfl⟩
  have hbox : ∀ tm : Tr V, X.ev tm (.t (pa 1)) = .cmp 0 g [] → iBox 128 (.t (pa 1)) tm st.in = some (.ref 1 st.next 0 0 0 false, S) := fun tm h => by rw [m_box (cs := [.cmp 0 g []]) (by rw [h]; rfl), hS]
  have hSn : S.next = st.next + 1 := by rw [hS]; rfl
  have hcl : ∀ x ∈ l, evF fns (n + 1) 223 ((slT 4 x.length (cIs x)) :: [.ref 1 st.next 0 0 0 false]) S.in = some (.ret (.bool false), S.in) := fun x hx => by
    rw [ev_mk h2]
    have l1 : ldW false 1 (.ref 1 st.next 0 0 0 false) S.in.in = some (.cmp 0 g []) := by
      have : S.in.in.mem.get st.next = some (.cells 128 [.cmp 0 g []] true) := by show S.mem.get st.next = _; rw [hS]; exact new_get_self' _ _
      rw [ldW_get this]; rfl
    simp only [c223_0, c223_1, yX, iInt, iStr, iLenS, iLenL, iNot, iPick, iExt, if_true, if_false, reduceIte, Nat.reduceEqDiff, Nat.reduceAdd, reduceCtorEq, yQ, m_load, l1, List.append_nil, List.cons_append, List.nil_append, hc x hx]
    refine leave_scalar (v := .bool false) ?_ (fun h => nomatch h) rfl (Aft.refl _ _)
    simp only [yL, if_true, if_false, reduceIte, Nat.reduceEqDiff, reduceCtorEq]
  have hcf := cfK_none (st := S) (cs := [.ref 1 st.next 0 0 0 false]) h3 h4 ht hl hn hcl
  have hkf : ∀ tm : Tr V, X.ev tm (.t (pa 3)) = .ref 1 st.next 0 0 0 false → iMkf 223 [.t (pa 3)] tm S = some (.cmp 0 223 [.ref 1 st.next 0 0 0 false]) := fun tm h => by
    show some (V.cmp 0 _ [X.ev tm (.t (pa 3))]) = _
    rw [h]
  rw [ev_mk h1]
  simp only [c187_0, c187_1, yX, iInt, iStr, iLenS, iLenL, iNot, iPick, iExt, if_true, if_false, reduceIte, Nat.reduceEqDiff, Nat.reduceAdd, reduceCtorEq, yQ, hbox, hkf, hcf]
  refine leave_scalar (v := .bool true) ?_ (fun h => nomatch h) rfl ?_
  · simp only [yL, if_true, if_false, reduceIte, Nat.reduceEqDiff, reduceCtorEq]
  · rw [hS]; exact Aft.box
end
theorem ii_bE : b248_0 = rangeB 0 1 (pa 9) (pa 8) (pa 7) (pa 18) d248_0 := rfl
section
variable {fns : Tr Fs} {st : St} {t : Nat} {l : List Et} {g : Nat} {cs : List V}
theorem idxE_none (hget : fns.get 248 = some sh248) {n : Nat} (ht : t = 4 ∨ t = 6) (hl : l.length < 2 ^ 60) (hn : l.length < n)
    (hc : ∀ x ∈ l, evF fns n g ((.cmp 2 0 (cE x)) :: cs) st.in = some (.ret (.bool false), st.in)) :
    evF fns (n + 1) 248 [slT t l.length (cEs l), .cmp 0 g cs] st = some (.ret (.int 63 (-1)), st) := by
  have hF : ∀ tm : Tr V, (X.ev tm (.t (pa 0)) = slT t l.length (cEs l) ∧ X.ev tm (.t (pa 1)) = .cmp 0 g cs ∧ X.ev tm (.t (pa 7)) = .int 63 (Int.ofNat l.length) ∧ X.ev tm (.t (pa 8)) = .int 63 0) →
      ∃ tm', Keep [4, 5, 8, 9, 10, 11, 12, 13, 14, 15, 16, 17, 18] tm tm' ∧ outR 0 (loopV n (b248_0 (evF fns n) n) tm st.in) = some (.nrm, tm', st.in) := by
    intro tm ⟨h0, h1, h7, h8⟩
    rw [ii_bE]
    obtain ⟨tm', st', g1, _, g3, g4, _⟩ := range_all (call := evF fns n) (n := n) (id := 0) (bid := 1) (kc := 9) (ki := 8) (kl := 7) (kt := 18) (B := d248_0) (S := [4, 5, 8, 9, 10, 11, 12, 13, 14, 15, 16, 17, 18]) (S0 := [4, 5, 10, 11, 12, 13, 14, 15, 16, 17]) (L := 0) (len := l.length) (tm0 := tm) (st0 := st.in) (A := fun _ _ => True) (Q := fun _ s => s = st.in) (fuel := n) (by omega) (by decide) (fun _ _ _ _ _ h => h) h7 h8 rfl trivial hn
      (fun i tm1 s hi hK _ hs _ hI => by
        subst hs
        have h0' := (hK 0 (by decide)).trans h0
        have h1' := (hK 1 (by decide)).trans h1
        have hcl := hc l[i] (List.getElem_mem hi)
        have hia : ∀ (tm : Tr V) (p q : Pa), X.ev tm (.t p) = slT t l.length (cEs l) → X.ev tm (.t q) = .int 63 (Int.ofNat i) → iIad 6 (.t p) (.t q) tm st.in = _ := fun tm p q a b => iad_E ht a b hi
        simp only [d248_0, yX, iInt, iStr, iLenS, iLenL, iNot, iPick, iExt, if_true, if_false, reduceIte, Nat.reduceEqDiff, Nat.reduceAdd, reduceCtorEq, yQ, h0', h1', hI, hia, m_load, ld_E ht, List.cons_append, List.nil_append, hcl]
        refine ⟨_, _, ?_, Aft.refl _ _, rfl, rfl, trivial⟩
        repeat (first | exact Keep.refl _ _ | refine Keep.to ?_ (by decide)))
    subst g4
    exact ⟨tm', g1, g3⟩
  obtain ⟨F, hK, hF2⟩ := loopF hF
  have hFr := fun tm a b c d => hF2 tm ⟨a, b, c, d⟩
  rw [ev_mk hget]
  rcases ht with rfl | rfl
  all_goals
    simp only [c248_0, c248_1, c248_2, c248_3, yX, iInt, iStr, iLenS, iLenL, iNot, iPick, iExt, if_true, if_false, reduceIte, Nat.reduceEqDiff, Nat.reduceAdd, reduceCtorEq, yQ, x_slF, x_fsl4, x_fsl6, hFr]
    refine leave_scalar (v := .int 63 (-1)) ?_ (fun h => nomatch h) rfl (Aft.refl _ _)
    simp only [yL, if_true, if_false, reduceIte, Nat.reduceEqDiff, reduceCtorEq]
theorem cfE_none (h1 : fns.get 224 = some sh224) (h2 : fns.get 248 = some sh248) {n : Nat} (ht : t = 4 ∨ t = 6) (hl : l.length < 2 ^ 60) (hn : l.length < n)
    (hc : ∀ x ∈ l, evF fns n g ((.cmp 2 0 (cE x)) :: cs) st.in = some (.ret (.bool false), st.in)) :
    evF fns (n + 2) 224 [slT t l.length (cEs l), .cmp 0 g cs] st = some (.ret (.bool false), st) := by
  have hi := idxE_none (st := st.in) (cs := cs) h2 ht hl hn hc
  have e1 : fGeq 63 (-1) 0 = some (.bool false) := rfl
  rw [ev_mk h1]
  simp only [c224_0, c224_1, yX, iInt, iStr, iLenS, iLenL, iNot, iPick, iExt, if_true, if_false, reduceIte, Nat.reduceEqDiff, Nat.reduceAdd, reduceCtorEq, yQ, hi, e1]
  refine leave_scalar (v := .bool false) ?_ (fun h => nomatch h) rfl (Aft.refl _ _)
  simp only [yL, if_true, if_false, reduceIte, Nat.reduceEqDiff, reduceCtorEq]
theorem everyE (h1 : fns.get 188 = some sh188) (h2 : fns.get 225 = some sh225) (h3 : fns.get 224 = some sh224) (h4 : fns.get 248 = some sh248) {n : Nat} (ht : t = 4 ∨ t = 6) (hl : l.length < 2 ^ 60) (hn : l.length < n + 1)
    (hc : ∀ x ∈ l, ∀ s : St, evF fns n g [(.cmp 2 0 (cE x))] s = some (.ret (.bool true), s)) :
    evF fns (n + 4) 188 [slT t l.length (cEs l), .cmp 0 g []] st = some (.ret (.bool true), st) := by
  obtain ⟨S, hS⟩ : ∃ S, S = st.in.new (.cells 256 [.cmp 0 g []] true) := ⟨_, rfl⟩
  have hbox : ∀ tm : Tr V, X.ev tm (.t (pa 1)) = .cmp 0 g [] → iBox 256 (.t (pa 1)) tm st.in = some (.ref 1 st.next 0 0 0 false, S) := fun tm h => by rw [m_box (cs := [.cmp 0 g []]) (by rw [h]; rfl), hS]
  have hSn : S.next = st.next + 1 := by rw [hS]; rfl
  have hcl : ∀ x ∈ l, evF fns (n + 1) 225 ((.cmp 2 0 (cE x)) :: [.ref 1 st.next 0 0 0 false]) S.in = some (.ret (.bool false), S.in) := fun x hx => by
    rw [ev_mk h2]
    obtain ⟨T, hT⟩ : ∃ T, T = S.in.in.new (.cells 43 (cE x) true) := ⟨_, rfl⟩
    have hb : ∀ tm : Tr V, X.ev tm (.t (pa 0)) = (.cmp 2 0 (cE x)) → iBox 43 (.t (pa 0)) tm S.in.in = some (.ref 1 S.next 0 0 0 false, T) := fun tm h => by rw [m_box (cs := cE x) (by rw [h]; rfl), hT]
    have l1 : ldW false 1 (.ref 1 st.next 0 0 0 false) T = some (.cmp 0 g []) := by
      rw [hT, ldW_new (by show st.next < S.next; omega)]
      have : S.in.in.mem.get st.next = some (.cells 256 [.cmp 0 g []] true) := by show S.mem.get st.next = _; rw [hS]; exact new_get_self' _ _
      rw [ldW_get this]; rfl
    have l2 : ldW true 6 (.ref 1 S.next 0 0 0 false) T = some (.cmp 2 0 (cE x)) := by
      rw [hT]
      exact (ldW_nb (st := S.in.in)).trans (part_whole (cE_len x))
    simp only [c225_0, c225_1, yX, iInt, iStr, iLenS, iLenL, iNot, iPick, iExt, if_true, if_false, reduceIte, Nat.reduceEqDiff, Nat.reduceAdd, reduceCtorEq, yQ, hb, m_load, l1, l2, List.append_nil, List.cons_append, List.nil_append, hc x hx T]
    refine leave_scalar (v := .bool false) ?_ (fun h => nomatch h) rfl ?_
    · simp only [yL, if_true, if_false, reduceIte, Nat.reduceEqDiff, reduceCtorEq]
    · rw [hT]; exact Aft.box
  have hcf := cfE_none (st := S) (cs := [.ref 1 st.next 0 0 0 false]) h3 h4 ht hl hn hcl
  have hkf : ∀ tm : Tr V, X.ev tm (.t (pa 3)) = .ref 1 st.next 0 0 0 false → iMkf 225 [.t (pa 3)] tm S = some (.cmp 0 225 [.ref 1 st.next 0 0 0 false]) := fun tm h => by
    show some (V.cmp 0 _ [X.ev tm (.t (pa 3))]) = _
    rw [h]
  rw [ev_mk h1]
  simp only [c188_0, c188_1, yX, iInt, iStr, iLenS, iLenL, iNot, iPick, iExt, if_true, if_false, reduceIte, Nat.reduceEqDiff, Nat.reduceAdd, reduceCtorEq, yQ, hbox, hkf, hcf]
  refine leave_scalar (v := .bool true) ?_ (fun h => nomatch h) rfl ?_
  · simp only [yL, if_true, if_false, reduceIte, Nat.reduceEqDiff, reduceCtorEq]
  · rw [hS]; exact Aft.box
end
end Go.Proofs.YtnccejmggcjaoaaGreatDoor.Av
