/-
  jettisonlaw12.PathStraight: what it makes; its first loop.
-/
import Derived.Test.YtnccejmggcjaoaaGreatDoorPthO
import Derived.Test.YtnccejmggcjaoaaGreatDoorEx12
namespace Go.Proofs.YtnccejmggcjaoaaGreatDoor.Av
set_option linter.unusedVariables false
set_option linter.unusedSimpArgs false
set_option maxRecDepth 1000000
open Go
structure LawS (fns : Tr Fs) : Prop where
  ok : TableOk Tryz.prog fns
  law : fns.get 11 = some sh11
  ex : ∀ (n : Nat) (st : St), sameTab tab6 (st.mem.get 6) = true → evF fns (n + 1) 46 [] st = some (.ret (.bool true), st)
  kinds : ∀ (n : Nat) (st : St), evF fns (n + 1) 49 [] st = some (.ret ksV, st)
  find : ∀ (n : Nat) {s : Str} {k : Nat}, FndK s k → ∀ st : St, evF fns (n + 1) 53 [ksV, .str s] st = some (.ret (.int 63 (Int.ofNat k)), st)
  of_ : ∀ (n : Nat) {st : St} {v : V} {l : List It}, FlatIn st v l → ∀ (w : Int), 0 ≤ w ∧ w ≤ 1000000000 → evF fns (n + 1) 48 [ksV, .cmp 2 0 [v, .int 63 w, .str []]] st = some (.ret (.tup [slT 4 1 [slT 4 (l.map stepOf).length (cPs (l.map stepOf))], .int 63 0]), st)
theorem lawS : ∃ fns, LawS fns := by
  obtain ⟨g1, m1, k1⟩ := kinds_known2
  obtain ⟨g2, m2, k2⟩ := finds_known
  obtain ⟨g3, m3, k3⟩ := of_known
  refine ⟨(((table.set 46 (some (.spec exG))).set 49 (some (.memo g1))).set 53 (some (.memo g2))).set 48 (some (.memo g3)), tableMemo (tableMemo (tableMemo (tableSpec tab ex12_spec) m1) m2) m3, ?_, ?_, ?_, ?_, ?_⟩
  · rw [get_set, if_neg (by decide), get_set, if_neg (by decide), get_set, if_neg (by decide), get_set, if_neg (by decide)]; kernel_rfl
  · intro n st h
    refine ev_spec (g := exG) (by rw [get_set, if_neg (by decide), get_set, if_neg (by decide), get_set, if_neg (by decide), get_set, if_pos rfl]) ?_
    show (bif sameTab tab6 (st.mem.get 6) then some (V.bool true) else none) = _
    rw [h]; rfl
  · exact k1 _ (by rw [get_set, if_neg (by decide), get_set, if_neg (by decide), get_set, if_pos rfl])
  · exact fun n {s k} h st => k2 _ (by rw [get_set, if_neg (by decide), get_set, if_pos rfl]) n h st
  · exact k3 _ (by rw [get_set, if_pos rfl])
def namesS : List Str := [[65], [66], [67]]
def vS (i : Nat) : Str := [118, UInt8.ofNat (97 + i)]
def kb (l : List Nat) (i : Nat) : Nat := (l[i]?).getD i
def nmS (l : List Nat) (i : Nat) : Str := namesS.getD (kb l i % 3) []
def itS (l : List Nat) (i : Nat) : It := .mk 0 (nmS l i) (vS i) [] 0 0 []
def itsS (l : List Nat) (m : Nat) : List It := (List.range m).map (itS l)
theorem vS_mem {i : Nat} (h : i < 11) : vS i ∈ nmsC := by
  match i, h with
  | 0, _ => decide
  | 1, _ => decide
  | 2, _ => decide
  | 3, _ => decide
  | 4, _ => decide
  | 5, _ => decide
  | 6, _ => decide
  | 7, _ => decide
  | 8, _ => decide
  | 9, _ => decide
  | 10, _ => decide
theorem nmS_fnd (l : List Nat) (i : Nat) : FndK (nmS l i) (kb l i % 3) ∧ nmS l i ∈ nmsC := by
  have h : kb l i % 3 < 3 := Nat.mod_lt _ (by decide)
  unfold nmS
  generalize kb l i % 3 = k at h
  match k, h with
  | 0, _ => exact ⟨.inl ⟨rfl, rfl⟩, by decide⟩
  | 1, _ => exact ⟨.inr (.inl ⟨rfl, rfl⟩), by decide⟩
  | 2, _ => exact ⟨.inr (.inr ⟨rfl, rfl⟩), by decide⟩
theorem one_itS (l : List Nat) {i : Nat} (h : i < 11) : OneI (itS l i) := ⟨nmS l i, vS i, _, rfl, (nmS_fnd l i).1, (nmS_fnd l i).2, vS_mem h⟩
theorem itsS_len (l : List Nat) (m : Nat) : (itsS l m).length = m := by unfold itsS; rw [List.length_map, List.length_range]
theorem itsS_succ (l : List Nat) (m : Nat) : itsS l (m + 1) = itsS l m ++ [itS l m] := by unfold itsS; rw [List.range_succ, List.map_append]; rfl
theorem ones_itsS (l : List Nat) {m : Nat} (h : m ≤ 11) : ∀ x ∈ itsS l m, OneI x := fun x hx => by
  obtain ⟨i, hi, rfl⟩ := List.mem_map.1 hx
  exact one_itS l (Nat.lt_of_lt_of_le (List.mem_range.1 hi) h)
def RowIs (s : St) (L : Nat) (v : V) (l : List It) : Prop := (v = .ref 2 0 0 0 0 false ∧ l = []) ∨ ∃ k, v = .ref 3 k 0 l.length l.length false ∧ s.mem.get k = some (.cells 34 (rIs l) true) ∧ L ≤ k ∧ k < s.next ∧ 0 < l.length
structure InvSt (L o m : Nat) (l : List Nat) (i : Nat) (tm : Tr V) (s : St) : Prop where
  p0 : X.ev tm (.t (pa 0)) = slT 4 l.length (cB l)
  p3 : X.ev tm (.t (pa 3)) = .bool true
  p4 : X.ev tm (.t (pa 4)) = .int 63 (Int.ofNat m)
  p5 : X.ev tm (.t (pa 5)) = .ref 1 o 0 0 0 false
  p6 : X.ev tm (.t (pa 6)) = .int 63 (Int.ofNat i)
  lt : o < s.next
  ge : L ≤ o
  low : L ≤ s.low ∧ s.low ≤ s.next
  nx : L ≤ s.next
  row : ∃ v, s.mem.get o = some (.cells 27 [v, .int 63 3, .str []] true) ∧ RowIs s L v (itsS l i)
section
variable {call : Callee} {n : Nat} {L o m : Nat} {l : List Nat}
set_option maxHeartbeats 16000000 in
theorem str_step (hl : l.length < 2 ^ 63) {i : Nat} (hi : i < m) (hm : m ≤ 11) {tm : Tr V} {s : St} (h : InvSt L o m l i tm s) :
    ∃ tm' s', b11_0 call n tm s = some (.nrm, tm', s') ∧ InvSt L o m l (i + 1) tm' s' := by
  obtain ⟨h0, h3, h4, h5, h6, hlt, hge, hlow, hnx, v, hg, hrow⟩ := h
  have c1 : fLss 63 (Int.ofNat i) (Int.ofNat m) = some (.bool true) := by rw [f_lssN, decide_eq_true hi]
  obtain ⟨b, hbd⟩ : ∃ b, b = kb l i := ⟨_, rfl⟩
  have hrem : fRem 8 (Int.ofNat b) 3 = some (.int 8 (Int.ofNat (b % 3))) := f_rem 8 b 3 (by decide)
  have hk3 : b % 3 < 3 := Nat.mod_lt _ (by decide)
  have hadd : fAdd 63 (Int.ofNat i) 1 = some (.int 63 (Int.ofNat (i + 1))) := f_add 63 i 1 (by omega)
  have hcvi : wrapC 8 (Int.ofNat i) = Int.ofNat i := wrap_lt (by omega)
  have ha97 : fAdd 8 97 (Int.ofNat i) = some (.int 8 (Int.ofNat (97 + i))) := f_add 8 97 i (by omega)
  have hlen : (itsS l i).length = i := itsS_len l i
  obtain ⟨x, hx⟩ : ∃ x, x = itS l i := ⟨_, rfl⟩
  have hrx : rI x = [.int 63 0, .str (namesS.getD (b % 3) []), .str (vS i), .ref 2 0 0 0 0 false, .int 63 0, .int 63 0, .ref 2 0 0 0 0 false] := by rw [hx, hbd]; rfl
  generalize hbk : b % 3 = k at hrem hk3 hrx
  obtain ⟨s1, hs1⟩ : ∃ s1, s1 = s.new (.cells 9 [.str [65], .str [66], .str [67]] true) := ⟨_, rfl⟩
  have n1 : s1.next = s.next + 1 := by rw [hs1]; rfl
  have hbs1 : ∀ tm : Tr V, iBsl 9 3 [.str [], .str [], .str []] [(0, 1, .c (.str [65])), (1, 1, .c (.str [66])), (2, 1, .c (.str [67]))] tm s = some (.ref 3 s.next 0 3 3 true, s1) := fun tm => by rw [hs1]; rfl
  have hiad : ∀ (tm : Tr V), X.ev tm (.t (pa 37)) = .ref 3 s.next 0 3 3 true → X.ev tm (.t (pa 39)) = .int 8 (Int.ofNat k) → iIad 1 (.t (pa 37)) (.t (pa 39)) tm s1 = some (.ref 1 s.next k 0 0 false) := fun tm x y => by rw [iad_own x y hk3, Nat.mul_one]
  have hnm : ldW false 1 (.ref 1 s.next k 0 0 false) s1 = some (.str (namesS.getD k [])) := by
    rw [ldW_get (by rw [hs1]; exact new_get_self' _ _)]
    match k, hk3 with
    | 0, _ => rfl
    | 1, _ => rfl
    | 2, _ => rfl
  obtain ⟨s2, hs2⟩ : ∃ s2, s2 = s1.new (.cells 5 [.int 8 (Int.ofNat (97 + i))] true) := ⟨_, rfl⟩
  have n2 : s2.next = s.next + 2 := by rw [hs2]; show s1.next + 1 = _; omega
  have hbs2 : ∀ tm : Tr V, X.ev tm (.t (pa 44)) = .int 8 (Int.ofNat (97 + i)) → iBsl 5 1 [.int 8 0] [(0, 1, .t (pa 44))] tm s1 = some (.ref 3 s1.next 0 1 1 true, s2) := fun tm h => by
    rw [m_bsl, fillV_c, h, cells_int, fillS_1 (by decide), fillV_0, hs2]; rfl
  have hcvb : ∀ tm : Tr V, X.ev tm (.t (pa 45)) = .ref 3 s1.next 0 1 1 true → iCvbs (.t (pa 45)) tm s2 = some (.str [UInt8.ofNat (97 + i)]) := fun tm h => by
    unfold iCvbs
    rw [h]
    show onCells none _ (s2.mem.get s1.next) = _
    rw [hs2, new_get_self']; rfl
  have hcat : sAdd [118] [UInt8.ofNat (97 + i)] = some (.str (vS i)) := rfl
  have hbld : ∀ tm : Tr V, X.ev tm (.t (pa 41)) = .str (namesS.getD k []) → X.ev tm (.t (pa 47)) = .str (vS i) → iBuild [.int 63 0, .str [], .str [], .ref 2 0 0 0 0 false, .int 63 0, .int 63 0, .ref 2 0 0 0 0 false] [(1, 1, .t (pa 41)), (2, 1, .t (pa 47))] tm s2 = some (.cmp 2 0 (rI x)) := fun tm h h' => by
    rw [m_build, fillV_c, h, cells_str, fillS_1 (by decide), fillV_c, h', cells_str, fillS_1 (by show 2 < 7; decide), fillV_0, hrx]; rfl
  obtain ⟨s3, hs3⟩ : ∃ s3, s3 = s2.new (.cells 34 (rI x) true) := ⟨_, rfl⟩
  have n3 : s3.next = s.next + 3 := by rw [hs3]; show s2.next + 1 = _; omega
  have hbs3 : ∀ tm : Tr V, X.ev tm (.t (pa 48)) = .cmp 2 0 (rI x) → iBsl 34 1 [.int 63 0, .str [], .str [], .ref 2 0 0 0 0 false, .int 63 0, .int 63 0, .ref 2 0 0 0 0 false] [(0, 7, .t (pa 48))] tm s2 = some (.ref 3 s2.next 0 1 1 true, s3) := fun tm h => by
    rw [m_bsl, fillV_c, h, cells_agg2, fillS_w (n := 7) (by rw [hrx]; rfl) rfl, fillV_0, hs3]
  have low3 : s3.low = s.low := by rw [hs3, hs2, hs1]; rfl
  have hg3 : ∀ y, y < s.next → s3.mem.get y = s.mem.get y := fun y hy => by rw [hs3, new_get, if_neg (by omega), hs2, new_get, if_neg (by omega), hs1, new_get, if_neg (by omega)]
  obtain ⟨S4, a1, a2, a3, a4, a5⟩ := app_row (st := s3) (e := 34) (size := 7) (bytes := 104) (n := i) (ks := s2.next) (v := v) (cs := rIs (itsS l i)) (news := rI x) (by
      rcases hrow with ⟨rfl, h⟩ | ⟨k, h1, h2, h3, h4, _⟩
      · have : i = 0 := by rw [h] at hlen; exact hlen.symm
        exact .inl ⟨rfl, by rw [h]; rfl, this⟩
      · rw [hlen] at h1
        exact .inr ⟨k, h1, by rw [hg3 k h4]; exact h2⟩) (by rw [rIs_len, hlen]) (by rw [hs3]; exact new_get_self' _ _) (by rw [hrx]; rfl) (by omega)
  have hvo : ∀ k m, v = .ref 3 k 0 m m false → o ≠ k ∧ L ≤ k := fun k' m hv => by
    rcases hrow with ⟨rfl, _⟩ | ⟨k, h1, h2, h3, _, _⟩
    · exact nomatch hv
    · rw [h1] at hv
      injection hv with _ e
      subst e
      refine ⟨fun e => ?_, h3⟩
      rw [← e, hg] at h2
      injection h2 with h2
      injection h2 with h2 _ _
      exact absurd h2 (by decide)
  have go4 : S4.mem.get o = some (.cells 27 [v, .int 63 3, .str []] true) := by rw [a4 o (by omega) (fun k m hv => (hvo k m hv).1), hg3 o hlt]; exact hg
  obtain ⟨v', hv'⟩ : ∃ v' : V, v' = .ref 3 s3.next 0 (i + 1) (i + 1) false := ⟨_, rfl⟩
  obtain ⟨S5, hS5⟩ : ∃ S, S = S4.put o (some (.cells 27 [v', .int 63 3, .str []] true)) := ⟨_, rfl⟩
  have hst : stW 1 (.ref 1 o 0 0 0 false) v' S4 = some (.undef, S5) := by rw [hS5, hv']; exact stW_at go4 (cells_ref _ _ _ _ _ _) (show 0 < 3 by decide)
  have happ : ∀ tm : Tr V, X.ev tm (.t (pa 36)) = v → X.ev tm (.t (pa 49)) = .ref 3 s2.next 0 1 1 true → iApp false 34 7 104 (.t (pa 36)) (.t (pa 49)) tm s3 = some (v', S4) := fun tm x y => by rw [hv']; exact a1 tm _ _ x y
  have hl0 : ldW false 1 (.ref 1 o 0 0 0 false) s = some v := by rw [ldW_get hg, part_c0]
  have fin : ∀ tm' : Tr V, X.ev tm' (.t (pa 0)) = slT 4 l.length (cB l) → X.ev tm' (.t (pa 3)) = .bool true → X.ev tm' (.t (pa 4)) = .int 63 (Int.ofNat m) → X.ev tm' (.t (pa 5)) = .ref 1 o 0 0 0 false → X.ev tm' (.t (pa 6)) = .int 63 (Int.ofNat (i + 1)) → InvSt L o m l (i + 1) tm' S5 := fun tm' e0 e3 e4 e5 e6 => by
    have hlow4 := a5 L (by rw [low3]; exact hlow.1) (fun k m hv => (hvo k m hv).2)
    have n5 : S5.next = s.next + 4 := by rw [hS5]; show S4.next = _; omega
    refine ⟨e0, e3, e4, e5, e6, by omega, hge, ?_, by omega, v', by rw [hS5, put_get, if_pos rfl], .inr ⟨s3.next, by rw [itsS_len, hv'], ?_, by omega, by omega, by rw [itsS_len]; exact Nat.succ_pos _⟩⟩
    · rw [hS5, put_low]
      exact ⟨by omega, by show min S4.low o ≤ S4.next; omega⟩
    · rw [hS5, put_get, if_neg (by omega), a3, itsS_succ, rIs_app, ← hx]
      show some (Ob.cells _ (rIs (itsS l i) ++ rI x) true) = some (Ob.cells _ (rIs (itsS l i) ++ (rI x ++ [])) true)
      rw [List.append_nil]
  have h5' := at_of_ev h5 (fun h => nomatch h)
  have h6' := at_of_ev h6 (fun h => nomatch h)
  by_cases hil : i < l.length
  · have c2 : fLss 63 (Int.ofNat i) (Int.ofNat l.length) = some (.bool true) := by rw [f_lssN, decide_eq_true hil]
    have hb' : b = l[i] := by rw [hbd]; unfold kb; rw [List.getElem?_eq_getElem hil]; rfl
    have hia : ∀ (tm : Tr V), X.ev tm (.t (pa 31)) = slT 4 l.length (cB l) → X.ev tm (.t (pa 32)) = .int 63 (Int.ofNat i) → iIad 1 (.t (pa 31)) (.t (pa 32)) tm s = some (.cmp 5 0 (.int 8 (Int.ofNat b) :: cB (l.drop (i + 1)))) := fun tm x y => by rw [hb']; exact iad_B x y hil
    have hld : ldW false 1 (.cmp 5 0 (.int 8 (Int.ofNat b) :: cB (l.drop (i + 1)))) s = some (.int 8 (Int.ofNat b)) := by rw [ldW_5, part_c0]
    clear hx hbd hb' hlen hrow a1 a2 a3 a4 a5 hvo hg3 hrx
    refine ⟨?_, S5, ?_, ?_⟩
    rotate_left 1
    · simp only [b11_0, yY, iInt, iStr, iLenS, iLenL, iNot, iPick, iExt, if_true, if_false, reduceIte, Nat.reduceEqDiff, Nat.reduceAdd, reduceCtorEq, yQ, h0, h3, h4, h5, h5', h6, h6', x_slF, x_fsl4, c1, c2, hia, m_load, hld, hrem, m_cvi, hcvi, yD, x_oneM, x_oneE, x_oneP, x_oneK, x_oneL, m_fad, m_add0, hl0, hbs1, hiad, hnm, ha97, hbs2, hcvb, hcat, hbld, hbs3, happ, m_store, hst, hadd]
      exact rfl
    · refine fin _ ?_ ?_ ?_ ?_ ?_
      all_goals simp only [yL, if_true, if_false, reduceIte, Nat.reduceEqDiff, reduceCtorEq, h0, h3, h4, h5]
  · have c2 : fLss 63 (Int.ofNat i) (Int.ofNat l.length) = some (.bool false) := by rw [f_lssN, decide_eq_false hil]
    have hb' : b = i := by rw [hbd]; unfold kb; rw [List.getElem?_eq_none (by omega)]; rfl
    rw [hb'] at hrem
    clear hx hbd hb' hlen hrow a1 a2 a3 a4 a5 hvo hg3 hrx
    refine ⟨?_, S5, ?_, ?_⟩
    rotate_left 1
    · simp only [b11_0, yY, iInt, iStr, iLenS, iLenL, iNot, iPick, iExt, if_true, if_false, reduceIte, Nat.reduceEqDiff, Nat.reduceAdd, reduceCtorEq, yQ, h0, h3, h4, h5, h5', h6, h6', x_slF, x_fsl4, c1, c2, m_load, hrem, m_cvi, hcvi, yD, x_oneM, x_oneE, x_oneP, x_oneK, x_oneL, m_fad, m_add0, hl0, hbs1, hiad, hnm, ha97, hbs2, hcvb, hcat, hbld, hbs3, happ, m_store, hst, hadd]
      exact rfl
    · refine fin _ ?_ ?_ ?_ ?_ ?_
      all_goals simp only [yL, if_true, if_false, reduceIte, Nat.reduceEqDiff, reduceCtorEq, h0, h3, h4, h5]
theorem str_end {i : Nat} (hi : i = m) {tm : Tr V} {s : St} (h : InvSt L o m l i tm s) :
    ∃ tm', b11_0 call n tm s = some (.exit 0, tm', s) ∧ InvSt L o m l i tm' s := by
  obtain ⟨h0, h3, h4, h5, h6, hlt, hge, hlow, hnx, hrow⟩ := h
  have c1 : fLss 63 (Int.ofNat i) (Int.ofNat m) = some (.bool false) := by rw [f_lssN, decide_eq_false (by omega)]
  refine ⟨?_, ?_, ?_⟩
  rotate_left 1
  · simp only [b11_0, yY, iInt, iStr, iLenS, iLenL, iNot, iPick, iExt, if_true, if_false, reduceIte, Nat.reduceEqDiff, Nat.reduceAdd, reduceCtorEq, yQ, h0, h3, h4, h5, h6, c1]
    exact rfl
  · refine ⟨?_, ?_, ?_, ?_, ?_, hlt, hge, hlow, hnx, hrow⟩
    all_goals simp only [yL, if_true, if_false, reduceIte, Nat.reduceEqDiff, reduceCtorEq, h0, h3, h4, h5, h6]
theorem str_loop (hl : l.length < 2 ^ 63) (hm : m ≤ 11) : ∀ (k i fuel : Nat) (tm : Tr V) (s : St), i + k = m → k < fuel → InvSt L o m l i tm s →
    ∃ tm' s', outR 0 (loopV fuel (b11_0 call n) tm s) = some (.nrm, tm', s') ∧ InvSt L o m l m tm' s' := by
  intro k
  induction k with
  | zero =>
    intro i fuel tm s hk hfu h
    obtain ⟨q, rfl⟩ : ∃ q, fuel = q + 1 := ⟨fuel - 1, by omega⟩
    obtain ⟨tm', e1, e2⟩ := str_end (call := call) (n := n) (show i = m by omega) h
    refine ⟨tm', s, ?_, by rw [show i = m by omega] at e2; exact e2⟩
    rw [x_loop1, e1, x_then_exit, x_out_exit, if_pos rfl]
  | succ k ih =>
    intro i fuel tm s hk hfu h
    obtain ⟨q, rfl⟩ : ∃ q, fuel = q + 1 := ⟨fuel - 1, by omega⟩
    obtain ⟨tm1, s1, e1, e2⟩ := str_step (call := call) (n := n) hl (show i < m by omega) hm h
    rw [x_loop1, e1, x_nrm]
    exact ih (i + 1) q tm1 s1 (by omega) (by omega) e2
end
end Go.Proofs.YtnccejmggcjaoaaGreatDoor.Av
