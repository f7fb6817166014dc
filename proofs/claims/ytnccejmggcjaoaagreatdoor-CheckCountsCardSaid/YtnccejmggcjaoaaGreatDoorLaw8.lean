/-
  jettisonlaw11.CheckCounts: WHATEVER THE INPUT, THE ABSTRACT MACHINE ANSWERS true.
-/
import Derived.Test.YtnccejmggcjaoaaGreatDoorLawC
import Derived.Test.YtnccejmggcjaoaaGreatDoorEx11
namespace Go.Proofs.YtnccejmggcjaoaaGreatDoor.Av
set_option linter.unusedVariables false
set_option linter.unusedSimpArgs false
set_option maxRecDepth 1000000
open Go
abbrev row5 (x : V) (w : Int) (s : Str) (b : Bool) (l : List Nat) : List V := [x, .int 63 w, .str s, .bool b, slT 4 l.length (cB l)]
section
variable {fns : Tr Fs} (htab : TableOk Tryz.prog fns)
include htab
set_option maxHeartbeats 4000000 in
theorem shape_at (n : Nat) (x : V) (w : Int) (s : Str) (l : List Nat) (hb : ∀ b ∈ l, b < 256) (hlen : l.length < 2 ^ 63) (st : St) (ka : KnownQ 82 (fun l => [slT 4 l.length (cB l)]) fns) : ∃ q, QPost q ∧ CallAt Tryz.prog 30 [.cmp 2 0 (row5 x w s true l)] st (.ret (.cmp 2 0 (cQ q))) st := by
  have call : ∀ {r : CR} {T : St}, enterF (evF fns (n + 1)) (n + 1) _ _ [.cmp 2 0 (row5 x w s true l)] st = some (r, T) → CallAt Tryz.prog 30 [.cmp 2 0 (row5 x w s true l)] st r T := fun h => callAt_in mixedZ htab ok30 h
  unfold enterF at call
  obtain ⟨S0, hS0⟩ : ∃ S0 : St, S0 = { next := st.next, low := st.next, mem := st.mem } := ⟨_, rfl⟩
  have hn0 : S0.next = st.next := by rw [hS0]
  have hl0 : S0.low = st.next := by rw [hS0]
  rw [← hS0] at call
  obtain ⟨S1, hS1⟩ : ∃ S, S = S0.new (.cells 61 (row5 x w s true l) true) := ⟨_, rfl⟩
  obtain ⟨S2, hS2⟩ : ∃ S, S = S1.new (.cells 27 zQ true) := ⟨_, rfl⟩
  have n1 : S1.next = S0.next + 1 := by rw [hS1]; rfl
  have g1 : S2.mem.get S0.next = some (.cells 61 (row5 x w s true l) true) := by rw [hS2, new_get, if_neg (by omega), hS1, new_get_self']
  have g2 : S2.mem.get S1.next = some (.cells 27 zQ true) := by rw [hS2, new_get_self']
  have bx : ∀ (tm : Tr V), X.ev tm (.t (pa 0)) = .cmp 2 0 (row5 x w s true l) → iBox 61 (.t (pa 0)) tm S0 = some (.ref 1 S0.next 0 0 0 false, S1) := fun tm h => by rw [m_box (cs := row5 x w s true l) (by rw [h]; rfl), hS1]
  have hnew : ∀ tm : Tr V, iAlloc 27 zQ tm S1 = some (.ref 1 S1.next 0 0 0 false, S2) := fun tm => by rw [hS2]; rfl
  have f3 : ldW false 1 (.ref 1 S0.next 3 0 0 false) S2 = some (.bool true) := by rw [ldW_get g1]; rfl
  have f4 : ldW false 1 (.ref 1 S0.next 4 0 0 false) S2 = some (slT 4 l.length (cB l)) := by rw [ldW_get g1]; rfl
  obtain ⟨q, hq, ha⟩ := ka n l hb hlen S2
  have ha' : evF fns (n + 1) 82 [slT 4 l.length (cB l)] S2 = some (.ret (.cmp 2 0 (cQ q)), S2) := ha
  have st2 : stW 3 (.ref 1 S1.next 0 0 0 false) (.cmp 2 0 (cQ q)) S2 = some (.undef, S2.put S1.next (some (.cells 27 (cQ q) true))) := stW_whole (n := 3) g2 rfl rfl
  refine ⟨q, hq, call ?_⟩
  simp only [c30_0, c30_1, c30_2, c30_3, yY, iInt, iStr, iLenS, iLenL, iNot, iPick, iExt, if_true, if_false, reduceIte, Nat.reduceEqDiff, Nat.reduceAdd, reduceCtorEq, yQ, bx, hnew, m_fad, m_load, m_store, f3, f4, ha', st2]
  rw [leave_mem (v := .cmp 2 0 (cQ q)) (by simp only [yL, if_true, if_false, reduceIte, Nat.reduceEqDiff, reduceCtorEq]; rw [ldW_get (by rw [put_get, if_pos rfl])]; exact part_whole rfl)]
  have : back st (.ret (.cmp 2 0 (cQ q))) (S2.put S1.next (some (.cells 27 (cQ q) true))) = st := by
    unfold Av.back
    have l2 : S2.low = st.next := by rw [hS2, hS1]; exact hl0
    rw [show (CR.ret (.cmp 2 0 (cQ q))).under st.next = true from fine_under _ _ (fine_agg (cQ_fine q)), bleT (by rw [put_low]; omega)]; rfl
  rw [this]
end
theorem shape_known : ∃ g, MemoOk Tryz.prog 30 g ∧ ∀ fns : Tr Fs, fns.get 30 = some (.memo g) → ∀ (x : V) (w : Int) (s : Str), KnownQ 30 (fun l => [.cmp 2 0 (row5 x w s true l)]) fns := by
  obtain ⟨ga, ma, ha⟩ := asked_known
  have t1 := tableMemo tab ma
  have k1 := ha (table.set 82 (some (.memo ga))) (by rw [get_set, if_pos rfl])
  obtain ⟨g, m, k⟩ := query_known (F := 30) (As := fun a => ∃ x w s, a = fun l => [.cmp 2 0 (row5 x w s true l)]) fun args ha l hb hlen st => by
    obtain ⟨x, w, s, rfl⟩ := ha
    exact shape_at t1 0 x w s l hb hlen st k1
  exact ⟨g, m, fun fns hf x w s => k fns hf _ ⟨x, w, s, rfl⟩⟩
structure LawT (fns : Tr Fs) : Prop where
  ok : TableOk Tryz.prog fns
  law : fns.get 8 = some sh8
  ex : ∀ (n : Nat) (st : St), sameTab tab6 (st.mem.get 6) = true → evF fns (n + 1) 29 [] st = some (.ret (.bool true), st)
  shape : ∀ (x : V) (w : Int) (s : Str), KnownQ 30 (fun l => [.cmp 2 0 (row5 x w s true l)]) fns
  paths : KnownS 38 pL (fun l r => pL l + pL r) fns
  steps : KnownS 40 sL (fun l r => max (sL l) (sL r)) fns
  code : KnownS 42 cdL (fun l r => cdL l + cdL r) fns
theorem law_table : ∃ fns, LawT fns := by
  obtain ⟨g1, m1, k1⟩ := shape_known
  obtain ⟨g2, m2, k2⟩ := paths_known
  obtain ⟨g3, m3, k3⟩ := steps_known
  obtain ⟨g4, m4, k4⟩ := code_known
  refine ⟨(((((table.set 29 (some (.spec exG))).set 30 (some (.memo g1))).set 38 (some (.memo g2))).set 40 (some (.memo g3))).set 42 (some (.memo g4))), tableMemo (tableMemo (tableMemo (tableMemo (tableSpec tab ex11_spec) m1) m2) m3) m4, ?_, ?_, ?_, ?_, ?_, ?_⟩
  · rw [get_set, if_neg (by decide), get_set, if_neg (by decide), get_set, if_neg (by decide), get_set, if_neg (by decide), get_set, if_neg (by decide)]; kernel_rfl
  · intro n st h
    refine ev_spec (g := exG) (by rw [get_set, if_neg (by decide), get_set, if_neg (by decide), get_set, if_neg (by decide), get_set, if_neg (by decide), get_set, if_pos rfl]) ?_
    show (bif sameTab tab6 (st.mem.get 6) then some (V.bool true) else none) = _
    rw [h]; rfl
  · exact k1 _ (by rw [get_set, if_neg (by decide), get_set, if_neg (by decide), get_set, if_neg (by decide), get_set, if_pos rfl])
  · exact k2 _ (by rw [get_set, if_neg (by decide), get_set, if_neg (by decide), get_set, if_pos rfl])
  · exact k3 _ (by rw [get_set, if_neg (by decide), get_set, if_pos rfl])
  · exact k4 _ (by rw [get_set, if_pos rfl])
set_option maxHeartbeats 16000000 in
theorem counts_ev {fns : Tr Fs} (lt : LawT fns) (n : Nat) {st : St} (hg : 11 ≤ st.next) (htabs : sameTab tab6 (st.mem.get 6) = true)
    (x y : V) (w1 w2 : Int) (s1 s2 : Str) (b1 b2 : Bool) (l1 l2 : List Nat) (hb1 : ∀ b ∈ l1, b < 256) (hb2 : ∀ b ∈ l2, b < 256) (hl1 : l1.length < 2 ^ 63) (hl2 : l2.length < 2 ^ 63) :
    evF fns (n + 2) 8 [.cmp 2 0 (row5 x w1 s1 b1 l1), .cmp 2 0 (row5 y w2 s2 b2 l2)] st = some (.ret (.bool true), st) := by
  rw [ev_mk lt.law]
  obtain ⟨S0, hS0⟩ : ∃ S0 : St, S0 = { next := st.next, low := st.next, mem := st.mem } := ⟨_, rfl⟩
  have hn0 : S0.next = st.next := by rw [hS0]
  have hl0 : S0.low = st.next := by rw [hS0]
  rw [← hS0]
  obtain ⟨S1, hS1⟩ : ∃ S, S = S0.new (.cells 61 (row5 x w1 s1 b1 l1) true) := ⟨_, rfl⟩
  obtain ⟨S2, hS2⟩ : ∃ S, S = S1.new (.cells 61 (row5 y w2 s2 b2 l2) true) := ⟨_, rfl⟩
  have n1 : S1.next = S0.next + 1 := by rw [hS1]; rfl
  have n2 : S2.next = S0.next + 2 := by rw [hS2]; show S1.next + 1 = _; omega
  have gx2 : S2.mem.get S0.next = some (.cells 61 (row5 x w1 s1 b1 l1) true) := by rw [hS2, new_get, if_neg (by omega), hS1, new_get_self']
  have gy2 : S2.mem.get S1.next = some (.cells 61 (row5 y w2 s2 b2 l2) true) := by rw [hS2, new_get_self']
  have bx1 : ∀ (tm : Tr V), X.ev tm (.t (pa 0)) = .cmp 2 0 (row5 x w1 s1 b1 l1) → iBox 61 (.t (pa 0)) tm S0 = some (.ref 1 S0.next 0 0 0 false, S1) := fun tm h => by rw [m_box (cs := row5 x w1 s1 b1 l1) (by rw [h]; rfl), hS1]
  have bx2 : ∀ (tm : Tr V), X.ev tm (.t (pa 1)) = .cmp 2 0 (row5 y w2 s2 b2 l2) → iBox 61 (.t (pa 1)) tm S1 = some (.ref 1 S1.next 0 0 0 false, S2) := fun tm h => by rw [m_box (cs := row5 y w2 s2 b2 l2) (by rw [h]; rfl), hS2]
  have ex := lt.ex n S2 (by rw [hS2, new_get, if_neg (by omega), hS1, new_get, if_neg (by omega), hS0]; exact htabs)
  obtain ⟨S3, hS3⟩ : ∃ S, S = S2.put S0.next (some (.cells 61 (row5 x w1 s1 true l1) true)) := ⟨_, rfl⟩
  obtain ⟨S4, hS4⟩ : ∃ S, S = S3.put S1.next (some (.cells 61 (row5 y w2 s2 true l2) true)) := ⟨_, rfl⟩
  have st3 : stW 1 (.ref 1 S0.next 3 0 0 false) (.bool true) S2 = some (.undef, S3) := by rw [stW_at gx2 (cells_bool _) (show 3 < 5 by decide), hS3]; rfl
  have gy3 : S3.mem.get S1.next = some (.cells 61 (row5 y w2 s2 b2 l2) true) := by rw [hS3, put_get, if_neg (by omega)]; exact gy2
  have st4 : stW 1 (.ref 1 S1.next 3 0 0 false) (.bool true) S3 = some (.undef, S4) := by rw [stW_at gy3 (cells_bool _) (show 3 < 5 by decide), hS4]; rfl
  have gx4 : S4.mem.get S0.next = some (.cells 61 (row5 x w1 s1 true l1) true) := by rw [hS4, put_get, if_neg (by omega), hS3, put_get, if_pos rfl]
  have gy4 : S4.mem.get S1.next = some (.cells 61 (row5 y w2 s2 true l2) true) := by rw [hS4, put_get, if_pos rfl]
  have n4 : S4.next = S0.next + 2 := by rw [hS4, hS3]; exact n2
  have lx : ldW true 5 (.ref 1 S0.next 0 0 0 false) S4 = some (.cmp 2 0 (row5 x w1 s1 true l1)) := by rw [ldW_get gx4]; exact part_whole rfl
  have ly : ldW true 5 (.ref 1 S1.next 0 0 0 false) S4 = some (.cmp 2 0 (row5 y w2 s2 true l2)) := by rw [ldW_get gy4]; exact part_whole rfl
  obtain ⟨⟨a, wa, ya⟩, ⟨qa1, qa2, qa3, qa4, _⟩, ha⟩ := lt.shape x w1 s1 n l1 hb1 hl1 S4
  obtain ⟨⟨b, wb, yb⟩, ⟨qb1, qb2, qb3, qb4, _⟩, hb⟩ := lt.shape y w2 s2 n l2 hb2 hl2 S4
  simp only at qa1 qa2 qa3 qa4 qb1 qb2 qb3 qb4
  have ha' : evF fns (n + 1) 30 [.cmp 2 0 (row5 x w1 s1 true l1)] S4 = some (.ret (.cmp 2 0 [slT 4 a.length (cIs a), .int 63 wa, .str ya]), S4) := ha
  have hb' : evF fns (n + 1) 30 [.cmp 2 0 (row5 y w2 s2 true l2)] S4 = some (.ret (.cmp 2 0 [slT 4 b.length (cIs b), .int 63 wb, .str yb]), S4) := hb
  have gab : Good (a ++ b) := fun z hz => by
    rcases List.mem_append.1 hz with h | h
    · exact qa1 z h
    · exact qb1 z h
  have wab : wL (a ++ b) ≤ 18 := by rw [wL_app]; omega
  obtain ⟨S5, hS5⟩ : ∃ S, S = S4.new (.cells 34 (cIs a) true) := ⟨_, rfl⟩
  obtain ⟨S6, hS6⟩ : ∃ S, S = (S5.put S4.next none).new (.cells 34 (cIs (a ++ b)) true) := ⟨_, rfl⟩
  have n5 : S5.next = S0.next + 3 := by rw [hS5]; show S4.next + 1 = _; omega
  have n6 : S6.next = S0.next + 4 := by rw [hS6]; show S5.next + 1 = _; omega
  have srcA : ∀ (l : List It) (T : St), srcF false T 7 (slT 4 l.length (cIs l)) = some (cIs l, l.length) := fun l T => by
    show (bif Nat.ble (Nat.mul l.length 7) (lenL (cIs l)) then some (takeL (cIs l) (Nat.mul l.length 7), l.length) else none) = _
    rw [lenL_eq, bleT (by rw [cIs_len]; exact Nat.le_refl _), takeL_eq, List.take_of_length_le (by rw [cIs_len]; exact Nat.le_refl _)]; rfl
  have ap5 : ∀ (tm : Tr V), X.ev tm (.t (pa 21)) = slT 4 a.length (cIs a) → iApp false 34 7 104 (.c nilV) (.t (pa 21)) tm S4 = some (.ref 3 S4.next 0 a.length a.length false, S5) := fun tm h => by
    unfold iApp
    rw [h, srcA]
    show (bif Nat.beq a.length 0 then _ else bif Nat.ble (Nat.mul a.length 104) 140737488355328 then some (V.ref 3 S4.next 0 a.length a.length false, S4.new (.cells 34 (cIs a) true)) else none) = _
    rw [beqF (by omega), cond_false, bleT (by show a.length * 104 ≤ _; omega), cond_true, hS5]
  have ap6 : ∀ (tm : Tr V), X.ev tm (.t (pa 22)) = .ref 3 S4.next 0 a.length a.length false → X.ev tm (.t (pa 23)) = slT 4 b.length (cIs b) → iApp false 34 7 104 (.t (pa 22)) (.t (pa 23)) tm S5 = some (.ref 3 S5.next 0 (a ++ b).length (a ++ b).length false, S6) := fun tm h1 h2 => by
    unfold iApp
    rw [h1, h2, srcA]
    show (bif Nat.ble (Nat.add a.length b.length) a.length then appIn S5 7 (cIs b) b.length S4.next 0 a.length a.length false else appNew S5 34 7 104 (cIs b) b.length S4.next 0 a.length false) = _
    rw [show Nat.ble (Nat.add a.length b.length) a.length = false from bleF (by show ¬ a.length + b.length ≤ a.length; omega)]
    show onCells none _ (S5.mem.get S4.next) = _
    rw [hS5, new_get_self', ← hS5]
    show (bif Nat.ble (Nat.add 0 (Nat.mul a.length 7)) (lenL (cIs a)) && Nat.ble (Nat.mul (Nat.add a.length b.length) 104) 140737488355328 then (some (V.ref 3 S5.next 0 (Nat.add a.length b.length) (Nat.add a.length b.length) false, (S5.put S4.next none).new (.cells 34 (appL (takeL (dropL (cIs a) 0) (Nat.mul a.length 7)) (cIs b)) true))) else none) = _
    rw [lenL_eq, show Nat.ble (Nat.add 0 (Nat.mul a.length 7)) (cIs a).length = true from bleT (by rw [cIs_len]; show 0 + a.length * 7 ≤ _; omega), show Nat.ble (Nat.mul (Nat.add a.length b.length) 104) 140737488355328 = true from bleT (by show (a.length + b.length) * 104 ≤ _; omega)]
    have : appL (takeL (dropL (cIs a) 0) (Nat.mul a.length 7)) (cIs b) = cIs (a ++ b) := by
      rw [appL_eq, takeL_eq, dropL_eq, List.drop_zero, List.take_of_length_le (by rw [cIs_len]; exact Nat.le_refl _), cIs_app]
    rw [this, ← hS6, List.length_append]; rfl
  obtain ⟨S7, hS7⟩ : ∃ S, S = S6.new (.cells 25 [slT 4 a.length (cIs a), slT 4 b.length (cIs b)] true) := ⟨_, rfl⟩
  obtain ⟨S8, hS8⟩ : ∃ S, S = S7.new (.cells 34 (row7 3 [] [] nilV 0 0 (.ref 3 S6.next 0 2 2 true)) true) := ⟨_, rfl⟩
  have n7 : S7.next = S0.next + 5 := by rw [hS7]; show S6.next + 1 = _; omega
  have n8 : S8.next = S0.next + 6 := by rw [hS8]; show S7.next + 1 = _; omega
  have bs7 : ∀ (tm : Tr V), X.ev tm (.t (pa 25)) = slT 4 a.length (cIs a) → X.ev tm (.t (pa 26)) = slT 4 b.length (cIs b) → iBsl 25 2 [nilV, nilV] [(0, 1, .t (pa 25)), (1, 1, .t (pa 26))] tm S6 = some (.ref 3 S6.next 0 2 2 true, S7) := fun tm h1 h2 => by
    rw [m_bsl, fillV_c, h1, cells_slT, fillS_1 (by decide), fillV_c, h2, cells_slT, fillS_1 (by rw [List.length_set]; decide), fillV_0, hS7]; rfl
  have bs8 : ∀ (tm : Tr V), X.ev tm (.t (pa 28)) = .cmp 2 0 (row7 3 [] [] nilV 0 0 (.ref 3 S6.next 0 2 2 true)) → iBsl 34 1 zI [(0, 7, .t (pa 28))] tm S7 = some (.ref 3 S7.next 0 1 1 true, S8) := fun tm h => by
    rw [m_bsl, fillV_c, h, cells_agg2, fillS_w (n := 7) rfl rfl, fillV_0, hS8]
  have h8 : ItsIn S8 (.ref 3 S5.next 0 (a ++ b).length (a ++ b).length false) (a ++ b) := .inr (.inr ⟨S5.next, _, _, true, rfl, by rw [hS8, new_get, if_neg (by omega), hS7, new_get, if_neg (by omega), hS6]; exact new_get_self' _ _⟩)
  have h9 : PairHolds S8 (.ref 3 S7.next 0 1 1 true) a b := ⟨S7.next, S6.next, true, rfl, by rw [hS8]; exact new_get_self' _ _, by rw [hS8, new_get, if_neg (by omega), hS7]; exact new_get_self' _ _, by omega, by omega⟩
  have h6 : ItsIn S8 (slT 4 a.length (cIs a)) a := .inl rfl
  have h7 : ItsIn S8 (slT 4 b.length (cIs b)) b := .inl rfl
  have hnil : ItsIn S8 nilV [] := .inr (.inl ⟨rfl, rfl⟩)
  have p1 := lt.paths.one n h8 gab wab
  have p2 := lt.paths.one n h6 qa1 (by omega)
  have p3 := lt.paths.one n h7 qb1 (by omega)
  have p4 := lt.paths.two n h9 qa1 qb1 qa4 qb4
  have p5 := lt.paths.one n hnil (fun z hz => (nomatch hz)) (by decide)
  have t1 := lt.steps.one n h8 gab wab
  have t2 := lt.steps.one n h6 qa1 (by omega)
  have t3 := lt.steps.one n h7 qb1 (by omega)
  have t4 := lt.steps.two n h9 qa1 qb1 qa4 qb4
  have t5 := lt.steps.one n hnil (fun z hz => (nomatch hz)) (by decide)
  have c1 := lt.code.one n h8 gab wab
  have c2 := lt.code.one n h6 qa1 (by omega)
  have c3 := lt.code.one n h7 qb1 (by omega)
  have c4 := lt.code.two n h9 qa1 qb1 qa4 qb4
  obtain ⟨ga1, ga2, ga3, ga4, _⟩ := good_all qa1
  obtain ⟨gb1, gb2, gb3, gb4, _⟩ := good_all qb1
  have e9 : (2 : Nat) ^ 9 = 512 := by decide
  have z1 : 2 ^ wL a ≤ 2 ^ 9 := Nat.pow_le_pow_right (by decide) qa4
  have z2 : 2 ^ wL b ≤ 2 ^ 9 := Nat.pow_le_pow_right (by decide) qb4
  have z3 : pL a * pL b ≤ 512 * 512 := Nat.mul_le_mul (by omega) (by omega)
  have m1 : fMul 63 (Int.ofNat (pL a)) (Int.ofNat (pL b)) = some (.int 63 (Int.ofNat (pL (a ++ b)))) := by rw [pL_app]; exact f_mul 63 _ _ (by omega)
  have m2 : fAdd 63 (Int.ofNat (sL a)) (Int.ofNat (sL b)) = some (.int 63 (Int.ofNat (sL (a ++ b)))) := by rw [sL_app]; exact f_add 63 _ _ (by omega)
  have m3 : fAdd 63 (Int.ofNat (cdL a)) (Int.ofNat (cdL b)) = some (.int 63 (Int.ofNat (cdL (a ++ b)))) := by rw [cdL_app]; exact f_add 63 _ _ (by omega)
  have m4 : fAdd 63 (Int.ofNat (pL a)) (Int.ofNat (pL b)) = some (.int 63 (Int.ofNat (pL a + pL b))) := f_add 63 _ _ (by omega)
  have m5 := mx_nat (sL a) (sL b)
  have m6 : cdL a + cdL b = cdL (a ++ b) := (cdL_app a b).symm
  have ee : ∀ k : Nat, eqI (Int.ofNat k) (Int.ofNat k) = true := fun k => by rw [eqI_nat]; exact decide_eq_true rfl
  have e1 : eqI (Int.ofNat (pL [])) 1 = true := by kernel_rfl
  have e0 : eqI (Int.ofNat (sL [])) 0 = true := by kernel_rfl
  simp only [c8_0, c8_1, c8_2, c8_3, c8_4, c8_5, c8_6, c8_7, c8_8, c8_9, c8_10, yY, iInt, iStr, iLenS, iLenL, iNot, iPick, iExt, if_true, if_false, reduceIte, Nat.reduceEqDiff, Nat.reduceAdd, reduceCtorEq, yQ, bx1, bx2, ex, m_fad, m_store, st3, st4, m_load, lx, ly, ha', hb', x_onAgg, iFld, part_c0, part_cs, ap5, ap6, bs7, m_build, fillV_c, fillV_0, cells_int, cells_ref, fillS_1, List.length_cons, List.length_nil, Nat.reduceLT, List.set_cons_zero, List.set_cons_succ, bs8, p1, p2, p3, p4, p5, t1, t2, t3, t4, t5, c1, c2, c3, c4, m1, m2, m3, m4, m_mx, m5, m6, cond_true, f_eql, ee, e1, e0]
  refine leave_scalar (v := .bool true) ?_ (fun h => nomatch h) rfl ?_
  · simp only [yL, if_true, if_false, reduceIte, Nat.reduceEqDiff, reduceCtorEq]
  · have A1 : Aft st.next S0 S1 := by rw [hS1]; exact (Aft.refl _ _).new (by omega)
    have A2 : Aft st.next S0 S2 := by rw [hS2]; exact A1.new (by omega)
    have A3 : Aft st.next S0 S3 := by rw [hS3]; exact A2.put (by omega)
    have A4 : Aft st.next S0 S4 := by rw [hS4]; exact A3.put (by omega)
    have A5 : Aft st.next S0 S5 := by rw [hS5]; exact A4.new (by omega)
    have A6 : Aft st.next S0 S6 := by rw [hS6]; exact (A5.put (by omega)).new (by show st.next ≤ S5.next; omega)
    have A7 : Aft st.next S0 S7 := by rw [hS7]; exact A6.new (by omega)
    have A8 : Aft st.next S0 S8 := by rw [hS8]; exact A7.new (by omega)
    rw [hS0] at A8
    exact A8
end Go.Proofs.YtnccejmggcjaoaaGreatDoor.Av
