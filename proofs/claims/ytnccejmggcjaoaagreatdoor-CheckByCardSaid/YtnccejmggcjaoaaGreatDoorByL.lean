/-
  jettisonlaw11.CheckBy, walked.
-/
import Derived.Test.YtnccejmggcjaoaaGreatDoorBy
namespace Go.Proofs.YtnccejmggcjaoaaGreatDoor.Av
set_option linter.unusedVariables false
set_option linter.unusedSimpArgs false
set_option maxRecDepth 1000000
open Go
structure LawB (fns : Tr Fs) : Prop where
  ok : TableOk Tryz.prog fns
  law : fns.get 9 = some sh9
  ex : ∀ (n : Nat) (st : St), sameTab tab6 (st.mem.get 6) = true → evF fns (n + 1) 29 [] st = some (.ret (.bool true), st)
  kinds : ∀ (n : Nat) (st : St), evF fns (n + 1) 32 [] st = some (.ret ksV, st)
  check : ∀ (n : Nat) {st : St} {v : V} {l : List It}, FlatIn st v l → ∀ {w : Int}, 0 ≤ w ∧ w ≤ 1000000000 → ∀ {by_ : Str}, byOk by_ → ∃ e, evF fns (n + 1) 35 [ksV, .cmp 2 0 [v, .int 63 w, .str by_]] st = some (.ret (.int 63 e), st) ∧ Says l by_ e
  nil : ∀ (n : Nat) (st : St) (f : Str), f ∈ byL → evF fns (n + 1) 35 [ksV, .cmp 2 0 [.ref 2 0 0 0 0 false, .int 63 1, .str f]] st = some (.ret (.int 63 1), st)
theorem lawB : ∃ fns, LawB fns := by
  obtain ⟨g1, m1, k1⟩ := kinds_known1
  obtain ⟨g2, m2, k2⟩ := check_known
  refine ⟨((table.set 29 (some (.spec exG))).set 32 (some (.memo g1))).set 35 (some (.memo g2)), tableMemo (tableMemo (tableSpec tab ex11_spec) m1) m2, ?_, ?_, ?_, ?_, ?_⟩
  · rw [get_set, if_neg (by decide), get_set, if_neg (by decide), get_set, if_neg (by decide)]; kernel_rfl
  · intro n st h
    refine ev_spec (g := exG) (by rw [get_set, if_neg (by decide), get_set, if_neg (by decide), get_set, if_pos rfl]) ?_
    show (bif sameTab tab6 (st.mem.get 6) then some (V.bool true) else none) = _
    rw [h]; rfl
  · exact k1 _ (by rw [get_set, if_neg (by decide), get_set, if_pos rfl])
  · exact (k2 _ (by rw [get_set, if_pos rfl])).1
  · exact (k2 _ (by rw [get_set, if_pos rfl])).2
def RowIs (s : St) (L : Nat) (v : V) (l : List It) : Prop := (v = .ref 2 0 0 0 0 false ∧ l = []) ∨ ∃ k, v = .ref 3 k 0 l.length l.length false ∧ s.mem.get k = some (.cells 34 (rIs l) true) ∧ L ≤ k ∧ k < s.next ∧ 0 < l.length
structure InvB (L o : Nat) (f : Str) (l : List Nat) (i : Nat) (tm : Tr V) (s : St) : Prop where
  p0 : X.ev tm (.t (pa 0)) = slT 4 l.length (cB l)
  p5 : X.ev tm (.t (pa 5)) = .bool true
  p6 : X.ev tm (.t (pa 6)) = .str f
  p7 : X.ev tm (.t (pa 7)) = .ref 1 o 0 0 0 false
  p8 : X.ev tm (.t (pa 8)) = .bool ((l.take i).all fun b => hasK f (b % 3))
  p9 : X.ev tm (.t (pa 9)) = .int 63 (Int.ofNat i)
  lt : o < s.next
  ge : L ≤ o
  low : L ≤ s.low ∧ s.low ≤ s.next
  nx : L ≤ s.next
  row : ∃ v, s.mem.get o = some (.cells 27 [v, .int 63 1, .str f] true) ∧ RowIs s L v ((l.take i).map itemOf)
section
variable {call : Callee} {n : Nat} {L o : Nat} {f : Str} {l : List Nat}
theorem f_cases (hf : f ∈ byL) {k : Nat} (hk : k < 3) : (sEql f [] = some (.bool true) ∧ True ∧ True ∧ True ∧ True ∧ True ∧ hasK f k = true) ∨
    (sEql f [] = some (.bool false) ∧ sEql f [107] = some (.bool true) ∧ True ∧ True ∧ True ∧ True ∧ hasK f k = true) ∨
    (sEql f [] = some (.bool false) ∧ sEql f [107] = some (.bool false) ∧ sEql f [120] = some (.bool true) ∧ True ∧ fNeq 63 (Int.ofNat k) 1 = some (.bool true) ∧ True ∧ hasK f k = true) ∨
    (sEql f [] = some (.bool false) ∧ sEql f [107] = some (.bool false) ∧ sEql f [120] = some (.bool true) ∧ sEql f [121] = some (.bool false) ∧ fNeq 63 (Int.ofNat k) 1 = some (.bool false) ∧ True ∧ hasK f k = false) ∨
    (sEql f [] = some (.bool false) ∧ sEql f [107] = some (.bool false) ∧ sEql f [120] = some (.bool false) ∧ sEql f [121] = some (.bool true) ∧ True ∧ fNeq 63 (Int.ofNat k) 0 = some (.bool true) ∧ hasK f k = true) ∨
    (sEql f [] = some (.bool false) ∧ sEql f [107] = some (.bool false) ∧ sEql f [120] = some (.bool false) ∧ sEql f [121] = some (.bool true) ∧ True ∧ fNeq 63 (Int.ofNat k) 0 = some (.bool false) ∧ hasK f k = false) ∨
    (sEql f [] = some (.bool false) ∧ sEql f [107] = some (.bool false) ∧ sEql f [120] = some (.bool false) ∧ sEql f [121] = some (.bool false) ∧ True ∧ True ∧ hasK f k = false) := by
  simp only [byL, List.mem_cons, List.not_mem_nil, or_false] at hf
  rcases hf with rfl | rfl | rfl | rfl | rfl
  · exact .inr (.inl ⟨rfl, rfl, trivial, trivial, trivial, trivial, rfl⟩)
  · match k, hk with
    | 0, _ => exact .inr (.inr (.inl ⟨rfl, rfl, rfl, trivial, rfl, trivial, rfl⟩))
    | 1, _ => exact .inr (.inr (.inr (.inl ⟨rfl, rfl, rfl, rfl, rfl, trivial, rfl⟩)))
    | 2, _ => exact .inr (.inr (.inl ⟨rfl, rfl, rfl, trivial, rfl, trivial, rfl⟩))
  · match k, hk with
    | 0, _ => exact .inr (.inr (.inr (.inr (.inr (.inl ⟨rfl, rfl, rfl, rfl, trivial, rfl, rfl⟩)))))
    | 1, _ => exact .inr (.inr (.inr (.inr (.inl ⟨rfl, rfl, rfl, rfl, trivial, rfl, rfl⟩))))
    | 2, _ => exact .inr (.inr (.inr (.inr (.inl ⟨rfl, rfl, rfl, rfl, trivial, rfl, rfl⟩))))
  · exact .inr (.inr (.inr (.inr (.inr (.inr ⟨rfl, rfl, rfl, rfl, trivial, trivial, by match k, hk with
      | 0, _ => rfl
      | 1, _ => rfl
      | 2, _ => rfl⟩)))))
  · exact .inl ⟨rfl, trivial, trivial, trivial, trivial, trivial, rfl⟩
theorem m_cvi3 (k : Nat) (h : k < 3) : wrapC 63 (Int.ofNat k) = Int.ofNat k := wrap_lt (by omega)
set_option maxHeartbeats 16000000 in
theorem by_step (hf : f ∈ byL) (hb : ∀ b ∈ l, b < 256) (hl : l.length < 2 ^ 63) {i : Nat} (hi : i < l.length) (hi6 : i < 6) {tm : Tr V} {s : St} (h : InvB L o f l i tm s) :
    ∃ tm' s', b9_0 call n tm s = some (.nrm, tm', s') ∧ InvB L o f l (i + 1) tm' s' := by
  obtain ⟨h0, h5, h6, h7, h8, h9, hlt, hge, hlow, hnx, v, hg, hrow⟩ := h
  have c1 : fLss 63 (Int.ofNat i) (Int.ofNat l.length) = some (.bool true) := by rw [f_lssN, decide_eq_true hi]
  have c2 : fLss 63 (Int.ofNat i) 6 = some (.bool true) := by rw [f_lss]; exact congrArg (fun b => some (V.bool b)) ((gofn i 6).trans (decide_eq_true hi6))
  obtain ⟨b, hbd⟩ : ∃ b, b = l[i] := ⟨_, rfl⟩
  have hia : ∀ (tm : Tr V), X.ev tm (.t (pa 33)) = slT 4 l.length (cB l) → X.ev tm (.t (pa 34)) = .int 63 (Int.ofNat i) → iIad 1 (.t (pa 33)) (.t (pa 34)) tm s = some (.cmp 5 0 (.int 8 (Int.ofNat b) :: cB (l.drop (i + 1)))) := fun tm x y => by rw [hbd]; exact iad_B x y hi
  have hld : ldW false 1 (.cmp 5 0 (.int 8 (Int.ofNat b) :: cB (l.drop (i + 1)))) s = some (.int 8 (Int.ofNat b)) := by rw [ldW_5, part_c0]
  have hrem : fRem 8 (Int.ofNat b) 3 = some (.int 8 (Int.ofNat (b % 3))) := f_rem 8 b 3 (by decide)
  have hk3 : b % 3 < 3 := Nat.mod_lt _ (by decide)
  have htk : (l.take (i + 1)) = l.take i ++ [b] := by rw [hbd]; exact List.take_succ_eq_append_getElem hi
  have hlen : ((l.take i).map itemOf).length = i := by rw [List.length_map, List.length_take]; omega
  have hit : itemOf b = .mk 0 (namesA.getD (b % 3) []) [118] [] 0 0 [] := rfl
  have hadd : fAdd 63 (Int.ofNat i) 1 = some (.int 63 (Int.ofNat (i + 1))) := f_add 63 i 1 (by omega)
  obtain ⟨all, hall⟩ : ∃ all, all = (l.take i).all fun b => hasK f (b % 3) := ⟨_, rfl⟩
  have hall2 : ((l.take (i + 1)).all fun b => hasK f (b % 3)) = (all && hasK f (b % 3)) := by rw [htk, List.all_append, hall, List.all_cons, List.all_nil, Bool.and_true]
  rw [← hall] at h8
  generalize b % 3 = k at hrem hk3 hit hall2
  have hcv := m_cvi3 k hk3
  obtain ⟨s1, hs1⟩ : ∃ s1, s1 = s.new (.cells 9 [.str [65], .str [66], .str [67]] true) := ⟨_, rfl⟩
  have n1 : s1.next = s.next + 1 := by rw [hs1]; rfl
  have hbs1 : ∀ tm : Tr V, iBsl 9 3 [.str [], .str [], .str []] [(0, 1, .c (.str [65])), (1, 1, .c (.str [66])), (2, 1, .c (.str [67]))] tm s = some (.ref 3 s.next 0 3 3 true, s1) := fun tm => by rw [hs1]; rfl
  have hiad : ∀ (tm : Tr V), X.ev tm (.t (pa 41)) = .ref 3 s.next 0 3 3 true → X.ev tm (.t (pa 42)) = .int 63 (Int.ofNat k) → iIad 1 (.t (pa 41)) (.t (pa 42)) tm s1 = some (.ref 1 s.next k 0 0 false) := fun tm x y => by rw [iad_own x y hk3, Nat.mul_one]
  have hnm : ldW false 1 (.ref 1 s.next k 0 0 false) s1 = some (.str (namesA.getD k [])) := by
    rw [ldW_get (by rw [hs1]; exact new_get_self' _ _)]
    match k, hk3 with
    | 0, _ => rfl
    | 1, _ => rfl
    | 2, _ => rfl
  obtain ⟨x, hx⟩ : ∃ x, x = itemOf b := ⟨_, rfl⟩
  have hrx : rI x = [.int 63 0, .str (namesA.getD k []), .str [118], .ref 2 0 0 0 0 false, .int 63 0, .int 63 0, .ref 2 0 0 0 0 false] := by rw [hx, hit]; rfl
  have hbld : ∀ tm : Tr V, X.ev tm (.t (pa 44)) = .str (namesA.getD k []) → iBuild [.int 63 0, .str [], .str [], .ref 2 0 0 0 0 false, .int 63 0, .int 63 0, .ref 2 0 0 0 0 false] [(1, 1, .t (pa 44)), (2, 1, .c (.str [118]))] tm s1 = some (.cmp 2 0 (rI x)) := fun tm h => by
    rw [m_build, fillV_c, h, cells_str, fillS_1 (by decide), fillV_c, x_evc, cells_str, fillS_1 (by show 2 < 7; decide), fillV_0, hrx]; rfl
  obtain ⟨s2, hs2⟩ : ∃ s2, s2 = s1.new (.cells 34 (rI x) true) := ⟨_, rfl⟩
  have n2 : s2.next = s.next + 2 := by rw [hs2]; show s1.next + 1 = _; omega
  have hbs2 : ∀ tm : Tr V, X.ev tm (.t (pa 45)) = .cmp 2 0 (rI x) → iBsl 34 1 [.int 63 0, .str [], .str [], .ref 2 0 0 0 0 false, .int 63 0, .int 63 0, .ref 2 0 0 0 0 false] [(0, 7, .t (pa 45))] tm s1 = some (.ref 3 s1.next 0 1 1 true, s2) := fun tm h => by
    rw [m_bsl, fillV_c, h, cells_agg2, fillS_w (n := 7) (by rw [hrx]; rfl) rfl, fillV_0, hs2]
  have low2 : s2.low = s.low := by rw [hs2, hs1]; rfl
  have hg2 : ∀ y, y < s.next → s2.mem.get y = s.mem.get y := fun y hy => by rw [hs2, new_get, if_neg (by omega), hs1, new_get, if_neg (by omega)]
  obtain ⟨S3, a1, a2, a3, a4, a5⟩ := app_row (st := s2) (e := 34) (size := 7) (bytes := 104) (n := i) (ks := s1.next) (v := v) (cs := rIs ((l.take i).map itemOf)) (news := rI x) (by
      rcases hrow with ⟨rfl, h⟩ | ⟨k, h1, h2, h3, h4, _⟩
      · have : i = 0 := by rw [h] at hlen; exact hlen.symm
        exact .inl ⟨rfl, by rw [h]; rfl, this⟩
      · rw [hlen] at h1
        exact .inr ⟨k, h1, by rw [hg2 k h4]; exact h2⟩) (by rw [rIs_len, hlen]) (by rw [hs2]; exact new_get_self' _ _) (by rw [hrx]; rfl) (by omega)
  have hvo : ∀ k m, v = .ref 3 k 0 m m false → o ≠ k ∧ L ≤ k := fun k' m hv => by
    rcases hrow with ⟨rfl, _⟩ | ⟨k, h1, h2, h3, _, _⟩
    · exact nomatch hv
    · rw [h1] at hv
      injection hv with _ e
      subst e
      refine ⟨fun e => ?_, h3⟩
      rw [← e, hg] at h2
      injection h2 with h2
      injection h2 with h2 _ _
      exact absurd h2 (by decide)
  have go3 : S3.mem.get o = some (.cells 27 [v, .int 63 1, .str f] true) := by rw [a4 o (by omega) (fun k m hv => (hvo k m hv).1), hg2 o hlt]; exact hg
  obtain ⟨v', hv'⟩ : ∃ v' : V, v' = .ref 3 s2.next 0 (i + 1) (i + 1) false := ⟨_, rfl⟩
  obtain ⟨S4, hS4⟩ : ∃ S4, S4 = S3.put o (some (.cells 27 [v', .int 63 1, .str f] true)) := ⟨_, rfl⟩
  have hst : stW 1 (.ref 1 o 0 0 0 false) v' S3 = some (.undef, S4) := by rw [hS4, hv']; exact stW_at go3 (cells_ref _ _ _ _ _ _) (show 0 < 3 by decide)
  have happ : ∀ tm : Tr V, X.ev tm (.t (pa 40)) = v → X.ev tm (.t (pa 46)) = .ref 3 s1.next 0 1 1 true → iApp false 34 7 104 (.t (pa 40)) (.t (pa 46)) tm s2 = some (v', S3) := fun tm x y => by rw [hv']; exact a1 tm _ _ x y
  have hl0 : ldW false 1 (.ref 1 o 0 0 0 false) s = some v := by rw [ldW_get hg, part_c0]
  have fin : ∀ tm' : Tr V, X.ev tm' (.t (pa 0)) = slT 4 l.length (cB l) → X.ev tm' (.t (pa 5)) = .bool true → X.ev tm' (.t (pa 6)) = .str f → X.ev tm' (.t (pa 7)) = .ref 1 o 0 0 0 false → X.ev tm' (.t (pa 8)) = .bool (all && hasK f k) → X.ev tm' (.t (pa 9)) = .int 63 (Int.ofNat (i + 1)) → InvB L o f l (i + 1) tm' S4 := fun tm' e0 e5 e6 e7 e8 e9 => by
    have hmap : (l.take (i + 1)).map itemOf = (l.take i).map itemOf ++ [x] := by rw [htk, List.map_append, hx]; rfl
    have hlow4 := a5 L (by rw [low2]; exact hlow.1) (fun k m hv => (hvo k m hv).2)
    have n4 : S4.next = s.next + 3 := by rw [hS4]; show S3.next = _; omega
    refine ⟨e0, e5, e6, e7, by rw [e8, hall2], e9, by omega, hge, ?_, by omega, v', by rw [hS4, put_get, if_pos rfl], .inr ⟨s2.next, by rw [hmap, List.length_append, hlen, hv']; rfl, ?_, by omega, by omega, by rw [hmap, List.length_append]; exact Nat.succ_pos _⟩⟩
    · rw [hS4, put_low]
      exact ⟨by omega, by show min S3.low o ≤ S3.next; omega⟩
    · rw [hS4, put_get, if_neg (by omega), a3, hmap, rIs_app]
      show some (Ob.cells _ (rIs ((l.take i).map itemOf) ++ rI x) true) = some (Ob.cells _ (rIs ((l.take i).map itemOf) ++ (rI x ++ [])) true)
      rw [List.append_nil]
  have h7' := at_of_ev h7 (fun h => nomatch h)
  clear hx hit hbd hb hall hall2 htk hlen hrow a1 a2 a3 a4 a5 hvo hg2 hrx
  rcases f_cases hf hk3 with ⟨y0, y1, y2, y3, y4, y5, y6⟩ | ⟨y0, y1, y2, y3, y4, y5, y6⟩ | ⟨y0, y1, y2, y3, y4, y5, y6⟩ | ⟨y0, y1, y2, y3, y4, y5, y6⟩ | ⟨y0, y1, y2, y3, y4, y5, y6⟩ | ⟨y0, y1, y2, y3, y4, y5, y6⟩ | ⟨y0, y1, y2, y3, y4, y5, y6⟩
  all_goals
    rw [y6] at fin
    cases all
    all_goals
      refine ⟨?_, S4, ?_, ?_⟩
      rotate_left 1
      · simp only [b9_0, yY, iInt, iStr, iLenS, iLenL, iNot, iPick, iExt, if_true, if_false, reduceIte, Nat.reduceEqDiff, Nat.reduceAdd, reduceCtorEq, yQ, h0, h5, h6, h7, h7', h8, h9, x_slF, x_fsl4, c1, c2, hia, m_load, hld, hrem, m_cvi, hcv, yD, x_oneM, x_oneE, x_oneP, x_oneK, x_oneL, m_fad, m_add0, hl0, hbs1, hiad, hnm, hbld, hbs2, happ, m_store, hst, y0, y1, y2, y3, y4, y5, hadd]
        exact rfl
      · refine fin _ ?_ ?_ ?_ ?_ ?_ ?_
        all_goals simp only [yL, if_true, if_false, reduceIte, Nat.reduceEqDiff, reduceCtorEq, h0, h5, h6, h7, Bool.true_and, Bool.false_and, Bool.and_true, Bool.and_false]
end
end Go.Proofs.YtnccejmggcjaoaaGreatDoor.Av
