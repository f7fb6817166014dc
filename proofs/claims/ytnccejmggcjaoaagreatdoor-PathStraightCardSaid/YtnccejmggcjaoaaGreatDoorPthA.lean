/-
  PATHS OF PLAIN STEPS: begun.then, maker.times.
-/
import Derived.Test.YtnccejmggcjaoaaGreatDoorOnes
namespace Go.Proofs.YtnccejmggcjaoaaGreatDoor.Av
set_option linter.unusedVariables false
set_option linter.unusedSimpArgs false
set_option maxRecDepth 1000000
open Go
abbrev nilS : V := .ref 2 0 0 0 0 false
abbrev e4 : V := slT 4 0 []
abbrev Sp := Nat × Str
def cP (s : Sp) : List V := [.int 63 (Int.ofNat s.1), .str s.2, e4, e4]
def cPs : List Sp → List V
  | [] => []
  | s :: l => cP s ++ cPs l
abbrev cPr (s : Sp) : List V := [.int 63 (Int.ofNat s.1), .str s.2, e4, nilS]
def cBg (p : List Sp) : List V := [slT 4 p.length (cPs p), e4]
theorem cPs_len : ∀ l : List Sp, (cPs l).length = l.length * 4
  | [] => rfl
  | s :: l => by simp only [cPs, cP, List.length_append, List.length_cons, List.length_nil, cPs_len l]; omega
theorem cPs_app : ∀ l r : List Sp, cPs (l ++ r) = cPs l ++ cPs r
  | [], r => rfl
  | s :: l, r => by simp only [List.cons_append, cPs, cPs_app l r, List.append_assoc]
theorem cPs_inj : ∀ {l r : List Sp}, cPs l = cPs r → l = r
  | [], [], _ => rfl
  | [], _ :: _, h => nomatch h
  | _ :: _, [], h => nomatch h
  | (a, b) :: l, (c, d) :: r, h => by
    have h' : ([.int 63 (Int.ofNat a), .str b, e4, e4] : List V) ++ cPs l = [.int 63 (Int.ofNat c), .str d, e4, e4] ++ cPs r := h
    obtain ⟨h1, h2⟩ := List.append_inj h' rfl
    injection h1 with h3 h1
    injection h1 with h4 _
    injection h3 with _ h3
    injection h4 with h4
    rw [Int.ofNat.inj h3, h4, cPs_inj h2]
theorem cBg_inj {p q : List Sp} (h : cBg p = cBg q) : p = q := by
  unfold cBg at h
  injection h with h _
  exact cPs_inj (slT_inj h).2
theorem cPs_fine : ∀ l : List Sp, ((cPs l).all fun v => v.fine) = true
  | [] => rfl
  | s :: l => fine_all rfl (cPs_fine l)
theorem cBg_fine (p : List Sp) : ((cBg p).all fun v => v.fine) = true := by
  have h := fine_sl4 p.length (cPs_fine p)
  simp only [cBg, List.all_cons, h, List.all_nil, Bool.and_true]; rfl
theorem size_step : sizeT Tryz.prog 89 = some 4 := by kernel_rfl
theorem size_begun : sizeT Tryz.prog 163 = some 2 := by kernel_rfl
theorem get_then : table.get 234 = some sh234 := by kernel_rfl
theorem get_times : table.get 203 = some sh203 := by kernel_rfl
theorem app_frz {st : St} {e size bytes n ks : Nat} {cs news : List V} (hl : cs.length = n * size) (hs : st.mem.get ks = some (.cells e news true)) (hnl : news.length = size) (hb : (n + 1) * bytes ≤ 140737488355328) (tm : Tr V) (x y : X) (hx : X.ev tm x = .cmp 4 0 (.ref 8 0 0 n n true :: cs)) (hy : X.ev tm y = .ref 3 ks 0 1 1 true) :
    iApp false e size bytes x y tm st = some (.ref 3 st.next 0 (n + 1) (n + 1) false, st.new (.cells e (cs ++ news) true)) := by
  have hsrc : srcF false st size (.ref 3 ks 0 1 1 true) = some (news, 1) := by
    show onCells none (fun _ cs _ => bif Nat.ble (Nat.add 0 (Nat.mul 1 size)) (lenL cs) then some (takeL (dropL cs 0) (Nat.mul 1 size), 1) else none) (st.mem.get ks) = _
    rw [hs]
    show (bif Nat.ble (Nat.add 0 (Nat.mul 1 size)) (lenL news) then some (takeL (dropL news 0) (Nat.mul 1 size), 1) else none) = _
    have h1 : Nat.mul 1 size = size := Nat.one_mul _
    rw [lenL_eq, h1, show Nat.ble (Nat.add 0 size) news.length = true from bleT (show 0 + size ≤ news.length by omega), takeL_eq, dropL_eq, List.drop_zero, List.take_of_length_le (by omega)]; rfl
  unfold iApp
  rw [hx, hy, hsrc]
  show (bif true && (Nat.blt n (Nat.add n 1) && (Nat.ble (Nat.mul n size) (lenL cs) && Nat.ble (Nat.mul (Nat.add n 1) bytes) 140737488355328)) then
    some (V.ref 3 st.next 0 (Nat.add n 1) (Nat.add n 1) false, st.new (.cells e (appL (takeL cs (Nat.mul n size)) news) true)) else none) = _
  have h1 : Nat.mul n size = n * size := rfl
  rw [lenL_eq, show Nat.blt n (Nat.add n 1) = true from blt_iff.2 (Nat.lt_succ_self n), h1, bleT (show n * size ≤ cs.length by omega), show Nat.ble (Nat.mul (Nat.add n 1) bytes) 140737488355328 = true from bleT hb, appL_eq, takeL_eq, List.take_of_length_le (by omega)]; rfl
theorem sll_frz {st : St} {e size n : Nat} {cs : List V} (hl : cs.length = n * size) (tm : Tr V) (x a b : Pa) (hx : X.ev tm (.t x) = slT 4 n cs) (ha : X.ev tm (.t a) = .int 63 (Int.ofNat n)) (hb : X.ev tm (.t b) = .int 63 (Int.ofNat n)) :
    iSll e size (.t x) none (some (.t a)) (some (.t b)) tm st = some (.cmp 4 0 (.ref 8 0 0 n n true :: cs)) := by
  have h1 : optN tm n (some (.t a)) = some n := by
    show V.onNat none some (X.ev tm (.t a)) = _
    rw [ha]; rfl
  have h2 : optN tm n (some (.t b)) = some n := by
    show V.onNat none some (X.ev tm (.t b)) = _
    rw [hb]; rfl
  have h0 : optN tm 0 none = some 0 := rfl
  unfold iSll
  rw [hx, x_slF, x_fsl4, h0, h1, h2]
  show (bif Nat.ble 0 n && (Nat.ble n n && Nat.ble n n) then some (V.cmp 4 0 (.ref 8 0 0 (Nat.sub n 0) (Nat.sub n 0) true :: takeL (dropL cs (Nat.mul 0 size)) (Nat.mul (Nat.sub n 0) size))) else none) = _
  have h3 : Nat.sub n 0 = n := rfl
  have h4 : Nat.mul 0 size = 0 := Nat.zero_mul _
  have h5 : Nat.mul n size = n * size := rfl
  rw [bleT (Nat.zero_le n), bleT (Nat.le_refl n), h3, h4, h5, takeL_eq, dropL_eq, List.drop_zero, List.take_of_length_le (by omega)]; rfl
theorem under_new (n o m c : Nat) (x : Bool) (h : n ≤ o) : (V.ref 3 o 0 m c x).under n = false := by
  cases hb : (V.ref 3 o 0 m c x).under n with
  | false => rfl
  | true => have := (under_ref n 3 o 0 m c x).1 hb (.inr (.inl rfl)); omega
section
variable {fns : Tr Fs}
set_option maxHeartbeats 4000000 in
theorem then_ev (hget : fns.get 234 = some sh234) (p : List Sp) (s : Sp) (hp : p.length < 1000000) (n : Nat) (st : St) :
    ∃ S r, evF fns (n + 1) 234 [.cmp 2 0 (cBg p), .cmp 2 0 (cPr s)] st = some (.ret (.cmp 2 0 [.ref 3 r 0 (p.length + 1) (p.length + 1) false, nilS]), S) ∧ st.next ≤ r ∧ S.mem.get r = some (.cells 89 (cPs (p ++ [s])) true) := by
  obtain ⟨k, v⟩ := s
  obtain ⟨S1, hS1⟩ : ∃ S, S = st.in.new (.cells 163 (cBg p) true) := ⟨_, rfl⟩
  obtain ⟨S2, hS2⟩ : ∃ S, S = S1.new (.cells 89 (cPr (k, v)) true) := ⟨_, rfl⟩
  obtain ⟨S3, hS3⟩ : ∃ S, S = S2.new (.cells 163 [nilS, nilS] true) := ⟨_, rfl⟩
  have n1 : S1.next = st.next + 1 := by rw [hS1]; rfl
  have n2 : S2.next = st.next + 2 := by rw [hS2]; show S1.next + 1 = _; omega
  have n3 : S3.next = st.next + 3 := by rw [hS3]; show S2.next + 1 = _; omega
  have b1 : ∀ tm : Tr V, X.ev tm (.t (pa 0)) = .cmp 2 0 (cBg p) → iBox 163 (.t (pa 0)) tm st.in = some (.ref 1 st.next 0 0 0 false, S1) := fun tm h => by rw [m_box (cs := cBg p) (by rw [h]; rfl), hS1]
  have b2 : ∀ tm : Tr V, X.ev tm (.t (pa 1)) = .cmp 2 0 (cPr (k, v)) → iBox 89 (.t (pa 1)) tm S1 = some (.ref 1 S1.next 0 0 0 false, S2) := fun tm h => by rw [m_box (cs := cPr (k, v)) (by rw [h]; rfl), hS2]
  have b3 : ∀ tm : Tr V, iAlloc 163 [.ref 2 0 0 0 0 false, .ref 2 0 0 0 0 false] tm S2 = some (.ref 1 S2.next 0 0 0 false, S3) := fun tm => by rw [hS3]; rfl
  have g1 : S3.mem.get st.next = some (.cells 163 (cBg p) true) := by rw [hS3, new_get, if_neg (by omega), hS2, new_get, if_neg (by omega), hS1]; exact new_get_self' _ _
  have g2 : S3.mem.get S1.next = some (.cells 89 (cPr (k, v)) true) := by rw [hS3, new_get, if_neg (by omega), hS2]; exact new_get_self' _ _
  obtain ⟨S4, hS4⟩ : ∃ S, S = S3.put S1.next (some (.cells 89 (cP (k, v)) true)) := ⟨_, rfl⟩
  have st4 : stW 1 (.ref 1 S1.next 3 0 0 false) e4 S3 = some (.undef, S4) := by rw [hS4]; exact stW_at g2 (cells_fsl _ _ _ (by decide) (by decide)) (show 3 < 4 by decide)
  have l1 : ∀ g i q, ldW g q (.ref 1 st.next i 0 0 false) S3 = part g [slT 4 p.length (cPs p), e4] i q := fun g i q => ldW_get g1
  have l1' : ∀ g i q, ldW g q (.ref 1 st.next i 0 0 false) S4 = part g [slT 4 p.length (cPs p), e4] i q := fun g i q => ldW_get (by rw [hS4, put_get, if_neg (by omega)]; exact g1)
  have l2 : ldW true 4 (.ref 1 S1.next 0 0 0 false) S4 = some (.cmp 2 0 (cP (k, v))) := by rw [ldW_get (by rw [hS4, put_get, if_pos rfl])]; exact part_whole rfl
  have n4 : S4.next = st.next + 3 := by rw [hS4]; exact n3
  obtain ⟨S5, hS5⟩ : ∃ S, S = S4.new (.cells 89 (cP (k, v)) true) := ⟨_, rfl⟩
  have bs : ∀ tm : Tr V, X.ev tm (.t (pa 17)) = .cmp 2 0 (cP (k, v)) → iBsl 89 1 [.int 63 0, .str [], .ref 2 0 0 0 0 false, .ref 2 0 0 0 0 false] [(0, 4, .t (pa 17))] tm S4 = some (.ref 3 S4.next 0 1 1 true, S5) := fun tm h => by
    rw [m_bsl, fillV_c, h, cells_agg2, fillS_w (n := 4) rfl rfl, fillV_0, hS5]
  have n5 : S5.next = st.next + 4 := by rw [hS5]; show S4.next + 1 = _; omega
  obtain ⟨S6, hS6⟩ : ∃ S, S = S5.new (.cells 89 (cPs p ++ cP (k, v)) true) := ⟨_, rfl⟩
  have ap : ∀ tm : Tr V, X.ev tm (.t (pa 16)) = .cmp 4 0 (.ref 8 0 0 p.length p.length true :: cPs p) → X.ev tm (.t (pa 18)) = .ref 3 S4.next 0 1 1 true → iApp false 89 4 72 (.t (pa 16)) (.t (pa 18)) tm S5 = some (.ref 3 S5.next 0 (p.length + 1) (p.length + 1) false, S6) := fun tm x y => by
    rw [hS6]; exact app_frz (cPs_len p) (by rw [hS5]; exact new_get_self' _ _) rfl (by omega) tm _ _ x y
  have sl : ∀ tm : Tr V, X.ev tm (.t (pa 9)) = slT 4 p.length (cPs p) → X.ev tm (.t (pa 12)) = .int 63 (Int.ofNat p.length) → X.ev tm (.t (pa 15)) = .int 63 (Int.ofNat p.length) → iSll 89 4 (.t (pa 9)) none (some (.t (pa 12))) (some (.t (pa 15))) tm S4 = some (.cmp 4 0 (.ref 8 0 0 p.length p.length true :: cPs p)) := fun tm x y z => sll_frz (cPs_len p) tm _ _ _ x y z
  have bd : ∀ tm : Tr V, X.ev tm (.t (pa 19)) = .ref 3 S5.next 0 (p.length + 1) (p.length + 1) false → iBuild [.ref 2 0 0 0 0 false, .ref 2 0 0 0 0 false] [(0, 1, .t (pa 19))] tm S6 = some (.cmp 2 0 [.ref 3 S5.next 0 (p.length + 1) (p.length + 1) false, nilS]) := fun tm h => by
    rw [m_build, fillV_c, h, cells_ref, fillS_1 (by decide), fillV_0]; rfl
  have n6 : S6.next = st.next + 5 := by rw [hS6]; show S5.next + 1 = _; omega
  have g6 : S6.mem.get S2.next = some (.cells 163 [nilS, nilS] true) := by rw [hS6, new_get, if_neg (by omega), hS5, new_get, if_neg (by omega), hS4, put_get, if_neg (by omega), hS3]; exact new_get_self' _ _
  obtain ⟨S7, hS7⟩ : ∃ S, S = S6.put S2.next (some (.cells 163 [.ref 3 S5.next 0 (p.length + 1) (p.length + 1) false, nilS] true)) := ⟨_, rfl⟩
  have st7 : stW 2 (.ref 1 S2.next 0 0 0 false) (.cmp 2 0 [.ref 3 S5.next 0 (p.length + 1) (p.length + 1) false, nilS]) S6 = some (.undef, S7) := by rw [hS7]; exact stW_whole g6 rfl rfl
  have l7 : ldW true 2 (.ref 1 S2.next 0 0 0 false) S7 = some (.cmp 2 0 [.ref 3 S5.next 0 (p.length + 1) (p.length + 1) false, nilS]) := by rw [ldW_get (by rw [hS7, put_get, if_pos rfl])]; exact part_whole rfl
  refine ⟨back st (.ret (.cmp 2 0 [.ref 3 S5.next 0 (p.length + 1) (p.length + 1) false, nilS])) S7, S5.next, ?_, by omega, ?_⟩
  · rw [ev_mk hget]
    simp only [c234_0, c234_1, c234_2, yY, iInt, iStr, iLenS, iLenL, iNot, iPick, iExt, if_true, if_false, reduceIte, Nat.reduceEqDiff, Nat.reduceAdd, reduceCtorEq, yQ, b1, b2, b3, m_fad, m_add0, m_load, l1, l1', part_c0, part_cs, m_store, st4, yD, x_oneM, x_oneE, x_oneP, x_oneK, x_oneL, x_slF, x_fsl4, sl, l2, bs, ap, bd, st7]
    rw [leave_mem (v := .cmp 2 0 [.ref 3 S5.next 0 (p.length + 1) (p.length + 1) false, nilS]) (by simp only [yL, if_true, if_false, reduceIte, Nat.reduceEqDiff, reduceCtorEq]; exact l7)]
  · rw [back_new (by
      show (V.cmp 2 0 [.ref 3 S5.next 0 (p.length + 1) (p.length + 1) false, nilS]).under st.next = false
      rw [under_cmp]
      simp only [List.all_cons, under_new st.next S5.next _ _ _ (by omega), Bool.false_and])]
    show S7.mem.get S5.next = _
    rw [hS7, put_get, if_neg (by omega), hS6, new_get_self', cPs_app]
    show some (Ob.cells _ (cPs p ++ cP (k, v)) true) = some (Ob.cells _ (cPs p ++ (cP (k, v) ++ [])) true)
    rw [List.append_nil]
end
end Go.Proofs.YtnccejmggcjaoaaGreatDoor.Av
