/-
  pattern.Right: WHAT IT ANSWERS of queries that may be.
-/
import Derived.Test.YtnccejmggcjaoaaGreatDoorChkA
namespace Go.Proofs.YtnccejmggcjaoaaGreatDoor.Av
set_option linter.unusedVariables false
set_option linter.unusedSimpArgs false
set_option maxRecDepth 1000000
open Go
mutual
def rtI (N : Str → Prop) (E : Et → Prop) : It → Prop
  | .mk k n v p lo hi ks => (k = 3 ∧ n = [] ∧ v = [] ∧ p = [] ∧ lo = 0 ∧ hi = 0 ∧ 2 ≤ ks.length ∧ rtK N E ks) ∨
      (N n ∧ N v ∧ p.length ≤ 1 ∧ (∀ e ∈ p, E e) ∧ ks = [] ∧ ((k = 0 ∧ lo = 0 ∧ hi = 0) ∨ (k = 2 ∧ lo = 0 ∧ hi = 0) ∨ (k = 1 ∧ 1 ≤ lo ∧ lo ≤ hi ∧ hi ≤ 4)))
def rtM (N : Str → Prop) (E : Et → Prop) : List It → Prop
  | [] => True
  | x :: l => rtI N E x ∧ rtM N E l
def rtK (N : Str → Prop) (E : Et → Prop) : List (List It) → Prop
  | [] => True
  | l :: ks => (0 < l.length ∧ rtM N E l) ∧ rtK N E ks
end
def rtL (N : Str → Prop) (E : Et → Prop) (l : List It) : Prop := 0 < l.length ∧ rtM N E l
theorem rtM_iff {N : Str → Prop} {E : Et → Prop} : ∀ {l : List It}, rtM N E l ↔ ∀ x ∈ l, rtI N E x
  | [] => by simp [rtM]
  | x :: l => by simp only [rtM, rtM_iff, List.mem_cons, forall_eq_or_imp]
theorem rtK_iff {N : Str → Prop} {E : Et → Prop} : ∀ {l : List (List It)}, rtK N E l ↔ ∀ x ∈ l, rtL N E x
  | [] => by simp [rtK]
  | x :: l => by simp only [rtK, rtK_iff, List.mem_cons, forall_eq_or_imp, rtL]
theorem rt_kid {N : Str → Prop} {E : Et → Prop} {x : It} (h : rtI N E x) {kid : List It} (hk : kid ∈ x.kids) : rtL N E kid := by
  obtain ⟨k, n, v, p, lo, hi, ks⟩ := x
  simp only [rtI] at h
  rcases h with ⟨_, _, _, _, _, _, _, h⟩ | ⟨_, _, _, _, rfl, _⟩
  · exact rtK_iff.1 h kid hk
  · exact nomatch hk
structure RawR (fns : Tr Fs) : Prop where
  ii : fns.get 193 = some sh193
  ci : fns.get 143 = some sh143
  ei : fns.get 134 = some sh134
  di : fns.get 186 = some sh186
  ik : fns.get 194 = some sh194
  ck : fns.get 145 = some sh145
  ek : fns.get 187 = some sh187
  dk : fns.get 223 = some sh223
  ie : fns.get 248 = some sh248
  ce : fns.get 224 = some sh224
  ee : fns.get 188 = some sh188
  de : fns.get 225 = some sh225
  one : fns.get 135 = some sh135
  items : fns.get 80 = some sh80
  right : fns.get 28 = some sh28
def NameOk (fns : Tr Fs) (N : Str → Prop) : Prop := ∀ (n : Nat) (s : Str), N s → ∀ st : St, evF fns (n + 1) 81 [.str s] st = some (.ret (.bool true), st)
def PredOk (fns : Tr Fs) (E : Et → Prop) : Prop := ∀ (n : Nat) (e : Et), E e → ∀ st : St, evF fns (n + 1) 189 [.cmp 2 0 (cE e)] st = some (.ret (.bool true), st)
theorem sEql0 : sEql [] [] = some (.bool true) := rfl
theorem e00 : eqI (0 : Int) 0 = true := rfl
theorem e01 : eqI (0 : Int) 1 = false := rfl
theorem e02 : eqI (0 : Int) 2 = false := rfl
theorem e03 : eqI (0 : Int) 3 = false := rfl
theorem e11 : eqI (1 : Int) 1 = true := rfl
theorem e10 : eqI (1 : Int) 0 = false := rfl
theorem e12 : eqI (1 : Int) 2 = false := rfl
theorem e13 : eqI (1 : Int) 3 = false := rfl
theorem e20 : eqI (2 : Int) 0 = false := rfl
theorem e21 : eqI (2 : Int) 1 = false := rfl
theorem e22 : eqI (2 : Int) 2 = true := rfl
theorem e23 : eqI (2 : Int) 3 = false := rfl
theorem e30 : eqI (3 : Int) 0 = false := rfl
theorem e31 : eqI (3 : Int) 1 = false := rfl
theorem e32 : eqI (3 : Int) 2 = false := rfl
theorem e33 : eqI (3 : Int) 3 = true := rfl
theorem eofn (a : Nat) : eqI (Int.ofNat a) 0 = decide (a = 0) := eqI_nat a 0
theorem gofn (a b : Nat) : ltI (Int.ofNat a) (Int.ofNat b) = decide (a < b) := ltI_nat a b
section
variable {fns : Tr Fs} {N : Str → Prop} {E : Et → Prop} (raw : RawR fns) (hN : NameOk fns N) (hE : PredOk fns E)
include raw hN hE
set_option maxHeartbeats 4000000 in
theorem right1 {x : It} (hx : rtI N E x) {n : Nat} (hk : ∀ kid ∈ x.kids, ∀ s : St, evF fns (n + 1) 80 [slT 4 kid.length (cIs kid)] s = some (.ret (.bool true), s)) (hkl : x.kids.length < n + 2) (hn : 1 < n) (hk60 : x.kids.length < 2 ^ 60) (st : St) :
    evF fns (n + 6) 135 [.cmp 2 0 (cI x)] st = some (.ret (.bool true), st) := by
  obtain ⟨k, nm, vr, pr, lo, hi, ks⟩ := x
  obtain ⟨T, hT⟩ : ∃ T, T = st.in.new (.cells 34 (cI (.mk k nm vr pr lo hi ks)) true) := ⟨_, rfl⟩
  have hb : ∀ tm : Tr V, X.ev tm (.t (pa 0)) = .cmp 2 0 (cI (.mk k nm vr pr lo hi ks)) → iBox 34 (.t (pa 0)) tm st.in = some (.ref 1 st.next 0 0 0 false, T) := fun tm h => by rw [m_box (cs := cI (.mk k nm vr pr lo hi ks)) (by rw [h]; rfl), hT]
  have hl : ∀ g i q, ldW g q (.ref 1 st.next i 0 0 false) T = part g [.int 63 k, .str nm, .str vr, slT 4 pr.length (cEs pr), .int 63 lo, .int 63 hi, slT 4 ks.length (cKs ks)] i q := fun g i q => by rw [hT]; exact ldW_nb (st := st.in)
  have hA : Aft st.next { next := st.next, low := st.next, mem := st.mem } T := by rw [hT]; exact Aft.box
  simp only [It.kids] at hk hkl hk60
  have hKs := everyK (st := T) (t := 4) (l := ks) (g := 80) raw.ek raw.dk raw.ck raw.ik (n := n + 1) (.inl rfl) hk60 hkl hk
  simp only [rtI] at hx
  rw [ev_mk raw.one]
  rcases hx with ⟨rfl, rfl, rfl, rfl, rfl, rfl, h2, -⟩ | ⟨h1, h2, h3, h4, rfl, h5⟩
  · have hg : ltI 1 (Int.ofNat ks.length) = true := (gofn 1 ks.length).trans (decide_eq_true (by omega))
    have h0 : eqI (Int.ofNat ([] : List Et).length) 0 = true := rfl
    simp only [c135_0, c135_1, c135_2, c135_3, yY, iInt, iStr, iLenS, iLenL, iNot, iPick, iExt, if_true, if_false, reduceIte, Nat.reduceEqDiff, Nat.reduceAdd, reduceCtorEq, yQ, hb, m_load, m_fad, m_add0, hl, part_c0, part_cs, f_eql, f_gtr, e00, e33, hg, x_slF, x_fsl4, hKs, sEql0, h0]
    refine leave_scalar (v := .bool true) ?_ (fun h => nomatch h) rfl hA
    simp only [yL, if_true, if_false, reduceIte, Nat.reduceEqDiff, reduceCtorEq]
  · have hn1 : ∀ s : St, evF fns (n + 5) 81 [.str nm] s = some (.ret (.bool true), s) := fun s => hN _ _ h1 s
    have hn2 : ∀ s : St, evF fns (n + 5) 81 [.str vr] s = some (.ret (.bool true), s) := fun s => hN _ _ h2 s
    have hEs := everyE (st := T) (t := 4) (l := pr) (g := 189) raw.ee raw.de raw.ce raw.ie (n := n + 1) (.inl rfl) (by omega) (by omega) (fun e he s => hE n e (h4 e he) s)
    have hp : ltI 1 (Int.ofNat pr.length) = false := (gofn 1 pr.length).trans (decide_eq_false (by omega))
    have hk0 : eqI (Int.ofNat ([] : List (List It)).length) 0 = true := rfl
    rcases h5 with ⟨rfl, rfl, rfl⟩ | ⟨rfl, rfl, rfl⟩ | ⟨rfl, a, b, c⟩
    · simp only [c135_0, c135_1, c135_2, c135_3, c135_4, yY, iInt, iStr, iLenS, iLenL, iNot, iPick, iExt, if_true, if_false, reduceIte, Nat.reduceEqDiff, Nat.reduceAdd, reduceCtorEq, yQ, hb, m_load, m_fad, m_add0, hl, part_c0, part_cs, f_eql, f_leq, e00, e01, e03, hp, x_slF, x_fsl4, hn1, hn2, hEs, hk0]
      refine leave_scalar (v := .bool true) ?_ (fun h => nomatch h) rfl hA
      simp only [yL, if_true, if_false, reduceIte, Nat.reduceEqDiff, reduceCtorEq]
    · simp only [c135_0, c135_1, c135_2, c135_3, c135_4, yY, iInt, iStr, iLenS, iLenL, iNot, iPick, iExt, if_true, if_false, reduceIte, Nat.reduceEqDiff, Nat.reduceAdd, reduceCtorEq, yQ, hb, m_load, m_fad, m_add0, hl, part_c0, part_cs, f_eql, f_leq, e00, e20, e21, e22, e23, hp, x_slF, x_fsl4, hn1, hn2, hEs, hk0]
      refine leave_scalar (v := .bool true) ?_ (fun h => nomatch h) rfl hA
      simp only [yL, if_true, if_false, reduceIte, Nat.reduceEqDiff, reduceCtorEq]
    · have t1 : eqI lo 0 = false := by rw [eqI_eq]; exact decide_eq_false (by omega)
      have t2 : ltI lo 1 = false := by rw [ltI_eq]; exact decide_eq_false (by omega)
      have t3 : ltI hi lo = false := by rw [ltI_eq]; exact decide_eq_false (by omega)
      have t4 : ltI 4 hi = false := by rw [ltI_eq]; exact decide_eq_false (by omega)
      simp only [c135_0, c135_1, c135_2, c135_3, c135_4, yY, iInt, iStr, iLenS, iLenL, iNot, iPick, iExt, if_true, if_false, reduceIte, Nat.reduceEqDiff, Nat.reduceAdd, reduceCtorEq, yQ, hb, m_load, m_fad, m_add0, hl, part_c0, part_cs, f_eql, f_leq, f_geq, e11, e13, t1, t2, t3, t4, hp, x_slF, x_fsl4, hn1, hn2, hEs, hk0]
      refine leave_scalar (v := .bool true) ?_ (fun h => nomatch h) rfl hA
      simp only [yL, if_true, if_false, reduceIte, Nat.reduceEqDiff, reduceCtorEq]
theorem rightL : ∀ (m : Nat) (l : List It), szL l ≤ m → rtL N E l → okL l → ∀ n : Nat, 12 * szL l + 12 ≤ n → ∀ (t : Nat), t = 4 ∨ t = 6 → ∀ st : St,
    evF fns n 80 [slT t l.length (cIs l)] st = some (.ret (.bool true), st)
  | 0, l, hm, hl, _, _, _, _, _, _ => by have := hl.1; have := len_szL l; omega
  | m + 1, l, hm, hl, hok, n, hn, t, ht, st => by
    obtain ⟨hl60, hx⟩ := okL_iff.1 hok
    have hsz := len_szL l
    obtain ⟨q, rfl⟩ : ∃ q, n = q + 11 := ⟨n - 11, by omega⟩
    have hev := everyI (st := st.in) (t := t) (l := l) (g := 135) raw.ei raw.di raw.ci raw.ii (n := q + 6) ht hl60 (by omega) (fun x hxl s => by
      have h1 := szL_kids hxl
      refine right1 raw hN hE (rtM_iff.1 hl.2 x hxl) (n := q) (fun kid hk s => ?_) (by omega) (by omega) ?_ s
      · have h2 := szL_kid hxl hk
        exact rightL m kid (by omega) (rt_kid (rtM_iff.1 hl.2 x hxl) hk) (okI_kid (hx x hxl) hk) (q + 1) (by omega) 4 (.inl rfl) s
      · have := hx x hxl
        obtain ⟨k, nm, vr, pr, lo, hi, ks⟩ := x
        exact (okI_at this).1)
    have hg : ltI 0 (Int.ofNat l.length) = true := (gofn 0 l.length).trans (decide_eq_true hl.1)
    rw [ev_mk raw.items]
    rcases ht with rfl | rfl
    all_goals
      simp only [c80_0, c80_1, yY, iInt, iStr, iLenS, iLenL, iNot, iPick, iExt, if_true, if_false, reduceIte, Nat.reduceEqDiff, Nat.reduceAdd, reduceCtorEq, yQ, x_slF, x_fsl4, x_fsl6, f_gtr, hg, hev]
      refine leave_scalar (v := .bool true) ?_ (fun h => nomatch h) rfl (Aft.refl _ _)
      simp only [yL, if_true, if_false, reduceIte, Nat.reduceEqDiff, reduceCtorEq]
theorem rightQ {l : List It} (hl : rtL N E l) (hok : okL l) {w : Int} (hw : 0 ≤ w ∧ w ≤ 1000000000) {by_ : Str} (hby : by_ = [] ∨ (eqS by_ [] = false ∧ N by_)) {n : Nat} (hn : 12 * szL l + 13 ≤ n) {t : Nat} (ht : t = 4 ∨ t = 6) (st : St) :
    evF fns n 28 [.cmp 2 0 [slT t l.length (cIs l), .int 63 w, .str by_]] st = some (.ret (.bool true), st) := by
  obtain ⟨q, rfl⟩ : ∃ q, n = q + 1 := ⟨n - 1, by omega⟩
  obtain ⟨r, rfl⟩ : ∃ r, q = r + 1 := ⟨q - 1, by omega⟩
  obtain ⟨T, hT⟩ : ∃ T, T = st.in.new (.cells 27 [slT t l.length (cIs l), .int 63 w, .str by_] true) := ⟨_, rfl⟩
  have hb : ∀ tm : Tr V, X.ev tm (.t (pa 0)) = .cmp 2 0 [slT t l.length (cIs l), .int 63 w, .str by_] → iBox 27 (.t (pa 0)) tm st.in = some (.ref 1 st.next 0 0 0 false, T) := fun tm h => by rw [m_box (cs := [slT t l.length (cIs l), .int 63 w, .str by_]) (by rw [h]; rfl), hT]
  have hd : ∀ g i q, ldW g q (.ref 1 st.next i 0 0 false) T = part g [slT t l.length (cIs l), .int 63 w, .str by_] i q := fun g i q => by rw [hT]; exact ldW_nb (st := st.in)
  have hA : Aft st.next { next := st.next, low := st.next, mem := st.mem } T := by rw [hT]; exact Aft.box
  have hr := rightL raw hN hE (szL l) l (Nat.le_refl _) hl hok (r + 1) (by omega) t ht T
  have t1 : ltI w 0 = false := by rw [ltI_eq]; exact decide_eq_false (by omega)
  have t2 : ltI 1000000000 w = false := by rw [ltI_eq]; exact decide_eq_false (by omega)
  rw [ev_mk raw.right]
  rcases hby with rfl | ⟨h1, h2⟩
  · simp only [c28_0, c28_1, yY, iInt, iStr, iLenS, iLenL, iNot, iPick, iExt, if_true, if_false, reduceIte, Nat.reduceEqDiff, Nat.reduceAdd, reduceCtorEq, yQ, hb, m_load, m_fad, m_add0, hd, part_c0, part_cs, hr, f_geq, f_leq, t1, t2, sEql0]
    refine leave_scalar (v := .bool true) ?_ (fun h => nomatch h) rfl hA
    simp only [yL, if_true, if_false, reduceIte, Nat.reduceEqDiff, reduceCtorEq]
  · have h3 : sEql by_ [] = some (.bool false) := by show some (V.bool (eqS by_ [])) = _; rw [h1]
    have h4 := hN r by_ h2 T
    simp only [c28_0, c28_1, yY, iInt, iStr, iLenS, iLenL, iNot, iPick, iExt, if_true, if_false, reduceIte, Nat.reduceEqDiff, Nat.reduceAdd, reduceCtorEq, yQ, hb, m_load, m_fad, m_add0, hd, part_c0, part_cs, hr, f_geq, f_leq, t1, t2, h3, h4]
    refine leave_scalar (v := .bool true) ?_ (fun h => nomatch h) rfl hA
    simp only [yL, if_true, if_false, reduceIte, Nat.reduceEqDiff, reduceCtorEq]
end
end Go.Proofs.YtnccejmggcjaoaaGreatDoor.Av
