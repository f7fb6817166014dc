/-
  WHAT IS ASKED: a query, by the feed.
-/
import Derived.Test.YtnccejmggcjaoaaGreatDoorItsB
namespace Go.Proofs.YtnccejmggcjaoaaGreatDoor.Av
set_option linter.unusedVariables false
set_option linter.unusedSimpArgs false
set_option maxRecDepth 1000000
open Go
mutual
theorem fine_under (n : Nat) : ∀ v : V, v.fine = true → v.under n = true
  | .int k i, _ => rfl
  | .str s, _ => rfl
  | .bool b, _ => rfl
  | .ref t o i m c x, h => by
    refine (under_ref n t o i m c x).2 fun h' => ?_
    have h2 : (!(Nat.beq t 1 || (Nat.beq t 3 || Nat.beq t 5))) = true := h
    rcases h' with rfl | rfl | rfl <;> exact nomatch h2
  | .cmp t a l, h => by
    rw [under_cmp]
    rw [fine_cmp] at h
    cases hb : (Nat.beq t 6 || Nat.beq t 7) with
    | true => rw [hb] at h; exact nomatch h
    | false => rw [hb] at h; exact fine_unders n l h
theorem fine_unders (n : Nat) : ∀ l : List V, (l.all fun v => v.fine) = true → (l.all fun v => v.under n) = true
  | [], _ => rfl
  | v :: l, h => by
    rw [List.all_cons, Bool.and_eq_true] at h
    rw [List.all_cons, fine_under n v h.1, fine_unders n l h.2]; rfl
end
def KnownL (d most : Nat) (fns : Tr Fs) : Prop := ∀ (n : Nat) {st : St} {o : Nat} {f : Fd} {vv vo : V}, FeedAt st o f vv vo → Sep o vv vo → f.many ≤ 6 → ∃ l f' vv' vo' st', evF fns (n + 1) 140 (itsArgs o d most) st = some (.ret (slT 4 l.length (cIs l)), st') ∧ ItsPost d most f f' l ∧ Went o f f' vv' vo' st st' ∧ st'.low ≤ o
theorem item_known {D : Nat} (hm : ∀ d, d ≤ D → ∀ {st : St} {o : Nat} {f : Fd} {vv vo : V}, FeedAt st o f vv vo → Sep o vv vo → f.many ≤ 20 → ∀ nt : Bool, ∃ x f' vv' vo' st', CallAt Tryz.prog 191 (itemArgs o d nt) st (.ret (.cmp 2 0 (cI x))) st' ∧ ItemPost d nt f f' x ∧ Went o f f' vv' vo' st st' ∧ st'.low ≤ o) :
    ∃ g, MemoOk Tryz.prog 191 g ∧ ∀ fns : Tr Fs, fns.get 191 = some (.memo g) → ∀ d, d ≤ D → KnownI d fns := by
  obtain ⟨R, hR⟩ : ∃ R : List V → St → CR → St → Prop, R = fun args st r st' => CallAt Tryz.prog 191 args st r st' ∧ ∃ (o : Nat) (f : Fd) (vv vo : V) (d : Nat) (nt : Bool) (x : It) (f' : Fd) (vv' vo' : V), args = itemArgs o d nt ∧ FeedAt st o f vv vo ∧ r = .ret (.cmp 2 0 (cI x)) ∧ ItemPost d nt f f' x ∧ Went o f f' vv' vo' st st' ∧ st'.low ≤ o := ⟨_, rfl⟩
  refine ⟨memoG R, memo_of fun args st r st' h => by rw [hR] at h; exact h.1, fun fns hf d hd n st o f vv vo h hs hmany nt => ?_⟩
  obtain ⟨x, f', vv', vo', st', c1, c2, c3, c4⟩ := hm d hd h hs hmany nt
  obtain ⟨r, st'', h1, h2⟩ := memo_at (n := n) hf (args := itemArgs o d nt) (st := st) (r := .ret (.cmp 2 0 (cI x))) (st' := st') (by rw [hR]; exact ⟨c1, o, f, vv, vo, d, nt, x, f', vv', vo', rfl, h, rfl, c2, c3, c4⟩)
  rw [hR] at h1
  obtain ⟨_, o', f2, vv2, vo2, d', nt', x', f3, vv3, vo3, he, h3, rfl, h4, h5, h6⟩ := h1
  injection he with he1 he
  injection he with he2 he
  injection he with he3 he
  injection he1 with _ he1
  injection he2 with _ he2
  injection he3 with he3
  subst he1
  subst he3
  obtain ⟨rfl, rfl, rfl⟩ := h.uniq h3
  rw [← Int.ofNat.inj he2] at h4
  exact ⟨x', f3, vv3, vo3, st'', h2, h4, h5, h6⟩
theorem items_known {P : Nat → Nat → Prop} (hm : ∀ d most, P d most → ∀ {st : St} {o : Nat} {f : Fd} {vv vo : V}, FeedAt st o f vv vo → Sep o vv vo → f.many ≤ 6 → ∃ l f' vv' vo' st', CallAt Tryz.prog 140 (itsArgs o d most) st (.ret (slT 4 l.length (cIs l))) st' ∧ ItsPost d most f f' l ∧ Went o f f' vv' vo' st st' ∧ st'.low ≤ o) :
    ∃ g, MemoOk Tryz.prog 140 g ∧ ∀ fns : Tr Fs, fns.get 140 = some (.memo g) → ∀ d most, P d most → KnownL d most fns := by
  obtain ⟨R, hR⟩ : ∃ R : List V → St → CR → St → Prop, R = fun args st r st' => CallAt Tryz.prog 140 args st r st' ∧ ∃ (o : Nat) (f : Fd) (vv vo : V) (d most : Nat) (l : List It) (f' : Fd) (vv' vo' : V), args = itsArgs o d most ∧ FeedAt st o f vv vo ∧ r = .ret (slT 4 l.length (cIs l)) ∧ ItsPost d most f f' l ∧ Went o f f' vv' vo' st st' ∧ st'.low ≤ o := ⟨_, rfl⟩
  refine ⟨memoG R, memo_of fun args st r st' h => by rw [hR] at h; exact h.1, fun fns hf d most hd n st o f vv vo h hs hmany => ?_⟩
  obtain ⟨l, f', vv', vo', st', c1, c2, c3, c4⟩ := hm d most hd h hs hmany
  obtain ⟨r, st'', h1, h2⟩ := memo_at (n := n) hf (args := itsArgs o d most) (st := st) (r := .ret (slT 4 l.length (cIs l))) (st' := st') (by rw [hR]; exact ⟨c1, o, f, vv, vo, d, most, l, f', vv', vo', rfl, h, rfl, c2, c3, c4⟩)
  rw [hR] at h1
  obtain ⟨_, o', f2, vv2, vo2, d', most', l', f3, vv3, vo3, he, h3, rfl, h4, h5, h6⟩ := h1
  injection he with he1 he
  injection he with he2 he
  injection he with he3 he
  injection he1 with _ he1
  injection he2 with _ he2
  injection he3 with _ he3
  subst he1
  obtain ⟨rfl, rfl, rfl⟩ := h.uniq h3
  rw [← Int.ofNat.inj he2, ← Int.ofNat.inj he3] at h4
  exact ⟨l', f3, vv3, vo3, st'', h2, h4, h5, h6⟩
theorem wL_plain {l : List It} (h : ∀ x ∈ l, plainI x) : wL l = l.length := by
  induction l with
  | nil => rfl
  | cons x l ih =>
    have h1 : wI x = 1 := by
      have e := h x (List.mem_cons_self ..)
      obtain ⟨k, n, v, p, lo, hi, ks⟩ := x
      have e : ks = [] := e.2.1
      rw [e]; rfl
    show wI x + wL l = _
    rw [h1, ih fun y hy => h y (List.mem_cons_of_mem _ hy), List.length_cons]; omega
theorem items_memo : ∃ g, MemoOk Tryz.prog 140 g ∧ ∀ fns : Tr Fs, fns.get 140 = some (.memo g) → KnownL 1 3 fns := by
  obtain ⟨gp, mp, hp⟩ := pred_memo
  have l1 := like0.set mp (.inr (.inr (.inl rfl)))
  have p1 := hp (table.set 228 (some (.memo gp))) (by rw [get_set, if_pos rfl])
  obtain ⟨gi, mi, hi⟩ := item_known (D := 0) fun d hd st o f vv vo h hs hm nt => item_at l1.gen l1.ok 0 h hs d (by omega) nt hm p1 fun h => by omega
  have l2 := l1.set mi (.inr (.inr (.inr (.inl rfl))))
  have i2 := hi ((table.set 228 (some (.memo gp))).set 191 (some (.memo gi))) (by rw [get_set, if_pos rfl]) 0 (Nat.le_refl _)
  obtain ⟨gl, ml, hl⟩ := items_known (P := fun d most => d = 0 ∧ most = 2) fun d most hd st o f vv vo h hs hm => by
    obtain ⟨rfl, rfl⟩ := hd
    exact items_at l2.ok 0 h hs 0 2 (.inl rfl) hm i2 i2
  have l3 := l1.set ml (.inr (.inr (.inr (.inr rfl))))
  have k3 := hl ((table.set 228 (some (.memo gp))).set 140 (some (.memo gl))) (by rw [get_set, if_pos rfl]) 0 2 ⟨rfl, rfl⟩
  have p3 := hp ((table.set 228 (some (.memo gp))).set 140 (some (.memo gl))) (by rw [get_set, if_neg (by decide), get_set, if_pos rfl])
  obtain ⟨gj, mj, hj⟩ := item_known (D := 1) fun d hd st o f vv vo h hs hm nt => item_at l3.gen l3.ok 0 h hs d hd nt hm p3 fun hd0 => fun {st f vv vo} h hs hm => by
    obtain rfl : d = 1 := by omega
    obtain ⟨l, f', vv', vo', st', c1, ⟨c2, c3, c4, c5, c6, c7⟩, c8, c9⟩ := k3 1 h hs hm
    have hpl : ∀ x ∈ l, plainI x := fun x hx => (c2 x hx).resolve_right fun h => absurd h.1 (by omega)
    exact ⟨l, f', vv', vo', st', c1, ⟨hpl, c3, c5 (by omega), by rw [c6, wL_plain hpl]⟩, c8, c9⟩
  have l4 := like0.set mj (.inr (.inr (.inr (.inl rfl))))
  have i4 := hj (table.set 191 (some (.memo gj))) (by rw [get_set, if_pos rfl])
  obtain ⟨g, m, k⟩ := items_known (P := fun d most => d = 1 ∧ most = 3) fun d most hd st o f vv vo h hs hm => by
    obtain ⟨rfl, rfl⟩ := hd
    exact items_at l4.ok 0 h hs 1 3 (.inr rfl) hm (i4 1 (Nat.le_refl _)) (i4 0 (by omega))
  exact ⟨g, m, fun fns hf => k fns hf 1 3 ⟨rfl, rfl⟩⟩
def QPost (q : Qt) : Prop := (∀ x ∈ q.items, plainI x ∨ altI x) ∧ 1 ≤ q.items.length ∧ q.items.length ≤ 4 ∧ wL q.items ≤ 9 ∧ (∃ w : Nat, q.within = Int.ofNat w ∧ w < 12) ∧ (q.by_ = [] ∨ q.by_ = [107])
abbrev zQ : List V := [nilV, .int 63 0, .str []]
abbrev row3 (x : V) (w : Int) (s : Str) : List V := [x, .int 63 w, .str s]
section
variable {fns : Tr Fs} (gt : GenT fns) (htab : TableOk Tryz.prog fns)
include gt htab
set_option maxHeartbeats 8000000 in
theorem asked_at (n : Nat) (l : List Nat) (hb : ∀ b ∈ l, b < 256) (hlen : l.length < 2 ^ 63) (st : St) (kl : KnownL 1 3 fns) : ∃ q, QPost q ∧ CallAt Tryz.prog 82 [slT 4 l.length (cB l)] st (.ret (.cmp 2 0 (cQ q))) st := by
  have call : ∀ {r : CR} {T : St}, enterF (evF fns (n + 2)) (n + 2) _ _ [slT 4 l.length (cB l)] st = some (r, T) → CallAt Tryz.prog 82 [slT 4 l.length (cB l)] st r T := fun h => callAt_in mixedZ htab ok82 h
  unfold enterF at call
  obtain ⟨S0, hS0⟩ : ∃ S0 : St, S0 = { next := st.next, low := st.next, mem := st.mem } := ⟨_, rfl⟩
  have hn0 : S0.next = st.next := by rw [hS0]
  have hl0 : S0.low = st.next := by rw [hS0]
  rw [← hS0] at call
  obtain ⟨S1, hS1⟩ : ∃ S, S = S0.new (.cells 27 zQ true) := ⟨_, rfl⟩
  obtain ⟨f0, hf0⟩ : ∃ f : Fd, f = { l := l, at_ := 0, vars := [], of_ := [], many := 0 } := ⟨_, rfl⟩
  obtain ⟨S2, hS2⟩ : ∃ S, S = S1.new (.cells 215 (feedC f0 nilV nilV) true) := ⟨_, rfl⟩
  have n1 : S1.next = S0.next + 1 := by rw [hS1]; rfl
  have n2 : S2.next = S1.next + 1 := by rw [hS2]; rfl
  have f2 : FeedAt S2 S1.next f0 nilV nilV := ⟨by omega, by rw [hS2]; exact new_get_self' _ _, .inl ⟨by rw [hf0], rfl⟩, .inl ⟨by rw [hf0], rfl⟩, by rw [hf0]; exact ⟨rfl, Nat.le_refl 0, by show 0 < 1000; decide⟩, by rw [hf0]; exact ⟨hb, Nat.zero_le _, hlen⟩⟩
  have sp : Sep S1.next nilV nilV := ⟨fun k n e => (nomatch e), fun k n e => (nomatch e), fun k n m e _ => (nomatch e)⟩
  have g2 : S2.mem.get S0.next = some (.cells 27 zQ true) := by rw [hS2, new_get, if_neg (by omega), hS1, new_get_self']
  have w2 := Went.start f2 sp
  obtain ⟨b, a, S3, k1, k2, k3⟩ := next_ev gt.next (n + 1) f2
  have w3 := w2.trans (k3.went sp)
  have n3 := k3.next
  have r12 : fRem 63 (Int.ofNat b) 12 = some (.int 63 (Int.ofNat (b % 12))) := f_rem 63 _ 12 (by decide)
  obtain ⟨S4, hS4⟩ : ∃ S, S = loc S3 27 zQ (row3 nilV (Int.ofNat (b % 12)) []) := ⟨_, rfl⟩
  have n4 : S4.next = S3.next + 1 := by rw [hS4]; rfl
  have w4 : Went S1.next f0 { f0 with at_ := a } nilV nilV S2 S4 := by rw [hS4]; exact (w3.new _).put n3 (new_get_self' _ _) ⟨by decide, by decide⟩ _
  have al4 : ∀ tm : Tr V, iAlloc 27 zQ tm S3 = some (.ref 1 S3.next 0 0 0 false, S3.new (.cells 27 zQ true)) := fun tm => rfl
  have st4 : stW 3 (.ref 1 S3.next 0 0 0 false) (.cmp 2 0 (row3 nilV (Int.ofNat (b % 12)) [])) (S3.new (.cells 27 zQ true)) = some (.undef, S4) := (stW_whole (n := 3) (new_get_self' _ _) rfl rfl).trans (by rw [hS4]; rfl)
  have r4 : S4.mem.get S3.next = some (.cells 27 (row3 nilV (Int.ofNat (b % 12)) []) true) := by rw [hS4]; exact loc_get _ _ _ _
  obtain ⟨b2, a2, S5, j1, j2, j3⟩ := next_ev gt.next (n + 1) w4.feed
  have w5 := w4.trans (j3.went sp)
  have n5 := j3.next
  have r5 : S5.mem.get S3.next = some (.cells 27 (row3 nilV (Int.ofNat (b % 12)) []) true) := by rw [j3.mem _ (by omega) (by omega)]; exact r4
  have r2 : fRem 63 (Int.ofNat b2) 2 = some (.int 63 (Int.ofNat (b2 % 2))) := f_rem 63 _ 2 (by decide)
  have e0 : eqI (Int.ofNat (b2 % 2)) 0 = decide (b2 % 2 = 0) := eqI_nat _ 0
  have fm0 : f0.many ≤ 6 := by rw [hf0]; exact Nat.zero_le _
  have rest : ∀ (S6 : St) (by_ : Str) (f6 : Fd), Went S1.next f0 f6 nilV nilV S2 S6 → f6.many = 0 → S3.next < S6.next → S6.mem.get S3.next = some (.cells 27 (row3 nilV (Int.ofNat (b % 12)) by_) true) → (by_ = [] ∨ by_ = [107]) →
      ∃ l' S7 S8 S9 q, evF fns (n + 2) 140 [.ref 1 S1.next 0 0 0 false, .int 63 1, .int 63 3] S6 = some (.ret l', S7) ∧ stW 1 (.ref 1 S3.next 0 0 0 false) l' S7 = some (.undef, S8) ∧ ldW true 3 (.ref 1 S3.next 0 0 0 false) S8 = some (.cmp 2 0 (cQ q)) ∧
        stW 3 (.ref 1 S0.next 0 0 0 false) (.cmp 2 0 (cQ q)) S8 = some (.undef, S9) ∧ ldW true 3 (.ref 1 S0.next 0 0 0 false) S9 = some (.cmp 2 0 (cQ q)) ∧ back st (.ret (.cmp 2 0 (cQ q))) S9 = st ∧ QPost q ∧ l' = slT 4 q.items.length (cIs q.items) := by
    intro S6 by_ f6 w6 hm6 n6 r6 hby
    obtain ⟨li, f7, v7, o7, S7, y1, ⟨y2, y3, y4, y5, y6, y7⟩, y8, y9⟩ := kl (n + 1) w6.feed w6.sep (by omega)
    have r7 : S7.mem.get S3.next = some (.cells 27 (row3 nilV (Int.ofNat (b % 12)) by_) true) := by rw [y8.mem _ n6 (by omega) (not_str r6 (by decide))]; exact r6
    have g6 : S6.mem.get S0.next = some (.cells 27 zQ true) := by rw [w6.mem _ (by omega) (by omega) (not_str g2 (by decide))]; exact g2
    have h62 := w6.next
    have g7 : S7.mem.get S0.next = some (.cells 27 zQ true) := by rw [y8.mem _ (by omega) (by omega) (not_str g6 (by decide))]; exact g6
    obtain ⟨q, hq⟩ : ∃ q : Qt, q = ⟨li, Int.ofNat (b % 12), by_⟩ := ⟨_, rfl⟩
    have hc : cQ q = row3 (slT 4 li.length (cIs li)) (Int.ofNat (b % 12)) by_ := by rw [hq]; rfl
    obtain ⟨S8, hS8⟩ : ∃ S, S = S7.put S3.next (some (.cells 27 (cQ q) true)) := ⟨_, rfl⟩
    have r8 : S8.mem.get S3.next = some (.cells 27 (cQ q) true) := by rw [hS8, put_get, if_pos rfl]
    have g8 : S8.mem.get S0.next = some (.cells 27 zQ true) := by rw [hS8, put_get, if_neg (by omega)]; exact g7
    have hw := w6.trans y8
    have hlo := hw.low.1
    have l2 : S2.low = st.next := by rw [hS2, hS1]; exact hl0
    refine ⟨_, S7, S8, S8.put S0.next (some (.cells 27 (cQ q) true)), q, y1, ?_, ?_, stW_whole (n := 3) g8 rfl rfl, ?_, ?_, ?_, by rw [hq]⟩
    · rw [stW_at r7 (cells_slT _ _) (show 0 < 3 by decide), hS8, hc]; rfl
    · rw [ldW_get r8]; exact part_whole rfl
    · rw [ldW_get (by rw [put_get, if_pos rfl])]; exact part_whole rfl
    · unfold Av.back
      rw [show (CR.ret (.cmp 2 0 (cQ q))).under st.next = true from fine_under _ _ (fine_agg (cQ_fine q)), bleT (by rw [put_low, hS8, put_low]; omega)]; rfl
    · rw [hq]
      exact ⟨fun x hx => (y2 x hx).imp id fun h => h.2, y3, y4, by show wL li ≤ 9; omega, ⟨_, rfl, Nat.mod_lt _ (by decide)⟩, hby⟩
  have bx : ∀ (tm : Tr V), X.ev tm (.t (pa 6)) = .cmp 2 0 (feedC f0 nilV nilV) → iBox 215 (.t (pa 6)) tm S1 = some (.ref 1 S1.next 0 0 0 false, S2) := fun tm h => by rw [m_box (cs := feedC f0 nilV nilV) (by rw [h]; rfl), hS2]
  have hnew : ∀ tm : Tr V, iAlloc 27 zQ tm S0 = some (.ref 1 S0.next 0 0 0 false, S1) := fun tm => by rw [hS1]; rfl
  have hfc : feedC f0 nilV nilV = [slT 4 l.length (cB l), .int 63 0, nilV, nilV, .int 63 0] := by rw [hf0]; rfl
  rw [hfc] at bx
  by_cases c : b2 % 2 = 0
  · have d : decide (b2 % 2 = 0) = true := decide_eq_true c
    obtain ⟨S6, hS6⟩ : ∃ S, S = S5.put S3.next (some (.cells 27 (row3 nilV (Int.ofNat (b % 12)) [107]) true)) := ⟨_, rfl⟩
    have s6 : stW 1 (.ref 1 S3.next 2 0 0 false) (.str [107]) S5 = some (.undef, S6) := by rw [stW_at r5 (cells_str _) (show 2 < 3 by decide), hS6]; rfl
    have n6 : S6.next = S5.next := by rw [hS6]; rfl
    obtain ⟨l', S7, S8, S9, q, u1, u2, u3, u4, u5, u6, u7, u8⟩ := rest S6 [107] _ (by rw [hS6]; exact w5.put n3 r5 ⟨by decide, by decide⟩ _) (by rw [hf0]) (by omega) (by rw [hS6, put_get, if_pos rfl]) (.inr rfl)
    refine ⟨q, u7, call ?_⟩
    simp only [c82_0, c82_1, c82_2, c82_3, c82_4, c82_5, c82_6, yY, iInt, iStr, iLenS, iLenL, iNot, iPick, iExt, if_true, if_false, reduceIte, Nat.reduceEqDiff, Nat.reduceAdd, reduceCtorEq, yQ, hnew, m_build, fillV_c, fillV_0, cells_slT, cells_int, cells_str, fillS_1, List.length_cons, List.length_nil, Nat.reduceLT, List.set_cons_zero, List.set_cons_succ, bx, k1, r12, al4, m_store, st4, j1, r2, f_eql, e0, d, m_fad, s6, u1, u2, m_load, u3, u4]
    rw [leave_mem (v := .cmp 2 0 (cQ q)) (by simp only [yL, if_true, if_false, reduceIte, Nat.reduceEqDiff, reduceCtorEq]; exact u5), u6]
  · have d : decide (b2 % 2 = 0) = false := decide_eq_false c
    obtain ⟨l', S7, S8, S9, q, u1, u2, u3, u4, u5, u6, u7, u8⟩ := rest S5 [] _ w5 (by rw [hf0]) (by omega) r5 (.inl rfl)
    refine ⟨q, u7, call ?_⟩
    simp only [c82_0, c82_1, c82_2, c82_3, c82_4, c82_5, c82_6, yY, iInt, iStr, iLenS, iLenL, iNot, iPick, iExt, if_true, if_false, reduceIte, Nat.reduceEqDiff, Nat.reduceAdd, reduceCtorEq, yQ, hnew, m_build, fillV_c, fillV_0, cells_slT, cells_int, cells_str, fillS_1, List.length_cons, List.length_nil, Nat.reduceLT, List.set_cons_zero, List.set_cons_succ, bx, k1, r12, al4, m_store, st4, j1, r2, f_eql, e0, d, m_fad, u1, u2, m_load, u3, u4]
    rw [leave_mem (v := .cmp 2 0 (cQ q)) (by simp only [yL, if_true, if_false, reduceIte, Nat.reduceEqDiff, reduceCtorEq]; exact u5), u6]
end
end Go.Proofs.YtnccejmggcjaoaaGreatDoor.Av
