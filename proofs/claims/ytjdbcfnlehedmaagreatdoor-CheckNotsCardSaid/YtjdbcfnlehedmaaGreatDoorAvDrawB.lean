/-
  REGIONS WHOSE ORDER IS OPEN, GONE ON: the trace of the order in which they are gone through; one operation.
-/
import Derived.Test.YtjdbcfnlehedmaaGreatDoorAvDraw
namespace Go.Proofs.YtjdbcfnlehedmaaGreatDoor.Av
set_option linter.unusedVariables false
set_option linter.unusedSimpArgs false
open Go Go.RowKit

/-! ### values compared -/
theorem sameV_nil (l : List V) : (V.rec (motive_1 := fun _ => V → Bool) (motive_2 := fun _ => List V → Bool)
    (fun k n u => u.onInt false (fun j m => Nat.beq j k && eqI m n))
    (fun s u => u.onStr false (fun t => eqS t s))
    (fun b u => u.onBool false (fun c => Bool.rec (Bool.rec true false c) c b))
    (fun t o i n c x u => V.rec (motive_1 := fun _ => Bool) (motive_2 := fun _ => Unit) (fun _ _ => false) (fun _ => false) (fun _ => false)
      (fun t' o' i' n' c' x' => Nat.beq t' t && (Nat.beq o' o && (Nat.beq i' i && (Nat.beq n' n && (Nat.beq c' c && Bool.rec (Bool.rec true false x') x' x))))) (fun _ _ _ _ => false) () (fun _ _ _ _ => ()) u)
    (fun t a _ ih u => u.onCmp false (fun t' a' l' => Nat.beq t' t && (Nat.beq a' a && ih l')))
    (fun l => List.rec true (fun _ _ _ => false) l)
    (fun _ _ ih ihs l => List.rec false (fun u us _ => ih u && ihs us) l) (.cmp 0 0 []) (.cmp 0 0 l) : Bool) = l.isEmpty := by cases l <;> rfl
theorem sameV_cmp0 (t a : Nat) (u : V) : sameV (.cmp t a []) u = u.onCmp false (fun t' a' l' => Nat.beq t' t && (Nat.beq a' a && List.rec true (fun _ _ _ => false) l')) := rfl
theorem sameV_int (k : Nat) (n : Int) (u : V) : sameV (.int k n) u = u.onInt false (fun j m => Nat.beq j k && eqI m n) := rfl
/-- The lists' part. -/
noncomputable def sameL (l : List V) : List V → Bool :=
  List.rec (motive := fun _ => List V → Bool) (fun l => List.rec true (fun _ _ _ => false) l) (fun v _ ihs l => List.rec false (fun u us _ => sameV v u && ihs us) l) l
theorem sameV_cmp (t a : Nat) (l : List V) (u : V) : sameV (.cmp t a l) u = u.onCmp false (fun t' a' l' => Nat.beq t' t && (Nat.beq a' a && sameL l l')) := by
  have key : ∀ l : List V, ∀ l', (sameV (.cmp 0 0 l) (.cmp 0 0 l')) = sameL l l' := by
    intro l
    induction l with
    | nil => intro l'; cases l' <;> rfl
    | cons v l ih =>
      intro l'
      cases l' with
      | nil => rfl
      | cons u us =>
        have h1 : sameV (.cmp 0 0 (v :: l)) (.cmp 0 0 (u :: us)) = (sameV v u && sameV (.cmp 0 0 l) (.cmp 0 0 us)) := rfl
        rw [h1, ih]; rfl
  cases u with
  | cmp t' a' l' =>
    show (Nat.beq t' t && (Nat.beq a' a && _)) = (Nat.beq t' t && (Nat.beq a' a && sameL l l'))
    congr 2
    exact key l l'
  | _ => rfl
mutual
theorem sameV_eq : ∀ {v u : V}, sameV v u = true → v = u
  | .int k n, u, h => by
    rw [sameV_int] at h
    cases u with
    | int j m =>
      have h' : (Nat.beq j k && eqI m n) = true := h
      rw [Bool.and_eq_true, eqI_eq] at h'
      rw [beq_iff.1 h'.1, of_decide_eq_true h'.2]
    | _ => exact nomatch h
  | .str s, u, h => by
    cases u with
    | str t =>
      have h' : eqS t s = true := h
      rw [eqS_eq] at h'
      rw [of_decide_eq_true h']
    | _ => exact nomatch h
  | .bool b, u, h => by
    cases u with
    | bool c => cases b <;> cases c <;> first | rfl | exact nomatch h
    | _ => exact nomatch h
  | .ref t o i n c x, u, h => by
    cases u with
    | ref t' o' i' n' c' x' =>
      have h' : (Nat.beq t' t && (Nat.beq o' o && (Nat.beq i' i && (Nat.beq n' n && (Nat.beq c' c && Bool.rec (Bool.rec true false x') x' x))))) = true := h
      simp only [Bool.and_eq_true] at h'
      obtain ⟨h1, h2, h3, h4, h5, h6⟩ := h'
      rw [beq_iff.1 h1, beq_iff.1 h2, beq_iff.1 h3, beq_iff.1 h4, beq_iff.1 h5]
      cases x <;> cases x' <;> first | rfl | exact nomatch h6
    | _ => exact nomatch h
  | .cmp t a l, u, h => by
    rw [sameV_cmp] at h
    cases u with
    | cmp t' a' l' =>
      have h' : (Nat.beq t' t && (Nat.beq a' a && sameL l l')) = true := h
      simp only [Bool.and_eq_true] at h'
      rw [beq_iff.1 h'.1, beq_iff.1 h'.2.1, sameL_eq h'.2.2]
    | _ => exact nomatch h
theorem sameL_eq : ∀ {l l' : List V}, sameL l l' = true → l = l'
  | [], [], _ => rfl
  | [], _ :: _, h => nomatch h
  | _ :: _, [], h => nomatch h
  | v :: l, u :: l', h => by
    have h' : (sameV v u && sameL l l') = true := h
    rw [Bool.and_eq_true] at h'
    rw [sameV_eq h'.1, sameL_eq h'.2]
end
theorem sees_some {v : V} {r : Option (CR × St)} (h : seesV v r = true) : ∃ s', r = some (.ret v, s') := by
  cases r with
  | none => exact nomatch h
  | some p =>
    obtain ⟨c, s⟩ := p
    cases c with
    | ret u =>
      have h' : sameV v u = true := h
      rw [sameV_eq h']; exact ⟨s, rfl⟩
    | pan u => exact nomatch h
theorem memN_iff (l : List Nat) (n : Nat) : memN l n = true ↔ n ∈ l := by
  induction l with
  | nil => exact ⟨fun h => (nomatch h), fun h => (nomatch h)⟩
  | cons x l ih =>
    have h1 : memN (x :: l) n = bif Nat.beq x n then true else memN l n := rfl
    rw [h1]
    by_cases e : x = n
    · rw [beqT e, e]
      exact ⟨fun _ => List.mem_cons_self .., fun _ => rfl⟩
    · rw [beqF e]
      exact ⟨fun h => List.mem_cons_of_mem _ (ih.1 h), fun h => ih.2 ((List.mem_cons.1 h).resolve_left (fun h => e h.symm))⟩
theorem seeAll_at {cs : List Nat} {s : St} : ∀ {rs : Rds}, seeAll cs rs s = true → ∀ r ∈ rs, r.1 ∈ cs → r.2 s = true
  | [], _, r, hr, _ => by simp at hr
  | q :: rs, h, r, hr, hc => by
    have h1 : seeAll cs (q :: rs) s = bif memN cs q.1 then q.2 s && seeAll cs rs s else seeAll cs rs s := rfl
    rw [h1] at h
    rcases List.mem_cons.1 hr with rfl | hr
    · rw [(memN_iff cs r.1).2 hc] at h
      simp only [cond_true, Bool.and_eq_true] at h
      exact h.1
    · refine seeAll_at (rs := rs) ?_ r hr hc
      cases hm : memN cs q.1 with
      | true => rw [hm] at h; simp only [cond_true, Bool.and_eq_true] at h; exact h.2
      | false => rw [hm] at h; exact h
/-! ### the trace -/
/-- One step that is gone on behind. -/
structure StepAt (call : Callee) (d : D) (tm : Tr V) (s : St) (rs : Rds) (v : V) (tm2 : Tr V) (s2 : St) (rs2 : Rds) : Prop where
  slot : tm2 = putT tm d.o.d v
  more : ∀ r ∈ rs, r ∈ rs2
  off : wantedV (pickT d.us tm) d.o.g = false → v = .undef ∧ s2 = s
  quiet : wantedV (pickT d.us tm) d.o.g = true → (d.m = 0 ∨ d.m = 1) → s2 = s ∧ ∃ s', oneV d.o.i.go call (pickT d.us tm) s = some (.ret v, s')
  remember : wantedV (pickT d.us tm) d.o.g = true → d.m = 1 → (d.id, fun s' => seesV v (oneV d.o.i.go call (pickT d.us tm) s')) ∈ rs2
  plain : wantedV (pickT d.us tm) d.o.g = true → d.m ≠ 0 → d.m ≠ 1 → d.m ≠ 3 → oneV d.o.i.go call (pickT d.us tm) s = some (.ret v, s2)
  checked : wantedV (pickT d.us tm) d.o.g = true → d.m = 3 → ∃ s', oneV d.o.i.go call (pickT d.us tm) s.fresh = some (.ret v, s') ∧ s2 = s.after s' ∧ (s.next ≤ s'.low ∨ seeAll d.cs rs s2 = true)
/-- One at which it panics. -/
def PanAt (call : Callee) (d : D) (tm : Tr V) (s : St) (v : V) (s' : St) : Prop :=
  wantedV (pickT d.us tm) d.o.g = true ∧ d.m ≠ 0 ∧ d.m ≠ 1 ∧ ((d.m = 3 ∧ ∃ s1, oneV d.o.i.go call (pickT d.us tm) s.fresh = some (.pan v, s1) ∧ s' = s.after s1) ∨ (d.m ≠ 3 ∧ oneV d.o.i.go call (pickT d.us tm) s = some (.pan v, s')))
theorem evD_cons (call : Callee) (d : D) (ds : List D) (tm : Tr V) (s : St) (rs : Rds) {r : DR} (h : evD (d :: ds) call tm s rs = some r) :
    (∃ v tm2 s2 rs2, StepAt call d tm s rs v tm2 s2 rs2 ∧ evD ds call tm2 s2 rs2 = some r) ∨ (∃ v s', r = .pan v s' ∧ PanAt call d tm s v s') := by
  have h' : (Bool.rec (Bool.rec (Bool.rec (stepL d.us d.o.d d.o.i.go d.o.g (evD ds)) (stepC d.cs d.us d.o.d d.o.i.go d.o.g (evD ds)) (Nat.beq d.m 3)) (stepQ d.id d.us d.o.d d.o.i.go d.o.g (evD ds)) (Nat.beq d.m 1)) (stepR d.us d.o.d d.o.i.go d.o.g (evD ds)) (Nat.beq d.m 0) : DK) call tm s rs = some r := h
  have hoff : wantedV (pickT d.us tm) d.o.g = false → evD ds call (putT tm d.o.d .undef) s rs = some r → ∃ v tm2 s2 rs2, StepAt call d tm s rs v tm2 s2 rs2 ∧ evD ds call tm2 s2 rs2 = some r := fun hw h3 =>
    ⟨.undef, _, _, _, ⟨rfl, fun _ h => h, fun _ => ⟨rfl, rfl⟩, fun hw' => (by rw [hw] at hw'; exact nomatch hw'), fun hw' => (by rw [hw] at hw'; exact nomatch hw'), fun hw' => (by rw [hw] at hw'; exact nomatch hw'), fun hw' => (by rw [hw] at hw'; exact nomatch hw')⟩, h3⟩
  by_cases h0 : d.m = 0
  · rw [beqT h0] at h'
    have h2 : (Bool.rec (evD ds call (putT tm d.o.d .undef) s rs)
      (Option.rec none (fun p => Prod.rec (fun c _ => CR.rec (fun v => evD ds call (putT tm d.o.d v) s rs) (fun _ => none) c) p) (oneV d.o.i.go call (pickT d.us tm) s)) (wantedV (pickT d.us tm) d.o.g) : Option DR) = some r := h'
    left
    cases hw : wantedV (pickT d.us tm) d.o.g with
    | false => rw [hw] at h2; exact hoff hw h2
    | true =>
      rw [hw] at h2
      obtain ⟨⟨c, s'⟩, h3, h4⟩ := orec_none h2
      cases c with
      | pan u => exact nomatch h4
      | ret u => exact ⟨u, _, _, _, ⟨rfl, fun _ h => h, fun hw' => (by rw [hw] at hw'; exact nomatch hw'), fun _ _ => ⟨rfl, s', h3⟩, fun _ h => absurd (h0.symm.trans h) (by decide), fun _ h => absurd h0 h, fun _ h => absurd (h0.symm.trans h) (by decide)⟩, h4⟩
  · rw [beqF h0] at h'
    by_cases h1 : d.m = 1
    · rw [beqT h1] at h'
      have h2 : (Bool.rec (evD ds call (putT tm d.o.d .undef) s rs)
        (Option.rec none (fun p => Prod.rec (fun c _ => CR.rec (fun v => evD ds call (putT tm d.o.d v) s ((d.id, fun s' => seesV v (oneV d.o.i.go call (pickT d.us tm) s')) :: rs)) (fun _ => none) c) p) (oneV d.o.i.go call (pickT d.us tm) s)) (wantedV (pickT d.us tm) d.o.g) : Option DR) = some r := h'
      left
      cases hw : wantedV (pickT d.us tm) d.o.g with
      | false => rw [hw] at h2; exact hoff hw h2
      | true =>
        rw [hw] at h2
        obtain ⟨⟨c, s'⟩, h3, h4⟩ := orec_none h2
        cases c with
        | pan u => exact nomatch h4
        | ret u => exact ⟨u, _, _, _, ⟨rfl, fun _ h => List.mem_cons_of_mem _ h, fun hw' => (by rw [hw] at hw'; exact nomatch hw'), fun _ _ => ⟨rfl, s', h3⟩, fun _ _ => List.mem_cons_self .., fun _ _ h => absurd h1 h, fun _ h => absurd (h1.symm.trans h) (by decide)⟩, h4⟩
    · rw [beqF h1] at h'
      by_cases h5 : d.m = 3
      · rw [beqT h5] at h'
        have h2 : (Bool.rec (evD ds call (putT tm d.o.d .undef) s rs)
          (Option.rec none (fun p => Prod.rec (fun c s' => CR.rec
            (fun v => bif Nat.ble s.next s'.low then evD ds call (putT tm d.o.d v) (s.after s') rs else bif seeAll d.cs rs (s.after s') then evD ds call (putT tm d.o.d v) (s.after s') rs else none)
            (fun v => some (.pan v (s.after s'))) c) p) (oneV d.o.i.go call (pickT d.us tm) s.fresh)) (wantedV (pickT d.us tm) d.o.g) : Option DR) = some r := h'
        cases hw : wantedV (pickT d.us tm) d.o.g with
        | false => rw [hw] at h2; exact .inl (hoff hw h2)
        | true =>
          rw [hw] at h2
          obtain ⟨⟨c, s'⟩, h3, h4⟩ := orec_none h2
          cases c with
          | pan u =>
            obtain rfl := Option.some.inj (show some (DR.pan u (s.after s')) = some r from h4)
            exact .inr ⟨u, _, rfl, hw, h0, h1, .inl ⟨h5, s', h3, rfl⟩⟩
          | ret u =>
            have h6 : (bif Nat.ble s.next s'.low then evD ds call (putT tm d.o.d u) (s.after s') rs else bif seeAll d.cs rs (s.after s') then evD ds call (putT tm d.o.d u) (s.after s') rs else none) = some r := h4
            left
            have fin : evD ds call (putT tm d.o.d u) (s.after s') rs = some r → (s.next ≤ s'.low ∨ seeAll d.cs rs (s.after s') = true) → ∃ v tm2 s2 rs2, StepAt call d tm s rs v tm2 s2 rs2 ∧ evD ds call tm2 s2 rs2 = some r := fun e1 e2 =>
              ⟨u, _, _, _, ⟨rfl, fun _ h => h, fun hw' => (by rw [hw] at hw'; exact nomatch hw'), fun _ h => absurd h (by omega), fun _ h => absurd h h1, fun _ _ _ h => absurd h5 h, fun _ _ => ⟨s', h3, rfl, e2⟩⟩, e1⟩
            cases hb : Nat.ble s.next s'.low with
            | true => rw [hb] at h6; exact fin h6 (.inl (ble_iff.1 hb))
            | false =>
              rw [hb] at h6
              have h7 : (bif seeAll d.cs rs (s.after s') then evD ds call (putT tm d.o.d u) (s.after s') rs else none) = some r := h6
              obtain ⟨h8, h9⟩ := bif_none h7
              exact fin h9 (.inr h8)
      · rw [beqF h5] at h'
        have h2 : (Bool.rec (evD ds call (putT tm d.o.d .undef) s rs)
          (Option.rec none (fun p => Prod.rec (fun c s' => CR.rec (fun v => evD ds call (putT tm d.o.d v) s' rs) (fun v => some (.pan v s')) c) p) (oneV d.o.i.go call (pickT d.us tm) s)) (wantedV (pickT d.us tm) d.o.g) : Option DR) = some r := h'
        cases hw : wantedV (pickT d.us tm) d.o.g with
        | false => rw [hw] at h2; exact .inl (hoff hw h2)
        | true =>
          rw [hw] at h2
          obtain ⟨⟨c, s'⟩, h3, h4⟩ := orec_none h2
          cases c with
          | pan u =>
            obtain rfl := Option.some.inj (show some (DR.pan u s') = some r from h4)
            exact .inr ⟨u, _, rfl, hw, h0, h1, .inr ⟨h5, h3⟩⟩
          | ret u =>
            exact .inl ⟨u, _, _, _, ⟨rfl, fun _ h => h, fun hw' => (by rw [hw] at hw'; exact nomatch hw'), fun _ h => absurd h (by omega), fun _ h => absurd h h1, fun _ _ _ _ => h3, fun _ h => absurd h h5⟩, h4⟩
/-- How it ends: behind all, or in a panic. -/
def Ends (call : Callee) (ds : List D) (r : DR) (N : Nat) (tm : Tr V) (s : St) : Prop :=
  (N = ds.length ∧ r = .nrm tm s) ∨ (∃ d v s', ds[N]? = some d ∧ r = .pan v s' ∧ PanAt call d tm s v s')
theorem trace (call : Callee) : ∀ (ds : List D) (tm : Tr V) (s : St) (rs : Rds) (r : DR), evD ds call tm s rs = some r →
    ∃ (N : Nat) (tmv : Nat → Tr V) (sv : Nat → St) (rv : Nat → Rds) (v : Nat → V), tmv 0 = tm ∧ sv 0 = s ∧ rv 0 = rs ∧ N ≤ ds.length ∧ Ends call ds r N (tmv N) (sv N) ∧
      ∀ p d, p < N → ds[p]? = some d → StepAt call d (tmv p) (sv p) (rv p) (v p) (tmv (p + 1)) (sv (p + 1)) (rv (p + 1))
  | [], tm, s, rs, r, h => by
    obtain rfl := Option.some.inj (show some (DR.nrm tm s) = some r from h)
    exact ⟨0, fun _ => tm, fun _ => s, fun _ => rs, fun _ => .undef, rfl, rfl, rfl, Nat.le_refl _, .inl ⟨rfl, rfl⟩, fun p d h => absurd h (Nat.not_lt_zero _)⟩
  | d :: ds, tm, s, rs, r, h => by
    rcases evD_cons call d ds tm s rs h with ⟨v, tm2, s2, rs2, h1, h2⟩ | ⟨v, s', rfl, h1⟩
    · obtain ⟨N, tmv, sv, rv, vs, h3, h4, h5, h6, h7, h8⟩ := trace call ds tm2 s2 rs2 r h2
      refine ⟨N + 1, fun i => Nat.casesOn i tm tmv, fun i => Nat.casesOn i s sv, fun i => Nat.casesOn i rs rv, fun i => Nat.casesOn i v vs, rfl, rfl, rfl, by simpa using h6, ?_, fun p d' hp hd => ?_⟩
      · rcases h7 with ⟨h9, h10⟩ | ⟨d', v', s', h9, h10, h11⟩
        · exact .inl ⟨by simp [h9], h10⟩
        · exact .inr ⟨d', v', s', by simpa using h9, h10, h11⟩
      · cases p with
        | zero =>
          obtain rfl : d = d' := by simpa using hd
          show StepAt call d tm s rs v (tmv 0) (sv 0) (rv 0)
          rw [h3, h4, h5]; exact h1
        | succ p => exact h8 p d' (by omega) (by simpa using hd)
    · exact ⟨0, fun _ => tm, fun _ => s, fun _ => rs, fun _ => .undef, rfl, rfl, rfl, Nat.zero_le _, .inr ⟨d, v, s', rfl, rfl, h1⟩, fun p d h => absurd h (Nat.not_lt_zero _)⟩
/-! ### the slots that are looked at -/
theorem at_pickT : ∀ (us : List Pa) (tm : Tr V) (p : Pa), (p ∈ us → (pickT us tm).at p = tm.at p) ∧ (p ∉ us → (pickT us tm).at p = none)
  | [], tm, p => ⟨fun h => by simp at h, fun _ => at_leaf p⟩
  | q :: us, tm, p => by
    have h : pickT (q :: us) tm = (pickT us tm).to q (tm.at q) := rfl
    rw [h]
    by_cases e : q = p
    · subst e
      exact ⟨fun _ => at_to_same _ _ _, fun h => absurd (List.mem_cons_self ..) h⟩
    · rw [at_to_ne _ _ e]
      obtain ⟨h1, h2⟩ := at_pickT us tm p
      refine ⟨fun h => h1 ?_, fun h => h2 fun h' => h (List.mem_cons_of_mem _ h')⟩
      rcases List.mem_cons.1 h with h | h
      · exact absurd h.symm e
      · exact h
/-- The same with all other slots empty. -/
def Act.only (a : Act) (l : List Tmp) : Act := { tmps := a.tmps.mapIdx fun t v => if t ∈ l then v else Go.undef, defers := a.defers }
theorem only_in (a : Act) {l : List Tmp} {t : Nat} (h : t ∈ l) : (Act.only a l).tmps[t]? = a.tmps[t]? := by
  unfold Act.only
  rw [Array.getElem?_mapIdx]
  cases a.tmps[t]? with
  | none => rfl
  | some v => simp [h]
theorem only_out (a : Act) {l : List Tmp} {t : Nat} (h : t ∉ l) : (Act.only a l).tmps.getD t Go.undef = Go.undef := by
  unfold Act.only
  rw [Array.getD_eq_getD_getElem?, Array.getElem?_mapIdx]
  cases a.tmps[t]? with
  | none => rfl
  | some v => simp [h]
theorem only_exec {ops : Array Oper} {o : Oper} (a : Act) (hs : ∀ cs b, o.op ≠ .select cs b) : execOp a.eval o = execOp (Act.only a (o.looksAt ops)).eval o :=
  execOp_congr o hs fun x hx => by
    cases x with
    | tmp t =>
      have ht : t ∈ o.looksAt ops := List.mem_append_left _ (List.mem_filterMap.2 ⟨.tmp t, by simpa using hx, rfl⟩)
      simp only [Act.eval, Array.getD_eq_getD_getElem?, only_in a ht]
    | _ => rfl
theorem only_wanted {ops : Array Oper} {o : Oper} (a : Act) : Region.wanted o (yielded ops a.tmps) = Region.wanted o (yielded ops (Act.only a (o.looksAt ops)).tmps) := by
  unfold Region.wanted
  cases hg : o.guard with
  | none => rfl
  | some gw =>
    obtain ⟨g, want⟩ := gw
    have hy : yielded ops a.tmps g = yielded ops (Act.only a (o.looksAt ops)).tmps g := by
      unfold yielded
      cases ht : (ops[g]?).bind (·.dst) with
      | none => rfl
      | some t =>
        have hin : t ∈ o.looksAt ops := by simp [Oper.looksAt, hg, ht]
        simp only [Option.bind_some, only_in a hin]
    simp only [hy]
theorem only_tms {ρ : Map} {n nt : Nat} {tm : Tr V} {a : Act} {l : List Tmp} (hs : nt ≤ a.tmps.size) (h : ∀ t, t ∈ l → VR ρ n ((tm.at (pa t)).getD .undef) (a.tmps.getD t Go.undef)) : TmR ρ n nt (pickT (l.map pa) tm) (Act.only a l).tmps := by
  refine ⟨by unfold Act.only; simpa using hs, fun i => ?_⟩
  by_cases hi : i ∈ l
  · rw [(at_pickT _ tm (pa i)).1 (List.mem_map_of_mem hi), Array.getD_eq_getD_getElem?, only_in a hi, ← Array.getD_eq_getD_getElem?]
    exact h i hi
  · rw [(at_pickT _ tm (pa i)).2 (fun h' => by
      obtain ⟨j, h1, h2⟩ := List.mem_map.1 h'
      exact hi (by rw [← pa_inj h2]; exact h1)), only_out a hi]
    exact .tup [] [] .nil
/-! ### one operation -/
section
variable {P : Program} {base nt : Nat} {call : Callee} {ρ : Map} {st : St} {w : World} {tm : Tr V} {a b : Act} {o : Oper} {Q : Exit → Act → World → Prop} {next : Act → World → Prop}
theorem oneR_put {v : V} {c : CR} {s s' : St} (h : oneR (some (Ex.nrm, putT tm (some .h) v, s)) = some (c, s')) : c = .ret v ∧ s = s' := by
  have h2 : (Option.rec none (fun v => some (CR.ret v, s)) ((tm.to .h (some v)).at .h) : Option (CR × St)) = some (c, s') := h
  rw [at_to_same] at h2
  obtain ⟨h3, h4⟩ := Prod.mk.inj (Option.some.inj h2)
  exact ⟨h3.symm, h4⟩
theorem oneV_pure {i : I} {f : Tr V → St → Option V} (hg : i.go = gP f) {c : CR} {s s' : St} (h : oneV i.go call tm s = some (c, s')) : ∃ v, c = .ret v ∧ f tm s = some v ∧ s' = s := by
  rw [hg] at h
  have h' : oneR (Option.rec none (fun v => some (Ex.nrm, putT tm (some .h) v, s)) (f tm s)) = some (c, s') := h
  cases hf : f tm s with
  | none => rw [hf] at h'; exact nomatch h'
  | some u =>
    rw [hf] at h'
    obtain ⟨h1, h2⟩ := oneR_put h'
    exact ⟨u, h1, rfl, h2.symm⟩
theorem oneV_of_pure {i : I} {f : Tr V → St → Option V} (hg : i.go = gP f) {v : V} {s : St} (h : f tm s = some v) : oneV i.go call tm s = some (.ret v, s) := by
  rw [hg]
  show oneR (Option.rec none (fun v => some (Ex.nrm, putT tm (some .h) v, s)) (f tm s)) = _
  rw [h]
  show (Option.rec none (fun v => some (CR.ret v, s)) ((tm.to .h (some v)).at .h) : Option (CR × St)) = _
  rw [at_to_same]
theorem oneV_loud {i : I} {f : Tr V → St → Ev} (hg : i.go = gE f) {c : CR} {s s' : St} (h : oneV i.go call tm s = some (c, s')) : ∃ v, c = .ret v ∧ f tm s = some (v, s') := by
  rw [hg] at h
  have h' : oneR (Option.rec none (fun p => Prod.rec (fun v st' => some (Ex.nrm, putT tm (some .h) v, st')) p) (f tm s)) = some (c, s') := h
  cases hf : f tm s with
  | none => rw [hf] at h'; exact nomatch h'
  | some p =>
    obtain ⟨u, s1⟩ := p
    rw [hf] at h'
    obtain ⟨h1, h2⟩ := oneR_put (show oneR (some (Ex.nrm, putT tm (some .h) u, s1)) = some (c, s') from h')
    exact ⟨u, h1, by rw [h2]⟩
/-- What a single operation comes to: at slots of b, that the operation does not tell from those of a. -/
theorem one_sound (hc : CallOk P call) {i : I} (hcl : Cls P o i) (c : Ctx P base ρ st w nt tm b) (hb : base ≤ w.heap.size) (he : execOp a.eval o = execOp b.eval o) {r : CR} {st' : St} (h : oneV i.go call tm st = some (r, st'))
    (hn : ∀ v v' ρ' w', r = .ret v → Now P base ρ st w ρ' st' w' → VR ρ' st'.next v v' → next (a.put o.dst v') w')
    (hp : ∀ v v' ρ' w', r = .pan v → Now P base ρ st w ρ' st' w' → VR ρ' st'.next v v' → Q (.panic [{ v := v', recovered := false }]) a w') : o.wp P a w next Q := by
  cases hcl with
  | pure _ f hg hf =>
    obtain ⟨v, rfl, h1, rfl⟩ := oneV_pure hg h
    obtain ⟨v', h2, h3⟩ := hf c h1
    unfold Oper.wp
    rw [he, h2]
    exact hn v v' ρ w rfl (Now.refl c.rel) h3
  | loud _ f hk hg hf =>
    obtain ⟨v, rfl, h1⟩ := oneV_loud hg h
    obtain ⟨v', w', ρ', h1, h2, h3, h4, h5, h6, h7⟩ := hf c hb h1
    unfold Oper.wp
    rw [he]
    rcases h1 with h1 | ⟨h1, rfl⟩
    · rw [h1]; exact hn v v' ρ' w' rfl ⟨h2, h4, h5, h6, h7⟩ h3
    · rw [h1]; exact hn v _ ρ' w' rfl ⟨h2, h4, h5, h6, h7⟩ h3
  | call f ys cl ho hcl hys =>
    have h' : oneR (goR (some .h) endG call tm (call f (X.evs tm ys) st)) = some (r, st') := h
    cases hr : call f (X.evs tm ys) st with
    | none => rw [hr] at h'; exact nomatch h'
    | some p =>
      obtain ⟨c', s1⟩ := p
      rw [hr] at h'
      have h2 : c' = r ∧ s1 = st' := by
        cases c' with
        | pan u => exact Prod.mk.inj (Option.some.inj (show some (CR.pan u, s1) = some (r, st') from h'))
        | ret u => obtain ⟨e1, e2⟩ := oneR_put (show oneR (some (Ex.nrm, putT tm (some .h) u, s1)) = some (r, st') from h'); exact ⟨e1.symm, e2⟩
      obtain ⟨rfl, rfl⟩ := h2
      have hvs : VRs ρ st.next (X.evs tm ys) (cl.args.map b.eval).toList := by rw [Array.toList_map]; exact c.opds hys
      have hcalls := hc hr c.rel hb hvs
      exact upon_call (by rw [he]; exact exec_call ho hcl) c.rel hcalls (fun h => run_callFunc h _) hn hp
  | dyn y z ys cl ho hcl hz hys =>
    have h' : oneR (goR (some .h) endG call tm (dynV call (X.evs tm ys) st (y.ev tm))) = some (r, st') := h
    cases hr : dynV call (X.evs tm ys) st (y.ev tm) with
    | none => rw [hr] at h'; exact nomatch h'
    | some p =>
      obtain ⟨c', s1⟩ := p
      rw [hr] at h'
      have h2 : c' = r ∧ s1 = st' := by
        cases c' with
        | pan u => exact Prod.mk.inj (Option.some.inj (show some (CR.pan u, s1) = some (r, st') from h'))
        | ret u => obtain ⟨e1, e2⟩ := oneR_put (show oneR (some (Ex.nrm, putT tm (some .h) u, s1)) = some (r, st') from h'); exact ⟨e1.symm, e2⟩
      obtain ⟨rfl, rfl⟩ := h2
      obtain ⟨f, cs, hf, hv2⟩ := onFunc_some hr
      have hz' := c.opd hz
      rw [hf] at hz'
      obtain ⟨cs', hz2, hcs⟩ := hz'.func_inv
      rw [appL_eq] at hv2
      have hvs : VRs ρ st.next (X.evs tm ys ++ cs) ((cl.args.map b.eval).toList ++ cs') := by rw [Array.toList_map]; exact (c.opds hys).append hcs
      have hcalls := hc hv2 c.rel hb hvs
      have harr : ((cl.args.map b.eval).toList ++ cs').toArray = cl.args.map b.eval ++ cs'.toArray := by apply Array.toList_inj.1; simp
      rw [harr] at hcalls
      exact upon_call (by rw [he]; exact exec_dyn ho hcl hz2) c.rel hcalls (fun h => run_callFunc h _) hn hp
  | panic y z ho hz =>
    have h' : oneR ((y.ev tm).onIface none none (fun t v => some (Ex.pan (.iface t v), tm, st))) = some (r, st') := h
    cases hr : (y.ev tm).onIface none none (fun t v => some (Ex.pan (.iface t v), tm, st)) with
    | none => rw [hr] at h'; exact nomatch h'
    | some p =>
      rcases onIface_some hr with ⟨_, _, _, _, _, _, h0⟩ | ⟨t, u, l', hv, h2⟩
      · exact nomatch h0
      · obtain rfl := Option.some.inj h2
        rw [hr] at h'
        obtain ⟨rfl, rfl⟩ := Prod.mk.inj (Option.some.inj (show some (CR.pan (.iface t u), st) = some (r, st') from h'))
        have hz' := c.opd hz
        rw [hv] at hz'
        obtain ⟨u', hz2, hu⟩ := hz'.iface_inv
        unfold Oper.wp
        have : (execOp a.eval o).run P w = .halt (.panic (.iface t u')) w := by
          rw [he]
          simp [execOp, ho, hz2, Instr.panic]
        rw [this]
        exact hp _ _ ρ w rfl (Now.refl c.rel) (.iface t u u' hu)
theorem not_select {i : I} (h : compOp P o = some i) : ∀ cs b, o.op ≠ .select cs b := by
  intro cs b ho
  unfold compOp at h
  rw [ho] at h
  exact nomatch h
end
end Go.Proofs.YtjdbcfnlehedmaaGreatDoor.Av
