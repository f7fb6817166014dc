/-
  REGIONS WHOSE ORDER IS OPEN: sound.
-/
import Derived.Test.YtjdbcfnlehedmaaGreatDoorAvDrawD
namespace Go.Proofs.YtjdbcfnlehedmaaGreatDoor.Av
set_option linter.unusedVariables false
set_option linter.unusedSimpArgs false
open Go Go.RowKit

section
variable {P : Program} {base nt : Nat} {dl : List Deferred} {call : Callee} {ops : Array Oper} {os : List O} {ks π : List Nat} {tm0 : Tr V} {st0 : St} {N : Nat} {S : Nat → St} {v : Nat → V} {tmv : Nat → Tr V} {ρ0 : Map} {w0 : World} {res : DR}
variable {D : Nat → Bool} {q : Nat} {ρ : Map} {a : Act} {w : World} {Q : Exit → Act → World → Prop} {K : Act → World → Prop}
theorem after_low (s s' : St) : (s.after s').low = min s.low s'.low := by
  show (bif Nat.ble s.low s'.low then s.low else s'.low) = _
  by_cases h : s.low ≤ s'.low
  · rw [bleT h]; simp; omega
  · rw [bleF h]; simp; omega
/-- From a run with a fresh mark. -/
theorem now_after {ρ1 : Map} {s s' : St} {w1 : World} (h : Now P base ρ s.fresh w ρ1 s' w1) : Now P base ρ s w ρ1 (s.after s') w1 :=
  ⟨h.ext, h.rel.low _, ⟨h.turn.next, by rw [after_low]; omega, fun o ho hl => h.turn.mem o ho (by rw [after_low] at hl; omega)⟩, h.below, h.dead⟩
theorem sub_after {ρ1 : Map} {s s' : St} {w1 : World} (hrel : Rel P base ρ s w) (h : Now P base ρ s.fresh w ρ1 s' w1) (hl : s.next ≤ s'.low) : Sub s (s.after s') := fun o b hb => by
  have h1 := (hrel.obj o b hb).1
  show s'.mem.get o = some b
  rw [h.turn.mem o h1 (by omega)]; exact hb
/-- Behind what turned memory. -/
theorem InvW.turned (hf : Facts ops ks (pres ops.toList []) π) (inv : InvW P base call ops os ks (pres ops.toList []) π st0 N S v tmv ρ0 w0 D q ρ w) {i : Nat} {o : Oper} (hqN : q < N) (hq : π[q]? = some i) (ho : ops[i]? = some o) (hk : ks.getD i 0 = 2) (hr : ∀ j, EdgeTo o j → D j = true)
    {ρ1 : Map} {w1 : World} (hn : Now P base ρ (S q) w ρ1 (S (q + 1)) w1)
    (hl : (∀ (r k : Nat), r < q → π[r]? = some k → ks.getD k 0 = 1 → Bit (pres ops.toList []) i k) ∨ Sub (S q) (S (q + 1)) ∨ ∀ (r k : Nat) xk ok, r < q → π[r]? = some k → ops[k]? = some ok → os[k]? = some xk → ks.getD k 0 = 1 → ¬ Bit (pres ops.toList []) i k → Wants ops xk ok (tmv r) = true → Sees call ops xk ok (tmv r) (v r) (S (q + 1))) :
    InvW P base call ops os ks (pres ops.toList []) π st0 N S v tmv ρ0 w0 (fun k => D k || k == i) (q + 1) ρ1 w1 := by
  have hor : ∀ k, (D k || k == i) = false → D k = false := fun k h => by rw [Bool.or_eq_false_iff] at h; exact h.1
  have hnx := hn.turn.next
  refine ⟨by omega, fun r k hrq hrk => ?_, fun r k hrq hrk hk2 => ?_, fun k ok hok hk j hj => ?_, inv.start.trans hn, fun p p' h5 h6 => ?_, fun r k x ok hrq hrk hok hx hk4 hDk hw => ?_, fun r k x ok hrq hrk hok hx hk1 hDk hw => ?_⟩
  · have h1 := inv.early r k (by omega) hrk
    have h2 : k ≠ i := fun e => by subst e; have := inj_at hf hrk hq; omega
    rw [h1]; simpa using h2
  · by_cases e : r = q
    · subst e
      obtain rfl := Option.some.inj (hq.symm.trans hrk)
      simp
    · rw [inv.hard r k (by omega) hrk hk2]; rfl
  · rw [Bool.or_eq_true] at hk ⊢
    left
    rcases hk with hk | hk
    · exact inv.closed k ok hok hk j hj
    · obtain rfl : k = i := by simpa using hk
      obtain rfl := Option.some.inj (ho.symm.trans hok)
      exact hr j hj
  · by_cases e : p' = q + 1
    · subst e
      by_cases e2 : p = q + 1
      · rw [e2]; exact Nat.le_refl _
      · have := inv.mono p q (by omega) (Nat.le_refl _); omega
    · exact inv.mono p p' h5 (by omega)
  · have hrq' : r ≠ q := fun e => by subst e; obtain rfl := Option.some.inj (hq.symm.trans hrk); omega
    obtain ⟨h1, h2, h3⟩ := inv.ghost r k x ok (by omega) hrk hok hx hk4 (hor k hDk) hw
    have h4 := inv.mono (r + 1) q (by omega) (Nat.le_refl _)
    obtain ⟨h5, h6⟩ := hn.dead _ (by omega) h1
    exact ⟨h5, h2, h6.trans h3⟩
  · have hrq' : r ≠ q := fun e => by subst e; obtain rfl := Option.some.inj (hq.symm.trans hrk); omega
    obtain ⟨T, h1, h2⟩ := inv.read r k x ok (by omega) hrk hok hx hk1 (hor k hDk) hw
    have hnb : ¬ Bit (pres ops.toList []) i k := fun hb => by
      have := bit_closed hf inv.closed i o k ho hr hb
      rw [hor k hDk] at this; exact nomatch this
    rcases hl with hl | hl | hl
    · exact absurd (hl r k (by omega) hrk hk1) hnb
    · exact ⟨T, h1.trans hl, h2⟩
    · exact ⟨_, Sub.refl _, hl r k x ok (by omega) hrk hok hx hk1 hnb hw⟩
/-- What makes one object, late. -/
theorem InvW.made (hz : S 0 = st0) (hf : Facts ops ks (pres ops.toList []) π) (inv : InvW P base call ops os ks (pres ops.toList []) π st0 N S v tmv ρ0 w0 D q ρ w) (hb : base ≤ w.heap.size) {p i : Nat} {x : O} {o : Oper} (hpq : p < q) (hp : π[p]? = some i) (ho : ops[i]? = some o) (hx : os[i]? = some x) (hk : ks.getD i 0 = 4) (hD : D i = false) (hr : ∀ j, EdgeTo o j → D j = true)
    (hw : Wants ops x o (tmv p) = true) {y : Obj} {pl : Pl} {b : Ob} (hg : (S (p + 1)).mem.get (S p).next = some b) (hpl : pl.b = w.heap.size) (hOR : OR P ρ (S q).next { w with heap := w.heap.push y } pl b) :
    InvW P base call ops os ks (pres ops.toList []) π st0 N S v tmv ρ0 w0 (fun k => D k || k == i) q (ρ.new (S p).next pl) { w with heap := w.heap.push y } ∧ Ext ρ (ρ.new (S p).next pl) (S q).next ∧ (S p).next < (S q).next := by
  have hor : ∀ k, (D k || k == i) = false → D k = false := fun k h => by rw [Bool.or_eq_false_iff] at h; exact h.1
  obtain ⟨h1, h2, h3⟩ := inv.ghost p i x o hpq hp ho hx hk hD hw
  have h4 := inv.mono (p + 1) q (by omega) (Nat.le_refl _)
  have hlt : (S p).next < (S q).next := by omega
  have hext : Ext ρ (ρ.new (S p).next pl) (S q).next := fun o' _ hl => Map.new_ne _ _ fun e => by rw [e, h1] at hl; exact nomatch hl
  have inv' := inv.done hf hpq hp ho hr
  refine ⟨⟨inv'.le, inv'.early, inv'.hard, inv'.closed, ?_, inv'.mono, fun r k x' ok hrq hrk hok hx' hk4 hDk hw' => ?_, inv'.read⟩, hext, hlt⟩
  · have hrel := inv.start.rel.alive hb hlt h1 (h3.trans hg) hpl hOR
    refine ⟨fun o' ho' hl => ?_, hrel, inv.start.turn, inv.start.below.trans (below_push hb y), fun o' ho' hd => ?_⟩
    · have e := inv.start.ext o' ho' hl
      rw [← e]
      exact hext o' (Nat.lt_of_lt_of_le ho' inv.start.turn.next) (by rw [e]; exact hl)
    · obtain ⟨e1, e2⟩ := inv.start.dead o' ho' hd
      refine ⟨?_, e2⟩
      by_cases e : o' = (S p).next
      · have := inv.mono 0 p (Nat.zero_le _) (by omega)
        rw [hz] at this
        omega
      · rw [Map.new_ne _ _ e]; exact e1
  · have hne : k ≠ i := fun e => by subst e; simp at hDk
    have hrp : r ≠ p := fun e => hne (by subst e; exact Option.some.inj (hrk.symm.trans hp))
    obtain ⟨e1, e2, e3⟩ := inv.ghost r k x' ok hrq hrk hok hx' hk4 (hor k hDk) hw'
    have hnn : (S r).next ≠ (S p).next := fun e => by
      rcases Nat.lt_or_ge r p with h | h
      · have := inv.mono (r + 1) p (by omega) (by omega); omega
      · have := inv.mono (p + 1) r (by omega) (by omega); omega
    exact ⟨by rw [Map.new_ne _ _ hnn]; exact e1, e2, e3⟩
/-- One operation. -/
theorem draw_step (hc : CallOk P call) (hos : compOs P nt ops ops.toList = some os) (hks : ks = os.map fun x => kindI x.i) (hf : Facts ops ks (pres ops.toList []) π) (hb0 : base ≤ w0.heap.size)
    (R : Ran call ops os ks (pres ops.toList []) π tm0 st0 N S v tmv) (hE : RanEnds call ops os ks π res N S tmv)
    (iw : InvW P base call ops os ks (pres ops.toList []) π st0 N S v tmv ρ0 w0 D q ρ w) (is : InvS ops nt dl π tm0 v D ρ (S q).next a)
    {i : Nat} {o : Oper} (ho : ops[i]? = some o) (hD : D i = false) (hr : ∀ j, EdgeTo o j → D j = true)
    (hK : ∀ q' ρ' a' w', InvW P base call ops os ks (pres ops.toList []) π st0 N S v tmv ρ0 w0 (fun k => D k || k == i) q' ρ' w' → InvS ops nt dl π tm0 v (fun k => D k || k == i) ρ' (S q').next a' → K a' w')
    (hP : ∀ u s' ρ' u' w', res = .pan u s' → Now P base ρ0 st0 w0 ρ' s' w' → VR ρ' s'.next u u' → InvS ops nt dl π tm0 v D ρ' s'.next a → Q (.panic [{ v := u', recovered := false }]) a w') : wpOp P ops Q i K a w := by
  have hi := (Array.getElem?_eq_some_iff.1 ho).1
  obtain ⟨p, hp⟩ := hf.cover i hi
  have hpl := lt_of_at hp
  obtain ⟨x, hx, hcx⟩ := (compOs_at hos).2 i o (by simpa using ho)
  obtain ⟨hdn, hxd, hxi, hg⟩ := compO_inv hcx
  have hkx : ks.getD i 0 = kindI x.i := by rw [hks, List.getD_eq_getElem?_getD, List.getElem?_map, hx]; rfl
  have hk3 : kindI x.i ≠ 3 := by
    have := hf.kind i hi
    rw [hks, List.getD_eq_getElem?_getD, List.getElem?_map, hx] at this
    exact this
  obtain ⟨i0, hi0⟩ : ∃ i0, compOp P o = some i0 := by
    cases hcp : compOp P o with
    | none => rw [hcp] at hxi; rw [hxi] at hk3; exact absurd rfl hk3
    | some i0 => exact ⟨i0, rfl⟩
  have hcl : Cls P o x.i := by
    rw [hi0] at hxi
    rw [show x.i = i0 from hxi]
    exact cls hi0
  have hsel := not_select hi0
  have hexec := only_exec (ops := ops) a hsel
  have hnoh : ∀ (r k : Nat), q ≤ r → r < p → π[r]? = some k → ks.getD k 0 ≠ 2 := fun r k hqr hrp hrk hk2 => by
    have hkl := hf.range r k hrk
    rcases (hf.pair r p k i _ o hrp hrk hp (Array.getElem?_eq_getElem hkl) ho).2 with hb | ⟨h1, _⟩
    · have := bit_closed hf iw.closed i o k ho hr hb
      rw [iw.early r k hqr hrk] at this; exact nomatch this
    · exact h1 hk2
  have hpN : p ≤ N := by
    rcases Nat.lt_or_ge N p with h | h
    · exfalso
      rcases hE with ⟨e, _⟩ | ⟨k, xk, ok, u, s', e1, _, _, _, e5, _⟩
      · omega
      · exact hnoh N k iw.le h e1 e5
    · exact h
  by_cases hk2 : ks.getD i 0 = 2
  · -- it turns memory
    have hqp : q ≤ p := by
      rcases Nat.lt_or_ge p q with h | h
      · have := iw.hard p i h hp hk2
        rw [hD] at this; exact nomatch this
      · exact h
    obtain ⟨ρ1, iw1, he1, hn1⟩ := InvW.reach hos hks hf R (p - q) q ρ iw (by omega) fun r k h1 h2 h3 => hnoh r k h1 (by omega) h3
    rw [show q + (p - q) = p by omega] at iw1 hn1
    have is1 := is.mono he1 hn1
    have hb : base ≤ w.heap.size := size_le hb0 iw1.start.below
    have hslots : TmR ρ1 (S p).next nt (pickT ((o.looksAt ops).map pa) (tmv p)) (Act.only a (o.looksAt ops)).tmps :=
      only_tms is1.size fun t ht => is1.slots hos hf R iw1.closed hpN hp ho hD hr ht
    have hwant : Region.wanted o (yielded ops a.tmps) = Wants ops x o (tmv p) := by
      rw [only_wanted a]; exact wanted_eq hslots hg
    unfold wpOp
    simp only [ho]
    rw [hwant]
    have hnext : p < N → ∀ {ρ2 : Map} {w2 : World} {v2 : Value}, Now P base ρ1 (S p) w ρ2 (S (p + 1)) w2 → ((∀ (r k : Nat), r < p → π[r]? = some k → ks.getD k 0 = 1 → Bit (pres ops.toList []) i k) ∨ Sub (S p) (S (p + 1)) ∨
        ∀ (r k : Nat) xk ok, r < p → π[r]? = some k → ops[k]? = some ok → os[k]? = some xk → ks.getD k 0 = 1 → ¬ Bit (pres ops.toList []) i k → Wants ops xk ok (tmv r) = true → Sees call ops xk ok (tmv r) (v r) (S (p + 1))) →
        VR ρ2 (S (p + 1)).next (v p) v2 → K (a.put o.dst v2) w2 := fun hlt ρ2 w2 v2 hn hl hv =>
      hK (p + 1) ρ2 _ w2 (iw1.turned hf hlt hp ho hk2 hr hn hl) ((is1.mono hn.ext hn.turn.next).put hf iw1.closed hp ho hdn hD hv)
    cases hw : Wants ops x o (tmv p) with
    | false =>
      simp only [Bool.false_eq_true, if_false]
      rcases Nat.lt_or_ge p N with hlt | hge
      · obtain ⟨h1, h2⟩ := R.off p i x o hlt hp ho hx hw
        refine hnext hlt (by rw [h2]; exact Now.refl iw1.start.rel) (.inr (.inl (by rw [h2]; exact Sub.refl _))) ?_
        rw [h1]
        exact .tup [] [] .nil
      · exfalso
        obtain rfl : p = N := by omega
        rcases hE with ⟨e, _⟩ | ⟨k, xk, ok, u, s', e1, e2, e3, _, _, e6, _⟩
        · omega
        · obtain rfl := Option.some.inj (hp.symm.trans e1)
          obtain rfl := Option.some.inj (ho.symm.trans e2)
          obtain rfl := Option.some.inj (hx.symm.trans e3)
          rw [hw] at e6; exact nomatch e6
    | true =>
      simp only [if_true]
      left
      rcases Nat.lt_or_ge p N with hlt | hge
      · rcases R.hard p i x o hlt hp ho hx hk2 hw with ⟨h1, h2⟩ | ⟨s', h1, h2, h3⟩
        · refine one_sound hc hcl (b := Act.only a (o.looksAt ops)) ⟨iw1.start.rel, hslots⟩ hb hexec h1 (fun v0 v' ρ' w' e hn hv => ?_) fun v0 v' ρ' w' e _ _ => nomatch e
          obtain rfl : v p = v0 := by injection e
          exact hnext hlt hn (.inl h2) hv
        · refine one_sound hc hcl (b := Act.only a (o.looksAt ops)) (st := (S p).fresh) ⟨iw1.start.rel.low _, hslots⟩ hb hexec h1 (fun v0 v' ρ' w' e hn hv => ?_) fun v0 v' ρ' w' e _ _ => nomatch e
          obtain rfl : v p = v0 := by injection e
          have hn2 := now_after hn
          rw [← h2] at hn2
          refine hnext hlt hn2 ?_ (by rw [h2]; exact hv)
          rcases h3 with h3 | h3
          · exact .inr (.inl (by rw [h2]; exact sub_after iw1.start.rel hn h3))
          · exact .inr (.inr h3)
      · obtain rfl : p = N := by omega
        rcases hE with ⟨e, _⟩ | ⟨k, xk, ok, u, s', e1, e2, e3, e4, _, _, e7⟩
        · omega
        · obtain rfl := Option.some.inj (hp.symm.trans e1)
          obtain rfl := Option.some.inj (ho.symm.trans e2)
          obtain rfl := Option.some.inj (hx.symm.trans e3)
          rcases e7 with h1 | ⟨s1, h1, rfl⟩
          · refine one_sound hc hcl (b := Act.only a (o.looksAt ops)) ⟨iw1.start.rel, hslots⟩ hb hexec h1 (fun v0 v' ρ' w' e _ _ => nomatch e) fun v0 v' ρ' w' e hn hv => ?_
            obtain rfl : u = v0 := by injection e
            exact hP u _ ρ' v' w' e4 (iw1.start.trans hn) hv (is1.mono hn.ext hn.turn.next)
          · refine one_sound hc hcl (b := Act.only a (o.looksAt ops)) (st := (S p).fresh) ⟨iw1.start.rel.low _, hslots⟩ hb hexec h1 (fun v0 v' ρ' w' e _ _ => nomatch e) fun v0 v' ρ' w' e hn hv => ?_
            obtain rfl : u = v0 := by injection e
            exact hP u _ ρ' v' w' e4 (iw1.start.trans (now_after hn)) hv (is1.mono hn.ext hn.turn.next)
  · -- it turns nothing that there is
    have hpN' : p < N := by
      rcases Nat.lt_or_ge p N with h | h
      · exact h
      · exfalso
        obtain rfl : p = N := by omega
        rcases hE with ⟨e, _⟩ | ⟨k, xk, ok, u, s', e1, _, _, _, e5, _⟩
        · omega
        · obtain rfl := Option.some.inj (hp.symm.trans e1)
          exact hk2 e5
    obtain ⟨q', ρ1, hpq, iw1, he1, hn1⟩ : ∃ q' ρ1, p < q' ∧ InvW P base call ops os ks (pres ops.toList []) π st0 N S v tmv ρ0 w0 D q' ρ1 w ∧ Ext ρ ρ1 (S q).next ∧ (S q).next ≤ (S q').next := by
      rcases Nat.lt_or_ge p q with h | h
      · exact ⟨q, ρ, h, iw, Ext.refl _ _, Nat.le_refl _⟩
      · obtain ⟨ρ1, h1, h2, h3⟩ := InvW.reach hos hks hf R (p + 1 - q) q ρ iw (by omega) fun r k h1 h2 h3 => by
          by_cases e : r = p
          · subst e
            obtain rfl := Option.some.inj (hp.symm.trans h3)
            exact hk2
          · exact hnoh r k h1 (by omega) h3
        rw [show q + (p + 1 - q) = p + 1 by omega] at h1 h3
        exact ⟨p + 1, ρ1, by omega, h1, h2, h3⟩
    have is1 := is.mono he1 hn1
    have hb : base ≤ w.heap.size := size_le hb0 iw1.start.below
    have hslots : TmR ρ1 (S q').next nt (pickT ((o.looksAt ops).map pa) (tmv p)) (Act.only a (o.looksAt ops)).tmps :=
      only_tms is1.size fun t ht => is1.slots hos hf R iw1.closed hpN hp ho hD hr ht
    have hwant : Region.wanted o (yielded ops a.tmps) = Wants ops x o (tmv p) := by
      rw [only_wanted a]; exact wanted_eq hslots hg
    unfold wpOp
    simp only [ho]
    rw [hwant]
    have hnext : ∀ {v2 : Value}, VR ρ1 (S q').next (v p) v2 → K (a.put o.dst v2) w := fun hv =>
      hK q' ρ1 _ w (iw1.done hf hpq hp ho hr) (is1.put hf iw1.closed hp ho hdn hD hv)
    cases hw : Wants ops x o (tmv p) with
    | false =>
      simp only [Bool.false_eq_true, if_false]
      obtain ⟨h1, _⟩ := R.off p i x o hpN' hp ho hx hw
      refine hnext ?_
      rw [h1]
      exact .tup [] [] .nil
    | true =>
      simp only [if_true]
      left
      have hk4 : kindI x.i = 0 ∨ kindI x.i = 1 ∨ kindI x.i = 4 := by
        have : kindI x.i ≤ 4 := by cases x.i <;> simp only [kindI] <;> (try split) <;> (try split) <;> omega
        omega
      by_cases hk : kindI x.i = 4
      · -- it makes an object
        obtain ⟨f, hgo, hsoft⟩ := cls_soft hcl hk
        obtain ⟨u, hu, h1⟩ := oneV_loud hgo (R.soft p i x o hpN' hp ho hx (by omega) hw)
        obtain rfl : v p = u := by injection hu
        obtain ⟨g, hgo2, hshape⟩ := soft_ok x.i hk
        obtain rfl := gE_inj (hgo.symm.trans hgo2)
        obtain ⟨r, b, e1, e2, _, e4⟩ := hshape _ _ _ _ h1
        obtain ⟨r2, b2, v', y, pl, h2, h3, h4, h5, h6, h7, h8⟩ := hsoft (a := Act.only a (o.looksAt ops)) ⟨iw1.start.rel, hslots⟩ (e4 (S q'))
        have h9 := h2 (S p)
        rw [h1] at h9
        obtain ⟨e5, e6⟩ := Prod.mk.inj (Option.some.inj h9)
        have hgb : (S (p + 1)).mem.get (S p).next = some b2 := by rw [e6, new_get, if_pos rfl]
        obtain ⟨iw2, he2, hlt⟩ := iw1.made R.zero hf hb hpq hp ho hx (by omega) hD hr hw hgb h4 h7
        unfold Oper.wp
        rw [hexec, h3]
        refine hK q' _ _ _ iw2 (((is1.mono he2 (Nat.le_refl _)).put hf iw1.closed hp ho hdn hD ?_))
        rw [e5]
        exact h8 _ _ _ hlt (Map.new_same _ _ _)
      · have hk01 : kindI x.i = 0 ∨ kindI x.i = 1 := by omega
        obtain ⟨f, hgo, hpure, hdull, hmem⟩ := cls_pure hcl hk01
        have fin : ∀ T, Sub T (S q') → f (pickT ((o.looksAt ops).map pa) (tmv p)) T = some (v p) → o.wp P a w K Q := fun T hT hfv => by
          have h1 : f (pickT ((o.looksAt ops).map pa) (tmv p)) { next := (S q').next, low := T.low, mem := T.mem } = some (v p) := by
            rw [← hfv]; exact hmem _ _ _ T.next T.low T.mem
          obtain ⟨v', h5, h6⟩ := hpure (nt := nt) (a := Act.only a (o.looksAt ops)) ⟨iw1.start.rel.sub hT, hslots⟩ h1
          unfold Oper.wp
          rw [hexec, h5]
          exact hnext h6
        rcases hk01 with hk0 | hk1
        · obtain ⟨_, s', h1⟩ := R.quiet p i x o hpN' hp ho hx (.inl (by omega)) hw
          obtain ⟨u, hu, h2, _⟩ := oneV_pure hgo h1
          obtain rfl : v p = u := by injection hu
          exact fin (S q') (Sub.refl _) (by rw [← h2]; exact hdull hk0 _ _ _)
        · obtain ⟨T, hT, s', h1⟩ := iw1.read p i x o hpq hp ho hx (by omega) hD hw
          obtain ⟨u, hu, h2, _⟩ := oneV_pure hgo h1
          obtain rfl : v p = u := by injection hu
          exact fin T hT h2
/-! ### all of them -/
def cnt (f : Nat → Bool) : Nat → Nat
  | 0 => 0
  | n + 1 => cnt f n + if f n then 0 else 1
theorem cnt_set {f g : Nat → Bool} {i : Nat} (hf : f i = false) (hg : g i = true) (he : ∀ k, k ≠ i → g k = f k) : ∀ n, i < n → cnt g n + 1 = cnt f n
  | 0, h => absurd h (Nat.not_lt_zero _)
  | n + 1, h => by
    have same : ∀ k, k ≤ i → cnt g k = cnt f k := by
      intro k
      induction k with
      | zero => intro _; rfl
      | succ k ih => intro hk; simp only [cnt, ih (by omega), he k (by omega)]
    by_cases e : n = i
    · subst e
      simp only [cnt, same n (Nat.le_refl _), hf, hg]
      simp
    · simp only [cnt, he n e]
      have := cnt_set hf hg he n (by omega)
      omega
theorem cnt_zero {f : Nat → Bool} : ∀ n, cnt f n = 0 → ∀ k, k < n → f k = true
  | 0, _, k, h => absurd h (Nat.not_lt_zero _)
  | n + 1, h, k, hk => by
    simp only [cnt] at h
    by_cases e : k = n
    · subst e
      cases hf : f k with
      | true => rfl
      | false => rw [hf] at h; simp at h
    · exact cnt_zero n (by omega) k (by omega)
theorem all_listed (hf : Facts ops ks (pres ops.toList []) π) {listed : Array Bool} (hs : listed.size = ops.size) (hr : Region.ready .any ops listed = []) : ∀ k, k < ops.size → listed.getD k false = true := by
  intro k
  induction k using Nat.strongRecOn with
  | _ k ih =>
    intro hk
    cases hl : listed.getD k false with
    | true => rfl
    | false =>
      exfalso
      have hok : ops[k]? = some ops[k] := Array.getElem?_eq_getElem hk
      have : k ∈ Region.ready .any ops listed := mem_ready.2 ⟨by
        rw [Array.getD_eq_getD_getElem?, Array.getElem?_eq_getElem (by omega)] at hl ⊢; exact hl, ops[k], hok, fun e he hb => by
          have hlt := hf.edge k _ hok e.on ⟨e, he, hb, rfl⟩
          exact ih e.on hlt (by omega)⟩
      rw [hr] at this
      exact nomatch this
theorem any_sound (hc : CallOk P call) (hos : compOs P nt ops ops.toList = some os) (hks : ks = os.map fun x => kindI x.i) (hf : Facts ops ks (pres ops.toList []) π)
    (hb0 : base ≤ w0.heap.size) (R : Ran call ops os ks (pres ops.toList []) π tm0 st0 N S v tmv) (hE : RanEnds call ops os ks π res N S tmv)
    (hQ : ∀ D q ρ a w, (∀ k, k < ops.size → D k = true) → InvW P base call ops os ks (pres ops.toList []) π st0 N S v tmv ρ0 w0 D q ρ w → InvS ops nt dl π tm0 v D ρ (S q).next a → Q .normal a w)
    (hP : ∀ u s' D ρ' u' a w', res = .pan u s' → Now P base ρ0 st0 w0 ρ' s' w' → VR ρ' s'.next u u' → InvS ops nt dl π tm0 v D ρ' s'.next a → Q (.panic [{ v := u', recovered := false }]) a w') :
    ∀ (fuel : Nat) (listed : Array Bool) (q : Nat) (ρ : Map) (a : Act) (w : World), listed.size = ops.size → cnt (fun k => listed.getD k false) ops.size ≤ fuel →
      InvW P base call ops os ks (pres ops.toList []) π st0 N S v tmv ρ0 w0 (fun k => listed.getD k false) q ρ w → InvS ops nt dl π tm0 v (fun k => listed.getD k false) ρ (S q).next a → wpAny P .any ops Q fuel listed a w
  | 0, listed, q, ρ, a, w, hs, hcn, iw, is => by
    have hall := cnt_zero ops.size (by omega : cnt (fun k => listed.getD k false) ops.size = 0)
    refine ⟨?_, hQ _ q ρ a w hall iw is⟩
    cases hr : Region.ready .any ops listed with
    | nil => rfl
    | cons j l =>
      exfalso
      obtain ⟨h1, o, ho, h2⟩ := mem_ready.1 (show j ∈ Region.ready .any ops listed from by rw [hr]; exact List.mem_cons_self ..)
      have hj := (Array.getElem?_eq_some_iff.1 ho).1
      have h3 := hall j hj
      rw [Array.getD_eq_getD_getElem?, Array.getElem?_eq_getElem (by omega)] at h1 h3
      have h4 : listed[j] = true := h3
      have h5 : listed[j] = false := h1
      rw [h4] at h5
      exact nomatch h5
  | fuel + 1, listed, q, ρ, a, w, hs, hcn, iw, is => by
    refine ⟨fun hr => hQ _ q ρ a w (all_listed hf hs hr) iw is, fun i hi => ?_⟩
    obtain ⟨h1, o, ho, h2⟩ := mem_ready.1 hi
    have hlt := (Array.getElem?_eq_some_iff.1 ho).1
    have hD : listed.getD i false = false := by
      rw [Array.getD_eq_getD_getElem?, Array.getElem?_eq_getElem (by omega)] at h1 ⊢; exact h1
    have hset : ∀ k, (listed.setIfInBounds i true).getD k false = (listed.getD k false || k == i) := fun k => by
      by_cases e : k = i
      · subst e
        simp [Array.getD, hs, hlt]
      · have : (k == i) = false := by simpa using e
        rw [this, Bool.or_false, Array.getD_eq_getD_getElem?, Array.getD_eq_getD_getElem?, Array.getElem?_setIfInBounds_ne (Ne.symm e)]
    have hfe : (fun k => (listed.setIfInBounds i true).getD k false) = fun k => (listed.getD k false || k == i) := funext hset
    refine draw_step hc hos hks hf hb0 R hE iw is ho hD (fun j hj => ?_) (fun q' ρ' a' w' hiw his => ?_) fun u s' ρ' u' w' => hP u s' _ ρ' u' a w'
    · obtain ⟨e, he, hb, rfl⟩ := hj
      exact h2 e he hb
    · refine any_sound hc hos hks hf hb0 R hE hQ hP fuel _ q' ρ' a' w' (by simpa using hs) ?_ (by rw [hfe]; exact hiw) (by rw [hfe]; exact his)
      have := cnt_set (f := fun k => listed.getD k false) (g := fun k => (listed.setIfInBounds i true).getD k false) hD (by rw [hset]; simp) (fun k hk => by
        show (listed.setIfInBounds i true).getD k false = listed.getD k false
        rw [hset]
        have : (k == i) = false := by simpa using hk
        rw [this, Bool.or_false]) ops.size hlt
      omega
end
theorem at_veil : ∀ (ws : List Pa) (tm : Tr V) (p : Pa), (p ∈ ws → (veil ws tm).at p = none) ∧ (p ∉ ws → (veil ws tm).at p = tm.at p)
  | [], tm, p => ⟨fun h => (nomatch h), fun _ => rfl⟩
  | r :: ws, tm, p => by
    have h : veil (r :: ws) tm = (veil ws tm).to r none := rfl
    rw [h]
    by_cases e : r = p
    · subst e
      exact ⟨fun _ => at_to_same _ _ _, fun h => absurd (List.mem_cons_self ..) h⟩
    · rw [at_to_ne _ _ e]
      obtain ⟨h1, h2⟩ := at_veil ws tm p
      exact ⟨fun h => h1 ((List.mem_cons.1 h).resolve_left fun e' => e e'.symm), fun h => h2 fun h' => h (List.mem_cons_of_mem _ h')⟩
theorem drawOk {P : Program} (hm : P.follows .mixedOrders = true) (call : Callee) (hc : CallOk P call) : DrawOk P call := by
  intro base nt id dl ops c n hcd ρ st w tm a r hat hr
  unfold compDraw at hcd
  split at hcd
  · exact nomatch hcd
  · rename_i os hos
    split at hcd
    · rename_i hok
      obtain rfl := Option.some.inj hcd
      rw [Bool.and_eq_true] at hok
      have hf := facts_of hok.1
      have hlen : os.length = ops.size := by rw [(compOs_at hos).1]; simp
      obtain ⟨res, h1, h2⟩ := orec_none (show (Option.rec none (fun r => DR.rec (fun tm' s => some (Ex.nrm, tm', s)) (fun v s => some (.pan v, veil (ops.toList.filterMap fun o => o.dst.map pa) tm, s)) r)
        (evD (dsOf (os.map fun a => kindI a.i) (pres ops.toList []) ops os (orderGo (os.map fun a => kindI a.i) (pres ops.toList []) ops.size ops.size 0)) call tm st []) : Run) = some r from hr)
      have hcls : ∀ (i : Nat) x, os[i]? = some x → i < ops.size → kindI x.i ≠ 3 → ∃ o, Cls P o x.i := fun i x hx hi hk3 => by
        obtain ⟨y, hy, hcy⟩ := (compOs_at hos).2 i ops[i] (by simp)
        obtain rfl := Option.some.inj (hx.symm.trans hy)
        obtain ⟨_, _, hxi, _⟩ := compO_inv hcy
        refine ⟨ops[i], ?_⟩
        cases hcp : compOp P ops[i] with
        | none => rw [hcp] at hxi; rw [hxi] at hk3; exact absurd rfl hk3
        | some i0 =>
          rw [hcp] at hxi
          rw [show x.i = i0 from hxi]
          exact cls hcp
      obtain ⟨N, S, v, tmv, R, hE⟩ := ran_of hos rfl hf (fun i x hx hi => hcls i x hx hi (by
        have := hf.kind i hi
        rw [List.getD_eq_getElem?_getD, List.getElem?_map, hx] at this
        exact this)) h1
      have hnow : Now P base ρ st w ρ st { w with drawn := w.drawn + 1 } := ⟨Ext.refl _ _, hat.ctx.rel.of_heap rfl, Turn.refl _, ⟨rfl, rfl, rfl, Nat.le_refl _, fun _ _ => rfl⟩, Dead.refl _ _⟩
      have hfalse : ∀ k, (Array.replicate ops.size false).getD k false = false := fun k => by
        rw [Array.getD_eq_getD_getElem?, Array.getElem?_replicate]; split <;> rfl
      refine wp_region_any hm ?_
      refine any_sound (base := base) (nt := nt) (dl := dl) (ρ0 := ρ) (w0 := { w with drawn := w.drawn + 1 }) hc hos rfl hf hat.hb R hE ?_ ?_ ops.size (Array.replicate ops.size false) 0 ρ a _ (by simp) ?_ ?_ ?_
      · -- the end
        intro D q ρ' a' w' hall iw is
        have hend : N = (orderGo (os.map fun a => kindI a.i) (pres ops.toList []) ops.size ops.size 0).length ∧ res = .nrm (tmv N) (S N) := by
          rcases hE with h | ⟨i, x, o, u, s', e1, e2, _⟩
          · exact h
          · exfalso
            have := iw.early N i iw.le e1
            rw [hall i (hf.range N i e1)] at this; exact nomatch this
        obtain ⟨hN, rfl⟩ := hend
        have hqN : q = N := by
          rcases Nat.lt_or_ge q N with h | h
          · exfalso
            have hi := List.getElem?_eq_getElem (l := orderGo (os.map fun a => kindI a.i) (pres ops.toList []) ops.size ops.size 0) (i := q) (by omega)
            have := iw.early q _ (Nat.le_refl _) hi
            rw [hall _ (hf.range q _ hi)] at this; exact nomatch this
          · have := iw.le; omega
        subst hqN
        obtain rfl := Option.some.inj (show some (Ex.nrm, tmv q, S q) = some r from h2)
        refine ⟨ρ', hnow.trans iw.start, is.nod, is.size, fun t => ?_⟩
        show VR ρ' (S q).next (((tmv q).at (pa t)).getD .undef) (a'.tmps.getD t Go.undef)
        obtain ⟨h3, h4⟩ := tm_last hos hf R q (Nat.le_refl _) t
        rcases last_or_none (fun p => ∃ i o, (orderGo (os.map fun a => kindI a.i) (pres ops.toList []) ops.size ops.size 0)[p]? = some i ∧ ops[i]? = some o ∧ o.dst = some t) q with hn | ⟨p, hp, ⟨i, o, hi, ho, hd⟩, hl⟩
        · rw [h4 fun p i o hp hi ho hd => hn p hp ⟨i, o, hi, ho, hd⟩]
          refine is.non t fun k ok hok hDk hd => ?_
          obtain ⟨p, hp⟩ := hf.cover k (Array.getElem?_eq_some_iff.1 hok).1
          exact hn p (by rw [hN]; exact lt_of_at hp) ⟨k, ok, hp, hok, hd⟩
        · rw [h3 p i o hp hi ho hd fun p' i' o' h5 h6 h7 h8 h9 => hl p' h5 h6 ⟨i', o', h7, h8, h9⟩]
          refine is.last t p i o hi ho (hall i (hf.range p i hi)) hd fun p' i' o' hp' ho' _ hd' => ?_
          rcases Nat.lt_or_ge p p' with h5 | h5
          · exact absurd ⟨i', o', hp', ho', hd'⟩ (hl p' h5 (by rw [hN]; exact lt_of_at hp'))
          · exact h5
      · -- a panic
        intro u s' D ρ' u' a' w' hres hn hu is
        rw [hres] at h2
        obtain rfl := Option.some.inj (show some (Ex.pan u, veil (ops.toList.filterMap fun o => o.dst.map pa) tm, s') = some r from h2)
        refine ⟨ρ', hnow.trans hn, is.nod, u', rfl, hu, is.size, fun t v0 hv0 => ?_⟩
        have hv1 : (veil (ops.toList.filterMap fun o => o.dst.map pa) tm).at (pa t) = some v0 := hv0
        obtain ⟨h3, h4⟩ := at_veil (ops.toList.filterMap fun o => o.dst.map pa) tm (pa t)
        by_cases hin : pa t ∈ ops.toList.filterMap fun o => o.dst.map pa
        · rw [h3 hin] at hv1; exact nomatch hv1
        · rw [h4 hin] at hv1
          have h5 := is.non t fun k ok hok _ hd => hin (List.mem_filterMap.2 ⟨ok, by
            rw [← Array.getElem?_toList] at hok
            exact List.mem_of_getElem? hok, by rw [hd]; rfl⟩)
          rw [hv1] at h5
          exact h5
      · -- how many there are
        have : ∀ (f : Nat → Bool) n, cnt f n ≤ n := by
          intro f n
          induction n with
          | zero => exact Nat.le_refl _
          | succ n ih => simp only [cnt]; split <;> omega
        exact this _ _
      · -- the start
        refine ⟨Nat.zero_le _, fun p i _ _ => hfalse i, fun p i hp => absurd hp (Nat.not_lt_zero _), fun k o ho hk => ?_, by rw [R.zero]; exact Now.refl hnow.rel, fun p p' h3 h4 => ?_, fun p i x o hp => absurd hp (Nat.not_lt_zero _), fun p i x o hp => absurd hp (Nat.not_lt_zero _)⟩
        · rw [hfalse] at hk; exact nomatch hk
        · rw [show p = p' by omega]; exact Nat.le_refl _
      · refine ⟨hat.nod, hat.ctx.tms.1, fun t p i o _ _ hk => ?_, fun t _ => by rw [R.zero]; exact hat.ctx.tms.2 t⟩
        rw [hfalse] at hk; exact nomatch hk
    · obtain rfl := Option.some.inj hcd
      exact nomatch hr
end Go.Proofs.YtjdbcfnlehedmaaGreatDoor.Av
