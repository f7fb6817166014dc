/-
  NUMBERS AND SLOTS, for walks.
-/
import Derived.Test.YtnccejmggcjaoaaGreatDoorBun
import Derived.Test.YtnccejmggcjaoaaGreatDoorMod
namespace Go.Proofs.YtnccejmggcjaoaaGreatDoor.Av
set_option linter.unusedVariables false
set_option linter.unusedSimpArgs false
set_option maxRecDepth 100000
open Go
theorem i_lit (n : Nat) : (@OfNat.ofNat Int n instOfNat) = Int.ofNat n := Eq.trans (Eq.refl _) rfl
theorem wrap_lt {k m : Nat} (h : m < 2 ^ k) : wrapC k (Int.ofNat m) = Int.ofNat m := by
  show (Bool.rec ((kindC k).wrap (.ofNat m)) (.ofNat m) (Nat.blt m (Nat.pow 2 k)) : Int) = _
  have : Nat.blt m (Nat.pow 2 k) = true := blt_iff.2 h
  rw [this]
theorem ltI_nat (a b : Nat) : ltI (Int.ofNat a) (Int.ofNat b) = decide (a < b) := by
  rw [ltI_eq]
  by_cases h : a < b
  · rw [decide_eq_true h, decide_eq_true (by simpa using h)]
  · rw [decide_eq_false h, decide_eq_false (by simpa using h)]
theorem eqI_nat (a b : Nat) : eqI (Int.ofNat a) (Int.ofNat b) = decide (a = b) := by
  show Nat.beq a b = _
  by_cases h : a = b
  · rw [beqT h, decide_eq_true h]
  · rw [beqF h, decide_eq_false h]
theorem eqI_dec (a b : Int) : eqI a b = decide (a = b) := eqI_eq a b
theorem ltI_dec (a b : Int) : ltI a b = decide (a < b) := ltI_eq a b
theorem f_lss (k : Nat) (a b : Int) : fLss k a b = some (.bool (ltI a b)) := Eq.trans (Eq.refl _) rfl
theorem f_lssN (k a b : Nat) : fLss k (Int.ofNat a) (Int.ofNat b) = some (.bool (decide (a < b))) := by rw [f_lss, ltI_nat]
theorem f_leq (k : Nat) (a b : Int) : fLeq k a b = some (.bool (!ltI b a)) := Eq.trans (Eq.refl _) rfl
theorem f_gtr (k : Nat) (a b : Int) : fGtr k a b = some (.bool (ltI b a)) := Eq.trans (Eq.refl _) rfl
theorem f_geq (k : Nat) (a b : Int) : fGeq k a b = some (.bool (!ltI a b)) := Eq.trans (Eq.refl _) rfl
theorem f_eql (k : Nat) (a b : Int) : fEql k a b = some (.bool (eqI a b)) := Eq.trans (Eq.refl _) rfl
theorem f_neq (k : Nat) (a b : Int) : fNeq k a b = some (.bool (!eqI a b)) := Eq.trans (Eq.refl _) rfl
theorem f_add (k a b : Nat) (h : a + b < 2 ^ k) : fAdd k (Int.ofNat a) (Int.ofNat b) = some (.int k (Int.ofNat (a + b))) := by
  show some (V.int k (wrapC k (Int.ofNat (a + b)))) = _
  rw [wrap_lt h]
theorem f_mul (k a b : Nat) (h : a * b < 2 ^ k) : fMul k (Int.ofNat a) (Int.ofNat b) = some (.int k (Int.ofNat (a * b))) := by
  show some (V.int k (wrapC k (Int.ofNat (a * b)))) = _
  rw [wrap_lt h]
theorem f_sub (k a b : Nat) (h : b ≤ a) (h' : a < 2 ^ k) : fSub k (Int.ofNat a) (Int.ofNat b) = some (.int k (Int.ofNat (a - b))) := by
  show some (V.int k (wrapC k (Int.ofNat a - Int.ofNat b))) = _
  rw [show Int.ofNat a - Int.ofNat b = Int.ofNat (a - b) from by simp only [Int.ofNat_eq_natCast]; omega, wrap_lt (by omega)]
theorem f_rem (k a b : Nat) (h : 0 < b) : fRem k (Int.ofNat a) (Int.ofNat b) = some (.int k (Int.ofNat (a % b))) := by
  unfold fRem
  rw [show eqI (Int.ofNat b) (.ofNat 0) = false from by rw [eqI_nat]; exact decide_eq_false (by omega)]; rfl
theorem f_quo (k a b : Nat) (ha : a < 2 ^ k) (h : 0 < b) : fQuo k (Int.ofNat a) (Int.ofNat b) = some (.int k (Int.ofNat (a / b))) := by
  unfold fQuo
  rw [show eqI (Int.ofNat b) (.ofNat 0) = false from by rw [eqI_nat]; exact decide_eq_false (by omega)]
  show some (V.int k (wrapC k (Int.ofNat (a / b)))) = _
  rw [wrap_lt (Nat.lt_of_le_of_lt (Nat.div_le_self a b) ha)]
theorem m_mn {tm : Tr V} {st : St} {x y : X} : iMn x y tm st = (x.ev tm).onInt none (fun k a => (y.ev tm).onInt none (fun k' b => bif Nat.beq k k' then some (.int k (bif ltI b a then b else a)) else none)) := Eq.trans (Eq.refl _) rfl
theorem m_mx {tm : Tr V} {st : St} {x y : X} : iMx x y tm st = (x.ev tm).onInt none (fun k a => (y.ev tm).onInt none (fun k' b => bif Nat.beq k k' then some (.int k (bif ltI a b then b else a)) else none)) := Eq.trans (Eq.refl _) rfl
theorem mn_nat (a b : Nat) : (bif ltI (Int.ofNat b) (Int.ofNat a) then Int.ofNat b else Int.ofNat a) = Int.ofNat (min a b) := by
  rw [ltI_nat]
  by_cases h : b < a
  · rw [decide_eq_true h, cond_true, Nat.min_eq_right (by omega)]
  · rw [decide_eq_false h, cond_false, Nat.min_eq_left (by omega)]
theorem mx_nat (a b : Nat) : (bif ltI (Int.ofNat a) (Int.ofNat b) then Int.ofNat b else Int.ofNat a) = Int.ofNat (max a b) := by
  rw [ltI_nat]
  by_cases h : a < b
  · rw [decide_eq_true h, cond_true, Nat.max_eq_right (by omega)]
  · rw [decide_eq_false h, cond_false, Nat.max_eq_left (by omega)]
theorem m_cvi {tm : Tr V} {st : St} {k : Nat} {x : X} : iCvi k x tm st = (x.ev tm).onInt none (fun _ n => some (.int k (wrapC k n))) := Eq.trans (Eq.refl _) rfl
theorem m_pick {tm : Tr V} {st : St} {c a b : X} : iPick c a b tm st = (c.ev tm).onBool none (fun t => Bool.rec (some (b.ev tm)) (some (a.ev tm)) t) := Eq.trans (Eq.refl _) rfl
def Keep (S : List Nat) (tm tm' : Tr V) : Prop := ∀ j, j ∉ S → X.ev tm' (.t (pa j)) = X.ev tm (.t (pa j))
theorem Keep.refl (S : List Nat) (tm : Tr V) : Keep S tm tm := fun _ _ => rfl
theorem Keep.to {S : List Nat} {tm tm' : Tr V} (h : Keep S tm tm') {k : Nat} {v : V} (hk : k ∈ S) : Keep S tm (tm'.to (pa k) (some v)) := fun j hj => by
  rw [x_evt, if_neg (fun e => hj (by rw [← e]; exact hk))]; exact h j hj
theorem Keep.trans {S : List Nat} {tm tm' tm'' : Tr V} (h : Keep S tm tm') (h' : Keep S tm' tm'') : Keep S tm tm'' := fun j hj => (h' j hj).trans (h j hj)
theorem Keep.mono {S S' : List Nat} {tm tm' : Tr V} (h : Keep S tm tm') (hs : ∀ j, j ∈ S → j ∈ S') : Keep S' tm tm' := fun j hj => h j fun hj' => hj (hs j hj')
theorem keep_ex {S : List Nat} {tm tm1 : Tr V} {Q : Tr V → Prop} (h : ∃ tm', Keep S tm1 tm' ∧ Q tm') (hk : Keep S tm tm1) : ∃ tm', Keep S tm tm' ∧ Q tm' := by
  obtain ⟨tm', h1, h2⟩ := h
  exact ⟨tm', hk.trans h1, h2⟩
theorem loopF {S : List Nat} {H : Tr V → Prop} {R : Tr V → Tr V → Prop} (h : ∀ tm, H tm → ∃ tm', Keep S tm tm' ∧ R tm tm') : ∃ F : Tr V → Tr V, (∀ tm, Keep S tm (F tm)) ∧ ∀ tm, H tm → R tm (F tm) := by
  classical
  refine ⟨fun tm => if hx : H tm then (h tm hx).choose else tm, fun tm => ?_, fun tm hx => ?_⟩
  · show Keep S tm (if hx : H tm then (h tm hx).choose else tm)
    split
    · rename_i hx; exact (h tm hx).choose_spec.1
    · exact Keep.refl _ _
  · show R tm (if hx : H tm then (h tm hx).choose else tm)
    rw [dif_pos hx]
    exact (h tm hx).choose_spec.2
theorem loopF2 {S : List Nat} {H : Tr V → St → Prop} {R : Tr V → St → Tr V → Prop} (h : ∀ tm st, H tm st → ∃ tm', Keep S tm tm' ∧ R tm st tm') : ∃ F : Tr V → St → Tr V, (∀ tm st, Keep S tm (F tm st)) ∧ ∀ tm st, H tm st → R tm st (F tm st) := by
  classical
  refine ⟨fun tm st => if hx : H tm st then (h tm st hx).choose else tm, fun tm st => ?_, fun tm st hx => ?_⟩
  · show Keep S tm (if hx : H tm st then (h tm st hx).choose else tm)
    split
    · rename_i hx; exact (h tm st hx).choose_spec.1
    · exact Keep.refl _ _
  · show R tm st (if hx : H tm st then (h tm st hx).choose else tm)
    rw [dif_pos hx]
    exact (h tm st hx).choose_spec.2
theorem loopG {S : List Nat} {H : Tr V → Prop} {R : Tr V → Tr V → St → Prop} (h : ∀ tm, H tm → ∃ tm' st', Keep S tm tm' ∧ R tm tm' st') : ∃ (F : Tr V → Tr V) (Z : Tr V → St), (∀ tm, Keep S tm (F tm)) ∧ ∀ tm, H tm → R tm (F tm) (Z tm) := by
  classical
  refine ⟨fun tm => if hx : H tm then (h tm hx).choose else tm, fun tm => if hx : H tm then (h tm hx).choose_spec.choose else default, fun tm => ?_, fun tm hx => ?_⟩
  · show Keep S tm (if hx : H tm then (h tm hx).choose else tm)
    split
    · rename_i hx; exact (h tm hx).choose_spec.choose_spec.1
    · exact Keep.refl _ _
  · show R tm (if hx : H tm then (h tm hx).choose else tm) (if hx : H tm then (h tm hx).choose_spec.choose else default)
    rw [dif_pos hx, dif_pos hx]
    exact (h tm hx).choose_spec.choose_spec.2
theorem at_of_ev {tm : Tr V} {j : Nat} {v : V} (h : X.ev tm (.t (pa j)) = v) (hv : v ≠ V.undef) : tm.at (pa j) = some v := by
  rw [ev_t] at h
  cases hat : tm.at (pa j) with
  | none => rw [hat] at h; exact absurd h.symm hv
  | some u => rw [hat] at h; exact congrArg some h
structure Aft (L : Nat) (st st' : St) : Prop where
  next : st.next ≤ st'.next
  low : min L st.low ≤ st'.low
  mem : ∀ o, o < L → st'.mem.get o = st.mem.get o
theorem Aft.refl (L : Nat) (st : St) : Aft L st st := ⟨Nat.le_refl _, Nat.min_le_right _ _, fun _ _ => rfl⟩
theorem Aft.trans {L : Nat} {a b c : St} (h : Aft L a b) (h' : Aft L b c) : Aft L a c := ⟨Nat.le_trans h.next h'.next, by have := h.low; have := h'.low; omega, fun o ho => (h'.mem o ho).trans (h.mem o ho)⟩
theorem Aft.weak {L L' : Nat} {a b : St} (h : Aft L a b) (hL : L' ≤ L) : Aft L' a b := ⟨h.next, by have := h.low; omega, fun o ho => h.mem o (by omega)⟩
theorem loc_low' (b : St) (e : Nat) (z c : List V) : (loc b e z c).low = min b.low b.next := by unfold loc; rw [put_low]; rfl
theorem Aft.loc {L : Nat} {a b : St} (h : Aft L a b) (hL : L ≤ b.next) {e : Nat} {z c : List V} : Aft L a (loc b e z c) :=
  ⟨Nat.le_succ_of_le h.next, by have := h.low; rw [loc_low']; omega, fun o ho => by rw [loc_ne (by omega)]; exact h.mem o ho⟩
theorem Aft.new {L : Nat} {a b : St} (h : Aft L a b) (hL : L ≤ b.next) {x : Ob} : Aft L a (b.new x) :=
  ⟨Nat.le_succ_of_le h.next, h.low, fun o ho => by rw [new_get, if_neg (by omega)]; exact h.mem o ho⟩
theorem Aft.put {L : Nat} {a b : St} (h : Aft L a b) {o : Nat} (ho : L ≤ o) {x : Option Ob} : Aft L a (b.put o x) :=
  ⟨h.next, by have := h.low; rw [put_low]; omega, fun k hk => by rw [put_get, if_neg (by omega)]; exact h.mem k hk⟩
theorem keep_ex2 {S : List Nat} {L : Nat} {tm tm1 : Tr V} {st st1 : St} {Q : Tr V → St → Prop} (h : ∃ tm' st', Keep S tm1 tm' ∧ Aft L st1 st' ∧ Q tm' st') (hk : Keep S tm tm1) (ha : Aft L st st1) : ∃ tm' st', Keep S tm tm' ∧ Aft L st st' ∧ Q tm' st' := by
  obtain ⟨tm', st', h1, h2, h3⟩ := h
  exact ⟨tm', st', hk.trans h1, ha.trans h2, h3⟩
theorem leave_scalar {st st' : St} {tm : Tr V} {j : Nat} {v : V} (hv : X.ev tm (.t (pa j)) = v) (hne : v ≠ V.undef) (hu : v.under st.next = true) (ha : Aft st.next { next := st.next, low := st.next, mem := st.mem } st') :
    leaveF st [.t (pa j)] (some (.ret, tm, st')) = some (.ret v, st) :=
  leave_ret (at_of_ev hv hne) (by have := ha.low; simp at this; omega) hu
end Go.Proofs.YtnccejmggcjaoaaGreatDoor.Av
