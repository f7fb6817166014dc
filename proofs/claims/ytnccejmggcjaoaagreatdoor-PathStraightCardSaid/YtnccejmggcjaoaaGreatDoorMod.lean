/-
  QUERIES AS TREES, and their cells; plain: no program in sight.
-/
import Derived.Test.YtnccejmggcjaoaaGreatDoorMacC
namespace Go.Proofs.YtnccejmggcjaoaaGreatDoor.Av
set_option linter.unusedVariables false
set_option linter.unusedSimpArgs false
open Go
abbrev Str := List UInt8
inductive Et where
  | mk (k : Int) (op : Str) (n : Int) (v f : Str) (ks : List Et)
  deriving Inhabited
inductive It where
  | mk (k : Int) (name var : Str) (pred : List Et) (lo hi : Int) (kids : List (List It))
  deriving Inhabited
structure Qt where
  items : List It
  within : Int
  by_ : Str
abbrev slT (t n : Nat) (l : List V) : V := .cmp t 0 (.ref 8 0 0 n n false :: l)
mutual
def cE : Et → List V
  | .mk k op n v f ks => [.int 63 k, .str op, .int 63 n, .str v, .str f, slT 4 ks.length (cEs ks)]
def cEs : List Et → List V
  | [] => []
  | e :: l => cE e ++ cEs l
end
mutual
def cI : It → List V
  | .mk k n v p lo hi ks => [.int 63 k, .str n, .str v, slT 4 p.length (cEs p), .int 63 lo, .int 63 hi, slT 4 ks.length (cKs ks)]
def cIs : List It → List V
  | [] => []
  | x :: l => cI x ++ cIs l
def cKs : List (List It) → List V
  | [] => []
  | l :: ks => slT 4 l.length (cIs l) :: cKs ks
end
def cQ (q : Qt) : List V := [slT 4 q.items.length (cIs q.items), .int 63 q.within, .str q.by_]
def cSs : List Str → List V := List.map .str
theorem cE_len (e : Et) : (cE e).length = 6 := by cases e; rfl
theorem cI_len (x : It) : (cI x).length = 7 := by cases x; rfl
theorem cEs_len : ∀ l : List Et, (cEs l).length = l.length * 6
  | [] => rfl
  | e :: l => by simp only [cEs, List.length_append, cE_len, cEs_len l, List.length_cons]; omega
theorem cIs_len : ∀ l : List It, (cIs l).length = l.length * 7
  | [] => rfl
  | e :: l => by simp only [cIs, List.length_append, cI_len, cIs_len l, List.length_cons]; omega
theorem cKs_len : ∀ l : List (List It), (cKs l).length = l.length
  | [] => rfl
  | e :: l => by simp only [cKs, List.length_cons, cKs_len l]
theorem cEs_app : ∀ l r : List Et, cEs (l ++ r) = cEs l ++ cEs r
  | [], r => rfl
  | e :: l, r => by simp only [List.cons_append, cEs, cEs_app l r, List.append_assoc]
theorem cIs_app : ∀ l r : List It, cIs (l ++ r) = cIs l ++ cIs r
  | [], r => rfl
  | e :: l, r => by simp only [List.cons_append, cIs, cIs_app l r, List.append_assoc]
theorem cKs_app : ∀ l r : List (List It), cKs (l ++ r) = cKs l ++ cKs r
  | [], r => rfl
  | e :: l, r => by simp only [List.cons_append, cKs, cKs_app l r]
theorem cEs_drop : ∀ (k : Nat) (l : List Et), (cEs l).drop (k * 6) = cEs (l.drop k)
  | 0, l => by simp
  | k + 1, [] => by simp [cEs]
  | k + 1, e :: l => by
    rw [List.drop_succ_cons, ← cEs_drop k l, show (k + 1) * 6 = 6 + k * 6 by omega]
    show ((cE e ++ cEs l).drop (6 + k * 6)) = _
    rw [List.drop_append, cE_len, Nat.add_sub_cancel_left, List.drop_of_length_le (by rw [cE_len]; omega)]; rfl
theorem cIs_drop : ∀ (k : Nat) (l : List It), (cIs l).drop (k * 7) = cIs (l.drop k)
  | 0, l => by simp
  | k + 1, [] => by simp [cIs]
  | k + 1, e :: l => by
    rw [List.drop_succ_cons, ← cIs_drop k l, show (k + 1) * 7 = 7 + k * 7 by omega]
    show ((cI e ++ cIs l).drop (7 + k * 7)) = _
    rw [List.drop_append, cI_len, Nat.add_sub_cancel_left, List.drop_of_length_le (by rw [cI_len]; omega)]; rfl
theorem cKs_drop : ∀ (k : Nat) (l : List (List It)), (cKs l).drop k = cKs (l.drop k)
  | 0, l => by simp
  | k + 1, [] => by simp [cKs]
  | k + 1, e :: l => by rw [List.drop_succ_cons, ← cKs_drop k l]; rfl
theorem slT_inj {t n m : Nat} {l r : List V} (h : slT t n l = slT t m r) : n = m ∧ l = r := by
  have h1 := (V.cmp.inj h).2.2
  injection h1 with h2 h3
  exact ⟨(V.ref.inj h2).2.2.2.1, h3⟩
theorem app_inj6 {a b : Et} {l r : List V} (h : cE a ++ l = cE b ++ r) : cE a = cE b ∧ l = r := List.append_inj h (by rw [cE_len, cE_len])
theorem app_inj7 {a b : It} {l r : List V} (h : cI a ++ l = cI b ++ r) : cI a = cI b ∧ l = r := List.append_inj h (by rw [cI_len, cI_len])
mutual
theorem cE_inj : ∀ {a b : Et}, cE a = cE b → a = b
  | .mk k op n v f ks, .mk k' op' n' v' f' ks', h => by
    simp only [cE, List.cons.injEq, V.int.injEq, V.str.injEq, true_and, and_true] at h
    obtain ⟨h1, h2, h3, h4, h5, h6⟩ := h
    obtain ⟨h7, h8⟩ := slT_inj h6
    rw [h1, h2, h3, h4, h5, cEs_inj h7 h8]
theorem cEs_inj : ∀ {a b : List Et}, a.length = b.length → cEs a = cEs b → a = b
  | [], [], _, _ => rfl
  | e :: l, e' :: l', hl, h => by
    obtain ⟨h1, h2⟩ := app_inj6 h
    rw [cE_inj h1, cEs_inj (by simpa using hl) h2]
  | [], _ :: _, hl, _ => by simp at hl
  | _ :: _, [], hl, _ => by simp at hl
end
mutual
theorem cI_inj : ∀ {a b : It}, cI a = cI b → a = b
  | .mk k n v p lo hi ks, .mk k' n' v' p' lo' hi' ks', h => by
    simp only [cI, List.cons.injEq, V.int.injEq, V.str.injEq, true_and, and_true] at h
    obtain ⟨h1, h2, h3, h4, h5, h6, h9⟩ := h
    obtain ⟨h7, h8⟩ := slT_inj h4
    obtain ⟨h10, h11⟩ := slT_inj h9
    rw [h1, h2, h3, h5, h6, cEs_inj h7 h8, cKs_inj h10 h11]
theorem cIs_inj : ∀ {a b : List It}, a.length = b.length → cIs a = cIs b → a = b
  | [], [], _, _ => rfl
  | e :: l, e' :: l', hl, h => by
    obtain ⟨h1, h2⟩ := app_inj7 h
    rw [cI_inj h1, cIs_inj (by simpa using hl) h2]
  | [], _ :: _, hl, _ => by simp at hl
  | _ :: _, [], hl, _ => by simp at hl
theorem cKs_inj : ∀ {a b : List (List It)}, a.length = b.length → cKs a = cKs b → a = b
  | [], [], _, _ => rfl
  | e :: l, e' :: l', hl, h => by
    have h' : slT 4 e.length (cIs e) :: cKs l = slT 4 e'.length (cIs e') :: cKs l' := h
    injection h' with h1 h2
    obtain ⟨h3, h4⟩ := slT_inj h1
    rw [cIs_inj h3 h4, cKs_inj (by simpa using hl) h2]
  | [], _ :: _, hl, _ => by simp at hl
  | _ :: _, [], hl, _ => by simp at hl
end
theorem cQ_inj {a b : Qt} (h : cQ a = cQ b) : a = b := by
  obtain ⟨i, w, y⟩ := a
  obtain ⟨i', w', y'⟩ := b
  simp only [cQ, List.cons.injEq, V.int.injEq, V.str.injEq, and_true, true_and] at h
  obtain ⟨h1, h2, h3⟩ := h
  obtain ⟨h4, h5⟩ := slT_inj h1
  rw [h2, h3, cIs_inj h4 h5]
theorem cSs_inj {a b : List Str} (h : cSs a = cSs b) : a = b := by
  induction a generalizing b with
  | nil => cases b with
    | nil => rfl
    | cons => exact nomatch h
  | cons x l ih => cases b with
    | nil => exact nomatch h
    | cons y r =>
      have h' : V.str x :: cSs l = V.str y :: cSs r := h
      injection h' with h1 h2
      rw [V.str.inj h1, ih h2]
theorem fine_sl4 (n : Nat) {l : List V} (h : (l.all fun v => v.fine) = true) : (slT 4 n l).fine = true := by
  rw [fine_cmp, beqF (by decide), beqF (by decide), List.all_cons, h]; rfl
theorem fine_agg {l : List V} (h : (l.all fun v => v.fine) = true) : (V.agg l).fine = true := by
  rw [fine_cmp]; exact h
theorem fine_all {l r : List V} (h : (l.all fun v => v.fine) = true) (h' : (r.all fun v => v.fine) = true) : ((l ++ r).all fun v => v.fine) = true := by
  rw [List.all_append, h, h']; rfl
mutual
theorem cE_fine : ∀ a : Et, ((cE a).all fun v => v.fine) = true
  | .mk k op n v f ks => by
    have h := fine_sl4 ks.length (cEs_fine ks)
    simp only [cE, List.all_cons, h, List.all_nil, Bool.and_true]; rfl
theorem cEs_fine : ∀ l : List Et, ((cEs l).all fun v => v.fine) = true
  | [] => rfl
  | e :: l => fine_all (cE_fine e) (cEs_fine l)
end
mutual
theorem cI_fine : ∀ a : It, ((cI a).all fun v => v.fine) = true
  | .mk k n v p lo hi ks => by
    have h := fine_sl4 p.length (cEs_fine p)
    have h' := fine_sl4 ks.length (cKs_fine ks)
    simp only [cI, List.all_cons, h, h', List.all_nil, Bool.and_true]; rfl
theorem cIs_fine : ∀ l : List It, ((cIs l).all fun v => v.fine) = true
  | [] => rfl
  | e :: l => fine_all (cI_fine e) (cIs_fine l)
theorem cKs_fine : ∀ l : List (List It), ((cKs l).all fun v => v.fine) = true
  | [] => rfl
  | l :: ks => by
    have h := fine_sl4 l.length (cIs_fine l)
    simp only [cKs, List.all_cons, h, cKs_fine ks, Bool.and_true]
end
theorem cQ_fine (q : Qt) : ((cQ q).all fun v => v.fine) = true := by
  have h := fine_sl4 q.items.length (cIs_fine q.items)
  simp only [cQ, List.all_cons, h, List.all_nil, Bool.and_true]; rfl
end Go.Proofs.YtnccejmggcjaoaaGreatDoor.Av
