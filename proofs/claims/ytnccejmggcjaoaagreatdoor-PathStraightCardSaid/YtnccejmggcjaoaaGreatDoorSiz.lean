/-
  HOW LARGE TREES ARE; what may be reckoned by size.
-/
import Derived.Test.YtnccejmggcjaoaaGreatDoorAri
namespace Go.Proofs.YtnccejmggcjaoaaGreatDoor.Av
set_option linter.unusedVariables false
set_option linter.unusedSimpArgs false
open Go
def It.kids : It → List (List It)
  | .mk _ _ _ _ _ _ ks => ks
def It.pred : It → List Et
  | .mk _ _ _ p _ _ _ => p
def Et.kids : Et → List Et
  | .mk _ _ _ _ _ ks => ks
mutual
def szI : It → Nat
  | .mk _ _ _ _ _ _ ks => 1 + szK ks
def szL : List It → Nat
  | [] => 0
  | x :: l => szI x + szL l
def szK : List (List It) → Nat
  | [] => 0
  | l :: ks => 1 + szL l + szK ks
end
mutual
def szE : Et → Nat
  | .mk _ _ _ _ _ ks => 1 + szEs ks
def szEs : List Et → Nat
  | [] => 0
  | e :: l => szE e + szEs l
end
theorem szI_pos (x : It) : 1 ≤ szI x := by cases x; simp only [szI]; omega
theorem szE_pos (x : Et) : 1 ≤ szE x := by cases x; simp only [szE]; omega
theorem len_szL : ∀ l : List It, l.length ≤ szL l
  | [] => Nat.le_refl _
  | x :: l => by have := len_szL l; have := szI_pos x; simp only [szL, List.length_cons]; omega
theorem len_szK : ∀ l : List (List It), l.length ≤ szK l
  | [] => Nat.le_refl _
  | x :: l => by have := len_szK l; simp only [szK, List.length_cons]; omega
theorem len_szEs : ∀ l : List Et, l.length ≤ szEs l
  | [] => Nat.le_refl _
  | x :: l => by have := len_szEs l; have := szE_pos x; simp only [szEs, List.length_cons]; omega
theorem szI_mem {x : It} : ∀ {l : List It}, x ∈ l → szI x ≤ szL l
  | y :: l, h => by
    simp only [szL]
    rcases List.mem_cons.1 h with rfl | h
    · omega
    · have := szI_mem h; omega
theorem szK_mem {x : List It} : ∀ {l : List (List It)}, x ∈ l → 1 + szL x ≤ szK l
  | y :: l, h => by
    simp only [szK]
    rcases List.mem_cons.1 h with rfl | h
    · omega
    · have := szK_mem h; omega
theorem szE_mem {x : Et} : ∀ {l : List Et}, x ∈ l → szE x ≤ szEs l
  | y :: l, h => by
    simp only [szEs]
    rcases List.mem_cons.1 h with rfl | h
    · omega
    · have := szE_mem h; omega
theorem szEs_app : ∀ (l r : List Et), szEs (l ++ r) = szEs l + szEs r
  | [], r => by simp [szEs]
  | e :: l, r => by simp only [List.cons_append, szEs, szEs_app l r, Nat.add_assoc]
theorem szEs_take (l : List Et) (i : Nat) : szEs (l.take i) ≤ szEs l := by
  have := szEs_app (l.take i) (l.drop i)
  rw [List.take_append_drop] at this
  omega
theorem szL_kids {x : It} {l : List It} (h : x ∈ l) : x.kids.length < szL l := by
  have h1 := szI_mem h
  obtain ⟨k, n, v, p, lo, hi, ks⟩ := x
  have h2 := len_szK ks
  simp only [szI] at h1
  simp only [It.kids]
  omega
theorem szL_kid {x : It} {l : List It} (h : x ∈ l) {kid : List It} (hk : kid ∈ x.kids) : szL kid < szL l := by
  have h1 := szI_mem h
  obtain ⟨k, n, v, p, lo, hi, ks⟩ := x
  have h2 := szK_mem hk
  simp only [szI] at h1
  simp only [It.kids] at h2
  omega
theorem szE_kid {e k : Et} (h : k ∈ e.kids) : szE k < szE e := by
  obtain ⟨_, _, _, _, _, ks⟩ := e
  have := szE_mem h
  simp only [szE]
  simp only [Et.kids] at this
  omega
theorem szE_kids (e : Et) : e.kids.length < szE e := by
  obtain ⟨_, _, _, _, _, ks⟩ := e
  have := len_szEs ks
  simp only [szE, Et.kids]
  omega
theorem by_size {P : List It → Nat → Prop} (step : ∀ (l : List It) (n : Nat), (∀ x ∈ l, ∀ kid ∈ x.kids, P kid n) → szL l < n → P l (n + 1)) : ∀ (n : Nat) (l : List It), szL l + 1 < n → P l n
  | 0, _, h => absurd h (Nat.not_lt_zero _)
  | n + 1, l, h => step l n (fun x hx kid hk => by_size step n kid (by have := szL_kid hx hk; omega)) (by omega)
theorem by_meas {M : List It → Nat} (hM : ∀ (l : List It) (x : It), x ∈ l → ∀ kid ∈ x.kids, M kid < M l) {P : List It → Nat → Prop} (step : ∀ (l : List It) (n : Nat), (∀ x ∈ l, ∀ kid ∈ x.kids, P kid n) → M l < n → P l (n + 1)) : ∀ (n : Nat) (l : List It), M l + 1 < n → P l n
  | 0, _, h => absurd h (Nat.not_lt_zero _)
  | n + 1, l, h => step l n (fun x hx kid hk => by_meas hM step n kid (by have := hM l x hx kid hk; omega)) (by omega)
theorem by_sizeE {P : Et → Nat → Prop} (step : ∀ (e : Et) (n : Nat), (∀ k ∈ e.kids, P k n) → szE e < n → P e (n + 1)) : ∀ (n : Nat) (e : Et), szE e + 1 < n → P e n
  | 0, _, h => absurd h (Nat.not_lt_zero _)
  | n + 1, e, h => step e n (fun k hk => by_sizeE step n k (by have := szE_kid hk; omega)) (by omega)
mutual
def okI : It → Prop
  | .mk k _ _ _ lo hi ks => ks.length < 2 ^ 60 ∧ (k = 1 → 0 ≤ lo ∧ hi < 2 ^ 62) ∧ okK ks
def okM : List It → Prop
  | [] => True
  | x :: l => okI x ∧ okM l
def okK : List (List It) → Prop
  | [] => True
  | l :: ks => (l.length < 2 ^ 60 ∧ okM l) ∧ okK ks
end
def okL (l : List It) : Prop := l.length < 2 ^ 60 ∧ okM l
theorem okM_iff : ∀ {l : List It}, okM l ↔ ∀ x ∈ l, okI x
  | [] => by simp [okM]
  | x :: l => by simp only [okM, okM_iff, List.mem_cons, forall_eq_or_imp]
theorem okK_iff : ∀ {l : List (List It)}, okK l ↔ ∀ x ∈ l, okL x
  | [] => by simp [okK]
  | x :: l => by simp only [okK, okK_iff, List.mem_cons, forall_eq_or_imp, okL]
theorem okL_iff {l : List It} : okL l ↔ l.length < 2 ^ 60 ∧ ∀ x ∈ l, okI x := by simp only [okL, okM_iff]
theorem okI_at {k : Int} {n v : Str} {p : List Et} {lo hi : Int} {ks : List (List It)} (h : okI (.mk k n v p lo hi ks)) : ks.length < 2 ^ 60 ∧ (k = 1 → 0 ≤ lo ∧ hi < 2 ^ 62) ∧ ∀ l ∈ ks, okL l := by
  simp only [okI, okK_iff] at h; exact h
theorem okI_kid {x : It} (h : okI x) {l : List It} (hl : l ∈ x.kids) : okL l := by
  obtain ⟨k, n, v, p, lo, hi, ks⟩ := x
  exact (okI_at h).2.2 l hl
end Go.Proofs.YtnccejmggcjaoaaGreatDoor.Av
