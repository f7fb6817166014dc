/-
  WHAT WAS ASKED: how many paths, how long, how much code; plain.
-/
import Derived.Test.YtnccejmggcjaoaaGreatDoorAsk
import Derived.Test.YtnccejmggcjaoaaGreatDoorSteps
import Derived.Test.YtnccejmggcjaoaaGreatDoorPaths
import Derived.Test.YtnccejmggcjaoaaGreatDoorCode
namespace Go.Proofs.YtnccejmggcjaoaaGreatDoor.Av
set_option linter.unusedVariables false
set_option linter.unusedSimpArgs false
open Go
def Good (l : List It) : Prop := ∀ x ∈ l, plainI x ∨ altI x
def pL (l : List It) : Nat := (l.map nI).prod
def sL (l : List It) : Nat := (l.map stI).sum
theorem pL_cons (x : It) (l : List It) : pL (x :: l) = nI x * pL l := by unfold pL; rw [List.map_cons, List.prod_cons]
theorem sL_cons (x : It) (l : List It) : sL (x :: l) = stI x + sL l := by unfold sL; rw [List.map_cons, List.sum_cons]
theorem wL_cons (x : It) (l : List It) : wL (x :: l) = wI x + wL l := by unfold wL; rw [List.map_cons, List.sum_cons]
theorem wI_pos (x : It) : 1 ≤ wI x := by cases x; simp only [wI]; omega
theorem pL_app (l r : List It) : pL (l ++ r) = pL l * pL r := by
  induction l with
  | nil => show pL r = 1 * pL r; omega
  | cons x l ih => rw [List.cons_append, pL_cons, pL_cons, ih, Nat.mul_assoc]
theorem sL_app (l r : List It) : sL (l ++ r) = sL l + sL r := by
  induction l with
  | nil => show sL r = 0 + sL r; omega
  | cons x l ih => rw [List.cons_append, sL_cons, sL_cons, ih, Nat.add_assoc]
theorem nL_mul : ∀ (l : List It) (m : Nat), (∀ x ∈ l, 1 ≤ nI x) → m * pL l ≤ 1048576 → nL l m = m * pL l
  | [], m, _, _ => by show m = m * 1; omega
  | x :: l, m, h, hm => by
    have hp : 1 ≤ pL l := by
      have : ∀ l : List It, (∀ x ∈ l, 1 ≤ nI x) → 1 ≤ pL l := by
        intro l
        induction l with
        | nil => intro _; exact Nat.le_refl _
        | cons y l ih => intro h; rw [pL_cons]; exact Nat.mul_pos (h y (List.mem_cons_self ..)) (ih fun z hz => h z (List.mem_cons_of_mem _ hz))
      exact this l fun y hy => h y (List.mem_cons_of_mem _ hy)
    rw [pL_cons, ← Nat.mul_assoc] at hm
    have hle : m * nI x ≤ 1048576 := Nat.le_trans (Nat.le_mul_of_pos_right _ hp) hm
    simp only [nL]
    rw [Nat.min_eq_left hle, nL_mul l (m * nI x) (fun y hy => h y (List.mem_cons_of_mem _ hy)) hm, pL_cons, Nat.mul_assoc]
theorem stL_sum : ∀ (l : List It) (m : Nat), m + sL l ≤ 1048576 → stL l m = m + sL l
  | [], m, _ => by show m = m + 0; omega
  | x :: l, m, h => by
    rw [sL_cons] at h
    simp only [stL]
    rw [Nat.min_eq_left (by omega), stL_sum l (m + stI x) (by omega), sL_cons]; omega
theorem plain_n {x : It} (h : plainI x) : 1 ≤ nI x ∧ nI x ≤ 2 ∧ stI x ≤ 3 ∧ okI x ∧ cdI x ≤ 15 := by
  obtain ⟨k, n, v, p, lo, hi, ks⟩ := x
  obtain ⟨h1, h2, h3, h4⟩ := h
  subst h2
  rcases h1 with ⟨rfl, rfl, rfl⟩ | ⟨rfl, a, b, c, d⟩ | ⟨rfl, rfl, rfl⟩
  · refine ⟨by simp [nI], by simp [nI], by simp [stI], ⟨by decide, fun h => absurd h (by decide), trivial⟩, by simp only [cdI, cdK]; omega⟩
  · refine ⟨?_, ?_, ?_, ⟨by show (0 : Nat) < _; decide, fun _ => ⟨by omega, by omega⟩, trivial⟩, by simp only [cdI, cdK]; omega⟩
    · simp only [nI, if_true, if_pos c]; omega
    · simp only [nI, if_true, if_pos c]; omega
    · simp only [stI, if_true]; omega
  · refine ⟨by simp [nI], by simp [nI], by simp [stI], ⟨by decide, fun h => absurd h (by decide), trivial⟩, by simp only [cdI, cdK]; omega⟩
theorem plain_two {l : List It} (h : ∀ x ∈ l, plainI x) (hl : l.length ≤ 2) : 1 ≤ nL l 1 ∧ nL l 1 ≤ 2 ^ l.length ∧ stL l 0 ≤ 6 ∧ okL l ∧ cdL l ≤ 15 * l.length := by
  have ok : okL l := okL_iff.2 ⟨by omega, fun x hx => (plain_n (h x hx)).2.2.2.1⟩
  match l, h, hl, ok with
  | [], _, _, ok => exact ⟨Nat.le_refl _, Nat.le_refl _, by decide, ok, by decide⟩
  | [x], h, _, ok =>
    obtain ⟨a, b, c, _, e⟩ := plain_n (h x (List.mem_cons_self ..))
    refine ⟨?_, ?_, ?_, ok, ?_⟩
    · simp only [nL]; omega
    · simp only [nL, List.length_cons, List.length_nil]; omega
    · simp only [stL]; omega
    · simp only [cdL, List.length_cons, List.length_nil]; omega
  | [x, y], h, _, ok =>
    obtain ⟨a, b, c, _, e⟩ := plain_n (h x (List.mem_cons_self ..))
    obtain ⟨a', b', c', _, e'⟩ := plain_n (h y (List.mem_cons_of_mem _ (List.mem_cons_self ..)))
    have h4 : nI x * nI y ≤ 2 * 2 := Nat.mul_le_mul b b'
    have h1 : 1 ≤ nI x * nI y := Nat.mul_pos a a'
    refine ⟨?_, ?_, ?_, ok, ?_⟩
    · simp only [nL, Nat.one_mul]; rw [Nat.min_eq_left (by omega : nI x ≤ 1048576)]; omega
    · simp only [nL, Nat.one_mul, List.length_cons, List.length_nil]; rw [Nat.min_eq_left (by omega : nI x ≤ 1048576)]; omega
    · simp only [stL]; omega
    · simp only [cdL, List.length_cons, List.length_nil]; omega
theorem good_n {x : It} (h : plainI x ∨ altI x) : 1 ≤ nI x ∧ nI x ≤ 2 ^ wI x ∧ stI x ≤ 6 ∧ okI x ∧ cdI x ≤ 15 * wI x := by
  rcases h with h | h
  · obtain ⟨a, b, c, d, e⟩ := plain_n h
    have := wI_pos x
    have h2 : 2 ^ 1 ≤ 2 ^ wI x := Nat.pow_le_pow_right (by decide) this
    exact ⟨a, by omega, by omega, d, by omega⟩
  · obtain ⟨k, n, v, p, lo, hi, ks⟩ := x
    obtain ⟨rfl, rfl, rfl, rfl, l, r, rfl, ⟨h1, h2, h3⟩, h4, h5, h6⟩ := h
    obtain ⟨a, b, c, d, e⟩ := plain_two h1 h3
    obtain ⟨a', b', c', d', e'⟩ := plain_two h4 h6
    have hw : wI (.mk 3 n v [] 0 0 [l, r]) = 1 + (l.length + r.length) := by simp only [wI, List.map_cons, List.map_nil, List.sum_cons, List.sum_nil]; omega
    have p1 : 2 ^ l.length ≤ 2 ^ (l.length + r.length) := Nat.pow_le_pow_right (by decide) (by omega)
    have p2 : 2 ^ r.length ≤ 2 ^ (l.length + r.length) := Nat.pow_le_pow_right (by decide) (by omega)
    have p3 : 2 ^ (1 + (l.length + r.length)) = 2 ^ (l.length + r.length) + 2 ^ (l.length + r.length) := by rw [Nat.add_comm, Nat.pow_succ]; omega
    have p4 : 2 ^ l.length ≤ 2 ^ 2 := Nat.pow_le_pow_right (by decide) h3
    have p5 : 2 ^ r.length ≤ 2 ^ 2 := Nat.pow_le_pow_right (by decide) h6
    have hn : nI (.mk 3 n v [] 0 0 [l, r]) = nL l 1 + nL r 1 := by
      simp only [nI, show ¬ ((3 : Int) = 1) by decide, if_false, if_true, nK, Nat.zero_add]
      rw [Nat.min_eq_left (by omega : nL l 1 ≤ 1048576), Nat.min_eq_left (by omega)]
    have hs : stI (.mk 3 n v [] 0 0 [l, r]) = max (stL l 0) (stL r 0) := by
      simp only [stI, show ¬ ((3 : Int) = 1) by decide, show ¬ ((3 : Int) = 2) by decide, if_false, if_true, stK]; omega
    rw [hw, hn, hs, p3]
    refine ⟨by omega, by omega, by omega, ⟨by show (2 : Nat) < _; decide, fun h => absurd h (by decide), ?_⟩, ?_⟩
    · exact okK_iff.2 fun z hz => by
        rcases List.mem_cons.1 hz with rfl | hz
        · exact d
        · obtain rfl := List.mem_singleton.1 hz; exact d'
    · simp only [cdI, cdK, szEs]; omega
theorem good_all : ∀ {l : List It}, Good l → 1 ≤ pL l ∧ pL l ≤ 2 ^ wL l ∧ sL l ≤ 6 * wL l ∧ cdL l ≤ 15 * wL l ∧ l.length ≤ wL l ∧ (∀ x ∈ l, 1 ≤ nI x) ∧ ∀ x ∈ l, okI x
  | [], _ => ⟨Nat.le_refl _, Nat.le_refl _, Nat.le_refl _, Nat.le_refl _, Nat.le_refl _, fun _ h => (nomatch h), fun _ h => (nomatch h)⟩
  | x :: l, h => by
    obtain ⟨a, b, c, d, e, f, g⟩ := good_all (l := l) fun y hy => h y (List.mem_cons_of_mem _ hy)
    obtain ⟨a', b', c', d', e'⟩ := good_n (h x (List.mem_cons_self ..))
    have hw := wI_pos x
    rw [pL_cons, sL_cons, wL_cons, Nat.pow_add]
    refine ⟨Nat.mul_pos a' a, Nat.mul_le_mul b' b, by omega, by simp only [cdL]; omega, by rw [List.length_cons]; omega, fun y hy => ?_, fun y hy => ?_⟩
    · rcases List.mem_cons.1 hy with rfl | hy
      · exact a'
      · exact f y hy
    · rcases List.mem_cons.1 hy with rfl | hy
      · exact d'
      · exact g y hy
theorem good_law {l : List It} (h : Good l) (hw : wL l ≤ 18) : okL l ∧ nL l 1 = pL l ∧ stL l 0 = sL l ∧ cdL l < 2 ^ 60 := by
  obtain ⟨a, b, c, d, e, f, g⟩ := good_all h
  have p : 2 ^ wL l ≤ 2 ^ 18 := Nat.pow_le_pow_right (by decide) hw
  have p' : (2 : Nat) ^ 18 = 262144 := by decide
  exact ⟨okL_iff.2 ⟨by omega, g⟩, by rw [nL_mul l 1 f (by omega)]; omega, by rw [stL_sum l 0 (by omega)]; omega, by omega⟩
end Go.Proofs.YtnccejmggcjaoaaGreatDoor.Av
