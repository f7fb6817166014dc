/-
  jettisonlaw11.CheckBy: WHATEVER THE INPUT, THE ABSTRACT MACHINE ANSWERS true.
-/
import Derived.Test.YtnccejmggcjaoaaGreatDoorOnes
import Derived.Test.YtnccejmggcjaoaaGreatDoorEx11
namespace Go.Proofs.YtnccejmggcjaoaaGreatDoor.Av
set_option linter.unusedVariables false
set_option linter.unusedSimpArgs false
set_option maxRecDepth 1000000
open Go
theorem nilK : (V.ref 2 0 0 0 0 false) = .nilSlice := rfl
theorem app_row {st : St} {e size bytes n ks : Nat} {v : V} {cs news : List V} (h : (v = .ref 2 0 0 0 0 false ∧ cs = [] ∧ n = 0) ∨ ∃ k, v = .ref 3 k 0 n n false ∧ st.mem.get k = some (.cells e cs true)) (hl : cs.length = n * size)
    (hs : st.mem.get ks = some (.cells e news true)) (hnl : news.length = size) (hb : (n + 1) * bytes ≤ 140737488355328) :
    ∃ S : St, (∀ (tm : Tr V) (x y : X), X.ev tm x = v → X.ev tm y = .ref 3 ks 0 1 1 true → iApp false e size bytes x y tm st = some (.ref 3 st.next 0 (n + 1) (n + 1) false, S)) ∧ S.next = st.next + 1 ∧ S.mem.get st.next = some (.cells e (cs ++ news) true) ∧
      (∀ x, x < st.next → (∀ k m, v = .ref 3 k 0 m m false → x ≠ k) → S.mem.get x = st.mem.get x) ∧ ∀ L, L ≤ st.low → (∀ k m, v = .ref 3 k 0 m m false → L ≤ k) → L ≤ S.low := by
  have hsrc : srcF false st size (.ref 3 ks 0 1 1 true) = some (news, 1) := by
    show onCells none (fun _ cs _ => bif Nat.ble (Nat.add 0 (Nat.mul 1 size)) (lenL cs) then some (takeL (dropL cs 0) (Nat.mul 1 size), 1) else none) (st.mem.get ks) = _
    rw [hs]
    show (bif Nat.ble (Nat.add 0 (Nat.mul 1 size)) (lenL news) then some (takeL (dropL news 0) (Nat.mul 1 size), 1) else none) = _
    have h1 : Nat.mul 1 size = size := Nat.one_mul _
    rw [lenL_eq, h1, show Nat.ble (Nat.add 0 size) news.length = true from bleT (show 0 + size ≤ news.length by omega), takeL_eq, dropL_eq, List.drop_zero, List.take_of_length_le (by omega)]; rfl
  rcases h with ⟨rfl, rfl, rfl⟩ | ⟨k, rfl, hg⟩
  · refine ⟨st.new (.cells e news true), fun tm x y hx hy => ?_, rfl, by rw [List.nil_append]; exact new_get_self' _ _, fun x hx _ => by rw [new_get, if_neg (by omega)], fun L hL _ => hL⟩
    unfold iApp
    rw [hx, hy, hsrc]
    show (bif Nat.ble (Nat.mul 1 bytes) 140737488355328 then some (V.ref 3 st.next 0 1 1 false, st.new (.cells e news true)) else none) = _
    have h1 : Nat.mul 1 bytes = 1 * bytes := rfl
    rw [h1, bleT (by omega)]; rfl
  · refine ⟨(st.put k none).new (.cells e (cs ++ news) true), fun tm x y hx hy => ?_, rfl, new_get_self' _ _, fun x hx hv => ?_, fun L hL hv => ?_⟩
    · unfold iApp
      rw [hx, hy, hsrc]
      show (bif Nat.ble (Nat.add n 1) n then appIn st size news 1 k 0 n n false else appNew st e size bytes news 1 k 0 n false) = _
      rw [show Nat.ble (Nat.add n 1) n = false from bleF (by show ¬ n + 1 ≤ n; omega)]
      show onCells none _ (st.mem.get k) = _
      rw [hg]
      show (bif Nat.ble (Nat.add 0 (Nat.mul n size)) (lenL cs) && Nat.ble (Nat.mul (Nat.add n 1) bytes) 140737488355328 then
        (bif true && Nat.beq e e then some (V.ref 3 st.next 0 (Nat.add n 1) (Nat.add n 1) false, (st.put k none).new (.cells e (appL (takeL (dropL cs 0) (Nat.mul n size)) news) true)) else none) else none) = _
      have h1 : Nat.mul n size = n * size := rfl
      rw [lenL_eq, h1, show Nat.ble (Nat.add 0 (n * size)) cs.length = true from bleT (show 0 + n * size ≤ cs.length by omega), show Nat.ble (Nat.mul (Nat.add n 1) bytes) 140737488355328 = true from bleT hb, beqT rfl, appL_eq, takeL_eq, dropL_eq, List.drop_zero, List.take_of_length_le (by omega)]; rfl
    · rw [new_get, if_neg (by show x ≠ st.next; omega), put_get, if_neg (hv k n rfl)]
    · show L ≤ (st.put k none).low
      rw [put_low]
      have := hv k n rfl
      omega
def namesA : List Str := [[65], [66], [67]]
abbrev fldsA : List Str := byL
def itemOf (b : Nat) : It := .mk 0 (namesA.getD (b % 3) []) [118] [] 0 0 []
def hasK (f : Str) (k : Nat) : Bool := decide (f = [] ∨ f = [107] ∨ (f = [120] ∧ k ≠ 1) ∨ (f = [121] ∧ k ≠ 0))
theorem one_of (b : Nat) : OneI (itemOf b) := by
  have h : b % 3 < 3 := Nat.mod_lt _ (by decide)
  unfold itemOf
  generalize b % 3 = k at h
  match k, h with
  | 0, _ => exact ⟨[65], [118], 0, rfl, .inl ⟨rfl, rfl⟩, by decide, by decide⟩
  | 1, _ => exact ⟨[66], [118], 1, rfl, .inr (.inl ⟨rfl, rfl⟩), by decide, by decide⟩
  | 2, _ => exact ⟨[67], [118], 2, rfl, .inr (.inr ⟨rfl, rfl⟩), by decide, by decide⟩
theorem pass_of {f : Str} (hf : f ∈ fldsA) (b : Nat) : PassI FndK fldK f (itemOf b) ↔ hasK f (b % 3) = true := by
  have h : b % 3 < 3 := Nat.mod_lt _ (by decide)
  unfold itemOf
  generalize b % 3 = k at h
  have key : ∀ (f : Str), f ∈ fldsA → ∀ k, k < 3 → ((f = [] ∨ 0 ≤ fldK k f) ↔ hasK f k = true) := by
    intro f hf k hk
    simp only [fldsA, byL, List.mem_cons, List.not_mem_nil, or_false] at hf
    match k, hk with
    | 0, _ => rcases hf with rfl | rfl | rfl | rfl | rfl <;> decide
    | 1, _ => rcases hf with rfl | rfl | rfl | rfl | rfl <;> decide
    | 2, _ => rcases hf with rfl | rfl | rfl | rfl | rfl <;> decide
  rw [← key f hf k h]
  match k, h with
  | 0, _ => exact ⟨fun h => h 0 (.inl ⟨rfl, rfl⟩), fun h k hk => by obtain rfl := fndK_fun _ _ _ hk (.inl ⟨rfl, rfl⟩); exact h⟩
  | 1, _ => exact ⟨fun h => h 1 (.inr (.inl ⟨rfl, rfl⟩)), fun h k hk => by obtain rfl := fndK_fun _ _ _ hk (.inr (.inl ⟨rfl, rfl⟩)); exact h⟩
  | 2, _ => exact ⟨fun h => h 2 (.inr (.inr ⟨rfl, rfl⟩)), fun h k hk => by obtain rfl := fndK_fun _ _ _ hk (.inr (.inr ⟨rfl, rfl⟩)); exact h⟩
theorem by_ok {f : Str} (hf : f ∈ fldsA) : byOk f := by
  simp only [fldsA, byL, List.mem_cons, List.not_mem_nil, or_false] at hf
  rcases hf with rfl | rfl | rfl | rfl | rfl
  · exact .inr (.inl rfl)
  · exact .inr (.inr (.inl rfl))
  · exact .inr (.inr (.inr (.inl rfl)))
  · exact .inr (.inr (.inr (.inr rfl)))
  · exact .inl rfl
theorem says_law {f : Str} (hf : f ∈ fldsA) {l : List Nat} {e : Int} (h : Says (l.map itemOf) f e) : (e = 0 ∧ (l.all fun b => hasK f (b % 3)) = true) ∨ (e = 5 ∧ (l.all fun b => hasK f (b % 3)) = false) := by
  rcases h with ⟨rfl, h⟩ | ⟨rfl, x, hx, h⟩
  · exact .inl ⟨rfl, List.all_eq_true.2 fun b hb => (pass_of hf b).1 (h _ (List.mem_map_of_mem hb))⟩
  · obtain ⟨b, hb, rfl⟩ := List.mem_map.1 hx
    refine .inr ⟨rfl, Bool.eq_false_iff.2 fun ha => h ((pass_of hf b).2 (List.all_eq_true.1 ha b hb))⟩
end Go.Proofs.YtnccejmggcjaoaaGreatDoor.Av
