/-
  parse's query ON THE WORDS of ParseNumbers: what it hands back, and its state.
-/
import Derived.Test.YtnebopkgnkemiaaGreatDoorPnR
namespace Go.Proofs.YtnebopkgnkemiaaGreatDoor.Av
set_option linter.unusedVariables false
set_option linter.unusedSimpArgs false
set_option maxRecDepth 1000000
open Go
section
variable (g : List V → St → Option (CR × St)) (x y D : List UInt8) (a b w m len : Nat)
abbrev qV (w : Nat) : V := .cmp 2 0 [aI, .int 63 (Int.ofNat w), .str []]
noncomputable def stN : St := back (stQ3 g x y D a b w m len) (.ret (.int 63 (Int.ofNat w))) (stQ4 g x y D a b w m len)
noncomputable def stQ5 : St := pnStS (stW 1 (.ref 1 (stQ1 g x y D a b w m len).next 1 0 0 false) (.int 63 (Int.ofNat w)) (stN g x y D a b w m len))
noncomputable def stQ6 : St := pnStS (stW 3 (.ref 1 (stB6 x y D a b w m len).next 0 0 0 false) (qV w) (stQ5 g x y D a b w m len))
noncomputable def stQ7 : St := back (stB6 x y D a b w m len) (.ret (qV w)) (stQ6 g x y D a b w m len)
noncomputable def stX : St := back (stB6 x y D a b w m len) (.pan (wrongV 16)) (back (stQ3 g x y D a b w m len) (.pan (wrongV 16)) (inS (stQ3 g x y D a b w m len)))
end
section
variable {g : List V → St → Option (CR × St)} {x y D : List UInt8} {a b w m len : Nat} (h : okAB a b)
include h
theorem within_ok : stW 1 (.ref 1 (stQ1 g x y D a b w m len).next 1 0 0 false) (.int 63 (Int.ofNat w)) (stN g x y D a b w m len) = some (.undef, stQ5 g x y D a b w m len) := by
  rcases h with ⟨rfl, rfl⟩ | ⟨rfl, rfl⟩ | ⟨rfl, rfl⟩ | ⟨rfl, rfl⟩ | ⟨rfl, rfl⟩ | ⟨rfl, rfl⟩ | ⟨rfl, rfl⟩ | ⟨rfl, rfl⟩ | ⟨rfl, rfl⟩ | ⟨rfl, rfl⟩ <;> (show _ = _; kernel_rfl)
theorem eat_ok : evF (pnTabP g) 400 26 [aP, .str [66, 89]] (stQ5 g x y D a b w m len) = some (.ret (.bool false), stQ5 g x y D a b w m len) := by
  rcases h with ⟨rfl, rfl⟩ | ⟨rfl, rfl⟩ | ⟨rfl, rfl⟩ | ⟨rfl, rfl⟩ | ⟨rfl, rfl⟩ | ⟨rfl, rfl⟩ | ⟨rfl, rfl⟩ | ⟨rfl, rfl⟩ | ⟨rfl, rfl⟩ | ⟨rfl, rfl⟩ <;> (show _ = _; kernel_rfl)
theorem load_ok : ldW true 3 (.ref 1 (stQ1 g x y D a b w m len).next 0 0 0 false) (stQ5 g x y D a b w m len) = some (qV w) := by
  rcases h with ⟨rfl, rfl⟩ | ⟨rfl, rfl⟩ | ⟨rfl, rfl⟩ | ⟨rfl, rfl⟩ | ⟨rfl, rfl⟩ | ⟨rfl, rfl⟩ | ⟨rfl, rfl⟩ | ⟨rfl, rfl⟩ | ⟨rfl, rfl⟩ | ⟨rfl, rfl⟩ <;> (show _ = _; kernel_rfl)
theorem last_ok : stW 3 (.ref 1 (stB6 x y D a b w m len).next 0 0 0 false) (qV w) (stQ5 g x y D a b w m len) = some (.undef, stQ6 g x y D a b w m len) := by
  rcases h with ⟨rfl, rfl⟩ | ⟨rfl, rfl⟩ | ⟨rfl, rfl⟩ | ⟨rfl, rfl⟩ | ⟨rfl, rfl⟩ | ⟨rfl, rfl⟩ | ⟨rfl, rfl⟩ | ⟨rfl, rfl⟩ | ⟨rfl, rfl⟩ | ⟨rfl, rfl⟩ <;> (show _ = _; kernel_rfl)
theorem resQ_ok : ldW true 3 (.ref 1 (stB6 x y D a b w m len).next 0 0 0 false) (stQ6 g x y D a b w m len) = some (qV w) := by
  rcases h with ⟨rfl, rfl⟩ | ⟨rfl, rfl⟩ | ⟨rfl, rfl⟩ | ⟨rfl, rfl⟩ | ⟨rfl, rfl⟩ | ⟨rfl, rfl⟩ | ⟨rfl, rfl⟩ | ⟨rfl, rfl⟩ | ⟨rfl, rfl⟩ | ⟨rfl, rfl⟩ <;> (show _ = _; kernel_rfl)
omit h in
theorem leave_memQ {st st' : St} {tm : Tr V} {j n : Nat} {v : V} (hv : ldW true n (X.ev tm (.t (pa j))) st' = some v) : leaveF st [.m (pa j) true n] (some (.ret, tm, st')) = some (.ret v, back st (.ret v) st') := by
  show (Option.rec none (fun v => some (.ret v, back st (.ret v) st')) (iLoad true n (.t (pa j)) tm st') : Option (CR × St)) = _
  rw [m_load, hv]
omit h in
theorem leave_panQ {st st' : St} {tm : Tr V} {rs : List RV} {v : V} : leaveF st rs (some (.pan v, tm, st')) = some (.pan v, back st (.pan v) st') := rfl
theorem query_ok (hw : w ≤ 1000000000) : outQ g x y D a b w m len = some (.ret (qV w), stQ7 g x y D a b w m len) := by
  obtain ⟨S, hn, hS⟩ := number_ok (g := g) (x := x) (y := y) (D := D) (m := m) (len := len) h hw
  have hSN : S = stN g x y D a b w m len := hS
  subst hSN
  have b1 : ∀ tm, iAlloc 27 [.ref 2 0 0 0 0 false, .int 63 0, .str []] tm { next := (stB6 x y D a b w m len).next, low := (stB6 x y D a b w m len).next, mem := (stB6 x y D a b w m len).mem } = some (.ref 1 (stB6 x y D a b w m len).next 0 0 0 false, stQ0 x y D a b w m len) := fun tm => rfl
  have b2 : ∀ tm, iAlloc 27 [.ref 2 0 0 0 0 false, .int 63 0, .str []] tm (stQ1 g x y D a b w m len) = some (.ref 1 (stQ1 g x y D a b w m len).next 0 0 0 false, (stQ1 g x y D a b w m len).new (.cells 27 zQ true)) := fun tm => rfl
  have bd : ∀ (tm : Tr V) (s : St), X.ev tm (.t (pa 5)) = aI → iBuild [.ref 2 0 0 0 0 false, .int 63 0, .str []] [(0, 1, .t (pa 5))] tm s = some (.cmp 2 0 [aI, .int 63 0, .str []]) := fun tm s h => by
    show (Option.rec none (fun l => some (V.agg l)) (fillV tm zQ [(0, 1, .t (pa 5))]) : Option V) = _
    have : fillV tm zQ [(0, 1, .t (pa 5))] = some [aI, .int 63 0, .str []] := by
      show (match (X.ev tm (.t (pa 5))).cells? with | none => none | some cs => bif Nat.beq (lenL cs) 1 && Nat.ble (Nat.add 0 1) (lenL zQ) then some (splice zQ 0 cs) else none) = _
      rw [h]; rfl
    rw [this]
  unfold outQ
  rw [ev_mk get_query]
  simp only [c11_0, c11_1, c11_2, c11_3, c11_4, c11_5, c11_6, yY, iInt, iStr, iLenS, iLenL, iNot, iPick, iExt, if_true, if_false, reduceIte, Nat.reduceEqDiff, Nat.reduceAdd, reduceCtorEq, yQ, b1, b2, bd, list_ok h, m_store, store_ok h, take_ok h, hn, m_fad, m_add0, within_ok h, eat_ok h, m_load, load_ok h, last_ok h]
  exact leave_memQ (by simp only [yL, if_true, if_false, reduceIte, Nat.reduceEqDiff, reduceCtorEq]; exact resQ_ok h)
theorem query_bad (hw : 1000000000 < w) : outQ g x y D a b w m len = some (.pan (wrongV 16), stX g x y D a b w m len) := by
  obtain ⟨S, hn, hS⟩ := number_bad (g := g) (x := x) (y := y) (D := D) (m := m) (len := len) h hw
  subst hS
  have b1 : ∀ tm, iAlloc 27 [.ref 2 0 0 0 0 false, .int 63 0, .str []] tm { next := (stB6 x y D a b w m len).next, low := (stB6 x y D a b w m len).next, mem := (stB6 x y D a b w m len).mem } = some (.ref 1 (stB6 x y D a b w m len).next 0 0 0 false, stQ0 x y D a b w m len) := fun tm => rfl
  have b2 : ∀ tm, iAlloc 27 [.ref 2 0 0 0 0 false, .int 63 0, .str []] tm (stQ1 g x y D a b w m len) = some (.ref 1 (stQ1 g x y D a b w m len).next 0 0 0 false, (stQ1 g x y D a b w m len).new (.cells 27 zQ true)) := fun tm => rfl
  have bd : ∀ (tm : Tr V) (s : St), X.ev tm (.t (pa 5)) = aI → iBuild [.ref 2 0 0 0 0 false, .int 63 0, .str []] [(0, 1, .t (pa 5))] tm s = some (.cmp 2 0 [aI, .int 63 0, .str []]) := fun tm s h => by
    show (Option.rec none (fun l => some (V.agg l)) (fillV tm zQ [(0, 1, .t (pa 5))]) : Option V) = _
    have : fillV tm zQ [(0, 1, .t (pa 5))] = some [aI, .int 63 0, .str []] := by
      show (match (X.ev tm (.t (pa 5))).cells? with | none => none | some cs => bif Nat.beq (lenL cs) 1 && Nat.ble (Nat.add 0 1) (lenL zQ) then some (splice zQ 0 cs) else none) = _
      rw [h]; rfl
    rw [this]
  have hp : ∀ (d : Option Pa) (k : K) (call : Callee) (tm : Tr V) (v : V) (s : St), goR d k call tm (some (.pan v, s)) = some (.pan v, tm, s) := fun _ _ _ _ _ _ => rfl
  unfold outQ
  rw [ev_mk get_query]
  simp only [c11_0, c11_1, c11_2, c11_3, yY, iInt, iStr, iLenS, iLenL, iNot, iPick, iExt, if_true, if_false, reduceIte, Nat.reduceEqDiff, Nat.reduceAdd, reduceCtorEq, yQ, b1, b2, bd, list_ok h, m_store, store_ok h, take_ok h, hn, hp, x_then_pan]
  exact leave_panQ
end
end Go.Proofs.YtnebopkgnkemiaaGreatDoor.Av
