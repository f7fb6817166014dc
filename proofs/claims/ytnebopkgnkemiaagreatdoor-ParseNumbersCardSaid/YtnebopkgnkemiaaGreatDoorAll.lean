/-
  lex.All: WHAT IT ANSWERS of every text: the words in memory.
-/
import Derived.Test.YtnebopkgnkemiaaGreatDoorNextB
import Derived.Test.YtnebopkgnkemiaaGreatDoorTrim
namespace Go.Proofs.YtnebopkgnkemiaaGreatDoor.Av
set_option linter.unusedVariables false
set_option linter.unusedSimpArgs false
set_option maxRecDepth 1000000
open Go
noncomputable def nextT (s : List UInt8) : List UInt8 := bif Nat.blt 0 (firstL letterG s) then s.take (firstL bothG s) else bif Nat.blt 0 (firstL digitG s) then s.take (firstL digitG s) else (fstPre s signs).getD []
noncomputable def isKeyL (t : List UInt8) : Bool := eqS t [87, 73, 84, 72, 73, 78] || eqS t [66, 89]
noncomputable def numOf (t : List UInt8) : Option Int := match Lib.parseIntB 64 t with
  | .ok v => bif eqS (Lib.itoa v) t then some v else none
  | _ => none
noncomputable def nextK (s : List UInt8) : Int := bif Nat.blt 0 (firstL letterG s) then (bif isKeyL (nextT s) then 4 else 1) else bif Nat.blt 0 (firstL digitG s) then 2 else bif (fstPre s signs).isSome then 3 else 0
noncomputable def nextN (s : List UInt8) : Int := bif Nat.blt 0 (firstL letterG s) then 0 else bif Nat.blt 0 (firstL digitG s) then (numOf (nextT s)).getD 0 else 0
noncomputable def nextB (s : List UInt8) : Bool := bif Nat.blt 0 (firstL letterG s) then (isKeyL (nextT s) || isNameL (nextT s)) else bif Nat.blt 0 (firstL digitG s) then (numOf (nextT s)).isSome else (fstPre s signs).isSome
theorem nextV_eq (s : List UInt8) : nextV s = .tup [.agg [.int 63 (nextK s), .str (nextT s), .int 63 (nextN s), .int 63 0], .bool (nextB s)] := by
  unfold nextV nextK nextN nextB nextT
  cases Nat.blt 0 (firstL letterG s) with
  | true =>
    simp only [cond_true]
    unfold nameTok isKeyL
    cases (eqS (s.take (firstL bothG s)) [87, 73, 84, 72, 73, 78] || eqS (s.take (firstL bothG s)) [66, 89]) with
    | true => rfl
    | false => rfl
  | false =>
  simp only [cond_false]
  cases Nat.blt 0 (firstL digitG s) with
  | true =>
    simp only [cond_true]
    unfold numTok numOf
    match Lib.parseIntB 64 (s.take (firstL digitG s)) with
    | Lib.NumEnd.ok v =>
      simp only
      cases eqS (Lib.itoa v) (s.take (firstL digitG s)) with
      | true => rfl
      | false => rfl
    | Lib.NumEnd.range => rfl
    | Lib.NumEnd.syntax => rfl
  | false =>
    simp only [cond_false]
    unfold signV
    cases fstPre s signs with
    | none => rfl
    | some c => rfl
structure TokA where
  k : Int
  t : List UInt8
  v : Int
  pos : Nat
def TokA.cells (x : TokA) : List V := [.int 63 x.k, .str x.t, .int 63 x.v, .int 63 (.ofNat x.pos)]
def cellsA (l : List TokA) : List V := l.flatMap TokA.cells
theorem cellsA_len (l : List TokA) : (cellsA l).length = l.length * 4 := by
  induction l with
  | nil => rfl
  | cons x l ih =>
    show (x.cells ++ cellsA l).length = _
    rw [List.length_append, ih]
    show 4 + _ = (l.length + 1) * 4
    omega
theorem cellsA_snoc (l : List TokA) (x : TokA) : cellsA (l ++ [x]) = cellsA l ++ x.cells := by
  unfold cellsA
  rw [List.flatMap_append]
  simp
noncomputable def allL : Nat → List UInt8 → Nat → Option (List TokA) × Nat
  | 0, l, pos => (none, pos)
  | f + 1, l, pos =>
    if dropSp l = [] then (some [], pos + l.length)
    else if nextB (dropSp l) = true then
      ((allL f ((dropSp l).drop (nextT (dropSp l)).length) (pos + (l.length - (dropSp l).length) + (nextT (dropSp l)).length)).1.map fun ts => ⟨nextK (dropSp l), nextT (dropSp l), nextN (dropSp l), pos + (l.length - (dropSp l).length)⟩ :: ts,
        (allL f ((dropSp l).drop (nextT (dropSp l)).length) (pos + (l.length - (dropSp l).length) + (nextT (dropSp l)).length)).2)
    else (none, pos + (l.length - (dropSp l).length))
theorem dropSp_suffix : ∀ l : List UInt8, (dropSp l).length ≤ l.length ∧ l.drop (l.length - (dropSp l).length) = dropSp l
  | [] => ⟨Nat.le_refl _, rfl⟩
  | b :: l => by
    obtain ⟨h1, h2⟩ := dropSp_suffix l
    rw [dropSp_cons]
    cases spN b.toNat with
    | true =>
      rw [cond_true]
      refine ⟨Nat.le_succ_of_le h1, ?_⟩
      rw [List.length_cons, show l.length + 1 - (dropSp l).length = (l.length - (dropSp l).length) + 1 by omega, List.drop_succ_cons]
      exact h2
    | false =>
      rw [cond_false]
      exact ⟨Nat.le_refl _, by rw [Nat.sub_self]; rfl⟩
theorem nextT_le (s : List UInt8) : (nextT s).length ≤ s.length := by
  unfold nextT
  cases Nat.blt 0 (firstL letterG s) with
  | true => rw [cond_true, List.length_take]; omega
  | false =>
  cases Nat.blt 0 (firstL digitG s) with
  | true => rw [cond_false, cond_true, List.length_take]; omega
  | false =>
    rw [cond_false, cond_false]
    have key : ∀ l : List (List UInt8), ((fstPre s l).getD []).length ≤ s.length := by
      intro l
      induction l with
      | nil => exact Nat.zero_le _
      | cons c l ih =>
        show ((bif isPre c s then some c else fstPre s l).getD []).length ≤ _
        cases h : isPre c s with
        | true =>
          rw [isPre_eq, Bool.and_eq_true] at h
          exact of_decide_eq_true h.1
        | false => exact ih
    exact key signs
end Go.Proofs.YtnebopkgnkemiaaGreatDoor.Av
