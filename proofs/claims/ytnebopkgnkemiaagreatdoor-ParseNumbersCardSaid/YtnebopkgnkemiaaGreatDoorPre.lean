/-
  strings.HasPrefix: WHAT IT ANSWERS.
-/
import Derived.Test.YtnebopkgnkemiaaGreatDoorBun
import Derived.Test.YtnebopkgnkemiaaGreatDoorMacC
import Derived.Test.YtnebopkgnkemiaaGreatDoorIcT
import Derived.KernelRfl
namespace Go.Proofs.YtnebopkgnkemiaaGreatDoor.Av
set_option linter.unusedVariables false
set_option linter.unusedSimpArgs false
set_option maxRecDepth 100000
open Go
noncomputable def isPre (p : List UInt8) : List UInt8 → Bool :=
  List.rec (motive := fun _ => List UInt8 → Bool) (fun _ => true) (fun a _ ih s => List.rec false (fun b s' _ => bif eqB a b then ih s' else false) s) p
theorem isPre_eq : ∀ p s : List UInt8, isPre p s = (decide (p.length ≤ s.length) && decide (s.take p.length = p))
  | [], s => by simp [isPre]
  | a :: p, [] => by simp [isPre]
  | a :: p, b :: s => by
    show (bif eqB a b then isPre p s else false) = _
    rw [isPre_eq p s, eqB_iff]
    by_cases h : a = b
    · subst h; simp
    · have h' : ¬ b = a := fun e => h e.symm
      simp [h, h']
theorem x_lenS (s : List UInt8) : lenL s = s.length := lenL_eq s
theorem get_pre : table.get 84 = some sh84 := by kernel_rfl
theorem get_pre2 : table.get 97 = some sh97 := by kernel_rfl
theorem ltI_cast (a b : Nat) : ltI (Int.ofNat a) (Int.ofNat b) = decide (a < b) := by
  rw [ltI_eq]
  by_cases h : a < b
  · rw [decide_eq_true h, decide_eq_true (by simpa using h)]
  · rw [decide_eq_false h, decide_eq_false (by simpa using h)]
theorem pre2_ev (n : Nat) (s p : List UInt8) (st : St) : evF table (n + 1) 97 [.str s, .str p] st = some (.ret (.bool (isPre p s)), st) := by
  rw [ev_mk get_pre2, isPre_eq]
  by_cases h : p.length ≤ s.length
  · have h1 : (!decide (s.length < p.length)) = true := by simp; omega
    have h2 : Nat.ble p.length s.length = true := bleT h
    have h3 : Nat.ble 0 p.length = true := rfl
    simp only [c97_0, c97_1, yX, iInt, iStr, iLenS, iLenL, iNot, iPick, iExt, if_true, if_false, reduceIte, Nat.reduceEqDiff, Nat.reduceAdd, reduceCtorEq, yQ, x_lenS, fGeq, ltI_cast, h1, iSls, optN, h2, h3, Bool.and_self, cond_true, takeL_eq, dropL_eq, List.drop_zero, sEql, eqS_eq]
    refine leave_ret (v := .bool _) ?_ (Nat.le_refl _) rfl
    simp only [yX, iInt, iStr, iLenS, iLenL, iNot, iPick, iExt, if_true, if_false, reduceIte, Nat.reduceEqDiff, Nat.reduceAdd, reduceCtorEq, yQ, h, decide_true, Bool.true_and]
  · have h1 : (!decide (s.length < p.length)) = false := by simp; omega
    simp only [c97_0, c97_1, yX, iInt, iStr, iLenS, iLenL, iNot, iPick, iExt, if_true, if_false, reduceIte, Nat.reduceEqDiff, Nat.reduceAdd, reduceCtorEq, yQ, x_lenS, fGeq, ltI_cast, h1]
    refine leave_ret (v := .bool _) ?_ (Nat.le_refl _) rfl
    simp only [yX, iInt, iStr, iLenS, iLenL, iNot, iPick, iExt, if_true, if_false, reduceIte, Nat.reduceEqDiff, Nat.reduceAdd, reduceCtorEq, yQ, h, decide_false, Bool.false_and]
theorem pre_ev (n : Nat) (s p : List UInt8) (st : St) : evF table (n + 2) 84 [.str s, .str p] st = some (.ret (.bool (isPre p s)), st) := by
  rw [ev_mk get_pre]
  simp only [c84_0, c84_1, yX, iInt, iStr, iLenS, iLenL, iNot, iPick, iExt, if_true, if_false, reduceIte, Nat.reduceEqDiff, Nat.reduceAdd, reduceCtorEq, yQ, pre2_ev]
  refine leave_ret (v := .bool _) ?_ (Nat.le_refl _) rfl
  simp only [yX, iInt, iStr, iLenS, iLenL, iNot, iPick, iExt, if_true, if_false, reduceIte, Nat.reduceEqDiff, Nat.reduceAdd, reduceCtorEq, yQ]
end Go.Proofs.YtnebopkgnkemiaaGreatDoor.Av
