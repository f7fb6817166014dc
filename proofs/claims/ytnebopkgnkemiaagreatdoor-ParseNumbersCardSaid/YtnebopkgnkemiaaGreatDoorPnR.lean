/-
  parse's query ON THE WORDS of ParseNumbers, as a whole: the window's number may stand there, or not.
-/
import Derived.Test.YtnebopkgnkemiaaGreatDoorPnQ
import Derived.Test.YtnebopkgnkemiaaGreatDoorBun
namespace Go.Proofs.YtnebopkgnkemiaaGreatDoor.Av
set_option linter.unusedVariables false
set_option linter.unusedSimpArgs false
set_option maxRecDepth 1000000
open Go
section
variable {g : List V → St → Option (CR × St)} {x y D : List UInt8} {a b w m len : Nat} (h : okAB a b)
include h
abbrev inS (s : St) : St := { next := s.next, low := s.next, mem := s.mem }
theorem peek_ok : evF (pnTabP g) 399 42 [aP] (inS (stQ3 g x y D a b w m len)) = some (.ret (.cmp 2 0 [.int 63 2, .str D, .int 63 (Int.ofNat w), .int 63 16]), inS (stQ3 g x y D a b w m len)) := by
  rcases h with ⟨rfl, rfl⟩ | ⟨rfl, rfl⟩ | ⟨rfl, rfl⟩ | ⟨rfl, rfl⟩ | ⟨rfl, rfl⟩ | ⟨rfl, rfl⟩ | ⟨rfl, rfl⟩ | ⟨rfl, rfl⟩ | ⟨rfl, rfl⟩ | ⟨rfl, rfl⟩ <;> (show _ = _; kernel_rfl)
theorem word_ok : evF (pnTabP g) 399 43 [aP, .int 63 2] (inS (stQ3 g x y D a b w m len)) = some (.ret (.cmp 2 0 [.int 63 2, .str D, .int 63 (Int.ofNat w), .int 63 16]), stQ4 g x y D a b w m len) := by
  rcases h with ⟨rfl, rfl⟩ | ⟨rfl, rfl⟩ | ⟨rfl, rfl⟩ | ⟨rfl, rfl⟩ | ⟨rfl, rfl⟩ | ⟨rfl, rfl⟩ | ⟨rfl, rfl⟩ | ⟨rfl, rfl⟩ | ⟨rfl, rfl⟩ | ⟨rfl, rfl⟩ <;> (show _ = _; kernel_rfl)
theorem mustT_ok : evF (pnTabP g) 399 23 [aP, .bool true] (inS (stQ3 g x y D a b w m len)) = some (.ret .undef, inS (stQ3 g x y D a b w m len)) := by
  rcases h with ⟨rfl, rfl⟩ | ⟨rfl, rfl⟩ | ⟨rfl, rfl⟩ | ⟨rfl, rfl⟩ | ⟨rfl, rfl⟩ | ⟨rfl, rfl⟩ | ⟨rfl, rfl⟩ | ⟨rfl, rfl⟩ | ⟨rfl, rfl⟩ | ⟨rfl, rfl⟩ <;> (show _ = _; kernel_rfl)
theorem mustF_ok : evF (pnTabP g) 399 23 [aP, .bool false] (inS (stQ3 g x y D a b w m len)) = some (.pan (wrongV 16), inS (stQ3 g x y D a b w m len)) := by
  rcases h with ⟨rfl, rfl⟩ | ⟨rfl, rfl⟩ | ⟨rfl, rfl⟩ | ⟨rfl, rfl⟩ | ⟨rfl, rfl⟩ | ⟨rfl, rfl⟩ | ⟨rfl, rfl⟩ | ⟨rfl, rfl⟩ | ⟨rfl, rfl⟩ | ⟨rfl, rfl⟩ <;> (show _ = _; kernel_rfl)
omit h in
theorem get_number : (pnTabP g).get 25 = some sh25 := by kernel_rfl
omit h in
theorem get_query : (pnTabP g).get 11 = some sh11 := by kernel_rfl
theorem number_ok (hw : w ≤ 1000000000) : ∃ S, evF (pnTabP g) 400 25 [aP, .int 63 0, .int 63 1000000000] (stQ3 g x y D a b w m len) = some (.ret (.int 63 (Int.ofNat w)), S) ∧ S = back (stQ3 g x y D a b w m len) (.ret (.int 63 (Int.ofNat w))) (stQ4 g x y D a b w m len) := by
  have e1 : fGeq 63 (Int.ofNat w) 0 = some (.bool true) := rfl
  have e2 : fLeq 63 (Int.ofNat w) 1000000000 = some (.bool true) := by
    show some (V.bool (!ltI 1000000000 (Int.ofNat w))) = _
    rw [ltI_eq, decide_eq_false (by show ¬ (1000000000 : Int) < (w : Int); omega)]; rfl
  have f1 : iFld false 2 1 = fun x tm st => (x.ev tm).onAgg none (fun l => part false l 2 1) := rfl
  have f2 : part false [.int 63 2, .str D, .int 63 (Int.ofNat w), .int 63 16] 2 1 = some (.int 63 (Int.ofNat w)) := rfl
  refine ⟨_, ?_, rfl⟩
  rw [ev_mk get_number]
  simp only [c25_0, c25_1, c25_2, c25_3, yY, iInt, iStr, iLenS, iLenL, iNot, iPick, iExt, if_true, if_false, reduceIte, Nat.reduceEqDiff, Nat.reduceAdd, reduceCtorEq, yQ, peek_ok h, word_ok h, mustT_ok h, e1, e2, f1, f2]
  simp only [leaveF]; rfl
theorem number_bad (hw : 1000000000 < w) : ∃ S, evF (pnTabP g) 400 25 [aP, .int 63 0, .int 63 1000000000] (stQ3 g x y D a b w m len) = some (.pan (wrongV 16), S) ∧ S = back (stQ3 g x y D a b w m len) (.pan (wrongV 16)) (inS (stQ3 g x y D a b w m len)) := by
  have e1 : fGeq 63 (Int.ofNat w) 0 = some (.bool true) := rfl
  have e2 : fLeq 63 (Int.ofNat w) 1000000000 = some (.bool false) := by
    show some (V.bool (!ltI 1000000000 (Int.ofNat w))) = _
    rw [ltI_eq, decide_eq_true (by show (1000000000 : Int) < (w : Int); omega)]; rfl
  have f1 : iFld false 2 1 = fun x tm st => (x.ev tm).onAgg none (fun l => part false l 2 1) := rfl
  have f2 : part false [.int 63 2, .str D, .int 63 (Int.ofNat w), .int 63 16] 2 1 = some (.int 63 (Int.ofNat w)) := rfl
  have hp : ∀ (d : Option Pa) (k : K) (call : Callee) (tm : Tr V) (v : V) (s : St), goR d k call tm (some (.pan v, s)) = some (.pan v, tm, s) := fun _ _ _ _ _ _ => rfl
  refine ⟨_, ?_, rfl⟩
  rw [ev_mk get_number]
  simp only [c25_0, c25_1, c25_2, yY, iInt, iStr, iLenS, iLenL, iNot, iPick, iExt, if_true, if_false, reduceIte, Nat.reduceEqDiff, Nat.reduceAdd, reduceCtorEq, yQ, peek_ok h, mustF_ok h, e1, e2, f1, f2, hp, x_then_pan]
  rfl
end
end Go.Proofs.YtnebopkgnkemiaaGreatDoor.Av
