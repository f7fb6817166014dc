/-
  THE TABLE: what it holds is what the program's functions come to.
-/
import Derived.Test.YtjdbcfnlehedmaaGreatDoorAvDefer
namespace Go.Proofs.YtjdbcfnlehedmaaGreatDoor.Av
set_option linter.unusedVariables false
open Go Go.RowKit

def AllT {α : Type} : (Nat → α → Prop) → Tr α → Prop
  | _, .leaf => True
  | Q, .node l o r => AllT (fun n => Q (2 * n + 1)) l ∧ (∀ x, o = some x → Q 0 x) ∧ AllT (fun n => Q (2 * n + 2)) r
theorem AllT.get {α : Type} : ∀ {t : Tr α} {Q : Nat → α → Prop}, AllT Q t → ∀ n x, t.get n = some x → Q n x
  | .leaf, Q, _, n, x, h => by rw [get_leaf] at h; exact nomatch h
  | .node l o r, Q, ⟨h1, h2, h3⟩, n, x, h => by
    rw [get_node] at h
    split at h
    · rename_i h0; subst h0; exact h2 x h
    · split at h
      · rename_i h0 h4
        have := AllT.get h1 _ x h
        rwa [show 2 * (n / 2) + 1 = n by omega] at this
      · rename_i h0 h4
        have := AllT.get h3 _ x h
        rwa [show 2 * (n / 2 - 1) + 2 = n by omega] at this
theorem no_entry {Q : Fs → Prop} : ∀ x, (none : Option Fs) = some x → Q x := fun x h => nomatch h
theorem an_entry {Q : Fs → Prop} {fs : Fs} (h : Q fs) : ∀ x, (some fs : Option Fs) = some x → Q x := fun x e => by cases e; exact h
theorem tableOk {P : Program} {fns : Tr Fs} (h : AllT (FOk P) fns) : TableOk P fns := fun f fs hf => AllT.get h f fs hf
end Go.Proofs.YtjdbcfnlehedmaaGreatDoor.Av
