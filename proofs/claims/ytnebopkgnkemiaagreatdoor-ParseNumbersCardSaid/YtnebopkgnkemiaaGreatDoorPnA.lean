/-
  lex.All: its words, as cells that nobody turns any more.
-/
import Derived.Test.YtnebopkgnkemiaaGreatDoorAllC
namespace Go.Proofs.YtnebopkgnkemiaaGreatDoor.Av
set_option linter.unusedVariables false
set_option linter.unusedSimpArgs false
set_option maxRecDepth 1000000
open Go
theorem cellsA_fine (l : List TokA) : ((cellsA l).all fun v => v.fine) = true := by
  induction l with
  | nil => rfl
  | cons x l ih =>
    show ((x.cells ++ cellsA l).all fun v => v.fine) = true
    rw [List.all_append, ih, Bool.and_true]; rfl
theorem size_tok : sizeT Tryz.prog 88 = some 4 := by kernel_rfl
theorem frs_flats {P : Program} {G : Nat} {os ns : List Nat} {n : Nat} {sc : St} : ∀ {l : List V}, (l.all fun v => v.fine) = true → Frs P G os ns n sc l l
  | [], _ => .nil
  | v :: l, h => by
    rw [List.all_cons, Bool.and_eq_true] at h
    exact .cons (.flat v h.1) (frs_flats h.2)
def tokV (ts : List TokA) (at_ : Nat) : V := .tup [.fsl ts.length ts.length false (cellsA ts), .int 63 (Int.ofNat at_), .int 63 0]
theorem all_at {s : List UInt8} {ts : List TokA} (hs : s.length ≤ 2048) (ha : (allL (s.length + 1) s 0).1 = some ts) (hne : ts ≠ []) {st : St} (hW : hasW st = true) :
    CallAt Tryz.prog 21 [.str s] st (.ret (tokV ts (allL (s.length + 1) s 0).2)) st := by
  obtain ⟨v, S, h1, h2, h3⟩ := all_ev (s.length + 1) s st0 (Nat.le_refl _) (by kernel_rfl) hs (by omega)
  rw [ha] at h1 h3
  rcases h3 with ⟨h, _⟩ | ⟨o, k1, k2, k3, rfl, k5⟩
  · exact absurd h hne
  · have hf : (V.fsl ts.length ts.length false (cellsA ts)).fine = true := by
      show (V.cmp 4 0 _).fine = true
      rw [fine_cmp, beqF (by decide), beqF (by decide), List.all_cons, cellsA_fine]; rfl
    refine flat_of globals.symm (mem := mem0) (fun g b hb => mem0_lt g b hb) (hasW_tabs hW) (Ars.flats rfl) (callAt_ev mixed tabL (fnOk_of tabL get_all) h1) (.cmp 3 _ _ 0 (by decide) (.cons (.fsl o 0 _ _ false 88 4 (cellsA ts) _ k1 (fun h => nomatch h) k5 size_tok (by rw [cellsA_len]; omega) ?_) (.cons (.flat _ rfl) (.cons (.flat _ rfl) .nil)))) ?_
    · rw [List.drop_zero, List.take_of_length_le (by rw [cellsA_len]; exact Nat.le_refl _)]
      exact frs_flats (cellsA_fine ts)
    · show (V.cmp 3 0 [V.fsl ts.length ts.length false (cellsA ts), .int 63 (Int.ofNat (allL (s.length + 1) s 0).2), .int 63 0]).fine = true
      rw [fine_cmp, beqF (by decide), beqF (by decide), List.all_cons, hf]; rfl
theorem all_known : ∃ g, MemoOk Tryz.prog 21 g ∧ ∀ fns : Tr Fs, fns.get 21 = some (.memo g) → ∀ (n : Nat) {s : List UInt8} {ts : List TokA}, s.length ≤ 2048 → (allL (s.length + 1) s 0).1 = some ts → ts ≠ [] → ∀ {st : St}, hasW st = true →
    evF fns (n + 1) 21 [.str s] st = some (.ret (tokV ts (allL (s.length + 1) s 0).2), st) := by
  obtain ⟨R, hR⟩ : ∃ R : List V → St → CR → St → Prop, R = fun args st r st' => CallAt Tryz.prog 21 args st r st' ∧ st' = st ∧ ∃ s ts, args = [.str s] ∧ (allL (s.length + 1) s 0).1 = some ts ∧ r = .ret (tokV ts (allL (s.length + 1) s 0).2) := ⟨_, rfl⟩
  refine ⟨memoG R, memo_of fun args st r st' h => by rw [hR] at h; exact h.1, fun fns hf n s ts hs ha hne st hW => ?_⟩
  obtain ⟨r, st'', h3, h4⟩ := memo_at (n := n) hf (args := [.str s]) (st := st) (r := .ret (tokV ts (allL (s.length + 1) s 0).2)) (st' := st) (by rw [hR]; exact ⟨all_at hs ha hne hW, rfl, s, ts, rfl, ha, rfl⟩)
  rw [hR] at h3
  obtain ⟨_, rfl, s', ts', h5, h6, rfl⟩ := h3
  injection h5 with h5 _
  injection h5 with h5
  subst h5
  rw [ha] at h6
  obtain rfl := Option.some.inj h6
  exact h4
end Go.Proofs.YtnebopkgnkemiaaGreatDoor.Av
