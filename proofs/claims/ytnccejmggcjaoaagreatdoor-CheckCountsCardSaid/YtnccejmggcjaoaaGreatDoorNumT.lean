/-
  THE FEED'S NUMBERS as an entry of the table; tables that know them.
-/
import Derived.Test.YtnccejmggcjaoaaGreatDoorNumG
namespace Go.Proofs.YtnccejmggcjaoaaGreatDoor.Av
set_option linter.unusedVariables false
set_option linter.unusedSimpArgs false
set_option maxRecDepth 1000000
open Go
theorem cSs_map (a : List Str) : a.map V.str = cSs a := rfl
theorem SlS.uniq {st : St} {v : V} {a b : List Str} (h : SlS st v a) (h' : SlS st v b) : a = b := by
  rcases h with ⟨h1, h2⟩ | ⟨k, h1, h2, h3, h4⟩
  · rcases h' with ⟨h5, h6⟩ | ⟨k', h5, h6, h7, h8⟩
    · rw [h1, h5]
    · rw [h2] at h6; exact nomatch h6
  · rcases h' with ⟨h5, h6⟩ | ⟨k', h5, h6, h7, h8⟩
    · rw [h6] at h2; exact nomatch h2
    · rw [h2] at h6
      injection h6 with _ hk
      subst hk
      rw [h4] at h8
      injection h8 with h8
      injection h8 with _ h8
      exact cSs_inj h8
theorem cB_inj : ∀ {a b : List Nat}, cB a = cB b → a = b
  | [], [], _ => rfl
  | [], _ :: _, h => nomatch h
  | _ :: _, [], h => nomatch h
  | x :: l, y :: r, h => by
    have h' : V.int 8 (Int.ofNat x) :: cB l = V.int 8 (Int.ofNat y) :: cB r := h
    injection h' with h1 h2
    injection h1 with _ h1
    rw [Int.ofNat.inj h1, cB_inj h2]
theorem FeedAt.uniq {st : St} {o : Nat} {f f' : Fd} {vv vo vv' vo' : V} (h : FeedAt st o f vv vo) (h' : FeedAt st o f' vv' vo') : f = f' ∧ vv = vv' ∧ vo = vo' := by
  have e := h.get.symm.trans h'.get
  injection e with e
  injection e with _ e _
  injection e with e1 e
  injection e with e2 e
  injection e with e3 e
  injection e with e4 e
  injection e with e5 e
  subst e3; subst e4
  have h1 := (slT_inj e1).2
  injection e2 with _ e2
  injection e5 with _ e5
  have v1 := h.vars.uniq h'.vars
  have v2 := h.of_.uniq h'.of_
  obtain ⟨l, a, b, c, m⟩ := f
  obtain ⟨l', a', b', c', m'⟩ := f'
  simp only at h1 e2 e5 v1 v2
  rw [cB_inj h1, Int.ofNat.inj e2, Int.ofNat.inj e5, v1, v2]
  exact ⟨rfl, rfl, rfl⟩
structure Like (fns : Tr Fs) : Prop where
  ok : TableOk Tryz.prog fns
  same : ∀ k, k ≠ 261 → k ≠ 249 → k ≠ 228 → k ≠ 191 → k ≠ 140 → fns.get k = table.get k
theorem Like.gen {fns : Tr Fs} (h : Like fns) : GenT fns :=
  ⟨(h.same _ (by decide) (by decide) (by decide) (by decide) (by decide)).trans (by kernel_rfl), (h.same _ (by decide) (by decide) (by decide) (by decide) (by decide)).trans (by kernel_rfl), (h.same _ (by decide) (by decide) (by decide) (by decide) (by decide)).trans (by kernel_rfl)⟩
theorem like0 : Like table := ⟨tab, fun _ _ _ _ _ _ => rfl⟩
theorem Like.set {fns : Tr Fs} (h : Like fns) {f : Nat} {g : List V → St → Option (CR × St)} (hg : MemoOk Tryz.prog f g) (hf : f = 261 ∨ f = 249 ∨ f = 228 ∨ f = 191 ∨ f = 140) : Like (fns.set f (some (.memo g))) :=
  ⟨tableMemo h.ok hg, fun k h1 h2 h3 h4 h5 => by rw [get_set, if_neg (by rintro rfl; rcases hf with h | h | h | h | h <;> contradiction)]; exact h.same k h1 h2 h3 h4 h5⟩
def KnownE (F d m : Nat) (fns : Tr Fs) : Prop := ∀ (n : Nat) {st : St} {o : Nat} {f : Fd} {vv vo : V}, FeedAt st o f vv vo → ∀ own kind : Str, ∃ e a st', evF fns (n + 1) F (numArgs o own kind d) st = some (.ret (.cmp 2 0 (cE e)), st') ∧ szE e ≤ m ∧ Moved o f vv vo a st st'
theorem known_memo {F : Nat} {D : Nat} {m : Nat → Nat} (hm : ∀ d, d ≤ D → ∀ {st : St} {o : Nat} {f : Fd} {vv vo : V}, FeedAt st o f vv vo → ∀ own kind : Str, ∃ e a st', CallAt Tryz.prog F (numArgs o own kind d) st (.ret (.cmp 2 0 (cE e))) st' ∧ szE e ≤ m d ∧ Moved o f vv vo a st st') :
    ∃ g, MemoOk Tryz.prog F g ∧ ∀ fns : Tr Fs, fns.get F = some (.memo g) → ∀ d, d ≤ D → KnownE F d (m d) fns := by
  obtain ⟨R, hR⟩ : ∃ R : List V → St → CR → St → Prop, R = fun args st r st' => CallAt Tryz.prog F args st r st' ∧ ∃ (o : Nat) (f : Fd) (vv vo : V) (own kind : Str) (d : Nat) (e : Et) (a : Nat), args = numArgs o own kind d ∧ FeedAt st o f vv vo ∧ r = .ret (.cmp 2 0 (cE e)) ∧ szE e ≤ m d ∧ Moved o f vv vo a st st' := ⟨_, rfl⟩
  refine ⟨memoG R, memo_of fun args st r st' h => by rw [hR] at h; exact h.1, fun fns hf d hd n st o f vv vo h own kind => ?_⟩
  obtain ⟨e, a, st', c1, c2, c3⟩ := hm d hd h own kind
  obtain ⟨r, st'', h1, h2⟩ := memo_at (n := n) hf (args := numArgs o own kind d) (st := st) (r := .ret (.cmp 2 0 (cE e))) (st' := st') (by rw [hR]; exact ⟨c1, o, f, vv, vo, own, kind, d, e, a, rfl, h, rfl, c2, c3⟩)
  rw [hR] at h1
  obtain ⟨_, o', f', vv', vo', own', kind', d', e', a', he, h3, rfl, h4, h5⟩ := h1
  injection he with he1 he
  injection he with he2 he
  injection he with he3 he
  injection he with he4 he
  injection he1 with _ he1
  injection he4 with _ he4
  subst he1
  obtain ⟨rfl, rfl, rfl⟩ := h.uniq h3
  rw [Int.ofNat.inj he4]
  exact ⟨e', a', st'', by rw [← Int.ofNat.inj he4]; exact h2, h4, h5⟩
theorem number_memo : ∃ g, MemoOk Tryz.prog 261 g ∧ ∀ fns : Tr Fs, fns.get 261 = some (.memo g) → ∀ d, d ≤ 1 → KnownE 261 d (2 ^ (d + 1) - 1) fns := by
  obtain ⟨g0, m0, k0⟩ := known_memo (F := 261) (D := 0) (m := fun d => 2 ^ (d + 1) - 1) fun d hd st o f vv vo h own kind =>
    number_at like0.gen like0.ok 0 h own kind d (by omega) fun d' hd' => by omega
  have l0 := like0.set m0 (.inl rfl)
  have n0 := k0 (table.set _ (some (.memo g0))) (by rw [get_set, if_pos rfl])
  exact known_memo (F := 261) (D := 1) (m := fun d => 2 ^ (d + 1) - 1) fun d hd st o f vv vo h own kind =>
    number_at l0.gen l0.ok 0 h own kind d (by omega) fun d' hd' st f vv vo h => n0 d' (by omega) 1 h own kind
end Go.Proofs.YtnccejmggcjaoaaGreatDoor.Av
