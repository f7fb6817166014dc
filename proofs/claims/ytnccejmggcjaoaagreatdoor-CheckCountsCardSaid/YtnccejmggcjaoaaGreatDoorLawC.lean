/-
  WHAT THE LAW OF COUNTS CALLS: known functions.
-/
import Derived.Test.YtnccejmggcjaoaaGreatDoorPair
namespace Go.Proofs.YtnccejmggcjaoaaGreatDoor.Av
set_option linter.unusedVariables false
set_option linter.unusedSimpArgs false
set_option maxRecDepth 1000000
open Go
def ItsIn (st : St) (v : V) (l : List It) : Prop := v = slT 4 l.length (cIs l) ∨ (v = nilV ∧ l = []) ∨ ∃ k c x w, v = .ref 3 k 0 l.length c x ∧ st.mem.get k = some (.cells 34 (cIs l) w)
def PairHolds (st : St) (v : V) (l r : List It) : Prop := ∃ k k2 x, v = .ref 3 k 0 1 1 x ∧ PairAt st k k2 l r
theorem ItsIn.uniq {st : St} {v : V} {l l' : List It} (h : ItsIn st v l) (h' : ItsIn st v l') : l = l' := by
  rcases h with rfl | ⟨rfl, rfl⟩ | ⟨k, c, x, w, rfl, hg⟩
  · rcases h' with h | ⟨h, _⟩ | ⟨k, c, x, w, h, _⟩
    · exact cIs_inj (slT_inj h).1 (slT_inj h).2
    · exact nomatch h
    · exact nomatch h
  · rcases h' with h | ⟨_, h⟩ | ⟨k, c, x, w, h, _⟩
    · exact nomatch h
    · exact h.symm
    · exact nomatch h
  · rcases h' with h | ⟨h, _⟩ | ⟨k', c', x', w', h, hg'⟩
    · exact nomatch h
    · exact nomatch h
    · injection h with _ h1 _ h2
      subst h1
      rw [hg] at hg'
      injection hg' with hg'
      injection hg' with _ hg'
      exact cIs_inj h2 hg'
theorem ItsIn.no_pair {st : St} {v : V} {l l1 r1 : List It} (h : ItsIn st v l) (h' : PairHolds st v l1 r1) : False := by
  obtain ⟨k, k2, x, rfl, hp⟩ := h'
  rcases h with h | ⟨h, _⟩ | ⟨k', c', x', w', h, hg'⟩
  · exact nomatch h
  · exact nomatch h
  · injection h with _ h1 _ h2
    subst h1
    rw [hp.one] at hg'
    injection hg' with hg'
    injection hg' with _ hg'
    match l, hg' with
    | [], hg' => exact nomatch hg'
    | (.mk _ _ _ _ _ _ ks) :: l, hg' =>
      have h6 := congrArg (fun l : List V => l[6]?) hg'
      exact nomatch h6
theorem PairHolds.uniq {st : St} {v : V} {l r l' r' : List It} (h : PairHolds st v l r) (h' : PairHolds st v l' r') : l = l' ∧ r = r' := by
  obtain ⟨k, k2, x, rfl, hp⟩ := h
  obtain ⟨k', k2', x', h, hp'⟩ := h'
  injection h with _ h1
  subst h1
  have e := hp.one.symm.trans hp'.one
  injection e with e
  injection e with _ e
  injection e with _ e
  injection e with _ e
  injection e with _ e
  injection e with _ e
  injection e with _ e
  injection e with _ e
  injection e with e _
  injection e with _ e
  subst e
  have e := hp.two.symm.trans hp'.two
  injection e with e
  injection e with _ e
  injection e with e1 e
  injection e with e2 e
  exact ⟨cIs_inj (slT_inj e1).1 (slT_inj e1).2, cIs_inj (slT_inj e2).1 (slT_inj e2).2⟩
structure KnownS (F : Nat) (φ : List It → Nat) (ψ : List It → List It → Nat) (fns : Tr Fs) : Prop where
  one : ∀ (n : Nat) {st : St} {v : V} {l : List It}, ItsIn st v l → Good l → wL l ≤ 18 → evF fns (n + 1) F [v] st = some (.ret (.int 63 (Int.ofNat (φ l))), st)
  two : ∀ (n : Nat) {st : St} {v : V} {l r : List It}, PairHolds st v l r → Good l → Good r → wL l ≤ 9 → wL r ≤ 9 → evF fns (n + 1) F [v] st = some (.ret (.int 63 (Int.ofNat (ψ l r))), st)
theorem holds_at {F : Nat} (hF : FnOk Tryz.prog F) {l : List It} {m : Nat} (hev : ∀ t, t = 4 ∨ t = 6 → ∀ st : St, ∃ n, evF table n F [slT t l.length (cIs l)] st = some (.ret (.int 63 (Int.ofNat m)), st)) {st : St} {v : V} (h : ItsIn st v l) : CallAt Tryz.prog F [v] st (.ret (.int 63 (Int.ofNat m))) st := by
  rcases h with rfl | ⟨rfl, rfl⟩ | ⟨k, c, x, w, rfl, hg⟩
  · obtain ⟨n, h⟩ := hev 4 (.inl rfl) st
    exact callAt_ev mixedZ tab hF h
  · obtain ⟨n, h⟩ := hev 4 (.inl rfl) { next := 11, low := 11, mem := .leaf }
    exact flat_of globals.symm (mem := .leaf) (fun g b hb => by rw [get_leaf] at hb; exact nomatch hb) (fun g b hb => by rw [get_leaf] at hb; exact nomatch hb) (.cons .nil4 .nil) (callAt_ev mixedZ tab hF h) (.flat _ rfl) rfl
  · obtain ⟨n, h⟩ := hev 6 (.inr rfl) { next := 11, low := 11, mem := .leaf }
    refine flat_of globals.symm (mem := .leaf) (fun g b hb => by rw [get_leaf] at hb; exact nomatch hb) (fun g b hb => by rw [get_leaf] at hb; exact nomatch hb) (.cons (.own k 0 l.length c x _ 7 (cIs l) (cIs l) w (by simp) hg (by rw [cIs_len]; omega) ?_) .nil) (callAt_ev mixedZ tab hF h) (.flat _ rfl) rfl
    rw [List.drop_zero, List.take_of_length_le (by rw [cIs_len]; exact Nat.le_refl _)]
    exact Ars.flats (cIs_fine l)
theorem scal_known {F : Nat} (hF : FnOk Tryz.prog F) {φ : List It → Nat} {ψ : List It → List It → Nat}
    (hev : ∀ l, Good l → wL l ≤ 18 → ∀ t, t = 4 ∨ t = 6 → ∀ st : St, ∃ n, evF table n F [slT t l.length (cIs l)] st = some (.ret (.int 63 (Int.ofNat (φ l))), st))
    (hpr : ∀ l r, Good l → Good r → wL l ≤ 9 → wL r ≤ 9 → ∀ (st : St) (k k2 : Nat) (x : Bool), PairAt st k k2 l r → ∃ n, evF table n F [.ref 3 k 0 1 1 x] st = some (.ret (.int 63 (Int.ofNat (ψ l r))), st)) :
    ∃ g, MemoOk Tryz.prog F g ∧ ∀ fns : Tr Fs, fns.get F = some (.memo g) → KnownS F φ ψ fns := by
  obtain ⟨R, hR⟩ : ∃ R : List V → St → CR → St → Prop, R = fun args st r st' => CallAt Tryz.prog F args st r st' ∧ st' = st ∧ ∃ v m, args = [v] ∧ r = .ret (.int 63 (Int.ofNat m)) ∧ ((∃ l, ItsIn st v l ∧ m = φ l) ∨ ∃ l r, PairHolds st v l r ∧ m = ψ l r) := ⟨_, rfl⟩
  refine ⟨memoG R, memo_of fun args st r st' h => by rw [hR] at h; exact h.1, fun fns hf => ⟨fun n st v l h hg hw => ?_, fun n st v l r h hl hr hwl hwr => ?_⟩⟩
  · obtain ⟨r, st'', h1, h2⟩ := memo_at (n := n) hf (args := [v]) (st := st) (r := .ret (.int 63 (Int.ofNat (φ l)))) (st' := st) (by rw [hR]; exact ⟨holds_at hF (hev l hg hw) h, rfl, v, _, rfl, rfl, .inl ⟨l, h, rfl⟩⟩)
    rw [hR] at h1
    obtain ⟨_, rfl, v', m, e, rfl, h3⟩ := h1
    injection e with e _
    subst e
    rcases h3 with ⟨l', h4, rfl⟩ | ⟨l', r', h4, _⟩
    · rw [h2, h.uniq h4]
    · exact (h.no_pair h4).elim
  · obtain ⟨k, k2, x, hv, hp⟩ := h
    obtain ⟨n', hn'⟩ := hpr l r hl hr hwl hwr st k k2 x hp
    have h : PairHolds st v l r := ⟨k, k2, x, hv, hp⟩
    obtain ⟨r', st'', h1, h2⟩ := memo_at (n := n) hf (args := [v]) (st := st) (r := .ret (.int 63 (Int.ofNat (ψ l r)))) (st' := st) (by rw [hR]; exact ⟨by rw [hv]; exact callAt_ev mixedZ tab hF hn', rfl, v, _, rfl, rfl, .inr ⟨l, r, h, rfl⟩⟩)
    rw [hR] at h1
    obtain ⟨_, rfl, v', m, e, rfl, h3⟩ := h1
    injection e with e _
    subst e
    rcases h3 with ⟨l', h4, rfl⟩ | ⟨l', r2, h4, rfl⟩
    · exact (h4.no_pair h).elim
    · obtain ⟨rfl, rfl⟩ := h.uniq h4
      rw [h2]
theorem paths_known : ∃ g, MemoOk Tryz.prog 38 g ∧ ∀ fns : Tr Fs, fns.get 38 = some (.memo g) → KnownS 38 pL (fun l r => pL l + pL r) fns :=
  scal_known (fnOk_of tab get_paths) (fun l hg hw t ht st => ⟨szL l + 2, by
    obtain ⟨a, b, _, _⟩ := good_law hg hw
    have := paths_ev (szL l + 2) l (by omega) a t ht st
    rw [b] at this; exact this⟩) fun l r hl hr hwl hwr st k k2 x hp => by
    obtain ⟨n, h, _⟩ := pair_ev hp hl hr hwl hwr x
    exact ⟨n, h⟩
theorem steps_known : ∃ g, MemoOk Tryz.prog 40 g ∧ ∀ fns : Tr Fs, fns.get 40 = some (.memo g) → KnownS 40 sL (fun l r => max (sL l) (sL r)) fns :=
  scal_known (fnOk_of tab get_p40) (fun l hg hw t ht st => ⟨szL l + 2, by
    obtain ⟨a, _, b, _⟩ := good_law hg hw
    have := steps_ev (szL l + 2) l (by omega) a t ht st
    rw [b] at this; exact this⟩) fun l r hl hr hwl hwr st k k2 x hp => by
    obtain ⟨n, _, h, _⟩ := pair_ev hp hl hr hwl hwr x
    exact ⟨n, h⟩
theorem code_known : ∃ g, MemoOk Tryz.prog 42 g ∧ ∀ fns : Tr Fs, fns.get 42 = some (.memo g) → KnownS 42 cdL (fun l r => cdL l + cdL r) fns :=
  scal_known (fnOk_of tab get_p42) (fun l hg hw t ht st => ⟨szL l + cdL l + 2 + 2, by
    obtain ⟨a, _, _, b⟩ := good_law hg hw
    exact code_ev (szL l + cdL l + 2 + 2) l (by omega) a b t ht st⟩) fun l r hl hr hwl hwr st k k2 x hp => by
    obtain ⟨n, _, _, h⟩ := pair_ev hp hl hr hwl hwr x
    exact ⟨n, h⟩
def KnownQ (F : Nat) (args : List Nat → List V) (fns : Tr Fs) : Prop := ∀ (n : Nat) (l : List Nat), (∀ b ∈ l, b < 256) → l.length < 2 ^ 63 → ∀ st : St, ∃ q, QPost q ∧ evF fns (n + 1) F (args l) st = some (.ret (.cmp 2 0 (cQ q)), st)
theorem query_known {F : Nat} {As : (List Nat → List V) → Prop} (hm : ∀ args, As args → ∀ l : List Nat, (∀ b ∈ l, b < 256) → l.length < 2 ^ 63 → ∀ st : St, ∃ q, QPost q ∧ CallAt Tryz.prog F (args l) st (.ret (.cmp 2 0 (cQ q))) st) :
    ∃ g, MemoOk Tryz.prog F g ∧ ∀ fns : Tr Fs, fns.get F = some (.memo g) → ∀ args, As args → KnownQ F args fns := by
  obtain ⟨R, hR⟩ : ∃ R : List V → St → CR → St → Prop, R = fun args st r st' => CallAt Tryz.prog F args st r st' ∧ st' = st ∧ ∃ q, QPost q ∧ r = .ret (.cmp 2 0 (cQ q)) := ⟨_, rfl⟩
  refine ⟨memoG R, memo_of fun args st r st' h => by rw [hR] at h; exact h.1, fun fns hf args ha n l hb hl st => ?_⟩
  obtain ⟨q, c1, c2⟩ := hm args ha l hb hl st
  obtain ⟨r, st'', h1, h2⟩ := memo_at (n := n) hf (args := args l) (st := st) (r := .ret (.cmp 2 0 (cQ q))) (st' := st) (by rw [hR]; exact ⟨c2, rfl, q, c1, rfl⟩)
  rw [hR] at h1
  obtain ⟨_, rfl, q', h3, rfl⟩ := h1
  exact ⟨q', h3, h2⟩
theorem asked_known : ∃ g, MemoOk Tryz.prog 82 g ∧ ∀ fns : Tr Fs, fns.get 82 = some (.memo g) → KnownQ 82 (fun l => [slT 4 l.length (cB l)]) fns := by
  obtain ⟨gl, ml, hl⟩ := items_memo
  have l1 := like0.set ml (.inr (.inr (.inr (.inr rfl))))
  have k1 := hl (table.set 140 (some (.memo gl))) (by rw [get_set, if_pos rfl])
  obtain ⟨g, m, k⟩ := query_known (As := fun a => a = fun l => [slT 4 l.length (cB l)]) fun args ha l hb hlen st => by
    subst ha
    exact asked_at l1.gen l1.ok 0 l hb hlen st k1
  exact ⟨g, m, fun fns hf => k fns hf _ rfl⟩
end Go.Proofs.YtnccejmggcjaoaaGreatDoor.Av
