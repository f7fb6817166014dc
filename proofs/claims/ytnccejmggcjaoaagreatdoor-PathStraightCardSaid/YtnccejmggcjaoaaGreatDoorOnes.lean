/-
  QUERIES OF NOTHING BUT ONES: check.Check is known of them, wherever they lie.
-/
import Derived.Test.YtnccejmggcjaoaaGreatDoorKnC
namespace Go.Proofs.YtnccejmggcjaoaaGreatDoor.Av
set_option linter.unusedVariables false
set_option linter.unusedSimpArgs false
set_option maxRecDepth 1000000
open Go
noncomputable def stOf (x : Option (CR × St)) : St := match x with
  | some p => p.2
  | none => stN
theorem size_str : sizeT Tryz.prog 9 = some 1 := by kernel_rfl
theorem size_kind : sizeT Tryz.prog 131 = some 2 := by kernel_rfl
theorem kinds_frz {F : Nat} (hF : FnOk Tryz.prog F) {n : Nat} {S : St} (h : evF table n F [] stN = some (.ret (.ref 3 (11 + 3) 0 3 3 true), S))
    (h0 : S.mem.get 11 = some (.cells 9 [.str [107], .str [120]] true)) (h1 : S.mem.get (11 + 1) = some (.cells 9 [.str [107], .str [121]] true)) (h2 : S.mem.get (11 + 2) = some (.cells 9 [.str [107], .str [120], .str [121]] true))
    (h3 : S.mem.get (11 + 3) = some (.cells 131 [.str [65], .ref 3 11 0 2 2 true, .str [66], .ref 3 (11 + 1) 0 2 2 true, .str [67], .ref 3 (11 + 2) 0 3 3 true] true)) (st : St) : CallAt Tryz.prog F [] st (.ret ksV) st := by
  refine flat_of globals.symm (mem := .leaf) no_lt (no_tabs st) .nil (callAt_ev mixedZ tab hF h) ?_ rfl
  refine .fsl (11 + 3) 0 3 3 true 131 2 _ _ (by decide) (fun h => nomatch h) h3 size_kind (by decide) ?_
  refine .cons (.flat _ rfl) (.cons ?_ (.cons (.flat _ rfl) (.cons ?_ (.cons (.flat _ rfl) (.cons ?_ .nil)))))
  · exact .fsl 11 0 2 2 true 9 1 _ _ (by decide) (fun h => nomatch h) h0 size_str (by decide) (.cons (.flat _ rfl) (.cons (.flat _ rfl) .nil))
  · exact .fsl (11 + 1) 0 2 2 true 9 1 _ _ (by decide) (fun h => nomatch h) h1 size_str (by decide) (.cons (.flat _ rfl) (.cons (.flat _ rfl) .nil))
  · exact .fsl (11 + 2) 0 3 3 true 9 1 _ _ (by decide) (fun h => nomatch h) h2 size_str (by decide) (.cons (.flat _ rfl) (.cons (.flat _ rfl) (.cons (.flat _ rfl) .nil)))
theorem get_kinds1 : table.get 32 = some sh32 := by kernel_rfl
theorem get_kinds2 : table.get 49 = some sh49 := by kernel_rfl
theorem memo_kinds {F : Nat} (h : ∀ st : St, CallAt Tryz.prog F [] st (.ret ksV) st) : ∃ g, MemoOk Tryz.prog F g ∧ ∀ fns : Tr Fs, fns.get F = some (.memo g) → ∀ (n : Nat) (st : St), evF fns (n + 1) F [] st = some (.ret ksV, st) := by
  obtain ⟨g, m, k⟩ := memo_pure (F := F) (R0 := fun args v => args = [] ∧ v = ksV) (fun args v ⟨h2, h3⟩ st => by subst h2 h3; exact h st) (fun args v v' ⟨_, h⟩ ⟨_, h'⟩ => by rw [h, h'])
  exact ⟨g, m, fun fns hf n st => k fns hf n _ _ ⟨rfl, rfl⟩ st⟩
theorem kinds_known1 : ∃ g, MemoOk Tryz.prog 32 g ∧ ∀ fns : Tr Fs, fns.get 32 = some (.memo g) → ∀ (n : Nat) (st : St), evF fns (n + 1) 32 [] st = some (.ret ksV, st) :=
  memo_kinds (kinds_frz (fnOk_of tab get_kinds1) (n := 5) (S := stOf (evF table 5 32 [] stN)) (by kernel_rfl) (by kernel_rfl) (by kernel_rfl) (by kernel_rfl) (by kernel_rfl))
theorem kinds_known2 : ∃ g, MemoOk Tryz.prog 49 g ∧ ∀ fns : Tr Fs, fns.get 49 = some (.memo g) → ∀ (n : Nat) (st : St), evF fns (n + 1) 49 [] st = some (.ret ksV, st) :=
  memo_kinds (kinds_frz (fnOk_of tab get_kinds2) (n := 5) (S := stOf (evF table 5 49 [] stN)) (by kernel_rfl) (by kernel_rfl) (by kernel_rfl) (by kernel_rfl) (by kernel_rfl))
structure ChkTab (fns : Tr Fs) : Prop where
  ok : TableOk Tryz.prog fns
  old : ∀ k, k ∉ [81, 53, 195, 84, 32, 49] → fns.get k = table.get k
  hN : NameOk fns (· ∈ nmsC)
  kt : KindT fns FndK ByK fldK
  hks : ∀ (n : Nat) (st : St), evF fns (n + 1) 84 [ksV] st = some (.ret (.int 63 0), st)
  kinds1 : ∀ (n : Nat) (st : St), evF fns (n + 1) 32 [] st = some (.ret ksV, st)
  kinds2 : ∀ (n : Nat) (st : St), evF fns (n + 1) 49 [] st = some (.ret ksV, st)
theorem chk_tab : ∃ fns, ChkTab fns := by
  obtain ⟨g1, m1, k1⟩ := names_known
  obtain ⟨g2, m2, k2⟩ := finds_known
  obtain ⟨g3, m3, k3⟩ := fields_known
  obtain ⟨g4, m4, k4⟩ := right_known
  obtain ⟨g5, m5, k5⟩ := kinds_known1
  obtain ⟨g6, m6, k6⟩ := kinds_known2
  obtain ⟨T, hT⟩ : ∃ T, T = (((((table.set 81 (some (.memo g1))).set 53 (some (.memo g2))).set 195 (some (.memo g3))).set 84 (some (.memo g4))).set 32 (some (.memo g5))).set 49 (some (.memo g6)) := ⟨_, rfl⟩
  have e1 : T.get 81 = some (.memo g1) := by rw [hT, get_set, if_neg (by decide), get_set, if_neg (by decide), get_set, if_neg (by decide), get_set, if_neg (by decide), get_set, if_neg (by decide), get_set, if_pos rfl]
  have e2 : T.get 53 = some (.memo g2) := by rw [hT, get_set, if_neg (by decide), get_set, if_neg (by decide), get_set, if_neg (by decide), get_set, if_neg (by decide), get_set, if_pos rfl]
  have e3 : T.get 195 = some (.memo g3) := by rw [hT, get_set, if_neg (by decide), get_set, if_neg (by decide), get_set, if_neg (by decide), get_set, if_pos rfl]
  have e4 : T.get 84 = some (.memo g4) := by rw [hT, get_set, if_neg (by decide), get_set, if_neg (by decide), get_set, if_pos rfl]
  have e5 : T.get 32 = some (.memo g5) := by rw [hT, get_set, if_neg (by decide), get_set, if_pos rfl]
  have e6 : T.get 49 = some (.memo g6) := by rw [hT, get_set, if_pos rfl]
  refine ⟨T, by rw [hT]; exact tableMemo (tableMemo (tableMemo (tableMemo (tableMemo (tableMemo tab m1) m2) m3) m4) m5) m6, fun k hk => ?_, k1 T e1, ⟨fun {s k} h => ?_, fun n {s k} h st => k2 T e2 n h st, fun n {k s} h h' st => k3 T e3 n h h' st⟩, k4 T e4, k5 T e5, k6 T e6⟩
  · simp only [List.mem_cons, List.not_mem_nil, or_false, not_or] at hk
    obtain ⟨h1, h2, h3, h4, h5, h6⟩ := hk
    rw [hT, get_set, if_neg h6, get_set, if_neg h5, get_set, if_neg h4, get_set, if_neg h3, get_set, if_neg h2, get_set, if_neg h1]
  · rcases h with ⟨_, rfl⟩ | ⟨_, rfl⟩ | ⟨_, rfl⟩ <;> decide
section
variable {fns : Tr Fs} (ct : ChkTab fns)
include ct
theorem ChkTab.raw : RawR fns := ⟨(ct.old _ (by decide)).trans (by kernel_rfl), (ct.old _ (by decide)).trans (by kernel_rfl), (ct.old _ (by decide)).trans (by kernel_rfl), (ct.old _ (by decide)).trans (by kernel_rfl), (ct.old _ (by decide)).trans (by kernel_rfl), (ct.old _ (by decide)).trans (by kernel_rfl), (ct.old _ (by decide)).trans (by kernel_rfl), (ct.old _ (by decide)).trans (by kernel_rfl), (ct.old _ (by decide)).trans (by kernel_rfl), (ct.old _ (by decide)).trans (by kernel_rfl), (ct.old _ (by decide)).trans (by kernel_rfl), (ct.old _ (by decide)).trans (by kernel_rfl), (ct.old _ (by decide)).trans (by kernel_rfl), (ct.old _ (by decide)).trans (by kernel_rfl), (ct.old _ (by decide)).trans (by kernel_rfl)⟩
theorem ChkTab.rap : RawP fns := ⟨(ct.old _ (by decide)).trans (by kernel_rfl), (ct.old _ (by decide)).trans (by kernel_rfl), (ct.old _ (by decide)).trans (by kernel_rfl), (ct.old _ (by decide)).trans (by kernel_rfl), (ct.old _ (by decide)).trans (by kernel_rfl)⟩
theorem ChkTab.rm : RawM fns := ⟨(ct.old _ (by decide)).trans (by kernel_rfl), (ct.old _ (by decide)).trans (by kernel_rfl), (ct.old _ (by decide)).trans (by kernel_rfl), (ct.old _ (by decide)).trans (by kernel_rfl), (ct.old _ (by decide)).trans (by kernel_rfl), (ct.old _ (by decide)).trans (by kernel_rfl)⟩
theorem ChkTab.rc : RawC fns := ⟨(ct.old _ (by decide)).trans (by kernel_rfl), (ct.old _ (by decide)).trans (by kernel_rfl), (ct.old _ (by decide)).trans (by kernel_rfl)⟩
end
def OneI (x : It) : Prop := ∃ nm vr k, x = .mk 0 nm vr [] 0 0 [] ∧ FndK nm k ∧ nm ∈ nmsC ∧ vr ∈ nmsC
theorem ones_sz : ∀ {l : List It}, (∀ x ∈ l, OneI x) → szL l = l.length ∧ ctL l = l.length ∧ cdL l = 0 ∧ nL l 1 = 1 ∧ stL l 0 = min l.length 1048576 ∧ okM l ∧ rtM (· ∈ nmsC) (fun _ => False) l ∧ plM l := by
  have stq : ∀ (l : List It), (∀ x ∈ l, OneI x) → ∀ m, m ≤ 1048576 → stL l m = min (m + l.length) 1048576 := by
    intro l
    induction l with
    | nil => intro _ m hm; show m = min (m + 0) 1048576; omega
    | cons x l ih =>
      intro h m hm
      obtain ⟨nm, vr, k, rfl, _⟩ := h x (List.mem_cons_self ..)
      show stL l (min (m + 1) 1048576) = _
      rw [ih (fun y hy => h y (List.mem_cons_of_mem _ hy)) _ (by omega), List.length_cons]; omega
  intro l h
  refine ⟨?_, ?_, ?_, ?_, by rw [stq l h 0 (by omega), Nat.zero_add], ?_⟩
  all_goals induction l with
    | nil => first | rfl | exact ⟨trivial, trivial, trivial⟩
    | cons x l ih =>
      obtain ⟨nm, vr, k, rfl, h1, h2, h3⟩ := h x (List.mem_cons_self ..)
      have ih := ih fun y hy => h y (List.mem_cons_of_mem _ hy)
      first
        | (show 1 + 0 + szL l = l.length + 1; omega)
        | (show 1 + 0 + ctL l = l.length + 1; omega)
        | (show 0 + 0 + cdL l = 0; omega)
        | (show nL l (min (1 * 1) 1048576) = 1; exact ih)
        | (refine ⟨⟨⟨by decide, fun h => absurd h (by decide), trivial⟩, ih.1⟩, ⟨.inr ⟨h2, h3, by decide, (fun e he => nomatch he), rfl, .inl ⟨rfl, rfl, rfl⟩⟩, ih.2.1⟩, ⟨trivial, ih.2.2⟩⟩)
theorem ones_flat {l : List It} (h : ∀ x ∈ l, OneI x) : ∀ x ∈ l, FlatI FndK x := fun x hx => by
  obtain ⟨nm, vr, k, rfl, h1, _⟩ := h x hx
  exact ⟨0, nm, vr, 0, 0, k, rfl, by decide, h1⟩
def rI : It → List V
  | .mk k n v _ lo hi _ => [.int 63 k, .str n, .str v, .ref 2 0 0 0 0 false, .int 63 lo, .int 63 hi, .ref 2 0 0 0 0 false]
def rIs : List It → List V
  | [] => []
  | x :: l => rI x ++ rIs l
theorem rIs_len : ∀ l : List It, (rIs l).length = l.length * 7
  | [] => rfl
  | .mk _ _ _ _ _ _ _ :: l => by simp only [rIs, rI, List.length_append, List.length_cons, List.length_nil, rIs_len l]; omega
theorem rIs_app : ∀ l r : List It, rIs (l ++ r) = rIs l ++ rIs r
  | [], r => rfl
  | x :: l, r => by simp only [List.cons_append, rIs, rIs_app l r, List.append_assoc]
theorem rIs_inj : ∀ {l r : List It}, (∀ x ∈ l, OneI x) → (∀ x ∈ r, OneI x) → rIs l = rIs r → l = r
  | [], [], _, _, _ => rfl
  | [], .mk _ _ _ _ _ _ _ :: r, _, _, h => nomatch h
  | .mk _ _ _ _ _ _ _ :: l, [], _, _, h => nomatch h
  | x :: l, y :: r, hl, hr, h => by
    obtain ⟨n, v, k, rfl, _⟩ := hl x (List.mem_cons_self ..)
    obtain ⟨n', v', k', rfl, _⟩ := hr y (List.mem_cons_self ..)
    have h' : ([.int 63 0, .str n, .str v, .ref 2 0 0 0 0 false, .int 63 0, .int 63 0, .ref 2 0 0 0 0 false] : List V) ++ rIs l = [.int 63 0, .str n', .str v', .ref 2 0 0 0 0 false, .int 63 0, .int 63 0, .ref 2 0 0 0 0 false] ++ rIs r := h
    obtain ⟨h1, h2⟩ := List.append_inj h' rfl
    injection h1 with _ h1
    injection h1 with h3 h1
    injection h1 with h4 h1
    rw [V.str.inj h3, V.str.inj h4, rIs_inj (fun y hy => hl y (List.mem_cons_of_mem _ hy)) (fun y hy => hr y (List.mem_cons_of_mem _ hy)) h2]
theorem rIs_ars {P : Program} {G : Nat} {os : List Nat} {st : St} : ∀ {l : List It}, (∀ x ∈ l, OneI x) → Ars P G os st (cIs l) (rIs l)
  | [], _ => .nil
  | x :: l, h => by
    obtain ⟨n, v, k, rfl, _⟩ := h x (List.mem_cons_self ..)
    exact .cons (.flat _ rfl) (.cons (.flat _ rfl) (.cons (.flat _ rfl) (.cons .nil4 (.cons (.flat _ rfl) (.cons (.flat _ rfl) (.cons .nil4 (rIs_ars fun y hy => h y (List.mem_cons_of_mem _ hy))))))))
def FlatIn (st : St) (v : V) (l : List It) : Prop := ∃ k c x w, v = .ref 3 k 0 l.length c x ∧ st.mem.get k = some (.cells 34 (rIs l) w) ∧ 0 < l.length ∧ l.length ≤ 12 ∧ ∀ x ∈ l, OneI x
theorem FlatIn.uniq {st : St} {v : V} {l l' : List It} (h : FlatIn st v l) (h' : FlatIn st v l') : l = l' := by
  obtain ⟨k, c, x, w, rfl, hg, _, _, h1⟩ := h
  obtain ⟨k', c', x', w', h, hg', _, _, h2⟩ := h'
  injection h with _ e1 _ e2
  subst e1
  rw [hg] at hg'
  injection hg' with hg'
  injection hg' with _ hg'
  exact rIs_inj h1 h2 hg'
def Says (l : List It) (by_ : Str) (e : Int) : Prop := (e = 0 ∧ ∀ x ∈ l, PassI FndK fldK by_ x) ∨ (e = 5 ∧ ∃ x ∈ l, ¬ PassI FndK fldK by_ x)
def byOk (by_ : Str) : Prop := by_ = [] ∨ ByK by_
theorem says_uniq {l : List It} {by_ : Str} {e e' : Int} (h : Says l by_ e) (h' : Says l by_ e') : e = e' := by
  rcases h with ⟨rfl, h⟩ | ⟨rfl, x, hx, h⟩ <;> rcases h' with ⟨rfl, h'⟩ | ⟨rfl, y, hy, h'⟩
  · rfl
  · exact absurd (h y hy) h'
  · exact absurd (h' x hx) h
  · rfl
theorem check_at {fns : Tr Fs} (ct : ChkTab fns) {st : St} {v : V} {l : List It} (h : FlatIn st v l) {w : Int} (hw : 0 ≤ w ∧ w ≤ 1000000000) {by_ : Str} (hby : byOk by_) :
    ∃ e, CallAt Tryz.prog 35 [ksV, .cmp 2 0 [v, .int 63 w, .str by_]] st (.ret (.int 63 e)) st ∧ Says l by_ e := by
  obtain ⟨k, c, x, w', rfl, hg, h0, h12, h1⟩ := h
  obtain ⟨s1, s2, s3, s4, s5, s6, s7, s8⟩ := ones_sz h1
  have hby' : by_ = [] ∨ (eqS by_ [] = false ∧ by_ ∈ nmsC ∧ ByK by_) := by
    rcases hby with h | h
    · exact .inl h
    · refine .inr ⟨?_, ?_, h⟩
      · rcases h with rfl | rfl | rfl | rfl <;> rfl
      · rcases h with rfl | rfl | rfl | rfl <;> decide
  have hends : endsOk l := fun hp => by
    obtain ⟨_, _, _, e1, _⟩ := h1 l[0] (List.getElem_mem hp)
    obtain ⟨_, _, _, e2, _⟩ := h1 (l[l.length - 1]'(by omega)) (List.getElem_mem _)
    rw [e1, e2]; exact ⟨show (0 : Int) ≠ 2 by decide, show (0 : Int) ≠ 2 by decide⟩
  have h60 : (2 : Nat) ^ 60 = 1152921504606846976 := by decide
  obtain ⟨e, r1, r2⟩ := check_flat ct.raw ct.rap ct.rm ct.rc ct.hN (E := fun _ => False) (fun n e he => he.elim) ct.kt fndK_fun ct.hks (l := l) ⟨h0, s7⟩ ⟨hends, s8⟩ ⟨by omega, s6⟩ (ones_flat h1) (by omega) (by omega) (by omega) (by omega) hw hby' (t := 6) (.inr rfl) (n := 12 * szL l + cdL l + 20) (Nat.le_refl _) (by omega) (by omega) stN
  refine ⟨e, ?_, r2⟩
  refine flat_of globals.symm (mem := .leaf) no_lt (no_tabs st) (.cons (.flat _ rfl) (.cons (.cmp 2 _ _ 0 (by decide) (.cons (.own k 0 l.length c x _ 7 (rIs l) (cIs l) w' (by simp) hg (by rw [rIs_len]; omega) ?_) (.cons (.flat _ rfl) (.cons (.flat _ rfl) .nil)))) .nil)) (callAt_ev mixedZ ct.ok (fnOk_of ct.ok ct.rc.check) r1) (.flat _ rfl) rfl
  rw [List.drop_zero, List.take_of_length_le (by rw [rIs_len]; exact Nat.le_refl _)]
  exact rIs_ars h1
def byL : List Str := [[107], [120], [121], [122], []]
theorem get_check : table.get 35 = some sh35 := by kernel_rfl
theorem nil_ok : (byL.all fun f => okR (.int 63 1) (evF table 300 35 [ksV, .cmp 2 0 [.ref 2 0 0 0 0 false, .int 63 1, .str f]] stN)) = true := by kernel_rfl
theorem check_known : ∃ g, MemoOk Tryz.prog 35 g ∧ ∀ fns : Tr Fs, fns.get 35 = some (.memo g) → (∀ (n : Nat) {st : St} {v : V} {l : List It}, FlatIn st v l → ∀ {w : Int}, 0 ≤ w ∧ w ≤ 1000000000 → ∀ {by_ : Str}, byOk by_ →
    ∃ e, evF fns (n + 1) 35 [ksV, .cmp 2 0 [v, .int 63 w, .str by_]] st = some (.ret (.int 63 e), st) ∧ Says l by_ e) ∧
    ∀ (n : Nat) (st : St) (f : Str), f ∈ byL → evF fns (n + 1) 35 [ksV, .cmp 2 0 [.ref 2 0 0 0 0 false, .int 63 1, .str f]] st = some (.ret (.int 63 1), st) := by
  obtain ⟨fns0, ct⟩ := chk_tab
  obtain ⟨R, hR⟩ : ∃ R : List V → St → CR → St → Prop, R = fun args st r st' => CallAt Tryz.prog 35 args st r st' ∧ st' = st ∧ ∃ v w by_ e, args = [ksV, .cmp 2 0 [v, .int 63 w, .str by_]] ∧ r = .ret (.int 63 e) ∧ ((∃ l, FlatIn st v l ∧ Says l by_ e) ∨ (v = .ref 2 0 0 0 0 false ∧ e = 1)) := ⟨_, rfl⟩
  have inj : ∀ {v v' : V} {w w' : Int} {b b' : Str}, ([ksV, .cmp 2 0 [v, .int 63 w, .str b]] : List V) = [ksV, .cmp 2 0 [v', .int 63 w', .str b']] → v = v' ∧ b = b' := fun h5 => by
    injection h5 with _ h5
    injection h5 with h5 _
    injection h5 with _ _ h5
    injection h5 with e1 h5
    injection h5 with _ h5
    injection h5 with e2 _
    injection e2 with e2
    exact ⟨e1, e2⟩
  refine ⟨memoG R, memo_of fun args st r st' h => by rw [hR] at h; exact h.1, fun fns hf => ⟨fun n st v l h w hw by_ hby => ?_, fun n st f hf' => ?_⟩⟩
  · obtain ⟨e, h1, h2⟩ := check_at ct h hw hby
    obtain ⟨r, st'', h3, h4⟩ := memo_at (n := n) hf (args := [ksV, .cmp 2 0 [v, .int 63 w, .str by_]]) (st := st) (r := .ret (.int 63 e)) (st' := st) (by rw [hR]; exact ⟨h1, rfl, v, w, by_, e, rfl, rfl, .inl ⟨l, h, h2⟩⟩)
    rw [hR] at h3
    obtain ⟨_, rfl, v', w', by', e', h5, rfl, h6⟩ := h3
    obtain ⟨rfl, rfl⟩ := inj h5
    rcases h6 with ⟨l', h6, h7⟩ | ⟨rfl, _⟩
    · obtain rfl := h.uniq h6
      exact ⟨e', h4, h7⟩
    · obtain ⟨k, c, x, w, h, _⟩ := h
      exact nomatch h
  · obtain ⟨st', h1⟩ := okR_eq (List.all_eq_true.1 nil_ok f hf')
    have h2 := pure_at tab (fnOk_of tab get_check) (args := [ksV, .cmp 2 0 [.ref 2 0 0 0 0 false, .int 63 1, .str f]]) rfl rfl h1 st
    obtain ⟨r, st'', h3, h4⟩ := memo_at (n := n) hf (args := [ksV, .cmp 2 0 [.ref 2 0 0 0 0 false, .int 63 1, .str f]]) (st := st) (r := .ret (.int 63 1)) (st' := st) (by rw [hR]; exact ⟨h2, rfl, _, _, _, _, rfl, rfl, .inr ⟨rfl, rfl⟩⟩)
    rw [hR] at h3
    obtain ⟨_, rfl, v', w', by', e', h5, rfl, h6⟩ := h3
    obtain ⟨rfl, rfl⟩ := inj h5
    rcases h6 with ⟨l', ⟨k, c, x, w, h, _⟩, _⟩ | ⟨_, rfl⟩
    · exact nomatch h
    · exact h4
end Go.Proofs.YtnccejmggcjaoaaGreatDoor.Av
