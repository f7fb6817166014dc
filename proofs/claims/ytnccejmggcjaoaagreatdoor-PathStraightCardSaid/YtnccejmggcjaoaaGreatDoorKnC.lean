/-
  KNOWN FUNCTIONS, for laws that check plain queries: names, kinds, fields.
-/
import Derived.Test.YtnccejmggcjaoaaGreatDoorChkQ
import Derived.Test.YtnccejmggcjaoaaGreatDoorStart
import Derived.Test.YtnccejmggcjaoaaGreatDoorIc
namespace Go.Proofs.YtnccejmggcjaoaaGreatDoor.Av
set_option linter.unusedVariables false
set_option linter.unusedSimpArgs false
set_option maxRecDepth 1000000
open Go
theorem mixedZ : Tryz.prog.follows .mixedOrders = true := by kernel_rfl
noncomputable abbrev stN : St := { next := 11, low := 11, mem := .leaf }
theorem no_tabs (st : St) : HasTabs .leaf st := fun g b hb => by rw [get_leaf] at hb; exact nomatch hb
theorem no_lt : ∀ g b, (Tr.leaf : Tr Ob).get g = some b → g < 11 := fun g b hb => by rw [get_leaf] at hb; exact nomatch hb
theorem pure_at {F n : Nat} {fns : Tr Fs} (htab : TableOk Tryz.prog fns) (hF : FnOk Tryz.prog F) {args : List V} {v : V} (ha : (args.all fun v => v.fine) = true) (hv : v.fine = true) {st' : St} (h : evF fns n F args stN = some (.ret v, st')) (st : St) : CallAt Tryz.prog F args st (.ret v) st :=
  flat_of globals.symm (mem := .leaf) no_lt (no_tabs st) (Ars.flats ha) (callAt_ev mixedZ htab hF h) (.flat _ hv) hv
theorem memo_pure {F : Nat} {R0 : List V → V → Prop} (hR : ∀ args v, R0 args v → ∀ st : St, CallAt Tryz.prog F args st (.ret v) st) (hu : ∀ args v v', R0 args v → R0 args v' → v = v') :
    ∃ g, MemoOk Tryz.prog F g ∧ ∀ fns : Tr Fs, fns.get F = some (.memo g) → ∀ (n : Nat) args v, R0 args v → ∀ st : St, evF fns (n + 1) F args st = some (.ret v, st) := by
  obtain ⟨R, hR'⟩ : ∃ R : List V → St → CR → St → Prop, R = fun args st r st' => CallAt Tryz.prog F args st r st' ∧ st' = st ∧ ∃ v, r = .ret v ∧ R0 args v := ⟨_, rfl⟩
  refine ⟨memoG R, memo_of fun args st r st' h => by rw [hR'] at h; exact h.1, fun fns hf n args v h st => ?_⟩
  obtain ⟨r, st'', h1, h2⟩ := memo_at (n := n) hf (args := args) (st := st) (r := .ret v) (st' := st) (by rw [hR']; exact ⟨hR args v h st, rfl, v, rfl, h⟩)
  rw [hR'] at h1
  obtain ⟨_, rfl, v', rfl, h3⟩ := h1
  rw [h2, hu args v v' h h3]
noncomputable def okR (b : V) (x : Option (CR × St)) : Bool := match x with
  | some (.ret c, _) => sameV b c
  | _ => false
theorem okR_eq {b : V} {x : Option (CR × St)} (h : okR b x = true) : ∃ st', x = some (.ret b, st') := by
  unfold okR at h
  split at h
  · rename_i c st'
    exact ⟨st', by rw [sameV_eq h]⟩
  · exact nomatch h
def nmsC : List Str := [[65], [66], [67], [118], [107], [120], [121], [122], [118, 97], [118, 98], [118, 99], [118, 100], [118, 101], [118, 102], [118, 103], [118, 104], [118, 105], [118, 106], [118, 107], [97], [98], [99]]
theorem names_ok : (nmsC.all fun s => okR (.bool true) (evF table 200 81 [.str s] stN)) = true := by kernel_rfl
theorem get_isname : table.get 81 = some sh81 := by kernel_rfl
theorem names_known : ∃ g, MemoOk Tryz.prog 81 g ∧ ∀ fns : Tr Fs, fns.get 81 = some (.memo g) → NameOk fns (· ∈ nmsC) := by
  obtain ⟨g, m, k⟩ := memo_pure (F := 81) (R0 := fun args v => ∃ s ∈ nmsC, args = [.str s] ∧ v = .bool true) (fun args v ⟨s, h1, h2, h3⟩ st => by
    subst h2 h3
    obtain ⟨st', h⟩ := okR_eq (List.all_eq_true.1 names_ok s h1)
    exact pure_at tab (fnOk_of tab get_isname) rfl rfl h st) (fun args v v' ⟨_, _, _, h⟩ ⟨_, _, _, h'⟩ => by rw [h, h'])
  exact ⟨g, m, fun fns hf n s hs st => k fns hf n _ _ ⟨s, hs, rfl, rfl⟩ st⟩
def FndK (s : Str) (k : Nat) : Prop := (s = [65] ∧ k = 0) ∨ (s = [66] ∧ k = 1) ∨ (s = [67] ∧ k = 2)
theorem fndK_fun : ∀ s k k', FndK s k → FndK s k' → k = k' := by
  intro s k k' h h'
  rcases h with ⟨rfl, rfl⟩ | ⟨rfl, rfl⟩ | ⟨rfl, rfl⟩ <;> rcases h' with ⟨h, rfl⟩ | ⟨h, rfl⟩ | ⟨h, rfl⟩ <;> first | rfl | exact nomatch h
def ByK (s : Str) : Prop := s = [107] ∨ s = [120] ∨ s = [121] ∨ s = [122]
def fldK : Nat → Str → Int
  | 0, [107] => 0 | 0, [120] => 1
  | 1, [107] => 0 | 1, [121] => 1
  | 2, [107] => 0 | 2, [120] => 1 | 2, [121] => 2
  | _, _ => -1
theorem get_find : table.get 53 = some sh53 := by kernel_rfl
theorem get_field : table.get 195 = some sh195 := by kernel_rfl
theorem get_sright : table.get 84 = some sh84 := by kernel_rfl
theorem find_a : okR (.int 63 0) (evF table 100 53 [ksV, .str [65]] stN) = true := by kernel_rfl
theorem find_b : okR (.int 63 1) (evF table 100 53 [ksV, .str [66]] stN) = true := by kernel_rfl
theorem find_c : okR (.int 63 2) (evF table 100 53 [ksV, .str [67]] stN) = true := by kernel_rfl
theorem finds_known : ∃ g, MemoOk Tryz.prog 53 g ∧ ∀ fns : Tr Fs, fns.get 53 = some (.memo g) → ∀ (n : Nat) {s : Str} {k : Nat}, FndK s k → ∀ st : St, evF fns (n + 1) 53 [ksV, .str s] st = some (.ret (.int 63 (Int.ofNat k)), st) := by
  obtain ⟨g, m, k⟩ := memo_pure (F := 53) (R0 := fun args v => ∃ s k, FndK s k ∧ args = [ksV, .str s] ∧ v = .int 63 (Int.ofNat k)) (fun args v ⟨s, k, h1, h2, h3⟩ st => by
    subst h2 h3
    rcases h1 with ⟨rfl, rfl⟩ | ⟨rfl, rfl⟩ | ⟨rfl, rfl⟩
    · obtain ⟨st', h⟩ := okR_eq find_a
      exact pure_at tab (fnOk_of tab get_find) rfl rfl h st
    · obtain ⟨st', h⟩ := okR_eq find_b
      exact pure_at tab (fnOk_of tab get_find) rfl rfl h st
    · obtain ⟨st', h⟩ := okR_eq find_c
      exact pure_at tab (fnOk_of tab get_find) rfl rfl h st) (fun args v v' ⟨s, k, h1, h2, h3⟩ ⟨s', k', h1', h2', h3'⟩ => by
    rw [h2] at h2'
    injection h2' with _ e
    injection e with e _
    injection e with e
    subst e
    rw [h3, h3', fndK_fun _ _ _ h1 h1'])
  exact ⟨g, m, fun fns hf n s k' hs st => k fns hf n _ _ ⟨s, k', hs, rfl, rfl⟩ st⟩
theorem flds_ok : ([0, 1, 2].all fun k => ([[107], [120], [121], [122]] : List Str).all fun s => okR (.int 63 (fldK k s)) (evF table 100 195 [.cmp 2 0 (kdV k), .str s] stN)) = true := by kernel_rfl
theorem kdV_inj {k k' : Nat} (h : k < 3) (h' : k' < 3) (e : kdV k = kdV k') : k = k' := by
  match k, k', h, h', e with
  | 0, 0, _, _, _ => rfl
  | 1, 1, _, _, _ => rfl
  | 2, 2, _, _, _ => rfl
  | 0, 1, _, _, e => exact nomatch e
  | 0, 2, _, _, e => exact nomatch e
  | 1, 0, _, _, e => exact nomatch e
  | 1, 2, _, _, e => exact nomatch e
  | 2, 0, _, _, e => exact nomatch e
  | 2, 1, _, _, e => exact nomatch e
theorem kd_fine {k : Nat} (h : k < 3) (s : Str) : (([.cmp 2 0 (kdV k), .str s] : List V).all fun v => v.fine) = true := by
  match k, h with
  | 0, _ => rfl
  | 1, _ => rfl
  | 2, _ => rfl
theorem fields_known : ∃ g, MemoOk Tryz.prog 195 g ∧ ∀ fns : Tr Fs, fns.get 195 = some (.memo g) → ∀ (n : Nat) {k : Nat} {s : Str}, k < 3 → ByK s → ∀ st : St, evF fns (n + 1) 195 [.cmp 2 0 (kdV k), .str s] st = some (.ret (.int 63 (fldK k s)), st) := by
  obtain ⟨g, m, k⟩ := memo_pure (F := 195) (R0 := fun args v => ∃ k s, k < 3 ∧ ByK s ∧ args = [.cmp 2 0 (kdV k), .str s] ∧ v = .int 63 (fldK k s)) (fun args v ⟨k, s, h0, h1, h2, h3⟩ st => by
    subst h2 h3
    have hm : k ∈ [0, 1, 2] := by simp; omega
    have hs : s ∈ ([[107], [120], [121], [122]] : List Str) := by rcases h1 with rfl | rfl | rfl | rfl <;> simp
    obtain ⟨st', h⟩ := okR_eq (List.all_eq_true.1 (List.all_eq_true.1 flds_ok k hm) s hs)
    exact pure_at tab (fnOk_of tab get_field) (kd_fine h0 s) rfl h st) (fun args v v' ⟨k, s, h0, h1, h2, h3⟩ ⟨k', s', h0', h1', h2', h3'⟩ => by
    rw [h2] at h2'
    injection h2' with e1 e2
    injection e1 with _ _ e1
    injection e2 with e2 _
    injection e2 with e2
    obtain rfl := kdV_inj h0 h0' e1
    subst e2
    rw [h3, h3'])
  exact ⟨g, m, fun fns hf n k' s hk hs st => k fns hf n _ _ ⟨k', s, hk, hs, rfl, rfl⟩ st⟩
theorem right_ok : okR (.int 63 0) (evF table 200 84 [ksV] stN) = true := by kernel_rfl
theorem right_known : ∃ g, MemoOk Tryz.prog 84 g ∧ ∀ fns : Tr Fs, fns.get 84 = some (.memo g) → ∀ (n : Nat) (st : St), evF fns (n + 1) 84 [ksV] st = some (.ret (.int 63 0), st) := by
  obtain ⟨g, m, k⟩ := memo_pure (F := 84) (R0 := fun args v => args = [ksV] ∧ v = .int 63 0) (fun args v ⟨h2, h3⟩ st => by
    subst h2 h3
    obtain ⟨st', h⟩ := okR_eq right_ok
    exact pure_at tab (fnOk_of tab get_sright) rfl rfl h st) (fun args v v' ⟨_, h⟩ ⟨_, h'⟩ => by rw [h, h'])
  exact ⟨g, m, fun fns hf n st => k fns hf n _ _ ⟨rfl, rfl⟩ st⟩
end Go.Proofs.YtnccejmggcjaoaaGreatDoor.Av
