/-
  A PREDICATE, by the feed: none, or one truth.
-/
import Derived.Test.YtnccejmggcjaoaaGreatDoorTru
namespace Go.Proofs.YtnccejmggcjaoaaGreatDoor.Av
set_option linter.unusedVariables false
set_option linter.unusedSimpArgs false
set_option maxRecDepth 1000000
open Go
theorem truth_memo : ∃ g, MemoOk Tryz.prog 249 g ∧ ∀ fns : Tr Fs, fns.get 249 = some (.memo g) → KnownE 249 1 15 fns := by
  obtain ⟨gn, mn, hn⟩ := number_memo
  have l1 := like0.set mn (.inl rfl)
  have n1 := hn (table.set _ (some (.memo gn))) (by rw [get_set, if_pos rfl]) 1 (Nat.le_refl _)
  obtain ⟨g0, m0, k0⟩ := known_memo (F := 249) (D := 0) (m := fun d => 2 ^ (d + 3) - 1) fun d hd st o f vv vo h own kind =>
    truth_at l1.gen l1.ok 0 h own kind d (by omega) (fun h => n1 1 h own kind) fun d' hd' => by omega
  have l2 := l1.set m0 (.inr (.inl rfl))
  have n2 := hn ((table.set 261 (some (.memo gn))).set 249 (some (.memo g0))) (by rw [get_set, if_neg (by decide), get_set, if_pos rfl]) 1 (Nat.le_refl _)
  have t2 := k0 ((table.set 261 (some (.memo gn))).set 249 (some (.memo g0))) (by rw [get_set, if_pos rfl])
  obtain ⟨g, m, k⟩ := known_memo (F := 249) (D := 1) (m := fun d => 2 ^ (d + 3) - 1) fun d hd st o f vv vo h own kind =>
    truth_at l2.gen l2.ok 0 h own kind d (by omega) (fun h => n2 1 h own kind) fun d' hd' st f vv vo h => t2 d' (by omega) 1 h own kind
  exact ⟨g, m, fun fns hf => k fns hf 1 (Nat.le_refl _)⟩
abbrev predArgs (o : Nat) (own kind : Str) : List V := [.ref 1 o 0 0 0 false, .str own, .str kind]
section
variable {f : Nat} {args : List V} {st s : St}
theorem freezeP0 (h : CallAt Tryz.prog f args st (.ret (.ref 2 0 0 0 0 false)) s) : CallAt Tryz.prog f args st (.ret (slT 4 0 [])) s :=
  freeze (D := fun _ => False) h (fun _ hd => hd.elim) ⟨rfl, fun _ hd => hd.elim, fun o b' hb => ⟨b', hb, .inl rfl⟩⟩ (Nat.le_refl _) (fun _ _ _ => rfl) (fun _ _ _ => rfl) (.ret _ _ .nil)
theorem freezeR {e k ko m : Nat} {x : Bool} {cs : List V} (he : sizeT Tryz.prog e = some k) (h : CallAt Tryz.prog f args st (.ret (.ref 3 ko 0 m m x)) s) (hko : st.next ≤ ko)
    (hg : s.mem.get ko = some (.cells e cs true)) (hm : cs.length = m * k) : CallAt Tryz.prog f args st (.ret (slT 4 m cs)) (s.put ko none) := by
  refine freeze (D := fun y => y = ko) h (fun _ hd => by subst hd; exact hko) ⟨rfl, fun y hd => by rw [put_get, if_pos hd], fun o b' hb => ?_⟩ (by rw [put_low]; exact Nat.min_le_left _ _) (fun o ho _ => by rw [put_get, if_neg (by omega)]) (fun o ho _ => by rw [put_get, if_neg (by omega)]) ?_
  · rw [put_get] at hb
    split at hb
    · exact nomatch hb
    · exact ⟨b', hb, .inl rfl⟩
  · refine .ret _ _ (.fsl ko 0 _ _ _ e k cs cs rfl hg he (by omega) ?_)
    rw [List.drop_zero, List.take_of_length_le (by omega)]
    exact Fvs.refl _
end
theorem under_row {st : St} {ko m : Nat} {x : Bool} (h : st.next ≤ ko) : (CR.ret (.ref 3 ko 0 m m x)).under st.next = false := by
  cases hb : (V.ref 3 ko 0 m m x).under st.next with
  | false => exact hb
  | true => have := (under_ref st.next 3 ko 0 m m x).1 hb (.inr (.inl rfl)); omega
def KnownP (fns : Tr Fs) : Prop := ∀ (n : Nat) {st : St} {o : Nat} {f : Fd} {vv vo : V}, FeedAt st o f vv vo → ∀ own kind : Str, ∃ p a st', evF fns (n + 1) 228 (predArgs o own kind) st = some (.ret (slT 4 p.length (cEs p)), st') ∧ (p.length ≤ 1 ∧ szEs p ≤ 15) ∧ Moved o f vv vo a st st'
section
variable {fns : Tr Fs} (gt : GenT fns) (htab : TableOk Tryz.prog fns)
include gt htab
set_option maxHeartbeats 8000000 in
theorem pred_at (n : Nat) {st : St} {o : Nat} {f : Fd} {vv vo : V} (h : FeedAt st o f vv vo) (own kind : Str) (ht : KnownE 249 1 15 fns) :
    ∃ p a st', CallAt Tryz.prog 228 (predArgs o own kind) st (.ret (slT 4 p.length (cEs p))) st' ∧ (p.length ≤ 1 ∧ szEs p ≤ 15) ∧ Moved o f vv vo a st st' := by
  have call : ∀ {r : CR} {T : St}, enterF (evF fns (n + 2)) (n + 2) _ _ (predArgs o own kind) st = some (r, T) → CallAt Tryz.prog 228 (predArgs o own kind) st r T := fun h => callAt_in mixedZ htab ok228 h
  unfold enterF at call
  obtain ⟨S0, hS0⟩ : ∃ S0 : St, S0 = { next := st.next, low := st.next, mem := st.mem } := ⟨_, rfl⟩
  have hn0 : S0.next = st.next := by rw [hS0]
  have h0 : FeedAt S0 o f vv vo := by rw [hS0]; exact h.low _
  rw [← hS0] at call
  have hlt := h.lt
  obtain ⟨b, a, S1, k1, k2, k3⟩ := next_ev gt.next (n + 1) h0
  have hr2 : fRem 63 (Int.ofNat b) 2 = some (.int 63 (Int.ofNat (b % 2))) := f_rem 63 _ 2 (by decide)
  have e0 : eqI (Int.ofNat (b % 2)) 0 = decide (b % 2 = 0) := eqI_nat _ 0
  by_cases c1 : b % 2 = 0
  · have d1 : decide (b % 2 = 0) = true := decide_eq_true c1
    refine ⟨[], a, _, freezeP0 (call (r := .ret (.ref 2 0 0 0 0 false)) ?_), ⟨by decide, by decide⟩, Moved.back h (.ret (.ref 2 0 0 0 0 false)) (by rw [hS0] at k3; exact k3)⟩
    simp only [c228_0, c228_1, c228_2, yX, iInt, iStr, iLenS, iLenL, iNot, iPick, iExt, if_true, if_false, reduceIte, Nat.reduceEqDiff, Nat.reduceAdd, reduceCtorEq, yQ, k1, hr2, f_eql, e0, d1]
    rw [leave_slot (v := .ref 2 0 0 0 0 false) (by simp only [yL, if_true, if_false, reduceIte, Nat.reduceEqDiff, reduceCtorEq]) (fun h => nomatch h)]
  · have d1 : decide (b % 2 = 0) = false := decide_eq_false c1
    obtain ⟨e1, a1, S2, r1, r2, r3⟩ := ht (n + 1) k3.feed own kind
    have r1' : evF fns (n + 2) 249 [.ref 1 o 0 0 0 false, .str own, .str kind, .int 63 1] S1 = some (.ret (.cmp 2 0 (cE e1)), S2) := r1
    have m3 := k3.trans r3
    obtain ⟨S3, hS3⟩ : ∃ S3, S3 = S2.new (.cells 43 (cEs [e1]) true) := ⟨_, rfl⟩
    have m4 : Moved o f vv vo a1 S0 S3 := by rw [hS3]; exact m3.new h0 _
    have hcE : cEs [e1] = cE e1 := by simp only [cEs, List.append_nil]
    have hbs : ∀ (tm : Tr V), X.ev tm (.t (pa 14)) = .cmp 2 0 (cE e1) → iBsl 43 1 zE [(0, 6, .t (pa 14))] tm S2 = some (.ref 3 S2.next 0 1 1 true, S3) := fun tm h => by
      rw [m_bsl, fillV_c, h, cells_agg2, fillS_w (cE_len _) rfl, fillV_0, hS3, hcE]
    have hn2 : S0.next ≤ S2.next := m3.next
    have hmb := Moved.back h (.ret (.ref 3 S2.next 0 1 1 true)) (by rw [hS0] at m4; exact m4)
    refine ⟨[e1], a1, _, freezeR (e := 43) (k := 6) (cs := cEs [e1]) (ko := S2.next) (m := 1) (x := true) size_E (call (r := .ret (.ref 3 S2.next 0 1 1 true)) ?_) (by omega) ?_ (by rw [cEs_len]; rfl), ⟨Nat.le_refl _, by simp only [szEs]; omega⟩, Moved.put h hmb (by omega) none⟩
    · simp only [c228_0, c228_1, c228_2, c228_3, yX, iInt, iStr, iLenS, iLenL, iNot, iPick, iExt, if_true, if_false, reduceIte, Nat.reduceEqDiff, Nat.reduceAdd, reduceCtorEq, yQ, k1, hr2, f_eql, e0, d1, r1', hbs]
      rw [leave_slot (v := .ref 3 S2.next 0 1 1 true) (by simp only [yL, if_true, if_false, reduceIte, Nat.reduceEqDiff, reduceCtorEq]) (fun h => nomatch h)]
    · rw [back_new (under_row (by omega)), hS3]; exact new_get_self' _ _
end
theorem pred_memo : ∃ g, MemoOk Tryz.prog 228 g ∧ ∀ fns : Tr Fs, fns.get 228 = some (.memo g) → KnownP fns := by
  obtain ⟨gt, mt, ht⟩ := truth_memo
  have l1 := like0.set mt (.inr (.inl rfl))
  have n1 := ht (table.set _ (some (.memo gt))) (by rw [get_set, if_pos rfl])
  obtain ⟨R, hR⟩ : ∃ R : List V → St → CR → St → Prop, R = fun args st r st' => CallAt Tryz.prog 228 args st r st' ∧ ∃ (o : Nat) (f : Fd) (vv vo : V) (own kind : Str) (p : List Et) (a : Nat), args = predArgs o own kind ∧ FeedAt st o f vv vo ∧ r = .ret (slT 4 p.length (cEs p)) ∧ (p.length ≤ 1 ∧ szEs p ≤ 15) ∧ Moved o f vv vo a st st' := ⟨_, rfl⟩
  refine ⟨memoG R, memo_of fun args st r st' h => by rw [hR] at h; exact h.1, fun fns hf n st o f vv vo h own kind => ?_⟩
  obtain ⟨p, a, st', c1, c2, c3⟩ := pred_at l1.gen l1.ok 0 h own kind n1
  obtain ⟨r, st'', h1, h2⟩ := memo_at (n := n) hf (args := predArgs o own kind) (st := st) (r := .ret (slT 4 p.length (cEs p))) (st' := st') (by rw [hR]; exact ⟨c1, o, f, vv, vo, own, kind, p, a, rfl, h, rfl, c2, c3⟩)
  rw [hR] at h1
  obtain ⟨_, o', f', vv', vo', own', kind', p', a', he, h3, rfl, h4, h5⟩ := h1
  injection he with he1 he
  injection he1 with _ he1
  subst he1
  obtain ⟨rfl, rfl, rfl⟩ := h.uniq h3
  exact ⟨p', a', st'', h2, h4, h5⟩
end Go.Proofs.YtnccejmggcjaoaaGreatDoor.Av
