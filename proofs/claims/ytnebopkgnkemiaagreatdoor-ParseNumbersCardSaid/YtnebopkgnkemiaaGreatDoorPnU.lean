/-
  parse.Parse OF THE TEXTS of ParseNumbers, where lex.All is known.
-/
import Derived.Test.YtnebopkgnkemiaaGreatDoorPnS
namespace Go.Proofs.YtnebopkgnkemiaaGreatDoor.Av
set_option linter.unusedVariables false
set_option linter.unusedSimpArgs false
set_option maxRecDepth 1000000
open Go
section
variable {call : Callee} {n : Nat} {tm : Tr V} {st : St}
noncomputable def preR (k : Tr V → St → Option (Option V × Ex × Tr V × St)) (r : Run) : Option (Option V × Ex × Tr V × St) :=
  Option.rec none (fun p => Prod.rec (fun e q => Prod.rec (fun tm' st' => Ex.rec (k tm' st') (fun _ => none) (some (none, .ret, tm', st')) (fun v => some (none, .pan v, tm', st')) e) q) p) r
theorem x_dPre (a : CEv) (k : DEv) : dPre a k call n tm st = preR (k call n) (a call n tm st) := Eq.trans (Eq.refl _) rfl
theorem x_preN (k : Tr V → St → Option (Option V × Ex × Tr V × St)) : preR k (some (.nrm, tm, st)) = k tm st := Eq.trans (Eq.refl _) rfl
noncomputable def dfrR (x : X) (rest : Tr V → St → Run) (r : Run) : Option (Option V × Ex × Tr V × St) :=
  Option.rec none (fun p => Prod.rec (fun e q => Prod.rec (fun tm' st' => Ex.rec ((x.ev tm').onFunc none (fun g cs => Option.rec none (fun q => some (some (.func g cs), q)) (rest tm' st'))) (fun _ => none) none (fun v => some (none, .pan v, tm', st')) e) q) p) r
theorem x_dDfr (ops : K) (x : X) (rest : CEv) : dDfr ops x rest call n tm st = dfrR x (rest call n) (ops call tm st) := Eq.trans (Eq.refl _) rfl
theorem x_dfrN (x : X) (rest : Tr V → St → Run) : dfrR x rest (some (.nrm, tm, st)) = (x.ev tm).onFunc none (fun g cs => Option.rec none (fun q => some (some (.func g cs), q)) (rest tm st)) := Eq.trans (Eq.refl _) rfl
theorem x_onFunc {α : Type} (d : α) (f : Nat → List V → α) (a : Nat) (l : List V) : (V.cmp 0 a l).onFunc d f = f a l := Eq.trans (Eq.refl _) rfl
end
theorem ev_dfr {fns : Tr Fs} {n f : Nat} {args : List V} {st : St} {rs : List RV} {b : DEv} (h : fns.get f = some (.dfr rs b)) : evF fns (n + 1) f args st = enterD fns (evF fns n) n rs b args st := by
  show (Option.rec none (fun fn => Fs.rec (fun rs b => enterF (evF fns n) n rs b args st) (fun k => Option.rec none (fun v => some (.ret v, st)) (evX k args)) (fun rs b => enterD fns (evF fns n) n rs b args st) (fun _ _ => none) (fun g => Option.rec none (fun v => some (.ret v, st)) (g args st)) (fun g => g args st) fn) (fns.get f) : Option (CR × St)) = _
  rw [h]
section
variable (g : List V → St → Option (CR × St)) (x y D : List UInt8) (a b w m len : Nat)
noncomputable def stB1 : St := ({ next := stA1.next, low := stA1.next, mem := stA1.mem } : St).new (.cells 27 zQ true)
noncomputable def stB2 : St := stB1.new (.cells 3 [.int 63 0] true)
abbrev tkV : V := .fsl 9 9 false (tkC x y D a b w)
end
theorem get_run (g) : (pnTabP g).get 10 = some sh10 := by kernel_rfl
theorem get_parse (g) : (pnTabP g).get 5 = some sh5 := by kernel_rfl
theorem nt0 (u v w : V) : nth [u, v, w] 0 = some u := Eq.trans (Eq.refl _) rfl
theorem nt1 (u v w : V) : nth [u, v, w] 1 = some v := Eq.trans (Eq.refl _) rfl
theorem nt2 (u v w : V) : nth [u, v, w] 2 = some w := Eq.trans (Eq.refl _) rfl
theorem m_mkf {tm : Tr V} {st : St} (f : Nat) (cs : List X) : iMkf f cs tm st = some (.cmp 0 f (X.evs tm cs)) := Eq.trans (Eq.refl _) rfl
noncomputable def seeR (r : Option (CR × St)) : Option (CR × Option Ob × Option Ob) := r.map fun p => (p.1, p.2.mem.get 11, p.2.mem.get 27)
noncomputable def seeP (r : Option (CR × St)) : Option (CR × Option Ob) := r.map fun p => (p.1, p.2.mem.get 11)
theorem pan_of {r : Option (CR × St)} {c : CR} (h : r.map Prod.fst = some c) : r = some (c, stR r) := by
  cases r with
  | none => exact nomatch h
  | some p => obtain ⟨c', s⟩ := p; obtain rfl := Option.some.inj h; rfl
abbrev obQ : Ob := .cells 27 zQ true
abbrev obI (a b : Nat) : Ob := .cells 34 [.int 63 1, .str [65], .str [97], .ref 2 0 0 0 0 false, .int 63 (Int.ofNat a), .int 63 (Int.ofNat b), .ref 2 0 0 0 0 false] true
abbrev tupA (x y D : List UInt8) (a b w m : Nat) : V := .tup [tkV x y D a b w, .int 63 (Int.ofNat m), .int 63 0]
section
variable {g : List V → St → Option (CR × St)} {x y D : List UInt8} {a b w m : Nat} {s : List UInt8}
theorem store_N : stW 1 aN (.int 63 (Int.ofNat m)) stB3 = some (.undef, stB4 m) := by kernel_rfl
theorem store_E : stW 1 aE (.int 63 0) (stB4 m) = some (.undef, stB5 m) := by kernel_rfl
theorem load_E : ldW false 1 aE (stB5 m) = some (.int 63 0) := by kernel_rfl
theorem build_P (tm : Tr V) (st : St) (h1 : X.ev tm (.t (pa 21)) = tkV x y D a b w) (h2 : X.ev tm (.t (pa 23)) = .int 63 (Int.ofNat (lenL s))) : iBuild [.ref 2 0 0 0 0 false, .int 63 0, .int 63 0, .int 63 0] [(0, 1, .t (pa 21)), (1, 1, .t (pa 23))] tm st = some (.cmp 2 0 [tkV x y D a b w, .int 63 (Int.ofNat (lenL s)), .int 63 0, .int 63 0]) := by
  show (Option.rec none (fun l => some (V.agg l)) (fillV tm [.ref 2 0 0 0 0 false, .int 63 0, .int 63 0, .int 63 0] [(0, 1, .t (pa 21)), (1, 1, .t (pa 23))]) : Option V) = _
  rw [fillV_cons]
  show (Option.rec none (fun l => some (V.agg l)) (match (X.ev tm (.t (pa 21))).cells? with
      | none => none
      | some cs => bif Nat.beq (lenL cs) 1 && Nat.ble (Nat.add 0 1) 4 then fillV tm (splice [.ref 2 0 0 0 0 false, .int 63 0, .int 63 0, .int 63 0] 0 cs) [(1, 1, .t (pa 23))] else none) : Option V) = _
  rw [h1]
  show (Option.rec none (fun l => some (V.agg l)) (fillV tm [tkV x y D a b w, .int 63 0, .int 63 0, .int 63 0] [(1, 1, .t (pa 23))]) : Option V) = _
  rw [fillV_cons]
  show (Option.rec none (fun l => some (V.agg l)) (match (X.ev tm (.t (pa 23))).cells? with
      | none => none
      | some cs => bif Nat.beq (lenL cs) 1 && Nat.ble (Nat.add 1 1) 4 then fillV tm (splice [tkV x y D a b w, .int 63 0, .int 63 0, .int 63 0] 1 cs) [] else none) : Option V) = _
  rw [h2]
  rfl
theorem box_P (tm : Tr V) (h : X.ev tm (.t (pa 24)) = .cmp 2 0 [tkV x y D a b w, .int 63 (Int.ofNat (lenL s)), .int 63 0, .int 63 0]) : iBox 67 (.t (pa 24)) tm (stB5 m) = some (aP, stB6 x y D a b w m (lenL s)) := by
  rw [m_box (cs := [tkV x y D a b w, .int 63 (Int.ofNat (lenL s)), .int 63 0, .int 63 0]) (by rw [h]; rfl)]; rfl
variable (hA : evF (pnTabP g) 401 21 [.str s] stB3 = some (.ret (tupA x y D a b w m), stB3))
include hA
theorem run_ok (h : okAB a b) (hw : w ≤ 1000000000) : seeR (evF (pnTabP g) 402 10 [.str s, .cmp 0 11 []] stA1) = some (.ret (.tup [qV w, .int 63 (Int.ofNat (lenL s)), .int 63 0]), some obQ, some (obI a b)) := by
  have hq := query_ok (g := g) (x := x) (y := y) (D := D) (m := m) (len := lenL s) h hw
  unfold outQ at hq
  have b1 : ∀ tm, iAlloc 27 [.ref 2 0 0 0 0 false, .int 63 0, .str []] tm { next := stA1.next, low := stA1.next, mem := stA1.mem } = some (aQ, stB1) := fun tm => rfl
  have b2 : ∀ tm, iAlloc 3 [.int 63 0] tm stB1 = some (aN, stB2) := fun tm => rfl
  have b3 : ∀ tm, iAlloc 28 [.int 63 0] tm stB2 = some (aE, stB3) := fun tm => rfl
  have z : fNeq 63 0 0 = some (.bool false) := rfl
  have hA' := hA
  have bP := fun (tm : Tr V) (st : St) => build_P (x := x) (y := y) (D := D) (a := a) (b := b) (w := w) (s := s) tm st
  have xP := fun (tm : Tr V) => box_P (x := x) (y := y) (D := D) (a := a) (b := b) (w := w) (m := m) (s := s) tm
  unfold tupA tkV aQ aN aE aP at *
  rw [ev_dfr (get_run g)]
  unfold enterD
  simp only [x_dPre, x_preN, x_dDfr, x_dfrN, x_onFunc, yY, iInt, iStr, iLenS, iLenL, iNot, iPick, iExt, if_true, if_false, reduceIte, Nat.reduceEqDiff, Nat.reduceAdd, reduceCtorEq, yQ, b1, b2, b3, hA', m_store, store_N, store_E, m_load, load_E, z, m_mkf, nt0, nt1, nt2, bP, xP, List.append_nil, List.cons_append, List.nil_append, hq]
  rcases h with ⟨rfl, rfl⟩ | ⟨rfl, rfl⟩ | ⟨rfl, rfl⟩ | ⟨rfl, rfl⟩ | ⟨rfl, rfl⟩ | ⟨rfl, rfl⟩ | ⟨rfl, rfl⟩ | ⟨rfl, rfl⟩ | ⟨rfl, rfl⟩ | ⟨rfl, rfl⟩ <;> (show _ = _; kernel_rfl)
theorem run_bad (h : okAB a b) (hw : 1000000000 < w) : seeP (evF (pnTabP g) 402 10 [.str s, .cmp 0 11 []] stA1) = some (.ret (.tup [.cmp 2 0 zQ, .int 63 16, .int 63 3]), some obQ) := by
  have hq := query_bad (g := g) (x := x) (y := y) (D := D) (m := m) (len := lenL s) h hw
  unfold outQ at hq
  have b1 : ∀ tm, iAlloc 27 [.ref 2 0 0 0 0 false, .int 63 0, .str []] tm { next := stA1.next, low := stA1.next, mem := stA1.mem } = some (aQ, stB1) := fun tm => rfl
  have b2 : ∀ tm, iAlloc 3 [.int 63 0] tm stB1 = some (aN, stB2) := fun tm => rfl
  have b3 : ∀ tm, iAlloc 28 [.int 63 0] tm stB2 = some (aE, stB3) := fun tm => rfl
  have z : fNeq 63 0 0 = some (.bool false) := rfl
  have hA' := hA
  have bP := fun (tm : Tr V) (st : St) => build_P (x := x) (y := y) (D := D) (a := a) (b := b) (w := w) (s := s) tm st
  have xP := fun (tm : Tr V) => box_P (x := x) (y := y) (D := D) (a := a) (b := b) (w := w) (m := m) (s := s) tm
  unfold tupA tkV aQ aN aE aP at *
  rw [ev_dfr (get_run g)]
  unfold enterD
  simp only [x_dPre, x_preN, x_dDfr, x_dfrN, x_onFunc, yY, iInt, iStr, iLenS, iLenL, iNot, iPick, iExt, if_true, if_false, reduceIte, Nat.reduceEqDiff, Nat.reduceAdd, reduceCtorEq, yQ, b1, b2, b3, hA', m_store, store_N, store_E, m_load, load_E, z, m_mkf, nt0, nt1, nt2, bP, xP, List.append_nil, List.cons_append, List.nil_append, hq]
  rcases h with ⟨rfl, rfl⟩ | ⟨rfl, rfl⟩ | ⟨rfl, rfl⟩ | ⟨rfl, rfl⟩ | ⟨rfl, rfl⟩ | ⟨rfl, rfl⟩ | ⟨rfl, rfl⟩ | ⟨rfl, rfl⟩ | ⟨rfl, rfl⟩ | ⟨rfl, rfl⟩ <;> (show _ = _; kernel_rfl)
theorem run_fa (ha : a < 8) (h : a < 1 ∨ 4 < a) : seeP (evF (pnTabP g) 402 10 [.str s, .cmp 0 11 []] stA1) = some (.ret (.tup [.cmp 2 0 zQ, .int 63 4, .int 63 3]), some obQ) := by
  obtain ⟨S, hS, hq⟩ : ∃ S, S = stR (outQ g x y D a b w m (lenL s)) ∧ outQ g x y D a b w m (lenL s) = some (.pan (wrongV 4), S) := ⟨_, rfl, pan_of (fail_a (g := g) (x := x) (y := y) (D := D) (b := b) (w := w) (m := m) (len := lenL s) ha h)⟩
  unfold outQ at hq
  have b1 : ∀ tm, iAlloc 27 [.ref 2 0 0 0 0 false, .int 63 0, .str []] tm { next := stA1.next, low := stA1.next, mem := stA1.mem } = some (aQ, stB1) := fun tm => rfl
  have b2 : ∀ tm, iAlloc 3 [.int 63 0] tm stB1 = some (aN, stB2) := fun tm => rfl
  have b3 : ∀ tm, iAlloc 28 [.int 63 0] tm stB2 = some (aE, stB3) := fun tm => rfl
  have z : fNeq 63 0 0 = some (.bool false) := rfl
  have hA' := hA
  have bP := fun (tm : Tr V) (st : St) => build_P (x := x) (y := y) (D := D) (a := a) (b := b) (w := w) (s := s) tm st
  have xP := fun (tm : Tr V) => box_P (x := x) (y := y) (D := D) (a := a) (b := b) (w := w) (m := m) (s := s) tm
  unfold tupA tkV aQ aN aE aP at *
  rw [ev_dfr (get_run g)]
  unfold enterD
  simp only [x_dPre, x_preN, x_dDfr, x_dfrN, x_onFunc, yY, iInt, iStr, iLenS, iLenL, iNot, iPick, iExt, if_true, if_false, reduceIte, Nat.reduceEqDiff, Nat.reduceAdd, reduceCtorEq, yQ, b1, b2, b3, hA', m_store, store_N, store_E, m_load, load_E, z, m_mkf, nt0, nt1, nt2, bP, xP, List.append_nil, List.cons_append, List.nil_append, hq]
  subst hS
  have h' : a = 0 ∨ a = 5 ∨ a = 6 ∨ a = 7 := by omega
  rcases h' with rfl | rfl | rfl | rfl <;> (show _ = _; kernel_rfl)
theorem run_fb (ha : 1 ≤ a) (ha' : a ≤ 4) (hb : b < 8) (h : b < a ∨ 4 < b) : seeP (evF (pnTabP g) 402 10 [.str s, .cmp 0 11 []] stA1) = some (.ret (.tup [.cmp 2 0 zQ, .int 63 6, .int 63 3]), some obQ) := by
  obtain ⟨S, hS, hq⟩ : ∃ S, S = stR (outQ g x y D a b w m (lenL s)) ∧ outQ g x y D a b w m (lenL s) = some (.pan (wrongV 6), S) := ⟨_, rfl, pan_of (fail_b (g := g) (x := x) (y := y) (D := D) (w := w) (m := m) (len := lenL s) ha ha' hb h)⟩
  unfold outQ at hq
  have b1 : ∀ tm, iAlloc 27 [.ref 2 0 0 0 0 false, .int 63 0, .str []] tm { next := stA1.next, low := stA1.next, mem := stA1.mem } = some (aQ, stB1) := fun tm => rfl
  have b2 : ∀ tm, iAlloc 3 [.int 63 0] tm stB1 = some (aN, stB2) := fun tm => rfl
  have b3 : ∀ tm, iAlloc 28 [.int 63 0] tm stB2 = some (aE, stB3) := fun tm => rfl
  have z : fNeq 63 0 0 = some (.bool false) := rfl
  have hA' := hA
  have bP := fun (tm : Tr V) (st : St) => build_P (x := x) (y := y) (D := D) (a := a) (b := b) (w := w) (s := s) tm st
  have xP := fun (tm : Tr V) => box_P (x := x) (y := y) (D := D) (a := a) (b := b) (w := w) (m := m) (s := s) tm
  unfold tupA tkV aQ aN aE aP at *
  rw [ev_dfr (get_run g)]
  unfold enterD
  simp only [x_dPre, x_preN, x_dDfr, x_dfrN, x_onFunc, yY, iInt, iStr, iLenS, iLenL, iNot, iPick, iExt, if_true, if_false, reduceIte, Nat.reduceEqDiff, Nat.reduceAdd, reduceCtorEq, yQ, b1, b2, b3, hA', m_store, store_N, store_E, m_load, load_E, z, m_mkf, nt0, nt1, nt2, bP, xP, List.append_nil, List.cons_append, List.nil_append, hq]
  subst hS
  have h1 : a = 1 ∨ a = 2 ∨ a = 3 ∨ a = 4 := by omega
  have h2 : b = 0 ∨ b = 1 ∨ b = 2 ∨ b = 3 ∨ b = 4 ∨ b = 5 ∨ b = 6 ∨ b = 7 := by omega
  rcases h1 with rfl | rfl | rfl | rfl <;> rcases h2 with rfl | rfl | rfl | rfl | rfl | rfl | rfl | rfl <;> first | (exfalso; omega) | (show _ = _; kernel_rfl)
end
end Go.Proofs.YtnebopkgnkemiaaGreatDoor.Av
