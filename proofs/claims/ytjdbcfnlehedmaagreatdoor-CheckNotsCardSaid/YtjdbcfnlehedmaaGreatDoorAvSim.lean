/-
  GOING THROUGH CODES BY REWRITING: the abstract machine's steps as equations.
-/
import Derived.Test.YtjdbcfnlehedmaaGreatDoorAvSpec
namespace Go.Proofs.YtjdbcfnlehedmaaGreatDoor.Av
set_option linter.unusedVariables false
set_option linter.unusedSimpArgs false
open Go

section
variable {call : Callee} {n : Nat} {tm : Tr V} {st : St} {d : Option Pa} {k : K}
theorem x_seq (a b : CEv) : cSeq a b call n tm st = thenR (a call n tm st) (b call n) := Eq.trans (Eq.refl _) rfl
theorem x_reg (k : K) : cReg k call n tm st = k call tm st := Eq.trans (Eq.refl _) rfl
theorem x_skip : cSkip call n tm st = some (.nrm, tm, st) := Eq.trans (Eq.refl _) rfl
theorem x_ret : cRet call n tm st = some (.ret, tm, st) := Eq.trans (Eq.refl _) rfl
theorem x_exit (i : Nat) : cExit i call n tm st = some (.exit i, tm, st) := Eq.trans (Eq.refl _) rfl
theorem x_cond (c : X) (a b : CEv) : cCond c a b call n tm st = condV (a call n tm st) (b call n tm st) (c.ev tm) := Eq.trans (Eq.refl _) rfl
theorem x_condT (a b : Run) : condV a b (.bool true) = a := Eq.trans (Eq.refl _) rfl
theorem x_condF (a b : Run) : condV a b (.bool false) = b := Eq.trans (Eq.refl _) rfl
theorem x_block (i : Nat) (b : CEv) : cBlock i b call n tm st = outR i (b call n tm st) := Eq.trans (Eq.refl _) rfl
theorem x_loop (b : CEv) : cLoop b call n tm st = loopV n (b call n) tm st := Eq.trans (Eq.refl _) rfl
theorem x_loop1 (n : Nat) (body : Tr V → St → Run) (tm : Tr V) (st : St) : loopV (n + 1) body tm st = thenR (body tm st) (loopV n body) := Eq.trans (Eq.refl _) rfl
theorem x_nrm (tm : Tr V) (st : St) (f : Tr V → St → Run) : thenR (some (.nrm, tm, st)) f = f tm st := Eq.trans (Eq.refl _) rfl
theorem x_then_ret (tm : Tr V) (st : St) (f : Tr V → St → Run) : thenR (some (.ret, tm, st)) f = some (.ret, tm, st) := Eq.trans (Eq.refl _) rfl
theorem x_then_exit (i : Nat) (tm : Tr V) (st : St) (f : Tr V → St → Run) : thenR (some (.exit i, tm, st)) f = some (.exit i, tm, st) := Eq.trans (Eq.refl _) rfl
theorem x_then_pan (v : V) (tm : Tr V) (st : St) (f : Tr V → St → Run) : thenR (some (.pan v, tm, st)) f = some (.pan v, tm, st) := Eq.trans (Eq.refl _) rfl
theorem x_out_nrm (i : Nat) (tm : Tr V) (st : St) : outR i (some (.nrm, tm, st)) = some (.nrm, tm, st) := Eq.trans (Eq.refl _) rfl
theorem x_out_ret (i : Nat) (tm : Tr V) (st : St) : outR i (some (.ret, tm, st)) = some (.ret, tm, st) := Eq.trans (Eq.refl _) rfl
theorem x_out_pan (i : Nat) (v : V) (tm : Tr V) (st : St) : outR i (some (.pan v, tm, st)) = some (.pan v, tm, st) := Eq.trans (Eq.refl _) rfl
theorem x_out_exit (i j : Nat) (tm : Tr V) (st : St) : outR i (some (.exit j, tm, st)) = if j = i then some (.nrm, tm, st) else some (.exit j, tm, st) := by
  show (Bool.rec (some (.exit j, tm, st)) (some (.nrm, tm, st)) (Nat.beq j i) : Run) = _
  by_cases h : j = i
  · rw [beqT h, if_pos h]
  · rw [beqF h, if_neg h]
theorem x_endG : endG call tm st = some (.nrm, tm, st) := Eq.trans (Eq.refl _) rfl
theorem x_step0 (go : Option Pa → K → K) : step0 d go k call tm st = go d k call tm st := Eq.trans (Eq.refl _) rfl
theorem x_stepG (go : Option Pa → K → K) (p : Pa) (w : Bool) : stepG d go (some (p, w)) k call tm st = Bool.rec (k call (putT tm d .undef) st) (go d k call tm st) (isB w (X.ev tm (.t p))) := by
  show (Bool.rec (k call (putT tm d .undef) st) (go d k call tm st) (Option.rec false (fun v => isB w v) (tm.at p)) : Run) = _
  rw [ev_t]
  cases tm.at p <;> rfl
theorem x_isBT (b : Bool) : isB true (.bool b) = b := by cases b <;> rfl
theorem x_isBF (b : Bool) : isB false (.bool b) = !b := by cases b <;> rfl
theorem x_recT {α : Type} (a b : α) : (Bool.rec a b true : α) = b := Eq.trans (Eq.refl _) rfl
theorem x_recF {α : Type} (a b : α) : (Bool.rec a b false : α) = a := Eq.trans (Eq.refl _) rfl
theorem x_mov (x : X) : gMov x d k call tm st = k call (putT tm d (x.ev tm)) st := Eq.trans (Eq.refl _) rfl
theorem x_gP {f : Tr V → St → Option V} {v : V} (h : f tm st = some v) : gP f d k call tm st = k call (putT tm d v) st := by
  show (Option.rec none (fun v => k call (putT tm d v) st) (f tm st) : Run) = _
  rw [h]
theorem x_gP' {f : Tr V → St → Option V} : gP f d k call tm st = Option.rec none (fun v => k call (putT tm d v) st) (f tm st) := Eq.trans (Eq.refl _) rfl
theorem x_gE' {f : Tr V → St → Ev} : gE f d k call tm st = Option.rec none (fun p => Prod.rec (fun v st' => k call (putT tm d v) st') p) (f tm st) := Eq.trans (Eq.refl _) rfl
theorem x_call (f : Nat) (xs : List X) : gCall f xs d k call tm st = goR d k call tm (call f (X.evs tm xs) st) := Eq.trans (Eq.refl _) rfl
theorem x_dyn (x : X) (xs : List X) : gDyn x xs d k call tm st = goR d k call tm (dynV call (X.evs tm xs) st (x.ev tm)) := Eq.trans (Eq.refl _) rfl
theorem x_dynV (args : List V) (f : Nat) (cs : List V) : dynV call args st (.func f cs) = call f (args ++ cs) st := by
  show call f (appL args cs) st = _
  rw [appL_eq]
theorem x_goR (v : V) (st' : St) : goR d k call tm (some (.ret v, st')) = k call (putT tm d v) st' := Eq.trans (Eq.refl _) rfl
theorem x_put (p : Pa) (v : V) : putT tm (some p) v = tm.to p (some v) := Eq.trans (Eq.refl _) rfl
theorem x_put0 (v : V) : putT tm none v = tm := Eq.trans (Eq.refl _) rfl
theorem x_evc (v : V) : X.ev tm (.c v) = v := Eq.trans (Eq.refl _) rfl
theorem x_evt (i j : Nat) (v : V) : X.ev (tm.to (pa i) (some v)) (.t (pa j)) = if i = j then v else X.ev tm (.t (pa j)) := by
  rw [ev_t, ev_t]
  by_cases h : i = j
  · subst h; rw [at_to_same, if_pos rfl]; rfl
  · rw [at_to_ne _ _ (fun e => h (pa_inj e)), if_neg h]
theorem x_ats (i j : Nat) (v : V) : (tm.to (pa i) (some v)).at (pa j) = if i = j then some v else tm.at (pa j) := by
  by_cases h : i = j
  · subst h; rw [at_to_same, if_pos rfl]
  · rw [at_to_ne _ _ (fun e => h (pa_inj e)), if_neg h]
theorem x_evs (x : X) (l : List X) : X.evs tm (x :: l) = x.ev tm :: X.evs tm l := Eq.trans (Eq.refl _) rfl
theorem x_evs0 : X.evs tm [] = [] := Eq.trans (Eq.refl _) rfl
theorem x_onInt {α : Type} (d : α) (f : Nat → Int → α) (k : Nat) (n : Int) : (V.int k n).onInt d f = f k n := Eq.trans (Eq.refl _) rfl
theorem x_onStr {α : Type} (d : α) (f : List UInt8 → α) (s : List UInt8) : (V.str s).onStr d f = f s := Eq.trans (Eq.refl _) rfl
theorem x_onBool {α : Type} (d : α) (f : Bool → α) (b : Bool) : (V.bool b).onBool d f = f b := Eq.trans (Eq.refl _) rfl
theorem x_onNat {α : Type} (d : α) (f : Nat → α) (k : Nat) (n : Nat) : (V.int k (Int.ofNat n)).onNat d f = f n := Eq.trans (Eq.refl _) rfl
theorem x_onPtr {α : Type} (d : α) (f : Nat → Nat → α) (o i n c : Nat) (x : Bool) : (V.ref 1 o i n c x).onPtr d f = f o i := Eq.trans (Eq.refl _) rfl
theorem x_onSlice {α : Type} (d z : α) (f : Nat → Nat → Nat → Nat → Bool → α) (o i n c : Nat) (x : Bool) : (V.ref 3 o i n c x).onSlice d z f = f o i n c x := Eq.trans (Eq.refl _) rfl
theorem x_onSlice0 {α : Type} (d z : α) (f : Nat → Nat → Nat → Nat → Bool → α) (o i n c : Nat) (x : Bool) : (V.ref 2 o i n c x).onSlice d z f = z := Eq.trans (Eq.refl _) rfl
theorem x_onCells {α : Type} (d : α) (f : Nat → List V → Bool → α) (e : Nat) (cs : List V) (w : Bool) : onCells d f (some (.cells e cs w)) = f e cs w := Eq.trans (Eq.refl _) rfl
theorem x_onTup {α : Type} (d : α) (f : List V → α) (a : Nat) (l : List V) : (V.cmp 3 a l).onTup d f = f l := Eq.trans (Eq.refl _) rfl
theorem x_onAgg {α : Type} (d : α) (f : List V → α) (a : Nat) (l : List V) : (V.cmp 2 a l).onAgg d f = f l := Eq.trans (Eq.refl _) rfl
theorem x_beq (n : Nat) : Nat.beq n n = true := Nat.beq_refl n
theorem x_int (f : F2) (k : Nat) (x y : X) (a b : Int) (hx : x.ev tm = .int k a) (hy : y.ev tm = .int k b) : iInt f k x y tm st = f k a b := by
  unfold iInt
  rw [hx, hy, x_onInt, x_onInt, x_beq]
end
section
variable {fns : Tr Fs} {n f : Nat} {args : List V} {st : St}
theorem ev_mk {rs : List RV} {b : CEv} (h : fns.get f = some (.mk rs b)) : evF fns (n + 1) f args st = leaveF st rs (b (evF fns n) n (initT args 0 .leaf) { next := st.next, low := st.next, mem := st.mem }) := by
  show (Option.rec none (fun fn => Fs.rec (fun rs b => enterF (evF fns n) n rs b args st) (fun k => Option.rec none (fun v => some (.ret v, st)) (evX k args)) (fun rs b => enterD fns (evF fns n) n rs b args st) (fun _ _ => none) (fun g => Option.rec none (fun v => some (.ret v, st)) (g args st)) fn) (fns.get f) : Option (CR × St)) = _
  rw [h]
  rfl
theorem ev_spec {g : List V → St → Option V} {v : V} (h : fns.get f = some (.spec g)) (hg : g args st = some v) : evF fns (n + 1) f args st = some (.ret v, st) := by
  show (Option.rec none (fun fn => Fs.rec (fun rs b => enterF (evF fns n) n rs b args st) (fun k => Option.rec none (fun v => some (.ret v, st)) (evX k args)) (fun rs b => enterD fns (evF fns n) n rs b args st) (fun _ _ => none) (fun g => Option.rec none (fun v => some (.ret v, st)) (g args st)) fn) (fns.get f) : Option (CR × St)) = _
  rw [h]
  show (Option.rec none (fun v => some (CR.ret v, st)) (g args st) : Option (CR × St)) = _
  rw [hg]
/-- Left with one result in a slot, nothing that there was turned. -/
theorem leave_ret {tm : Tr V} {st' : St} {p : Pa} {v : V} (hv : tm.at p = some v) (hl : st.next ≤ st'.low) (hu : v.under st.next = true) : leaveF st [.t p] (some (.ret, tm, st')) = some (.ret v, st) := by
  show (Option.rec none (fun v => some (.ret v, back st (.ret v) st')) (tm.at p) : Option (CR × St)) = _
  rw [hv]
  show some (CR.ret v, back st (.ret v) st') = _
  unfold back
  rw [show (CR.ret v).under st.next = true from hu, bleT hl]
  rfl
theorem leave_nrm {tm : Tr V} {st' : St} {p : Pa} {v : V} (hv : tm.at p = some v) (hl : st.next ≤ st'.low) (hu : v.under st.next = true) : leaveF st [.t p] (some (.nrm, tm, st')) = some (.ret v, st) := leave_ret hv hl hu
end
section
variable {tm : Tr V} {st : St}
theorem x_store {n : Nat} {a x : X} {o i e : Nat} {l cs : List V} (ha : a.ev tm = .ref 1 o i 0 0 false) (hx : (x.ev tm).cells? = some l) (hg : st.mem.get o = some (.cells e cs true)) (hl : l.length = n) (hi : i + n ≤ cs.length) :
    iStore n a x tm st = some (.undef, st.put o (some (.cells e (splice cs i l) true))) := by
  unfold iStore
  rw [ha, x_onPtr, hx]
  show onCells none _ (st.mem.get o) = _
  rw [hg, x_onCells]
  have h1 : Nat.beq (lenL l) n = true := by rw [lenL_eq]; exact beqT hl
  have h2 : Nat.ble (Nat.add i n) (lenL cs) = true := by rw [lenL_eq]; exact bleT hi
  rw [h1, h2]
  rfl
theorem x_loadA {n : Nat} {x : X} {o i e : Nat} {cs : List V} {w : Bool} (hx : x.ev tm = .ref 1 o i 0 0 false) (hg : st.mem.get o = some (.cells e cs w)) (hi : i + n ≤ cs.length) : iLoad true n x tm st = some (.agg ((cs.drop i).take n)) := by
  unfold iLoad
  rw [hx, x_onPtr, hg, x_onCells]
  show (bif Nat.ble (Nat.add i n) (lenL cs) then some (V.agg (takeL (dropL cs i) n)) else none) = _
  have h2 : Nat.ble (Nat.add i n) (lenL cs) = true := by rw [lenL_eq]; exact bleT hi
  rw [h2, takeL_eq, dropL_eq]
  rfl
theorem x_load1 {x : X} {o i e : Nat} {cs : List V} {w : Bool} {v : V} (hx : x.ev tm = .ref 1 o i 0 0 false) (hg : st.mem.get o = some (.cells e cs w)) (hv : cs[i]? = some v) : iLoad false 1 x tm st = some v := by
  unfold iLoad
  rw [hx, x_onPtr, hg, x_onCells]
  show nth cs i = _
  rw [nth_eq, hv]
theorem x_iad {n : Nat} {x i : X} {o b m c k kk : Nat} {ex : Bool} (hx : x.ev tm = .ref 3 o b m c ex) (hi : i.ev tm = .int kk (Int.ofNat k)) (hk : k < m) : iIad n x i tm st = some (.ptr o (b + k * n)) := by
  unfold iIad
  rw [hx, x_onSlice, hi, x_onNat, blt_iff.2 hk]
  rfl
theorem x_fill0 (z : List V) : fillV tm z [] = some z := Eq.trans (Eq.refl _) rfl
theorem x_rvm (p : Pa) (g : Bool) (n : Nat) : RV.ev tm st (.m p g n) = iLoad g n (.t p) tm st := Eq.trans (Eq.refl _) rfl
theorem x_rvt (p : Pa) : RV.ev tm st (.t p) = tm.at p := Eq.trans (Eq.refl _) rfl
theorem leave_ret2 {st0 : St} {r1 r2 : RV} {v1 v2 : V} (h1 : RV.ev tm st r1 = some v1) (h2 : RV.ev tm st r2 = some v2) (hl : st0.next ≤ st.low) (hu : (V.tup [v1, v2]).under st0.next = true) :
    leaveF st0 [r1, r2] (some (.ret, tm, st)) = some (.ret (.tup [v1, v2]), st0) := by
  show (Option.rec none (fun v => some (.ret v, back st0 (.ret v) st)) (resV tm st [r1, r2]) : Option (CR × St)) = _
  have h3 : RV.evs tm st [r1, r2] = some [v1, v2] := by
    show (match RV.ev tm st r1, (match RV.ev tm st r2, (some [] : Option (List V)) with
      | some v, some vs => some (v :: vs)
      | _, _ => none) with
      | some v, some vs => some (v :: vs)
      | _, _ => none) = _
    rw [h1, h2]
  have h4 : resV tm st [r1, r2] = some (.tup [v1, v2]) := by
    show (match RV.evs tm st [r1, r2] with
      | some vs => some (V.tup vs)
      | none => none) = _
    rw [h3]
  rw [h4]
  show some (CR.ret (V.tup [v1, v2]), back st0 (.ret (.tup [v1, v2])) st) = _
  unfold back
  rw [show (CR.ret (V.tup [v1, v2])).under st0.next = true from hu, bleT hl]
  rfl
end
theorem initT0 (tm : Tr V) (i : Nat) : initT [] i tm = tm := Eq.trans (Eq.refl _) rfl
theorem initT1 (v : V) (l : List V) (i : Nat) (tm : Tr V) : initT (v :: l) i tm = initT l (i + 1) (tm.to (pa i) (some v)) := Eq.trans (Eq.refl _) rfl
/-- A table with one entry known. -/
theorem tableSpec {P : Program} {fns : Tr Fs} (h : TableOk P fns) {f : Nat} {g : List V → St → Option V} (hg : SpecOk P f g) : TableOk P (fns.set f (some (.spec g))) := by
  intro k fs hk
  rw [get_set] at hk
  split at hk
  · rename_i e
    obtain rfl := Option.some.inj hk
    subst e; exact hg
  · exact h k fs hk
end Go.Proofs.YtjdbcfnlehedmaaGreatDoor.Av
