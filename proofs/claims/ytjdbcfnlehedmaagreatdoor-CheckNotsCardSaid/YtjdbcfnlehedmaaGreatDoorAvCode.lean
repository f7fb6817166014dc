/-
  CODES: what the abstract machine comes to, the model comes to.
-/
import Derived.Test.YtjdbcfnlehedmaaGreatDoorAvStep
import Derived.Scope
namespace Go.Proofs.YtjdbcfnlehedmaaGreatDoor.Av
set_option linter.unusedVariables false
set_option linter.unusedSimpArgs false
open Go Go.RowKit

/-- From one state and world on to another. -/
structure Now (P : Program) (base : Nat) (ρ : Map) (st : St) (w : World) (ρ' : Map) (st' : St) (w' : World) : Prop where
  ext : Ext ρ ρ' st.next
  rel : Rel P base ρ' st' w'
  turn : Turn st st'
  below : Below base w w'
  dead : Dead ρ ρ' st st'
theorem Now.refl {P : Program} {base : Nat} {ρ : Map} {st : St} {w : World} (h : Rel P base ρ st w) : Now P base ρ st w ρ st w := ⟨Ext.refl _ _, h, Turn.refl _, Below.refl _ _, Dead.refl _ _⟩
theorem Now.trans {P : Program} {base : Nat} {ρ ρ1 ρ2 : Map} {st st1 st2 : St} {w w1 w2 : World} (h : Now P base ρ st w ρ1 st1 w1) (h' : Now P base ρ1 st1 w1 ρ2 st2 w2) : Now P base ρ st w ρ2 st2 w2 :=
  ⟨h.ext.trans h'.ext h.turn.next, h'.rel, h.turn.trans h'.turn, h.below.trans h'.below, h.dead.trans h'.dead h.turn.next⟩
/-- How a call ends. -/
def Came (P : Program) (base : Nat) (ρ : Map) (st : St) (w : World) (r : CR) (st' : St) : Ending → World → Prop := fun e w' =>
  ∃ ρ', Now P base ρ st w ρ' st' w' ∧ match r, e with
    | .ret v, .returned v' => VR ρ' st'.next v v'
    | .pan v, .panicked chain => ∃ v', chain = [{ v := v', recovered := false }] ∧ VR ρ' st'.next v v'
    | _, _ => False
def FnOk (P : Program) (f : Nat) : Prop := ∃ fn, P.funcs[f]? = some fn ∧ (fn.name == "runtime.NumGoroutine") = false ∧ fn.body.isNone = false
def CallOk (P : Program) (call : Callee) : Prop :=
  ∀ ⦃base f : Nat⦄ ⦃args : List V⦄ ⦃st st' : St⦄ ⦃r : CR⦄ ⦃ρ : Map⦄ ⦃w : World⦄ ⦃args' : List Value⦄, call f args st = some (r, st') → Rel P base ρ st w → base ≤ w.heap.size → VRs ρ st.next args args' →
    (FnOk P f ∧ Calls P f args'.toArray w (Came P base ρ st w r st')) ∨
      (∃ v v', r = .ret v ∧ st' = st ∧ (callFunc f args'.toArray).run P w = .ok (.value v') w ∧ VR ρ st.next v v')
/-- Where we are in a function. -/
structure At (P : Program) (base : Nat) (dl : List Deferred) (ρ : Map) (st : St) (w : World) (nt : Nat) (tm : Tr V) (a : Act) : Prop where
  ctx : Ctx P base ρ st w nt tm a
  hb : base ≤ w.heap.size
  nod : a.defers = dl
def Fin (P : Program) (base nt : Nat) (dl : List Deferred) (ρ : Map) (st : St) (w : World) (r : Ex × Tr V × St) : Exit → Act → World → Prop := fun e a w' =>
  ∃ ρ', Now P base ρ st w ρ' r.2.2 w' ∧ a.defers = dl ∧ match r.1, e with
    | .nrm, .normal => TmR ρ' r.2.2.next nt r.2.1 a.tmps
    | .exit i, .exit j => i = j ∧ TmR ρ' r.2.2.next nt r.2.1 a.tmps
    | .ret, .ret => TmR ρ' r.2.2.next nt r.2.1 a.tmps
    | .pan v, .panic chain => ∃ v', chain = [{ v := v', recovered := false }] ∧ VR ρ' r.2.2.next v v' ∧ TmW ρ' r.2.2.next nt r.2.1 a.tmps
    | _, _ => False
section
variable {P : Program} {base nt : Nat} {dl : List Deferred} {call : Callee} {ρ : Map} {st : St} {w : World} {tm : Tr V} {a : Act} {o : Oper} {Q : Exit → Act → World → Prop} {next : Act → World → Prop}
theorem Fin.mono {ρ1 : Map} {st1 : St} {w1 : World} {r : Ex × Tr V × St} (h : Now P base ρ st w ρ1 st1 w1) {e : Exit} {a : Act} {w' : World} (hf : Fin P base nt dl ρ1 st1 w1 r e a w') : Fin P base nt dl ρ st w r e a w' := by
  obtain ⟨ρ', h1, h2⟩ := hf
  exact ⟨ρ', h.trans h1, h2⟩
theorem size_le (h : base ≤ w.heap.size) {w' : World} (hb : Below base w w') : base ≤ w'.heap.size := Nat.le_trans h hb.size
theorem put_some (a : Act) (d : Nat) (v : Value) : (a.put (some d) v).tmps = a.tmps.setIfInBounds d v := rfl
theorem put_nod {a : Act} (h : a.defers = dl) (d : Option Tmp) (v : Value) : (a.put d v).defers = dl := by cases d <;> exact h
theorem putT_rel {n : Nat} (h : TmR ρ n nt tm a.tmps) (hd : ∀ t, o.dst = some t → t < nt) {v : V} {v' : Value} (hv : VR ρ n v v') : TmR ρ n nt (putT tm (o.dst.map pa) v) (a.put o.dst v').tmps := by
  cases hd' : o.dst with
  | none => exact h
  | some d => exact h.put (hd d hd') hv
theorem upon_pure {f : Tr V → St → Option V} (hf : PureOk P o f) (c : Ctx P base ρ st w nt tm a) {v : V} (h : f tm st = some v) (hn : ∀ v', VR ρ st.next v v' → next (a.put o.dst v') w) : o.wp P a w next Q := by
  obtain ⟨v', h1, h2⟩ := hf c h
  unfold Oper.wp
  rw [h1]
  exact hn v' h2
theorem upon_loud {f : Tr V → St → Ev} (hf : LoudOk P o f) (c : Ctx P base ρ st w nt tm a) (hb : base ≤ w.heap.size) {v : V} {st' : St} (h : f tm st = some (v, st'))
    (hn : ∀ v' ρ' w', Now P base ρ st w ρ' st' w' → VR ρ' st'.next v v' → next (a.put o.dst v') w') : o.wp P a w next Q := by
  obtain ⟨v', w', ρ', h1, h2, h3, h4, h5, h6, h7⟩ := hf c hb h
  unfold Oper.wp
  rcases h1 with h1 | ⟨h1, rfl⟩
  · rw [h1]; exact hn v' ρ' w' ⟨h2, h4, h5, h6, h7⟩ h3
  · rw [h1]; exact hn _ ρ' w' ⟨h2, h4, h5, h6, h7⟩ h3
theorem upon_enter' {f : Nat} {args : Array Value} (hr : (execOp a.eval o).run P w = .ok (.enter f args) w) {r : CR} {st' : St} (hc : Calls P f args w (Came P base ρ st w r st'))
    (hn : ∀ v v' ρ' w', r = .ret v → Now P base ρ st w ρ' st' w' → VR ρ' st'.next v v' → next (a.put o.dst v') w')
    (hp : ∀ v v' ρ' w', r = .pan v → Now P base ρ st w ρ' st' w' → VR ρ' st'.next v v' → Q (.panic [{ v := v', recovered := false }]) a w') : o.wp P a w next Q := by
  unfold Oper.wp
  rw [hr]
  refine Calls.mono hc fun e w' ⟨ρ', h1, h2⟩ => ?_
  cases r with
  | ret v => cases e with
    | returned v' => exact hn v v' ρ' w' rfl h1 h2
    | _ => exact h2.elim
  | pan v => cases e with
    | panicked chain =>
      obtain ⟨v', rfl, h3⟩ := h2
      exact hp v v' ρ' w' rfl h1 h3
    | _ => exact h2.elim
/-- A call, of either kind. -/
theorem upon_call {f : Nat} {args : Array Value} (he : execOp a.eval o = callFunc f args) {r : CR} {st' : St} (hrel : Rel P base ρ st w) (hcall : (FnOk P f ∧ Calls P f args w (Came P base ρ st w r st')) ∨
      (∃ v v', r = .ret v ∧ st' = st ∧ (callFunc f args).run P w = .ok (.value v') w ∧ VR ρ st.next v v')) (hrun : FnOk P f → (callFunc f args).run P w = .ok (.enter f args) w)
    (hn : ∀ v v' ρ' w', r = .ret v → Now P base ρ st w ρ' st' w' → VR ρ' st'.next v v' → next (a.put o.dst v') w')
    (hp : ∀ v v' ρ' w', r = .pan v → Now P base ρ st w ρ' st' w' → VR ρ' st'.next v v' → Q (.panic [{ v := v', recovered := false }]) a w') : o.wp P a w next Q := by
  rcases hcall with ⟨hf, hc⟩ | ⟨v, v', rfl, rfl, h1, h2⟩
  · exact upon_enter' (by rw [he]; exact hrun hf) hc hn hp
  · unfold Oper.wp
    rw [he, h1]
    exact hn v v' ρ w rfl (Now.refl hrel) h2
theorem run_callFunc {f : Nat} (hf : FnOk P f) (args : Array Value) : (callFunc f args).run P w = .ok (.enter f args) w := by
  obtain ⟨fn, h1, h2, h3⟩ := hf
  have h : (callFunc f args).run P w = Sem.run P (match P.funcs[f]? with
      | none => stuck "call: no such function"
      | some fn => if fn.name == "runtime.NumGoroutine" then pure .numGoroutine
        else if fn.body.isNone then callFunc f args else pure (.enter f args)) w := by
    have : (callFunc f args).run P w = Sem.run P (match P.funcs[f]? with
      | none => stuck "call: no such function"
      | some fn => if fn.name == "runtime.NumGoroutine" then pure .numGoroutine
        else if fn.body.isNone then (do
          mark (.extern f)
          if let some e := Extern.findNext fn then return ← e args
          match Extern.find fn with
          | some e => pure (.value (← e args))
          | none =>
            if fn.name.endsWith ".init" && !fn.name.startsWith "(" && !fn.name.startsWith "gosem." then pure (.value (.tuple #[]))
            else unsupported (.extern fn.name)) else pure (.enter f args)) w := rfl
    rw [this, h1]
    simp only [h2, h3]
    rfl
  rw [h, h1]
  simp only [h2, h3]
  rfl
theorem exec_call {f : Nat} {c : Call} (ho : o.op = .call c) (hcl : c.callee = .value (.func f)) : execOp a.eval o = callFunc f (c.args.map a.eval) := by
  have h : execOp a.eval o = (do let d ← resolve a.eval c o.type; invoke d.target d.args) := by unfold execOp; rw [ho]
  have h2 : resolve a.eval c o.type = pure { target := .fn (.func f) #[], args := #[] ++ c.args.map a.eval } := by unfold resolve; rw [hcl]; rfl
  rw [h, h2]
  show callFunc f ((#[] ++ c.args.map a.eval) ++ #[]) = _
  simp
theorem exec_dyn {f : Nat} {c : Call} {y : Operand} {cs : Array Value} (ho : o.op = .call c) (hcl : c.callee = .value y) (hy : a.eval y = .func (.func f) #[] cs) :
    execOp a.eval o = callFunc f (c.args.map a.eval ++ cs) := by
  have h : execOp a.eval o = (do let d ← resolve a.eval c o.type; invoke d.target d.args) := by unfold execOp; rw [ho]
  have h2 : resolve a.eval c o.type = pure { target := .fn (.func f) cs, args := #[] ++ c.args.map a.eval } := by unfold resolve; rw [hcl]; simp only [hy]; rfl
  rw [h, h2]
  show callFunc f ((#[] ++ c.args.map a.eval) ++ cs) = _
  simp
/-! ### guards -/
theorem vr_bool {n : Nat} {v : V} {b : Bool} (h : VR ρ n v (.bool b)) : v = .bool b := by
  cases h with
  | bool => rfl
  | any _ _ h => exact absurd rfl (h b)
theorem isB_eq (want : Bool) (v : V) : isB want v = true ↔ v = .bool want := by
  cases v with
  | bool b => cases b <;> cases want <;> simp [isB, V.onBool]
  | _ => simp [isB, V.onBool]
theorem wanted_eq {n : Nat} (h : TmR ρ n nt tm a.tmps) {ops : Array Oper} {g : Option (Pa × Bool)} (hg : (o.guard = none ∧ g = none) ∨ ∃ j want t, o.guard = some (j, want) ∧ (ops[j]?).bind (·.dst) = some t ∧ g = some (pa t, want)) :
    Region.wanted o (yielded ops a.tmps) = wantedV tm g := by
  rcases hg with ⟨h1, rfl⟩ | ⟨j, want, t, h1, h2, rfl⟩
  · simp [Region.wanted, h1, wantedV]
  · have hv := h.2 t
    have hw : wantedV tm (some (pa t, want)) = isB want ((tm.at (pa t)).getD .undef) := by
      show (Option.rec false (fun v => isB want v) (tm.at (pa t)) : Bool) = _
      cases tm.at (pa t) with
      | none => rfl
      | some v => rfl
    rw [hw, Bool.eq_iff_iff, isB_eq]
    simp only [Region.wanted, h1, yielded, h2, Option.bind_some]
    constructor
    · intro h3
      have h4 : a.tmps[t]? = some (.bool want) := by
        cases hc : a.tmps[t]? with
        | none => rw [hc] at h3; simp at h3
        | some u => rw [hc] at h3; cases u <;> simp at h3; rw [h3]
      have h5 : a.tmps.getD t Go.undef = .bool want := by rw [Array.getD_eq_getD_getElem?, h4]; rfl
      rw [h5] at hv
      exact vr_bool hv
    · intro h3
      rw [h3] at hv
      have h4 := hv.bool_inv
      have h5 : a.tmps[t]? = some (.bool want) := by
        cases hc : a.tmps[t]? with
        | none => rw [Array.getD_eq_getD_getElem?, hc] at h4; exact nomatch h4
        | some u => rw [Array.getD_eq_getD_getElem?, hc] at h4; rw [show u = .bool want from h4]
      rw [h5]; simp
/-! ### regions -/
theorem upon_mono {Q' : Exit → Act → World → Prop} {next' : Act → World → Prop} (hq : ∀ e a w, Q e a w → Q' e a w) (hn : ∀ a w, next a w → next' a w) (h : o.wp P a w next Q) : o.wp P a w next' Q' := by
  unfold Oper.wp at *
  generalize (execOp a.eval o).run P w = r at *
  cases r with
  | ok n w' =>
    cases n <;> simp only [Oper.upon] at h ⊢ <;>
      first
        | exact hn _ _ h
        | exact Calls.mono h (fun e w'' he => by
            cases e with
            | returned v => exact hn _ _ he
            | panicked c => exact hq _ _ _ he
            | outgrown => obtain ⟨a0, w0, h0⟩ := he; exact ⟨a0, w0, hq _ _ _ h0⟩)
        | exact Rows.mono h (fun _ _ he => hn _ _ he)
        | exact h
  | halt x w' => cases x <;> simp only [Oper.upon] at h ⊢ <;> first | exact hq _ _ _ h | exact h
/-- Operations of a list, one behind the other, then on. -/
def opsN (P : Program) (ops : Array Oper) (Q : Exit → Act → World → Prop) (next : Act → World → Prop) : List Nat → Act → World → Prop
  | [], a, w => next a w
  | i :: rest, a, w =>
    match ops[i]? with
    | none => opsN P ops Q next rest a w
    | some o => if Region.wanted o (yielded ops a.tmps) then o.wp P a w (opsN P ops Q next rest) Q else opsN P ops Q next rest (a.put o.dst Go.undef) w
theorem opsN_mono {Q' : Exit → Act → World → Prop} {next' : Act → World → Prop} {ops : Array Oper} (hq : ∀ e a w, Q e a w → Q' e a w) (hn : ∀ a w, next a w → next' a w) : ∀ (l : List Nat) (a : Act) (w : World), opsN P ops Q next l a w → opsN P ops Q' next' l a w
  | [], a, w, h => hn _ _ h
  | i :: l, a, w, h => by
    simp only [opsN] at h ⊢
    split
    · rename_i hi; rw [hi] at h; exact opsN_mono hq hn l a w h
    · rename_i o hi
      rw [hi] at h
      split
      · rename_i hw
        simp only [hw, if_true] at h
        exact upon_mono hq (fun a w => opsN_mono hq hn l a w) h
      · rename_i hw
        simp only [hw] at h
        exact opsN_mono hq hn l _ w h
theorem opsN_wpOps {ops : Array Oper} : ∀ (l : List Nat) (a : Act) (w : World), opsN P ops Q (Q .normal) l a w → wpOps P ops Q l a w
  | [], a, w, h => h
  | i :: l, a, w, h => by
    simp only [opsN] at h
    simp only [wpOps]
    split
    · rename_i hi; rw [hi] at h; exact opsN_wpOps l a w h
    · rename_i o hi
      rw [hi] at h
      split
      · rename_i hw
        simp only [hw, if_true] at h
        exact .inl (upon_mono (fun _ _ _ h => h) (fun a w => opsN_wpOps l a w) h)
      · rename_i hw
        simp only [hw] at h
        exact opsN_wpOps l _ w h
theorem opsN_append {ops : Array Oper} : ∀ (l l' : List Nat), opsN P ops Q next (l ++ l') = opsN P ops Q (opsN P ops Q next l') l
  | [], l' => rfl
  | i :: l, l' => by
    funext a w
    show opsN P ops Q next (i :: (l ++ l')) a w = _
    simp only [opsN, opsN_append l l']
theorem compO_inv {ops : Array Oper} {x : O} (h : compO P nt ops o = some x) : (∀ t, o.dst = some t → t < nt) ∧ x.d = o.dst.map pa ∧ x.i = (compOp P o).getD (.no 0) ∧
    ((o.guard = none ∧ x.g = none) ∨ ∃ j want t, o.guard = some (j, want) ∧ (ops[j]?).bind (·.dst) = some t ∧ x.g = some (pa t, want)) := by
  unfold compO at h
  split at h
  · exact nomatch h
  · rename_i hd
    have hd' : ∀ t, o.dst = some t → t < nt := fun t ht => by rw [ht] at hd; simpa using hd
    split at h
    · rename_i hg
      obtain rfl := Option.some.inj h
      exact ⟨hd', rfl, rfl, .inl ⟨hg, rfl⟩⟩
    · rename_i j want hg
      split at h
      · rename_i t ht
        obtain rfl := Option.some.inj h
        exact ⟨hd', rfl, rfl, .inr ⟨j, want, t, hg, ht, rfl⟩⟩
      · exact nomatch h
theorem cls_of {x : O} (hx : x.i = (compOp P o).getD (.no 0)) : Cls P o x.i ∨ ∃ n, x.i = .no n := by
  cases hc : compOp P o with
  | none => right; rw [hc] at hx; exact ⟨0, hx⟩
  | some i => left; rw [hc] at hx; rw [show x.i = i from hx]; exact cls hc
theorem Now.tms {ρ1 : Map} {st1 : St} {w1 : World} (h : Now P base ρ st w ρ1 st1 w1) {t : Array Value} (ht : TmR ρ st.next nt tm t) : TmR ρ1 st1.next nt tm t := ht.mono h.ext h.turn.next
theorem Now.tmsW {ρ1 : Map} {st1 : St} {w1 : World} (h : Now P base ρ st w ρ1 st1 w1) {t : Array Value} (ht : TmW ρ st.next nt tm t) : TmW ρ1 st1.next nt tm t := ht.mono h.ext h.turn.next
theorem ops_sound (hc : CallOk P call) (ops : Array Oper) : ∀ (l : List Oper) (k : Nat) (os : List O), compOs P nt ops l = some os → (∀ j o, l[j]? = some o → ops[k + j]? = some o) →
    ∀ {ρ : Map} {st : St} {w : World} {tm : Tr V} {a : Act} {r : Ex × Tr V × St}, At P base dl ρ st w nt tm a → evO os call tm st = some r → opsN P ops (Fin P base nt dl ρ st w r) (Fin P base nt dl ρ st w r .normal) (List.range' k l.length) a w
  | [], k, os, h, hl, ρ, st, w, tm, a, r, c, hr => by
    obtain rfl := Option.some.inj h
    obtain rfl := Option.some.inj hr
    exact ⟨ρ, Now.refl c.ctx.rel, c.nod, c.ctx.tms⟩
  | o :: l, k, os, h, hl, ρ, st, w, tm, a, r, c, hr => by
    unfold compOs at h
    split at h
    · rename_i x xs hx hxs
      obtain rfl := Option.some.inj h
      have hok : ops[k]? = some o := hl 0 o rfl
      have hl' : ∀ j o, l[j]? = some o → ops[k + 1 + j]? = some o := fun j o' hj => by
        have := hl (j + 1) o' (by simpa using hj)
        rwa [show k + (j + 1) = k + 1 + j by omega] at this
      obtain ⟨hdn, hxd, hxi, hg⟩ := compO_inv hx
      have hr' : (Bool.rec (evO xs call (putT tm x.d .undef) st) (x.i.go x.d (evO xs) call tm st) (wantedV tm x.g) : Run) = some r := hr
      have hgo : ∀ {ρ1 : Map} {st1 : St} {w1 : World} {v : V} {v' : Value}, Now P base ρ st w ρ1 st1 w1 → VR ρ1 st1.next v v' → evO xs call (putT tm x.d v) st1 = some r → opsN P ops (Fin P base nt dl ρ st w r) (Fin P base nt dl ρ st w r .normal) (List.range' (k + 1) l.length) (a.put o.dst v') w1 := by
        intro ρ1 st1 w1 v v' hn hv he
        have hc1 : At P base dl ρ1 st1 w1 nt (putT tm x.d v) (a.put o.dst v') := by
          rw [hxd]
          exact ⟨⟨hn.rel, putT_rel (hn.tms c.ctx.tms) hdn hv⟩, size_le c.hb hn.below, put_nod c.nod _ _⟩
        exact opsN_mono (fun e a w' hf => Fin.mono hn hf) (fun a w' hf => Fin.mono hn hf) _ _ _ (ops_sound hc ops l (k + 1) xs hxs hl' hc1 he)
      rw [List.length_cons, List.range'_succ]
      simp only [opsN, hok]
      rw [wanted_eq c.ctx.tms hg]
      cases hw : wantedV tm x.g with
      | false =>
        rw [hw] at hr'
        simp only [Bool.false_eq_true, if_false]
        exact hgo (Now.refl c.ctx.rel) (.tup [] [] .nil) hr'
      | true =>
        rw [hw] at hr'
        simp only [if_true]
        have hr2 : x.i.go x.d (evO xs) call tm st = some r := hr'
        rcases cls_of hxi with hcl | ⟨n, hno⟩
        · generalize x.i = i at hcl hr2
          cases hcl with
          | pure _ f hgo' hf =>
            rw [hgo'] at hr2
            obtain ⟨v, hv, h2⟩ := orec_none hr2
            exact upon_pure hf c.ctx hv fun v' h3 => hgo (Now.refl c.ctx.rel) h3 h2
          | loud _ f hk2 hgo' hf =>
            rw [hgo'] at hr2
            obtain ⟨⟨v, st'⟩, hv, h2⟩ := orec_none hr2
            exact upon_loud hf c.ctx c.hb hv fun v' ρ' w' h3 h4 => hgo h3 h4 h2
          | call f ys cl ho hcl hys =>
            have hr3 : goR x.d (evO xs) call tm (call f (X.evs tm ys) st) = some r := hr2
            obtain ⟨⟨c', st'⟩, hv, h2⟩ := orec_none hr3
            have hvs : VRs ρ st.next (X.evs tm ys) (cl.args.map a.eval).toList := by rw [Array.toList_map]; exact c.ctx.opds hys
            have hcalls := hc hv c.ctx.rel c.hb hvs
            refine upon_call (exec_call ho hcl) c.ctx.rel hcalls (fun h => run_callFunc h _) (fun v v' ρ' w' he h3 h4 => ?_) (fun v v' ρ' w' he h3 h4 => ?_)
            · subst he; exact hgo h3 h4 h2
            · subst he
              obtain rfl := Option.some.inj h2
              exact ⟨ρ', h3, c.nod, v', rfl, h4, (h3.tms c.ctx.tms).weak⟩
          | dyn y z ys cl ho hcl hz hys =>
            have hr3 : goR x.d (evO xs) call tm (dynV call (X.evs tm ys) st (y.ev tm)) = some r := hr2
            obtain ⟨⟨c', st'⟩, hv, h2⟩ := orec_none hr3
            obtain ⟨f, cs, hf, hv2⟩ := onFunc_some hv
            have hz' := c.ctx.opd hz
            rw [hf] at hz'
            obtain ⟨cs', hz2, hcs⟩ := hz'.func_inv
            rw [appL_eq] at hv2
            have hvs : VRs ρ st.next (X.evs tm ys ++ cs) ((cl.args.map a.eval).toList ++ cs') := by rw [Array.toList_map]; exact (c.ctx.opds hys).append hcs
            have hcalls := hc hv2 c.ctx.rel c.hb hvs
            have harr : ((cl.args.map a.eval).toList ++ cs').toArray = cl.args.map a.eval ++ cs'.toArray := by apply Array.toList_inj.1; simp
            rw [harr] at hcalls
            refine upon_call (exec_dyn ho hcl hz2) c.ctx.rel hcalls (fun h => run_callFunc h _) (fun v v' ρ' w' he h3 h4 => ?_) (fun v v' ρ' w' he h3 h4 => ?_)
            · subst he; exact hgo h3 h4 h2
            · subst he
              obtain rfl := Option.some.inj h2
              exact ⟨ρ', h3, c.nod, v', rfl, h4, (h3.tms c.ctx.tms).weak⟩
          | panic y z ho hz =>
            have hr3 : (y.ev tm).onIface none none (fun t v => some (Ex.pan (.iface t v), tm, st)) = some r := hr2
            rcases onIface_some hr3 with ⟨_, _, _, _, _, _, h0⟩ | ⟨t, u, l', hv, h2⟩
            · exact nomatch h0
            · have hz' := c.ctx.opd hz
              rw [hv] at hz'
              obtain ⟨u', hz2, hu⟩ := hz'.iface_inv
              obtain rfl := Option.some.inj h2
              unfold Oper.wp
              have : (execOp a.eval o).run P w = .halt (.panic (.iface t u')) w := by
                simp [execOp, ho, hz2, Instr.panic]
              rw [this]
              exact ⟨ρ, Now.refl c.ctx.rel, c.nod, _, rfl, .iface t u u' hu, c.ctx.tms.weak⟩
        · rw [hno] at hr2
          exact nomatch hr2
    · exact nomatch h
/-! ### codes -/
theorem thenR_some {r : Run} {k : Tr V → St → Run} {x : Ex × Tr V × St} (h : thenR r k = some x) : ∃ e tm st, r = some (e, tm, st) ∧ ((e = .nrm ∧ k tm st = some x) ∨ (e ≠ .nrm ∧ x = (e, tm, st))) := by
  obtain ⟨⟨e, tm, st⟩, h1, h2⟩ := orec_none h
  refine ⟨e, tm, st, h1, ?_⟩
  cases e with
  | nrm => exact .inl ⟨rfl, h2⟩
  | exit id => exact .inr ⟨by simp, (Option.some.inj h2).symm⟩
  | ret => exact .inr ⟨by simp, (Option.some.inj h2).symm⟩
  | pan v => exact .inr ⟨by simp, (Option.some.inj h2).symm⟩
theorem Fin.at_nrm {r : Ex × Tr V × St} {w' : World} (hb : base ≤ w.heap.size) (h : Fin P base nt dl ρ st w r .normal a w') : r.1 = .nrm ∧ ∃ ρ', Now P base ρ st w ρ' r.2.2 w' ∧ At P base dl ρ' r.2.2 w' nt r.2.1 a := by
  obtain ⟨ρ', h1, h2, h3⟩ := h
  obtain ⟨e, tm', st'⟩ := r
  cases e with
  | nrm => exact ⟨rfl, ρ', h1, ⟨h1.rel, h3⟩, size_le hb h1.below, h2⟩
  | _ => exact h3.elim
/-- What is left otherwise than by its end. -/
theorem Fin.of_ne {r : Ex × Tr V × St} {e : Exit} {w' : World} (hn : r.1 ≠ .nrm) (h : Fin P base nt dl ρ st w r e a w') : e ≠ .normal ∧ Fin P base nt dl ρ st w r e a w' := by
  refine ⟨fun he => ?_, h⟩
  subst he
  obtain ⟨ρ', h1, h2, h3⟩ := h
  obtain ⟨x, tm', st'⟩ := r
  cases x with
  | nrm => exact hn rfl
  | _ => exact h3.elim
theorem then_of_ne {e : Exit} {w : World} (he : e ≠ .normal) (h : Q e a w) : Exit.then next Q e a w := by
  cases e with
  | normal => exact absurd rfl he
  | _ => exact h
/-- A run is sound for a code: whatever it comes to. -/
def Sound (P : Program) (base nt : Nat) (dl : List Deferred) (run : Tr V → St → Run) (c : Code) : Prop :=
  ∀ ⦃ρ : Map⦄ ⦃st : St⦄ ⦃w : World⦄ ⦃tm : Tr V⦄ ⦃a : Act⦄ ⦃r : Ex × Tr V × St⦄, At P base dl ρ st w nt tm a → run tm st = some r → c.wp P (Fin P base nt dl ρ st w r) a w
theorem rounds_sound {run : Tr V → St → Run} {c : Code} (hs : Sound P base nt dl run c) : ∀ (n : Nat) {ρ : Map} {st : St} {w : World} {tm : Tr V} {a : Act} {r : Ex × Tr V × St}, At P base dl ρ st w nt tm a → loopV n run tm st = some r →
    ∀ Q : Exit → Act → World → Prop, (∀ e a w', Fin P base nt dl ρ st w r e a w' → Q e a w') → Code.rounds P c Q n a w
  | 0, ρ, st, w, tm, a, r, hat, h, Q, hq => nomatch h
  | n + 1, ρ, st, w, tm, a, r, hat, h, Q, hq => by
    obtain ⟨e, tm1, st1, h1, h2⟩ := thenR_some (show thenR (run tm st) (loopV n run) = some r from h)
    rw [rounds_succ]
    refine wp_mono (hs hat h1) fun x a1 w1 hf => ?_
    rcases h2 with ⟨rfl, h2⟩ | ⟨hne, rfl⟩
    · cases x with
      | normal =>
        obtain ⟨_, ρ1, hn, hat1⟩ := Fin.at_nrm hat.hb hf
        exact rounds_sound hs n hat1 h2 Q fun e a w' hf' => hq e a w' (Fin.mono hn hf')
      | _ => obtain ⟨ρ', h3, h4, h5⟩ := hf; exact h5.elim
    · obtain ⟨he, hf'⟩ := Fin.of_ne hne hf
      exact then_of_ne he (hq _ _ _ hf')
/-- Regions whose order is open. -/
def DrawOk (P : Program) (call : Callee) : Prop := ∀ ⦃base nt id : Nat⦄ ⦃dl : List Deferred⦄ ⦃ops : Array Oper⦄ ⦃c : C⦄ ⦃n : Nat⦄, compDraw P nt ops = some c → Sound P base nt dl (c.ev call n) (.region id ops true)
theorem code_sound (hc : CallOk P call) (hd : DrawOk P call) {n : Nat} : ∀ {c : Code} {c' : C}, comp P nt c = some c' → Sound P base nt dl (c'.ev call n) c
  | .skip, c', h => by
    obtain rfl := Option.some.inj h
    intro ρ st w tm a r hat hr
    obtain rfl := Option.some.inj hr
    exact wp_skip ⟨ρ, Now.refl hat.ctx.rel, hat.nod, hat.ctx.tms⟩
  | .region id ops false, c', h => by
    obtain ⟨os, hos, rfl⟩ := map_some' (show (compOs P nt ops ops.toList).map C.reg = some c' from h)
    intro ρ st w tm a r hat hr
    have h2 := ops_sound hc ops ops.toList 0 os hos (fun j o h => by rw [Nat.zero_add]; simpa using h) hat hr
    refine wp_region (opsN_wpOps _ _ _ ?_)
    rw [List.range_eq_range']
    simpa using h2
  | .region id ops true, c', h => hd (show compDraw P nt ops = some c' from h)
  | .seq x y, c', h => by
    have h' : (match comp P nt x, comp P nt y with
      | some x, some y => some (C.seq x y)
      | _, _ => none) = some c' := h
    split at h'
    · rename_i x' y' hx hy
      obtain rfl := Option.some.inj h'
      intro ρ st w tm a r hat hr
      obtain ⟨e, tm1, st1, h1, h2⟩ := thenR_some (show thenR (x'.ev call n tm st) (y'.ev call n) = some r from hr)
      refine wp_seq (wp_mono (code_sound hc hd hx hat h1) fun z a1 w1 hf => ?_)
      rcases h2 with ⟨rfl, h2⟩ | ⟨hne, rfl⟩
      · cases z with
        | normal =>
          obtain ⟨_, ρ1, hn, hat1⟩ := Fin.at_nrm hat.hb hf
          exact wp_mono (code_sound hc hd hy hat1 h2) fun e a w' hf' => Fin.mono hn hf'
        | _ => obtain ⟨ρ', h3, h4, h5⟩ := hf; exact h5.elim
      · obtain ⟨he, hf'⟩ := Fin.of_ne hne hf
        exact then_of_ne he hf'
    · exact nomatch h'
  | .cond z x y, c', h => by
    have h' : (match compX P z, comp P nt x, comp P nt y with
      | some z, some x, some y => some (C.cond z x y)
      | _, _, _ => none) = some c' := h
    split at h'
    · rename_i z' x' y' hz hx hy
      obtain rfl := Option.some.inj h'
      intro ρ st w tm a r hat hr
      obtain ⟨b, hb, h1⟩ := onBool_some (show condV (x'.ev call n tm st) (y'.ev call n tm st) (z'.ev tm) = some r from hr)
      have hz' := hat.ctx.opd hz
      rw [hb] at hz'
      cases b with
      | true => exact wp_cond hz'.bool_inv (code_sound hc hd hx hat h1)
      | false => exact wp_cond hz'.bool_inv (code_sound hc hd hy hat h1)
    · exact nomatch h'
  | .block id b, c', h => by
    obtain ⟨b', hb, rfl⟩ := map_some' (show (comp P nt b).map (C.block id) = some c' from h)
    intro ρ st w tm a r hat hr
    obtain ⟨⟨e, q⟩, h1, h2⟩ := orec_none (show outR id (b'.ev call n tm st) = some r from hr)
    refine wp_block (wp_mono (code_sound hc hd hb hat h1) fun z a1 w1 hf => ?_)
    obtain ⟨ρ', h3, h4, h5⟩ := hf
    cases e with
    | nrm =>
      obtain rfl := Option.some.inj h2
      cases z with
      | normal => exact ⟨ρ', h3, h4, h5⟩
      | _ => exact h5.elim
    | exit id' =>
      have h2' : (Bool.rec (some (Ex.exit id', q)) (some (Ex.nrm, q)) (Nat.beq id' id) : Run) = some r := h2
      cases z with
      | exit j =>
        obtain ⟨rfl, h6⟩ := h5
        by_cases he : id' = id
        · rw [beqT he] at h2'
          obtain rfl := Option.some.inj h2'
          show (if id' = id then _ else _)
          rw [if_pos he]
          exact ⟨ρ', h3, h4, h6⟩
        · rw [beqF he] at h2'
          obtain rfl := Option.some.inj h2'
          show (if id' = id then _ else _)
          rw [if_neg he]
          exact ⟨ρ', h3, h4, rfl, h6⟩
      | _ => exact h5.elim
    | ret =>
      obtain rfl := Option.some.inj h2
      cases z with
      | ret => exact ⟨ρ', h3, h4, h5⟩
      | _ => exact h5.elim
    | pan v =>
      obtain rfl := Option.some.inj h2
      cases z with
      | panic ch => exact ⟨ρ', h3, h4, h5⟩
      | _ => exact h5.elim
  | .loop b, c', h => by
    obtain ⟨b', hb, rfl⟩ := map_some' (show (comp P nt b).map C.loop = some c' from h)
    intro ρ st w tm a r hat hr
    exact wp_loop_rounds n (rounds_sound (code_sound hc hd hb) n hat hr _ fun _ _ _ h => h)
  | .exit id, c', h => by
    obtain rfl := Option.some.inj h
    intro ρ st w tm a r hat hr
    obtain rfl := Option.some.inj hr
    exact wp_exit ⟨ρ, Now.refl hat.ctx.rel, hat.nod, rfl, hat.ctx.tms⟩
  | .scope b, c', h => by
    obtain ⟨b', hb, rfl⟩ := map_some' (show (comp P nt b).map C.scope = some c' from h)
    intro ρ st w tm a r hat hr
    refine wp_scope_straight (wp_mono (code_sound hc hd hb hat hr) fun z a1 w1 hf => ?_)
    cases z with
    | goto l => obtain ⟨ρ', h3, h4, h5⟩ := hf; obtain ⟨e, _⟩ := r; cases e <;> exact h5.elim
    | _ => exact hf
  | .ret, c', h => by
    obtain rfl := Option.some.inj h
    intro ρ st w tm a r hat hr
    obtain rfl := Option.some.inj hr
    exact wp_ret ⟨ρ, Now.refl hat.ctx.rel, hat.nod, hat.ctx.tms⟩
  | .rangeFunc f ps x y, c', h => by
    obtain rfl := Option.some.inj h
    intro ρ st w tm a r hat hr
    exact nomatch hr
  | .label l, c', h => by
    obtain rfl := Option.some.inj h
    intro ρ st w tm a r hat hr
    exact nomatch hr
  | .goto l, c', h => by
    obtain rfl := Option.some.inj h
    intro ρ st w tm a r hat hr
    exact nomatch hr
  | .refuse l, c', h => by
    obtain rfl := Option.some.inj h
    intro ρ st w tm a r hat hr
    exact nomatch hr
end
end Go.Proofs.YtjdbcfnlehedmaaGreatDoor.Av
