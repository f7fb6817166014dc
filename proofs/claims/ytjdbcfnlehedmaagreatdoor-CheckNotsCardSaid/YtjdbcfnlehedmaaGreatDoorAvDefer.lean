/-
  DEFERRED CALLS; CALLS.
-/
import Derived.Test.YtjdbcfnlehedmaaGreatDoorAvDrawE
import Derived.Recover
namespace Go.Proofs.YtjdbcfnlehedmaaGreatDoor.Av
set_option linter.unusedVariables false
set_option linter.unusedSimpArgs false
open Go Go.RowKit

section
variable {P : Program} {base nt : Nat} {dl : List Deferred} {call : Callee} {ρ ρ' : Map} {st st' : St} {w w' : World} {tm : Tr V} {a : Act}
/-- A function that has no body, as the table takes it. -/
def ExtOk (P : Program) (f k : Nat) : Prop := ∃ fn e, P.funcs[f]? = some fn ∧ (fn.name == "runtime.NumGoroutine") = false ∧ fn.body.isNone = true ∧ Extern.findNext fn = none ∧ Extern.find fn = some e ∧ k = 0 ∧ e = Extern.BytealgIndexByte.indexByte
/-- What is known of a function holds. -/
def SpecOk (P : Program) (f : Nat) (g : List V → St → Option V) : Prop :=
  ∀ ⦃base : Nat⦄ ⦃args : List V⦄ ⦃st : St⦄ ⦃v : V⦄ ⦃ρ : Map⦄ ⦃w : World⦄ ⦃args' : List Value⦄, g args st = some v → Rel P base ρ st w → base ≤ w.heap.size → VRs ρ st.next args args' →
    FnOk P f ∧ Calls P f args'.toArray w (Came P base ρ st w (.ret v) st)
/-- A function's entry. -/
def FOk (P : Program) (f : Nat) : Fs → Prop
  | .mk rs b => ∃ fn ir, P.funcs[f]? = some fn ∧ (fn.name == "runtime.NumGoroutine") = false ∧ compF P fn = some ir ∧ rs = ir.rs ∧ b = ir.b.ev
  | .ext k => ExtOk P f k
  | .dfr rs b => ∃ fn cd, P.funcs[f]? = some fn ∧ (fn.name == "runtime.NumGoroutine") = false ∧ compFD P fn = some (rs, cd) ∧ b = cd.ev
  | .rcv t0 b => ∃ fn c, P.funcs[f]? = some fn ∧ (fn.name == "runtime.NumGoroutine") = false ∧ compFR P fn = some (t0, c) ∧ b = c.ev
  | .spec g => SpecOk P f g
/-- What the table holds is what the program's functions come to. -/
def TableOk (P : Program) (fns : Tr Fs) : Prop := ∀ f fs, fns.get f = some fs → FOk P f fs
theorem idxL_eq (c : UInt8) : ∀ (s pre : List UInt8), (match (List.range' pre.length s.length).find? fun i => (pre ++ s)[i]! == c with
    | some i => (i : Int)
    | none => -1) = idxL c s pre.length
  | [], pre => rfl
  | b :: s, pre => by
    have h1 : idxL c (b :: s) pre.length = bif eqB b c then (pre.length : Int) else idxL c s (pre.length + 1) := rfl
    have h2 : (pre ++ b :: s)[pre.length]! = b := by simp
    rw [h1, List.length_cons, List.range'_succ, List.find?_cons, eqB_iff]
    by_cases hb : b = c
    · have h3 : ((pre ++ b :: s)[pre.length]! == c) = true := by rw [h2]; simpa using hb
      rw [h3]
      simp [hb]
    · have h3 : ((pre ++ b :: s)[pre.length]! == c) = false := by rw [h2]; simpa using hb
      rw [h3]
      have := idxL_eq c s (pre ++ [b])
      simp only [List.length_append, List.length_cons, List.length_nil, List.append_assoc, List.cons_append, List.nil_append] at this
      simp only [hb, decide_false, cond_false]
      exact this
theorem firstIdx_eq (s : List UInt8) (c : UInt8) : firstIdx ⟨⟨s⟩⟩ c = idxL c s 0 := by
  have h := idxL_eq c s []
  rw [List.nil_append] at h
  rw [show ([] : List UInt8).length = 0 from rfl] at h
  rw [← h]
  unfold firstIdx
  rw [List.range_eq_range']
  have hp : (fun i : Nat => (⟨⟨s⟩⟩ : ByteArray)[i]! == c) = fun i : Nat => s[i]! == c := by
    funext i
    congr 1
    by_cases hi : i < s.length
    · have h1 : (⟨⟨s⟩⟩ : ByteArray)[i]! = s[i] := by
        rw [getElem!_pos (⟨⟨s⟩⟩ : ByteArray) i hi]; rfl
      rw [h1, getElem!_pos s i hi]
    · have h1 : (⟨⟨s⟩⟩ : ByteArray)[i]! = default := getElem!_neg (⟨⟨s⟩⟩ : ByteArray) i hi
      rw [h1, getElem!_neg s i hi]
  rw [hp]
  rfl
theorem ext_ok {f k : Nat} (h : ExtOk P f k) {n : Nat} {args : List V} {args' : List Value} {v : V} (hv : evX k args = some v) (ha : VRs ρ n args args') : ∃ v', (callFunc f args'.toArray).run P w = .ok (.value v') w ∧ VR ρ n v v' := by
  obtain ⟨fn, e, h1, h2, h3, h4, h5, rfl, rfl⟩ := h
  have hv' : (List.rec none (fun a l _ => a.onStr none (fun s => List.rec none (fun b l' _ => b.onInt none (fun j c =>
    bif Nat.beq j 8 then List.rec (some (.int 63 (idxL c.toNat.toUInt8 s 0))) (fun _ _ _ => none) l' else none)) l)) args : Option V) = some v := hv
  cases ha with
  | nil => exact nomatch hv'
  | cons ha1 hr =>
    obtain ⟨s, rfl, h6⟩ := onStr_some hv'
    cases hr with
    | nil => exact nomatch h6
    | cons ha2 hr2 =>
      obtain ⟨j, c, rfl, h7⟩ := onInt_some h6
      obtain ⟨h8, h9⟩ := bif_none h7
      cases hr2 with
      | cons _ _ => exact nomatch h9
      | nil =>
        obtain rfl := beq_iff.1 h8
        obtain rfl := ha1.str_inv
        obtain rfl := ha2.int_at
        obtain rfl := Option.some.inj h9
        refine ⟨.int .i64 (firstIdx ⟨⟨s⟩⟩ c.toNat.toUInt8), ?_, by rw [firstIdx_eq]; exact .int .i64 _⟩
        rw [run_callFunc_extern h1 h2 h3 h4 h5]
        have := run_indexByte_string (P := P) ⟨⟨s⟩⟩ c w
        rw [show (#[Value.string ⟨⟨s⟩⟩, Value.int (kindC 8) c] : Array Value) = #[.string ⟨⟨s⟩⟩, .int .u8 c] from rfl] 
        rw [this]
        rfl
/-! ### a deferred function that recovers -/
theorem opsN_wpOpsS {ops : Array Oper} {Q : Exit → Act → World → Prop} {next : Act → World → Prop} {Q2 : Exit → Act → List Frame → World → Prop} {cs : List Frame} (hn : ∀ a w, next a w → Q2 .normal a cs w) (hq : ∀ e a w, Q e a w → Q2 e a cs w) :
    ∀ (l : List Nat) (a : Act) (w : World), opsN P ops Q next l a w → wpOpsS P ops Q2 l a cs w
  | [], a, w, h => hn _ _ h
  | i :: l, a, w, h => by
    simp only [opsN] at h
    simp only [wpOpsS]
    split
    · rename_i hi; rw [hi] at h; exact opsN_wpOpsS hn hq l a w h
    · rename_i o hi
      rw [hi] at h
      split
      · rename_i hw
        simp only [hw, if_true] at h
        have h2 : o.wp P a w (fun a' w' => wpOpsS P ops Q2 l a' cs w') (fun e a' w' => Q2 e a' cs w') := upon_mono hq (fun a w => opsN_wpOpsS hn hq l a w) h
        unfold Oper.wp at h2
        split
        · rename_i w1 hr
          rw [hr] at h2
          exact h2.elim
        · exact h2
      · rename_i hw
        simp only [hw] at h
        exact opsN_wpOpsS hn hq l _ w h
theorem exec_recover {o : Oper} {c : Call} (ho : o.op = .call c) (hcl : c.callee = .builtin .recover) : (execOp a.eval o).run P w = .ok .recover w := by
  have h : execOp a.eval o = (do let d ← resolve a.eval c o.type; invoke d.target d.args) := by unfold execOp; rw [ho]
  have h2 : ∃ x, resolve a.eval c o.type = pure { target := .builtin .recover c.argTypes o.type x, args := c.args.map a.eval } := by unfold resolve; rw [hcl]; exact ⟨_, rfl⟩
  obtain ⟨x, h2⟩ := h2
  rw [h, h2]
  rfl
/-- How the mode of the frame that unwinds, and what recover hands out, go together. -/
def RecAt (ρ : Map) (n : Nat) (rv : V) (u : FrameMode) : Prop :=
  (u = .returning ∧ rv = .nilIface) ∨ ∃ v', u = .panicking [{ v := v', recovered := false }] ∧ VR ρ n rv v'
theorem rec_step {rv : V} {u : FrameMode} {n : Nat} (h : RecAt ρ n rv u) {c₀ : Frame} {cs : List Frame} (hu : c₀.mode = u) {K : Value → List Frame → Prop}
    (hk : ∀ v0 u', VR ρ n rv v0 → settle u' = .returning → K v0 ({ c₀ with mode := u' } :: cs)) : match recoverD (c₀ :: cs) with
      | some (v, cs') => K v cs'
      | none => K .nilIface (c₀ :: cs) := by
  rcases h with ⟨rfl, rfl⟩ | ⟨v', rfl, hv⟩
  · have h1 : recoverD (c₀ :: cs) = none := by simp [recoverD, hu]
    rw [h1]
    have := hk .nilIface .returning .nilIface rfl
    have h2 : ({ c₀ with mode := .returning } : Frame) = c₀ := by rw [← hu]
    rw [h2] at this
    exact this
  · have h1 : recoverD (c₀ :: cs) = some (v', { c₀ with mode := .panicking [{ v := v', recovered := true }] } :: cs) := by simp [recoverD, hu]
    rw [h1]
    exact hk v' _ hv rfl
theorem rcv_sound (hc : CallOk P call) (hd : DrawOk P call) {g : Nat} {t0 : Pa} {b : CEv} (hf : FOk P g (.rcv t0 b)) {n : Nat} {rv : V} {cs : List V} {cs' : List Value} {st2 : St} (h : enterR call n t0 b rv cs st = some st2)
    (hrel : Rel P base ρ st w) (hb : base ≤ w.heap.size) (hcs : VRs ρ st.next cs cs') {u : FrameMode} (hu : RecAt ρ st.next rv u) :
    CallsD P g cs'.toArray u w fun e u' w' => (∃ v, e = .returned v) ∧ settle u' = .returning ∧ ∃ ρ', Now P base ρ st w ρ' st2 w' := by
  obtain ⟨fn, c, hfn, hname, hcomp, rfl⟩ := hf
  unfold compFR at hcomp
  obtain ⟨body, hbody, hcomp⟩ := bind_some' hcomp
  split at hcomp
  · rename_i id ops rest hres
    split at hcomp
    · rename_i o l hops
      split at hcomp
      · rename_i cl ho
        split at hcomp
        · rename_i t hcl hg hdst
          obtain ⟨os, hos, hcomp⟩ := bind_some' hcomp
          obtain ⟨r, hr, hcomp⟩ := bind_some' hcomp
          split at hcomp
          · rename_i ht
            obtain ⟨rfl, rfl⟩ := Prod.mk.inj (Option.some.inj hcomp)
            obtain ⟨⟨e, tmf, st3⟩, h1, h2⟩ := orec_none (show (Option.rec none (fun p => Prod.rec (fun e q => Prod.rec (fun _ st' => Ex.rec (some st') (fun _ => none) (some st') (fun _ => none) e) q) p)
              ((C.seq (.reg os) r).ev call n ((initT cs 0 .leaf).to (pa t) (some rv)) st) : Option St) = some st2 from h)
            have he : (e = .nrm ∨ e = .ret) ∧ st3 = st2 := by
              cases e with
              | nrm => exact ⟨.inl rfl, Option.some.inj h2⟩
              | ret => exact ⟨.inr rfl, Option.some.inj h2⟩
              | exit id => exact nomatch h2
              | pan v => exact nomatch h2
            obtain ⟨he, rfl⟩ := he
            obtain ⟨e1, tm1, s1, h3, h4⟩ := thenR_some (show thenR (evO os call ((initT cs 0 .leaf).to (pa t) (some rv)) st) (r.ev call n) = some (e, tmf, st3) from h1)
            refine callsD_of_wpS hfn hbody fun c₀ cs₀ hm => ?_
            have hopsz : ops.size = l.length + 1 := by
              have := congrArg List.length hops
              simpa using this
            have hat0 : ops[0]? = some o := by
              have : ops.toList[0]? = some o := by rw [hops]; rfl
              simpa using this
            -- the end
            have hend : ∀ {u' : FrameMode} {x : Exit} {a1 : Act} {w1 : World}, settle u' = .returning → Fin P base fn.ntmps [] ρ st w (e, tmf, st3) x a1 w1 →
                bodyPostS P fn c₀ cs₀ (fun e u' w' => (∃ v, e = .returned v) ∧ settle u' = .returning ∧ ∃ ρ', Now P base ρ st w ρ' st3 w') x a1 ({ c₀ with mode := u' } :: cs₀) w1 := by
              intro u' x a1 w1 hs hfin
              obtain ⟨ρ', hn, hnod, hm⟩ := hfin
              have hres' : (results fn a1.tmps).run P w1 = .ok (.tuple #[]) w1 := by
                have : (fn.results.toList.mapM (resOne a1.tmps) : Sem (List Value)).run P w1 = .ok [] w1 := by rw [hres]; rfl
                exact results_run this
              rcases he with rfl | rfl
              · cases x with
                | normal => exact ⟨hnod, u', rfl, _, hres', ⟨_, rfl⟩, hs, ρ', hn⟩
                | _ => exact hm.elim
              · cases x with
                | ret => exact ⟨hnod, u', rfl, _, hres', ⟨_, rfl⟩, hs, ρ', hn⟩
                | _ => exact hm.elim
            refine wpS_seq (wpS_region ?_)
            rw [hopsz, List.range_eq_range', List.range'_succ]
            simp only [wpOpsS, hat0]
            have hwant : Region.wanted o (yielded ops (cs'.toArray ++ Array.replicate (fn.ntmps - cs'.toArray.size) Go.undef)) = true := by simp [Region.wanted, hg]
            rw [if_pos hwant]
            rw [exec_recover ho hcl]
            refine rec_step hu hm fun v0 u' hv0 hs => ?_
            have htm := init_tms (nt := fn.ntmps) hcs
            have hat : At P base [] ρ st w fn.ntmps ((initT cs 0 .leaf).to (pa t) (some rv)) (({ tmps := cs'.toArray ++ Array.replicate (fn.ntmps - cs'.toArray.size) Go.undef, defers := [] } : Act).put o.dst v0) := by
              rw [hdst]
              exact ⟨⟨hrel, htm.put ht hv0⟩, hb, rfl⟩
            have hops' := ops_sound hc ops l 1 os hos (fun j o' hj => by
              have : ops.toList[j + 1]? = some o' := by rw [hops]; simpa using hj
              rw [Nat.add_comm]; simpa using this) hat h3
            refine opsN_wpOpsS (fun a1 w1 hf1 => ?_) (fun x a1 w1 hf1 => ?_) _ _ _ hops'
            · obtain ⟨he1, ρ1, hn1, hat1⟩ := Fin.at_nrm hb hf1
              have he1' : e1 = .nrm := he1
              subst he1'
              rcases h4 with ⟨_, h4⟩ | ⟨hne, _⟩
              · exact wpS_of_wp (wp_mono (code_sound hc hd hr hat1 h4) fun x a2 w2 hf2 => hend hs (Fin.mono hn1 hf2))
              · exact absurd rfl hne
            · rcases h4 with ⟨rfl, h4⟩ | ⟨hne, h4⟩
              · cases x with
                | normal =>
                  obtain ⟨he1, ρ1, hn1, hat1⟩ := Fin.at_nrm hb hf1
                  exact wpS_of_wp (wp_mono (code_sound hc hd hr hat1 h4) fun x a2 w2 hf2 => hend hs (Fin.mono hn1 hf2))
                | _ => obtain ⟨ρ', _, _, h5⟩ := hf1; exact h5.elim
              · obtain ⟨hx, hf2⟩ := Fin.of_ne hne hf1
                have h6 := hend (u' := u') hs (h4 ▸ hf2)
                cases x with
                | normal => exact absurd rfl hx
                | _ => exact h6
          · exact nomatch hcomp
        · exact nomatch hcomp
      · exact nomatch hcomp
    · exact nomatch hcomp
  · exact nomatch hcomp
/-! ### a function that defers a call -/
/-- How it was left: with nothing deferred, or with one call. -/
def FinD (P : Program) (base nt : Nat) (ρ : Map) (st : St) (w : World) (od : Option V) (r : Ex × Tr V × St) (x : Exit) (a : Act) (w' : World) : Prop :=
  match od with
  | none => Fin P base nt [] ρ st w r x a w'
  | some dv => ∃ g cs cs' ρ1 s1 w1, dv = .func g cs ∧ VRs ρ1 s1.next cs cs' ∧ Now P base ρ st w ρ1 s1 w1 ∧ Fin P base nt [{ target := .fn (.func g) cs'.toArray, args := #[] }] ρ1 s1 w1 r x a w'
theorem FinD.mono {ρ1 : Map} {st1 : St} {w1 : World} {od : Option V} {r : Ex × Tr V × St} (h : Now P base ρ st w ρ1 st1 w1) {e : Exit} {a : Act} {w' : World} (hf : FinD P base nt ρ1 st1 w1 od r e a w') : FinD P base nt ρ st w od r e a w' := by
  cases od with
  | none => exact Fin.mono h hf
  | some dv =>
    obtain ⟨g, cs, cs', ρ2, s2, w2, h1, h2, h3, h4⟩ := hf
    exact ⟨g, cs, cs', ρ2, s2, w2, h1, h2, h.trans h3, h4⟩
def SoundD (P : Program) (base nt : Nat) (run : Tr V → St → Option (Option V × Ex × Tr V × St)) (c : Code) : Prop :=
  ∀ ⦃ρ : Map⦄ ⦃st : St⦄ ⦃w : World⦄ ⦃tm : Tr V⦄ ⦃a : Act⦄ ⦃od : Option V⦄ ⦃r : Ex × Tr V × St⦄, At P base [] ρ st w nt tm a → run tm st = some (od, r) → c.wp P (FinD P base nt ρ st w od r) a w
theorem dPre_sound {x y : Code} {ra : CEv} {rk : DEv} {n : Nat} (h1 : Sound P base nt [] (ra call n) x) (h2 : SoundD P base nt (rk call n) y) : SoundD P base nt (dPre ra rk call n) (.seq x y) := by
  intro ρ st w tm a od r hat hr
  obtain ⟨⟨e, tm1, st1⟩, h3, h4⟩ := orec_none (show (Option.rec none (fun p => Prod.rec (fun e q => Prod.rec (fun tm' st' => Ex.rec (rk call n tm' st') (fun _ => none) (some (none, .ret, tm', st')) (fun v => some (none, .pan v, tm', st')) e) q) p) (ra call n tm st) : Option (Option V × Ex × Tr V × St)) = some (od, r) from hr)
  refine wp_seq (wp_mono (h1 hat h3) fun z a1 w1 hf => ?_)
  cases e with
  | nrm =>
    cases z with
    | normal =>
      obtain ⟨_, ρ1, hn, hat1⟩ := Fin.at_nrm hat.hb hf
      exact wp_mono (h2 hat1 h4) fun x a2 w2 hf2 => FinD.mono hn hf2
    | _ => obtain ⟨ρ', _, _, h5⟩ := hf; exact h5.elim
  | exit id => exact nomatch h4
  | ret =>
    obtain ⟨rfl, rfl⟩ := Prod.mk.inj (Option.some.inj h4)
    obtain ⟨hz, hf2⟩ := Fin.of_ne (by simp) hf
    exact then_of_ne hz hf2
  | pan v =>
    obtain ⟨rfl, rfl⟩ := Prod.mk.inj (Option.some.inj h4)
    obtain ⟨hz, hf2⟩ := Fin.of_ne (by simp) hf
    exact then_of_ne hz hf2
theorem exec_defer {o : Oper} {c : Call} {y : Operand} {g : Nat} {cs : Array Value} (ho : o.op = .defer c) (hcl : c.callee = .value y) (hargs : c.args.toList = []) (hy : a.eval y = .func (.func g) #[] cs) :
    (execOp a.eval o).run P w = .ok (.defer { target := .fn (.func g) cs, args := #[] }) w := by
  have h : execOp a.eval o = (do pure (Next.defer (← resolve a.eval c o.type))) := by unfold execOp; rw [ho]
  have ha : c.args = #[] := by apply Array.toList_inj.1; rw [hargs]
  have h2 : resolve a.eval c o.type = pure { target := .fn (.func g) cs, args := #[] } := by unfold resolve; rw [hcl, ha]; simp [hy, Deferred.ofValue]
  rw [h, h2]
  rfl
theorem upon_mono2 {o : Oper} {Q Q' : Exit → Act → World → Prop} {next next' : Act → World → Prop} (hq : ∀ e a w, e ≠ .normal → Q e a w → Q' e a w) (hn : ∀ a w, next a w → next' a w) (h : o.wp P a w next Q) : o.wp P a w next' Q' := by
  unfold Oper.wp at *
  generalize (execOp a.eval o).run P w = r at *
  cases r with
  | ok n w' =>
    cases n <;> simp only [Oper.upon] at h ⊢ <;>
      first
        | exact hn _ _ h
        | exact Calls.mono h (fun e w'' he => by
            cases e with
            | returned v => exact hn _ _ he
            | panicked c => exact hq _ _ _ (by simp) he
            | outgrown => obtain ⟨a0, w0, h0⟩ := he; exact ⟨a0, w0, hq _ _ _ (by simp) h0⟩)
        | exact Rows.mono h (fun _ _ he => hn _ _ he)
        | exact h
  | halt x w' => cases x <;> simp only [Oper.upon] at h ⊢ <;> first | exact hq _ _ _ (by simp) h | exact h
theorem opsN_mono2 {Q Q' : Exit → Act → World → Prop} {next next' : Act → World → Prop} {ops : Array Oper} (hq : ∀ e a w, e ≠ .normal → Q e a w → Q' e a w) (hn : ∀ a w, next a w → next' a w) : ∀ (l : List Nat) (a : Act) (w : World), opsN P ops Q next l a w → opsN P ops Q' next' l a w
  | [], a, w, h => hn _ _ h
  | i :: l, a, w, h => by
    simp only [opsN] at h ⊢
    split
    · rename_i hi; rw [hi] at h; exact opsN_mono2 hq hn l a w h
    · rename_i o hi
      rw [hi] at h
      split
      · rename_i hw
        simp only [hw, if_true] at h
        exact upon_mono2 hq (fun a w => opsN_mono2 hq hn l a w) h
      · rename_i hw
        simp only [hw] at h
        exact opsN_mono2 hq hn l _ w h
theorem dfr_sound (hc : CallOk P call) (hd : DrawOk P call) {n : Nat} {ops : Array Oper} {o : Oper} {c : Call} {y : Operand} {b : Code} {id : Nat} {os : List O} {x : X} {r' : C} (hlast : ops.toList.getLast? = some o) (ho : o.op = .defer c) (hcl : c.callee = .value y) (hargs : c.args.toList = []) (hg : o.guard = none) (hdst : o.dst = none)
    (hos : compOs P nt ops ops.toList.dropLast = some os) (hx : compX P y = some x) (hr' : comp P nt b = some r') : SoundD P base nt ((CD.dfr os x r').ev call n) (.seq (.region id ops false) b) := by
  intro ρ st w tm a od r hat hr
  obtain ⟨⟨e, tm1, st1⟩, h3, h4⟩ := orec_none (show (Option.rec none (fun p => Prod.rec (fun e q => Prod.rec (fun tm' st' => Ex.rec ((x.ev tm').onFunc none (fun g cs => Option.rec none (fun q => some (some (.func g cs), q)) (r'.ev call n tm' st'))) (fun _ => none) none (fun v => some (none, .pan v, tm', st')) e) q) p)
    (evO os call tm st) : Option (Option V × Ex × Tr V × St)) = some (od, r) from hr)
  have hsplit : ops.toList = ops.toList.dropLast ++ [o] := by
    obtain ⟨l, hl⟩ := List.getLast?_eq_some_iff.1 hlast
    rw [hl]; simp
  have hlen : ops.size = ops.toList.dropLast.length + 1 := by
    have := congrArg List.length hsplit
    simpa using this
  have hidx : ∀ j o', ops.toList.dropLast[j]? = some o' → ops[0 + j]? = some o' := fun j o' hj => by
    have h5 : ops.toList[j]? = some o' := by
      rw [hsplit, List.getElem?_append_left (List.getElem?_eq_some_iff.1 hj).1]
      exact hj
    rw [Nat.zero_add]; simpa using h5
  have ho2 : ops[ops.toList.dropLast.length]? = some o := by
    have h5 : ops.toList[ops.toList.dropLast.length]? = some o := by
      rw [hsplit]; simp
    simpa using h5
  have hops := ops_sound hc ops ops.toList.dropLast 0 os hos hidx hat h3
  refine wp_seq (wp_region (opsN_wpOps _ _ _ ?_))
  rw [hlen, List.range_eq_range', List.range'_concat, opsN_append]
  refine opsN_mono2 (fun z a1 w1 hz hf => ?_) (fun a1 w1 hf => ?_) _ _ _ hops
  · cases e with
    | nrm =>
      cases z with
      | normal => exact absurd rfl hz
      | _ => obtain ⟨ρ', _, _, h5⟩ := hf; exact h5.elim
    | exit id => exact nomatch h4
    | ret => exact nomatch h4
    | pan v =>
      obtain ⟨rfl, rfl⟩ := Prod.mk.inj (Option.some.inj h4)
      exact then_of_ne hz hf
  · obtain ⟨he1, ρ1, hn1, hat1⟩ := Fin.at_nrm hat.hb hf
    have he1' : e = .nrm := he1
    subst he1'
    obtain ⟨g, cs, hdv, h5⟩ := onFunc_some (show (x.ev tm1).onFunc none (fun g cs => Option.rec none (fun q => some (some (V.func g cs), q)) (r'.ev call n tm1 st1)) = some (od, r) from h4)
    obtain ⟨r1, h6, h7⟩ := orec_none h5
    obtain ⟨rfl, rfl⟩ := Prod.mk.inj (Option.some.inj h7)
    have hy := hat1.ctx.opd hx
    rw [hdv] at hy
    obtain ⟨cs', hy2, hcs⟩ := hy.func_inv
    simp only [opsN, Nat.zero_add, Nat.one_mul, ho2]
    have hwant : Region.wanted o (yielded ops a1.tmps) = true := by simp [Region.wanted, hg]
    rw [if_pos hwant]
    unfold Oper.wp
    rw [exec_defer ho hcl hargs hy2]
    show b.wp P _ (({ a1 with defers := { target := .fn (.func g) cs'.toArray, args := #[] } :: a1.defers } : Act).put o.dst Go.undef) w1
    rw [hdst, hat1.nod]
    have hat2 : At P base [{ target := .fn (.func g) cs'.toArray, args := #[] }] ρ1 st1 w1 nt tm1 ({ tmps := a1.tmps, defers := [{ target := .fn (.func g) cs'.toArray, args := #[] }] } : Act) := ⟨⟨hat1.ctx.rel, hat1.ctx.tms⟩, hat1.hb, rfl⟩
    exact wp_mono (code_sound hc hd hr' hat2 h6) fun z a2 w2 hf2 => ⟨g, cs, cs', ρ1, st1, w1, rfl, hcs, hn1, hf2⟩
theorem compD_sound (hc : CallOk P call) (hd : DrawOk P call) {n : Nat} : ∀ {c : Code} {cd : CD}, compD P nt c = some cd → SoundD P base nt (cd.ev call n) c
  | .seq x b, cd, h => by
    have plain : (do pure (CD.pre (← comp P nt x) (← compD P nt b)) : Option CD) = some cd → SoundD P base nt (cd.ev call n) (.seq x b) := fun h' => by
      obtain ⟨x', hx, h'⟩ := bind_some' h'
      obtain ⟨k', hk, h'⟩ := bind_some' h'
      obtain rfl := Option.some.inj h'
      exact dPre_sound (code_sound hc hd hx) (compD_sound hc hd hk)
    cases x with
    | region id ops draw =>
      cases draw with
      | true => exact plain h
      | false =>
        have h' : (match ops.toList.getLast? with
          | some o => match o.op with
            | .defer c => match c.callee, c.args.toList, o.guard, o.dst with
              | .value y, [], none, none => do pure (.dfr (← compOs P nt ops ops.toList.dropLast) (← compX P y) (← comp P nt b))
              | _, _, _, _ => none
            | _ => do pure (.pre (← comp P nt (.region id ops false)) (← compD P nt b))
          | none => none) = some cd := h
        split at h'
        · rename_i o hlast
          split at h'
          · rename_i c ho
            split at h'
            · rename_i y hcl hargs hg hdst
              obtain ⟨os, hos, h'⟩ := bind_some' h'
              obtain ⟨z, hz, h'⟩ := bind_some' h'
              obtain ⟨r', hr', h'⟩ := bind_some' h'
              obtain rfl := Option.some.inj h'
              exact dfr_sound hc hd hlast ho hcl hargs hg hdst hos hz hr'
            · exact nomatch h'
          · exact plain h'
        · exact nomatch h'
    | _ => exact plain h
  | .skip, cd, h => nomatch h
  | .region _ _ _, cd, h => nomatch h
  | .cond _ _ _, cd, h => nomatch h
  | .block _ _, cd, h => nomatch h
  | .loop _, cd, h => nomatch h
  | .rangeFunc _ _ _ _, cd, h => nomatch h
  | .exit _, cd, h => nomatch h
  | .scope _, cd, h => nomatch h
  | .label _, cd, h => nomatch h
  | .goto _, cd, h => nomatch h
  | .ret, cd, h => nomatch h
  | .refuse _, cd, h => nomatch h
theorem enterD_sound {fns : Tr Fs} (ht : TableOk P fns) (hc : CallOk P call) (hd : DrawOk P call) {f : Nat} {rs : List RV} {b : DEv} (hf : FOk P f (.dfr rs b)) {n : Nat} {args : List V} {args' : List Value} {r : CR} (h : enterD fns call n rs b args st = some (r, st'))
    (hrel : Rel P base ρ st w) (hb : base ≤ w.heap.size) (hargs : VRs ρ st.next args args') : FnOk P f ∧ Calls P f args'.toArray w (Came P base ρ st w r st') := by
  obtain ⟨fn, cd, hfn, hname, hcomp, rfl⟩ := hf
  unfold compFD at hcomp
  obtain ⟨c, hbody, hcomp⟩ := bind_some' hcomp
  obtain ⟨cd', hcd, hcomp⟩ := bind_some' hcomp
  obtain ⟨rs', hres, hcomp⟩ := bind_some' hcomp
  obtain ⟨rfl, rfl⟩ := Prod.mk.inj (Option.some.inj hcomp)
  refine ⟨⟨fn, hfn, hname, by rw [hbody]; rfl⟩, calls_of_wp_defers hfn hbody ?_⟩
  obtain ⟨⟨od, e, tm1, st1⟩, h3, h4⟩ := orec_none (show (Option.rec none (fun p => Prod.rec (fun od q => Prod.rec (fun e q2 => Prod.rec (fun tm1 st1 =>
    Option.rec (leaveF st rs' (some (e, tm1, st1))) (fun dv => deferD fns call n rs' st e tm1 st1 dv) od) q2) q) p) (cd'.ev call n (initT args 0 .leaf) { next := st.next, low := st.next, mem := st.mem }) : Option (CR × St)) = some (r, st') from h)
  have hat : At P base [] ρ { next := st.next, low := st.next, mem := st.mem } w fn.ntmps (initT args 0 .leaf) { tmps := args'.toArray ++ Array.replicate (fn.ntmps - args'.toArray.size) Go.undef, defers := [] } :=
    ⟨⟨hrel.low _, init_tms hargs⟩, hb, rfl⟩
  refine wp_mono (compD_sound hc hd hcd hat h3) fun x a w' hf => ?_
  have hend : ∀ {ρ' : Map} {s2 : St} {w2 : World}, Now P base ρ { next := st.next, low := st.next, mem := st.mem } w ρ' s2 w2 → TmW ρ' s2.next fn.ntmps tm1 a.tmps → endF st tm1 s2 rs' = some (r, st') →
      ∃ v, (results fn a.tmps).run P w2 = .ok v w2 ∧ Came P base ρ st w r st' (.returned v) w2 := by
    intro ρ' s2 w2 hn htm hr
    obtain ⟨v, hv, h5⟩ := orec_none hr
    obtain ⟨rfl, rfl⟩ := Prod.mk.inj (Option.some.inj h5)
    obtain ⟨v', h6, h7⟩ := res_ok (a := a) hn.rel htm hres hv
    obtain ⟨h8, h9, h10, h11⟩ := back_came (r := .ret v) hrel hn
    exact ⟨v', h6, ρ', ⟨hn.ext, h8, h9, hn.below, h11⟩, h10 v v' (.inl rfl) h7⟩
  cases od with
  | none =>
    obtain ⟨ρ', hn, hnod, h5⟩ := hf
    cases e with
    | nrm => cases x with
      | normal => show Leaves P fn a.tmps _ a.defers .returning w'; rw [hnod]; exact hend hn h5.weak h4
      | _ => exact h5.elim
    | exit id => exact nomatch h4
    | ret => cases x with
      | ret => show Leaves P fn a.tmps _ a.defers .returning w'; rw [hnod]; exact hend hn h5.weak h4
      | _ => exact h5.elim
    | pan v => cases x with
      | panic chain =>
        obtain ⟨v', rfl, h6, _⟩ := h5
        obtain ⟨rfl, rfl⟩ := Prod.mk.inj (Option.some.inj h4)
        obtain ⟨h8, h9, h10, h11⟩ := back_came (r := .pan v) hrel hn
        show Leaves P fn a.tmps _ a.defers (.panicking _) w'
        rw [hnod]
        exact ⟨ρ', ⟨hn.ext, h8, h9, hn.below, h11⟩, v', rfl, h10 v v' (.inr rfl) h6⟩
      | _ => exact h5.elim
  | some dv =>
    obtain ⟨g, cs, cs', ρ1, s1, w1, rfl, hcs, hn1, ρ', hn2, hnod, h5⟩ := hf
    obtain ⟨rv, hrv, h6⟩ := orec_none (show (Option.rec none (fun rv => (Option.rec none (fun fs => Fs.rec (fun _ _ => none) (fun _ => none) (fun _ _ => none)
      (fun t0 b => Option.rec none (fun st2 => endF st tm1 st2 rs') (enterR call n t0 b rv cs st1)) (fun _ => none) fs) (fns.get g) : Option (CR × St))) (recV e) : Option (CR × St)) = some (r, st') from h4)
    obtain ⟨fs, hfs, h7⟩ := orec_none h6
    have hg := ht g fs hfs
    cases fs with
    | mk _ _ => exact nomatch h7
    | ext _ => exact nomatch h7
    | dfr _ _ => exact nomatch h7
    | spec _ => exact nomatch h7
    | rcv t0 b' =>
      obtain ⟨st2, h8, h9⟩ := orec_none (show (Option.rec none (fun st2 => endF st tm1 st2 rs') (enterR call n t0 b' rv cs st1) : Option (CR × St)) = some (r, st') from h7)
      have hgok : FnOk P g := by
        obtain ⟨gn, gc, h10, h11, h12, _⟩ := hg
        refine ⟨gn, h10, h11, ?_⟩
        unfold compFR at h12
        obtain ⟨gb, h13, _⟩ := bind_some' h12
        rw [h13]; rfl
      have hcs2 : VRs ρ' st1.next cs cs' := hcs.mono hn2.ext hn2.turn.next
      have key : ∀ {u : FrameMode}, u ≠ .run → RecAt ρ' st1.next rv u → TmW ρ' st1.next fn.ntmps tm1 a.tmps → Leaves P fn a.tmps (Came P base ρ st w r st') a.defers u w' := by
        intro u hu hrec htm
        rw [hnod]
        refine leaves_cons (f := g) (args := cs'.toArray) hu ?_ (CallsD.mono (rcv_sound hc hd hg h8 hn2.rel (size_le (size_le hb hn1.below) hn2.below) hcs2 hrec) fun e' u' w2 hw2 => ?_)
        · have := run_callFunc (P := P) (w := w') hgok (#[] ++ cs'.toArray)
          show (callFunc g (#[] ++ cs'.toArray)).run P w' = _
          rw [this]; simp
        · obtain ⟨⟨v0, rfl⟩, hs, ρ2, hn3⟩ := hw2
          show Leaves P fn a.tmps _ [] (settle u') w2
          rw [hs]
          exact hend ((hn1.trans hn2).trans hn3) (hn3.tmsW htm) h9
      cases e with
      | nrm => cases x with
        | normal => exact key (by simp) (.inl ⟨rfl, (Option.some.inj hrv).symm⟩) h5.weak
        | _ => exact h5.elim
      | exit id => exact nomatch hrv
      | ret => cases x with
        | ret => exact key (by simp) (.inl ⟨rfl, (Option.some.inj hrv).symm⟩) h5.weak
        | _ => exact h5.elim
      | pan v => cases x with
        | panic chain =>
          obtain ⟨v', rfl, h10, h11⟩ := h5
          obtain rfl := Option.some.inj hrv
          exact key (by simp) (.inr ⟨v', rfl, h10⟩) h11
        | _ => exact h5.elim
theorem evF_sound {fns : Tr Fs} (ht : TableOk P fns) (hd : ∀ call, CallOk P call → DrawOk P call) : ∀ n, CallOk P (evF fns n)
  | 0 => by
    intro base f args st st' r ρ w args' h
    exact nomatch h
  | n + 1 => by
    intro base f args st st' r ρ w args' h hrel hb hargs
    obtain ⟨fs, hfs, h1⟩ := orec_none (show (Option.rec none (fun fn => Fs.rec (fun rs b => enterF (evF fns n) n rs b args st) (fun k => Option.rec none (fun v => some (.ret v, st)) (evX k args)) (fun rs b => enterD fns (evF fns n) n rs b args st) (fun _ _ => none) (fun g => Option.rec none (fun v => some (.ret v, st)) (g args st)) fn) (fns.get f) : Option (CR × St)) = some (r, st') from h)
    have hentry := ht f fs hfs
    cases fs with
    | ext k =>
      obtain ⟨v, hv, h2⟩ := orec_none (show (Option.rec none (fun v => some (CR.ret v, st)) (evX k args) : Option (CR × St)) = some (r, st') from h1)
      obtain ⟨rfl, rfl⟩ := Prod.mk.inj (Option.some.inj h2)
      obtain ⟨v', h3, h4⟩ := ext_ok (w := w) hentry hv hargs
      exact .inr ⟨v, v', rfl, rfl, h3, h4⟩
    | rcv t0 b => exact nomatch h1
    | spec g =>
      obtain ⟨v, hv, h2⟩ := orec_none (show (Option.rec none (fun v => some (CR.ret v, st)) (g args st) : Option (CR × St)) = some (r, st') from h1)
      obtain ⟨rfl, rfl⟩ := Prod.mk.inj (Option.some.inj h2)
      exact .inl (hentry hv hrel hb hargs)
    | dfr rs0 b0 => exact .inl (enterD_sound ht (evF_sound ht hd n) (hd _ (evF_sound ht hd n)) hentry h1 hrel hb hargs)
    | mk rs0 b0 =>
    obtain ⟨fn, ir, hf, hname, hcomp, hrs, hbd⟩ := hentry
    obtain rfl : rs0 = ir.rs := hrs
    obtain rfl : b0 = ir.b.ev := hbd
    left
    unfold compF at hcomp
    obtain ⟨c, hbody, hcomp⟩ := bind_some' hcomp
    obtain ⟨b, hcb, hcomp⟩ := bind_some' hcomp
    obtain ⟨rs, hres, hcomp⟩ := bind_some' hcomp
    obtain rfl := Option.some.inj hcomp
    have ih := evF_sound ht hd n
    refine ⟨⟨fn, hf, hname, by rw [hbody]; rfl⟩, calls_of_wp hf hbody ?_⟩
    have h2 : leaveF st rs (b.ev (evF fns n) n (initT args 0 .leaf) { next := st.next, low := st.next, mem := st.mem }) = some (r, st') := h1
    obtain ⟨⟨e, tm1, st1⟩, h3, h4⟩ := orec_none h2
    have hat : At P base [] ρ { next := st.next, low := st.next, mem := st.mem } w fn.ntmps (initT args 0 .leaf) { tmps := args'.toArray ++ Array.replicate (fn.ntmps - args'.toArray.size) Go.undef, defers := [] } :=
      ⟨⟨hrel.low _, init_tms hargs⟩, hb, rfl⟩
    refine wp_mono (code_sound ih (hd _ ih) hcb hat h3) fun x a w' hf => ?_
    have hend : ∀ ρ', Now P base ρ { next := st.next, low := st.next, mem := st.mem } w ρ' st1 w' → a.defers = [] → TmR ρ' st1.next fn.ntmps tm1 a.tmps → endF st tm1 st1 rs = some (r, st') →
        a.defers = [] ∧ ∃ v, (results fn a.tmps).run P w' = .ok v w' ∧ Came P base ρ st w r st' (.returned v) w' := by
      intro ρ' hn hnod htm hr
      obtain ⟨v, hv, h5⟩ := orec_none hr
      obtain ⟨rfl, rfl⟩ := Prod.mk.inj (Option.some.inj h5)
      obtain ⟨v', h6, h7⟩ := res_ok (a := a) hn.rel htm.weak hres hv
      obtain ⟨h8, h9, h10, h11⟩ := back_came (r := .ret v) hrel hn
      exact ⟨hnod, v', h6, ρ', ⟨hn.ext, h8, h9, hn.below, h11⟩, h10 v v' (.inl rfl) h7⟩
    obtain ⟨ρ', hn, hnod, h5⟩ := hf
    cases e with
    | nrm => cases x with
      | normal => exact hend ρ' hn hnod h5 h4
      | _ => exact h5.elim
    | exit id => exact nomatch h4
    | ret => cases x with
      | ret => exact hend ρ' hn hnod h5 h4
      | _ => exact h5.elim
    | pan v => cases x with
      | panic chain =>
        obtain ⟨v', rfl, h6, _⟩ := h5
        obtain ⟨rfl, rfl⟩ := Prod.mk.inj (Option.some.inj h4)
        obtain ⟨h8, h9, h10, h11⟩ := back_came (r := .pan v) hrel hn
        exact ⟨hnod, ρ', ⟨hn.ext, h8, h9, hn.below, h11⟩, v', rfl, h10 v v' (.inr rfl) h6⟩
      | _ => exact h5.elim/-- THE ABSTRACT MACHINE IS SOUND. -/
theorem sound {P : Program} (hm : P.follows .mixedOrders = true) {fns : Tr Fs} (ht : TableOk P fns) (n : Nat) : CallOk P (evF fns n) := evF_sound ht (drawOk hm) n
end
end Go.Proofs.YtjdbcfnlehedmaaGreatDoor.Av
