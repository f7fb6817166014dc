/-
  EACH INSTRUCTION THAT TURNS NOTHING, AS THE MODEL CARRIES IT OUT: slices, what is long, what is nil, maps that are asked.
-/
import Derived.Test.YtjdbcfnlehedmaaGreatDoorAvOpsB
namespace Go.Proofs.YtjdbcfnlehedmaaGreatDoor.Av
set_option linter.unusedVariables false
set_option linter.unusedSimpArgs false
open Go Go.RowKit

section ops
variable {P : Program} {base : Nat} {ρ : Map} {st : St} {w : World} {nt : Nat} {tm : Tr V} {a : Act} {o : Oper} {v : V}
theorem bnd_le {cap c m : Nat} {x : Option Operand} (h : Bd a cap m x) (hx : x ≠ none) : Bd a c m x := by
  rcases h with ⟨rfl, _⟩ | h
  · exact absurd rfl hx
  · exact .inr h
theorem g_sll (c : Ctx P base ρ st w nt tm a) {t e : TypeId} {n : Nat} {x : Operand} {lo hi mx : Option Operand} {x' : X} {lo' hi' mx' : Option X} (ht : P.underlying t = some (.slice e)) (hn : sizeT P e = some n) (ho : o.op = .slice t x lo hi mx) (hx : compX P x = some x')
    (hl : compOX P lo = some lo') (hh : compOX P hi = some hi') (hm : compOX P mx = some mx') (hmx : mx ≠ none → hi ≠ none) (h : iSll e n x' lo' hi' mx' tm st = some v) : Gives P ρ st.next w a o v := by
  have h8 := c.opd hx
  rcases onSlice_some h with ⟨_, _, _, _, _, hv, h1⟩ | ⟨ob, i, ln, cp, ex, hv, h1⟩
  · obtain ⟨l, h2, h3⟩ := orec_none h1
    obtain ⟨u, h4, h5⟩ := orec_none h3
    obtain ⟨m, h6, h7⟩ := orec_none h5
    obtain ⟨h9, h10⟩ := bif_none h7
    simp only [Bool.and_eq_true] at h9
    obtain rfl := beq_iff.1 h9.1
    obtain rfl := beq_iff.1 h9.2.1
    obtain rfl := beq_iff.1 h9.2.2
    rw [hv] at h8
    have h11 := h8.nilSlice_inv
    obtain rfl := Option.some.inj h10
    refine gives (s := Instr.sliceAt t (a.eval x) (lo.map a.eval) (hi.map a.eval) (mx.map a.eval)) (by unfold execOp; rw [ho]) (v' := .slice none 0 0) ?_ .nilSlice
    unfold Hands; rw [h11]
    have hb := bounds_ok (P := P) (a := a) (isS := true) (len := 0) (cap := 0) (c.bound hl h2) (c.bound hh h4) (c.bound hm h6) (Nat.le_refl _) (Nat.le_refl _) (Nat.le_refl _) hmx (Nat.zero_le _) w
    simp only [Instr.sliceAt, Instr.slice, Sem.run_bind, run_und ht, Result.andThen_ok, hb, run_size hn]
    simp
  · obtain ⟨l, h2, h3⟩ := orec_none h1
    obtain ⟨u, h4, h5⟩ := orec_none h3
    obtain ⟨m, h6, h7⟩ := orec_none h5
    obtain ⟨h9, h10⟩ := bif_none h7
    simp only [Bool.and_eq_true] at h9
    have e1 := ble_iff.1 h9.1
    have e2 := ble_iff.1 h9.2.1
    have e3 := ble_iff.1 h9.2.2
    rw [hv] at h8
    obtain ⟨ad, cp', h11, h12, h13, h14, h15, h16, h17⟩ := h8.slice_inv
    -- the capacity in the model: as told, or more
    have hbm : ∃ m', Bd a cp' m' mx ∧ m ≤ m' ∧ m' ≤ cp' ∧ u ≤ (if mx.isSome then m' else cp') ∧ (mx ≠ none → m' = m) ∧ (mx = none → m' = cp' ∧ m = cp) := by
      have h18 := c.bound hm h6
      by_cases hn : mx = none
      · subst hn
        rcases h18 with ⟨_, rfl⟩ | ⟨y, k, h19, _⟩
        · exact ⟨cp', .inl ⟨rfl, rfl⟩, h14, Nat.le_refl _, by simpa using Nat.le_trans e2 h14, fun h => absurd rfl h, fun _ => ⟨rfl, rfl⟩⟩
        · exact nomatch h19
      · refine ⟨m, bnd_le h18 hn, Nat.le_refl _, Nat.le_trans e3 h14, ?_, fun _ => rfl, fun h => absurd h hn⟩
        cases mx with
        | none => exact absurd rfl hn
        | some y => simpa using e2
    obtain ⟨m', hb1, hb2, hb3, hb4, hb5, hb6⟩ := hbm
    have hb := bounds_ok (P := P) (a := a) (isS := true) (len := ln) (cap := cp') (c.bound hl h2) (c.bound hh h4) hb1 e1 (Nat.le_trans e2 hb2) hb3 hmx hb4 w
    have hrun : Hands P w (Instr.sliceAt t (a.eval x) (lo.map a.eval) (hi.map a.eval) (mx.map a.eval)) (.slice (some (if m' = l then ad else ad.add (l * n))) (u - l) (m' - l)) := by
      unfold Hands; rw [h11]
      simp only [Instr.sliceAt, Instr.slice, Sem.run_bind, run_und ht, Result.andThen_ok, hb, run_size hn, Sem.run_pure]
      congr 2
      split <;> simp
    have hadr : m' - l = 0 ∨ (if m' = l then ad else ad.add (l * n)) = (ρ ob).at (i + l * n) := by
      by_cases e : m' = l
      · exact .inl (by omega)
      · right
        rw [if_neg e]
        rcases h16 with h16 | h16
        · omega
        · rw [h16, Pl.at_add]
    have hlm : l ≤ m := Nat.le_trans e1 e2
    by_cases hnone : mx = none
    · subst hnone
      obtain rfl := Option.some.inj hm
      obtain ⟨e5, e6⟩ := hb6 rfl
      cases ex with
      | true =>
        have h10' : some (V.slice ob (i + l * n) (u - l) (m - l) true) = some v := h10
        obtain rfl := Option.some.inj h10'
        refine gives (by unfold execOp; rw [ho]) hrun (.slice _ _ _ _ _ _ _ h12 (by omega) (by omega) (fun _ => ?_) hadr (fun h => nomatch h))
        have := h15 rfl
        omega
      | false =>
        have h10' : onCells none (fun e' _ w => bif w && Nat.beq e e' then some (V.slice ob (i + l * n) (u - l) (m - l) false) else none) (st.mem.get ob) = some v := h10
        obtain ⟨e', cs, own, hg, h18⟩ := onCells_some h10'
        obtain ⟨h19, h20⟩ := bif_none h18
        simp only [Bool.and_eq_true] at h19
        obtain rfl := beq_iff.1 h19.2
        obtain rfl := Option.some.inj h20
        obtain ⟨cc, ee, lo, hi, _, _, _, h21⟩ := c.rel.at hg h12
        have h22 := (h21 h19.1).1
        rw [hn] at h22
        have hz : n = (ρ ob).z := Option.some.inj h22
        refine gives (by unfold execOp; rw [ho]) hrun (.slice _ _ _ _ _ _ _ h12 (by omega) (by omega) (fun h => nomatch h) hadr (fun _ => ?_))
        have h23 := h17 rfl
        rw [e5, ← hz]
        rw [← hz] at h23
        have : l * n + (cp' - l) * n = cp' * n := by rw [← Nat.add_mul]; congr 1; omega
        omega
    · have hm' : m' = m := hb5 hnone
      subst hm'
      cases mx with
      | none => exact absurd rfl hnone
      | some y =>
        simp only [compOX] at hm
        cases hy : compX P y with
        | none => rw [hy] at hm; exact nomatch hm
        | some z =>
          rw [hy] at hm
          obtain rfl := Option.some.inj hm
          have h10' : some (V.slice ob (i + l * n) (u - l) (m' - l) true) = some v := h10
          obtain rfl := Option.some.inj h10'
          exact gives (by unfold execOp; rw [ho]) hrun (.slice _ _ _ _ _ _ _ h12 (by omega) (Nat.le_refl _) (fun _ => rfl) hadr (fun h => nomatch h))
theorem g_sla (c : Ctx P base ρ st w nt tm a) {t e : TypeId} {n len : Nat} {x : Operand} {lo hi mx : Option Operand} {x' : X} {lo' hi' mx' : Option X} (ht : P.underlying t = some (.array len e)) (hn : sizeT P e = some n) (ho : o.op = .slice t x lo hi mx) (hx : compX P x = some x')
    (hl : compOX P lo = some lo') (hh : compOX P hi = some hi') (hm : compOX P mx = some mx') (hmx : mx ≠ none → hi ≠ none) (h : iSla len n x' lo' hi' mx' tm st = some v) : Gives P ρ st.next w a o v := by
  have h8 := c.opd hx
  obtain ⟨ob, i, _, _, _, hv, h1⟩ := onPtr_some h
  obtain ⟨l, h2, h3⟩ := orec_none h1
  obtain ⟨u, h4, h5⟩ := orec_none h3
  obtain ⟨m, h6, h7⟩ := orec_none h5
  obtain ⟨h9, h10⟩ := bif_none h7
  simp only [Bool.and_eq_true] at h9
  have e1 := ble_iff.1 h9.1
  have e2 := ble_iff.1 h9.2.1
  have e3 := ble_iff.1 h9.2.2
  rw [hv] at h8
  obtain ⟨h11, h12⟩ := h8.ptr_inv
  have h10' : some (V.slice ob (i + l * n) (u - l) (m - l) true) = some v := h10
  obtain rfl := Option.some.inj h10'
  have hb := bounds_ok (P := P) (a := a) (isS := false) (len := len) (cap := len) (c.bound hl h2) (c.bound hh h4) (c.bound hm h6) e1 e2 e3 hmx (by split <;> omega) w
  refine gives (s := Instr.sliceAt t (a.eval x) (lo.map a.eval) (hi.map a.eval) (mx.map a.eval)) (by unfold execOp; rw [ho]) (v' := .slice (some (if m = l then (ρ ob).at i else (ρ ob).at (i + l * n))) (u - l) (m - l)) ?_ ?_
  · unfold Hands; rw [h12]
    simp only [Instr.sliceAt, Sem.run_bind, run_und ht, Result.andThen_ok, Instr.sureAddr, hb, run_size hn, Sem.run_pure, Pl.at_add]
  · refine .slice _ _ _ _ _ _ _ h11 (by omega) (Nat.le_refl _) (fun _ => rfl) ?_ (fun h => nomatch h)
    by_cases e : m = l
    · exact .inl (by omega)
    · right; rw [if_neg e]
theorem Entries.length : ∀ {l : List (V × V)} {l' : List MapEntry} {n : Nat}, Entries ρ n l l' → l.length = l'.length
  | [], [], _, _ => rfl
  | (_, _) :: l, _ :: l', _, h => by simp [Entries.length h.2.2]
  | [], _ :: _, _, h => h.elim
  | _ :: _, [], _, h => h.elim
/-- What a call of a builtin comes to. -/
theorem len_run {call : Call} {x : Operand} {t : TypeId} (ho : o.op = .call call) (hcb : call.callee = .builtin .len) (ha : call.args.toList = [x]) (hat : call.argTypes.toList = [t]) {v' : Value}
    (h1 : (Builtin.len_ #[t] o.type #[a.eval x]).run P w = .ok v' w) (h2 : VR ρ st.next v v') : Gives P ρ st.next w a o v := by
  have harr : call.args = #[x] := by apply Array.toList_inj.1; rw [ha]
  have hatr : call.argTypes = #[t] := by apply Array.toList_inj.1; rw [hat]
  exact ⟨v', by simp [execOp, ho, resolve, hcb, harr, hatr, invoke, builtin, h1], h2⟩
theorem g_lenS (c : Ctx P base ρ st w nt tm a) {t : TypeId} {call : Call} {x : Operand} {y : X} (ho : o.op = .call call) (hcb : call.callee = .builtin .len) (ha : call.args.toList = [x]) (hat : call.argTypes.toList = [t])
    (ht : P.underlying t = some .string) (hx : compX P x = some y) (h : iLenS y tm st = some v) : Gives P ρ st.next w a o v := by
  obtain ⟨s, hv, h1⟩ := onStr_some h
  have h8 := c.opd hx
  rw [hv] at h8
  have h9 := h8.str_inv
  obtain rfl := Option.some.inj h1
  rw [lenL_eq]
  refine len_run ho hcb ha hat (v' := .int .i64 (s.length : Int)) ?_ (.int .i64 _)
  rw [h9]
  simp only [Builtin.len_, List.getElem?_toArray, List.getElem?_cons_zero, Sem.run_bind, run_und ht, Result.andThen_ok]; rfl
theorem g_lenL (c : Ctx P base ρ st w nt tm a) {t e : TypeId} {call : Call} {x : Operand} {y : X} (ho : o.op = .call call) (hcb : call.callee = .builtin .len) (ha : call.args.toList = [x]) (hat : call.argTypes.toList = [t])
    (ht : P.underlying t = some (.slice e)) (hx : compX P x = some y) (h : iLenL y tm st = some v) : Gives P ρ st.next w a o v := by
  have h8 := c.opd hx
  rcases onSlice_some h with ⟨_, _, _, _, _, hv, h1⟩ | ⟨ob, i, ln, cp, ex, hv, h1⟩
  · rw [hv] at h8
    have h9 := h8.nilSlice_inv
    obtain rfl := Option.some.inj h1
    refine len_run ho hcb ha hat (v' := .int .i64 0) ?_ (.int .i64 _)
    rw [h9]
    simp only [Builtin.len_, List.getElem?_toArray, List.getElem?_cons_zero, Sem.run_bind, run_und ht, Result.andThen_ok]; rfl
  · rw [hv] at h8
    obtain ⟨ad, cp', h9, _⟩ := h8.slice_inv
    obtain rfl := Option.some.inj h1
    refine len_run ho hcb ha hat (v' := .int .i64 (ln : Int)) ?_ (.int .i64 _)
    rw [h9]
    simp only [Builtin.len_, List.getElem?_toArray, List.getElem?_cons_zero, Sem.run_bind, run_und ht, Result.andThen_ok]; rfl
theorem run_getObj {r : Nat} {es : Array MapEntry} {clock : Nat} (h : w.heap[r]? = some (.map es clock)) : (getObj r).run P w = .ok (.map es clock) w := by simp [getObj, Sem.run, h]
theorem g_lenM (c : Ctx P base ρ st w nt tm a) {t k e : TypeId} {call : Call} {x : Operand} {y : X} (ho : o.op = .call call) (hcb : call.callee = .builtin .len) (ha : call.args.toList = [x]) (hat : call.argTypes.toList = [t])
    (ht : P.underlying t = some (.map k e)) (hx : compX P x = some y) (h : iLenM y tm st = some v) : Gives P ρ st.next w a o v := by
  have h8 := c.opd hx
  rcases onMap_some h with ⟨_, _, _, _, _, hv, h1⟩ | ⟨ob, i, ln, cp, ex, hv, h1⟩
  · rw [hv] at h8
    have h9 := h8.nilMap_inv
    obtain rfl := Option.some.inj h1
    refine len_run ho hcb ha hat (v' := .int .i64 0) ?_ (.int .i64 _)
    rw [h9]
    simp only [Builtin.len_, List.getElem?_toArray, List.getElem?_cons_zero, Sem.run_bind, run_und ht, Result.andThen_ok]; rfl
  · obtain ⟨es, hg, h2⟩ := onMapO_some h1
    rw [hv] at h8
    obtain ⟨hlv, h9⟩ := h8.map_inv
    obtain ⟨es', clock, h3, h4⟩ := c.rel.at hg hlv
    obtain rfl := Option.some.inj h2
    rw [lenL_eq]
    refine len_run ho hcb ha hat (v' := .int .i64 (es'.size : Int)) ?_ (by rw [Entries.length h4]; exact .int .i64 _)
    rw [h9]
    simp only [Builtin.len_, List.getElem?_toArray, List.getElem?_cons_zero, Sem.run_bind, run_und ht, Result.andThen_ok, run_getObj h3]; rfl
theorem g_tas (c : Ctx P base ρ st w nt tm a) {xt t : TypeId} {x : Operand} {y : X} {z : V} {ok : Bool} {d : TypeDesc} (ht : P.underlying t = some d) (hd : ∀ ms, d ≠ .interface ms) (hz : zeroT P t = some z) (ho : o.op = .typeAssert x xt t ok) (hx : compX P x = some y)
    (h : iTas t z y ok tm st = some v) : Gives P ρ st.next w a o v := by
  have h8 := c.opd hx
  have hz' : ∃ z', (zeroValue t).run P w = .ok z' w ∧ VR ρ st.next z z' := by
    unfold zeroT at hz
    cases hi : P.info? t with
    | none => rw [hi] at hz; exact nomatch hz
    | some i =>
      rw [hi] at hz
      cases hzz : i.zero with
      | none => simp [hzz] at hz
      | some z' =>
        simp only [Option.bind_some, hzz] at hz
        exact ⟨z', by simp [zeroValue, typeInfo, hi, hzz], ofZero_vr hz⟩
  obtain ⟨z', hz1, hz2⟩ := hz'
  rcases onIface_some h with ⟨_, _, _, _, _, hv, h1⟩ | ⟨t', u, l, hv, h1⟩
  · obtain ⟨h2, h3⟩ := bif_none h1
    subst h2
    obtain rfl := Option.some.inj h3
    rw [hv] at h8
    have h9 := h8.nilIface_inv
    refine gives (s := Instr.typeAssert (a.eval x) xt t true) (by unfold execOp; rw [ho]) (v' := .tuple #[z', .bool false]) ?_ (.tup _ [z', .bool false] (.cons hz2 (.cons (.bool _) .nil)))
    unfold Hands; rw [h9]
    simp only [Instr.typeAssert, Sem.run_bind, run_und ht, Result.andThen_ok]
    cases d <;> first | exact absurd rfl (hd _) | simp [hz1]
  · rw [hv] at h8
    obtain ⟨u', h9, h10⟩ := h8.iface_inv
    cases he : Nat.beq t' t with
    | true =>
      obtain rfl := beq_iff.1 he
      have h1' : (bif Nat.beq t' t' then some (bif ok then V.tup [u, .bool true] else u) else bif ok then some (.tup [z, .bool false]) else none) = some v := h1
      rw [he] at h1'
      obtain rfl := Option.some.inj h1'
      refine gives (s := Instr.typeAssert (a.eval x) xt t' ok) (by unfold execOp; rw [ho]) (v' := if ok then .tuple #[u', .bool true] else u') ?_ ?_
      · unfold Hands; rw [h9]
        simp only [Instr.typeAssert, Sem.run_bind, run_und ht, Result.andThen_ok]
        cases d <;> first | exact absurd rfl (hd _) | simp
      · cases ok
        · exact h10
        · exact .tup _ [u', .bool true] (.cons h10 (.cons (.bool _) .nil))
    | false =>
      have hne : ¬ t' = t := fun e => by rw [e, Nat.beq_refl] at he; exact nomatch he
      have h1' : (bif Nat.beq t' t then some (bif ok then V.tup [u, .bool true] else u) else bif ok then some (.tup [z, .bool false]) else none) = some v := h1
      rw [he] at h1'
      obtain ⟨h2, h3⟩ := bif_none h1'
      subst h2
      obtain rfl := Option.some.inj h3
      refine gives (s := Instr.typeAssert (a.eval x) xt t true) (by unfold execOp; rw [ho]) (v' := .tuple #[z', .bool false]) ?_ (.tup _ [z', .bool false] (.cons hz2 (.cons (.bool _) .nil)))
      unfold Hands; rw [h9]
      simp only [Instr.typeAssert, Sem.run_bind, run_und ht, Result.andThen_ok]
      cases d <;> first | exact absurd rfl (hd _) | simp [hz1, hne]
end ops
end Go.Proofs.YtjdbcfnlehedmaaGreatDoor.Av
