/-
  MAPS THAT ARE ASKED AND TURNED; BYTES AS A TEXT; WHAT IS BUILT; WHAT IS NIL.
-/
import Derived.Test.YtjdbcfnlehedmaaGreatDoorAvOpsC
namespace Go.Proofs.YtjdbcfnlehedmaaGreatDoor.Av
set_option linter.unusedVariables false
set_option linter.unusedSimpArgs false
open Go Go.RowKit

section ops
variable {P : Program} {base : Nat} {ρ : Map} {st : St} {w : World} {nt : Nat} {tm : Tr V} {a : Act} {o : Oper} {v : V}
theorem bytes_beq (a b : ByteArray) : (a == b) = true ↔ a = b := by
  obtain ⟨x⟩ := a
  obtain ⟨y⟩ := b
  constructor
  · intro h
    have e : x = y := by simpa using (show (x == y) = true from h)
    rw [e]
  · intro h
    cases h
    show (x == x) = true
    simp
/-- The kind of keys that a code names. -/
def KeyOf (kt : Nat) (d : TypeDesc) : Prop := (∃ j, d = .int j ∧ kt = codeK j) ∨ (d = .string ∧ kt = 100)
theorem eqKey_same {kt : Nat} {d : TypeDesc} (hd : KeyOf kt d) {n : Nat} {k k1 : V} {k' k1' : Value} (h1 : VR ρ n k k') (h2 : VR ρ n k1 k1') {b : Bool} (h : eqKey kt k k1 = some b) :
    Instr.sameNow d k' k1' = some b ∧ (b = true → Instr.sameBits 10000 k1' k' = true) := by
  rcases hd with ⟨j, rfl, rfl⟩ | ⟨rfl, rfl⟩
  · have hne : Nat.beq (codeK j) 100 = false := by cases j <;> rfl
    have h' : (Bool.rec (k.onInt none (fun i a => k1.onInt none (fun l b => bif Nat.beq i (codeK j) && Nat.beq l (codeK j) then some (eqI a b) else none)))
      (k.onStr none (fun a => k1.onStr none (fun b => some (eqS a b)))) (Nat.beq (codeK j) 100) : Option Bool) = some b := h
    rw [hne] at h'
    obtain ⟨i, x, rfl, h3⟩ := onInt_some h'
    obtain ⟨l, y, rfl, h4⟩ := onInt_some h3
    obtain ⟨h5, h6⟩ := bif_none h4
    simp only [Bool.and_eq_true] at h5
    obtain rfl := beq_iff.1 h5.1
    obtain rfl := beq_iff.1 h5.2
    obtain ⟨i1, e1, rfl⟩ := h1.int_inv
    obtain ⟨l1, e2, rfl⟩ := h2.int_inv
    obtain rfl := codeK_inj e1
    obtain rfl := codeK_inj e2
    obtain rfl := Option.some.inj h6
    rw [eqI_eq]
    refine ⟨by simp [Instr.sameNow]; rfl, fun hb => ?_⟩
    have : x = y := by simpa using hb
    subst this
    simp [Instr.sameBits]
  · have h' : (k.onStr none (fun a => k1.onStr none (fun b => some (eqS a b))) : Option Bool) = some b := h
    obtain ⟨x, rfl, h3⟩ := onStr_some h'
    obtain ⟨y, rfl, h4⟩ := onStr_some h3
    obtain rfl := h1.str_inv
    obtain rfl := h2.str_inv
    obtain rfl := Option.some.inj h4
    rw [eqS_eq]
    have hb : ((⟨⟨x⟩⟩ : ByteArray) == ⟨⟨y⟩⟩) = decide (x = y) := by
      rw [Bool.eq_iff_iff, bytes_beq]
      simp
    refine ⟨by simp [Instr.sameNow, hb], fun hb' => ?_⟩
    have : x = y := by simpa using hb'
    subst this
    exact (bytes_beq _ _).2 rfl
theorem checkKey_ok {kt : Nat} {d : TypeDesc} (hd : KeyOf kt d) {t : TypeId} (ht : P.underlying t = some d) (e : Bool) (k' : Value) : (Instr.checkKey e 10000 t k').run P w = .ok () w := by
  show (Instr.checkKey e (9999 + 1) t k').run P w = .ok () w
  unfold Instr.checkKey
  simp only [Sem.run_bind, run_und ht, Result.andThen_ok]
  rcases hd with ⟨j, rfl, _⟩ | ⟨rfl, _⟩ <;> rfl
theorem lookM_cons (kt : Nat) (k : V) (e : V × V) (es : List (V × V)) : lookM kt k (e :: es) = match eqKey kt k e.1 with
    | some true => some (some e.2)
    | some false => lookM kt k es
    | none => none := rfl
theorem findNow_ok {kt : Nat} {d : TypeDesc} (hd : KeyOf kt d) {n : Nat} {k : V} {k' : Value} (hk : VR ρ n k k') : ∀ {es : List (V × V)} {es' : List MapEntry} (_ : Entries ρ n es es') (i : Nat) (r : Option V), lookM kt k es = some r →
    (r = none ∧ Instr.findNow d k' es' i = some none) ∨ (∃ u u' j, r = some u ∧ Instr.findNow d k' es' i = some (some (j, u')) ∧ VR ρ n u u')
  | [], [], _, i, r, h => .inl ⟨(Option.some.inj h).symm, rfl⟩
  | (k1, v1) :: es, e :: es', hE, i, r, h => by
    rw [lookM_cons] at h
    split at h
    · rename_i hq
      have h2 := (eqKey_same hd hk hE.1 hq).1
      exact .inr ⟨v1, e.val, i, (Option.some.inj h).symm, by simp [Instr.findNow, h2], hE.2.1⟩
    · rename_i hq
      have h2 := (eqKey_same hd hk hE.1 hq).1
      rcases findNow_ok hd hk hE.2.2 (i + 1) r h with ⟨h3, h4⟩ | ⟨u, u', j, h3, h4, h5⟩
      · exact .inl ⟨h3, by simp [Instr.findNow, h2, h4]⟩
      · exact .inr ⟨u, u', j, h3, by simp [Instr.findNow, h2, h4], h5⟩
    · exact nomatch h
  | [], _ :: _, hE, _, _, _ => hE.elim
  | _ :: _, [], hE, _, _, _ => hE.elim
theorem findKey_ok {d : TypeDesc} {t : TypeId} (ht : P.underlying t = some d) {k' : Value} {es' : List MapEntry} {r : Option (Nat × Value)} (h : Instr.findNow d k' es' 0 = some r) : (Instr.findKey t k' es').run P w = .ok r w := by
  simp [Instr.findKey, run_und ht, h]
theorem zero_ok {t : TypeId} {z : V} (hz : zeroT P t = some z) : ∃ z', (zeroValue t).run P w = .ok z' w ∧ VR ρ st.next z z' := by
  unfold zeroT at hz
  cases hi : P.info? t with
  | none => rw [hi] at hz; exact nomatch hz
  | some i =>
    rw [hi] at hz
    cases hzz : i.zero with
    | none => simp [hzz] at hz
    | some z' =>
      simp only [Option.bind_some, hzz] at hz
      exact ⟨z', by simp [zeroValue, typeInfo, hi, hzz], ofZero_vr hz⟩
theorem g_lok (c : Ctx P base ρ st w nt tm a) {t key elem : TypeId} {kt : Nat} {d : TypeDesc} {z : V} {x i : Operand} {x' i' : X} {ok : Bool} (ht : P.underlying t = some (.map key elem)) (hk : P.underlying key = some d) (hd : KeyOf kt d) (hz : zeroT P elem = some z)
    (ho : o.op = .lookup t x i ok) (hx : compX P x = some x') (hi : compX P i = some i') (h : iLok kt z x' i' ok tm st = some v) : Gives P ρ st.next w a o v := by
  obtain ⟨es, h1, h2⟩ := orec_none h
  obtain ⟨r, h3, h4⟩ := orec_none h2
  have h8 := c.opd hx
  have h9 := c.opd hi
  obtain ⟨z', hz1, hz2⟩ := zero_ok (w := w) (ρ := ρ) (st := st) hz
  -- the entries, in the model
  have hes : ∃ es' : Array MapEntry, Entries ρ st.next es es'.toList ∧ ∀ f : Array MapEntry → Sem Value, ((do
      let es ← match a.eval x with
        | .map none => pure #[]
        | .map (some r) => do
          let .map es _ ← getObj r | stuck "Lookup: map expected"
          pure es
        | _ => stuck "Lookup: map expected"
      f es) : Sem Value).run P w = (f es').run P w := by
    rcases onMap_some h1 with ⟨_, _, _, _, _, hv, h5⟩ | ⟨ob, _, _, _, _, hv, h5⟩
    · obtain rfl := Option.some.inj h5
      rw [hv] at h8
      have h10 := h8.nilMap_inv
      exact ⟨#[], trivial, fun f => by rw [h10]; simp⟩
    · obtain ⟨es1, hg, h6⟩ := onMapO_some h5
      obtain rfl := Option.some.inj h6
      rw [hv] at h8
      obtain ⟨hlv, h10⟩ := h8.map_inv
      obtain ⟨es', clock, h11, h12⟩ := c.rel.at hg hlv
      exact ⟨es', h12, fun f => by rw [h10]; simp [run_getObj h11]⟩
  obtain ⟨es', hE, hrun⟩ := hes
  have hgive : ∀ (u : V) (u' : Value), VR ρ st.next u u' → (∃ b : Bool, v = (bif ok then .tup [u, .bool b] else u) ∧ (Instr.lookup t (a.eval x) (a.eval i) ok).run P w = .ok (if ok then .tuple #[u', .bool b] else u') w) → Gives P ρ st.next w a o v := by
    rintro u u' hu ⟨b, rfl, hr⟩
    refine gives (s := Instr.lookup t (a.eval x) (a.eval i) ok) (by unfold execOp; rw [ho]) hr ?_
    cases ok
    · exact hu
    · exact .tup _ [u', .bool b] (.cons hu (.cons (.bool _) .nil))
  have hlk : ∀ r', Instr.findNow d (a.eval i) es'.toList 0 = some r' → (Instr.lookup t (a.eval x) (a.eval i) ok).run P w = ((do
      let (v, ok') ← match r' with
        | some (_, v) => pure (v, true)
        | none => pure (← zeroValue elem, false)
      pure (if ok then .tuple #[v, .bool ok'] else v)) : Sem Value).run P w := fun r' hr' => by
    have e1 : Instr.lookup t (a.eval x) (a.eval i) ok = (do
      let .map key elem ← underlying t | stuck "Lookup: map type expected"
      let es ← match a.eval x with
        | .map none => pure #[]
        | .map (some r) => do
          let .map es _ ← getObj r | stuck "Lookup: map expected"
          pure es
        | _ => stuck "Lookup: map expected"
      Instr.checkKey es.isEmpty 10000 key (a.eval i)
      let (v, ok') ← match ← Instr.findKey key (a.eval i) es.toList with
        | some (_, v) => pure (v, true)
        | none => do pure (← zeroValue elem, false)
      pure (if ok then .tuple #[v, .bool ok'] else v)) := rfl
    rw [e1]
    simp only [Sem.run_bind, run_und ht, Result.andThen_ok]
    have := hrun (fun es => (do
      Instr.checkKey es.isEmpty 10000 key (a.eval i)
      let (v, ok') ← match ← Instr.findKey key (a.eval i) es.toList with
        | some (_, v) => pure (v, true)
        | none => do pure (← zeroValue elem, false)
      pure (if ok then .tuple #[v, .bool ok'] else v) : Sem Value))
    simp only [Sem.run_bind, checkKey_ok hd hk, findKey_ok hk hr', Result.andThen_ok] at this
    exact this
  rcases findNow_ok hd h9 hE 0 r h3 with ⟨rfl, h10⟩ | ⟨u, u', j, rfl, h10, h11⟩
  · have h4' : some (bif ok then V.tup [z, .bool false] else z) = some v := h4
    refine hgive z z' hz2 ⟨false, (Option.some.inj h4').symm, ?_⟩
    rw [hlk _ h10]
    simp [hz1]
  · have h4' : some (bif ok then V.tup [u, .bool true] else u) = some v := h4
    refine hgive u u' h11 ⟨true, (Option.some.inj h4').symm, ?_⟩
    rw [hlk _ h10]
    simp

/-! ### bytes as a text -/
theorem bytesOf_cons (u : V) (l : List V) : bytesOf (u :: l) = (byteOf u).bind fun b => (bytesOf l).map (b :: ·) := rfl
theorem byteOf_some {n : Nat} {u : V} {u' : Value} {b : UInt8} (h : byteOf u = some b) (hu : VR ρ n u u') : ∃ i : Int, u' = .int .u8 i ∧ b = UInt8.ofNat i.toNat := by
  obtain ⟨k, i, rfl, h1⟩ := onInt_some (h : u.onInt none (fun k n => Bool.rec none (some (UInt8.ofNat n.toNat)) (Nat.beq k 8)) = some b)
  obtain ⟨h2, h3⟩ := brec_none h1
  obtain rfl := beq_iff.1 h2
  obtain ⟨j, e, rfl⟩ := hu.int_inv
  obtain rfl : j = .u8 := codeK_inj (e.symm.trans (show 8 = codeK .u8 from rfl))
  exact ⟨i, rfl, (Option.some.inj h3).symm⟩
theorem bytes_loop {f : Value → ByteArray → Sem (ForInStep ByteArray)} (hf : ∀ (i : Int) (r : ByteArray), f (.int .u8 i) r = pure (.yield (r.push (UInt8.ofNat i.toNat)))) :
    ∀ {l : List V} {l' : List Value} {bs : List UInt8} {n : Nat}, VRs ρ n l l' → bytesOf l = some bs → ∀ (s : ByteArray) (w : World), (forIn l' s f).run P w = .ok ⟨s.data ++ bs.toArray⟩ w
  | _, _, bs, n, .nil, h, s, w => by
    have : bs = [] := (Option.some.inj h).symm
    subst this
    simp [forIn, List.forIn']
  | _, _, bs, n, .cons (v := u) (l := l) hu hs, h, s, w => by
    rw [bytesOf_cons] at h
    cases hb : byteOf u with
    | none => rw [hb] at h; exact nomatch h
    | some b =>
      rw [hb] at h
      cases hr : bytesOf l with
      | none => rw [hr] at h; exact nomatch h
      | some r =>
        rw [hr] at h
        have h' : b :: r = bs := Option.some.inj h
        subst h'
        obtain ⟨i, rfl, rfl⟩ := byteOf_some hb hu
        rw [List.forIn_cons, hf]
        simp only [Sem.run_bind, Sem.run_pure, Result.andThen_ok]
        rw [bytes_loop hf hs hr]
        congr 2
        apply Array.toList_inj.1
        simp
theorem g_cvbs (c : Ctx P base ρ st w nt tm a) {s d e : TypeId} {x : Operand} {y : X} (hs : P.underlying s = some (.slice e)) (hd : P.underlying d = some .string) (he : P.underlying e = some (.int .u8)) (ho : o.op = .convert s d x) (hx : compX P x = some y)
    (h : iCvbs y tm st = some v) : Gives P ρ st.next w a o v := by
  have h8 := c.opd hx
  rcases onSlice_some h with ⟨_, _, _, _, _, hv, h1⟩ | ⟨ob, i, ln, cp, ex, hv, h1⟩
  · rw [hv] at h8
    have h9 := h8.nilSlice_inv
    obtain rfl := Option.some.inj h1
    refine gives (s := convert s d (a.eval x)) (by unfold execOp; rw [ho]) (v' := .string .empty) ?_ (.str_mk [])
    unfold Hands; rw [h9]
    simp only [convert, Sem.run_bind, run_und hs, run_und hd, run_und he, Result.andThen_ok, Conv.bytesToString]
    rfl
  · obtain ⟨e', cs, own, hg, h2⟩ := onCells_some h1
    obtain ⟨h3, h4⟩ := bif_none h2
    rw [lenL_eq] at h3
    have hle := ble_iff.1 h3
    obtain ⟨l, h5, h6⟩ := orec_none h4
    simp only [takeL_eq, dropL_eq] at h5
    obtain rfl := Option.some.inj h6
    rw [hv] at h8
    obtain ⟨ad, cp', h9, hlv, h10, h11, _, h12, _⟩ := h8.slice_inv
    obtain ⟨cc, ee, lo, hi, h13, h14, _, _⟩ := c.rel.at hg hlv
    refine gives (s := convert s d (a.eval x)) (by unfold execOp; rw [ho]) (v' := .string ⟨⟨l⟩⟩) ?_ (.str_mk l)
    unfold Hands; rw [h9]
    simp only [convert, Sem.run_bind, run_und hs, run_und hd, run_und he, Result.andThen_ok, Conv.bytesToString]
    by_cases hn : ln = 0
    · subst hn
      have : l = [] := by simpa [bytesOf] using h5.symm
      subst this
      simp [loadCells, loadCellsFrom]
      rfl
    · have had : ad = (ρ ob).at i := h12.resolve_left (by omega)
      obtain ⟨l', h15, h16, _⟩ := run_loadCells (P := P) h14 h13 ln i 0 #[] (by simpa using hle)
      rw [had]
      simp only [loadCells, h15, Result.andThen_ok]
      simp only [Array.empty_append, List.forIn_toArray, Sem.run_bind]
      rw [bytes_loop (fun _ _ => rfl) (by simpa using h16) h5]
      simp only [Result.andThen_ok, Sem.run_pure]
      congr 3
      apply Array.toList_inj.1
      simp
end ops
end Go.Proofs.YtjdbcfnlehedmaaGreatDoor.Av
