/-
  THE INSTRUCTIONS THAT TURN MEMORY: new objects, stores.
-/
import Derived.Test.YtjdbcfnlehedmaaGreatDoorAvOpsE
namespace Go.Proofs.YtjdbcfnlehedmaaGreatDoor.Av
set_option linter.unusedVariables false
set_option linter.unusedSimpArgs false
open Go Go.RowKit

section ops
variable {P : Program} {base : Nat} {ρ : Map} {st st' : St} {w : World} {nt : Nat} {tm : Tr V} {a : Act} {o : Oper} {v : V}
/-- What an operation that turns memory gives. -/
def Turns (P : Program) (base : Nat) (ρ : Map) (st : St) (w : World) (a : Act) (o : Oper) (v : V) (st' : St) : Prop :=
  ∃ v' w' ρ', ((execOp a.eval o).run P w = .ok (.value v') w' ∨ ((execOp a.eval o).run P w = .ok .skip w' ∧ v' = Go.undef)) ∧
    Ext ρ ρ' st.next ∧ VR ρ' st'.next v v' ∧ Rel P base ρ' st' w' ∧ Turn st st' ∧ Below base w w' ∧ Dead ρ ρ' st st'
theorem lies_of {n : Nat} {p : Pl} {cs : List V} {c : Array Value} (h0 : p.off = 0) (h : VRs ρ n cs c.toList) (h1 : ∀ u ∈ c.toList, One u) : Lies ρ n p cs c := by
  intro j v hv
  obtain ⟨v', h2, h3⟩ := h.get j v hv
  refine ⟨v', by rw [h0, Nat.zero_add]; simpa using h2, h3, h1 v' (List.mem_of_getElem? h2)⟩
theorem below_push (hb : base ≤ w.heap.size) (x : Obj) : Below base w { w with heap := w.heap.push x } :=
  ⟨rfl, rfl, rfl, by simp, fun k hk => push_old w x (by omega)⟩
/-- A new row of cells. -/
theorem new_cells (h : Rel P base ρ st w) (hb : base ≤ w.heap.size) {e z : Nat} (hz : sizeT P e = some z) {cs : List V} {c : Array Value} (hc : VRs ρ st.next cs (c.toList.take cs.length)) (h1 : ∀ u ∈ c.toList, One u) (e' : TypeId) {lo hi : Nat} (hf : hi ≤ lo ∨ c.size ≤ lo) :
    Rel P base (ρ.new st.next ⟨w.heap.size, 0, c.size, z, true⟩) (st.new (.cells e cs true)) { w with heap := w.heap.push (.cells c e' (lo, hi)) } := by
  refine h.push hb _ _ _ rfl ⟨c, e', lo, hi, ?_, ?_, rfl, fun _ => ⟨hz, hf⟩⟩
  · show (w.heap.push _)[w.heap.size]? = _; simp
  · intro j v hv
    obtain ⟨v', h2, h3⟩ := hc.get j v hv
    have hlt : j < cs.length := (List.getElem?_eq_some_iff.1 hv).1
    rw [List.getElem?_take, if_pos hlt] at h2
    exact ⟨v', by simpa using h2, h3.mono (Map.new_ext _ _ _) (Nat.le_succ _), h1 v' (List.mem_of_getElem? h2)⟩
theorem vr_new_ptr (p : Pl) (h0 : p.off = 0) (hs : p.b = w.heap.size) (hp : p.live = true := by rfl) : VR (ρ.new st.next p) (st.next + 1) (.ptr st.next 0) (.pointer (some ⟨w.heap.size, 0, none⟩)) := by
  have : (ρ.new st.next p st.next).at 0 = ⟨w.heap.size, 0, none⟩ := by rw [Map.new_same]; simp [Pl.at, h0, hs]
  rw [← this]
  exact .ptr _ _ (Map.new_lv ρ _ hp)
/-- What an operation that makes one object, of its slots alone, gives: the same whatever the memory is. -/
def SoftOk (P : Program) (o : Oper) (f : Tr V → St → Ev) : Prop :=
  ∀ {base : Nat} {ρ : Map} {st st' : St} {w : World} {nt : Nat} {tm : Tr V} {a : Act} {v : V}, Ctx P base ρ st w nt tm a → f tm st = some (v, st') →
    ∃ (r : Nat → V) (b : Ob) (v' : Value) (x : Obj) (p : Pl), (∀ st2, f tm st2 = some (r st2.next, st2.new b)) ∧ (execOp a.eval o).run P w = .ok (.value v') { w with heap := w.heap.push x } ∧
      p.b = w.heap.size ∧ p.live = true ∧ b.own = true ∧ OR P ρ st.next { w with heap := w.heap.push x } p b ∧ ∀ (ρ2 : Map) (n k : Nat), k < n → ρ2 k = p → VR ρ2 n (r k) v'
theorem e_soft {f : Tr V → St → Ev} (hf : SoftOk P o f) (c : Ctx P base ρ st w nt tm a) (hb : base ≤ w.heap.size) (h : f tm st = some (v, st')) : Turns P base ρ st w a o v st' := by
  obtain ⟨r, b, v', x, p, h1, h2, h3, h4, h5, h6, h7⟩ := hf c h
  rw [h1] at h
  obtain ⟨rfl, rfl⟩ := Prod.mk.inj (Option.some.inj h)
  refine ⟨v', _, ρ.new st.next p, .inl h2, Map.new_ext _ _ _, h7 _ _ _ (Nat.lt_succ_self _) (Map.new_same _ _ _), c.rel.push hb x b p h3 ?_, Turn.new _ _, below_push hb _, Dead.new _ _ _ _⟩
  exact h6.mono (Map.new_ext _ _ _) (Nat.le_succ _) rfl
theorem cells_or {n : Nat} {e z : Nat} (hz : sizeT P e = some z) {cs : List V} {c : Array Value} (hc : VRs ρ n cs (c.toList.take cs.length)) (h1 : ∀ u ∈ c.toList, One u) (e' : TypeId) :
    OR P ρ n { w with heap := w.heap.push (.cells c e' (0, 0)) } ⟨w.heap.size, 0, c.size, z, true⟩ (.cells e cs true) := by
  refine ⟨c, e', 0, 0, ?_, ?_, rfl, fun _ => ⟨hz, .inl (Nat.le_refl _)⟩⟩
  · show (w.heap.push _)[w.heap.size]? = _; simp
  · intro j v hv
    obtain ⟨v', h2, h3⟩ := hc.get j v hv
    have hlt : j < cs.length := (List.getElem?_eq_some_iff.1 hv).1
    rw [List.getElem?_take, if_pos hlt] at h2
    exact ⟨v', by simpa using h2, h3, h1 v' (List.mem_of_getElem? h2)⟩
theorem vr_ptr (p : Pl) (h0 : p.off = 0) (hs : p.b = w.heap.size) (hp : p.live = true) (ρ2 : Map) (n k : Nat) (hk : k < n) (h : ρ2 k = p) : VR ρ2 n (.ptr k 0) (.pointer (some ⟨w.heap.size, 0, none⟩)) := by
  have : (ρ2 k).at 0 = ⟨w.heap.size, 0, none⟩ := by rw [h]; simp [Pl.at, h0, hs]
  rw [← this]
  exact .ptr _ _ ⟨hk, by rw [h]; exact hp⟩
theorem s_alloc {e : TypeId} {z : List V} (hz : zerosT P e = some z) (ho : o.op = .alloc e) : SoftOk P o (iAlloc e z) := by
  intro base ρ st st' w nt tm a v c h
  obtain ⟨z', h3, h4, h5⟩ := zeros_ok (w := w) (ρ := ρ) (st := st) hz
  have hsz : ∃ n, sizeT P e = some n := by
    unfold zerosT at hz; unfold sizeT
    cases hi : P.info? e with
    | none => rw [hi] at hz; exact nomatch hz
    | some i => exact ⟨_, rfl⟩
  obtain ⟨n, hn⟩ := hsz
  have h6 := h4.length
  refine ⟨fun k => .ptr k 0, .cells e z true, .pointer (some ⟨w.heap.size, 0, none⟩), _, ⟨w.heap.size, 0, z'.cells.size, n, true⟩, fun _ => rfl, ?_, rfl, rfl, rfl, cells_or hn (c := z'.cells) (by rw [List.take_of_length_le (by omega)]; exact h4) h5 e, fun ρ2 n2 k hk h => vr_ptr _ rfl rfl rfl ρ2 n2 k hk h⟩
  have he : execOp a.eval o = (do pure (Next.value (← Instr.alloc e true (.tuple #[])))) := by unfold execOp; rw [ho]
  rw [he]
  simp only [Instr.alloc, Sem.run_bind, h3, Result.andThen_ok, newVar, newRow, run_newObj, Sem.run_pure]
theorem s_box {e : TypeId} {n : Nat} {x : Operand} {y : X} (hn : sizeT P e = some n) (hx : compX P x = some y) (ho : o.op = .box e x) : SoftOk P o (iBox e y) := by
  intro base ρ st st' w nt tm a v c h
  obtain ⟨cs, h1, h2⟩ := orec_none h
  obtain ⟨h4, h5⟩ := cells_vr h1 (c.opd hx)
  have h6 := h4.length
  refine ⟨fun k => .ptr k 0, .cells e cs true, .pointer (some ⟨w.heap.size, 0, none⟩), _, ⟨w.heap.size, 0, (a.eval x).cells.size, n, true⟩, fun st2 => ?_, ?_, rfl, rfl, rfl, cells_or hn (c := (a.eval x).cells) (by rw [List.take_of_length_le (by omega)]; exact h4) h5 e, fun ρ2 n2 k hk h => vr_ptr _ rfl rfl rfl ρ2 n2 k hk h⟩
  · show (Option.rec none (fun cs => some (.ptr st2.next 0, st2.new (.cells e cs true))) (y.ev tm).cells? : Ev) = _
    rw [h1]
  · have he : execOp a.eval o = (do pure (Next.value (← Instr.box e (a.eval x)))) := by unfold execOp; rw [ho]
    rw [he]
    simp only [Instr.box, Sem.run_bind, Result.andThen_ok, newVar, newRow, run_newObj, Sem.run_pure]
theorem vr_new_slice (p : Pl) (h0 : p.off = 0) (hs : p.b = w.heap.size) {len cap c : Nat} {x : Bool} (h1 : len ≤ cap) (h2 : cap ≤ c) (h3 : x = true → c = cap) (h4 : x = false → c * p.z ≤ p.tot) (hp : p.live = true := by rfl) :
    VR (ρ.new st.next p) (st.next + 1) (.slice st.next 0 len cap x) (.slice (some ⟨w.heap.size, 0, none⟩) len c) := by
  have : (ρ.new st.next p st.next).at 0 = ⟨w.heap.size, 0, none⟩ := by rw [Map.new_same]; simp [Pl.at, h0, hs]
  refine .slice _ _ _ _ _ _ _ (Map.new_lv ρ _ hp) h1 h2 h3 (.inr this.symm) fun hx => ?_
  rw [Map.new_same, h0]
  have := h4 hx
  omega
theorem rep_succ (n : Nat) (z : List V) : rep (n + 1) z = z ++ rep n z := by show appL z (rep n z) = _; rw [appL_eq]
theorem rep_length (n : Nat) (z : List V) : (rep n z).length = n * z.length := by
  induction n with
  | zero => show ([] : List V).length = _; simp
  | succ n ih => rw [rep_succ, List.length_append, ih, Nat.succ_mul]; omega
theorem rep_get (z : List V) (hz : z ≠ []) : ∀ (n i : Nat), i < n * z.length → (rep n z)[i]? = z[i % z.length]?
  | 0, i, h => by simp at h
  | n + 1, i, h => by
    have hpos : 0 < z.length := List.length_pos_iff.2 hz
    rw [rep_succ]
    by_cases hi : i < z.length
    · rw [List.getElem?_append_left hi, Nat.mod_eq_of_lt hi]
    · rw [List.getElem?_append_right (by omega), rep_get z hz n (i - z.length) (by rw [Nat.succ_mul] at h; omega)]
      congr 1
      rw [Nat.mod_eq_sub_mod (by omega : z.length ≤ i)]
theorem rep_vr {n : Nat} {z : List V} {z' : Array Value} (hz : VRs ρ st.next z z'.toList) (h1 : ∀ u ∈ z'.toList, One u) (hz0 : z ≠ []) : VRs ρ st.next (rep n z) ((Array.range (n * z.length)).map (fun i => z'[i % z'.size]!)).toList ∧ ∀ u ∈ ((Array.range (n * z.length)).map (fun i => z'[i % z'.size]!)).toList, One u := by
  have hlen : z.length = z'.size := by rw [hz.length]; simp
  have hpos : 0 < z'.size := by rw [← hlen]; exact List.length_pos_iff.2 hz0
  have hget : ∀ i, i < n * z.length → ((Array.range (n * z.length)).map (fun i => z'[i % z'.size]!)).toList[i]? = z'.toList[i % z'.size]? := by
    intro i hi
    have hm : i % z'.size < z'.size := Nat.mod_lt _ hpos
    have h1 : z'[i % z'.size]! = z'[i % z'.size] := getElem!_pos z' (i % z'.size) hm
    simp [hi, h1, hm]
  constructor
  · refine VRs.of_get (by simp [rep_length]) fun i v v' hv hv' => ?_
    have hi : i < n * z.length := by have := (List.getElem?_eq_some_iff.1 hv).1; rwa [rep_length] at this
    rw [rep_get z hz0 n i hi] at hv
    rw [hget i hi, ← hlen] at hv'
    obtain ⟨u', h2, h3⟩ := hz.get _ _ hv
    rw [h2] at hv'
    rw [← Option.some.inj hv']; exact h3
  · intro u hu
    obtain ⟨i, hi, rfl⟩ := List.mem_iff_getElem.1 hu
    have hi' : i < n * z.length := by simpa using hi
    have h2 := hget i hi'
    rw [List.getElem?_eq_getElem hi] at h2
    exact h1 _ (List.mem_of_getElem? h2.symm)

theorem s_bsl {t e : TypeId} {len n : Nat} {z : List V} {ps : Array (Nat × Operand)} {ys : List (Nat × Nat × X)} (ht : P.underlying t = some (.slice e)) (hn : sizeT P e = some n) (hz : zerosT P e = some z)
    (hzn : z.length = n) (hn0 : n ≠ 0) (hle : ¬ len * n > 2 ^ 24) (hps : compParts P (fun i => some (i * n, n)) ps.toList = some ys) (ho : o.op = .buildSlice t len ps) : SoftOk P o (iBsl e len (rep len z) ys) := by
  intro base ρ st st' w nt tm a v c h
  obtain ⟨r, h1, h2⟩ := orec_none h
  obtain ⟨z', h3, h4, h5⟩ := zeros_ok (w := w) (ρ := ρ) (st := st) hz
  have hz0 : z ≠ [] := fun e => hn0 (by rw [← hzn, e]; rfl)
  obtain ⟨h6, h7⟩ := rep_vr (n := len) h4 h5 hz0
  rw [hzn] at h6 h7
  obtain ⟨r', h8, h9, h10⟩ := fill_ok c hps h6 h7 h1
  have h11 := h9.length
  refine ⟨fun k => .slice k 0 len len true, .cells e r true, .slice (some ⟨w.heap.size, 0, none⟩) len len, .cells r' e (0, 0), ⟨w.heap.size, 0, r'.size, n, true⟩, fun st2 => ?_, ?_, rfl, rfl, rfl, cells_or hn (c := r') (by rw [List.take_of_length_le (by omega)]; exact h9) h10 e, fun ρ2 n2 k hk h => ?_⟩
  · show (Option.rec none (fun l => some (.slice st2.next 0 len len true, st2.new (.cells e l true))) (fillV tm (rep len z) ys) : Ev) = _
    rw [h1]
  rotate_left
  · refine .slice _ _ _ _ _ _ _ ⟨hk, by rw [h]⟩ (Nat.le_refl _) (Nat.le_refl _) (fun _ => rfl) (.inr ?_) (fun h => nomatch h)
    rw [h]; simp [Pl.at]
  have he : execOp a.eval o = (do pure (Next.value (← Instr.buildSlice t len (ps.map fun (i, x) => (i, a.eval x))))) := by unfold execOp; rw [ho]
  rw [he]
  have hmap : (ps.map fun (x : Nat × Operand) => (x.1, a.eval x.2)).toList = ps.toList.map fun (x : Nat × Operand) => (x.1, a.eval x.2) := by simp
  simp only [Instr.buildSlice, Sem.run_bind, run_und ht, run_size hn, Result.andThen_ok, hle, if_false]
  by_cases h0 : len * n = 0
  · have e0 : (Array.range (len * n)).map (fun i => z'.cells[i % z'.cells.size]!) = (Array.range (len * n)).map (fun i => (#[] : Array Value)[i % (#[] : Array Value).size]!) := by simp [h0]
    rw [e0] at h8
    rw [if_pos h0]
    simp only [Sem.run_pure, Result.andThen_ok, hmap, h8, newRow, run_newObj, Sem.run_bind]
  · rw [if_neg h0]
    simp only [Sem.run_bind, h3, Sem.run_pure, Result.andThen_ok, hmap, h8, newRow, run_newObj]
theorem wrap64_id {n : Nat} (h : n ≤ 9223372036854775807) : IntKind.i64.wrap (n : Int) = n := IntWalk.i64_in _ (by omega)
theorem e_mks (c : Ctx P base ρ st w nt tm a) (hb : base ≤ w.heap.size) {t e : TypeId} {n bytes : Nat} {z : List V} {l k : Operand} {l' k' : X} (ht : P.underlying t = some (.slice e)) (hn : sizeT P e = some n) (hz : zerosT P e = some z) (hby : bytesT P e = some bytes)
    (hzn : z.length = n) (hn0 : n ≠ 0) (hl : compX P l = some l') (hk : compX P k = some k') (ho : o.op = .makeSlice t l k) (h : iMks e bytes z l' k' tm st = some (v, st')) : Turns P base ρ st w a o v st' := by
  obtain ⟨kl, ln, hvl, h1⟩ := onNat_some h
  obtain ⟨kk, cp, hvk, h2⟩ := onNat_some h1
  obtain ⟨h3, h4⟩ := bif_none h2
  simp only [Bool.and_eq_true] at h3
  have e1 := ble_iff.1 h3.1
  have e2 : cp * bytes ≤ 140737488355328 := ble_iff.1 h3.2.1
  have e3 := ble_iff.1 h3.2.2
  obtain ⟨rfl, rfl⟩ := Prod.mk.inj (Option.some.inj h4)
  have h5 := c.opd hl
  have h6 := c.opd hk
  rw [hvl] at h5
  rw [hvk] at h6
  obtain ⟨_, _, h7⟩ := h5.int_inv
  obtain ⟨_, _, h8⟩ := h6.int_inv
  obtain ⟨z', h9, h10, h11⟩ := zeros_ok (w := w) (ρ := ρ) (st := st) hz
  have hz0 : z ≠ [] := fun e => hn0 (by rw [← hzn, e]; rfl)
  obtain ⟨h12, h13⟩ := rep_vr (n := cp) h10 h11 hz0
  rw [hzn] at h12 h13
  have h14 := h12.length
  have hinfo : ∃ i, P.info? e = some i ∧ i.bytes = bytes := by
    unfold bytesT at hby
    cases hi : P.info? e with
    | none => rw [hi] at hby; exact nomatch hby
    | some i => rw [hi] at hby; exact ⟨i, rfl, Option.some.inj hby⟩
  obtain ⟨i, hi, hib⟩ := hinfo
  refine ⟨.slice (some ⟨w.heap.size, 0, none⟩) ln cp, _, _, .inl ?_, Map.new_ext _ _ _, vr_new_slice ⟨w.heap.size, 0, ((Array.range (cp * n)).map (fun i => z'.cells[i % z'.cells.size]!)).size, n, true⟩ rfl rfl e1 (Nat.le_refl _) (fun _ => rfl) (fun h => nomatch h), new_cells c.rel hb hn (by rw [List.take_of_length_le (by omega)]; exact h12) h13 e (lo := 0) (hi := 0) (.inl (Nat.le_refl _)), Turn.new _ _, below_push hb _, Dead.new _ _ _ _⟩
  have he : execOp a.eval o = (do pure (Next.value (← Instr.makeSlice t (a.eval l) (a.eval k)))) := by unfold execOp; rw [ho]
  rw [he, h7, h8]
  have hw1 := wrap64_id (n := ln) (by omega)
  have hw2 := wrap64_id (n := cp) e3
  have hasI : ∀ (j : IntKind) (m : Int) (w : World), (asInt (.int j m)).run P w = .ok m w := fun j m w => by simp [asInt, asIntOf]
  have hlarge : ¬ ((cp : Int) < 0) := by omega
  have hlarge2 : ¬ ((bytes : Int) * (cp : Int) > 2 ^ 48) := by
    have : (bytes * cp : Nat) ≤ 140737488355328 := by rw [Nat.mul_comm]; exact e2
    have h' : ((bytes * cp : Nat) : Int) ≤ 140737488355328 := by omega
    rw [Int.natCast_mul] at h'
    omega
  have hc1 : ((decide ((cp : Int) < 0) || decide ((bytes : Int) * (cp : Int) > 2 ^ 48)) || decide ((ln : Int) < 0) || decide ((ln : Int) > (cp : Int))) = false := by
    simp only [Bool.or_eq_false_iff, decide_eq_false_iff_not]
    exact ⟨⟨⟨hlarge, hlarge2⟩, by omega⟩, by omega⟩
  simp only [Instr.makeSlice, Sem.run_bind, run_und ht, hasI, Result.andThen_ok, typeInfo, run_program, hi, Sem.run_pure, hib, hw1, hw2, hc1, Bool.false_eq_true, if_false, run_askRoom, Int.toNat_natCast, run_size hn]
  by_cases h0 : cp * n = 0
  · rw [if_pos h0]
    simp only [Sem.run_pure, Result.andThen_ok, newRow, run_newObj, Sem.run_bind]
    rw [show (Array.range (cp * n)).map (fun i => z'.cells[i % z'.cells.size]!) = (Array.range (cp * n)).map (fun i => (#[] : Array Value)[i % (#[] : Array Value).size]!) from by simp [h0]]
  · rw [if_neg h0]
    simp only [Sem.run_bind, h9, Sem.run_pure, Result.andThen_ok, newRow, run_newObj]
theorem s_mkm {t : TypeId} (ho : o.op = .makeMap t none) : SoftOk P o iMkm := by
  intro base ρ st st' w nt tm a v c h
  refine ⟨fun k => .map k, .map [], .map (some w.heap.size), .map #[] 0, ⟨w.heap.size, 0, 0, 0, true⟩, fun _ => rfl, ?_, rfl, rfl, rfl, ⟨#[], 0, by show (w.heap.push _)[w.heap.size]? = _; simp, trivial⟩, fun ρ2 n2 k hk h => ?_⟩
  · have he : execOp a.eval o = (do pure (Next.value (← Instr.makeMap t none))) := by unfold execOp; rw [ho]; rfl
    rw [he]
    simp only [Instr.makeMap, Sem.run_bind, run_newObj, Result.andThen_ok, Sem.run_pure]
  · have h2 := VR.map (ρ := ρ2) (n := n2) k ⟨hk, by rw [h]⟩
    rw [h] at h2
    exact h2
theorem e_rng (c : Ctx P base ρ st w nt tm a) (hb : base ≤ w.heap.size) {t : TypeId} {x : Operand} {y : X} (ht : P.underlying t = some .string) (hx : compX P x = some y) (ho : o.op = .range t x) (h : iRng y tm st = some (v, st')) : Turns P base ρ st w a o v st' := by
  obtain ⟨s, hv, h1⟩ := onStr_some h
  obtain ⟨rfl, rfl⟩ := Prod.mk.inj (Option.some.inj h1)
  have h8 := c.opd hx
  rw [hv] at h8
  have h9 := h8.str_inv
  refine ⟨.pointer (some ⟨w.heap.size, 0, none⟩), _, ρ.new st.next ⟨w.heap.size, 0, 0, 0, true⟩, .inl ?_, Map.new_ext _ _ _, vr_new_ptr ⟨w.heap.size, 0, 0, 0, true⟩ rfl rfl, c.rel.push hb (.stringIter ⟨⟨s⟩⟩ 0) (.iter s 0) _ rfl ⟨by show (w.heap.push _)[w.heap.size]? = _; simp, rfl⟩, Turn.new _ _, below_push hb _, Dead.new _ _ _ _⟩
  have he : execOp a.eval o = (do pure (Next.value (← Instr.range t (a.eval x)))) := by unfold execOp; rw [ho]
  rw [he, h9]
  simp only [Instr.range, Sem.run_bind, run_und ht, Result.andThen_ok, Sem.run_pure, run_newObj]
end ops
end Go.Proofs.YtjdbcfnlehedmaaGreatDoor.Av
