/-
  ARGUMENTS THAT LIE IN MEMORY: a row of truths or numbers, beside the tables.
-/
import Derived.Test.YtnjjkomopkgidaaDoorStart
import Derived.OpenShut
import Derived.Deep.Grids
import Derived.ChangeSlices
namespace Go.Proofs.YtnjjkomopkgidaaDoor.Av
set_option linter.unusedVariables false
set_option linter.unusedSimpArgs false
open Go Go.RowKit Go.WideShapes
section
variable {P : Program}
/-- One more object, not to be written. -/
theorem Rel.arg {base : Nat} {ρ : Map} {st : St} {w : World} (h : Rel P base ρ st w) {pl : Pl} (hl : pl.live = true) {vs : List V} {c : Array Value} {e' : TypeId} {f : Nat × Nat}
    (hb : w.heap[pl.b]? = some (.cells c e' f)) (hc : c.size = pl.tot) (hlt : pl.b < base) (hv : ∀ j v, vs[j]? = some v → ∃ v', c[pl.off + j]? = some v' ∧ (∀ ρ n, VR ρ n v v') ∧ One v') (l : Nat) :
    Rel P base (fun o => if o = st.next then pl else ρ o) { next := st.next + 1, low := l, mem := st.mem.set st.next (some (.cells 0 vs false)) } w := by
  have hext : Ext ρ (fun o => if o = st.next then pl else ρ o) st.next := fun o ho _ => if_neg (Nat.ne_of_lt ho)
  have old : ∀ o b, (st.mem.set st.next (some (.cells 0 vs false))).get o = some b → o ≠ st.next → st.mem.get o = some b := fun o b hg hne => by
    rw [get_set, if_neg hne] at hg; exact hg
  have new : ∀ b, (st.mem.set st.next (some (.cells 0 vs false))).get st.next = some b → b = .cells 0 vs false := fun b hg => by
    rw [get_set, if_pos rfl] at hg; exact (Option.some.inj hg).symm
  refine ⟨fun o b hg => ?_, fun o o' b b' hlo hlo' hg hg' hne hown => ?_, fun o b hlo hg hown => ?_, Nat.le_succ_of_le h.glob.1, fun g hg => ?_⟩
  · by_cases ho : o = st.next
    · subst ho
      obtain rfl := new b hg
      refine ⟨Nat.lt_succ_self _, fun _ => ?_⟩
      simp only [if_true]
      refine ⟨c, e', f.1, f.2, hb, fun j v hj => ?_, hc, (fun h => nomatch h), fun _ => .inl rfl⟩
      obtain ⟨v', h1, h2, h3⟩ := hv j v hj
      exact ⟨v', h1, h2 _ _, h3⟩
    · have hg0 := old o b hg ho
      refine ⟨Nat.lt_succ_of_lt (h.obj o b hg0).1, fun hlo => ?_⟩
      simp only [if_neg ho] at hlo ⊢
      exact ((h.obj o b hg0).2 hlo).mono hext (Nat.le_succ _) rfl
  · by_cases ho : o = st.next
    · subst ho
      rw [new b hg] at hown; exact nomatch hown
    · simp only [if_neg ho] at hlo ⊢
      have hg0 := old o b hg ho
      by_cases ho' : o' = st.next
      · simp only [if_pos ho']
        have := h.base o b hlo hg0 hown
        exact fun e => by omega
      · simp only [if_neg ho'] at hlo' ⊢
        exact h.sep o o' b b' hlo hlo' hg0 (old o' b' hg' ho') hne hown
  · by_cases ho : o = st.next
    · subst ho
      rw [new b hg] at hown; exact nomatch hown
    · simp only [if_neg ho] at hlo ⊢
      exact h.base o b hlo (old o b hg ho) hown
  · have := h.glob.2 g hg
    simp only [if_neg (Nat.ne_of_lt (Nat.lt_of_lt_of_le hg h.glob.1))]
    exact this
/-- A row that is an argument: its block. -/
theorem row_block {t e : TypeId} {W : World} {r : Reach} {b0 : Nat} {a : Addr} {len cap : Nat} (ht : P.underlying t = some (.slice e)) (h : Value.okWide P W r b0 t (.slice (some a) len cap)) :
    a.spot = none ∧ ∃ c e' f, W.heap[a.block]? = some (.cells c e' f) := by
  unfold Value.okWide at h
  simp only [ht] at h
  unfold Cell.okWide at h
  simp only [ht] at h
  unfold Cell.ok at h
  simp only [ht] at h
  obtain ⟨_, _, _, h1, row, cells, h2, _⟩ := h
  refine ⟨h1, ?_⟩
  unfold World.shape? at h2
  split at h2
  · rename_i c e' f hh
    exact ⟨c, e', f, hh⟩
  · exact nomatch h2
/-- A ROW OF ONE CELL EACH, AS AN OBJECT OF THE ABSTRACT MACHINE. -/
theorem arg_row {base : Nat} {ρ : Map} {st : St} {W : World} (h : Rel P base ρ st W) (hbase : base = W.heap.size) {t el : TypeId} {r : Reach} {b0 : Nat} {a : Addr} {len cap : Nat} (ht : P.underlying t = some (.slice el)) (hval : Value.okWide P W r b0 t (.slice (some a) len cap))
    (hl : len ≤ cap) {vs : List V} {ws : Nat → Value} (hn : vs.length = len) (hcell : ∀ i, i < cap → W.cell? (a.add i) = some (ws i)) (hv : ∀ j v, vs[j]? = some v → (∀ ρ n, VR ρ n v (ws j)) ∧ One (ws j)) (l : Nat) :
    ∃ ρ', Rel P base ρ' { next := st.next + 1, low := l, mem := st.mem.set st.next (some (.cells 0 vs false)) } W ∧ (∀ o, o < st.next → ρ' o = ρ o) ∧ VR ρ' (st.next + 1) (.ref 3 st.next 0 len cap true) (.slice (some a) len cap) := by
  obtain ⟨h1, c, e', f, h2⟩ := row_block ht hval
  obtain ⟨b, off, spot⟩ := a
  obtain rfl : spot = none := h1
  refine ⟨_, h.arg (pl := ⟨b, off, c.size, 1, true⟩) rfl h2 rfl ?_ ?_ l, fun o ho => if_neg (Nat.ne_of_lt ho), ?_⟩
  · have : b < W.heap.size := (Array.getElem?_eq_some_iff.1 h2).1
    show b < base
    omega
  · intro j v hj
    have hjl : j < vs.length := (List.getElem?_eq_some_iff.1 hj).1
    have h3 := hcell j (by omega)
    rw [add_plain] at h3
    unfold World.cell? at h3
    have h2' : W.heap[b]? = some (.cells c e' f) := h2
    simp only [h2'] at h3
    obtain ⟨h4, h5⟩ := hv j v hj
    exact ⟨ws j, by simpa using h3, h4, h5⟩
  · refine .slice st.next 0 len cap true ⟨b, off, none⟩ cap ⟨Nat.lt_succ_self _, ?_⟩ hl (Nat.le_refl _) (fun _ => rfl) (.inr ?_) (fun h => nomatch h)
    · simp only [if_true]
    · simp only [if_true]; rfl
/-- A row of truths. -/
theorem arg_bools {H : Type} {enc : TypeId × Value → H} {base : Nat} {ρ : Map} {st : St} {W : World} (h : Rel P base ρ st W) (hbase : base = W.heap.size) {t el : TypeId} {r : Reach} {b0 : Nat} {v : Value} {d : DataW H} {ps : List MemPlace} (ht : P.underlying t = some (.slice el)) (he : P.underlying el = some .bool) (hc : P.cellsOf el = 1)
    (hval : Value.okWide P W r b0 t v) (hd : DataW.Trod enc P W 0 (fun _ => true) true t v d ps) (l : Nat) :
    v = .slice none 0 0 ∨ ∃ (bs : List Bool) (cap : Nat) (ρ' : Map), Rel P base ρ' { next := st.next + 1, low := l, mem := st.mem.set st.next (some (.cells 0 (bs.map .bool) false)) } W ∧ VR ρ' (st.next + 1) (.ref 3 st.next 0 bs.length cap true) v := by
  obtain ⟨a0, len0, cap0, rfl⟩ := okWide_slice ht hval
  obtain ⟨fuel, hf⟩ := hd
  rcases Deep.open_bools ht he hc hf with ⟨hcs, _⟩ | ⟨a, len, cap, B, hcs, _, hl, _, _, hcell⟩
  · left
    simpa [Value.cells] using hcs
  · right
    simp only [Value.cells, List.cons.injEq, and_true] at hcs
    rw [hcs] at hval ⊢
    have hlen : (((List.range len).map B).map V.bool).length = len := by simp
    obtain ⟨ρ', h1, _, h2⟩ := arg_row (l := l) h hbase ht hval hl hlen hcell fun j v hj => by
      rw [List.getElem?_map, List.getElem?_map] at hj
      cases hr : (List.range len)[j]? with
      | none => rw [hr] at hj; exact nomatch hj
      | some i =>
        rw [hr] at hj
        obtain ⟨hi, rfl⟩ := List.getElem?_eq_some_iff.1 hr
        rw [List.getElem_range] at hj
        obtain rfl := Option.some.inj hj
        exact ⟨fun _ _ => .bool _, rfl⟩
    refine ⟨(List.range len).map B, cap, ρ', h1, ?_⟩
    rw [show ((List.range len).map B).length = len by simp]
    exact h2
/-- A row of numbers of one kind, none below 0. -/
theorem arg_nats {H : Type} {enc : TypeId × Value → H} {base : Nat} {ρ : Map} {st : St} {W : World} (h : Rel P base ρ st W) (hbase : base = W.heap.size) {t el : TypeId} {r : Reach} {b0 : Nat} {v : Value} {d : DataW H} {ps : List MemPlace} {k : IntKind} (ht : P.underlying t = some (.slice el)) (he : P.underlying el = some (.int k)) (hk : k.signed = false) (hc : P.cellsOf el = 1)
    (hval : Value.okWide P W r b0 t v) (hd : DataW.Trod enc P W 0 (fun _ => true) true t v d ps) (l : Nat) :
    v = .slice none 0 0 ∨ ∃ (zs : List Nat) (cap : Nat) (ρ' : Map), (∀ z ∈ zs, z < 2 ^ k.bits) ∧ zs.length ≤ 9223372036854775807 ∧ Rel P base ρ' { next := st.next + 1, low := l, mem := st.mem.set st.next (some (.cells 0 (zs.map fun z => .int (codeK k) (Int.ofNat z)) false)) } W ∧ (∀ o, o < st.next → ρ' o = ρ o) ∧ VR ρ' (st.next + 1) (.ref 3 st.next 0 zs.length cap true) v := by
  obtain ⟨a0, len0, cap0, rfl⟩ := okWide_slice ht hval
  obtain ⟨fuel, hf⟩ := hd
  rcases Go.ChangeShapes.open_ints ht he hc hf with ⟨hcs, _⟩ | ⟨a, len, cap, zs, hcs, _, hl, hmax, hzl, _, hcell, hwf⟩
  · left
    simpa [Value.cells] using hcs
  · right
    simp only [Value.cells, List.cons.injEq, and_true] at hcs
    rw [hcs] at hval ⊢
    simp only [if_true] at hzl
    have hw : ∀ z ∈ zs, 0 ≤ z ∧ z < 2 ^ k.bits := fun z hz => by
      have := hwf z hz
      simp only [Lit.wf, IntKind.min, IntKind.max, hk, Bool.and_eq_true, decide_eq_true_eq] at this
      simp at this
      omega
    have hlen : ((zs.take len).map Int.toNat).length = len := by simp; omega
    obtain ⟨ρ', h1, hρ, h2⟩ := arg_row (l := l) (vs := ((zs.take len).map Int.toNat).map fun z => V.int (codeK k) (Int.ofNat z)) (ws := fun i => .int k (zs.getD i 0)) h hbase ht hval hl (by rw [List.length_map]; exact hlen) (fun i hi => hcell i (by omega)) fun j v hj => by
      rw [List.map_map, List.getElem?_map] at hj
      cases hr : (zs.take len)[j]? with
      | none => rw [hr] at hj; exact nomatch hj
      | some z =>
        rw [hr] at hj
        obtain rfl := Option.some.inj hj
        obtain ⟨hjl, hz⟩ := List.getElem?_eq_some_iff.1 hr
        rw [List.length_take] at hjl
        rw [List.getElem_take] at hz
        have hz' : zs.getD j 0 = z := by rw [List.getD_eq_getElem?_getD, List.getElem?_eq_getElem (by omega), hz]; rfl
        have hm : z ∈ zs := by rw [← hz]; exact List.getElem_mem _
        have h0 := (hw z hm).1
        rw [hz']
        refine ⟨fun ρ n => ?_, rfl⟩
        show VR ρ n (.int (codeK k) (Int.ofNat z.toNat)) (.int k z)
        rw [show Int.ofNat z.toNat = z by rw [Int.ofNat_eq_natCast]; omega]
        exact .int k z
    refine ⟨(zs.take len).map Int.toNat, cap, ρ', fun n hn => ?_, ?_, h1, hρ, ?_⟩
    · obtain ⟨z, hz, rfl⟩ := List.mem_map.1 hn
      obtain ⟨h3, h4⟩ := hw z (List.mem_of_mem_take hz)
      have h5 : ((2 ^ k.bits : Nat) : Int) = (2 : Int) ^ k.bits := by simp
      have h6 : (z.toNat : Int) = z := by omega
      have h7 : (z.toNat : Int) < ((2 ^ k.bits : Nat) : Int) := by rw [h5, h6]; exact h4
      exact Int.ofNat_lt.1 h7
    · rw [hlen]; exact Nat.le_trans hl hmax
    · rw [hlen]; exact h2
end
end Go.Proofs.YtnjjkomopkgidaaDoor.Av
