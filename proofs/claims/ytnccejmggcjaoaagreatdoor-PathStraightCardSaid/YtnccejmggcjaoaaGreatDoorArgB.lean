/-
  ROWS OF BYTES AS ARGUMENTS, as cells that nobody turns.
-/
import Derived.Test.YtnccejmggcjaoaaGreatDoorStart
import Derived.OpenShut
import Derived.Deep.Grids
import Derived.ChangeSlices
import Derived.Test.YtnccejmggcjaoaaGreatDoorFill
import Derived.Deep.Strs
namespace Go.Proofs.YtnccejmggcjaoaaGreatDoor.Av
set_option linter.unusedVariables false
set_option linter.unusedSimpArgs false
set_option maxRecDepth 1000000
open Go Go.RowKit Go.WideShapes
theorem Rel.frozen {P : Program} {base : Nat} {ρ : Map} {st : St} {w : World} (h : Rel P base ρ st w) (hb : base = w.heap.size) (hz : ∀ b, ρ.fz b = none) (hk : ∀ b, ρ.kp b = none) {m l : Nat} (hm : st.next ≤ m) :
    Rel P base ⟨ρ.pl, fun b => w.heap[b]?, fun _ => none⟩ { next := m, low := l, mem := st.mem } w :=
  have e : Ext ρ ⟨ρ.pl, fun b => w.heap[b]?, fun _ => none⟩ st.next := ⟨fun _ _ _ => rfl, fun b x hx => (by rw [hz] at hx; cases hx), fun b x hx => (by rw [hk] at hx; cases hx)⟩
  ⟨fun o b hg => ⟨Nat.lt_of_lt_of_le (h.obj o b hg).1 hm, fun hl => ((h.obj o b hg).2 hl).mono e hm rfl⟩, h.sep, h.base, ⟨Nat.le_trans h.glob.1 hm, h.glob.2⟩,
    fun b x hx => ⟨hx, rfl, fun o ob hl hg ho e => by
      have h1 := h.base o ob hl hg ho
      have h2 := ((h.obj o ob hg).2 hl).lt
      omega⟩, fun b x hx => (nomatch hx)⟩
section
variable {P : Program}
theorem row_block {t e : TypeId} {W : World} {r : Reach} {b0 : Nat} {a : Addr} {len cap : Nat} (ht : P.underlying t = some (.slice e)) (h : Value.okWide P W r b0 t (.slice (some a) len cap)) :
    a.spot = none ∧ ∃ c e' f, W.heap[a.block]? = some (.cells c e' f) := by
  unfold Value.okWide at h
  simp only [ht] at h
  unfold Cell.okWide at h
  simp only [ht] at h
  unfold Cell.ok at h
  simp only [ht] at h
  obtain ⟨_, _, _, h1, row, cells, h2, _⟩ := h
  refine ⟨h1, ?_⟩
  unfold World.shape? at h2
  split at h2
  · rename_i c e' f hh
    exact ⟨c, e', f, hh⟩
  · exact nomatch h2
end
section
variable {W : World} {r : Reach} {b0 : Nat}
theorem arg_any {c : Value} (h : Value.okWide Tryz.prog W r b0 25 c) (o : Nat) : ∃ (pl : Pl) (v : V), One c ∧ ∀ (ρ : Map) (n : Nat), o < n → ρ.pl o = pl → VR ρ n v c := by
  obtain ⟨a, len, cap, rfl⟩ := okWide_slice Tryz.underlying25 h
  cases a with
  | none =>
    have h' := h
    simp only [Value.okWide, Tryz.underlying25, Cell.okWide] at h'
    have : len = 0 ∧ cap = 0 := by
      unfold Cell.ok at h'
      simp only [Tryz.underlying25] at h'
      split at h' <;> simp_all
    obtain ⟨rfl, rfl⟩ := this
    exact ⟨⟨0, 0, 0, 0, true⟩, .ref 2 0 0 0 0 false, rfl, fun ρ n ho hp => .nilSlice⟩
  | some a =>
    obtain ⟨h1, _⟩ := row_block Tryz.underlying25 h
    have h' := h
    simp only [Value.okWide, Tryz.underlying25, Cell.okWide, Cell.ok] at h'
    obtain ⟨b, off, spot⟩ := a
    obtain rfl : spot = none := h1
    refine ⟨⟨b, off, 0, 0, true⟩, .ref 3 o 0 len cap true, rfl, fun ρ n ho hp => .slice o 0 len cap true ⟨b, off, none⟩ cap ⟨ho, ?_⟩ h'.1 (Nat.le_refl _) (fun _ => rfl) (.inr ?_) (fun h => nomatch h)⟩
    · show (ρ.pl o).live = true
      rw [hp]
    · show _ = (ρ.pl o).at 0
      rw [hp]; rfl
theorem arg_bytes {H : Type} {enc : TypeId × Value → H} {c : Value} (h : Value.okWide Tryz.prog W r b0 24 c) {fuel : Nat} {x : DataW H × List MemPlace} (hd : DataW.trod enc Tryz.prog W 0 (fun _ => true) true fuel 24 [c] = some x) :
    ∃ l : List Nat, (∀ b ∈ l, b < 256) ∧ l.length < 2 ^ 63 ∧ One c ∧ ∀ (ρ : Map) (n : Nat), (∀ b, ρ.fz b = W.heap[b]?) → VR ρ n (slT 4 l.length (cB l)) c := by
  rcases Go.ChangeShapes.open_ints Tryz.underlying24 Tryz.underlying5 (by kernel_rfl) hd with ⟨hcs, _⟩ | ⟨a, len, cap, zs, hcs, _, hl, hmax, hzl, _, hcell, hwf⟩
  · simp only [List.cons.injEq, and_true] at hcs
    subst hcs
    exact ⟨[], fun _ h => (nomatch h), by decide, rfl, fun ρ n hz => .fsl 0 0 0 false none [] [] (Nat.le_refl _) (Nat.le_refl _) (fun h => nomatch h) (fun _ => rfl) (fun h => absurd rfl h) .nil (fun _ h => (nomatch h))⟩
  · simp only [List.cons.injEq, and_true] at hcs
    subst hcs
    simp only [if_true] at hzl
    obtain ⟨h1, c, e', f, h2⟩ := row_block Tryz.underlying24 h
    obtain ⟨b, off, spot⟩ := a
    obtain rfl : spot = none := h1
    have hw : ∀ z ∈ zs, 0 ≤ z ∧ z < 256 := fun z hz => by
      have := hwf z hz
      simp only [Lit.wf, IntKind.min, IntKind.max, IntKind.signed, IntKind.bits, Bool.and_eq_true, decide_eq_true_eq] at this
      simp at this
      omega
    have hlen : (zs.take len).length = len := by rw [List.length_take]; omega
    have hcB : cB ((zs.take len).map Int.toNat) = (zs.take len).map fun z => V.int 8 z := by
      unfold cB
      rw [List.map_map]
      refine List.map_congr_left fun z hz => ?_
      have := (hw z (List.mem_of_mem_take hz)).1
      show V.int 8 (Int.ofNat z.toNat) = _
      rw [show Int.ofNat z.toNat = z by rw [Int.ofNat_eq_natCast]; omega]
    have hvr : ∀ (ρ : Map) (n : Nat) (zs : List Int), VRs ρ n (zs.map fun z => V.int 8 z) (zs.map fun z => Value.int .u8 z) := by
      intro ρ n zs
      induction zs with
      | nil => exact .nil
      | cons z zs ih => exact .cons (.int .u8 z) ih
    refine ⟨(zs.take len).map Int.toNat, fun n hn => ?_, by rw [List.length_map, hlen]; have : (maxLen : Nat) < 2 ^ 63 := by decide
                                                            omega, rfl, fun ρ n hz => ?_⟩
    · obtain ⟨z, hz, rfl⟩ := List.mem_map.1 hn
      have := hw z (List.mem_of_mem_take hz)
      omega
    · rw [hcB, List.length_map, hlen]
      refine .fsl len len cap false (some ⟨b, off, none⟩) _ ((zs.take len).map fun z => Value.int .u8 z) (Nat.le_refl _) hl (fun h => nomatch h) (fun h => nomatch h) (fun _ => ⟨_, rfl, b, off, c, e', f.1, f.2, rfl, .inl (by rw [hz]; exact h2), fun j v hj => ?_⟩) (hvr ρ n _) (fun v hv => ?_)
      · rw [List.getElem?_map] at hj
        cases hr : (zs.take len)[j]? with
        | none => rw [hr] at hj; exact nomatch hj
        | some z =>
          rw [hr] at hj
          obtain rfl := Option.some.inj hj
          obtain ⟨hjl, hz⟩ := List.getElem?_eq_some_iff.1 hr
          rw [List.length_take] at hjl
          rw [List.getElem_take] at hz
          have h3 := hcell j (by omega)
          rw [add_plain] at h3
          unfold World.cell? at h3
          have h2' : W.heap[b]? = some (.cells c e' f) := h2
          simp only [h2'] at h3
          have hz' : zs.getD j 0 = z := by rw [List.getD_eq_getElem?_getD, List.getElem?_eq_getElem (by omega), hz]; rfl
          rw [hz'] at h3
          simpa using h3
      · obtain ⟨z, _, rfl⟩ := List.mem_map.1 hv
        rfl
end
end Go.Proofs.YtnccejmggcjaoaaGreatDoor.Av
