/-
  WHAT A CONTRACT OF THE KIT's GIVES THE ABSTRACT MACHINE: a known function; and what a table's object says of the world.
-/
import Derived.Test.YtnebopkgnkemiaaGreatDoorMacC
import Derived.Lib.Builder
import Derived.KernelRfl
namespace Go.Proofs.YtnebopkgnkemiaaGreatDoor.Av
set_option linter.unusedVariables false
set_option linter.unusedSimpArgs false
set_option maxRecDepth 100000
open Go Go.RowKit
theorem came_flat {P : Program} {f base : Nat} {ρ : Map} {st : St} {w : World} {args : Array Value} {v : V} (hrel : Rel P base ρ st w) (hb : base ≤ w.heap.size)
    (h : Calls P f args w fun e w' => (∃ v', e = .returned v' ∧ VR ρ st.next v v') ∧ Below w.heap.size w w') : Calls P f args w (Came P base ρ st w (.ret v) st) :=
  h.mono fun e w' ⟨⟨v', he, hv⟩, hn⟩ => by
    subst he
    exact ⟨ρ, ⟨Ext.refl _ _, hrel.later fun k hk => hn.block k hk, Turn.refl _, ⟨hn.os, hn.tape, hn.output, hn.size, fun k hk => hn.block k (Nat.lt_of_lt_of_le hk hb)⟩, Dead.refl _ _⟩, hv⟩
theorem fn_ok {P : Program} {f : Nat} {fn : Func} (h1 : P.funcs[f]? = some fn) (h2 : (fn.name == "runtime.NumGoroutine") = false) (h3 : fn.body.isNone = false) : FnOk P f := ⟨fn, h1, h2, h3⟩
section
variable {P : Program} {base : Nat} {ρ : Map} {st : St} {w : World}
theorem tab_cell (h : Rel P base ρ st w) {g e : Nat} {vs : List V} (hg : st.mem.get g = some (.cells e vs false)) (hlt : g < P.globals.size) {j : Nat} {k : IntKind} {i : Int} (hj : vs[j]? = some (.int (codeK k) i)) : w.cell? ⟨g, j, none⟩ = some (.int k i) := by
  obtain ⟨h1, h2, h3⟩ := h.glob.2 g hlt
  obtain ⟨c, e', lo, hi, h4, h5, _⟩ := h.at hg ⟨(h.obj g _ hg).1, h3⟩
  rw [h1] at h4
  obtain ⟨v', h6, h7, _⟩ := h5 j _ hj
  rw [h2, Nat.zero_add] at h6
  obtain ⟨k', h8, rfl⟩ := h7.int_inv
  rw [← codeK_inj h8] at h6
  exact (Lib.cell_of_heap h4 j).trans h6
theorem tab_is (h : Rel P base ρ st w) {g : Nat} {k : IntKind} {zs : List Int} (hg : st.mem.get g = some (.cells zs.length (zs.map fun z => .int (codeK k) z) false)) (hlt : g < P.globals.size) (h0 : zs.length ≠ 0) {name : String} (hn : P.globalNamed name = some g) : Lib.TabIs P w name k zs := by
  obtain ⟨h1, h2, h3⟩ := h.glob.2 g hlt
  obtain ⟨c, e', lo, hi, h4, h5, _, _, h6⟩ := h.at hg ⟨(h.obj g _ hg).1, h3⟩
  have h7 : c.size = zs.length := (h6 rfl).resolve_left h0
  rw [h1] at h4
  unfold Lib.TabIs World.var?
  rw [hn, Option.bind_some, h4]
  show some c = _
  congr 1
  apply Array.ext
  · simp [h7]
  · intro j hj1 hj2
    have hj : j < zs.length := by omega
    obtain ⟨v', h8, h9, _⟩ := h5 j (.int (codeK k) zs[j]) (by simp [hj])
    rw [h2, Nat.zero_add] at h8
    obtain ⟨k', h10, rfl⟩ := h9.int_inv
    rw [← codeK_inj h10] at h8
    have h11 := (Array.getElem?_eq_some_iff.1 h8).2
    simp [h11]
theorem wild_cell (h : Rel P base ρ st w) {g e a : Nat} (hg : st.mem.get g = some (.cells e [.cmp 1 a []] false)) (hlt : g < P.globals.size) : ∃ te pe, w.cell? ⟨g, 0, none⟩ = some (.iface te pe) := by
  obtain ⟨h1, h2, h3⟩ := h.glob.2 g hlt
  obtain ⟨c, e', lo, hi, h4, h5, _⟩ := h.at hg ⟨(h.obj g _ hg).1, h3⟩
  rw [h1] at h4
  obtain ⟨v', h6, h7, _⟩ := h5 0 _ rfl
  rw [h2, Nat.zero_add] at h6
  obtain ⟨b, u, rfl⟩ := h7.wild_inv
  exact ⟨b, u, (Lib.cell_of_heap h4 0).trans h6⟩
end
end Go.Proofs.YtnebopkgnkemiaaGreatDoor.Av
