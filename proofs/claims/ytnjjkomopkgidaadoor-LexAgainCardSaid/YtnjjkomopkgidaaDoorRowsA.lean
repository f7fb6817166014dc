/-
  ROWS OF NUMBERS AS ARGUMENTS, one after the other.
-/
import Derived.Test.YtnjjkomopkgidaaDoorArgs
import Derived.Test.YtnjjkomopkgidaaDoorHelp
namespace Go.Proofs.YtnjjkomopkgidaaDoor.Av
set_option linter.unusedVariables false
set_option linter.unusedSimpArgs false
open Go Go.RowKit Go.WideShapes

/-- A row of numbers, as it comes: the state with it. -/
theorem arg_rowN {H : Type} {enc : TypeId × Value → H} {P : Program} {base : Nat} {ρ : Map} {st : St} {W : World} (h : Rel P base ρ st W) (hbase : base = W.heap.size) {t el : TypeId} {r : Reach} {b0 : Nat} {v : Value} {d : DataW H} {ps : List MemPlace} {k : IntKind} (ht : P.underlying t = some (.slice el)) (he : P.underlying el = some (.int k)) (hk : k.signed = false) (hc : P.cellsOf el = 1)
    (hval : Value.okWide P W r b0 t v) (hd : DataW.Trod enc P W 0 (fun _ => true) true t v d ps) :
    ∃ (zs : List Nat) (a : V) (S : St) (ρ' : Map), (∀ z ∈ zs, z < 2 ^ k.bits) ∧ Rel P base ρ' S W ∧ Ext ρ ρ' st.next ∧ Grew st S ∧ Row S (codeK k) a zs ∧ VR ρ' S.next a v := by
  rcases arg_nats h hbase ht he hk hc hval hd st.low with rfl | ⟨zs, cap, ρ', hz, _, hrel, hρ, hv⟩
  · exact ⟨[], .ref 2 0 0 0 0 false, st, ρ, (fun z hz => nomatch hz), h, Ext.refl _ _, Grew.refl _, .inl ⟨rfl, rfl⟩, .nilSlice⟩
  · have hg : Grew st { next := st.next + 1, low := st.low, mem := st.mem.set st.next (some (.cells 0 (zs.map fun z => .int (codeK k) (Int.ofNat z)) false)) } := Grew.new st (.cells 0 (zs.map fun z => .int (codeK k) (Int.ofNat z)) false)
    exact ⟨zs, .ref 3 st.next 0 zs.length cap true, _, ρ', hz, hrel, fun o ho _ => hρ o ho, hg, .inr ⟨st.next, cap, rfl, Nat.lt_succ_self _, new_get_self st _⟩, hv⟩
end Go.Proofs.YtnjjkomopkgidaaDoor.Av
