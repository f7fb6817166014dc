/-
  strings.Join: WHAT THE KIT's PROVED CONTRACT SAYS OF IT, as a known function of the abstract machine.
-/
import Derived.Test.YtnebopkgnkemiaaGreatDoorCame
import Derived.Test.YtnebopkgnkemiaaGreatDoorLays
import Derived.KernelRfl
namespace Go.Proofs.YtnebopkgnkemiaaGreatDoor.Av
set_option linter.unusedVariables false
set_option linter.unusedSimpArgs false
set_option maxRecDepth 100000
open Go Go.RowKit
noncomputable def tailJ (sep : List UInt8) (r : List (List UInt8)) : List UInt8 := List.rec [] (fun y _ ih => appL sep (appL y ih)) r
noncomputable def joinJ (sep : List UInt8) (xs : List (List UInt8)) : List UInt8 := List.rec [] (fun x r _ => appL x (tailJ sep r)) xs
theorem tailJ_eq (sep : List UInt8) : ∀ r, tailJ sep r = Lib.joinTail sep r
  | [] => rfl
  | y :: r => by
    show appL sep (appL y (tailJ sep r)) = _
    rw [tailJ_eq sep r, appL_eq, appL_eq]
    simp [Lib.joinTail]
theorem joinJ_eq (sep : List UInt8) : ∀ xs, joinJ sep xs = Lib.join xs sep
  | [] => rfl
  | x :: r => by
    show appL x (tailJ sep r) = _
    rw [tailJ_eq, appL_eq, Lib.join_cons]
noncomputable def strsOf (l : List V) : Option (List (List UInt8)) :=
  List.rec (some []) (fun v _ ih => v.onStr none (fun s => Option.rec none (fun l => some (s :: l)) ih)) l
theorem strsOf_eq : ∀ {l : List V} {ss : List (List UInt8)}, strsOf l = some ss → l = ss.map .str
  | [], ss, h => by obtain rfl := Option.some.inj (show some [] = some ss from h); rfl
  | v :: l, ss, h => by
    cases v with
    | str s =>
      have h' : (Option.rec none (fun l => some (s :: l)) (strsOf l) : Option (List (List UInt8))) = some ss := h
      cases hl : strsOf l with
      | none => rw [hl] at h'; exact nomatch h'
      | some r =>
        rw [hl] at h'
        obtain rfl := Option.some.inj h'
        rw [strsOf_eq hl]; rfl
    | int _ _ => exact nomatch h
    | bool _ => exact nomatch h
    | ref _ _ _ _ _ _ => exact nomatch h
    | cmp _ _ _ => exact nomatch h
noncomputable def joinC (sep : List UInt8) (i n : Nat) (cs : List V) : Option V :=
  bif Nat.ble (Nat.add i n) (lenL cs) then Option.rec none (fun ss => bif Nat.ble (lenL (joinJ sep ss)) 140737488355328 && Nat.ble n 140737488355328 then some (.str (joinJ sep ss)) else none) (strsOf (takeL (dropL cs i) n)) else none
noncomputable def joinS (sep : List UInt8) (a : V) (st : St) : Option V :=
  a.onSlice none (some (.str [])) (fun o i n c x => bif Nat.beq n 0 then some (.str []) else onCells none (fun _ cs _ => joinC sep i n cs) (st.mem.get o))
noncomputable def joinG (args : List V) (st : St) : Option V :=
  List.rec none (fun a l _ => List.rec none (fun b l2 _ => b.onStr none (fun sep => List.rec (joinS sep a st) (fun _ _ _ => none) l2)) l) args
theorem joinX : Builder.Extra Tryz.prog laysJoin_ren where
  sizeBuilder := by kernel_rfl
  liesBuilder := by kernel_rfl
  t5 := by kernel_rfl
  a5 := Tryz.isAgg5
  z5 := Tryz.sizeOf5
  v5 := Tryz.zeroValue5
  infoByte := by kernel_rfl
  cellsByte := by kernel_rfl
  sizeByte := by kernel_rfl
  neB5 := by decide
theorem join_spec : SpecOk Tryz.prog 19 joinG := by
  intro base args st v ρ w args' hg hrel hb hargs
  refine ⟨fn_ok (fn := Tryz.f19) (by kernel_rfl) (by kernel_rfl) (by kernel_rfl), came_flat hrel hb ?_⟩
  match args, hg, hargs with
  | [], hg, _ => exact nomatch hg
  | [a], hg, _ => exact nomatch hg
  | a :: b :: c :: l2, hg, _ =>
    have hg' : b.onStr none (fun sep => (none : Option V)) = some v := hg
    obtain ⟨_, _, h⟩ := onStr_some hg'
    exact nomatch h
  | [a, b], hg, .cons (v' := a') ha (.cons (v' := b') hb' .nil) =>
    have hg' : b.onStr none (fun sep => joinS sep a st) = some v := hg
    obtain ⟨sep, rfl, h1⟩ := onStr_some hg'
    obtain rfl := hb'.str_inv
    rcases onSlice_some h1 with ⟨o, i, n, c, x, rfl, h2⟩ | ⟨o, i, n, c, x, rfl, h2⟩
    · obtain rfl := ha.nilSlice_inv
      obtain rfl := Option.some.inj h2
      exact (Any.strings_Join_none laysJoin joinX none 0 _ w).mono fun e w' ⟨he, hw⟩ => ⟨⟨_, he, .str ⟨#[]⟩⟩, hw ▸ Below.refl _ _⟩
    · obtain ⟨ad, c', rfl, hl, hc1, hc2, _, hat, _⟩ := ha.slice_inv
      by_cases hn : n = 0
      · subst hn
        obtain rfl := Option.some.inj (show some (V.str []) = some v from h2)
        exact (Any.strings_Join_none laysJoin joinX (some ad) c' _ w).mono fun e w' ⟨he, hw⟩ => ⟨⟨_, he, .str ⟨#[]⟩⟩, hw ▸ Below.refl _ _⟩
      · rw [beqF hn, cond_false] at h2
        obtain ⟨e, cs, own, hmem, h3⟩ := onCells_some h2
        obtain ⟨hlen, h4⟩ := bif_none h3
        obtain ⟨ss, hss, h5⟩ := orec_none h4
        obtain ⟨hbig, h6⟩ := bif_none h5
        obtain rfl := Option.some.inj h6
        rw [Bool.and_eq_true] at hbig
        have hlen' : i + n ≤ cs.length := by have := ble_iff.1 hlen; rwa [lenL_eq] at this
        rw [takeL_eq, dropL_eq] at hss
        have hcs := strsOf_eq hss
        have hsl : ss.length = n := by
          have := congrArg List.length hcs
          simp at this; omega
        have hc0 : ¬ c' = 0 := by omega
        obtain rfl := hat.resolve_left hc0
        obtain ⟨cc, e', lo, hi, hheap, hlies, htot, _⟩ := hrel.at hmem hl
        have key := Any.strings_Join laysJoin joinX (ρ o).b ((ρ o).off + i) c' (ss.map fun s => (⟨⟨s⟩⟩ : ByteArray)) ⟨⟨sep⟩⟩ w (fun j x hj => by
            rw [List.getElem?_map] at hj
            obtain ⟨s, hs, rfl⟩ := Option.map_eq_some_iff.1 hj
            have h7 : (cs.drop i |>.take n)[j]? = some (.str s) := by rw [hcs, List.getElem?_map, hs]; rfl
            have hj' : j < n := by
              have := (List.getElem?_eq_some_iff.1 hs).1; omega
            rw [List.getElem?_take_of_lt hj', List.getElem?_drop] at h7
            obtain ⟨v', h8, h9, _⟩ := hlies (i + j) _ h7
            obtain rfl := h9.str_inv
            rw [Nat.add_assoc]
            exact (Lib.cell_of_heap hheap _).trans h8)
          (by exact (Array.getElem?_eq_some_iff.1 hheap).1) (by rw [List.length_map, hsl]; exact ble_iff.1 hbig.2) (by rw [List.length_map]; omega)
          (by
            have h7 := ble_iff.1 hbig.1
            rw [lenL_eq, joinJ_eq] at h7
            simpa [Function.comp_def] using h7)
        rw [List.length_map, hsl] at key
        refine key.mono fun e w' ⟨he, hw⟩ => ⟨⟨_, he, ?_⟩, hw⟩
        rw [joinJ_eq]
        have h8 : ((ss.map fun s => (⟨⟨s⟩⟩ : ByteArray)).map fun x => x.data.toList) = ss := by simp [Function.comp_def]
        rw [h8]
        exact .str ⟨⟨Lib.join ss sep⟩⟩
end Go.Proofs.YtnebopkgnkemiaaGreatDoor.Av
