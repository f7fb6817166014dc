/-
  THE WORLD AT THE START: what the row lists ('laid') gives the abstract machine's first state.
-/
import Derived.Test.YtjdbcfnlehedmaaGreatDoorAvTable
import Derived.Lib.LaidU8
namespace Go.Proofs.YtjdbcfnlehedmaaGreatDoor.Av
set_option linter.unusedVariables false
set_option linter.unusedSimpArgs false
open Go Go.RowKit

/-- The numbers of a datum, one behind the other. -/
def flat : DataW Unit → Option (List V)
  | .lit (.int k n) => some [.int (codeK k) n]
  | .agg l => flats l
  | _ => none
where
  flats : List (DataW Unit) → Option (List V)
    | [] => some []
    | d :: l => match flat d, flats l with
      | some a, some b => some (a ++ b)
      | _, _ => none
section
variable {P : Program}
def consec (P : Program) : List Field → Nat → Option Nat
  | [], o => some o
  | f :: l, o => if f.offset = o then consec P l (o + P.cellsOf f.type) else none
/-- Types of numbers, in rows and structs without gaps. -/
def okT (P : Program) : Nat → TypeId → Bool
  | 0, _ => false
  | f + 1, t => match P.underlying t with
    | some (.int _) => true
    | some (.array n e) => P.cellsOf t == n * P.cellsOf e && okT P f e
    | some (.struct fs) => consec P fs.toList 0 == some (P.cellsOf t) && fs.toList.all fun x => okT P f x.type
    | _ => false
theorem cs_consec (cs : List Value) : ∀ (l : List Field) (o : Nat), consec P l o = some cs.length → cs.drop o = l.flatMap fun f => (cs.drop f.offset).take (P.cellsOf f.type)
  | [], o, h => by
    obtain rfl := Option.some.inj (show some o = some cs.length from h)
    simp
  | f :: l, o, h => by
    unfold consec at h
    split at h
    · rename_i ho
      rw [List.flatMap_cons, ← cs_consec cs l _ h, ho]
      rw [← List.drop_drop, List.take_append_drop]
    · exact nomatch h
theorem cs_chunks (cs : List Value) (c : Nat) : ∀ n, n * c ≤ cs.length → ((List.range n).flatMap fun i => (cs.drop (i * c)).take c) = cs.take (n * c)
  | 0, _ => by simp
  | n + 1, h => by
    have h1 : n * c ≤ cs.length := by rw [Nat.succ_mul] at h; omega
    rw [List.range_succ, List.flatMap_append, cs_chunks cs c n h1, Nat.succ_mul, List.take_add]
    simp
theorem flats_ok {ρ : Map} {n : Nat} {ι : Type} (c : ι → List Value) (g : ι → Option (DataW Unit × List MemPlace)) :
    ∀ (L : List ι) (xs : List (DataW Unit × List MemPlace)) (vs : List V), (∀ i ∈ L, ∀ x vs, g i = some x → flat x.1 = some vs → VRs ρ n vs (c i) ∧ ∀ u ∈ c i, One u) →
      L.mapM g = some xs → flat.flats (xs.map (·.1)) = some vs → VRs ρ n vs (L.flatMap c) ∧ ∀ u ∈ L.flatMap c, One u
  | [], xs, vs, _, h, hv => by
    obtain rfl := Option.some.inj (show some [] = some xs from h)
    obtain rfl := Option.some.inj (show some [] = some vs from hv)
    exact ⟨.nil, fun u hu => by simp at hu⟩
  | i :: L, xs, vs, hg, h, hv => by
    simp only [List.mapM_cons, Option.bind_eq_bind, Option.bind_eq_some_iff, Option.pure_def, Option.some.injEq] at h
    obtain ⟨x, hx, xs', hxs, rfl⟩ := h
    rw [List.map_cons] at hv
    unfold flat.flats at hv
    split at hv
    · rename_i a b ha hb
      obtain rfl := Option.some.inj hv
      obtain ⟨h1, h2⟩ := hg i (List.mem_cons_self ..) x a hx ha
      obtain ⟨h3, h4⟩ := flats_ok c g L xs' b (fun j hj => hg j (List.mem_cons_of_mem _ hj)) hxs hb
      refine ⟨h1.append h3, fun u hu => ?_⟩
      rw [List.flatMap_cons, List.mem_append] at hu
      exact hu.elim (h2 u) (h4 u)
    · exact nomatch hv
theorem flat_ok {ρ : Map} {m : Nat} {w : World} {base : Nat} {sp : Nat → Bool} {held : Bool} : ∀ (fuel f : Nat) (t : TypeId) (cs : List Value) (x : DataW Unit × List MemPlace) (vs : List V), okT P f t = true →
    DataW.trod (fun _ => ()) P w base sp held fuel t cs = some x → flat x.1 = some vs → VRs ρ m vs cs ∧ ∀ u ∈ cs, One u
  | 0, f, t, cs, x, vs, _, h, _ => by simp [DataW.trod] at h
  | fuel + 1, 0, t, cs, x, vs, ht, _, _ => nomatch ht
  | fuel + 1, f + 1, t, cs, x, vs, ht, h, hv => by
    unfold okT at ht
    split at ht
    · rename_i k hu
      obtain ⟨d, p⟩ := x
      obtain ⟨z, hc, hd, hp⟩ := DataW.trod_int hu h
      obtain ⟨rfl, rfl⟩ := Prod.mk.inj hd
      subst hc
      have hv' : some [V.int (codeK k) z] = some vs := hv
      obtain rfl := Option.some.inj hv'
      exact ⟨.cons (.int k z) .nil, fun u hu' => by simp at hu'; subst hu'; rfl⟩
    · rename_i n e hu
      simp only [Bool.and_eq_true, beq_iff_eq] at ht
      simp only [DataW.trod, hu] at h
      split at h
      · rename_i hl
        obtain ⟨xs, hm, rfl⟩ := Option.map_eq_some_iff.1 h
        have hv' : flat.flats (xs.map (·.1)) = some vs := hv
        have h1 := flats_ok (ρ := ρ) (n := m) (fun i => (cs.drop (i * P.cellsOf e)).take (P.cellsOf e)) _ (List.range n) xs vs (fun i _ x vs h1 h2 => flat_ok fuel f e _ x vs ht.2 h1 h2) hm hv'
        rwa [cs_chunks cs _ n (by omega), List.take_of_length_le (by omega)] at h1
      · exact nomatch h
    · rename_i fs hu
      simp only [Bool.and_eq_true, beq_iff_eq] at ht
      simp only [DataW.trod, hu] at h
      split at h
      · rename_i hl
        obtain ⟨xs, hm, rfl⟩ := Option.map_eq_some_iff.1 h
        have hv' : flat.flats (xs.map (·.1)) = some vs := hv
        have h1 := flats_ok (ρ := ρ) (n := m) (fun (x : Field) => (cs.drop x.offset).take (P.cellsOf x.type)) _ fs.toList xs vs (fun i hi x vs h1 h2 => flat_ok fuel f i.type _ x vs (List.all_eq_true.1 ht.2 i hi) h1 h2) hm hv'
        rwa [← cs_consec cs fs.toList 0 (by rw [ht.1, hl]), List.drop_zero] at h1
      · exact nomatch h
    · exact nomatch ht
/-- A variable that holds numbers. -/
def Holds (w : World) (g : Nat) (vs : List V) : Prop := ∃ (c : Array Value) (e' : TypeId) (f : Nat × Nat), w.heap[g]? = some (.cells c e' f) ∧ c.size = vs.length ∧ ∀ (ρ : Map) (n : Nat), VRs ρ n vs c.toList ∧ ∀ u ∈ c.toList, One u
theorem holds_of_reads {w : World} {name : String} {d : DataW Unit} (h : Lib.VarReads P w name d) {g : Nat} {vs : List V} (hg : P.globalNamed name = some g) (ht : ((P.globals[g]?).map fun x => okT P 4 x.type) = some true) (hv : flat d = some vs) : Holds w g vs := by
  obtain ⟨g', t, cs, fuel, p, hg', ht', hvar, hd⟩ := h
  obtain rfl := Option.some.inj (hg.symm.trans hg')
  have hok : okT P 4 t = true := by
    cases hx : P.globals[g]? with
    | none => rw [hx] at ht'; exact nomatch ht'
    | some x =>
      rw [hx] at ht ht'
      obtain rfl := Option.some.inj ht'
      exact Option.some.inj ht
  unfold World.var? at hvar
  rw [hg] at hvar
  simp only [Option.bind_some] at hvar
  split at hvar
  · rename_i c e' f hh
    obtain rfl := Option.some.inj hvar
    refine ⟨c, e', f, hh, ?_, fun ρ n => flat_ok (ρ := ρ) (m := n) fuel 4 t c.toList (d, p) vs hok hd hv⟩
    have := (flat_ok (ρ := fun _ => ⟨0, 0, 0, 0, true⟩) (m := 0) fuel 4 t c.toList (d, p) vs hok hd hv).1.length
    simpa using this.symm
  · exact nomatch hvar
/-- The places at the start: the variables; what the arguments lead to. -/
def startMap (w : World) (G : Nat) (more : Nat → Pl) : Map := fun o => if o < G then ⟨o, 0, ((w.heap[o]?).bind fun | .cells c _ _ => some c.size | _ => none).getD 0, 0, true⟩ else more o
/-- An object at the start: numbers, not to be written. -/
def StartOk (w : World) (G : Nat) (o : Nat) : Ob → Prop
  | .cells _ vs false => o < G ∧ Holds w o vs
  | _ => False
theorem start_rel {w : World} {mem : Tr Ob} {l : Nat} (h : AllT (StartOk w P.globals.size) mem) (more : Nat → Pl) : Rel P w.heap.size (startMap w P.globals.size more) { next := P.globals.size, low := l, mem := mem } w := by
  have key : ∀ o b, mem.get o = some b → ∃ e vs, b = .cells e vs false ∧ o < P.globals.size ∧ Holds w o vs := by
    intro o b hb
    have := h.get o b hb
    cases b with
    | cells e vs own => cases own with
      | true => exact this.elim
      | false => exact ⟨e, vs, rfl, this⟩
    | iter s pos => exact this.elim
    | map es => exact this.elim
  refine ⟨fun o b hb => ?_, fun o o' b b' _ _ hb hb' hne hown => ?_, fun o b _ hb hown => ?_, Nat.le_refl _, fun g hg => ?_⟩
  · obtain ⟨e, vs, rfl, ho, c, e', f, h1, h2, h3⟩ := key o b hb
    refine ⟨ho, fun _ => ⟨c, e', f.1, f.2, ?_, fun j v hv => ?_, ?_, fun h => nomatch h⟩⟩
    · show w.heap[(startMap w P.globals.size more o).b]? = _
      unfold startMap
      rw [if_pos ho]; exact h1
    · obtain ⟨h4, h5⟩ := h3 (startMap w P.globals.size more) P.globals.size
      obtain ⟨v', h6, h7⟩ := h4.get j v hv
      refine ⟨v', ?_, h7, h5 v' (List.mem_of_getElem? h6)⟩
      unfold startMap
      rw [if_pos ho]
      simpa using h6
    · unfold startMap
      rw [if_pos ho, h1]
      rfl
  · obtain ⟨e, vs, rfl, _⟩ := key o b hb
    exact nomatch hown
  · obtain ⟨e, vs, rfl, _⟩ := key o b hb
    exact nomatch hown
  · unfold startMap
    rw [if_pos hg]
    exact ⟨rfl, rfl, rfl⟩
/-- What the abstract machine answers at the start, the program answers. -/
theorem answers {fns : Tr Fs} (hm : P.follows .mixedOrders = true) (ht : TableOk P fns) {n f : Nat} {rs : List RV} {b : CEv} (hf : fns.get f = some (.mk rs b)) {args : List V} {args' : List Value} {st st' : St} {r : V} {ρ : Map} {w : World}
    (h : evF fns n f args st = some (.ret r, st')) (hrel : Rel P w.heap.size ρ st w) (hargs : VRs ρ st.next args args') :
    Calls P f args'.toArray w fun e w' => ∃ v, e = .returned v ∧ (∃ ρ' m, VR ρ' m r v) ∧ Below w.heap.size w w' := by
  obtain ⟨fn, ir, h1, h2, h3, _⟩ := ht f _ hf
  have hbody : fn.body.isNone = false := by
    unfold compF at h3
    obtain ⟨c, hb, _⟩ := bind_some' h3
    rw [hb]; rfl
  rcases sound hm ht n h hrel (Nat.le_refl _) hargs with ⟨_, h4⟩ | ⟨v, v', _, _, h5, _⟩
  · refine h4.mono fun e w' hc => ?_
    obtain ⟨ρ', hn, hc⟩ := hc
    cases e with
    | returned v => exact ⟨v, rfl, ⟨ρ', _, hc⟩, hn.below⟩
    | _ => exact hc.elim
  · have := run_callFunc (P := P) (w := w) ⟨fn, h1, h2, hbody⟩ args'.toArray
    rw [h5] at this
    exact nomatch this
end
end Go.Proofs.YtjdbcfnlehedmaaGreatDoor.Av
