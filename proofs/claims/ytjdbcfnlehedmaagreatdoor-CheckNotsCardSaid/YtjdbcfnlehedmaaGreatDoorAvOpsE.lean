/-
  WHAT IS BUILT; WHAT IS NIL.
-/
import Derived.Test.YtjdbcfnlehedmaaGreatDoorAvOpsD
namespace Go.Proofs.YtjdbcfnlehedmaaGreatDoor.Av
set_option linter.unusedVariables false
set_option linter.unusedSimpArgs false
open Go Go.RowKit

section ops
variable {P : Program} {base : Nat} {ρ : Map} {st : St} {w : World} {nt : Nat} {tm : Tr V} {a : Act} {o : Oper} {v : V}
theorem cells_vr {n : Nat} {u : V} {u' : Value} {cs : List V} (h : u.cells? = some cs) (hu : VR ρ n u u') : VRs ρ n cs u'.cells.toList ∧ ∀ x ∈ u'.cells.toList, One x := by
  have one : ∀ {u : V} {u' : Value}, VR ρ n u u' → One u' → u'.cells = #[u'] → VRs ρ n [u] u'.cells.toList ∧ ∀ x ∈ u'.cells.toList, One x := fun h1 h2 h3 => by
    rw [h3]; exact ⟨.cons h1 .nil, by simpa using h2⟩
  have cellsOne : ∀ {u' : Value}, One u' → u'.cells = #[u'] := fun {u'} h => by cases u' <;> first | rfl | exact nomatch h
  cases u with
  | int k i => obtain rfl := Option.some.inj h; obtain ⟨j, rfl, rfl⟩ := hu.int_inv; exact one hu rfl rfl
  | str s => obtain rfl := Option.some.inj h; obtain rfl := hu.str_inv; exact one hu rfl rfl
  | bool b => obtain rfl := Option.some.inj h; obtain rfl := hu.bool_inv; exact one hu rfl rfl
  | ref t ob i m c x =>
    obtain rfl := Option.some.inj h
    have : One u' := by
      rcases hu.one with h1 | ⟨l, h1⟩ | ⟨l, h1⟩
      · exact h1
      · exact nomatch h1
      · exact nomatch h1
    exact one hu this (cellsOne this)
  | cmp t b l =>
    have h' : (bif Nat.beq t 2 then some l else bif Nat.beq t 3 then none else some [V.cmp t b l]) = some cs := h
    cases h2 : Nat.beq t 2 with
    | true =>
      obtain rfl := beq_iff.1 h2
      obtain rfl := Option.some.inj h'
      obtain ⟨l', rfl, h3, h4⟩ := hu.agg_inv
      exact ⟨by simpa [Value.cells] using h3, by simpa [Value.cells] using h4⟩
    | false =>
      rw [h2] at h'
      cases h3 : Nat.beq t 3 with
      | true => rw [h3] at h'; exact nomatch h'
      | false =>
        rw [h3] at h'
        obtain rfl := Option.some.inj h'
        have : One u' := by
          rcases hu.one with h1 | ⟨l2, h1⟩ | ⟨l2, h1⟩
          · exact h1
          · injection h1 with h1 _ _; subst h1; exact nomatch h2
          · injection h1 with h1 _ _; subst h1; exact nomatch h3
        exact one hu this (cellsOne this)
theorem set_loop (off : Nat) : ∀ (l : List Value) (k : Nat) (cells : Array Value), off + k + l.length ≤ cells.size →
    ((l.zipIdx k).foldl (fun cs (x : Value × Nat) => cs.setIfInBounds (off + x.2) x.1) cells).toList = cells.toList.take (off + k) ++ (l ++ cells.toList.drop (off + k + l.length))
  | [], k, cells, h => by simp
  | x :: l, k, cells, h => by
    simp only [List.length_cons] at h
    rw [List.zipIdx_cons, List.foldl_cons, set_loop off l (k + 1) _ (by simp; omega)]
    simp only [Array.toList_setIfInBounds, List.length_cons]
    have e1 : (cells.toList.set (off + k) x).take (off + (k + 1)) = cells.toList.take (off + k) ++ [x] := by
      have hlt : off + k < cells.toList.length := by simp; omega
      rw [show off + (k + 1) = (off + k) + 1 from by omega, List.take_succ_eq_append_getElem (by simpa using hlt)]
      simp [List.take_set_of_le]
    have e2 : (cells.toList.set (off + k) x).drop (off + (k + 1) + l.length) = cells.toList.drop (off + k + (l.length + 1)) := by
      rw [List.drop_set_of_lt (by omega)]
      congr 1; omega
    rw [e1, e2]
    simp
theorem splice_eq (l : List V) (off : Nat) (cs : List V) : splice l off cs = l.take off ++ (cs ++ l.drop (off + cs.length)) := by
  unfold splice; simp
theorem VRs.splice {n : Nat} {l : List V} {l' : List Value} {cs : List V} {cs' : List Value} (off : Nat) (h : VRs ρ n l l') (hc : VRs ρ n cs cs') : VRs ρ n (splice l off cs) (l'.take off ++ (cs' ++ l'.drop (off + cs'.length))) := by
  rw [splice_eq, hc.length]
  exact (h.take off).append (hc.append (h.drop _))
theorem splice_length {l : List V} {off : Nat} {cs : List V} (h : off + cs.length ≤ l.length) : (splice l off cs).length = l.length := by
  rw [splice_eq]; simp; omega
theorem fillV_cons (tm : Tr V) (z : List V) (p : Nat × Nat × X) (ps : List (Nat × Nat × X)) : fillV tm z (p :: ps) = match (X.ev tm p.2.2).cells? with
      | none => none
      | some cs => bif Nat.beq (lenL cs) p.2.1 && Nat.ble (Nat.add p.1 p.2.1) (lenL z) then fillV tm (splice z p.1 cs) ps else none := rfl
theorem fill_ok (c : Ctx P base ρ st w nt tm a) {place : Nat → Option (Nat × Nat)} : ∀ {ps : List (Nat × Operand)} {ys : List (Nat × Nat × X)}, compParts P place ps = some ys →
    ∀ {z : List V} {z' : Array Value}, VRs ρ st.next z z'.toList → (∀ u ∈ z'.toList, One u) → ∀ {r : List V}, fillV tm z ys = some r →
    ∃ r' : Array Value, Instr.fill place z' (ps.map fun (i, x) => (i, a.eval x)) = some r' ∧ VRs ρ st.next r r'.toList ∧ ∀ u ∈ r'.toList, One u
  | [], ys, hc, z, z', hz, h1, r, h => by
    obtain rfl := Option.some.inj hc
    obtain rfl := Option.some.inj h
    exact ⟨z', rfl, hz, h1⟩
  | (i, x) :: ps, ys, hc, z, z', hz, h1, r, h => by
    unfold compParts at hc
    split at hc
    · rename_i off n y b hp hy hb
      obtain rfl := Option.some.inj hc
      rw [fillV_cons] at h
      split at h
      · exact nomatch h
      · rename_i cs hcs
        obtain ⟨h2, h3⟩ := bif_none h
        simp only [Bool.and_eq_true, lenL_eq] at h2
        have e1 := beq_iff.1 h2.1
        have e2 := ble_iff.1 h2.2
        simp only at e1 e2 hcs
        obtain ⟨h4, h5⟩ := cells_vr hcs (c.opd hy)
        have e3 := h4.length
        have e4 := hz.length
        have e5 : (a.eval x).cells.size = n := by rw [← Array.length_toList]; omega
        have e6 : off + n ≤ z'.size := by rw [← Array.length_toList]; have : Nat.add off n = off + n := rfl; omega
        have hset := set_loop off (a.eval x).cells.toList 0 z' (by simp; omega)
        have hnew : VRs ρ st.next (splice z off cs) (((a.eval x).cells.zipIdx).foldl (fun cs (x : Value × Nat) => cs.setIfInBounds (off + x.2) x.1) z').toList := by
          rw [← Array.foldl_toList, Array.toList_zipIdx]
          rw [hset]
          simpa using VRs.splice off hz h4
        have hone : ∀ u ∈ (((a.eval x).cells.zipIdx).foldl (fun cs (x : Value × Nat) => cs.setIfInBounds (off + x.2) x.1) z').toList, One u := by
          rw [← Array.foldl_toList, Array.toList_zipIdx]
          rw [hset]
          intro u hu
          rcases List.mem_append.1 hu with hu | hu
          · exact h1 u (List.mem_of_mem_take hu)
          · rcases List.mem_append.1 hu with hu | hu
            · exact h5 u hu
            · exact h1 u (List.mem_of_mem_drop hu)
        obtain ⟨r', h6, h7, h8⟩ := fill_ok c hb hnew hone h3
        refine ⟨r', ?_, h7, h8⟩
        simp only [List.map_cons, Instr.fill, hp]
        rw [if_neg (by simp [e5]; omega)]
        exact h6
    · exact nomatch hc
theorem zeros_ok {t : TypeId} {z : List V} (hz : zerosT P t = some z) : ∃ z', (zeroValue t).run P w = .ok z' w ∧ VRs ρ st.next z z'.cells.toList ∧ ∀ u ∈ z'.cells.toList, One u := by
  unfold zerosT at hz
  cases hi : P.info? t with
  | none => rw [hi] at hz; exact nomatch hz
  | some i =>
    rw [hi] at hz
    cases hzz : i.zero with
    | none => simp [hzz] at hz
    | some z' =>
      simp only [Option.bind_some, hzz] at hz
      obtain ⟨h1, h2⟩ := ofConsts_vr (ρ := ρ) (n := st.next) hz
      exact ⟨z', by simp [zeroValue, typeInfo, hi, hzz], h1, h2⟩
theorem fields_ok : ∀ {fs : List Field} {pl : List (Nat × Nat)}, fieldsT P fs = some pl → (fs.mapM (fun f => do pure (f.offset, ← sizeOf f.type)) : Sem (List (Nat × Nat))).run P w = .ok pl w
  | [], pl, h => by obtain rfl := Option.some.inj h; rfl
  | f :: fs, pl, h => by
    unfold fieldsT at h
    split at h
    · rename_i n b hn hb
      obtain rfl := Option.some.inj h
      rw [List.mapM_cons]
      simp only [Sem.run_bind, run_size hn, Result.andThen_ok, Sem.run_pure, fields_ok hb]
    · exact nomatch h
theorem g_buildS (c : Ctx P base ρ st w nt tm a) {t : TypeId} {fs : Array Field} {pl : List (Nat × Nat)} {z : List V} {ps : Array (Nat × Operand)} {ys : List (Nat × Nat × X)} (ht : P.underlying t = some (.struct fs)) (hz : zerosT P t = some z) (hpl : fieldsT P fs.toList = some pl)
    (hps : compParts P (pl[·]?) ps.toList = some ys) (ho : o.op = .build t ps) (h : iBuild z ys tm st = some v) : Gives P ρ st.next w a o v := by
  obtain ⟨r, h1, h2⟩ := orec_none h
  obtain rfl := Option.some.inj h2
  obtain ⟨z', h3, h4, h5⟩ := zeros_ok (w := w) (ρ := ρ) (st := st) hz
  obtain ⟨r', h6, h7, h8⟩ := fill_ok c hps (z' := z'.cells) h4 h5 h1
  refine gives (s := Instr.build t (ps.map fun (i, x) => (i, a.eval x))) (by unfold execOp; rw [ho]) (v' := .agg r'.toList.toArray) ?_ (.agg _ _ h7 h8)
  unfold Hands
  have hmap : (ps.map fun (x : Nat × Operand) => (x.1, a.eval x.2)).toList = ps.toList.map fun (x : Nat × Operand) => (x.1, a.eval x.2) := by simp
  have hfs : (fs.mapM (fun f => do pure (f.offset, ← sizeOf f.type)) : Sem (Array (Nat × Nat))).run P w = .ok pl.toArray w := by
    rw [Array.mapM_eq_mapM_toList]
    simp only [Sem.run_map, fields_ok hpl, Result.andThen_ok]
  simp only [Instr.build, Sem.run_bind, h3, Result.andThen_ok, run_und ht, hfs]
  have hpl2 : (fun i : Nat => pl.toArray[i]?) = (fun i : Nat => pl[i]?) := by funext i; simp
  rw [hpl2, hmap, h6]
  simp
theorem g_buildA (c : Ctx P base ρ st w nt tm a) {t e : TypeId} {len n : Nat} {z : List V} {ps : Array (Nat × Operand)} {ys : List (Nat × Nat × X)} (ht : P.underlying t = some (.array len e)) (hz : zerosT P t = some z) (hn : sizeT P e = some n)
    (hps : compParts P (fun i => some (i * n, n)) ps.toList = some ys) (ho : o.op = .build t ps) (h : iBuild z ys tm st = some v) : Gives P ρ st.next w a o v := by
  obtain ⟨r, h1, h2⟩ := orec_none h
  obtain rfl := Option.some.inj h2
  obtain ⟨z', h3, h4, h5⟩ := zeros_ok (w := w) (ρ := ρ) (st := st) hz
  obtain ⟨r', h6, h7, h8⟩ := fill_ok c hps (z' := z'.cells) h4 h5 h1
  refine gives (s := Instr.build t (ps.map fun (i, x) => (i, a.eval x))) (by unfold execOp; rw [ho]) (v' := .agg r'.toList.toArray) ?_ (.agg _ _ h7 h8)
  unfold Hands
  have hmap : (ps.map fun (x : Nat × Operand) => (x.1, a.eval x.2)).toList = ps.toList.map fun (x : Nat × Operand) => (x.1, a.eval x.2) := by simp
  simp only [Instr.build, Sem.run_bind, h3, Result.andThen_ok, run_und ht, run_size hn]
  rw [hmap, h6]
  simp

/-! ### what is nil -/
theorem tag_ref {u : V} {t : Nat} (h : u.tag = t) (ht : t < 99) : ∃ o i n c x, u = .ref t o i n c x := by
  cases u with
  | ref t' o i n c x => exact ⟨o, i, n, c, x, by rw [show t' = t from h]⟩
  | cmp t' a l => have : 100 + t' = t := h; omega
  | _ => have : 99 = t := h; omega
theorem ref_tag {n t o i m c : Nat} {x : Bool} {v : Value} (h : VR ρ n (.ref t o i m c x) v) : t ≤ 8 := by
  generalize hu : V.ref t o i m c x = u at h
  cases h <;> first | (injection hu with h1; omega) | exact nomatch hu
theorem tag_cmp {u : V} {t : Nat} (h : u.tag = 100 + t) {n : Nat} {u' : Value} (hu : VR ρ n u u') : ∃ a l, u = .cmp t a l := by
  cases u with
  | ref t' o i m c x => have : t' = 100 + t := h; have := ref_tag hu; omega
  | cmp t' a l => have : 100 + t' = 100 + t := h; exact ⟨a, l, by rw [show t' = t from by omega]⟩
  | _ => have : 99 = 100 + t := h; omega
theorem equalIn_step {t : TypeId} {x y : Value} {b : Bool} (h : ∀ d, (Op.equalIn (d + 1) t x y).run P w = .ok b w) : (Op.equal t x y).run P w = .ok b w := h 9999
theorem eqV_cases {k j : Nat} {x y : V} {b : Bool} (h : eqV k j x y = some b) : (x.tag = k ∧ y.tag = k ∧ b = true) ∨ (x.tag = k ∧ y.tag = j ∧ b = false) ∨ (x.tag = j ∧ y.tag = k ∧ b = false) ∨
    (k = 0 ∧ ∃ o i i' n c e n' c' e', x = .ref 1 o i n c e ∧ y = .ref 1 o i' n' c' e' ∧ b = Nat.beq i i') := by
  unfold eqV at h
  cases h1 : (Nat.beq x.tag k && Nat.beq y.tag k) with
  | true =>
    rw [h1] at h
    simp only [Bool.and_eq_true] at h1
    exact .inl ⟨beq_iff.1 h1.1, beq_iff.1 h1.2, (Option.some.inj h).symm⟩
  | false =>
    rw [h1] at h
    simp only [cond_false] at h
    cases h2 : (Nat.beq x.tag k && Nat.beq y.tag j) with
    | true =>
      rw [h2] at h
      simp only [Bool.and_eq_true] at h2
      exact .inr (.inl ⟨beq_iff.1 h2.1, beq_iff.1 h2.2, (Option.some.inj h).symm⟩)
    | false =>
      rw [h2] at h
      simp only [cond_false] at h
      cases h3 : (Nat.beq x.tag j && Nat.beq y.tag k) with
      | true =>
        rw [h3] at h
        simp only [Bool.and_eq_true] at h3
        exact .inr (.inr (.inl ⟨beq_iff.1 h3.1, beq_iff.1 h3.2, (Option.some.inj h).symm⟩))
      | false =>
        rw [h3] at h
        simp only [cond_false] at h
        obtain ⟨h4, h5⟩ := bif_none h
        obtain ⟨o, i, n, c, e, rfl, h6⟩ := onPtr_some h5
        obtain ⟨o', i', n', c', e', rfl, h7⟩ := onPtr_some h6
        obtain ⟨h8, h9⟩ := bif_none h7
        obtain rfl := beq_iff.1 h8
        exact .inr (.inr (.inr ⟨beq_iff.1 h4, o, i, i', n, c, e, n', c', e', rfl, rfl, (Option.some.inj h9).symm⟩))
theorem isNil_spec {x : Operand} (h : isNil x = true) : x = .const .nilIface := by
  cases x with
  | const v => cases v <;> first | rfl | exact nomatch h
  | _ => exact nomatch h
theorem eq_ok {t : TypeId} {p : Nat × Nat} {x y : Operand} (hp : eqT P t x y = some p) {u u1 : V} {u' u1' : Value} {n : Nat} (h1 : VR ρ n u u') (h2 : VR ρ n u1 u1') {b : Bool} (h : eqV p.1 p.2 u u1 = some b) :
    (Op.equal t u' u1').run P w = .ok b w ∧ (∀ op, (eqGuard op t x y u' u1').run P w = .ok () w) := by
  unfold eqT at hp
  split at hp
  · -- interfaces
    rename_i ms ht
    split at hp
    · rename_i hn
      obtain rfl := Option.some.inj hp
      rcases eqV_cases h with ⟨e1, e2, rfl⟩ | ⟨e1, e2, rfl⟩ | ⟨e1, e2, rfl⟩ | ⟨e1, _⟩
      · obtain ⟨_, _, _, _, _, rfl⟩ := tag_ref e1 (by omega)
        obtain ⟨_, _, _, _, _, rfl⟩ := tag_ref e2 (by omega)
        obtain rfl := h1.nilIface_inv
        obtain rfl := h2.nilIface_inv
        refine ⟨equalIn_step fun d => by unfold Op.equalIn; simp only [Sem.run_bind, run_und ht, Result.andThen_ok]; rfl, fun op => ?_⟩
        simp only [Bool.or_eq_true] at hn
        unfold eqGuard
        rcases hn with hn | hn
        · have := isNil_spec hn
          subst this
          cases op <;> rfl
        · have := isNil_spec hn
          subst this
          cases op <;> first | rfl | (cases x <;> rfl)
      · obtain ⟨_, _, _, _, _, rfl⟩ := tag_ref e1 (by omega)
        obtain ⟨a1, l1, rfl⟩ := tag_cmp (t := 1) e2 h2
        obtain rfl := h1.nilIface_inv
        cases l1 with
        | nil => cases h2
        | cons z l1 =>
          obtain ⟨z', rfl, _⟩ := h2.iface_inv
          exact ⟨equalIn_step fun d => by unfold Op.equalIn; simp only [Sem.run_bind, run_und ht, Result.andThen_ok]; rfl, fun op => by unfold eqGuard; split <;> rfl⟩
      · obtain ⟨_, _, _, _, _, rfl⟩ := tag_ref e2 (by omega)
        obtain ⟨a1, l1, rfl⟩ := tag_cmp (t := 1) e1 h1
        obtain rfl := h2.nilIface_inv
        cases l1 with
        | nil => cases h1
        | cons z l1 =>
          obtain ⟨z', rfl, _⟩ := h1.iface_inv
          exact ⟨equalIn_step fun d => by unfold Op.equalIn; simp only [Sem.run_bind, run_und ht, Result.andThen_ok]; rfl, fun op => by unfold eqGuard; split <;> rfl⟩
      · exact nomatch e1
    · exact nomatch hp
  · -- pointers
    rename_i e ht
    split at hp
    · rename_i sz hsz
      split at hp
      · exact nomatch hp
      · rename_i hne
        obtain rfl := Option.some.inj hp
        rcases eqV_cases h with ⟨e1, e2, rfl⟩ | ⟨e1, e2, rfl⟩ | ⟨e1, e2, rfl⟩ | ⟨_, ob, i, i', _, _, _, _, _, _, rfl, rfl, rfl⟩
        · obtain ⟨_, _, _, _, _, rfl⟩ := tag_ref e1 (by omega)
          obtain ⟨_, _, _, _, _, rfl⟩ := tag_ref e2 (by omega)
          cases h1; cases h2
          exact ⟨equalIn_step fun d => by unfold Op.equalIn; simp only [Sem.run_bind, run_und ht, Result.andThen_ok]; rfl, fun op => by unfold eqGuard; split <;> rfl⟩
        · obtain ⟨_, _, _, _, _, rfl⟩ := tag_ref e1 (by omega)
          obtain ⟨_, _, _, _, _, rfl⟩ := tag_ref e2 (by omega)
          cases h1
          obtain ⟨_, rfl⟩ := h2.ptr_inv
          exact ⟨equalIn_step fun d => by unfold Op.equalIn; simp only [Sem.run_bind, run_und ht, Result.andThen_ok]; rfl, fun op => by unfold eqGuard; split <;> rfl⟩
        · obtain ⟨_, _, _, _, _, rfl⟩ := tag_ref e1 (by omega)
          obtain ⟨_, _, _, _, _, rfl⟩ := tag_ref e2 (by omega)
          cases h2
          obtain ⟨_, rfl⟩ := h1.ptr_inv
          exact ⟨equalIn_step fun d => by unfold Op.equalIn; simp only [Sem.run_bind, run_und ht, Result.andThen_ok]; rfl, fun op => by unfold eqGuard; split <;> rfl⟩
        · obtain ⟨_, rfl⟩ := h1.ptr_inv
          obtain ⟨_, rfl⟩ := h2.ptr_inv
          refine ⟨equalIn_step fun d => ?_, fun op => by unfold eqGuard; split <;> rfl⟩
          have hs : (sameAddr ((ρ ob).at i) ((ρ ob).at i')).run P w = .ok (Nat.beq i i') w := by
            have hb : (((ρ ob).at i).block == ((ρ ob).at i').block) = true := by simp [Pl.at]
            have he : (((ρ ob).at i) == ((ρ ob).at i')) = Nat.beq i i' := by
              by_cases e : i = i'
              · subst e; simp
              · rw [beqF e]; simp [Pl.at, e]
            simp only [sameAddr, hb, if_true, he]
            rfl
          unfold Op.equalIn
          simp only [Sem.run_bind, run_und ht, Result.andThen_ok, run_size hsz, ne_eq, hne, not_false_eq_true, if_true, hs]
    · exact nomatch hp
  · -- slices
    rename_i e ht
    obtain rfl := Option.some.inj hp
    rcases eqV_cases h with ⟨e1, e2, rfl⟩ | ⟨e1, e2, rfl⟩ | ⟨e1, e2, rfl⟩ | ⟨e1, _⟩
    · obtain ⟨_, _, _, _, _, rfl⟩ := tag_ref e1 (by omega)
      obtain ⟨_, _, _, _, _, rfl⟩ := tag_ref e2 (by omega)
      obtain rfl := h1.nilSlice_inv
      obtain rfl := h2.nilSlice_inv
      exact ⟨equalIn_step fun d => by unfold Op.equalIn; simp only [Sem.run_bind, run_und ht, Result.andThen_ok]; rfl, fun op => by unfold eqGuard; split <;> rfl⟩
    · obtain ⟨_, _, _, _, _, rfl⟩ := tag_ref e1 (by omega)
      obtain ⟨_, _, _, _, _, rfl⟩ := tag_ref e2 (by omega)
      obtain rfl := h1.nilSlice_inv
      obtain ⟨_, _, rfl, _⟩ := h2.slice_inv
      exact ⟨equalIn_step fun d => by unfold Op.equalIn; simp only [Sem.run_bind, run_und ht, Result.andThen_ok]; rfl, fun op => by unfold eqGuard; split <;> rfl⟩
    · obtain ⟨_, _, _, _, _, rfl⟩ := tag_ref e1 (by omega)
      obtain ⟨_, _, _, _, _, rfl⟩ := tag_ref e2 (by omega)
      obtain rfl := h2.nilSlice_inv
      obtain ⟨_, _, rfl, _⟩ := h1.slice_inv
      exact ⟨equalIn_step fun d => by unfold Op.equalIn; simp only [Sem.run_bind, run_und ht, Result.andThen_ok]; rfl, fun op => by unfold eqGuard; split <;> rfl⟩
    · exact nomatch e1
  · -- maps
    rename_i kk e ht
    obtain rfl := Option.some.inj hp
    rcases eqV_cases h with ⟨e1, e2, rfl⟩ | ⟨e1, e2, rfl⟩ | ⟨e1, e2, rfl⟩ | ⟨e1, _⟩
    · obtain ⟨_, _, _, _, _, rfl⟩ := tag_ref e1 (by omega)
      obtain ⟨_, _, _, _, _, rfl⟩ := tag_ref e2 (by omega)
      obtain rfl := h1.nilMap_inv
      obtain rfl := h2.nilMap_inv
      exact ⟨equalIn_step fun d => by unfold Op.equalIn; simp only [Sem.run_bind, run_und ht, Result.andThen_ok]; rfl, fun op => by unfold eqGuard; split <;> rfl⟩
    · obtain ⟨_, _, _, _, _, rfl⟩ := tag_ref e1 (by omega)
      obtain ⟨_, _, _, _, _, rfl⟩ := tag_ref e2 (by omega)
      obtain rfl := h1.nilMap_inv
      obtain ⟨_, rfl⟩ := h2.map_inv
      exact ⟨equalIn_step fun d => by unfold Op.equalIn; simp only [Sem.run_bind, run_und ht, Result.andThen_ok]; rfl, fun op => by unfold eqGuard; split <;> rfl⟩
    · obtain ⟨_, _, _, _, _, rfl⟩ := tag_ref e1 (by omega)
      obtain ⟨_, _, _, _, _, rfl⟩ := tag_ref e2 (by omega)
      obtain rfl := h2.nilMap_inv
      obtain ⟨_, rfl⟩ := h1.map_inv
      exact ⟨equalIn_step fun d => by unfold Op.equalIn; simp only [Sem.run_bind, run_und ht, Result.andThen_ok]; rfl, fun op => by unfold eqGuard; split <;> rfl⟩
    · exact nomatch e1
  · -- functions
    rename_i p1 r1 v1 ht
    obtain rfl := Option.some.inj hp
    rcases eqV_cases h with ⟨e1, e2, rfl⟩ | ⟨e1, e2, rfl⟩ | ⟨e1, e2, rfl⟩ | ⟨e1, _⟩
    · obtain ⟨_, _, _, _, _, rfl⟩ := tag_ref e1 (by omega)
      obtain ⟨_, _, _, _, _, rfl⟩ := tag_ref e2 (by omega)
      cases h1; cases h2
      exact ⟨equalIn_step fun d => by unfold Op.equalIn; simp only [Sem.run_bind, run_und ht, Result.andThen_ok]; rfl, fun op => by unfold eqGuard; split <;> rfl⟩
    · obtain ⟨_, _, _, _, _, rfl⟩ := tag_ref e1 (by omega)
      obtain ⟨a1, l1, rfl⟩ := tag_cmp (t := 0) e2 h2
      cases h1
      obtain ⟨z', rfl, _⟩ := h2.func_inv
      exact ⟨equalIn_step fun d => by unfold Op.equalIn; simp only [Sem.run_bind, run_und ht, Result.andThen_ok]; rfl, fun op => by unfold eqGuard; split <;> rfl⟩
    · obtain ⟨_, _, _, _, _, rfl⟩ := tag_ref e2 (by omega)
      obtain ⟨a1, l1, rfl⟩ := tag_cmp (t := 0) e1 h1
      cases h2
      obtain ⟨z', rfl, _⟩ := h1.func_inv
      exact ⟨equalIn_step fun d => by unfold Op.equalIn; simp only [Sem.run_bind, run_und ht, Result.andThen_ok]; rfl, fun op => by unfold eqGuard; split <;> rfl⟩
    · exact nomatch e1
  · exact nomatch hp
/-- No number, no text. -/
def Odd : Value → Prop
  | .int .. => False
  | .float .. => False
  | .complex .. => False
  | .string _ => False
  | _ => True
theorem odd_eql {t : TypeId} {x y : Value} (h : Odd x) : binOp .eql t x y = (do pure (.bool (← Op.equal t x y))) := by
  cases x <;> first | exact h.elim | rfl
theorem odd_neq {t : TypeId} {x y : Value} (h : Odd x) : binOp .neq t x y = (do pure (.bool (!(← Op.equal t x y)))) := by
  cases x <;> first | exact h.elim | rfl
theorem odd_of_tag {n : Nat} {u : V} {u' : Value} (h : VR ρ n u u') (h99 : u.tag ≠ 99) (h8 : u.tag ≠ 8) : Odd u' := by
  cases h <;> first | exact absurd rfl h99 | exact absurd rfl h8 | trivial
theorem eqT_range {t : TypeId} {p : Nat × Nat} {x y : Operand} (hp : eqT P t x y = some p) : p.1 ≠ 8 ∧ p.1 ≠ 99 ∧ p.2 ≠ 8 ∧ p.2 ≠ 99 := by
  unfold eqT at hp
  repeat' split at hp
  all_goals first | (obtain rfl := Option.some.inj hp; simp; done) | exact nomatch hp
theorem g_eqn (c : Ctx P base ρ st w nt tm a) {op : BinOp} {t u : TypeId} {p : Nat × Nat} {x y : Operand} {x' y' : X} {ne : Bool} (hop : (op = .eql ∧ ne = false) ∨ (op = .neq ∧ ne = true)) (hp : eqT P t x y = some p) (ho : o.op = .binOp op t x y u)
    (hx : compX P x = some x') (hy : compX P y = some y') (h : iEqn ne p.1 p.2 x' y' tm st = some v) : Gives P ρ st.next w a o v := by
  obtain ⟨b, h1, h2⟩ := orec_none h
  obtain rfl := Option.some.inj h2
  obtain ⟨h3, h4⟩ := eq_ok (w := w) hp (c.opd hx) (c.opd hy) h1
  refine gives (s := do eqGuard op t x y (a.eval x) (a.eval y); binOp op t (a.eval x) (a.eval y)) (by unfold execOp; rw [ho]) (v' := .bool (b != ne)) ?_ (.bool _)
  unfold Hands
  simp only [Sem.run_bind, h4, Result.andThen_ok]
  have hodd : Odd (a.eval x) := by
    have hr := eqT_range hp
    have h8 := c.opd hx
    rcases eqV_cases h1 with ⟨e1, _⟩ | ⟨e1, _⟩ | ⟨e1, _⟩ | ⟨_, ob, i, i', _, _, _, _, _, _, e1, _⟩
    · exact odd_of_tag h8 (by rw [e1]; exact hr.2.1) (by rw [e1]; exact hr.1)
    · exact odd_of_tag h8 (by rw [e1]; exact hr.2.1) (by rw [e1]; exact hr.1)
    · exact odd_of_tag h8 (by rw [e1]; exact hr.2.2.2) (by rw [e1]; exact hr.2.2.1)
    · rw [e1] at h8
      obtain ⟨_, h9⟩ := h8.ptr_inv
      rw [h9]; trivial
  rcases hop with ⟨rfl, rfl⟩ | ⟨rfl, rfl⟩
  · rw [odd_eql hodd]; simp only [Sem.run_bind, h3]; simp
  · rw [odd_neq hodd]; simp only [Sem.run_bind, h3]; simp
end ops
end Go.Proofs.YtjdbcfnlehedmaaGreatDoor.Av
