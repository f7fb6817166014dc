/-
  THE ABSTRACT MACHINE: operations that turn memory, and whole codes.
-/
import Derived.Test.YtnebopkgnkemiaaGreatDoorMacA
import Derived.Laws.Append
import Derived.Laws.AppendOwn
import Derived.Scope
import Derived.Laws.Externs
namespace Go.Proofs.YtnebopkgnkemiaaGreatDoor.Av
set_option linter.unusedVariables false
set_option linter.unusedSimpArgs false
open Go Go.RowKit
section ops
variable {P : Program} {base : Nat} {ρ : Map} {st : St} {w : World} {nt : Nat} {tm : Tr V} {a : Act} {o : Oper} {v : V}
theorem cells_vr {n : Nat} {u : V} {u' : Value} {cs : List V} (h : u.cells? = some cs) (hu : VR ρ n u u') : VRs ρ n cs u'.cells.toList ∧ ∀ x ∈ u'.cells.toList, One x := by
  have one : ∀ {u : V} {u' : Value}, VR ρ n u u' → One u' → u'.cells = #[u'] → VRs ρ n [u] u'.cells.toList ∧ ∀ x ∈ u'.cells.toList, One x := fun h1 h2 h3 => by
    rw [h3]; exact ⟨.cons h1 .nil, by simpa using h2⟩
  have cellsOne : ∀ {u' : Value}, One u' → u'.cells = #[u'] := fun {u'} h => by cases u' <;> first | rfl | exact nomatch h
  cases u with
  | int k i => obtain rfl := Option.some.inj h; obtain ⟨j, rfl, rfl⟩ := hu.int_inv; exact one hu rfl rfl
  | str s => obtain rfl := Option.some.inj h; obtain rfl := hu.str_inv; exact one hu rfl rfl
  | bool b => obtain rfl := Option.some.inj h; obtain rfl := hu.bool_inv; exact one hu rfl rfl
  | ref t ob i m c x =>
    obtain rfl := Option.some.inj h
    have : One u' := by
      rcases hu.one with h1 | ⟨l, h1⟩ | ⟨l, h1⟩
      · exact h1
      · exact nomatch h1
      · exact nomatch h1
    exact one hu this (cellsOne this)
  | cmp t b l =>
    have h' : (bif Nat.beq t 2 then some l else bif Nat.beq t 3 then none else some [V.cmp t b l]) = some cs := h
    cases h2 : Nat.beq t 2 with
    | true =>
      obtain rfl := beq_iff.1 h2
      obtain rfl := Option.some.inj h'
      obtain ⟨l', rfl, h3, h4⟩ := hu.agg_inv
      exact ⟨by simpa [Value.cells] using h3, by simpa [Value.cells] using h4⟩
    | false =>
      rw [h2] at h'
      cases h3 : Nat.beq t 3 with
      | true => rw [h3] at h'; exact nomatch h'
      | false =>
        rw [h3] at h'
        obtain rfl := Option.some.inj h'
        have : One u' := by
          rcases hu.one with h1 | ⟨l2, h1⟩ | ⟨l2, h1⟩
          · exact h1
          · injection h1 with h1 _ _; subst h1; exact nomatch h2
          · injection h1 with h1 _ _; subst h1; exact nomatch h3
        exact one hu this (cellsOne this)
theorem set_loop (off : Nat) : ∀ (l : List Value) (k : Nat) (cells : Array Value), off + k + l.length ≤ cells.size →
    ((l.zipIdx k).foldl (fun cs (x : Value × Nat) => cs.setIfInBounds (off + x.2) x.1) cells).toList = cells.toList.take (off + k) ++ (l ++ cells.toList.drop (off + k + l.length))
  | [], k, cells, h => by simp
  | x :: l, k, cells, h => by
    simp only [List.length_cons] at h
    rw [List.zipIdx_cons, List.foldl_cons, set_loop off l (k + 1) _ (by simp; omega)]
    simp only [Array.toList_setIfInBounds, List.length_cons]
    have e1 : (cells.toList.set (off + k) x).take (off + (k + 1)) = cells.toList.take (off + k) ++ [x] := by
      have hlt : off + k < cells.toList.length := by simp; omega
      rw [show off + (k + 1) = (off + k) + 1 from by omega, List.take_succ_eq_append_getElem (by simpa using hlt)]
      simp [List.take_set_of_le]
    have e2 : (cells.toList.set (off + k) x).drop (off + (k + 1) + l.length) = cells.toList.drop (off + k + (l.length + 1)) := by
      rw [List.drop_set_of_lt (by omega)]
      congr 1; omega
    rw [e1, e2]
    simp
theorem splice_eq (l : List V) (off : Nat) (cs : List V) : splice l off cs = l.take off ++ (cs ++ l.drop (off + cs.length)) := by
  unfold splice; simp
theorem VRs.splice {n : Nat} {l : List V} {l' : List Value} {cs : List V} {cs' : List Value} (off : Nat) (h : VRs ρ n l l') (hc : VRs ρ n cs cs') : VRs ρ n (splice l off cs) (l'.take off ++ (cs' ++ l'.drop (off + cs'.length))) := by
  rw [splice_eq, hc.length]
  exact (h.take off).append (hc.append (h.drop _))
theorem splice_length {l : List V} {off : Nat} {cs : List V} (h : off + cs.length ≤ l.length) : (splice l off cs).length = l.length := by
  rw [splice_eq]; simp; omega
theorem fillV_cons (tm : Tr V) (z : List V) (p : Nat × Nat × X) (ps : List (Nat × Nat × X)) : fillV tm z (p :: ps) = match (X.ev tm p.2.2).cells? with
      | none => none
      | some cs => bif Nat.beq (lenL cs) p.2.1 && Nat.ble (Nat.add p.1 p.2.1) (lenL z) then fillV tm (splice z p.1 cs) ps else none := rfl
theorem fill_ok (c : Ctx P base ρ st w nt tm a) {place : Nat → Option (Nat × Nat)} : ∀ {ps : List (Nat × Operand)} {ys : List (Nat × Nat × X)}, compParts P place ps = some ys →
    ∀ {z : List V} {z' : Array Value}, VRs ρ st.next z z'.toList → (∀ u ∈ z'.toList, One u) → ∀ {r : List V}, fillV tm z ys = some r →
    ∃ r' : Array Value, Instr.fill place z' (ps.map fun (i, x) => (i, a.eval x)) = some r' ∧ VRs ρ st.next r r'.toList ∧ ∀ u ∈ r'.toList, One u
  | [], ys, hc, z, z', hz, h1, r, h => by
    obtain rfl := Option.some.inj hc
    obtain rfl := Option.some.inj h
    exact ⟨z', rfl, hz, h1⟩
  | (i, x) :: ps, ys, hc, z, z', hz, h1, r, h => by
    unfold compParts at hc
    split at hc
    · rename_i off n y b hp hy hb
      obtain rfl := Option.some.inj hc
      rw [fillV_cons] at h
      split at h
      · exact nomatch h
      · rename_i cs hcs
        obtain ⟨h2, h3⟩ := bif_none h
        simp only [Bool.and_eq_true, lenL_eq] at h2
        have e1 := beq_iff.1 h2.1
        have e2 := ble_iff.1 h2.2
        simp only at e1 e2 hcs
        obtain ⟨h4, h5⟩ := cells_vr hcs (c.opd hy)
        have e3 := h4.length
        have e4 := hz.length
        have e5 : (a.eval x).cells.size = n := by rw [← Array.length_toList]; omega
        have e6 : off + n ≤ z'.size := by rw [← Array.length_toList]; have : Nat.add off n = off + n := rfl; omega
        have hset := set_loop off (a.eval x).cells.toList 0 z' (by simp; omega)
        have hnew : VRs ρ st.next (splice z off cs) (((a.eval x).cells.zipIdx).foldl (fun cs (x : Value × Nat) => cs.setIfInBounds (off + x.2) x.1) z').toList := by
          rw [← Array.foldl_toList, Array.toList_zipIdx]
          rw [hset]
          simpa using VRs.splice off hz h4
        have hone : ∀ u ∈ (((a.eval x).cells.zipIdx).foldl (fun cs (x : Value × Nat) => cs.setIfInBounds (off + x.2) x.1) z').toList, One u := by
          rw [← Array.foldl_toList, Array.toList_zipIdx]
          rw [hset]
          intro u hu
          rcases List.mem_append.1 hu with hu | hu
          · exact h1 u (List.mem_of_mem_take hu)
          · rcases List.mem_append.1 hu with hu | hu
            · exact h5 u hu
            · exact h1 u (List.mem_of_mem_drop hu)
        obtain ⟨r', h6, h7, h8⟩ := fill_ok c hb hnew hone h3
        refine ⟨r', ?_, h7, h8⟩
        simp only [List.map_cons, Instr.fill, hp]
        rw [if_neg (by simp [e5]; omega)]
        exact h6
    · exact nomatch hc
theorem zeros_ok {t : TypeId} {z : List V} (hz : zerosT P t = some z) : ∃ z', (zeroValue t).run P w = .ok z' w ∧ VRs ρ st.next z z'.cells.toList ∧ ∀ u ∈ z'.cells.toList, One u := by
  unfold zerosT at hz
  cases hi : P.info? t with
  | none => rw [hi] at hz; exact nomatch hz
  | some i =>
    rw [hi] at hz
    cases hzz : i.zero with
    | none => simp [hzz] at hz
    | some z' =>
      simp only [Option.bind_some, hzz] at hz
      obtain ⟨h1, h2⟩ := ofConsts_vr (ρ := ρ) (n := st.next) hz
      exact ⟨z', by simp [zeroValue, typeInfo, hi, hzz], h1, h2⟩
theorem fields_ok : ∀ {fs : List Field} {pl : List (Nat × Nat)}, fieldsT P fs = some pl → (fs.mapM (fun f => do pure (f.offset, ← sizeOf f.type)) : Sem (List (Nat × Nat))).run P w = .ok pl w
  | [], pl, h => by obtain rfl := Option.some.inj h; rfl
  | f :: fs, pl, h => by
    unfold fieldsT at h
    split at h
    · rename_i n b hn hb
      obtain rfl := Option.some.inj h
      rw [List.mapM_cons]
      simp only [Sem.run_bind, run_size hn, Result.andThen_ok, Sem.run_pure, fields_ok hb]
    · exact nomatch h
theorem g_buildS (c : Ctx P base ρ st w nt tm a) {t : TypeId} {fs : Array Field} {pl : List (Nat × Nat)} {z : List V} {ps : Array (Nat × Operand)} {ys : List (Nat × Nat × X)} (ht : P.underlying t = some (.struct fs)) (hz : zerosT P t = some z) (hpl : fieldsT P fs.toList = some pl)
    (hps : compParts P (pl[·]?) ps.toList = some ys) (ho : o.op = .build t ps) (h : iBuild z ys tm st = some v) : Gives P ρ st.next w a o v := by
  obtain ⟨r, h1, h2⟩ := orec_none h
  obtain rfl := Option.some.inj h2
  obtain ⟨z', h3, h4, h5⟩ := zeros_ok (w := w) (ρ := ρ) (st := st) hz
  obtain ⟨r', h6, h7, h8⟩ := fill_ok c hps (z' := z'.cells) h4 h5 h1
  refine gives (s := Instr.build t (ps.map fun (i, x) => (i, a.eval x))) (by unfold execOp; rw [ho]) (v' := .agg r'.toList.toArray) ?_ (.agg _ _ h7 h8)
  unfold Hands
  have hmap : (ps.map fun (x : Nat × Operand) => (x.1, a.eval x.2)).toList = ps.toList.map fun (x : Nat × Operand) => (x.1, a.eval x.2) := by simp
  have hfs : (fs.mapM (fun f => do pure (f.offset, ← sizeOf f.type)) : Sem (Array (Nat × Nat))).run P w = .ok pl.toArray w := by
    rw [Array.mapM_eq_mapM_toList]
    simp only [Sem.run_map, fields_ok hpl, Result.andThen_ok]
  simp only [Instr.build, Sem.run_bind, h3, Result.andThen_ok, run_und ht, hfs]
  have hpl2 : (fun i : Nat => pl.toArray[i]?) = (fun i : Nat => pl[i]?) := by funext i; simp
  rw [hpl2, hmap, h6]
  simp
theorem g_buildA (c : Ctx P base ρ st w nt tm a) {t e : TypeId} {len n : Nat} {z : List V} {ps : Array (Nat × Operand)} {ys : List (Nat × Nat × X)} (ht : P.underlying t = some (.array len e)) (hz : zerosT P t = some z) (hn : sizeT P e = some n)
    (hps : compParts P (fun i => some (i * n, n)) ps.toList = some ys) (ho : o.op = .build t ps) (h : iBuild z ys tm st = some v) : Gives P ρ st.next w a o v := by
  obtain ⟨r, h1, h2⟩ := orec_none h
  obtain rfl := Option.some.inj h2
  obtain ⟨z', h3, h4, h5⟩ := zeros_ok (w := w) (ρ := ρ) (st := st) hz
  obtain ⟨r', h6, h7, h8⟩ := fill_ok c hps (z' := z'.cells) h4 h5 h1
  refine gives (s := Instr.build t (ps.map fun (i, x) => (i, a.eval x))) (by unfold execOp; rw [ho]) (v' := .agg r'.toList.toArray) ?_ (.agg _ _ h7 h8)
  unfold Hands
  have hmap : (ps.map fun (x : Nat × Operand) => (x.1, a.eval x.2)).toList = ps.toList.map fun (x : Nat × Operand) => (x.1, a.eval x.2) := by simp
  simp only [Instr.build, Sem.run_bind, h3, Result.andThen_ok, run_und ht, run_size hn]
  rw [hmap, h6]
  simp
theorem tag_cmp0 (t a : Nat) (l : List V) : ((t = 4 ∨ t = 6) ∧ ((V.cmp t a l).tag = 99 ∨ ((V.cmp t a l).tag = 3 ∧ ∃ o i m c x l1, l = .ref 8 o i m c x :: l1 ∧ m ≠ 0))) ∨ ((t = 5 ∨ t = 7) ∧ (V.cmp t a l).tag = 1) ∨ (t ≠ 4 ∧ t ≠ 6 ∧ t ≠ 5 ∧ t ≠ 7 ∧ (V.cmp t a l).tag = 100 + t) := by
  have h : (V.cmp t a l).tag = bif Nat.beq t 4 || Nat.beq t 6 then List.rec 99 (fun h _ _ => h.onHead 99 (fun n _ _ => bif Nat.beq n 0 then 99 else 3)) l else bif Nat.beq t 5 || Nat.beq t 7 then 1 else Nat.add 100 t := rfl
  by_cases h4 : t = 4 ∨ t = 6
  · left
    refine ⟨h4, ?_⟩
    have hb : (Nat.beq t 4 || Nat.beq t 6) = true := by rcases h4 with rfl | rfl <;> rfl
    rw [hb, cond_true] at h
    rw [h]
    cases l with
    | nil => exact .inl rfl
    | cons u l =>
      cases u with
      | ref t' o i m c x =>
        show (Bool.rec 99 (bif Nat.beq m 0 then 99 else 3) (Nat.beq t' 8) : Nat) = 99 ∨ ((Bool.rec 99 (bif Nat.beq m 0 then 99 else 3) (Nat.beq t' 8) : Nat) = 3 ∧ _)
        by_cases h8 : t' = 8
        · subst h8
          by_cases hm : m = 0
          · rw [beqT hm]; exact .inl rfl
          · rw [beqF hm]; exact .inr ⟨rfl, o, i, m, c, x, l, rfl, hm⟩
        · rw [beqF h8]; exact .inl rfl
      | _ => exact .inl rfl
  · have e4 : t ≠ 4 := fun e => h4 (.inl e)
    have e6 : t ≠ 6 := fun e => h4 (.inr e)
    rw [beqF e4, beqF e6] at h
    by_cases h5 : t = 5 ∨ t = 7
    · have hb : (Nat.beq t 5 || Nat.beq t 7) = true := by rcases h5 with rfl | rfl <;> rfl
      rw [hb] at h
      exact .inr (.inl ⟨h5, h⟩)
    · have e5 : t ≠ 5 := fun e => h5 (.inl e)
      have e7 : t ≠ 7 := fun e => h5 (.inr e)
      rw [beqF e5, beqF e7] at h
      exact .inr (.inr ⟨e4, e6, e5, e7, h⟩)
theorem tag_ref {u : V} {t : Nat} (h : u.tag = t) (ht : t < 99) (h3 : t ≠ 3) (h1 : t ≠ 1) : ∃ o i n c x, u = .ref t o i n c x := by
  cases u with
  | ref t' o i n c x => exact ⟨o, i, n, c, x, by rw [show t' = t from h]⟩
  | cmp t' a l => rcases tag_cmp0 t' a l with ⟨_, e | ⟨e, _⟩⟩ | ⟨_, e⟩ | ⟨_, _, _, _, e⟩ <;> rw [e] at h <;> omega
  | _ => have : 99 = t := h; omega
theorem tag_ptr {u : V} (h : u.tag = 1) {n : Nat} {u' : Value} (hu : VR ρ n u u') : ∃ ad, u' = .pointer (some ad) := by
  cases u with
  | ref t' o i m c x => obtain rfl : t' = 1 := h; exact ⟨_, hu.ptr_inv.2⟩
  | cmp t' a l =>
    rcases tag_cmp0 t' a l with ⟨_, e | ⟨e, _⟩⟩ | ⟨ht, e⟩ | ⟨_, _, _, _, e⟩
    · rw [e] at h; omega
    · rw [e] at h; omega
    · rcases ht with rfl | rfl
      · obtain ⟨ad, _, h2, _⟩ := hu.fptr_inv (t := 4) (.inl rfl); exact ⟨ad, h2⟩
      · obtain ⟨ad, _, h2, _⟩ := hu.fptr_inv (t := 6) (.inr rfl); exact ⟨ad, h2⟩
    · rw [e] at h; omega
  | _ => have : 99 = 1 := h; omega
theorem tag_slice {u : V} (h : u.tag = 3) {n : Nat} {u' : Value} (hu : VR ρ n u u') : ∃ ad m c, u' = .slice (some ad) m c := by
  cases u with
  | ref t' o i m c x => obtain rfl : t' = 3 := h; obtain ⟨ad, c', h2, _⟩ := hu.slice_inv; exact ⟨ad, _, _, h2⟩
  | cmp t' a l =>
    rcases tag_cmp0 t' a l with ⟨ht, e | ⟨e, o, i, m, c, x, l1, rfl, hm⟩⟩ | ⟨_, e⟩ | ⟨_, _, _, _, e⟩
    · rw [e] at h; omega
    · obtain ⟨ad, c', l', h2, h3, h4, _, h5, _⟩ := hu.fsl_inv ht
      cases ad with
      | none => have := h5 rfl; omega
      | some ad => exact ⟨ad, _, _, h2⟩
    · rw [e] at h; omega
    · rw [e] at h; omega
  | _ => have : 99 = 3 := h; omega
theorem ref_tag {n t o i m c : Nat} {x : Bool} {v : Value} (h : VR ρ n (.ref t o i m c x) v) : t ≤ 8 := by
  generalize hu : V.ref t o i m c x = u at h
  cases h <;> first | (injection hu with h1; omega) | exact nomatch hu
theorem tag_cmp {u : V} {t : Nat} (h : u.tag = 100 + t) {n : Nat} {u' : Value} (hu : VR ρ n u u') : ∃ a l, u = .cmp t a l := by
  cases u with
  | ref t' o i m c x => have : t' = 100 + t := h; have := ref_tag hu; omega
  | cmp t' a l => rcases tag_cmp0 t' a l with ⟨_, e | ⟨e, _⟩⟩ | ⟨_, e⟩ | ⟨_, _, _, _, e⟩ <;> rw [e] at h <;> first | omega | exact ⟨a, l, by rw [show t' = t from by omega]⟩
  | _ => have : 99 = 100 + t := h; omega
theorem equalIn_step {t : TypeId} {x y : Value} {b : Bool} (h : ∀ d, (Op.equalIn (d + 1) t x y).run P w = .ok b w) : (Op.equal t x y).run P w = .ok b w := h 9999
theorem eqV_cases {k j : Nat} {x y : V} {b : Bool} (h : eqV k j x y = some b) : (x.tag = k ∧ y.tag = k ∧ b = true) ∨ (x.tag = k ∧ y.tag = j ∧ b = false) ∨ (x.tag = j ∧ y.tag = k ∧ b = false) ∨
    (k = 0 ∧ ∃ o i i' n c e n' c' e', x = .ref 1 o i n c e ∧ y = .ref 1 o i' n' c' e' ∧ b = Nat.beq i i') := by
  unfold eqV at h
  cases h1 : (Nat.beq x.tag k && Nat.beq y.tag k) with
  | true =>
    rw [h1] at h
    simp only [Bool.and_eq_true] at h1
    exact .inl ⟨beq_iff.1 h1.1, beq_iff.1 h1.2, (Option.some.inj h).symm⟩
  | false =>
    rw [h1] at h
    simp only [cond_false] at h
    cases h2 : (Nat.beq x.tag k && Nat.beq y.tag j) with
    | true =>
      rw [h2] at h
      simp only [Bool.and_eq_true] at h2
      exact .inr (.inl ⟨beq_iff.1 h2.1, beq_iff.1 h2.2, (Option.some.inj h).symm⟩)
    | false =>
      rw [h2] at h
      simp only [cond_false] at h
      cases h3 : (Nat.beq x.tag j && Nat.beq y.tag k) with
      | true =>
        rw [h3] at h
        simp only [Bool.and_eq_true] at h3
        exact .inr (.inr (.inl ⟨beq_iff.1 h3.1, beq_iff.1 h3.2, (Option.some.inj h).symm⟩))
      | false =>
        rw [h3] at h
        simp only [cond_false] at h
        obtain ⟨h4, h5⟩ := bif_none h
        obtain ⟨o, i, n, c, e, rfl, h6⟩ := onPtr_some h5
        obtain ⟨o', i', n', c', e', rfl, h7⟩ := onPtr_some h6
        obtain ⟨h8, h9⟩ := bif_none h7
        obtain rfl := beq_iff.1 h8
        exact .inr (.inr (.inr ⟨beq_iff.1 h4, o, i, i', n, c, e, n', c', e', rfl, rfl, (Option.some.inj h9).symm⟩))
theorem isNil_spec {x : Operand} (h : isNil x = true) : x = .const .nilIface := by
  cases x with
  | const v => cases v <;> first | rfl | exact nomatch h
  | _ => exact nomatch h
theorem eq_ok {t : TypeId} {p : Nat × Nat} {x y : Operand} (hp : eqT P t x y = some p) {u u1 : V} {u' u1' : Value} {n : Nat} (h1 : VR ρ n u u') (h2 : VR ρ n u1 u1') {b : Bool} (h : eqV p.1 p.2 u u1 = some b) :
    (Op.equal t u' u1').run P w = .ok b w ∧ (∀ op, (eqGuard op t x y u' u1').run P w = .ok () w) := by
  unfold eqT at hp
  split at hp
  ·
    rename_i ms ht
    split at hp
    · rename_i hn
      obtain rfl := Option.some.inj hp
      rcases eqV_cases h with ⟨e1, e2, rfl⟩ | ⟨e1, e2, rfl⟩ | ⟨e1, e2, rfl⟩ | ⟨e1, _⟩
      · obtain ⟨_, _, _, _, _, rfl⟩ := tag_ref e1 (by omega) (by omega) (by omega)
        obtain ⟨_, _, _, _, _, rfl⟩ := tag_ref e2 (by omega) (by omega) (by omega)
        obtain rfl := h1.nilIface_inv
        obtain rfl := h2.nilIface_inv
        refine ⟨equalIn_step fun d => by unfold Op.equalIn; simp only [Sem.run_bind, run_und ht, Result.andThen_ok]; rfl, fun op => ?_⟩
        simp only [Bool.or_eq_true] at hn
        unfold eqGuard
        rcases hn with hn | hn
        · have := isNil_spec hn
          subst this
          cases op <;> rfl
        · have := isNil_spec hn
          subst this
          cases op <;> first | rfl | (cases x <;> rfl)
      · obtain ⟨_, _, _, _, _, rfl⟩ := tag_ref e1 (by omega) (by omega) (by omega)
        obtain ⟨a1, l1, rfl⟩ := tag_cmp (t := 1) e2 h2
        obtain rfl := h1.nilIface_inv
        cases l1 with
        | nil =>
          obtain ⟨_, z', rfl⟩ := h2.wild_inv
          exact ⟨equalIn_step fun d => by unfold Op.equalIn; simp only [Sem.run_bind, run_und ht, Result.andThen_ok]; rfl, fun op => by unfold eqGuard; split <;> rfl⟩
        | cons z l1 =>
          obtain ⟨z', rfl, _⟩ := h2.iface_inv
          exact ⟨equalIn_step fun d => by unfold Op.equalIn; simp only [Sem.run_bind, run_und ht, Result.andThen_ok]; rfl, fun op => by unfold eqGuard; split <;> rfl⟩
      · obtain ⟨_, _, _, _, _, rfl⟩ := tag_ref e2 (by omega) (by omega) (by omega)
        obtain ⟨a1, l1, rfl⟩ := tag_cmp (t := 1) e1 h1
        obtain rfl := h2.nilIface_inv
        cases l1 with
        | nil =>
          obtain ⟨_, z', rfl⟩ := h1.wild_inv
          exact ⟨equalIn_step fun d => by unfold Op.equalIn; simp only [Sem.run_bind, run_und ht, Result.andThen_ok]; rfl, fun op => by unfold eqGuard; split <;> rfl⟩
        | cons z l1 =>
          obtain ⟨z', rfl, _⟩ := h1.iface_inv
          exact ⟨equalIn_step fun d => by unfold Op.equalIn; simp only [Sem.run_bind, run_und ht, Result.andThen_ok]; rfl, fun op => by unfold eqGuard; split <;> rfl⟩
      · exact nomatch e1
    · exact nomatch hp
  ·
    rename_i e ht
    split at hp
    · rename_i sz hsz
      split at hp
      · exact nomatch hp
      · rename_i hne
        obtain rfl := Option.some.inj hp
        rcases eqV_cases h with ⟨e1, e2, rfl⟩ | ⟨e1, e2, rfl⟩ | ⟨e1, e2, rfl⟩ | ⟨_, ob, i, i', _, _, _, _, _, _, rfl, rfl, rfl⟩
        · obtain ⟨_, _, _, _, _, rfl⟩ := tag_ref e1 (by omega) (by omega) (by omega)
          obtain ⟨_, _, _, _, _, rfl⟩ := tag_ref e2 (by omega) (by omega) (by omega)
          cases h1; cases h2
          exact ⟨equalIn_step fun d => by unfold Op.equalIn; simp only [Sem.run_bind, run_und ht, Result.andThen_ok]; rfl, fun op => by unfold eqGuard; split <;> rfl⟩
        · obtain ⟨_, _, _, _, _, rfl⟩ := tag_ref e1 (by omega) (by omega) (by omega)
          obtain ⟨_, rfl⟩ := tag_ptr e2 h2
          cases h1
          exact ⟨equalIn_step fun d => by unfold Op.equalIn; simp only [Sem.run_bind, run_und ht, Result.andThen_ok]; rfl, fun op => by unfold eqGuard; split <;> rfl⟩
        · obtain ⟨_, _, _, _, _, rfl⟩ := tag_ref e2 (by omega) (by omega) (by omega)
          obtain ⟨_, rfl⟩ := tag_ptr e1 h1
          cases h2
          exact ⟨equalIn_step fun d => by unfold Op.equalIn; simp only [Sem.run_bind, run_und ht, Result.andThen_ok]; rfl, fun op => by unfold eqGuard; split <;> rfl⟩
        · obtain ⟨_, rfl⟩ := h1.ptr_inv
          obtain ⟨_, rfl⟩ := h2.ptr_inv
          refine ⟨equalIn_step fun d => ?_, fun op => by unfold eqGuard; split <;> rfl⟩
          have hs : (sameAddr ((ρ ob).at i) ((ρ ob).at i')).run P w = .ok (Nat.beq i i') w := by
            have hb : (((ρ ob).at i).block == ((ρ ob).at i').block) = true := by simp [Pl.at]
            have he : (((ρ ob).at i) == ((ρ ob).at i')) = Nat.beq i i' := by
              by_cases e : i = i'
              · subst e; simp
              · rw [beqF e]; simp [Pl.at, e]
            simp only [sameAddr, hb, if_true, he]
            rfl
          unfold Op.equalIn
          simp only [Sem.run_bind, run_und ht, Result.andThen_ok, run_size hsz, ne_eq, hne, not_false_eq_true, if_true, hs]
    · exact nomatch hp
  ·
    rename_i e ht
    obtain rfl := Option.some.inj hp
    rcases eqV_cases h with ⟨e1, e2, rfl⟩ | ⟨e1, e2, rfl⟩ | ⟨e1, e2, rfl⟩ | ⟨e1, _⟩
    · obtain ⟨_, _, _, _, _, rfl⟩ := tag_ref e1 (by omega) (by omega) (by omega)
      obtain ⟨_, _, _, _, _, rfl⟩ := tag_ref e2 (by omega) (by omega) (by omega)
      obtain rfl := h1.nilSlice_inv
      obtain rfl := h2.nilSlice_inv
      exact ⟨equalIn_step fun d => by unfold Op.equalIn; simp only [Sem.run_bind, run_und ht, Result.andThen_ok]; rfl, fun op => by unfold eqGuard; split <;> rfl⟩
    · obtain ⟨_, _, _, _, _, rfl⟩ := tag_ref e1 (by omega) (by omega) (by omega)
      obtain rfl := h1.nilSlice_inv
      obtain ⟨_, _, _, rfl⟩ := tag_slice e2 h2
      exact ⟨equalIn_step fun d => by unfold Op.equalIn; simp only [Sem.run_bind, run_und ht, Result.andThen_ok]; rfl, fun op => by unfold eqGuard; split <;> rfl⟩
    · obtain ⟨_, _, _, _, _, rfl⟩ := tag_ref e2 (by omega) (by omega) (by omega)
      obtain rfl := h2.nilSlice_inv
      obtain ⟨_, _, _, rfl⟩ := tag_slice e1 h1
      exact ⟨equalIn_step fun d => by unfold Op.equalIn; simp only [Sem.run_bind, run_und ht, Result.andThen_ok]; rfl, fun op => by unfold eqGuard; split <;> rfl⟩
    · exact nomatch e1
  ·
    rename_i kk e ht
    obtain rfl := Option.some.inj hp
    rcases eqV_cases h with ⟨e1, e2, rfl⟩ | ⟨e1, e2, rfl⟩ | ⟨e1, e2, rfl⟩ | ⟨e1, _⟩
    · obtain ⟨_, _, _, _, _, rfl⟩ := tag_ref e1 (by omega) (by omega) (by omega)
      obtain ⟨_, _, _, _, _, rfl⟩ := tag_ref e2 (by omega) (by omega) (by omega)
      obtain rfl := h1.nilMap_inv
      obtain rfl := h2.nilMap_inv
      exact ⟨equalIn_step fun d => by unfold Op.equalIn; simp only [Sem.run_bind, run_und ht, Result.andThen_ok]; rfl, fun op => by unfold eqGuard; split <;> rfl⟩
    · obtain ⟨_, _, _, _, _, rfl⟩ := tag_ref e1 (by omega) (by omega) (by omega)
      obtain ⟨_, _, _, _, _, rfl⟩ := tag_ref e2 (by omega) (by omega) (by omega)
      obtain rfl := h1.nilMap_inv
      obtain ⟨_, rfl⟩ := h2.map_inv
      exact ⟨equalIn_step fun d => by unfold Op.equalIn; simp only [Sem.run_bind, run_und ht, Result.andThen_ok]; rfl, fun op => by unfold eqGuard; split <;> rfl⟩
    · obtain ⟨_, _, _, _, _, rfl⟩ := tag_ref e1 (by omega) (by omega) (by omega)
      obtain ⟨_, _, _, _, _, rfl⟩ := tag_ref e2 (by omega) (by omega) (by omega)
      obtain rfl := h2.nilMap_inv
      obtain ⟨_, rfl⟩ := h1.map_inv
      exact ⟨equalIn_step fun d => by unfold Op.equalIn; simp only [Sem.run_bind, run_und ht, Result.andThen_ok]; rfl, fun op => by unfold eqGuard; split <;> rfl⟩
    · exact nomatch e1
  ·
    rename_i p1 r1 v1 ht
    obtain rfl := Option.some.inj hp
    rcases eqV_cases h with ⟨e1, e2, rfl⟩ | ⟨e1, e2, rfl⟩ | ⟨e1, e2, rfl⟩ | ⟨e1, _⟩
    · obtain ⟨_, _, _, _, _, rfl⟩ := tag_ref e1 (by omega) (by omega) (by omega)
      obtain ⟨_, _, _, _, _, rfl⟩ := tag_ref e2 (by omega) (by omega) (by omega)
      cases h1; cases h2
      exact ⟨equalIn_step fun d => by unfold Op.equalIn; simp only [Sem.run_bind, run_und ht, Result.andThen_ok]; rfl, fun op => by unfold eqGuard; split <;> rfl⟩
    · obtain ⟨_, _, _, _, _, rfl⟩ := tag_ref e1 (by omega) (by omega) (by omega)
      obtain ⟨a1, l1, rfl⟩ := tag_cmp (t := 0) e2 h2
      cases h1
      obtain ⟨z', rfl, _⟩ := h2.func_inv
      exact ⟨equalIn_step fun d => by unfold Op.equalIn; simp only [Sem.run_bind, run_und ht, Result.andThen_ok]; rfl, fun op => by unfold eqGuard; split <;> rfl⟩
    · obtain ⟨_, _, _, _, _, rfl⟩ := tag_ref e2 (by omega) (by omega) (by omega)
      obtain ⟨a1, l1, rfl⟩ := tag_cmp (t := 0) e1 h1
      cases h2
      obtain ⟨z', rfl, _⟩ := h1.func_inv
      exact ⟨equalIn_step fun d => by unfold Op.equalIn; simp only [Sem.run_bind, run_und ht, Result.andThen_ok]; rfl, fun op => by unfold eqGuard; split <;> rfl⟩
    · exact nomatch e1
  · exact nomatch hp
def Odd : Value → Prop
  | .int .. => False
  | .float .. => False
  | .complex .. => False
  | .string _ => False
  | _ => True
theorem odd_eql {t : TypeId} {x y : Value} (h : Odd x) : binOp .eql t x y = (do pure (.bool (← Op.equal t x y))) := by
  cases x <;> first | exact h.elim | rfl
theorem odd_neq {t : TypeId} {x y : Value} (h : Odd x) : binOp .neq t x y = (do pure (.bool (!(← Op.equal t x y)))) := by
  cases x <;> first | exact h.elim | rfl
theorem odd_of_tag {n : Nat} {u : V} {u' : Value} (h : VR ρ n u u') (h99 : u.tag ≠ 99) (h8 : u.tag ≠ 8) : Odd u' := by
  cases h <;> first | exact absurd rfl h99 | exact absurd rfl h8 | trivial
theorem eqT_range {t : TypeId} {p : Nat × Nat} {x y : Operand} (hp : eqT P t x y = some p) : p.1 ≠ 8 ∧ p.1 ≠ 99 ∧ p.2 ≠ 8 ∧ p.2 ≠ 99 := by
  unfold eqT at hp
  repeat' split at hp
  all_goals first | (obtain rfl := Option.some.inj hp; simp; done) | exact nomatch hp
theorem g_eqn (c : Ctx P base ρ st w nt tm a) {op : BinOp} {t u : TypeId} {p : Nat × Nat} {x y : Operand} {x' y' : X} {ne : Bool} (hop : (op = .eql ∧ ne = false) ∨ (op = .neq ∧ ne = true)) (hp : eqT P t x y = some p) (ho : o.op = .binOp op t x y u)
    (hx : compX P x = some x') (hy : compX P y = some y') (h : iEqn ne p.1 p.2 x' y' tm st = some v) : Gives P ρ st.next w a o v := by
  obtain ⟨b, h1, h2⟩ := orec_none h
  obtain rfl := Option.some.inj h2
  obtain ⟨h3, h4⟩ := eq_ok (w := w) hp (c.opd hx) (c.opd hy) h1
  refine gives (s := do eqGuard op t x y (a.eval x) (a.eval y); binOp op t (a.eval x) (a.eval y)) (by unfold execOp; rw [ho]) (v' := .bool (b != ne)) ?_ (.bool _)
  unfold Hands
  simp only [Sem.run_bind, h4, Result.andThen_ok]
  have hodd : Odd (a.eval x) := by
    have hr := eqT_range hp
    have h8 := c.opd hx
    rcases eqV_cases h1 with ⟨e1, _⟩ | ⟨e1, _⟩ | ⟨e1, _⟩ | ⟨_, ob, i, i', _, _, _, _, _, _, e1, _⟩
    · exact odd_of_tag h8 (by rw [e1]; exact hr.2.1) (by rw [e1]; exact hr.1)
    · exact odd_of_tag h8 (by rw [e1]; exact hr.2.1) (by rw [e1]; exact hr.1)
    · exact odd_of_tag h8 (by rw [e1]; exact hr.2.2.2) (by rw [e1]; exact hr.2.2.1)
    · rw [e1] at h8
      obtain ⟨_, h9⟩ := h8.ptr_inv
      rw [h9]; trivial
  rcases hop with ⟨rfl, rfl⟩ | ⟨rfl, rfl⟩
  · rw [odd_eql hodd]; simp only [Sem.run_bind, h3]; simp
  · rw [odd_neq hodd]; simp only [Sem.run_bind, h3]; simp
end ops
end Go.Proofs.YtnebopkgnkemiaaGreatDoor.Av
namespace Go.Proofs.YtnebopkgnkemiaaGreatDoor.Av
set_option linter.unusedVariables false
set_option linter.unusedSimpArgs false
open Go Go.RowKit
section ops
variable {P : Program} {base : Nat} {ρ : Map} {st st' : St} {w : World} {nt : Nat} {tm : Tr V} {a : Act} {o : Oper} {v : V}
def Turns (P : Program) (base : Nat) (ρ : Map) (st : St) (w : World) (a : Act) (o : Oper) (v : V) (st' : St) : Prop :=
  ∃ v' w' ρ', ((execOp a.eval o).run P w = .ok (.value v') w' ∨ ((execOp a.eval o).run P w = .ok .skip w' ∧ v' = Go.undef)) ∧
    Ext ρ ρ' st.next ∧ VR ρ' st'.next v v' ∧ Rel P base ρ' st' w' ∧ Turn st st' ∧ Below base w w' ∧ Dead ρ ρ' st st'
theorem lies_of {n : Nat} {p : Pl} {cs : List V} {c : Array Value} (h0 : p.off = 0) (h : VRs ρ n cs c.toList) (h1 : ∀ u ∈ c.toList, One u) : Lies ρ n p cs c := by
  intro j v hv
  obtain ⟨v', h2, h3⟩ := h.get j v hv
  refine ⟨v', by rw [h0, Nat.zero_add]; simpa using h2, h3, h1 v' (List.mem_of_getElem? h2)⟩
theorem below_push (hb : base ≤ w.heap.size) (x : Obj) : Below base w { w with heap := w.heap.push x } :=
  ⟨rfl, rfl, rfl, by simp, fun k hk => push_old w x (by omega)⟩
theorem new_cells (h : Rel P base ρ st w) (hb : base ≤ w.heap.size) {e z : Nat} (hz : sizeT P e = some z) {cs : List V} {c : Array Value} (hc : VRs ρ st.next cs (c.toList.take cs.length)) (h1 : ∀ u ∈ c.toList, One u) (e' : TypeId) {lo hi : Nat} (hf : hi ≤ lo ∨ c.size ≤ lo) :
    Rel P base (ρ.new st.next ⟨w.heap.size, 0, c.size, z, true⟩) (st.new (.cells e cs true)) { w with heap := w.heap.push (.cells c e' (lo, hi)) } := by
  refine h.push hb _ _ _ rfl ⟨c, e', lo, hi, ?_, ?_, rfl, fun _ => ⟨hz, hf⟩, fun h => nomatch h⟩
  · show (w.heap.push _)[w.heap.size]? = _; simp
  · intro j v hv
    obtain ⟨v', h2, h3⟩ := hc.get j v hv
    have hlt : j < cs.length := (List.getElem?_eq_some_iff.1 hv).1
    rw [List.getElem?_take, if_pos hlt] at h2
    exact ⟨v', by simpa using h2, h3.mono (Map.new_ext _ _ _) (Nat.le_succ _), h1 v' (List.mem_of_getElem? h2)⟩
theorem vr_new_ptr (p : Pl) (h0 : p.off = 0) (hs : p.b = w.heap.size) (hp : p.live = true := by rfl) : VR (ρ.new st.next p) (st.next + 1) (.ptr st.next 0) (.pointer (some ⟨w.heap.size, 0, none⟩)) := by
  have : (ρ.new st.next p st.next).at 0 = ⟨w.heap.size, 0, none⟩ := by rw [Map.new_same]; simp [Pl.at, h0, hs]
  rw [← this]
  exact .ptr _ _ (Map.new_lv ρ _ hp)
def SoftOk (P : Program) (o : Oper) (f : Tr V → St → Ev) : Prop :=
  ∀ {base : Nat} {ρ : Map} {st st' : St} {w : World} {nt : Nat} {tm : Tr V} {a : Act} {v : V}, Ctx P base ρ st w nt tm a → f tm st = some (v, st') →
    ∃ (r : Nat → V) (b : Ob) (v' : Value) (x : Obj) (p : Pl), (∀ st2, f tm st2 = some (r st2.next, st2.new b)) ∧ (execOp a.eval o).run P w = .ok (.value v') { w with heap := w.heap.push x } ∧
      p.b = w.heap.size ∧ p.live = true ∧ b.own = true ∧ OR P ρ st.next { w with heap := w.heap.push x } p b ∧ ∀ (ρ2 : Map) (n k : Nat), k < n → ρ2 k = p → VR ρ2 n (r k) v'
theorem e_soft {f : Tr V → St → Ev} (hf : SoftOk P o f) (c : Ctx P base ρ st w nt tm a) (hb : base ≤ w.heap.size) (h : f tm st = some (v, st')) : Turns P base ρ st w a o v st' := by
  obtain ⟨r, b, v', x, p, h1, h2, h3, h4, h5, h6, h7⟩ := hf c h
  rw [h1] at h
  obtain ⟨rfl, rfl⟩ := Prod.mk.inj (Option.some.inj h)
  refine ⟨v', _, ρ.new st.next p, .inl h2, Map.new_ext _ _ _, h7 _ _ _ (Nat.lt_succ_self _) (Map.new_same _ _ _), c.rel.push hb x b p h3 ?_, Turn.new _ _, below_push hb _, Dead.new _ _ _ _⟩
  exact h6.mono (Map.new_ext _ _ _) (Nat.le_succ _) rfl
theorem cells_or {n : Nat} {e z : Nat} (hz : sizeT P e = some z) {cs : List V} {c : Array Value} (hc : VRs ρ n cs (c.toList.take cs.length)) (h1 : ∀ u ∈ c.toList, One u) (e' : TypeId) :
    OR P ρ n { w with heap := w.heap.push (.cells c e' (0, 0)) } ⟨w.heap.size, 0, c.size, z, true⟩ (.cells e cs true) := by
  refine ⟨c, e', 0, 0, ?_, ?_, rfl, fun _ => ⟨hz, .inl (Nat.le_refl _)⟩, fun h => nomatch h⟩
  · show (w.heap.push _)[w.heap.size]? = _; simp
  · intro j v hv
    obtain ⟨v', h2, h3⟩ := hc.get j v hv
    have hlt : j < cs.length := (List.getElem?_eq_some_iff.1 hv).1
    rw [List.getElem?_take, if_pos hlt] at h2
    exact ⟨v', by simpa using h2, h3, h1 v' (List.mem_of_getElem? h2)⟩
theorem vr_ptr (p : Pl) (h0 : p.off = 0) (hs : p.b = w.heap.size) (hp : p.live = true) (ρ2 : Map) (n k : Nat) (hk : k < n) (h : ρ2 k = p) : VR ρ2 n (.ptr k 0) (.pointer (some ⟨w.heap.size, 0, none⟩)) := by
  have : (ρ2 k).at 0 = ⟨w.heap.size, 0, none⟩ := by rw [h]; simp [Pl.at, h0, hs]
  rw [← this]
  exact .ptr _ _ ⟨hk, by rw [h]; exact hp⟩
theorem s_alloc {e : TypeId} {z : List V} (hz : zerosT P e = some z) (ho : o.op = .alloc e) : SoftOk P o (iAlloc e z) := by
  intro base ρ st st' w nt tm a v c h
  obtain ⟨z', h3, h4, h5⟩ := zeros_ok (w := w) (ρ := ρ) (st := st) hz
  have hsz : ∃ n, sizeT P e = some n := by
    unfold zerosT at hz; unfold sizeT
    cases hi : P.info? e with
    | none => rw [hi] at hz; exact nomatch hz
    | some i => exact ⟨_, rfl⟩
  obtain ⟨n, hn⟩ := hsz
  have h6 := h4.length
  refine ⟨fun k => .ptr k 0, .cells e z true, .pointer (some ⟨w.heap.size, 0, none⟩), _, ⟨w.heap.size, 0, z'.cells.size, n, true⟩, fun _ => rfl, ?_, rfl, rfl, rfl, cells_or hn (c := z'.cells) (by rw [List.take_of_length_le (by omega)]; exact h4) h5 e, fun ρ2 n2 k hk h => vr_ptr _ rfl rfl rfl ρ2 n2 k hk h⟩
  have he : execOp a.eval o = (do pure (Next.value (← Instr.alloc e true (.tuple #[])))) := by unfold execOp; rw [ho]
  rw [he]
  simp only [Instr.alloc, Sem.run_bind, h3, Result.andThen_ok, newVar, newRow, run_newObj, Sem.run_pure]
theorem s_box {e : TypeId} {n : Nat} {x : Operand} {y : X} (hn : sizeT P e = some n) (hx : compX P x = some y) (ho : o.op = .box e x) : SoftOk P o (iBox e y) := by
  intro base ρ st st' w nt tm a v c h
  obtain ⟨cs, h1, h2⟩ := orec_none h
  obtain ⟨h4, h5⟩ := cells_vr h1 (c.opd hx)
  have h6 := h4.length
  refine ⟨fun k => .ptr k 0, .cells e cs true, .pointer (some ⟨w.heap.size, 0, none⟩), _, ⟨w.heap.size, 0, (a.eval x).cells.size, n, true⟩, fun st2 => ?_, ?_, rfl, rfl, rfl, cells_or hn (c := (a.eval x).cells) (by rw [List.take_of_length_le (by omega)]; exact h4) h5 e, fun ρ2 n2 k hk h => vr_ptr _ rfl rfl rfl ρ2 n2 k hk h⟩
  · show (Option.rec none (fun cs => some (.ptr st2.next 0, st2.new (.cells e cs true))) (y.ev tm).cells? : Ev) = _
    rw [h1]
  · have he : execOp a.eval o = (do pure (Next.value (← Instr.box e (a.eval x)))) := by unfold execOp; rw [ho]
    rw [he]
    simp only [Instr.box, Sem.run_bind, Result.andThen_ok, newVar, newRow, run_newObj, Sem.run_pure]
theorem vr_new_slice (p : Pl) (h0 : p.off = 0) (hs : p.b = w.heap.size) {len cap c : Nat} {x : Bool} (h1 : len ≤ cap) (h2 : cap ≤ c) (h3 : x = true → c = cap) (h4 : x = false → c * p.z ≤ p.tot) (hp : p.live = true := by rfl) :
    VR (ρ.new st.next p) (st.next + 1) (.slice st.next 0 len cap x) (.slice (some ⟨w.heap.size, 0, none⟩) len c) := by
  have : (ρ.new st.next p st.next).at 0 = ⟨w.heap.size, 0, none⟩ := by rw [Map.new_same]; simp [Pl.at, h0, hs]
  refine .slice _ _ _ _ _ _ _ (Map.new_lv ρ _ hp) h1 h2 h3 (.inr this.symm) fun hx => ?_
  rw [Map.new_same, h0]
  have := h4 hx
  omega
theorem rep_succ (n : Nat) (z : List V) : rep (n + 1) z = z ++ rep n z := by show appL z (rep n z) = _; rw [appL_eq]
theorem rep_length (n : Nat) (z : List V) : (rep n z).length = n * z.length := by
  induction n with
  | zero => show ([] : List V).length = _; simp
  | succ n ih => rw [rep_succ, List.length_append, ih, Nat.succ_mul]; omega
theorem rep_get (z : List V) (hz : z ≠ []) : ∀ (n i : Nat), i < n * z.length → (rep n z)[i]? = z[i % z.length]?
  | 0, i, h => by simp at h
  | n + 1, i, h => by
    have hpos : 0 < z.length := List.length_pos_iff.2 hz
    rw [rep_succ]
    by_cases hi : i < z.length
    · rw [List.getElem?_append_left hi, Nat.mod_eq_of_lt hi]
    · rw [List.getElem?_append_right (by omega), rep_get z hz n (i - z.length) (by rw [Nat.succ_mul] at h; omega)]
      congr 1
      rw [Nat.mod_eq_sub_mod (by omega : z.length ≤ i)]
theorem rep_vr {n : Nat} {z : List V} {z' : Array Value} (hz : VRs ρ st.next z z'.toList) (h1 : ∀ u ∈ z'.toList, One u) (hz0 : z ≠ []) : VRs ρ st.next (rep n z) ((Array.range (n * z.length)).map (fun i => z'[i % z'.size]!)).toList ∧ ∀ u ∈ ((Array.range (n * z.length)).map (fun i => z'[i % z'.size]!)).toList, One u := by
  have hlen : z.length = z'.size := by rw [hz.length]; simp
  have hpos : 0 < z'.size := by rw [← hlen]; exact List.length_pos_iff.2 hz0
  have hget : ∀ i, i < n * z.length → ((Array.range (n * z.length)).map (fun i => z'[i % z'.size]!)).toList[i]? = z'.toList[i % z'.size]? := by
    intro i hi
    have hm : i % z'.size < z'.size := Nat.mod_lt _ hpos
    have h1 : z'[i % z'.size]! = z'[i % z'.size] := getElem!_pos z' (i % z'.size) hm
    simp [hi, h1, hm]
  constructor
  · refine VRs.of_get (by simp [rep_length]) fun i v v' hv hv' => ?_
    have hi : i < n * z.length := by have := (List.getElem?_eq_some_iff.1 hv).1; rwa [rep_length] at this
    rw [rep_get z hz0 n i hi] at hv
    rw [hget i hi, ← hlen] at hv'
    obtain ⟨u', h2, h3⟩ := hz.get _ _ hv
    rw [h2] at hv'
    rw [← Option.some.inj hv']; exact h3
  · intro u hu
    obtain ⟨i, hi, rfl⟩ := List.mem_iff_getElem.1 hu
    have hi' : i < n * z.length := by simpa using hi
    have h2 := hget i hi'
    rw [List.getElem?_eq_getElem hi] at h2
    exact h1 _ (List.mem_of_getElem? h2.symm)
theorem s_bsl {t e : TypeId} {len n : Nat} {z : List V} {ps : Array (Nat × Operand)} {ys : List (Nat × Nat × X)} (ht : P.underlying t = some (.slice e)) (hn : sizeT P e = some n) (hz : zerosT P e = some z)
    (hzn : z.length = n) (hn0 : n ≠ 0) (hle : ¬ len * n > 2 ^ 24) (hps : compParts P (fun i => some (i * n, n)) ps.toList = some ys) (ho : o.op = .buildSlice t len ps) : SoftOk P o (iBsl e len (rep len z) ys) := by
  intro base ρ st st' w nt tm a v c h
  obtain ⟨r, h1, h2⟩ := orec_none h
  obtain ⟨z', h3, h4, h5⟩ := zeros_ok (w := w) (ρ := ρ) (st := st) hz
  have hz0 : z ≠ [] := fun e => hn0 (by rw [← hzn, e]; rfl)
  obtain ⟨h6, h7⟩ := rep_vr (n := len) h4 h5 hz0
  rw [hzn] at h6 h7
  obtain ⟨r', h8, h9, h10⟩ := fill_ok c hps h6 h7 h1
  have h11 := h9.length
  refine ⟨fun k => .slice k 0 len len true, .cells e r true, .slice (some ⟨w.heap.size, 0, none⟩) len len, .cells r' e (0, 0), ⟨w.heap.size, 0, r'.size, n, true⟩, fun st2 => ?_, ?_, rfl, rfl, rfl, cells_or hn (c := r') (by rw [List.take_of_length_le (by omega)]; exact h9) h10 e, fun ρ2 n2 k hk h => ?_⟩
  · show (Option.rec none (fun l => some (.slice st2.next 0 len len true, st2.new (.cells e l true))) (fillV tm (rep len z) ys) : Ev) = _
    rw [h1]
  rotate_left
  · refine .slice _ _ _ _ _ _ _ ⟨hk, by rw [h]⟩ (Nat.le_refl _) (Nat.le_refl _) (fun _ => rfl) (.inr ?_) (fun h => nomatch h)
    rw [h]; simp [Pl.at]
  have he : execOp a.eval o = (do pure (Next.value (← Instr.buildSlice t len (ps.map fun (i, x) => (i, a.eval x))))) := by unfold execOp; rw [ho]
  rw [he]
  have hmap : (ps.map fun (x : Nat × Operand) => (x.1, a.eval x.2)).toList = ps.toList.map fun (x : Nat × Operand) => (x.1, a.eval x.2) := by simp
  simp only [Instr.buildSlice, Sem.run_bind, run_und ht, run_size hn, Result.andThen_ok, hle, if_false]
  by_cases h0 : len * n = 0
  · have e0 : (Array.range (len * n)).map (fun i => z'.cells[i % z'.cells.size]!) = (Array.range (len * n)).map (fun i => (#[] : Array Value)[i % (#[] : Array Value).size]!) := by simp [h0]
    rw [e0] at h8
    rw [if_pos h0]
    simp only [Sem.run_pure, Result.andThen_ok, hmap, h8, newRow, run_newObj, Sem.run_bind]
  · rw [if_neg h0]
    simp only [Sem.run_bind, h3, Sem.run_pure, Result.andThen_ok, hmap, h8, newRow, run_newObj]
theorem wrap64_id {n : Nat} (h : n ≤ 9223372036854775807) : IntKind.i64.wrap (n : Int) = n := IntWalk.i64_in _ (by omega)
theorem e_mks (c : Ctx P base ρ st w nt tm a) (hb : base ≤ w.heap.size) {t e : TypeId} {n bytes : Nat} {z : List V} {l k : Operand} {l' k' : X} (ht : P.underlying t = some (.slice e)) (hn : sizeT P e = some n) (hz : zerosT P e = some z) (hby : bytesT P e = some bytes)
    (hzn : z.length = n) (hn0 : n ≠ 0) (hl : compX P l = some l') (hk : compX P k = some k') (ho : o.op = .makeSlice t l k) (h : iMks e bytes z l' k' tm st = some (v, st')) : Turns P base ρ st w a o v st' := by
  obtain ⟨kl, ln, hvl, h1⟩ := onNat_some h
  obtain ⟨kk, cp, hvk, h2⟩ := onNat_some h1
  obtain ⟨h3, h4⟩ := bif_none h2
  simp only [Bool.and_eq_true] at h3
  have e1 := ble_iff.1 h3.1
  have e2 : cp * bytes ≤ 140737488355328 := ble_iff.1 h3.2.1
  have e3 := ble_iff.1 h3.2.2
  obtain ⟨rfl, rfl⟩ := Prod.mk.inj (Option.some.inj h4)
  have h5 := c.opd hl
  have h6 := c.opd hk
  rw [hvl] at h5
  rw [hvk] at h6
  obtain ⟨_, _, h7⟩ := h5.int_inv
  obtain ⟨_, _, h8⟩ := h6.int_inv
  obtain ⟨z', h9, h10, h11⟩ := zeros_ok (w := w) (ρ := ρ) (st := st) hz
  have hz0 : z ≠ [] := fun e => hn0 (by rw [← hzn, e]; rfl)
  obtain ⟨h12, h13⟩ := rep_vr (n := cp) h10 h11 hz0
  rw [hzn] at h12 h13
  have h14 := h12.length
  have hinfo : ∃ i, P.info? e = some i ∧ i.bytes = bytes := by
    unfold bytesT at hby
    cases hi : P.info? e with
    | none => rw [hi] at hby; exact nomatch hby
    | some i => rw [hi] at hby; exact ⟨i, rfl, Option.some.inj hby⟩
  obtain ⟨i, hi, hib⟩ := hinfo
  refine ⟨.slice (some ⟨w.heap.size, 0, none⟩) ln cp, _, _, .inl ?_, Map.new_ext _ _ _, vr_new_slice ⟨w.heap.size, 0, ((Array.range (cp * n)).map (fun i => z'.cells[i % z'.cells.size]!)).size, n, true⟩ rfl rfl e1 (Nat.le_refl _) (fun _ => rfl) (fun h => nomatch h), new_cells c.rel hb hn (by rw [List.take_of_length_le (by omega)]; exact h12) h13 e (lo := 0) (hi := 0) (.inl (Nat.le_refl _)), Turn.new _ _, below_push hb _, Dead.new _ _ _ _⟩
  have he : execOp a.eval o = (do pure (Next.value (← Instr.makeSlice t (a.eval l) (a.eval k)))) := by unfold execOp; rw [ho]
  rw [he, h7, h8]
  have hw1 := wrap64_id (n := ln) (by omega)
  have hw2 := wrap64_id (n := cp) e3
  have hasI : ∀ (j : IntKind) (m : Int) (w : World), (asInt (.int j m)).run P w = .ok m w := fun j m w => by simp [asInt, asIntOf]
  have hlarge : ¬ ((cp : Int) < 0) := by omega
  have hlarge2 : ¬ ((bytes : Int) * (cp : Int) > 2 ^ 48) := by
    have : (bytes * cp : Nat) ≤ 140737488355328 := by rw [Nat.mul_comm]; exact e2
    have h' : ((bytes * cp : Nat) : Int) ≤ 140737488355328 := by omega
    rw [Int.natCast_mul] at h'
    omega
  have hc1 : ((decide ((cp : Int) < 0) || decide ((bytes : Int) * (cp : Int) > 2 ^ 48)) || decide ((ln : Int) < 0) || decide ((ln : Int) > (cp : Int))) = false := by
    simp only [Bool.or_eq_false_iff, decide_eq_false_iff_not]
    exact ⟨⟨⟨hlarge, hlarge2⟩, by omega⟩, by omega⟩
  simp only [Instr.makeSlice, Sem.run_bind, run_und ht, hasI, Result.andThen_ok, typeInfo, run_program, hi, Sem.run_pure, hib, hw1, hw2, hc1, Bool.false_eq_true, if_false, run_askRoom, Int.toNat_natCast, run_size hn]
  by_cases h0 : cp * n = 0
  · rw [if_pos h0]
    simp only [Sem.run_pure, Result.andThen_ok, newRow, run_newObj, Sem.run_bind]
    rw [show (Array.range (cp * n)).map (fun i => z'.cells[i % z'.cells.size]!) = (Array.range (cp * n)).map (fun i => (#[] : Array Value)[i % (#[] : Array Value).size]!) from by simp [h0]]
  · rw [if_neg h0]
    simp only [Sem.run_bind, h9, Sem.run_pure, Result.andThen_ok, newRow, run_newObj]
theorem s_mkm {t : TypeId} (ho : o.op = .makeMap t none) : SoftOk P o iMkm := by
  intro base ρ st st' w nt tm a v c h
  refine ⟨fun k => .map k, .map [], .map (some w.heap.size), .map #[] 0, ⟨w.heap.size, 0, 0, 0, true⟩, fun _ => rfl, ?_, rfl, rfl, rfl, ⟨#[], 0, by show (w.heap.push _)[w.heap.size]? = _; simp, trivial⟩, fun ρ2 n2 k hk h => ?_⟩
  · have he : execOp a.eval o = (do pure (Next.value (← Instr.makeMap t none))) := by unfold execOp; rw [ho]; rfl
    rw [he]
    simp only [Instr.makeMap, Sem.run_bind, run_newObj, Result.andThen_ok, Sem.run_pure]
  · have h2 := VR.map (ρ := ρ2) (n := n2) k ⟨hk, by rw [h]⟩
    rw [h] at h2
    exact h2
theorem e_rng (c : Ctx P base ρ st w nt tm a) (hb : base ≤ w.heap.size) {t : TypeId} {x : Operand} {y : X} (ht : P.underlying t = some .string) (hx : compX P x = some y) (ho : o.op = .range t x) (h : iRng y tm st = some (v, st')) : Turns P base ρ st w a o v st' := by
  obtain ⟨s, hv, h1⟩ := onStr_some h
  obtain ⟨rfl, rfl⟩ := Prod.mk.inj (Option.some.inj h1)
  have h8 := c.opd hx
  rw [hv] at h8
  have h9 := h8.str_inv
  refine ⟨.pointer (some ⟨w.heap.size, 0, none⟩), _, ρ.new st.next ⟨w.heap.size, 0, 0, 0, true⟩, .inl ?_, Map.new_ext _ _ _, vr_new_ptr ⟨w.heap.size, 0, 0, 0, true⟩ rfl rfl, c.rel.push hb (.stringIter ⟨⟨s⟩⟩ 0) (.iter s 0) _ rfl ⟨by show (w.heap.push _)[w.heap.size]? = _; simp, rfl⟩, Turn.new _ _, below_push hb _, Dead.new _ _ _ _⟩
  have he : execOp a.eval o = (do pure (Next.value (← Instr.range t (a.eval x)))) := by unfold execOp; rw [ho]
  rw [he, h9]
  simp only [Instr.range, Sem.run_bind, run_und ht, Result.andThen_ok, Sem.run_pure, run_newObj]
end ops
end Go.Proofs.YtnebopkgnkemiaaGreatDoor.Av
namespace Go.Proofs.YtnebopkgnkemiaaGreatDoor.Av
set_option linter.unusedVariables false
set_option linter.unusedSimpArgs false
open Go Go.RowKit
section ops
variable {P : Program} {base : Nat} {ρ : Map} {st st' : St} {w : World} {nt : Nat} {tm : Tr V} {a : Act} {o : Oper} {v : V}
structure OneTurned (w w' : World) (b : Nat) : Prop where
  os : w'.os = w.os
  tape : w'.tape = w.tape
  output : w'.output = w.output
  size : w'.heap.size = w.heap.size
  block : ∀ k, k ≠ b → w'.heap[k]? = w.heap[k]?
theorem OneTurned.refl (w : World) (b : Nat) : OneTurned w w b := ⟨rfl, rfl, rfl, rfl, fun _ _ => rfl⟩
theorem OneTurned.trans {a b c : World} {k : Nat} (h : OneTurned a b k) (h' : OneTurned b c k) : OneTurned a c k :=
  ⟨h'.os.trans h.os, h'.tape.trans h.tape, h'.output.trans h.output, h'.size.trans h.size, fun i hi => (h'.block i hi).trans (h.block i hi)⟩
theorem OneTurned.below {w w' : World} {b : Nat} (h : OneTurned w w' b) (hb : base ≤ b) : Below base w w' :=
  ⟨h.os, h.tape, h.output, by rw [h.size]; exact Nat.le_refl _, fun k hk => h.block k (by omega)⟩
theorem OneTurned.setCell (w : World) (p : Addr) (u : Value) : OneTurned w (w.setCell p u) p.block :=
  ⟨rfl, rfl, rfl, by simp [World.setCell], fun k hk => Below.heap_setCell _ _ _ _ hk⟩
theorem run_storeCells {b off lo hi : Nat} {e : TypeId} : ∀ (vs : List Value) (i : Nat) (w : World) (c : Array Value), w.heap[b]? = some (.cells c e (lo, hi)) → (hi ≤ lo ∨ c.size ≤ lo) → (∀ u ∈ vs, One u) → off + i + vs.length ≤ c.size →
    ∃ w' c', (storeCells ⟨b, off, none⟩ vs i).run P w = .ok () w' ∧ w'.heap[b]? = some (.cells c' e (lo, hi)) ∧ c'.toList = c.toList.take (off + i) ++ (vs ++ c.toList.drop (off + i + vs.length)) ∧ OneTurned w w' b
  | [], i, w, c, hh, hf, h1, hle => ⟨w, c, rfl, hh, by simp, OneTurned.refl _ _⟩
  | x :: vs, i, w, c, hh, hf, h1, hle => by
    simp only [List.length_cons] at hle
    have hlt : off + i < c.size := by omega
    have hcell : w.cell? ⟨b, off + i, none⟩ = some c[off + i] := by simp [World.cell?, hh, hlt]
    have hfr : w.frozen? ⟨b, off + i, none⟩ = false := by
      simp only [World.frozen?, hh]
      rw [Bool.and_eq_false_iff]
      simp only [decide_eq_false_iff_not]
      omega
    have hst : (store (⟨b, off + i, none⟩ : Addr) x).run P w = .ok () (w.setCell ⟨b, off + i, none⟩ x) := by
      rw [run_store P w _ x _ (h1 x (List.mem_cons_self ..))]
      simp [hcell, hfr]
    have hh' : (w.setCell ⟨b, off + i, none⟩ x).heap[b]? = some (.cells (c.setIfInBounds (off + i) x) e (lo, hi)) := by
      simp [World.setCell, Array.getElem?_modify, hh]
    obtain ⟨w', c', h2, h3, h4, h5⟩ := run_storeCells (off := off) vs (i + 1) _ _ hh' (by simpa using hf) (fun u hu => h1 u (List.mem_cons_of_mem _ hu)) (by simp; omega)
    refine ⟨w', c', ?_, h3, ?_, (OneTurned.setCell w ⟨b, off + i, none⟩ x).trans h5⟩
    · simp only [storeCells, Sem.run_bind, addr_add, hst, Result.andThen_ok]
      exact h2
    · rw [h4]
      simp only [Array.toList_setIfInBounds, List.length_cons]
      have e1 : (c.toList.set (off + i) x).take (off + (i + 1)) = c.toList.take (off + i) ++ [x] := by
        have hlt' : off + i < c.toList.length := by simpa using hlt
        rw [show off + (i + 1) = (off + i) + 1 from by omega, List.take_succ_eq_append_getElem (by simpa using hlt')]
        simp [List.take_set_of_le]
      have e2 : (c.toList.set (off + i) x).drop (off + (i + 1) + vs.length) = c.toList.drop (off + i + (vs.length + 1)) := by
        rw [List.drop_set_of_lt (by omega)]
        congr 1; omega
      rw [e1, e2]
      simp
theorem lies_splice {n : Nat} {p : Pl} {cs : List V} {c c' : Array Value} (h : Lies ρ n p cs c) {l : List V} {l' : List Value} {i : Nat} (hl : VRs ρ n l l') (h1 : ∀ u ∈ l', One u) (hle : i + l.length ≤ cs.length)
    (hbig : p.off + i + l'.length ≤ c.size) (hc : c'.toList = c.toList.take (p.off + i) ++ (l' ++ c.toList.drop (p.off + i + l'.length))) : Lies ρ n p (splice cs i l) c' := by
  intro j v hv
  rw [splice_eq] at hv
  have hll := hl.length
  have hjc : ∀ k : Nat, c'[k]? = c'.toList[k]? := fun k => Array.getElem?_toList.symm
  rw [hjc, hc]
  have ht : (cs.take i).length = i := by simp; omega
  have ht' : (c.toList.take (p.off + i)).length = p.off + i := by simp; omega
  by_cases hj : j < i
  · rw [List.getElem?_append_left (by omega), List.getElem?_take, if_pos hj] at hv
    obtain ⟨v', h2, h3, h4⟩ := h j v hv
    refine ⟨v', ?_, h3, h4⟩
    rw [List.getElem?_append_left (by omega), List.getElem?_take, if_pos (by omega)]
    simpa using h2
  · rw [List.getElem?_append_right (by omega), ht] at hv
    rw [List.getElem?_append_right (by omega), ht']
    by_cases hj2 : j - i < l.length
    · rw [List.getElem?_append_left hj2] at hv
      obtain ⟨v', h2, h3⟩ := hl.get _ _ hv
      refine ⟨v', ?_, h3, h1 v' (List.mem_of_getElem? h2)⟩
      rw [List.getElem?_append_left (by omega), show p.off + j - (p.off + i) = j - i from by omega]
      exact h2
    · rw [List.getElem?_append_right (by omega), List.getElem?_drop] at hv
      obtain ⟨v', h2, h3, h4⟩ := h _ v hv
      refine ⟨v', ?_, h3, h4⟩
      rw [List.getElem?_append_right (by omega), List.getElem?_drop]
      rw [show p.off + i + l'.length + (p.off + j - (p.off + i) - l'.length) = p.off + (i + l.length + (j - i - l.length)) from by omega]
      simpa using h2
theorem store_own (h : Rel P base ρ st w) {ob e nn : Nat} (hlv : Lv ρ nn ob) {cs : List V} (hg : st.mem.get ob = some (.cells e cs true)) {l : List V} {l' : List Value} {i : Nat} (hl : VRs ρ st.next l l') (h1 : ∀ u ∈ l', One u) (hle : i + l.length ≤ cs.length) :
    ∃ w', (storeCells ((ρ ob).at i) l').run P w = .ok () w' ∧ Rel P base ρ (st.put ob (some (.cells e (splice cs i l) true))) w' ∧ OneTurned w w' (ρ ob).b := by
  obtain ⟨c, e', lo, hi, h2, h3, h4, h5, h5'⟩ := h.at hg hlv
  obtain ⟨h6, h7⟩ := h5 rfl
  have hll := hl.length
  by_cases h0 : l' = []
  · subst h0
    have hl0 : l = [] := List.length_eq_zero_iff.1 hll
    subst hl0
    have hs : splice cs i [] = cs := by rw [splice_eq]; simp
    rw [hs]
    exact ⟨w, rfl, h.turn hlv hg rfl rfl (fun _ _ => rfl) ⟨c, e', lo, hi, h2, h3, h4, h5, h5'⟩, OneTurned.refl _ _⟩
  have hpos : 0 < l'.length := List.length_pos_iff.2 h0
  have hbig : (ρ ob).off + i + l'.length ≤ c.size := by
    obtain ⟨v', h8, _⟩ := h3 (i + l.length - 1) cs[i + l.length - 1] (List.getElem?_eq_getElem (by omega))
    have := (Array.getElem?_eq_some_iff.1 h8).1
    omega
  obtain ⟨w', c', h9, h10, h11, h12⟩ := run_storeCells (P := P) (off := (ρ ob).off + i) l' 0 w c h2 h7 h1 (by omega)
  have hsz : c'.size = c.size := by
    have := congrArg List.length h11
    simp at this
    omega
  refine ⟨w', h9, h.turn hlv hg rfl rfl h12.block ⟨c', e', lo, hi, h10, lies_splice h3 hl h1 hle hbig (by simpa using h11), hsz.trans h4, fun _ => ⟨h6, by rw [hsz]; exact h7⟩, fun h => nomatch h⟩, h12⟩
theorem e_store (c : Ctx P base ρ st w nt tm a) {t : TypeId} {n : Nat} {x y : Operand} {x' y' : X} (hn : sizeT P t = some n) (hx : compX P x = some x') (hy : compX P y = some y') (ho : o.op = .store t x y) (h : iStore n x' y' tm st = some (v, st')) : Turns P base ρ st w a o v st' := by
  obtain ⟨ob, i, _, _, _, hv, h1⟩ := onPtr_some h
  obtain ⟨l, h2, h3⟩ := orec_none h1
  obtain ⟨e, cs, own, hg, h4⟩ := onCells_some h3
  obtain ⟨h5, h6⟩ := bif_none h4
  simp only [Bool.and_eq_true, lenL_eq] at h5
  obtain ⟨rfl, h7, h8⟩ := h5
  have e1 := beq_iff.1 h7
  have e2 : i + n ≤ cs.length := ble_iff.1 h8
  obtain ⟨rfl, rfl⟩ := Prod.mk.inj (Option.some.inj h6)
  obtain ⟨h9, h10⟩ := cells_vr h2 (c.opd hy)
  have h11 := c.opd hx
  rw [hv] at h11
  obtain ⟨hlv, h12⟩ := h11.ptr_inv
  obtain ⟨w', h13, h14, h15⟩ := store_own c.rel hlv hg h9 h10 (i := i) (by omega)
  refine ⟨Go.undef, w', ρ, .inr ⟨?_, rfl⟩, Ext.refl _ _, .tup [] [] .nil, h14, Turn.put _ _ _, h15.below (c.rel.base ob _ hlv.2 hg rfl), Dead.put hlv.2 _⟩
  have he : execOp a.eval o = (do Instr.storeAt t (a.eval x) (a.eval y); pure Next.skip) := by unfold execOp; rw [ho]
  have hsz : (a.eval y).cells.size = n := by rw [← Array.length_toList, ← h9.length, e1]
  rw [he, h12]
  simp only [Instr.storeAt, Instr.sureAddr, storeVar, Sem.run_bind, Sem.run_pure, Result.andThen_ok, run_size hn, hsz, ne_eq, not_true, if_false, h13]
theorem setObj_ok {r : Nat} {x y : Obj} (hh : w.heap[r]? = some x) (hx : ∀ c e f, x ≠ .cells c e f) : (setObj r y).run P w = .ok () { w with heap := w.heap.setIfInBounds r y } := by
  simp only [setObj, Sem.run, hh]
theorem set_turned (w : World) (r : Nat) (y : Obj) : OneTurned w { w with heap := w.heap.setIfInBounds r y } r :=
  ⟨rfl, rfl, rfl, by simp, fun k hk => by show (w.heap.setIfInBounds r y)[k]? = _; rw [Array.getElem?_setIfInBounds_ne (Ne.symm hk)]⟩
theorem set_at {r : Nat} {x : Obj} (hh : w.heap[r]? = some x) (y : Obj) : ({ w with heap := w.heap.setIfInBounds r y } : World).heap[r]? = some y := by
  have hlt : r < w.heap.size := (Array.getElem?_eq_some_iff.1 hh).1
  show (w.heap.setIfInBounds r y)[r]? = _
  simp [hlt]
theorem e_nxt (c : Ctx P base ρ st w nt tm a) {x : Operand} {y : X} (hx : compX P x = some y) (ho : o.op = .next x true) (h : iNxt y tm st = some (v, st')) : Turns P base ρ st w a o v st' := by
  obtain ⟨ob, i, _, _, _, hv, h1⟩ := onPtr_some h
  obtain ⟨s, pos, hg, h2⟩ := onIter_some h1
  obtain ⟨h3, h4⟩ := bif_none h2
  obtain rfl := beq_iff.1 h3
  have h5 := c.opd hx
  rw [hv] at h5
  obtain ⟨hlv, h6⟩ := h5.ptr_inv
  obtain ⟨h7, h8⟩ := c.rel.at hg hlv
  have hat : (ρ ob).at 0 = ⟨(ρ ob).b, 0, none⟩ := by simp [Pl.at, h8]
  have he : execOp a.eval o = (do pure (Next.value (← Instr.next (a.eval x) true o.type))) := by unfold execOp; rw [ho]
  have hget : (getObj (ρ ob).b).run P w = .ok (.stringIter ⟨⟨s⟩⟩ pos) w := by simp [getObj, Sem.run, h7]
  cases hb : Nat.blt pos (lenL s) with
  | true =>
    rw [hb] at h4
    have hlt : pos < s.length := by rw [lenL_eq] at hb; exact blt_iff.1 hb
    have h4' : nxtV ob s pos (Utf8.decode ⟨⟨s⟩⟩ pos) st = some (v, st') := h4
    obtain ⟨rfl, rfl⟩ := Prod.mk.inj (Option.some.inj h4')
    refine ⟨.tuple #[.bool true, .int .i64 (pos : Int), .int .i32 ((Utf8.decode ⟨⟨s⟩⟩ pos).1 : Int)], _, ρ, .inl ?_, Ext.refl _ _,
      .tup _ [.bool true, .int .i64 (pos : Int), .int .i32 ((Utf8.decode ⟨⟨s⟩⟩ pos).1 : Int)] (.cons (.bool _) (.cons (.int .i64 _) (.cons (.int .i32 _) .nil))),
      c.rel.turn hlv hg rfl rfl (set_turned w _ (.stringIter ⟨⟨s⟩⟩ (pos + (Utf8.decode ⟨⟨s⟩⟩ pos).2))).block ⟨set_at h7 _, h8⟩, Turn.put _ _ _, (set_turned w _ _).below (c.rel.base ob _ hlv.2 hg rfl), Dead.put hlv.2 _⟩
    rw [he, h6, hat]
    have hlt' : pos < (⟨⟨s⟩⟩ : ByteArray).size := hlt
    simp only [Instr.next, Sem.run_bind, hget, Result.andThen_ok, hlt', if_true, setObj_ok h7 (fun _ _ _ h => nomatch h), Sem.run_pure, goInt]
  | false =>
    rw [hb] at h4
    have hge : ¬ pos < s.length := fun hh => by rw [lenL_eq, blt_iff.2 hh] at hb; exact nomatch hb
    have h4' : some (V.tup [.bool false], st) = some (v, st') := h4
    obtain ⟨rfl, rfl⟩ := Prod.mk.inj (Option.some.inj h4')
    refine ⟨.tuple #[.bool false], w, ρ, .inl ?_, Ext.refl _ _, .tup _ [.bool false] (.cons (.bool _) .nil), c.rel, Turn.refl _, Below.refl _ _, Dead.refl _ _⟩
    rw [he, h6, hat]
    have hge' : ¬ pos < (⟨⟨s⟩⟩ : ByteArray).size := hge
    simp only [Instr.next, Sem.run_bind, hget, Result.andThen_ok, hge', if_false, Sem.run_pure]
theorem updM_cons (kt : Nat) (k u : V) (e : V × V) (es : List (V × V)) : updM kt k u (e :: es) = match eqKey kt k e.1 with
    | some true => some ((k, u) :: es)
    | some false => (updM kt k u es).map (e :: ·)
    | none => none := rfl
theorem updM_ok {kt : Nat} {d : TypeDesc} (hd : KeyOf kt d) {n : Nat} {k u : V} {k' u' : Value} (hk : VR ρ n k k') (hu : VR ρ n u u') : ∀ {es : List (V × V)} {es' : List MapEntry} (_ : Entries ρ n es es') (i : Nat) {r : List (V × V)}, updM kt k u es = some r →
    (Instr.findNow d k' es' i = some none ∧ ∀ born, Entries ρ n r (es' ++ [{ key := k', val := u', born }])) ∨
    (∃ j e, Instr.findNow d k' es' i = some (some (i + j, e.val)) ∧ es'[j]? = some e ∧ Instr.sameBits 10000 e.key k' = true ∧ Entries ρ n r (es'.modify j fun e => { e with key := k', val := u' }))
  | [], [], _, i, r, h => by
    have h' : [(k, u)] = r := Option.some.inj h
    subst h'
    exact .inl ⟨rfl, fun born => ⟨hk, hu, trivial⟩⟩
  | (k1, v1) :: es, e :: es', hE, i, r, h => by
    rw [updM_cons] at h
    split at h
    · rename_i hq
      obtain ⟨h2, h3⟩ := eqKey_same hd hk hE.1 hq
      have h' : (k, u) :: es = r := Option.some.inj h
      subst h'
      exact .inr ⟨0, e, by simp [Instr.findNow, h2], rfl, h3 rfl, by simpa using ⟨hk, hu, hE.2.2⟩⟩
    · rename_i hq
      have h2 := (eqKey_same hd hk hE.1 hq).1
      cases hr : updM kt k u es with
      | none => rw [hr] at h; exact nomatch h
      | some r' =>
        rw [hr] at h
        have h' : (k1, v1) :: r' = r := Option.some.inj h
        subst h'
        rcases updM_ok hd hk hu hE.2.2 (i + 1) hr with ⟨h3, h4⟩ | ⟨j, e1, h3, h4, h5, h6⟩
        · exact .inl ⟨by simp [Instr.findNow, h2, h3], fun born => ⟨hE.1, hE.2.1, h4 born⟩⟩
        · exact .inr ⟨j + 1, e1, by simp [Instr.findNow, h2, h3]; omega, by simpa using h4, h5, by simpa using ⟨hE.1, hE.2.1, h6⟩⟩
    · exact nomatch h
  | [], _ :: _, hE, _, _, _ => hE.elim
  | _ :: _, [], hE, _, _, _ => hE.elim
theorem e_upd (c : Ctx P base ρ st w nt tm a) {t kt' et : TypeId} {kt : Nat} {d : TypeDesc} {m k x : Operand} {m' k' x' : X} (ht : P.underlying t = some (.map kt' et)) (hkt : P.underlying kt' = some d) (hd : KeyOf kt d) (hm : compX P m = some m') (hk : compX P k = some k') (hx : compX P x = some x')
    (ho : o.op = .mapUpdate t m k x ∨ o.op = .insert t m k x) (h : iUpd kt m' k' x' tm st = some (v, st')) : Turns P base ρ st w a o v st' := by
  rcases onMap_some h with ⟨_, _, _, _, _, _, h0⟩ | ⟨ob, _, _, _, _, hv, h1⟩
  · exact nomatch h0
  · obtain ⟨es, hg, h2⟩ := onMapO_some h1
    obtain ⟨r, h3, h4⟩ := orec_none h2
    obtain ⟨rfl, rfl⟩ := Prod.mk.inj (Option.some.inj h4)
    have h5 := c.opd hm
    rw [hv] at h5
    obtain ⟨hlv, h6⟩ := h5.map_inv
    obtain ⟨es', clock, h7, h8⟩ := c.rel.at hg hlv
    have he : execOp a.eval o = (do Instr.mapUpdate t (a.eval m) (a.eval k) (a.eval x); pure Next.skip) := by unfold execOp; rcases ho with ho | ho <;> rw [ho]
    rcases updM_ok hd (c.opd hk) (c.opd hx) h8 0 h3 with ⟨h9, h10⟩ | ⟨j, e, h9, h10, h11, h12⟩
    · refine ⟨Go.undef, _, ρ, .inr ⟨?_, rfl⟩, Ext.refl _ _, .tup [] [] .nil, c.rel.turn hlv hg rfl rfl (set_turned w _ (.map (es'.push { key := a.eval k, val := a.eval x, born := clock }) (clock + 1))).block ⟨_, _, set_at h7 _, by simpa using h10 clock⟩, Turn.put _ _ _, (set_turned w _ _).below (c.rel.base ob _ hlv.2 hg rfl), Dead.put hlv.2 _⟩
      rw [he, h6]
      simp only [Instr.mapUpdate, Sem.run_bind, run_und ht, Result.andThen_ok, run_getObj h7, checkKey_ok hd hkt, findKey_ok hkt h9, setObj_ok h7 (fun _ _ _ h => nomatch h), Sem.run_pure]
    · rw [Nat.zero_add] at h9
      refine ⟨Go.undef, _, ρ, .inr ⟨?_, rfl⟩, Ext.refl _ _, .tup [] [] .nil, c.rel.turn hlv hg rfl rfl (set_turned w _ (.map (es'.modify j fun e => { e with key := a.eval k, val := a.eval x }) clock)).block ⟨_, _, set_at h7 _, by simpa using h12⟩, Turn.put _ _ _, (set_turned w _ _).below (c.rel.base ob _ hlv.2 hg rfl), Dead.put hlv.2 _⟩
      rw [he, h6]
      have hkey : ((es'[j]?).map (·.key)).getD (a.eval k) = e.key := by
        have : es'[j]? = some e := by rw [← Array.getElem?_toList]; exact h10
        rw [this]; rfl
      simp only [Instr.mapUpdate, Sem.run_bind, run_und ht, Result.andThen_ok, run_getObj h7, checkKey_ok hd hkt, findKey_ok hkt h9, hkey, Instr.keyThatStays, h11, if_true, Sem.run_pure, setObj_ok h7 (fun _ _ _ h => nomatch h)]
end ops
end Go.Proofs.YtnebopkgnkemiaaGreatDoor.Av
namespace Go.Proofs.YtnebopkgnkemiaaGreatDoor.Av
set_option linter.unusedVariables false
set_option linter.unusedSimpArgs false
open Go Go.RowKit
section ops
variable {P : Program} {base : Nat} {ρ : Map} {st st' : St} {w : World} {nt : Nat} {tm : Tr V} {a : Act} {o : Oper} {v : V}
theorem str_bytes (s : List UInt8) (n : Nat) (hn : n = s.length) : (((⟨⟨s⟩⟩ : ByteArray).extract 0 n).data.map fun b => Value.int .u8 b.toNat).toList = s.map fun b => Value.int .u8 (b.toNat : Int) := by
  subst hn
  have : (⟨⟨s⟩⟩ : ByteArray).extract 0 s.length = ⟨⟨s⟩⟩ := by
    apply ByteArray.ext
    apply Array.toList_inj.1
    simp
  rw [this]
  simp
theorem bytes_vr (n : Nat) : ∀ s : List UInt8, VRs ρ n (s.map fun b => V.int 8 (b.toNat : Int)) (s.map fun b => Value.int .u8 (b.toNat : Int))
  | [] => .nil
  | b :: s => .cons (.int .u8 _) (bytes_vr n s)
theorem src_ok (h : Rel P base ρ st w) {sf : Bool} {size : Nat} {u : V} {u' : Value} (hu : VR ρ st.next u u') {news : List V} {m : Nat} (hs : srcF sf st size u = some (news, m)) (hs1 : sf = true → size = 1) :
    (∀ w, (Builtin.lenOf u').run P w = .ok m w) ∧ news.length = m * size ∧
    (∀ k, k ≤ m → ∀ w', w'.heap = w.heap → ∃ l', VRs ρ st.next (news.take (k * size)) l' ∧ (∀ x ∈ l', One x) ∧ (Builtin.firstCells size k u').run P w' = .ok l'.toArray w') := by
  cases sf with
  | true =>
    obtain ⟨s, rfl, h1⟩ := onStr_some (hs : u.onStr none (fun s => some (bytesV s, lenL s)) = some (news, m))
    obtain ⟨rfl, rfl⟩ := Prod.mk.inj (Option.some.inj h1)
    obtain rfl := hs1 rfl
    obtain rfl := hu.str_inv
    rw [lenL_eq, bytesV_eq]
    refine ⟨fun w => rfl, by simp, fun k hk w' _ => ⟨(s.take k).map fun b => Value.int .u8 (b.toNat : Int), by rw [Nat.mul_one, ← List.map_take]; exact bytes_vr _ _, fun x hx => by obtain ⟨b, _, rfl⟩ := List.mem_map.1 hx; rfl, ?_⟩⟩
    have e : (⟨⟨s⟩⟩ : ByteArray).extract 0 k = ⟨⟨s.take k⟩⟩ := by
      apply ByteArray.ext
      apply Array.toList_inj.1
      simp
    simp only [Builtin.firstCells, e, Sem.run_pure]
    congr 1
    apply Array.toList_inj.1
    simp
  | false =>
    rcases onSlice_some2 (hs : u.onSlice (u.onFsl none _) _ _ = some (news, m)) with ⟨_, _, _, _, _, rfl, h1⟩ | ⟨ob, i, n, cp, ex, rfl, h1⟩ | ⟨t1, _, _, _, n, cp, ex, cs, ht1, rfl, h1⟩
    rotate_left 2
    · obtain ⟨h3, h4⟩ := bif_none h1
      rw [lenL_eq] at h3
      have hle : n * size ≤ cs.length := ble_iff.1 h3
      simp only [takeL_eq] at h4
      obtain ⟨rfl, rfl⟩ := Prod.mk.inj (Option.some.inj h4)
      obtain ⟨ado, cp', cs', rfl, h10, h11, _, _, h12, h13, h14⟩ := hu.fsl_inv ht1
      have hnl : ∀ x y : Nat, x.mul y = x * y := fun _ _ => rfl
      refine ⟨fun w => rfl, by simp only [List.length_take, hnl]; omega, fun k hk w' hw' => ?_⟩
      have hks : k * size ≤ n * size := Nat.mul_le_mul_right _ hk
      by_cases hk0 : k * size = 0
      · rw [hk0]
        refine ⟨[], by simpa using VRs.nil, by simp, ?_⟩
        cases ado <;> simp [Builtin.firstCells, loadCells, hk0, loadCellsFrom]
      · obtain ⟨ad, rfl, h15⟩ := h12 (fun e => by rw [e] at hle; simp at hle; omega)
        obtain ⟨p, cc, e, lo, hi, rfl, h16, h17⟩ := fz_lies h h15 h13 h14
        obtain ⟨l', h18, h19, h20⟩ := run_loadCells (P := P) (w := w') h17 (by rw [hw']; exact h16) (k * size) 0 0 #[] (by omega)
        refine ⟨l', ?_, h20, ?_⟩
        · rw [List.take_take, hnl, Nat.min_eq_left hks]
          simpa using h19
        · simpa [Builtin.firstCells, loadCells] using h18
    · obtain ⟨rfl, rfl⟩ := Prod.mk.inj (Option.some.inj h1)
      obtain rfl := hu.nilSlice_inv
      exact ⟨fun w => rfl, by simp, fun k hk w' _ => ⟨[], by simpa using VRs.nil, by simp, rfl⟩⟩
    · obtain ⟨e, cs, own, hg, h2⟩ := onCells_some h1
      obtain ⟨h3, h4⟩ := bif_none h2
      rw [lenL_eq] at h3
      have hle : i + n * size ≤ cs.length := ble_iff.1 h3
      simp only [takeL_eq, dropL_eq] at h4
      obtain ⟨rfl, rfl⟩ := Prod.mk.inj (Option.some.inj h4)
      obtain ⟨ad, cp', rfl, hlv, h10, h11, _, h12, _⟩ := hu.slice_inv
      obtain ⟨cc, ee, lo, hi, h13, h14, _, _⟩ := h.at hg hlv
      have hnl : ∀ x y : Nat, x.mul y = x * y := fun _ _ => rfl
      refine ⟨fun w => rfl, by simp only [List.length_take, List.length_drop, hnl]; omega, fun k hk w' hw' => ?_⟩
      have hks : k * size ≤ n * size := Nat.mul_le_mul_right _ hk
      by_cases hk0 : k = 0
      · subst hk0
        exact ⟨[], by simpa using VRs.nil, by simp, by simp [Builtin.firstCells, loadCells, loadCellsFrom]⟩
      · have had : ad = (ρ ob).at i := h12.resolve_left (by omega)
        obtain ⟨l', h15, h16, h17⟩ := run_loadCells (P := P) (w := w') h14 (by rw [hw']; exact h13) (k * size) i 0 #[] (by omega)
        refine ⟨l', ?_, h17, ?_⟩
        · rw [List.take_take, hnl, Nat.min_eq_left hks]
          simpa using h16
        · rw [had]
          simpa [Builtin.firstCells, loadCells] using h15
theorem append_run {call : Call} {x y : Operand} {t u : TypeId} (ho : o.op = .call call) (hcb : call.callee = .builtin .append) (ha : call.args.toList = [x, y]) (hat : call.argTypes.toList = [t, u]) :
    execOp a.eval o = (do pure (Next.value (← Builtin.append_ #[t, u] o.type #[a.eval x, a.eval y]))) := by
  have harr : call.args = #[x, y] := by apply Array.toList_inj.1; rw [ha]
  have hatr : call.argTypes = #[t, u] := by apply Array.toList_inj.1; rw [hat]
  unfold execOp
  rw [ho]
  simp [resolve, hcb, harr, hatr, invoke, builtin]
theorem append_room {t u e ty : TypeId} {du : TypeDesc} {size n m : Nat} (ht : P.underlying t = some (.slice e)) (hu : P.underlying u = some du) (hdu : ∀ k, du ≠ .int k) (hn : sizeT P e = some size) {x : Value} (hlen : (Builtin.lenOf x).run P w = .ok m w)
    {ad : Option Addr} {c : Nat} (hroom : n + m ≤ c) {l' : List Value} (hsrc : (Builtin.firstCells size m x).run P w = .ok l'.toArray w) {w' : World} (hst : (match ad with | some b => storeCells (b.add (n * size)) l' | none => pure ()).run P w = .ok () w') :
    (Builtin.append_ #[t, u] ty #[.slice ad n c, x]).run P w = .ok (.slice ad (n + m) c) w' := by
  unfold Builtin.append_
  simp only [List.getElem?_toArray, List.getElem?_cons_zero, List.getElem?_cons_succ, Sem.run_bind, run_und ht, run_und hu, run_size hn, Result.andThen_ok, Sem.run_pure]
  simp only [Bool.false_eq_true, if_false, Sem.run_bind, hlen, Result.andThen_ok, if_pos hroom, Bool.not_false, if_true, hsrc]
  cases ad with
  | none =>
    have : w = w' := by simpa using hst
    subst this
    rfl
  | some b =>
    have hst' : (storeCells (b.add (n * size)) l').run P w = .ok () w' := hst
    simp only [Sem.run_bind, hst', Result.andThen_ok, Sem.run_pure]
theorem append_grows {t u e ty : TypeId} {du : TypeDesc} {size bytes n m : Nat} (ht : P.underlying t = some (.slice e)) (hu : P.underlying u = some du) (hdu : ∀ k, du ≠ .int k) (hn : sizeT P e = some size) (hby : bytesT P e = some bytes) (hby0 : bytes ≠ 0) {x : Value} (hlen : (Builtin.lenOf x).run P w = .ok m w)
    {ad : Option Addr} {c : Nat} (hroom : c < n + m) (hfit : (n + m) * bytes ≤ 140737488355328) {z' : Value} (hz : ∀ w, (zeroValue e).run P w = .ok z' w) {newCap : Nat} {w1 : World} (hw1 : w1 = { w with drawn := w.drawn + 1 }) (hcap : newCap = (Question.appendCap (n + m) c e).cut (w.tape w.drawn (.appendCap (n + m) c e)))
    {l l' : List Value} (hold : (Builtin.firstCells size n (.slice ad n c)).run P w1 = .ok l.toArray w1) (hsrc : (Builtin.firstCells size m x).run P w1 = .ok l'.toArray w1) :
    (Builtin.append_ #[t, u] ty #[.slice ad n c, x]).run P w = .ok (.slice (some ⟨w.heap.size, 0, none⟩) (n + m) newCap)
      { w1 with heap := w1.heap.push (.cells (l.toArray ++ l'.toArray ++ Builtin.zeroCells z'.cells (newCap - (n + m))) e (0, 0)) } := by
  have hinfo : ∃ i, P.info? e = some i ∧ i.bytes = bytes := by
    unfold bytesT at hby
    cases hi : P.info? e with
    | none => rw [hi] at hby; exact nomatch hby
    | some i => rw [hi] at hby; exact ⟨i, rfl, Option.some.inj hby⟩
  obtain ⟨i, hi, hib⟩ := hinfo
  have hti : ∀ w, (typeInfo e).run P w = .ok i w := fun w => by simp [typeInfo, hi]
  have h2 := growslice_fits (old := c) hroom hfit
  have h3 : ¬ Builtin.nextslicecap (n + m) c * bytes > 2 ^ 48 := by
    have : (2 : Nat) ^ 48 = 281474976710656 := by decide
    omega
  have h4 : ¬ (((n + m : Nat) : Int) > IntKind.i64.max ∧ (false = true ∨ bytes = 0)) := fun h => by
    rcases h.2 with h | h
    · exact nomatch h
    · exact hby0 h
  have hch : (choose (.appendCap (n + m) c e)).run P w = .ok newCap w1 := by
    rw [run_choose, hcap, hw1]
    rfl
  have hsz : w1.heap.size = w.heap.size := by rw [hw1]
  unfold Builtin.append_
  simp only [List.getElem?_toArray, List.getElem?_cons_zero, List.getElem?_cons_succ, Sem.run_bind, run_und ht, run_und hu, run_size hn, Result.andThen_ok, Sem.run_pure]
  simp only [Bool.false_eq_true, if_false, Sem.run_bind, hlen, Result.andThen_ok, if_neg (Nat.not_le.2 hroom), Bool.not_false, if_true, hti, hib]
  rw [if_neg (by simpa using h4)]
  simp only [Sem.run_bind, hti, Result.andThen_ok, hib, if_neg h3, hch, run_askRoom, hold, hsrc, hz, newRow, run_newObj, Sem.run_pure, hsz]
end ops
end Go.Proofs.YtnebopkgnkemiaaGreatDoor.Av
namespace Go.Proofs.YtnebopkgnkemiaaGreatDoor.Av
set_option linter.unusedVariables false
set_option linter.unusedSimpArgs false
open Go Go.RowKit
section ops
variable {P : Program} {base : Nat} {ρ : Map} {st st' : St} {w : World} {nt : Nat} {tm : Tr V} {a : Act} {o : Oper} {v : V}
theorem zeroCells_one {zc : Array Value} (h1 : ∀ u ∈ zc.toList, One u) (h0 : 0 < zc.size) (k : Nat) : ∀ u ∈ (Builtin.zeroCells zc k).toList, One u := by
  intro u hu
  obtain ⟨i, hi, rfl⟩ := List.mem_iff_getElem.1 hu
  have hm : i % zc.size < zc.size := Nat.mod_lt _ h0
  have : (Builtin.zeroCells zc k).toList[i] = zc[i % zc.size] := by
    simp only [Builtin.zeroCells, Array.toList_map, List.getElem_map, Array.toList_range, List.getElem_range]
    exact getElem!_pos zc (i % zc.size) hm
  rw [this]
  exact h1 _ (by simp)
structure ElemOk (P : Program) (t u e : TypeId) (size bytes : Nat) (z : List V) (sf : Bool) : Prop where
  ht : P.underlying t = some (.slice e)
  hu : ∃ du, P.underlying u = some du ∧ ∀ k, du ≠ .int k
  hn : sizeT P e = some size
  hz : zerosT P e = some z
  hby : bytesT P e = some bytes
  hzn : z.length = size
  hn0 : size ≠ 0
  hby0 : bytes ≠ 0
  hs1 : sf = true → size = 1
theorem grown_rel (h : Rel P base ρ st w) (hb : base ≤ w.heap.size) {e size need newCap : Nat} (hn : sizeT P e = some size) {w1 : World} (hw1 : w1 = { w with drawn := w.drawn + 1 }) (hcap : need ≤ newCap) {olds news : List V} {l l' : List Value} {zc : Array Value} (hzs : zc.size = size)
    (hl : VRs ρ st.next olds l) (hl' : VRs ρ st.next news l') (h1 : ∀ u ∈ l, One u) (h1' : ∀ u ∈ l', One u) (h1z : ∀ u ∈ zc.toList, One u) (h0 : size ≠ 0) (hlen : olds.length + news.length = need * size) :
    ∃ ρ', Ext ρ ρ' st.next ∧ VR ρ' (st.next + 1) (.slice st.next 0 need need false) (.slice (some ⟨w.heap.size, 0, none⟩) need newCap) ∧
      Rel P base ρ' (st.new (.cells e (olds ++ news) true)) { w1 with heap := w1.heap.push (.cells (l.toArray ++ l'.toArray ++ Builtin.zeroCells zc (newCap - need)) e (0, 0)) } ∧
      Below base w { w1 with heap := w1.heap.push (.cells (l.toArray ++ l'.toArray ++ Builtin.zeroCells zc (newCap - need)) e (0, 0)) } ∧ Dead ρ ρ' st (st.new (.cells e (olds ++ news) true)) := by
  subst hw1
  have hll := hl.length
  have hll' := hl'.length
  have hsz : (l.toArray ++ l'.toArray ++ Builtin.zeroCells zc (newCap - need)).size = newCap * size := by
    rw [Array.size_append, Array.size_append, size_zeroCells, hzs]
    simp only [List.size_toArray]
    rw [← hll, ← hll', hlen, ← Nat.add_mul]
    congr 1; omega
  have h2 : Rel P base ρ st { w with drawn := w.drawn + 1 } := h.of_heap rfl
  have h3 := new_cells h2 (w := { w with drawn := w.drawn + 1 }) hb hn (cs := olds ++ news) (c := l.toArray ++ l'.toArray ++ Builtin.zeroCells zc (newCap - need))
    (by
      have : (l.toArray ++ l'.toArray ++ Builtin.zeroCells zc (newCap - need)).toList.take (olds ++ news).length = l ++ l' := by
        simp only [Array.toList_append]
        rw [List.take_left' (by simp; omega)]
      rw [this]
      exact hl.append hl')
    (by
      intro u hu
      simp only [Array.toList_append, List.mem_append] at hu
      rcases hu with (hu | hu) | hu
      · exact h1 u hu
      · exact h1' u hu
      · exact zeroCells_one h1z (by omega) _ u hu) e (lo := 0) (hi := 0) (.inl (Nat.le_refl _))
  refine ⟨_, Map.new_ext _ _ _, ?_, h3, ?_, Dead.new _ _ _ _⟩
  · exact vr_new_slice (w := w) ⟨w.heap.size, 0, _, size, true⟩ rfl rfl (Nat.le_refl _) hcap (fun h => nomatch h) (fun _ => by show newCap * size ≤ _; rw [hsz]; exact Nat.le_refl _)
  · exact ⟨rfl, rfl, rfl, by simp, fun k hk => by show (w.heap.push _)[k]? = _; rw [Array.getElem?_push, if_neg (by omega)]⟩
theorem cut_ge (need old : Nat) (e : TypeId) (t : Nat) : need ≤ (Question.appendCap need old e).cut t := by show need ≤ need + _; omega
theorem e_app (c : Ctx P base ρ st w nt tm a) (hb : base ≤ w.heap.size) {call : Call} {x y : Operand} {t u e : TypeId} {size bytes : Nat} {z : List V} {sf : Bool} {x' y' : X} (ok : ElemOk P t u e size bytes z sf) (ho : o.op = .call call) (hcb : call.callee = .builtin .append)
    (ha : call.args.toList = [x, y]) (hat : call.argTypes.toList = [t, u]) (hx : compX P x = some x') (hy : compX P y = some y') (h : iApp sf e size bytes x' y' tm st = some (v, st')) : Turns P base ρ st w a o v st' := by
  obtain ⟨⟨news, m⟩, hs, h1⟩ := orec_none h
  obtain ⟨hlen, hnl, hsrc⟩ := src_ok c.rel (c.opd hy) hs ok.hs1
  obtain ⟨du, hu, hdu⟩ := ok.hu
  have he := append_run (a := a) ho hcb ha hat
  have hxr := c.opd hx
  obtain ⟨z', hz1, hz2, hz3⟩ := zeros_ok (w := w) (ρ := ρ) (st := st) ok.hz
  have hzw : ∀ w, (zeroValue e).run P w = .ok z' w := fun w1 => by
    obtain ⟨z2, hz4, _, _⟩ := zeros_ok (w := w1) (ρ := ρ) (st := st) ok.hz
    have : (zeroValue e).run P w1 = .ok z' w1 := by
      simp only [zeroValue, Sem.run_bind, typeInfo, run_program, Result.andThen_ok] at hz1 ⊢
      cases hi : P.info? e with
      | none => rw [hi] at hz1; simp at hz1
      | some i =>
        rw [hi] at hz1
        simp only [Sem.run_pure, Result.andThen_ok] at hz1 ⊢
        cases hzz : i.zero with
        | none => rw [hzz] at hz1; simp at hz1
        | some q => rw [hzz] at hz1; simp only [Sem.run_pure] at hz1 ⊢; injection hz1 with e1 _; rw [e1]
    exact this
  have hzs : z'.cells.size = size := by rw [← Array.length_toList, ← hz2.length, ok.hzn]
  obtain ⟨w1, hw1⟩ : ∃ w1 : World, w1 = { w with drawn := w.drawn + 1 } := ⟨_, rfl⟩
  have hheap : w1.heap = w.heap := by rw [hw1]
  rcases onSlice_some2 (h1 : (x'.ev tm).onSlice ((x'.ev tm).onFsl none (appF st e size bytes news m)) (appNil st e bytes news m) (fun o i n cap ex => bif Nat.ble (Nat.add n m) cap then appIn st size news m o i n cap ex else appNew st e size bytes news m o i n ex) = some (v, st')) with ⟨_, _, _, _, _, hv, h2⟩ | ⟨ob, i, n, cap, ex, hv, h2⟩ | ⟨t1, _, _, _, n, cap, ex, cs, ht1, hv, h2⟩
  rotate_left 2
  ·
    rw [hv] at hxr
    obtain ⟨ad, c', cs', hxe, hncap, hcapc, hex, hadn, hfz, hcs, hone⟩ := hxr.fsl_inv ht1
    unfold appF at h2
    cases hm : Nat.beq m 0 with
    | true =>
      rw [hm, cond_true] at h2
      obtain rfl := beq_iff.1 hm
      obtain ⟨rfl, rfl⟩ := Prod.mk.inj (Option.some.inj h2)
      obtain ⟨l', h5, _, h7⟩ := hsrc 0 (Nat.le_refl _) w rfl
      have hl0 : l' = [] := by
        have := h5.length
        simp at this
        exact List.length_eq_zero_iff.1 this.symm
      subst hl0
      have hrun := append_room (ty := o.type) ok.ht hu hdu ok.hn (hlen w) (ad := ad) (n := n) (c := c') (by omega) h7 (w' := w) (by cases ad <;> rfl)
      refine ⟨.slice ad n c', w, ρ, .inl (by rw [he, hxe]; simp only [Sem.run_bind, hrun, Result.andThen_ok, Sem.run_pure]; rfl), Ext.refl _ _, VR.fsl_mk ht1 hncap hcapc hex hadn hfz hcs hone, c.rel, Turn.refl _, Below.refl _ _, Dead.refl _ _⟩
    | false =>
      rw [hm, cond_false] at h2
      obtain ⟨h9, h10⟩ := bif_none h2
      simp only [Bool.and_eq_true, lenL_eq] at h9
      obtain ⟨rfl, h11, h12, h13⟩ := h9
      have hnofit : cap < n + m := blt_iff.1 h11
      have hle : n * size ≤ cs.length := ble_iff.1 h12
      have hfit : (n + m) * bytes ≤ 140737488355328 := ble_iff.1 h13
      simp only [takeL_eq, appL_eq] at h10
      obtain ⟨rfl, rfl⟩ := Prod.mk.inj (Option.some.inj h10)
      have hold : ∃ l, VRs ρ st.next (cs.take (n * size)) l ∧ (∀ q ∈ l, One q) ∧ (Builtin.firstCells size n (.slice ad n c')).run P w1 = .ok l.toArray w1 := by
        by_cases hk0 : n * size = 0
        · rw [hk0]
          refine ⟨[], by simpa using VRs.nil, by simp, ?_⟩
          cases ad <;> simp [Builtin.firstCells, loadCells, hk0, loadCellsFrom]
        · obtain ⟨ad, rfl, h15⟩ := hfz (fun e => by rw [e] at hle; simp at hle; omega)
          obtain ⟨p, cc, e, lo, hi, rfl, h16, h17⟩ := fz_lies c.rel h15 hcs hone
          obtain ⟨l', h18, h19, h20⟩ := run_loadCells (P := P) (w := w1) h17 (by rw [hheap]; exact h16) (n * size) 0 0 #[] (by omega)
          exact ⟨l', by simpa using h19, h20, by simpa [Builtin.firstCells, loadCells] using h18⟩
      obtain ⟨l, h16, h17, h18⟩ := hold
      obtain ⟨l', h5, h6, h7⟩ := hsrc m (Nat.le_refl _) w1 hheap
      rw [List.take_of_length_le (by omega)] at h5
      have hcut := cut_ge (n + m) c' e (w.tape w.drawn (.appendCap (n + m) c' e))
      have hlen2 : (cs.take (n * size)).length + news.length = (n + m) * size := by rw [hnl, Nat.add_mul]; simp; omega
      have hrun := append_grows (ty := o.type) (x := a.eval y) ok.ht hu hdu ok.hn ok.hby ok.hby0 (hlen w) (ad := ad) (n := n) (c := c') (by rw [hex rfl]; exact hnofit) hfit hzw hw1 rfl h18 h7
      obtain ⟨ρ', g1, g2, g3, g4, g5⟩ := grown_rel c.rel hb ok.hn hw1 hcut hzs h16 h5 h17 h6 hz3 ok.hn0 hlen2
      exact ⟨_, _, ρ', .inl (by rw [he, hxe]; simp only [Sem.run_bind, hrun, Result.andThen_ok, Sem.run_pure]), g1, g2, g3, Turn.new _ _, g4, g5⟩
  ·
    rw [hv] at hxr
    have hxe := hxr.nilSlice_inv
    unfold appNil at h2
    cases hm : Nat.beq m 0 with
    | true =>
      rw [hm] at h2
      obtain rfl := beq_iff.1 hm
      obtain ⟨rfl, rfl⟩ := Prod.mk.inj (Option.some.inj (h2 : some (V.nilSlice, st) = some (v, st')))
      obtain ⟨l', _, _, h5⟩ := hsrc 0 (Nat.le_refl _) w rfl
      refine ⟨.slice none 0 0, w, ρ, .inl ?_, Ext.refl _ _, .nilSlice, c.rel, Turn.refl _, Below.refl _ _, Dead.refl _ _⟩
      rw [he, hxe]
      have := append_room (ty := o.type) ok.ht hu hdu ok.hn (hlen w) (ad := none) (n := 0) (c := 0) (by omega) h5 (w' := w) rfl
      simp only [Sem.run_bind, this, Result.andThen_ok, Sem.run_pure]
    | false =>
      rw [hm] at h2
      obtain ⟨h3, h4⟩ := bif_none (h2 : (bif Nat.ble (Nat.mul m bytes) 140737488355328 then some (V.slice st.next 0 m m false, st.new (.cells e news true)) else none) = some (v, st'))
      have hfit : m * bytes ≤ 140737488355328 := ble_iff.1 h3
      obtain ⟨rfl, rfl⟩ := Prod.mk.inj (Option.some.inj h4)
      have hm0 : m ≠ 0 := fun e => by rw [e] at hm; exact nomatch hm
      obtain ⟨l', h5, h6, h7⟩ := hsrc m (Nat.le_refl _) w1 hheap
      rw [List.take_of_length_le (by omega)] at h5
      obtain ⟨ρ', h8, h9, h10, h11, h11d⟩ := grown_rel c.rel hb ok.hn hw1 (cut_ge m 0 e (w.tape w.drawn (.appendCap m 0 e))) (olds := []) (l := []) hzs .nil h5 (by simp) h6 hz3 ok.hn0 (by simpa using hnl)
      have hrun := append_grows (ty := o.type) (x := a.eval y) ok.ht hu hdu ok.hn ok.hby ok.hby0 (hlen w) (ad := none) (n := 0) (c := 0) (by omega) (by simpa using hfit) hzw hw1 rfl (l := []) rfl h7
      simp only [Nat.zero_add] at hrun
      refine ⟨_, _, ρ', .inl (by rw [he, hxe]; simp only [Sem.run_bind, hrun, Result.andThen_ok, Sem.run_pure]), h8, h9, by simpa using h10, Turn.new _ _, h11, h11d⟩
  ·
    rw [hv] at hxr
    obtain ⟨ad, c', hxe, hob, hncap, hcapc, hex, hadr, htot⟩ := hxr.slice_inv
    cases hb1 : Nat.ble (Nat.add n m) cap with
    | true =>
      have hfits : n + m ≤ cap := ble_iff.1 hb1
      rw [hb1] at h2
      have h2' : (bif Nat.beq m 0 then some (V.slice ob i n cap ex, st) else onCells none (fun e' cs w => bif w && Nat.ble (Nat.add i (Nat.mul (Nat.add n m) size)) (lenL cs) then
        some (V.slice ob i (Nat.add n m) cap ex, st.put ob (some (.cells e' (splice cs (Nat.add i (Nat.mul n size)) news) true))) else none) (st.mem.get ob)) = some (v, st') := h2
      obtain ⟨l', h5, h6, h7⟩ := hsrc m (Nat.le_refl _) w rfl
      rw [List.take_of_length_le (by omega)] at h5
      cases hm : Nat.beq m 0 with
      | true =>
        rw [hm] at h2'
        obtain rfl := beq_iff.1 hm
        obtain ⟨rfl, rfl⟩ := Prod.mk.inj (Option.some.inj (h2' : some (V.slice ob i n cap ex, st) = some (v, st')))
        have hl0 : l' = [] := by
          have := h5.length
          rw [hnl] at this
          exact List.length_eq_zero_iff.1 (by omega)
        subst hl0
        have hrun := append_room (ty := o.type) ok.ht hu hdu ok.hn (hlen w) (ad := some ad) (n := n) (c := c') (by omega) h7 (w' := w) rfl
        refine ⟨.slice (some ad) n c', w, ρ, .inl (by rw [he, hxe]; simp only [Sem.run_bind, hrun, Result.andThen_ok, Sem.run_pure]; rfl), Ext.refl _ _, by rw [← hxe]; exact hxr, c.rel, Turn.refl _, Below.refl _ _, Dead.refl _ _⟩
      | false =>
        rw [hm] at h2'
        have hm0 : m ≠ 0 := fun e => by rw [e] at hm; exact nomatch hm
        obtain ⟨e', cs, own, hg, h8⟩ := onCells_some (h2' : onCells none _ (st.mem.get ob) = some (v, st'))
        obtain ⟨h9, h10⟩ := bif_none h8
        simp only [Bool.and_eq_true, lenL_eq] at h9
        obtain ⟨rfl, h11⟩ := h9
        have h12 : i + (n + m) * size ≤ cs.length := ble_iff.1 h11
        obtain ⟨rfl, rfl⟩ := Prod.mk.inj (Option.some.inj h10)
        have had : ad = (ρ ob).at i := hadr.resolve_left (by omega)
        rw [Nat.add_mul] at h12
        obtain ⟨w', h13, h14, h15⟩ := store_own c.rel hob hg h5 h6 (i := i + n * size) (by omega)
        have hrun := append_room (ty := o.type) ok.ht hu hdu ok.hn (hlen w) (ad := some ad) (n := n) (c := c') (by omega) h7 (w' := w') (by rw [had]; show (storeCells (((ρ ob).at i).add (n * size)) l').run P w = _; rw [Pl.at_add]; exact h13)
        refine ⟨.slice (some ad) (n + m) c', w', ρ, .inl (by rw [he, hxe]; simp only [Sem.run_bind, hrun, Result.andThen_ok, Sem.run_pure]), Ext.refl _ _, .slice _ _ _ _ _ _ _ hob hfits hcapc hex hadr htot, h14, Turn.put _ _ _, h15.below (c.rel.base ob _ hob.2 hg rfl), Dead.put hob.2 _⟩
    | false =>
      have hnofit : cap < n + m := by
        have : ¬ n + m ≤ cap := fun h => by rw [show Nat.ble (Nat.add n m) cap = true from bleT h] at hb1; exact nomatch hb1
        omega
      rw [hb1] at h2
      obtain ⟨e', cs, own, hg, h8⟩ := onCells_some (h2 : onCells none _ (st.mem.get ob) = some (v, st'))
      obtain ⟨h9, h10⟩ := bif_none h8
      simp only [Bool.and_eq_true, lenL_eq] at h9
      have h11 : i + n * size ≤ cs.length := ble_iff.1 h9.1
      have hfit : (n + m) * bytes ≤ 140737488355328 := ble_iff.1 h9.2
      simp only [takeL_eq, dropL_eq, appL_eq] at h10
      obtain ⟨cc, ee, lo, hi, h12, h13, h14, h15, _⟩ := c.rel.at hg hob
      have hold : ∀ w2 : World, w2.heap = w.heap → ∃ l, VRs ρ st.next ((cs.drop i).take (n * size)) l ∧ (∀ q ∈ l, One q) ∧ (Builtin.firstCells size n (.slice (some ad) n c')).run P w2 = .ok l.toArray w2 := fun w2 hw2 => by
        by_cases hn : n = 0
        · subst hn
          exact ⟨[], by simpa using VRs.nil, by simp, by simp [Builtin.firstCells, loadCells, loadCellsFrom]⟩
        · have had : ad = (ρ ob).at i := hadr.resolve_left (by omega)
          obtain ⟨l, h16, h17, h18⟩ := run_loadCells (P := P) (w := w2) h13 (by rw [hw2]; exact h12) (n * size) i 0 #[] (by omega)
          exact ⟨l, by simpa using h17, h18, by rw [had]; simpa [Builtin.firstCells, loadCells] using h16⟩
      have holen : ((cs.drop i).take (n * size)).length = n * size := by simp; omega
      have grows : c' < n + m → ∀ st2 : St, st2.next = st.next → Rel P base ρ st2 w → ∃ v' w' ρ', (execOp a.eval o).run P w = .ok (.value v') w' ∧ Ext ρ ρ' st.next ∧ VR ρ' (st.next + 1) (.slice st.next 0 (n + m) (n + m) false) v' ∧
          Rel P base ρ' (st2.new (.cells e ((cs.drop i).take (n * size) ++ news) true)) w' ∧ Below base w w' ∧ Dead ρ ρ' st2 (st2.new (.cells e ((cs.drop i).take (n * size) ++ news) true)) := fun hlt st2 hst2 hrel2 => by
        obtain ⟨l, h16, h17, h18⟩ := hold w1 hheap
        obtain ⟨l', h5, h6, h7⟩ := hsrc m (Nat.le_refl _) w1 hheap
        rw [List.take_of_length_le (by omega)] at h5
        have hcut := cut_ge (n + m) c' e (w.tape w.drawn (.appendCap (n + m) c' e))
        have hlen2 : ((cs.drop i).take (n * size)).length + news.length = (n + m) * size := by rw [holen, hnl, Nat.add_mul]
        have hrun := append_grows (ty := o.type) (x := a.eval y) ok.ht hu hdu ok.hn ok.hby ok.hby0 (hlen w) (ad := some ad) (n := n) (c := c') hlt hfit hzw hw1 rfl h18 h7
        obtain ⟨ρ', g1, g2, g3, g4, g5⟩ := grown_rel hrel2 hb ok.hn hw1 hcut hzs (by rw [hst2]; exact h16) (by rw [hst2]; exact h5) h17 h6 hz3 ok.hn0 hlen2
        rw [hst2] at g1 g2
        exact ⟨_, _, ρ', by rw [he, hxe]; simp only [Sem.run_bind, hrun, Result.andThen_ok, Sem.run_pure], g1, g2, g3, g4, g5⟩
      cases ex with
      | true =>
        obtain ⟨rfl, rfl⟩ := Prod.mk.inj (Option.some.inj (h10 : some (V.slice st.next 0 (n + m) (n + m) false, st.new (.cells e ((cs.drop i).take (n * size) ++ news) true)) = some (v, st')))
        obtain ⟨v', w', ρ', g1, g2, g3, g4, g5, g6⟩ := grows (by rw [hex rfl]; exact hnofit) st rfl c.rel
        exact ⟨v', w', ρ', .inl g1, g2, g3, g4, Turn.new _ _, g5, g6⟩
      | false =>
        obtain ⟨h16, h17⟩ := bif_none (h10 : (bif own && Nat.beq e e' then some (V.slice st.next 0 (n + m) (n + m) false, (st.put ob none).new (.cells e ((cs.drop i).take (n * size) ++ news) true)) else none) = some (v, st'))
        simp only [Bool.and_eq_true] at h16
        obtain ⟨rfl, h18⟩ := h16
        obtain rfl := beq_iff.1 h18
        obtain ⟨rfl, rfl⟩ := Prod.mk.inj (Option.some.inj h17)
        have hturn : Turn st ((st.put ob none).new (.cells e ((cs.drop i).take (n * size) ++ news) true)) := (Turn.put st ob none).trans (Turn.new _ _)
        by_cases hroom : n + m ≤ c'
        ·
          obtain ⟨h19, h20⟩ := h15 rfl
          have hzsz : size = (ρ ob).z := Option.some.inj (ok.hn.symm.trans h19)
          have htot' := htot rfl
          rw [← hzsz] at htot'
          have hm1 : (n + m) * size ≤ c' * size := Nat.mul_le_mul_right _ hroom
          rw [Nat.add_mul] at hm1
          have hm0 : n + m ≠ 0 := by omega
          have had : ad = (ρ ob).at i := hadr.resolve_left (by omega)
          obtain ⟨l', h5, h6, h7⟩ := hsrc m (Nat.le_refl _) w rfl
          rw [List.take_of_length_le (by omega)] at h5
          have hll := h5.length
          obtain ⟨w', c2, g1, g2, g3, g4⟩ := run_storeCells (P := P) (off := (ρ ob).off + i + n * size) l' 0 w cc h12 h20 h6 (by omega)
          have hrun := append_room (ty := o.type) ok.ht hu hdu ok.hn (hlen w) (ad := some ad) (n := n) (c := c') hroom h7 (w' := w') (by rw [had]; show (storeCells (((ρ ob).at i).add (n * size)) l').run P w = _; rw [Pl.at_add]; rw [Nat.add_assoc] at g1; exact g1)
          have hsz2 : c2.size = cc.size := by
            have := congrArg List.length g3
            simp at this
            omega
          refine ⟨.slice (some ad) (n + m) c', w', ρ.new st.next ⟨(ρ ob).b, (ρ ob).off + i, (ρ ob).tot, size, true⟩, .inl (by rw [he, hxe]; simp only [Sem.run_bind, hrun, Result.andThen_ok, Sem.run_pure]), Map.new_ext _ _ _, ?_, ?_, hturn, g4.below (c.rel.base ob _ hob.2 hg rfl), (Dead.put hob.2 none).trans (Dead.new ρ (st.put ob none) _ _) (Nat.le_refl _)⟩
          · refine .slice _ _ _ _ _ _ _ (Map.new_lv ρ _ rfl) (Nat.le_refl _) hroom (fun h => nomatch h) (.inr ?_) (fun _ => ?_)
            · rw [Map.new_same, had]; simp [Pl.at]
            · rw [Map.new_same]; show (ρ ob).off + i + 0 + c' * size ≤ (ρ ob).tot; omega
          · refine c.rel.take hob hg rfl ⟨(ρ ob).b, (ρ ob).off + i, (ρ ob).tot, size, true⟩ rfl g4.block ⟨c2, ee, lo, hi, g2, ?_, hsz2.trans h14, fun _ => ⟨ok.hn, by rw [hsz2]; exact h20⟩, fun h => nomatch h⟩
            intro j q hq0
            have hq : ((cs.drop i).take (n * size) ++ news)[j]? = some q := hq0
            have hext := Map.new_ext ρ st.next ⟨(ρ ob).b, (ρ ob).off + i, (ρ ob).tot, size, true⟩
            have hc2 : ∀ k : Nat, c2[k]? = c2.toList[k]? := fun k => Array.getElem?_toList.symm
            have htk : (cc.toList.take ((ρ ob).off + i + n * size + 0)).length = (ρ ob).off + i + n * size := by simp; omega
            show ∃ v', c2[(ρ ob).off + i + j]? = some v' ∧ _
            rw [hc2, g3]
            by_cases hj : j < n * size
            · rw [List.getElem?_append_left (by omega), List.getElem?_take, if_pos hj, List.getElem?_drop] at hq
              obtain ⟨q', k1, k2, k3⟩ := h13 _ q hq
              refine ⟨q', ?_, k2.mono hext (Nat.le_succ _), k3⟩
              rw [List.getElem?_append_left (by omega), List.getElem?_take, if_pos (by omega)]
              rw [Nat.add_assoc]
              simpa using k1
            · rw [List.getElem?_append_right (by omega), holen] at hq
              obtain ⟨q', k1, k2⟩ := h5.get _ q hq
              refine ⟨q', ?_, k2.mono hext (Nat.le_succ _), h6 q' (List.mem_of_getElem? k1)⟩
              have hjl : j - n * size < l'.length := (List.getElem?_eq_some_iff.1 k1).1
              rw [List.getElem?_append_right (by omega), htk, List.getElem?_append_left (by omega), show (ρ ob).off + i + j - ((ρ ob).off + i + n * size) = j - n * size from by omega]
              exact k1
        · obtain ⟨v', w', ρ', g1, g2, g3, g4, g5, g6⟩ := grows (by omega) (st.put ob none) rfl (c.rel.drop ob)
          exact ⟨v', w', ρ', .inl g1, g2, g3, g4, hturn, g5, (Dead.put hob.2 none).trans g6 (Nat.le_refl _)⟩
end ops
end Go.Proofs.YtnebopkgnkemiaaGreatDoor.Av
namespace Go.Proofs.YtnebopkgnkemiaaGreatDoor.Av
set_option linter.unusedVariables false
set_option linter.unusedSimpArgs false
open Go Go.RowKit
section ops
variable {P : Program} {base : Nat} {ρ : Map} {st st' : St} {w : World} {nt : Nat} {tm : Tr V} {a : Act} {o : Oper} {v : V}
theorem copy_run {call : Call} {x y : Operand} {t u : TypeId} (ho : o.op = .call call) (hcb : call.callee = .builtin .copy) (ha : call.args.toList = [x, y]) (hat : call.argTypes.toList = [t, u]) :
    execOp a.eval o = (do pure (Next.value (← Builtin.copy_ #[t, u] o.type #[a.eval x, a.eval y]))) := by
  have harr : call.args = #[x, y] := by apply Array.toList_inj.1; rw [ha]
  have hatr : call.argTypes = #[t, u] := by apply Array.toList_inj.1; rw [hat]
  unfold execOp
  rw [ho]
  simp [resolve, hcb, harr, hatr, invoke, builtin]
theorem e_cpy (c : Ctx P base ρ st w nt tm a) {call : Call} {x y : Operand} {t u e : TypeId} {size : Nat} {sf : Bool} {x' y' : X} (ht : P.underlying t = some (.slice e)) (hn : sizeT P e = some size) (hs1 : sf = true → size = 1) (ho : o.op = .call call) (hcb : call.callee = .builtin .copy)
    (ha : call.args.toList = [x, y]) (hat : call.argTypes.toList = [t, u]) (hx : compX P x = some x') (hy : compX P y = some y') (h : iCpy sf size x' y' tm st = some (v, st')) : Turns P base ρ st w a o v st' := by
  obtain ⟨⟨news, m⟩, hs, h1⟩ := orec_none h
  obtain ⟨hlen, hnl, hsrc⟩ := src_ok c.rel (c.opd hy) hs hs1
  have he := copy_run (a := a) ho hcb ha hat
  have hxr := c.opd hx
  rcases onSlice_some (h1 : (x'.ev tm).onSlice none (some (.int 63 (.ofNat 0), st)) (fun o i n _ _ =>
    onCells none (fun e cs w => bif w && Nat.ble (Nat.add i (Nat.mul (min m n) size)) (lenL cs) then
          some (.int 63 (.ofNat (min m n)), st.put o (some (.cells e (splice cs i (takeL news (Nat.mul (min m n) size))) true))) else none) (st.mem.get o)) = some (v, st')) with ⟨_, _, _, _, _, hv, h2⟩ | ⟨ob, i, n, cap, ex, hv, h2⟩
  · rw [hv] at hxr
    have hxe := hxr.nilSlice_inv
    obtain ⟨rfl, rfl⟩ := Prod.mk.inj (Option.some.inj h2)
    obtain ⟨l', _, _, h5⟩ := hsrc 0 (Nat.zero_le _) w rfl
    refine ⟨.int .i64 0, w, ρ, .inl ?_, Ext.refl _ _, .int .i64 _, c.rel, Turn.refl _, Below.refl _ _, Dead.refl _ _⟩
    rw [he, hxe]
    have hmin : Nat.min m 0 = 0 := Nat.min_zero m
    simp only [Builtin.copy_, List.getElem?_toArray, List.getElem?_cons_zero, List.getElem?_cons_succ, Sem.run_bind, run_und ht, run_size hn, Result.andThen_ok, Sem.run_pure, hlen w, hmin, h5, goInt]
    rfl
  · rw [hv] at hxr
    obtain ⟨ad, c', hxe, hob, hncap, hcapc, hex, hadr, htot⟩ := hxr.slice_inv
    obtain ⟨e', cs, own, hg, h8⟩ := onCells_some h2
    obtain ⟨h9, h10⟩ := bif_none h8
    simp only [Bool.and_eq_true, lenL_eq] at h9
    obtain ⟨rfl, h11⟩ := h9
    have h12 : i + min m n * size ≤ cs.length := ble_iff.1 h11
    obtain ⟨rfl, rfl⟩ := Prod.mk.inj (Option.some.inj h10)
    obtain ⟨l', h5, h6, h7⟩ := hsrc (min m n) (Nat.min_le_left _ _) w rfl
    have hnm : ∀ x y : Nat, Nat.mul x y = x * y := fun _ _ => rfl
    rw [takeL_eq, hnm]
    have hks : min m n * size ≤ m * size := Nat.mul_le_mul_right _ (Nat.min_le_left _ _)
    have hlt : (news.take (min m n * size)).length = min m n * size := by simp; omega
    obtain ⟨w', h13, h14, h15⟩ := store_own c.rel hob hg h5 h6 (i := i) (by omega)
    have hst : (storeCells ad l').run P w = .ok () w' := by
      rcases hadr with h0 | h0
      · have hm0 : min m n = 0 := by omega
        have hl0 : l' = [] := by
          have := h5.length
          rw [hlt, hm0] at this
          exact List.length_eq_zero_iff.1 (by omega)
        subst hl0
        exact h13
      · rw [h0]; exact h13
    refine ⟨.int .i64 ((min m n : Nat) : Int), w', ρ, .inl ?_, Ext.refl _ _, .int .i64 _, h14, Turn.put _ _ _, h15.below (c.rel.base ob _ hob.2 hg rfl), Dead.put hob.2 _⟩
    rw [he, hxe]
    have hmin : Nat.min m n = min m n := rfl
    simp only [Builtin.copy_, List.getElem?_toArray, List.getElem?_cons_zero, List.getElem?_cons_succ, Sem.run_bind, run_und ht, run_size hn, Result.andThen_ok, Sem.run_pure, hlen w, hmin, h7, goInt, hst]
theorem push_modify (h : Array Obj) (x : Obj) (f : Obj → Obj) : (h.push x).modify h.size f = h.push (f x) := by
  apply Array.ext_getElem?
  intro i
  rw [Array.getElem?_modify, Array.getElem?_push, Array.getElem?_push]
  by_cases hi : i = h.size
  · subst hi; simp
  · rw [if_neg hi, if_neg (by omega), if_neg hi]
theorem e_cvsb (c : Ctx P base ρ st w nt tm a) (hb : base ≤ w.heap.size) {s d e : TypeId} {x : Operand} {y : X} (hs : P.underlying s = some .string) (hd : P.underlying d = some (.slice e)) (hee : P.underlying e = some (.int .u8)) (hn : sizeT P e = some 1) (ho : o.op = .convert s d x) (hx : compX P x = some y)
    (h : iCvsb e y tm st = some (v, st')) : Turns P base ρ st w a o v st' := by
  obtain ⟨bs, hv, h1⟩ := onStr_some h
  obtain ⟨rfl, rfl⟩ := Prod.mk.inj (Option.some.inj h1)
  rw [lenL_eq, bytesV_eq]
  have h8 := c.opd hx
  rw [hv] at h8
  have h9 := h8.str_inv
  obtain ⟨cap, hcap⟩ : ∃ cap, cap = (Question.appendCap bs.length 0 e).cut (w.tape w.drawn (.appendCap bs.length 0 e)) := ⟨_, rfl⟩
  have hge : bs.length ≤ cap := by rw [hcap]; exact cut_ge _ _ _ _
  obtain ⟨w1, hw1⟩ : ∃ w1 : World, w1 = { w with drawn := w.drawn + 1 } := ⟨_, rfl⟩
  have hheap : w1.heap = w.heap := by rw [hw1]
  obtain ⟨cc, hcc⟩ : ∃ cc : Array Value, cc = ((⟨⟨bs⟩⟩ : ByteArray).data.map fun b => Value.int .u8 b.toNat) ++ Array.replicate (cap - bs.length) (.int .u8 0) := ⟨_, rfl⟩
  have hsz : cc.size = cap := by rw [hcc]; simp; omega
  have hrel1 : Rel P base ρ st w1 := c.rel.of_heap hheap
  have h10 := new_cells hrel1 (w := w1) (by rw [hheap]; exact hb) hn (cs := bs.map fun b => V.int 8 (b.toNat : Int)) (c := cc)
    (by
      have : cc.toList.take (bs.map fun b => V.int 8 (b.toNat : Int)).length = bs.map fun b => Value.int .u8 (b.toNat : Int) := by
        rw [hcc, Array.toList_append, List.take_left' (by simp)]
        simp
      rw [this]
      exact bytes_vr _ _)
    (by
      intro q hq
      rw [hcc, Array.toList_append] at hq
      rcases List.mem_append.1 hq with hq | hq
      · simp only [Array.toList_map] at hq
        obtain ⟨b, _, rfl⟩ := List.mem_map.1 hq
        rfl
      · simp only [Array.toList_replicate] at hq
        obtain rfl := (List.mem_replicate.1 hq).2
        rfl) e (lo := cc.size) (hi := cc.size + 1) (.inr (Nat.le_refl _))
  rw [hheap] at h10
  refine ⟨.slice (some ⟨w.heap.size, 0, none⟩) bs.length cap, _, _, .inl ?_, Map.new_ext _ _ _, vr_new_slice (w := w) ⟨w.heap.size, 0, cc.size, 1, true⟩ rfl rfl (Nat.le_refl _) hge (fun h => nomatch h) (fun _ => by show cap * 1 ≤ cc.size; omega), h10, Turn.new _ _, ?_, Dead.new _ _ _ _⟩
  · have he : execOp a.eval o = (do pure (Next.value (← convert s d (a.eval x)))) := by unfold execOp; rw [ho]
    rw [he, h9]
    have hsize : (⟨⟨bs⟩⟩ : ByteArray).size = bs.length := rfl
    have hch : (choose (.appendCap bs.length 0 e)).run P w = .ok cap w1 := by
      rw [run_choose, hcap, hw1]
      rfl
    simp only [convert, Sem.run_bind, run_und hs, run_und hd, run_und hee, Result.andThen_ok, Conv.stringToBytes, hsize, hch, newRow, run_newObj, Sem.run_pure, markStringish, run_shape, ← hcc, hheap]
    have hshape : ({ w1 with heap := w.heap.push (.cells cc e) } : World).shape? w.heap.size = some (e, cc.size) := by simp [World.shape?]
    simp only [hshape, Result.andThen_ok, run_freeze]
    simp only [World.freeze, Nat.succ_ne_zero, if_false]
    rw [push_modify]
    simp
  · exact ⟨by rw [hw1], by rw [hw1], by rw [hw1], by simp, fun k hk => by show (w.heap.push _)[k]? = _; rw [Array.getElem?_push, if_neg (by omega)]⟩
end ops
end Go.Proofs.YtnebopkgnkemiaaGreatDoor.Av
namespace Go.Proofs.YtnebopkgnkemiaaGreatDoor.Av
set_option linter.unusedVariables false
set_option linter.unusedSimpArgs false
open Go Go.RowKit
section ops
variable {P : Program} {base : Nat} {ρ : Map} {st : St} {w : World} {nt : Nat} {tm : Tr V} {a : Act} {o : Oper} {v : V}
theorem plainIn_mem : ∀ {l : List (Nat × Nat)} {t k : Nat}, plainIn l t = some k → (t, k) ∈ l
  | [], t, k, h => nomatch h
  | p :: l, t, k, h => by
    have h' : (bif Nat.beq p.1 t then some p.2 else plainIn l t) = some k := h
    by_cases e : p.1 = t
    · rw [beqT e] at h'
      obtain rfl := Option.some.inj h'
      rw [← e]; exact List.mem_cons_self ..
    · rw [beqF e] at h'
      exact List.mem_cons_of_mem _ (plainIn_mem h')
theorem plainsT_spec {t k : Nat} (h : (t, k) ∈ plainsT P) : ∃ i d, P.info? t = some i ∧ i.comparable = true ∧ P.underlying t = some d ∧ KeyOf k d := by
  unfold plainsT at h
  obtain ⟨u, _, h2⟩ := List.mem_filterMap.1 h
  split at h2
  · rename_i i hi
    split at h2
    · rename_i hc
      split at h2
      · split at h2
        · rename_i kk hu
          obtain ⟨rfl, rfl⟩ := Prod.mk.inj (Option.some.inj h2)
          exact ⟨i, _, hi, hc, hu, .inl ⟨kk, rfl, rfl⟩⟩
        · rename_i hu
          obtain ⟨rfl, rfl⟩ := Prod.mk.inj (Option.some.inj h2)
          exact ⟨i, _, hi, hc, hu, .inr ⟨rfl, rfl⟩⟩
        · exact nomatch h2
      · exact nomatch h2
    · exact nomatch h2
  · exact nomatch h2
theorem eqKey_equal {kt : Nat} {d : TypeDesc} (hd : KeyOf kt d) {t : TypeId} (ht : P.underlying t = some d) {n : Nat} {k k1 : V} {k' k1' : Value} (h1 : VR ρ n k k') (h2 : VR ρ n k1 k1') {b : Bool} (h : eqKey kt k k1 = some b) (dd : Nat) :
    (Op.equalIn (dd + 1) t k' k1').run P w = .ok b w := by
  rcases hd with ⟨j, rfl, rfl⟩ | ⟨rfl, rfl⟩
  · have hne : Nat.beq (codeK j) 100 = false := by cases j <;> rfl
    have h' : (Bool.rec (k.onInt none (fun i a => k1.onInt none (fun l b => bif Nat.beq i (codeK j) && Nat.beq l (codeK j) then some (eqI a b) else none)))
      (k.onStr none (fun a => k1.onStr none (fun b => some (eqS a b)))) (Nat.beq (codeK j) 100) : Option Bool) = some b := h
    rw [hne] at h'
    obtain ⟨i, x, rfl, h3⟩ := onInt_some h'
    obtain ⟨l, y, rfl, h4⟩ := onInt_some h3
    obtain ⟨h5, h6⟩ := bif_none h4
    simp only [Bool.and_eq_true] at h5
    obtain rfl := beq_iff.1 h5.1
    obtain rfl := beq_iff.1 h5.2
    obtain ⟨i1, e1, rfl⟩ := h1.int_inv
    obtain ⟨l1, e2, rfl⟩ := h2.int_inv
    obtain rfl := codeK_inj e1
    obtain rfl := codeK_inj e2
    obtain rfl := Option.some.inj h6
    rw [eqI_eq]
    unfold Op.equalIn
    simp only [Sem.run_bind, run_und ht, Result.andThen_ok, if_true]
    rfl
  · have h' : (k.onStr none (fun a => k1.onStr none (fun b => some (eqS a b))) : Option Bool) = some b := h
    obtain ⟨x, rfl, h3⟩ := onStr_some h'
    obtain ⟨y, rfl, h4⟩ := onStr_some h3
    obtain rfl := h1.str_inv
    obtain rfl := h2.str_inv
    obtain rfl := Option.some.inj h4
    rw [eqS_eq]
    have hb : ((⟨⟨x⟩⟩ : ByteArray) == ⟨⟨y⟩⟩) = decide (x = y) := by
      rw [Bool.eq_iff_iff, bytes_beq]
      simp
    unfold Op.equalIn
    simp only [Sem.run_bind, run_und ht, Result.andThen_ok, hb]
    rfl
theorem isIface_spec {t : TypeId} (h : isIface P t = true) : ∃ ms, P.underlying t = some (.interface ms) := by
  unfold isIface at h
  split at h
  · exact ⟨_, by assumption⟩
  · exact nomatch h
theorem eqW_ok {t : TypeId} (ht : ∃ ms, P.underlying t = some (.interface ms)) {x y : V} {x' y' : Value} {n : Nat} (h1 : VR ρ n x x') (h2 : VR ρ n y y') {b : Bool} (h : eqW (plainsT P) x y = some b) :
    (Op.equal t x' y').run P w = .ok b w ∧ Odd x' ∧ ∀ op xo yo, (eqGuard op t xo yo x' y').run P w = .ok () w := by
  obtain ⟨ms, ht⟩ := ht
  rcases onIface_some h with ⟨o1, i1, n1, c1, x1, hx, h3⟩ | ⟨t1, u1, l1, hx, h3⟩
  · rcases onIface_some h3 with ⟨o2, i2, n2, c2, x2, hy, h4⟩ | ⟨t2, u2, l2, hy, h4⟩
    · exact nomatch h4
    · rw [hx] at h1
      rw [hy] at h2
      obtain rfl := h1.nilIface_inv
      obtain ⟨u', rfl, _⟩ := h2.iface_inv
      obtain rfl := Option.some.inj h4
      exact ⟨equalIn_step fun d => by unfold Op.equalIn; simp only [Sem.run_bind, run_und ht, Result.andThen_ok]; rfl, trivial, fun op xo yo => by unfold eqGuard; split <;> rfl⟩
  · rw [hx] at h1
    obtain ⟨u', rfl, hu⟩ := h1.iface_inv
    rcases onIface_some h3 with ⟨o2, i2, n2, c2, x2, hy, h4⟩ | ⟨t2, u2, l2, hy, h4⟩
    · rw [hy] at h2
      obtain rfl := h2.nilIface_inv
      obtain rfl := Option.some.inj h4
      exact ⟨equalIn_step fun d => by unfold Op.equalIn; simp only [Sem.run_bind, run_und ht, Result.andThen_ok]; rfl, trivial, fun op xo yo => by unfold eqGuard; split <;> rfl⟩
    · rw [hy] at h2
      obtain ⟨u2', rfl, hu2⟩ := h2.iface_inv
      refine ⟨?_, trivial, fun op xo yo => by unfold eqGuard; split <;> rfl⟩
      show (Op.equalIn (9998 + 1 + 1) t (.iface t1 u') (.iface t2 u2')).run P w = .ok b w
      unfold Op.equalIn
      simp only [Sem.run_bind, run_und ht, Result.andThen_ok]
      by_cases e : t1 = t2
      · subst e
        rw [beqT rfl] at h4
        obtain ⟨k, hk, h5⟩ := orec_none (show (Option.rec none (fun k => eqKey k u1 u2) (plainIn (plainsT P) t1) : Option Bool) = some b from h4)
        obtain ⟨i, d, hi, hc, hu', hd⟩ := plainsT_spec (plainIn_mem hk)
        have h6 := eqKey_equal (w := w) hd hu' hu hu2 h5 9998
        simp only [ne_eq, not_true_eq_false, if_false, Sem.run_bind, typeInfo, hi, hc]
        simpa [typeInfo, hi, hc] using h6
      · rw [beqF e] at h4
        obtain rfl := Option.some.inj h4
        simp [e]
theorem g_eqi (c : Ctx P base ρ st w nt tm a) {op : BinOp} {t u : TypeId} {x y : Operand} {x' y' : X} {ne : Bool} (hop : (op = .eql ∧ ne = false) ∨ (op = .neq ∧ ne = true)) (hi : isIface P t = true) (ho : o.op = .binOp op t x y u)
    (hx : compX P x = some x') (hy : compX P y = some y') (h : iEqi ne (plainsT P) x' y' tm st = some v) : Gives P ρ st.next w a o v := by
  obtain ⟨b, h1, h2⟩ := orec_none h
  obtain rfl := Option.some.inj h2
  obtain ⟨h3, hodd, h4⟩ := eqW_ok (w := w) (isIface_spec hi) (c.opd hx) (c.opd hy) h1
  refine gives (s := do eqGuard op t x y (a.eval x) (a.eval y); binOp op t (a.eval x) (a.eval y)) (by unfold execOp; rw [ho]) (v' := .bool (b != ne)) ?_ (.bool _)
  unfold Hands
  simp only [Sem.run_bind, h4, Result.andThen_ok]
  rcases hop with ⟨rfl, rfl⟩ | ⟨rfl, rfl⟩
  · rw [odd_eql hodd]; simp only [Sem.run_bind, h3]; simp
  · rw [odd_neq hodd]; simp only [Sem.run_bind, h3]; simp
end ops
end Go.Proofs.YtnebopkgnkemiaaGreatDoor.Av
namespace Go.Proofs.YtnebopkgnkemiaaGreatDoor.Av
set_option linter.unusedVariables false
set_option linter.unusedSimpArgs false
open Go Go.RowKit
theorem bind_some' {α β : Type} {x : Option α} {f : α → Option β} {r : β} (h : (x >>= f) = some r) : ∃ a, x = some a ∧ f a = some r := by
  cases x with
  | none => exact nomatch h
  | some a => exact ⟨a, rfl, h⟩
theorem map_some' {α β : Type} {x : Option α} {f : α → β} {r : β} (h : x.map f = some r) : ∃ a, x = some a ∧ f a = r := by
  cases x with
  | none => exact nomatch h
  | some a => exact ⟨a, rfl, Option.some.inj h⟩
theorem ite_none {α : Type} {p : Prop} [Decidable p] {x : Option α} {r : α} (h : (if p then none else x) = some r) : ¬ p ∧ x = some r := by
  split at h
  · exact nomatch h
  · exact ⟨by assumption, h⟩
def PureOk (P : Program) (o : Oper) (f : Tr V → St → Option V) : Prop :=
  ∀ {base : Nat} {ρ : Map} {st : St} {w : World} {nt : Nat} {tm : Tr V} {a : Act} {v : V}, Ctx P base ρ st w nt tm a → f tm st = some v → Gives P ρ st.next w a o v
def LoudOk (P : Program) (o : Oper) (f : Tr V → St → Ev) : Prop :=
  ∀ {base : Nat} {ρ : Map} {st st' : St} {w : World} {nt : Nat} {tm : Tr V} {a : Act} {v : V}, Ctx P base ρ st w nt tm a → base ≤ w.heap.size → f tm st = some (v, st') → Turns P base ρ st w a o v st'
inductive Cls (P : Program) (o : Oper) : I → Prop
  | pure (i : I) (f : Tr V → St → Option V) : i.go = gP f → PureOk P o f → Cls P o i
  | loud (i : I) (f : Tr V → St → Ev) : kindI i = 2 ∨ (kindI i = 4 ∧ SoftOk P o f) → i.go = gE f → LoudOk P o f → Cls P o i
  | call (f : FuncId) (xs : List X) (c : Call) : o.op = .call c → c.callee = .value (.func f) → compXs P c.args.toList = some xs → Cls P o (.call f xs)
  | dyn (x : X) (y : Operand) (xs : List X) (c : Call) : o.op = .call c → c.callee = .value y → compX P y = some x → compXs P c.args.toList = some xs → Cls P o (.dyn x xs)
  | panic (x : X) (y : Operand) : o.op = .panic y → compX P y = some x → Cls P o (.panic x)
section
variable {P : Program} {o : Oper}
theorem plainT_cases {t : TypeId} {k : Nat} (h : plainT P t = some k) : (∃ kk, P.underlying t = some (.int kk) ∧ k = codeK kk) ∨ (P.underlying t = some .string ∧ k = 100) ∨ (P.underlying t = some .bool ∧ k = 101) := by
  unfold plainT at h
  split at h
  · rename_i kk hu; exact .inl ⟨kk, hu, (Option.some.inj h).symm⟩
  · rename_i hu; exact .inr (.inl ⟨hu, (Option.some.inj h).symm⟩)
  · rename_i hu; exact .inr (.inr ⟨hu, (Option.some.inj h).symm⟩)
  · exact nomatch h
theorem code_plain (kk : IntKind) : codeK kk ≠ 100 ∧ codeK kk ≠ 101 := by cases kk <;> decide
theorem bin_ok {op : BinOp} {t u : TypeId} {x y : Operand} {k : Nat} {a b : X} (ho : o.op = .binOp op t x y u) (hk : plainT P t = some k) (hx : compX P x = some a) (hy : compX P y = some b) : PureOk P o (binF op k a b) := by
  intro base ρ st w nt tm a' v c h
  rcases plainT_cases hk with ⟨kk, hu, rfl⟩ | ⟨hu, rfl⟩ | ⟨hu, rfl⟩
  · unfold binF at h
    rw [if_neg (code_plain kk).1, if_neg (code_plain kk).2] at h
    cases op with
    | add => exact g_int c ho hx hy (fun kk m n r => two_add) h
    | sub => exact g_int c ho hx hy (fun kk m n r => two_sub) h
    | mul => exact g_int c ho hx hy (fun kk m n r => two_mul) h
    | quo => exact g_int c ho hx hy (fun kk m n r => two_quo) h
    | rem => exact g_int c ho hx hy (fun kk m n r => two_rem) h
    | and => exact g_int c ho hx hy (fun kk m n r => two_and) h
    | or => exact g_int c ho hx hy (fun kk m n r => two_or) h
    | xor => exact g_int c ho hx hy (fun kk m n r => two_xor) h
    | andNot => exact g_int c ho hx hy (fun kk m n r => two_andNot) h
    | shl => exact g_sh c ho hx hy (fun kk jj m n r hr => two_shl hr ρ st.next) h
    | shr => exact g_sh c ho hx hy (fun kk jj m n r hr => two_shr hr ρ st.next) h
    | eql => exact g_int c ho hx hy (fun kk m n r => two_eql) h
    | neq => exact g_int c ho hx hy (fun kk m n r => two_neq) h
    | lss => exact g_int c ho hx hy (fun kk m n r => two_lss) h
    | leq => exact g_int c ho hx hy (fun kk m n r => two_leq) h
    | gtr => exact g_int c ho hx hy (fun kk m n r => two_gtr) h
    | geq => exact g_int c ho hx hy (fun kk m n r => two_geq) h
  · unfold binF at h
    rw [if_pos rfl] at h
    cases op with
    | add => exact g_str c ho hx hy (fun m n r hr => str_add m n r hr _) ⟨by simp, by simp⟩ h
    | eql => exact g_str c ho hx hy (fun m n r hr => str_rest (f := sEql) (by simp) m n r hr _) ⟨by simp, by simp⟩ h
    | neq => exact g_str c ho hx hy (fun m n r hr => str_rest (f := sNeq) (by simp) m n r hr _) ⟨by simp, by simp⟩ h
    | lss => exact g_str c ho hx hy (fun m n r hr => str_rest (f := sLss) (by simp) m n r hr _) ⟨by simp, by simp⟩ h
    | leq => exact g_str c ho hx hy (fun m n r hr => str_rest (f := sLeq) (by simp) m n r hr _) ⟨by simp, by simp⟩ h
    | gtr => exact g_str c ho hx hy (fun m n r hr => str_rest (f := sGtr) (by simp) m n r hr _) ⟨by simp, by simp⟩ h
    | geq => exact g_str c ho hx hy (fun m n r hr => str_rest (f := sGeq) (by simp) m n r hr _) ⟨by simp, by simp⟩ h
    | _ => exact nomatch h
  · unfold binF at h
    rw [if_neg (by decide), if_pos rfl] at h
    cases op with
    | eql => exact g_boo c hu ho hx hy (.inl ⟨rfl, rfl⟩) h
    | neq => exact g_boo c hu ho hx hy (.inr ⟨rfl, rfl⟩) h
    | _ => exact nomatch h
theorem un_ok {op : UnOp} {t : TypeId} {x : Operand} {k : Nat} {a : X} (ho : o.op = .unOp op t x) (hk : plainT P t = some k) (hx : compX P x = some a) : PureOk P o (unF op k a) := by
  intro base ρ st w nt tm a' v c h
  cases op with
  | neg => exact g_neg c ho hx h
  | xor => exact g_xor1 c ho hx h
  | not => exact g_not c ho hx h
  | plus => exact nomatch h
theorem key_int {kt : TypeId} {j : IntKind} : KeyOf (codeK j) (.int j) := .inl ⟨j, rfl, rfl⟩
theorem key_str : KeyOf 100 .string := .inr ⟨rfl, rfl⟩
theorem cls {i : I} (h : compOp P o = some i) : Cls P o i := by
  unfold compOp at h
  split at h
  ·
    rename_i x ho
    obtain ⟨y, hx, h⟩ := bind_some' h
    obtain rfl := Option.some.inj h
    exact .pure _ (iMov y) rfl fun c h => by
      obtain rfl := Option.some.inj h
      exact g_mov c (.inl ho) hx
  ·
    rename_i x ho
    obtain ⟨y, hx, h⟩ := bind_some' h
    obtain rfl := Option.some.inj h
    exact .pure _ (iMov y) rfl fun c h => by
      obtain rfl := Option.some.inj h
      exact g_mov c (.inr ho) hx
  ·
    rename_i x y z ho
    obtain ⟨x', hx, h⟩ := bind_some' h
    obtain ⟨y', hy, h⟩ := bind_some' h
    obtain ⟨z', hz, h⟩ := bind_some' h
    obtain rfl := Option.some.inj h
    exact .pure _ _ rfl fun c h => g_pick c ho hx hy hz h
  ·
    rename_i e ho
    obtain ⟨z, hz, h⟩ := bind_some' h
    obtain rfl := Option.some.inj h
    exact .loud _ _ (.inr ⟨rfl, s_alloc hz ho⟩) rfl fun c hb h => e_soft (s_alloc hz ho) c hb h
  ·
    rename_i e x ho
    obtain ⟨n, hn, h⟩ := bind_some' h
    obtain ⟨y, hx, h⟩ := bind_some' h
    obtain rfl := Option.some.inj h
    exact .loud _ _ (.inr ⟨rfl, s_box hn hx ho⟩) rfl fun c hb h => e_soft (s_box hn hx ho) c hb h
  ·
    rename_i t ps ho
    obtain ⟨z, hz, h⟩ := bind_some' h
    split at h
    · rename_i fs hu
      obtain ⟨pl, hpl, h⟩ := bind_some' h
      obtain ⟨ys, hps, h⟩ := bind_some' h
      obtain rfl := Option.some.inj h
      exact .pure _ _ rfl fun c h => g_buildS c hu hz hpl hps ho h
    · rename_i n e hu
      obtain ⟨m, hm, h⟩ := bind_some' h
      obtain ⟨ys, hps, h⟩ := bind_some' h
      obtain rfl := Option.some.inj h
      exact .pure _ _ rfl fun c h => g_buildA c hu hz hm hps ho h
    · exact nomatch h
  ·
    rename_i t len ps ho
    split at h
    · rename_i e hu
      obtain ⟨n, hn, h⟩ := bind_some' h
      obtain ⟨z, hz, h⟩ := bind_some' h
      obtain ⟨hc, h⟩ := ite_none h
      obtain ⟨ys, hps, h⟩ := bind_some' h
      obtain rfl := Option.some.inj h
      simp only [not_or, Decidable.not_not] at hc
      exact .loud _ _ (.inr ⟨rfl, s_bsl hu hn hz hc.2.1 hc.2.2 hc.1 hps ho⟩) rfl fun c hb h => e_soft (s_bsl hu hn hz hc.2.1 hc.2.2 hc.1 hps ho) c hb h
    · exact nomatch h
  ·
    rename_i t x ho
    obtain ⟨g, hg, h⟩ := bind_some' h
    obtain ⟨n, hn, h⟩ := bind_some' h
    obtain ⟨y, hx, h⟩ := bind_some' h
    obtain rfl := Option.some.inj h
    exact .pure _ _ rfl fun c h => g_load c ho hg hn hx h
  ·
    rename_i t x y ho
    obtain ⟨n, hn, h⟩ := bind_some' h
    obtain ⟨x', hx, h⟩ := bind_some' h
    obtain ⟨y', hy, h⟩ := bind_some' h
    obtain rfl := Option.some.inj h
    exact .loud _ _ (.inl rfl) rfl fun c hb h => e_store c hn hx hy ho h
  ·
    rename_i x ho
    obtain ⟨y, hx, h⟩ := bind_some' h
    obtain rfl := Option.some.inj h
    exact .pure _ _ rfl fun c h => g_nck c ho hx h
  ·
    rename_i op t x y u ho
    obtain ⟨x', hx, h⟩ := bind_some' h
    obtain ⟨y', hy, h⟩ := bind_some' h
    split at h
    · rename_i k hk
      obtain rfl := Option.some.inj h
      exact .pure _ _ rfl (bin_ok ho hk hx hy)
    · split at h
      · split at h
        · rename_i p hp
          obtain rfl := Option.some.inj h
          exact .pure _ _ rfl fun c h => g_eqn c (.inl ⟨rfl, rfl⟩) hp ho hx hy h
        · split at h
          · rename_i hi
            obtain rfl := Option.some.inj h
            exact .pure _ _ rfl fun c h => g_eqi c (.inl ⟨rfl, rfl⟩) hi ho hx hy h
          · exact nomatch h
      · split at h
        · rename_i p hp
          obtain rfl := Option.some.inj h
          exact .pure _ _ rfl fun c h => g_eqn c (.inr ⟨rfl, rfl⟩) hp ho hx hy h
        · split at h
          · rename_i hi
            obtain rfl := Option.some.inj h
            exact .pure _ _ rfl fun c h => g_eqi c (.inr ⟨rfl, rfl⟩) hi ho hx hy h
          · exact nomatch h
      · exact nomatch h
  ·
    rename_i op t x ho
    obtain ⟨k, hk, h⟩ := bind_some' h
    obtain ⟨x', hx, h⟩ := bind_some' h
    obtain rfl := Option.some.inj h
    exact .pure _ _ rfl (un_ok ho hk hx)
  ·
    rename_i s d x ho
    obtain ⟨x', hx, h⟩ := bind_some' h
    split at h
    · rename_i j k hs hd
      obtain rfl := Option.some.inj h
      exact .pure _ _ rfl fun c h => g_cvi c hs hd ho hx h
    · rename_i hs hd
      obtain rfl := Option.some.inj h
      exact .pure _ _ rfl fun c h => g_cvid c hs hd ho hx h
    · rename_i j hs hd
      obtain rfl := Option.some.inj h
      exact .pure _ _ rfl fun c h => g_cvis c hs hd ho hx h
    · rename_i e hs hd
      split at h
      · rename_i he
        split at h
        · rename_i hn
          obtain rfl := Option.some.inj h
          exact .loud _ _ (.inl rfl) rfl fun c hb h => e_cvsb c hb hs hd he hn ho hx h
        · exact nomatch h
      · exact nomatch h
    · rename_i e hs hd
      split at h
      · rename_i he
        obtain rfl := Option.some.inj h
        exact .pure _ _ rfl fun c h => g_cvbs c hs hd he ho hx h
      · exact nomatch h
    · exact nomatch h
  ·
    rename_i t x ho
    split at h
    · exact nomatch h
    · rename_i d hd hu
      obtain ⟨x', hx, h⟩ := bind_some' h
      obtain rfl := Option.some.inj h
      exact .pure _ _ rfl fun c h => by
        obtain rfl := Option.some.inj h
        exact g_mki c hu (fun ms e => hd ms e) ho hx
    · exact nomatch h
  ·
    rename_i f first cs ho
    split at h
    · rename_i he
      obtain ⟨ys, hx, h⟩ := bind_some' h
      obtain rfl := Option.some.inj h
      have he' : first = #[] := by simpa using he
      subst he'
      exact .pure _ _ rfl fun c h => by
        obtain rfl := Option.some.inj h
        exact g_mkf c ho hx
    · exact nomatch h
  ·
    rename_i t ho
    obtain rfl := Option.some.inj h
    exact .loud _ _ (.inr ⟨rfl, s_mkm ho⟩) rfl fun c hb h => e_soft (s_mkm ho) c hb h
  ·
    rename_i t l k ho
    split at h
    · rename_i e hu
      obtain ⟨n, hn, h⟩ := bind_some' h
      obtain ⟨z, hz, h⟩ := bind_some' h
      obtain ⟨hc, h⟩ := ite_none h
      obtain ⟨by', hby, h⟩ := bind_some' h
      obtain ⟨l', hl, h⟩ := bind_some' h
      obtain ⟨k', hk, h⟩ := bind_some' h
      obtain rfl := Option.some.inj h
      simp only [not_or, Decidable.not_not] at hc
      exact .loud _ _ (.inl rfl) rfl fun c hb h => e_mks c hb hu hn hz hby hc.1 hc.2 hl hk ho h
    · exact nomatch h
  ·
    rename_i t x lo hi mx ho
    obtain ⟨x', hx, h⟩ := bind_some' h
    obtain ⟨l', hl, h⟩ := bind_some' h
    obtain ⟨h', hh, h⟩ := bind_some' h
    obtain ⟨m', hm, h⟩ := bind_some' h
    have hmx : ∀ {r : Option X}, compOX P mx = some r → (r ≠ none → h' ≠ none) → mx ≠ none → hi ≠ none := fun {r} hr hn h1 h2 => by
      subst h2
      cases mx with
      | none => exact h1 rfl
      | some y =>
        obtain ⟨z, _, rfl⟩ := map_some' (show (compX P y).map some = some r from hr)
        have : h' = none := (Option.some.inj (show some none = some h' from hh)).symm
        exact hn (by simp) this
    split at h
    · rename_i hu
      split at h
      · obtain rfl := Option.some.inj h
        cases mx with
        | none => exact .pure _ _ rfl fun c h => g_sls c hu ho hx hl hh h
        | some y =>
          obtain ⟨z, _, hz⟩ := map_some' (show (compX P y).map some = some none from hm)
          exact nomatch hz
      · exact nomatch h
    · rename_i e hu
      split at h
      · exact nomatch h
      · rename_i hne
        obtain ⟨n, hn, h⟩ := bind_some' h
        obtain rfl := Option.some.inj h
        exact .pure _ _ rfl fun c h => g_sll c hu hn ho hx hl hh hm (hmx hm fun h1 h2 => by
          cases m' with
          | none => exact h1 rfl
          | some q => exact hne q rfl h2) h
    · rename_i n e hu
      split at h
      · exact nomatch h
      · rename_i hne
        obtain ⟨n, hn, h⟩ := bind_some' h
        obtain rfl := Option.some.inj h
        exact .pure _ _ rfl fun c h => g_sla c hu hn ho hx hl hh hm (hmx hm fun h1 h2 => by
          cases m' with
          | none => exact h1 rfl
          | some q => exact hne q rfl h2) h
    · exact nomatch h
  ·
    rename_i t x f ho
    split at h
    · rename_i fs hu
      obtain ⟨fl, hf, h⟩ := bind_some' h
      obtain ⟨n, hn, h⟩ := bind_some' h
      obtain ⟨h0, h⟩ := ite_none h
      obtain ⟨x', hx, h⟩ := bind_some' h
      obtain rfl := Option.some.inj h
      exact .pure _ _ rfl fun c h => g_fad c hu hf hn h0 ho hx h
    · exact nomatch h
  ·
    rename_i t x f ho
    split at h
    · rename_i fs hu
      obtain ⟨fl, hf, h⟩ := bind_some' h
      obtain ⟨g, hg, h⟩ := bind_some' h
      obtain ⟨n, hn, h⟩ := bind_some' h
      obtain ⟨x', hx, h⟩ := bind_some' h
      obtain rfl := Option.some.inj h
      exact .pure _ _ rfl fun c h => g_fld c hu hf hg hn ho hx h
    · exact nomatch h
  ·
    rename_i t x i' ho
    split at h
    · rename_i e hu
      obtain ⟨n, hn, h⟩ := bind_some' h
      obtain ⟨x', hx, h⟩ := bind_some' h
      obtain ⟨y', hy, h⟩ := bind_some' h
      obtain rfl := Option.some.inj h
      exact .pure _ _ rfl fun c h => g_iad c hu hn ho hx hy h
    · rename_i m e hu
      obtain ⟨n, hn, h⟩ := bind_some' h
      obtain ⟨x', hx, h⟩ := bind_some' h
      obtain ⟨y', hy, h⟩ := bind_some' h
      obtain rfl := Option.some.inj h
      exact .pure _ _ rfl fun c h => g_iaa c hu hn ho hx hy h
    · exact nomatch h
  ·
    rename_i t x i' ho
    split at h
    · rename_i hu
      obtain ⟨x', hx, h⟩ := bind_some' h
      obtain ⟨y', hy, h⟩ := bind_some' h
      obtain rfl := Option.some.inj h
      exact .pure _ _ rfl fun c h => g_ixs c hu ho hx hy h
    · rename_i m e hu
      obtain ⟨g, hg, h⟩ := bind_some' h
      obtain ⟨n, hn, h⟩ := bind_some' h
      obtain ⟨x', hx, h⟩ := bind_some' h
      obtain ⟨y', hy, h⟩ := bind_some' h
      obtain rfl := Option.some.inj h
      exact .pure _ _ rfl fun c h => g_ixa c hu hg hn ho hx hy h
    · exact nomatch h
  ·
    rename_i t x i' ok ho
    split at h
    · rename_i k e hu
      obtain ⟨z, hz, h⟩ := bind_some' h
      split at h
      · rename_i j hk
        obtain ⟨x', hx, h⟩ := bind_some' h
        obtain ⟨y', hy, h⟩ := bind_some' h
        obtain rfl := Option.some.inj h
        exact .pure _ _ rfl fun c h => g_lok c hu hk (.inl ⟨j, rfl, rfl⟩) hz ho hx hy h
      · rename_i hk
        obtain ⟨x', hx, h⟩ := bind_some' h
        obtain ⟨y', hy, h⟩ := bind_some' h
        obtain rfl := Option.some.inj h
        exact .pure _ _ rfl fun c h => g_lok c hu hk key_str hz ho hx hy h
      · exact nomatch h
    · exact nomatch h
  ·
    rename_i t m k v ho
    split at h
    · rename_i kt e hu
      split at h
      · rename_i j hk
        obtain ⟨m', hm, h⟩ := bind_some' h
        obtain ⟨k', hk', h⟩ := bind_some' h
        obtain ⟨v', hv, h⟩ := bind_some' h
        obtain rfl := Option.some.inj h
        exact .loud _ _ (.inl rfl) rfl fun c hb h => e_upd c hu hk (.inl ⟨j, rfl, rfl⟩) hm hk' hv (.inl ho) h
      · rename_i hk
        obtain ⟨m', hm, h⟩ := bind_some' h
        obtain ⟨k', hk', h⟩ := bind_some' h
        obtain ⟨v', hv, h⟩ := bind_some' h
        obtain rfl := Option.some.inj h
        exact .loud _ _ (.inl rfl) rfl fun c hb h => e_upd c hu hk key_str hm hk' hv (.inl ho) h
      · exact nomatch h
    · exact nomatch h
  ·
    rename_i t m k v ho
    split at h
    · rename_i kt e hu
      split at h
      · rename_i j hk
        obtain ⟨m', hm, h⟩ := bind_some' h
        obtain ⟨k', hk', h⟩ := bind_some' h
        obtain ⟨v', hv, h⟩ := bind_some' h
        obtain rfl := Option.some.inj h
        exact .loud _ _ (.inl rfl) rfl fun c hb h => e_upd c hu hk (.inl ⟨j, rfl, rfl⟩) hm hk' hv (.inr ho) h
      · rename_i hk
        obtain ⟨m', hm, h⟩ := bind_some' h
        obtain ⟨k', hk', h⟩ := bind_some' h
        obtain ⟨v', hv, h⟩ := bind_some' h
        obtain rfl := Option.some.inj h
        exact .loud _ _ (.inl rfl) rfl fun c hb h => e_upd c hu hk key_str hm hk' hv (.inr ho) h
      · exact nomatch h
    · exact nomatch h
  ·
    rename_i t x ho
    split at h
    · rename_i hu
      obtain ⟨x', hx, h⟩ := bind_some' h
      obtain rfl := Option.some.inj h
      exact .loud _ _ (.inl rfl) rfl fun c hb h => e_rng c hb hu hx ho h
    · exact nomatch h
  ·
    rename_i it ho
    obtain ⟨x', hx, h⟩ := bind_some' h
    obtain rfl := Option.some.inj h
    exact .loud _ _ (.inl rfl) rfl fun c hb h => e_nxt c hx ho h
  ·
    rename_i x xt t ok ho
    split at h
    · exact nomatch h
    · rename_i d hd hu
      obtain ⟨z, hz, h⟩ := bind_some' h
      obtain ⟨x', hx, h⟩ := bind_some' h
      obtain rfl := Option.some.inj h
      exact .pure _ _ rfl fun c h => g_tas c hu (fun ms e => hd ms e) hz ho hx h
    · exact nomatch h
  ·
    rename_i x i' ho
    obtain ⟨x', hx, h⟩ := bind_some' h
    obtain rfl := Option.some.inj h
    exact .pure _ _ rfl fun c h => g_ext c ho hx h
  ·
    rename_i c ho
    split at h
    · rename_i f hc
      obtain ⟨xs, hx, h⟩ := bind_some' h
      obtain rfl := Option.some.inj h
      exact .call f xs c ho hc hx
    · rename_i y hf hc
      obtain ⟨x', hx, h⟩ := bind_some' h
      obtain ⟨xs, hxs, h⟩ := bind_some' h
      obtain rfl := Option.some.inj h
      exact .dyn x' y xs c ho hc hx hxs
    ·
      rename_i hc
      split at h
      · rename_i x t ha hat
        split at h
        · rename_i hu
          obtain ⟨x', hx, h⟩ := bind_some' h
          obtain rfl := Option.some.inj h
          exact .pure _ _ rfl fun c h => g_lenS c ho hc ha hat hu hx h
        · rename_i e hu
          obtain ⟨x', hx, h⟩ := bind_some' h
          obtain rfl := Option.some.inj h
          exact .pure _ _ rfl fun c h => g_lenL c ho hc ha hat hu hx h
        · rename_i k e hu
          obtain ⟨x', hx, h⟩ := bind_some' h
          obtain rfl := Option.some.inj h
          exact .pure _ _ rfl fun c h => g_lenM c ho hc ha hat hu hx h
        · rename_i n e hu
          obtain rfl := Option.some.inj h
          refine .pure _ (iMov (.c (.int 63 n))) rfl fun c h => ?_
          obtain rfl := Option.some.inj h
          refine len_run ho hc ha hat (v' := .int .i64 (n : Int)) ?_ (.int .i64 _)
          simp only [Builtin.len_, List.getElem?_toArray, List.getElem?_cons_zero, Sem.run_bind, run_und hu, Result.andThen_ok]; rfl
        · exact nomatch h
      · exact nomatch h
    ·
      rename_i hc
      split at h
      · rename_i x y t u ha hat
        split at h
        · rename_i e hu
          split at h
          · rename_i e' hu'
            obtain ⟨n, hn, h⟩ := bind_some' h
            obtain ⟨z, hz, h⟩ := bind_some' h
            obtain ⟨b, hb, h⟩ := bind_some' h
            obtain ⟨hcc, h⟩ := ite_none h
            obtain ⟨x', hx, h⟩ := bind_some' h
            obtain ⟨y', hy, h⟩ := bind_some' h
            obtain rfl := Option.some.inj h
            simp only [not_or, Decidable.not_not] at hcc
            exact .loud _ _ (.inl rfl) rfl fun c hbb h => e_app c hbb (sf := false) ⟨hu, ⟨_, hu', by simp⟩, hn, hz, hb, hcc.1, hcc.2.1, hcc.2.2, fun h => nomatch h⟩ ho hc ha hat hx hy h
          · rename_i hu'
            obtain ⟨n, hn, h⟩ := bind_some' h
            obtain ⟨z, hz, h⟩ := bind_some' h
            obtain ⟨b, hb, h⟩ := bind_some' h
            obtain ⟨hcc, h⟩ := ite_none h
            obtain ⟨x', hx, h⟩ := bind_some' h
            obtain ⟨y', hy, h⟩ := bind_some' h
            obtain rfl := Option.some.inj h
            simp only [not_or, Decidable.not_not] at hcc
            exact .loud _ _ (.inl rfl) rfl fun c hbb h => e_app c hbb (sf := true) ⟨hu, ⟨_, hu', by simp⟩, hn, hz, hb, hcc.1, by omega, hcc.2.2, fun _ => hcc.2.1⟩ ho hc ha hat hx hy h
          · exact nomatch h
        · exact nomatch h
      · exact nomatch h
    ·
      rename_i hc
      split at h
      · rename_i x y t u ha hat
        split at h
        · rename_i e hu
          split at h
          · rename_i e' hu'
            obtain ⟨n, hn, h⟩ := bind_some' h
            obtain ⟨hcc, h⟩ := ite_none h
            obtain ⟨x', hx, h⟩ := bind_some' h
            obtain ⟨y', hy, h⟩ := bind_some' h
            obtain rfl := Option.some.inj h
            exact .loud _ _ (.inl rfl) rfl fun c hbb h => e_cpy c (sf := false) hu hn (fun h => nomatch h) ho hc ha hat hx hy h
          · rename_i hu'
            obtain ⟨n, hn, h⟩ := bind_some' h
            obtain ⟨hcc, h⟩ := ite_none h
            obtain ⟨x', hx, h⟩ := bind_some' h
            obtain ⟨y', hy, h⟩ := bind_some' h
            obtain rfl := Option.some.inj h
            exact .loud _ _ (.inl rfl) rfl fun c hbb h => e_cpy c (sf := true) hu hn (fun _ => by omega) ho hc ha hat hx hy h
          · exact nomatch h
        · exact nomatch h
      · exact nomatch h
    ·
      rename_i hc
      split at h
      · rename_i x y ha
        obtain ⟨x', hx, h⟩ := bind_some' h
        obtain ⟨y', hy, h⟩ := bind_some' h
        obtain rfl := Option.some.inj h
        exact .pure _ _ rfl fun c h => g_mn c ho hc ha hx hy h
      · exact nomatch h
    ·
      rename_i hc
      split at h
      · rename_i x y ha
        obtain ⟨x', hx, h⟩ := bind_some' h
        obtain ⟨y', hy, h⟩ := bind_some' h
        obtain rfl := Option.some.inj h
        exact .pure _ _ rfl fun c h => g_mx c ho hc ha hx hy h
      · exact nomatch h
    · exact nomatch h
  ·
    rename_i x ho
    obtain ⟨x', hx, h⟩ := bind_some' h
    obtain rfl := Option.some.inj h
    exact .panic _ _ ho hx
  · exact nomatch h
end
end Go.Proofs.YtnebopkgnkemiaaGreatDoor.Av
namespace Go.Proofs.YtnebopkgnkemiaaGreatDoor.Av
set_option linter.unusedVariables false
set_option linter.unusedSimpArgs false
open Go Go.RowKit
structure Now (P : Program) (base : Nat) (ρ : Map) (st : St) (w : World) (ρ' : Map) (st' : St) (w' : World) : Prop where
  ext : Ext ρ ρ' st.next
  rel : Rel P base ρ' st' w'
  turn : Turn st st'
  below : Below base w w'
  dead : Dead ρ ρ' st st'
theorem Now.refl {P : Program} {base : Nat} {ρ : Map} {st : St} {w : World} (h : Rel P base ρ st w) : Now P base ρ st w ρ st w := ⟨Ext.refl _ _, h, Turn.refl _, Below.refl _ _, Dead.refl _ _⟩
theorem Now.trans {P : Program} {base : Nat} {ρ ρ1 ρ2 : Map} {st st1 st2 : St} {w w1 w2 : World} (h : Now P base ρ st w ρ1 st1 w1) (h' : Now P base ρ1 st1 w1 ρ2 st2 w2) : Now P base ρ st w ρ2 st2 w2 :=
  ⟨h.ext.trans h'.ext h.turn.next, h'.rel, h.turn.trans h'.turn, h.below.trans h'.below, h.dead.trans h'.dead h.turn.next⟩
def Came (P : Program) (base : Nat) (ρ : Map) (st : St) (w : World) (r : CR) (st' : St) : Ending → World → Prop := fun e w' =>
  ∃ ρ', Now P base ρ st w ρ' st' w' ∧ match r, e with
    | .ret v, .returned v' => VR ρ' st'.next v v'
    | .pan v, .panicked chain => ∃ v', chain = [{ v := v', recovered := false }] ∧ VR ρ' st'.next v v'
    | _, _ => False
def FnOk (P : Program) (f : Nat) : Prop := ∃ fn, P.funcs[f]? = some fn ∧ (fn.name == "runtime.NumGoroutine") = false ∧ fn.body.isNone = false
def CallOk (P : Program) (call : Callee) : Prop :=
  ∀ ⦃base f : Nat⦄ ⦃args : List V⦄ ⦃st st' : St⦄ ⦃r : CR⦄ ⦃ρ : Map⦄ ⦃w : World⦄ ⦃args' : List Value⦄, call f args st = some (r, st') → Rel P base ρ st w → base ≤ w.heap.size → VRs ρ st.next args args' →
    (FnOk P f ∧ Calls P f args'.toArray w (Came P base ρ st w r st')) ∨
      (∃ v v', r = .ret v ∧ st' = st ∧ (callFunc f args'.toArray).run P w = .ok (.value v') w ∧ VR ρ st.next v v')
structure At (P : Program) (base : Nat) (dl : List Deferred) (ρ : Map) (st : St) (w : World) (nt : Nat) (tm : Tr V) (a : Act) : Prop where
  ctx : Ctx P base ρ st w nt tm a
  hb : base ≤ w.heap.size
  nod : a.defers = dl
def Fin (P : Program) (base nt : Nat) (dl : List Deferred) (ρ : Map) (st : St) (w : World) (r : Ex × Tr V × St) : Exit → Act → World → Prop := fun e a w' =>
  ∃ ρ', Now P base ρ st w ρ' r.2.2 w' ∧ a.defers = dl ∧ match r.1, e with
    | .nrm, .normal => TmR ρ' r.2.2.next nt r.2.1 a.tmps
    | .exit i, .exit j => i = j ∧ TmR ρ' r.2.2.next nt r.2.1 a.tmps
    | .ret, .ret => TmR ρ' r.2.2.next nt r.2.1 a.tmps
    | .pan v, .panic chain => ∃ v', chain = [{ v := v', recovered := false }] ∧ VR ρ' r.2.2.next v v' ∧ TmW ρ' r.2.2.next nt r.2.1 a.tmps
    | _, _ => False
section
variable {P : Program} {base nt : Nat} {dl : List Deferred} {call : Callee} {ρ : Map} {st : St} {w : World} {tm : Tr V} {a : Act} {o : Oper} {Q : Exit → Act → World → Prop} {next : Act → World → Prop}
theorem Fin.mono {ρ1 : Map} {st1 : St} {w1 : World} {r : Ex × Tr V × St} (h : Now P base ρ st w ρ1 st1 w1) {e : Exit} {a : Act} {w' : World} (hf : Fin P base nt dl ρ1 st1 w1 r e a w') : Fin P base nt dl ρ st w r e a w' := by
  obtain ⟨ρ', h1, h2⟩ := hf
  exact ⟨ρ', h.trans h1, h2⟩
theorem size_le (h : base ≤ w.heap.size) {w' : World} (hb : Below base w w') : base ≤ w'.heap.size := Nat.le_trans h hb.size
theorem put_some (a : Act) (d : Nat) (v : Value) : (a.put (some d) v).tmps = a.tmps.setIfInBounds d v := rfl
theorem put_nod {a : Act} (h : a.defers = dl) (d : Option Tmp) (v : Value) : (a.put d v).defers = dl := by cases d <;> exact h
theorem putT_rel {n : Nat} (h : TmR ρ n nt tm a.tmps) (hd : ∀ t, o.dst = some t → t < nt) {v : V} {v' : Value} (hv : VR ρ n v v') : TmR ρ n nt (putT tm (o.dst.map pa) v) (a.put o.dst v').tmps := by
  cases hd' : o.dst with
  | none => exact h
  | some d => exact h.put (hd d hd') hv
theorem upon_pure {f : Tr V → St → Option V} (hf : PureOk P o f) (c : Ctx P base ρ st w nt tm a) {v : V} (h : f tm st = some v) (hn : ∀ v', VR ρ st.next v v' → next (a.put o.dst v') w) : o.wp P a w next Q := by
  obtain ⟨v', h1, h2⟩ := hf c h
  unfold Oper.wp
  rw [h1]
  exact hn v' h2
theorem upon_loud {f : Tr V → St → Ev} (hf : LoudOk P o f) (c : Ctx P base ρ st w nt tm a) (hb : base ≤ w.heap.size) {v : V} {st' : St} (h : f tm st = some (v, st'))
    (hn : ∀ v' ρ' w', Now P base ρ st w ρ' st' w' → VR ρ' st'.next v v' → next (a.put o.dst v') w') : o.wp P a w next Q := by
  obtain ⟨v', w', ρ', h1, h2, h3, h4, h5, h6, h7⟩ := hf c hb h
  unfold Oper.wp
  rcases h1 with h1 | ⟨h1, rfl⟩
  · rw [h1]; exact hn v' ρ' w' ⟨h2, h4, h5, h6, h7⟩ h3
  · rw [h1]; exact hn _ ρ' w' ⟨h2, h4, h5, h6, h7⟩ h3
theorem upon_enter' {f : Nat} {args : Array Value} (hr : (execOp a.eval o).run P w = .ok (.enter f args) w) {r : CR} {st' : St} (hc : Calls P f args w (Came P base ρ st w r st'))
    (hn : ∀ v v' ρ' w', r = .ret v → Now P base ρ st w ρ' st' w' → VR ρ' st'.next v v' → next (a.put o.dst v') w')
    (hp : ∀ v v' ρ' w', r = .pan v → Now P base ρ st w ρ' st' w' → VR ρ' st'.next v v' → Q (.panic [{ v := v', recovered := false }]) a w') : o.wp P a w next Q := by
  unfold Oper.wp
  rw [hr]
  refine Calls.mono hc fun e w' ⟨ρ', h1, h2⟩ => ?_
  cases r with
  | ret v => cases e with
    | returned v' => exact hn v v' ρ' w' rfl h1 h2
    | _ => exact h2.elim
  | pan v => cases e with
    | panicked chain =>
      obtain ⟨v', rfl, h3⟩ := h2
      exact hp v v' ρ' w' rfl h1 h3
    | _ => exact h2.elim
theorem upon_call {f : Nat} {args : Array Value} (he : execOp a.eval o = callFunc f args) {r : CR} {st' : St} (hrel : Rel P base ρ st w) (hcall : (FnOk P f ∧ Calls P f args w (Came P base ρ st w r st')) ∨
      (∃ v v', r = .ret v ∧ st' = st ∧ (callFunc f args).run P w = .ok (.value v') w ∧ VR ρ st.next v v')) (hrun : FnOk P f → (callFunc f args).run P w = .ok (.enter f args) w)
    (hn : ∀ v v' ρ' w', r = .ret v → Now P base ρ st w ρ' st' w' → VR ρ' st'.next v v' → next (a.put o.dst v') w')
    (hp : ∀ v v' ρ' w', r = .pan v → Now P base ρ st w ρ' st' w' → VR ρ' st'.next v v' → Q (.panic [{ v := v', recovered := false }]) a w') : o.wp P a w next Q := by
  rcases hcall with ⟨hf, hc⟩ | ⟨v, v', rfl, rfl, h1, h2⟩
  · exact upon_enter' (by rw [he]; exact hrun hf) hc hn hp
  · unfold Oper.wp
    rw [he, h1]
    exact hn v v' ρ w rfl (Now.refl hrel) h2
theorem run_callFunc {f : Nat} (hf : FnOk P f) (args : Array Value) : (callFunc f args).run P w = .ok (.enter f args) w := by
  obtain ⟨fn, h1, h2, h3⟩ := hf
  have h : (callFunc f args).run P w = Sem.run P (match P.funcs[f]? with
      | none => stuck "call: no such function"
      | some fn => if fn.name == "runtime.NumGoroutine" then pure .numGoroutine
        else if fn.body.isNone then callFunc f args else pure (.enter f args)) w := by
    have : (callFunc f args).run P w = Sem.run P (match P.funcs[f]? with
      | none => stuck "call: no such function"
      | some fn => if fn.name == "runtime.NumGoroutine" then pure .numGoroutine
        else if fn.body.isNone then (do
          mark (.extern f)
          if let some e := Extern.findNext fn then return ← e args
          match Extern.find fn with
          | some e => pure (.value (← e args))
          | none =>
            if fn.name.endsWith ".init" && !fn.name.startsWith "(" && !fn.name.startsWith "gosem." then pure (.value (.tuple #[]))
            else unsupported (.extern fn.name)) else pure (.enter f args)) w := rfl
    rw [this, h1]
    simp only [h2, h3]
    rfl
  rw [h, h1]
  simp only [h2, h3]
  rfl
theorem exec_call {f : Nat} {c : Call} (ho : o.op = .call c) (hcl : c.callee = .value (.func f)) : execOp a.eval o = callFunc f (c.args.map a.eval) := by
  have h : execOp a.eval o = (do let d ← resolve a.eval c o.type; invoke d.target d.args) := by unfold execOp; rw [ho]
  have h2 : resolve a.eval c o.type = pure { target := .fn (.func f) #[], args := #[] ++ c.args.map a.eval } := by unfold resolve; rw [hcl]; rfl
  rw [h, h2]
  show callFunc f ((#[] ++ c.args.map a.eval) ++ #[]) = _
  simp
theorem exec_dyn {f : Nat} {c : Call} {y : Operand} {cs : Array Value} (ho : o.op = .call c) (hcl : c.callee = .value y) (hy : a.eval y = .func (.func f) #[] cs) :
    execOp a.eval o = callFunc f (c.args.map a.eval ++ cs) := by
  have h : execOp a.eval o = (do let d ← resolve a.eval c o.type; invoke d.target d.args) := by unfold execOp; rw [ho]
  have h2 : resolve a.eval c o.type = pure { target := .fn (.func f) cs, args := #[] ++ c.args.map a.eval } := by unfold resolve; rw [hcl]; simp only [hy]; rfl
  rw [h, h2]
  show callFunc f ((#[] ++ c.args.map a.eval) ++ cs) = _
  simp
theorem vr_bool {n : Nat} {v : V} {b : Bool} (h : VR ρ n v (.bool b)) : v = .bool b := by
  cases h with
  | bool => rfl
  | any _ _ h => exact absurd rfl (h b)
theorem isB_eq (want : Bool) (v : V) : isB want v = true ↔ v = .bool want := by
  cases v with
  | bool b => cases b <;> cases want <;> simp [isB, V.onBool]
  | _ => simp [isB, V.onBool]
theorem wanted_eq {n : Nat} (h : TmR ρ n nt tm a.tmps) {ops : Array Oper} {g : Option (Pa × Bool)} (hg : (o.guard = none ∧ g = none) ∨ ∃ j want t, o.guard = some (j, want) ∧ (ops[j]?).bind (·.dst) = some t ∧ g = some (pa t, want)) :
    Region.wanted o (yielded ops a.tmps) = wantedV tm g := by
  rcases hg with ⟨h1, rfl⟩ | ⟨j, want, t, h1, h2, rfl⟩
  · simp [Region.wanted, h1, wantedV]
  · have hv := h.2 t
    have hw : wantedV tm (some (pa t, want)) = isB want ((tm.at (pa t)).getD .undef) := by
      show (Option.rec false (fun v => isB want v) (tm.at (pa t)) : Bool) = _
      cases tm.at (pa t) with
      | none => rfl
      | some v => rfl
    rw [hw, Bool.eq_iff_iff, isB_eq]
    simp only [Region.wanted, h1, yielded, h2, Option.bind_some]
    constructor
    · intro h3
      have h4 : a.tmps[t]? = some (.bool want) := by
        cases hc : a.tmps[t]? with
        | none => rw [hc] at h3; simp at h3
        | some u => rw [hc] at h3; cases u <;> simp at h3; rw [h3]
      have h5 : a.tmps.getD t Go.undef = .bool want := by rw [Array.getD_eq_getD_getElem?, h4]; rfl
      rw [h5] at hv
      exact vr_bool hv
    · intro h3
      rw [h3] at hv
      have h4 := hv.bool_inv
      have h5 : a.tmps[t]? = some (.bool want) := by
        cases hc : a.tmps[t]? with
        | none => rw [Array.getD_eq_getD_getElem?, hc] at h4; exact nomatch h4
        | some u => rw [Array.getD_eq_getD_getElem?, hc] at h4; rw [show u = .bool want from h4]
      rw [h5]; simp
theorem upon_mono {Q' : Exit → Act → World → Prop} {next' : Act → World → Prop} (hq : ∀ e a w, Q e a w → Q' e a w) (hn : ∀ a w, next a w → next' a w) (h : o.wp P a w next Q) : o.wp P a w next' Q' := by
  unfold Oper.wp at *
  generalize (execOp a.eval o).run P w = r at *
  cases r with
  | ok n w' =>
    cases n <;> simp only [Oper.upon] at h ⊢ <;>
      first
        | exact hn _ _ h
        | exact Calls.mono h (fun e w'' he => by
            cases e with
            | returned v => exact hn _ _ he
            | panicked c => exact hq _ _ _ he
            | outgrown => obtain ⟨a0, w0, h0⟩ := he; exact ⟨a0, w0, hq _ _ _ h0⟩)
        | exact Rows.mono h (fun _ _ he => hn _ _ he)
        | exact h
  | halt x w' => cases x <;> simp only [Oper.upon] at h ⊢ <;> first | exact hq _ _ _ h | exact h
def opsN (P : Program) (ops : Array Oper) (Q : Exit → Act → World → Prop) (next : Act → World → Prop) : List Nat → Act → World → Prop
  | [], a, w => next a w
  | i :: rest, a, w =>
    match ops[i]? with
    | none => opsN P ops Q next rest a w
    | some o => if Region.wanted o (yielded ops a.tmps) then o.wp P a w (opsN P ops Q next rest) Q else opsN P ops Q next rest (a.put o.dst Go.undef) w
theorem opsN_mono {Q' : Exit → Act → World → Prop} {next' : Act → World → Prop} {ops : Array Oper} (hq : ∀ e a w, Q e a w → Q' e a w) (hn : ∀ a w, next a w → next' a w) : ∀ (l : List Nat) (a : Act) (w : World), opsN P ops Q next l a w → opsN P ops Q' next' l a w
  | [], a, w, h => hn _ _ h
  | i :: l, a, w, h => by
    simp only [opsN] at h ⊢
    split
    · rename_i hi; rw [hi] at h; exact opsN_mono hq hn l a w h
    · rename_i o hi
      rw [hi] at h
      split
      · rename_i hw
        simp only [hw, if_true] at h
        exact upon_mono hq (fun a w => opsN_mono hq hn l a w) h
      · rename_i hw
        simp only [hw] at h
        exact opsN_mono hq hn l _ w h
theorem opsN_wpOps {ops : Array Oper} : ∀ (l : List Nat) (a : Act) (w : World), opsN P ops Q (Q .normal) l a w → wpOps P ops Q l a w
  | [], a, w, h => h
  | i :: l, a, w, h => by
    simp only [opsN] at h
    simp only [wpOps]
    split
    · rename_i hi; rw [hi] at h; exact opsN_wpOps l a w h
    · rename_i o hi
      rw [hi] at h
      split
      · rename_i hw
        simp only [hw, if_true] at h
        exact .inl (upon_mono (fun _ _ _ h => h) (fun a w => opsN_wpOps l a w) h)
      · rename_i hw
        simp only [hw] at h
        exact opsN_wpOps l _ w h
theorem opsN_append {ops : Array Oper} : ∀ (l l' : List Nat), opsN P ops Q next (l ++ l') = opsN P ops Q (opsN P ops Q next l') l
  | [], l' => rfl
  | i :: l, l' => by
    funext a w
    show opsN P ops Q next (i :: (l ++ l')) a w = _
    simp only [opsN, opsN_append l l']
theorem compO_inv {ops : Array Oper} {x : O} (h : compO P nt ops o = some x) : (∀ t, o.dst = some t → t < nt) ∧ x.d = o.dst.map pa ∧ x.i = (compOp P o).getD (.no 0) ∧
    ((o.guard = none ∧ x.g = none) ∨ ∃ j want t, o.guard = some (j, want) ∧ (ops[j]?).bind (·.dst) = some t ∧ x.g = some (pa t, want)) := by
  unfold compO at h
  split at h
  · exact nomatch h
  · rename_i hd
    have hd' : ∀ t, o.dst = some t → t < nt := fun t ht => by rw [ht] at hd; simpa using hd
    split at h
    · rename_i hg
      obtain rfl := Option.some.inj h
      exact ⟨hd', rfl, rfl, .inl ⟨hg, rfl⟩⟩
    · rename_i j want hg
      split at h
      · rename_i t ht
        obtain rfl := Option.some.inj h
        exact ⟨hd', rfl, rfl, .inr ⟨j, want, t, hg, ht, rfl⟩⟩
      · exact nomatch h
theorem cls_of {x : O} (hx : x.i = (compOp P o).getD (.no 0)) : Cls P o x.i ∨ ∃ n, x.i = .no n := by
  cases hc : compOp P o with
  | none => right; rw [hc] at hx; exact ⟨0, hx⟩
  | some i => left; rw [hc] at hx; rw [show x.i = i from hx]; exact cls hc
theorem Now.tms {ρ1 : Map} {st1 : St} {w1 : World} (h : Now P base ρ st w ρ1 st1 w1) {t : Array Value} (ht : TmR ρ st.next nt tm t) : TmR ρ1 st1.next nt tm t := ht.mono h.ext h.turn.next
theorem Now.tmsW {ρ1 : Map} {st1 : St} {w1 : World} (h : Now P base ρ st w ρ1 st1 w1) {t : Array Value} (ht : TmW ρ st.next nt tm t) : TmW ρ1 st1.next nt tm t := ht.mono h.ext h.turn.next
theorem ops_sound (hc : CallOk P call) (ops : Array Oper) : ∀ (l : List Oper) (k : Nat) (os : List O), compOs P nt ops l = some os → (∀ j o, l[j]? = some o → ops[k + j]? = some o) →
    ∀ {ρ : Map} {st : St} {w : World} {tm : Tr V} {a : Act} {r : Ex × Tr V × St}, At P base dl ρ st w nt tm a → evO os call tm st = some r → opsN P ops (Fin P base nt dl ρ st w r) (Fin P base nt dl ρ st w r .normal) (List.range' k l.length) a w
  | [], k, os, h, hl, ρ, st, w, tm, a, r, c, hr => by
    obtain rfl := Option.some.inj h
    obtain rfl := Option.some.inj hr
    exact ⟨ρ, Now.refl c.ctx.rel, c.nod, c.ctx.tms⟩
  | o :: l, k, os, h, hl, ρ, st, w, tm, a, r, c, hr => by
    unfold compOs at h
    split at h
    · rename_i x xs hx hxs
      obtain rfl := Option.some.inj h
      have hok : ops[k]? = some o := hl 0 o rfl
      have hl' : ∀ j o, l[j]? = some o → ops[k + 1 + j]? = some o := fun j o' hj => by
        have := hl (j + 1) o' (by simpa using hj)
        rwa [show k + (j + 1) = k + 1 + j by omega] at this
      obtain ⟨hdn, hxd, hxi, hg⟩ := compO_inv hx
      have hr' : (Bool.rec (evO xs call (putT tm x.d .undef) st) (x.i.go x.d (evO xs) call tm st) (wantedV tm x.g) : Run) = some r := hr
      have hgo : ∀ {ρ1 : Map} {st1 : St} {w1 : World} {v : V} {v' : Value}, Now P base ρ st w ρ1 st1 w1 → VR ρ1 st1.next v v' → evO xs call (putT tm x.d v) st1 = some r → opsN P ops (Fin P base nt dl ρ st w r) (Fin P base nt dl ρ st w r .normal) (List.range' (k + 1) l.length) (a.put o.dst v') w1 := by
        intro ρ1 st1 w1 v v' hn hv he
        have hc1 : At P base dl ρ1 st1 w1 nt (putT tm x.d v) (a.put o.dst v') := by
          rw [hxd]
          exact ⟨⟨hn.rel, putT_rel (hn.tms c.ctx.tms) hdn hv⟩, size_le c.hb hn.below, put_nod c.nod _ _⟩
        exact opsN_mono (fun e a w' hf => Fin.mono hn hf) (fun a w' hf => Fin.mono hn hf) _ _ _ (ops_sound hc ops l (k + 1) xs hxs hl' hc1 he)
      rw [List.length_cons, List.range'_succ]
      simp only [opsN, hok]
      rw [wanted_eq c.ctx.tms hg]
      cases hw : wantedV tm x.g with
      | false =>
        rw [hw] at hr'
        simp only [Bool.false_eq_true, if_false]
        exact hgo (Now.refl c.ctx.rel) (.tup [] [] .nil) hr'
      | true =>
        rw [hw] at hr'
        simp only [if_true]
        have hr2 : x.i.go x.d (evO xs) call tm st = some r := hr'
        rcases cls_of hxi with hcl | ⟨n, hno⟩
        · generalize x.i = i at hcl hr2
          cases hcl with
          | pure _ f hgo' hf =>
            rw [hgo'] at hr2
            obtain ⟨v, hv, h2⟩ := orec_none hr2
            exact upon_pure hf c.ctx hv fun v' h3 => hgo (Now.refl c.ctx.rel) h3 h2
          | loud _ f hk2 hgo' hf =>
            rw [hgo'] at hr2
            obtain ⟨⟨v, st'⟩, hv, h2⟩ := orec_none hr2
            exact upon_loud hf c.ctx c.hb hv fun v' ρ' w' h3 h4 => hgo h3 h4 h2
          | call f ys cl ho hcl hys =>
            have hr3 : goR x.d (evO xs) call tm (call f (X.evs tm ys) st) = some r := hr2
            obtain ⟨⟨c', st'⟩, hv, h2⟩ := orec_none hr3
            have hvs : VRs ρ st.next (X.evs tm ys) (cl.args.map a.eval).toList := by rw [Array.toList_map]; exact c.ctx.opds hys
            have hcalls := hc hv c.ctx.rel c.hb hvs
            refine upon_call (exec_call ho hcl) c.ctx.rel hcalls (fun h => run_callFunc h _) (fun v v' ρ' w' he h3 h4 => ?_) (fun v v' ρ' w' he h3 h4 => ?_)
            · subst he; exact hgo h3 h4 h2
            · subst he
              obtain rfl := Option.some.inj h2
              exact ⟨ρ', h3, c.nod, v', rfl, h4, (h3.tms c.ctx.tms).weak⟩
          | dyn y z ys cl ho hcl hz hys =>
            have hr3 : goR x.d (evO xs) call tm (dynV call (X.evs tm ys) st (y.ev tm)) = some r := hr2
            obtain ⟨⟨c', st'⟩, hv, h2⟩ := orec_none hr3
            obtain ⟨f, cs, hf, hv2⟩ := onFunc_some hv
            have hz' := c.ctx.opd hz
            rw [hf] at hz'
            obtain ⟨cs', hz2, hcs⟩ := hz'.func_inv
            rw [appL_eq] at hv2
            have hvs : VRs ρ st.next (X.evs tm ys ++ cs) ((cl.args.map a.eval).toList ++ cs') := by rw [Array.toList_map]; exact (c.ctx.opds hys).append hcs
            have hcalls := hc hv2 c.ctx.rel c.hb hvs
            have harr : ((cl.args.map a.eval).toList ++ cs').toArray = cl.args.map a.eval ++ cs'.toArray := by apply Array.toList_inj.1; simp
            rw [harr] at hcalls
            refine upon_call (exec_dyn ho hcl hz2) c.ctx.rel hcalls (fun h => run_callFunc h _) (fun v v' ρ' w' he h3 h4 => ?_) (fun v v' ρ' w' he h3 h4 => ?_)
            · subst he; exact hgo h3 h4 h2
            · subst he
              obtain rfl := Option.some.inj h2
              exact ⟨ρ', h3, c.nod, v', rfl, h4, (h3.tms c.ctx.tms).weak⟩
          | panic y z ho hz =>
            have hr3 : (y.ev tm).onIface none none (fun t v => some (Ex.pan (.iface t v), tm, st)) = some r := hr2
            rcases onIface_some hr3 with ⟨_, _, _, _, _, _, h0⟩ | ⟨t, u, l', hv, h2⟩
            · exact nomatch h0
            · have hz' := c.ctx.opd hz
              rw [hv] at hz'
              obtain ⟨u', hz2, hu⟩ := hz'.iface_inv
              obtain rfl := Option.some.inj h2
              unfold Oper.wp
              have : (execOp a.eval o).run P w = .halt (.panic (.iface t u')) w := by
                simp [execOp, ho, hz2, Instr.panic]
              rw [this]
              exact ⟨ρ, Now.refl c.ctx.rel, c.nod, _, rfl, .iface t u u' hu, c.ctx.tms.weak⟩
        · rw [hno] at hr2
          exact nomatch hr2
    · exact nomatch h
theorem thenR_some {r : Run} {k : Tr V → St → Run} {x : Ex × Tr V × St} (h : thenR r k = some x) : ∃ e tm st, r = some (e, tm, st) ∧ ((e = .nrm ∧ k tm st = some x) ∨ (e ≠ .nrm ∧ x = (e, tm, st))) := by
  obtain ⟨⟨e, tm, st⟩, h1, h2⟩ := orec_none h
  refine ⟨e, tm, st, h1, ?_⟩
  cases e with
  | nrm => exact .inl ⟨rfl, h2⟩
  | exit id => exact .inr ⟨by simp, (Option.some.inj h2).symm⟩
  | ret => exact .inr ⟨by simp, (Option.some.inj h2).symm⟩
  | pan v => exact .inr ⟨by simp, (Option.some.inj h2).symm⟩
theorem Fin.at_nrm {r : Ex × Tr V × St} {w' : World} (hb : base ≤ w.heap.size) (h : Fin P base nt dl ρ st w r .normal a w') : r.1 = .nrm ∧ ∃ ρ', Now P base ρ st w ρ' r.2.2 w' ∧ At P base dl ρ' r.2.2 w' nt r.2.1 a := by
  obtain ⟨ρ', h1, h2, h3⟩ := h
  obtain ⟨e, tm', st'⟩ := r
  cases e with
  | nrm => exact ⟨rfl, ρ', h1, ⟨h1.rel, h3⟩, size_le hb h1.below, h2⟩
  | _ => exact h3.elim
theorem Fin.of_ne {r : Ex × Tr V × St} {e : Exit} {w' : World} (hn : r.1 ≠ .nrm) (h : Fin P base nt dl ρ st w r e a w') : e ≠ .normal ∧ Fin P base nt dl ρ st w r e a w' := by
  refine ⟨fun he => ?_, h⟩
  subst he
  obtain ⟨ρ', h1, h2, h3⟩ := h
  obtain ⟨x, tm', st'⟩ := r
  cases x with
  | nrm => exact hn rfl
  | _ => exact h3.elim
theorem then_of_ne {e : Exit} {w : World} (he : e ≠ .normal) (h : Q e a w) : Exit.then next Q e a w := by
  cases e with
  | normal => exact absurd rfl he
  | _ => exact h
def Sound (P : Program) (base nt : Nat) (dl : List Deferred) (run : Tr V → St → Run) (c : Code) : Prop :=
  ∀ ⦃ρ : Map⦄ ⦃st : St⦄ ⦃w : World⦄ ⦃tm : Tr V⦄ ⦃a : Act⦄ ⦃r : Ex × Tr V × St⦄, At P base dl ρ st w nt tm a → run tm st = some r → c.wp P (Fin P base nt dl ρ st w r) a w
theorem rounds_sound {run : Tr V → St → Run} {c : Code} (hs : Sound P base nt dl run c) : ∀ (n : Nat) {ρ : Map} {st : St} {w : World} {tm : Tr V} {a : Act} {r : Ex × Tr V × St}, At P base dl ρ st w nt tm a → loopV n run tm st = some r →
    ∀ Q : Exit → Act → World → Prop, (∀ e a w', Fin P base nt dl ρ st w r e a w' → Q e a w') → Code.rounds P c Q n a w
  | 0, ρ, st, w, tm, a, r, hat, h, Q, hq => nomatch h
  | n + 1, ρ, st, w, tm, a, r, hat, h, Q, hq => by
    obtain ⟨e, tm1, st1, h1, h2⟩ := thenR_some (show thenR (run tm st) (loopV n run) = some r from h)
    rw [rounds_succ]
    refine wp_mono (hs hat h1) fun x a1 w1 hf => ?_
    rcases h2 with ⟨rfl, h2⟩ | ⟨hne, rfl⟩
    · cases x with
      | normal =>
        obtain ⟨_, ρ1, hn, hat1⟩ := Fin.at_nrm hat.hb hf
        exact rounds_sound hs n hat1 h2 Q fun e a w' hf' => hq e a w' (Fin.mono hn hf')
      | _ => obtain ⟨ρ', h3, h4, h5⟩ := hf; exact h5.elim
    · obtain ⟨he, hf'⟩ := Fin.of_ne hne hf
      exact then_of_ne he (hq _ _ _ hf')
def DrawOk (P : Program) (call : Callee) : Prop := ∀ ⦃base nt id : Nat⦄ ⦃dl : List Deferred⦄ ⦃ops : Array Oper⦄ ⦃c : C⦄ ⦃n : Nat⦄, compDraw P nt ops = some c → Sound P base nt dl (c.ev call n) (.region id ops true)
theorem code_sound (hc : CallOk P call) (hd : DrawOk P call) {n : Nat} : ∀ {c : Code} {c' : C}, comp P nt c = some c' → Sound P base nt dl (c'.ev call n) c
  | .skip, c', h => by
    obtain rfl := Option.some.inj h
    intro ρ st w tm a r hat hr
    obtain rfl := Option.some.inj hr
    exact wp_skip ⟨ρ, Now.refl hat.ctx.rel, hat.nod, hat.ctx.tms⟩
  | .region id ops false, c', h => by
    obtain ⟨os, hos, rfl⟩ := map_some' (show (compOs P nt ops ops.toList).map C.reg = some c' from h)
    intro ρ st w tm a r hat hr
    have h2 := ops_sound hc ops ops.toList 0 os hos (fun j o h => by rw [Nat.zero_add]; simpa using h) hat hr
    refine wp_region (opsN_wpOps _ _ _ ?_)
    rw [List.range_eq_range']
    simpa using h2
  | .region id ops true, c', h => hd (show compDraw P nt ops = some c' from h)
  | .seq x y, c', h => by
    have h' : (match comp P nt x, comp P nt y with
      | some x, some y => some (C.seq x y)
      | _, _ => none) = some c' := h
    split at h'
    · rename_i x' y' hx hy
      obtain rfl := Option.some.inj h'
      intro ρ st w tm a r hat hr
      obtain ⟨e, tm1, st1, h1, h2⟩ := thenR_some (show thenR (x'.ev call n tm st) (y'.ev call n) = some r from hr)
      refine wp_seq (wp_mono (code_sound hc hd hx hat h1) fun z a1 w1 hf => ?_)
      rcases h2 with ⟨rfl, h2⟩ | ⟨hne, rfl⟩
      · cases z with
        | normal =>
          obtain ⟨_, ρ1, hn, hat1⟩ := Fin.at_nrm hat.hb hf
          exact wp_mono (code_sound hc hd hy hat1 h2) fun e a w' hf' => Fin.mono hn hf'
        | _ => obtain ⟨ρ', h3, h4, h5⟩ := hf; exact h5.elim
      · obtain ⟨he, hf'⟩ := Fin.of_ne hne hf
        exact then_of_ne he hf'
    · exact nomatch h'
  | .cond z x y, c', h => by
    have h' : (match compX P z, comp P nt x, comp P nt y with
      | some z, some x, some y => some (C.cond z x y)
      | _, _, _ => none) = some c' := h
    split at h'
    · rename_i z' x' y' hz hx hy
      obtain rfl := Option.some.inj h'
      intro ρ st w tm a r hat hr
      obtain ⟨b, hb, h1⟩ := onBool_some (show condV (x'.ev call n tm st) (y'.ev call n tm st) (z'.ev tm) = some r from hr)
      have hz' := hat.ctx.opd hz
      rw [hb] at hz'
      cases b with
      | true => exact wp_cond hz'.bool_inv (code_sound hc hd hx hat h1)
      | false => exact wp_cond hz'.bool_inv (code_sound hc hd hy hat h1)
    · exact nomatch h'
  | .block id b, c', h => by
    obtain ⟨b', hb, rfl⟩ := map_some' (show (comp P nt b).map (C.block id) = some c' from h)
    intro ρ st w tm a r hat hr
    obtain ⟨⟨e, q⟩, h1, h2⟩ := orec_none (show outR id (b'.ev call n tm st) = some r from hr)
    refine wp_block (wp_mono (code_sound hc hd hb hat h1) fun z a1 w1 hf => ?_)
    obtain ⟨ρ', h3, h4, h5⟩ := hf
    cases e with
    | nrm =>
      obtain rfl := Option.some.inj h2
      cases z with
      | normal => exact ⟨ρ', h3, h4, h5⟩
      | _ => exact h5.elim
    | exit id' =>
      have h2' : (Bool.rec (some (Ex.exit id', q)) (some (Ex.nrm, q)) (Nat.beq id' id) : Run) = some r := h2
      cases z with
      | exit j =>
        obtain ⟨rfl, h6⟩ := h5
        by_cases he : id' = id
        · rw [beqT he] at h2'
          obtain rfl := Option.some.inj h2'
          show (if id' = id then _ else _)
          rw [if_pos he]
          exact ⟨ρ', h3, h4, h6⟩
        · rw [beqF he] at h2'
          obtain rfl := Option.some.inj h2'
          show (if id' = id then _ else _)
          rw [if_neg he]
          exact ⟨ρ', h3, h4, rfl, h6⟩
      | _ => exact h5.elim
    | ret =>
      obtain rfl := Option.some.inj h2
      cases z with
      | ret => exact ⟨ρ', h3, h4, h5⟩
      | _ => exact h5.elim
    | pan v =>
      obtain rfl := Option.some.inj h2
      cases z with
      | panic ch => exact ⟨ρ', h3, h4, h5⟩
      | _ => exact h5.elim
  | .loop b, c', h => by
    obtain ⟨b', hb, rfl⟩ := map_some' (show (comp P nt b).map C.loop = some c' from h)
    intro ρ st w tm a r hat hr
    exact wp_loop_rounds n (rounds_sound (code_sound hc hd hb) n hat hr _ fun _ _ _ h => h)
  | .exit id, c', h => by
    obtain rfl := Option.some.inj h
    intro ρ st w tm a r hat hr
    obtain rfl := Option.some.inj hr
    exact wp_exit ⟨ρ, Now.refl hat.ctx.rel, hat.nod, rfl, hat.ctx.tms⟩
  | .scope b, c', h => by
    obtain ⟨b', hb, rfl⟩ := map_some' (show (comp P nt b).map C.scope = some c' from h)
    intro ρ st w tm a r hat hr
    refine wp_scope_straight (wp_mono (code_sound hc hd hb hat hr) fun z a1 w1 hf => ?_)
    cases z with
    | goto l => obtain ⟨ρ', h3, h4, h5⟩ := hf; obtain ⟨e, _⟩ := r; cases e <;> exact h5.elim
    | _ => exact hf
  | .ret, c', h => by
    obtain rfl := Option.some.inj h
    intro ρ st w tm a r hat hr
    obtain rfl := Option.some.inj hr
    exact wp_ret ⟨ρ, Now.refl hat.ctx.rel, hat.nod, hat.ctx.tms⟩
  | .rangeFunc f ps x y, c', h => by
    obtain rfl := Option.some.inj h
    intro ρ st w tm a r hat hr
    exact nomatch hr
  | .label l, c', h => by
    obtain rfl := Option.some.inj h
    intro ρ st w tm a r hat hr
    exact nomatch hr
  | .goto l, c', h => by
    obtain rfl := Option.some.inj h
    intro ρ st w tm a r hat hr
    exact nomatch hr
  | .refuse l, c', h => by
    obtain rfl := Option.some.inj h
    intro ρ st w tm a r hat hr
    exact nomatch hr
end
end Go.Proofs.YtnebopkgnkemiaaGreatDoor.Av
namespace Go.Proofs.YtnebopkgnkemiaaGreatDoor.Av
set_option linter.unusedVariables false
set_option linter.unusedSimpArgs false
open Go Go.RowKit
theorem under_cmp (n t a : Nat) (l : List V) : (V.cmp t a l).under n = l.all fun v => v.under n := by
  induction l with
  | nil => rfl
  | cons v l ih =>
    have h1 : (V.cmp t a (v :: l)).under n = (Bool.rec false ((V.cmp t a l).under n) (v.under n) : Bool) := rfl
    rw [h1, ih, List.all_cons]
    cases v.under n <;> rfl
theorem under_ref (n t o i m c : Nat) (x : Bool) : (V.ref t o i m c x).under n = true ↔ ((t = 1 ∨ t = 3 ∨ t = 5) → o < n) := by
  show (Bool.rec true (Nat.blt o n) (Nat.beq t 1 || (Nat.beq t 3 || Nat.beq t 5)) : Bool) = true ↔ _
  by_cases h : t = 1 ∨ t = 3 ∨ t = 5
  · have : (Nat.beq t 1 || (Nat.beq t 3 || Nat.beq t 5)) = true := by rcases h with rfl | rfl | rfl <;> rfl
    rw [this]
    exact ⟨fun h1 _ => blt_iff.1 h1, fun h1 => blt_iff.2 (h1 h)⟩
  · have h1 : ¬ t = 1 := fun e => h (.inl e)
    have h2 : ¬ t = 3 := fun e => h (.inr (.inl e))
    have h3 : ¬ t = 5 := fun e => h (.inr (.inr e))
    rw [beqF h1, beqF h2, beqF h3]
    exact ⟨fun _ h' => absurd h' h, fun _ => rfl⟩
mutual
theorem VR.under {ρ : Map} {n : Nat} : ∀ {v : V} {v' : Value}, VR ρ n v v' → v.under n = true
  | _, _, .int k i => rfl
  | _, _, .str s => rfl
  | _, _, .bool b => rfl
  | _, _, .nilPtr => rfl
  | _, _, .ptr o i h => (under_ref n 1 o i 0 0 false).2 fun _ => h.1
  | _, _, .nilSlice => rfl
  | _, _, .slice o i len cap x a c h h1 h2 h3 h4 h5 => (under_ref n 3 o i len cap x).2 fun _ => h.1
  | _, _, .nilMap => rfl
  | _, _, .map o h => (under_ref n 5 o 0 0 0 false).2 fun _ => h.1
  | _, _, .nilFunc => rfl
  | _, _, .func f l l' h => by rw [under_cmp]; exact VRs.under h
  | _, _, .nilIface => rfl
  | _, _, .iface t v v' h => by rw [under_cmp]; simpa using VR.under h
  | _, _, .wild t t' v' => rfl
  | _, _, .agg l l' h h1 => by rw [under_cmp]; exact VRs.under h
  | _, _, .tup l l' h => by rw [under_cmp]; exact VRs.under h
  | _, _, .any v h h1 => rfl
  | _, _, .fsl m cap c x a l l' h1 h2 h3 h7 h4 h5 h6 => by rw [under_cmp, List.all_cons, VRs.under h5]; rfl
  | _, _, .fptr a l l' h1 h2 h3 => by rw [under_cmp]; exact VRs.under h2
  | _, _, .bsl m cap c x a l l' h1 h2 h3 h7 h4 h5 h6 => by rw [under_cmp, List.all_cons, VRs.under h5]; rfl
  | _, _, .bptr a l l' h1 h2 h3 => by rw [under_cmp]; exact VRs.under h2
theorem VRs.under {ρ : Map} {n : Nat} : ∀ {l : List V} {l' : List Value}, VRs ρ n l l' → (l.all fun v => v.under n) = true
  | _, _, .nil => rfl
  | _, _, .cons h hs => by rw [List.all_cons, VR.under h, VRs.under hs]; rfl
end
mutual
theorem VR.lower {ρ : Map} {n m : Nat} : ∀ {v : V} {v' : Value}, VR ρ n v v' → v.under m = true → VR ρ m v v'
  | _, _, .int k i, _ => .int k i
  | _, _, .str s, _ => .str s
  | _, _, .bool b, _ => .bool b
  | _, _, .nilPtr, _ => .nilPtr
  | _, _, .ptr o i h, hu => .ptr o i ⟨(under_ref m 1 o i 0 0 false).1 hu (.inl rfl), h.2⟩
  | _, _, .nilSlice, _ => .nilSlice
  | _, _, .slice o i len cap x a c h h1 h2 h3 h4 h5, hu => .slice o i len cap x a c ⟨(under_ref m 3 o i len cap x).1 hu (.inr (.inl rfl)), h.2⟩ h1 h2 h3 h4 h5
  | _, _, .nilMap, _ => .nilMap
  | _, _, .map o h, hu => .map o ⟨(under_ref m 5 o 0 0 0 false).1 hu (.inr (.inr rfl)), h.2⟩
  | _, _, .nilFunc, _ => .nilFunc
  | _, _, .func f l l' h, hu => .func f l l' (VRs.lower h (by rwa [under_cmp] at hu))
  | _, _, .nilIface, _ => .nilIface
  | _, _, .iface t v v' h, hu => .iface t v v' (VR.lower h (by rw [under_cmp] at hu; simpa using hu))
  | _, _, .wild t t' v', _ => .wild t t' v'
  | _, _, .agg l l' h h1, hu => .agg l l' (VRs.lower h (by rwa [under_cmp] at hu)) h1
  | _, _, .tup l l' h, hu => .tup l l' (VRs.lower h (by rwa [under_cmp] at hu))
  | _, _, .any v h h1, _ => .any v h h1
  | _, _, .fsl q cap c x a l l' h1 h2 h3 h7 h4 h5 h6, hu => .fsl q cap c x a l l' h1 h2 h3 h7 h4 (VRs.lower h5 (by rw [under_cmp, List.all_cons, Bool.and_eq_true] at hu; exact hu.2)) h6
  | _, _, .fptr a l l' h1 h2 h3, hu => .fptr a l l' h1 (VRs.lower h2 (by rwa [under_cmp] at hu)) h3
  | _, _, .bsl q cap c x a l l' h1 h2 h3 h7 h4 h5 h6, hu => .bsl q cap c x a l l' h1 h2 h3 h7 h4 (VRs.lower h5 (by rw [under_cmp, List.all_cons, Bool.and_eq_true] at hu; exact hu.2)) h6
  | _, _, .bptr a l l' h1 h2 h3, hu => .bptr a l l' h1 (VRs.lower h2 (by rwa [under_cmp] at hu)) h3
theorem VRs.lower {ρ : Map} {n m : Nat} : ∀ {l : List V} {l' : List Value}, VRs ρ n l l' → (l.all fun v => v.under m) = true → VRs ρ m l l'
  | _, _, .nil, _ => .nil
  | _, _, .cons h hs, hu => by
    rw [List.all_cons, Bool.and_eq_true] at hu
    exact .cons (VR.lower h hu.1) (VRs.lower hs hu.2)
end
section
variable {P : Program} {base nt : Nat} {call : Callee} {ρ ρ' : Map} {st st' : St} {w w' : World} {tm : Tr V} {a : Act}
theorem Entries.lower {n n' m : Nat} : ∀ {l : List (V × V)} {l1 l2 : List MapEntry}, Entries ρ m l l1 → Entries ρ' n l l2 → Entries ρ' m l l2
  | [], [], [], _, _ => trivial
  | (k, v) :: l, e :: l1, e' :: l2, h, h' => ⟨h'.1.lower h.1.under, h'.2.1.lower h.2.1.under, Entries.lower (n' := n') h.2.2 h'.2.2⟩
  | [], _ :: _, _, h, _ => h.elim
  | [], [], _ :: _, _, h => h.elim
  | _ :: _, [], _, h, _ => h.elim
  | _ :: _, _ :: _, [], _, h => h.elim
theorem OR.lower {n m : Nat} {p p' : Pl} {b : Ob} (h : OR P ρ m w p b) (h' : OR P ρ' n w' p' b) : OR P ρ' m w' p' b := by
  cases b with
  | cells e cs own =>
    obtain ⟨c, e', lo, hi, h1, h2, h3, h4⟩ := h'
    obtain ⟨c0, e0, lo0, hi0, h5, h6, h7, h8⟩ := h
    refine ⟨c, e', lo, hi, h1, fun j v hv => ?_, h3, h4⟩
    obtain ⟨v', h9, h10, h11⟩ := h2 j v hv
    obtain ⟨v0, _, h12, _⟩ := h6 j v hv
    exact ⟨v', h9, h10.lower h12.under, h11⟩
  | iter s pos => exact h'
  | map es =>
    obtain ⟨es', clock, h1, h2⟩ := h'
    obtain ⟨es0, clock0, h3, h4⟩ := h
    exact ⟨es', clock, h1, Entries.lower (n' := n) h4 h2⟩
theorem Rel.back (h : Rel P base ρ st w) (hn : Now P base ρ st w ρ' st' w') (hl : st.next ≤ st'.low) : Rel P base ρ' st w' := by
  have hm : ∀ o b, st.mem.get o = some b → o < st.next ∧ st'.mem.get o = some b := fun o b hb => by
    have h1 := (h.obj o b hb).1
    exact ⟨h1, by rw [hn.turn.mem o h1 (by omega)]; exact hb⟩
  refine ⟨fun o b hb => ⟨(h.obj o b hb).1, fun hl => OR.lower ((h.obj o b hb).2 (hn.dead.back (h.obj o b hb).1 hl)) ((hn.rel.obj o b (hm o b hb).2).2 hl)⟩, fun o o' b b' hl hl' hb hb' hne hown => ?_, fun o b hl hb hown => ?_, ⟨h.glob.1, fun g hg => ?_⟩, fun b x hx => ⟨(hn.rel.fz b x hx).1, (hn.rel.fz b x hx).2.1, fun o ob hl hg ho => (hn.rel.fz b x hx).2.2 o ob hl (hm o ob hg).2 ho⟩,
    fun b x hx => ⟨(hn.rel.kp b x hx).1, fun o ob hl hg ho => (hn.rel.kp b x hx).2 o ob hl (hm o ob hg).2 ho⟩⟩
  · exact hn.rel.sep o o' b b' hl hl' (hm o b hb).2 (hm o' b' hb').2 hne hown
  · exact hn.rel.base o b hl (hm o b hb).2 hown
  · exact hn.rel.glob.2 g hg
theorem Rel.low (h : Rel P base ρ st w) (l : Nat) : Rel P base ρ { next := st.next, low := l, mem := st.mem } w := ⟨h.obj, h.sep, h.base, h.glob, h.fz, h.kp⟩
theorem at_initT : ∀ (l : List V) (k : Nat) (tm : Tr V) (i : Nat), (initT l k tm).at (pa i) = if k ≤ i ∧ i < k + l.length then l[i - k]? else tm.at (pa i)
  | [], k, tm, i => by rw [if_neg (fun h => by have h2 := h.2; simp at h2; omega)]; rfl
  | v :: l, k, tm, i => by
    have h : initT (v :: l) k tm = initT l (k + 1) (tm.to (pa k) (some v)) := rfl
    rw [h, at_initT l (k + 1)]
    by_cases h1 : i = k
    · subst h1
      rw [if_neg (by omega), at_to_same, if_pos (by simp), Nat.sub_self]
      rfl
    · rw [at_to_ne _ _ (fun e => h1 (pa_inj e).symm)]
      by_cases h2 : k + 1 ≤ i ∧ i < k + 1 + l.length
      · rw [if_pos h2, if_pos (by simp; omega)]
        obtain ⟨j, rfl⟩ : ∃ j, i = k + 1 + j := ⟨i - (k + 1), by omega⟩
        rw [show k + 1 + j - (k + 1) = j by omega, show k + 1 + j - k = j + 1 by omega]
        rfl
      · rw [if_neg h2, if_neg (by simp; omega)]
theorem init_tms {n : Nat} {l : List V} {l' : List Value} (h : VRs ρ n l l') : TmR ρ n nt (initT l 0 .leaf) (l'.toArray ++ Array.replicate (nt - l'.toArray.size) Go.undef) := by
  have hl := h.length
  refine ⟨by simp; omega, fun i => ?_⟩
  rw [at_initT, at_leaf]
  by_cases hi : i < l.length
  · rw [if_pos (by omega), Nat.sub_zero, List.getElem?_eq_getElem hi]
    obtain ⟨v', h1, h2⟩ := h.get i _ (List.getElem?_eq_getElem hi)
    have : (l'.toArray ++ Array.replicate (nt - l'.toArray.size) Go.undef).getD i Go.undef = v' := by
      rw [Array.getD_eq_getD_getElem?, Array.getElem?_append_left (by simp; omega)]
      simp [h1]
    rw [this]
    exact h2
  · rw [if_neg (by omega)]
    have : (l'.toArray ++ Array.replicate (nt - l'.toArray.size) Go.undef).getD i Go.undef = Go.undef := by
      rw [Array.getD_eq_getD_getElem?, Array.getElem?_append_right (by simp; omega)]
      rw [Array.getElem?_replicate]
      split <;> rfl
    rw [this]
    exact .tup [] [] .nil
def resOne (tmps : Array Value) : ResultVar → Sem Value
  | .tmp t => pure (tmps.getD t Go.undef)
  | .cell a t => do loadVar t (← asAddr (tmps.getD a Go.undef))
theorem res_list (hrel : Rel P base ρ st w) (htm : TmW ρ st.next nt tm a.tmps) : ∀ {rs : List ResultVar} {xs : List RV} {vs : List V}, resT P rs = some xs → RV.evs tm st xs = some vs →
    ∃ vs', (rs.mapM (resOne a.tmps) : Sem (List Value)).run P w = .ok vs' w ∧ VRs ρ st.next vs vs'
  | [], xs, vs, h, hv => by
    obtain rfl := Option.some.inj h
    obtain rfl := Option.some.inj hv
    exact ⟨[], rfl, .nil⟩
  | r :: rs, xs, vs, h, hv => by
    have key : ∀ (x : RV) (xs' : List RV), xs = x :: xs' → resT P rs = some xs' → (∀ v, x.ev tm st = some v → ∃ v', (resOne a.tmps r).run P w = .ok v' w ∧ VR ρ st.next v v') →
        ∃ vs', ((r :: rs).mapM (resOne a.tmps) : Sem (List Value)).run P w = .ok vs' w ∧ VRs ρ st.next vs vs' := by
      intro x xs' hx hxs hone
      subst hx
      have hv' : (match x.ev tm st, RV.evs tm st xs' with
        | some v, some vs => some (v :: vs)
        | _, _ => none) = some vs := hv
      split at hv'
      · rename_i v vs1 h1 h2
        obtain rfl := Option.some.inj hv'
        obtain ⟨v', h3, h4⟩ := hone v h1
        obtain ⟨vs', h5, h6⟩ := res_list hrel htm hxs h2
        exact ⟨v' :: vs', by simp only [List.mapM_cons, Sem.run_bind, h3, Result.andThen_ok, h5, Sem.run_pure], .cons h4 h6⟩
      · exact nomatch hv'
    cases r with
    | tmp t =>
      obtain ⟨xs', hxs, hx⟩ := map_some' (show (resT P rs).map (RV.t (pa t) :: ·) = some xs from h)
      refine key _ xs' hx.symm hxs fun v hv => ?_
      exact ⟨_, rfl, htm.2 t v hv⟩
    | cell ad t =>
      obtain ⟨g, hg, h⟩ := bind_some' h
      obtain ⟨n, hn, h⟩ := bind_some' h
      obtain ⟨xs', hxs, h⟩ := bind_some' h
      refine key _ xs' (Option.some.inj h).symm hxs fun v hv => ?_
      have hv' : iLoad g n (.t (pa ad)) tm st = some v := hv
      have hat : ∀ u, X.ev tm (.t (pa ad)) = u → u ≠ .undef → VR ρ st.next u (a.tmps.getD ad Go.undef) := fun u hu hne => by
        rw [ev_t] at hu
        cases hat : tm.at (pa ad) with
        | none => rw [hat] at hu; exact absurd hu.symm hne
        | some u' => rw [hat] at hu; rw [← show u' = u from hu]; exact htm.2 ad u' hat
      rcases onPtr_some2 hv' with ⟨ob, i, n1, c1, x1, hv1, h1⟩ | ⟨t1, a1, l, ht1, hv1, h2⟩
      · obtain ⟨e, cs, own, hm, h2⟩ := onCells_some h1
        obtain ⟨hlv, h4⟩ := (hat _ hv1 (fun h => nomatch h)).ptr_inv
        obtain ⟨cc, e', lo, hi, h7, h8, _⟩ := hrel.at hm hlv
        obtain ⟨v', h5, h6⟩ := loadVar_ok hg hn h7 h8 h2
        refine ⟨v', ?_, h6⟩
        simp only [resOne, Sem.run_bind, h4, asAddr, Result.andThen_ok, h5, Sem.run_pure]
      · obtain ⟨t2, rfl, ht2⟩ : ∃ t2, t1 = t2 + 1 ∧ (t2 = 4 ∨ t2 = 6) := by rcases ht1 with rfl | rfl; exact ⟨4, rfl, .inl rfl⟩; exact ⟨6, rfl, .inr rfl⟩
        obtain ⟨ad', l', h4, h7, h8, h9⟩ := (hat _ hv1 (fun h => by rcases ht2 with rfl | rfl <;> exact nomatch h)).fptr_inv ht2
        obtain ⟨p, cs, e, lo, hi, rfl, h10, h11⟩ := fz_lies hrel h7 h8 h9
        obtain ⟨v', h5, h6⟩ := loadVar_ok hg hn h10 h11 h2
        refine ⟨v', ?_, h6⟩
        simp only [resOne, Sem.run_bind, h4, asAddr, Result.andThen_ok, h5, Sem.run_pure]
theorem results_run {fn : Func} {tmps : Array Value} {vs : List Value} (h : (fn.results.toList.mapM (resOne tmps) : Sem (List Value)).run P w = .ok vs w) :
    (results fn tmps).run P w = .ok (if h : vs.toArray.size = 1 then vs.toArray[0] else .tuple vs.toArray) w := by
  have h1 : results fn tmps = (do
      let vs ← fn.results.mapM (resOne tmps)
      pure (if h : vs.size = 1 then vs[0] else .tuple vs)) := by
    unfold results
    first | rfl | (congr 1; done) | (congr 1; congr 1; done) | (congr 1; congr 1; funext r; cases r <;> rfl)
  have h2 : (fn.results.mapM (resOne tmps) : Sem (Array Value)).run P w = .ok vs.toArray w := by
    rw [Array.mapM_eq_mapM_toList]
    simp only [Sem.run_map, h, Result.andThen_ok]
  rw [h1]
  simp only [Sem.run_bind, h2, Result.andThen_ok, Sem.run_pure]
theorem res_ok (hrel : Rel P base ρ st w) (htm : TmW ρ st.next nt tm a.tmps) {fn : Func} {xs : List RV} {v : V} (h : resT P fn.results.toList = some xs) (hv : resV tm st xs = some v) : ∃ v', (results fn a.tmps).run P w = .ok v' w ∧ VR ρ st.next v v' := by
  have key : ∀ {xs}, resT P fn.results.toList = some xs → ∀ vs, RV.evs tm st xs = some vs → (∀ l', VRs ρ st.next vs l' → VR ρ st.next v (if h : l'.toArray.size = 1 then l'.toArray[0] else .tuple l'.toArray)) → ∃ v', (results fn a.tmps).run P w = .ok v' w ∧ VR ρ st.next v v' := by
    intro xs h vs h1 h2
    obtain ⟨vs', h3, h4⟩ := res_list hrel htm h h1
    exact ⟨_, results_run h3, h2 vs' h4⟩
  match xs, h, hv with
  | [], h, hv =>
    obtain rfl := Option.some.inj hv
    refine key h [] rfl fun l' hl => ?_
    cases hl
    exact .tup [] [] .nil
  | [r], h, hv =>
    have hv' : r.ev tm st = some v := hv
    refine key h [v] ?_ fun l' hl => ?_
    · show (match r.ev tm st, (some [] : Option (List V)) with
        | some v, some vs => some (v :: vs)
        | _, _ => none) = _
      rw [hv']
    · cases hl with
      | cons h1 h2 => cases h2; exact h1
  | r :: r' :: rs, h, hv =>
    have hv' : (match RV.evs tm st (r :: r' :: rs) with
      | some vs => some (V.tup vs)
      | none => none) = some v := hv
    split at hv'
    · rename_i vs hvs
      obtain rfl := Option.some.inj hv'
      refine key h vs hvs fun l' hl => ?_
      have hlen : vs.length = (r :: r' :: rs).length := by
        have : ∀ (xs : List RV) (vs : List V), RV.evs tm st xs = some vs → vs.length = xs.length := by
          intro xs
          induction xs with
          | nil => intro vs h; obtain rfl := Option.some.inj h; rfl
          | cons x xs ih =>
            intro vs h
            have h' : (match x.ev tm st, RV.evs tm st xs with
              | some v, some vs => some (v :: vs)
              | _, _ => none) = some vs := h
            split at h'
            · rename_i v1 vs1 _ h2
              obtain rfl := Option.some.inj h'
              simp [ih vs1 h2]
            · exact nomatch h'
        exact this _ _ hvs
      have hl2 := hl.length
      rw [dif_neg (by simp at hlen ⊢; omega)]
      exact .tup _ _ hl
    · exact nomatch hv'
theorem back_came (hrel : Rel P base ρ st w) {r : CR} {w' : World} (hn : Now P base ρ { next := st.next, low := st.next, mem := st.mem } w ρ' st' w') :
    Rel P base ρ' (back st r st') w' ∧ Turn st (back st r st') ∧ (∀ v v', (r = .ret v ∨ r = .pan v) → VR ρ' st'.next v v' → VR ρ' (back st r st').next v v') ∧ Dead ρ ρ' st (back st r st') := by
  unfold back
  cases hb : Nat.ble st.next st'.low && r.under st.next with
  | true =>
    rw [Bool.and_eq_true] at hb
    have hl := ble_iff.1 hb.1
    refine ⟨(Rel.back (hrel.low st.next) hn hl).low st.low, Turn.refl _, fun v v' hv h => ?_, fun o ho hd => ⟨(hn.dead o ho hd).1, rfl⟩⟩
    refine VR.lower h ?_
    rcases hv with rfl | rfl <;> exact hb.2
  | false =>
    have hlo : (bif Nat.ble st.low st'.low then st.low else st'.low) ≤ st.low ∧ (bif Nat.ble st.low st'.low then st.low else st'.low) ≤ st'.low := by
      by_cases h : st.low ≤ st'.low
      · rw [bleT h]; exact ⟨Nat.le_refl _, h⟩
      · rw [bleF h]; exact ⟨by show st'.low ≤ st.low; omega, Nat.le_refl _⟩
    refine ⟨hn.rel.low _, ⟨hn.turn.next, hlo.1, fun o ho hl => hn.turn.mem o ho (Nat.lt_of_lt_of_le hl hlo.2)⟩, fun v v' _ h => h, hn.dead⟩
end
end Go.Proofs.YtnebopkgnkemiaaGreatDoor.Av
