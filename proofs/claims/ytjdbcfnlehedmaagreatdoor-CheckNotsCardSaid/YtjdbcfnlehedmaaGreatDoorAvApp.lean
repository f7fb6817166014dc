/-
  APPEND, COPY, AND A TEXT AS BYTES.
-/
import Derived.Test.YtjdbcfnlehedmaaGreatDoorAvLoudC
import Derived.Laws.AppendOwn
namespace Go.Proofs.YtjdbcfnlehedmaaGreatDoor.Av
set_option linter.unusedVariables false
set_option linter.unusedSimpArgs false
open Go Go.RowKit

section ops
variable {P : Program} {base : Nat} {ρ : Map} {st st' : St} {w : World} {nt : Nat} {tm : Tr V} {a : Act} {o : Oper} {v : V}
theorem zeroCells_one {zc : Array Value} (h1 : ∀ u ∈ zc.toList, One u) (h0 : 0 < zc.size) (k : Nat) : ∀ u ∈ (Builtin.zeroCells zc k).toList, One u := by
  intro u hu
  obtain ⟨i, hi, rfl⟩ := List.mem_iff_getElem.1 hu
  have hm : i % zc.size < zc.size := Nat.mod_lt _ h0
  have : (Builtin.zeroCells zc k).toList[i] = zc[i % zc.size] := by
    simp only [Builtin.zeroCells, Array.toList_map, List.getElem_map, Array.toList_range, List.getElem_range]
    exact getElem!_pos zc (i % zc.size) hm
  rw [this]
  exact h1 _ (by simp)
/-- What is needed of the element's type. -/
structure ElemOk (P : Program) (t u e : TypeId) (size bytes : Nat) (z : List V) (sf : Bool) : Prop where
  ht : P.underlying t = some (.slice e)
  hu : ∃ du, P.underlying u = some du ∧ ∀ k, du ≠ .int k
  hn : sizeT P e = some size
  hz : zerosT P e = some z
  hby : bytesT P e = some bytes
  hzn : z.length = size
  hn0 : size ≠ 0
  hby0 : bytes ≠ 0
  hs1 : sf = true → size = 1
/-- The new row, once what is in it is known. -/
theorem grown_rel (h : Rel P base ρ st w) (hb : base ≤ w.heap.size) {e size need newCap : Nat} (hn : sizeT P e = some size) {w1 : World} (hw1 : w1 = { w with drawn := w.drawn + 1 }) (hcap : need ≤ newCap) {olds news : List V} {l l' : List Value} {zc : Array Value} (hzs : zc.size = size)
    (hl : VRs ρ st.next olds l) (hl' : VRs ρ st.next news l') (h1 : ∀ u ∈ l, One u) (h1' : ∀ u ∈ l', One u) (h1z : ∀ u ∈ zc.toList, One u) (h0 : size ≠ 0) (hlen : olds.length + news.length = need * size) :
    ∃ ρ', Ext ρ ρ' st.next ∧ VR ρ' (st.next + 1) (.slice st.next 0 need need false) (.slice (some ⟨w.heap.size, 0, none⟩) need newCap) ∧
      Rel P base ρ' (st.new (.cells e (olds ++ news) true)) { w1 with heap := w1.heap.push (.cells (l.toArray ++ l'.toArray ++ Builtin.zeroCells zc (newCap - need)) e (0, 0)) } ∧
      Below base w { w1 with heap := w1.heap.push (.cells (l.toArray ++ l'.toArray ++ Builtin.zeroCells zc (newCap - need)) e (0, 0)) } ∧ Dead ρ ρ' st (st.new (.cells e (olds ++ news) true)) := by
  subst hw1
  have hll := hl.length
  have hll' := hl'.length
  have hsz : (l.toArray ++ l'.toArray ++ Builtin.zeroCells zc (newCap - need)).size = newCap * size := by
    rw [Array.size_append, Array.size_append, size_zeroCells, hzs]
    simp only [List.size_toArray]
    rw [← hll, ← hll', hlen, ← Nat.add_mul]
    congr 1; omega
  have h2 : Rel P base ρ st { w with drawn := w.drawn + 1 } := h.of_heap rfl
  have h3 := new_cells h2 (w := { w with drawn := w.drawn + 1 }) hb hn (cs := olds ++ news) (c := l.toArray ++ l'.toArray ++ Builtin.zeroCells zc (newCap - need))
    (by
      have : (l.toArray ++ l'.toArray ++ Builtin.zeroCells zc (newCap - need)).toList.take (olds ++ news).length = l ++ l' := by
        simp only [Array.toList_append]
        rw [List.take_left' (by simp; omega)]
      rw [this]
      exact hl.append hl')
    (by
      intro u hu
      simp only [Array.toList_append, List.mem_append] at hu
      rcases hu with (hu | hu) | hu
      · exact h1 u hu
      · exact h1' u hu
      · exact zeroCells_one h1z (by omega) _ u hu) e (lo := 0) (hi := 0) (.inl (Nat.le_refl _))
  refine ⟨_, Map.new_ext _ _ _, ?_, h3, ?_, Dead.new _ _ _ _⟩
  · exact vr_new_slice (w := w) ⟨w.heap.size, 0, _, size, true⟩ rfl rfl (Nat.le_refl _) hcap (fun h => nomatch h) (fun _ => by show newCap * size ≤ _; rw [hsz]; exact Nat.le_refl _)
  · exact ⟨rfl, rfl, rfl, by simp, fun k hk => by show (w.heap.push _)[k]? = _; rw [Array.getElem?_push, if_neg (by omega)]⟩
theorem cut_ge (need old : Nat) (e : TypeId) (t : Nat) : need ≤ (Question.appendCap need old e).cut t := by show need ≤ need + _; omega
theorem e_app (c : Ctx P base ρ st w nt tm a) (hb : base ≤ w.heap.size) {call : Call} {x y : Operand} {t u e : TypeId} {size bytes : Nat} {z : List V} {sf : Bool} {x' y' : X} (ok : ElemOk P t u e size bytes z sf) (ho : o.op = .call call) (hcb : call.callee = .builtin .append)
    (ha : call.args.toList = [x, y]) (hat : call.argTypes.toList = [t, u]) (hx : compX P x = some x') (hy : compX P y = some y') (h : iApp sf e size bytes x' y' tm st = some (v, st')) : Turns P base ρ st w a o v st' := by
  obtain ⟨⟨news, m⟩, hs, h1⟩ := orec_none h
  obtain ⟨hlen, hnl, hsrc⟩ := src_ok c.rel (c.opd hy) hs ok.hs1
  obtain ⟨du, hu, hdu⟩ := ok.hu
  have he := append_run (a := a) ho hcb ha hat
  have hxr := c.opd hx
  obtain ⟨z', hz1, hz2, hz3⟩ := zeros_ok (w := w) (ρ := ρ) (st := st) ok.hz
  have hzw : ∀ w, (zeroValue e).run P w = .ok z' w := fun w1 => by
    obtain ⟨z2, hz4, _, _⟩ := zeros_ok (w := w1) (ρ := ρ) (st := st) ok.hz
    have : (zeroValue e).run P w1 = .ok z' w1 := by
      simp only [zeroValue, Sem.run_bind, typeInfo, run_program, Result.andThen_ok] at hz1 ⊢
      cases hi : P.info? e with
      | none => rw [hi] at hz1; simp at hz1
      | some i =>
        rw [hi] at hz1
        simp only [Sem.run_pure, Result.andThen_ok] at hz1 ⊢
        cases hzz : i.zero with
        | none => rw [hzz] at hz1; simp at hz1
        | some q => rw [hzz] at hz1; simp only [Sem.run_pure] at hz1 ⊢; injection hz1 with e1 _; rw [e1]
    exact this
  have hzs : z'.cells.size = size := by rw [← Array.length_toList, ← hz2.length, ok.hzn]
  -- the world behind the draw
  obtain ⟨w1, hw1⟩ : ∃ w1 : World, w1 = { w with drawn := w.drawn + 1 } := ⟨_, rfl⟩
  have hheap : w1.heap = w.heap := by rw [hw1]
  rcases onSlice_some (h1 : (x'.ev tm).onSlice none (appNil st e bytes news m) (fun o i n cap ex => bif Nat.ble (Nat.add n m) cap then appIn st size news m o i n cap ex else appNew st e size bytes news m o i n ex) = some (v, st')) with ⟨_, _, _, _, _, hv, h2⟩ | ⟨ob, i, n, cap, ex, hv, h2⟩
  · -- nil
    rw [hv] at hxr
    have hxe := hxr.nilSlice_inv
    unfold appNil at h2
    cases hm : Nat.beq m 0 with
    | true =>
      rw [hm] at h2
      obtain rfl := beq_iff.1 hm
      obtain ⟨rfl, rfl⟩ := Prod.mk.inj (Option.some.inj (h2 : some (V.nilSlice, st) = some (v, st')))
      obtain ⟨l', _, _, h5⟩ := hsrc 0 (Nat.le_refl _) w rfl
      refine ⟨.slice none 0 0, w, ρ, .inl ?_, Ext.refl _ _, .nilSlice, c.rel, Turn.refl _, Below.refl _ _, Dead.refl _ _⟩
      rw [he, hxe]
      have := append_room (ty := o.type) ok.ht hu hdu ok.hn (hlen w) (ad := none) (n := 0) (c := 0) (by omega) h5 (w' := w) rfl
      simp only [Sem.run_bind, this, Result.andThen_ok, Sem.run_pure]
    | false =>
      rw [hm] at h2
      obtain ⟨h3, h4⟩ := bif_none (h2 : (bif Nat.ble (Nat.mul m bytes) 140737488355328 then some (V.slice st.next 0 m m false, st.new (.cells e news true)) else none) = some (v, st'))
      have hfit : m * bytes ≤ 140737488355328 := ble_iff.1 h3
      obtain ⟨rfl, rfl⟩ := Prod.mk.inj (Option.some.inj h4)
      have hm0 : m ≠ 0 := fun e => by rw [e] at hm; exact nomatch hm
      obtain ⟨l', h5, h6, h7⟩ := hsrc m (Nat.le_refl _) w1 hheap
      rw [List.take_of_length_le (by omega)] at h5
      obtain ⟨ρ', h8, h9, h10, h11, h11d⟩ := grown_rel c.rel hb ok.hn hw1 (cut_ge m 0 e (w.tape w.drawn (.appendCap m 0 e))) (olds := []) (l := []) hzs .nil h5 (by simp) h6 hz3 ok.hn0 (by simpa using hnl)
      have hrun := append_grows (ty := o.type) (x := a.eval y) ok.ht hu hdu ok.hn ok.hby ok.hby0 (hlen w) (ad := none) (n := 0) (c := 0) (by omega) (by simpa using hfit) hzw hw1 rfl (l := []) rfl h7
      simp only [Nat.zero_add] at hrun
      refine ⟨_, _, ρ', .inl (by rw [he, hxe]; simp only [Sem.run_bind, hrun, Result.andThen_ok, Sem.run_pure]), h8, h9, by simpa using h10, Turn.new _ _, h11, h11d⟩
  · -- a slice
    rw [hv] at hxr
    obtain ⟨ad, c', hxe, hob, hncap, hcapc, hex, hadr, htot⟩ := hxr.slice_inv
    cases hb1 : Nat.ble (Nat.add n m) cap with
    | true =>
      have hfits : n + m ≤ cap := ble_iff.1 hb1
      rw [hb1] at h2
      have h2' : (bif Nat.beq m 0 then some (V.slice ob i n cap ex, st) else onCells none (fun e' cs w => bif w && Nat.ble (Nat.add i (Nat.mul (Nat.add n m) size)) (lenL cs) then
        some (V.slice ob i (Nat.add n m) cap ex, st.put ob (some (.cells e' (splice cs (Nat.add i (Nat.mul n size)) news) true))) else none) (st.mem.get ob)) = some (v, st') := h2
      obtain ⟨l', h5, h6, h7⟩ := hsrc m (Nat.le_refl _) w rfl
      rw [List.take_of_length_le (by omega)] at h5
      cases hm : Nat.beq m 0 with
      | true =>
        rw [hm] at h2'
        obtain rfl := beq_iff.1 hm
        obtain ⟨rfl, rfl⟩ := Prod.mk.inj (Option.some.inj (h2' : some (V.slice ob i n cap ex, st) = some (v, st')))
        have hl0 : l' = [] := by
          have := h5.length
          rw [hnl] at this
          exact List.length_eq_zero_iff.1 (by omega)
        subst hl0
        have hrun := append_room (ty := o.type) ok.ht hu hdu ok.hn (hlen w) (ad := some ad) (n := n) (c := c') (by omega) h7 (w' := w) rfl
        refine ⟨.slice (some ad) n c', w, ρ, .inl (by rw [he, hxe]; simp only [Sem.run_bind, hrun, Result.andThen_ok, Sem.run_pure]; rfl), Ext.refl _ _, by rw [← hxe]; exact hxr, c.rel, Turn.refl _, Below.refl _ _, Dead.refl _ _⟩
      | false =>
        rw [hm] at h2'
        have hm0 : m ≠ 0 := fun e => by rw [e] at hm; exact nomatch hm
        obtain ⟨e', cs, own, hg, h8⟩ := onCells_some (h2' : onCells none _ (st.mem.get ob) = some (v, st'))
        obtain ⟨h9, h10⟩ := bif_none h8
        simp only [Bool.and_eq_true, lenL_eq] at h9
        obtain ⟨rfl, h11⟩ := h9
        have h12 : i + (n + m) * size ≤ cs.length := ble_iff.1 h11
        obtain ⟨rfl, rfl⟩ := Prod.mk.inj (Option.some.inj h10)
        have had : ad = (ρ ob).at i := hadr.resolve_left (by omega)
        rw [Nat.add_mul] at h12
        obtain ⟨w', h13, h14, h15⟩ := store_own c.rel hob hg h5 h6 (i := i + n * size) (by omega)
        have hrun := append_room (ty := o.type) ok.ht hu hdu ok.hn (hlen w) (ad := some ad) (n := n) (c := c') (by omega) h7 (w' := w') (by rw [had]; show (storeCells (((ρ ob).at i).add (n * size)) l').run P w = _; rw [Pl.at_add]; exact h13)
        refine ⟨.slice (some ad) (n + m) c', w', ρ, .inl (by rw [he, hxe]; simp only [Sem.run_bind, hrun, Result.andThen_ok, Sem.run_pure]), Ext.refl _ _, .slice _ _ _ _ _ _ _ hob hfits hcapc hex hadr htot, h14, Turn.put _ _ _, h15.below (c.rel.base ob _ hob.2 hg rfl), Dead.put hob.2 _⟩
    | false =>
      have hnofit : cap < n + m := by
        have : ¬ n + m ≤ cap := fun h => by rw [show Nat.ble (Nat.add n m) cap = true from bleT h] at hb1; exact nomatch hb1
        omega
      rw [hb1] at h2
      obtain ⟨e', cs, own, hg, h8⟩ := onCells_some (h2 : onCells none _ (st.mem.get ob) = some (v, st'))
      obtain ⟨h9, h10⟩ := bif_none h8
      simp only [Bool.and_eq_true, lenL_eq] at h9
      have h11 : i + n * size ≤ cs.length := ble_iff.1 h9.1
      have hfit : (n + m) * bytes ≤ 140737488355328 := ble_iff.1 h9.2
      simp only [takeL_eq, dropL_eq, appL_eq] at h10
      obtain ⟨cc, ee, lo, hi, h12, h13, h14, h15⟩ := c.rel.at hg hob
      -- the old cells, in the model
      have hold : ∀ w2 : World, w2.heap = w.heap → ∃ l, VRs ρ st.next ((cs.drop i).take (n * size)) l ∧ (∀ q ∈ l, One q) ∧ (Builtin.firstCells size n (.slice (some ad) n c')).run P w2 = .ok l.toArray w2 := fun w2 hw2 => by
        by_cases hn : n = 0
        · subst hn
          exact ⟨[], by simpa using VRs.nil, by simp, by simp [Builtin.firstCells, loadCells, loadCellsFrom]⟩
        · have had : ad = (ρ ob).at i := hadr.resolve_left (by omega)
          obtain ⟨l, h16, h17, h18⟩ := run_loadCells (P := P) (w := w2) h13 (by rw [hw2]; exact h12) (n * size) i 0 #[] (by omega)
          exact ⟨l, by simpa using h17, h18, by rw [had]; simpa [Builtin.firstCells, loadCells] using h16⟩
      have holen : ((cs.drop i).take (n * size)).length = n * size := by simp; omega
      -- where it must grow, in the model
      have grows : c' < n + m → ∀ st2 : St, st2.next = st.next → Rel P base ρ st2 w → ∃ v' w' ρ', (execOp a.eval o).run P w = .ok (.value v') w' ∧ Ext ρ ρ' st.next ∧ VR ρ' (st.next + 1) (.slice st.next 0 (n + m) (n + m) false) v' ∧
          Rel P base ρ' (st2.new (.cells e ((cs.drop i).take (n * size) ++ news) true)) w' ∧ Below base w w' ∧ Dead ρ ρ' st2 (st2.new (.cells e ((cs.drop i).take (n * size) ++ news) true)) := fun hlt st2 hst2 hrel2 => by
        obtain ⟨l, h16, h17, h18⟩ := hold w1 hheap
        obtain ⟨l', h5, h6, h7⟩ := hsrc m (Nat.le_refl _) w1 hheap
        rw [List.take_of_length_le (by omega)] at h5
        have hcut := cut_ge (n + m) c' e (w.tape w.drawn (.appendCap (n + m) c' e))
        have hlen2 : ((cs.drop i).take (n * size)).length + news.length = (n + m) * size := by rw [holen, hnl, Nat.add_mul]
        have hrun := append_grows (ty := o.type) (x := a.eval y) ok.ht hu hdu ok.hn ok.hby ok.hby0 (hlen w) (ad := some ad) (n := n) (c := c') hlt hfit hzw hw1 rfl h18 h7
        obtain ⟨ρ', g1, g2, g3, g4, g5⟩ := grown_rel hrel2 hb ok.hn hw1 hcut hzs (by rw [hst2]; exact h16) (by rw [hst2]; exact h5) h17 h6 hz3 ok.hn0 hlen2
        rw [hst2] at g1 g2
        exact ⟨_, _, ρ', by rw [he, hxe]; simp only [Sem.run_bind, hrun, Result.andThen_ok, Sem.run_pure], g1, g2, g3, g4, g5⟩
      cases ex with
      | true =>
        obtain ⟨rfl, rfl⟩ := Prod.mk.inj (Option.some.inj (h10 : some (V.slice st.next 0 (n + m) (n + m) false, st.new (.cells e ((cs.drop i).take (n * size) ++ news) true)) = some (v, st')))
        obtain ⟨v', w', ρ', g1, g2, g3, g4, g5, g6⟩ := grows (by rw [hex rfl]; exact hnofit) st rfl c.rel
        exact ⟨v', w', ρ', .inl g1, g2, g3, g4, Turn.new _ _, g5, g6⟩
      | false =>
        obtain ⟨h16, h17⟩ := bif_none (h10 : (bif own && Nat.beq e e' then some (V.slice st.next 0 (n + m) (n + m) false, (st.put ob none).new (.cells e ((cs.drop i).take (n * size) ++ news) true)) else none) = some (v, st'))
        simp only [Bool.and_eq_true] at h16
        obtain ⟨rfl, h18⟩ := h16
        obtain rfl := beq_iff.1 h18
        obtain ⟨rfl, rfl⟩ := Prod.mk.inj (Option.some.inj h17)
        have hturn : Turn st ((st.put ob none).new (.cells e ((cs.drop i).take (n * size) ++ news) true)) := (Turn.put st ob none).trans (Turn.new _ _)
        by_cases hroom : n + m ≤ c'
        · -- there is room: the block is taken over
          obtain ⟨h19, h20⟩ := h15 rfl
          have hzsz : size = (ρ ob).z := Option.some.inj (ok.hn.symm.trans h19)
          have htot' := htot rfl
          rw [← hzsz] at htot'
          have hm1 : (n + m) * size ≤ c' * size := Nat.mul_le_mul_right _ hroom
          rw [Nat.add_mul] at hm1
          have hm0 : n + m ≠ 0 := by omega
          have had : ad = (ρ ob).at i := hadr.resolve_left (by omega)
          obtain ⟨l', h5, h6, h7⟩ := hsrc m (Nat.le_refl _) w rfl
          rw [List.take_of_length_le (by omega)] at h5
          have hll := h5.length
          obtain ⟨w', c2, g1, g2, g3, g4⟩ := run_storeCells (P := P) (off := (ρ ob).off + i + n * size) l' 0 w cc h12 h20 h6 (by omega)
          have hrun := append_room (ty := o.type) ok.ht hu hdu ok.hn (hlen w) (ad := some ad) (n := n) (c := c') hroom h7 (w' := w') (by rw [had]; show (storeCells (((ρ ob).at i).add (n * size)) l').run P w = _; rw [Pl.at_add]; rw [Nat.add_assoc] at g1; exact g1)
          have hsz2 : c2.size = cc.size := by
            have := congrArg List.length g3
            simp at this
            omega
          refine ⟨.slice (some ad) (n + m) c', w', ρ.new st.next ⟨(ρ ob).b, (ρ ob).off + i, (ρ ob).tot, size, true⟩, .inl (by rw [he, hxe]; simp only [Sem.run_bind, hrun, Result.andThen_ok, Sem.run_pure]), Map.new_ext _ _ _, ?_, ?_, hturn, g4.below (c.rel.base ob _ hob.2 hg rfl), (Dead.put hob.2 none).trans (Dead.new ρ (st.put ob none) _ _) (Nat.le_refl _)⟩
          · refine .slice _ _ _ _ _ _ _ (Map.new_lv ρ _ rfl) (Nat.le_refl _) hroom (fun h => nomatch h) (.inr ?_) (fun _ => ?_)
            · rw [Map.new_same, had]; simp [Pl.at]
            · rw [Map.new_same]; show (ρ ob).off + i + 0 + c' * size ≤ (ρ ob).tot; omega
          · refine c.rel.take hob hg rfl ⟨(ρ ob).b, (ρ ob).off + i, (ρ ob).tot, size, true⟩ rfl g4.block ⟨c2, ee, lo, hi, g2, ?_, hsz2.trans h14, fun _ => ⟨ok.hn, by rw [hsz2]; exact h20⟩⟩
            intro j q hq0
            have hq : ((cs.drop i).take (n * size) ++ news)[j]? = some q := hq0
            have hext := Map.new_ext ρ st.next ⟨(ρ ob).b, (ρ ob).off + i, (ρ ob).tot, size, true⟩
            have hc2 : ∀ k : Nat, c2[k]? = c2.toList[k]? := fun k => Array.getElem?_toList.symm
            have htk : (cc.toList.take ((ρ ob).off + i + n * size + 0)).length = (ρ ob).off + i + n * size := by simp; omega
            show ∃ v', c2[(ρ ob).off + i + j]? = some v' ∧ _
            rw [hc2, g3]
            by_cases hj : j < n * size
            · rw [List.getElem?_append_left (by omega), List.getElem?_take, if_pos hj, List.getElem?_drop] at hq
              obtain ⟨q', k1, k2, k3⟩ := h13 _ q hq
              refine ⟨q', ?_, k2.mono hext (Nat.le_succ _), k3⟩
              rw [List.getElem?_append_left (by omega), List.getElem?_take, if_pos (by omega)]
              rw [Nat.add_assoc]
              simpa using k1
            · rw [List.getElem?_append_right (by omega), holen] at hq
              obtain ⟨q', k1, k2⟩ := h5.get _ q hq
              refine ⟨q', ?_, k2.mono hext (Nat.le_succ _), h6 q' (List.mem_of_getElem? k1)⟩
              have hjl : j - n * size < l'.length := (List.getElem?_eq_some_iff.1 k1).1
              rw [List.getElem?_append_right (by omega), htk, List.getElem?_append_left (by omega), show (ρ ob).off + i + j - ((ρ ob).off + i + n * size) = j - n * size from by omega]
              exact k1
        · obtain ⟨v', w', ρ', g1, g2, g3, g4, g5, g6⟩ := grows (by omega) (st.put ob none) rfl (c.rel.drop ob)
          exact ⟨v', w', ρ', .inl g1, g2, g3, g4, hturn, g5, (Dead.put hob.2 none).trans g6 (Nat.le_refl _)⟩
end ops
end Go.Proofs.YtjdbcfnlehedmaaGreatDoor.Av
