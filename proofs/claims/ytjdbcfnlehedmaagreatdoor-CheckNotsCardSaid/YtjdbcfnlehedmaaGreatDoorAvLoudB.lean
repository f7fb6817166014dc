/-
  THE INSTRUCTIONS THAT TURN MEMORY: stores, iterators, maps, what is appended and copied.
-/
import Derived.Test.YtjdbcfnlehedmaaGreatDoorAvLoud
namespace Go.Proofs.YtjdbcfnlehedmaaGreatDoor.Av
set_option linter.unusedVariables false
set_option linter.unusedSimpArgs false
open Go Go.RowKit

section ops
variable {P : Program} {base : Nat} {ρ : Map} {st st' : St} {w : World} {nt : Nat} {tm : Tr V} {a : Act} {o : Oper} {v : V}
/-- A world in which one block alone has turned. -/
structure OneTurned (w w' : World) (b : Nat) : Prop where
  os : w'.os = w.os
  tape : w'.tape = w.tape
  output : w'.output = w.output
  size : w'.heap.size = w.heap.size
  block : ∀ k, k ≠ b → w'.heap[k]? = w.heap[k]?
theorem OneTurned.refl (w : World) (b : Nat) : OneTurned w w b := ⟨rfl, rfl, rfl, rfl, fun _ _ => rfl⟩
theorem OneTurned.trans {a b c : World} {k : Nat} (h : OneTurned a b k) (h' : OneTurned b c k) : OneTurned a c k :=
  ⟨h'.os.trans h.os, h'.tape.trans h.tape, h'.output.trans h.output, h'.size.trans h.size, fun i hi => (h'.block i hi).trans (h.block i hi)⟩
theorem OneTurned.below {w w' : World} {b : Nat} (h : OneTurned w w' b) (hb : base ≤ b) : Below base w w' :=
  ⟨h.os, h.tape, h.output, by rw [h.size]; exact Nat.le_refl _, fun k hk => h.block k (by omega)⟩
theorem OneTurned.setCell (w : World) (p : Addr) (u : Value) : OneTurned w (w.setCell p u) p.block :=
  ⟨rfl, rfl, rfl, by simp [World.setCell], fun k hk => Below.heap_setCell _ _ _ _ hk⟩
theorem run_storeCells {b off lo hi : Nat} {e : TypeId} : ∀ (vs : List Value) (i : Nat) (w : World) (c : Array Value), w.heap[b]? = some (.cells c e (lo, hi)) → (hi ≤ lo ∨ c.size ≤ lo) → (∀ u ∈ vs, One u) → off + i + vs.length ≤ c.size →
    ∃ w' c', (storeCells ⟨b, off, none⟩ vs i).run P w = .ok () w' ∧ w'.heap[b]? = some (.cells c' e (lo, hi)) ∧ c'.toList = c.toList.take (off + i) ++ (vs ++ c.toList.drop (off + i + vs.length)) ∧ OneTurned w w' b
  | [], i, w, c, hh, hf, h1, hle => ⟨w, c, rfl, hh, by simp, OneTurned.refl _ _⟩
  | x :: vs, i, w, c, hh, hf, h1, hle => by
    simp only [List.length_cons] at hle
    have hlt : off + i < c.size := by omega
    have hcell : w.cell? ⟨b, off + i, none⟩ = some c[off + i] := by simp [World.cell?, hh, hlt]
    have hfr : w.frozen? ⟨b, off + i, none⟩ = false := by
      simp only [World.frozen?, hh]
      rw [Bool.and_eq_false_iff]
      simp only [decide_eq_false_iff_not]
      omega
    have hst : (store (⟨b, off + i, none⟩ : Addr) x).run P w = .ok () (w.setCell ⟨b, off + i, none⟩ x) := by
      rw [run_store P w _ x _ (h1 x (List.mem_cons_self ..))]
      simp [hcell, hfr]
    have hh' : (w.setCell ⟨b, off + i, none⟩ x).heap[b]? = some (.cells (c.setIfInBounds (off + i) x) e (lo, hi)) := by
      simp [World.setCell, Array.getElem?_modify, hh]
    obtain ⟨w', c', h2, h3, h4, h5⟩ := run_storeCells (off := off) vs (i + 1) _ _ hh' (by simpa using hf) (fun u hu => h1 u (List.mem_cons_of_mem _ hu)) (by simp; omega)
    refine ⟨w', c', ?_, h3, ?_, (OneTurned.setCell w ⟨b, off + i, none⟩ x).trans h5⟩
    · simp only [storeCells, Sem.run_bind, addr_add, hst, Result.andThen_ok]
      exact h2
    · rw [h4]
      simp only [Array.toList_setIfInBounds, List.length_cons]
      have e1 : (c.toList.set (off + i) x).take (off + (i + 1)) = c.toList.take (off + i) ++ [x] := by
        have hlt' : off + i < c.toList.length := by simpa using hlt
        rw [show off + (i + 1) = (off + i) + 1 from by omega, List.take_succ_eq_append_getElem (by simpa using hlt')]
        simp [List.take_set_of_le]
      have e2 : (c.toList.set (off + i) x).drop (off + (i + 1) + vs.length) = c.toList.drop (off + i + (vs.length + 1)) := by
        rw [List.drop_set_of_lt (by omega)]
        congr 1; omega
      rw [e1, e2]
      simp
/-- The cells of an object, some of them turned. -/
theorem lies_splice {n : Nat} {p : Pl} {cs : List V} {c c' : Array Value} (h : Lies ρ n p cs c) {l : List V} {l' : List Value} {i : Nat} (hl : VRs ρ n l l') (h1 : ∀ u ∈ l', One u) (hle : i + l.length ≤ cs.length)
    (hbig : p.off + i + l'.length ≤ c.size) (hc : c'.toList = c.toList.take (p.off + i) ++ (l' ++ c.toList.drop (p.off + i + l'.length))) : Lies ρ n p (splice cs i l) c' := by
  intro j v hv
  rw [splice_eq] at hv
  have hll := hl.length
  have hjc : ∀ k : Nat, c'[k]? = c'.toList[k]? := fun k => Array.getElem?_toList.symm
  rw [hjc, hc]
  have ht : (cs.take i).length = i := by simp; omega
  have ht' : (c.toList.take (p.off + i)).length = p.off + i := by simp; omega
  by_cases hj : j < i
  · rw [List.getElem?_append_left (by omega), List.getElem?_take, if_pos hj] at hv
    obtain ⟨v', h2, h3, h4⟩ := h j v hv
    refine ⟨v', ?_, h3, h4⟩
    rw [List.getElem?_append_left (by omega), List.getElem?_take, if_pos (by omega)]
    simpa using h2
  · rw [List.getElem?_append_right (by omega), ht] at hv
    rw [List.getElem?_append_right (by omega), ht']
    by_cases hj2 : j - i < l.length
    · rw [List.getElem?_append_left hj2] at hv
      obtain ⟨v', h2, h3⟩ := hl.get _ _ hv
      refine ⟨v', ?_, h3, h1 v' (List.mem_of_getElem? h2)⟩
      rw [List.getElem?_append_left (by omega), show p.off + j - (p.off + i) = j - i from by omega]
      exact h2
    · rw [List.getElem?_append_right (by omega), List.getElem?_drop] at hv
      obtain ⟨v', h2, h3, h4⟩ := h _ v hv
      refine ⟨v', ?_, h3, h4⟩
      rw [List.getElem?_append_right (by omega), List.getElem?_drop]
      rw [show p.off + i + l'.length + (p.off + j - (p.off + i) - l'.length) = p.off + (i + l.length + (j - i - l.length)) from by omega]
      simpa using h2
/-- Cells of an object of the call's own are stored into. -/
theorem store_own (h : Rel P base ρ st w) {ob e nn : Nat} (hlv : Lv ρ nn ob) {cs : List V} (hg : st.mem.get ob = some (.cells e cs true)) {l : List V} {l' : List Value} {i : Nat} (hl : VRs ρ st.next l l') (h1 : ∀ u ∈ l', One u) (hle : i + l.length ≤ cs.length) :
    ∃ w', (storeCells ((ρ ob).at i) l').run P w = .ok () w' ∧ Rel P base ρ (st.put ob (some (.cells e (splice cs i l) true))) w' ∧ OneTurned w w' (ρ ob).b := by
  obtain ⟨c, e', lo, hi, h2, h3, h4, h5⟩ := h.at hg hlv
  obtain ⟨h6, h7⟩ := h5 rfl
  have hll := hl.length
  by_cases h0 : l' = []
  · subst h0
    have hl0 : l = [] := List.length_eq_zero_iff.1 hll
    subst hl0
    have hs : splice cs i [] = cs := by rw [splice_eq]; simp
    rw [hs]
    exact ⟨w, rfl, h.turn hlv hg rfl rfl (fun _ _ => rfl) ⟨c, e', lo, hi, h2, h3, h4, h5⟩, OneTurned.refl _ _⟩
  have hpos : 0 < l'.length := List.length_pos_iff.2 h0
  have hbig : (ρ ob).off + i + l'.length ≤ c.size := by
    obtain ⟨v', h8, _⟩ := h3 (i + l.length - 1) cs[i + l.length - 1] (List.getElem?_eq_getElem (by omega))
    have := (Array.getElem?_eq_some_iff.1 h8).1
    omega
  obtain ⟨w', c', h9, h10, h11, h12⟩ := run_storeCells (P := P) (off := (ρ ob).off + i) l' 0 w c h2 h7 h1 (by omega)
  have hsz : c'.size = c.size := by
    have := congrArg List.length h11
    simp at this
    omega
  refine ⟨w', h9, h.turn hlv hg rfl rfl h12.block ⟨c', e', lo, hi, h10, lies_splice h3 hl h1 hle hbig (by simpa using h11), hsz.trans h4, fun _ => ⟨h6, by rw [hsz]; exact h7⟩⟩, h12⟩
theorem e_store (c : Ctx P base ρ st w nt tm a) {t : TypeId} {n : Nat} {x y : Operand} {x' y' : X} (hn : sizeT P t = some n) (hx : compX P x = some x') (hy : compX P y = some y') (ho : o.op = .store t x y) (h : iStore n x' y' tm st = some (v, st')) : Turns P base ρ st w a o v st' := by
  obtain ⟨ob, i, _, _, _, hv, h1⟩ := onPtr_some h
  obtain ⟨l, h2, h3⟩ := orec_none h1
  obtain ⟨e, cs, own, hg, h4⟩ := onCells_some h3
  obtain ⟨h5, h6⟩ := bif_none h4
  simp only [Bool.and_eq_true, lenL_eq] at h5
  obtain ⟨rfl, h7, h8⟩ := h5
  have e1 := beq_iff.1 h7
  have e2 : i + n ≤ cs.length := ble_iff.1 h8
  obtain ⟨rfl, rfl⟩ := Prod.mk.inj (Option.some.inj h6)
  obtain ⟨h9, h10⟩ := cells_vr h2 (c.opd hy)
  have h11 := c.opd hx
  rw [hv] at h11
  obtain ⟨hlv, h12⟩ := h11.ptr_inv
  obtain ⟨w', h13, h14, h15⟩ := store_own c.rel hlv hg h9 h10 (i := i) (by omega)
  refine ⟨Go.undef, w', ρ, .inr ⟨?_, rfl⟩, Ext.refl _ _, .tup [] [] .nil, h14, Turn.put _ _ _, h15.below (c.rel.base ob _ hlv.2 hg rfl), Dead.put hlv.2 _⟩
  have he : execOp a.eval o = (do Instr.storeAt t (a.eval x) (a.eval y); pure Next.skip) := by unfold execOp; rw [ho]
  have hsz : (a.eval y).cells.size = n := by rw [← Array.length_toList, ← h9.length, e1]
  rw [he, h12]
  simp only [Instr.storeAt, Instr.sureAddr, storeVar, Sem.run_bind, Sem.run_pure, Result.andThen_ok, run_size hn, hsz, ne_eq, not_true, if_false, h13]
/-- An object that is no row of cells is turned. -/
theorem setObj_ok {r : Nat} {x y : Obj} (hh : w.heap[r]? = some x) (hx : ∀ c e f, x ≠ .cells c e f) : (setObj r y).run P w = .ok () { w with heap := w.heap.setIfInBounds r y } := by
  simp only [setObj, Sem.run, hh]
theorem set_turned (w : World) (r : Nat) (y : Obj) : OneTurned w { w with heap := w.heap.setIfInBounds r y } r :=
  ⟨rfl, rfl, rfl, by simp, fun k hk => by show (w.heap.setIfInBounds r y)[k]? = _; rw [Array.getElem?_setIfInBounds_ne (Ne.symm hk)]⟩
theorem set_at {r : Nat} {x : Obj} (hh : w.heap[r]? = some x) (y : Obj) : ({ w with heap := w.heap.setIfInBounds r y } : World).heap[r]? = some y := by
  have hlt : r < w.heap.size := (Array.getElem?_eq_some_iff.1 hh).1
  show (w.heap.setIfInBounds r y)[r]? = _
  simp [hlt]
theorem e_nxt (c : Ctx P base ρ st w nt tm a) {x : Operand} {y : X} (hx : compX P x = some y) (ho : o.op = .next x true) (h : iNxt y tm st = some (v, st')) : Turns P base ρ st w a o v st' := by
  obtain ⟨ob, i, _, _, _, hv, h1⟩ := onPtr_some h
  obtain ⟨s, pos, hg, h2⟩ := onIter_some h1
  obtain ⟨h3, h4⟩ := bif_none h2
  obtain rfl := beq_iff.1 h3
  have h5 := c.opd hx
  rw [hv] at h5
  obtain ⟨hlv, h6⟩ := h5.ptr_inv
  obtain ⟨h7, h8⟩ := c.rel.at hg hlv
  have hat : (ρ ob).at 0 = ⟨(ρ ob).b, 0, none⟩ := by simp [Pl.at, h8]
  have he : execOp a.eval o = (do pure (Next.value (← Instr.next (a.eval x) true o.type))) := by unfold execOp; rw [ho]
  have hget : (getObj (ρ ob).b).run P w = .ok (.stringIter ⟨⟨s⟩⟩ pos) w := by simp [getObj, Sem.run, h7]
  cases hb : Nat.blt pos (lenL s) with
  | true =>
    rw [hb] at h4
    have hlt : pos < s.length := by rw [lenL_eq] at hb; exact blt_iff.1 hb
    have h4' : nxtV ob s pos (Utf8.decode ⟨⟨s⟩⟩ pos) st = some (v, st') := h4
    obtain ⟨rfl, rfl⟩ := Prod.mk.inj (Option.some.inj h4')
    refine ⟨.tuple #[.bool true, .int .i64 (pos : Int), .int .i32 ((Utf8.decode ⟨⟨s⟩⟩ pos).1 : Int)], _, ρ, .inl ?_, Ext.refl _ _,
      .tup _ [.bool true, .int .i64 (pos : Int), .int .i32 ((Utf8.decode ⟨⟨s⟩⟩ pos).1 : Int)] (.cons (.bool _) (.cons (.int .i64 _) (.cons (.int .i32 _) .nil))),
      c.rel.turn hlv hg rfl rfl (set_turned w _ (.stringIter ⟨⟨s⟩⟩ (pos + (Utf8.decode ⟨⟨s⟩⟩ pos).2))).block ⟨set_at h7 _, h8⟩, Turn.put _ _ _, (set_turned w _ _).below (c.rel.base ob _ hlv.2 hg rfl), Dead.put hlv.2 _⟩
    rw [he, h6, hat]
    have hlt' : pos < (⟨⟨s⟩⟩ : ByteArray).size := hlt
    simp only [Instr.next, Sem.run_bind, hget, Result.andThen_ok, hlt', if_true, setObj_ok h7 (fun _ _ _ h => nomatch h), Sem.run_pure, goInt]
  | false =>
    rw [hb] at h4
    have hge : ¬ pos < s.length := fun hh => by rw [lenL_eq, blt_iff.2 hh] at hb; exact nomatch hb
    have h4' : some (V.tup [.bool false], st) = some (v, st') := h4
    obtain ⟨rfl, rfl⟩ := Prod.mk.inj (Option.some.inj h4')
    refine ⟨.tuple #[.bool false], w, ρ, .inl ?_, Ext.refl _ _, .tup _ [.bool false] (.cons (.bool _) .nil), c.rel, Turn.refl _, Below.refl _ _, Dead.refl _ _⟩
    rw [he, h6, hat]
    have hge' : ¬ pos < (⟨⟨s⟩⟩ : ByteArray).size := hge
    simp only [Instr.next, Sem.run_bind, hget, Result.andThen_ok, hge', if_false, Sem.run_pure]
theorem updM_cons (kt : Nat) (k u : V) (e : V × V) (es : List (V × V)) : updM kt k u (e :: es) = match eqKey kt k e.1 with
    | some true => some ((k, u) :: es)
    | some false => (updM kt k u es).map (e :: ·)
    | none => none := rfl
theorem updM_ok {kt : Nat} {d : TypeDesc} (hd : KeyOf kt d) {n : Nat} {k u : V} {k' u' : Value} (hk : VR ρ n k k') (hu : VR ρ n u u') : ∀ {es : List (V × V)} {es' : List MapEntry} (_ : Entries ρ n es es') (i : Nat) {r : List (V × V)}, updM kt k u es = some r →
    (Instr.findNow d k' es' i = some none ∧ ∀ born, Entries ρ n r (es' ++ [{ key := k', val := u', born }])) ∨
    (∃ j e, Instr.findNow d k' es' i = some (some (i + j, e.val)) ∧ es'[j]? = some e ∧ Instr.sameBits 10000 e.key k' = true ∧ Entries ρ n r (es'.modify j fun e => { e with key := k', val := u' }))
  | [], [], _, i, r, h => by
    have h' : [(k, u)] = r := Option.some.inj h
    subst h'
    exact .inl ⟨rfl, fun born => ⟨hk, hu, trivial⟩⟩
  | (k1, v1) :: es, e :: es', hE, i, r, h => by
    rw [updM_cons] at h
    split at h
    · rename_i hq
      obtain ⟨h2, h3⟩ := eqKey_same hd hk hE.1 hq
      have h' : (k, u) :: es = r := Option.some.inj h
      subst h'
      exact .inr ⟨0, e, by simp [Instr.findNow, h2], rfl, h3 rfl, by simpa using ⟨hk, hu, hE.2.2⟩⟩
    · rename_i hq
      have h2 := (eqKey_same hd hk hE.1 hq).1
      cases hr : updM kt k u es with
      | none => rw [hr] at h; exact nomatch h
      | some r' =>
        rw [hr] at h
        have h' : (k1, v1) :: r' = r := Option.some.inj h
        subst h'
        rcases updM_ok hd hk hu hE.2.2 (i + 1) hr with ⟨h3, h4⟩ | ⟨j, e1, h3, h4, h5, h6⟩
        · exact .inl ⟨by simp [Instr.findNow, h2, h3], fun born => ⟨hE.1, hE.2.1, h4 born⟩⟩
        · exact .inr ⟨j + 1, e1, by simp [Instr.findNow, h2, h3]; omega, by simpa using h4, h5, by simpa using ⟨hE.1, hE.2.1, h6⟩⟩
    · exact nomatch h
  | [], _ :: _, hE, _, _, _ => hE.elim
  | _ :: _, [], hE, _, _, _ => hE.elim
theorem e_upd (c : Ctx P base ρ st w nt tm a) {t kt' et : TypeId} {kt : Nat} {d : TypeDesc} {m k x : Operand} {m' k' x' : X} (ht : P.underlying t = some (.map kt' et)) (hkt : P.underlying kt' = some d) (hd : KeyOf kt d) (hm : compX P m = some m') (hk : compX P k = some k') (hx : compX P x = some x')
    (ho : o.op = .mapUpdate t m k x ∨ o.op = .insert t m k x) (h : iUpd kt m' k' x' tm st = some (v, st')) : Turns P base ρ st w a o v st' := by
  rcases onMap_some h with ⟨_, _, _, _, _, _, h0⟩ | ⟨ob, _, _, _, _, hv, h1⟩
  · exact nomatch h0
  · obtain ⟨es, hg, h2⟩ := onMapO_some h1
    obtain ⟨r, h3, h4⟩ := orec_none h2
    obtain ⟨rfl, rfl⟩ := Prod.mk.inj (Option.some.inj h4)
    have h5 := c.opd hm
    rw [hv] at h5
    obtain ⟨hlv, h6⟩ := h5.map_inv
    obtain ⟨es', clock, h7, h8⟩ := c.rel.at hg hlv
    have he : execOp a.eval o = (do Instr.mapUpdate t (a.eval m) (a.eval k) (a.eval x); pure Next.skip) := by unfold execOp; rcases ho with ho | ho <;> rw [ho]
    rcases updM_ok hd (c.opd hk) (c.opd hx) h8 0 h3 with ⟨h9, h10⟩ | ⟨j, e, h9, h10, h11, h12⟩
    · refine ⟨Go.undef, _, ρ, .inr ⟨?_, rfl⟩, Ext.refl _ _, .tup [] [] .nil, c.rel.turn hlv hg rfl rfl (set_turned w _ (.map (es'.push { key := a.eval k, val := a.eval x, born := clock }) (clock + 1))).block ⟨_, _, set_at h7 _, by simpa using h10 clock⟩, Turn.put _ _ _, (set_turned w _ _).below (c.rel.base ob _ hlv.2 hg rfl), Dead.put hlv.2 _⟩
      rw [he, h6]
      simp only [Instr.mapUpdate, Sem.run_bind, run_und ht, Result.andThen_ok, run_getObj h7, checkKey_ok hd hkt, findKey_ok hkt h9, setObj_ok h7 (fun _ _ _ h => nomatch h), Sem.run_pure]
    · rw [Nat.zero_add] at h9
      refine ⟨Go.undef, _, ρ, .inr ⟨?_, rfl⟩, Ext.refl _ _, .tup [] [] .nil, c.rel.turn hlv hg rfl rfl (set_turned w _ (.map (es'.modify j fun e => { e with key := a.eval k, val := a.eval x }) clock)).block ⟨_, _, set_at h7 _, by simpa using h12⟩, Turn.put _ _ _, (set_turned w _ _).below (c.rel.base ob _ hlv.2 hg rfl), Dead.put hlv.2 _⟩
      rw [he, h6]
      have hkey : ((es'[j]?).map (·.key)).getD (a.eval k) = e.key := by
        have : es'[j]? = some e := by rw [← Array.getElem?_toList]; exact h10
        rw [this]; rfl
      simp only [Instr.mapUpdate, Sem.run_bind, run_und ht, Result.andThen_ok, run_getObj h7, checkKey_ok hd hkt, findKey_ok hkt h9, hkey, Instr.keyThatStays, h11, if_true, Sem.run_pure, setObj_ok h7 (fun _ _ _ h => nomatch h)]
end ops
end Go.Proofs.YtjdbcfnlehedmaaGreatDoor.Av
