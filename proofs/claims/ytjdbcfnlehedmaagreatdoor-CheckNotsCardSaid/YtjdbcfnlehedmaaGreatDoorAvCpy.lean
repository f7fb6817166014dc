/-
  COPY, AND A TEXT AS BYTES.
-/
import Derived.Test.YtjdbcfnlehedmaaGreatDoorAvApp
namespace Go.Proofs.YtjdbcfnlehedmaaGreatDoor.Av
set_option linter.unusedVariables false
set_option linter.unusedSimpArgs false
open Go Go.RowKit

section ops
variable {P : Program} {base : Nat} {ρ : Map} {st st' : St} {w : World} {nt : Nat} {tm : Tr V} {a : Act} {o : Oper} {v : V}
theorem copy_run {call : Call} {x y : Operand} {t u : TypeId} (ho : o.op = .call call) (hcb : call.callee = .builtin .copy) (ha : call.args.toList = [x, y]) (hat : call.argTypes.toList = [t, u]) :
    execOp a.eval o = (do pure (Next.value (← Builtin.copy_ #[t, u] o.type #[a.eval x, a.eval y]))) := by
  have harr : call.args = #[x, y] := by apply Array.toList_inj.1; rw [ha]
  have hatr : call.argTypes = #[t, u] := by apply Array.toList_inj.1; rw [hat]
  unfold execOp
  rw [ho]
  simp [resolve, hcb, harr, hatr, invoke, builtin]
theorem e_cpy (c : Ctx P base ρ st w nt tm a) {call : Call} {x y : Operand} {t u e : TypeId} {size : Nat} {sf : Bool} {x' y' : X} (ht : P.underlying t = some (.slice e)) (hn : sizeT P e = some size) (hs1 : sf = true → size = 1) (ho : o.op = .call call) (hcb : call.callee = .builtin .copy)
    (ha : call.args.toList = [x, y]) (hat : call.argTypes.toList = [t, u]) (hx : compX P x = some x') (hy : compX P y = some y') (h : iCpy sf size x' y' tm st = some (v, st')) : Turns P base ρ st w a o v st' := by
  obtain ⟨⟨news, m⟩, hs, h1⟩ := orec_none h
  obtain ⟨hlen, hnl, hsrc⟩ := src_ok c.rel (c.opd hy) hs hs1
  have he := copy_run (a := a) ho hcb ha hat
  have hxr := c.opd hx
  rcases onSlice_some (h1 : (x'.ev tm).onSlice none (some (.int 63 (.ofNat 0), st)) (fun o i n _ _ =>
    onCells none (fun e cs w => bif w && Nat.ble (Nat.add i (Nat.mul (min m n) size)) (lenL cs) then
          some (.int 63 (.ofNat (min m n)), st.put o (some (.cells e (splice cs i (takeL news (Nat.mul (min m n) size))) true))) else none) (st.mem.get o)) = some (v, st')) with ⟨_, _, _, _, _, hv, h2⟩ | ⟨ob, i, n, cap, ex, hv, h2⟩
  · rw [hv] at hxr
    have hxe := hxr.nilSlice_inv
    obtain ⟨rfl, rfl⟩ := Prod.mk.inj (Option.some.inj h2)
    obtain ⟨l', _, _, h5⟩ := hsrc 0 (Nat.zero_le _) w rfl
    refine ⟨.int .i64 0, w, ρ, .inl ?_, Ext.refl _ _, .int .i64 _, c.rel, Turn.refl _, Below.refl _ _, Dead.refl _ _⟩
    rw [he, hxe]
    have hmin : Nat.min m 0 = 0 := Nat.min_zero m
    simp only [Builtin.copy_, List.getElem?_toArray, List.getElem?_cons_zero, List.getElem?_cons_succ, Sem.run_bind, run_und ht, run_size hn, Result.andThen_ok, Sem.run_pure, hlen w, hmin, h5, goInt]
    rfl
  · rw [hv] at hxr
    obtain ⟨ad, c', hxe, hob, hncap, hcapc, hex, hadr, htot⟩ := hxr.slice_inv
    obtain ⟨e', cs, own, hg, h8⟩ := onCells_some h2
    obtain ⟨h9, h10⟩ := bif_none h8
    simp only [Bool.and_eq_true, lenL_eq] at h9
    obtain ⟨rfl, h11⟩ := h9
    have h12 : i + min m n * size ≤ cs.length := ble_iff.1 h11
    obtain ⟨rfl, rfl⟩ := Prod.mk.inj (Option.some.inj h10)
    obtain ⟨l', h5, h6, h7⟩ := hsrc (min m n) (Nat.min_le_left _ _) w rfl
    have hnm : ∀ x y : Nat, Nat.mul x y = x * y := fun _ _ => rfl
    rw [takeL_eq, hnm]
    have hks : min m n * size ≤ m * size := Nat.mul_le_mul_right _ (Nat.min_le_left _ _)
    have hlt : (news.take (min m n * size)).length = min m n * size := by simp; omega
    obtain ⟨w', h13, h14, h15⟩ := store_own c.rel hob hg h5 h6 (i := i) (by omega)
    have hst : (storeCells ad l').run P w = .ok () w' := by
      rcases hadr with h0 | h0
      · have hm0 : min m n = 0 := by omega
        have hl0 : l' = [] := by
          have := h5.length
          rw [hlt, hm0] at this
          exact List.length_eq_zero_iff.1 (by omega)
        subst hl0
        exact h13
      · rw [h0]; exact h13
    refine ⟨.int .i64 ((min m n : Nat) : Int), w', ρ, .inl ?_, Ext.refl _ _, .int .i64 _, h14, Turn.put _ _ _, h15.below (c.rel.base ob _ hob.2 hg rfl), Dead.put hob.2 _⟩
    rw [he, hxe]
    have hmin : Nat.min m n = min m n := rfl
    simp only [Builtin.copy_, List.getElem?_toArray, List.getElem?_cons_zero, List.getElem?_cons_succ, Sem.run_bind, run_und ht, run_size hn, Result.andThen_ok, Sem.run_pure, hlen w, hmin, h7, goInt, hst]
theorem push_modify (h : Array Obj) (x : Obj) (f : Obj → Obj) : (h.push x).modify h.size f = h.push (f x) := by
  apply Array.ext_getElem?
  intro i
  rw [Array.getElem?_modify, Array.getElem?_push, Array.getElem?_push]
  by_cases hi : i = h.size
  · subst hi; simp
  · rw [if_neg hi, if_neg (by omega), if_neg hi]
theorem e_cvsb (c : Ctx P base ρ st w nt tm a) (hb : base ≤ w.heap.size) {s d e : TypeId} {x : Operand} {y : X} (hs : P.underlying s = some .string) (hd : P.underlying d = some (.slice e)) (hee : P.underlying e = some (.int .u8)) (hn : sizeT P e = some 1) (ho : o.op = .convert s d x) (hx : compX P x = some y)
    (h : iCvsb e y tm st = some (v, st')) : Turns P base ρ st w a o v st' := by
  obtain ⟨bs, hv, h1⟩ := onStr_some h
  obtain ⟨rfl, rfl⟩ := Prod.mk.inj (Option.some.inj h1)
  rw [lenL_eq, bytesV_eq]
  have h8 := c.opd hx
  rw [hv] at h8
  have h9 := h8.str_inv
  obtain ⟨cap, hcap⟩ : ∃ cap, cap = (Question.appendCap bs.length 0 e).cut (w.tape w.drawn (.appendCap bs.length 0 e)) := ⟨_, rfl⟩
  have hge : bs.length ≤ cap := by rw [hcap]; exact cut_ge _ _ _ _
  obtain ⟨w1, hw1⟩ : ∃ w1 : World, w1 = { w with drawn := w.drawn + 1 } := ⟨_, rfl⟩
  have hheap : w1.heap = w.heap := by rw [hw1]
  obtain ⟨cc, hcc⟩ : ∃ cc : Array Value, cc = ((⟨⟨bs⟩⟩ : ByteArray).data.map fun b => Value.int .u8 b.toNat) ++ Array.replicate (cap - bs.length) (.int .u8 0) := ⟨_, rfl⟩
  have hsz : cc.size = cap := by rw [hcc]; simp; omega
  have hrel1 : Rel P base ρ st w1 := c.rel.of_heap hheap
  have h10 := new_cells hrel1 (w := w1) (by rw [hheap]; exact hb) hn (cs := bs.map fun b => V.int 8 (b.toNat : Int)) (c := cc)
    (by
      have : cc.toList.take (bs.map fun b => V.int 8 (b.toNat : Int)).length = bs.map fun b => Value.int .u8 (b.toNat : Int) := by
        rw [hcc, Array.toList_append, List.take_left' (by simp)]
        simp
      rw [this]
      exact bytes_vr _ _)
    (by
      intro q hq
      rw [hcc, Array.toList_append] at hq
      rcases List.mem_append.1 hq with hq | hq
      · simp only [Array.toList_map] at hq
        obtain ⟨b, _, rfl⟩ := List.mem_map.1 hq
        rfl
      · simp only [Array.toList_replicate] at hq
        obtain rfl := (List.mem_replicate.1 hq).2
        rfl) e (lo := cc.size) (hi := cc.size + 1) (.inr (Nat.le_refl _))
  rw [hheap] at h10
  refine ⟨.slice (some ⟨w.heap.size, 0, none⟩) bs.length cap, _, _, .inl ?_, Map.new_ext _ _ _, vr_new_slice (w := w) ⟨w.heap.size, 0, cc.size, 1, true⟩ rfl rfl (Nat.le_refl _) hge (fun h => nomatch h) (fun _ => by show cap * 1 ≤ cc.size; omega), h10, Turn.new _ _, ?_, Dead.new _ _ _ _⟩
  · have he : execOp a.eval o = (do pure (Next.value (← convert s d (a.eval x)))) := by unfold execOp; rw [ho]
    rw [he, h9]
    have hsize : (⟨⟨bs⟩⟩ : ByteArray).size = bs.length := rfl
    have hch : (choose (.appendCap bs.length 0 e)).run P w = .ok cap w1 := by
      rw [run_choose, hcap, hw1]
      rfl
    simp only [convert, Sem.run_bind, run_und hs, run_und hd, run_und hee, Result.andThen_ok, Conv.stringToBytes, hsize, hch, newRow, run_newObj, Sem.run_pure, markStringish, run_shape, ← hcc, hheap]
    have hshape : ({ w1 with heap := w.heap.push (.cells cc e) } : World).shape? w.heap.size = some (e, cc.size) := by simp [World.shape?]
    simp only [hshape, Result.andThen_ok, run_freeze]
    simp only [World.freeze, Nat.succ_ne_zero, if_false]
    rw [push_modify]
    simp
  · exact ⟨by rw [hw1], by rw [hw1], by rw [hw1], by simp, fun k hk => by show (w.heap.push _)[k]? = _; rw [Array.getElem?_push, if_neg (by omega)]⟩
end ops
end Go.Proofs.YtjdbcfnlehedmaaGreatDoor.Av
