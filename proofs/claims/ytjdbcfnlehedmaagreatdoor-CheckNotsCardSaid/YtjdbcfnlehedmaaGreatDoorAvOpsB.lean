/-
  EACH INSTRUCTION THAT TURNS NOTHING, AS THE MODEL CARRIES IT OUT: the rest of them.
-/
import Derived.Test.YtjdbcfnlehedmaaGreatDoorAvOps
namespace Go.Proofs.YtjdbcfnlehedmaaGreatDoor.Av
set_option linter.unusedVariables false
set_option linter.unusedSimpArgs false
open Go Go.RowKit

section ops
variable {P : Program} {base : Nat} {ρ : Map} {st : St} {w : World} {nt : Nat} {tm : Tr V} {a : Act} {o : Oper} {v : V}
theorem g_neg (c : Ctx P base ρ st w nt tm a) {t : TypeId} {x : Operand} {y : X} {k : Nat} (ho : o.op = .unOp .neg t x) (hx : compX P x = some y) (h : iNeg k y tm st = some v) : Gives P ρ st.next w a o v := by
  obtain ⟨j, m, hv, h1⟩ := onInt_some h
  obtain ⟨e1, h2⟩ := bif_none h1
  obtain rfl := beq_iff.1 e1
  have h5 := c.opd hx
  rw [hv] at h5
  obtain ⟨kk, rfl, h7⟩ := h5.int_inv
  obtain rfl := Option.some.inj h2
  refine gives (s := Op.unary .neg (a.eval x)) (by simp [execOp, ho]) (v' := .int kk (kk.wrap (0 - m))) ?_ ?_
  · unfold Hands; rw [h7]; simp [Op.unary, Op.intArith]
  · rw [wrapC_eq]; exact .int kk _
theorem g_xor1 (c : Ctx P base ρ st w nt tm a) {t : TypeId} {x : Operand} {y : X} {k : Nat} (ho : o.op = .unOp .xor t x) (hx : compX P x = some y) (h : iXor1 k y tm st = some v) : Gives P ρ st.next w a o v := by
  obtain ⟨j, m, hv, h1⟩ := onInt_some h
  obtain ⟨e1, h2⟩ := bif_none h1
  obtain rfl := beq_iff.1 e1
  have h5 := c.opd hx
  rw [hv] at h5
  obtain ⟨kk, rfl, h7⟩ := h5.int_inv
  rw [kindC_codeK] at h2
  obtain ⟨v', h9, h10⟩ := two_xor (P := P) (k := kk) h2 ρ st.next
  refine gives (s := Op.unary .xor (a.eval x)) (by simp [execOp, ho]) (v' := v') ?_ h10
  unfold Hands; rw [h7]
  have := h9 0 w
  simpa [Op.unary, binOp] using this
theorem g_not (c : Ctx P base ρ st w nt tm a) {t : TypeId} {x : Operand} {y : X} (ho : o.op = .unOp .not t x) (hx : compX P x = some y) (h : iNot y tm st = some v) : Gives P ρ st.next w a o v := by
  obtain ⟨b, hv, h1⟩ := onBool_some h
  have h5 := c.opd hx
  rw [hv] at h5
  have h7 := h5.bool_inv
  obtain rfl := Option.some.inj h1
  refine gives (s := Op.unary .not (a.eval x)) (by simp [execOp, ho]) (v' := .bool !b) ?_ (.bool _)
  unfold Hands; rw [h7]; rfl
theorem g_cvi (c : Ctx P base ρ st w nt tm a) {s d : TypeId} {x : Operand} {y : X} {k j : IntKind} (hs : P.underlying s = some (.int j)) (hd : P.underlying d = some (.int k)) (ho : o.op = .convert s d x) (hx : compX P x = some y)
    (h : iCvi (codeK k) y tm st = some v) : Gives P ρ st.next w a o v := by
  obtain ⟨i, m, hv, h1⟩ := onInt_some h
  have h5 := c.opd hx
  rw [hv] at h5
  obtain ⟨kk, rfl, h7⟩ := h5.int_inv
  obtain rfl := Option.some.inj h1
  refine gives (s := convert s d (a.eval x)) (by simp [execOp, ho]) (v' := .int k (k.wrap m)) ?_ (by rw [wrapC_eq]; exact .int k _)
  unfold Hands; rw [h7]
  simp only [convert, Sem.run_bind, run_und hs, run_und hd, Result.andThen_ok]
  rfl
theorem g_cvid (c : Ctx P base ρ st w nt tm a) {s d : TypeId} {x : Operand} {y : X} (hs : P.underlying s = some .string) (hd : P.underlying d = some .string) (ho : o.op = .convert s d x) (hx : compX P x = some y)
    (h : iCvid y tm st = some v) : Gives P ρ st.next w a o v := by
  obtain ⟨m, hv, h1⟩ := onStr_some h
  have h5 := c.opd hx
  rw [hv] at h5
  have h7 := h5.str_inv
  obtain rfl := Option.some.inj h1
  refine gives (s := convert s d (a.eval x)) (by simp [execOp, ho]) (v' := .string ⟨⟨m⟩⟩) ?_ (.str_mk _)
  unfold Hands; rw [h7]
  simp only [convert, Sem.run_bind, run_und hs, run_und hd, Result.andThen_ok]
  rfl
theorem g_cvis (c : Ctx P base ρ st w nt tm a) {s d : TypeId} {x : Operand} {y : X} {j : IntKind} (hs : P.underlying s = some (.int j)) (hd : P.underlying d = some .string) (ho : o.op = .convert s d x) (hx : compX P x = some y)
    (h : iCvis y tm st = some v) : Gives P ρ st.next w a o v := by
  obtain ⟨i, m, hv, h1⟩ := onInt_some h
  have h5 := c.opd hx
  rw [hv] at h5
  obtain ⟨kk, rfl, h7⟩ := h5.int_inv
  obtain rfl := Option.some.inj h1
  refine gives (s := convert s d (a.eval x)) (by simp [execOp, ho]) (v' := .string (Utf8.encode m)) ?_ (.str _)
  unfold Hands; rw [h7]
  simp only [convert, Sem.run_bind, run_und hs, run_und hd, Result.andThen_ok]
  rfl
theorem g_mki (c : Ctx P base ρ st w nt tm a) {t : TypeId} {x : Operand} {y : X} {d : TypeDesc} (ht : P.underlying t = some d) (hd : ∀ ms, d ≠ .interface ms) (ho : o.op = .makeInterface t x) (hx : compX P x = some y) :
    Gives P ρ st.next w a o (.iface t (y.ev tm)) := by
  refine gives (s := Instr.makeInterface t (a.eval x)) (by simp [execOp, ho]) (v' := .iface t (a.eval x)) ?_ (.iface _ _ _ (c.opd hx))
  unfold Hands
  simp only [Instr.makeInterface, Sem.run_bind, run_und ht, Result.andThen_ok]
  cases d <;> first | rfl | exact absurd rfl (hd _)
theorem g_mkf (c : Ctx P base ρ st w nt tm a) {f : FuncId} {cs : Array Operand} {ys : List X} (ho : o.op = .makeFunc (.func f) #[] cs) (hx : compXs P cs.toList = some ys) :
    Gives P ρ st.next w a o (.func f (X.evs tm ys)) := by
  refine gives (s := Instr.makeFunc (.func f) #[] (cs.map a.eval)) (by simp [execOp, ho]) (v' := .func (.func f) #[] (cs.map a.eval)) rfl ?_
  have := VR.func (ρ := ρ) (n := st.next) f _ _ (c.opds hx)
  rwa [show (List.map a.eval cs.toList).toArray = cs.map a.eval from by apply Array.toList_inj.1; simp] at this
theorem g_fad (c : Ctx P base ρ st w nt tm a) {t : TypeId} {x : Operand} {y : X} {f : Nat} {fs : Array Field} {fl : Field} {n : Nat} (ht : P.underlying t = some (.struct fs)) (hf : fs[f]? = some fl) (hn : sizeT P fl.type = some n) (hn0 : n ≠ 0)
    (ho : o.op = .fieldAddr t x f) (hx : compX P x = some y) (h : iFad fl.offset y tm st = some v) : Gives P ρ st.next w a o v := by
  obtain ⟨ob, i, _, _, _, hv, h1⟩ := onPtr_some h
  have h3 := c.opd hx
  rw [hv] at h3
  obtain ⟨h5, h4⟩ := h3.ptr_inv
  obtain rfl := Option.some.inj h1
  refine gives (s := Instr.fieldAt t (a.eval x) f) (by simp [execOp, ho]) (v' := .pointer (some ((ρ ob).at (i + fl.offset)))) ?_ (.ptr _ _ h5)
  unfold Hands; rw [h4]
  simp only [Instr.fieldAt, Sem.run_bind, run_und ht, Result.andThen_ok, hf, Instr.sureAddr, Sem.run_pure, fieldPlace, run_size hn, hn0, if_false, Pl.at_add]
theorem g_part {l : List V} {l' : List Value} (hl : VRs ρ st.next l l') (h1 : ∀ u ∈ l', One u) {t : TypeId} {g : Bool} {n off : Nat} (hg : aggT P t = some g) (hn : sizeT P t = some n) (h : part g l off n = some v) :
    ∃ v', (Go.part t l'.toArray off).run P w = .ok v' w ∧ VR ρ st.next v v' := by
  rcases part_some h with ⟨rfl, hle, rfl⟩ | ⟨rfl, hv⟩
  · refine ⟨.agg ((l'.drop off).take n).toArray, ?_, .agg _ _ ((hl.drop off).take n) fun u hu => h1 u (List.mem_of_mem_drop (List.mem_of_mem_take hu))⟩
    simp only [Go.part, Sem.run_bind, run_agg hg, Result.andThen_ok, if_true, run_size hn, Sem.run_pure]
    congr 2
    apply Array.toList_inj.1
    simp [List.extract_eq_take_drop]
  · obtain ⟨v', h5, h6⟩ := hl.get off v hv
    refine ⟨v', ?_, h6⟩
    simp [Go.part, run_agg hg, h5]

theorem g_fld (c : Ctx P base ρ st w nt tm a) {t : TypeId} {x : Operand} {y : X} {f : Nat} {fs : Array Field} {fl : Field} {g : Bool} {n : Nat} (ht : P.underlying t = some (.struct fs)) (hf : fs[f]? = some fl) (hg : aggT P fl.type = some g) (hn : sizeT P fl.type = some n)
    (ho : o.op = .field t x f) (hx : compX P x = some y) (h : iFld g fl.offset n y tm st = some v) : Gives P ρ st.next w a o v := by
  obtain ⟨b, l, hv, h1⟩ := onAgg_some h
  have h3 := c.opd hx
  rw [hv] at h3
  obtain ⟨l', h4, h5, h6⟩ := h3.agg_inv
  obtain ⟨v', h7, h8⟩ := g_part (w := w) h5 h6 hg hn h1
  refine gives (s := Instr.field t (a.eval x) f) (by unfold execOp; rw [ho]) (v' := v') ?_ h8
  unfold Hands; rw [h4]
  simp only [Instr.field, Sem.run_bind, run_und ht, Result.andThen_ok, hf, asAgg, Sem.run_pure, h7]
theorem asIntOf_int (k : IntKind) (n : Int) : (asIntOf (.int k n)).run P w = .ok (k, n) w := rfl
theorem g_iad (c : Ctx P base ρ st w nt tm a) {t e : TypeId} {x i : Operand} {x' i' : X} {n : Nat} (ht : P.underlying t = some (.slice e)) (hn : sizeT P e = some n) (ho : o.op = .indexAddr t x i) (hx : compX P x = some x') (hi : compX P i = some i')
    (h : iIad n x' i' tm st = some v) : Gives P ρ st.next w a o v := by
  rcases onSlice_some h with ⟨_, _, _, _, _, _, h0⟩ | ⟨ob, b, m, cp, ex, hv, h1⟩
  · exact nomatch h0
  · obtain ⟨k, j, hv', h2⟩ := onNat_some h1
    obtain ⟨h3, h4⟩ := bif_none h2
    have hlt := blt_iff.1 h3
    have h5 := c.opd hx
    have h6 := c.opd hi
    rw [hv] at h5
    rw [hv'] at h6
    obtain ⟨kk, rfl, h7⟩ := h6.int_inv
    obtain ⟨ad, cp', h8, h9, h10, h11, h12, h13, h14⟩ := h5.slice_inv
    have hc0 : cp' ≠ 0 := by omega
    have had : ad = (ρ ob).at b := h13.resolve_left hc0
    obtain rfl := Option.some.inj h4
    refine gives (s := Instr.indexAt t (a.eval x) (a.eval i)) (by simp [execOp, ho]) (v' := .pointer (some ((ρ ob).at (b + j * n)))) ?_ (.ptr _ _ h9)
    unfold Hands; rw [h8, h7]
    have hj : 0 ≤ (j : Int) ∧ (j : Int) < (m : Int) := by omega
    simp only [Instr.indexAt, Sem.run_bind, asIntOf_int, run_und ht, Result.andThen_ok, Sem.run_pure]
    simp [hj, hlt, run_size hn, had, Pl.at_add, run_und ht]
theorem g_iaa (c : Ctx P base ρ st w nt tm a) {t e : TypeId} {x i : Operand} {x' i' : X} {n len : Nat} (ht : P.underlying t = some (.array len e)) (hn : sizeT P e = some n) (ho : o.op = .indexAddr t x i) (hx : compX P x = some x') (hi : compX P i = some i')
    (h : iIaa len n x' i' tm st = some v) : Gives P ρ st.next w a o v := by
  obtain ⟨ob, b, _, _, _, hv, h1⟩ := onPtr_some h
  obtain ⟨k, j, hv', h2⟩ := onNat_some h1
  obtain ⟨h3, h4⟩ := bif_none h2
  have hlt := blt_iff.1 h3
  have h5 := c.opd hx
  have h6 := c.opd hi
  rw [hv] at h5
  rw [hv'] at h6
  obtain ⟨kk, rfl, h7⟩ := h6.int_inv
  obtain ⟨h9, h8⟩ := h5.ptr_inv
  obtain rfl := Option.some.inj h4
  refine gives (s := Instr.indexAt t (a.eval x) (a.eval i)) (by simp [execOp, ho]) (v' := .pointer (some ((ρ ob).at (b + j * n)))) ?_ (.ptr _ _ h9)
  unfold Hands; rw [h8, h7]
  have hj : 0 ≤ (j : Int) ∧ (j : Int) < (len : Int) := by omega
  simp only [Instr.indexAt, Sem.run_bind, asIntOf_int, run_und ht, Result.andThen_ok, Sem.run_pure, Instr.sureAddr]
  simp [hj, hlt, run_size hn, Pl.at_add, run_und ht]
theorem str_get (s : List UInt8) (k : Nat) : (⟨⟨s⟩⟩ : ByteArray)[k]? = s[k]? := by
  by_cases h : k < s.length
  · have h' : k < (⟨⟨s⟩⟩ : ByteArray).size := h
    rw [getElem?_pos (⟨⟨s⟩⟩ : ByteArray) k h', List.getElem?_eq_getElem h]; rfl
  · have h' : ¬ k < (⟨⟨s⟩⟩ : ByteArray).size := h
    rw [getElem?_neg (⟨⟨s⟩⟩ : ByteArray) k h', List.getElem?_eq_none (by omega)]
theorem g_ixs (c : Ctx P base ρ st w nt tm a) {t : TypeId} {x i : Operand} {x' i' : X} (ht : P.underlying t = some .string) (ho : o.op = .index t x i) (hx : compX P x = some x') (hi : compX P i = some i')
    (h : iIxs x' i' tm st = some v) : Gives P ρ st.next w a o v := by
  obtain ⟨s, hv, h1⟩ := onStr_some h
  obtain ⟨k, j, hv', h2⟩ := onNat_some h1
  obtain ⟨b, h3, h4⟩ := orec_none h2
  rw [nth_eq] at h3
  have h5 := c.opd hx
  have h6 := c.opd hi
  rw [hv] at h5
  rw [hv'] at h6
  obtain ⟨kk, rfl, h7⟩ := h6.int_inv
  have h8 := h5.str_inv
  obtain rfl := Option.some.inj h4
  refine gives (s := Instr.index t (a.eval x) (a.eval i)) (by simp [execOp, ho]) (v' := .int .u8 b.toNat) ?_ (.int .u8 _)
  unfold Hands; rw [h8, h7]
  simp only [Instr.index, Sem.run_bind, asIntOf_int, run_und ht, Result.andThen_ok]
  simp [str_get, h3]
theorem g_ixa (c : Ctx P base ρ st w nt tm a) {t e : TypeId} {x i : Operand} {x' i' : X} {g : Bool} {n len : Nat} (ht : P.underlying t = some (.array len e)) (hg : aggT P e = some g) (hn : sizeT P e = some n) (ho : o.op = .index t x i) (hx : compX P x = some x') (hi : compX P i = some i')
    (h : iIxa g len n x' i' tm st = some v) : Gives P ρ st.next w a o v := by
  obtain ⟨b, l, hv, h1⟩ := onAgg_some h
  obtain ⟨k, j, hv', h2⟩ := onNat_some h1
  obtain ⟨h3, h4⟩ := bif_none h2
  have hlt := blt_iff.1 h3
  have h5 := c.opd hx
  have h6 := c.opd hi
  rw [hv] at h5
  rw [hv'] at h6
  obtain ⟨kk, rfl, h7⟩ := h6.int_inv
  obtain ⟨l', h8, h9, h10⟩ := h5.agg_inv
  obtain ⟨v', h11, h12⟩ := g_part (w := w) h9 h10 hg hn h4
  refine gives (s := Instr.index t (a.eval x) (a.eval i)) (by simp [execOp, ho]) (v' := v') ?_ h12
  unfold Hands; rw [h8, h7]
  have hj : 0 ≤ (j : Int) ∧ (j : Int) < (len : Int) := by omega
  simp only [Instr.index, Sem.run_bind, asIntOf_int, run_und ht, Result.andThen_ok]
  simpa [hj, hlt, run_size hn] using h11
theorem g_ext (c : Ctx P base ρ st w nt tm a) {x : Operand} {y : X} {i : Nat} (ho : o.op = .extract x i) (hx : compX P x = some y) (h : iExt y i tm st = some v) : Gives P ρ st.next w a o v := by
  obtain ⟨b, l, hv, h1⟩ := onTup_some h
  rw [nth_eq] at h1
  have h5 := c.opd hx
  rw [hv] at h5
  obtain ⟨l', h8, h9⟩ := h5.tup_inv
  obtain ⟨v', h10, h11⟩ := h9.get i v h1
  refine gives (s := Instr.extract (a.eval x) i) (by simp [execOp, ho]) (v' := v') ?_ h11
  unfold Hands; rw [h8]
  simp [Instr.extract, h10]
theorem g_mn (c : Ctx P base ρ st w nt tm a) {call : Call} {x y : Operand} {x' y' : X} (ho : o.op = .call call) (hcb : call.callee = .builtin .min) (ha : call.args.toList = [x, y]) (hx : compX P x = some x') (hy : compX P y = some y')
    (h : iMn x' y' tm st = some v) : Gives P ρ st.next w a o v := by
  obtain ⟨k, m, hv, h1⟩ := onInt_some h
  obtain ⟨k', n, hv', h2⟩ := onInt_some h1
  obtain ⟨e, h3⟩ := bif_none h2
  obtain rfl := beq_iff.1 e
  have h5 := c.opd hx
  have h6 := c.opd hy
  rw [hv] at h5
  rw [hv'] at h6
  obtain ⟨kk, e1, h7⟩ := h5.int_inv
  obtain ⟨jj, e2, h8⟩ := h6.int_inv
  obtain rfl := codeK_inj (e1.symm.trans e2)
  subst e1
  obtain rfl := Option.some.inj h3
  have harr : call.args = #[x, y] := by apply Array.toList_inj.1; rw [ha]
  refine ⟨.int kk (if n < m then n else m), ?_, ?_⟩
  · simp [execOp, ho, resolve, hcb, harr, invoke, builtin, Builtin.min_, h7, h8, Builtin.min2]
  · rw [ltI_eq]
    by_cases hlt : n < m <;> simp [hlt] <;> exact .int kk _
theorem g_mx (c : Ctx P base ρ st w nt tm a) {call : Call} {x y : Operand} {x' y' : X} (ho : o.op = .call call) (hcb : call.callee = .builtin .max) (ha : call.args.toList = [x, y]) (hx : compX P x = some x') (hy : compX P y = some y')
    (h : iMx x' y' tm st = some v) : Gives P ρ st.next w a o v := by
  obtain ⟨k, m, hv, h1⟩ := onInt_some h
  obtain ⟨k', n, hv', h2⟩ := onInt_some h1
  obtain ⟨e, h3⟩ := bif_none h2
  obtain rfl := beq_iff.1 e
  have h5 := c.opd hx
  have h6 := c.opd hy
  rw [hv] at h5
  rw [hv'] at h6
  obtain ⟨kk, e1, h7⟩ := h5.int_inv
  obtain ⟨jj, e2, h8⟩ := h6.int_inv
  obtain rfl := codeK_inj (e1.symm.trans e2)
  subst e1
  obtain rfl := Option.some.inj h3
  have harr : call.args = #[x, y] := by apply Array.toList_inj.1; rw [ha]
  refine ⟨.int kk (if m < n then n else m), ?_, ?_⟩
  · simp [execOp, ho, resolve, hcb, harr, invoke, builtin, Builtin.max_, h7, h8, Builtin.max2]
  · rw [ltI_eq]
    by_cases hlt : m < n <;> simp [hlt] <;> exact .int kk _

theorem optN_some {x : Option X} {d n : Nat} (h : optN tm d x = some n) : (x = none ∧ n = d) ∨ ∃ y k, x = some y ∧ y.ev tm = .int k (n : Int) := by
  cases x with
  | none => exact .inl ⟨rfl, (Option.some.inj h).symm⟩
  | some y =>
    obtain ⟨k, m, h1, h2⟩ := onNat_some (h : (y.ev tm).onNat none some = some n)
    obtain rfl := Option.some.inj h2
    exact .inr ⟨y, k, rfl, h1⟩
/-- What a bound of a slice expression is in the model. -/
def Bd (a : Act) (d n : Nat) (x : Option Operand) : Prop := (x = none ∧ n = d) ∨ ∃ y k, x = some y ∧ a.eval y = .int k (n : Int)
theorem Ctx.bound (c : Ctx P base ρ st w nt tm a) {x : Option Operand} {y : Option X} {d n : Nat} (hx : compOX P x = some y) (h : optN tm d y = some n) : Bd a d n x := by
  cases x with
  | none =>
    obtain rfl := Option.some.inj hx
    rcases optN_some h with ⟨_, rfl⟩ | ⟨y, k, h1, _⟩
    · exact .inl ⟨rfl, rfl⟩
    · exact nomatch h1
  | some x =>
    simp only [compOX] at hx
    cases hy : compX P x with
    | none => rw [hy] at hx; exact nomatch hx
    | some z =>
      rw [hy] at hx
      obtain rfl := Option.some.inj hx
      rcases optN_some h with ⟨h1, _⟩ | ⟨y, k, h1, h2⟩
      · exact nomatch h1
      · obtain rfl := Option.some.inj h1
        have h3 := c.opd hy
        rw [h2] at h3
        obtain ⟨kk, _, h4⟩ := h3.int_inv
        exact .inr ⟨x, kk, rfl, h4⟩
theorem bound_ok {k : IntKind} {n y : Nat} {code : BoundsCode} (h : n ≤ y) (w : World) : (Instr.sliceBound (.int k (n : Int)) y code).run P w = .ok n w := by
  have : 0 ≤ (n : Int) ∧ (n : Int) ≤ (y : Int) := by omega
  simp [Instr.sliceBound, asIntOf, this, h]
theorem bounds_ok {isS : Bool} {len cap l h m : Nat} {lo hi mx : Option Operand} (h1 : Bd a 0 l lo) (h2 : Bd a len h hi) (h3 : Bd a cap m mx) (hlh : l ≤ h) (hhm : h ≤ m) (hmc : m ≤ cap) (hmx : mx ≠ none → hi ≠ none) (hlen : h ≤ (if mx.isSome then m else cap)) (w : World) :
    (Instr.sliceBounds isS len cap (lo.map a.eval) (hi.map a.eval) (mx.map a.eval)).run P w = .ok (l, h, m) w := by
  rcases h3 with ⟨rfl, rfl⟩ | ⟨ym, km, rfl, h3⟩ <;> rcases h2 with ⟨rfl, rfl⟩ | ⟨yh, kh, rfl, h2⟩ <;> rcases h1 with ⟨rfl, rfl⟩ | ⟨yl, kl, rfl, h1⟩ <;>
    first
    | (simp [Instr.sliceBounds, bound_ok, *]; done)
    | exact absurd rfl (hmx (by simp))
theorem g_sls (c : Ctx P base ρ st w nt tm a) {t : TypeId} {x : Operand} {lo hi : Option Operand} {x' : X} {lo' hi' : Option X} (ht : P.underlying t = some .string) (ho : o.op = .slice t x lo hi none) (hx : compX P x = some x')
    (hl : compOX P lo = some lo') (hh : compOX P hi = some hi') (h : iSls x' lo' hi' tm st = some v) : Gives P ρ st.next w a o v := by
  obtain ⟨s, hv, h1⟩ := onStr_some h
  obtain ⟨l, h2, h3⟩ := orec_none h1
  obtain ⟨u, h4, h5⟩ := orec_none h3
  obtain ⟨h6, h7⟩ := bif_none h5
  simp only [Bool.and_eq_true, lenL_eq] at h6
  have e1 := ble_iff.1 h6.1
  have e2 := ble_iff.1 h6.2
  rw [lenL_eq] at h4
  have h8 := c.opd hx
  rw [hv] at h8
  have h9 := h8.str_inv
  obtain rfl := Option.some.inj h7
  refine gives (s := Instr.sliceAt t (a.eval x) (lo.map a.eval) (hi.map a.eval) none) (by unfold execOp; rw [ho]; rfl) (v' := .string ((⟨⟨s⟩⟩ : ByteArray).extract l u)) ?_ ?_
  · unfold Hands; rw [h9]
    have hb := bounds_ok (P := P) (a := a) (isS := false) (len := s.length) (cap := s.length) (m := s.length) (mx := none) (c.bound hl h2) (c.bound hh h4) (.inl ⟨rfl, rfl⟩) e1 e2 (Nat.le_refl _) (by simp) (by simpa using e2) w
    simp only [Instr.sliceAt, Instr.slice, Sem.run_bind, run_und ht, Result.andThen_ok, Option.isSome_none, Bool.false_eq_true, if_false]
    show Result.andThen (Sem.run P (Instr.sliceBounds false s.length s.length (lo.map a.eval) (hi.map a.eval) none) w) _ = _
    rw [show (none : Option Value) = (none : Option Operand).map a.eval from rfl, hb]
    rfl
  · have : (⟨⟨s⟩⟩ : ByteArray).extract l u = ⟨⟨(s.take u).drop l⟩⟩ := by
      apply ByteArray.ext
      apply Array.toList_inj.1
      simp [List.extract_eq_take_drop, List.drop_take]
    rw [this, takeL_eq, dropL_eq]
    exact .str_mk _
end ops
end Go.Proofs.YtjdbcfnlehedmaaGreatDoor.Av
