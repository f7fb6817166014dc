/-
  EACH INSTRUCTION THAT TURNS NOTHING, AS THE MODEL CARRIES IT OUT.
-/
import Derived.Test.YtjdbcfnlehedmaaGreatDoorAvBin
namespace Go.Proofs.YtjdbcfnlehedmaaGreatDoor.Av
set_option linter.unusedVariables false
set_option linter.unusedSimpArgs false
open Go Go.RowKit

section ops
variable {P : Program} {base : Nat} {ρ : Map} {st : St} {w : World} {nt : Nat} {tm : Tr V} {a : Act}
/-- A computation hands back a value and turns nothing. -/
def Hands (P : Program) (w : World) (s : Sem Value) (v : Value) : Prop := s.run P w = .ok v w
/-- So does an operation. -/
def Gives (P : Program) (ρ : Map) (n : Nat) (w : World) (a : Act) (o : Oper) (v : V) : Prop :=
  ∃ v', (execOp a.eval o).run P w = .ok (.value v') w ∧ VR ρ n v v'
theorem gives {n : Nat} {o : Oper} {v : V} {s : Sem Value} {v' : Value} (he : execOp a.eval o = (do pure (Next.value (← s)))) (hs : Hands P w s v') (hv : VR ρ n v v') : Gives P ρ n w a o v :=
  ⟨v', by rw [he]; simp only [Sem.run_bind]; rw [hs]; rfl, hv⟩
variable {o : Oper} {v : V}
theorem g_mov (c : Ctx P base ρ st w nt tm a) {x : Operand} {y : X} (ho : o.op = .move x ∨ o.op = .assign x) (hx : compX P x = some y) : Gives P ρ st.next w a o (y.ev tm) := by
  refine ⟨a.eval x, ?_, c.opd hx⟩
  rcases ho with ho | ho <;> simp [execOp, ho]
theorem g_pick (c : Ctx P base ρ st w nt tm a) {x y z : Operand} {x' y' z' : X} (ho : o.op = .pick x y z) (hx : compX P x = some x') (hy : compX P y = some y') (hz : compX P z = some z')
    (h : iPick x' y' z' tm st = some v) : Gives P ρ st.next w a o v := by
  obtain ⟨b, hb, h1⟩ := onBool_some h
  have h2 := c.opd hx
  rw [hb] at h2
  have h3 := h2.bool_inv
  cases b with
  | true => exact ⟨a.eval y, by simp [execOp, ho, h3, asBool], by rw [← Option.some.inj h1]; exact c.opd hy⟩
  | false => exact ⟨a.eval z, by simp [execOp, ho, h3, asBool], by rw [← Option.some.inj h1]; exact c.opd hz⟩
theorem g_load (c : Ctx P base ρ st w nt tm a) {t : TypeId} {x : Operand} {y : X} {g : Bool} {n : Nat} (ho : o.op = .load t x) (hg : aggT P t = some g) (hn : sizeT P t = some n) (hx : compX P x = some y)
    (h : iLoad g n y tm st = some v) : Gives P ρ st.next w a o v := by
  obtain ⟨ob, i, _, _, _, hv, h1⟩ := onPtr_some h
  obtain ⟨e, cs, own, hm, h2⟩ := onCells_some h1
  have h3 := c.opd hx
  rw [hv] at h3
  obtain ⟨hlv, h4⟩ := h3.ptr_inv
  obtain ⟨v', h5, h6⟩ := loadVar_ok hg hn (c.rel.at hm hlv) h2
  exact gives (s := Instr.loadAt t (a.eval x)) (by simp [execOp, ho]) (by unfold Hands; rw [h4]; simpa [Instr.loadAt, Instr.sureAddr] using h5) h6
theorem g_nck (c : Ctx P base ρ st w nt tm a) {x : Operand} {y : X} (ho : o.op = .nilCheck x) (hx : compX P x = some y) (h : iNck y tm st = some v) : Gives P ρ st.next w a o v := by
  have h3 := c.opd hx
  unfold iNck at h
  cases hv : y.ev tm with
  | int k n => rw [hv] at h; exact nomatch h
  | str s => rw [hv] at h; exact nomatch h
  | bool b => rw [hv] at h; exact nomatch h
  | ref t ob i n c' x' =>
    rw [hv] at h h3
    have h' : (Bool.rec none (some (V.ptr ob i)) (Nat.beq t 1) : Option V) = some v := h
    obtain ⟨h1, h2⟩ := brec_none h'
    obtain rfl := beq_iff.1 h1
    obtain ⟨h5, h4⟩ := h3.ptr_inv
    obtain rfl := Option.some.inj h2
    exact ⟨_, by simp [execOp, ho, h4], VR.ptr ob i h5⟩
  | cmp t b l =>
    rw [hv] at h h3
    have h' : (bif Nat.ble t 1 then some (V.cmp t b l) else none) = some v := h
    obtain ⟨h1, h2⟩ := bif_none h'
    have hle := ble_iff.1 h1
    obtain rfl := Option.some.inj h2
    rcases Nat.le_one_iff_eq_zero_or_eq_one.1 hle with rfl | rfl
    · obtain ⟨l', h4, h5⟩ := h3.func_inv
      exact ⟨a.eval x, by simp [execOp, ho, h4], h3⟩
    · cases l with
      | nil => cases h3
      | cons u l =>
        obtain ⟨u', h4, h5⟩ := h3.iface_inv
        exact ⟨a.eval x, by simp [execOp, ho, h4], h3⟩
theorem eqGuard_int (op : BinOp) (t : TypeId) (x y : Operand) (k j : IntKind) (m n : Int) : (eqGuard op t x y (.int k m) (.int j n)).run P w = .ok () w := by
  unfold eqGuard; split <;> rfl
theorem g_int (c : Ctx P base ρ st w nt tm a) {op : BinOp} {t u : TypeId} {x y : Operand} {x' y' : X} {k : Nat} {f : F2} (ho : o.op = .binOp op t x y u) (hx : compX P x = some x') (hy : compX P y = some y')
    (hf : ∀ (kk : IntKind) (m n : Int) (r : V), f (codeK kk) m n = some r → Two P op kk m n r) (h : iInt f k x' y' tm st = some v) : Gives P ρ st.next w a o v := by
  obtain ⟨j, m, hv, h1⟩ := onInt_some h
  obtain ⟨j', n, hv', h2⟩ := onInt_some h1
  obtain ⟨e1, h3⟩ := brec_none h2
  obtain ⟨e2, h4⟩ := brec_none h3
  obtain rfl := beq_iff.1 e1
  obtain rfl := beq_iff.1 e2
  have h5 := c.opd hx
  have h6 := c.opd hy
  rw [hv] at h5
  rw [hv'] at h6
  obtain ⟨kk, e3, h7⟩ := h5.int_inv
  obtain ⟨kk', e4, h8⟩ := h6.int_inv
  obtain rfl := codeK_inj (e3.symm.trans e4)
  subst e3
  obtain ⟨v', h9, h10⟩ := hf kk m n v h4 ρ st.next
  exact gives (s := do eqGuard op t x y (a.eval x) (a.eval y); binOp op t (a.eval x) (a.eval y)) (by simp [execOp, ho])
    (by unfold Hands; rw [h7, h8]; simp only [Sem.run_bind, eqGuard_int, Result.andThen_ok]; exact h9 t w) h10
theorem g_sh (c : Ctx P base ρ st w nt tm a) {op : BinOp} {t u : TypeId} {x y : Operand} {x' y' : X} {k : Nat} {f : F2} (ho : o.op = .binOp op t x y u) (hx : compX P x = some x') (hy : compX P y = some y')
    (hf : ∀ (kk jj : IntKind) (m n : Int) (r : V), f (codeK kk) m n = some r → ∃ v', (∀ t w, (binOp op t (.int kk m) (.int jj n)).run P w = .ok v' w) ∧ VR ρ st.next r v') (h : iSh f k x' y' tm st = some v) : Gives P ρ st.next w a o v := by
  obtain ⟨j, m, hv, h1⟩ := onInt_some h
  obtain ⟨j', n, hv', h2⟩ := onInt_some h1
  obtain ⟨e1, h4⟩ := brec_none h2
  obtain rfl := beq_iff.1 e1
  have h5 := c.opd hx
  have h6 := c.opd hy
  rw [hv] at h5
  rw [hv'] at h6
  obtain ⟨kk, e3, h7⟩ := h5.int_inv
  obtain ⟨kk', e4, h8⟩ := h6.int_inv
  subst e3
  obtain ⟨v', h9, h10⟩ := hf kk kk' m n v h4
  exact gives (s := do eqGuard op t x y (a.eval x) (a.eval y); binOp op t (a.eval x) (a.eval y)) (by simp [execOp, ho])
    (by unfold Hands; rw [h7, h8]; simp only [Sem.run_bind, eqGuard_int, Result.andThen_ok]; exact h9 t w) h10
theorem g_str (c : Ctx P base ρ st w nt tm a) {op : BinOp} {t u : TypeId} {x y : Operand} {x' y' : X} {f : G2} (ho : o.op = .binOp op t x y u) (hx : compX P x = some x') (hy : compX P y = some y')
    (hf : ∀ (m n : List UInt8) (r : V), f m n = some r → ∃ v', (∀ w, (Op.stringOp op ⟨⟨m⟩⟩ ⟨⟨n⟩⟩).run P w = .ok v' w) ∧ VR ρ st.next r v') (hop : op ≠ .shl ∧ op ≠ .shr) (h : iStr f x' y' tm st = some v) : Gives P ρ st.next w a o v := by
  obtain ⟨m, hv, h1⟩ := onStr_some h
  obtain ⟨n, hv', h2⟩ := onStr_some h1
  have h5 := c.opd hx
  have h6 := c.opd hy
  rw [hv] at h5
  rw [hv'] at h6
  have h7 := h5.str_inv
  have h8 := h6.str_inv
  obtain ⟨v', h9, h10⟩ := hf m n v h2
  refine gives (s := do eqGuard op t x y (a.eval x) (a.eval y); binOp op t (a.eval x) (a.eval y)) (by simp [execOp, ho]) ?_ h10
  unfold Hands
  rw [h7, h8]
  have hg : (eqGuard op t x y (.string ⟨⟨m⟩⟩) (.string ⟨⟨n⟩⟩)).run P w = .ok () w := by unfold eqGuard; split <;> rfl
  simp only [Sem.run_bind, hg, Result.andThen_ok]
  cases op <;> exact h9 w
theorem str_toList (m : List UInt8) : (⟨⟨m⟩⟩ : ByteArray).toList = m := by
  have : ∀ (b : ByteArray), b.toList = b.data.toList := fun b => by
    have key : ∀ (n i : Nat) (r : List UInt8), n = b.size - i → i ≤ b.size → ByteArray.toList.loop b i r = r.reverse ++ b.data.toList.drop i := by
      intro n
      induction n with
      | zero =>
        intro i r hn hi
        unfold ByteArray.toList.loop
        rw [if_neg (by omega)]
        have : b.data.toList.drop i = [] := by rw [List.drop_eq_nil_iff]; show b.data.toList.length ≤ i; have : b.size = b.data.toList.length := rfl; omega
        simp [this]
      | succ n ih =>
        intro i r hn hi
        have hlt : i < b.size := by omega
        unfold ByteArray.toList.loop
        rw [if_pos hlt, ih (i + 1) _ (by omega) (by omega)]
        have hl : i < b.data.toList.length := hlt
        rw [List.drop_eq_getElem_cons hl]
        have : b.get! i = b.data.toList[i] := by
          show b.data[i]! = _
          rw [getElem!_pos b.data i hlt]; simp
        simp [this]
    have := key (b.size - 0) 0 [] rfl (by omega)
    simpa [ByteArray.toList] using this
  exact this _
theorem bytesLess_eq : ∀ (m n : List UInt8), Op.bytesLess m n = ltS m n
  | _, [] => by rename_i m; cases m <;> rfl
  | [], _ :: _ => rfl
  | x :: m, y :: n => by
    show (x < y || (x == y && Op.bytesLess m n)) = (bif Nat.blt x.toNat y.toNat then true else bif eqB x y then ltS m n else false)
    rw [bytesLess_eq m n, eqB_iff]
    have h1 : Nat.blt x.toNat y.toNat = decide (x < y) := by
      rw [Bool.eq_iff_iff, blt_iff]; simp [UInt8.lt_iff_toNat_lt]
    rw [h1]
    by_cases h2 : x < y
    · simp [h2]
    · by_cases h3 : x = y
      · subst h3; simp
      · simp [h2, h3]

theorem str_eq_iff (m n : List UInt8) : ((⟨⟨m⟩⟩ : ByteArray).toList == (⟨⟨n⟩⟩ : ByteArray).toList) = eqS m n := by
  rw [str_toList, str_toList, eqS_eq]
  by_cases h : m = n <;> simp [h]
theorem str_lt_iff (m n : List UInt8) : Op.bytesLess (⟨⟨m⟩⟩ : ByteArray).toList (⟨⟨n⟩⟩ : ByteArray).toList = ltS m n := by
  rw [str_toList, str_toList, bytesLess_eq]
/-- Texts put one behind the other. -/
theorem str_append (m n : List UInt8) : (⟨⟨m⟩⟩ : ByteArray) ++ ⟨⟨n⟩⟩ = ⟨⟨m ++ n⟩⟩ := by
  apply ByteArray.ext
  simp
theorem ltS_irrefl_trans : ∀ (m n : List UInt8), ltS m n = false → ltS n m = false → m = n
  | [], [], _, _ => rfl
  | [], _ :: _, h, _ => by simp [ltS] at h
  | _ :: _, [], _, h => by simp [ltS] at h
  | x :: m, y :: n, h, h' => by
    have e1 : ltS (x :: m) (y :: n) = (bif Nat.blt x.toNat y.toNat then true else bif eqB x y then ltS m n else false) := rfl
    have e2 : ltS (y :: n) (x :: m) = (bif Nat.blt y.toNat x.toNat then true else bif eqB y x then ltS n m else false) := rfl
    rw [e1] at h
    rw [e2] at h'
    cases h1 : Nat.blt x.toNat y.toNat with
    | true => rw [h1] at h; exact nomatch h
    | false =>
      cases h2 : Nat.blt y.toNat x.toNat with
      | true => rw [h2] at h'; exact nomatch h'
      | false =>
        have e : x.toNat = y.toNat := by
          have a1 : ¬ x.toNat < y.toNat := fun h => by rw [blt_iff.2 h] at h1; exact nomatch h1
          have a2 : ¬ y.toNat < x.toNat := fun h => by rw [blt_iff.2 h] at h2; exact nomatch h2
          omega
        have e' : x = y := UInt8.toNat_inj.1 e
        subst e'
        rw [h1] at h h'
        have hb : eqB x x = true := by rw [eqB_iff]; simp
        rw [hb] at h h'
        rw [ltS_irrefl_trans m n h h']
theorem ltS_lt : ∀ (m n : List UInt8), ltS m n = true → ltS n m = false ∧ m ≠ n
  | _, [], h => by rename_i m; cases m <;> simp [ltS] at h
  | [], _ :: _, _ => ⟨rfl, by simp⟩
  | x :: m, y :: n, h => by
    have e1 : ltS (x :: m) (y :: n) = (bif Nat.blt x.toNat y.toNat then true else bif eqB x y then ltS m n else false) := rfl
    have e2 : ltS (y :: n) (x :: m) = (bif Nat.blt y.toNat x.toNat then true else bif eqB y x then ltS n m else false) := rfl
    rw [e1] at h
    rw [e2]
    cases h1 : Nat.blt x.toNat y.toNat with
    | true =>
      have a1 := blt_iff.1 h1
      have h2 : Nat.blt y.toNat x.toNat = false := by
        cases hb : Nat.blt y.toNat x.toNat with
        | true => have := blt_iff.1 hb; omega
        | false => rfl
      have hb : eqB y x = false := by rw [eqB_iff]; simp; intro e; subst e; omega
      rw [h2, hb]
      exact ⟨rfl, fun e => by injection e with e _; subst e; omega⟩
    | false =>
      rw [h1] at h
      obtain ⟨h3, h4⟩ := bif_none (α := Unit) (r := ()) (b := eqB x y) (x := if ltS m n = true then some () else none) (by cases hb : eqB x y <;> rw [hb] at h <;> simp at h ⊢; exact h)
      rw [eqB_iff] at h3
      have e : x = y := by simpa using h3
      subst e
      have h5 : ltS m n = true := by
        by_cases hl : ltS m n = true
        · exact hl
        · rw [if_neg hl] at h4; exact nomatch h4
      obtain ⟨h6, h7⟩ := ltS_lt m n h5
      rw [h1, h6]
      exact ⟨by cases eqB x x <;> rfl, fun e => h7 (by injection e)⟩
theorem str_add (m n : List UInt8) (r : V) (h : sAdd m n = some r) (k : Nat) : ∃ v', (∀ w, (Op.stringOp .add ⟨⟨m⟩⟩ ⟨⟨n⟩⟩).run P w = .ok v' w) ∧ VR ρ k r v' := by
  obtain ⟨h1, h2⟩ := brec_none h
  simp only [lenL_eq] at h1
  have h3 := ble_iff.1 h1
  refine ⟨.string ⟨⟨m ++ n⟩⟩, fun w => ?_, ?_⟩
  · have hs : ¬ (((⟨⟨m⟩⟩ : ByteArray).size + (⟨⟨n⟩⟩ : ByteArray).size : Nat) : Int) > IntKind.i64.max := by
      show ¬ ((m.length + n.length : Nat) : Int) > 9223372036854775807
      have : m.length + n.length ≤ 9223372036854775807 := h3
      omega
    simp only [Op.stringOp, hs, if_false, Sem.run_pure, str_append]
  · rw [← Option.some.inj h2, appL_eq]; exact .str_mk _
theorem str_bool {op : BinOp} (m n : List UInt8) (b : Bool) (k : Nat) (h : ∀ w, (Op.stringOp op ⟨⟨m⟩⟩ ⟨⟨n⟩⟩).run P w = .ok (.bool b) w) :
    ∃ v', (∀ w, (Op.stringOp op ⟨⟨m⟩⟩ ⟨⟨n⟩⟩).run P w = .ok v' w) ∧ VR ρ k (.bool b) v' := ⟨_, h, .bool b⟩
theorem leq_eq (m n : List UInt8) : (ltS m n || eqS m n) = !ltS n m := by
  rw [eqS_eq]
  cases h : ltS m n with
  | true => rw [(ltS_lt m n h).1]; rfl
  | false =>
    cases h' : ltS n m with
    | true => rw [decide_eq_false (fun e => (ltS_lt n m h').2 e.symm)]; rfl
    | false => rw [decide_eq_true (ltS_irrefl_trans m n h h')]; rfl
theorem str_rest {op : BinOp} {f : G2} (hf : (op = .eql ∧ f = sEql) ∨ (op = .neq ∧ f = sNeq) ∨ (op = .lss ∧ f = sLss) ∨ (op = .leq ∧ f = sLeq) ∨ (op = .gtr ∧ f = sGtr) ∨ (op = .geq ∧ f = sGeq))
    (m n : List UInt8) (r : V) (h : f m n = some r) (k : Nat) : ∃ v', (∀ w, (Op.stringOp op ⟨⟨m⟩⟩ ⟨⟨n⟩⟩).run P w = .ok v' w) ∧ VR ρ k r v' := by
  rcases hf with ⟨rfl, rfl⟩ | ⟨rfl, rfl⟩ | ⟨rfl, rfl⟩ | ⟨rfl, rfl⟩ | ⟨rfl, rfl⟩ | ⟨rfl, rfl⟩ <;> obtain rfl := Option.some.inj h <;> refine str_bool m n _ k fun w => ?_ <;>
    simp only [Op.stringOp, Sem.run_pure, str_eq_iff, str_lt_iff, leq_eq, Bool.not_not]
theorem eqIn_bool {t : TypeId} (ht : P.underlying t = some .bool) (d : Nat) (m n : Bool) : (Op.equalIn (d + 1) t (.bool m) (.bool n)).run P w = .ok (m == n) w := by
  unfold Op.equalIn
  simp only [Sem.run_bind, run_und ht, Result.andThen_ok]
  rfl
theorem g_boo (c : Ctx P base ρ st w nt tm a) {op : BinOp} {t u : TypeId} {x y : Operand} {x' y' : X} {f : Bool → Bool → Bool} (ht : P.underlying t = some .bool) (ho : o.op = .binOp op t x y u) (hx : compX P x = some x') (hy : compX P y = some y')
    (hf : (op = .eql ∧ f = fun a b => a == b) ∨ (op = .neq ∧ f = fun a b => a != b)) (h : iBoo f x' y' tm st = some v) : Gives P ρ st.next w a o v := by
  obtain ⟨m, hv, h1⟩ := onBool_some h
  obtain ⟨n, hv', h2⟩ := onBool_some h1
  have h5 := c.opd hx
  have h6 := c.opd hy
  rw [hv] at h5
  rw [hv'] at h6
  have h7 := h5.bool_inv
  have h8 := h6.bool_inv
  obtain rfl := Option.some.inj h2
  refine gives (s := do eqGuard op t x y (a.eval x) (a.eval y); binOp op t (a.eval x) (a.eval y)) (by simp [execOp, ho]) (v' := .bool (f m n)) ?_ (.bool _)
  unfold Hands
  rw [h7, h8]
  have hg : (eqGuard op t x y (.bool m) (.bool n)).run P w = .ok () w := by unfold eqGuard; split <;> rfl
  simp only [Sem.run_bind, hg, Result.andThen_ok]
  have he : (Op.equal t (.bool m) (.bool n)).run P w = .ok (m == n) w := eqIn_bool ht 9999 m n
  rcases hf with ⟨rfl, rfl⟩ | ⟨rfl, rfl⟩
  · show ((do pure (Value.bool (← Op.equal t (.bool m) (.bool n))) : Sem Value)).run P w = _
    simp only [Sem.run_bind, he]; rfl
  · show ((do pure (Value.bool (!(← Op.equal t (.bool m) (.bool n)))) : Sem Value)).run P w = _
    simp only [Sem.run_bind, he]; rfl
end ops
end Go.Proofs.YtjdbcfnlehedmaaGreatDoor.Av
