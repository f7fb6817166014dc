/-
  OPERATIONS OF ONE AND TWO: numbers, texts, truths, and what is nil.
-/
import Derived.Test.YtjdbcfnlehedmaaGreatDoorAvPure
import Derived.IntWalk
namespace Go.Proofs.YtjdbcfnlehedmaaGreatDoor.Av
set_option linter.unusedVariables false
set_option linter.unusedSimpArgs false
open Go Go.RowKit

theorem wrap_neg (k : IntKind) (m : Nat) (h : m < Nat.pow 2 (codeK k)) (h2 : Nat.mod (codeK k) 2 = 1) : k.wrap (.negSucc m) = .negSucc m := by
  rw [Int.negSucc_eq]
  cases k with
  | i8 => have h' : m < 128 := h; exact IntWalk.i8_in _ (by omega)
  | i16 => have h' : m < 32768 := h; exact IntWalk.i16_in _ (by omega)
  | i32 => have h' : m < 2147483648 := h; exact IntWalk.i32_in _ (by omega)
  | i64 => have h' : m < 9223372036854775808 := h; exact IntWalk.i64_in _ (by omega)
  | _ => exact absurd h2 (by decide)
theorem wrapC_eq (k : IntKind) (n : Int) : wrapC (codeK k) n = k.wrap n := by
  unfold wrapC
  cases n with
  | ofNat m =>
    show (Bool.rec ((kindC (codeK k)).wrap (.ofNat m)) (.ofNat m) (Nat.blt m (Nat.pow 2 (codeK k))) : Int) = _
    rw [kindC_codeK]
    cases hb : Nat.blt m (Nat.pow 2 (codeK k)) with
    | false => rfl
    | true =>
      have h := blt_iff.1 hb
      show Int.ofNat m = _
      cases k <;> simp [codeK, IntKind.wrap, IntKind.bits, IntKind.signed] at h ⊢ <;> omega
  | negSucc m =>
    show (Bool.rec ((kindC (codeK k)).wrap (.negSucc m)) (Bool.rec ((kindC (codeK k)).wrap (.negSucc m)) (.negSucc m) (Nat.blt m (Nat.pow 2 (codeK k)))) (Nat.beq (Nat.mod (codeK k) 2) 1) : Int) = _
    rw [kindC_codeK]
    cases h2 : Nat.beq (Nat.mod (codeK k) 2) 1 with
    | false => rfl
    | true =>
      cases hb : Nat.blt m (Nat.pow 2 (codeK k)) with
      | false => rfl
      | true =>
        have h := blt_iff.1 hb
        exact (wrap_neg k m h (beq_iff.1 h2)).symm
/-- What of two numbers is below the bound of a kind is as it is. -/
theorem wrap_small (k : IntKind) (m : Nat) (h : m < 2 ^ codeK k) : k.wrap (m : Int) = m := by
  cases k <;> simp [codeK, IntKind.wrap, IntKind.bits, IntKind.signed] at h ⊢ <;> omega
theorem code_le (k : IntKind) : 2 ^ codeK k ≤ 2 ^ k.bits := Nat.pow_le_pow_right (by omega) (by cases k <;> decide)
theorem and_small (k : IntKind) (a b : Nat) (ha : a < 2 ^ codeK k) (hb : b < 2 ^ codeK k) :
    k.wrap ((BitVec.ofInt k.bits (a : Int) &&& BitVec.ofInt k.bits (b : Int)).toNat : Int) = ((a &&& b : Nat) : Int) := by
  have h1 : a < 2 ^ k.bits := Nat.lt_of_lt_of_le ha (code_le k)
  have h2 : b < 2 ^ k.bits := Nat.lt_of_lt_of_le hb (code_le k)
  rw [BitVec.toNat_and, BitVec.ofInt_natCast, BitVec.ofInt_natCast, BitVec.toNat_ofNat, BitVec.toNat_ofNat, Nat.mod_eq_of_lt h1, Nat.mod_eq_of_lt h2]
  exact wrap_small k _ (Nat.lt_of_le_of_lt Nat.and_le_left ha)
theorem or_small (k : IntKind) (a b : Nat) (ha : a < 2 ^ codeK k) (hb : b < 2 ^ codeK k) :
    k.wrap ((BitVec.ofInt k.bits (a : Int) ||| BitVec.ofInt k.bits (b : Int)).toNat : Int) = ((a ||| b : Nat) : Int) := by
  have h1 : a < 2 ^ k.bits := Nat.lt_of_lt_of_le ha (code_le k)
  have h2 : b < 2 ^ k.bits := Nat.lt_of_lt_of_le hb (code_le k)
  rw [BitVec.toNat_or, BitVec.ofInt_natCast, BitVec.ofInt_natCast, BitVec.toNat_ofNat, BitVec.toNat_ofNat, Nat.mod_eq_of_lt h1, Nat.mod_eq_of_lt h2]
  exact wrap_small k _ (Nat.or_lt_two_pow ha hb)

/-- What two numbers of one kind come to, in the model. -/
def Two (P : Program) (op : BinOp) (k : IntKind) (a b : Int) (v : V) : Prop :=
  ∀ (ρ : Map) (n : Nat), ∃ v', (∀ t w, (binOp op t (.int k a) (.int k b)).run P w = .ok v' w) ∧ VR ρ n v v'
section two
variable {P : Program} {k : IntKind} {a b : Int} {v : V}
theorem two_int {op : BinOp} (r : Int) (h : v = .int (codeK k) r) (hr : ∀ t w, (binOp op t (.int k a) (.int k b)).run P w = .ok (.int k r) w) : Two P op k a b v :=
  fun ρ n => ⟨_, hr, by rw [h]; exact .int k r⟩
theorem two_bool {op : BinOp} (r : Bool) (h : v = .bool r) (hr : ∀ t w, (binOp op t (.int k a) (.int k b)).run P w = .ok (.bool r) w) : Two P op k a b v :=
  fun ρ n => ⟨_, hr, by rw [h]; exact .bool r⟩
theorem two_add (h : fAdd (codeK k) a b = some v) : Two P .add k a b v :=
  two_int _ (Option.some.inj h).symm fun t w => by show _ = Result.ok (Value.int k (wrapC (codeK k) (a + b))) w; rw [wrapC_eq]; simp [binOp, Op.intArith]
theorem two_sub (h : fSub (codeK k) a b = some v) : Two P .sub k a b v :=
  two_int _ (Option.some.inj h).symm fun t w => by show _ = Result.ok (Value.int k (wrapC (codeK k) (a - b))) w; rw [wrapC_eq]; simp [binOp, Op.intArith]
theorem two_mul (h : fMul (codeK k) a b = some v) : Two P .mul k a b v :=
  two_int _ (Option.some.inj h).symm fun t w => by show _ = Result.ok (Value.int k (wrapC (codeK k) (a * b))) w; rw [wrapC_eq]; simp [binOp, Op.intArith]
theorem brec_some {α : Type} {c : Bool} {x : Option α} {r : α} (h : (Bool.rec x none c : Option α) = some r) : c = false ∧ x = some r := by
  cases c
  · exact ⟨rfl, h⟩
  · exact nomatch h
theorem two_quo (h : fQuo (codeK k) a b = some v) : Two P .quo k a b v := by
  obtain ⟨h1, h2⟩ := brec_some h
  rw [eqI_eq] at h1
  have h0 : ¬ b = 0 := by simpa using h1
  exact two_int _ (Option.some.inj h2).symm fun t w => by
    show _ = Result.ok (Value.int k (wrapC (codeK k) (a.tdiv b))) w
    rw [wrapC_eq]; simp [binOp, Op.intDiv, h0]
theorem two_rem (h : fRem (codeK k) a b = some v) : Two P .rem k a b v := by
  obtain ⟨h1, h2⟩ := brec_some h
  rw [eqI_eq] at h1
  have h0 : ¬ b = 0 := by simpa using h1
  exact two_int _ (Option.some.inj h2).symm fun t w => by
    show _ = Result.ok (Value.int k (a.tmod b)) w
    simp [binOp, Op.intDiv, h0]
theorem two_eql (h : fEql (codeK k) a b = some v) : Two P .eql k a b v :=
  two_bool _ (Option.some.inj h).symm fun t w => by rw [eqI_eq]; simp [binOp, Op.intCmp]; rfl
theorem two_neq (h : fNeq (codeK k) a b = some v) : Two P .neq k a b v :=
  two_bool _ (Option.some.inj h).symm fun t w => by rw [eqI_eq]; simp [binOp, Op.intCmp]; rfl
theorem two_lss (h : fLss (codeK k) a b = some v) : Two P .lss k a b v :=
  two_bool _ (Option.some.inj h).symm fun t w => by rw [ltI_eq]; simp [binOp, Op.intCmp]
theorem two_leq (h : fLeq (codeK k) a b = some v) : Two P .leq k a b v :=
  two_bool _ (Option.some.inj h).symm fun t w => by
    rw [ltI_eq]; simp only [binOp, Op.intCmp, ne_eq, not_true, if_false, Sem.run_pure]
    congr 2; rw [Bool.eq_iff_iff]; simp
theorem two_gtr (h : fGtr (codeK k) a b = some v) : Two P .gtr k a b v :=
  two_bool _ (Option.some.inj h).symm fun t w => by rw [ltI_eq]; simp [binOp, Op.intCmp]
theorem two_geq (h : fGeq (codeK k) a b = some v) : Two P .geq k a b v :=
  two_bool _ (Option.some.inj h).symm fun t w => by
    rw [ltI_eq]; simp only [binOp, Op.intCmp, ne_eq, not_true, if_false, Sem.run_pure]
    congr 2; rw [Bool.eq_iff_iff]; simp
theorem bits_and (h : bitsI .and (codeK k) a b = some v) : Two P .and k a b v :=
  two_int _ (Option.some.inj h).symm fun t w => by rw [kindC_codeK]; simp [binOp, Op.intBits]
theorem bits_or (h : bitsI .or (codeK k) a b = some v) : Two P .or k a b v :=
  two_int _ (Option.some.inj h).symm fun t w => by rw [kindC_codeK]; simp [binOp, Op.intBits]
theorem two_xor (h : fXor (codeK k) a b = some v) : Two P .xor k a b v :=
  two_int _ (Option.some.inj h).symm fun t w => by rw [kindC_codeK]; simp [binOp, Op.intBits]
theorem two_andNot (h : fAndNot (codeK k) a b = some v) : Two P .andNot k a b v :=
  two_int _ (Option.some.inj h).symm fun t w => by rw [kindC_codeK]; simp [binOp, Op.intBits]
theorem two_and (h : fAnd (codeK k) a b = some v) : Two P .and k a b v := by
  cases a with
  | negSucc m => exact bits_and h
  | ofNat m => cases b with
    | negSucc l => exact bits_and h
    | ofNat l =>
      have h' : (Bool.rec (bitsI .and (codeK k) m l) (Bool.rec (bitsI .and (codeK k) m l) (some (.int (codeK k) (.ofNat (Nat.land m l)))) (Nat.blt l (Nat.pow 2 (codeK k)))) (Nat.blt m (Nat.pow 2 (codeK k))) : Option V) = some v := h
      cases h1 : Nat.blt m (Nat.pow 2 (codeK k)) with
      | false => rw [h1] at h'; exact bits_and h'
      | true =>
        cases h2 : Nat.blt l (Nat.pow 2 (codeK k)) with
        | false => rw [h1, h2] at h'; exact bits_and h'
        | true =>
          rw [h1, h2] at h'
          refine two_int _ (Option.some.inj h').symm fun t w => ?_
          have := and_small k m l (blt_iff.1 h1) (blt_iff.1 h2)
          show _ = Result.ok (Value.int k ((m &&& l : Nat) : Int)) w
          rw [← this]
          simp [binOp, Op.intBits]
theorem two_or (h : fOr (codeK k) a b = some v) : Two P .or k a b v := by
  cases a with
  | negSucc m => exact bits_or h
  | ofNat m => cases b with
    | negSucc l => exact bits_or h
    | ofNat l =>
      have h' : (Bool.rec (bitsI .or (codeK k) m l) (Bool.rec (bitsI .or (codeK k) m l) (some (.int (codeK k) (.ofNat (Nat.lor m l)))) (Nat.blt l (Nat.pow 2 (codeK k)))) (Nat.blt m (Nat.pow 2 (codeK k))) : Option V) = some v := h
      cases h1 : Nat.blt m (Nat.pow 2 (codeK k)) with
      | false => rw [h1] at h'; exact bits_or h'
      | true =>
        cases h2 : Nat.blt l (Nat.pow 2 (codeK k)) with
        | false => rw [h1, h2] at h'; exact bits_or h'
        | true =>
          rw [h1, h2] at h'
          refine two_int _ (Option.some.inj h').symm fun t w => ?_
          have := or_small k m l (blt_iff.1 h1) (blt_iff.1 h2)
          show _ = Result.ok (Value.int k ((m ||| l : Nat) : Int)) w
          rw [← this]
          simp [binOp, Op.intBits]
end two
section shifts
variable {P : Program} {k j : IntKind} {a b : Int} {v : V}
theorem two_shl (h : fShl (codeK k) a b = some v) (ρ : Map) (n : Nat) : ∃ v', (∀ t w, (binOp .shl t (.int k a) (.int j b)).run P w = .ok v' w) ∧ VR ρ n v v' := by
  cases b with
  | negSucc m => exact nomatch h
  | ofNat m =>
    refine ⟨.int k (k.wrap (a * ((2 ^ min m k.bits : Nat) : Int))), fun t w => ?_, ?_⟩
    · simp [binOp, Op.shift, show ¬ ((m : Int) < 0) from by omega]
    · obtain rfl := (Option.some.inj h).symm
      rw [kindC_codeK, wrapC_eq]
      exact .int k _
theorem two_shr (h : fShr (codeK k) a b = some v) (ρ : Map) (n : Nat) : ∃ v', (∀ t w, (binOp .shr t (.int k a) (.int j b)).run P w = .ok v' w) ∧ VR ρ n v v' := by
  cases b with
  | negSucc m => exact nomatch h
  | ofNat m =>
    refine ⟨.int k (a.fdiv ((2 ^ min m k.bits : Nat) : Int)), fun t w => ?_, ?_⟩
    · simp [binOp, Op.shift, show ¬ ((m : Int) < 0) from by omega]
    · obtain rfl := (Option.some.inj h).symm
      rw [kindC_codeK]
      exact .int k _
end shifts
end Go.Proofs.YtjdbcfnlehedmaaGreatDoor.Av
