/-
  WORDS OF DIGITS: what lex.All answers of them (plain Lean, no program in sight).
-/
import Derived.Test.YtnebopkgnkemiaaGreatDoorAllC
namespace Go.Proofs.YtnebopkgnkemiaaGreatDoor.Av
set_option linter.unusedVariables false
set_option linter.unusedSimpArgs false
set_option maxRecDepth 1000000
open Go
def isDig (c : UInt8) : Prop := 48 ≤ c.toNat ∧ c.toNat ≤ 57
theorem ofNat_self (c : UInt8) : UInt8.ofNat c.toNat = c := by simp
theorem dec1 {c : UInt8} (h : c.toNat < 128) (t : List UInt8) : Lib.decodeL (c :: t) = (c.toNat, 1) := by
  have hv : VRune c.toNat := by unfold VRune; omega
  have := dec_enc hv t
  rw [enc1 h, ofNat_self] at this
  exact this
theorem bad1 {c : UInt8} (h : c.toNat < 128) (t : List UInt8) : badB (c :: t) = false := by
  unfold badB
  rw [dec1 h]
  have : Nat.beq c.toNat 65533 = false := beqF (by omega)
  simp only [this, Bool.false_and]
theorem fst_stop {p : Nat → Bool} {c : UInt8} (h : c.toNat < 128) (hp : p c.toNat = false) (t : List UInt8) (f : Nat) : fstN p f (c :: t) = 0 := by
  cases f with
  | zero => rfl
  | succ f =>
    unfold fstN
    rw [if_neg (by simp), if_pos (by rw [dec1 h, hp]; simp)]
theorem fst_go {p : Nat → Bool} {c : UInt8} (h : c.toNat < 128) (hp : p c.toNat = true) (t : List UInt8) (f : Nat) : fstN p (f + 1) (c :: t) = 1 + fstN p f t := by
  show (if c :: t = [] then 0 else if (badB (c :: t) || !p (Lib.decodeL (c :: t)).1) = true then 0 else (Lib.decodeL (c :: t)).2 + fstN p f ((c :: t).drop (Lib.decodeL (c :: t)).2)) = _
  rw [if_neg (by simp), if_neg (by rw [dec1 h, bad1 h]; simp [hp]), dec1 h]
  rfl
theorem digT {c : UInt8} (h : isDig c) : digitG c.toNat = true := by
  unfold digitG; rw [bleT h.1, bleT h.2]; rfl
theorem digL {c : UInt8} (h : isDig c) : letterG c.toNat = false := by
  obtain ⟨h1, h2⟩ := h
  unfold letterG
  rw [bleF (show ¬ 97 ≤ c.toNat by omega), bleF (show ¬ 128 ≤ c.toNat by omega), beqF (show c.toNat ≠ 95 by omega)]
  by_cases h65 : 65 ≤ c.toNat
  · omega
  · rw [bleF h65]; rfl
theorem fst_digs : ∀ (s : List UInt8) (f : Nat), (∀ c ∈ s, isDig c) → s.length ≤ f → fstN digitG f s = s.length
  | [], f, _, _ => by
    cases f with
    | zero => rfl
    | succ f => unfold fstN; rw [if_pos rfl]; rfl
  | c :: s, 0, _, h => by simp at h
  | c :: s, f + 1, hd, hf => by
    have hc := hd c (List.mem_cons_self ..)
    rw [fst_go (by have := hc.2; omega) (digT hc), fst_digs s f (fun x hx => hd x (List.mem_cons_of_mem _ hx)) (by simp at hf; omega), List.length_cons, Nat.add_comm]
theorem sp_dig {c : UInt8} (h : isDig c) : spN c.toNat = false := by
  obtain ⟨h1, h2⟩ := h
  unfold spN
  rw [beqF (show c.toNat ≠ 32 by omega), beqF (show c.toNat ≠ 10 by omega), beqF (show c.toNat ≠ 9 by omega), beqF (show c.toNat ≠ 13 by omega)]
  rfl
theorem all_digs {s : List UInt8} (hs : s ≠ []) (hd : ∀ c ∈ s, isDig c) : allL (s.length + 1) s 0 = match numOf s with
    | some v => (some [⟨2, s, v, 0⟩], s.length)
    | none => (none, 0) := by
  obtain ⟨c, t, rfl⟩ := List.exists_cons_of_ne_nil hs
  have hc := hd c (List.mem_cons_self ..)
  have h128 : c.toNat < 128 := by have := hc.2; omega
  have e1 : dropSp (c :: t) = c :: t := by rw [dropSp_cons, sp_dig hc, cond_false]
  have e2 : Nat.blt 0 (firstL letterG (c :: t)) = false := by
    unfold firstL
    rw [fst_stop h128 (digL hc)]; rfl
  have e3 : firstL digitG (c :: t) = (c :: t).length := fst_digs _ _ hd (Nat.le_refl _)
  have e4 : Nat.blt 0 (firstL digitG (c :: t)) = true := by rw [e3]; exact blt_iff.2 (Nat.succ_pos _)
  have e5 : nextT (c :: t) = c :: t := by
    unfold nextT
    rw [e2, e4, cond_false, cond_true, e3, List.take_length]
  have e6 : nextK (c :: t) = 2 := by
    unfold nextK
    rw [e2, e4, cond_false, cond_true]
  have e7 : nextN (c :: t) = (numOf (c :: t)).getD 0 := by
    unfold nextN
    rw [e2, e4, cond_false, cond_true, e5]
  have e8 : nextB (c :: t) = (numOf (c :: t)).isSome := by
    unfold nextB
    rw [e2, e4, cond_false, cond_true, e5]
  have hlen : (c :: t).length = t.length + 1 := rfl
  show (if dropSp (c :: t) = [] then (some [], 0 + (c :: t).length)
    else if nextB (dropSp (c :: t)) = true then
      ((allL (c :: t).length ((dropSp (c :: t)).drop (nextT (dropSp (c :: t))).length) (0 + ((c :: t).length - (dropSp (c :: t)).length) + (nextT (dropSp (c :: t))).length)).1.map fun ts => ⟨nextK (dropSp (c :: t)), nextT (dropSp (c :: t)), nextN (dropSp (c :: t)), 0 + ((c :: t).length - (dropSp (c :: t)).length)⟩ :: ts,
        (allL (c :: t).length ((dropSp (c :: t)).drop (nextT (dropSp (c :: t))).length) (0 + ((c :: t).length - (dropSp (c :: t)).length) + (nextT (dropSp (c :: t))).length)).2)
    else (none, 0 + ((c :: t).length - (dropSp (c :: t)).length))) = _
  rw [e1, if_neg hs, e5, e6, e7, e8, List.drop_length, Nat.sub_self, Nat.add_zero, Nat.zero_add]
  have hz : allL (c :: t).length [] (c :: t).length = (some [], (c :: t).length) := by
    rw [hlen]
    show (if dropSp [] = [] then (some [], (t.length + 1) + ([] : List UInt8).length) else _) = _
    rw [if_pos (show dropSp [] = [] from rfl)]; rfl
  rw [hz]
  cases numOf (c :: t) with
  | none => rfl
  | some v => rfl
theorem digits_eq (m : Nat) : Lib.decDigits m = if m < 10 then [UInt8.ofNat (48 + m)] else Lib.decDigits (m / 10) ++ [UInt8.ofNat (48 + m % 10)] := by
  rw [Lib.decDigits]
  split <;> rfl
theorem dig_ofNat {d : Nat} (h : d < 10) : (UInt8.ofNat (48 + d)).toNat = 48 + d := by simp; omega
theorem digits_dig (m : Nat) : ∀ c ∈ Lib.decDigits m, isDig c := by
  induction m using Nat.strongRecOn with
  | _ m ih =>
    intro c hc
    rw [digits_eq] at hc
    split at hc
    · rename_i h
      rw [List.mem_singleton] at hc
      subst hc
      unfold isDig
      rw [dig_ofNat h]; omega
    · rename_i h
      rcases List.mem_append.1 hc with hc | hc
      · exact ih (m / 10) (by omega) c hc
      · rw [List.mem_singleton] at hc
        subst hc
        have : m % 10 < 10 := Nat.mod_lt _ (by decide)
        unfold isDig
        rw [dig_ofNat this]; omega
theorem digits_ne (m : Nat) : Lib.decDigits m ≠ [] := by
  rw [digits_eq]
  split <;> simp
theorem digits_len : ∀ (k m : Nat), m < 10 ^ (k + 1) → (Lib.decDigits m).length ≤ k + 1
  | 0, m, h => by rw [digits_eq, if_pos (by simpa using h)]; simp
  | k + 1, m, h => by
    rw [digits_eq]
    split
    · simp
    · rw [List.length_append, List.length_singleton]
      have := digits_len k (m / 10) (by rw [Nat.pow_succ] at h; omega)
      omega
theorem digits_len20 {m : Nat} (h : m < 18446744073709551616) : (Lib.decDigits m).length ≤ 20 := digits_len 19 m (by omega)
theorem uint_snoc (M : Nat) : ∀ (l : List UInt8) (acc : Nat) (c : UInt8), Lib.parseUintM M acc (l ++ [c]) = match Lib.parseUintM M acc l with
    | .ok u => Lib.parseUintM M u [c]
    | .range => .range
    | Lib.NumEnd.syntax => Lib.NumEnd.syntax
  | [], acc, c => rfl
  | d :: l, acc, c => by
    rw [List.cons_append]
    unfold Lib.parseUintM
    split
    · split
      · rfl
      · split
        · rfl
        · exact uint_snoc M l _ c
    · rfl
theorem uint_one {M u d : Nat} (hM : M < 18446744073709551616) (h : u * 10 + d ≤ M) (hd : d < 10) : Lib.parseUintM M u [UInt8.ofNat (48 + d)] = .ok (u * 10 + d) := by
  unfold Lib.parseUintM
  rw [dig_ofNat hd, if_pos (by omega), if_neg (by omega), if_neg (by omega)]
  unfold Lib.parseUintM
  rw [show 48 + d - 48 = d by omega]
theorem uint_digits {M : Nat} (hM : M < 18446744073709551616) (m : Nat) : m ≤ M → Lib.parseUintM M 0 (Lib.decDigits m) = .ok m := by
  induction m using Nat.strongRecOn with
  | _ m ih =>
    intro h
    rw [digits_eq]
    split
    · rename_i h10
      have := uint_one (u := 0) hM (show 0 * 10 + m ≤ M by omega) h10
      rw [this, Nat.zero_mul, Nat.zero_add]
    · rename_i h10
      rw [uint_snoc, ih (m / 10) (by omega) (by omega)]
      show Lib.parseUintM M (m / 10) [UInt8.ofNat (48 + m % 10)] = _
      rw [uint_one hM (by omega) (Nat.mod_lt _ (by decide))]
      congr 1
      omega
theorem int_digits {s : List UInt8} (hs : s ≠ []) (hd : ∀ c ∈ s, isDig c) {m : Nat} (h : Lib.parseUintM 18446744073709551615 0 s = .ok m) : Lib.parseIntB 64 s = if m < 9223372036854775808 then .ok (m : Int) else .range := by
  obtain ⟨c, t, rfl⟩ := List.exists_cons_of_ne_nil hs
  have hc := hd c (List.mem_cons_self ..)
  obtain ⟨h1, h2⟩ := hc
  rw [Lib.parseIntB_plain 64 c t (by omega) (by omega)]
  have hu : Lib.parseUintB 64 (c :: t) = .ok m := by
    unfold Lib.parseUintB
    rw [if_neg (by simp)]
    exact h
  rw [hu]
  show (if 2 ^ (64 - 1) ≤ m then Lib.NumEnd.range else .ok (m : Int)) = _
  rw [show (2 : Nat) ^ (64 - 1) = 9223372036854775808 from rfl]
  split <;> split <;> first | rfl | omega
theorem num_ok {s : List UInt8} {v : Int} (h : Lib.parseIntB 64 s = .ok v) : numOf s = bif eqS (Lib.itoa v) s then some v else none := by
  unfold numOf
  rw [h]
theorem num_range {s : List UInt8} (h : Lib.parseIntB 64 s = .range) : numOf s = none := by
  unfold numOf
  rw [h]
theorem num_digits {m : Nat} (h : m < 18446744073709551616) : numOf (Lib.decDigits m) = if m < 9223372036854775808 then some (m : Int) else none := by
  have hi := int_digits (digits_ne m) (digits_dig m) (uint_digits (M := 18446744073709551615) (by omega) m (by omega))
  by_cases hm : m < 9223372036854775808
  · rw [if_pos hm] at hi ⊢
    rw [num_ok hi, Lib.itoa_nonneg, eqS_eq, decide_eq_true rfl, cond_true]
  · rw [if_neg hm] at hi ⊢
    exact num_range hi
theorem zero_dig (m : Nat) : ∀ c ∈ (48 : UInt8) :: Lib.decDigits m, isDig c := by
  intro c hc
  rcases List.mem_cons.1 hc with rfl | hc
  · exact ⟨by decide, by decide⟩
  · exact digits_dig m c hc
theorem num_zero {m : Nat} (h : m < 18446744073709551616) : numOf (48 :: Lib.decDigits m) = none := by
  have hu : Lib.parseUintM 18446744073709551615 0 (48 :: Lib.decDigits m) = .ok m := by
    have := uint_digits (M := 18446744073709551615) (by omega) m (by omega)
    rw [← this]
    rfl
  have hi := int_digits (by simp) (zero_dig m) hu
  by_cases hm : m < 9223372036854775808
  · rw [if_pos hm] at hi
    rw [num_ok hi, Lib.itoa_nonneg, eqS_eq, decide_eq_false, cond_false]
    intro he
    have := congrArg List.length he
    rw [List.length_cons] at this
    omega
  · rw [if_neg hm] at hi
    exact num_range hi
theorem all_num {m : Nat} (h : m < 18446744073709551616) : allL ((Lib.decDigits m).length + 1) (Lib.decDigits m) 0 = if m < 9223372036854775808 then (some [⟨2, Lib.decDigits m, m, 0⟩], (Lib.decDigits m).length) else (none, 0) := by
  rw [all_digs (digits_ne m) (digits_dig m), num_digits h]
  by_cases hm : m < 9223372036854775808
  · rw [if_pos hm, if_pos hm]
  · rw [if_neg hm, if_neg hm]
theorem all_zero {m : Nat} (h : m < 18446744073709551616) : allL ((48 :: Lib.decDigits m).length + 1) (48 :: Lib.decDigits m) 0 = (none, 0) := by
  rw [all_digs (by simp) (zero_dig m), num_zero h]
end Go.Proofs.YtnebopkgnkemiaaGreatDoor.Av
