/-
  WORDS OF ANY TEXT: what a word is, and where it is found again (plain Lean).
-/
import Derived.Test.YtnebopkgnkemiaaGreatDoorSpaceL
import Derived.Lib.MapLaws
namespace Go.Proofs.YtnebopkgnkemiaaGreatDoor.Av
set_option linter.unusedVariables false
set_option linter.unusedSimpArgs false
set_option maxRecDepth 1000000
open Go
theorem enc_rune {r : Nat} (hv : VRune r) : enc r = Lib.encodeRune (r : Int) := by
  unfold Lib.encodeRune Lib.encodeRuneZ
  rcases hv.cases with h | ⟨h0, h⟩ | ⟨h0, h⟩ | ⟨h0, h⟩
  · rw [enc1 h, if_pos (by omega)]; rfl
  · rw [enc2 h0 h, if_neg (by omega), if_pos (by omega)]
    have e1 : (192 + (r : Int) / 64).toNat = 192 + r / 64 := by omega
    have e2 : (128 + (r : Int) % 64).toNat = 128 + r % 64 := by omega
    simp only [List.map_cons, List.map_nil, e1, e2, Nat.toUInt8]
  · have hv' : r < 55296 ∨ (57344 ≤ r ∧ r ≤ 1114111) := hv
    rw [enc3 hv h0 h, if_neg (by omega), if_neg (by omega), if_pos (by omega)]
    have e1 : (224 + (r : Int) / 4096).toNat = 224 + r / 4096 := by omega
    have e2 : (128 + (r : Int) / 64 % 64).toNat = 128 + r / 64 % 64 := by omega
    have e3 : (128 + (r : Int) % 64).toNat = 128 + r % 64 := by omega
    simp only [List.map_cons, List.map_nil, e1, e2, e3, Nat.toUInt8]
  · rw [enc4 hv h0, if_neg (by omega), if_neg (by omega), if_neg (by omega), if_pos (by omega)]
    have e1 : (240 + (r : Int) / 262144).toNat = 240 + r / 262144 := by omega
    have e2 : (128 + (r : Int) / 4096 % 64).toNat = 128 + r / 4096 % 64 := by omega
    have e3 : (128 + (r : Int) / 64 % 64).toNat = 128 + r / 64 % 64 := by omega
    have e4 : (128 + (r : Int) % 64).toNat = 128 + r % 64 := by omega
    simp only [List.map_cons, List.map_nil, e1, e2, e3, e4, Nat.toUInt8]
theorem enc_fffd : enc 65533 = [239, 191, 189] := by rw [enc3 (by unfold VRune; omega) (by omega) (by omega)]; rfl
theorem enc_back {l : List UInt8} (hne : l ≠ []) (hb : badB l = false) : enc (Lib.decodeL l).1 = l.take (Lib.decodeL l).2 := by
  rw [enc_rune (dec_valid l)]
  refine Lib.encode_decode l hne ?_
  rintro ⟨h1, h2⟩
  unfold badB at hb
  rw [h1, beqT rfl, Bool.true_and, Bool.not_eq_false'] at hb
  rw [isPre_eq, Bool.and_eq_true] at hb
  have ht : l.take 3 = [239, 191, 189] := of_decide_eq_true hb.2
  have hl : enc 65533 ++ l.drop 3 = l := by
    rw [enc_fffd, ← ht]
    exact List.take_append_drop 3 l
  have hd := dec_enc (r := 65533) (by unfold VRune; omega) (l.drop 3)
  rw [hl, enc_fffd] at hd
  rw [hd] at h2
  exact absurd h2 (by decide)
theorem fst_split (p : Nat → Bool) : ∀ (f : Nat) (l : List UInt8), l.length ≤ f → ∃ rs u, l = flatR rs ++ u ∧ (∀ r ∈ rs, VRune r) ∧ rs.all p = true ∧ fstN p f l = (flatR rs).length ∧ (u = [] ∨ (u ≠ [] ∧ (badB u || !p (Lib.decodeL u).1) = true))
  | 0, l, h => by
    obtain rfl : l = [] := List.length_eq_zero_iff.1 (Nat.le_zero.1 h)
    exact ⟨[], [], rfl, (fun r hr => nomatch hr), rfl, rfl, .inl rfl⟩
  | f + 1, l, h => by
    by_cases hl : l = []
    · subst hl
      exact ⟨[], [], rfl, (fun r hr => nomatch hr), rfl, fst_nil p _, .inl rfl⟩
    · have hstep : fstN p (f + 1) l = if l = [] then 0 else if (badB l || !p (Lib.decodeL l).1) = true then 0 else (Lib.decodeL l).2 + fstN p f (l.drop (Lib.decodeL l).2) := rfl
      rw [if_neg hl] at hstep
      cases hs : (badB l || !p (Lib.decodeL l).1) with
      | true =>
        rw [hs, if_pos rfl] at hstep
        exact ⟨[], l, rfl, (fun r hr => nomatch hr), rfl, hstep, .inr ⟨hl, hs⟩⟩
      | false =>
        rw [hs, if_neg (by decide)] at hstep
        rw [Bool.or_eq_false_iff, Bool.not_eq_false'] at hs
        have hw := Lib.decodeL_width l
        have hle := Lib.decodeL_le l hl
        have he := enc_back hl hs.1
        obtain ⟨rs, u, h1, h2, h3, h4, h5⟩ := fst_split p f (l.drop (Lib.decodeL l).2) (by rw [List.length_drop]; omega)
        have hlen : (enc (Lib.decodeL l).1).length = (Lib.decodeL l).2 := by rw [he, List.length_take]; omega
        refine ⟨(Lib.decodeL l).1 :: rs, u, ?_, ?_, ?_, ?_, h5⟩
        · rw [flatR_cons, List.append_assoc, ← h1, he, List.take_append_drop]
        · intro r hr
          rcases List.mem_cons.1 hr with rfl | hr
          · exact dec_valid l
          · exact h2 r hr
        · rw [List.all_cons, hs.2, h3]; rfl
        · rw [hstep, h4, flatR_cons, List.length_append, hlen]
theorem stop_fst {p : Nat → Bool} {u : List UInt8} (h : u = [] ∨ (u ≠ [] ∧ (badB u || !p (Lib.decodeL u).1) = true)) (f : Nat) : fstN p f u = 0 := by
  rcases h with rfl | ⟨h1, h2⟩
  · exact fst_nil p f
  · cases f with
    | zero => rfl
    | succ f =>
      show (if u = [] then 0 else if (badB u || !p (Lib.decodeL u).1) = true then 0 else (Lib.decodeL u).2 + fstN p f (u.drop (Lib.decodeL u).2)) = 0
      rw [if_neg h1, if_pos h2]
def Cl (T : List UInt8) (k v : Int) : Prop :=
  (∃ r rs, T = flatR (r :: rs) ∧ (∀ x ∈ r :: rs, VRune x) ∧ letterG r = true ∧ rs.all bothG = true ∧ (isKeyL T || isNameL T) = true ∧ k = (bif isKeyL T then 4 else 1) ∧ v = 0)
  ∨ (T ≠ [] ∧ (∀ c ∈ T, isDig c) ∧ numOf T = some v ∧ k = 2)
  ∨ (T ∈ signs ∧ k = 3 ∧ v = 0)
def EndsW (k : Int) (T c : List UInt8) : Prop := if k = 2 then ∀ f, fstN digitG f c = 0 else if k = 3 then fstPre (T ++ c) signs = some T else ∀ f, fstN bothG f c = 0
theorem dig_all {T : List UInt8} (h : ∀ c ∈ T, isDig c) : ∃ rs : List Nat, T = flatR rs ∧ (∀ r ∈ rs, VRune r) ∧ rs.all digitG = true := by
  induction T with
  | nil => exact ⟨[], rfl, (fun r hr => nomatch hr), rfl⟩
  | cons c T ih =>
    obtain ⟨rs, h1, h2, h3⟩ := ih fun x hx => h x (List.mem_cons_of_mem _ hx)
    have hc := h c (List.mem_cons_self ..)
    have hlt : c.toNat < 128 := by have := hc.2; omega
    refine ⟨c.toNat :: rs, ?_, ?_, ?_⟩
    · rw [flatR_cons, enc1 hlt, ofNat_self, ← h1]; rfl
    · intro r hr
      rcases List.mem_cons.1 hr with rfl | hr
      · unfold VRune; omega
      · exact h2 r hr
    · rw [List.all_cons, digT hc, h3]; rfl
theorem all_dig {rs : List Nat} (hv : ∀ r ∈ rs, VRune r) (h : rs.all digitG = true) : ∀ c ∈ flatR rs, isDig c := by
  intro c hc
  obtain ⟨r, hr, hc⟩ := List.mem_flatMap.1 hc
  have hd := List.all_eq_true.1 h r hr
  unfold digitG at hd
  rw [Bool.and_eq_true] at hd
  have h1 := ble_iff.1 hd.1
  have h2 := ble_iff.1 hd.2
  rw [enc1 (by omega), List.mem_singleton] at hc
  subst hc
  unfold isDig
  rw [ofNat_toNat (by omega)]
  exact ⟨h1, h2⟩
theorem sign_first : ∀ T ∈ signs, ∃ a t, T = a :: t ∧ a.toNat < 128 ∧ letterG a.toNat = false ∧ digitG a.toNat = false ∧ spN a.toNat = false ∧ isNameL T = false := by
  have key : ∀ (a : UInt8) (t : List UInt8), a.toNat < 128 → letterG a.toNat = false → isNameL (a :: t) = false := fun a t h1 h2 => by
    have hn : nmN (a :: t).length true (a :: t) = false := by
      show (if (a :: t) = [] then true else (letterG (Lib.decodeL (a :: t)).1 || (!true && digitG (Lib.decodeL (a :: t)).1)) && nmN t.length false ((a :: t).drop (Lib.decodeL (a :: t)).2)) = false
      rw [if_neg (by simp), dec1 h1, h2]
      rfl
    unfold isNameL
    rw [hn]
    simp
  intro T hT
  have h : ∃ a t, T = a :: t ∧ a.toNat < 128 ∧ letterG a.toNat = false ∧ digitG a.toNat = false ∧ spN a.toNat = false := by
    unfold signs at hT
    simp only [List.mem_cons, List.not_mem_nil, or_false] at hT
    rcases hT with rfl | rfl | rfl | rfl | rfl | rfl | rfl | rfl | rfl | rfl | rfl | rfl | rfl | rfl | rfl | rfl | rfl | rfl | rfl | rfl | rfl | rfl | rfl | rfl <;> exact ⟨_, _, rfl, by decide, rfl, rfl, rfl⟩
  obtain ⟨a, t, rfl, h1, h2, h3, h4⟩ := h
  exact ⟨a, t, rfl, h1, h2, h3, h4, key a t h1 h2⟩
theorem letter_ns {r : Nat} (h : letterG r = true) : spN r = false := by
  cases hs : spN r with
  | false => rfl
  | true =>
    unfold spN at hs
    have : r = 32 ∨ r = 10 ∨ r = 9 ∨ r = 13 := by
      rcases Bool.or_eq_true _ _ ▸ hs with h | h
      · exact .inl (beq_iff.1 h)
      rcases Bool.or_eq_true _ _ ▸ h with h | h
      · exact .inr (.inl (beq_iff.1 h))
      rcases Bool.or_eq_true _ _ ▸ h with h | h
      · exact .inr (.inr (.inl (beq_iff.1 h)))
      · exact .inr (.inr (.inr (beq_iff.1 h)))
    rcases this with rfl | rfl | rfl | rfl <;> exact nomatch h
theorem word_nm {r : Nat} {rs : List Nat} {c : List UInt8} (hv : ∀ x ∈ r :: rs, VRune x) (h1 : letterG r = true) (h2 : rs.all bothG = true) (hb : (isKeyL (flatR (r :: rs)) || isNameL (flatR (r :: rs))) = true) (he : ∀ f, fstN bothG f c = 0) :
    nextT (flatR (r :: rs) ++ c) = flatR (r :: rs) ∧ nextB (flatR (r :: rs) ++ c) = true ∧ nextK (flatR (r :: rs) ++ c) = (bif isKeyL (flatR (r :: rs)) then 4 else 1) ∧ nextN (flatR (r :: rs) ++ c) = 0 ∧ dropSp (flatR (r :: rs) ++ c) = flatR (r :: rs) ++ c ∧ flatR (r :: rs) ≠ [] := by
  have hr := hv r (List.mem_cons_self ..)
  have hp := enc_pos r
  have e1 : Nat.blt 0 (firstL letterG (flatR (r :: rs) ++ c)) = true := by
    unfold firstL
    have hp' : 0 < (flatR (r :: rs) ++ c).length := List.length_pos_iff.2 fun h => flatR_ne r rs (List.append_eq_nil_iff.1 h).1
    obtain ⟨n, hn⟩ := Nat.exists_eq_add_one.2 hp'
    rw [hn, flatR_cons, List.append_assoc, fst_enc hr h1]
    exact blt_iff.2 (Nat.lt_of_lt_of_le hp (Nat.le_add_right _ _))
  have hall : (r :: rs).all bothG = true := by
    rw [List.all_cons, h2]
    unfold bothG
    rw [h1]; rfl
  have e2 : firstL bothG (flatR (r :: rs) ++ c) = (flatR (r :: rs)).length := fst_app bothG he (r :: rs) _ hv hall (Nat.le_refl _)
  have e3 : nextT (flatR (r :: rs) ++ c) = flatR (r :: rs) := by
    unfold nextT
    rw [e1, cond_true, e2, List.take_left]
  refine ⟨e3, ?_, ?_, ?_, ?_, flatR_ne r rs⟩
  · unfold nextB
    rw [e1, cond_true, e3, hb]
  · unfold nextK
    rw [e1, cond_true, e3]
  · unfold nextN
    rw [e1, cond_true]
  · obtain ⟨a, t, hat⟩ := List.exists_cons_of_ne_nil (enc_ne r)
    have ha := enc_ns hr (fun _ => letter_ns h1) a (by rw [hat]; exact List.mem_cons_self ..)
    rw [flatR_cons, hat, List.cons_append, List.cons_append, dropSp_cons, ha, cond_false]
theorem word_dg {T c : List UInt8} {v : Int} (hne : T ≠ []) (hd : ∀ c ∈ T, isDig c) (hn : numOf T = some v) (he' : ∀ f, fstN digitG f c = 0) :
    nextT (T ++ c) = T ∧ nextB (T ++ c) = true ∧ nextK (T ++ c) = 2 ∧ nextN (T ++ c) = v ∧ dropSp (T ++ c) = T ++ c ∧ T ≠ [] := by
  obtain ⟨a, t, rfl⟩ := List.exists_cons_of_ne_nil hne
  have ha := hd a (List.mem_cons_self ..)
  have hlt : a.toNat < 128 := by have := ha.2; omega
  have e1 : Nat.blt 0 (firstL letterG ((a :: t) ++ c)) = false := first0 hlt (digL ha) _
  obtain ⟨rs, hrs, hv, hall⟩ := dig_all hd
  have e2 : firstL digitG ((a :: t) ++ c) = (a :: t).length := by
    rw [hrs]
    exact fst_app digitG he' rs _ hv hall (Nat.le_refl _)
  have e2' : Nat.blt 0 (firstL digitG ((a :: t) ++ c)) = true := by rw [e2]; exact blt_iff.2 (Nat.succ_pos _)
  have e3 : nextT ((a :: t) ++ c) = a :: t := by
    unfold nextT
    rw [e1, e2', cond_false, cond_true, e2, List.take_left]
  refine ⟨e3, ?_, ?_, ?_, ?_, hne⟩
  · unfold nextB
    rw [e1, e2', cond_false, cond_true, e3, hn]; rfl
  · unfold nextK
    rw [e1, e2', cond_false, cond_true]
  · unfold nextN
    rw [e1, e2', cond_false, cond_true, e3, hn]; rfl
  · rw [List.cons_append, dropSp_cons, sp_dig ha, cond_false]
theorem word_sg {T c : List UInt8} (hs : T ∈ signs) (he' : fstPre (T ++ c) signs = some T) :
    nextT (T ++ c) = T ∧ nextB (T ++ c) = true ∧ nextK (T ++ c) = 3 ∧ nextN (T ++ c) = 0 ∧ dropSp (T ++ c) = T ++ c ∧ T ≠ [] := by
  obtain ⟨a, t, rfl, hlt, hl, hd, hsp, _⟩ := sign_first T hs
  have e1 : Nat.blt 0 (firstL letterG ((a :: t) ++ c)) = false := first0 hlt hl _
  have e2 : Nat.blt 0 (firstL digitG ((a :: t) ++ c)) = false := first0 hlt hd _
  refine ⟨?_, ?_, ?_, ?_, ?_, by simp⟩
  · unfold nextT
    rw [e1, e2, he']; rfl
  · unfold nextB
    rw [e1, e2, he']; rfl
  · unfold nextK
    rw [e1, e2, he']; rfl
  · unfold nextN
    rw [e1, e2]; rfl
  · rw [List.cons_append, dropSp_cons, hsp, cond_false]
theorem ends_nm {T c : List UInt8} (b : Bool) : EndsW (bif b then 4 else 1) T c ↔ ∀ f, fstN bothG f c = 0 := by
  unfold EndsW
  cases b with
  | true => rw [cond_true, if_neg (by decide), if_neg (by decide)]
  | false => rw [cond_false, if_neg (by decide), if_neg (by decide)]
theorem ends_dg {T c : List UInt8} : EndsW 2 T c ↔ ∀ f, fstN digitG f c = 0 := by
  unfold EndsW
  rw [if_pos rfl]
theorem ends_sg {T c : List UInt8} : EndsW 3 T c ↔ fstPre (T ++ c) signs = some T := by
  unfold EndsW
  rw [if_neg (by decide), if_pos rfl]
theorem word_next {T c : List UInt8} {k v : Int} (hc : Cl T k v) (he : EndsW k T c) : nextT (T ++ c) = T ∧ nextB (T ++ c) = true ∧ nextK (T ++ c) = k ∧ nextN (T ++ c) = v ∧ dropSp (T ++ c) = T ++ c ∧ T ≠ [] := by
  rcases hc with ⟨r, rs, hT, hv, h1, h2, hb, hk, hv0⟩ | ⟨hne, hd, hn, hk⟩ | ⟨hs, hk, hv0⟩
  · rw [hk] at he ⊢
    rw [hv0]
    rw [ends_nm] at he
    rw [hT] at hb ⊢
    exact word_nm hv h1 h2 hb he
  · rw [hk] at he ⊢
    rw [ends_dg] at he
    exact word_dg hne hd hn he
  · rw [hk] at he ⊢
    rw [hv0]
    rw [ends_sg] at he
    exact word_sg hs he
theorem word_of {l : List UInt8} (h : nextB l = true) : Cl (nextT l) (nextK l) (nextN l) ∧ EndsW (nextK l) (nextT l) (l.drop (nextT l).length) ∧ l = nextT l ++ l.drop (nextT l).length := by
  cases hl : Nat.blt 0 (firstL letterG l) with
  | true =>
    obtain ⟨rs, u, h1, h2, h3, h4, h5⟩ := fst_split bothG l.length l (Nat.le_refl _)
    have hT : nextT l = flatR rs := by
      unfold nextT
      rw [hl, cond_true]
      show l.take (fstN bothG l.length l) = _
      rw [h4]
      conv => lhs; rw [h1]
      exact List.take_left
    have hu : l.drop (flatR rs).length = u := by
      conv => lhs; rw [h1]
      exact List.drop_left
    have hB : (isKeyL (nextT l) || isNameL (nextT l)) = true := by
      unfold nextB at h
      rw [hl, cond_true] at h
      exact h
    have hK : nextK l = bif isKeyL (nextT l) then 4 else 1 := by
      unfold nextK
      rw [hl, cond_true]
    have hN : nextN l = 0 := by
      unfold nextN
      rw [hl, cond_true]
    have hlet : ∃ r rs', rs = r :: rs' ∧ letterG r = true := by
      have hne : rs ≠ [] := by
        rintro rfl
        rw [hT] at hB
        exact absurd hB (by decide)
      obtain ⟨r, rs', rfl⟩ := List.exists_cons_of_ne_nil hne
      refine ⟨r, rs', rfl, ?_⟩
      cases hr : letterG r with
      | true => rfl
      | false =>
        exfalso
        have hv := h2 r (List.mem_cons_self ..)
        have hz : firstL letterG l = 0 := by
          unfold firstL
          have hlp : 0 < l.length := List.length_pos_iff.2 fun h => flatR_ne r rs' (List.append_eq_nil_iff.1 (h1.symm.trans h)).1
          obtain ⟨n, hn⟩ := Nat.exists_eq_add_one.2 hlp
          rw [hn]
          have hl1 : l = enc r ++ (flatR rs' ++ u) := by rw [h1, flatR_cons, List.append_assoc]
          show (if l = [] then 0 else if (badB l || !letterG (Lib.decodeL l).1) = true then 0 else (Lib.decodeL l).2 + fstN letterG n (l.drop (Lib.decodeL l).2)) = 0
          rw [hl1, if_neg (fun h => enc_ne r (List.append_eq_nil_iff.1 h).1), dec_enc hv, hr, if_pos (by rw [Bool.not_false, Bool.or_true])]
        rw [hz] at hl
        exact nomatch hl
    obtain ⟨r, rs', rfl, hr⟩ := hlet
    rw [hT] at hB hK ⊢
    rw [hu]
    rw [List.all_cons, Bool.and_eq_true] at h3
    refine ⟨.inl ⟨r, rs', rfl, h2, hr, h3.2, hB, hK, hN⟩, ?_, h1⟩
    rw [hK, ends_nm]
    exact stop_fst h5
  | false =>
  cases hd : Nat.blt 0 (firstL digitG l) with
  | true =>
    obtain ⟨rs, u, h1, h2, h3, h4, h5⟩ := fst_split digitG l.length l (Nat.le_refl _)
    have hT : nextT l = flatR rs := by
      unfold nextT
      rw [hl, hd, cond_false, cond_true]
      show l.take (fstN digitG l.length l) = _
      rw [h4]
      conv => lhs; rw [h1]
      exact List.take_left
    have hu : l.drop (flatR rs).length = u := by
      conv => lhs; rw [h1]
      exact List.drop_left
    have hB : (numOf (nextT l)).isSome = true := by
      unfold nextB at h
      rw [hl, hd, cond_false, cond_true] at h
      exact h
    have hK : nextK l = 2 := by
      unfold nextK
      rw [hl, hd, cond_false, cond_true]
    have hN : nextN l = (numOf (nextT l)).getD 0 := by
      unfold nextN
      rw [hl, hd, cond_false, cond_true]
    have hpos : 0 < (flatR rs).length := by
      have : firstL digitG l = (flatR rs).length := h4
      rw [this] at hd
      exact blt_iff.1 hd
    rw [hT] at hB hN ⊢
    rw [hu, hK]
    refine ⟨.inr (.inl ⟨List.length_pos_iff.1 hpos, all_dig h2 h3, ?_, rfl⟩), ?_, h1⟩
    · rw [hN]
      cases hq : numOf (flatR rs) with
      | none => rw [hq] at hB; exact nomatch hB
      | some v => rfl
    · rw [ends_dg]
      exact stop_fst h5
  | false =>
    have hB : (fstPre l signs).isSome = true := by
      unfold nextB at h
      rw [hl, hd, cond_false, cond_false] at h
      exact h
    cases hs : fstPre l signs with
    | none => rw [hs] at hB; exact nomatch hB
    | some T =>
      have hT : nextT l = T := by
        unfold nextT
        rw [hl, hd, cond_false, cond_false, hs]; rfl
      have hK : nextK l = 3 := by
        unfold nextK
        rw [hl, hd, cond_false, cond_false, hs]; rfl
      have hN : nextN l = 0 := by
        unfold nextN
        rw [hl, hd, cond_false, cond_false]
      have hmem := fst_mem hs
      have hpre : isPre T l = true := by
        have key : ∀ L : List (List UInt8), fstPre l L = some T → isPre T l = true := by
          intro L
          induction L with
          | nil => intro h; exact nomatch h
          | cons d L ih =>
            intro h
            have h' : (bif isPre d l then some d else fstPre l L) = some T := h
            cases hp : isPre d l with
            | true => rw [hp] at h'; obtain rfl := Option.some.inj h'; exact hp
            | false => rw [hp] at h'; exact ih h'
        exact key signs hs
      rw [isPre_eq, Bool.and_eq_true] at hpre
      have hsplit : l = T ++ l.drop T.length := by
        have := (List.take_append_drop T.length l).symm
        rwa [of_decide_eq_true hpre.2] at this
      rw [hT, hK, hN]
      refine ⟨.inr (.inr ⟨hmem, rfl, rfl⟩), ?_, hsplit⟩
      rw [ends_sg, ← hsplit]; exact hs
end Go.Proofs.YtnebopkgnkemiaaGreatDoor.Av
