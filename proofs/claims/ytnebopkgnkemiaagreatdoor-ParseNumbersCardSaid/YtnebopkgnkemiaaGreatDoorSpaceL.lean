/-
  TWO WORDS WITH SPACE AROUND THEM: plain Lean.
-/
import Derived.Test.YtnebopkgnkemiaaGreatDoorNameL
namespace Go.Proofs.YtnebopkgnkemiaaGreatDoor.Av
set_option linter.unusedVariables false
set_option linter.unusedSimpArgs false
set_option maxRecDepth 1000000
open Go
def Stops (c : List UInt8) : Prop := c = [] ∨ ∃ b t, c = b :: t ∧ (b = 32 ∨ b = 10 ∨ b = 9 ∨ b = 13)
theorem fst_stops {p : Nat → Bool} (h1 : p 32 = false) (h2 : p 10 = false) (h3 : p 9 = false) (h4 : p 13 = false) {c : List UInt8} (hc : Stops c) (f : Nat) : fstN p f c = 0 := by
  rcases hc with rfl | ⟨b, t, rfl, rfl | rfl | rfl | rfl⟩
  · exact fst_nil p f
  · exact fst_stop (c := 32) (by decide) h1 t f
  · exact fst_stop (c := 10) (by decide) h2 t f
  · exact fst_stop (c := 9) (by decide) h3 t f
  · exact fst_stop (c := 13) (by decide) h4 t f
theorem fst_enc {p : Nat → Bool} {r : Nat} (hr : VRune r) (hp : p r = true) (t : List UInt8) (f : Nat) : fstN p (f + 1) (enc r ++ t) = (enc r).length + fstN p f t := by
  show (if enc r ++ t = [] then 0 else if (badB (enc r ++ t) || !p (Lib.decodeL (enc r ++ t)).1) = true then 0 else (Lib.decodeL (enc r ++ t)).2 + fstN p f ((enc r ++ t).drop (Lib.decodeL (enc r ++ t)).2)) = _
  rw [if_neg (fun h => enc_ne r (List.append_eq_nil_iff.1 h).1), dec_enc hr, bad_enc hr, List.drop_left, hp, if_neg (by decide)]
theorem fst_app (p : Nat → Bool) {c : List UInt8} (hc : ∀ f, fstN p f c = 0) (rs : List Nat) : ∀ f : Nat, (∀ r ∈ rs, VRune r) → rs.all p = true → (flatR rs ++ c).length ≤ f → fstN p f (flatR rs ++ c) = (flatR rs).length := by
  induction rs with
  | nil => intro f _ _ _; rw [flatR_nil, List.nil_append, hc]; rfl
  | cons r rs ih =>
    intro f hv ha h
    have hr := hv r (List.mem_cons_self ..)
    have hp := enc_pos r
    rw [List.all_cons, Bool.and_eq_true] at ha
    rw [flatR_cons, List.append_assoc, List.length_append] at h
    obtain ⟨f, rfl⟩ : ∃ k, f = k + 1 := ⟨f - 1, by omega⟩
    rw [flatR_cons, List.append_assoc, fst_enc hr ha.1, ih f (fun x hx => hv x (List.mem_cons_of_mem _ hx)) ha.2 (by omega), List.length_append]
theorem valid_flatR (rs : List Nat) (hv : ∀ r ∈ rs, VRune r) : Lib.validD (flatR rs) = true := by
  induction rs with
  | nil => rfl
  | cons r rs ih =>
    have hr := hv r (List.mem_cons_self ..)
    rw [Lib.validD_step _ (flatR_ne r rs), flatR_cons, dec_enc hr, List.drop_left, if_neg, ih fun x hx => hv x (List.mem_cons_of_mem _ hx)]
    rintro ⟨a, b⟩
    simp only at a b
    subst a
    exact absurd b (by rw [enc3 hr (by omega) (by omega)]; simp)
theorem word_name {r : Nat} {rs : List Nat} {c : List UInt8} (hv : ∀ x ∈ r :: rs, VRune x) (h1 : letterG r = true) (h2 : rs.all bothG = true) (hc : Stops c) (hb : (isKeyL (flatR (r :: rs)) || isNameL (flatR (r :: rs))) = true) :
    nextT (flatR (r :: rs) ++ c) = flatR (r :: rs) ∧ nextB (flatR (r :: rs) ++ c) = true := by
  have hr := hv r (List.mem_cons_self ..)
  have hp := enc_pos r
  have e1 : Nat.blt 0 (firstL letterG (flatR (r :: rs) ++ c)) = true := by
    unfold firstL
    obtain ⟨k, hk⟩ : ∃ k, (flatR (r :: rs) ++ c).length = k + 1 := ⟨(flatR (r :: rs) ++ c).length - 1, by rw [flatR_cons, List.append_assoc, List.length_append]; omega⟩
    rw [hk, flatR_cons, List.append_assoc, fst_enc hr h1]
    exact blt_iff.2 (by omega)
  have hall : (r :: rs).all bothG = true := by
    rw [List.all_cons, h2]
    unfold bothG
    rw [h1]; rfl
  have e2 : firstL bothG (flatR (r :: rs) ++ c) = (flatR (r :: rs)).length := fst_app bothG (fst_stops rfl rfl rfl rfl hc) (r :: rs) _ hv hall (Nat.le_refl _)
  have e3 : nextT (flatR (r :: rs) ++ c) = flatR (r :: rs) := by
    unfold nextT
    rw [e1, cond_true, e2, List.take_left]
  refine ⟨e3, ?_⟩
  unfold nextB
  rw [e1, cond_true, e3, hb]
def words8 : List (List UInt8) := [[97], [87, 73, 84, 72, 73, 78], [49, 50], [195, 169], [60, 61], [40], [120, 57], [33, 61]]
structure Word (w : List UInt8) : Prop where
  ne : w ≠ []
  drop : ∀ c, dropSp (w ++ c) = w ++ c
  next : ∀ c, Stops c → nextT (w ++ c) = w ∧ nextB (w ++ c) = true
theorem sign_word {w : List UInt8} (hl : ∀ c, Stops c → Nat.blt 0 (firstL letterG (w ++ c)) = false) (hd : ∀ c, Stops c → Nat.blt 0 (firstL digitG (w ++ c)) = false) (hs : ∀ c, Stops c → fstPre (w ++ c) signs = some w) (c : List UInt8) (hc : Stops c) : nextT (w ++ c) = w ∧ nextB (w ++ c) = true := by
  refine ⟨?_, ?_⟩
  · unfold nextT
    rw [hl c hc, hd c hc, hs c hc]; rfl
  · unfold nextB
    rw [hl c hc, hd c hc, hs c hc]; rfl
theorem first0 {p : Nat → Bool} {a : UInt8} (h : a.toNat < 128) (hp : p a.toNat = false) (t : List UInt8) : Nat.blt 0 (firstL p (a :: t)) = false := by
  unfold firstL
  rw [fst_stop h hp]; rfl
theorem word_97 : Word [97] := by
  refine ⟨by simp, fun c => rfl, fun c hc => ?_⟩
  have h := word_name (r := 97) (rs := []) (c := c) (fun x hx => by simp at hx; subst hx; unfold VRune; omega) rfl rfl hc (by
    have e : flatR [97] = enc 97 := by rw [flatR_cons, flatR_nil, List.append_nil]
    rw [e, name_enc (by unfold VRune; omega)]
    exact Bool.or_true _)
  exact h
theorem word_within : Word [87, 73, 84, 72, 73, 78] := by
  refine ⟨by simp, fun c => rfl, fun c hc => ?_⟩
  have h := word_name (r := 87) (rs := [73, 84, 72, 73, 78]) (c := c) (fun x hx => by simp at hx; rcases hx with rfl | rfl | rfl | rfl | rfl | rfl <;> (unfold VRune; omega)) rfl rfl hc (by
    have e : flatR [87, 73, 84, 72, 73, 78] = [87, 73, 84, 72, 73, 78] := rfl
    rw [e]; rfl)
  exact h
theorem word_e9 : Word [195, 169] := by
  refine ⟨by simp, fun c => rfl, fun c hc => ?_⟩
  have h := word_name (r := 233) (rs := []) (c := c) (fun x hx => by simp at hx; subst hx; unfold VRune; omega) rfl rfl hc (by
    have e : flatR [233] = enc 233 := by rw [flatR_cons, flatR_nil, List.append_nil]
    rw [e, name_enc (by unfold VRune; omega)]
    exact Bool.or_true _)
  exact h
theorem word_x9 : Word [120, 57] := by
  refine ⟨by simp, fun c => rfl, fun c hc => ?_⟩
  have hv : ∀ x ∈ [120, 57], VRune x := fun x hx => by simp at hx; rcases hx with rfl | rfl <;> (unfold VRune; omega)
  have h := word_name (r := 120) (rs := [57]) (c := c) hv rfl rfl hc (by
    have hval := valid_flatR [120, 57] hv
    have hnm := nm_flat1 hv
    have e : flatR [120, 57] = [120, 57] := rfl
    unfold isNameL
    rw [hval, hnm, e]
    rfl)
  exact h
theorem word_12 : Word [49, 50] := by
  refine ⟨by simp, fun c => rfl, fun c hc => ?_⟩
  have e1 : Nat.blt 0 (firstL letterG ([49, 50] ++ c)) = false := first0 (a := 49) (by decide) rfl _
  have e2 : firstL digitG ([49, 50] ++ c) = 2 := fst_app digitG (fst_stops rfl rfl rfl rfl hc) [49, 50] _ (fun x hx => by simp at hx; rcases hx with rfl | rfl <;> (unfold VRune; omega)) rfl (Nat.le_refl _)
  have e3 : nextT ([49, 50] ++ c) = [49, 50] := by
    unfold nextT
    rw [e1, e2, cond_false]
    rfl
  have e4 : numOf [49, 50] = some 12 := by
    have h12 : Lib.decDigits 12 = [49, 50] := by rw [digits_eq, if_neg (by decide), digits_eq, if_pos (by decide)]; rfl
    have := num_digits (m := 12) (by decide)
    rw [h12, if_pos (by decide)] at this
    exact this
  refine ⟨e3, ?_⟩
  unfold nextB
  rw [e1, e2, cond_false, e3, e4]
  rfl
theorem word_40 : Word [40] :=
  ⟨by simp, fun c => rfl, sign_word (fun c _ => first0 (a := 40) (by decide) rfl _) (fun c _ => first0 (a := 40) (by decide) rfl _) fun c hc => by
    rcases hc with rfl | ⟨b, t, rfl, rfl | rfl | rfl | rfl⟩ <;> rfl⟩
theorem word_le : Word [60, 61] :=
  ⟨by simp, fun c => rfl, sign_word (fun c _ => first0 (a := 60) (by decide) rfl _) (fun c _ => first0 (a := 60) (by decide) rfl _) fun c hc => by
    rcases hc with rfl | ⟨b, t, rfl, rfl | rfl | rfl | rfl⟩ <;> rfl⟩
theorem word_ne : Word [33, 61] :=
  ⟨by simp, fun c => rfl, sign_word (fun c _ => first0 (a := 33) (by decide) rfl _) (fun c _ => first0 (a := 33) (by decide) rfl _) fun c hc => by
    rcases hc with rfl | ⟨b, t, rfl, rfl | rfl | rfl | rfl⟩ <;> rfl⟩
def word8 (k : Nat) : List UInt8 := words8.getD k []
theorem word8_ok {k : Nat} (hk : k < 8) : Word (word8 k) ∧ (word8 k).length ≤ 6 := by
  have h : k = 0 ∨ k = 1 ∨ k = 2 ∨ k = 3 ∨ k = 4 ∨ k = 5 ∨ k = 6 ∨ k = 7 := by omega
  rcases h with rfl | rfl | rfl | rfl | rfl | rfl | rfl | rfl
  · exact ⟨word_97, by decide⟩
  · exact ⟨word_within, by decide⟩
  · exact ⟨word_12, by decide⟩
  · exact ⟨word_e9, by decide⟩
  · exact ⟨word_le, by decide⟩
  · exact ⟨word_40, by decide⟩
  · exact ⟨word_x9, by decide⟩
  · exact ⟨word_ne, by decide⟩
def isSp (b : UInt8) : Prop := b = 32 ∨ b = 10 ∨ b = 9 ∨ b = 13
theorem isSp_N {b : UInt8} (h : isSp b) : spN b.toNat = true := by
  rcases h with rfl | rfl | rfl | rfl <;> rfl
theorem drop_sp {u : List UInt8} (hu : ∀ b ∈ u, isSp b) (l : List UInt8) : dropSp (u ++ l) = dropSp l := by
  induction u with
  | nil => rfl
  | cons b u ih => rw [List.cons_append, dropSp_cons, isSp_N (hu b (List.mem_cons_self ..)), cond_true, ih fun x hx => hu x (List.mem_cons_of_mem _ hx)]
theorem all_end (f : Nat) {u : List UInt8} (hu : ∀ b ∈ u, isSp b) (pos : Nat) : allL (f + 1) u pos = (some [], pos + u.length) := by
  have h := drop_sp hu []
  rw [List.append_nil] at h
  have h' : dropSp u = [] := h
  unfold allL
  rw [if_pos h']
theorem all_word (f : Nat) {u w c : List UInt8} (hu : ∀ b ∈ u, isSp b) (hw : Word w) (hc : Stops c) (pos : Nat) : allL (f + 1) (u ++ (w ++ c)) pos =
    ((allL f c (pos + u.length + w.length)).1.map fun ts => ⟨nextK (w ++ c), w, nextN (w ++ c), pos + u.length⟩ :: ts, (allL f c (pos + u.length + w.length)).2) := by
  have h1 : dropSp (u ++ (w ++ c)) = w ++ c := by rw [drop_sp hu, hw.drop]
  obtain ⟨h2, h3⟩ := hw.next c hc
  have h4 : (u ++ (w ++ c)).length - (w ++ c).length = u.length := by rw [List.length_append]; omega
  have h5 : w ++ c ≠ [] := fun h => hw.ne (List.append_eq_nil_iff.1 h).1
  show (if dropSp (u ++ (w ++ c)) = [] then (some [], pos + (u ++ (w ++ c)).length) else if nextB (dropSp (u ++ (w ++ c))) = true then
      ((allL f ((dropSp (u ++ (w ++ c))).drop (nextT (dropSp (u ++ (w ++ c)))).length) (pos + ((u ++ (w ++ c)).length - (dropSp (u ++ (w ++ c))).length) + (nextT (dropSp (u ++ (w ++ c)))).length)).1.map fun ts => (⟨nextK (dropSp (u ++ (w ++ c))), nextT (dropSp (u ++ (w ++ c))), nextN (dropSp (u ++ (w ++ c))), pos + ((u ++ (w ++ c)).length - (dropSp (u ++ (w ++ c))).length)⟩ : TokA) :: ts,
        (allL f ((dropSp (u ++ (w ++ c))).drop (nextT (dropSp (u ++ (w ++ c)))).length) (pos + ((u ++ (w ++ c)).length - (dropSp (u ++ (w ++ c))).length) + (nextT (dropSp (u ++ (w ++ c)))).length)).2)
    else (none, pos + ((u ++ (w ++ c)).length - (dropSp (u ++ (w ++ c))).length))) = _
  rw [h1, if_neg h5, if_pos h3, h2, h4, List.drop_left]
theorem all_two {u1 w1 u2 w2 u3 : List UInt8} (h1 : ∀ b ∈ u1, isSp b) (h2 : ∀ b ∈ u2, isSp b) (h2' : u2 ≠ []) (h3 : ∀ b ∈ u3, isSp b) (hw1 : Word w1) (hw2 : Word w2) :
    ∃ k1 v1 k2 v2, allL ((u1 ++ (w1 ++ (u2 ++ (w2 ++ u3)))).length + 1) (u1 ++ (w1 ++ (u2 ++ (w2 ++ u3)))) 0 = (some [⟨k1, w1, v1, u1.length⟩, ⟨k2, w2, v2, u1.length + w1.length + u2.length⟩], (u1 ++ (w1 ++ (u2 ++ (w2 ++ u3)))).length) := by
  have hs3 : Stops u3 := by
    cases u3 with
    | nil => exact .inl rfl
    | cons b t => exact .inr ⟨b, t, rfl, h3 b (List.mem_cons_self ..)⟩
  have hs2 : Stops (u2 ++ (w2 ++ u3)) := by
    cases u2 with
    | nil => exact absurd rfl h2'
    | cons b t => exact .inr ⟨b, t ++ (w2 ++ u3), rfl, h2 b (List.mem_cons_self ..)⟩
  have n1 := List.length_pos_iff.2 hw1.ne
  have n2 := List.length_pos_iff.2 hw2.ne
  obtain ⟨k, hk⟩ : ∃ k, (u1 ++ (w1 ++ (u2 ++ (w2 ++ u3)))).length = k + 2 := ⟨(u1 ++ (w1 ++ (u2 ++ (w2 ++ u3)))).length - 2, by simp only [List.length_append]; omega⟩
  have hend : 0 + u1.length + w1.length + u2.length + w2.length + u3.length = (u1 ++ (w1 ++ (u2 ++ (w2 ++ u3)))).length := by simp only [List.length_append]; omega
  rw [← hend, all_word _ h1 hw1 hs2]
  rw [hend, hk, all_word _ h2 hw2 hs3, all_end _ h3]
  refine ⟨nextK (w1 ++ (u2 ++ (w2 ++ u3))), nextN (w1 ++ (u2 ++ (w2 ++ u3))), nextK (w2 ++ u3), nextN (w2 ++ u3), Prod.ext ?_ ?_⟩
  · simp only [Option.map_some, Nat.zero_add]
  · show 0 + u1.length + w1.length + u2.length + w2.length + u3.length = k + 2
    omega
def sp4 : List UInt8 := [32, 9, 10, 13]
def spA (zs : List Nat) : List UInt8 := (zs.take 10).map fun z => sp4.getD (z % 4) 0
theorem sp4_ok (z : Nat) : isSp (sp4.getD (z % 4) 0) := by
  have hm : z % 4 < 4 := Nat.mod_lt _ (by decide)
  have h : z % 4 = 0 ∨ z % 4 = 1 ∨ z % 4 = 2 ∨ z % 4 = 3 := by omega
  rcases h with h | h | h | h <;> rw [h]
  · exact .inl rfl
  · exact .inr (.inr (.inl rfl))
  · exact .inr (.inl rfl)
  · exact .inr (.inr (.inr rfl))
theorem spA_ok (zs : List Nat) : ∀ b ∈ spA zs, isSp b := by
  intro b hb
  obtain ⟨z, _, rfl⟩ := List.mem_map.1 hb
  exact sp4_ok z
theorem spA_len (zs : List Nat) : (spA zs).length ≤ 10 := by
  unfold spA
  rw [List.length_map, List.length_take]; omega
end Go.Proofs.YtnebopkgnkemiaaGreatDoor.Av
