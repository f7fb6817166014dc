/-
  WHAT A CHECKER HAS BOUND: rows of kinds, by names, in memory.
-/
import Derived.Test.YtnccejmggcjaoaaGreatDoorChkP
import Derived.Test.YtnccejmggcjaoaaGreatDoorFill
namespace Go.Proofs.YtnccejmggcjaoaaGreatDoor.Av
set_option linter.unusedVariables false
set_option linter.unusedSimpArgs false
set_option maxRecDepth 1000000
open Go
structure Bnd where
  nm : Str
  at_ : Nat
  ks : List Nat
def kV (n : Nat) : V := .int 63 (Int.ofNat n)
def Bnd.enc (b : Bnd) : V × V := (.str b.nm, .ref 3 b.at_ 0 b.ks.length b.ks.length false)
noncomputable def findB (v : Str) : List Bnd → Option Bnd
  | [] => none
  | b :: l => bif eqS v b.nm then some b else findB v l
noncomputable def setB (v : Str) (b' : Bnd) : List Bnd → List Bnd
  | [] => [b']
  | b :: l => bif eqS v b.nm then b' :: l else b :: setB v b' l
structure CkAt (st : St) (o m : Nat) (s : V) (by_ : Str) (B : List Bnd) : Prop where
  ho : o < st.next
  hm : m < st.next
  c : st.mem.get o = some (.cells 143 [s, .str by_, .ref 5 m 0 0 0 false] true)
  mp : st.mem.get m = some (.map (B.map Bnd.enc))
  rows : ∀ b ∈ B, b.at_ < st.next ∧ b.at_ ≠ o ∧ st.mem.get b.at_ = some (.cells 3 (b.ks.map kV) true) ∧ b.ks.length < 1000
  nodup : (B.map Bnd.at_).Nodup
theorem look_B (v : Str) : ∀ B : List Bnd, lookM 100 (.str v) (B.map Bnd.enc) = some ((findB v B).map fun b => .ref 3 b.at_ 0 b.ks.length b.ks.length false)
  | [] => rfl
  | b :: l => by
    show (match eqKey 100 (.str v) (.str b.nm) with | some true => some (some (V.ref 3 b.at_ 0 b.ks.length b.ks.length false)) | some false => lookM 100 (.str v) (l.map Bnd.enc) | none => none) = _
    rw [show eqKey 100 (.str v) (.str b.nm) = some (eqS v b.nm) from rfl]
    cases h : eqS v b.nm with
    | true => show some (some (V.ref 3 b.at_ 0 b.ks.length b.ks.length false)) = some ((bif eqS v b.nm then some b else findB v l).map _); rw [h]; rfl
    | false => show lookM 100 (.str v) (l.map Bnd.enc) = some ((bif eqS v b.nm then some b else findB v l).map _); rw [h]; exact look_B v l
theorem upd_B (v : Str) (b' : Bnd) (hb : b'.nm = v) : ∀ B : List Bnd, updM 100 (.str v) (.ref 3 b'.at_ 0 b'.ks.length b'.ks.length false) (B.map Bnd.enc) = some ((setB v b' B).map Bnd.enc)
  | [] => by subst hb; rfl
  | b :: l => by
    show (match eqKey 100 (.str v) (.str b.nm) with | some true => some ((V.str v, V.ref 3 b'.at_ 0 b'.ks.length b'.ks.length false) :: l.map Bnd.enc) | some false => (updM 100 (.str v) (.ref 3 b'.at_ 0 b'.ks.length b'.ks.length false) (l.map Bnd.enc)).map (b.enc :: ·) | none => none) = _
    rw [show eqKey 100 (.str v) (.str b.nm) = some (eqS v b.nm) from rfl]
    cases h : eqS v b.nm with
    | true => show some _ = some ((bif eqS v b.nm then b' :: l else b :: setB v b' l).map Bnd.enc); rw [h]; subst hb; rfl
    | false => show Option.map _ _ = some ((bif eqS v b.nm then b' :: l else b :: setB v b' l).map Bnd.enc); rw [h, upd_B v b' hb l]; rfl
theorem find_mem {v : Str} {b : Bnd} : ∀ {B : List Bnd}, findB v B = some b → b ∈ B
  | c :: l, h => by
    have h' : (bif eqS v c.nm then some c else findB v l) = some b := h
    cases hc : eqS v c.nm with
    | true => rw [hc] at h'; obtain rfl := Option.some.inj h'; exact List.mem_cons_self ..
    | false => rw [hc] at h'; exact List.mem_cons_of_mem _ (find_mem h')
theorem set_mem {v : Str} {b' : Bnd} : ∀ {B : List Bnd}, (B.map Bnd.at_).Nodup → ∀ {b : Bnd}, b ∈ setB v b' B → b = b' ∨ (b ∈ B ∧ ∀ c, findB v B = some c → b.at_ ≠ c.at_)
  | [], _, b, h => by
    obtain rfl := List.mem_singleton.1 h
    exact .inl rfl
  | c :: l, hn, b, h => by
    rw [List.map_cons, List.nodup_cons] at hn
    have h' : b ∈ (bif eqS v c.nm then b' :: l else c :: setB v b' l) := h
    have hf : findB v (c :: l) = bif eqS v c.nm then some c else findB v l := rfl
    rw [hf]
    cases hc : eqS v c.nm with
    | true =>
      rw [hc] at h'
      rcases List.mem_cons.1 h' with h' | h'
      · exact .inl h'
      · refine .inr ⟨List.mem_cons_of_mem _ h', fun d hd => ?_⟩
        obtain rfl := Option.some.inj hd
        exact fun e => hn.1 (e ▸ List.mem_map_of_mem h')
    | false =>
      rw [hc] at h'
      rcases List.mem_cons.1 h' with rfl | h'
      · refine .inr ⟨List.mem_cons_self .., fun d hd => fun e => hn.1 ?_⟩
        rw [e]; exact List.mem_map_of_mem (find_mem hd)
      · rcases set_mem hn.2 h' with h' | ⟨h1, h2⟩
        · exact .inl h'
        · exact .inr ⟨List.mem_cons_of_mem _ h1, h2⟩
theorem set_nodup {v : Str} {b' : Bnd} : ∀ {B : List Bnd}, (B.map Bnd.at_).Nodup → (∀ b ∈ B, b.at_ ≠ b'.at_) → ((setB v b' B).map Bnd.at_).Nodup
  | [], _, _ => List.nodup_cons.2 ⟨fun h => (nomatch h), List.nodup_nil⟩
  | c :: l, hn, hb => by
    rw [List.map_cons, List.nodup_cons] at hn
    show ((bif eqS v c.nm then b' :: l else c :: setB v b' l).map Bnd.at_).Nodup
    have hl : ∀ b ∈ l, b.at_ ≠ b'.at_ := fun b h => hb b (List.mem_cons_of_mem _ h)
    cases hc : eqS v c.nm with
    | true =>
      show ((b' :: l).map Bnd.at_).Nodup
      rw [List.map_cons, List.nodup_cons]
      refine ⟨fun h => ?_, hn.2⟩
      obtain ⟨b, h1, h2⟩ := List.mem_map.1 h
      exact hl b h1 h2
    | false =>
      show ((c :: setB v b' l).map Bnd.at_).Nodup
      rw [List.map_cons, List.nodup_cons]
      refine ⟨fun h => ?_, set_nodup hn.2 hl⟩
      obtain ⟨b, h1, h2⟩ := List.mem_map.1 h
      rcases set_mem hn.2 h1 with rfl | ⟨h3, _⟩
      · exact hb c (List.mem_cons_self ..) h2.symm
      · exact hn.1 (h2 ▸ List.mem_map_of_mem h3)
noncomputable def boundB (B : List Bnd) (v : Str) : List Nat := match findB v B with
  | some b => b.ks
  | none => []
theorem CkAt.low {st : St} {o m : Nat} {s : V} {by_ : Str} {B : List Bnd} (h : CkAt st o m s by_ B) (l : Nat) : CkAt { next := st.next, low := l, mem := st.mem } o m s by_ B := ⟨h.ho, h.hm, h.c, h.mp, h.rows, h.nodup⟩
theorem CkAt.ne {st : St} {o m : Nat} {s : V} {by_ : Str} {B : List Bnd} (h : CkAt st o m s by_ B) : o ≠ m ∧ ∀ b ∈ B, b.at_ ≠ m := by
  refine ⟨fun e => ?_, fun b hb e => ?_⟩
  · have h1 := h.c; rw [e, h.mp] at h1; exact nomatch h1
  · have h1 := (h.rows b hb).2.2.1; rw [e, h.mp] at h1; exact nomatch h1
theorem CkAt.aft {st st' : St} {o m : Nat} {s : V} {by_ : Str} {B : List Bnd} (h : CkAt st o m s by_ B) (ha : Aft st.next st st') : CkAt st' o m s by_ B :=
  ⟨Nat.lt_of_lt_of_le h.ho ha.next, Nat.lt_of_lt_of_le h.hm ha.next, by rw [ha.mem _ h.ho]; exact h.c, by rw [ha.mem _ h.hm]; exact h.mp,
    fun b hb => let ⟨a, c, d, e⟩ := h.rows b hb; ⟨Nat.lt_of_lt_of_le a ha.next, c, by rw [ha.mem _ a]; exact d, e⟩, h.nodup⟩
theorem bind_ev {st : St} {o m : Nat} {s : V} {by_ : Str} {B : List Bnd} (h : CkAt st o m s by_ B) (v : Str) (k : Nat) {r : Nat} (hr : st.mem.get r = some (.cells 3 [kV k] true)) (hlt : r < st.next) (hlen : (boundB B v).length + 1 < 1000) :
    ∃ (M : Tr Ob) (lw : Nat → Nat), (∀ (tm : Tr V) (x y : X) (l : Nat), X.ev tm x = ((findB v B).map fun b => V.ref 3 b.at_ 0 b.ks.length b.ks.length false).getD (.ref 2 0 0 0 0 false) → X.ev tm y = .ref 3 r 0 1 1 true →
        iApp false 3 1 8 x y tm { next := st.next, low := l, mem := st.mem } = some (.ref 3 st.next 0 ((boundB B v).length + 1) ((boundB B v).length + 1) false, { next := st.next + 1, low := lw l, mem := M })) ∧
      (∀ l L, L ≤ l → (∀ b ∈ B, L ≤ b.at_) → L ≤ lw l) ∧ M.get o = st.mem.get o ∧ M.get m = st.mem.get m ∧ (∀ x, x < st.next → (∀ b ∈ B, x ≠ b.at_) → M.get x = st.mem.get x) ∧
      ∀ S' : St, S'.next = st.next + 1 → (∀ x, x ≠ m → S'.mem.get x = M.get x) → S'.mem.get m = some (.map ((setB v ⟨v, st.next, boundB B v ++ [k]⟩ B).map Bnd.enc)) → CkAt S' o m s by_ (setB v ⟨v, st.next, boundB B v ++ [k]⟩ B) := by
  have hsrc : ∀ l, srcF false { next := st.next, low := l, mem := st.mem } 1 (.ref 3 r 0 1 1 true) = some ([kV k], 1) := fun l => by
    show onCells none (fun _ cs _ => bif Nat.ble (Nat.add 0 (Nat.mul 1 1)) (lenL cs) then some (takeL (dropL cs 0) (Nat.mul 1 1), 1) else none) (st.mem.get r) = _
    rw [hr]; rfl
  obtain ⟨hom, hbm⟩ := h.ne
  have ho := h.ho
  have hm := h.hm
  have hnew : ∀ b ∈ B, b.at_ ≠ st.next := fun b hb e => by have := (h.rows b hb).1; omega
  have fin : ∀ S' : St, S'.next = st.next + 1 → S'.mem.get o = st.mem.get o → S'.mem.get m = some (.map ((setB v ⟨v, st.next, boundB B v ++ [k]⟩ B).map Bnd.enc)) → S'.mem.get st.next = some (.cells 3 ((boundB B v ++ [k]).map kV) true) →
      (∀ b ∈ B, (∀ c, findB v B = some c → b.at_ ≠ c.at_) → S'.mem.get b.at_ = st.mem.get b.at_) → CkAt S' o m s by_ (setB v ⟨v, st.next, boundB B v ++ [k]⟩ B) := fun S' h1 h2 h3 h4 h5 =>
    ⟨by rw [h1]; exact Nat.lt_succ_of_lt ho, by rw [h1]; exact Nat.lt_succ_of_lt hm, by rw [h2]; exact h.c, h3, fun b hb => by
      rcases set_mem h.nodup hb with rfl | ⟨hb, hc⟩
      · exact ⟨by rw [h1]; exact Nat.lt_succ_self _, fun e => by have e' : st.next = o := e; omega, h4, by show (boundB B v ++ [k]).length < 1000; rw [List.length_append]; exact hlen⟩
      · obtain ⟨a, c, d, e⟩ := h.rows b hb
        exact ⟨by rw [h1]; omega, c, by rw [h5 b hb hc]; exact d, e⟩, set_nodup h.nodup hnew⟩
  cases hf : findB v B with
  | none =>
    have hb0 : boundB B v = [] := by unfold boundB; rw [hf]
    rw [hb0] at fin ⊢
    have hg : ∀ x, (st.mem.set st.next (some (.cells 3 [kV k] true))).get x = if x = st.next then some (.cells 3 [kV k] true) else st.mem.get x := fun x => get_set _ _ _ _
    refine ⟨st.mem.set st.next (some (.cells 3 [kV k] true)), id, fun tm x y l hx hy => ?_, fun l L h _ => h, by rw [hg, if_neg (by omega)], by rw [hg, if_neg (by omega)], fun x hx _ => by rw [hg, if_neg (by omega)], fun S' h1 h2 h3 => fin S' h1 (by rw [h2 o hom, hg, if_neg (by omega)]) h3 (by rw [h2 _ (by omega), hg, if_pos rfl]; rfl) (fun b hb _ => by rw [h2 _ (hbm b hb), hg, if_neg (hnew b hb)])⟩
    unfold iApp
    rw [hx, hy, hsrc]; rfl
  | some b =>
    have hbk : boundB B v = b.ks := by unfold boundB; rw [hf]
    have hbm' := find_mem hf
    obtain ⟨b1, b2, b3, b4⟩ := h.rows b hbm'
    rw [hbk] at fin ⊢
    have hg : ∀ x, ((st.mem.set b.at_ none).set st.next (some (.cells 3 ((b.ks ++ [k]).map kV) true))).get x = if x = st.next then some (.cells 3 ((b.ks ++ [k]).map kV) true) else if x = b.at_ then none else st.mem.get x := fun x => by rw [get_set, get_set]
    refine ⟨(st.mem.set b.at_ none).set st.next (some (.cells 3 ((b.ks ++ [k]).map kV) true)), fun l => bif Nat.ble l b.at_ then l else b.at_, fun tm x y l hx hy => ?_, fun l L h1 h2 => ?_, by rw [hg, if_neg (by omega), if_neg (Ne.symm b2)], by rw [hg, if_neg (by omega), if_neg (Ne.symm (hbm b hbm'))], fun x hx hx2 => by rw [hg, if_neg (by omega), if_neg (hx2 b hbm')],
      fun S' h1 h2 h3 => fin S' h1 (by rw [h2 o hom, hg, if_neg (by omega), if_neg (Ne.symm b2)]) h3 (by rw [h2 _ (by omega), hg, if_pos rfl]) (fun c hc hcd => by rw [h2 _ (hbm c hc), hg, if_neg (hnew c hc), if_neg (hcd b hf)])⟩
    · unfold iApp
      rw [hx, hy, hsrc]
      show (bif Nat.ble (Nat.add b.ks.length 1) b.ks.length then appIn { next := st.next, low := l, mem := st.mem } 1 [kV k] 1 b.at_ 0 b.ks.length b.ks.length false else appNew { next := st.next, low := l, mem := st.mem } 3 1 8 [kV k] 1 b.at_ 0 b.ks.length false) = _
      rw [show Nat.ble (Nat.add b.ks.length 1) b.ks.length = false from bleF (by show ¬ b.ks.length + 1 ≤ b.ks.length; omega)]
      show onCells none _ (st.mem.get b.at_) = _
      rw [b3]
      show (bif Nat.ble (Nat.add 0 (Nat.mul b.ks.length 1)) (lenL (b.ks.map kV)) && Nat.ble (Nat.mul (Nat.add b.ks.length 1) 8) 140737488355328 then
        (some (V.ref 3 st.next 0 (Nat.add b.ks.length 1) (Nat.add b.ks.length 1) false, (St.put { next := st.next, low := l, mem := st.mem } b.at_ none).new (.cells 3 (appL (takeL (dropL (b.ks.map kV) 0) (Nat.mul b.ks.length 1)) [kV k]) true))) else none) = _
      rw [lenL_eq, show Nat.ble (Nat.add 0 (Nat.mul b.ks.length 1)) (b.ks.map kV).length = true from bleT (by show 0 + b.ks.length * 1 ≤ _; rw [List.length_map]; omega), show Nat.ble (Nat.mul (Nat.add b.ks.length 1) 8) 140737488355328 = true from bleT (by show (b.ks.length + 1) * 8 ≤ _; omega)]
      have : appL (takeL (dropL (b.ks.map kV) 0) (Nat.mul b.ks.length 1)) [kV k] = (b.ks ++ [k]).map kV := by
        rw [appL_eq, takeL_eq, dropL_eq, List.drop_zero, List.map_append]
        rw [List.take_of_length_le (by show _ ≤ b.ks.length * 1; rw [List.length_map]; omega)]; rfl
      rw [this]; rfl
    · show L ≤ (bif Nat.ble l b.at_ then l else b.at_)
      cases Nat.ble l b.at_ with
      | true => exact h1
      | false => exact h2 b hbm'
end Go.Proofs.YtnccejmggcjaoaaGreatDoor.Av
