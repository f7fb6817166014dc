/-
  CALLS: what the abstract machine answers, the program answers.
-/
import Derived.Test.YtjdbcfnlehedmaaGreatDoorAvCode
import Derived.Laws.Externs
namespace Go.Proofs.YtjdbcfnlehedmaaGreatDoor.Av
set_option linter.unusedVariables false
set_option linter.unusedSimpArgs false
open Go Go.RowKit

/-! ### what a value names -/
theorem under_cmp (n t a : Nat) (l : List V) : (V.cmp t a l).under n = l.all fun v => v.under n := by
  induction l with
  | nil => rfl
  | cons v l ih =>
    have h1 : (V.cmp t a (v :: l)).under n = (Bool.rec false ((V.cmp t a l).under n) (v.under n) : Bool) := rfl
    rw [h1, ih, List.all_cons]
    cases v.under n <;> rfl
theorem under_ref (n t o i m c : Nat) (x : Bool) : (V.ref t o i m c x).under n = true ↔ ((t = 1 ∨ t = 3 ∨ t = 5) → o < n) := by
  show (Bool.rec true (Nat.blt o n) (Nat.beq t 1 || (Nat.beq t 3 || Nat.beq t 5)) : Bool) = true ↔ _
  by_cases h : t = 1 ∨ t = 3 ∨ t = 5
  · have : (Nat.beq t 1 || (Nat.beq t 3 || Nat.beq t 5)) = true := by rcases h with rfl | rfl | rfl <;> rfl
    rw [this]
    exact ⟨fun h1 _ => blt_iff.1 h1, fun h1 => blt_iff.2 (h1 h)⟩
  · have h1 : ¬ t = 1 := fun e => h (.inl e)
    have h2 : ¬ t = 3 := fun e => h (.inr (.inl e))
    have h3 : ¬ t = 5 := fun e => h (.inr (.inr e))
    rw [beqF h1, beqF h2, beqF h3]
    exact ⟨fun _ h' => absurd h' h, fun _ => rfl⟩
mutual
theorem VR.under {ρ : Map} {n : Nat} : ∀ {v : V} {v' : Value}, VR ρ n v v' → v.under n = true
  | _, _, .int k i => rfl
  | _, _, .str s => rfl
  | _, _, .bool b => rfl
  | _, _, .nilPtr => rfl
  | _, _, .ptr o i h => (under_ref n 1 o i 0 0 false).2 fun _ => h.1
  | _, _, .nilSlice => rfl
  | _, _, .slice o i len cap x a c h h1 h2 h3 h4 h5 => (under_ref n 3 o i len cap x).2 fun _ => h.1
  | _, _, .nilMap => rfl
  | _, _, .map o h => (under_ref n 5 o 0 0 0 false).2 fun _ => h.1
  | _, _, .nilFunc => rfl
  | _, _, .func f l l' h => by rw [under_cmp]; exact VRs.under h
  | _, _, .nilIface => rfl
  | _, _, .iface t v v' h => by rw [under_cmp]; simpa using VR.under h
  | _, _, .agg l l' h h1 => by rw [under_cmp]; exact VRs.under h
  | _, _, .tup l l' h => by rw [under_cmp]; exact VRs.under h
  | _, _, .any v h h1 => rfl
theorem VRs.under {ρ : Map} {n : Nat} : ∀ {l : List V} {l' : List Value}, VRs ρ n l l' → (l.all fun v => v.under n) = true
  | _, _, .nil => rfl
  | _, _, .cons h hs => by rw [List.all_cons, VR.under h, VRs.under hs]; rfl
end
mutual
theorem VR.lower {ρ : Map} {n m : Nat} : ∀ {v : V} {v' : Value}, VR ρ n v v' → v.under m = true → VR ρ m v v'
  | _, _, .int k i, _ => .int k i
  | _, _, .str s, _ => .str s
  | _, _, .bool b, _ => .bool b
  | _, _, .nilPtr, _ => .nilPtr
  | _, _, .ptr o i h, hu => .ptr o i ⟨(under_ref m 1 o i 0 0 false).1 hu (.inl rfl), h.2⟩
  | _, _, .nilSlice, _ => .nilSlice
  | _, _, .slice o i len cap x a c h h1 h2 h3 h4 h5, hu => .slice o i len cap x a c ⟨(under_ref m 3 o i len cap x).1 hu (.inr (.inl rfl)), h.2⟩ h1 h2 h3 h4 h5
  | _, _, .nilMap, _ => .nilMap
  | _, _, .map o h, hu => .map o ⟨(under_ref m 5 o 0 0 0 false).1 hu (.inr (.inr rfl)), h.2⟩
  | _, _, .nilFunc, _ => .nilFunc
  | _, _, .func f l l' h, hu => .func f l l' (VRs.lower h (by rwa [under_cmp] at hu))
  | _, _, .nilIface, _ => .nilIface
  | _, _, .iface t v v' h, hu => .iface t v v' (VR.lower h (by rw [under_cmp] at hu; simpa using hu))
  | _, _, .agg l l' h h1, hu => .agg l l' (VRs.lower h (by rwa [under_cmp] at hu)) h1
  | _, _, .tup l l' h, hu => .tup l l' (VRs.lower h (by rwa [under_cmp] at hu))
  | _, _, .any v h h1, _ => .any v h h1
theorem VRs.lower {ρ : Map} {n m : Nat} : ∀ {l : List V} {l' : List Value}, VRs ρ n l l' → (l.all fun v => v.under m) = true → VRs ρ m l l'
  | _, _, .nil, _ => .nil
  | _, _, .cons h hs, hu => by
    rw [List.all_cons, Bool.and_eq_true] at hu
    exact .cons (VR.lower h hu.1) (VRs.lower hs hu.2)
end
section
variable {P : Program} {base nt : Nat} {call : Callee} {ρ ρ' : Map} {st st' : St} {w w' : World} {tm : Tr V} {a : Act}
theorem Entries.lower {n n' m : Nat} : ∀ {l : List (V × V)} {l1 l2 : List MapEntry}, Entries ρ m l l1 → Entries ρ' n l l2 → Entries ρ' m l l2
  | [], [], [], _, _ => trivial
  | (k, v) :: l, e :: l1, e' :: l2, h, h' => ⟨h'.1.lower h.1.under, h'.2.1.lower h.2.1.under, Entries.lower (n' := n') h.2.2 h'.2.2⟩
  | [], _ :: _, _, h, _ => h.elim
  | [], [], _ :: _, _, h => h.elim
  | _ :: _, [], _, h, _ => h.elim
  | _ :: _, _ :: _, [], _, h => h.elim
/-- What names nothing new is related as it was. -/
theorem OR.lower {n m : Nat} {p p' : Pl} {b : Ob} (h : OR P ρ m w p b) (h' : OR P ρ' n w' p' b) : OR P ρ' m w' p' b := by
  cases b with
  | cells e cs own =>
    obtain ⟨c, e', lo, hi, h1, h2, h3, h4⟩ := h'
    obtain ⟨c0, e0, lo0, hi0, h5, h6, h7, h8⟩ := h
    refine ⟨c, e', lo, hi, h1, fun j v hv => ?_, h3, h4⟩
    obtain ⟨v', h9, h10, h11⟩ := h2 j v hv
    obtain ⟨v0, _, h12, _⟩ := h6 j v hv
    exact ⟨v', h9, h10.lower h12.under, h11⟩
  | iter s pos => exact h'
  | map es =>
    obtain ⟨es', clock, h1, h2⟩ := h'
    obtain ⟨es0, clock0, h3, h4⟩ := h
    exact ⟨es', clock, h1, Entries.lower (n' := n) h4 h2⟩
/-- An elder state holds of a later world, where nothing of it has turned. -/
theorem Rel.back (h : Rel P base ρ st w) (hn : Now P base ρ st w ρ' st' w') (hl : st.next ≤ st'.low) : Rel P base ρ' st w' := by
  have hm : ∀ o b, st.mem.get o = some b → o < st.next ∧ st'.mem.get o = some b := fun o b hb => by
    have h1 := (h.obj o b hb).1
    exact ⟨h1, by rw [hn.turn.mem o h1 (by omega)]; exact hb⟩
  refine ⟨fun o b hb => ⟨(h.obj o b hb).1, fun hl => OR.lower ((h.obj o b hb).2 (hn.dead.back (h.obj o b hb).1 hl)) ((hn.rel.obj o b (hm o b hb).2).2 hl)⟩, fun o o' b b' hl hl' hb hb' hne hown => ?_, fun o b hl hb hown => ?_, h.glob.1, fun g hg => ?_⟩
  · exact hn.rel.sep o o' b b' hl hl' (hm o b hb).2 (hm o' b' hb').2 hne hown
  · exact hn.rel.base o b hl (hm o b hb).2 hown
  · exact hn.rel.glob.2 g hg
theorem Rel.low (h : Rel P base ρ st w) (l : Nat) : Rel P base ρ { next := st.next, low := l, mem := st.mem } w := ⟨h.obj, h.sep, h.base, h.glob⟩
/-! ### slots at the start -/
theorem at_initT : ∀ (l : List V) (k : Nat) (tm : Tr V) (i : Nat), (initT l k tm).at (pa i) = if k ≤ i ∧ i < k + l.length then l[i - k]? else tm.at (pa i)
  | [], k, tm, i => by rw [if_neg (fun h => by have h2 := h.2; simp at h2; omega)]; rfl
  | v :: l, k, tm, i => by
    have h : initT (v :: l) k tm = initT l (k + 1) (tm.to (pa k) (some v)) := rfl
    rw [h, at_initT l (k + 1)]
    by_cases h1 : i = k
    · subst h1
      rw [if_neg (by omega), at_to_same, if_pos (by simp), Nat.sub_self]
      rfl
    · rw [at_to_ne _ _ (fun e => h1 (pa_inj e).symm)]
      by_cases h2 : k + 1 ≤ i ∧ i < k + 1 + l.length
      · rw [if_pos h2, if_pos (by simp; omega)]
        obtain ⟨j, rfl⟩ : ∃ j, i = k + 1 + j := ⟨i - (k + 1), by omega⟩
        rw [show k + 1 + j - (k + 1) = j by omega, show k + 1 + j - k = j + 1 by omega]
        rfl
      · rw [if_neg h2, if_neg (by simp; omega)]
theorem init_tms {n : Nat} {l : List V} {l' : List Value} (h : VRs ρ n l l') : TmR ρ n nt (initT l 0 .leaf) (l'.toArray ++ Array.replicate (nt - l'.toArray.size) Go.undef) := by
  have hl := h.length
  refine ⟨by simp; omega, fun i => ?_⟩
  rw [at_initT, at_leaf]
  by_cases hi : i < l.length
  · rw [if_pos (by omega), Nat.sub_zero, List.getElem?_eq_getElem hi]
    obtain ⟨v', h1, h2⟩ := h.get i _ (List.getElem?_eq_getElem hi)
    have : (l'.toArray ++ Array.replicate (nt - l'.toArray.size) Go.undef).getD i Go.undef = v' := by
      rw [Array.getD_eq_getD_getElem?, Array.getElem?_append_left (by simp; omega)]
      simp [h1]
    rw [this]
    exact h2
  · rw [if_neg (by omega)]
    have : (l'.toArray ++ Array.replicate (nt - l'.toArray.size) Go.undef).getD i Go.undef = Go.undef := by
      rw [Array.getD_eq_getD_getElem?, Array.getElem?_append_right (by simp; omega)]
      rw [Array.getElem?_replicate]
      split <;> rfl
    rw [this]
    exact .tup [] [] .nil
/-! ### results -/
def resOne (tmps : Array Value) : ResultVar → Sem Value
  | .tmp t => pure (tmps.getD t Go.undef)
  | .cell a t => do loadVar t (← asAddr (tmps.getD a Go.undef))
theorem res_list (hrel : Rel P base ρ st w) (htm : TmW ρ st.next nt tm a.tmps) : ∀ {rs : List ResultVar} {xs : List RV} {vs : List V}, resT P rs = some xs → RV.evs tm st xs = some vs →
    ∃ vs', (rs.mapM (resOne a.tmps) : Sem (List Value)).run P w = .ok vs' w ∧ VRs ρ st.next vs vs'
  | [], xs, vs, h, hv => by
    obtain rfl := Option.some.inj h
    obtain rfl := Option.some.inj hv
    exact ⟨[], rfl, .nil⟩
  | r :: rs, xs, vs, h, hv => by
    have key : ∀ (x : RV) (xs' : List RV), xs = x :: xs' → resT P rs = some xs' → (∀ v, x.ev tm st = some v → ∃ v', (resOne a.tmps r).run P w = .ok v' w ∧ VR ρ st.next v v') →
        ∃ vs', ((r :: rs).mapM (resOne a.tmps) : Sem (List Value)).run P w = .ok vs' w ∧ VRs ρ st.next vs vs' := by
      intro x xs' hx hxs hone
      subst hx
      have hv' : (match x.ev tm st, RV.evs tm st xs' with
        | some v, some vs => some (v :: vs)
        | _, _ => none) = some vs := hv
      split at hv'
      · rename_i v vs1 h1 h2
        obtain rfl := Option.some.inj hv'
        obtain ⟨v', h3, h4⟩ := hone v h1
        obtain ⟨vs', h5, h6⟩ := res_list hrel htm hxs h2
        exact ⟨v' :: vs', by simp only [List.mapM_cons, Sem.run_bind, h3, Result.andThen_ok, h5, Sem.run_pure], .cons h4 h6⟩
      · exact nomatch hv'
    cases r with
    | tmp t =>
      obtain ⟨xs', hxs, hx⟩ := map_some' (show (resT P rs).map (RV.t (pa t) :: ·) = some xs from h)
      refine key _ xs' hx.symm hxs fun v hv => ?_
      exact ⟨_, rfl, htm.2 t v hv⟩
    | cell ad t =>
      obtain ⟨g, hg, h⟩ := bind_some' h
      obtain ⟨n, hn, h⟩ := bind_some' h
      obtain ⟨xs', hxs, h⟩ := bind_some' h
      refine key _ xs' (Option.some.inj h).symm hxs fun v hv => ?_
      have hv' : iLoad g n (.t (pa ad)) tm st = some v := hv
      obtain ⟨ob, i, n1, c1, x1, hv1, h1⟩ := onPtr_some hv'
      obtain ⟨e, cs, own, hm, h2⟩ := onCells_some h1
      rw [ev_t] at hv1
      have h3 : VR ρ st.next (.ref 1 ob i n1 c1 x1) (a.tmps.getD ad Go.undef) := by
        cases hat : tm.at (pa ad) with
        | none => rw [hat] at hv1; exact nomatch hv1
        | some u => rw [hat] at hv1; rw [← show u = V.ref 1 ob i n1 c1 x1 from hv1]; exact htm.2 ad u hat
      obtain ⟨hlv, h4⟩ := h3.ptr_inv
      obtain ⟨v', h5, h6⟩ := loadVar_ok hg hn (hrel.at hm hlv) h2
      refine ⟨v', ?_, h6⟩
      simp only [resOne, Sem.run_bind, h4, asAddr, Result.andThen_ok, h5, Sem.run_pure]
theorem results_run {fn : Func} {tmps : Array Value} {vs : List Value} (h : (fn.results.toList.mapM (resOne tmps) : Sem (List Value)).run P w = .ok vs w) :
    (results fn tmps).run P w = .ok (if h : vs.toArray.size = 1 then vs.toArray[0] else .tuple vs.toArray) w := by
  have h1 : results fn tmps = (do
      let vs ← fn.results.mapM (resOne tmps)
      pure (if h : vs.size = 1 then vs[0] else .tuple vs)) := by
    unfold results
    first | rfl | (congr 1; done) | (congr 1; congr 1; done) | (congr 1; congr 1; funext r; cases r <;> rfl)
  have h2 : (fn.results.mapM (resOne tmps) : Sem (Array Value)).run P w = .ok vs.toArray w := by
    rw [Array.mapM_eq_mapM_toList]
    simp only [Sem.run_map, h, Result.andThen_ok]
  rw [h1]
  simp only [Sem.run_bind, h2, Result.andThen_ok, Sem.run_pure]
theorem res_ok (hrel : Rel P base ρ st w) (htm : TmW ρ st.next nt tm a.tmps) {fn : Func} {xs : List RV} {v : V} (h : resT P fn.results.toList = some xs) (hv : resV tm st xs = some v) : ∃ v', (results fn a.tmps).run P w = .ok v' w ∧ VR ρ st.next v v' := by
  have key : ∀ {xs}, resT P fn.results.toList = some xs → ∀ vs, RV.evs tm st xs = some vs → (∀ l', VRs ρ st.next vs l' → VR ρ st.next v (if h : l'.toArray.size = 1 then l'.toArray[0] else .tuple l'.toArray)) → ∃ v', (results fn a.tmps).run P w = .ok v' w ∧ VR ρ st.next v v' := by
    intro xs h vs h1 h2
    obtain ⟨vs', h3, h4⟩ := res_list hrel htm h h1
    exact ⟨_, results_run h3, h2 vs' h4⟩
  match xs, h, hv with
  | [], h, hv =>
    obtain rfl := Option.some.inj hv
    refine key h [] rfl fun l' hl => ?_
    cases hl
    exact .tup [] [] .nil
  | [r], h, hv =>
    have hv' : r.ev tm st = some v := hv
    refine key h [v] ?_ fun l' hl => ?_
    · show (match r.ev tm st, (some [] : Option (List V)) with
        | some v, some vs => some (v :: vs)
        | _, _ => none) = _
      rw [hv']
    · cases hl with
      | cons h1 h2 => cases h2; exact h1
  | r :: r' :: rs, h, hv =>
    have hv' : (match RV.evs tm st (r :: r' :: rs) with
      | some vs => some (V.tup vs)
      | none => none) = some v := hv
    split at hv'
    · rename_i vs hvs
      obtain rfl := Option.some.inj hv'
      refine key h vs hvs fun l' hl => ?_
      have hlen : vs.length = (r :: r' :: rs).length := by
        have : ∀ (xs : List RV) (vs : List V), RV.evs tm st xs = some vs → vs.length = xs.length := by
          intro xs
          induction xs with
          | nil => intro vs h; obtain rfl := Option.some.inj h; rfl
          | cons x xs ih =>
            intro vs h
            have h' : (match x.ev tm st, RV.evs tm st xs with
              | some v, some vs => some (v :: vs)
              | _, _ => none) = some vs := h
            split at h'
            · rename_i v1 vs1 _ h2
              obtain rfl := Option.some.inj h'
              simp [ih vs1 h2]
            · exact nomatch h'
        exact this _ _ hvs
      have hl2 := hl.length
      rw [dif_neg (by simp at hlen ⊢; omega)]
      exact .tup _ _ hl
    · exact nomatch hv'
/-! ### calls -/
theorem back_came (hrel : Rel P base ρ st w) {r : CR} {w' : World} (hn : Now P base ρ { next := st.next, low := st.next, mem := st.mem } w ρ' st' w') :
    Rel P base ρ' (back st r st') w' ∧ Turn st (back st r st') ∧ (∀ v v', (r = .ret v ∨ r = .pan v) → VR ρ' st'.next v v' → VR ρ' (back st r st').next v v') ∧ Dead ρ ρ' st (back st r st') := by
  unfold back
  cases hb : Nat.ble st.next st'.low && r.under st.next with
  | true =>
    rw [Bool.and_eq_true] at hb
    have hl := ble_iff.1 hb.1
    refine ⟨(Rel.back (hrel.low st.next) hn hl).low st.low, Turn.refl _, fun v v' hv h => ?_, fun o ho hd => ⟨(hn.dead o ho hd).1, rfl⟩⟩
    refine VR.lower h ?_
    rcases hv with rfl | rfl <;> exact hb.2
  | false =>
    have hlo : (bif Nat.ble st.low st'.low then st.low else st'.low) ≤ st.low ∧ (bif Nat.ble st.low st'.low then st.low else st'.low) ≤ st'.low := by
      by_cases h : st.low ≤ st'.low
      · rw [bleT h]; exact ⟨Nat.le_refl _, h⟩
      · rw [bleF h]; exact ⟨by show st'.low ≤ st.low; omega, Nat.le_refl _⟩
    refine ⟨hn.rel.low _, ⟨hn.turn.next, hlo.1, fun o ho hl => hn.turn.mem o ho (Nat.lt_of_lt_of_le hl hlo.2)⟩, fun v v' _ h => h, hn.dead⟩
end
end Go.Proofs.YtjdbcfnlehedmaaGreatDoor.Av
