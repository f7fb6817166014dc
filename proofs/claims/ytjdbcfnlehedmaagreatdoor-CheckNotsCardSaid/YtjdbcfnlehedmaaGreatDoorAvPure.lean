/-
  THE INSTRUCTIONS THAT TURN NOTHING: what the abstract machine answers the model answers.
-/
import Derived.Test.YtjdbcfnlehedmaaGreatDoorAvMem
import Derived.Laws.Sem
namespace Go.Proofs.YtjdbcfnlehedmaaGreatDoor.Av
set_option linter.unusedVariables false
set_option linter.unusedSimpArgs false
open Go Go.RowKit

section asked
variable {α : Type} {r : α}
theorem onInt_some {v : V} {f : Nat → Int → Option α} (h : v.onInt none f = some r) : ∃ k n, v = .int k n ∧ f k n = some r := by
  cases v <;> first | exact ⟨_, _, rfl, h⟩ | exact nomatch h
theorem onStr_some {v : V} {f : List UInt8 → Option α} (h : v.onStr none f = some r) : ∃ s, v = .str s ∧ f s = some r := by
  cases v <;> first | exact ⟨_, rfl, h⟩ | exact nomatch h
theorem onBool_some {v : V} {f : Bool → Option α} (h : v.onBool none f = some r) : ∃ b, v = .bool b ∧ f b = some r := by
  cases v <;> first | exact ⟨_, rfl, h⟩ | exact nomatch h
theorem brec_none {b : Bool} {x : Option α} (h : (Bool.rec none x b : Option α) = some r) : b = true ∧ x = some r := by
  cases b
  · exact nomatch h
  · exact ⟨rfl, h⟩
theorem bif_none {b : Bool} {x : Option α} (h : (bif b then x else none) = some r) : b = true ∧ x = some r := by
  cases b
  · exact nomatch h
  · exact ⟨rfl, h⟩
theorem orec_none {β : Type} {o : Option β} {f : β → Option α} (h : (Option.rec none f o : Option α) = some r) : ∃ x, o = some x ∧ f x = some r := by
  cases o
  · exact nomatch h
  · exact ⟨_, rfl, h⟩
theorem onPtr_some {v : V} {f : Nat → Nat → Option α} (h : v.onPtr none f = some r) : ∃ o i n c x, v = .ref 1 o i n c x ∧ f o i = some r := by
  cases v with
  | ref t o i n c x =>
    obtain ⟨h1, h2⟩ := brec_none (h : (Bool.rec none (f o i) (Nat.beq t 1) : Option α) = some r)
    exact ⟨o, i, n, c, x, by rw [beq_iff.1 h1], h2⟩
  | _ => exact nomatch h
theorem onAgg_some {v : V} {f : List V → Option α} (h : v.onAgg none f = some r) : ∃ a l, v = .cmp 2 a l ∧ f l = some r := by
  cases v with
  | cmp t a l =>
    obtain ⟨h1, h2⟩ := brec_none (h : (Bool.rec none (f l) (Nat.beq t 2) : Option α) = some r)
    exact ⟨a, l, by rw [beq_iff.1 h1], h2⟩
  | _ => exact nomatch h
theorem onTup_some {v : V} {f : List V → Option α} (h : v.onTup none f = some r) : ∃ a l, v = .cmp 3 a l ∧ f l = some r := by
  cases v with
  | cmp t a l =>
    obtain ⟨h1, h2⟩ := brec_none (h : (Bool.rec none (f l) (Nat.beq t 3) : Option α) = some r)
    exact ⟨a, l, by rw [beq_iff.1 h1], h2⟩
  | _ => exact nomatch h
theorem onFunc_some {v : V} {f : Nat → List V → Option α} (h : v.onFunc none f = some r) : ∃ a l, v = .cmp 0 a l ∧ f a l = some r := by
  cases v with
  | cmp t a l =>
    obtain ⟨h1, h2⟩ := brec_none (h : (Bool.rec none (f a l) (Nat.beq t 0) : Option α) = some r)
    exact ⟨a, l, by rw [beq_iff.1 h1], h2⟩
  | _ => exact nomatch h
theorem onSlice_some {v : V} {z : Option α} {f : Nat → Nat → Nat → Nat → Bool → Option α} (h : v.onSlice none z f = some r) :
    (∃ o i n c x, v = .ref 2 o i n c x ∧ z = some r) ∨ (∃ o i n c x, v = .ref 3 o i n c x ∧ f o i n c x = some r) := by
  cases v with
  | ref t o i n c x =>
    have h' : (Bool.rec (Bool.rec none z (Nat.beq t 2)) (f o i n c x) (Nat.beq t 3) : Option α) = some r := h
    cases h3 : Nat.beq t 3 with
    | true => rw [h3] at h'; exact .inr ⟨o, i, n, c, x, by rw [beq_iff.1 h3], h'⟩
    | false =>
      rw [h3] at h'
      obtain ⟨h1, h2⟩ := brec_none h'
      exact .inl ⟨o, i, n, c, x, by rw [beq_iff.1 h1], h2⟩
  | _ => exact nomatch h
theorem onMap_some {v : V} {z : Option α} {f : Nat → Option α} (h : v.onMap none z f = some r) :
    (∃ o i n c x, v = .ref 4 o i n c x ∧ z = some r) ∨ (∃ o i n c x, v = .ref 5 o i n c x ∧ f o = some r) := by
  cases v with
  | ref t o i n c x =>
    have h' : (Bool.rec (Bool.rec none z (Nat.beq t 4)) (f o) (Nat.beq t 5) : Option α) = some r := h
    cases h3 : Nat.beq t 5 with
    | true => rw [h3] at h'; exact .inr ⟨o, i, n, c, x, by rw [beq_iff.1 h3], h'⟩
    | false =>
      rw [h3] at h'
      obtain ⟨h1, h2⟩ := brec_none h'
      exact .inl ⟨o, i, n, c, x, by rw [beq_iff.1 h1], h2⟩
  | _ => exact nomatch h
theorem onIface_some {v : V} {z : Option α} {f : Nat → V → Option α} (h : v.onIface none z f = some r) :
    (∃ o i n c x, v = .ref 7 o i n c x ∧ z = some r) ∨ (∃ t u l, v = .cmp 1 t (u :: l) ∧ f t u = some r) := by
  cases v with
  | ref t o i n c x =>
    obtain ⟨h1, h2⟩ := brec_none (h : (Bool.rec none z (Nat.beq t 7) : Option α) = some r)
    exact .inl ⟨o, i, n, c, x, by rw [beq_iff.1 h1], h2⟩
  | cmp t a l =>
    obtain ⟨h1, h2⟩ := brec_none (h : (Bool.rec none (List.rec none (fun v _ _ => f a v) l) (Nat.beq t 1) : Option α) = some r)
    cases l with
    | nil => exact nomatch h2
    | cons u l => exact .inr ⟨a, u, l, by rw [beq_iff.1 h1], h2⟩
  | _ => exact nomatch h
theorem onNat_some {v : V} {f : Nat → Option α} (h : v.onNat none f = some r) : ∃ k n : Nat, v = .int k (n : Int) ∧ f n = some r := by
  obtain ⟨k, n, rfl, h1⟩ := onInt_some h
  cases n with
  | ofNat n => exact ⟨k, n, rfl, h1⟩
  | negSucc n => exact nomatch h1
theorem onCells_some {b : Option Ob} {f : Nat → List V → Bool → Option α} (h : onCells none f b = some r) : ∃ e cs w, b = some (.cells e cs w) ∧ f e cs w = some r := by
  obtain ⟨b, rfl, h1⟩ := orec_none h
  cases b <;> first | exact ⟨_, _, _, rfl, h1⟩ | exact nomatch h1
theorem onIter_some {b : Option Ob} {f : List UInt8 → Nat → Option α} (h : onIter none f b = some r) : ∃ s pos, b = some (.iter s pos) ∧ f s pos = some r := by
  obtain ⟨b, rfl, h1⟩ := orec_none h
  cases b <;> first | exact ⟨_, _, rfl, h1⟩ | exact nomatch h1
theorem onMapO_some {b : Option Ob} {f : List (V × V) → Option α} (h : onMapO none f b = some r) : ∃ es, b = some (.map es) ∧ f es = some r := by
  obtain ⟨b, rfl, h1⟩ := orec_none h
  cases b <;> first | exact ⟨_, rfl, h1⟩ | exact nomatch h1
end asked

section vr
variable {ρ : Map} {n : Nat}
theorem VR.int_inv {k : Nat} {i : Int} {v : Value} (h : VR ρ n (.int k i) v) : ∃ j : IntKind, k = codeK j ∧ v = .int j i := by cases h; exact ⟨_, rfl, rfl⟩
theorem VR.str_inv {s : List UInt8} {v : Value} (h : VR ρ n (.str s) v) : v = .string ⟨⟨s⟩⟩ := by cases h; rfl
theorem VR.bool_inv {b : Bool} {v : Value} (h : VR ρ n (.bool b) v) : v = .bool b := by cases h; rfl
theorem VR.ptr_inv {o i m c : Nat} {x : Bool} {v : Value} (h : VR ρ n (.ref 1 o i m c x) v) : Lv ρ n o ∧ v = .pointer (some ((ρ o).at i)) := by cases h; exact ⟨by assumption, rfl⟩
theorem VR.nilSlice_inv {o i m c : Nat} {x : Bool} {v : Value} (h : VR ρ n (.ref 2 o i m c x) v) : v = .slice none 0 0 := by cases h; rfl
theorem VR.slice_inv {o i m c : Nat} {x : Bool} {v : Value} (h : VR ρ n (.ref 3 o i m c x) v) :
    ∃ a c', v = .slice (some a) m c' ∧ Lv ρ n o ∧ m ≤ c ∧ c ≤ c' ∧ (x = true → c' = c) ∧ (c' = 0 ∨ a = (ρ o).at i) ∧ (x = false → (ρ o).off + i + c' * (ρ o).z ≤ (ρ o).tot) := by
  cases h; exact ⟨_, _, rfl, by assumption, by assumption, by assumption, by assumption, by assumption, by assumption⟩
theorem VR.nilMap_inv {o i m c : Nat} {x : Bool} {v : Value} (h : VR ρ n (.ref 4 o i m c x) v) : v = .map none := by cases h; rfl
theorem VR.map_inv {o i m c : Nat} {x : Bool} {v : Value} (h : VR ρ n (.ref 5 o i m c x) v) : Lv ρ n o ∧ v = .map (some (ρ o).b) := by cases h; exact ⟨by assumption, rfl⟩
theorem VR.agg_inv {a : Nat} {l : List V} {v : Value} (h : VR ρ n (.cmp 2 a l) v) : ∃ l', v = .agg l'.toArray ∧ VRs ρ n l l' ∧ ∀ u ∈ l', One u := by cases h; exact ⟨_, rfl, by assumption, by assumption⟩
theorem VR.tup_inv {a : Nat} {l : List V} {v : Value} (h : VR ρ n (.cmp 3 a l) v) : ∃ l', v = .tuple l'.toArray ∧ VRs ρ n l l' := by cases h; exact ⟨_, rfl, by assumption⟩
theorem VR.func_inv {a : Nat} {l : List V} {v : Value} (h : VR ρ n (.cmp 0 a l) v) : ∃ l', v = .func (.func a) #[] l'.toArray ∧ VRs ρ n l l' := by cases h; exact ⟨_, rfl, by assumption⟩
theorem VR.iface_inv {a : Nat} {u : V} {l : List V} {v : Value} (h : VR ρ n (.cmp 1 a (u :: l)) v) : ∃ u', v = .iface a u' ∧ VR ρ n u u' := by cases h; exact ⟨_, rfl, by assumption⟩
theorem VR.nilIface_inv {o i m c : Nat} {x : Bool} {v : Value} (h : VR ρ n (.ref 7 o i m c x) v) : v = .nilIface := by cases h; rfl
theorem VR.int_at {k : Nat} {i : Int} {v : Value} (h : VR ρ n (.int k i) v) : v = .int (kindC k) i := by obtain ⟨j, rfl, rfl⟩ := h.int_inv; rw [kindC_codeK]
theorem VR.int_mk (j : IntKind) {k : Nat} (hk : k = codeK j) (i : Int) : VR ρ n (.int k i) (.int j i) := by subst hk; exact .int j i
theorem VR.str_mk (s : List UInt8) : VR ρ n (.str s) (.string ⟨⟨s⟩⟩) := .str ⟨⟨s⟩⟩
theorem VR.one {v : V} {v' : Value} (h : VR ρ n v v') : One v' ∨ (∃ l, v = .agg l) ∨ (∃ l, v = .tup l) := by
  cases h <;> first | exact .inl rfl | exact .inl (by assumption) | exact .inr (.inl ⟨_, rfl⟩) | exact .inr (.inr ⟨_, rfl⟩)
end vr

section consts
variable {ρ : Map} {n : Nat}
theorem ofConst_vr {v : Value} {x : V} (h : ofConst v = some x) : VR ρ n x v ∧ One v := by
  unfold ofConst at h
  split at h <;> first | (obtain rfl := Option.some.inj h) | exact nomatch h
  · exact ⟨.bool _, rfl⟩
  · exact ⟨.int _ _, rfl⟩
  · exact ⟨.str _, rfl⟩
  · exact ⟨.nilPtr, rfl⟩
  · exact ⟨.nilSlice, rfl⟩
  · exact ⟨.nilMap, rfl⟩
  · exact ⟨.nilFunc, rfl⟩
  · exact ⟨.nilIface, rfl⟩
theorem ofConsts_vr : ∀ {l : List Value} {xs : List V}, ofConsts l = some xs → VRs ρ n xs l ∧ ∀ v ∈ l, One v
  | [], xs, h => by simp [ofConsts] at h; subst h; exact ⟨.nil, by simp⟩
  | v :: l, xs, h => by
    unfold ofConsts at h
    split at h
    · rename_i a b ha hb
      obtain rfl := Option.some.inj h
      obtain ⟨h1, h2⟩ := ofConst_vr (ρ := ρ) (n := n) ha
      obtain ⟨h3, h4⟩ := ofConsts_vr hb
      exact ⟨.cons h1 h3, fun u hu => (List.mem_cons.1 hu).elim (fun e => e ▸ h2) (h4 u)⟩
    · exact nomatch h
theorem ofZero_vr {v : Value} {x : V} (h : ofZero v = some x) : VR ρ n x v := by
  unfold ofZero at h
  split at h
  · rename_i cs
    cases hc : ofConsts cs.toList with
    | none => rw [hc] at h; exact nomatch h
    | some l =>
      rw [hc] at h
      obtain rfl := Option.some.inj h
      obtain ⟨h1, h2⟩ := ofConsts_vr (ρ := ρ) (n := n) hc
      exact VR.agg l cs.toList h1 h2
  · exact (ofConst_vr h).1
end consts

/-- What an operation finds. -/
structure Ctx (P : Program) (base : Nat) (ρ : Map) (st : St) (w : World) (nt : Nat) (tm : Tr V) (a : Act) : Prop where
  rel : Rel P base ρ st w
  tms : TmR ρ st.next nt tm a.tmps
section ops
variable {P : Program} {base : Nat} {ρ : Map} {st : St} {w : World} {nt : Nat} {tm : Tr V} {a : Act}
theorem Ctx.opd (c : Ctx P base ρ st w nt tm a) {x : Operand} {y : X} (h : compX P x = some y) : VR ρ st.next (y.ev tm) (a.eval x) := by
  cases x with
  | tmp t =>
    obtain rfl := Option.some.inj h
    rw [ev_t]
    exact c.tms.2 t
  | const v =>
    simp only [compX] at h
    cases hz : ofZero v with
    | none => rw [hz] at h; exact nomatch h
    | some z =>
      rw [hz] at h
      obtain rfl := Option.some.inj h
      exact ofZero_vr hz
  | global g =>
    simp only [compX] at h
    split at h
    · rename_i hg
      obtain rfl := Option.some.inj h
      have h1 := c.rel.glob
      have h2 := h1.2 g hg
      have : (ρ g).at 0 = ⟨g, 0, none⟩ := by unfold Pl.at; rw [h2.1, h2.2.1]
      show VR ρ st.next (.ptr g 0) (.pointer (some ⟨g, 0, none⟩))
      rw [← this]
      exact .ptr g 0 ⟨by omega, h2.2.2⟩
    · exact nomatch h
  | func f =>
    obtain rfl := Option.some.inj h
    exact VR.func f [] [] .nil
theorem Ctx.opds (c : Ctx P base ρ st w nt tm a) : ∀ {l : List Operand} {ys : List X}, compXs P l = some ys → VRs ρ st.next (X.evs tm ys) (l.map a.eval)
  | [], ys, h => by simp [compXs] at h; subst h; exact .nil
  | x :: l, ys, h => by
    unfold compXs at h
    split at h
    · rename_i y b hy hb
      obtain rfl := Option.some.inj h
      exact .cons (c.opd hy) (c.opds hb)
    · exact nomatch h
theorem run_und {t : TypeId} {d : TypeDesc} (h : P.underlying t = some d) (w : World) : (underlying t).run P w = .ok d w := by simp [underlying, h]
theorem run_size {t : TypeId} {n : Nat} (h : sizeT P t = some n) (w : World) : (sizeOf t).run P w = .ok n w := by
  unfold sizeT at h
  cases hi : P.info? t with
  | none => rw [hi] at h; exact nomatch h
  | some i => rw [hi] at h; obtain rfl := Option.some.inj h; simp [sizeOf, typeInfo, hi]
theorem run_agg {t : TypeId} {g : Bool} (h : aggT P t = some g) (w : World) : (isAgg t).run P w = .ok g w := by
  unfold aggT at h
  split at h
  · rename_i hu; obtain rfl := Option.some.inj h; simp [isAgg, run_und hu]
  · rename_i hu; obtain rfl := Option.some.inj h; simp [isAgg, run_und hu]
  · rename_i d h1 h2 hu
    obtain rfl := Option.some.inj h
    simp only [isAgg, Sem.run_bind, run_und hu, Result.andThen_ok]
    cases d <;> first | rfl | exact (h1 _ rfl).elim | exact (h2 _ _ rfl).elim
  · exact nomatch h
theorem run_loadCells {p : Pl} {cs : List V} {c : Array Value} (hl : Lies ρ st.next p cs c) {e' : TypeId} {lo hi : Nat} (hh : w.heap[p.b]? = some (.cells c e' (lo, hi))) :
    ∀ (n i0 k : Nat) (acc : Array Value), i0 + k + n ≤ cs.length →
      ∃ l', (loadCellsFrom (p.at i0) k n acc).run P w = .ok (acc ++ l'.toArray) w ∧ VRs ρ st.next ((cs.drop (i0 + k)).take n) l' ∧ ∀ u ∈ l', One u
  | 0, i0, k, acc, h => ⟨[], by simp [loadCellsFrom], by simp; exact .nil, by simp⟩
  | n + 1, i0, k, acc, h => by
    have hj : i0 + k < cs.length := by omega
    obtain ⟨v', h1, h2, h3⟩ := hl (i0 + k) cs[i0 + k] (List.getElem?_eq_getElem hj)
    have hcell : w.cell? ((p.at i0).add k) = some v' := by
      rw [Pl.at_add]
      simp [World.cell?, Pl.at, hh, h1]
    obtain ⟨l', h4, h5, h6⟩ := run_loadCells hl hh n i0 (k + 1) (acc.push v') (by omega)
    refine ⟨v' :: l', ?_, ?_, ?_⟩
    · simp only [loadCellsFrom, Sem.run_bind, run_load, hcell, Result.andThen_ok]
      rw [h4]
      simp
    · rw [List.drop_eq_getElem_cons hj, List.take_succ_cons]
      exact .cons h2 h5
    · intro u hu
      exact (List.mem_cons.1 hu).elim (fun e => e ▸ h3) (h6 u)
theorem part_some {g : Bool} {cs : List V} {i n : Nat} {v : V} (h : part g cs i n = some v) :
    (g = true ∧ i + n ≤ cs.length ∧ v = .agg ((cs.drop i).take n)) ∨ (g = false ∧ cs[i]? = some v) := by
  cases g with
  | true =>
    obtain ⟨h1, h2⟩ := bif_none (show (bif Nat.ble (Nat.add i n) (lenL cs) then some (V.agg (takeL (dropL cs i) n)) else none) = some v from h)
    rw [lenL_eq] at h1
    simp only [takeL_eq, dropL_eq] at h2
    exact .inl ⟨rfl, ble_iff.1 h1, (Option.some.inj h2).symm⟩
  | false => exact .inr ⟨rfl, by simpa [part] using h⟩
theorem loadVar_ok {t : TypeId} {g : Bool} {n : Nat} (hg : aggT P t = some g) (hn : sizeT P t = some n) {p : Pl} {e : Nat} {cs : List V} {own : Bool} (ho : OR P ρ st.next w p (.cells e cs own)) {i : Nat} {v : V}
    (h : part g cs i n = some v) : ∃ v', (loadVar t (p.at i)).run P w = .ok v' w ∧ VR ρ st.next v v' := by
  obtain ⟨c, e', lo, hi, h1, h2, h3, h4⟩ := ho
  rcases part_some h with ⟨rfl, hle, rfl⟩ | ⟨rfl, hv⟩
  · obtain ⟨l', h5, h6, h7⟩ := run_loadCells (P := P) h2 h1 n i 0 #[] (by omega)
    refine ⟨.agg l'.toArray, ?_, .agg _ _ (by simpa using h6) h7⟩
    simp only [loadVar, Sem.run_bind, run_agg hg, Result.andThen_ok, if_true, run_size hn, loadCells, h5]
    simp
  · obtain ⟨v', h5, h6, h7⟩ := h2 i v hv
    refine ⟨v', ?_, h6⟩
    have hcell : w.cell? (p.at i) = some v' := by simp [World.cell?, Pl.at, h1, h5]
    simp only [loadVar, Sem.run_bind, run_agg hg, Result.andThen_ok, Bool.false_eq_true, if_false, run_load, hcell]
end ops
end Go.Proofs.YtjdbcfnlehedmaaGreatDoor.Av
