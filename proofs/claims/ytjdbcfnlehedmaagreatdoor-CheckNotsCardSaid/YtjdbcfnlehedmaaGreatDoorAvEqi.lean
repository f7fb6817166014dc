/-
  TWO INTERFACES COMPARED.
-/
import Derived.Test.YtjdbcfnlehedmaaGreatDoorAvCpy
namespace Go.Proofs.YtjdbcfnlehedmaaGreatDoor.Av
set_option linter.unusedVariables false
set_option linter.unusedSimpArgs false
open Go Go.RowKit

section ops
variable {P : Program} {base : Nat} {ρ : Map} {st : St} {w : World} {nt : Nat} {tm : Tr V} {a : Act} {o : Oper} {v : V}
theorem plainIn_mem : ∀ {l : List (Nat × Nat)} {t k : Nat}, plainIn l t = some k → (t, k) ∈ l
  | [], t, k, h => nomatch h
  | p :: l, t, k, h => by
    have h' : (bif Nat.beq p.1 t then some p.2 else plainIn l t) = some k := h
    by_cases e : p.1 = t
    · rw [beqT e] at h'
      obtain rfl := Option.some.inj h'
      rw [← e]; exact List.mem_cons_self ..
    · rw [beqF e] at h'
      exact List.mem_cons_of_mem _ (plainIn_mem h')
theorem plainsT_spec {t k : Nat} (h : (t, k) ∈ plainsT P) : ∃ i d, P.info? t = some i ∧ i.comparable = true ∧ P.underlying t = some d ∧ KeyOf k d := by
  unfold plainsT at h
  obtain ⟨u, _, h2⟩ := List.mem_filterMap.1 h
  split at h2
  · rename_i i hi
    split at h2
    · rename_i hc
      split at h2
      · split at h2
        · rename_i kk hu
          obtain ⟨rfl, rfl⟩ := Prod.mk.inj (Option.some.inj h2)
          exact ⟨i, _, hi, hc, hu, .inl ⟨kk, rfl, rfl⟩⟩
        · rename_i hu
          obtain ⟨rfl, rfl⟩ := Prod.mk.inj (Option.some.inj h2)
          exact ⟨i, _, hi, hc, hu, .inr ⟨rfl, rfl⟩⟩
        · exact nomatch h2
      · exact nomatch h2
    · exact nomatch h2
  · exact nomatch h2
theorem eqKey_equal {kt : Nat} {d : TypeDesc} (hd : KeyOf kt d) {t : TypeId} (ht : P.underlying t = some d) {n : Nat} {k k1 : V} {k' k1' : Value} (h1 : VR ρ n k k') (h2 : VR ρ n k1 k1') {b : Bool} (h : eqKey kt k k1 = some b) (dd : Nat) :
    (Op.equalIn (dd + 1) t k' k1').run P w = .ok b w := by
  rcases hd with ⟨j, rfl, rfl⟩ | ⟨rfl, rfl⟩
  · have hne : Nat.beq (codeK j) 100 = false := by cases j <;> rfl
    have h' : (Bool.rec (k.onInt none (fun i a => k1.onInt none (fun l b => bif Nat.beq i (codeK j) && Nat.beq l (codeK j) then some (eqI a b) else none)))
      (k.onStr none (fun a => k1.onStr none (fun b => some (eqS a b)))) (Nat.beq (codeK j) 100) : Option Bool) = some b := h
    rw [hne] at h'
    obtain ⟨i, x, rfl, h3⟩ := onInt_some h'
    obtain ⟨l, y, rfl, h4⟩ := onInt_some h3
    obtain ⟨h5, h6⟩ := bif_none h4
    simp only [Bool.and_eq_true] at h5
    obtain rfl := beq_iff.1 h5.1
    obtain rfl := beq_iff.1 h5.2
    obtain ⟨i1, e1, rfl⟩ := h1.int_inv
    obtain ⟨l1, e2, rfl⟩ := h2.int_inv
    obtain rfl := codeK_inj e1
    obtain rfl := codeK_inj e2
    obtain rfl := Option.some.inj h6
    rw [eqI_eq]
    unfold Op.equalIn
    simp only [Sem.run_bind, run_und ht, Result.andThen_ok, if_true]
    rfl
  · have h' : (k.onStr none (fun a => k1.onStr none (fun b => some (eqS a b))) : Option Bool) = some b := h
    obtain ⟨x, rfl, h3⟩ := onStr_some h'
    obtain ⟨y, rfl, h4⟩ := onStr_some h3
    obtain rfl := h1.str_inv
    obtain rfl := h2.str_inv
    obtain rfl := Option.some.inj h4
    rw [eqS_eq]
    have hb : ((⟨⟨x⟩⟩ : ByteArray) == ⟨⟨y⟩⟩) = decide (x = y) := by
      rw [Bool.eq_iff_iff, bytes_beq]
      simp
    unfold Op.equalIn
    simp only [Sem.run_bind, run_und ht, Result.andThen_ok, hb]
    rfl
theorem isIface_spec {t : TypeId} (h : isIface P t = true) : ∃ ms, P.underlying t = some (.interface ms) := by
  unfold isIface at h
  split at h
  · exact ⟨_, by assumption⟩
  · exact nomatch h
theorem eqW_ok {t : TypeId} (ht : ∃ ms, P.underlying t = some (.interface ms)) {x y : V} {x' y' : Value} {n : Nat} (h1 : VR ρ n x x') (h2 : VR ρ n y y') {b : Bool} (h : eqW (plainsT P) x y = some b) :
    (Op.equal t x' y').run P w = .ok b w ∧ Odd x' ∧ ∀ op xo yo, (eqGuard op t xo yo x' y').run P w = .ok () w := by
  obtain ⟨ms, ht⟩ := ht
  rcases onIface_some h with ⟨o1, i1, n1, c1, x1, hx, h3⟩ | ⟨t1, u1, l1, hx, h3⟩
  · rcases onIface_some h3 with ⟨o2, i2, n2, c2, x2, hy, h4⟩ | ⟨t2, u2, l2, hy, h4⟩
    · exact nomatch h4
    · rw [hx] at h1
      rw [hy] at h2
      obtain rfl := h1.nilIface_inv
      obtain ⟨u', rfl, _⟩ := h2.iface_inv
      obtain rfl := Option.some.inj h4
      exact ⟨equalIn_step fun d => by unfold Op.equalIn; simp only [Sem.run_bind, run_und ht, Result.andThen_ok]; rfl, trivial, fun op xo yo => by unfold eqGuard; split <;> rfl⟩
  · rw [hx] at h1
    obtain ⟨u', rfl, hu⟩ := h1.iface_inv
    rcases onIface_some h3 with ⟨o2, i2, n2, c2, x2, hy, h4⟩ | ⟨t2, u2, l2, hy, h4⟩
    · rw [hy] at h2
      obtain rfl := h2.nilIface_inv
      obtain rfl := Option.some.inj h4
      exact ⟨equalIn_step fun d => by unfold Op.equalIn; simp only [Sem.run_bind, run_und ht, Result.andThen_ok]; rfl, trivial, fun op xo yo => by unfold eqGuard; split <;> rfl⟩
    · rw [hy] at h2
      obtain ⟨u2', rfl, hu2⟩ := h2.iface_inv
      refine ⟨?_, trivial, fun op xo yo => by unfold eqGuard; split <;> rfl⟩
      show (Op.equalIn (9998 + 1 + 1) t (.iface t1 u') (.iface t2 u2')).run P w = .ok b w
      unfold Op.equalIn
      simp only [Sem.run_bind, run_und ht, Result.andThen_ok]
      by_cases e : t1 = t2
      · subst e
        rw [beqT rfl] at h4
        obtain ⟨k, hk, h5⟩ := orec_none (show (Option.rec none (fun k => eqKey k u1 u2) (plainIn (plainsT P) t1) : Option Bool) = some b from h4)
        obtain ⟨i, d, hi, hc, hu', hd⟩ := plainsT_spec (plainIn_mem hk)
        have h6 := eqKey_equal (w := w) hd hu' hu hu2 h5 9998
        simp only [ne_eq, not_true_eq_false, if_false, Sem.run_bind, typeInfo, hi, hc]
        simpa [typeInfo, hi, hc] using h6
      · rw [beqF e] at h4
        obtain rfl := Option.some.inj h4
        simp [e]
theorem g_eqi (c : Ctx P base ρ st w nt tm a) {op : BinOp} {t u : TypeId} {x y : Operand} {x' y' : X} {ne : Bool} (hop : (op = .eql ∧ ne = false) ∨ (op = .neq ∧ ne = true)) (hi : isIface P t = true) (ho : o.op = .binOp op t x y u)
    (hx : compX P x = some x') (hy : compX P y = some y') (h : iEqi ne (plainsT P) x' y' tm st = some v) : Gives P ρ st.next w a o v := by
  obtain ⟨b, h1, h2⟩ := orec_none h
  obtain rfl := Option.some.inj h2
  obtain ⟨h3, hodd, h4⟩ := eqW_ok (w := w) (isIface_spec hi) (c.opd hx) (c.opd hy) h1
  refine gives (s := do eqGuard op t x y (a.eval x) (a.eval y); binOp op t (a.eval x) (a.eval y)) (by unfold execOp; rw [ho]) (v' := .bool (b != ne)) ?_ (.bool _)
  unfold Hands
  simp only [Sem.run_bind, h4, Result.andThen_ok]
  rcases hop with ⟨rfl, rfl⟩ | ⟨rfl, rfl⟩
  · rw [odd_eql hodd]; simp only [Sem.run_bind, h3]; simp
  · rw [odd_neq hodd]; simp only [Sem.run_bind, h3]; simp
end ops
end Go.Proofs.YtjdbcfnlehedmaaGreatDoor.Av
