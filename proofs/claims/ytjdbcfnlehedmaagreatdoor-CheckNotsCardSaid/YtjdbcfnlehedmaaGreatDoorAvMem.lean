/-
  HOW THE RELATION IS KEPT: a new block, a block turned, an object let go.
-/
import Derived.Test.YtjdbcfnlehedmaaGreatDoorAvRel
namespace Go.Proofs.YtjdbcfnlehedmaaGreatDoor.Av
set_option linter.unusedVariables false
set_option linter.unusedSimpArgs false
open Go Go.RowKit

theorem Lies.mono {ρ ρ' : Map} {n n' : Nat} (he : Ext ρ ρ' n) (hn : n ≤ n') {p : Pl} {cs : List V} {c : Array Value} (h : Lies ρ n p cs c) : Lies ρ' n' p cs c :=
  fun j v hv => let ⟨v', h1, h2, h3⟩ := h j v hv; ⟨v', h1, h2.mono he hn, h3⟩
theorem Entries.mono {ρ ρ' : Map} {n n' : Nat} (he : Ext ρ ρ' n) (hn : n ≤ n') : ∀ {l : List (V × V)} {l' : List MapEntry}, Entries ρ n l l' → Entries ρ' n' l l'
  | [], [], _ => trivial
  | (k, v) :: l, e :: l', h => ⟨h.1.mono he hn, h.2.1.mono he hn, Entries.mono he hn h.2.2⟩
  | [], _ :: _, h => h.elim
  | _ :: _, [], h => h.elim
theorem OR.mono {P : Program} {ρ ρ' : Map} {n n' : Nat} (he : Ext ρ ρ' n) (hn : n ≤ n') {w w' : World} {p : Pl} {b : Ob} (hw : w'.heap[p.b]? = w.heap[p.b]?) (h : OR P ρ n w p b) : OR P ρ' n' w' p b := by
  cases b with
  | cells e cs own =>
    obtain ⟨c, e', lo, hi, h1, h2, h3, h4⟩ := h
    exact ⟨c, e', lo, hi, by rw [hw]; exact h1, h2.mono he hn, h3, h4⟩
  | iter s pos =>
    obtain ⟨h1, h2⟩ := h
    exact ⟨by rw [hw]; exact h1, h2⟩
  | map es =>
    obtain ⟨es', clock, h1, h2⟩ := h
    exact ⟨es', clock, by rw [hw]; exact h1, h2.mono he hn⟩
theorem OR.lt {P : Program} {ρ : Map} {n : Nat} {w : World} {p : Pl} {b : Ob} (h : OR P ρ n w p b) : p.b < w.heap.size := by
  have key : ∀ o, w.heap[p.b]? = some o → p.b < w.heap.size := fun o ho => (Array.getElem?_eq_some_iff.1 ho).1
  cases b with
  | cells e cs own => obtain ⟨c, e', lo, hi, h1, _⟩ := h; exact key _ h1
  | iter s pos => exact key _ h.1
  | map es => obtain ⟨es', clock, h1, _⟩ := h; exact key _ h1
variable {P : Program} {base : Nat} {ρ : Map} {st : St} {w : World}
theorem Rel.of_heap {w' : World} (h : Rel P base ρ st w) (hw : w'.heap = w.heap) : Rel P base ρ st w' :=
  ⟨fun o b hb => ⟨(h.obj o b hb).1, fun hl => ((h.obj o b hb).2 hl).mono (Ext.refl _ _) (Nat.le_refl _) (by rw [hw])⟩, h.sep, h.base, h.glob⟩
/-- The map with a new object. -/
def Map.new (ρ : Map) (n : Nat) (p : Pl) : Map := fun o => if o = n then p else ρ o
theorem Map.new_same (ρ : Map) (n : Nat) (p : Pl) : ρ.new n p n = p := if_pos rfl
theorem Map.new_ne (ρ : Map) {n o : Nat} (p : Pl) (h : o ≠ n) : ρ.new n p o = ρ o := if_neg h
theorem Map.new_ext (ρ : Map) (n : Nat) (p : Pl) : Ext ρ (ρ.new n p) n := fun o ho _ => Map.new_ne ρ p (by omega)
theorem Map.new_lv (ρ : Map) (n : Nat) {p : Pl} (h : p.live = true) : Lv (ρ.new n p) (n + 1) n := ⟨Nat.lt_succ_self _, by rw [Map.new_same]; exact h⟩
theorem new_get (st : St) (b : Ob) (o : Nat) : (st.new b).mem.get o = if o = st.next then some b else st.mem.get o := get_set _ _ _ _
theorem put_get (st : St) (k : Nat) (b : Option Ob) (o : Nat) : (st.put k b).mem.get o = if o = k then b else st.mem.get o := get_set _ _ _ _
theorem put_low (st : St) (k : Nat) (b : Option Ob) : (st.put k b).low = min st.low k := by
  show (bif Nat.ble st.low k then st.low else k) = _
  by_cases h : st.low ≤ k
  · rw [bleT h]; simp; omega
  · rw [bleF h]; simp; omega
theorem new_next (st : St) (b : Ob) : (st.new b).next = st.next + 1 := rfl
theorem put_next (st : St) (k : Nat) (b : Option Ob) : (st.put k b).next = st.next := rfl
theorem Turn.new (st : St) (b : Ob) : Turn st (st.new b) :=
  ⟨by rw [new_next]; omega, Nat.le_refl _, fun o ho _ => by rw [new_get, if_neg (by omega)]⟩
theorem Turn.put (st : St) (k : Nat) (b : Option Ob) : Turn st (st.put k b) :=
  ⟨Nat.le_refl _, by rw [put_low]; omega, fun o ho hl => by rw [put_low] at hl; rw [put_get, if_neg (by omega)]⟩
theorem Dead.new (ρ : Map) (st : St) (b : Ob) (p : Pl) : Dead ρ (ρ.new st.next p) st (st.new b) := fun o ho hd =>
  ⟨by rw [Map.new_ne _ _ (by omega)]; exact hd, by rw [new_get, if_neg (by omega)]⟩
theorem Dead.put {ρ : Map} {st : St} {k : Nat} (h : (ρ k).live = true) (b : Option Ob) : Dead ρ ρ st (st.put k b) := fun o _ hd =>
  ⟨hd, by rw [put_get, if_neg (fun e => by rw [e, h] at hd; exact nomatch hd)]⟩
theorem push_old (w : World) (x : Obj) {k : Nat} (h : k < w.heap.size) : ({ w with heap := w.heap.push x } : World).heap[k]? = w.heap[k]? := by
  show (w.heap.push x)[k]? = _
  rw [Array.getElem?_push, if_neg (by omega)]
/-- A new block. -/
theorem Rel.push (h : Rel P base ρ st w) (hb : base ≤ w.heap.size) (x : Obj) (b : Ob) (p : Pl) (hp : p.b = w.heap.size)
    (ho : OR P (ρ.new st.next p) (st.next + 1) { w with heap := w.heap.push x } p b) :
    Rel P base (ρ.new st.next p) (st.new b) { w with heap := w.heap.push x } := by
  refine ⟨fun o c hc => ?_, fun o o' c c' hl hl' hc hc' hne hown => ?_, fun o c hl hc hown => ?_,
    by rw [new_next]; have := h.glob.1; omega, fun g hg => by rw [Map.new_ne _ _ (by have := h.glob.1; omega)]; exact h.glob.2 g hg⟩
  · rw [new_get] at hc
    by_cases e : o = st.next
    · rw [if_pos e] at hc
      obtain rfl := Option.some.inj hc
      subst e
      exact ⟨by rw [new_next]; omega, fun _ => by rw [Map.new_same]; exact ho⟩
    · rw [if_neg e] at hc
      obtain ⟨h1, h2⟩ := h.obj o c hc
      refine ⟨by rw [new_next]; omega, ?_⟩
      rw [Map.new_ne _ _ e]
      intro hl
      exact (h2 hl).mono (Map.new_ext _ _ _) (by rw [new_next]; omega) (push_old w x (h2 hl).lt)
  · rw [new_get] at hc hc'
    by_cases e : o = st.next
    · rw [if_pos e] at hc
      have e' : o' ≠ st.next := fun h => hne (by omega)
      rw [if_neg e'] at hc'
      rw [Map.new_ne _ _ e'] at hl'
      rw [e, Map.new_same, Map.new_ne _ _ e', hp]
      have := ((h.obj o' c' hc').2 hl').lt
      omega
    · rw [if_neg e] at hc
      rw [Map.new_ne _ _ e] at hl
      by_cases e' : o' = st.next
      · rw [e', Map.new_same, Map.new_ne _ _ e, hp]
        have := ((h.obj o c hc).2 hl).lt
        omega
      · rw [if_neg e'] at hc'
        rw [Map.new_ne _ _ e'] at hl'
        rw [Map.new_ne _ _ e, Map.new_ne _ _ e']
        exact h.sep o o' c c' hl hl' hc hc' hne hown
  · rw [new_get] at hc
    by_cases e : o = st.next
    · rw [e, Map.new_same, hp]; exact hb
    · rw [if_neg e] at hc
      rw [Map.new_ne _ _ e] at hl
      rw [Map.new_ne _ _ e]
      exact h.base o c hl hc hown
/-- A block of the call's own is turned. -/
theorem Rel.turn (h : Rel P base ρ st w) {o n : Nat} {b b' : Ob} (hlv : Lv ρ n o) (hg : st.mem.get o = some b) (hown : b.own = true) (hown' : b'.own = true) {w' : World}
    (hw : ∀ k, k ≠ (ρ o).b → w'.heap[k]? = w.heap[k]?) (ho : OR P ρ st.next w' (ρ o) b') : Rel P base ρ (st.put o (some b')) w' := by
  refine ⟨fun k c hc => ?_, fun k k' c c' hl hl' hc hc' hne hk => ?_, fun k c hl hc hk => ?_, h.glob⟩
  · rw [put_get] at hc
    by_cases e : k = o
    · rw [if_pos e] at hc
      obtain rfl := Option.some.inj hc
      subst e
      exact ⟨(h.obj _ _ hg).1, fun _ => ho⟩
    · rw [if_neg e] at hc
      obtain ⟨h1, h2⟩ := h.obj k c hc
      exact ⟨h1, fun hl => (h2 hl).mono (Ext.refl _ _) (Nat.le_refl _) (hw _ (h.sep o k b c hlv.2 hl hg hc (Ne.symm e) hown).symm)⟩
  · rw [put_get] at hc hc'
    by_cases e : k = o
    · rw [if_neg (fun e' => hne (by omega))] at hc'
      rw [e]
      exact h.sep o k' b c' hlv.2 hl' hg hc' (by omega) hown
    · rw [if_neg e] at hc
      by_cases e' : k' = o
      · rw [e']
        exact (h.sep o k b c hlv.2 hl hg hc (Ne.symm e) hown).symm
      · rw [if_neg e'] at hc'
        exact h.sep k k' c c' hl hl' hc hc' hne hk
  · rw [put_get] at hc
    by_cases e : k = o
    · rw [e]; exact h.base o b hlv.2 hg hown
    · rw [if_neg e] at hc
      exact h.base k c hl hc hk
/-- An object is let go. -/
theorem Rel.drop (h : Rel P base ρ st w) (o : Nat) : Rel P base ρ (st.put o none) w := by
  refine ⟨fun k c hc => ?_, fun k k' c c' hl hl' hc hc' hne hk => ?_, fun k c hl hc hk => ?_, h.glob⟩
  · rw [put_get] at hc
    split at hc
    · cases hc
    · exact h.obj k c hc
  · rw [put_get] at hc hc'
    split at hc
    · cases hc
    · split at hc'
      · cases hc'
      · exact h.sep k k' c c' hl hl' hc hc' hne hk
  · rw [put_get] at hc
    split at hc
    · cases hc
    · exact h.base k c hl hc hk
/-- An object that was let go, whose block is taken by another one: it lies where the elder one lay. -/
theorem Rel.take (h : Rel P base ρ st w) {o n : Nat} {b b' : Ob} (hlv : Lv ρ n o) (hg : st.mem.get o = some b) (hown : b.own = true) {w' : World} (p : Pl) (hp : p.b = (ρ o).b)
    (hw : ∀ k, k ≠ (ρ o).b → w'.heap[k]? = w.heap[k]?) (ho : OR P (ρ.new st.next p) (st.next + 1) w' p b') :
    Rel P base (ρ.new st.next p) ((st.put o none).new b') w' := by
  refine ⟨fun k c hc => ?_, fun k k' c c' hl hl' hc hc' hne hk => ?_, fun k c hl hc hk => ?_,
    by rw [new_next, put_next]; have := h.glob.1; omega, fun g hg => by rw [Map.new_ne _ _ (by have := h.glob.1; omega)]; exact h.glob.2 g hg⟩
  · rw [new_get, put_next, put_get] at hc
    by_cases e : k = st.next
    · rw [if_pos e] at hc
      obtain rfl := Option.some.inj hc
      subst e
      exact ⟨by rw [new_next, put_next]; omega, fun _ => by rw [Map.new_same]; exact ho⟩
    · rw [if_neg e] at hc
      by_cases e' : k = o
      · rw [if_pos e'] at hc; cases hc
      · rw [if_neg e'] at hc
        obtain ⟨h1, h2⟩ := h.obj k c hc
        refine ⟨by rw [new_next, put_next]; omega, ?_⟩
        rw [Map.new_ne _ _ e]
        intro hl
        exact (h2 hl).mono (Map.new_ext _ _ _) (by rw [new_next, put_next]; omega) (hw _ (h.sep o k b c hlv.2 hl hg hc (Ne.symm e') hown).symm)
  · rw [new_get, put_next, put_get] at hc hc'
    by_cases e : k = st.next
    · have e1 : k' ≠ st.next := fun h => hne (by omega)
      rw [if_neg e1] at hc'
      by_cases e2 : k' = o
      · rw [if_pos e2] at hc'; cases hc'
      · rw [if_neg e2] at hc'
        rw [Map.new_ne _ _ e1] at hl'
        rw [e, Map.new_same, Map.new_ne _ _ e1, hp]
        exact h.sep o k' b c' hlv.2 hl' hg hc' (Ne.symm e2) hown
    · rw [if_neg e] at hc
      by_cases e2 : k = o
      · rw [if_pos e2] at hc; cases hc
      · rw [if_neg e2] at hc
        rw [Map.new_ne _ _ e] at hl
        by_cases e1 : k' = st.next
        · rw [e1, Map.new_same, Map.new_ne _ _ e, hp]
          exact (h.sep o k b c hlv.2 hl hg hc (Ne.symm e2) hown).symm
        · rw [if_neg e1] at hc'
          rw [Map.new_ne _ _ e1] at hl'
          by_cases e3 : k' = o
          · rw [if_pos e3] at hc'; cases hc'
          · rw [if_neg e3] at hc'
            rw [Map.new_ne _ _ e, Map.new_ne _ _ e1]
            exact h.sep k k' c c' hl hl' hc hc' hne hk
  · rw [new_get, put_next, put_get] at hc
    by_cases e : k = st.next
    · rw [e, Map.new_same, hp]; exact h.base o b hlv.2 hg hown
    · rw [if_neg e] at hc
      by_cases e2 : k = o
      · rw [if_pos e2] at hc; cases hc
      · rw [if_neg e2] at hc
        rw [Map.new_ne _ _ e] at hl
        rw [Map.new_ne _ _ e]
        exact h.base k c hl hc hk
end Go.Proofs.YtjdbcfnlehedmaaGreatDoor.Av
