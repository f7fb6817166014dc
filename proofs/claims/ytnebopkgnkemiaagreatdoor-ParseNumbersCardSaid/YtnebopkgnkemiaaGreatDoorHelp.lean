/-
  SMALL LAWS OF NUMBERS, TEXTS, ROWS AND WORDS IN MEMORY, for the walks of the laws of lex.
-/
import Derived.Test.YtnebopkgnkemiaaGreatDoorAllC
namespace Go.Proofs.YtnebopkgnkemiaaGreatDoor.Av
set_option linter.unusedVariables false
set_option linter.unusedSimpArgs false
set_option maxRecDepth 1000000
open Go
theorem wrap_lt {k m : Nat} (h : m < 2 ^ k) : wrapC k (Int.ofNat m) = Int.ofNat m := by
  show (Bool.rec ((kindC k).wrap (.ofNat m)) (.ofNat m) (Nat.blt m (Nat.pow 2 k)) : Int) = _
  have : Nat.blt m (Nat.pow 2 k) = true := blt_iff.2 h
  rw [this]
theorem rem_ofNat (k a b : Nat) (h : eqI (Int.ofNat b) (.ofNat 0) = false) : fRem k (Int.ofNat a) (Int.ofNat b) = some (.int k (Int.ofNat (a % b))) := by
  unfold fRem; rw [h]; rfl
theorem quo_ofNat (k a b : Nat) (ha : a < 2 ^ k) (h : eqI (Int.ofNat b) (.ofNat 0) = false) : fQuo k (Int.ofNat a) (Int.ofNat b) = some (.int k (Int.ofNat (a / b))) := by
  unfold fQuo
  rw [h]
  show some (V.int k (wrapC k (Int.ofNat (a / b)))) = _
  rw [wrap_lt (Nat.lt_of_le_of_lt (Nat.div_le_self a b) ha)]
theorem Grew.new (st : St) (b : Ob) : Grew st (st.new b) :=
  ⟨Nat.le_succ _, fun _ h _ => h, fun o ho => by rw [new_get, if_neg (by omega)]⟩
theorem eqS_nil_cons (c : UInt8) (t : List UInt8) : eqS (c :: t) [] = false := by rw [eqS_eq]; exact decide_eq_false (by simp)
theorem lss_ofNat (k a b : Nat) : fLss k (Int.ofNat a) (Int.ofNat b) = some (.bool (decide (a < b))) := by
  show some (V.bool (ltI (Int.ofNat a) (Int.ofNat b))) = _
  rw [ltI_cast]
theorem eql_ofNat (k a b : Nat) : fEql k (Int.ofNat a) (Int.ofNat b) = some (.bool (decide (a = b))) := by
  show some (V.bool (Nat.beq a b)) = _
  by_cases h : a = b
  · rw [beqT h, decide_eq_true h]
  · rw [beqF h, decide_eq_false h]
def Row (st : St) (k : Nat) (v : V) (zs : List Nat) : Prop := (v = .ref 2 0 0 0 0 false ∧ zs = []) ∨ ∃ o cap, v = .ref 3 o 0 zs.length cap true ∧ o < st.next ∧ st.mem.get o = some (.cells 0 (zs.map fun z => .int k (Int.ofNat z)) false)
theorem Row.grew {st S : St} {k : Nat} {v : V} {zs : List Nat} (h : Row st k v zs) (hg : Grew st S) : Row S k v zs := by
  rcases h with h | ⟨o, cap, h1, h2, h3⟩
  · exact .inl h
  · exact .inr ⟨o, cap, h1, Nat.lt_of_lt_of_le h2 hg.next, (hg.mem o h2).trans h3⟩
theorem Row.len {st : St} {k : Nat} {v : V} {zs : List Nat} (h : Row st k v zs) : v.onSlice none (some (V.int 63 (.ofNat 0))) (fun _ _ n _ _ => some (V.int 63 (.ofNat n))) = some (.int 63 (Int.ofNat zs.length)) := by
  rcases h with ⟨rfl, rfl⟩ | ⟨o, cap, rfl, _⟩
  · rfl
  · rfl
theorem Row.at {st : St} {k : Nat} {v : V} {zs : List Nat} (h : Row st k v zs) {i : Nat} (hi : i < zs.length) : ∃ o cap, v = .ref 3 o 0 zs.length cap true ∧ st.mem.get o = some (.cells 0 (zs.map fun z => .int k (Int.ofNat z)) false) := by
  rcases h with ⟨_, rfl⟩ | ⟨o, cap, h1, _, h3⟩
  · simp at hi
  · exact ⟨o, cap, h1, h3⟩
theorem row_ld {st : St} {k o i : Nat} {zs : List Nat} (hg : st.mem.get o = some (.cells 0 (zs.map fun z => .int k (Int.ofNat z)) false)) (hi : i < zs.length) {x : X} {tm : Tr V} (hx : x.ev tm = .ref 1 o i 0 0 false) : iLoad false 1 x tm st = some (.int k (Int.ofNat zs[i])) :=
  x_load1 (o := o) (i := i) hx hg (by rw [List.getElem?_map, List.getElem?_eq_getElem hi]; rfl)
theorem row_iad {st : St} {o i n cap kk : Nat} {x y : X} {tm : Tr V} (hx : x.ev tm = .ref 3 o 0 n cap true) (hy : y.ev tm = .int kk (Int.ofNat i)) (hi : i < n) : iIad 1 x y tm st = some (.ref 1 o i 0 0 false) := by
  have h := x_iad (n := 1) (st := st) (x := x) (i := y) (tm := tm) (o := o) (b := 0) (m := n) (c := cap) (k := i) (kk := kk) (ex := true) hx hy hi
  rw [h]
  simp
theorem sAdd_short {a b : List UInt8} (ha : a.length ≤ 1000) (hb : b.length ≤ 4) : sAdd a b = some (.str (a ++ b)) := by
  unfold sAdd
  rw [bleT (by rw [lenL_eq, lenL_eq]; show a.length + b.length ≤ _; omega), appL_eq]
theorem geq_ofNat (k a b : Nat) : fGeq k (Int.ofNat a) (Int.ofNat b) = some (.bool (decide (b ≤ a))) := by
  show some (V.bool (!ltI (Int.ofNat a) (Int.ofNat b))) = _
  rw [ltI_cast]
  by_cases h : a < b
  · rw [decide_eq_true h, decide_eq_false (by omega)]; rfl
  · rw [decide_eq_false h, decide_eq_true (by omega)]; rfl
theorem leq_ofNat (k a b : Nat) : fLeq k (Int.ofNat a) (Int.ofNat b) = some (.bool (decide (a ≤ b))) := geq_ofNat k b a
theorem get_isL : tableL.get 85 = some (.spec nameG) := by kernel_rfl
theorem nameL_ev (n : Nat) (s : List UInt8) (st : St) (h : hasU st = true) (hs : s.length ≤ 9223372036854775807) : evF tableL (n + 1) 85 [.str s] st = some (.ret (.bool (isNameL s)), st) := by
  refine ev_spec get_isL ?_
  show (bif hasU st && Nat.ble (lenL s) 9223372036854775807 then some (V.bool (isNameL s)) else none) = _
  rw [h, lenL_eq, bleT hs]
  rfl
theorem eql_int (k : Nat) (a b : Int) : fEql k a b = some (.bool (decide (a = b))) := by
  show some (V.bool (eqI a b)) = _
  rw [eqI_eq]
theorem tok_at {L : Nat} {st : St} {v : V} {l : List TokA} (h : TokSl L st v l) (hl : l ≠ []) : ∃ o, v = .ref 3 o 0 l.length l.length false ∧ st.mem.get o = some (.cells 88 (cellsA l) true) := by
  rcases h with ⟨rfl, _⟩ | ⟨o, _, _, _, h4, h5⟩
  · exact absurd rfl hl
  · exact ⟨o, h4, h5⟩
noncomputable def strO (l : List (List UInt8)) : Ob := .cells 9 (l.map .str) true
theorem str_ld {st : St} {o i : Nat} {l : List (List UInt8)} (hg : st.mem.get o = some (strO l)) (hi : i < l.length) {x : X} {tm : Tr V} (hx : x.ev tm = .ref 1 o i 0 0 false) : iLoad false 1 x tm st = some (.str (l.getD i [])) :=
  x_load1 (o := o) (i := i) hx hg (by rw [List.getElem?_map, List.getElem?_eq_getElem hi, List.getD_eq_getElem?_getD, List.getElem?_eq_getElem hi]; rfl)
theorem str_iad {st : St} {o i n cap kk : Nat} {ex : Bool} {x y : X} {tm : Tr V} (hx : x.ev tm = .ref 3 o 0 n cap ex) (hy : y.ev tm = .int kk (Int.ofNat i)) (hi : i < n) : iIad 1 x y tm st = some (.ref 1 o i 0 0 false) := by
  have h := x_iad (n := 1) (st := st) (x := x) (i := y) (tm := tm) (o := o) (b := 0) (m := n) (c := cap) (k := i) (kk := kk) (ex := ex) hx hy hi
  rw [h]
  simp
theorem sAdd_len {a b : List UInt8} (h : a.length + b.length ≤ 1000) : sAdd a b = some (.str (a ++ b)) := by
  unfold sAdd
  rw [bleT (by rw [lenL_eq, lenL_eq]; show a.length + b.length ≤ _; omega), appL_eq]
theorem ev_at {tm : Tr V} {p : Pa} {v : V} (h : tm.at p = some v) : X.ev tm (.t p) = v := by
  rw [ev_t, h]; rfl
theorem x_fresh (st : St) (h : st.low = st.next) : st.fresh = st := by
  cases st; unfold St.fresh; cases h; rfl
end Go.Proofs.YtnebopkgnkemiaaGreatDoor.Av
