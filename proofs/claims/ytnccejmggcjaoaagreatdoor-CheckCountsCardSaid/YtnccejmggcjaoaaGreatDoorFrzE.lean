/-
  EXPRESSIONS THAT COME BACK: nobody turns them any more.
-/
import Derived.Test.YtnccejmggcjaoaaGreatDoorRef
import Derived.Test.YtnccejmggcjaoaaGreatDoorIc
namespace Go.Proofs.YtnccejmggcjaoaaGreatDoor.Av
set_option linter.unusedVariables false
set_option linter.unusedSimpArgs false
set_option maxRecDepth 1000000
open Go
theorem size_E : sizeT Tryz.prog 43 = some 6 := by kernel_rfl
section
variable {f : Nat} {args : List V} {st s : St}
theorem freezeE0 {k n : Int} {op v fl : Str} (h : CallAt Tryz.prog f args st (.ret (.cmp 2 0 [.int 63 k, .str op, .int 63 n, .str v, .str fl, .ref 2 0 0 0 0 false])) s) : CallAt Tryz.prog f args st (.ret (.cmp 2 0 (cE (.mk k op n v fl [])))) s :=
  freeze (D := fun _ => False) h (fun _ hd => hd.elim) ⟨rfl, fun _ hd => hd.elim, fun o b' hb => ⟨b', hb, .inl rfl⟩⟩ (Nat.le_refl _) (fun _ _ _ => rfl) (fun _ _ _ => rfl)
    (.ret _ _ (.cmp 2 0 _ _ (by decide) (.cons (.same _) (.cons (.same _) (.cons (.same _) (.cons (.same _) (.cons (.same _) (.cons .nil .nil))))))))
theorem freezeE {k n : Int} {op v fl : Str} {ko m : Nat} {x : Bool} {ks : List Et} (h : CallAt Tryz.prog f args st (.ret (.cmp 2 0 [.int 63 k, .str op, .int 63 n, .str v, .str fl, .ref 3 ko 0 m m x])) s) (hko : st.next ≤ ko)
    (hg : s.mem.get ko = some (.cells 43 (cEs ks) true)) (hm : m = ks.length) : CallAt Tryz.prog f args st (.ret (.cmp 2 0 (cE (.mk k op n v fl ks)))) (s.put ko none) := by
  subst hm
  refine freeze (D := fun y => y = ko) h (fun _ hd => by subst hd; exact hko) ⟨rfl, fun y hd => by rw [put_get, if_pos hd], fun o b' hb => ?_⟩ (by rw [put_low]; exact Nat.min_le_left _ _) (fun o ho _ => by rw [put_get, if_neg (by omega)]) (fun o ho _ => by rw [put_get, if_neg (by omega)]) ?_
  · rw [put_get] at hb
    split at hb
    · exact nomatch hb
    · exact ⟨b', hb, .inl rfl⟩
  · refine .ret _ _ (.cmp 2 0 _ _ (by decide) (.cons (.same _) (.cons (.same _) (.cons (.same _) (.cons (.same _) (.cons (.same _) (.cons ?_ .nil)))))))
    refine .fsl ko 0 _ _ _ 43 6 (cEs ks) (cEs ks) rfl hg size_E (by rw [cEs_len]; omega) ?_
    rw [List.drop_zero, List.take_of_length_le (by rw [cEs_len]; exact Nat.le_refl _)]
    exact Fvs.refl _
end
theorem back_new {st T : St} {r : CR} (h : r.under st.next = false) : back st r T = { next := T.next, low := bif Nat.ble st.low T.low then st.low else T.low, mem := T.mem } := by
  unfold back
  rw [h, Bool.and_false]; rfl
theorem under_slice {st : St} {k n : Int} {op v fl : Str} {ko m : Nat} {x : Bool} (h : st.next ≤ ko) : (CR.ret (.cmp 2 0 [.int 63 k, .str op, .int 63 n, .str v, .str fl, .ref 3 ko 0 m m x])).under st.next = false := by
  show (V.cmp 2 0 [.int 63 k, .str op, .int 63 n, .str v, .str fl, .ref 3 ko 0 m m x]).under st.next = false
  rw [under_cmp]
  have : (V.ref 3 ko 0 m m x).under st.next = false := by
    cases hb : (V.ref 3 ko 0 m m x).under st.next with
    | false => rfl
    | true => have := (under_ref st.next 3 ko 0 m m x).1 hb (.inr (.inl rfl)); omega
  simp only [List.all_cons, this, Bool.false_and, Bool.and_false]
theorem x_stepC1 {call : Callee} {tm : Tr V} {st s' : St} {d : Option Pa} {k : DK} {rs : Rds} {us : List Pa} {go : Option Pa → K → K} {cs : List Nat} {v : V} (h : oneV go call (pickT us tm) st.fresh = some (.ret v, s')) (hs : seeAll cs rs (st.after s') = true) :
    stepC cs us d go none k call tm st rs = k call (putT tm d v) (st.after s') rs := by
  show (Option.rec none (fun p => Prod.rec (fun c s' => CR.rec
        (fun v => bif Nat.ble st.next s'.low then k call (putT tm d v) (st.after s') rs else bif seeAll cs rs (st.after s') then k call (putT tm d v) (st.after s') rs else none)
        (fun v => some (.pan v (st.after s'))) c) p) (oneV go call (pickT us tm) st.fresh) : Option DR) = _
  rw [h]
  show (bif Nat.ble st.next s'.low then k call (putT tm d v) (st.after s') rs else bif seeAll cs rs (st.after s') then k call (putT tm d v) (st.after s') rs else none) = _
  rw [hs]
  cases Nat.ble st.next s'.low <;> rfl
theorem see_cons (cs : List Nat) (i : Nat) (f : St → Bool) (rs : Rds) (s : St) : seeAll cs ((i, f) :: rs) s = bif memN cs i then f s && seeAll cs rs s else seeAll cs rs s := Eq.trans (Eq.refl _) rfl
theorem see_nil (cs : List Nat) (s : St) : seeAll cs [] s = true := Eq.trans (Eq.refl _) rfl
theorem memN_c (x : Nat) (l : List Nat) (n : Nat) : memN (x :: l) n = bif Nat.beq x n then true else memN l n := Eq.trans (Eq.refl _) rfl
theorem sees_ret (v u : V) (s : St) : seesV v (some (.ret u, s)) = sameV v u := Eq.trans (Eq.refl _) rfl
theorem after_mem (s s' : St) : (s.after s').mem = s'.mem := Eq.trans (Eq.refl _) rfl
theorem after_next (s s' : St) : (s.after s').next = s'.next := Eq.trans (Eq.refl _) rfl
theorem Moved.after {o : Nat} {f : Fd} {vv vo : V} {a : Nat} {s s' : St} (h : Moved o f vv vo a s.fresh s') (hl : s.low ≤ s.next) : Moved o f vv vo a s (s.after s') := by
  have h1 := h.low
  have h2 : s.fresh.low = s.next := rfl
  have hlt : o < s.next := h.lt
  have hlo : (s.after s').low = min s.low s'.low := by
    show (bif Nat.ble s.low s'.low then s.low else s'.low) = _
    by_cases hb : s.low ≤ s'.low
    · rw [bleT hb, cond_true]; omega
    · rw [bleF hb, cond_false]; omega
  exact ⟨hlt, ⟨h.feed.lt, h.feed.get, h.feed.vars, h.feed.of_, h.feed.len, h.feed.bytes⟩, h.le, h.next, by rw [hlo]; omega, h.mem, fun hx => h.same (by rw [hlo] at hx; omega)⟩
end Go.Proofs.YtnccejmggcjaoaaGreatDoor.Av
