/-
  VALUES PUT TOGETHER OF PARTS; rows of parts; whole objects turned; what readers saw, seen again.
-/
import Derived.Test.YtnccejmggcjaoaaGreatDoorLoop
namespace Go.Proofs.YtnccejmggcjaoaaGreatDoor.Av
set_option linter.unusedVariables false
set_option linter.unusedSimpArgs false
set_option maxRecDepth 1000000
open Go
noncomputable def fillS (z : List V) (off k : Nat) (o : Option (List V)) (g : List V → Option (List V)) : Option (List V) :=
  match o with
  | none => none
  | some cs => bif Nat.beq (lenL cs) k && Nat.ble (Nat.add off k) (lenL z) then g (splice z off cs) else none
section
variable {tm : Tr V} {st : St} {z l : List V} {off k n e m : Nat} {x : X} {v : V} {ps : List (Nat × Nat × X)} {g : List V → Option (List V)}
theorem fillV_0 : fillV tm z [] = some z := Eq.trans (Eq.refl _) rfl
theorem fillV_c : fillV tm z ((off, k, x) :: ps) = fillS z off k (X.ev tm x).cells? (fun z' => fillV tm z' ps) := by
  rw [fillV_cons]
  unfold fillS
  cases (X.ev tm x).cells? <;> rfl
theorem fillS_1 (h : off < z.length) : fillS z off 1 (some [v]) g = g (z.set off v) := by
  show (bif Nat.beq 1 1 && Nat.ble (Nat.add off 1) (lenL z) then g (splice z off [v]) else none) = _
  rw [lenL_eq, show Nat.ble (Nat.add off 1) z.length = true from bleT h]
  have : splice z off [v] = z.set off v := by
    rw [splice_eq, List.set_eq_take_append_cons_drop, if_pos h]; rfl
  rw [this]; rfl
theorem fillS_w (h : l.length = n) (h' : z.length = n) : fillS z 0 n (some l) g = g l := by
  show (bif Nat.beq (lenL l) n && Nat.ble (Nat.add 0 n) (lenL z) then g (splice z 0 l) else none) = _
  rw [lenL_eq, lenL_eq, beqT h, show Nat.ble (Nat.add 0 n) z.length = true from bleT (show 0 + n ≤ z.length by omega)]
  have : splice z 0 l = l := by
    rw [splice_eq, List.take_zero, List.nil_append, List.drop_of_length_le (by omega), List.append_nil]
  rw [this]; rfl
theorem fill_two {y : X} {r : List V} (hx : X.ev tm x = .cmp 2 0 l) (hy : X.ev tm y = .cmp 2 0 r) (hl : l.length = k) (hr : r.length = k) (hz : z.length = k + k) : fillV tm z [(0, k, x), (k, k, y)] = some (l ++ r) := by
  rw [fillV_c, hx]
  show (bif Nat.beq (lenL l) k && Nat.ble (Nat.add 0 k) (lenL z) then fillV tm (splice z 0 l) [(k, k, y)] else none) = _
  rw [lenL_eq, lenL_eq, beqT hl, show Nat.ble (Nat.add 0 k) z.length = true from bleT (show 0 + k ≤ z.length by omega)]
  show fillV tm (splice z 0 l) [(k, k, y)] = _
  have h1 : splice z 0 l = l ++ z.drop k := by rw [splice_eq, List.take_zero, List.nil_append, Nat.zero_add, hl]
  rw [h1, fillV_c, hy]
  show (bif Nat.beq (lenL r) k && Nat.ble (Nat.add k k) (lenL (l ++ z.drop k)) then fillV tm (splice (l ++ z.drop k) k r) [] else none) = _
  rw [lenL_eq, lenL_eq, beqT hr, show Nat.ble (Nat.add k k) (l ++ z.drop k).length = true from bleT (by show k + k ≤ _; simp; omega)]
  show fillV tm (splice (l ++ z.drop k) k r) [] = _
  rw [fillV_0, splice_eq, List.take_append, List.take_of_length_le (by omega), hl, Nat.sub_self, List.take_zero, List.append_nil, List.drop_of_length_le (by simp; omega), List.append_nil]
theorem m_bsl : iBsl e n z ps tm st = Option.rec none (fun l => some (.ref 3 st.next 0 n n true, st.new (.cells e l true))) (fillV tm z ps) := Eq.trans (Eq.refl _) rfl
theorem m_build : iBuild z ps tm st = Option.rec none (fun l => some (.cmp 2 0 l)) (fillV tm z ps) := Eq.trans (Eq.refl _) rfl
theorem cells_agg2 : (V.cmp 2 0 l).cells? = some l := Eq.trans (Eq.refl _) rfl
theorem stW_whole {S : St} {o k : Nat} {cs l : List V} (h : S.mem.get o = some (.cells k cs true)) (hl : l.length = n) (hc : cs.length = n) : stW n (.ref 1 o 0 0 0 false) (.cmp 2 0 l) S = some (.undef, S.put o (some (.cells k l true))) := by
  unfold stW
  rw [x_onPtr, cells_agg2]
  show onCells none _ (S.mem.get o) = _
  rw [h]
  show (bif true && (Nat.beq (lenL l) n && Nat.ble (Nat.add 0 n) (lenL cs)) then some (V.undef, S.put o (some (.cells k (splice cs 0 l) true))) else none) = _
  rw [lenL_eq, lenL_eq, beqT hl, show Nat.ble (Nat.add 0 n) cs.length = true from bleT (show 0 + n ≤ cs.length by omega)]
  have : splice cs 0 l = l := by
    rw [splice_eq, List.take_zero, List.nil_append, List.drop_of_length_le (by omega), List.append_nil]
  rw [this]; rfl
theorem iad_own {y : X} {o c i j : Nat} {b : Bool} (hx : X.ev tm x = .ref 3 o 0 m c b) (hy : X.ev tm y = .int j (Int.ofNat i)) (hi : i < m) : iIad k x y tm st = some (.ref 1 o (i * k) 0 0 false) := by
  rw [x_iad (n := k) hx hy hi, Nat.zero_add]
theorem part_nth {cs : List V} {i : Nat} (h : cs[i]? = some v) : part false cs i n = some v := by
  show nth cs i = _
  rw [nth_eq, h]
end
theorem leave_mem {st st' : St} {tm : Tr V} {j n : Nat} {v : V} (hv : ldW true n (X.ev tm (.t (pa j))) st' = some v) : leaveF st [.m (pa j) true n] (some (.ret, tm, st')) = some (.ret v, back st (.ret v) st') := by
  show (Option.rec none (fun v => some (.ret v, back st (.ret v) st')) (iLoad true n (.t (pa j)) tm st') : Option (CR × St)) = _
  rw [m_load, hv]
mutual
theorem sameV_refl : ∀ v : V, sameV v v = true
  | .int k n => by show (Nat.beq k k && eqI n n) = true; rw [beqT rfl, eqI_dec]; simp
  | .str s => by show eqS s s = true; rw [eqS_eq]; simp
  | .bool b => by cases b <;> rfl
  | .ref t o i n c x => by
    show (Nat.beq t t && (Nat.beq o o && (Nat.beq i i && (Nat.beq n n && (Nat.beq c c && Bool.rec (Bool.rec true false x) x x))))) = true
    rw [beqT rfl, beqT rfl, beqT rfl, beqT rfl, beqT rfl]; cases x <;> rfl
  | .cmp t a l => by
    rw [sameV_cmp]
    show (Nat.beq t t && (Nat.beq a a && sameL l l)) = true
    rw [beqT rfl, beqT rfl, sameL_refl l]; rfl
theorem sameL_refl : ∀ l : List V, sameL l l = true
  | [] => rfl
  | v :: l => by
    show (sameV v v && sameL l l) = true
    rw [sameV_refl v, sameL_refl l]; rfl
end
theorem x_stepC1 {call : Callee} {tm : Tr V} {st s' : St} {d : Option Pa} {k : DK} {rs : Rds} {us : List Pa} {go : Option Pa → K → K} {cs : List Nat} {v : V} (h : oneV go call (pickT us tm) st.fresh = some (.ret v, s')) (hs : seeAll cs rs (st.after s') = true) :
    stepC cs us d go none k call tm st rs = k call (putT tm d v) (st.after s') rs := by
  show (Option.rec none (fun p => Prod.rec (fun c s' => CR.rec
        (fun v => bif Nat.ble st.next s'.low then k call (putT tm d v) (st.after s') rs else bif seeAll cs rs (st.after s') then k call (putT tm d v) (st.after s') rs else none)
        (fun v => some (.pan v (st.after s'))) c) p) (oneV go call (pickT us tm) st.fresh) : Option DR) = _
  rw [h]
  show (bif Nat.ble st.next s'.low then k call (putT tm d v) (st.after s') rs else bif seeAll cs rs (st.after s') then k call (putT tm d v) (st.after s') rs else none) = _
  rw [hs]
  cases Nat.ble st.next s'.low <;> rfl
theorem see_cons (cs : List Nat) (i : Nat) (f : St → Bool) (rs : Rds) (s : St) : seeAll cs ((i, f) :: rs) s = bif memN cs i then f s && seeAll cs rs s else seeAll cs rs s := Eq.trans (Eq.refl _) rfl
theorem see_nil (cs : List Nat) (s : St) : seeAll cs [] s = true := Eq.trans (Eq.refl _) rfl
theorem memN_c (x : Nat) (l : List Nat) (n : Nat) : memN (x :: l) n = bif Nat.beq x n then true else memN l n := Eq.trans (Eq.refl _) rfl
theorem sees_ret (v u : V) (s : St) : seesV v (some (.ret u, s)) = sameV v u := Eq.trans (Eq.refl _) rfl
theorem after_mem (s s' : St) : (s.after s').mem = s'.mem := Eq.trans (Eq.refl _) rfl
theorem after_next (s s' : St) : (s.after s').next = s'.next := Eq.trans (Eq.refl _) rfl
noncomputable def oneS (see : St → Bool) (f : V → St → Option DR) (st : St) (r : Option (CR × St)) : Option DR :=
  Option.rec none (fun p => Prod.rec (fun c s' => CR.rec (fun v => bif Nat.ble st.next s'.low then f v (st.after s') else bif see (st.after s') then f v (st.after s') else none) (fun v => some (.pan v (st.after s'))) c) p) r
theorem x_stepCE {call : Callee} {tm : Tr V} {st : St} {d : Option Pa} {k : DK} {rs : Rds} {us : List Pa} {go : Option Pa → K → K} {cs : List Nat} :
    stepC cs us d go none k call tm st rs = oneS (seeAll cs rs) (fun v s => k call (putT tm d v) s rs) st (oneV go call (pickT us tm) st.fresh) := Eq.trans (Eq.refl _) rfl
theorem x_oneS {see : St → Bool} {f : V → St → Option DR} {st s' : St} {v : V} (h : see (st.after s') = true) : oneS see f st (some (.ret v, s')) = f v (st.after s') := by
  show (bif Nat.ble st.next s'.low then f v (st.after s') else bif see (st.after s') then f v (st.after s') else none) = _
  rw [h]
  cases Nat.ble st.next s'.low <;> rfl
theorem m_nck {tm : Tr V} {st : St} {x : X} : iNck x tm st = (x.ev tm).onPtr ((x.ev tm).onCmp none (fun t a l => bif Nat.ble t 1 || (Nat.beq t 5 || Nat.beq t 7) then some (.cmp t a l) else none)) (fun o i => some (.ref 1 o i 0 0 false)) := Eq.trans (Eq.refl _) rfl
def cB (l : List Nat) : List V := l.map fun b => .int 8 (Int.ofNat b)
theorem cB_len (l : List Nat) : (cB l).length = l.length := List.length_map _
theorem iad_B {L : List Nat} {x y : X} {tm : Tr V} {st : St} {i : Nat} (hx : x.ev tm = slT 4 L.length (cB L)) (hy : y.ev tm = .int 63 (Int.ofNat i)) (hi : i < L.length) : iIad 1 x y tm st = some (.cmp 5 0 (.int 8 (Int.ofNat L[i]) :: cB (L.drop (i + 1)))) := by
  rw [m_iad4 hx hy hi (by rw [cB_len]; omega)]
  congr 2
  rw [Nat.mul_one]
  unfold cB
  rw [← List.map_drop, List.drop_eq_getElem_cons hi]; rfl
theorem stW_at {S : St} {o k i : Nat} {v : V} {cs : List V} (h : S.mem.get o = some (.cells k cs true)) (hv : v.cells? = some [v]) (hi : i < cs.length) : stW 1 (.ref 1 o i 0 0 false) v S = some (.undef, S.put o (some (.cells k (cs.set i v) true))) := by
  unfold stW
  rw [x_onPtr, hv]
  show onCells none _ (S.mem.get o) = _
  rw [h]
  show (bif true && (Nat.beq 1 1 && Nat.ble (Nat.add i 1) (lenL cs)) then some (V.undef, S.put o (some (.cells k (splice cs i [v]) true))) else none) = _
  rw [lenL_eq, show Nat.ble (Nat.add i 1) cs.length = true from bleT hi]
  have : splice cs i [v] = cs.set i v := by
    rw [splice_eq, List.set_eq_take_append_cons_drop, if_pos hi]; rfl
  rw [this]; rfl
theorem back_new {st T : St} {r : CR} (h : r.under st.next = false) : back st r T = { next := T.next, low := bif Nat.ble st.low T.low then st.low else T.low, mem := T.mem } := by
  unfold back
  rw [h, Bool.and_false]; rfl
theorem app_row {st : St} {e size bytes n ks : Nat} {v : V} {cs news : List V} (h : (v = .ref 2 0 0 0 0 false ∧ cs = [] ∧ n = 0) ∨ ∃ k, v = .ref 3 k 0 n n false ∧ st.mem.get k = some (.cells e cs true)) (hl : cs.length = n * size)
    (hs : st.mem.get ks = some (.cells e news true)) (hnl : news.length = size) (hb : (n + 1) * bytes ≤ 140737488355328) :
    ∃ S : St, (∀ (tm : Tr V) (x y : X), X.ev tm x = v → X.ev tm y = .ref 3 ks 0 1 1 true → iApp false e size bytes x y tm st = some (.ref 3 st.next 0 (n + 1) (n + 1) false, S)) ∧ S.next = st.next + 1 ∧ S.mem.get st.next = some (.cells e (cs ++ news) true) ∧
      (∀ x, x < st.next → (∀ k m, v = .ref 3 k 0 m m false → x ≠ k) → S.mem.get x = st.mem.get x) ∧ ∀ L, L ≤ st.low → (∀ k m, v = .ref 3 k 0 m m false → L ≤ k) → L ≤ S.low := by
  have hsrc : srcF false st size (.ref 3 ks 0 1 1 true) = some (news, 1) := by
    show onCells none (fun _ cs _ => bif Nat.ble (Nat.add 0 (Nat.mul 1 size)) (lenL cs) then some (takeL (dropL cs 0) (Nat.mul 1 size), 1) else none) (st.mem.get ks) = _
    rw [hs]
    show (bif Nat.ble (Nat.add 0 (Nat.mul 1 size)) (lenL news) then some (takeL (dropL news 0) (Nat.mul 1 size), 1) else none) = _
    have h1 : Nat.mul 1 size = size := Nat.one_mul _
    rw [lenL_eq, h1, show Nat.ble (Nat.add 0 size) news.length = true from bleT (show 0 + size ≤ news.length by omega), takeL_eq, dropL_eq, List.drop_zero, List.take_of_length_le (by omega)]; rfl
  rcases h with ⟨rfl, rfl, rfl⟩ | ⟨k, rfl, hg⟩
  · refine ⟨st.new (.cells e news true), fun tm x y hx hy => ?_, rfl, by rw [List.nil_append]; exact new_get_self' _ _, fun x hx _ => by rw [new_get, if_neg (by omega)], fun L hL _ => hL⟩
    unfold iApp
    rw [hx, hy, hsrc]
    show (bif Nat.ble (Nat.mul 1 bytes) 140737488355328 then some (V.ref 3 st.next 0 1 1 false, st.new (.cells e news true)) else none) = _
    have h1 : Nat.mul 1 bytes = 1 * bytes := rfl
    rw [h1, bleT (by omega)]; rfl
  · refine ⟨(st.put k none).new (.cells e (cs ++ news) true), fun tm x y hx hy => ?_, rfl, new_get_self' _ _, fun x hx hv => ?_, fun L hL hv => ?_⟩
    · unfold iApp
      rw [hx, hy, hsrc]
      show (bif Nat.ble (Nat.add n 1) n then appIn st size news 1 k 0 n n false else appNew st e size bytes news 1 k 0 n false) = _
      rw [show Nat.ble (Nat.add n 1) n = false from bleF (by show ¬ n + 1 ≤ n; omega)]
      show onCells none _ (st.mem.get k) = _
      rw [hg]
      show (bif Nat.ble (Nat.add 0 (Nat.mul n size)) (lenL cs) && Nat.ble (Nat.mul (Nat.add n 1) bytes) 140737488355328 then
        (bif true && Nat.beq e e then some (V.ref 3 st.next 0 (Nat.add n 1) (Nat.add n 1) false, (st.put k none).new (.cells e (appL (takeL (dropL cs 0) (Nat.mul n size)) news) true)) else none) else none) = _
      have h1 : Nat.mul n size = n * size := rfl
      rw [lenL_eq, h1, show Nat.ble (Nat.add 0 (n * size)) cs.length = true from bleT (show 0 + n * size ≤ cs.length by omega), show Nat.ble (Nat.mul (Nat.add n 1) bytes) 140737488355328 = true from bleT hb, beqT rfl, appL_eq, takeL_eq, dropL_eq, List.drop_zero, List.take_of_length_le (by omega)]; rfl
    · rw [new_get, if_neg (by show x ≠ st.next; omega), put_get, if_neg (hv k n rfl)]
    · show L ≤ (st.put k none).low
      rw [put_low]
      have := hv k n rfl
      omega
mutual
theorem fine_under (n : Nat) : ∀ v : V, v.fine = true → v.under n = true
  | .int k i, _ => rfl
  | .str s, _ => rfl
  | .bool b, _ => rfl
  | .ref t o i m c x, h => by
    refine (under_ref n t o i m c x).2 fun h' => ?_
    have h2 : (!(Nat.beq t 1 || (Nat.beq t 3 || Nat.beq t 5))) = true := h
    rcases h' with rfl | rfl | rfl <;> exact nomatch h2
  | .cmp t a l, h => by
    rw [under_cmp]
    rw [fine_cmp] at h
    cases hb : (Nat.beq t 6 || Nat.beq t 7) with
    | true => rw [hb] at h; exact nomatch h
    | false => rw [hb] at h; exact fine_unders n l h
theorem fine_unders (n : Nat) : ∀ l : List V, (l.all fun v => v.fine) = true → (l.all fun v => v.under n) = true
  | [], _ => rfl
  | v :: l, h => by
    rw [List.all_cons, Bool.and_eq_true] at h
    rw [List.all_cons, fine_under n v h.1, fine_unders n l h.2]; rfl
end
end Go.Proofs.YtnccejmggcjaoaaGreatDoor.Av
