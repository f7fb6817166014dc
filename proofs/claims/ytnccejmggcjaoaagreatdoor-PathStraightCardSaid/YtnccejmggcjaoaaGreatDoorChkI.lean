/-
  ITEMS CHECKED: (*check.checker).item, of an item without a predicate.
-/
import Derived.Test.YtnccejmggcjaoaaGreatDoorChkC
namespace Go.Proofs.YtnccejmggcjaoaaGreatDoor.Av
set_option linter.unusedVariables false
set_option linter.unusedSimpArgs false
set_option maxRecDepth 1000000
open Go
abbrev kdV : Nat → List V
  | 0 => [.str [65], slT 4 2 [.str [107], .str [120]]]
  | 1 => [.str [66], slT 4 2 [.str [107], .str [121]]]
  | _ => [.str [67], slT 4 3 [.str [107], .str [120], .str [121]]]
abbrev ksV : V := slT 4 3 [.str [65], slT 4 2 [.str [107], .str [120]], .str [66], slT 4 2 [.str [107], .str [121]], .str [67], slT 4 3 [.str [107], .str [120], .str [121]]]
structure KindT (fns : Tr Fs) (Fnd : Str → Nat → Prop) (By : Str → Prop) (fld : Nat → Str → Int) : Prop where
  lt : ∀ {s k}, Fnd s k → k < 3
  find : ∀ (n : Nat) {s : Str} {k : Nat}, Fnd s k → ∀ st : St, evF fns (n + 1) 53 [ksV, .str s] st = some (.ret (.int 63 (Int.ofNat k)), st)
  field : ∀ (n : Nat) {k : Nat} {s : Str}, k < 3 → By s → ∀ st : St, evF fns (n + 1) 195 [.cmp 2 0 (kdV k), .str s] st = some (.ret (.int 63 (fld k s)), st)
structure RawC (fns : Tr Fs) : Prop where
  item : fns.get 147 = some sh147
  items : fns.get 87 = some sh87
  check : fns.get 35 = some sh35
theorem kd_at {k : Nat} (hk : k < 3) : ∃ p, (∀ (tm : Tr V) (x y : X) (st : St), X.ev tm x = ksV → X.ev tm y = .int 63 (Int.ofNat k) → iIad 2 x y tm st = some p) ∧ ∀ st : St, ldW true 2 p st = some (.cmp 2 0 (kdV k)) := by
  have key : ∀ (tm : Tr V) (x y : X) (st : St) (v : V) (p : V), X.ev tm x = ksV → X.ev tm y = v → (ksV.onSlice (ksV.onFsl none (fun t n _ _ l => v.onNat none (fun k => bif Nat.blt k n && Nat.blt (Nat.mul k 2) (lenL l) then some (V.cmp (Nat.succ t) 0 (dropL l (Nat.mul k 2))) else none))) none (fun o b n _ _ => v.onNat none (fun k => bif Nat.blt k n then some (.ptr o (Nat.add b (Nat.mul k 2))) else none))) = some p → iIad 2 x y tm st = some p := by
    intro tm x y st v p hx hy h
    unfold iIad
    rw [hx, hy]; exact h
  match k, hk with
  | 0, _ => exact ⟨_, fun tm x y st hx hy => key tm x y st _ _ hx hy rfl, fun st => rfl⟩
  | 1, _ => exact ⟨_, fun tm x y st hx hy => key tm x y st _ _ hx hy rfl, fun st => rfl⟩
  | 2, _ => exact ⟨_, fun tm x y st hx hy => key tm x y st _ _ hx hy rfl, fun st => rfl⟩
theorem leave_val {st st' : St} {tm : Tr V} {j : Nat} {v : V} (hv : X.ev tm (.t (pa j)) = v) (hne : v ≠ V.undef) (h : st'.low < st.next) : leaveF st [.t (pa j)] (some (.ret, tm, st')) = some (.ret v, { next := st'.next, low := bif Nat.ble st.low st'.low then st.low else st'.low, mem := st'.mem }) := by
  have hb : back st (.ret v) st' = { next := st'.next, low := bif Nat.ble st.low st'.low then st.low else st'.low, mem := st'.mem } := by
    unfold back
    rw [bleF (show ¬ st.next ≤ st'.low by omega)]; rfl
  show (Option.rec none (fun v => some (CR.ret v, back st (.ret v) st')) (tm.at (pa j)) : Option (CR × St)) = _
  rw [at_of_ev hv hne]
  show some (CR.ret v, back st (.ret v) st') = _
  rw [hb]
theorem low_min (a b : Nat) : (bif Nat.ble a b then a else b) = min a b := by
  by_cases h : a ≤ b
  · rw [bleT h, cond_true]; omega
  · rw [bleF h, cond_false]; omega
theorem mem35a : memN [3, 5] 3 = true := by kernel_rfl
theorem mem35b : memN [3, 5] 5 = true := by kernel_rfl
structure CkGo (st st' : St) (m : Nat) (B B' : List Bnd) : Prop where
  aft : ∀ L, L ≤ m → L ≤ st.next → (∀ b ∈ B, L ≤ b.at_) → Aft L st st' ∧ ∀ b ∈ B', L ≤ b.at_
  mem : ∀ x, x < st.next → x ≠ m → (∀ b ∈ B, x ≠ b.at_) → st'.mem.get x = st.mem.get x
  old : ∀ b ∈ B', b ∈ B ∨ st.next ≤ b.at_
section
variable {fns : Tr Fs} {Fnd : Str → Nat → Prop} {By : Str → Prop} {fld : Nat → Str → Int} (rc : RawC fns) (kt : KindT fns Fnd By fld)
include rc kt
set_option maxHeartbeats 8000000 in
theorem item_ev {st : St} {o m : Nat} {by_ : Str} {B : List Bnd} (hc : CkAt st o m ksV by_ B) {x : It} {nm vr : Str} {kd : Int} {lo hi : Int} (hx : x = .mk kd nm vr [] lo hi []) {k : Nat} (hk : Fnd nm k) (hby : by_ = [] ∨ (eqS by_ [] = false ∧ By by_)) (hlen : (boundB B vr).length + 1 < 1000) (n : Nat) :
    (by_ ≠ [] ∧ fld k by_ < 0 ∧ evF fns (n + 3) 147 [.ref 1 o 0 0 0 false, .cmp 2 0 (cI x)] st = some (.ret (.int 63 5), st)) ∨
    ((by_ = [] ∨ 0 ≤ fld k by_) ∧ kd = 2 ∧ evF fns (n + 3) 147 [.ref 1 o 0 0 0 false, .cmp 2 0 (cI x)] st = some (.ret (.int 63 0), st)) ∨
    ((by_ = [] ∨ 0 ≤ fld k by_) ∧ kd ≠ 2 ∧ ∃ st' a, evF fns (n + 3) 147 [.ref 1 o 0 0 0 false, .cmp 2 0 (cI x)] st = some (.ret (.int 63 0), st') ∧ CkAt st' o m ksV by_ (setB vr ⟨vr, a, boundB B vr ++ [k]⟩ B) ∧ CkGo st st' m B (setB vr ⟨vr, a, boundB B vr ++ [k]⟩ B)) := by
  subst hx
  have hk3 := kt.lt hk
  obtain ⟨p, hp1, hp2⟩ := kd_at hk3
  obtain ⟨S1, hS1⟩ : ∃ S1, S1 = st.in.new (.cells 34 (cI (.mk kd nm vr [] lo hi [])) true) := ⟨_, rfl⟩
  have n1 : S1.next = st.next + 1 := by rw [hS1]; rfl
  have hb : ∀ tm : Tr V, X.ev tm (.t (pa 1)) = .cmp 2 0 (cI (.mk kd nm vr [] lo hi [])) → iBox 34 (.t (pa 1)) tm st.in = some (.ref 1 st.next 0 0 0 false, S1) := fun tm h => by rw [m_box (cs := cI (.mk kd nm vr [] lo hi [])) (by rw [h]; rfl), hS1]
  have hl : ∀ g i q, ldW g q (.ref 1 st.next i 0 0 false) S1 = part g [.int 63 kd, .str nm, .str vr, slT 4 ([] : List Et).length (cEs []), .int 63 lo, .int 63 hi, slT 4 ([] : List (List It)).length (cKs [])] i q := fun g i q => by rw [hS1]; exact ldW_nb (st := st.in)
  have hA1 : Aft st.next st.in S1 := by rw [hS1]; exact Aft.box
  have hc0 : CkAt st.in o m ksV by_ B := hc.low _
  have hc1 : CkAt S1 o m ksV by_ B := hc0.aft hA1
  have hlc : ∀ g i q, ldW g q (.ref 1 o i 0 0 false) S1 = part g [ksV, .str by_, .ref 5 m 0 0 0 false] i q := fun g i q => ldW_get hc1.c
  have hf : ∀ s : St, evF fns (n + 2) 53 [ksV, .str nm] s = some (.ret (.int 63 (Int.ofNat k)), s) := fun s => kt.find (n + 1) hk s
  have hk0 : ltI (Int.ofNat k) 0 = false := (gofn k 0).trans (decide_eq_false (by omega))
  have lt00 : ltI 0 (Int.ofNat ([] : List Et).length) = false := rfl
  have hpass : (by_ ≠ [] ∧ fld k by_ < 0) ∨ (by_ = [] ∨ 0 ≤ fld k by_) := by
    rcases hby with h | ⟨h, _⟩
    · exact .inr (.inl h)
    · by_cases hl : fld k by_ < 0
      · refine .inl ⟨fun e => ?_, hl⟩
        rw [e] at h; exact nomatch h
      · exact .inr (.inr (by omega))
  rw [ev_mk rc.item]
  rcases hpass with ⟨hne, hneg⟩ | hp
  ·
    refine .inl ⟨hne, hneg, ?_⟩
    rcases hby with h | ⟨h, hB⟩
    · exact absurd h hne
    · have h3 : sNeq by_ [] = some (.bool true) := by show some (V.bool (!eqS by_ [])) = _; rw [h]; rfl
      have h4 : ∀ s : St, evF fns (n + 2) 195 [.cmp 2 0 (kdV k), .str by_] s = some (.ret (.int 63 (fld k by_)), s) := fun s => kt.field (n + 1) hk3 hB s
      have h5 : ltI (fld k by_) 0 = true := by rw [ltI_eq]; exact decide_eq_true hneg
      simp only [c147_0, c147_1, c147_2, c147_3, yY, iInt, iStr, iLenS, iLenL, iNot, iPick, iExt, if_true, if_false, reduceIte, Nat.reduceEqDiff, Nat.reduceAdd, reduceCtorEq, yQ, hb, yD, x_oneM, x_oneE, x_oneP, x_oneK, x_oneL, x_oneC2, m_nck, m_fad, m_add0, m_load, hlc, hl, part_c0, part_cs, hf, f_lss, hk0, h3, h4, h5, hp1, hp2]
      refine leave_scalar (v := .int 63 5) ?_ (fun h => nomatch h) rfl hA1
      simp only [yL, if_true, if_false, reduceIte, Nat.reduceEqDiff, reduceCtorEq]
  · have eNot : fNeq 63 kd 2 = some (.bool (!eqI kd 2)) := rfl
    have hby2 : (by_ = [] ∧ sNeq by_ [] = some (.bool false)) ∨ (sNeq by_ [] = some (.bool true) ∧ (∀ s : St, evF fns (n + 2) 195 [.cmp 2 0 (kdV k), .str by_] s = some (.ret (.int 63 (fld k by_)), s)) ∧ ltI (fld k by_) 0 = false) := by
      rcases hby with h | ⟨h, hB⟩
      · exact .inl ⟨h, by rw [h]; rfl⟩
      · refine .inr ⟨by show some (V.bool (!eqS by_ [])) = _; rw [h]; rfl, fun s => kt.field (n + 1) hk3 hB s, ?_⟩
        rw [ltI_eq]
        rcases hp with e | e
        · rw [e] at h; exact nomatch h
        · exact decide_eq_false (by omega)
    by_cases h2 : kd = 2
    · subst h2
      refine .inr (.inl ⟨hp, rfl, ?_⟩)
      have e2 : eqI (2 : Int) 2 = true := rfl
      rcases hby2 with ⟨_, h3⟩ | ⟨h3, h4, h5⟩
      · simp only [c147_0, c147_1, c147_2, c147_3, c147_4, c147_5, c147_6, c147_7, c147_8, b147_0, x_loop1, yY, iInt, iStr, iLenS, iLenL, iNot, iPick, iExt, if_true, if_false, reduceIte, Nat.reduceEqDiff, Nat.reduceAdd, reduceCtorEq, yQ, hb, yD, x_oneM, x_oneE, x_oneP, x_oneK, x_oneL, x_oneC2, m_nck, m_fad, m_add0, m_load, hlc, hl, part_c0, part_cs, hf, f_lss, hk0, h3, x_slF, x_fsl4, lt00, eNot, e2]
        refine leave_scalar (v := .int 63 0) ?_ (fun h => nomatch h) rfl hA1
        simp only [yL, if_true, if_false, reduceIte, Nat.reduceEqDiff, reduceCtorEq]
      · simp only [c147_0, c147_1, c147_2, c147_3, c147_4, c147_5, c147_6, c147_7, c147_8, b147_0, x_loop1, yY, iInt, iStr, iLenS, iLenL, iNot, iPick, iExt, if_true, if_false, reduceIte, Nat.reduceEqDiff, Nat.reduceAdd, reduceCtorEq, yQ, hb, yD, x_oneM, x_oneE, x_oneP, x_oneK, x_oneL, x_oneC2, m_nck, m_fad, m_add0, m_load, hlc, hl, part_c0, part_cs, hf, f_lss, hk0, h3, h4, h5, hp1, hp2, x_slF, x_fsl4, lt00, eNot, e2]
        refine leave_scalar (v := .int 63 0) ?_ (fun h => nomatch h) rfl hA1
        simp only [yL, if_true, if_false, reduceIte, Nat.reduceEqDiff, reduceCtorEq]
    · refine .inr (.inr ⟨hp, h2, ?_⟩)
      have e2 : eqI kd 2 = false := by rw [eqI_eq]; exact decide_eq_false h2
      obtain ⟨S2, hS2⟩ : ∃ S2, S2 = S1.new (.cells 3 [kV k] true) := ⟨_, rfl⟩
      have n2 : S2.next = st.next + 2 := by rw [hS2]; show S1.next + 1 = _; omega
      have hA2 : Aft st.next st.in S2 := by rw [hS2]; exact hA1.new (by omega)
      have hc2 : CkAt S2 o m ksV by_ B := hc0.aft hA2
      have hbs : ∀ tm : Tr V, X.ev tm (.t (pa 75)) = .int 63 (Int.ofNat k) → iBsl 3 1 [.int 63 0] [(0, 1, .t (pa 75))] tm S1 = some (.ref 3 S1.next 0 1 1 true, S2) := fun tm h => by
        rw [m_bsl, fillV_c, h, cells_int, fillS_1 (by decide), fillV_0, hS2]; rfl
      have l2 : S2.low = st.next := by rw [hS2, hS1]; rfl
      obtain ⟨M, lw, b1, b2, b3, b4, b5, b6⟩ := bind_ev hc2 vr k (r := S1.next) (by rw [hS2]; exact new_get_self' _ _) (by omega) hlen
      obtain ⟨S3, hS3⟩ : ∃ S3 : St, S3 = { next := S2.next + 1, low := bif Nat.ble S2.low (lw S2.next) then S2.low else lw S2.next, mem := M } := ⟨_, rfl⟩
      have haft : S2.after { next := S2.next + 1, low := lw S2.next, mem := M } = S3 := by rw [hS3]; rfl
      have hm1 := hc.hm
      have ho1 := hc.ho
      have hr1 := fun b hb => (hc.rows b hb).1
      obtain ⟨S4, hS4⟩ : ∃ S4, S4 = S3.put m (some (.map ((setB vr ⟨vr, S2.next, boundB B vr ++ [k]⟩ B).map Bnd.enc))) := ⟨_, rfl⟩
      have g3 : ∀ x, S3.mem.get x = M.get x := fun x => by rw [hS3]
      have hc3 : ∀ g i q, ldW g q (.ref 1 o i 0 0 false) S3 = part g [ksV, .str by_, .ref 5 m 0 0 0 false] i q := fun g i q => ldW_get (by rw [g3, b3]; exact hc2.c)
      have hx2 : S2.mem.get st.next = some (.cells 34 (cI (.mk kd nm vr [] lo hi [])) true) := by rw [hS2, new_get, if_neg (by omega), hS1]; exact new_get_self' _ _
      have hx3 : ∀ g i q, ldW g q (.ref 1 st.next i 0 0 false) S3 = part g [.int 63 kd, .str nm, .str vr, slT 4 ([] : List Et).length (cEs []), .int 63 lo, .int 63 hi, slT 4 ([] : List (List It)).length (cKs [])] i q := fun g i q => ldW_get (by
        rw [g3, b5 st.next (by omega) (fun b hb e => by have := hr1 b hb; omega)]; exact hx2)
      have hlok : ∀ tm : Tr V, X.ev tm (.t (pa 71)) = .ref 5 m 0 0 0 false → X.ev tm (.t (pa 73)) = .str vr → iLok 100 (.ref 2 0 0 0 0 false) (.t (pa 71)) (.t (pa 73)) false tm S1 = some (((findB vr B).map fun b => V.ref 3 b.at_ 0 b.ks.length b.ks.length false).getD (.ref 2 0 0 0 0 false)) := fun tm h1 h2 => by
        have hmap : mapOf S1 (.ref 5 m 0 0 0 false) = some (B.map Bnd.enc) := by
          show onMapO none some (S1.mem.get m) = _
          rw [hc1.mp]; rfl
        unfold iLok
        rw [h1, h2, hmap]
        show (Option.rec none (fun r => Option.rec (some (V.ref 2 0 0 0 0 false)) (fun v => some v) r) (lookM 100 (.str vr) (B.map Bnd.enc)) : Option V) = _
        rw [look_B]
        cases findB vr B <;> rfl
      have happ : ∀ tm : Tr V, X.ev tm (.t (pa 74)) = ((findB vr B).map fun b => V.ref 3 b.at_ 0 b.ks.length b.ks.length false).getD (.ref 2 0 0 0 0 false) → X.ev tm (.t (pa 76)) = .ref 3 S1.next 0 1 1 true → iApp false 3 1 8 (.t (pa 74)) (.t (pa 76)) tm { next := S2.next, low := S2.next, mem := S2.mem } = some (.ref 3 S2.next 0 ((boundB B vr).length + 1) ((boundB B vr).length + 1) false, { next := S2.next + 1, low := lw S2.next, mem := M }) := fun tm h1 h2 => b1 tm _ _ _ h1 h2
      have hup : ∀ tm : Tr V, X.ev tm (.t (pa 65)) = .ref 5 m 0 0 0 false → X.ev tm (.t (pa 67)) = .str vr → X.ev tm (.t (pa 77)) = .ref 3 S2.next 0 ((boundB B vr).length + 1) ((boundB B vr).length + 1) false → iUpd 100 (.t (pa 65)) (.t (pa 67)) (.t (pa 77)) tm S3 = some (.undef, S4) := fun tm h1 h2 h3 => by
        unfold iUpd
        rw [h1, h2, h3]
        show onMapO none (fun es => Option.rec none (fun es' => some (V.undef, S3.put m (some (.map es')))) (updM 100 (.str vr) (.ref 3 S2.next 0 ((boundB B vr).length + 1) ((boundB B vr).length + 1) false) es)) (S3.mem.get m) = _
        rw [g3, b4, hc2.mp]
        show (Option.rec none (fun es' => some (V.undef, S3.put m (some (.map es')))) (updM 100 (.str vr) (.ref 3 S2.next 0 ((boundB B vr).length + 1) ((boundB B vr).length + 1) false) (B.map Bnd.enc)) : Ev) = _
        have hu := upd_B vr ⟨vr, S2.next, boundB B vr ++ [k]⟩ rfl B
        simp only [List.length_append, List.length_cons, List.length_nil, Nat.zero_add] at hu
        rw [hu, hS4]
      have l3 : S3.low ≤ st.next := by rw [hS3]; show (bif Nat.ble S2.low (lw S2.next) then S2.low else lw S2.next) ≤ _; rw [low_min]; omega
      have l4 : S4.low < st.next := by rw [hS4, put_low]; omega
      have n4 : S4.next = st.next + 3 := by rw [hS4]; show S3.next = _; rw [hS3]; show S2.next + 1 = _; omega
      refine ⟨{ next := S4.next, low := bif Nat.ble st.low S4.low then st.low else S4.low, mem := S4.mem }, S2.next, ?_, ?_, ?_⟩
      · rcases hby2 with ⟨_, h3⟩ | ⟨h3, h4, h5⟩
        · simp only [c147_0, c147_1, c147_2, c147_3, c147_4, c147_5, c147_6, c147_7, c147_8, b147_0, x_loop1, yY, iInt, iStr, iLenS, iLenL, iNot, iPick, iExt, if_true, if_false, reduceIte, Nat.reduceEqDiff, Nat.reduceAdd, reduceCtorEq, yQ, hb, yD, x_oneM, x_oneE, x_oneP, x_oneK, x_oneL, x_oneC2, m_nck, m_fad, m_add0, m_load, hlc, hl, part_c0, part_cs, hf, f_lss, hk0, h3, x_slF, x_fsl4, lt00, eNot, e2, hlok, hbs, x_stepCE, St.fresh, happ, haft, x_oneS, see_cons, see_nil, mem35a, mem35b, sees_ret, hc3, hx3, sameV_refl, cond_true, Bool.true_and, Bool.and_true, hup]
          refine leave_val ?_ (fun h => nomatch h) l4
          simp only [yL, if_true, if_false, reduceIte, Nat.reduceEqDiff, reduceCtorEq]
        · simp only [c147_0, c147_1, c147_2, c147_3, c147_4, c147_5, c147_6, c147_7, c147_8, b147_0, x_loop1, yY, iInt, iStr, iLenS, iLenL, iNot, iPick, iExt, if_true, if_false, reduceIte, Nat.reduceEqDiff, Nat.reduceAdd, reduceCtorEq, yQ, hb, yD, x_oneM, x_oneE, x_oneP, x_oneK, x_oneL, x_oneC2, m_nck, m_fad, m_add0, m_load, hlc, hl, part_c0, part_cs, hf, f_lss, hk0, h3, h4, h5, hp1, hp2, x_slF, x_fsl4, lt00, eNot, e2, hlok, hbs, x_stepCE, St.fresh, happ, haft, x_oneS, see_cons, see_nil, mem35a, mem35b, sees_ret, hc3, hx3, sameV_refl, cond_true, Bool.true_and, Bool.and_true, hup]
          refine leave_val ?_ (fun h => nomatch h) l4
          simp only [yL, if_true, if_false, reduceIte, Nat.reduceEqDiff, reduceCtorEq]
      · refine b6 _ (by show S4.next = _; omega) (fun x hx => ?_) ?_
        · show S4.mem.get x = _
          rw [hS4, put_get, if_neg hx, g3]
        · show S4.mem.get m = _
          rw [hS4, put_get, if_pos rfl]
      · refine ⟨fun L h1 h2 h3 => ⟨⟨by show st.next ≤ S4.next; omega, ?_, fun x hx => ?_⟩, fun b hb => ?_⟩, fun x hx h1 h2 => ?_, fun b hb => ?_⟩
        · show min L st.low ≤ (bif Nat.ble st.low S4.low then st.low else S4.low)
          have h4 := b2 S2.next L (by omega) h3
          have h5 : L ≤ S3.low := by rw [hS3]; show L ≤ (bif Nat.ble S2.low (lw S2.next) then S2.low else lw S2.next); rw [low_min]; omega
          have h6 : L ≤ S4.low := by rw [hS4, put_low]; omega
          rw [low_min]; omega
        · show S4.mem.get x = _
          rw [hS4, put_get, if_neg (by omega), g3, b5 x (by omega) (fun b hb e => by have := h3 b hb; omega)]
          exact hA2.mem x (by omega)
        · rcases set_mem hc.nodup hb with rfl | ⟨hb, _⟩
          · show L ≤ S2.next; omega
          · exact h3 b hb
        · show S4.mem.get x = _
          rw [hS4, put_get, if_neg h1, g3, b5 x (by omega) h2]
          exact hA2.mem x hx
        · rcases set_mem hc.nodup hb with rfl | ⟨hb, _⟩
          · right; show st.next ≤ S2.next; omega
          · exact .inl hb
end
end Go.Proofs.YtnccejmggcjaoaaGreatDoor.Av
