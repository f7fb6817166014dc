/-
  check.Check: WHAT IT ANSWERS of a query of plain items, within the limits.
-/
import Derived.Test.YtnccejmggcjaoaaGreatDoorChkL
import Derived.Test.YtnccejmggcjaoaaGreatDoorPaths
import Derived.Test.YtnccejmggcjaoaaGreatDoorSteps
import Derived.Test.YtnccejmggcjaoaaGreatDoorCode
namespace Go.Proofs.YtnccejmggcjaoaaGreatDoor.Av
set_option linter.unusedVariables false
set_option linter.unusedSimpArgs false
set_option maxRecDepth 1000000
open Go
structure RawM (fns : Tr Fs) : Prop where
  paths : fns.get 38 = some sh38
  steps : fns.get 40 = some sh40
  code : fns.get 42 = some sh42
  size : fns.get 93 = some sh93
  size1 : fns.get 154 = some sh154
  walk : fns.get 153 = some sh153
section
variable {fns : Tr Fs} {N : Str → Prop} {E : Et → Prop} {Fnd : Str → Nat → Prop} {By : Str → Prop} {fld : Nat → Str → Int} (raw : RawR fns) (rap : RawP fns) (rm : RawM fns) (rc : RawC fns) (hN : NameOk fns N) (hE : PredOk fns E) (kt : KindT fns Fnd By fld) (hfun : ∀ s k k', Fnd s k → Fnd s k' → k = k')
  (hks : ∀ (n : Nat) (st : St), evF fns (n + 1) 84 [ksV] st = some (.ret (.int 63 0), st))
include raw rap rm rc hN hE kt hfun hks
set_option maxHeartbeats 4000000 in
theorem check_flat {l : List It} (hr : rtL N E l) (hpl : plL l) (hok : okL l) (hfl : ∀ x ∈ l, FlatI Fnd x) (hct : ctL l ≤ 12) (hnp : nL l 1 ≤ 32) (hst : stL l 0 ≤ 12) (hcd : cdL l ≤ 256) {w : Int} (hw : 0 ≤ w ∧ w ≤ 1000000000) {by_ : Str} (hby : by_ = [] ∨ (eqS by_ [] = false ∧ N by_ ∧ By by_))
    {t : Nat} (ht : t = 4 ∨ t = 6) {n : Nat} (hn : 12 * szL l + cdL l + 20 ≤ n) (hlen : l.length ≤ 100) (h60 : szL l < 2 ^ 60) (st : St) :
    ∃ e, evF fns (n + 1) 35 [ksV, .cmp 2 0 [slT t l.length (cIs l), .int 63 w, .str by_]] st = some (.ret (.int 63 e), st) ∧ ((e = 0 ∧ ∀ x ∈ l, PassI Fnd fld by_ x) ∨ (e = 5 ∧ ∃ x ∈ l, ¬ PassI Fnd fld by_ x)) := by
  have hsz := len_szL l
  obtain ⟨S1, hS1⟩ : ∃ S1, S1 = st.in.new (.cells 27 [slT t l.length (cIs l), .int 63 w, .str by_] true) := ⟨_, rfl⟩
  have n1 : S1.next = st.next + 1 := by rw [hS1]; rfl
  have hb : ∀ tm : Tr V, X.ev tm (.t (pa 1)) = .cmp 2 0 [slT t l.length (cIs l), .int 63 w, .str by_] → iBox 27 (.t (pa 1)) tm st.in = some (.ref 1 st.next 0 0 0 false, S1) := fun tm h => by rw [m_box (cs := [slT t l.length (cIs l), .int 63 w, .str by_]) (by rw [h]; rfl), hS1]
  have hl1 : ∀ g i q, ldW g q (.ref 1 st.next i 0 0 false) S1 = part g [slT t l.length (cIs l), .int 63 w, .str by_] i q := fun g i q => by rw [hS1]; exact ldW_nb (st := st.in)
  have hA1 : Aft st.next st.in S1 := by rw [hS1]; exact Aft.box
  obtain ⟨S2, hS2⟩ : ∃ S2, S2 = S1.new (.map []) := ⟨_, rfl⟩
  have n2 : S2.next = st.next + 2 := by rw [hS2]; show S1.next + 1 = _; omega
  have hmk : ∀ tm : Tr V, iMkm tm S1 = some (.ref 5 S1.next 0 0 0 false, S2) := fun tm => by rw [hS2]; rfl
  have hA2 : Aft st.next st.in S2 := by rw [hS2]; exact hA1.new (by omega)
  obtain ⟨S3, hS3⟩ : ∃ S3, S3 = S2.new (.cells 143 [ksV, .str by_, .ref 5 S1.next 0 0 0 false] true) := ⟨_, rfl⟩
  have n3 : S3.next = st.next + 3 := by rw [hS3]; show S2.next + 1 = _; omega
  have hb3 : ∀ tm : Tr V, X.ev tm (.t (pa 49)) = .cmp 2 0 [ksV, .str by_, .ref 5 S1.next 0 0 0 false] → iBox 143 (.t (pa 49)) tm S2 = some (.ref 1 S2.next 0 0 0 false, S3) := fun tm h => by rw [m_box (cs := [ksV, .str by_, .ref 5 S1.next 0 0 0 false]) (by rw [h]; rfl), hS3]
  have hA3 : Aft st.next st.in S3 := by rw [hS3]; exact hA2.new (by omega)
  have hl2 : ∀ g i q, ldW g q (.ref 1 st.next i 0 0 false) S2 = part g [slT t l.length (cIs l), .int 63 w, .str by_] i q := fun g i q => by rw [hS2, ldW_new (by omega)]; exact hl1 g i q
  have hl3 : ∀ g i q, ldW g q (.ref 1 st.next i 0 0 false) S3 = part g [slT t l.length (cIs l), .int 63 w, .str by_] i q := fun g i q => by rw [hS3, ldW_new (by omega)]; exact hl2 g i q
  have hck : CkAt S3 S2.next S1.next ksV by_ [] := ⟨by omega, by omega, by rw [hS3]; exact new_get_self' _ _, by rw [hS3, new_get, if_neg (by omega), hS2]; exact new_get_self' _ _, (fun b hb => nomatch hb), List.nodup_nil⟩
  obtain ⟨q, rfl⟩ : ∃ q, n = q + 4 := ⟨n - 4, by omega⟩
  obtain ⟨e, st', r1, r2, r3⟩ := items_flat rc kt hfun hck (c0 := 0) (fun v => Nat.zero_le _) (l := l) hfl (by omega) (hby.imp id fun h => ⟨h.1, h.2.2⟩) ht (n := q) (by omega) (L := st.next) (by omega) (by omega) (fun b hb => nomatch hb)
  have k1 := hks (q + 3) S1
  have k2 := rightQ raw hN hE hr hok hw (hby.imp id fun h => ⟨h.1, h.2.1⟩) (n := q + 4) (by omega) ht S1
  have k3 := placedL raw rap (szL l) l (Nat.le_refl _) hpl hok (q + 4) (by omega) t ht S1
  have k4 := count_ev rap (q + 4) l (by omega) hok h60 t ht S1
  have k5 := paths_evF rm.paths (q + 4) l (by omega) hok t ht S1
  have k6 := steps_evF rm.steps (q + 4) l (by omega) hok t ht S1
  have k7 := code_evF rm.code rm.size rm.size1 rm.walk (q + 4) l (by omega) hok (by omega) t ht S1
  have t4 : ltI 12 (Int.ofNat (ctL l)) = false := (gofn 12 _).trans (decide_eq_false (by omega))
  have t5 : ltI 32 (Int.ofNat (nL l 1)) = false := (gofn 32 _).trans (decide_eq_false (by omega))
  have t6 : ltI 12 (Int.ofNat (stL l 0)) = false := (gofn 12 _).trans (decide_eq_false (by omega))
  have t7 : ltI 256 (Int.ofNat (cdL l)) = false := (gofn 256 _).trans (decide_eq_false (by omega))
  have z1 : fNeq 63 0 0 = some (.bool false) := rfl
  have fw : part true [slT t l.length (cIs l), .int 63 w, .str by_] 0 3 = some (.cmp 2 0 [slT t l.length (cIs l), .int 63 w, .str by_]) := part_whole rfl
  have hbd : ∀ tm : Tr V, X.ev tm (.t (pa 45)) = ksV → X.ev tm (.t (pa 47)) = .str by_ → X.ev tm (.t (pa 48)) = .ref 5 S1.next 0 0 0 false → iBuild [.ref 2 0 0 0 0 false, .str [], .ref 4 0 0 0 0 false] [(0, 1, .t (pa 45)), (1, 1, .t (pa 47)), (2, 1, .t (pa 48))] tm S2 = some (.cmp 2 0 [ksV, .str by_, .ref 5 S1.next 0 0 0 false]) := fun tm h1 h2 h3 => by
    rw [m_build, fillV_c, h1, cells_fsl _ _ _ (by decide) (by decide), fillS_1 (by decide), fillV_c, h2, cells_str, fillS_1 (by show 1 < 3; decide), fillV_c, h3, cells_ref, fillS_1 (by show 2 < 3; decide), fillV_0]; rfl
  refine ⟨e, ?_, r3⟩
  rw [ev_mk rc.check]
  simp only [c35_0, c35_1, c35_2, c35_3, c35_4, c35_5, c35_6, yY, iInt, iStr, iLenS, iLenL, iNot, iPick, iExt, if_true, if_false, reduceIte, Nat.reduceEqDiff, Nat.reduceAdd, reduceCtorEq, yQ, hb, k1, z1, m_load, m_fad, m_add0, hl1, hl2, hl3, part_c0, part_cs, fw, k2, k3, k4, k5, k6, k7, f_gtr, t4, t5, t6, t7, hmk, hbd, hb3, r1]
  refine leave_scalar (v := .int 63 e) ?_ (fun h => nomatch h) rfl (hA3.trans r2)
  simp only [yL, if_true, if_false, reduceIte, Nat.reduceEqDiff, reduceCtorEq]
end
end Go.Proofs.YtnccejmggcjaoaaGreatDoor.Av
