/-
  THE INSTRUCTIONS THAT TURN MEMORY: what is appended, copied; a text as bytes.
-/
import Derived.Test.YtjdbcfnlehedmaaGreatDoorAvLoudB
import Derived.Laws.Append
namespace Go.Proofs.YtjdbcfnlehedmaaGreatDoor.Av
set_option linter.unusedVariables false
set_option linter.unusedSimpArgs false
open Go Go.RowKit

section ops
variable {P : Program} {base : Nat} {ρ : Map} {st st' : St} {w : World} {nt : Nat} {tm : Tr V} {a : Act} {o : Oper} {v : V}
theorem str_bytes (s : List UInt8) (n : Nat) (hn : n = s.length) : (((⟨⟨s⟩⟩ : ByteArray).extract 0 n).data.map fun b => Value.int .u8 b.toNat).toList = s.map fun b => Value.int .u8 (b.toNat : Int) := by
  subst hn
  have : (⟨⟨s⟩⟩ : ByteArray).extract 0 s.length = ⟨⟨s⟩⟩ := by
    apply ByteArray.ext
    apply Array.toList_inj.1
    simp
  rw [this]
  simp
theorem bytes_vr (n : Nat) : ∀ s : List UInt8, VRs ρ n (s.map fun b => V.int 8 (b.toNat : Int)) (s.map fun b => Value.int .u8 (b.toNat : Int))
  | [] => .nil
  | b :: s => .cons (.int .u8 _) (bytes_vr n s)
/-- What is appended, or copied, in the model: how many, and the cells. -/
theorem src_ok (h : Rel P base ρ st w) {sf : Bool} {size : Nat} {u : V} {u' : Value} (hu : VR ρ st.next u u') {news : List V} {m : Nat} (hs : srcF sf st size u = some (news, m)) (hs1 : sf = true → size = 1) :
    (∀ w, (Builtin.lenOf u').run P w = .ok m w) ∧ news.length = m * size ∧
    (∀ k, k ≤ m → ∀ w', w'.heap = w.heap → ∃ l', VRs ρ st.next (news.take (k * size)) l' ∧ (∀ x ∈ l', One x) ∧ (Builtin.firstCells size k u').run P w' = .ok l'.toArray w') := by
  cases sf with
  | true =>
    obtain ⟨s, rfl, h1⟩ := onStr_some (hs : u.onStr none (fun s => some (bytesV s, lenL s)) = some (news, m))
    obtain ⟨rfl, rfl⟩ := Prod.mk.inj (Option.some.inj h1)
    obtain rfl := hs1 rfl
    obtain rfl := hu.str_inv
    rw [lenL_eq, bytesV_eq]
    refine ⟨fun w => rfl, by simp, fun k hk w' _ => ⟨(s.take k).map fun b => Value.int .u8 (b.toNat : Int), by rw [Nat.mul_one, ← List.map_take]; exact bytes_vr _ _, fun x hx => by obtain ⟨b, _, rfl⟩ := List.mem_map.1 hx; rfl, ?_⟩⟩
    have e : (⟨⟨s⟩⟩ : ByteArray).extract 0 k = ⟨⟨s.take k⟩⟩ := by
      apply ByteArray.ext
      apply Array.toList_inj.1
      simp
    simp only [Builtin.firstCells, e, Sem.run_pure]
    congr 1
    apply Array.toList_inj.1
    simp
  | false =>
    rcases onSlice_some (hs : u.onSlice none _ _ = some (news, m)) with ⟨_, _, _, _, _, rfl, h1⟩ | ⟨ob, i, n, cp, ex, rfl, h1⟩
    · obtain ⟨rfl, rfl⟩ := Prod.mk.inj (Option.some.inj h1)
      obtain rfl := hu.nilSlice_inv
      exact ⟨fun w => rfl, by simp, fun k hk w' _ => ⟨[], by simpa using VRs.nil, by simp, rfl⟩⟩
    · obtain ⟨e, cs, own, hg, h2⟩ := onCells_some h1
      obtain ⟨h3, h4⟩ := bif_none h2
      rw [lenL_eq] at h3
      have hle : i + n * size ≤ cs.length := ble_iff.1 h3
      simp only [takeL_eq, dropL_eq] at h4
      obtain ⟨rfl, rfl⟩ := Prod.mk.inj (Option.some.inj h4)
      obtain ⟨ad, cp', rfl, hlv, h10, h11, _, h12, _⟩ := hu.slice_inv
      obtain ⟨cc, ee, lo, hi, h13, h14, _, _⟩ := h.at hg hlv
      have hnl : ∀ x y : Nat, x.mul y = x * y := fun _ _ => rfl
      refine ⟨fun w => rfl, by simp only [List.length_take, List.length_drop, hnl]; omega, fun k hk w' hw' => ?_⟩
      have hks : k * size ≤ n * size := Nat.mul_le_mul_right _ hk
      by_cases hk0 : k = 0
      · subst hk0
        exact ⟨[], by simpa using VRs.nil, by simp, by simp [Builtin.firstCells, loadCells, loadCellsFrom]⟩
      · have had : ad = (ρ ob).at i := h12.resolve_left (by omega)
        obtain ⟨l', h15, h16, h17⟩ := run_loadCells (P := P) (w := w') h14 (by rw [hw']; exact h13) (k * size) i 0 #[] (by omega)
        refine ⟨l', ?_, h17, ?_⟩
        · rw [List.take_take, hnl, Nat.min_eq_left hks]
          simpa using h16
        · rw [had]
          simpa [Builtin.firstCells, loadCells] using h15
theorem append_run {call : Call} {x y : Operand} {t u : TypeId} (ho : o.op = .call call) (hcb : call.callee = .builtin .append) (ha : call.args.toList = [x, y]) (hat : call.argTypes.toList = [t, u]) :
    execOp a.eval o = (do pure (Next.value (← Builtin.append_ #[t, u] o.type #[a.eval x, a.eval y]))) := by
  have harr : call.args = #[x, y] := by apply Array.toList_inj.1; rw [ha]
  have hatr : call.argTypes = #[t, u] := by apply Array.toList_inj.1; rw [hat]
  unfold execOp
  rw [ho]
  simp [resolve, hcb, harr, hatr, invoke, builtin]
/-- What append comes to in the model, where there is room. -/
theorem append_room {t u e ty : TypeId} {du : TypeDesc} {size n m : Nat} (ht : P.underlying t = some (.slice e)) (hu : P.underlying u = some du) (hdu : ∀ k, du ≠ .int k) (hn : sizeT P e = some size) {x : Value} (hlen : (Builtin.lenOf x).run P w = .ok m w)
    {ad : Option Addr} {c : Nat} (hroom : n + m ≤ c) {l' : List Value} (hsrc : (Builtin.firstCells size m x).run P w = .ok l'.toArray w) {w' : World} (hst : (match ad with | some b => storeCells (b.add (n * size)) l' | none => pure ()).run P w = .ok () w') :
    (Builtin.append_ #[t, u] ty #[.slice ad n c, x]).run P w = .ok (.slice ad (n + m) c) w' := by
  unfold Builtin.append_
  simp only [List.getElem?_toArray, List.getElem?_cons_zero, List.getElem?_cons_succ, Sem.run_bind, run_und ht, run_und hu, run_size hn, Result.andThen_ok, Sem.run_pure]
  simp only [Bool.false_eq_true, if_false, Sem.run_bind, hlen, Result.andThen_ok, if_pos hroom, Bool.not_false, if_true, hsrc]
  cases ad with
  | none =>
    have : w = w' := by simpa using hst
    subst this
    rfl
  | some b =>
    have hst' : (storeCells (b.add (n * size)) l').run P w = .ok () w' := hst
    simp only [Sem.run_bind, hst', Result.andThen_ok, Sem.run_pure]
/-- What append comes to in the model, where there is none. -/
theorem append_grows {t u e ty : TypeId} {du : TypeDesc} {size bytes n m : Nat} (ht : P.underlying t = some (.slice e)) (hu : P.underlying u = some du) (hdu : ∀ k, du ≠ .int k) (hn : sizeT P e = some size) (hby : bytesT P e = some bytes) (hby0 : bytes ≠ 0) {x : Value} (hlen : (Builtin.lenOf x).run P w = .ok m w)
    {ad : Option Addr} {c : Nat} (hroom : c < n + m) (hfit : (n + m) * bytes ≤ 140737488355328) {z' : Value} (hz : ∀ w, (zeroValue e).run P w = .ok z' w) {newCap : Nat} {w1 : World} (hw1 : w1 = { w with drawn := w.drawn + 1 }) (hcap : newCap = (Question.appendCap (n + m) c e).cut (w.tape w.drawn (.appendCap (n + m) c e)))
    {l l' : List Value} (hold : (Builtin.firstCells size n (.slice ad n c)).run P w1 = .ok l.toArray w1) (hsrc : (Builtin.firstCells size m x).run P w1 = .ok l'.toArray w1) :
    (Builtin.append_ #[t, u] ty #[.slice ad n c, x]).run P w = .ok (.slice (some ⟨w.heap.size, 0, none⟩) (n + m) newCap)
      { w1 with heap := w1.heap.push (.cells (l.toArray ++ l'.toArray ++ Builtin.zeroCells z'.cells (newCap - (n + m))) e (0, 0)) } := by
  have hinfo : ∃ i, P.info? e = some i ∧ i.bytes = bytes := by
    unfold bytesT at hby
    cases hi : P.info? e with
    | none => rw [hi] at hby; exact nomatch hby
    | some i => rw [hi] at hby; exact ⟨i, rfl, Option.some.inj hby⟩
  obtain ⟨i, hi, hib⟩ := hinfo
  have hti : ∀ w, (typeInfo e).run P w = .ok i w := fun w => by simp [typeInfo, hi]
  have h2 := growslice_fits (old := c) hroom hfit
  have h3 : ¬ Builtin.nextslicecap (n + m) c * bytes > 2 ^ 48 := by
    have : (2 : Nat) ^ 48 = 281474976710656 := by decide
    omega
  have h4 : ¬ (((n + m : Nat) : Int) > IntKind.i64.max ∧ (false = true ∨ bytes = 0)) := fun h => by
    rcases h.2 with h | h
    · exact nomatch h
    · exact hby0 h
  have hch : (choose (.appendCap (n + m) c e)).run P w = .ok newCap w1 := by
    rw [run_choose, hcap, hw1]
    rfl
  have hsz : w1.heap.size = w.heap.size := by rw [hw1]
  unfold Builtin.append_
  simp only [List.getElem?_toArray, List.getElem?_cons_zero, List.getElem?_cons_succ, Sem.run_bind, run_und ht, run_und hu, run_size hn, Result.andThen_ok, Sem.run_pure]
  simp only [Bool.false_eq_true, if_false, Sem.run_bind, hlen, Result.andThen_ok, if_neg (Nat.not_le.2 hroom), Bool.not_false, if_true, hti, hib]
  rw [if_neg (by simpa using h4)]
  simp only [Sem.run_bind, hti, Result.andThen_ok, hib, if_neg h3, hch, run_askRoom, hold, hsrc, hz, newRow, run_newObj, Sem.run_pure, hsz]
end ops
end Go.Proofs.YtjdbcfnlehedmaaGreatDoor.Av
