/-
  EVERY INSTRUCTION, BY ITS KIND: one that turns nothing, one that turns memory, a call, a panic.
-/
import Derived.Test.YtjdbcfnlehedmaaGreatDoorAvEqi
namespace Go.Proofs.YtjdbcfnlehedmaaGreatDoor.Av
set_option linter.unusedVariables false
set_option linter.unusedSimpArgs false
open Go Go.RowKit

theorem bind_some' {α β : Type} {x : Option α} {f : α → Option β} {r : β} (h : (x >>= f) = some r) : ∃ a, x = some a ∧ f a = some r := by
  cases x with
  | none => exact nomatch h
  | some a => exact ⟨a, rfl, h⟩
theorem map_some' {α β : Type} {x : Option α} {f : α → β} {r : β} (h : x.map f = some r) : ∃ a, x = some a ∧ f a = r := by
  cases x with
  | none => exact nomatch h
  | some a => exact ⟨a, rfl, Option.some.inj h⟩
theorem ite_none {α : Type} {p : Prop} [Decidable p] {x : Option α} {r : α} (h : (if p then none else x) = some r) : ¬ p ∧ x = some r := by
  split at h
  · exact nomatch h
  · exact ⟨by assumption, h⟩
/-- An instruction that turns nothing is sound. -/
def PureOk (P : Program) (o : Oper) (f : Tr V → St → Option V) : Prop :=
  ∀ {base : Nat} {ρ : Map} {st : St} {w : World} {nt : Nat} {tm : Tr V} {a : Act} {v : V}, Ctx P base ρ st w nt tm a → f tm st = some v → Gives P ρ st.next w a o v
/-- So is one that turns memory. -/
def LoudOk (P : Program) (o : Oper) (f : Tr V → St → Ev) : Prop :=
  ∀ {base : Nat} {ρ : Map} {st st' : St} {w : World} {nt : Nat} {tm : Tr V} {a : Act} {v : V}, Ctx P base ρ st w nt tm a → base ≤ w.heap.size → f tm st = some (v, st') → Turns P base ρ st w a o v st'
/-- What an operation comes to. -/
inductive Cls (P : Program) (o : Oper) : I → Prop
  | pure (i : I) (f : Tr V → St → Option V) : i.go = gP f → PureOk P o f → Cls P o i
  | loud (i : I) (f : Tr V → St → Ev) : kindI i = 2 ∨ (kindI i = 4 ∧ SoftOk P o f) → i.go = gE f → LoudOk P o f → Cls P o i
  | call (f : FuncId) (xs : List X) (c : Call) : o.op = .call c → c.callee = .value (.func f) → compXs P c.args.toList = some xs → Cls P o (.call f xs)
  | dyn (x : X) (y : Operand) (xs : List X) (c : Call) : o.op = .call c → c.callee = .value y → compX P y = some x → compXs P c.args.toList = some xs → Cls P o (.dyn x xs)
  | panic (x : X) (y : Operand) : o.op = .panic y → compX P y = some x → Cls P o (.panic x)
section
variable {P : Program} {o : Oper}
theorem plainT_cases {t : TypeId} {k : Nat} (h : plainT P t = some k) : (∃ kk, P.underlying t = some (.int kk) ∧ k = codeK kk) ∨ (P.underlying t = some .string ∧ k = 100) ∨ (P.underlying t = some .bool ∧ k = 101) := by
  unfold plainT at h
  split at h
  · rename_i kk hu; exact .inl ⟨kk, hu, (Option.some.inj h).symm⟩
  · rename_i hu; exact .inr (.inl ⟨hu, (Option.some.inj h).symm⟩)
  · rename_i hu; exact .inr (.inr ⟨hu, (Option.some.inj h).symm⟩)
  · exact nomatch h
theorem code_plain (kk : IntKind) : codeK kk ≠ 100 ∧ codeK kk ≠ 101 := by cases kk <;> decide
theorem bin_ok {op : BinOp} {t u : TypeId} {x y : Operand} {k : Nat} {a b : X} (ho : o.op = .binOp op t x y u) (hk : plainT P t = some k) (hx : compX P x = some a) (hy : compX P y = some b) : PureOk P o (binF op k a b) := by
  intro base ρ st w nt tm a' v c h
  rcases plainT_cases hk with ⟨kk, hu, rfl⟩ | ⟨hu, rfl⟩ | ⟨hu, rfl⟩
  · unfold binF at h
    rw [if_neg (code_plain kk).1, if_neg (code_plain kk).2] at h
    cases op with
    | add => exact g_int c ho hx hy (fun kk m n r => two_add) h
    | sub => exact g_int c ho hx hy (fun kk m n r => two_sub) h
    | mul => exact g_int c ho hx hy (fun kk m n r => two_mul) h
    | quo => exact g_int c ho hx hy (fun kk m n r => two_quo) h
    | rem => exact g_int c ho hx hy (fun kk m n r => two_rem) h
    | and => exact g_int c ho hx hy (fun kk m n r => two_and) h
    | or => exact g_int c ho hx hy (fun kk m n r => two_or) h
    | xor => exact g_int c ho hx hy (fun kk m n r => two_xor) h
    | andNot => exact g_int c ho hx hy (fun kk m n r => two_andNot) h
    | shl => exact g_sh c ho hx hy (fun kk jj m n r hr => two_shl hr ρ st.next) h
    | shr => exact g_sh c ho hx hy (fun kk jj m n r hr => two_shr hr ρ st.next) h
    | eql => exact g_int c ho hx hy (fun kk m n r => two_eql) h
    | neq => exact g_int c ho hx hy (fun kk m n r => two_neq) h
    | lss => exact g_int c ho hx hy (fun kk m n r => two_lss) h
    | leq => exact g_int c ho hx hy (fun kk m n r => two_leq) h
    | gtr => exact g_int c ho hx hy (fun kk m n r => two_gtr) h
    | geq => exact g_int c ho hx hy (fun kk m n r => two_geq) h
  · unfold binF at h
    rw [if_pos rfl] at h
    cases op with
    | add => exact g_str c ho hx hy (fun m n r hr => str_add m n r hr _) ⟨by simp, by simp⟩ h
    | eql => exact g_str c ho hx hy (fun m n r hr => str_rest (f := sEql) (by simp) m n r hr _) ⟨by simp, by simp⟩ h
    | neq => exact g_str c ho hx hy (fun m n r hr => str_rest (f := sNeq) (by simp) m n r hr _) ⟨by simp, by simp⟩ h
    | lss => exact g_str c ho hx hy (fun m n r hr => str_rest (f := sLss) (by simp) m n r hr _) ⟨by simp, by simp⟩ h
    | leq => exact g_str c ho hx hy (fun m n r hr => str_rest (f := sLeq) (by simp) m n r hr _) ⟨by simp, by simp⟩ h
    | gtr => exact g_str c ho hx hy (fun m n r hr => str_rest (f := sGtr) (by simp) m n r hr _) ⟨by simp, by simp⟩ h
    | geq => exact g_str c ho hx hy (fun m n r hr => str_rest (f := sGeq) (by simp) m n r hr _) ⟨by simp, by simp⟩ h
    | _ => exact nomatch h
  · unfold binF at h
    rw [if_neg (by decide), if_pos rfl] at h
    cases op with
    | eql => exact g_boo c hu ho hx hy (.inl ⟨rfl, rfl⟩) h
    | neq => exact g_boo c hu ho hx hy (.inr ⟨rfl, rfl⟩) h
    | _ => exact nomatch h
theorem un_ok {op : UnOp} {t : TypeId} {x : Operand} {k : Nat} {a : X} (ho : o.op = .unOp op t x) (hk : plainT P t = some k) (hx : compX P x = some a) : PureOk P o (unF op k a) := by
  intro base ρ st w nt tm a' v c h
  cases op with
  | neg => exact g_neg c ho hx h
  | xor => exact g_xor1 c ho hx h
  | not => exact g_not c ho hx h
  | plus => exact nomatch h
theorem key_int {kt : TypeId} {j : IntKind} : KeyOf (codeK j) (.int j) := .inl ⟨j, rfl, rfl⟩
theorem key_str : KeyOf 100 .string := .inr ⟨rfl, rfl⟩
theorem cls {i : I} (h : compOp P o = some i) : Cls P o i := by
  unfold compOp at h
  split at h
  · -- move
    rename_i x ho
    obtain ⟨y, hx, h⟩ := bind_some' h
    obtain rfl := Option.some.inj h
    exact .pure _ (iMov y) rfl fun c h => by
      obtain rfl := Option.some.inj h
      exact g_mov c (.inl ho) hx
  · -- assign
    rename_i x ho
    obtain ⟨y, hx, h⟩ := bind_some' h
    obtain rfl := Option.some.inj h
    exact .pure _ (iMov y) rfl fun c h => by
      obtain rfl := Option.some.inj h
      exact g_mov c (.inr ho) hx
  · -- pick
    rename_i x y z ho
    obtain ⟨x', hx, h⟩ := bind_some' h
    obtain ⟨y', hy, h⟩ := bind_some' h
    obtain ⟨z', hz, h⟩ := bind_some' h
    obtain rfl := Option.some.inj h
    exact .pure _ _ rfl fun c h => g_pick c ho hx hy hz h
  · -- alloc
    rename_i e ho
    obtain ⟨z, hz, h⟩ := bind_some' h
    obtain rfl := Option.some.inj h
    exact .loud _ _ (.inr ⟨rfl, s_alloc hz ho⟩) rfl fun c hb h => e_soft (s_alloc hz ho) c hb h
  · -- box
    rename_i e x ho
    obtain ⟨n, hn, h⟩ := bind_some' h
    obtain ⟨y, hx, h⟩ := bind_some' h
    obtain rfl := Option.some.inj h
    exact .loud _ _ (.inr ⟨rfl, s_box hn hx ho⟩) rfl fun c hb h => e_soft (s_box hn hx ho) c hb h
  · -- build
    rename_i t ps ho
    obtain ⟨z, hz, h⟩ := bind_some' h
    split at h
    · rename_i fs hu
      obtain ⟨pl, hpl, h⟩ := bind_some' h
      obtain ⟨ys, hps, h⟩ := bind_some' h
      obtain rfl := Option.some.inj h
      exact .pure _ _ rfl fun c h => g_buildS c hu hz hpl hps ho h
    · rename_i n e hu
      obtain ⟨m, hm, h⟩ := bind_some' h
      obtain ⟨ys, hps, h⟩ := bind_some' h
      obtain rfl := Option.some.inj h
      exact .pure _ _ rfl fun c h => g_buildA c hu hz hm hps ho h
    · exact nomatch h
  · -- buildSlice
    rename_i t len ps ho
    split at h
    · rename_i e hu
      obtain ⟨n, hn, h⟩ := bind_some' h
      obtain ⟨z, hz, h⟩ := bind_some' h
      obtain ⟨hc, h⟩ := ite_none h
      obtain ⟨ys, hps, h⟩ := bind_some' h
      obtain rfl := Option.some.inj h
      simp only [not_or, Decidable.not_not] at hc
      exact .loud _ _ (.inr ⟨rfl, s_bsl hu hn hz hc.2.1 hc.2.2 hc.1 hps ho⟩) rfl fun c hb h => e_soft (s_bsl hu hn hz hc.2.1 hc.2.2 hc.1 hps ho) c hb h
    · exact nomatch h
  · -- load
    rename_i t x ho
    obtain ⟨g, hg, h⟩ := bind_some' h
    obtain ⟨n, hn, h⟩ := bind_some' h
    obtain ⟨y, hx, h⟩ := bind_some' h
    obtain rfl := Option.some.inj h
    exact .pure _ _ rfl fun c h => g_load c ho hg hn hx h
  · -- store
    rename_i t x y ho
    obtain ⟨n, hn, h⟩ := bind_some' h
    obtain ⟨x', hx, h⟩ := bind_some' h
    obtain ⟨y', hy, h⟩ := bind_some' h
    obtain rfl := Option.some.inj h
    exact .loud _ _ (.inl rfl) rfl fun c hb h => e_store c hn hx hy ho h
  · -- nilCheck
    rename_i x ho
    obtain ⟨y, hx, h⟩ := bind_some' h
    obtain rfl := Option.some.inj h
    exact .pure _ _ rfl fun c h => g_nck c ho hx h
  · -- binOp
    rename_i op t x y u ho
    obtain ⟨x', hx, h⟩ := bind_some' h
    obtain ⟨y', hy, h⟩ := bind_some' h
    split at h
    · rename_i k hk
      obtain rfl := Option.some.inj h
      exact .pure _ _ rfl (bin_ok ho hk hx hy)
    · split at h
      · split at h
        · rename_i p hp
          obtain rfl := Option.some.inj h
          exact .pure _ _ rfl fun c h => g_eqn c (.inl ⟨rfl, rfl⟩) hp ho hx hy h
        · split at h
          · rename_i hi
            obtain rfl := Option.some.inj h
            exact .pure _ _ rfl fun c h => g_eqi c (.inl ⟨rfl, rfl⟩) hi ho hx hy h
          · exact nomatch h
      · split at h
        · rename_i p hp
          obtain rfl := Option.some.inj h
          exact .pure _ _ rfl fun c h => g_eqn c (.inr ⟨rfl, rfl⟩) hp ho hx hy h
        · split at h
          · rename_i hi
            obtain rfl := Option.some.inj h
            exact .pure _ _ rfl fun c h => g_eqi c (.inr ⟨rfl, rfl⟩) hi ho hx hy h
          · exact nomatch h
      · exact nomatch h
  · -- unOp
    rename_i op t x ho
    obtain ⟨k, hk, h⟩ := bind_some' h
    obtain ⟨x', hx, h⟩ := bind_some' h
    obtain rfl := Option.some.inj h
    exact .pure _ _ rfl (un_ok ho hk hx)
  · -- convert
    rename_i s d x ho
    obtain ⟨x', hx, h⟩ := bind_some' h
    split at h
    · rename_i j k hs hd
      obtain rfl := Option.some.inj h
      exact .pure _ _ rfl fun c h => g_cvi c hs hd ho hx h
    · rename_i hs hd
      obtain rfl := Option.some.inj h
      exact .pure _ _ rfl fun c h => g_cvid c hs hd ho hx h
    · rename_i j hs hd
      obtain rfl := Option.some.inj h
      exact .pure _ _ rfl fun c h => g_cvis c hs hd ho hx h
    · rename_i e hs hd
      split at h
      · rename_i he
        split at h
        · rename_i hn
          obtain rfl := Option.some.inj h
          exact .loud _ _ (.inl rfl) rfl fun c hb h => e_cvsb c hb hs hd he hn ho hx h
        · exact nomatch h
      · exact nomatch h
    · rename_i e hs hd
      split at h
      · rename_i he
        obtain rfl := Option.some.inj h
        exact .pure _ _ rfl fun c h => g_cvbs c hs hd he ho hx h
      · exact nomatch h
    · exact nomatch h
  · -- makeInterface
    rename_i t x ho
    split at h
    · exact nomatch h
    · rename_i d hd hu
      obtain ⟨x', hx, h⟩ := bind_some' h
      obtain rfl := Option.some.inj h
      exact .pure _ _ rfl fun c h => by
        obtain rfl := Option.some.inj h
        exact g_mki c hu (fun ms e => hd ms e) ho hx
    · exact nomatch h
  · -- makeFunc
    rename_i f first cs ho
    split at h
    · rename_i he
      obtain ⟨ys, hx, h⟩ := bind_some' h
      obtain rfl := Option.some.inj h
      have he' : first = #[] := by simpa using he
      subst he'
      exact .pure _ _ rfl fun c h => by
        obtain rfl := Option.some.inj h
        exact g_mkf c ho hx
    · exact nomatch h
  · -- makeMap
    rename_i t ho
    obtain rfl := Option.some.inj h
    exact .loud _ _ (.inr ⟨rfl, s_mkm ho⟩) rfl fun c hb h => e_soft (s_mkm ho) c hb h
  · -- makeSlice
    rename_i t l k ho
    split at h
    · rename_i e hu
      obtain ⟨n, hn, h⟩ := bind_some' h
      obtain ⟨z, hz, h⟩ := bind_some' h
      obtain ⟨hc, h⟩ := ite_none h
      obtain ⟨by', hby, h⟩ := bind_some' h
      obtain ⟨l', hl, h⟩ := bind_some' h
      obtain ⟨k', hk, h⟩ := bind_some' h
      obtain rfl := Option.some.inj h
      simp only [not_or, Decidable.not_not] at hc
      exact .loud _ _ (.inl rfl) rfl fun c hb h => e_mks c hb hu hn hz hby hc.1 hc.2 hl hk ho h
    · exact nomatch h
  · -- slice
    rename_i t x lo hi mx ho
    obtain ⟨x', hx, h⟩ := bind_some' h
    obtain ⟨l', hl, h⟩ := bind_some' h
    obtain ⟨h', hh, h⟩ := bind_some' h
    obtain ⟨m', hm, h⟩ := bind_some' h
    have hmx : ∀ {r : Option X}, compOX P mx = some r → (r ≠ none → h' ≠ none) → mx ≠ none → hi ≠ none := fun {r} hr hn h1 h2 => by
      subst h2
      cases mx with
      | none => exact h1 rfl
      | some y =>
        obtain ⟨z, _, rfl⟩ := map_some' (show (compX P y).map some = some r from hr)
        have : h' = none := (Option.some.inj (show some none = some h' from hh)).symm
        exact hn (by simp) this
    split at h
    · rename_i hu
      split at h
      · obtain rfl := Option.some.inj h
        cases mx with
        | none => exact .pure _ _ rfl fun c h => g_sls c hu ho hx hl hh h
        | some y =>
          obtain ⟨z, _, hz⟩ := map_some' (show (compX P y).map some = some none from hm)
          exact nomatch hz
      · exact nomatch h
    · rename_i e hu
      split at h
      · exact nomatch h
      · rename_i hne
        obtain ⟨n, hn, h⟩ := bind_some' h
        obtain rfl := Option.some.inj h
        exact .pure _ _ rfl fun c h => g_sll c hu hn ho hx hl hh hm (hmx hm fun h1 h2 => by
          cases m' with
          | none => exact h1 rfl
          | some q => exact hne q rfl h2) h
    · rename_i n e hu
      split at h
      · exact nomatch h
      · rename_i hne
        obtain ⟨n, hn, h⟩ := bind_some' h
        obtain rfl := Option.some.inj h
        exact .pure _ _ rfl fun c h => g_sla c hu hn ho hx hl hh hm (hmx hm fun h1 h2 => by
          cases m' with
          | none => exact h1 rfl
          | some q => exact hne q rfl h2) h
    · exact nomatch h
  · -- fieldAddr
    rename_i t x f ho
    split at h
    · rename_i fs hu
      obtain ⟨fl, hf, h⟩ := bind_some' h
      obtain ⟨n, hn, h⟩ := bind_some' h
      obtain ⟨h0, h⟩ := ite_none h
      obtain ⟨x', hx, h⟩ := bind_some' h
      obtain rfl := Option.some.inj h
      exact .pure _ _ rfl fun c h => g_fad c hu hf hn h0 ho hx h
    · exact nomatch h
  · -- field
    rename_i t x f ho
    split at h
    · rename_i fs hu
      obtain ⟨fl, hf, h⟩ := bind_some' h
      obtain ⟨g, hg, h⟩ := bind_some' h
      obtain ⟨n, hn, h⟩ := bind_some' h
      obtain ⟨x', hx, h⟩ := bind_some' h
      obtain rfl := Option.some.inj h
      exact .pure _ _ rfl fun c h => g_fld c hu hf hg hn ho hx h
    · exact nomatch h
  · -- indexAddr
    rename_i t x i' ho
    split at h
    · rename_i e hu
      obtain ⟨n, hn, h⟩ := bind_some' h
      obtain ⟨x', hx, h⟩ := bind_some' h
      obtain ⟨y', hy, h⟩ := bind_some' h
      obtain rfl := Option.some.inj h
      exact .pure _ _ rfl fun c h => g_iad c hu hn ho hx hy h
    · rename_i m e hu
      obtain ⟨n, hn, h⟩ := bind_some' h
      obtain ⟨x', hx, h⟩ := bind_some' h
      obtain ⟨y', hy, h⟩ := bind_some' h
      obtain rfl := Option.some.inj h
      exact .pure _ _ rfl fun c h => g_iaa c hu hn ho hx hy h
    · exact nomatch h
  · -- index
    rename_i t x i' ho
    split at h
    · rename_i hu
      obtain ⟨x', hx, h⟩ := bind_some' h
      obtain ⟨y', hy, h⟩ := bind_some' h
      obtain rfl := Option.some.inj h
      exact .pure _ _ rfl fun c h => g_ixs c hu ho hx hy h
    · rename_i m e hu
      obtain ⟨g, hg, h⟩ := bind_some' h
      obtain ⟨n, hn, h⟩ := bind_some' h
      obtain ⟨x', hx, h⟩ := bind_some' h
      obtain ⟨y', hy, h⟩ := bind_some' h
      obtain rfl := Option.some.inj h
      exact .pure _ _ rfl fun c h => g_ixa c hu hg hn ho hx hy h
    · exact nomatch h
  · -- lookup
    rename_i t x i' ok ho
    split at h
    · rename_i k e hu
      obtain ⟨z, hz, h⟩ := bind_some' h
      split at h
      · rename_i j hk
        obtain ⟨x', hx, h⟩ := bind_some' h
        obtain ⟨y', hy, h⟩ := bind_some' h
        obtain rfl := Option.some.inj h
        exact .pure _ _ rfl fun c h => g_lok c hu hk (.inl ⟨j, rfl, rfl⟩) hz ho hx hy h
      · rename_i hk
        obtain ⟨x', hx, h⟩ := bind_some' h
        obtain ⟨y', hy, h⟩ := bind_some' h
        obtain rfl := Option.some.inj h
        exact .pure _ _ rfl fun c h => g_lok c hu hk key_str hz ho hx hy h
      · exact nomatch h
    · exact nomatch h
  · -- mapUpdate
    rename_i t m k v ho
    split at h
    · rename_i kt e hu
      split at h
      · rename_i j hk
        obtain ⟨m', hm, h⟩ := bind_some' h
        obtain ⟨k', hk', h⟩ := bind_some' h
        obtain ⟨v', hv, h⟩ := bind_some' h
        obtain rfl := Option.some.inj h
        exact .loud _ _ (.inl rfl) rfl fun c hb h => e_upd c hu hk (.inl ⟨j, rfl, rfl⟩) hm hk' hv (.inl ho) h
      · rename_i hk
        obtain ⟨m', hm, h⟩ := bind_some' h
        obtain ⟨k', hk', h⟩ := bind_some' h
        obtain ⟨v', hv, h⟩ := bind_some' h
        obtain rfl := Option.some.inj h
        exact .loud _ _ (.inl rfl) rfl fun c hb h => e_upd c hu hk key_str hm hk' hv (.inl ho) h
      · exact nomatch h
    · exact nomatch h
  · -- insert
    rename_i t m k v ho
    split at h
    · rename_i kt e hu
      split at h
      · rename_i j hk
        obtain ⟨m', hm, h⟩ := bind_some' h
        obtain ⟨k', hk', h⟩ := bind_some' h
        obtain ⟨v', hv, h⟩ := bind_some' h
        obtain rfl := Option.some.inj h
        exact .loud _ _ (.inl rfl) rfl fun c hb h => e_upd c hu hk (.inl ⟨j, rfl, rfl⟩) hm hk' hv (.inr ho) h
      · rename_i hk
        obtain ⟨m', hm, h⟩ := bind_some' h
        obtain ⟨k', hk', h⟩ := bind_some' h
        obtain ⟨v', hv, h⟩ := bind_some' h
        obtain rfl := Option.some.inj h
        exact .loud _ _ (.inl rfl) rfl fun c hb h => e_upd c hu hk key_str hm hk' hv (.inr ho) h
      · exact nomatch h
    · exact nomatch h
  · -- range
    rename_i t x ho
    split at h
    · rename_i hu
      obtain ⟨x', hx, h⟩ := bind_some' h
      obtain rfl := Option.some.inj h
      exact .loud _ _ (.inl rfl) rfl fun c hb h => e_rng c hb hu hx ho h
    · exact nomatch h
  · -- next
    rename_i it ho
    obtain ⟨x', hx, h⟩ := bind_some' h
    obtain rfl := Option.some.inj h
    exact .loud _ _ (.inl rfl) rfl fun c hb h => e_nxt c hx ho h
  · -- typeAssert
    rename_i x xt t ok ho
    split at h
    · exact nomatch h
    · rename_i d hd hu
      obtain ⟨z, hz, h⟩ := bind_some' h
      obtain ⟨x', hx, h⟩ := bind_some' h
      obtain rfl := Option.some.inj h
      exact .pure _ _ rfl fun c h => g_tas c hu (fun ms e => hd ms e) hz ho hx h
    · exact nomatch h
  · -- extract
    rename_i x i' ho
    obtain ⟨x', hx, h⟩ := bind_some' h
    obtain rfl := Option.some.inj h
    exact .pure _ _ rfl fun c h => g_ext c ho hx h
  · -- call
    rename_i c ho
    split at h
    · rename_i f hc
      obtain ⟨xs, hx, h⟩ := bind_some' h
      obtain rfl := Option.some.inj h
      exact .call f xs c ho hc hx
    · rename_i y hf hc
      obtain ⟨x', hx, h⟩ := bind_some' h
      obtain ⟨xs, hxs, h⟩ := bind_some' h
      obtain rfl := Option.some.inj h
      exact .dyn x' y xs c ho hc hx hxs
    · -- len
      rename_i hc
      split at h
      · rename_i x t ha hat
        split at h
        · rename_i hu
          obtain ⟨x', hx, h⟩ := bind_some' h
          obtain rfl := Option.some.inj h
          exact .pure _ _ rfl fun c h => g_lenS c ho hc ha hat hu hx h
        · rename_i e hu
          obtain ⟨x', hx, h⟩ := bind_some' h
          obtain rfl := Option.some.inj h
          exact .pure _ _ rfl fun c h => g_lenL c ho hc ha hat hu hx h
        · rename_i k e hu
          obtain ⟨x', hx, h⟩ := bind_some' h
          obtain rfl := Option.some.inj h
          exact .pure _ _ rfl fun c h => g_lenM c ho hc ha hat hu hx h
        · rename_i n e hu
          obtain rfl := Option.some.inj h
          refine .pure _ (iMov (.c (.int 63 n))) rfl fun c h => ?_
          obtain rfl := Option.some.inj h
          refine len_run ho hc ha hat (v' := .int .i64 (n : Int)) ?_ (.int .i64 _)
          simp only [Builtin.len_, List.getElem?_toArray, List.getElem?_cons_zero, Sem.run_bind, run_und hu, Result.andThen_ok]; rfl
        · exact nomatch h
      · exact nomatch h
    · -- append
      rename_i hc
      split at h
      · rename_i x y t u ha hat
        split at h
        · rename_i e hu
          split at h
          · rename_i e' hu'
            obtain ⟨n, hn, h⟩ := bind_some' h
            obtain ⟨z, hz, h⟩ := bind_some' h
            obtain ⟨b, hb, h⟩ := bind_some' h
            obtain ⟨hcc, h⟩ := ite_none h
            obtain ⟨x', hx, h⟩ := bind_some' h
            obtain ⟨y', hy, h⟩ := bind_some' h
            obtain rfl := Option.some.inj h
            simp only [not_or, Decidable.not_not] at hcc
            exact .loud _ _ (.inl rfl) rfl fun c hbb h => e_app c hbb (sf := false) ⟨hu, ⟨_, hu', by simp⟩, hn, hz, hb, hcc.1, hcc.2.1, hcc.2.2, fun h => nomatch h⟩ ho hc ha hat hx hy h
          · rename_i hu'
            obtain ⟨n, hn, h⟩ := bind_some' h
            obtain ⟨z, hz, h⟩ := bind_some' h
            obtain ⟨b, hb, h⟩ := bind_some' h
            obtain ⟨hcc, h⟩ := ite_none h
            obtain ⟨x', hx, h⟩ := bind_some' h
            obtain ⟨y', hy, h⟩ := bind_some' h
            obtain rfl := Option.some.inj h
            simp only [not_or, Decidable.not_not] at hcc
            exact .loud _ _ (.inl rfl) rfl fun c hbb h => e_app c hbb (sf := true) ⟨hu, ⟨_, hu', by simp⟩, hn, hz, hb, hcc.1, by omega, hcc.2.2, fun _ => hcc.2.1⟩ ho hc ha hat hx hy h
          · exact nomatch h
        · exact nomatch h
      · exact nomatch h
    · -- copy
      rename_i hc
      split at h
      · rename_i x y t u ha hat
        split at h
        · rename_i e hu
          split at h
          · rename_i e' hu'
            obtain ⟨n, hn, h⟩ := bind_some' h
            obtain ⟨hcc, h⟩ := ite_none h
            obtain ⟨x', hx, h⟩ := bind_some' h
            obtain ⟨y', hy, h⟩ := bind_some' h
            obtain rfl := Option.some.inj h
            exact .loud _ _ (.inl rfl) rfl fun c hbb h => e_cpy c (sf := false) hu hn (fun h => nomatch h) ho hc ha hat hx hy h
          · rename_i hu'
            obtain ⟨n, hn, h⟩ := bind_some' h
            obtain ⟨hcc, h⟩ := ite_none h
            obtain ⟨x', hx, h⟩ := bind_some' h
            obtain ⟨y', hy, h⟩ := bind_some' h
            obtain rfl := Option.some.inj h
            exact .loud _ _ (.inl rfl) rfl fun c hbb h => e_cpy c (sf := true) hu hn (fun _ => by omega) ho hc ha hat hx hy h
          · exact nomatch h
        · exact nomatch h
      · exact nomatch h
    · -- min
      rename_i hc
      split at h
      · rename_i x y ha
        obtain ⟨x', hx, h⟩ := bind_some' h
        obtain ⟨y', hy, h⟩ := bind_some' h
        obtain rfl := Option.some.inj h
        exact .pure _ _ rfl fun c h => g_mn c ho hc ha hx hy h
      · exact nomatch h
    · -- max
      rename_i hc
      split at h
      · rename_i x y ha
        obtain ⟨x', hx, h⟩ := bind_some' h
        obtain ⟨y', hy, h⟩ := bind_some' h
        obtain rfl := Option.some.inj h
        exact .pure _ _ rfl fun c h => g_mx c ho hc ha hx hy h
      · exact nomatch h
    · exact nomatch h
  · -- panic
    rename_i x ho
    obtain ⟨x', hx, h⟩ := bind_some' h
    obtain rfl := Option.some.inj h
    exact .panic _ _ ho hx
  · exact nomatch h
end
end Go.Proofs.YtjdbcfnlehedmaaGreatDoor.Av
