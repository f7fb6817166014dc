/-
  THE COMPILER: from the model's code to the abstract machine's. Where it does not know an operation it says 'no'.
-/
import Derived.Test.YtjdbcfnlehedmaaGreatDoorAvDefs
import GoSem.Core.Layout
import GoSem.Core.Check
import Derived.Orders
namespace Go.Proofs.YtjdbcfnlehedmaaGreatDoor.Av
set_option linter.unusedVariables false
open Go

/-- A constant as a value. -/
def ofConst : Value → Option V
  | .bool b => some (.bool b)
  | .int k n => some (.int (codeK k) n)
  | .string s => some (.str s.data.toList)
  | .pointer none => some .nilPtr
  | .slice none 0 0 => some .nilSlice
  | .map none => some .nilMap
  | .nilFunc => some .nilFunc
  | .nilIface => some .nilIface
  | _ => none
def ofConsts : List Value → Option (List V)
  | [] => some []
  | v :: l => match ofConst v, ofConsts l with
    | some a, some b => some (a :: b)
    | _, _ => none
def ofZero : Value → Option V
  | .agg cs => (ofConsts cs.toList).map .agg
  | v => ofConst v
section
variable (P : Program)
def compX : Operand → Option X
  | .tmp t => some (.t (pa t))
  | .const v => (ofZero v).map .c
  | .global g => if g < P.globals.size then some (.c (.ptr g 0)) else none
  | .func f => some (.c (.func f []))
def compXs : List Operand → Option (List X)
  | [] => some []
  | x :: l => match compX P x, compXs l with
    | some a, some b => some (a :: b)
    | _, _ => none
def compOX : Option Operand → Option (Option X)
  | none => some none
  | some x => (compX P x).map some
def aggT (t : TypeId) : Option Bool := match P.underlying t with
  | some (.struct _) => some true
  | some (.array _ _) => some true
  | some _ => some false
  | none => none
def sizeT (t : TypeId) : Option Nat := (P.info? t).map (·.size)
def bytesT (t : TypeId) : Option Nat := (P.info? t).map (·.bytes)
def zeroT (t : TypeId) : Option V := ((P.info? t).bind (·.zero)).bind ofZero
def zerosT (t : TypeId) : Option (List V) := ((P.info? t).bind (·.zero)).bind fun v => ofConsts v.cells.toList
def compParts (place : Nat → Option (Nat × Nat)) : List (Nat × Operand) → Option (List (Nat × Nat × X))
  | [] => some []
  | (i, x) :: l => match place i, compX P x, compParts place l with
    | some (off, n), some a, some b => some ((off, n, a) :: b)
    | _, _, _ => none
def fieldsT : List Field → Option (List (Nat × Nat))
  | [] => some []
  | f :: l => match sizeT P f.type, fieldsT l with
    | some n, some b => some ((f.offset, n) :: b)
    | _, _ => none
/-- The code of a type of numbers; of texts, 100; of truths, 101. -/
def plainT (t : TypeId) : Option Nat := match P.underlying t with
  | some (.int k) => some (codeK k)
  | some .string => some 100
  | some .bool => some 101
  | _ => none
def isNil : Operand → Bool
  | .const .nilIface => true
  | _ => false
/-- The tags of a type that may be nil: of nil, and of what is not. -/
def eqT (t : TypeId) (x y : Operand) : Option (Nat × Nat) := match P.underlying t with
  | some (.interface _) => if isNil x || isNil y then some (7, 101) else none
  | some (.pointer e) => match sizeT P e with
    | some n => if n = 0 then none else some (0, 1)
    | none => none
  | some (.slice _) => some (2, 3)
  | some (.map _ _) => some (4, 5)
  | some (.func _ _ _) => some (6, 100)
  | _ => none
/-- The named types of numbers and of texts. -/
def plainsGo : List TypeInfo → Nat → List Nat
  | [], _ => []
  | i :: l, t => if i.comparable && (!i.methods.isEmpty && (match i.desc with
    | .named _ _ => true
    | _ => false)) then t :: plainsGo l (t + 1) else plainsGo l (t + 1)
def plainsT : List (Nat × Nat) := (plainsGo P.types.toList 0).filterMap fun t => match P.info? t with
  | some i => if i.comparable then match i.desc with
    | .named _ _ => match P.underlying t with
      | some (.int k) => some (t, codeK k)
      | some .string => some (t, 100)
      | _ => none
    | _ => none
    else none
  | none => none
def isIface (t : TypeId) : Bool := match P.underlying t with
  | some (.interface _) => true
  | _ => false
noncomputable def compOp (o : Oper) : Option I :=
  match o.op with
  | .move x | .assign x => do pure (.mov (← compX P x))
  | .pick c a b => do pure (.pick (← compX P c) (← compX P a) (← compX P b))
  | .alloc e => do
    let z ← zerosT P e
    pure (.alloc e z)
  | .box e x => do
    let _ ← sizeT P e
    pure (.box e (← compX P x))
  | .build t ps => do
    let z ← zerosT P t
    match P.underlying t with
    | some (.struct fs) => do
      let pl ← fieldsT P fs.toList
      pure (.build z (← compParts P (pl[·]?) ps.toList))
    | some (.array _ e) => do
      let n ← sizeT P e
      pure (.build z (← compParts P (fun i => some (i * n, n)) ps.toList))
    | _ => none
  | .buildSlice t len ps => do
    match P.underlying t with
    | some (.slice e) => do
      let n ← sizeT P e
      let z ← zerosT P e
      if len * n > 2 ^ 24 ∨ z.length ≠ n ∨ n = 0 then none
      pure (.bsl e len (rep len z) (← compParts P (fun i => some (i * n, n)) ps.toList))
    | _ => none
  | .load t x => do pure (.load (← aggT P t) (← sizeT P t) (← compX P x))
  | .store t a x => do pure (.store (← sizeT P t) (← compX P a) (← compX P x))
  | .nilCheck x => do pure (.nck (← compX P x))
  | .binOp op t x y _ => do
    let a ← compX P x
    let b ← compX P y
    match plainT P t with
    | some k => pure (.bin op k a b)
    | none => match op with
      | .eql => match eqT P t x y with
        | some p => some (.eqn false p.1 p.2 a b)
        | none => if isIface P t then some (.eqi false (plainsT P) a b) else none
      | .neq => match eqT P t x y with
        | some p => some (.eqn true p.1 p.2 a b)
        | none => if isIface P t then some (.eqi true (plainsT P) a b) else none
      | _ => none
  | .unOp op t x => do pure (.un op (← plainT P t) (← compX P x))
  | .convert s d x => do
    let a ← compX P x
    match P.underlying s, P.underlying d with
    | some (.int _), some (.int k) => pure (.cvi (codeK k) a)
    | some .string, some .string => pure (.cvid a)
    | some (.int _), some .string => pure (.cvis a)
    | some .string, some (.slice e) => match P.underlying e with
      | some (.int .u8) => if sizeT P e = some 1 then pure (.cvsb e a) else none
      | _ => none
    | some (.slice e), some .string => match P.underlying e with
      | some (.int .u8) => pure (.cvbs a)
      | _ => none
    | _, _ => none
  | .makeInterface t x => match P.underlying t with
    | some (.interface _) => none
    | some _ => do pure (.mki t (← compX P x))
    | none => none
  | .makeFunc (.func f) first cs => if first.isEmpty then do pure (.mkf f (← compXs P cs.toList)) else none
  | .makeMap _ none => pure .mkm
  | .makeSlice t l c => match P.underlying t with
    | some (.slice e) => do
      let n ← sizeT P e
      let z ← zerosT P e
      if z.length ≠ n ∨ n = 0 then none
      pure (.mks e n (← bytesT P e) z (← compX P l) (← compX P c))
    | _ => none
  | .slice t x lo hi mx => do
    let a ← compX P x
    let l ← compOX P lo
    let h ← compOX P hi
    let m ← compOX P mx
    match P.underlying t with
    | some .string => match m with
      | none => pure (.sls a l h)
      | some _ => none
    | some (.slice e) => match m, h with
      | some _, none => none
      | _, _ => pure (.sll e (← sizeT P e) a l h m)
    | some (.array n e) => match m, h with
      | some _, none => none
      | _, _ => pure (.sla n (← sizeT P e) a l h m)
    | _ => none
  | .fieldAddr t x f => match P.underlying t with
    | some (.struct fs) => do
      let fl ← fs[f]?
      if (← sizeT P fl.type) = 0 then none else pure (.fad fl.offset (← compX P x))
    | _ => none
  | .field t x f => match P.underlying t with
    | some (.struct fs) => do
      let fl ← fs[f]?
      pure (.fld (← aggT P fl.type) fl.offset (← sizeT P fl.type) (← compX P x))
    | _ => none
  | .indexAddr t x i => match P.underlying t with
    | some (.slice e) => do pure (.iad (← sizeT P e) (← compX P x) (← compX P i))
    | some (.array n e) => do pure (.iaa n (← sizeT P e) (← compX P x) (← compX P i))
    | _ => none
  | .index t x i => match P.underlying t with
    | some .string => do pure (.ixs (← compX P x) (← compX P i))
    | some (.array n e) => do pure (.ixa (← aggT P e) n (← sizeT P e) (← compX P x) (← compX P i))
    | _ => none
  | .lookup t x i ok => match P.underlying t with
    | some (.map k e) => do
      let z ← zeroT P e
      match P.underlying k with
      | some (.int j) => pure (.lok (codeK j) z (← compX P x) (← compX P i) ok)
      | some .string => pure (.lok 100 z (← compX P x) (← compX P i) ok)
      | _ => none
    | _ => none
  | .mapUpdate t m k v | .insert t m k v => match P.underlying t with
    | some (.map kt _) => match P.underlying kt with
      | some (.int j) => do pure (.upd (codeK j) (← compX P m) (← compX P k) (← compX P v))
      | some .string => do pure (.upd 100 (← compX P m) (← compX P k) (← compX P v))
      | _ => none
    | _ => none
  | .range t x => match P.underlying t with
    | some .string => do pure (.rng (← compX P x))
    | _ => none
  | .next it true => do pure (.nxt (← compX P it))
  | .typeAssert x _ t ok => match P.underlying t with
    | some (.interface _) => none
    | some _ => do pure (.tas t (← zeroT P t) (← compX P x) ok)
    | none => none
  | .extract x i => do pure (.ext (← compX P x) i)
  | .call c => match c.callee with
    | .value (.func f) => do pure (.call f (← compXs P c.args.toList))
    | .value x => do pure (.dyn (← compX P x) (← compXs P c.args.toList))
    | .builtin .len => match c.args.toList, c.argTypes.toList with
      | [x], [t] => match P.underlying t with
        | some .string => do pure (.len 0 (← compX P x))
        | some (.slice _) => do pure (.len 1 (← compX P x))
        | some (.map _ _) => do pure (.len 2 (← compX P x))
        | some (.array n _) => pure (.mov (.c (.int 63 n)))
        | _ => none
      | _, _ => none
    | .builtin .append => match c.args.toList, c.argTypes.toList with
      | [s, x], [t, u] => match P.underlying t with
        | some (.slice e) => match P.underlying u with
          | some (.slice _) => do
            let n ← sizeT P e
            let z ← zerosT P e
            let b ← bytesT P e
            if z.length ≠ n ∨ n = 0 ∨ b = 0 then none
            pure (.app false e n b (← compX P s) (← compX P x))
          | some .string => do
            let n ← sizeT P e
            let z ← zerosT P e
            let b ← bytesT P e
            if z.length ≠ n ∨ n ≠ 1 ∨ b = 0 then none
            pure (.app true e n b (← compX P s) (← compX P x))
          | _ => none
        | _ => none
      | _, _ => none
    | .builtin .copy => match c.args.toList, c.argTypes.toList with
      | [s, x], [t, u] => match P.underlying t with
        | some (.slice e) => match P.underlying u with
          | some (.slice _) => do
            let n ← sizeT P e
            if n = 0 then none
            pure (.cpy false n (← compX P s) (← compX P x))
          | some .string => do
            let n ← sizeT P e
            if n ≠ 1 then none
            pure (.cpy true n (← compX P s) (← compX P x))
          | _ => none
        | _ => none
      | _, _ => none
    | .builtin .min => match c.args.toList with
      | [x, y] => do pure (.mn (← compX P x) (← compX P y))
      | _ => none
    | .builtin .max => match c.args.toList with
      | [x, y] => do pure (.mx (← compX P x) (← compX P y))
      | _ => none
    | _ => none
  | .panic x => do pure (.panic (← compX P x))
  | _ => none
noncomputable def compO (nt : Nat) (ops : Array Oper) (o : Oper) : Option O :=
  if (o.dst.map fun d => decide (d < nt)).getD true = false then none else
  match o.guard with
  | none => do pure { d := o.dst.map pa, i := (compOp P o).getD (.no 0), g := none }
  | some (j, want) => match (ops[j]?).bind (·.dst) with
    | some t => do pure { d := o.dst.map pa, i := (compOp P o).getD (.no 0), g := some (pa t, want) }
    | none => none
noncomputable def compOs (nt : Nat) (ops : Array Oper) : List Oper → Option (List O)
  | [] => some []
  | o :: l => match compO P nt ops o, compOs nt ops l with
    | some a, some b => some (a :: b)
    | _, _ => none
/-- The kind of an instruction: 0: it looks at no memory, 1: it looks at memory, 2: it may turn it, 4: it makes one object, of its slots alone, 3: none of these. -/
def kindI : I → Nat
  | .load _ _ _ | .sll _ _ _ _ _ _ | .lok _ _ _ _ _ | .cvbs _ => 1
  | .len k _ => if k = 0 then 0 else if k = 1 then 0 else 1
  | .alloc _ _ | .box _ _ | .bsl _ _ _ _ | .mkm => 4
  | .store _ _ _ | .cvsb _ _ | .mks _ _ _ _ _ _ | .upd _ _ _ _ | .rng _ | .nxt _ | .app _ _ _ _ _ _ | .cpy _ _ _ _ | .call _ _ | .dyn _ _ => 2
  | .panic _ | .no _ => 3
  | _ => 0
/-- What is before an operation, as bits. -/
def preOne (pre : List Nat) (o : Oper) : Nat :=
  o.after.toList.foldl (fun m e => if Region.binds .any e then m ||| (2 ^ e.on ||| pre.getD e.on 0) else m) 0
def pres : List Oper → List Nat → List Nat
  | [], acc => acc
  | o :: l, acc => pres l (acc ++ [preOne acc o])
/-- The order in which a region whose order is open is gone through: what turns memory as late as may be. -/
def nextOp (ks pre : List Nat) (n done : Nat) (hard : Bool) : Option Nat :=
  (List.range n).find? fun i => !done.testBit i && ((pre.getD i 0 &&& done) == pre.getD i 0) && (hard || ks.getD i 0 != 2)
def orderGo (ks pre : List Nat) (n : Nat) : Nat → Nat → List Nat
  | 0, _ => []
  | f + 1, done => match nextOp ks pre n done false with
    | some i => i :: orderGo ks pre n f (done ||| 2 ^ i)
    | none => match nextOp ks pre n done true with
      | some i => i :: orderGo ks pre n f (done ||| 2 ^ i)
      | none => []
/-- Two operations, i ahead of k in that order: need they be in that order? -/
def okPair (ks pre : List Nat) (ops : Array Oper) (i k : Nat) : Bool :=
  match ops[i]?, ops[k]? with
  | some oi, some ok =>
    i != k && ((pre.getD k 0).testBit i ||
      (ks.getD i 0 != 2 &&
      (match oi.dst with
       | some t => !(ok.looksAt ops).contains t && ok.dst != some t
       | none => true) &&
      (match ok.dst with
       | some t => !(oi.looksAt ops).contains t
       | none => true)))
  | _, _ => false
def okD (ks pre : List Nat) (ops : Array Oper) (π : List Nat) : Bool :=
  ((List.range ops.size).all fun i => π.contains i && (ks.getD i 3 != 3 &&
    ((ops[i]?).map fun o => o.after.all fun e => !Region.binds .any e || decide (e.on < i)).getD true)) &&
  ((List.range π.length).all fun p => (match ops[π.getD p 0]? with
    | some o => o.after.all fun e => !Region.binds .any e || (π.take p).contains e.on
    | none => false) && (List.range p).all fun r => okPair ks pre ops (π.getD r 0) (π.getD p 0))
/-- The readers ahead of place p that need not be done when what stands there is. -/
def lateOf (ks pre : List Nat) (π : List Nat) (p : Nat) : List Nat :=
  (π.take p).filter fun i => ks.getD i 0 == 1 && !(pre.getD (π.getD p 0) 0).testBit i
def kindD (ks pre : List Nat) (π : List Nat) (p : Nat) : Nat :=
  let i := π.getD p 0
  if ks.getD i 3 = 2 then (if (lateOf ks pre π p).isEmpty then 2 else 3)
  else if ks.getD i 3 = 4 then 4
  else if ks.getD i 3 = 1 && (List.range π.length).any (fun r => ks.getD (π.getD r 0) 0 == 2 && (lateOf ks pre π r).contains i) then 1 else 0
def dsOf (ks pre : List Nat) (ops : Array Oper) (os : List O) (π : List Nat) : List D :=
  (List.range π.length).map fun p => { m := kindD ks pre π p, id := π.getD p 0, cs := lateOf ks pre π p, us := ((ops[π.getD p 0]?).map fun o => (o.looksAt ops).map pa).getD [], o := (os[π.getD p 0]?).getD { d := none, i := .no 1, g := none } }
noncomputable def compDraw (nt : Nat) (ops : Array Oper) : Option C :=
  match compOs P nt ops ops.toList with
  | none => none
  | some os =>
    if okD (os.map fun a => kindI a.i) (pres ops.toList []) ops (orderGo (os.map fun a => kindI a.i) (pres ops.toList []) ops.size ops.size 0) && (ops.all fun o => (o.looksAt ops).all fun t => decide (t < nt)) then
      some (.draw (ops.toList.filterMap fun o => o.dst.map pa) (dsOf (os.map fun a => kindI a.i) (pres ops.toList []) ops os (orderGo (os.map fun a => kindI a.i) (pres ops.toList []) ops.size ops.size 0)))
    else some (.no 1)
noncomputable def comp (nt : Nat) : Code → Option C
  | .skip => some .skip
  | .region _ ops false => (compOs P nt ops ops.toList).map .reg
  | .region _ ops true => compDraw P nt ops
  | .seq a b => match comp nt a, comp nt b with
    | some x, some y => some (.seq x y)
    | _, _ => none
  | .cond c a b => match compX P c, comp nt a, comp nt b with
    | some z, some x, some y => some (.cond z x y)
    | _, _, _ => none
  | .block id b => (comp nt b).map (.block id)
  | .loop b => (comp nt b).map .loop
  | .exit id => some (.exit id)
  | .scope b => (comp nt b).map .scope
  | .ret => some .ret
  | _ => some (.no 0)
def resT : List ResultVar → Option (List RV)
  | [] => some []
  | .tmp t :: l => (resT l).map (.t (pa t) :: ·)
  | .cell a t :: l => do pure (.m (pa a) (← aggT P t) (← sizeT P t) :: (← resT l))
/-- A function; one that has no body is not taken. -/
noncomputable def compF (f : Func) : Option Fn := do
  let c ← f.body
  let b ← comp P f.ntmps c
  let rs ← resT P f.results.toList
  pure { nt := f.ntmps, rs := rs, b := b }
/-- A function that defers one call. -/
noncomputable def compD (nt : Nat) : Code → Option CD
  | .seq (.region id ops false) b => match ops.toList.getLast? with
    | some o => match o.op with
      | .defer c => match c.callee, c.args.toList, o.guard, o.dst with
        | .value y, [], none, none => do pure (.dfr (← compOs P nt ops ops.toList.dropLast) (← compX P y) (← comp P nt b))
        | _, _, _, _ => none
      | _ => do pure (.pre (← comp P nt (.region id ops false)) (← compD nt b))
    | none => none
  | .seq a b => do pure (.pre (← comp P nt a) (← compD nt b))
  | _ => none
noncomputable def compFD (f : Func) : Option (List RV × CD) := do
  let c ← f.body
  let b ← compD P f.ntmps c
  let rs ← resT P f.results.toList
  pure (rs, b)
/-- A function that is deferred, and recovers first of all. -/
noncomputable def compFR (f : Func) : Option (Pa × C) := do
  let c ← f.body
  match c, f.results.toList with
  | .seq (.region _ ops false) rest, [] => match ops.toList with
    | o :: l => match o.op with
      | .call c => match c.callee, o.guard, o.dst with
        | .builtin .recover, none, some t => do
          let os ← compOs P f.ntmps ops l
          let r ← comp P f.ntmps rest
          if t < f.ntmps then pure (pa t, .seq (.reg os) r) else none
        | _, _, _ => none
      | _ => none
    | [] => none
  | _, _ => none
end
end Go.Proofs.YtjdbcfnlehedmaaGreatDoor.Av
