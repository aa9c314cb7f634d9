/- The translation of the dump's code into the small language. Own work. -/
import Derived.Test.YtbcpffhialoliaaEvIR
namespace Go.Ev

def cD : Value → Option D
  | .bool b => some (.bool b)
  | .int k n => some (.int k n)
  | .string s => some (.str s.data.toList)
  | .pointer none => some .nilp
  | .slice none 0 0 => some .nils
  | .map none => some .nilm
  | .nilFunc => some .nilf
  | .nilIface => some .nili
  | _ => none
def allO {α β : Type} (f : α → Option β) : List α → Option (List β)
  | [] => some []
  | x :: l => match f x, allO f l with
    | some y, some r => some (y :: r)
    | _, _ => none
def cV : Value → Option AV
  | .agg cs => (allO cD cs.toList).map fun ds => .agg (ds.map .d)
  | .tuple ⟨[]⟩ => some (.tup [])
  | v => (cD v).map .d
def cX : Operand → Option X
  | .tmp t => some (.s t)
  | .const v => (cV v).map .c
  | .func f => some (.c (.clo (.func f) [] []))
  | .global _ => none
def cXs (l : Array Operand) : Option (List X) := allO cX l.toList

/-- The cells of a type's zero value: as many as the type has. -/
def zerosOf (P : Program) (t : TypeId) : Option (List D) :=
  match P.info? t with
  | some i => match i.zero with
    | some v => match allO cD v.cells.toList with
      | some ds => if ds.length = i.size then some ds else none
      | none => none
    | none => none
  | none => none
def isIfc : TypeDesc → Bool
  | .interface _ => true
  | _ => false
def isAggD : TypeDesc → Bool
  | .struct _ | .array _ _ => true
  | _ => false
/-- Types whose values are plain cells, held against each other cell by cell: the cells' kinds. -/
def flatK (P : Program) : Nat → TypeId → Option (List Nat)
  | 0, _ => none
  | n + 1, t => match P.underlying t with
    | some .bool => if (P.info? t).map (·.size) = some 1 then some [0] else none
    | some (.int _) => if (P.info? t).map (·.size) = some 1 then some [1] else none
    | some .string => if (P.info? t).map (·.size) = some 1 then some [2] else none
    | some (.struct fs) => if P.stoodInHeld t then none else fields (flatK P n) P 0 fs.toList
    | some (.array m e) => match flatK P n e with
      | some ks => if ks.length = P.cellsOf e then some ((List.replicate m ks).flatten) else none
      | none => none
    | _ => none
where fields (f : TypeId → Option (List Nat)) (P : Program) (o : Nat) : List Field → Option (List Nat)
  | [] => some []
  | fd :: fs => match f fd.type, fields f P (o + P.cellsOf fd.type) fs with
    | some ks, some r => if fd.name ≠ "_" ∧ fd.offset = o ∧ ks.length = P.cellsOf fd.type then some (ks ++ r) else none
    | _, _ => none

def nilK (d : TypeDesc) (c : Value) : Option Nat := match d, c with
  | .pointer _, .pointer none => some 0
  | .slice _, .slice none 0 0 => some 1
  | .map _ _, .map none => some 2
  | .func _ _ _, .nilFunc => some 3
  | .interface _, .nilIface => some 4
  | _, _ => none
def cNil (d : TypeDesc) (x : X) (op : BinOp) (y : Operand) : Option O := match op, y with
  | .eql, .const c => (nilK d c).map fun k => .isn false k x
  | .neq, .const c => (nilK d c).map fun k => .isn true k x
  | _, _ => none

def cO (P : Program) (o : Oper) : Option O :=
  match o.op with
  | .move x | .assign x => (cX x).map .mv
  | .pick c a b => match cX c, cX a, cX b with
    | some c, some a, some b => some (.pick c a b)
    | _, _, _ => none
  | .alloc e => (zerosOf P e).map (.alloc e)
  | .box e x => (cX x).map (.box e)
  | .load t a => match P.underlying t, cX a with
    | some d, some a => if isAggD d then (match P.info? t with | some i => some (.ld a i.size true) | none => none) else some (.ld a 1 false)
    | _, _ => none
  | .store t a x => match P.info? t, cX a, cX x with
    | some i, some a, some x => some (.st a x i.size)
    | _, _, _ => none
  | .nilCheck x => (cX x).map .nc
  | .binOp op t x y _ => match P.underlying t, cX x, cX y with
    | some d, some x', some y' => match d with
      | .int _ | .string => some (.bin op x' y')
      | .bool => match op with
        | .eql => some (.beq false x' y')
        | .neq => some (.beq true x' y')
        | _ => none
      | .struct _ => match op with
        | .eql => match flatK P 50 t with
          | some ks => if P.eqGuardType P.depth t then none else some (.eqs false ks x' y')
          | none => none
        | .neq => match flatK P 50 t with
          | some ks => if P.eqGuardType P.depth t then none else some (.eqs true ks x' y')
          | none => none
        | _ => none
      | .pointer _ | .slice _ | .map _ _ | .func _ _ _ | .interface _ => cNil d x' op y
      | _ => none
    | _, _, _ => none
  | .unOp op _ x => (cX x).map (.un op)
  | .convert s t x => match P.underlying s, P.underlying t, cX x with
    | some ds, some dt, some x => match ds, dt with
      | .int _, .int k => some (.cvi k x)
      | .string, .string => some (.cvs x)
      | .string, .slice e => match P.underlying e with
        | some (.int .u8) => some (.s2b e x)
        | _ => none
      | .slice e, .string => match P.underlying e with
        | some (.int .u8) => some (.b2s x)
        | _ => none
      | .slice e, .slice _ => if s = t then (match P.underlying e with
        | some (.int .u8) => some (.cvl x)
        | _ => none) else none
      | _, _ => none
    | _, _, _ => none
  | .makeInterface t x => match P.underlying t, cX x with
    | some d, some x => if isIfc d then none else some (.mi t x)
    | _, _ => none
  | .makeFunc f a b => match cXs a, cXs b with
    | some a, some b => some (.fn f a b)
    | _, _ => none
  | .fieldAddr s x f => match P.underlying s, cX x with
    | some (.struct fs), some x => match fs[f]? with
      | some fd => match P.info? fd.type with
        | some i => if i.size = 0 then none else some (.fa x fd.offset)
        | none => none
      | none => none
    | _, _ => none
  | .indexAddr t x i => match P.underlying t, cX x, cX i with
    | some (.array n e), some x, some i => match P.info? e with
      | some ti => some (.ia x i n ti.size)
      | none => none
    | some (.slice e), some x, some i => match P.info? e with
      | some ti => if ti.size = 0 then none else some (.is x i ti.size)
      | none => none
    | _, _, _ => none
  | .field t x f => match P.underlying t, cX x with
    | some (.struct fs), some x => match fs[f]? with
      | some fd => match P.underlying fd.type with
        | some d => if isAggD d then (match P.info? fd.type with | some i => some (.fld x fd.offset i.size true) | none => none) else some (.fld x fd.offset 1 false)
        | none => none
      | none => none
    | _, _ => none
  | .index t x i => match P.underlying t, cX x, cX i with
    | some .string, some x, some i => some (.sti x i)
    | some (.array n e), some x, some i => match P.underlying e, P.info? e with
      | some d, some ti => if isAggD d then some (.idx x i n ti.size true) else if ti.size = 1 then some (.idx x i n 1 false) else none
      | _, _ => none
    | _, _, _ => none
  | .build t ps => match P.underlying t, zerosOf P t with
    | some (.struct fs), some zs =>
      if fs.toList.all fun f => (P.info? f.type).isSome then
        (allO (fun (p : Nat × Operand) => match fs[p.1]?, cX p.2 with | some f, some x => some (f.offset, P.cellsOf f.type, x) | _, _ => none) ps.toList).map (.build zs)
      else none
    | some (.array _ e), some zs => match P.info? e with
      | some ti => (allO (fun (p : Nat × Operand) => (cX p.2).map fun x => (p.1 * ti.size, ti.size, x)) ps.toList).map (.build zs)
      | none => none
    | _, _ => none
  | .buildSlice t n ps => match P.underlying t with
    | some (.slice e) => match P.info? e, zerosOf P e with
      | some ti, some zs => if n * ti.size ≤ 16777216 ∧ 0 < ti.size then
          (allO (fun (p : Nat × Operand) => (cX p.2).map fun x => (p.1 * ti.size, ti.size, x)) ps.toList).map (.bsl e ti.size n zs) else none
      | _, _ => none
    | _ => none
  | .extract x i => (cX x).map fun x => .ext x i
  | .makeMap t none => match P.underlying t with
    | some (.map _ _) => some .mmk
    | _ => none
  | .lookup t x k ok => match P.underlying t, cX x, cX k with
    | some (.map kt et), some x, some k => match P.underlying kt, P.info? et with
      | some (.int .i64), some i => match i.zero.bind cV with
        | some z => some (.mget x k z ok)
        | none => none
      | _, _ => none
    | _, _, _ => none
  | .mapUpdate t m k v => match P.underlying t, cX m, cX k, cX v with
    | some (.map kt _), some m, some k, some v => match P.underlying kt with
      | some (.int .i64) => some (.mput m k v)
      | _ => none
    | _, _, _, _ => none
  | .slice t x lo hi mx => match P.underlying t, cX x, cXo lo, cXo hi, cXo mx with
    | some .string, some x, some lo, some hi, some none => some (.ssl x lo hi)
    | some (.slice e), some x, some lo, some hi, some mx => match P.info? e with
      | some ti => if ti.size = 0 then none else if mx.isSome ∧ hi.isNone then none else some (.sl x lo hi mx ti.size)
      | none => none
    | _, _, _, _, _ => none
  | .call c => match c.callee, cXs c.args with
    | .value (.func f), some xs => match P.funcs[f]? with
      | some fn => if fn.body.isSome ∧ fn.name ≠ "runtime.NumGoroutine" then some (.call f xs 0) else none
      | none => none
    | .value x, some xs => (cX x).map fun x => .callv x xs 0
    | .builtin b, some xs => match b, xs with
      | .len, [x] => match (c.argTypes[0]?).bind P.underlying with
        | some .string => some (.lens x)
        | some (.slice _) => some (.len x)
        | some (.array n _) => some (.lenc n)
        | some (.map _ _) => some (.mlen x)
        | _ => none
      | .append, [x, y] => match (c.argTypes[0]?).bind P.underlying, (c.argTypes[1]?).bind P.underlying with
        | some (.slice e), some d => match P.info? e, zerosOf P e with
          | some ti, some _ => if 0 < ti.size ∧ 0 < ti.bytes ∧ noInt d then some (.app e ti.size ti.bytes x y) else none
          | _, _ => none
        | _, _ => none
      | .delete, [x, k] => match (c.argTypes[0]?).bind P.underlying with
        | some (.map kt _) => match P.underlying kt with
          | some (.int .i64) => some (.mdel x k)
          | _ => none
        | _ => none
      | .clear, [x] => match (c.argTypes[0]?).bind P.underlying with
        | some (.slice e) => (zerosOf P e).map fun zs => .bcall (.clr zs) [x]
        | _ => none
      | .copy, [x, y] => match (c.argTypes[0]?).bind P.underlying with
        | some (.slice e) => (P.info? e).map fun ti => .bcall (.cpy ti.size) [x, y]
        | _ => none
      | .max, [x, y] => some (.mx x y)
      | .min, [x, y] => some (.mn x y)
      | _, _ => none
    | _, _ => none
  | _ => none
where
  cXo : Option Operand → Option (Option X)
    | none => some none
    | some x => (cX x).map some
  noInt : TypeDesc → Bool
    | .int _ => false
    | _ => true

/-- The annotations of a text of the small language, set back. -/
def O.strip : O → O
  | .call f xs _ => .call f xs 0
  | .callv x xs _ => .callv x xs 0
  | o => o
def Q.strip (q : Q) : Q := { q with o := q.o.strip, c := .none }
def C.strip : C → C
  | .reg l => .reg (l.map Q.strip)
  | .drw l b _ => .drw (l.map Q.strip) b []
  | .drr l b _ _ _ => .drw (l.map Q.strip) b []
  | .seq a b => .seq a.strip b.strip
  | .cond x a b => .cond x a.strip b.strip
  | .block id c => .block id c.strip
  | .loop _ c => .loop [] c.strip
  | .exit id _ => .exit id none
  | .ret _ => .ret none
  | .ann _ c => c.strip
  | .scp c => .scp c.strip
  | c => c

def cG (ops : Array Oper) : Option (Nat × Bool) → Option (Option (Nat × Bool))
  | none => some none
  | some (j, b) => match (ops[j]?).bind (·.dst) with
    | some t => some (some (t, b))
    | none => none
def cQ (P : Program) (ops : Array Oper) (o : Oper) : Option Q :=
  match cG ops o.guard with
  | some g => match cO P o with
    | some x => some { dst := o.dst, g := g, o := x }
    | none => some { dst := o.dst, g := none, o := .bad }
  | none => some { dst := o.dst, g := none, o := .bad }
def cAft (ops : Array Oper) : List (List Nat) := ops.toList.map fun o => (o.after.toList.filter fun e => Region.binds .any e).map (·.on)
def cC (P : Program) : Code → Option C
  | .skip => some .skip
  | .label _ => some .skip
  | .region _ ops false => (allO (cQ P ops) ops.toList).map .reg
  | .region _ ops true => (allO (cQ P ops) ops.toList).map fun l => .drw l (cAft ops) []
  | .seq a b => match cC P a, cC P b with
    | some a, some b => some (.seq a b)
    | _, _ => none
  | .cond x a b => match cX x, cC P a, cC P b with
    | some x, some a, some b => some (.cond x a b)
    | _, _, _ => some .bad
  | .block id c => (cC P c).map (.block id)
  | .scope c => (cC P c).map .scp
  | .loop c => (cC P c).map (.loop [])
  | .exit id => some (.exit id none)
  | .ret => some (.ret none)
  | _ => some .bad
def cR (P : Program) : ResultVar → Option RV
  | .tmp t => some (.tmp t)
  | .cell a t => match P.underlying t, P.info? t with
    | some d, some i => if isAggD d then some (.cell a i.size true) else some (.cell a 1 false)
    | _, _ => some .bad
def cF (P : Program) (f : FuncId) : Option F :=
  match P.funcs[f]? with
  | some fn => match fn.body with
    | some c => match cC P c, allO (cR P) fn.results.toList with
      | some b, some rs => if fn.name ≠ "runtime.NumGoroutine" then some { n := fn.ntmps, res := rs, body := b } else none
      | _, _ => none
    | none => none
  | none => none
def F.strip (f : F) : F := { f with body := f.body.strip }

end Go.Ev
