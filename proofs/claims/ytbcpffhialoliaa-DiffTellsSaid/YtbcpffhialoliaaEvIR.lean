/- The small language that the dump's code is turned into, its evaluator over abstract values, and the translation. Own work. -/
import Derived.Test.YtbcpffhialoliaaEvDom
namespace Go.Ev

/-! ### numbers -/
def wr (k : IntKind) (n : Int) : Int := k.wrap n

inductive X where
  | s (t : Nat)
  | c (v : AV)
  deriving Inhabited

/-- Builtins that write an own slice: clear (with the element type's zero row), copy. -/
inductive BK where
  | clr (zs : List D)
  | cpy (z : Nat)
  deriving Inhabited

inductive O where
  | mv (x : X)
  | pick (c a b : X)
  | alloc (e : TypeId) (zs : List D)
  | box (e : TypeId) (x : X)
  | ld (a : X) (n : Nat) (g : Bool)
  | st (a x : X) (n : Nat)
  | nc (x : X)
  | bin (op : BinOp) (x y : X)
  | beq (ne : Bool) (x y : X)
  | eqs (ne : Bool) (ks : List Nat) (x y : X)
  | isn (ne : Bool) (k : Nat) (x : X)
  | un (op : UnOp) (x : X)
  | cvi (k : IntKind) (x : X)
  | cvs (x : X)
  | s2b (e : TypeId) (x : X)
  | cvl (x : X)
  | b2s (x : X)
  | build (zs : List D) (ps : List (Nat × Nat × X))
  | bsl (e : TypeId) (z n : Nat) (zs : List D) (ps : List (Nat × Nat × X))
  | ext (x : X) (i : Nat)
  | fn (f : Fn) (a b : List X)
  | fa (a : X) (o : Nat)
  | ia (a i : X) (n z : Nat)
  | is (a i : X) (z : Nat)
  | fld (x : X) (o n : Nat) (g : Bool)
  | idx (x i : X) (n z : Nat) (g : Bool)
  | sti (x i : X)
  | sl (x : X) (lo hi mx : Option X) (z : Nat)
  | ssl (x : X) (lo hi : Option X)
  | mi (t : TypeId) (x : X)
  | len (x : X)
  | lens (x : X)
  | lenc (n : Nat)
  | mx (x y : X)
  | mn (x y : X)
  | app (e : TypeId) (z b : Nat) (x y : X)
  | mmk
  | mget (x k : X) (z : AV) (ok : Bool)
  | mput (x k v : X)
  | mdel (x k : X)
  | mlen (x : X)
  | call (f : FuncId) (xs : List X) (r : Nat)
  | callv (x : X) (xs : List X) (r : Nat)
  | bcall (k : BK) (xs : List X)
  | bad
  deriving Inhabited

/-- How a result is looked at further: an empty slice that nobody made as an own one (true) or as data; own slices as data. -/
inductive Co where
  | none
  | one (z : Nat) (k : Bool)
  | cells (l : List (Nat × Nat × Bool))
  | frz
  | dat
  | res (l : List (Nat × Nat × Bool))
  | hol (i : Nat) (l : List (Nat × Nat × Bool))
  deriving Inhabited

def Co.quiet : Co → Bool
  | .none => true
  | .one _ k => !k
  | _ => false
/-- An operation that is done as data (it looks at no block) or whose block was laid ahead. -/
def Co.away : Co → Bool
  | .dat | .res _ | .hol _ _ => true
  | _ => false

/-- One operation: where its result goes, whether it runs (the slot of a Bool, and what that must be), what it does, how its result is looked at. -/
structure Q where
  dst : Option Nat
  g : Option (Nat × Bool)
  o : O
  c : Co := .none
  deriving Inhabited

inductive C where
  | skip
  | reg (l : List Q)
  | drw (l : List Q) (b : List (List Nat)) (ne : List (Nat × Nat))
  | drr (l : List Q) (b : List (List Nat)) (ne : List (Nat × Nat)) (old nor : List Nat)
  | seq (a b : C)
  | cond (x : X) (a b : C)
  | block (id : Nat) (c : C)
  | loop (L : List Nat) (c : C)
  | exit (id : Nat) (L : Option (List Nat))
  | ret (L : Option (List Nat))
  | ann (L : List Nat) (c : C)
  | scp (c : C)
  | bad
  deriving Inhabited

inductive RV where
  | tmp (t : Nat)
  | cell (t n : Nat) (g : Bool)
  | bad
  deriving Inhabited

structure F where
  n : Nat
  res : List RV
  body : C
  deriving Inhabited

def X.reads : X → List Nat
  | .s t => [t]
  | .c _ => []
def readsL : List X → List Nat
  | [] => []
  | x :: xs => x.reads ++ readsL xs
def readsO : Option X → List Nat
  | none => []
  | some x => x.reads
def readsP : List (Nat × Nat × X) → List Nat
  | [] => []
  | p :: ps => p.2.2.reads ++ readsP ps
/-- The slots that an operation looks at. -/
def O.reads : O → List Nat
  | .mv x | .box _ x | .ld x _ _ | .nc x | .isn _ _ x | .un _ x | .cvi _ x | .cvs x | .s2b _ x | .cvl x | .b2s x | .ext x _ | .fa x _ | .fld x _ _ _ | .mi _ x | .len x | .lens x | .mlen x => x.reads
  | .pick c a b => c.reads ++ a.reads ++ b.reads
  | .alloc _ _ | .lenc _ | .mmk | .bad => []
  | .st a x _ => a.reads ++ x.reads
  | .bin _ x y | .beq _ x y | .eqs _ _ x y | .ia x y _ _ | .is x y _ | .idx x y _ _ _ | .sti x y | .mx x y | .mn x y | .app _ _ _ x y => x.reads ++ y.reads
  | .build _ ps | .bsl _ _ _ _ ps => readsP ps
  | .fn _ a b => readsL a ++ readsL b
  | .sl x lo hi m _ => x.reads ++ readsO lo ++ readsO hi ++ readsO m
  | .ssl x lo hi => x.reads ++ readsO lo ++ readsO hi
  | .mget x k _ _ | .mdel x k => x.reads ++ k.reads
  | .mput x k v => x.reads ++ k.reads ++ v.reads
  | .call _ xs _ | .bcall _ xs => readsL xs
  | .callv x xs _ => x.reads ++ readsL xs
/-- What leaves the blocks as they are. -/
def O.quiet : O → Bool
  | .alloc .. | .box .. | .st .. | .s2b .. | .bsl .. | .app .. | .mmk | .mput .. | .mdel .. | .bcall .. => false
  | .call _ _ r | .callv _ _ r => r == 2
  | _ => true
def Q.reads (q : Q) : List Nat := (match q.g with | some (t, _) => [t] | none => []) ++ q.o.reads
def Q.writes (q : Q) : List Nat := match q.dst with | some d => [d] | none => []
/-- What neither looks at the blocks nor turns them. -/
def O.free : O → Bool
  | .mv .. | .pick .. | .nc .. | .bin .. | .beq .. | .eqs .. | .isn .. | .un .. | .cvi .. | .cvs .. | .build .. | .ext .. | .fn .. | .fa .. | .ia .. | .is .. | .fld .. | .idx .. | .sti .. | .sl .. | .ssl .. | .mi .. | .len .. | .lens .. | .lenc .. | .mx .. | .mn .. => true
  | _ => false
def Co.free : Co → Bool
  | .none => true
  | .one _ k => !k
  | _ => false
/-- A made value that is looked at cell by cell, no block made. -/
def cfree (o : O) : Co → Bool
  | .cells l => (match o with | .build .. => true | _ => false) && l.all fun x => !x.2.2
  | _ => false
def Q.free (q : Q) : Bool := q.c.away || (q.o.free && (q.c.free || cfree q.o q.c))
/-- Two operations that may change places. -/
def Q.quiet (q : Q) : Bool := q.c.away || (q.o.quiet && (q.c.quiet || cfree q.o q.c))
def Q.apart (p q : Q) : Bool := ((p.quiet && q.quiet) || p.free || q.free) && p.writes.all (fun d => !q.reads.elem d && !q.writes.elem d) && q.writes.all (fun d => !p.reads.elem d)
/-- What an operation waits for, and what that waits for. -/
def uniA : List Nat → List Nat → List Nat
  | [], acc => acc
  | x :: t, acc => if acc.elem x then uniA t acc else uniA t (x :: acc)
theorem mem_uniA {y : Nat} : ∀ {l acc : List Nat}, y ∈ uniA l acc → y ∈ l ∨ y ∈ acc
  | [], _, h => .inr h
  | x :: t, acc, h => by
    unfold uniA at h
    split at h
    · rcases mem_uniA h with h | h
      · exact .inl (.tail _ h)
      · exact .inr h
    · rcases mem_uniA h with h | h
      · exact .inl (.tail _ h)
      · rcases List.mem_cons.1 h with rfl | h
        · exact .inl (.head _)
        · exact .inr h
def upset (bs : List (List Nat)) (b : List Nat) : List Nat := uniA (b ++ b.flatMap fun j => bs.getD j []) []
/-- The slot of the address that an operation without conditions looks at or writes. -/
def O.addr : O → Option Nat
  | .ld (.s a) _ _ => some a
  | .st (.s a) _ _ => some a
  | .call _ (.s a :: _) 3 => some a
  | _ => none
def Q.addr (q : Q) : Option Nat := match q.g, q.c with
  | none, .none => q.o.addr
  | _, _ => none
/-- Two operations at addresses that are told to lie in different blocks. -/
def Q.dis (ne : List (Nat × Nat)) (p q : Q) : Bool := match p.addr, q.addr with
  | some a, some b => ne.any (fun x => x.1 == a && x.2 == b) && p.writes.all (fun d => !q.reads.elem d && !q.writes.elem d) && q.writes.all (fun d => !p.reads.elem d)
  | _, _ => false
/-- What only adds blocks, and the slots that must hold no name for that. -/
def X.bare : X → Bool
  | .s _ => true
  | .c (.d _) | .c (.clo (.func _) [] []) => true
  | .c _ => false
def O.adds : O → Option (List Nat)
  | .alloc .. | .mmk | .box .. | .s2b .. => some []
  | .app _ _ _ x y => if x.bare && y.bare then some (x.reads ++ y.reads) else none
  | .call _ xs r => if (r == 0 || r == 1) && xs.all X.bare then some (readsL xs) else none
  | _ => none
def Q.adds (q : Q) : Option (List Nat) := match q.g, q.c with
  | none, .none => q.o.adds
  | _, _ => none
/-- The slots that must stay as they are. -/
def Q.keeps (q : Q) : List Nat := (match q.addr with | some a => [a] | none => []) ++ (match q.adds with | some l => l | none => [])
/-- No such slot is written at its operation or later. -/
def stayOk : List Q → Bool
  | [] => true
  | q :: l => q.keeps.all (fun a => (q :: l).all (fun p => !p.writes.elem a)) && stayOk l
/-- One that only adds blocks and one at an address of a block that was there before. -/
def Q.adr (old nor : List Nat) (p q : Q) : Bool := match p.adds, q.addr with
  | some l, some b => old.elem b && l.all nor.elem && p.writes.all (fun d => !q.reads.elem d && !q.writes.elem d) && q.writes.all (fun d => !p.reads.elem d)
  | _, _ => false
/-- An order of a drawn region gives what the text's order gives: what an operation waits for stands before it, and what it does not wait for may change places with it. B: what the ones before wait for, all in all. -/
def drwOk (ne : List (Nat × Nat)) (old nor : List Nat) : List Q → List (List Nat) → Nat → List Q → List (List Nat) → Bool
  | [], [], _, _, _ => true
  | q :: l, b :: bs, i, before, B => b.all (fun j => decide (j < i)) && apartL q (upset B b) 0 before && drwOk ne old nor l bs (i + 1) (before ++ [q]) (B ++ [upset B b])
  | _, _, _, _, _ => false
where apartL (q : Q) (b : List Nat) : Nat → List Q → Bool
  | _, [] => true
  | j, p :: ps => (b.elem j || p.apart q || p.dis ne q || p.adr old nor q || q.adr old nor p) && apartL q b (j + 1) ps
/-- The blocks that are laid ahead: new variables, each at a place of its own. -/
def dco1 (z : Nat) : D → D
  | .nils | .emp => .list z []
  | d => d
def dcoL : List (Nat × Nat × Bool) → List D → List D
  | [], ds => ds
  | (j, z, _) :: l, ds => dcoL l (ds.set j (dco1 z (ds.getD j .nilp)))
def layOf : List Q → List (List D)
  | [] => []
  | q :: l => match q.c, q.o with
    | .res c, .alloc _ zs => dcoL c zs :: layOf l
    | _, _ => layOf l
def absL : Nat → List Q → List Q
  | _, [] => []
  | n, q :: l => match q.c, q.o with
    | .res c, .alloc _ _ => { q with c := .hol n c } :: absL (n + 1) l
    | _, _ => q :: absL n l
def noHol (l : List Q) : Bool := l.all fun q => match q.c with | .hol _ _ => false | _ => true
def C.okD : C → Bool
  | .reg l => noHol l
  | .drw l b ne => drwOk ne [] [] l b 0 [] [] && (ne.isEmpty || stayOk l) && noHol l
  | .drr l b ne old nor => drwOk ne old nor l b 0 [] [] && stayOk l && noHol l
  | .seq a b => a.okD && b.okD
  | .cond _ a b => a.okD && b.okD
  | .block _ c | .loop _ c | .ann _ c | .scp c => c.okD
  | _ => true

/-! ### abstract values: names -/
mutual
def AV.ren (f : Nat → Option Nat) : AV → AV
  | .unk => .unk
  | .d x => .d x
  | .agg cs => .agg (AV.renL f cs)
  | .tup cs => .tup (AV.renL f cs)
  | .ptr i o => match f i with | some j => .ptr j o | none => .unk
  | .ept i z k c => match f i with | some j => .ept j z k c | none => .unk
  | .cpt cs c => .cpt cs c
  | .own i z o n k => match f i with | some j => .own j z o n k | none => .unk
  | .clo fn a b => .clo fn (AV.renL f a) (AV.renL f b)
  | .ifc t x => .ifc t (x.ren f)
  | .mref i => match f i with | some j => .mref j | none => .unk
def AV.renL (f : Nat → Option Nat) : List AV → List AV
  | [] => []
  | x :: xs => x.ren f :: AV.renL f xs
end
mutual
def AV.refs : AV → List Nat
  | .unk | .d _ | .cpt .. => []
  | .agg cs | .tup cs => AV.refsL cs
  | .ptr i _ | .ept i _ _ _ | .own i _ _ _ _ | .mref i => [i]
  | .clo _ a b => AV.refsL a ++ AV.refsL b
  | .ifc _ x => x.refs
def AV.refsL : List AV → List Nat
  | [] => []
  | x :: xs => x.refs ++ AV.refsL xs
end
def Blk.ren (f : Nat → Option Nat) : Blk → Blk
  | .box cs => .box (AV.renL f cs)
  | b => b
def Blk.refs : Blk → List Nat
  | .box cs => AV.refsL cs
  | _ => []

def posOf (l : List Nat) (i : Nat) : Option Nat := go l 0
where go : List Nat → Nat → Option Nat
  | [], _ => none
  | x :: xs, k => if x = i then some k else go xs (k + 1)

def reach : Nat → Heap → List Nat → List Nat → List Nat
  | 0, _, _, s => s
  | _ + 1, _, [], s => s
  | n + 1, H, i :: t, s => if s.elem i || !decide (i < H.length) then reach n H t s else reach n H ((H.getD i .dead).refs ++ t) (s ++ [i])

def renH (ids : List Nat) (H : Heap) : Heap := ids.map fun i => (H.getD i .dead).ren (posOf ids)

/-- What is no pointer and no slice. -/
def D.scalar : D → Bool
  | .bool _ | .int .. | .str _ | .nilp | .nils | .nilm | .nilf | .nili => true
  | _ => false
mutual
def AV.scalar : AV → Bool
  | .d x => x.scalar
  | .agg cs | .tup cs => AV.scalarL cs
  | _ => false
def AV.scalarL : List AV → Bool
  | [] => true
  | x :: xs => x.scalar && AV.scalarL xs
end

mutual
/-- Own slices as what they read. -/
def AV.view (H : Heap) : AV → AV
  | .own i z o n k => match H.getD i .dead with
    | .arr z' xs | .frz z' xs => if z' = z ∧ o + n ≤ xs.length then .d (.list z ((xs.drop o).take n)) else .own i z o n k
    | _ => .own i z o n k
  | .agg cs => .agg (AV.viewL H cs)
  | .tup cs => .tup (AV.viewL H cs)
  | .ifc t x => .ifc t (x.view H)
  | .mref i => match H.getD i .dead with
    | .mp es | .mfz es => .d (.mapv es)
    | _ => .mref i
  | v => v
def AV.viewL (H : Heap) : List AV → List AV
  | [] => []
  | x :: xs => x.view H :: AV.viewL H xs
end
mutual
def AV.owns : AV → List Nat
  | .own i _ _ _ _ | .mref i => [i]
  | .agg cs | .tup cs => AV.ownsL cs
  | .ifc _ x => x.owns
  | _ => []
def AV.ownsL : List AV → List Nat
  | [] => []
  | x :: xs => x.owns ++ AV.ownsL xs
end
def Blk.freeze : Blk → Blk
  | .arr z xs => .frz z xs
  | .mp es => .mfz es
  | b => b
def freezeAll : List Nat → Heap → Heap
  | [], H => H
  | i :: l, H => freezeAll l (H.set i (H.getD i .dead).freeze)

/-- The cells of a value. -/
def AV.cells : AV → Option (List AV)
  | .unk | .tup _ => none
  | .agg cs => some cs
  | .d (.agg ds) => some (ds.map .d)
  | v => some [v]
/-- A new variable's block. -/
def boxOf (cs : List AV) : Blk := match plainD cs with | some ds => .dbox ds | none => .box cs
where plainD : List AV → Option (List D)
  | [] => some []
  | .d x :: l => (plainD l).map (x :: ·)
  | _ :: _ => none

/-- An empty slice that nobody made, as an own one (k) or as data. -/
def co1 (z : Nat) (k : Bool) (v : AV) (H : Heap) : AV × Heap := match v with
  | .d .nils | .d .emp => if k then (.own H.length z 0 0 false, H ++ [.arr z []]) else (.d (.list z []), H)
  | v => (v, H)
def coL : List (Nat × Nat × Bool) → List AV → Heap → List AV × Heap
  | [], cs, H => (cs, H)
  | (j, z, k) :: l, cs, H => coL l (cs.set j (co1 z k (cs.getD j .unk) H).1) (co1 z k (cs.getD j .unk) H).2
def doCo (c : Co) (v : AV) (H : Heap) : AV × Heap := match c, v with
  | .none, v => (v, H)
  | .one z k, v => co1 z k v H
  | .cells l, .agg cs => (.agg (coL l cs H).1, (coL l cs H).2)
  | .cells l, .ptr i o => match H.getD i .dead with
    | .box cs => (.ptr i o, (coL l cs H).2.set i (.box (coL l cs H).1))
    | .dbox ds => (.ptr i o, (coL l (ds.map .d) H).2.set i (boxOf (coL l (ds.map .d) H).1))
    | _ => (.ptr i o, H)
  | .cells _, v => (v, H)
  | .frz, v => (v.view H, freezeAll v.owns H)
  | _, v => (v, H)

/-- A value's cells, if they are data. -/
def AV.plain (v : AV) : Option (List D) := match v with
  | .agg cs => boxOf.plainD cs
  | .d (.agg ds) => some ds
  | _ => none

structure St where
  m : Nat
  s : List AV
  h : Heap

inductive Ex where
  | normal | exit (id : Nat) | ret
  deriving DecidableEq

abbrev Callee := FuncId → List AV → Heap → Option (AV × Heap)

def St.x (st : St) : X → AV
  | .s t => st.s.getD t .unk
  | .c v => v
def St.xs (st : St) (l : List X) : List AV := l.map st.x
def St.put (st : St) (dst : Option Nat) (v : AV) (h : Heap) : St :=
  match dst with | some d => { st with s := st.s.set d v, h } | none => { st with h }

def AV.asInt : AV → Option (IntKind × Int) | .d (.int k n) => some (k, n) | _ => none
def AV.asBool : AV → Option Bool | .d (.bool b) => some b | _ => none
def AV.asStr : AV → Option (List UInt8) | .d (.str s) => some s | _ => none
/-- The bound of a slice expression. -/
def AV.asNat : AV → Option Nat | .d (.int _ n) => if 0 ≤ n then some n.toNat else none | _ => none

def bytesLt : List UInt8 → List UInt8 → Bool
  | _, [] => false
  | [], _ :: _ => true
  | a :: x, b :: y => a < b || (a == b && bytesLt x y)

def bits (f : (n : Nat) → BitVec n → BitVec n → BitVec n) (k : IntKind) (a b : Int) : Int := wr k ((f k.bits (BitVec.ofInt k.bits a) (BitVec.ofInt k.bits b)).toNat)

def binInt (op : BinOp) (k : IntKind) (a : Int) (b : Int) : Option D :=
  match op with
  | .add => some (.int k (wr k (a + b)))
  | .sub => some (.int k (wr k (a - b)))
  | .mul => some (.int k (wr k (a * b)))
  | .quo => if b = 0 then none else some (.int k (wr k (a.tdiv b)))
  | .rem => if b = 0 then none else some (.int k (a.tmod b))
  | .and => some (.int k (bits (fun _ x y => x &&& y) k a b))
  | .or => some (.int k (bits (fun _ x y => x ||| y) k a b))
  | .xor => some (.int k (bits (fun _ x y => x ^^^ y) k a b))
  | .andNot => some (.int k (bits (fun _ x y => x &&& ~~~y) k a b))
  | .eql => some (.bool (a == b))
  | .neq => some (.bool (a != b))
  | .lss => some (.bool (decide (a < b)))
  | .leq => some (.bool (decide (a ≤ b)))
  | .gtr => some (.bool (decide (a > b)))
  | .geq => some (.bool (decide (a ≥ b)))
  | _ => none
def binSh (op : BinOp) (k : IntKind) (a : Int) (b : Int) : Option D :=
  match op with
  | .shl => if b < 0 then none else some (.int k (wr k (a * 2 ^ (min b.toNat k.bits))))
  | .shr => if b < 0 then none else some (.int k (a.fdiv (2 ^ (min b.toNat k.bits))))
  | _ => none
def binStr (op : BinOp) (x y : List UInt8) : Option D :=
  match op with
  | .add => if ((x.length + y.length : Nat) : Int) > 9223372036854775807 then none else some (.str (x ++ y))
  | .eql => some (.bool (x == y))
  | .neq => some (.bool (!(x == y)))
  | .lss => some (.bool (bytesLt x y))
  | .leq => some (.bool (bytesLt x y || x == y))
  | .gtr => some (.bool (!(bytesLt x y || x == y)))
  | .geq => some (.bool (!(bytesLt x y)))
  | _ => none
def binD (op : BinOp) : D → D → Option D
  | .int k a, .int k' b => match op with
    | .shl | .shr => binSh op k a b
    | _ => if k = k' then binInt op k a b else none
  | .str x, .str y => binStr op x y
  | _, _ => none
def unD (op : UnOp) : D → Option D
  | .int k n => match op with
    | .neg => some (.int k (wr k (0 - n)))
    | .xor => some (.int k (bits (fun _ x y => x ^^^ y) k (if k.signed then -1 else k.max) n))
    | _ => none
  | .bool b => match op with
    | .not => some (.bool !b)
    | _ => none
  | _ => none
/-- Equality of plain cells; 0: Bools, 1: whole numbers, 2: texts. -/
def D.same : Nat → D → D → Option Bool
  | 0, .bool a, .bool b => some (a == b)
  | 1, .int k a, .int k' b => if k = k' then some (a == b) else none
  | 2, .str a, .str b => some (a == b)
  | _, _, _ => none
def sameD : List Nat → List D → List D → Option Bool
  | [], [], [] => some true
  | k :: ks, x :: l, y :: r => match D.same k x y, sameD ks l r with
    | some a, some b => some (a && b)
    | _, _ => none
  | _, _, _ => none
/-- Held against nil; 0: pointers, 1: slices, 2: maps, 3: functions, 4: interfaces. -/
def AV.isNil (k : Nat) (v : AV) : Option Bool := match k, v with
  | 0, .d .nilp => some true
  | 0, .ptr .. | 0, .ept .. | 0, .cpt .. => some false
  | 1, .d .nils => some true
  | 1, .d (.list _ xs) => if 0 < xs.length then some false else none
  | 1, .own _ _ _ n _ => if 0 < n then some false else none
  | 2, .d .nilm => some true
  | 2, .mref _ | 2, .d (.mapv _) => some false
  | 3, .d .nilf => some true
  | 3, .clo .. | 3, .d (.fn _) => some false
  | 4, .d .nili => some true
  | 4, .ifc .. | 4, .d (.ifc ..) => some false
  | _, _ => none

/-- Cells put over others. -/
def putCells (cs : List AV) (off : Nat) : List AV → List AV
  | [] => cs
  | v :: vs => putCells (cs.set off v) (off + 1) vs
def fillA (cs : List AV) : List (Nat × Nat × AV) → Option (List AV)
  | [] => some cs
  | (off, n, v) :: ps => match v.cells with
    | some vs => if vs.length = n ∧ off + n ≤ cs.length then fillA (putCells cs off vs) ps else none
    | none => none

def rows (z : Nat) : Nat → List D → List (List D)
  | 0, _ => []
  | n + 1, l => l.take z :: rows z n (l.drop z)

/-- What an address reads. -/
def loadA (H : Heap) (v : AV) (n : Nat) (g : Bool) : Option AV :=
  match v with
  | .ptr i o => match H.getD i .dead with
    | .box cs => if o + n ≤ cs.length then (if g then some (.agg ((cs.drop o).take n)) else if n = 1 then some (cs.getD o .unk) else none) else none
    | .dbox cs => if o + n ≤ cs.length then (if g then some (.agg (((cs.drop o).take n).map .d)) else if n = 1 then some (.d (cs.getD o .nilp)) else none) else none
    | _ => none
  | .ept i z k c => match H.getD i .dead with
    | .arr z' xs | .frz z' xs => if z' = z ∧ k < xs.length ∧ c + n ≤ z then
        (if g then some (.agg ((((xs.getD k []).drop c).take n).map .d)) else if n = 1 then some (.d ((xs.getD k []).getD c .nilp)) else none) else none
    | _ => none
  | .cpt cs c => if c + n ≤ cs.length then
      (if g then some (.agg (((cs.drop c).take n).map .d)) else if n = 1 then some (.d (cs.getD c .nilp)) else none) else none
  | _ => none

def storeA (H : Heap) (v : AV) (x : AV) (n : Nat) : Option Heap :=
  match x.cells with
  | none => none
  | some vs =>
  if vs.length = n then
    match v with
    | .ptr i o => match H.getD i .dead with
      | .box cs => if o + n ≤ cs.length then some (H.set i (.box (putCells cs o vs))) else none
      | .dbox cs => if o + n ≤ cs.length then
          (match boxOf.plainD vs with
            | some ds => some (H.set i (.dbox (cs.take o ++ ds ++ cs.drop (o + n))))
            | none => some (H.set i (.box (putCells (cs.map .d) o vs)))) else none
      | _ => none
    | .ept i z k c => match H.getD i .dead with
      | .arr z' xs => if z' = z ∧ k < xs.length ∧ c + n ≤ z then
          (match boxOf.plainD vs with
            | some ds => some (H.set i (.arr z (xs.set k ((xs.getD k []).take c ++ ds ++ (xs.getD k []).drop (c + n)))))
            | none => none) else none
      | _ => none
    | _ => none
  else none

def faA (v : AV) (o : Nat) : Option AV :=
  match v with
  | .ptr i p => some (.ptr i (p + o))
  | .ept i z k c => some (.ept i z k (c + o))
  | .cpt cs c => some (.cpt cs (c + o))
  | _ => none

def isA (v : AV) (i : Int) (z : Nat) : Option AV :=
  if 0 ≤ i then
    match v with
    | .d (.list z' xs) => if z' = z ∧ i.toNat < xs.length then some (.cpt (xs.getD i.toNat []) 0) else none
    | .own j z' o n _ => if z' = z ∧ i.toNat < n then some (.ept j z (o + i.toNat) 0) else none
    | _ => none
  else none

def slA (v : AV) (lo hi mx : Option Nat) (z : Nat) : Option AV :=
  match v with
  | .d (.list z' xs) =>
    let l := lo.getD 0; let h := hi.getD xs.length
    if z' = z ∧ l ≤ h ∧ h ≤ xs.length then
      (match mx with
        | none => some (.d (.list z ((xs.drop l).take (h - l))))
        | some m => if h ≤ m ∧ m ≤ xs.length then (if l = m then some (.d .emp) else some (.d (.list z ((xs.drop l).take (h - l))))) else none) else none
  | .own j z' o n k =>
    let l := lo.getD 0; let h := hi.getD n
    if z' = z ∧ l ≤ h ∧ h ≤ n then
      (match mx with
        | none => some (.own j z (o + l) (h - l) (k && h == n))
        | some m => if h ≤ m ∧ m ≤ n then some (.own j z (o + l) (h - l) (m == h)) else none) else none
  | .d .nils => match lo.getD 0, hi.getD 0, mx.getD 0 with
    | 0, 0, 0 => some (.d .nils)
    | _, _, _ => none
  | .d .emp => match lo.getD 0, hi.getD 0, mx.getD 0 with
    | 0, 0, 0 => some (.d .emp)
    | _, _, _ => none
  | _ => none

/-- What may be appended. -/
def tailA (H : Heap) (z : Nat) : AV → Option (List (List D))
  | .d (.list z' xs) => if z' = z then some xs else none
  | .d .nils | .d .emp => some []
  | .d (.str s) => if z = 1 then some (s.map fun b => [.int .u8 b.toNat]) else none
  | .own j z' o n _ => match H.getD j .dead with
    | .arr z'' xs | .frz z'' xs => if z' = z ∧ z'' = z ∧ o + n ≤ xs.length then some ((xs.drop o).take n) else none
    | _ => none
  | _ => none

/-- Builtins that write an own slice. A copy fits. What is cleared is a slice's end, and is forgotten. -/
def bltA : BK → List AV → Heap → Option (AV × Heap)
  | .clr zs, [.own i z o n _], H => match H.getD i .dead with
    | .arr z' xs => if z' = z ∧ zs.length = z ∧ o + n = xs.length then some (.tup [], H.set i (.arr z' (xs.take o))) else none
    | _ => none
  | .cpy z, [.own i z1 o n _, y], H => match tailA H z y, H.getD i .dead with
    | some ys, .arr z' xs => if z1 = z ∧ z' = z ∧ o + n ≤ xs.length ∧ ys.length ≤ n then some (.d (.int .i64 ys.length), H.set i (.arr z' (xs.take o ++ ys ++ xs.drop (o + ys.length)))) else none
    | _, _ => none
  | _, _, _ => none

def appA (H : Heap) (z b : Nat) (x : AV) (ys : List (List D)) : Option (AV × Heap) :=
  match x with
  | .d .nils | .d .emp => if ys.length * b ≤ 70368744177664 then some (.own H.length z 0 ys.length false, H ++ [.arr z ys]) else none
  | .own j z' o n k => match H.getD j .dead with
    | .arr z'' xs =>
      if z' = z ∧ z'' = z ∧ o + n ≤ xs.length ∧ (n + ys.length) * b ≤ 70368744177664 then
        (if k = true ∧ 0 < ys.length then some (.own H.length z 0 (n + ys.length) false, H ++ [.arr z ((xs.drop o).take n ++ ys)])
        else if o + n = xs.length then some (.own H.length z 0 (n + ys.length) false, H.set j .dead ++ [.arr z (xs.drop o ++ ys)]) else none)
      else none
    | .frz z'' xs => if z' = z ∧ z'' = z ∧ o + n ≤ xs.length ∧ (n + ys.length) * b ≤ 70368744177664 ∧ k = true ∧ 0 < ys.length then
        some (.own H.length z 0 (n + ys.length) false, H ++ [.arr z ((xs.drop o).take n ++ ys)]) else none
    | _ => none
  | _ => none

def doCallB (call : Callee) (f : FuncId) (args : List AV) (r : Bool) (H : Heap) : Option (AV × Heap) :=
  let vs := if r then [] else AV.ownsL args
  let as1 := if r then args else AV.viewL H args
  let ids := reach 1000 H (AV.refsL as1) []
  let H1 := freezeAll vs H
  match call f (AV.renL (posOf ids) as1) (renH ids H1) with
  | none => none
  | some (v, H') =>
    if ids = [] ∧ v.scalar = true then some (v, H)
    else
      let back := fun j => if j < ids.length then ids[j]? else some (H.length + (j - ids.length))
      some (v.ren back, setBack ids ((H'.take ids.length).map (Blk.ren back)) H1 ++ (H'.drop ids.length).map (Blk.ren back))
where setBack : List Nat → Heap → Heap → Heap
  | i :: ids, b :: bs, H => setBack ids bs (H.set i b)
  | _, _, H => H

/-- A call that holds no block of the caller's and gives data. -/
def doCallQ (call : Callee) (f : FuncId) (args : List AV) (H : Heap) : Option (AV × Heap) :=
  let as1 := AV.viewL H args
  if AV.refsL as1 = [] then
    match call f (AV.renL (posOf []) as1) [] with
    | none => none
    | some (v, H') =>
      if v.scalar = true then some (v, H)
      else if AV.ownsL args = [] ∧ (v.view H').refs = [] then some (v.view H', H)
      else none
  else none
/-- A call that is given one variable of plain data by its address and leaves no other trace. -/
def doCallP (call : Callee) (f : FuncId) (args : List AV) (H : Heap) : Option (AV × Heap) :=
  match args with
  | .ptr i o :: rest => match H.getD i .dead with
    | .dbox cs => if AV.refsL rest = [] then
        (match call f (.ptr 0 o :: rest) [.dbox cs] with
        | some (v, [.dbox ds]) => if v.refs = [] then some (v, H.set i (.dbox ds)) else none
        | _ => none)
      else none
    | _ => none
  | _ => none
/-- A call. r: 0: own slices as what they read; 1: by name; 2: data for data. -/
def doCall (call : Callee) (f : FuncId) (args : List AV) (r : Nat) (H : Heap) : Option (AV × Heap) :=
  match r with
  | 0 => doCallB call f args false H
  | 1 => doCallB call f args true H
  | 3 => doCallP call f args H
  | _ => doCallQ call f args H

def maxD : D → D → Option D
  | .int k x, .int k' y => if k = k' then some (.int k (if y > x then y else x)) else none
  | _, _ => none
def minD : D → D → Option D
  | .int k x, .int k' y => if k = k' then some (.int k (if y < x then y else x)) else none
  | _, _ => none

def cvlB (h : Heap) (i o n : Nat) (k : Bool) : Blk → Option (AV × Heap)
  | .arr _ _ => if 0 < n then some (.own i 1 o n k, h) else none
  | _ => none
/-- A conversion of an own slice of bytes to its own type. -/
def cvlA (h : Heap) : AV → Option (AV × Heap)
  | .own i 1 o n k => cvlB h i o n k (h.getD i .dead)
  | _ => none
def lenA : AV → Option Nat
  | .d (.list _ xs) => some xs.length
  | .d .nils | .d .emp => some 0
  | .own _ _ _ n _ => some n
  | _ => none

/-- What a map holds. -/
def mapA (H : Heap) : AV → Option (List (Int × D))
  | .d .nilm => some []
  | .d (.mapv es) => some es
  | .mref i => match H.getD i .dead with
    | .mp es | .mfz es => some es
    | _ => none
  | _ => none
def AV.asI64 : AV → Option Int | .d (.int .i64 n) => some n | _ => none
/-- Data as a value whose cells can be looked at. -/
def avD : D → AV
  | .agg ds => .agg (ds.map .d)
  | d => .d d
def AV.toD : AV → Option D
  | .d x => some x
  | .agg cs => match boxOf.plainD cs with
    | some ds => some (.agg ds)
    | none => none
  | _ => none
def getA (es : List (Int × D)) (n : Int) (z : AV) (ok : Bool) : AV :=
  let v := match findM n es with | some d => avD d | none => z
  if ok then .tup [v, .d (.bool (findM n es).isSome)] else v
def mputA (H : Heap) (x : AV) (n : Int) (v : AV) : Option Heap :=
  match x, (v.view H).toD with
  | .mref i, some d => match (freezeAll v.owns H).getD i .dead with
    | .mp es => some ((freezeAll v.owns H).set i (.mp (putM n d es)))
    | _ => none
  | _, _ => none
def mdelA (H : Heap) (x : AV) (n : Int) : Option Heap :=
  match x with
  | .mref i => match H.getD i .dead with
    | .mp es => some (H.set i (.mp (delM n es)))
    | _ => none
  | _ => none

def evO (call : Callee) (st : St) : O → Option (AV × Heap)
  | .mv x => some (st.x x, st.h)
  | .pick c a b => match (st.x c).asBool with
    | some t => some (if t then st.x a else st.x b, st.h)
    | none => none
  | .alloc _ zs => some (.ptr st.h.length 0, st.h ++ [.dbox zs])
  | .box _ x => match (st.x x).cells with
    | some vs => some (.ptr st.h.length 0, st.h ++ [boxOf vs])
    | none => none
  | .ld a n g => match loadA st.h (st.x a) n g with
    | some v => some (v, st.h)
    | none => none
  | .st a x n => match storeA st.h (st.x a) (st.x x) n with
    | some h => some (.unk, h)
    | none => none
  | .nc x => match st.x x with
    | .ptr i o => some (.ptr i o, st.h)
    | .ept i z k c => some (.ept i z k c, st.h)
    | .cpt cs c => some (.cpt cs c, st.h)
    | _ => none
  | .bin op x y => match st.x x, st.x y with
    | .d a, .d b => match binD op a b with
      | some r => some (.d r, st.h)
      | none => none
    | _, _ => none
  | .beq ne x y => match (st.x x).asBool, (st.x y).asBool with
    | some a, some b => some (.d (.bool (if ne then !(a == b) else a == b)), st.h)
    | _, _ => none
  | .eqs ne ks x y => match (st.x x).plain, (st.x y).plain with
    | some u, some v => match sameD ks u v with
      | some b => some (.d (.bool (if ne then !b else b)), st.h)
      | none => none
    | _, _ => none
  | .isn ne k x => match (st.x x).isNil k with
    | some b => some (.d (.bool (if ne then !b else b)), st.h)
    | none => none
  | .un op x => match st.x x with
    | .d a => match unD op a with
      | some r => some (.d r, st.h)
      | none => none
    | _ => none
  | .cvi k x => match (st.x x).asInt with
    | some (_, n) => some (.d (.int k (wr k n)), st.h)
    | none => none
  | .s2b _ x => match (st.x x).asStr with
    | some s => some (.own st.h.length 1 0 s.length false, st.h ++ [.arr 1 (s.map fun b => [.int .u8 b.toNat])])
    | none => none
  | .cvl x => cvlA st.h (st.x x)
  | .cvs x => match (st.x x).asStr with
    | some _ => some (st.x x, st.h)
    | none => none
  | .b2s x => match (st.x x).asStr, tailA st.h 1 (st.x x) with
    | none, some xs => match bytesOf xs with
      | some s => some (.d (.str s), st.h)
      | none => none
    | _, _ => none
  | .build zs ps => match fillA (zs.map .d) (ps.map fun p => (p.1, p.2.1, st.x p.2.2)) with
    | some cs => some (.agg cs, st.h)
    | none => none
  | .bsl _ z n zs ps =>
    match fillA (((List.replicate n zs).flatten).map .d) (ps.map fun p => (p.1, p.2.1, (st.x p.2.2).view st.h)) with
    | some cs => match boxOf.plainD cs with
      | some ds => if ds.length = n * z then
          some (.own st.h.length z 0 n true, freezeAll (AV.ownsL (ps.map fun p => st.x p.2.2)) st.h ++ [.arr z (rows z n ds)]) else none
      | none => none
    | none => none
  | .ext x i => match st.x x with
    | .tup vs => if i < vs.length then some (vs.getD i .unk, st.h) else none
    | _ => none
  | .fn f a b => some (.clo f (st.xs a) (st.xs b), st.h)
  | .fa a o => match faA (st.x a) o with
    | some v => some (v, st.h)
    | none => none
  | .ia a i n z => match st.x a, (st.x i).asInt with
    | .ptr j p, some (_, k) => if 0 ≤ k ∧ k < n then some (.ptr j (p + k.toNat * z), st.h) else none
    | _, _ => none
  | .is a i z => match (st.x i).asInt with
    | some (_, k) => match isA (st.x a) k z with
      | some v => some (v, st.h)
      | none => none
    | none => none
  | .fld x o n g => match st.x x with
    | .agg cs => if o + n ≤ cs.length then (if g then some (.agg ((cs.drop o).take n), st.h) else if n = 1 then some (cs.getD o .unk, st.h) else none) else none
    | _ => none
  | .idx x i n z g => match st.x x, (st.x i).asInt with
    | .agg cs, some (_, k) => if 0 ≤ k ∧ k < n ∧ cs.length = n * z then
        (if g then some (.agg ((cs.drop (k.toNat * z)).take z), st.h) else if z = 1 then some (cs.getD k.toNat .unk, st.h) else none) else none
    | _, _ => none
  | .sti x i => match (st.x x).asStr, (st.x i).asInt with
    | some s, some (_, k) => if 0 ≤ k ∧ k.toNat < s.length then some (.d (.int .u8 (s.getD k.toNat 0).toNat), st.h) else none
    | _, _ => none
  | .sl x lo hi mx z => match bound st lo, bound st hi, bound st mx with
    | some l, some h, some m => match slA (st.x x) l h m z with
      | some v => some (v, st.h)
      | none => none
    | _, _, _ => none
  | .ssl x lo hi => match (st.x x).asStr, bound st lo, bound st hi with
    | some s, some l, some h =>
      if l.getD 0 ≤ h.getD s.length ∧ h.getD s.length ≤ s.length then some (.d (.str ((s.drop (l.getD 0)).take (h.getD s.length - l.getD 0))), st.h) else none
    | _, _, _ => none
  | .mi t x => some (.ifc t (st.x x), st.h)
  | .len x => match lenA (st.x x) with
    | some n => some (.d (.int .i64 n), st.h)
    | none => none
  | .lens x => match (st.x x).asStr with
    | some s => some (.d (.int .i64 s.length), st.h)
    | none => none
  | .lenc n => some (.d (.int .i64 n), st.h)
  | .mx x y => match st.x x, st.x y with
    | .d a, .d b => match maxD a b with
      | some r => some (.d r, st.h)
      | none => none
    | _, _ => none
  | .mn x y => match st.x x, st.x y with
    | .d a, .d b => match minD a b with
      | some r => some (.d r, st.h)
      | none => none
    | _, _ => none
  | .app _ z b x y => match tailA st.h z (st.x y) with
    | some ys => appA st.h z b (st.x x) ys
    | none => none
  | .mmk => some (.mref st.h.length, st.h ++ [.mp []])
  | .mget x k z ok => match mapA st.h (st.x x), (st.x k).asI64 with
    | some es, some n => some (getA es n z ok, st.h)
    | _, _ => none
  | .mput x k v => match (st.x k).asI64 with
    | some n => match mputA st.h (st.x x) n (st.x v) with
      | some h => some (.unk, h)
      | none => none
    | none => none
  | .mdel x k => match (st.x k).asI64 with
    | some n => match mdelA st.h (st.x x) n with
      | some h => some (.tup [], h)
      | none => none
    | none => none
  | .mlen x => match mapA st.h (st.x x) with
    | some es => some (.d (.int .i64 es.length), st.h)
    | none => none
  | .bcall k xs => bltA k (st.xs xs) st.h
  | .call f xs r => doCall call f (st.xs xs) r st.h
  | .callv x xs r => match st.x x with
    | .clo (.func f) a b => doCall call f (a ++ st.xs xs ++ b) r st.h
    | .d (.fn f) => doCall call f (st.xs xs) r st.h
    | _ => none
  | .bad => none
where
  bytesOf : List (List D) → Option (List UInt8)
    | [] => some []
    | [.int .u8 n] :: l => match bytesOf l with
      | some s => if 0 ≤ n ∧ n < 256 then some (UInt8.ofNat n.toNat :: s) else none
      | none => none
    | _ :: _ => none
  bound (st : St) : Option X → Option (Option Nat)
    | none => some none
    | some x => match (st.x x).asNat with
      | some n => some (some n)
      | none => none

def wantQ (st : St) : Option (Nat × Bool) → Option Bool
  | none => some true
  | some (t, b) => match st.s.getD t .unk with
    | .tup [] => some false
    | .d (.bool c) => some (c == b)
    | _ => none

/-- A wanted operation: its value and the blocks behind it. -/
def runQ (call : Callee) (st : St) (q : Q) : Option (AV × Heap) :=
  match q.c with
  | .dat => match evO call { st with h := [] } q.o with
    | some (v, h) => if AV.refsL (q.o.reads.map fun t => st.s.getD t .unk) = [] ∧ (v.view h).refs = [] then some (v.view h, st.h) else none
    | none => none
  | .hol i _ => match q.o with
    | .alloc _ _ => some (.ptr i 0, st.h)
    | _ => none
  | .res _ => none
  | c => match evO call st q.o with
    | some (v, h) => some ((doCo c v h).1, (doCo c v h).2)
    | none => none
def evQ (call : Callee) (st : St) (q : Q) : Option St :=
  match wantQ st q.g with
  | some true => match runQ call st q with
    | some (v, h) => some (st.put q.dst v h)
    | none => none
  | some false => some (st.put q.dst (.tup []) st.h)
  | none => none
def evL (call : Callee) : List Q → St → Option St
  | [], st => some st
  | q :: l, st => match evQ call st q with
    | some st' => evL call l st'
    | none => none

/-- At a loop's head: only what is still wanted; blocks by new numbers. -/
def keepS (L : List Nat) : List AV → Nat → List AV
  | [], _ => []
  | v :: vs, i => (if L.elem i then v else .unk) :: keepS L vs (i + 1)
def liveIds (m : Nat) (H : Heap) (vs : List AV) : List Nat :=
  reach 1000 H (AV.refsL vs ++ (H.take m).flatMap Blk.refs) (List.range m)
def clean (L : List Nat) (st : St) : St :=
  let s := keepS L st.s 0
  let ids := liveIds st.m st.h s
  { m := st.m, s := AV.renL (posOf ids) s, h := renH ids st.h }

def cln : Option (List Nat) → St → St
  | none, st => st
  | some L, st => clean L st

def AV.blkOf : AV → Option Nat
  | .ptr i _ => some i
  | .ept i _ _ _ => some i
  | _ => none
def difB (v u : AV) : Bool := match v.blkOf, u.blkOf with
  | some i, some j => !(i == j)
  | _, _ => false
def oldB (n : Nat) : AV → Bool
  | .ptr i _ => decide (i < n)
  | .cpt _ _ => true
  | _ => false
def norB (v : AV) : Bool := v.refs.isEmpty

abbrev Looper := List Nat → C → St → Option (Ex × St)

def evC (call : Callee) (lp : Looper) : C → St → Option (Ex × St)
  | .skip, st => some (.normal, st)
  | .reg l, st => match evL call l st with
    | some st' => some (.normal, st')
    | none => none
  | .drw l _ ne, st => match evL call l st with
    | some st' => if ne.all (fun x => difB (st'.s.getD x.1 .unk) (st'.s.getD x.2 .unk)) then some (.normal, st') else none
    | none => none
  | .drr l _ ne old nor, st => match evL call (absL st.h.length l) { st with h := st.h ++ (layOf l).map .dbox } with
    | some st' => if ne.all (fun x => difB (st'.s.getD x.1 .unk) (st'.s.getD x.2 .unk)) && (old.all (fun a => oldB (st.h ++ (layOf l).map Blk.dbox).length (st'.s.getD a .unk)) && nor.all fun a => norB (st'.s.getD a .unk)) then some (.normal, st') else none
    | none => none
  | .seq a b, st => match evC call lp a st with
    | some (.normal, st') => evC call lp b st'
    | r => r
  | .cond x a b, st => match (st.x x).asBool with
    | some t => if t then evC call lp a st else evC call lp b st
    | none => none
  | .block id c, st => match evC call lp c st with
    | some (.exit id', st') => if id' = id then some (.normal, st') else some (.exit id', st')
    | r => r
  | .loop L c, st => lp L c st
  | .exit id L, st => some (.exit id, cln L st)
  | .ret L, st => some (.ret, cln L st)
  | .ann L c, st => evC call lp c (clean L st)
  | .scp c, st => evC call lp c st
  | .bad, _ => none

def evR (st : St) : List RV → Option (List AV)
  | [] => some []
  | .tmp t :: l => match evR st l with
    | some vs => some (st.s.getD t .unk :: vs)
    | none => none
  | .cell t n g :: l => match loadA st.h (st.s.getD t .unk) n g, evR st l with
    | some v, some vs => some (v :: vs)
    | _, _ => none
  | .bad :: _ => none
def oneOf : List AV → AV
  | [v] => v
  | vs => .tup vs

def evF (call : Callee) (lp : Looper) (fn : F) (args : List AV) (H : Heap) : Option (AV × Heap) :=
  match evC call lp fn.body { m := H.length, s := args ++ List.replicate (fn.n - args.length) .unk, h := H } with
  | some (.normal, st) | some (.ret, st) => match evR st fn.res with
    | some vs =>
      let r := oneOf vs
      let ids := liveIds st.m st.h [r]
      some (r.ren (posOf ids), renH ids st.h)
    | none => none
  | _ => none

/-- The functions: by their texts, or by what is known of them. -/
structure IR where
  fn : FuncId → Option F
  nat : Callee

/-! ### the evaluator by fuel -/
mutual
def callN (ir : IR) : Nat → Callee
  | 0, _, _, _ => none
  | n + 1, f, args, H => match ir.fn f with
    | some fn => evF (callN ir n) (loopN ir n) fn args H
    | none => ir.nat f args H
def loopN (ir : IR) : Nat → Looper
  | 0, _, _, _ => none
  | n + 1, L, c, st => match evC (callN ir n) (loopN ir n) c (clean L st) with
    | some (.normal, st') => loopN ir n L c st'
    | r => r
end

end Go.Ev
