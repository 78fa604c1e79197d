/-
  Plain data: what the model's values read as. No condition of its own. The package-level variables that the evaluator may read: word's table of operations. No condition of its own. An evaluator of the model's code over plain data: values are plain trees, a function's boxes and growing slices lie in a list of entries, and a call yields plain data. Whatever it says of a call is shown of the model's own run in EvMain. No condition of its own. How the model's values and memory read as the evaluator's: plain data in cells that stay (S), boxes and slices of the call's own as entries (gh: where each lies). No condition of its own. The evaluator's operations that leave the entries alone, shown of the model's. No condition of its own. The evaluator's operations that leave the entries alone, shown of the model's: addresses, indices, slices, arithmetic. No condition of its own. The evaluator's operations that leave the entries alone, shown of the model's: all of them. No condition of its own. The evaluator's operations that leave the entries alone, shown of the model's: slices, composite values, arithmetic; all of them together. No condition of its own. The evaluator's operations that leave the entries alone: each is the model's. No condition of its own. The evaluator's operations that leave the entries alone: each is the model's, in whatever world its operands read. No condition of its own. What a step does to the entries: a new one; one whose content or place changes. No condition of its own. The evaluator's operations that make or write entries, shown of the model's. No condition of its own. The evaluator's operations that make or write entries, shown of the model's: stores, composite slices, make; all of them. No condition of its own. The evaluator's operations on maps over numbers, and clear on a slice of the call's own, shown of the model's. No condition of its own. append(x, make(.., k)...): the builtin meets the number. No condition of its own. The evaluator's operations that make or write entries: each is the model's. No condition of its own.
-/
import Derived.WalkKit
import Derived.WalkSpells
import Derived.Lib.Hide
import Derived.Orders
import Derived.Laws.OwnMore
import Derived.Laws.AppendOwnNone
import Derived.Great.BuildSlice
import Derived.Deep.AppendLies
import Derived.Lib.AppendZerosOnto
namespace Go.Proofs.YtomameefmobnlaaDoor
open Go Go.RowKit

/-- Plain data: what a value reads as. A slice: its length and its cells. -/
inductive V where
  | bool (b : Bool)
  | int (k : IntKind) (n : Int)
  | str (s : ByteArray)
  | sl (n : Nat) (cs : List V)
  | agg (cs : List V)
  | tup (vs : List V)
  | fn (f : FuncId)
end Go.Proofs.YtomameefmobnlaaDoor
namespace Go.Proofs.YtomameefmobnlaaDoor
open Go
def opsV : List V := [.fn 119, .bool false, .bool false, .fn 120, .bool false, .bool false, .fn 121, .bool false, .bool false, .fn 122, .bool true, .bool false, .fn 123, .bool true, .bool false, .fn 124, .bool false, .bool false, .fn 125, .bool false, .bool false, .fn 126, .bool false, .bool false, .fn 127, .bool false, .bool false, .fn 129, .bool false, .bool false, .fn 130, .bool false, .bool true, .fn 132, .bool false, .bool true, .fn 133, .bool false, .bool true, .fn 134, .bool false, .bool true]
def globs : List (Nat × List V) := [(0, opsV)]
end Go.Proofs.YtomameefmobnlaaDoor
namespace Go.Proofs.YtomameefmobnlaaDoor
open Go Go.RowKit

/-- What a slot or a cell holds: plain data; an aggregate whose cells are no plain data; nil; a slice of the call's own (entry, length); a pointer into one (entry, its length then, cell); a pointer into a box; a pointer into memory that stays; a closure over boxes; a part of a slice of the call's own (entry, its length then, first cell, length); a map (entry); the nil map. -/
inductive D where
  | v (x : V)
  | agg (ds : List D)
  | nilS
  | arr (id n : Nat)
  | aptr (id n o : Nat)
  | ptr (id off : Nat)
  | vp (cs : List V) (o : Nat)
  | nilp
  | clo (f : FuncId) (caps : List Nat)
  | nilf
  | undef
  | dead
  | win (id n o m : Nat)
  | map (id : Nat)
  | nilM
/-- An entry: a box; a slice of the call's own (its element type and size, none while it is nil; whether it may be written; its length; its cells); a map over numbers. -/
inductive Ent where
  | cells (ds : List D)
  | arr (es : Option (TypeId × Nat)) (wr : Bool) (n : Nat) (cs : List V)
  | map (k : IntKind) (kvs : List (Int × V))
abbrev Sto := List Ent
structure St where
  env : List D
  sto : Sto

/-- A type's kind. -/
inductive Kd where
  | bool | int (k : IntKind) | str | slice (e : TypeId) | struct (fs : List (Nat × TypeId)) | array (n : Nat) (e : TypeId) | map (k e : TypeId) | other
def kindOf : TypeDesc → Kd
  | .bool => .bool
  | .int k => .int k
  | .string => .str
  | .slice e => .slice e
  | .struct fs => .struct (fs.toList.map fun f => (f.offset, f.type))
  | .array n e => .array n e
  | .map k e => .map k e
  | _ => .other
/-- What the program's tables say of a type. -/
structure TyI where
  kind : Kd
  zero : Value
  size : Nat
  bytes : Nat
abbrev Tab := TypeId → Option TyI
def Tab.OK (T : Tab) (P : Program) : Prop := ∀ t i, T t = some i → (P.info? t).map (fun x => (x.zero, x.size, x.bytes)) = some (some i.zero, i.size, i.bytes) ∧ (P.underlying t).map kindOf = some i.kind ∧ i.zero.cells.size = i.size
def kd (T : Tab) (t : TypeId) : Option Kd := match T t with
  | some i => some i.kind
  | none => none
def Kd.agg : Kd → Bool
  | .struct _ => true
  | .array _ _ => true
  | _ => false

/-- A constant. -/
def ofVal1 : Value → D
  | .bool b => .v (.bool b)
  | .int k n => .v (.int k n)
  | .string s => .v (.str s)
  | .slice none 0 0 => .nilS
  | .pointer none => .nilp
  | .nilFunc => .nilf
  | .map none => .nilM
  | _ => .dead
def ofVal : Value → D
  | .agg cs => if cs.toList.all (·.oneCell') then .agg (cs.toList.map ofVal1) else .dead
  | v => ofVal1 v
/-- What reads as plain data. -/
def viewC (sto : Sto) : D → Option V
  | .v x => some x
  | .nilS => some (.sl 0 [])
  | .arr id n => match sto[id]? with
    | some (.arr _ false m cs) => if m = n then some (.sl n cs) else none
    | _ => none
  | .clo f caps => match caps with
    | [] => some (.fn f)
    | _ => none
  | _ => none
def viewL (sto : Sto) : List D → Option (List V)
  | [] => some []
  | d :: ds => match viewC sto d, viewL sto ds with
    | some x, some xs => some (x :: xs)
    | _, _ => none
def view (sto : Sto) : D → Option V
  | .agg ds => (viewL sto ds).map .agg
  | d => viewC sto d
def D.cells : D → Option (List D)
  | .agg ds => some ds
  | .v (.agg cs) => some (cs.map .v)
  | .v (.tup _) => none
  | .undef => none
  | .dead => none
  | d => some [d]
def V.cells : V → List V
  | .agg cs => cs
  | x => [x]
def St.put (st : St) (dst : Option Tmp) (d : D) : St := match dst with
  | some t => { st with env := st.env.set t d }
  | none => st
def globAt (g : Nat) : List (Nat × List V) → Option (List V)
  | [] => none
  | (k, cs) :: r => if g = k then some cs else globAt g r
def opd (env : List D) : Operand → D
  | .tmp t => (env[t]?).getD .undef
  | .const v => ofVal v
  | .global g => match globAt g globs with
    | some cs => .vp cs 0
    | none => .dead
  | .func f => .clo f []

/-- Cells o, o + 1, .. as a value of that type. -/
def pick (i : TyI) (ds : List D) (o : Nat) : Option D :=
  if i.kind.agg then if o + i.size ≤ ds.length then some (.agg ((ds.drop o).take i.size)) else none
  else ds[o]?
def pickV (i : TyI) (cs : List V) (o : Nat) : Option V :=
  if i.kind.agg then if o + i.size ≤ cs.length then some (.agg ((cs.drop o).take i.size)) else none
  else cs[o]?
def evLoad (T : Tab) (sto : Sto) (t : TypeId) (p : D) : Option D :=
  match T t with
  | none => none
  | some i => match p with
    | .ptr id off => match sto[id]? with
      | some (.cells ds) => pick i ds off
      | _ => none
    | .aptr id n o => match sto[id]? with
      | some (.arr _ _ m cs) => if m = n then (pickV i cs o).map .v else none
      | _ => none
    | .vp cs o => (pickV i cs o).map .v
    | _ => none
def andI (k : IntKind) (x y : Int) : Int := k.wrap (BitVec.ofInt k.bits x &&& BitVec.ofInt k.bits y).toNat
def orI (k : IntKind) (x y : Int) : Int := k.wrap (BitVec.ofInt k.bits x ||| BitVec.ofInt k.bits y).toNat
def xorI (k : IntKind) (x y : Int) : Int := k.wrap (BitVec.ofInt k.bits x ^^^ BitVec.ofInt k.bits y).toNat
def andNotI (k : IntKind) (x y : Int) : Int := k.wrap (BitVec.ofInt k.bits x &&& ~~~ BitVec.ofInt k.bits y).toNat
def evBinI (op : BinOp) (k : IntKind) (x : Int) (y : Int) : Option V :=
  match op with
  | .add => some (.int k (k.wrap (x + y)))
  | .sub => some (.int k (k.wrap (x - y)))
  | .mul => some (.int k (k.wrap (x * y)))
  | .quo => if y = 0 then none else some (.int k (k.wrap (x.tdiv y)))
  | .rem => if y = 0 then none else some (.int k (x.tmod y))
  | .and => some (.int k (andI k x y))
  | .or => some (.int k (orI k x y))
  | .xor => some (.int k (xorI k x y))
  | .andNot => some (.int k (andNotI k x y))
  | .eql => some (.bool (x == y))
  | .neq => some (.bool (x != y))
  | .lss => some (.bool (decide (x < y)))
  | .leq => some (.bool (decide (x ≤ y)))
  | .gtr => some (.bool (decide (x > y)))
  | .geq => some (.bool (decide (x ≥ y)))
  | _ => none
def evShift (op : BinOp) (k : IntKind) (x : Int) (y : Int) : Option V :=
  if y < 0 then none else
  match op with
  | .shl => some (.int k (k.wrap (x * 2 ^ (min y.toNat k.bits))))
  | .shr => some (.int k (x.fdiv (2 ^ (min y.toNat k.bits))))
  | _ => none
def evBin (T : Tab) (op : BinOp) (t : TypeId) : V → V → Option V
  | .int k x, .int k' y => match op with
    | .shl => evShift .shl k x y
    | .shr => evShift .shr k x y
    | op => if k = k' then evBinI op k x y else none
  | .bool x, .bool y => match kd T t with
    | some .bool => match op with
      | .eql => some (.bool (x == y))
      | .neq => some (.bool (!(x == y)))
      | _ => none
    | _ => none
  | _, _ => none
def evUn (op : UnOp) : V → Option V
  | .int k n => match op with
    | .neg => some (.int k (k.wrap (0 - n)))
    | .xor => some (.int k (k.wrap (BitVec.ofInt k.bits (if k.signed then -1 else k.max) ^^^ BitVec.ofInt k.bits n).toNat))
    | _ => none
  | .bool b => match op with
    | .not => some (.bool !b)
    | _ => none
  | _ => none
/-- Parts into the cells of a composite value: part i at its place, of its size. -/
def fillD (place : Nat → Option (Nat × Nat)) : List D → List (Nat × D) → Option (List D)
  | cs, [] => some cs
  | cs, (i, d) :: rest => match place i, d.cells with
    | some (off, size), some ds => if ds.length = size ∧ off + size ≤ cs.length then fillD place (cs.take off ++ ds ++ cs.drop (off + size)) rest else none
    | _, _ => none
def placesT (T : Tab) : List (Nat × TypeId) → Option (List (Nat × Nat))
  | [] => some []
  | (off, t) :: r => match T t, placesT T r with
    | some j, some ps => some ((off, j.size) :: ps)
    | _, _ => none
def zeroD (i : TyI) : Option (List D) := (ofVal i.zero).cells
def evBuild (T : Tab) (t : TypeId) (parts : List (Nat × D)) : Option D :=
  match T t with
  | none => none
  | some i => match zeroD i, i.kind with
    | some z, .struct fs => match placesT T fs with
      | some ps => (fillD (fun k => ps[k]?) z parts).map .agg
      | none => none
    | some z, .array _ e => match T e with
      | some j => (fillD (fun k => some (k * j.size, j.size)) z parts).map .agg
      | none => none
    | _, _ => none
def evIndexAddr (T : Tab) (sto : Sto) (t : TypeId) (x i : D) : Option D :=
  match kd T t, i with
  | some (.slice e), .v (.int _ n) => match T e with
    | none => none
    | some j => match x with
      | .v (.sl m cs) => if 0 ≤ n ∧ n < m ∧ cs.length = m * j.size ∧ 0 < j.size then some (.vp cs (n.toNat * j.size)) else none
      | .arr id m => match sto[id]? with
        | some (.arr _ _ m' _) => if 0 ≤ n ∧ n < m ∧ m' = m then some (.aptr id m (n.toNat * j.size)) else none
        | _ => none
      | .win id k o m => match sto[id]? with
        | some (.arr _ _ k' _) => if 0 ≤ n ∧ n < m ∧ k' = k then some (.aptr id k (o + n.toNat * j.size)) else none
        | _ => none
      | _ => none
  | some (.array m e), .v (.int _ n) => match T e with
    | none => none
    | some j => match x with
      | .ptr id off => if 0 ≤ n ∧ n < m then some (.ptr id (off + n.toNat * j.size)) else none
      | .vp cs o => if 0 ≤ n ∧ n < m then some (.vp cs (o + n.toNat * j.size)) else none
      | .aptr id k o => if 0 ≤ n ∧ n < m then some (.aptr id k (o + n.toNat * j.size)) else none
      | _ => none
  | _, _ => none
def evField (T : Tab) (t : TypeId) (f : Nat) (x : D) : Option D :=
  match kd T t with
  | some (.struct fs) => match fs[f]? with
    | some (off, ft) => match T ft, x with
      | some i, .agg ds => pick i ds off
      | some i, .v (.agg cs) => (pickV i cs off).map .v
      | _, _ => none
    | none => none
  | _ => none
def evFieldAddr (T : Tab) (t : TypeId) (f : Nat) (x : D) : Option D :=
  match kd T t with
  | some (.struct fs) => match fs[f]? with
    | some (off, ft) => match T ft with
      | some i => if i.size = 0 then none else match x with
        | .ptr id o => some (.ptr id (o + off))
        | .aptr id n o => some (.aptr id n (o + off))
        | .vp cs o => some (.vp cs (o + off))
        | _ => none
      | none => none
    | none => none
  | _ => none
def evIndex (T : Tab) (t : TypeId) (x i : D) : Option D :=
  match kd T t, i with
  | some (.array m e), .v (.int _ n) => match T e with
    | none => none
    | some j => if 0 ≤ n ∧ n < m then match x with
      | .agg ds => pick j ds (n.toNat * j.size)
      | .v (.agg cs) => (pickV j cs (n.toNat * j.size)).map .v
      | _ => none
      else none
  | some .str, .v (.int _ n) => match x with
    | .v (.str s) => if 0 ≤ n then (s[n.toNat]?).map fun b => .v (.int .u8 b.toNat) else none
    | _ => none
  | _, _ => none
/-- A bound of a slice expression. -/
def bound (d : Option D) (dflt : Nat) : Option Nat :=
  match d with
  | none => some dflt
  | some (.v (.int _ n)) => if 0 ≤ n then some n.toNat else none
  | _ => none
/-- A slice that may be written: entry, its length, first cell, length. -/
def ownWin (sto : Sto) : D → Option (Nat × Nat × Nat × Nat)
  | .arr id n => match sto[id]? with
    | some (.arr (some _) true k _) => if k = n then some (id, n, 0, n) else none
    | _ => none
  | .win id n o m => match sto[id]? with
    | some (.arr _ _ k _) => if k = n then some (id, n, o, m) else none
    | _ => none
  | _ => none
def evSliceW (T : Tab) (t : TypeId) (x : Nat × Nat × Nat × Nat) (lo hi mx : Option D) : Option D :=
  match kd T t with
  | some (.slice e) => match T e, bound lo 0, bound hi x.2.2.2, mx with
    | some j, some l, some h, none => if l ≤ h ∧ h ≤ x.2.2.2 then some (.win x.1 x.2.1 (x.2.2.1 + l * j.size) (h - l)) else none
    | _, _, _, _ => none
  | _ => none
def evSliceV (T : Tab) (sto : Sto) (t : TypeId) (x : D) (lo hi mx : Option D) : Option D :=
  match kd T t, view sto x with
  | some (.slice e), some (.sl n cs) => match T e, bound lo 0, bound hi n with
    | some j, some l, some h => match mx with
      | none => if l ≤ h ∧ h ≤ n ∧ cs.length = n * j.size ∧ 0 < j.size then some (.v (.sl (h - l) ((cs.drop (l * j.size)).take ((h - l) * j.size)))) else none
      | some _ => none
    | _, _, _ => none
  | _, _ => none
def evSlice (T : Tab) (sto : Sto) (t : TypeId) (x : D) (lo hi mx : Option D) : Option D :=
  match ownWin sto x with
  | some y => evSliceW T t y lo hi mx
  | none => evSliceV T sto t x lo hi mx
def mm2 (mx : Bool) : V → V → Option V
  | .int k x, .int _ y => some (.int k (if mx then (if y > x then y else x) else (if y < x then y else x)))
  | _, _ => none
def evMM (mx : Bool) : List V → Option V
  | .int k x :: rest => rest.foldlM (mm2 mx) (.int k x)
  | _ => none
def lenD (sto : Sto) (d : D) : Option Nat :=
  match d with
  | .arr id n => match sto[id]? with
    | some (.arr _ _ m _) => if m = n then some n else none
    | _ => none
  | .win _ _ _ m => some m
  | d => match viewC sto d with
    | some (.sl n _) => some n
    | _ => none
def evBuiltin (T : Tab) (sto : Sto) (b : Builtin) (ts : Array TypeId) (args : List D) : Option D :=
  match b with
  | .len => match args, (ts[0]?).bind (kd T) with
    | [d], some (.slice _) => (lenD sto d).map fun n => .v (.int .i64 n)
    | [.v (.str s)], some .str => some (.v (.int .i64 s.size))
    | [.nilM], some (.map _ _) => some (.v (.int .i64 0))
    | [.map id], some (.map _ _) => match sto[id]? with
      | some (.map _ kvs) => some (.v (.int .i64 kvs.length))
      | _ => none
    | _, _ => none
  | .min => ((viewL sto args).bind (evMM false)).map .v
  | .max => ((viewL sto args).bind (evMM true)).map .v
  | _ => none
/-! Maps over numbers. -/
def mget : List (Int × V) → Int → Option V
  | [], _ => none
  | (k, v) :: r, n => if n = k then some v else mget r n
def mput : List (Int × V) → Int → V → List (Int × V)
  | [], n, v => [(n, v)]
  | (k, u) :: r, n, v => if n = k then (n, v) :: r else (k, u) :: mput r n v
def mdel : List (Int × V) → Int → List (Int × V)
  | [], _ => []
  | (k, u) :: r, n => if n = k then r else (k, u) :: mdel r n
def okV (ok : Bool) (v : V) (b : Bool) : D := if ok then .v (.tup [v, .bool b]) else .v v
def evLookup (T : Tab) (sto : Sto) (t : TypeId) (x key : D) (ok : Bool) : Option D :=
  match kd T t, key with
  | some (.map kt et), .v (.int k' n) => match kd T kt, T et with
    | some (.int k), some i => match view [] (ofVal i.zero) with
      | some z => if k' = k then match x with
        | .nilM => some (okV ok z false)
        | .map id => match sto[id]? with
          | some (.map k2 kvs) => if k2 = k then (match mget kvs n with
            | some v => some (okV ok v true)
            | none => some (okV ok z false)) else none
          | _ => none
        | _ => none
        else none
      | none => none
    | _, _ => none
  | _, _ => none
def capId (ds : List D) : Option (List Nat) :=
  match ds with
  | [] => some []
  | .ptr id 0 :: rest => (capId rest).map (id :: ·)
  | _ => none
/-- A slice's cells, each its own value. -/
def cellsV (sto : Sto) (d : D) : Option (List V) :=
  match d.cells with
  | some ds => viewL sto ds
  | none => none
def fillV (sto : Sto) (s : Nat) : List V → List (Nat × D) → Option (List V)
  | cs, [] => some cs
  | cs, (i, d) :: rest => match cellsV sto d with
    | some ds => if ds.length = s ∧ i * s + s ≤ cs.length then fillV sto s (cs.take (i * s) ++ ds ++ cs.drop (i * s + s)) rest else none
    | none => none
def zeroV (i : TyI) : Option (List V) := match zeroD i with
  | some ds => viewL [] ds
  | none => none
def repl (n : Nat) (z : List V) : List V := (List.replicate n z).flatten
/-- A composite slice that nothing is written to. -/
def evSliceLit (T : Tab) (sto : Sto) (t : TypeId) (len : Nat) (parts : List (Nat × D)) : Option (TypeId × Nat × List V) :=
  match kd T t with
  | some (.slice e) => match T e with
    | some j => match zeroV j with
      | some z => if len * j.size ≤ 16777216 ∧ z.length = j.size ∧ 0 < j.size then
          (fillV sto j.size (repl len z) parts).map fun cs => (e, j.size, cs)
        else none
      | none => none
    | none => none
  | _ => none
/-- The operations that leave the entries alone. -/
def evPure (T : Tab) (ρ : Operand → D) (sto : Sto) (o : Oper) : Option D :=
  match o.op with
  | .move x => some (ρ x)
  | .assign x => some (ρ x)
  | .pick c a b => match ρ c with
    | .v (.bool t) => some (if t then ρ a else ρ b)
    | _ => none
  | .build t parts => evBuild T t (parts.toList.map fun p => (p.1, ρ p.2))
  | .buildSlice t len parts => (evSliceLit T sto t len (parts.toList.map fun p => (p.1, ρ p.2))).map fun x => .v (.sl len x.2.2)
  | .load t x => evLoad T sto t (ρ x)
  | .nilCheck x => match ρ x with
    | .ptr id o => some (.ptr id o)
    | .vp cs o => some (.vp cs o)
    | .aptr id n o => some (.aptr id n o)
    | .clo f cs => some (.clo f cs)
    | _ => none
  | .binOp op t x y _ => match view sto (ρ x), view sto (ρ y) with
    | some a, some b => (evBin T op t a b).map .v
    | _, _ => none
  | .unOp op _ x => match ρ x with
    | .v a => (evUn op a).map .v
    | _ => none
  | .convert src dst x => match T src, T dst, ρ x with
    | some _, some i, .v (.int _ n) => match i.kind with
      | .int k => some (.v (.int k (k.wrap n)))
      | _ => none
    | _, _, _ => none
  | .makeFunc (.func f) first caps => if first.size = 0 then (capId (caps.toList.map ρ)).map (.clo f ·) else none
  | .slice t x lo hi mx => evSlice T sto t (ρ x) (lo.map ρ) (hi.map ρ) (mx.map ρ)
  | .fieldAddr t x f => evFieldAddr T t f (ρ x)
  | .field t x f => evField T t f (ρ x)
  | .indexAddr t x i => evIndexAddr T sto t (ρ x) (ρ i)
  | .index t x i => evIndex T t (ρ x) (ρ i)
  | .lookup t x i ok => evLookup T sto t (ρ x) (ρ i) ok
  | .extract x ix => match ρ x with
    | .v (.tup vs) => (vs[ix]?).map .v
    | _ => none
  | .call c => match c.callee with
    | .builtin b => evBuiltin T sto b c.argTypes (c.args.toList.map ρ)
    | _ => none
  | _ => none
/-- Nothing in it points at an entry from m on. -/
def D.inside (m : Nat) : D → Bool
  | .v _ => true
  | .nilS => true
  | .nilp => true
  | .nilf => true
  | .undef => true
  | .dead => true
  | .arr id _ => decide (id < m)
  | .aptr id _ _ => decide (id < m)
  | .ptr id _ => decide (id < m)
  | .clo _ cs => cs.all (decide <| · < m)
  | .vp _ _ => true
  | .win id _ _ _ => decide (id < m)
  | .map id => decide (id < m)
  | .nilM => true
  | .agg _ => false
def scopedL (m : Nat) : List D → Bool
  | [] => true
  | d :: ds => d.inside m && scopedL m ds
def evAppend (T : Tab) (lo : Nat) (wr : Bool) (sto : Sto) (t : TypeId) (x y : D) : Option (D × Sto) :=
  match kd T t with
  | some (.slice e) => match T e, view sto y with
    | some j, some (.sl m news) => if 0 < j.size ∧ news.length = m * j.size ∧ j.bytes ≤ 100000 then match x with
      | .nilS => if m ≤ 1000000000 then
          (if m = 0 then some (.nilS, sto) else some (.arr sto.length m, sto ++ [.arr (some (e, j.size)) wr m news]))
        else none
      | .arr id n => match sto[id]? with
        | some (.arr es w n' cs) => if n' = n ∧ lo ≤ id ∧ n + m ≤ 1000000000 ∧ (es = none ∨ es = some (e, j.size)) then
            (if m = 0 then some (.arr id n, sto) else some (.arr id (n + m), sto.set id (.arr (some (e, j.size)) w (n + m) (cs ++ news))))
          else none
        | _ => none
      | _ => none
      else none
    | _, _ => none
  | _ => none
/-- append(x, make(.., k)...): its second argument is the number. -/
def evAppendZ (T : Tab) (lo : Nat) (sto : Sto) (t : TypeId) (x y : D) : Option (D × Sto) :=
  match kd T t, x, y with
  | some (.slice e), .arr id n, .v (.int _ k) => match T e, sto[id]? with
    | some j, some (.arr es w n' cs) => match zeroV j with
      | some z => if n' = n ∧ lo ≤ id ∧ 0 < k ∧ k ≤ 1000000 ∧ n ≤ 100000000 ∧ es = some (e, j.size) ∧ 0 < j.size ∧ z.length = j.size ∧ j.bytes ≤ 100000 then
          some (.arr id (n + k.toNat), sto.set id (.arr (some (e, j.size)) w (n + k.toNat) (cs ++ repl k.toNat z)))
        else none
      | none => none
    | _, _ => none
  | _, _, _ => none
def evClear (T : Tab) (lo : Nat) (sto : Sto) (t : TypeId) (x : D) : Option (D × Sto) :=
  match kd T t, ownWin sto x with
  | some (.slice e), some (id, n, o, m) => match T e with
    | some j => match zeroV j, sto[id]? with
      | some z, some (.arr es true k cs) => if lo ≤ id ∧ k = n ∧ z.length = j.size ∧ 0 < j.size ∧ o + m * j.size ≤ cs.length then
          some (.v (.tup []), if m = 0 then sto else sto.set id (.arr es true n (cs.take o ++ repl m z ++ cs.drop (o + m * j.size))))
        else none
      | _, _ => none
    | none => none
  | _, _ => none
def evDelete (T : Tab) (lo : Nat) (sto : Sto) (t : TypeId) (m key : D) : Option (D × Sto) :=
  match kd T t, m, key with
  | some (.map kt _), .map id, .v (.int k' n) => match kd T kt, sto[id]? with
    | some (.int k), some (.map k2 kvs) => if k' = k ∧ k2 = k ∧ lo ≤ id then some (.v (.tup []), sto.set id (.map k (mdel kvs n))) else none
    | _, _ => none
  | _, _, _ => none
def evUpdate (T : Tab) (lo : Nat) (sto : Sto) (t : TypeId) (m key val : D) : Option (D × Sto) :=
  match kd T t, m, key, view sto val with
  | some (.map kt _), .map id, .v (.int k' n), some y => match kd T kt, sto[id]? with
    | some (.int k), some (.map k2 kvs) => if k' = k ∧ k2 = k ∧ lo ≤ id then some (.undef, sto.set id (.map k (mput kvs n y))) else none
    | _, _ => none
  | _, _, _, _ => none
def evMakeMap (T : Tab) (sto : Sto) (t : TypeId) (r : Option D) : Option (D × Sto) :=
  match kd T t with
  | some (.map kt _) => match kd T kt, r with
    | some (.int k), none => some (.map sto.length, sto ++ [.map k []])
    | some (.int k), some (.v (.int _ _)) => some (.map sto.length, sto ++ [.map k []])
    | _, _ => none
  | _ => none
/-- The operations that make or write entries. -/
def evEff (T : Tab) (n0 lo : Nat) (wr : Bool) (ρ : Operand → D) (sto : Sto) (o : Oper) : Option (D × Sto) :=
  match o.op with
  | .box _ x => (ρ x).cells.map fun ds => (.ptr sto.length 0, sto ++ [.cells ds])
  | .alloc t => match T t with
    | some i => (zeroD i).map fun ds => (.ptr sto.length 0, sto ++ [.cells ds])
    | none => none
  | .buildSlice t len parts => (evSliceLit T sto t len (parts.toList.map fun p => (p.1, ρ p.2))).map fun x => (.arr sto.length len, sto ++ [.arr (some (x.1, x.2.1)) wr len x.2.2])
  | .makeSlice t l c => match kd T t, ρ l, ρ c with
    | some (.slice e), .v (.int _ a), .v (.int _ b) => match T e with
      | some j => match zeroV j with
        | some z => if a = b ∧ 0 ≤ a ∧ a ≤ 1000000000 ∧ j.bytes ≤ 100000 ∧ z.length = j.size ∧ 0 < j.size then
            some (.arr sto.length a.toNat, sto ++ [.arr (some (e, j.size)) wr a.toNat (repl a.toNat z)])
          else none
        | none => none
      | none => none
    | _, _, _ => none
  | .store t p x => match T t, (ρ x).cells with
    | some i, some ds => if ds.length = i.size then match ρ p with
      | .ptr id off => match sto[id]? with
        | some (.cells cs) => if lo ≤ id ∧ off + i.size ≤ cs.length ∧ (id < n0 → scopedL n0 ds = true) then
            some (.undef, sto.set id (.cells (cs.take off ++ ds ++ cs.drop (off + i.size)))) else none
        | _ => none
      | .aptr id n off => match sto[id]?, viewL sto ds with
        | some (.arr es true n' cs), some xs => if lo ≤ id ∧ n' = n ∧ off + i.size ≤ cs.length then
            some (.undef, sto.set id (.arr es true n (cs.take off ++ xs ++ cs.drop (off + i.size)))) else none
        | _, _ => none
      | _ => none
      else none
    | _, _ => none
  | .makeMap t r => evMakeMap T sto t (r.map ρ)
  | .mapUpdate t m x v => evUpdate T lo sto t (ρ m) (ρ x) (ρ v)
  | .call c => match c.callee, c.args.toList, c.argTypes.toList with
    | .builtin .append, [x, y], [t, t'] => if t = t' then evAppend T lo wr sto t (ρ x) (ρ y) else (match kd T t' with
      | some (.int _) => evAppendZ T lo sto t (ρ x) (ρ y)
      | _ => none)
    | .builtin .clear, [x], [t] => evClear T lo sto t (ρ x)
    | .builtin .delete, [m, x], [t, _] => evDelete T lo sto t (ρ m) (ρ x)
    | _, _, _ => none
  | _ => none
/-- The call's function and its arguments as the callee meets them. -/
def argD (sto : Sto) (d : D) : Option D :=
  match d with
  | .ptr id o => some (.ptr id o)
  | .clo f cs => some (.clo f cs)
  | .nilf => some .nilf
  | .vp cs o => some (.vp cs o)
  | .nilp => some .nilp
  | .map id => some (.map id)
  | .nilM => some .nilM
  | .win id n o m => some (.win id n o m)
  | .aptr id n o => some (.aptr id n o)
  | .arr id n => match sto[id]? with
    | some (.arr _ true k _) => if k = n then some (.arr id n) else none
    | _ => (view sto (.arr id n)).map .v
  | d => (view sto d).map .v
def argsD (sto : Sto) : List D → Option (List D)
  | [] => some []
  | d :: ds => match argD sto d, argsD sto ds with
    | some x, some xs => some (x :: xs)
    | _, _ => none
def evCallee (ρ : Operand → D) (sto : Sto) (o : Oper) : Option (FuncId × List D) :=
  match o.op with
  | .call c => match c.callee with
    | .value f => match ρ f with
      | .clo fid caps => (argsD sto (c.args.toList.map ρ)).map fun l => (fid, l ++ caps.map (.ptr · 0))
      | .v (.fn fid) => (argsD sto (c.args.toList.map ρ)).map fun l => (fid, l)
      | _ => none
    | _ => none
  | _ => none

/-- What a call yields: function, arguments, entries, the first entry that may be written, result, entries. -/
abbrev CallP := FuncId → List D → Sto → Nat → D → Sto → Prop
def guardD (ops : Array Oper) (o : Oper) (env : List D) : Option Bool :=
  match o.guard with
  | none => some true
  | some (j, want) => match (ops[j]?).bind (·.dst) with
    | none => some false
    | some d => match env[d]? with
      | none => some false
      | some (.v (.bool b)) => some (b == want)
      | some .undef => some false
      | _ => none
def wrOf (wt : List Tmp) (o : Oper) : Bool := match o.dst with
  | some t => wt.contains t
  | none => false
/-- 0: reads and reckons; 1: makes an entry; 2: writes; 3: calls. -/
def effKind (o : Oper) : Nat := match o.op with
  | .box .. => 1
  | .alloc _ => 1
  | .makeSlice .. => 1
  | .store .. => 2
  | .makeMap .. => 1
  | .mapUpdate .. => 2
  | .call c => match c.callee with
    | .builtin .append => 2
    | .builtin .clear => 2
    | .builtin .delete => 2
    | .builtin _ => 0
    | _ => 3
  | _ => 0
def ancOf (acc : List Nat) (o : Oper) : Nat := o.after.toList.foldl (fun s e => if Region.binds .any e then s ||| 2 ^ e.on ||| acc.getD e.on 0 else s) 0
def ancs : List Oper → List Nat → List Nat
  | [], acc => acc
  | o :: os, acc => ancs os (acc ++ [ancOf acc o])
/-- An operation that only reads, beside which one that writes may come earlier or later. -/
def needsFree (ops : Array Oper) (o : Oper) : Bool :=
  let a := ancs ops.toList []
  (List.range ops.size).any fun k => match ops[k]? with
    | some x => x.dst == o.dst && (List.range ops.size).any fun j => j != k && !(a.getD (max j k) 0).testBit (min j k) && match ops[j]? with
      | some y => effKind y == 1 || effKind y == 2
      | none => false
    | none => false
def kindsOk (a b : Nat) : Bool := ((a == 0 || a == 3) && (b == 0 || b == 3)) || (a == 0 && (b == 1 || b == 2)) || ((a == 1 || a == 2) && b == 0)
/-- A region that draws its order: whatever the order, it comes to what the order of the text comes to. -/
def drawOk (ops : Array Oper) : Bool :=
  let a := ancs ops.toList []
  (List.range ops.size).all fun j => (match ops[j]? with
    | some y => y.after.toList.all fun e => !Region.binds .any e || decide (e.on < j)
    | none => false) && (List.range j).all fun i => (a.getD j 0).testBit i || match ops[i]?, ops[j]? with
    | some x, some y => x.apart ops y && kindsOk (effKind x) (effKind y)
    | _, _ => false
/-- A mark among the slots: calls that write may stand in regions that draw their order. -/
def wCall (wt : List Tmp) : Bool := wt.contains 999999
/-- A call that stands unordered beside none. -/
def aloneCall (ops : Array Oper) (o : Oper) : Bool :=
  let a := ancs ops.toList []
  (List.range ops.size).all fun k => match ops[k]? with
    | some x => !(x.dst == o.dst) || (List.range ops.size).all fun j => j == k || (a.getD (max j k) 0).testBit (min j k) || match ops[j]? with
      | some y => !(effKind y == 3)
      | none => true
    | none => true
/-- An operation beside which a call may come earlier or later. -/
def besideCall (ops : Array Oper) (o : Oper) : Bool :=
  let a := ancs ops.toList []
  (List.range ops.size).any fun k => match ops[k]? with
    | some x => x.dst == o.dst && (List.range ops.size).any fun j => j != k && !(a.getD (max j k) 0).testBit (min j k) && match ops[j]? with
      | some y => effKind y == 3
      | none => false
    | none => false
/-- The call's own entries are the same. -/
def Own (n0 : Nat) (sto s : Sto) : Prop := ∀ i, n0 ≤ i → s[i]? = sto[i]?
theorem Own.symm {n0 : Nat} {sto s : Sto} (h : Own n0 sto s) : Own n0 s sto := fun i hi => (h i hi).symm
theorem Own.trans {n0 : Nat} {a b c : Sto} (h : Own n0 a b) (k : Own n0 b c) : Own n0 a c := fun i hi => (k i hi).trans (h i hi)
def EvOp (T : Tab) (X : CallP) (n0 lo : Nat) (wt : List Tmp) (draw : Bool) (ops : Array Oper) (o : Oper) (st : St) (K : St → Prop) : Prop :=
  (∃ d, evPure T (opd st.env) st.sto o = some d ∧ (draw = true → (needsFree ops o = true → ∀ s, evPure T (opd st.env) s o = some d) ∧ (wCall wt = true → besideCall ops o = true → ∀ s, Own n0 st.sto s → evPure T (opd st.env) s o = some d)) ∧ K (st.put o.dst d)) ∨
  (∃ d sto', evEff T n0 lo (wrOf wt o) (opd st.env) st.sto o = some (d, sto') ∧ (draw = true → effKind o ≠ 0) ∧ K (St.put { st with sto := sto' } o.dst d)) ∨
  (∃ f args r sto', evCallee (opd st.env) st.sto o = some (f, args) ∧ X f args st.sto (if draw then st.sto.length else lo) r sto' ∧ (draw = true → sto' = st.sto) ∧ (sto' = st.sto ∨ ∀ i ds, lo ≤ i → i < n0 → sto'[i]? = some (.cells ds) → st.sto[i]? = some (.cells ds) ∨ scopedL n0 ds = true) ∧ K (St.put { st with sto := sto' } o.dst r)) ∨
  (∃ f args r sto', wCall wt = true ∧ aloneCall ops o = true ∧ evCallee (opd st.env) st.sto o = some (f, args) ∧ X f args st.sto lo r sto' ∧ Own n0 st.sto sto' ∧ (∀ i ds, lo ≤ i → i < n0 → sto'[i]? = some (.cells ds) → st.sto[i]? = some (.cells ds) ∨ scopedL n0 ds = true) ∧ K (St.put { st with sto := sto' } o.dst r))
def EvOps (T : Tab) (X : CallP) (n0 lo : Nat) (wt : List Tmp) (draw : Bool) (ops : Array Oper) (Q : St → Prop) : List Oper → St → Prop
  | [], st => Q st
  | o :: rest, st => match guardD ops o st.env with
    | some true => EvOp T X n0 lo wt draw ops o st (EvOps T X n0 lo wt draw ops Q rest)
    | some false => EvOps T X n0 lo wt draw ops Q rest (st.put o.dst .undef)
    | none => False
/-- Before a region or a round: slices are declared read-only. -/
def shareE : Ent → Ent
  | .arr es _ n cs => .arr es false n cs
  | e => e
def shareAll (lo : Nat) : List Nat → Sto → Sto
  | [], sto => sto
  | i :: is, sto => shareAll lo is (if lo ≤ i then (match sto[i]? with | some e => sto.set i (shareE e) | none => sto) else sto)
/-- Between rounds: what is forgotten, read off, or made a slice of the call's own. -/
inductive Ghost (n0 lo : Nat) : St → St → Prop
  | refl (s) : Ghost n0 lo s s
  | trans {a b c} : Ghost n0 lo a b → Ghost n0 lo b c → Ghost n0 lo a c
  | kill (s : St) (t : Nat) : Ghost n0 lo s { s with env := s.env.set t .dead }
  | view (s : St) (t : Nat) (d : D) (x : V) (h : s.env[t]? = some d) (hv : view s.sto d = some x) : Ghost n0 lo s { s with env := s.env.set t (.v x) }
  | adopt (s : St) (t : Nat) (wr : Bool) (h : s.env[t]? = some .nilS) (hl : lo ≤ s.sto.length) : Ghost n0 lo s { env := s.env.set t (.arr s.sto.length 0), sto := s.sto ++ [.arr none wr 0 []] }
  | adoptC (s : St) (i k : Nat) (wr : Bool) (ds : List D) (h : s.sto[i]? = some (.cells ds)) (hk : ds[k]? = some .nilS) (hi : n0 ≤ i) (hl : lo ≤ i) : Ghost n0 lo s { s with sto := (s.sto.set i (.cells (ds.set k (.arr s.sto.length 0)))) ++ [.arr none wr 0 []] }
  | killC (s : St) (i k : Nat) (ds : List D) (h : s.sto[i]? = some (.cells ds)) (hi : n0 ≤ i) (hl : lo ≤ i) : Ghost n0 lo s { s with sto := s.sto.set i (.cells (ds.set k .dead)) }
  | viewC (s : St) (i k : Nat) (ds : List D) (d : D) (x : V) (h : s.sto[i]? = some (.cells ds)) (hk : ds[k]? = some d) (hv : viewC s.sto d = some x) (hl : lo ≤ i) : Ghost n0 lo s { s with sto := s.sto.set i (.cells (ds.set k (.v x))) }
  | share (s : St) (l : List Nat) : Ghost n0 lo s { s with sto := shareAll lo l s.sto }
  | reserve (s : St) (hl : lo ≤ s.sto.length) : Ghost n0 lo s { s with sto := s.sto ++ [.arr none false 0 []] }
  | trunc (s : St) (m : Nat) (hm : n0 ≤ m) (he : scopedL m s.env = true) (hs : ∀ i ds, i < m → s.sto[i]? = some (.cells ds) → n0 ≤ i → scopedL m ds = true) : Ghost n0 lo s { s with sto := s.sto.take m }
/-- Entries below m are the same. -/
def Agr (m : Nat) (sto s : Sto) : Prop := s.length = sto.length ∧ ∀ i, i < m → s[i]? = sto[i]?
theorem Agr.refl (m : Nat) (s : Sto) : Agr m s s := ⟨rfl, fun _ _ => rfl⟩
theorem Agr.symm {m : Nat} {a b : Sto} (h : Agr m a b) : Agr m b a := ⟨h.1.symm, fun i hi => (h.2 i hi).symm⟩
theorem Agr.trans {m : Nat} {a b c : Sto} (h : Agr m a b) (k : Agr m b c) : Agr m a c := ⟨k.1.trans h.1, fun i hi => (k.2 i hi).trans (h.2 i hi)⟩
/-- What a new box holds. -/
def boxCells (T : Tab) (ρ : Operand → D) (o : Oper) : Option (List D) := match o.op with
  | .box _ x => (ρ x).cells
  | .alloc t => match T t with
    | some i => zeroD i
    | none => none
  | _ => none
abbrev PH : Ent := .arr none false 0 []
/-- One operation of a region whose new boxes have their entries laid by before (from m on); all else looks at entries below m alone. -/
def EvOpR (T : Tab) (X : CallP) (n0 lo m : Nat) (o : Oper) (st : St) (K : St → Prop) : Prop :=
  (∃ d, effKind o = 0 ∧ (∀ s, Agr m st.sto s → evPure T (opd st.env) s o = some d) ∧ K (st.put o.dst d)) ∨
  (∃ id ds, effKind o = 1 ∧ boxCells T (opd st.env) o = some ds ∧ st.sto[id]? = some PH ∧ m ≤ id ∧ K (St.put { st with sto := st.sto.set id (.cells ds) } o.dst (.ptr id 0))) ∨
  (∃ d sto', effKind o = 2 ∧ evEff T n0 lo false (opd st.env) st.sto o = some (d, sto') ∧ Agr m st.sto sto' ∧ K (St.put { st with sto := sto' } o.dst d)) ∨
  (∃ f args r, (∀ s, Agr m st.sto s → evCallee (opd st.env) s o = some (f, args)) ∧ (∀ s, Agr m st.sto s → X f args s s.length r s) ∧ K (st.put o.dst r))
def EvOpsR (T : Tab) (X : CallP) (n0 lo m : Nat) (ops : Array Oper) (Q : St → Prop) : List Oper → St → Prop
  | [], st => Q st
  | o :: rest, st => match guardD ops o st.env with
    | some true => EvOpR T X n0 lo m o st (EvOpsR T X n0 lo m ops Q rest)
    | some false => EvOpsR T X n0 lo m ops Q rest (st.put o.dst .undef)
    | none => False
def kindsOkR (a b : Nat) : Bool := ((a == 0 || a == 3 || a == 1) && (b == 0 || b == 3 || b == 1)) || (a == 0 && b == 2) || (a == 2 && b == 0)
def drawOkR (ops : Array Oper) : Bool :=
  let a := ancs ops.toList []
  (List.range ops.size).all fun j => (match ops[j]? with
    | some y => y.after.toList.all fun e => !Region.binds .any e || decide (e.on < j)
    | none => false) && (List.range j).all fun i => (a.getD j 0).testBit i || match ops[i]?, ops[j]? with
    | some x, some y => x.apart ops y && kindsOkR (effKind x) (effKind y)
    | _, _ => false
def thenP (K : St → Prop) (Q : Exit → St → Prop) : Exit → St → Prop
  | .normal, st => K st
  | e, st => Q e st
def blockP (id : Nat) (Q : Exit → St → Prop) : Exit → St → Prop
  | .exit id', st => if id' = id then Q .normal st else Q (.exit id') st
  | e, st => Q e st
def EvC (T : Tab) (X : CallP) (n0 lo : Nat) (wt : List Tmp) : Code → (Exit → St → Prop) → St → Prop
  | .skip, Q, st => Q .normal st
  | .region _ ops draw, Q, st => ((draw = true → drawOk ops = true) ∧ ∃ st', Ghost n0 lo st st' ∧ EvOps T X n0 lo wt draw ops (Q .normal) ops.toList st') ∨
    (draw = true ∧ drawOkR ops = true ∧ ∃ st' m, Ghost n0 lo st st' ∧ n0 ≤ m ∧ EvOpsR T X n0 lo m ops (Q .normal) ops.toList st')
  | .seq x y, Q, st => EvC T X n0 lo wt x (thenP (EvC T X n0 lo wt y Q) Q) st
  | .cond c x y, Q, st => match opd st.env c with
    | .v (.bool b) => (b = true → EvC T X n0 lo wt x Q st) ∧ (b = false → EvC T X n0 lo wt y Q st)
    | _ => False
  | .block id b, Q, st => EvC T X n0 lo wt b (blockP id Q) st
  | .loop b, Q, st => ∀ Y : St → Prop, (∀ s s', Ghost n0 lo s s' → EvC T X n0 lo wt b (thenP Y Q) s' → Y s) → Y st
  | .exit id, Q, st => Q (.exit id) st
  | .ret, Q, st => Q .ret st
  | _, _, _ => False
def resOf (T : Tab) (st : St) : ResultVar → Option V
  | .tmp t => view st.sto ((st.env[t]?).getD .undef)
  | .cell a t => match evLoad T st.sto t ((st.env[a]?).getD .undef) with
    | some d => view st.sto d
    | none => none
def resL (T : Tab) (st : St) : List ResultVar → Option (List V)
  | [] => some []
  | r :: rs => match resOf T st r, resL T st rs with
    | some x, some xs => some (x :: xs)
    | _, _ => none
def resV (T : Tab) (st : St) (rs : List ResultVar) : Option V :=
  match resL T st rs with
  | some [x] => some x
  | some xs => some (.tup xs)
  | none => none
/-- How a body may end: its result is plain data, its own entries go; or its result may name them, and they stay; or it is a slice of its own, which alone stays. -/
def bodyP (T : Tab) (fn : Func) (n0 : Nat) (r : D) (sto' : Sto) (e : Exit) (st : St) : Prop :=
  (e = .normal ∨ e = .ret) ∧ ((∃ sh x, resV T { st with sto := shareAll n0 sh st.sto } fn.results.toList = some x ∧ r = .v x ∧ st.sto.take n0 = sto') ∨
    (∃ t, fn.results.toList = [.tmp t] ∧ r = (st.env[t]?).getD .undef ∧ sto' = st.sto) ∨
    (∃ t id n es wr cs, fn.results.toList = [.tmp t] ∧ (st.env[t]?).getD .undef = .arr id n ∧ n0 ≤ id ∧ st.sto[id]? = some (.arr es wr n cs) ∧ r = .arr n0 n ∧ sto' = st.sto.take n0 ++ [.arr es wr n cs]))
def callable (P : Program) (f : FuncId) : Bool := match P.funcs[f]? with
  | some fn => fn.body.isSome && fn.name != "runtime.NumGoroutine"
  | none => false
def EvBody (P : Program) (T : Tab) (X : CallP) (f : FuncId) (args : List D) (sto : Sto) (lo : Nat) (r : D) (sto' : Sto) : Prop :=
  ∃ fn c wt, P.funcs[f]? = some fn ∧ fn.body = some c ∧ fn.name ≠ "runtime.NumGoroutine" ∧
    EvC T X sto.length lo wt c (bodyP T fn sto.length r sto') ⟨args ++ List.replicate (fn.ntmps - args.length) .undef, sto⟩
/-- The least such thing over what is shown of some calls otherwise (B). -/
def CallEv (P : Program) (T : Tab) (B : CallP) : CallP := fun f args sto lo r sto' =>
  ∀ X : CallP, (∀ f args sto lo r sto', EvBody P T X f args sto lo r sto' → X f args sto lo r sto') → (∀ f args sto lo r sto', B f args sto lo r sto' → X f args sto lo r sto') → X f args sto lo r sto'
end Go.Proofs.YtomameefmobnlaaDoor
namespace Go.Proofs.YtomameefmobnlaaDoor
open Go Go.RowKit

abbrev Stay := Nat → Nat → Prop
inductive RepV (S : Stay) (w : World) : Value → V → Prop
  | bool (b : Bool) : RepV S w (.bool b) (.bool b)
  | int (k : IntKind) (n : Int) : RepV S w (.int k n) (.int k n)
  | str (s : ByteArray) : RepV S w (.string s) (.str s)
  | sl0 (a : Option Addr) (n cap : Nat) (h : n ≤ cap) (hc : cap ≤ maxLen) (h0 : a = none → cap = 0) : RepV S w (.slice a n cap) (.sl n [])
  | sl (b off n cap : Nat) (us : Nat → Value) (cs : List V) (h : n ≤ cap) (hc : cap ≤ maxLen) (hu : ∀ j, j < cs.length → S b (off + j) ∧ (us j).oneCell' = true ∧ w.cell? ⟨b, off + j, none⟩ = some (us j)) (hr : ∀ (j : Nat) (c : V), cs[j]? = some c → RepV S w (us j) c) : RepV S w (.slice (some ⟨b, off, none⟩) n cap) (.sl n cs)
  | agg (us : List Value) (cs : List V) (h : us.length = cs.length) (ho : ∀ u ∈ us, u.oneCell' = true) (hr : ∀ (j : Nat) (u : Value) (c : V), us[j]? = some u → cs[j]? = some c → RepV S w u c) : RepV S w (.agg us.toArray) (.agg cs)
  | tup (us : List Value) (cs : List V) (h : us.length = cs.length) (hr : ∀ (j : Nat) (u : Value) (c : V), us[j]? = some u → cs[j]? = some c → RepV S w u c) : RepV S w (.tuple us.toArray) (.tup cs)
  | fn (f : FuncId) : RepV S w (.func (.func f) #[] #[]) (.fn f)
theorem RepV.mono {S S' : Stay} {w w' : World} (hst : ∀ b o, S b o → S' b o ∧ w'.cell? ⟨b, o, none⟩ = w.cell? ⟨b, o, none⟩) {v : Value} {x : V} (h : RepV S w v x) : RepV S' w' v x := by
  induction h with
  | bool b => exact .bool b
  | int k n => exact .int k n
  | str s => exact .str s
  | sl0 a n cap h hc h0 => exact .sl0 a n cap h hc h0
  | sl b off n cap us cs h hc hu hr ih => exact .sl b off n cap us cs h hc (fun j hj => ⟨(hst _ _ (hu j hj).1).1, (hu j hj).2.1, (hst _ _ (hu j hj).1).2.trans (hu j hj).2.2⟩) ih
  | agg us cs h ho hr ih => exact .agg us cs h ho ih
  | tup us cs h hr ih => exact .tup us cs h ih
  | fn f => exact .fn f
/-- The block that a value names. -/
def blk : Value → Option Nat
  | .pointer (some a) => some a.block
  | .slice (some a) _ _ => some a.block
  | .map (some g) => some g
  | _ => none
def blkAt (gh : List Value) (i : Nat) : Option Nat := (gh[i]?).bind blk
def RepC (S : Stay) (gh : List Value) (sto : Sto) (w : World) (v : Value) : D → Prop
  | .v x => RepV S w v x
  | .agg _ => False
  | .nilS => v = .slice none 0 0
  | .arr id n => id < sto.length ∧ (∃ a c, v = .slice a n c) ∧ ∀ es wr m cs, sto[id]? = some (.arr es wr m cs) → n ≤ m ∧ (n = m → gh[id]? = some v)
  | .aptr id n o => id < sto.length ∧ (∃ a, v = .pointer (some a)) ∧ ∀ es wr m cs, sto[id]? = some (.arr es wr m cs) → n ≤ m ∧ (n = m → ∃ g, blkAt gh id = some g ∧ v = .pointer (some ⟨g, o, none⟩))
  | .ptr id off => id < sto.length ∧ ∃ g, gh[id]? = some (.pointer (some ⟨g, 0, none⟩)) ∧ v = .pointer (some ⟨g, off, none⟩)
  | .vp cs o => ∃ (b off : Nat) (us : Nat → Value), v = .pointer (some ⟨b, off + o, none⟩) ∧ (∀ j, j < cs.length → S b (off + j) ∧ (us j).oneCell' = true ∧ w.cell? ⟨b, off + j, none⟩ = some (us j)) ∧ ∀ (j : Nat) (c : V), cs[j]? = some c → RepV S w (us j) c
  | .nilp => v = .pointer none
  | .clo f caps => ∃ vs : List Value, v = .func (.func f) #[] vs.toArray ∧ vs.length = caps.length ∧ ∀ (j id : Nat), caps[j]? = some id → id < sto.length ∧ ∃ g, gh[id]? = some (.pointer (some ⟨g, 0, none⟩)) ∧ vs[j]? = some (.pointer (some ⟨g, 0, none⟩))
  | .nilf => v = .nilFunc
  | .undef => v = undef
  | .dead => True
  | .win id n o m => id < sto.length ∧ (∃ a c, v = .slice a m c) ∧ ∀ es wr k cs, sto[id]? = some (.arr es wr k cs) → n ≤ k ∧ (n = k → ∃ g o' c, blkAt gh id = some g ∧ v = .slice (some ⟨g, o', none⟩) m c ∧ m ≤ c ∧ c ≤ maxLen ∧ (0 < m → o' = o))
  | .map id => id < sto.length ∧ ∃ g, gh[id]? = some (.map (some g)) ∧ v = .map (some g)
  | .nilM => v = .map none
def RepD (S : Stay) (gh : List Value) (sto : Sto) (w : World) (v : Value) : D → Prop
  | .agg ds => ∃ us : List Value, v = .agg us.toArray ∧ us.length = ds.length ∧ ∀ (j : Nat) (u : Value) (d : D), us[j]? = some u → ds[j]? = some d → u.oneCell' = true ∧ RepC S gh sto w u d
  | d => RepC S gh sto w v d
/-- What is kept of an entry. -/
def KeepE (gv gv' : Value) : Ent → Ent → Prop
  | .cells ds, .cells ds' => gv' = gv ∧ ds'.length = ds.length
  | .arr _ _ n _, .arr _ _ n' _ => n ≤ n' ∧ (n' = n → gv' = gv)
  | .map k _, .map k' _ => gv' = gv ∧ k' = k
  | .arr _ _ _ _, .cells _ => True
  | _, _ => False
def RepE (S : Stay) (gh : List Value) (sto : Sto) (w : World) (gv : Value) : Ent → Prop
  | .cells ds => ∃ g cur ty, gv = .pointer (some ⟨g, 0, none⟩) ∧ w.heap[g]? = some (.cells cur ty (0, 0)) ∧ cur.toList.length = ds.length ∧ (∀ o, ¬ S g o) ∧ ∀ (k : Nat) (u : Value) (d : D), cur.toList[k]? = some u → ds[k]? = some d → u.oneCell' = true ∧ RepC S gh sto w u d
  | .arr none _ n cs => gv = .slice none 0 0 ∧ n = 0 ∧ cs = []
  | .arr (some (e, s)) wr n cs => ∃ g cap cur, gv = .slice (some ⟨g, 0, none⟩) n cap ∧ w.heap[g]? = some (.cells cur e (0, 0)) ∧ n ≤ cap ∧ cap ≤ maxLen ∧ cur.size = cap * s ∧ cs.length = n * s ∧ (∀ (j : Nat) (u : Value) (c : V), cur.toList[j]? = some u → cs[j]? = some c → u.oneCell' = true ∧ RepV S w u c) ∧ (if wr then ∀ o, ¬ S g o else ∀ o, S g o ↔ o < n * s)
  | .map k kvs => ∃ g es clock, gv = .map (some g) ∧ w.heap[g]? = some (.map es clock) ∧ (∀ o, ¬ S g o) ∧ MapKept.Stamped es clock ∧ es.toList.length = kvs.length ∧ ∀ (j : Nat) (e : MapEntry) (kv : Int × V), es.toList[j]? = some e → kvs[j]? = some kv → e.key = .int k kv.1 ∧ RepV S w e.val kv.2
structure SR (S : Stay) (gh : List Value) (w : World) (sto : Sto) : Prop where
  len : gh.length = sto.length
  ent : ∀ (i : Nat) (e : Ent), sto[i]? = some e → ∃ gv, gh[i]? = some gv ∧ RepE S gh sto w gv e
  inj : ∀ i j g, blkAt gh i = some g → blkAt gh j = some g → i = j
  stay : ∀ b o, S b o → b < w.heap.size
/-- The package-level variables read as they do. -/
def GlobOK (S : Stay) (w : World) : Prop := ∀ g cs, (g, cs) ∈ globs → ∃ us : Nat → Value, (∀ j, j < cs.length → S g j ∧ (us j).oneCell' = true ∧ w.cell? ⟨g, j, none⟩ = some (us j)) ∧ ∀ (j : Nat) (c : V), cs[j]? = some c → RepV S w (us j) c
theorem GlobOK.mono {S S' : Stay} {w w' : World} (hst : ∀ b o, S b o → S' b o ∧ w'.cell? ⟨b, o, none⟩ = w.cell? ⟨b, o, none⟩) (h : GlobOK S w) : GlobOK S' w' := by
  intro g cs hg
  obtain ⟨us, h1, h2⟩ := h g cs hg
  exact ⟨us, fun j hj => ⟨(hst _ _ (h1 j hj).1).1, (h1 j hj).2.1, (hst _ _ (h1 j hj).1).2.trans (h1 j hj).2.2⟩, fun j c hc => RepV.mono hst (h2 j c hc)⟩
structure RS (S : Stay) (gh : List Value) (w : World) (a : Act) (st : St) : Prop where
  size : a.tmps.toList.length = st.env.length
  env : ∀ (t : Nat) (v : Value) (d : D), a.tmps.toList[t]? = some v → st.env[t]? = some d → RepD S gh st.sto w v d
  sto : SR S gh w st.sto
  defers : a.defers = []
  glob : GlobOK S w
/-- What a step leaves as it was: entries below lo wholly; of those below n0 where they lie; blocks that are no entry's. -/
structure Fr (n0 lo : Nat) (S : Stay) (gh : List Value) (w : World) (sto : Sto) (S' : Stay) (gh' : List Value) (w' : World) (sto' : Sto) : Prop where
  os : w'.os = w.os
  tape : w'.tape = w.tape
  output : w'.output = w.output
  size : w.heap.size ≤ w'.heap.size
  stable : ∀ b o, S b o → S' b o ∧ w'.cell? ⟨b, o, none⟩ = w.cell? ⟨b, o, none⟩
  block : ∀ b, b < w.heap.size → (∀ i, lo ≤ i → blkAt gh i ≠ some b) → w'.heap[b]? = w.heap[b]?
  low : ∀ i, i < lo → gh'[i]? = gh[i]? ∧ sto'[i]? = sto[i]?
  new : ∀ i g, lo ≤ i → blkAt gh' i = some g → (∃ j, lo ≤ j ∧ blkAt gh j = some g) ∨ w.heap.size ≤ g
  keep : ∀ (i : Nat) (e : Ent) (gv : Value), i < n0 → sto[i]? = some e → gh[i]? = some gv → ∃ e' gv', sto'[i]? = some e' ∧ gh'[i]? = some gv' ∧ KeepE gv gv' e e'
theorem KeepE.refl (gv : Value) : ∀ e, KeepE gv gv e e
  | .cells _ => ⟨rfl, rfl⟩
  | .arr _ _ _ _ => ⟨Nat.le_refl _, fun _ => rfl⟩
  | .map _ _ => ⟨rfl, rfl⟩
theorem KeepE.trans {a b c : Value} {e f g : Ent} (h : KeepE a b e f) (k : KeepE b c f g) : KeepE a c e g := by
  cases e <;> cases f <;> cases g <;> simp only [KeepE] at h k ⊢ <;> try (first | exact h.elim | exact k.elim)
  · exact ⟨k.1.trans h.1, k.2.trans h.2⟩
  · exact ⟨Nat.le_trans h.1 k.1, fun e => by
      have h1 := h.1; have k1 := k.1
      exact (k.2 (by omega)).trans (h.2 (by omega))⟩
  · exact ⟨k.1.trans h.1, k.2.trans h.2⟩
theorem Fr.refl (n0 lo : Nat) (S : Stay) (gh : List Value) (w : World) (sto : Sto) : Fr n0 lo S gh w sto S gh w sto :=
  ⟨rfl, rfl, rfl, Nat.le_refl _, fun _ _ h => ⟨h, rfl⟩, fun _ _ _ => rfl, fun _ _ => ⟨rfl, rfl⟩, fun i _ hi hg => .inl ⟨i, hi, hg⟩, fun _ e gv _ h1 h2 => ⟨e, gv, h1, h2, KeepE.refl gv e⟩⟩
theorem Fr.trans {n0 lo : Nat} {S1 S2 S3 : Stay} {g1 g2 g3 : List Value} {w1 w2 w3 : World} {s1 s2 s3 : Sto} (h : Fr n0 lo S1 g1 w1 s1 S2 g2 w2 s2) (k : Fr n0 lo S2 g2 w2 s2 S3 g3 w3 s3) : Fr n0 lo S1 g1 w1 s1 S3 g3 w3 s3 where
  os := k.os.trans h.os
  tape := k.tape.trans h.tape
  output := k.output.trans h.output
  size := Nat.le_trans h.size k.size
  stable := fun b o hb => ⟨(k.stable b o (h.stable b o hb).1).1, (k.stable b o (h.stable b o hb).1).2.trans (h.stable b o hb).2⟩
  block := fun b hb hn => (k.block b (Nat.lt_of_lt_of_le hb h.size) (fun i hi hg => by
    rcases h.new i b hi hg with ⟨j, hj, hg'⟩ | hge
    · exact hn j hj hg'
    · omega)).trans (h.block b hb hn)
  low := fun i hi => ⟨(k.low i hi).1.trans (h.low i hi).1, (k.low i hi).2.trans (h.low i hi).2⟩
  new := fun i g hi hg => by
    rcases k.new i g hi hg with ⟨j, hj, hg'⟩ | hge
    · exact h.new j g hj hg'
    · exact .inr (Nat.le_trans h.size hge)
  keep := fun i e gv hi h1 h2 => by
    obtain ⟨e2, gv2, a1, a2, a3⟩ := h.keep i e gv hi h1 h2
    obtain ⟨e3, gv3, b1, b2, b3⟩ := k.keep i e2 gv2 hi a1 a2
    exact ⟨e3, gv3, b1, b2, a3.trans b3⟩
theorem Fr.weaken {n0 n1 lo : Nat} {S S' : Stay} {gh gh' : List Value} {w w' : World} {sto sto' : Sto} (h : Fr n0 lo S gh w sto S' gh' w' sto') (hn : n1 ≤ n0) : Fr n1 lo S gh w sto S' gh' w' sto' :=
  { h with keep := fun i e gv hi => h.keep i e gv (by omega) }
/-- What reads in the old memory reads in the new. -/
theorem RepC.mono {lo : Nat} {S S' : Stay} {gh gh' : List Value} {w w' : World} {sto sto' : Sto} (hs : SR S gh w sto) (hf : Fr sto.length lo S gh w sto S' gh' w' sto') {v : Value} {d : D} (h : RepC S gh sto w v d) : RepC S' gh' sto' w' v d := by
  have look : ∀ id, id < sto.length → ∃ e gv e' gv', sto[id]? = some e ∧ gh[id]? = some gv ∧ RepE S gh sto w gv e ∧ sto'[id]? = some e' ∧ gh'[id]? = some gv' ∧ KeepE gv gv' e e' := by
    intro id hid
    have h1 : sto[id]? = some sto[id] := List.getElem?_eq_getElem hid
    obtain ⟨gv, h2, h3⟩ := hs.ent id _ h1
    obtain ⟨e', gv', a, b, c⟩ := hf.keep id _ _ hid h1 h2
    exact ⟨_, gv, e', gv', h1, h2, h3, a, b, c⟩
  have lt' : ∀ (id : Nat) (e' : Ent), sto'[id]? = some e' → id < sto'.length := fun id e' h => (List.getElem?_eq_some_iff.1 h).1
  have pt : ∀ id g, id < sto.length → gh[id]? = some (.pointer (some ⟨g, 0, none⟩)) → id < sto'.length ∧ gh'[id]? = some (.pointer (some ⟨g, 0, none⟩)) := by
    intro id g hid hg
    obtain ⟨e, gv, e', gv', a1, a2, a3, a4, a5, a6⟩ := look id hid
    rw [a2] at hg
    cases hg
    refine ⟨lt' id e' a4, ?_⟩
    cases e with
    | cells ds => cases e' <;> simp only [KeepE] at a6; rw [a5, a6.1]
    | arr es wr n cs => cases es with
      | none => simp only [RepE] at a3; exact absurd a3.1 (by simp)
      | some es =>
        obtain ⟨e0, s0⟩ := es
        simp only [RepE] at a3
        obtain ⟨g', cap, cur, h, _⟩ := a3
        cases h
    | map k kvs => obtain ⟨g', es, clock, h, _⟩ := a3; cases h
  have mt : ∀ id g, id < sto.length → gh[id]? = some (.map (some g)) → id < sto'.length ∧ gh'[id]? = some (.map (some g)) := by
    intro id g hid hg
    obtain ⟨e, gv, e', gv', a1, a2, a3, a4, a5, a6⟩ := look id hid
    rw [a2] at hg
    cases hg
    refine ⟨lt' id e' a4, ?_⟩
    cases e with
    | cells ds => obtain ⟨g', cur, ty, h, _⟩ := a3; cases h
    | arr es wr n cs => cases es with
      | none => simp only [RepE] at a3; exact absurd a3.1 (by simp)
      | some es =>
        obtain ⟨e0, s0⟩ := es
        simp only [RepE] at a3
        obtain ⟨g', cap, cur, h, _⟩ := a3
        cases h
    | map k kvs => cases e' <;> simp only [KeepE] at a6; rw [a5, a6.1]
  have ar : ∀ id n, id < sto.length → (∀ es wr m cs, sto[id]? = some (.arr es wr m cs) → n ≤ m) → ∀ es' wr' m' cs', sto'[id]? = some (.arr es' wr' m' cs') → ∃ es wr m cs, sto[id]? = some (.arr es wr m cs) ∧ n ≤ m' ∧ (n = m' → n = m ∧ gh'[id]? = gh[id]?) := by
    intro id n hid hle es' wr' m' cs' hs'
    obtain ⟨e, gv, e', gv', a1, a2, a3, a4, a5, a6⟩ := look id hid
    rw [a4] at hs'
    cases hs'
    cases e with
    | cells ds => simp only [KeepE] at a6
    | map k kvs => simp only [KeepE] at a6
    | arr es wr m cs =>
      simp only [KeepE] at a6
      have := hle es wr m cs a1
      refine ⟨es, wr, m, cs, a1, by omega, fun e => ?_⟩
      have hm : n = m := by omega
      exact ⟨hm, by rw [a5, a2, a6.2 (by omega)]⟩
  have ltn : ∀ id, id < sto.length → id < sto'.length := fun id hid => by
    obtain ⟨e, gv, e', gv', a1, a2, a3, a4, a5, a6⟩ := look id hid
    exact lt' id e' a4
  cases d with
  | v x => exact RepV.mono hf.stable h
  | agg ds => exact h.elim
  | nilS => exact h
  | arr id n =>
    obtain ⟨h1, h2, h3⟩ := h
    refine ⟨ltn id h1, h2, fun es' wr' m' cs' hs' => ?_⟩
    obtain ⟨es, wr, m, cs, b1, b2, b3⟩ := ar id n h1 (fun es wr m cs hx => (h3 es wr m cs hx).1) es' wr' m' cs' hs'
    exact ⟨b2, fun e => (b3 e).2.trans ((h3 es wr m cs b1).2 (b3 e).1)⟩
  | aptr id n o =>
    obtain ⟨h1, h2, h3⟩ := h
    refine ⟨ltn id h1, h2, fun es' wr' m' cs' hs' => ?_⟩
    obtain ⟨es, wr, m, cs, b1, b2, b3⟩ := ar id n h1 (fun es wr m cs hx => (h3 es wr m cs hx).1) es' wr' m' cs' hs'
    refine ⟨b2, fun e => ?_⟩
    obtain ⟨g, hg, hv⟩ := (h3 es wr m cs b1).2 (b3 e).1
    exact ⟨g, by unfold blkAt at hg ⊢; rw [(b3 e).2]; exact hg, hv⟩
  | ptr id off =>
    obtain ⟨h1, g, h2, h3⟩ := h
    obtain ⟨h4, h5⟩ := pt id g h1 h2
    exact ⟨h4, g, h5, h3⟩
  | vp cs o =>
    obtain ⟨b, off, us, h1, h2, h3⟩ := h
    exact ⟨b, off, us, h1, fun j hj => ⟨(hf.stable _ _ (h2 j hj).1).1, (h2 j hj).2.1, (hf.stable _ _ (h2 j hj).1).2.trans (h2 j hj).2.2⟩, fun j c hc => RepV.mono hf.stable (h3 j c hc)⟩
  | nilp => exact h
  | clo f caps =>
    obtain ⟨vs, h1, h2, h3⟩ := h
    refine ⟨vs, h1, h2, fun j id hj => ?_⟩
    obtain ⟨a1, g, a2, a3⟩ := h3 j id hj
    obtain ⟨b1, b2⟩ := pt id g a1 a2
    exact ⟨b1, g, b2, a3⟩
  | nilf => exact h
  | undef => exact h
  | dead => exact h
  | win id n o m =>
    obtain ⟨h1, h2, h3⟩ := h
    refine ⟨ltn id h1, h2, fun es' wr' k' cs' hs' => ?_⟩
    obtain ⟨es, wr, k, cs, b1, b2, b3⟩ := ar id n h1 (fun es wr k cs hx => (h3 es wr k cs hx).1) es' wr' k' cs' hs'
    refine ⟨b2, fun e => ?_⟩
    obtain ⟨g, o', c, hg, hv⟩ := (h3 es wr k cs b1).2 (b3 e).1
    exact ⟨g, o', c, by unfold blkAt at hg ⊢; rw [(b3 e).2]; exact hg, hv⟩
  | map id =>
    obtain ⟨h1, g, h2, h3⟩ := h
    obtain ⟨h4, h5⟩ := mt id g h1 h2
    exact ⟨h4, g, h5, h3⟩
  | nilM => exact h
theorem RepD.mono {lo : Nat} {S S' : Stay} {gh gh' : List Value} {w w' : World} {sto sto' : Sto} (hs : SR S gh w sto) (hf : Fr sto.length lo S gh w sto S' gh' w' sto') {v : Value} {d : D} (h : RepD S gh sto w v d) : RepD S' gh' sto' w' v d := by
  cases d with
  | agg ds =>
    obtain ⟨us, h1, h2, h3⟩ := h
    exact ⟨us, h1, h2, fun j u d hu hd => ⟨(h3 j u d hu hd).1, RepC.mono hs hf (h3 j u d hu hd).2⟩⟩
  | _ => simp only [RepD] at h ⊢; exact RepC.mono hs hf h
end Go.Proofs.YtomameefmobnlaaDoor
namespace Go.Proofs.YtomameefmobnlaaDoor
open Go Go.RowKit

section
variable {P : Program} {T : Tab} (hT : T.OK P) {S : Stay} {gh : List Value} {sto : Sto} {w : World}
theorem RepC.toD {v : Value} {d : D} (h : RepC S gh sto w v d) : RepD S gh sto w v d := by
  cases d <;> first | exact h.elim | exact h
theorem RepV.toD {v : Value} {x : V} (h : RepV S w v x) : RepD S gh sto w v (.v x) := h
theorem ofVal1_rep (v : Value) : RepC S gh sto w v (ofVal1 v) := by
  unfold ofVal1
  split
  · exact RepV.bool _
  · exact RepV.int _ _
  · exact RepV.str _
  · rfl
  · rfl
  · rfl
  · rfl
  · exact True.intro
theorem ofVal_rep (v : Value) : RepD S gh sto w v (ofVal v) := by
  unfold ofVal
  split
  · rename_i cs
    split
    · rename_i h
      refine ⟨cs.toList, rfl, by simp, fun j u d hu hd => ⟨?_, ?_⟩⟩
      · rw [List.all_eq_true] at h
        exact h u (List.mem_of_getElem? hu)
      · rw [List.getElem?_map, hu] at hd
        simp only [Option.map_some, Option.some.injEq] at hd
        rw [← hd]; exact ofVal1_rep u
    · exact True.intro
  · exact (ofVal1_rep _).toD
theorem globAt_mem {g : Nat} {cs : List V} : ∀ {l : List (Nat × List V)}, globAt g l = some cs → (g, cs) ∈ l
  | [], h => by simp [globAt] at h
  | (k, x) :: l, h => by
    unfold globAt at h
    split at h
    · rename_i e
      simp only [Option.some.injEq] at h
      subst e; subst h; simp
    · exact List.mem_cons_of_mem _ (globAt_mem h)
theorem opd_rep {a : Act} {env : List D} (hgl : GlobOK S w) (hs : a.tmps.toList.length = env.length) (he : ∀ (t : Nat) (v : Value) (d : D), a.tmps.toList[t]? = some v → env[t]? = some d → RepD S gh sto w v d) (x : Operand) : RepD S gh sto w (a.eval x) (opd env x) := by
  cases x with
  | tmp t =>
    simp only [Act.eval, opd]
    rw [Array.getD_eq_getD_getElem?, ← Array.getElem?_toList]
    cases h1 : a.tmps.toList[t]? with
    | none =>
      have h2 : env[t]? = none := by rw [List.getElem?_eq_none_iff] at h1 ⊢; omega
      rw [h2]; exact rfl
    | some v =>
      have hlt := (List.getElem?_eq_some_iff.1 h1).1
      have h2 : env[t]? = some (env[t]'(by omega)) := List.getElem?_eq_getElem (by omega)
      rw [h2]
      exact he t v _ h1 h2
  | const v => exact ofVal_rep v
  | global g =>
    simp only [opd]
    split
    · rename_i cs hg
      obtain ⟨us, h1, h2⟩ := hgl g cs (globAt_mem hg)
      exact ⟨g, 0, us, rfl, fun j hj => by rw [Nat.zero_add]; exact h1 j hj, h2⟩
    · exact True.intro
  | func f => exact ⟨[], rfl, rfl, fun j id h => by simp at h⟩
theorem cell_heap {g : Nat} {cur : Array Value} {ty : TypeId} {fr : Nat × Nat} (h : w.heap[g]? = some (.cells cur ty fr)) (o : Nat) : w.cell? ⟨g, o, none⟩ = cur.toList[o]? := by
  simp [World.cell?, h]
theorem viewC_rep (hs : SR S gh w sto) {v : Value} {d : D} {x : V} (h : RepC S gh sto w v d) (hv : viewC sto d = some x) : RepV S w v x := by
  cases d with
  | v y => simp only [viewC, Option.some.injEq] at hv; subst hv; exact h
  | nilS =>
    simp only [viewC, Option.some.injEq] at hv
    subst hv
    have h' : v = .slice none 0 0 := h
    subst h'
    exact .sl0 none 0 0 (Nat.le_refl _) (Nat.zero_le _) fun _ => rfl
  | arr id n =>
    simp only [viewC] at hv
    split at hv
    · rename_i es m cs he
      split at hv
      · rename_i hm
        subst hm
        simp only [Option.some.injEq] at hv
        subst hv
        obtain ⟨_, _, h3⟩ := h
        have hg := (h3 es false m cs he).2 rfl
        obtain ⟨gv, hg', hE⟩ := hs.ent id _ he
        rw [hg] at hg'
        cases hg'
        cases es with
        | none =>
          obtain ⟨rfl, rfl, rfl⟩ := hE
          exact .sl0 none 0 0 (Nat.le_refl _) (Nat.zero_le _) fun _ => rfl
        | some es =>
          obtain ⟨e, s⟩ := es
          obtain ⟨g, cap, cur, rfl, hh, h1, h2, h4, h5, h6, h7⟩ := hE
          simp only [Bool.false_eq_true, if_false] at h7
          have hlen : cs.length ≤ cur.toList.length := by
            have h8 : m * s ≤ cap * s := Nat.mul_le_mul_right _ h1
            have h9 : cur.toList.length = cur.size := Array.length_toList
            omega
          refine .sl g 0 m cap (fun j => (cur.toList[j]?).getD undef) cs h1 h2 (fun j hj => ?_) (fun j c hc => ?_)
          · have hu : cur.toList[j]? = some (cur.toList[j]'(by omega)) := List.getElem?_eq_getElem (by omega)
            have hc : cs[j]? = some cs[j] := List.getElem?_eq_getElem hj
            refine ⟨(h7 (0 + j)).2 (by omega), ?_, ?_⟩
            · rw [hu]; exact (h6 j _ _ hu hc).1
            · rw [Nat.zero_add, cell_heap hh, hu]; rfl
          · have hj := (List.getElem?_eq_some_iff.1 hc).1
            have hu : cur.toList[j]? = some (cur.toList[j]'(by omega)) := List.getElem?_eq_getElem (by omega)
            simp only [hu, Option.getD_some]
            exact (h6 j _ _ hu hc).2
      · cases hv
    · cases hv
  | clo f caps =>
    simp only [viewC] at hv
    split at hv
    · simp only [Option.some.injEq] at hv
      subst hv
      obtain ⟨vs, rfl, h1, _⟩ := h
      have : vs = [] := List.length_eq_zero_iff.1 h1
      subst this
      exact RepV.fn f
    · cases hv
  | _ => simp only [viewC] at hv; cases hv
theorem viewL_rep (hs : SR S gh w sto) : ∀ (us : List Value) (ds : List D) (xs : List V), us.length = ds.length → (∀ (j : Nat) (u : Value) (d : D), us[j]? = some u → ds[j]? = some d → RepC S gh sto w u d) → viewL sto ds = some xs → us.length = xs.length ∧ ∀ (j : Nat) (u : Value) (x : V), us[j]? = some u → xs[j]? = some x → RepV S w u x
  | [], [], xs, _, _, h => by simp only [viewL, Option.some.injEq] at h; subst h; exact ⟨rfl, fun j u x hu => by simp at hu⟩
  | [], _ :: _, _, h, _, _ => by simp at h
  | _ :: _, [], _, h, _, _ => by simp at h
  | u :: us, d :: ds, xs, hl, hr, h => by
    simp only [viewL] at h
    split at h
    · rename_i x xs' h1 h2
      simp only [Option.some.injEq] at h
      subst h
      obtain ⟨l1, l2⟩ := viewL_rep hs us ds xs' (by simpa using hl) (fun j u d hu hd => hr (j + 1) u d (by simpa using hu) (by simpa using hd)) h2
      refine ⟨by simp [l1], fun j u' x' hu hx => ?_⟩
      cases j with
      | zero =>
        simp only [List.getElem?_cons_zero, Option.some.injEq] at hu hx
        subst hu; subst hx
        exact viewC_rep hs (hr 0 u d rfl rfl) h1
      | succ j => exact l2 j u' x' (by simpa using hu) (by simpa using hx)
    · cases h
theorem view_rep (hs : SR S gh w sto) {v : Value} {d : D} {x : V} (h : RepD S gh sto w v d) (hv : view sto d = some x) : RepV S w v x := by
  cases d with
  | agg ds =>
    obtain ⟨us, rfl, h1, h2⟩ := h
    simp only [view] at hv
    cases hl : viewL sto ds with
    | none => rw [hl] at hv; cases hv
    | some xs =>
      rw [hl] at hv
      simp only [Option.map_some, Option.some.injEq] at hv
      subst hv
      obtain ⟨l1, l2⟩ := viewL_rep hs us ds xs h1 (fun j u d hu hd => (h2 j u d hu hd).2) hl
      refine .agg us xs l1 (fun u hu => ?_) l2
      obtain ⟨j, hj⟩ := List.mem_iff_getElem?.1 hu
      have hlt := (List.getElem?_eq_some_iff.1 hj).1
      exact (h2 j u _ hj (List.getElem?_eq_getElem (by omega))).1
  | _ => simp only [view] at hv; simp only [RepD] at h; exact viewC_rep hs h hv
/-- What an entry's cells are. -/
theorem arr_win (hs : SR S gh w sto) {id n o : Nat} {v : Value} {es : Option (TypeId × Nat)} {wr : Bool} {cs : List V} (h : RepC S gh sto w v (.aptr id n o)) (he : sto[id]? = some (.arr es wr n cs)) : ∃ (g : Nat) (us : List Value), v = .pointer (some ⟨g, 0 + o, none⟩) ∧ (∀ (j : Nat) (u : Value), us[j]? = some u → w.cell? ⟨g, 0 + j, none⟩ = some u) ∧ cs.length ≤ us.length ∧ ∀ (j : Nat) (u : Value) (c : V), us[j]? = some u → cs[j]? = some c → u.oneCell' = true ∧ RepV S w u c := by
  obtain ⟨_, _, h3⟩ := h
  obtain ⟨g, hg, rfl⟩ := (h3 es wr n cs he).2 rfl
  obtain ⟨gv, hgv, hE⟩ := hs.ent id _ he
  unfold blkAt at hg
  rw [hgv] at hg
  cases es with
  | none => obtain ⟨rfl, _, _⟩ := hE; simp [blk] at hg
  | some es =>
    obtain ⟨e, s⟩ := es
    obtain ⟨g', cap, cur, rfl, hh, h1, h2, h4, h5, h6, h7⟩ := hE
    simp only [Option.bind_some, blk, Option.some.injEq] at hg
    subst hg
    refine ⟨g', cur.toList, by rw [Nat.zero_add], fun j u hu => ?_, ?_, h6⟩
    · rw [Nat.zero_add, cell_heap hh]; exact hu
    · have h8 : n * s ≤ cap * s := Nat.mul_le_mul_right _ h1
      have h9 : cur.toList.length = cur.size := Array.length_toList
      omega
include hT
theorem tab_info {t : TypeId} {i : TyI} (h : T t = some i) : ∃ x, P.info? t = some x ∧ x.zero = some i.zero ∧ x.size = i.size ∧ x.bytes = i.bytes := by
  obtain ⟨h1, _⟩ := hT t i h
  cases hx : P.info? t with
  | none => rw [hx] at h1; cases h1
  | some x => rw [hx] at h1; simp only [Option.map_some, Option.some.injEq, Prod.mk.injEq] at h1; exact ⟨x, rfl, h1.1, h1.2.1, h1.2.2⟩
theorem tab_kind {t : TypeId} {i : TyI} (h : T t = some i) : ∃ d, P.underlying t = some d ∧ kindOf d = i.kind := by
  obtain ⟨_, h1, _⟩ := hT t i h
  cases hx : P.underlying t with
  | none => rw [hx] at h1; cases h1
  | some x => rw [hx] at h1; simp only [Option.map_some, Option.some.injEq] at h1; exact ⟨x, rfl, h1⟩
theorem run_size {t : TypeId} {i : TyI} (h : T t = some i) : (sizeOf t).run P w = .ok i.size w := by
  obtain ⟨x, h1, _, h2, _⟩ := tab_info hT h
  simp [sizeOf, typeInfo, h1, h2]
theorem run_bytes {t : TypeId} {i : TyI} (h : T t = some i) : ∃ x, (typeInfo t).run P w = .ok x w ∧ x.bytes = i.bytes ∧ x.size = i.size ∧ x.zero = some i.zero := by
  obtain ⟨x, h1, h3, h2, h4⟩ := tab_info hT h
  exact ⟨x, by simp [typeInfo, h1], h4, h2, h3⟩
theorem run_zero {t : TypeId} {i : TyI} (h : T t = some i) : (zeroValue t).run P w = .ok i.zero w := by
  obtain ⟨x, h1, h2, _⟩ := tab_info hT h
  simp [zeroValue, typeInfo, h1, h2]
theorem run_agg {t : TypeId} {i : TyI} (h : T t = some i) : (isAgg t).run P w = .ok i.kind.agg w := by
  obtain ⟨d, h1, h2⟩ := tab_kind hT h
  rw [← h2]
  simp only [isAgg, Sem.run_bind, run_underlying h1, Result.andThen_ok]
  cases d <;> rfl
theorem kd_slice {t e : TypeId} (h : kd T t = some (.slice e)) : P.underlying t = some (.slice e) := by
  unfold kd at h
  split at h
  · rename_i i hi
    simp only [Option.some.injEq] at h
    obtain ⟨d, h1, h2⟩ := tab_kind hT hi
    rw [h] at h2
    cases d <;> simp only [kindOf] at h2 <;> first | cases h2 | skip
    exact h1
  · cases h
theorem kd_array {t e : TypeId} {n : Nat} (h : kd T t = some (.array n e)) : P.underlying t = some (.array n e) := by
  unfold kd at h
  split at h
  · rename_i i hi
    simp only [Option.some.injEq] at h
    obtain ⟨d, h1, h2⟩ := tab_kind hT hi
    rw [h] at h2
    cases d <;> simp only [kindOf] at h2 <;> first | cases h2 | skip
    exact h1
  · cases h
theorem kd_map {t k e : TypeId} (h : kd T t = some (.map k e)) : P.underlying t = some (.map k e) := by
  unfold kd at h
  split at h
  · rename_i i hi
    simp only [Option.some.injEq] at h
    obtain ⟨d, h1, h2⟩ := tab_kind hT hi
    rw [h] at h2
    cases d <;> simp only [kindOf] at h2 <;> first | cases h2 | skip
    exact h1
  · cases h
theorem kd_int {t : TypeId} {k : IntKind} (h : kd T t = some (.int k)) : P.underlying t = some (.int k) := by
  unfold kd at h
  split at h
  · rename_i i hi
    simp only [Option.some.injEq] at h
    obtain ⟨d, h1, h2⟩ := tab_kind hT hi
    rw [h] at h2
    cases d <;> simp only [kindOf] at h2 <;> first | cases h2 | skip
    exact h1
  · cases h
theorem kd_str {t : TypeId} (h : kd T t = some .str) : P.underlying t = some .string := by
  unfold kd at h
  split at h
  · rename_i i hi
    simp only [Option.some.injEq] at h
    obtain ⟨d, h1, h2⟩ := tab_kind hT hi
    rw [h] at h2
    cases d <;> simp only [kindOf] at h2 <;> first | cases h2 | skip
    exact h1
  · cases h
theorem kd_bool {t : TypeId} (h : kd T t = some .bool) : P.underlying t = some .bool := by
  unfold kd at h
  split at h
  · rename_i i hi
    simp only [Option.some.injEq] at h
    obtain ⟨d, h1, h2⟩ := tab_kind hT hi
    rw [h] at h2
    cases d <;> simp only [kindOf] at h2 <;> first | cases h2 | skip
    exact h1
  · cases h
theorem kd_struct {t : TypeId} {fs : List (Nat × TypeId)} (h : kd T t = some (.struct fs)) : ∃ l : Array Field, P.underlying t = some (.struct l) ∧ ∀ (f off : Nat) (ft : TypeId), fs[f]? = some (off, ft) → ∃ fl : Field, l[f]? = some fl ∧ fl.offset = off ∧ fl.type = ft := by
  unfold kd at h
  split at h
  · rename_i i hi
    simp only [Option.some.injEq] at h
    obtain ⟨d, h1, h2⟩ := tab_kind hT hi
    rw [h] at h2
    cases d <;> simp only [kindOf] at h2 <;> first | cases h2 | skip
    rename_i l
    refine ⟨l, h1, fun f off ft hf => ?_⟩
    rw [List.getElem?_map] at hf
    cases hx : l.toList[f]? with
    | none => rw [hx] at hf; cases hf
    | some fl =>
      rw [hx] at hf
      simp only [Option.map_some, Option.some.injEq, Prod.mk.injEq] at hf
      exact ⟨fl, by rw [← Array.getElem?_toList]; exact hx, hf.1, hf.2⟩
  · cases h
/-- Loads out of a window of cells. -/
theorem run_loadWin {t : TypeId} {i : TyI} (hi : T t = some i) {b off : Nat} {us : List Value} (hw : ∀ (j : Nat) (u : Value), us[j]? = some u → w.cell? ⟨b, off + j, none⟩ = some u) (o : Nat) :
    (i.kind.agg = true → o + i.size ≤ us.length → (loadVar t ⟨b, off + o, none⟩).run P w = .ok (.agg ((us.drop o).take i.size).toArray) w) ∧
    (i.kind.agg = false → ∀ u, us[o]? = some u → (loadVar t ⟨b, off + o, none⟩).run P w = .ok u w) := by
  constructor
  · intro ha hl
    have hll : ((us.drop o).take i.size).length = i.size := by simp; omega
    have hc : ∀ j v, ((us.drop o).take i.size)[j]? = some v → w.cell? ((⟨b, off + o, none⟩ : Addr).add j) = some v := by
      intro j v hv
      have hj := (List.getElem?_eq_some_iff.1 hv).1
      rw [List.getElem?_take_of_lt (by omega), List.getElem?_drop] at hv
      rw [Addr.add_lit]
      have := hw (o + j) v hv
      rwa [← Nat.add_assoc] at this
    have := run_loadCells_list (P := P) (w := w) ⟨b, off + o, none⟩ ((us.drop o).take i.size) hc
    rw [hll] at this
    simp only [loadVar, Sem.run_bind, run_agg hT hi, Result.andThen_ok, ha, if_true, run_size hT hi, this, Sem.run_pure]
  · intro ha u hu
    simp only [loadVar, Sem.run_bind, run_agg hT hi, Result.andThen_ok, ha, Bool.false_eq_true, if_false]
    rw [run_load, hw o u hu]
theorem pickV_sound {t : TypeId} {i : TyI} (hi : T t = some i) {b off : Nat} {us : List Value} {cs : List V} (hw : ∀ (j : Nat) (u : Value), us[j]? = some u → w.cell? ⟨b, off + j, none⟩ = some u) (hl : cs.length ≤ us.length)
    (hr : ∀ (j : Nat) (u : Value) (c : V), us[j]? = some u → cs[j]? = some c → u.oneCell' = true ∧ RepV S w u c) {o : Nat} {x : V} (h : pickV i cs o = some x) : ∃ v, (loadVar t ⟨b, off + o, none⟩).run P w = .ok v w ∧ RepV S w v x := by
  obtain ⟨h1, h2⟩ := run_loadWin hT hi hw o
  unfold pickV at h
  split at h
  · rename_i ha
    split at h
    · rename_i hle
      simp only [Option.some.injEq] at h
      subst h
      refine ⟨_, h1 ha (by omega), .agg _ _ (by simp; omega) (fun u hu => ?_) (fun j u c hu hc => ?_)⟩
      · obtain ⟨j, hj⟩ := List.mem_iff_getElem?.1 hu
        have hjl := (List.getElem?_eq_some_iff.1 hj).1
        simp only [List.length_take, List.length_drop] at hjl
        rw [List.getElem?_take_of_lt (by omega), List.getElem?_drop] at hj
        exact (hr (o + j) u _ hj (List.getElem?_eq_getElem (by omega))).1
      · have hjl := (List.getElem?_eq_some_iff.1 hu).1
        simp only [List.length_take, List.length_drop] at hjl
        rw [List.getElem?_take_of_lt (by omega), List.getElem?_drop] at hu hc
        exact (hr (o + j) u c hu hc).2
    · cases h
  · rename_i ha
    have hlt := (List.getElem?_eq_some_iff.1 h).1
    have hu : us[o]? = some (us[o]'(by omega)) := List.getElem?_eq_getElem (by omega)
    exact ⟨_, h2 (by simpa using ha) _ hu, (hr o _ _ hu h).2⟩
theorem pick_sound {t : TypeId} {i : TyI} (hi : T t = some i) {b off : Nat} {us : List Value} {ds : List D} (hw : ∀ (j : Nat) (u : Value), us[j]? = some u → w.cell? ⟨b, off + j, none⟩ = some u) (hl : ds.length ≤ us.length)
    (hr : ∀ (j : Nat) (u : Value) (c : D), us[j]? = some u → ds[j]? = some c → u.oneCell' = true ∧ RepC S gh sto w u c) {o : Nat} {x : D} (h : pick i ds o = some x) : ∃ v, (loadVar t ⟨b, off + o, none⟩).run P w = .ok v w ∧ RepD S gh sto w v x := by
  obtain ⟨h1, h2⟩ := run_loadWin hT hi hw o
  unfold pick at h
  split at h
  · rename_i ha
    split at h
    · rename_i hle
      simp only [Option.some.injEq] at h
      subst h
      refine ⟨_, h1 ha (by omega), _, rfl, by simp; omega, fun j u c hu hc => ?_⟩
      have hjl := (List.getElem?_eq_some_iff.1 hu).1
      simp only [List.length_take, List.length_drop] at hjl
      rw [List.getElem?_take_of_lt (by omega), List.getElem?_drop] at hu hc
      exact hr (o + j) u c hu hc
    · cases h
  · rename_i ha
    have hlt := (List.getElem?_eq_some_iff.1 h).1
    have hu : us[o]? = some (us[o]'(by omega)) := List.getElem?_eq_getElem (by omega)
    exact ⟨_, h2 (by simpa using ha) _ hu, (hr o _ _ hu h).2.toD⟩
theorem evLoad_sound (hs : SR S gh w sto) {t : TypeId} {p d : D} {v : Value} (h : RepC S gh sto w v p) (he : evLoad T sto t p = some d) : ∃ u, (Instr.loadAt t v).run P w = .ok u w ∧ RepD S gh sto w u d := by
  unfold evLoad at he
  split at he
  · cases he
  · rename_i i hi
    split at he
    · rename_i id off
      split at he
      · rename_i ds hds
        obtain ⟨_, g, hg, rfl⟩ := h
        obtain ⟨gv, hgv, hE⟩ := hs.ent id _ hds
        rw [hg] at hgv
        cases hgv
        obtain ⟨g', cur, ty, hx, hh, hl, _, hr⟩ := hE
        cases hx
        obtain ⟨u, h1, h2⟩ := pick_sound hT hi (b := g) (off := 0) (us := cur.toList) (fun j u hu => by rw [Nat.zero_add, cell_heap hh]; exact hu) (by omega) hr he
        rw [Nat.zero_add] at h1
        exact ⟨u, by simp only [Instr.loadAt, Sem.run_bind, Instr.sureAddr, Sem.run_pure, Result.andThen_ok, h1], h2⟩
      · cases he
    · rename_i id n o
      split at he
      · rename_i es wr m cs hcs
        split at he
        · rename_i hm
          subst hm
          obtain ⟨g, us, rfl, hw, hl, hr⟩ := arr_win hs h hcs
          cases hp : pickV i cs o with
          | none => rw [hp] at he; cases he
          | some x =>
            rw [hp] at he
            simp only [Option.map_some, Option.some.injEq] at he
            subst he
            obtain ⟨u, h1, h2⟩ := pickV_sound hT hi hw hl hr hp
            exact ⟨u, by simp only [Instr.loadAt, Sem.run_bind, Instr.sureAddr, Sem.run_pure, Result.andThen_ok, h1], h2⟩
        · cases he
      · cases he
    · rename_i cs o
      obtain ⟨b, off, us, rfl, hw, hr⟩ := h
      cases hp : pickV i cs o with
      | none => rw [hp] at he; cases he
      | some x =>
        rw [hp] at he
        simp only [Option.map_some, Option.some.injEq] at he
        subst he
        have hmap : ∀ (j : Nat) (u : Value), ((List.range cs.length).map us)[j]? = some u → j < cs.length ∧ us j = u := by
          intro j u hu
          have hj : j < cs.length := by simpa using (List.getElem?_eq_some_iff.1 hu).1
          rw [List.getElem?_map, List.getElem?_range hj] at hu
          simpa [hj] using hu
        obtain ⟨u, h1, h2⟩ := pickV_sound hT hi (b := b) (off := off) (us := (List.range cs.length).map us) (fun j u hu => by
          obtain ⟨hj, rfl⟩ := hmap j u hu
          exact (hw j hj).2.2) (by simp) (fun j u c hu hc => by
          obtain ⟨hj, rfl⟩ := hmap j u hu
          exact ⟨(hw j hj).2.1, hr j c hc⟩) hp
        exact ⟨u, by simp only [Instr.loadAt, Sem.run_bind, Instr.sureAddr, Sem.run_pure, Result.andThen_ok, h1], h2⟩
    · cases he
end
end Go.Proofs.YtomameefmobnlaaDoor
namespace Go.Proofs.YtomameefmobnlaaDoor
open Go Go.RowKit

/-- Element by element. -/
def Pw {α β : Type} (R : α → β → Prop) (us : List α) (ds : List β) : Prop := us.length = ds.length ∧ ∀ (j : Nat) (u : α) (d : β), us[j]? = some u → ds[j]? = some d → R u d
section
variable {α β : Type} {R : α → β → Prop}
theorem Pw.nil : Pw R [] [] := ⟨rfl, fun j u d h => by simp at h⟩
theorem Pw.cons {u : α} {d : β} {us : List α} {ds : List β} (h : R u d) (k : Pw R us ds) : Pw R (u :: us) (d :: ds) := by
  refine ⟨by simp [k.1], fun j u' d' hu hd => ?_⟩
  cases j with
  | zero => simp only [List.getElem?_cons_zero, Option.some.injEq] at hu hd; subst hu; subst hd; exact h
  | succ j => exact k.2 j u' d' (by simpa using hu) (by simpa using hd)
theorem Pw.append {us vs : List α} {ds es : List β} (h : Pw R us ds) (k : Pw R vs es) : Pw R (us ++ vs) (ds ++ es) := by
  refine ⟨by simp [h.1, k.1], fun j u d hu hd => ?_⟩
  by_cases hj : j < us.length
  · rw [List.getElem?_append_left hj] at hu
    rw [List.getElem?_append_left (by rw [← h.1]; exact hj)] at hd
    exact h.2 j u d hu hd
  · rw [List.getElem?_append_right (by omega)] at hu
    rw [List.getElem?_append_right (by rw [← h.1]; omega), ← h.1] at hd
    exact k.2 _ u d hu hd
theorem Pw.take {us : List α} {ds : List β} (h : Pw R us ds) (n : Nat) : Pw R (us.take n) (ds.take n) := by
  refine ⟨by simp [h.1], fun j u d hu hd => ?_⟩
  have hj : j < n := by have := (List.getElem?_eq_some_iff.1 hu).1; simp at this; omega
  rw [List.getElem?_take_of_lt hj] at hu hd
  exact h.2 j u d hu hd
theorem Pw.drop {us : List α} {ds : List β} (h : Pw R us ds) (n : Nat) : Pw R (us.drop n) (ds.drop n) := by
  refine ⟨by simp [h.1], fun j u d hu hd => ?_⟩
  rw [List.getElem?_drop] at hu hd
  exact h.2 _ u d hu hd
theorem Pw.imp {R' : α → β → Prop} {us : List α} {ds : List β} (h : Pw R us ds) (hi : ∀ u d, R u d → R' u d) : Pw R' us ds := ⟨h.1, fun j u d hu hd => hi u d (h.2 j u d hu hd)⟩
end
section
variable {P : Program} {T : Tab} {S : Stay} {gh : List Value} {sto : Sto} {w : World}
theorem RepV.one {v : Value} {x : V} (h : RepV S w v x) (hx : (match x with | .agg _ => false | .tup _ => false | _ => true) = true) : v.oneCell' = true := by
  cases h <;> first | rfl | cases hx
theorem RepD.cells {v : Value} {d : D} {ds : List D} (h : RepD S gh sto w v d) (hd : d.cells = some ds) : Pw (fun u d => u.oneCell' = true ∧ RepC S gh sto w u d) v.cells.toList ds := by
  have single : RepC S gh sto w v d → v.oneCell' = true → Pw (fun u d => u.oneCell' = true ∧ RepC S gh sto w u d) v.cells.toList [d] := by
    intro h1 h2
    have : v.cells = #[v] := by cases v <;> first | rfl | cases h2
    rw [this]
    exact Pw.cons ⟨h2, h1⟩ Pw.nil
  cases d with
  | agg ds' =>
    simp only [D.cells, Option.some.injEq] at hd
    subst hd
    obtain ⟨us, rfl, h1, h2⟩ := h
    exact ⟨h1, h2⟩
  | v x =>
    cases x with
    | agg cs =>
      simp only [D.cells, Option.some.injEq] at hd
      subst hd
      have h' : RepV S w v (.agg cs) := h
      cases h' with
      | agg us cs h1 h2 h3 =>
        refine ⟨by simp [Value.cells, h1], fun j u d hu hd => ?_⟩
        have hu' : us[j]? = some u := by simpa [Value.cells] using hu
        rw [List.getElem?_map] at hd
        cases hc : cs[j]? with
        | none => rw [hc] at hd; cases hd
        | some c =>
          rw [hc] at hd
          simp only [Option.map_some, Option.some.injEq] at hd
          subst hd
          exact ⟨h2 u (List.mem_of_getElem? hu'), h3 j u c hu' hc⟩
    | tup cs => simp only [D.cells] at hd; cases hd
    | _ => simp only [D.cells, Option.some.injEq] at hd; subst hd; exact single h (RepV.one h rfl)
  | undef => simp only [D.cells] at hd; cases hd
  | dead => simp only [D.cells] at hd; cases hd
  | nilS => simp only [D.cells, Option.some.injEq] at hd; subst hd; exact single h (by have h' : v = .slice none 0 0 := h; subst h'; rfl)
  | arr id n => simp only [D.cells, Option.some.injEq] at hd; subst hd; exact single h (by obtain ⟨_, ⟨a, c, rfl⟩, _⟩ := h; rfl)
  | aptr id n o => simp only [D.cells, Option.some.injEq] at hd; subst hd; exact single h (by obtain ⟨_, ⟨a, rfl⟩, _⟩ := h; rfl)
  | ptr id o => simp only [D.cells, Option.some.injEq] at hd; subst hd; exact single h (by obtain ⟨_, g, _, rfl⟩ := h; rfl)
  | vp cs o => simp only [D.cells, Option.some.injEq] at hd; subst hd; exact single h (by obtain ⟨b, off, us, rfl, _⟩ := h; rfl)
  | nilp => simp only [D.cells, Option.some.injEq] at hd; subst hd; exact single h (by have h' : v = .pointer none := h; subst h'; rfl)
  | clo f caps => simp only [D.cells, Option.some.injEq] at hd; subst hd; exact single h (by obtain ⟨vs, rfl, _⟩ := h; rfl)
  | nilf => simp only [D.cells, Option.some.injEq] at hd; subst hd; exact single h (by have h' : v = .nilFunc := h; subst h'; rfl)
  | win id n o m => simp only [D.cells, Option.some.injEq] at hd; subst hd; exact single h (by obtain ⟨_, ⟨a, c, rfl⟩, _⟩ := h; rfl)
  | map id => simp only [D.cells, Option.some.injEq] at hd; subst hd; exact single h (by obtain ⟨_, g, _, rfl⟩ := h; rfl)
  | nilM => simp only [D.cells, Option.some.injEq] at hd; subst hd; exact single h (by have h' : v = .map none := h; subst h'; rfl)
theorem fold_set (off : Nat) : ∀ (vs : List Value) (k : Nat) (arr : Array Value), off + k + vs.length ≤ arr.size → ((vs.zipIdx k).foldl (fun cs (c, j) => cs.setIfInBounds (off + j) c) arr).toList = arr.toList.take (off + k) ++ vs ++ arr.toList.drop (off + k + vs.length)
  | [], k, arr, _ => by simp
  | v :: vs, k, arr, h => by
    simp only [List.length_cons] at h
    rw [List.zipIdx_cons, List.foldl_cons, fold_set off vs (k + 1) _ (by simp; omega)]
    have hk : off + k < arr.toList.length := by rw [Array.length_toList]; omega
    simp only [Array.toList_setIfInBounds]
    rw [show off + (k + 1) = (off + k) + 1 from by omega, List.take_succ_eq_append_getElem (by simpa using hk), List.getElem_set_self, List.take_set_of_le (by omega), List.drop_set_of_lt (by omega)]
    simp only [List.append_assoc, List.cons_append, List.nil_append, List.length_cons]
    rw [show off + k + 1 + vs.length = off + k + (vs.length + 1) from by omega]
theorem fill_sound (place : Nat → Option (Nat × Nat)) : ∀ (parts : List (Nat × D)) (vparts : List (Nat × Value)) (cs : List D) (arr : Array Value) (out : List D), Pw (fun (u : Nat × Value) (d : Nat × D) => u.1 = d.1 ∧ RepD S gh sto w u.2 d.2) vparts parts → Pw (fun u d => u.oneCell' = true ∧ RepC S gh sto w u d) arr.toList cs → fillD place cs parts = some out → ∃ arr', Instr.fill place arr vparts = some arr' ∧ Pw (fun u d => u.oneCell' = true ∧ RepC S gh sto w u d) arr'.toList out
  | [], [], cs, arr, out, _, h, hf => by simp only [fillD, Option.some.injEq] at hf; subst hf; exact ⟨arr, rfl, h⟩
  | [], _ :: _, _, _, _, h, _, _ => by have := h.1; simp at this
  | _ :: _, [], _, _, _, h, _, _ => by have := h.1; simp at this
  | (i, d) :: parts, (i', v) :: vparts, cs, arr, out, hp, h, hf => by
    obtain ⟨hi, hv⟩ := hp.2 0 _ _ rfl rfl
    simp only at hi hv
    subst hi
    have hp' : Pw (fun (u : Nat × Value) (d : Nat × D) => u.1 = d.1 ∧ RepD S gh sto w u.2 d.2) vparts parts := by
      have := hp.drop 1; simpa using this
    simp only [fillD] at hf
    split at hf
    · rename_i off size ds h1 h2
      split at hf
      · rename_i hc
        have hcl := RepD.cells hv h2
        have hsz : v.cells.size = size := by rw [← Array.length_toList, hcl.1]; exact hc.1
        have harr : arr.size = cs.length := by rw [← Array.length_toList]; exact h.1
        have hfold := fold_set off v.cells.toList 0 arr (by simp; omega)
        have key : (v.cells.zipIdx.foldl (fun cs (c, j) => cs.setIfInBounds (off + j) c) arr).toList = arr.toList.take off ++ v.cells.toList ++ arr.toList.drop (off + size) := by
          rw [← Array.foldl_toList, Array.toList_zipIdx, hfold]
          simp [hsz]
        obtain ⟨arr', e1, e2⟩ := fill_sound place parts vparts _ (v.cells.zipIdx.foldl (fun cs (c, j) => cs.setIfInBounds (off + j) c) arr) out hp' (by rw [key]; exact ((h.take off).append hcl).append (h.drop (off + size))) hf
        refine ⟨arr', ?_, e2⟩
        simp only [Instr.fill, h1]
        rw [if_neg (by simp; omega)]
        exact e1
      · cases hf
    · cases hf
end
end Go.Proofs.YtomameefmobnlaaDoor
namespace Go.Proofs.YtomameefmobnlaaDoor
open Go Go.RowKit

section
variable {P : Program} {T : Tab} {S : Stay} {gh : List Value} {sto : Sto} {w : World}
theorem addr_add (b o n : Nat) : (⟨b, o, none⟩ : Addr).add n = ⟨b, o + n, none⟩ := Addr.add_lit b o n
theorem ptr_move {id n o k : Nat} {v : Value} (h : RepC S gh sto w v (.aptr id n o)) : ∃ a, v = .pointer (some a) ∧ RepC S gh sto w (.pointer (some (a.add k))) (.aptr id n (o + k)) := by
  obtain ⟨h1, ⟨a, rfl⟩, h2⟩ := h
  refine ⟨a, rfl, h1, ⟨_, rfl⟩, fun es wr m cs hs => ?_⟩
  obtain ⟨h3, h4⟩ := h2 es wr m cs hs
  refine ⟨h3, fun e => ?_⟩
  obtain ⟨g, hg, hv⟩ := h4 e
  simp only [Value.pointer.injEq, Option.some.injEq] at hv
  subst hv
  exact ⟨g, hg, by rw [addr_add]⟩
theorem vp_move {cs : List V} {o k : Nat} {v : Value} (h : RepC S gh sto w v (.vp cs o)) : ∃ a, v = .pointer (some a) ∧ RepC S gh sto w (.pointer (some (a.add k))) (.vp cs (o + k)) := by
  obtain ⟨b, off, us, rfl, h1, h2⟩ := h
  exact ⟨_, rfl, b, off, us, by rw [addr_add, Nat.add_assoc], h1, h2⟩
theorem box_move {id o k : Nat} {v : Value} (h : RepC S gh sto w v (.ptr id o)) : ∃ a, v = .pointer (some a) ∧ RepC S gh sto w (.pointer (some (a.add k))) (.ptr id (o + k)) := by
  obtain ⟨h1, g, h2, rfl⟩ := h
  exact ⟨_, rfl, h1, g, h2, by rw [addr_add]⟩
theorem RepV.parts {v : Value} {cs : List V} (h : RepV S w v (.agg cs)) : ∃ us : List Value, v = .agg us.toArray ∧ Pw (fun u d => u.oneCell' = true ∧ RepV S w u d) us cs := by
  cases h with
  | agg us cs h1 h2 h3 => exact ⟨us, rfl, h1, fun j u c hu hc => ⟨h2 u (List.mem_of_getElem? hu), h3 j u c hu hc⟩⟩
theorem RepV.int_inv {v : Value} {k : IntKind} {n : Int} (h : RepV S w v (.int k n)) : v = .int k n := by cases h; rfl
theorem RepV.bool_inv {v : Value} {b : Bool} (h : RepV S w v (.bool b)) : v = .bool b := by cases h; rfl
theorem RepV.str_inv {v : Value} {s : ByteArray} (h : RepV S w v (.str s)) : v = .string s := by cases h; rfl
/-- A slice that reads as plain data: where its cells lie. -/
theorem RepV.sl_inv {v : Value} {n : Nat} {cs : List V} (h : RepV S w v (.sl n cs)) : ∃ a cap, v = .slice a n cap ∧ n ≤ cap ∧ cap ≤ maxLen ∧ (a = none → cap = 0) ∧ (cs ≠ [] → ∃ (b off : Nat) (us : Nat → Value), a = some ⟨b, off, none⟩ ∧ (∀ j, j < cs.length → S b (off + j) ∧ (us j).oneCell' = true ∧ w.cell? ⟨b, off + j, none⟩ = some (us j)) ∧ ∀ (j : Nat) (c : V), cs[j]? = some c → RepV S w (us j) c) := by
  cases h with
  | sl0 a n cap h hc h0 => exact ⟨a, cap, rfl, h, hc, h0, fun h => absurd rfl h⟩
  | sl b off n cap us cs h hc hu hr => exact ⟨_, cap, rfl, h, hc, (fun h => by cases h), fun _ => ⟨b, off, us, rfl, hu, hr⟩⟩
variable (hT : T.OK P)
include hT
theorem evFieldAddr_sound {t : TypeId} {f : Nat} {p d : D} {v : Value} (h : RepC S gh sto w v p) (he : evFieldAddr T t f p = some d) : ∃ u, (Instr.fieldAt t v f).run P w = .ok u w ∧ RepC S gh sto w u d := by
  unfold evFieldAddr at he
  split at he
  · rename_i fs hk
    split at he
    · rename_i off ft hf
      split at he
      · rename_i i hi
        split at he
        · cases he
        · rename_i hz
          obtain ⟨l, hu, hl⟩ := kd_struct hT hk
          obtain ⟨fl, h1, h2, h3⟩ := hl f off ft hf
          have run : ∀ a, v = .pointer (some a) → (Instr.fieldAt t v f).run P w = .ok (.pointer (some (a.add off))) w := by
            intro a ha
            subst ha
            have hz' : (fieldPlace a fl).run P w = .ok (a.add off) w := by
              simp only [fieldPlace, Sem.run_bind]
              rw [h3, run_size hT hi]
              simp [hz, h2]
            simp only [Instr.fieldAt, Sem.run_bind, run_underlying hu, Result.andThen_ok, h1, Instr.sureAddr, Sem.run_pure, hz']
          split at he
          · simp only [Option.some.injEq] at he
            subst he
            obtain ⟨a, ha, hr⟩ := box_move (k := off) h
            exact ⟨_, run a ha, hr⟩
          · simp only [Option.some.injEq] at he
            subst he
            obtain ⟨a, ha, hr⟩ := ptr_move (k := off) h
            exact ⟨_, run a ha, hr⟩
          · simp only [Option.some.injEq] at he
            subst he
            obtain ⟨a, ha, hr⟩ := vp_move (k := off) h
            exact ⟨_, run a ha, hr⟩
          · cases he
      · cases he
    · cases he
  · cases he
/-- A part of an aggregate. -/
theorem part_sound {t : TypeId} {i : TyI} (hi : T t = some i) {us : List Value} (o : Nat) :
    (i.kind.agg = true → (part t us.toArray o).run P w = .ok (.agg ((us.drop o).take i.size).toArray) w) ∧ (i.kind.agg = false → ∀ u, us[o]? = some u → (part t us.toArray o).run P w = .ok u w) := by
  constructor
  · intro ha
    simp only [part, Sem.run_bind, run_agg hT hi, Result.andThen_ok, ha, if_true, run_size hT hi, Sem.run_pure]
    congr 2
    apply Array.ext'
    simp [List.take_drop]
  · intro ha u hu
    have hu' : us.toArray[o]? = some u := by simpa using hu
    simp only [part, Sem.run_bind, run_agg hT hi, Result.andThen_ok, ha, Bool.false_eq_true, if_false, hu', Sem.run_pure]
theorem partD_sound {t : TypeId} {i : TyI} (hi : T t = some i) {us : List Value} {ds : List D} (hp : Pw (fun u d => u.oneCell' = true ∧ RepC S gh sto w u d) us ds) {o : Nat} {d : D} (h : pick i ds o = some d) : ∃ u, (part t us.toArray o).run P w = .ok u w ∧ RepD S gh sto w u d := by
  obtain ⟨h1, h2⟩ := part_sound (w := w) hT hi (us := us) o
  unfold pick at h
  split at h
  · rename_i ha
    split at h
    · simp only [Option.some.injEq] at h
      subst h
      have := (hp.drop o).take i.size
      exact ⟨_, h1 ha, _, rfl, this.1, this.2⟩
    · cases h
  · rename_i ha
    have hlt := (List.getElem?_eq_some_iff.1 h).1
    have hu : us[o]? = some (us[o]'(by rw [hp.1]; exact hlt)) := List.getElem?_eq_getElem _
    exact ⟨_, h2 (by simpa using ha) _ hu, (hp.2 o _ _ hu h).2.toD⟩
theorem partV_sound {t : TypeId} {i : TyI} (hi : T t = some i) {us : List Value} {cs : List V} (hp : Pw (fun u d => u.oneCell' = true ∧ RepV S w u d) us cs) {o : Nat} {x : V} (h : pickV i cs o = some x) : ∃ u, (part t us.toArray o).run P w = .ok u w ∧ RepV S w u x := by
  obtain ⟨h1, h2⟩ := part_sound (w := w) hT hi (us := us) o
  unfold pickV at h
  split at h
  · rename_i ha
    split at h
    · simp only [Option.some.injEq] at h
      subst h
      have := (hp.drop o).take i.size
      refine ⟨_, h1 ha, .agg _ _ this.1 (fun u hu => ?_) (fun j u c hu hc => (this.2 j u c hu hc).2)⟩
      obtain ⟨j, hj⟩ := List.mem_iff_getElem?.1 hu
      have hlt := (List.getElem?_eq_some_iff.1 hj).1
      exact (this.2 j u _ hj (List.getElem?_eq_getElem (by rw [← this.1]; exact hlt))).1
    · cases h
  · rename_i ha
    have hlt := (List.getElem?_eq_some_iff.1 h).1
    have hu : us[o]? = some (us[o]'(by rw [hp.1]; exact hlt)) := List.getElem?_eq_getElem _
    exact ⟨_, h2 (by simpa using ha) _ hu, (hp.2 o _ _ hu h).2⟩
theorem evField_sound {t : TypeId} {f : Nat} {p d : D} {v : Value} (h : RepD S gh sto w v p) (he : evField T t f p = some d) : ∃ u, (Instr.field t v f).run P w = .ok u w ∧ RepD S gh sto w u d := by
  unfold evField at he
  split at he
  · rename_i fs hk
    split at he
    · rename_i off ft hf
      obtain ⟨l, hu, hl⟩ := kd_struct hT hk
      obtain ⟨fl, h1, h2, h3⟩ := hl f off ft hf
      split at he
      · rename_i i ds hi
        obtain ⟨us, rfl, hp⟩ := h
        obtain ⟨u, e1, e2⟩ := partD_sound hT hi hp he
        exact ⟨u, by simp only [Instr.field, Sem.run_bind, run_underlying hu, Result.andThen_ok, h1, asAgg, Sem.run_pure, h2, h3, e1], e2⟩
      · rename_i i cs hi
        obtain ⟨us, rfl, hp⟩ := RepV.parts h
        cases hq : pickV i cs off with
        | none => rw [hq] at he; cases he
        | some x =>
          rw [hq] at he
          simp only [Option.map_some, Option.some.injEq] at he
          subst he
          obtain ⟨u, e1, e2⟩ := partV_sound hT hi hp hq
          exact ⟨u, by simp only [Instr.field, Sem.run_bind, run_underlying hu, Result.andThen_ok, h1, asAgg, Sem.run_pure, h2, h3, e1], e2⟩
      · cases he
    · cases he
  · cases he
theorem evIndexAddr_sound (hs : SR S gh w sto) {t : TypeId} {p i d : D} {v vi : Value} (h : RepC S gh sto w v p) (hi : RepD S gh sto w vi i) (he : evIndexAddr T sto t p i = some d) : ∃ u, (Instr.indexAt t v vi).run P w = .ok u w ∧ RepC S gh sto w u d := by
  unfold evIndexAddr at he
  split at he
  · rename_i e k n hk
    obtain rfl := RepV.int_inv hi
    have hu := kd_slice hT hk
    split at he
    · cases he
    · rename_i j hj
      split at he
      · rename_i m cs
        split at he
        · rename_i hc
          simp only [Option.some.injEq] at he
          subst he
          obtain ⟨a, cap, rfl, h1, h2, h3, h4⟩ := RepV.sl_inv h
          have hne : cs ≠ [] := by
            intro e0
            have hl := hc.2.2.1
            rw [e0] at hl
            simp only [List.length_nil] at hl
            have : 0 < m * j.size := Nat.mul_pos (by omega) hc.2.2.2
            omega
          obtain ⟨b, off, us, rfl, h5, h6⟩ := h4 hne
          refine ⟨.pointer (some ((⟨b, off, none⟩ : Addr).add (n.toNat * j.size))), ?_, b, off, us, by rw [addr_add], h5, h6⟩
          simp only [Instr.indexAt, asIntOf, Sem.run_bind, Sem.run_pure, run_underlying hu, Result.andThen_ok, hc.1, hc.2.1, and_self, if_true, run_size hT hj]
        · cases he
      · rename_i id m
        split at he
        · rename_i es wr m' cs hes
          split at he
          · rename_i hc
            simp only [Option.some.injEq] at he
            subst he
            obtain ⟨c1, c2, rfl⟩ := hc
            obtain ⟨hid, _, h3⟩ := h
            have hg := (h3 es wr m' cs hes).2 rfl
            obtain ⟨gv, hg', hE⟩ := hs.ent id _ hes
            rw [hg] at hg'
            cases hg'
            cases es with
            | none => obtain ⟨_, rfl, _⟩ := hE; omega
            | some es =>
              obtain ⟨e0, s⟩ := es
              obtain ⟨g, cap, cur, rfl, hh, _⟩ := hE
              refine ⟨.pointer (some ((⟨g, 0, none⟩ : Addr).add (n.toNat * j.size))), ?_, hid, ⟨_, rfl⟩, fun es' wr' m'' cs' hs' => ?_⟩
              · simp only [Instr.indexAt, asIntOf, Sem.run_bind, Sem.run_pure, run_underlying hu, Result.andThen_ok, c1, c2, and_self, if_true, run_size hT hj]
              · rw [hes] at hs'
                cases hs'
                exact ⟨Nat.le_refl _, fun _ => ⟨g, by unfold blkAt; rw [hg]; rfl, by rw [addr_add, Nat.zero_add]⟩⟩
          · cases he
        · cases he
      · rename_i id k0 o m
        split at he
        · rename_i es wr m' cs hes
          split at he
          · rename_i hc
            simp only [Option.some.injEq] at he
            subst he
            obtain ⟨c1, c2, rfl⟩ := hc
            obtain ⟨hid, _, h3⟩ := h
            obtain ⟨g, o', c, hg, rfl, _, _, ho⟩ := (h3 es wr m' cs hes).2 rfl
            obtain rfl := ho (by omega)
            refine ⟨.pointer (some ((⟨g, o', none⟩ : Addr).add (n.toNat * j.size))), ?_, hid, ⟨_, rfl⟩, fun es' wr' m'' cs' hs' => ?_⟩
            · simp only [Instr.indexAt, asIntOf, Sem.run_bind, Sem.run_pure, run_underlying hu, Result.andThen_ok, c1, c2, and_self, if_true, run_size hT hj]
            · rw [hes] at hs'
              cases hs'
              exact ⟨Nat.le_refl _, fun _ => ⟨g, hg, by rw [addr_add]⟩⟩
          · cases he
        · cases he
      · cases he
  · rename_i m e k n hk
    obtain rfl := RepV.int_inv hi
    have hu := kd_array hT hk
    split at he
    · cases he
    · rename_i j hj
      have run : ∀ a, v = .pointer (some a) → 0 ≤ n ∧ n < (m : Int) → (Instr.indexAt t v (.int k n)).run P w = .ok (.pointer (some (a.add (n.toNat * j.size)))) w := by
        intro a ha hc
        subst ha
        simp only [Instr.indexAt, asIntOf, Sem.run_bind, Sem.run_pure, run_underlying hu, Result.andThen_ok, Instr.sureAddr, hc.1, hc.2, and_self, if_true, run_size hT hj]
      split at he
      · split at he
        · rename_i hc
          simp only [Option.some.injEq] at he
          subst he
          obtain ⟨a, ha, hr⟩ := box_move (k := n.toNat * j.size) h
          exact ⟨_, run a ha hc, hr⟩
        · cases he
      · split at he
        · rename_i hc
          simp only [Option.some.injEq] at he
          subst he
          obtain ⟨a, ha, hr⟩ := vp_move (k := n.toNat * j.size) h
          exact ⟨_, run a ha hc, hr⟩
        · cases he
      · split at he
        · rename_i hc
          simp only [Option.some.injEq] at he
          subst he
          obtain ⟨a, ha, hr⟩ := ptr_move (k := n.toNat * j.size) h
          exact ⟨_, run a ha hc, hr⟩
        · cases he
      · cases he
  · cases he
theorem evIndex_sound {t : TypeId} {p i d : D} {v vi : Value} (h : RepD S gh sto w v p) (hi : RepD S gh sto w vi i) (he : evIndex T t p i = some d) : ∃ u, (Instr.index t v vi).run P w = .ok u w ∧ RepD S gh sto w u d := by
  unfold evIndex at he
  split at he
  · rename_i m e k n hk
    obtain rfl := RepV.int_inv hi
    have hu := kd_array hT hk
    split at he
    · cases he
    · rename_i j hj
      split at he
      · rename_i hc
        split at he
        · rename_i ds
          obtain ⟨us, rfl, hp⟩ := h
          obtain ⟨u, e1, e2⟩ := partD_sound hT hj hp he
          exact ⟨u, by simp only [Instr.index, asIntOf, Sem.run_bind, Sem.run_pure, run_underlying hu, Result.andThen_ok, hc.1, hc.2, and_self, if_true, run_size hT hj, e1], e2⟩
        · rename_i cs
          obtain ⟨us, rfl, hp⟩ := RepV.parts h
          cases hq : pickV j cs (n.toNat * j.size) with
          | none => rw [hq] at he; cases he
          | some x =>
            rw [hq] at he
            simp only [Option.map_some, Option.some.injEq] at he
            subst he
            obtain ⟨u, e1, e2⟩ := partV_sound hT hj hp hq
            exact ⟨u, by simp only [Instr.index, asIntOf, Sem.run_bind, Sem.run_pure, run_underlying hu, Result.andThen_ok, hc.1, hc.2, and_self, if_true, run_size hT hj, e1], e2⟩
        · cases he
      · cases he
  · rename_i k n hk
    obtain rfl := RepV.int_inv hi
    have hu := kd_str hT hk
    split at he
    · rename_i s
      obtain rfl := RepV.str_inv h
      split at he
      · rename_i hc
        cases hb : s[n.toNat]? with
        | none => rw [hb] at he; cases he
        | some b =>
          rw [hb] at he
          simp only [Option.map_some, Option.some.injEq] at he
          subst he
          refine ⟨.int .u8 b.toNat, ?_, RepV.int _ _⟩
          simp only [Instr.index, asIntOf, Sem.run_bind, Sem.run_pure, run_underlying hu, Result.andThen_ok, hc, if_true, hb]
      · cases he
    · cases he
  · cases he
end
end Go.Proofs.YtomameefmobnlaaDoor
namespace Go.Proofs.YtomameefmobnlaaDoor
open Go Go.RowKit

section
variable {P : Program} {T : Tab} {S : Stay} {gh : List Value} {sto : Sto} {w : World}
theorem bound_run {x : Option Value} {d : Option D} {dflt n y : Nat} {c : BoundsCode} (hx : ∀ v, x = some v → ∃ e, d = some e ∧ RepD S gh sto w v e) (hn : x = none → d = none) (h : bound d dflt = some n) (hle : n ≤ y) :
    (x = none → n = dflt) ∧ ∀ v, x = some v → (Instr.sliceBound v y c).run P w = .ok n w := by
  constructor
  · intro h0
    rw [hn h0] at h
    simpa [bound] using h.symm
  · intro v hv
    obtain ⟨e, rfl, hr⟩ := hx v hv
    unfold bound at h
    split at h
    · rename_i h0; cases h0
    · rename_i k m h0
      simp only [Option.some.injEq] at h0
      subst h0
      obtain rfl := RepV.int_inv hr
      split at h
      · rename_i hm
        simp only [Option.some.injEq] at h
        subst h
        have h2 : m ≤ (y : Int) := by omega
        simp only [Instr.sliceBound, asIntOf, Sem.run_bind, Sem.run_pure, Result.andThen_ok, hm, h2, and_self, if_true]
      · cases h
    · cases h
variable (hT : T.OK P)
include hT
theorem evSliceV_sound (hs : SR S gh w sto) {t : TypeId} {p d : D} {lo hi mx : Option D} {v : Value} {vl vh vm : Option Value} (h : RepD S gh sto w v p) (hl : ∀ x, vl = some x → ∃ e, lo = some e ∧ RepD S gh sto w x e) (hl0 : vl = none → lo = none)
    (hh : ∀ x, vh = some x → ∃ e, hi = some e ∧ RepD S gh sto w x e) (hh0 : vh = none → hi = none) (hm0 : mx = none → vm = none) (he : evSliceV T sto t p lo hi mx = some d) : ∃ u, (Instr.sliceAt t v vl vh vm).run P w = .ok u w ∧ RepD S gh sto w u d := by
  unfold evSliceV at he
  split at he
  · rename_i e n cs hk hv
    have hu := kd_slice hT hk
    have hrep := view_rep hs h hv
    obtain ⟨a, cap, rfl, h1, h2, h3, h4⟩ := RepV.sl_inv hrep
    split at he
    · rename_i j l r hj bl bh
      split at he
      · rename_i hmx
        obtain rfl := hm0 rfl
        split at he
        · rename_i hc
          obtain ⟨c1, c2, c3, c4⟩ := hc
          simp only [Option.some.injEq] at he
          subst he
          have H := bound_run (P := P) (c := .sliceAcap) (y := cap) hh hh0 bh (by omega)
          have L := bound_run (P := P) (c := .sliceB) (y := r) hl hl0 bl c1
          have hb : (Instr.sliceBounds true n cap vl vh none).run P w = .ok (l, r, cap) w := by
            unfold Instr.sliceBounds
            cases vh with
            | none =>
              have e1 := H.1 rfl
              subst e1
              cases vl with
              | none =>
                have e2 := L.1 rfl
                subst e2
                simp
              | some x => simp [L.2 x rfl]
            | some y =>
              have e1 := H.2 y rfl
              cases vl with
              | none =>
                have e2 := L.1 rfl
                subst e2
                simp [e1]
              | some x => simp [e1, L.2 x rfl]
          refine ⟨.slice (if cap = l then a else a.map (·.add (l * j.size))) (r - l) (cap - l), ?_, ?_⟩
          · simp only [Instr.sliceAt, Instr.slice, Sem.run_bind, run_underlying hu, Result.andThen_ok, hb, run_size hT hj, Sem.run_pure]
          · show RepV S w _ _
            have hlen : ((cs.drop (l * j.size)).take ((r - l) * j.size)).length = (r - l) * j.size := by
              have q : r * j.size ≤ n * j.size := Nat.mul_le_mul_right _ c2
              have q2 : (r - l) * j.size + l * j.size = r * j.size := by rw [← Nat.add_mul]; congr 1; omega
              simp only [List.length_take, List.length_drop, c3]
              omega
            by_cases hz : (cs.drop (l * j.size)).take ((r - l) * j.size) = []
            · rw [hz]
              refine .sl0 _ _ _ (by omega) (by omega) fun h0 => ?_
              split at h0
              · omega
              · cases a with
                | none => have := h3 rfl; omega
                | some a => cases h0
            · have hne : cs ≠ [] := by
                intro e0
                rw [e0] at hz
                simp at hz
              obtain ⟨b, off, us, rfl, h5, h6⟩ := h4 hne
              have hrl : l < r := by
                rcases Nat.lt_or_ge l r with h | h
                · exact h
                · exfalso; apply hz
                  rw [show r - l = 0 from by omega, Nat.zero_mul]; rfl
              rw [if_neg (by omega)]
              simp only [Option.map_some, addr_add]
              have hj2 : ∀ k, k < ((cs.drop (l * j.size)).take ((r - l) * j.size)).length → l * j.size + k < cs.length := by
                intro k hk
                simp only [List.length_take, List.length_drop] at hk
                omega
              refine .sl b (off + l * j.size) (r - l) (cap - l) (fun k => us (l * j.size + k)) _ (by omega) (by omega) (fun k hk => ?_) (fun k c hc => ?_)
              · have := h5 _ (hj2 k hk)
                rw [← Nat.add_assoc] at this
                exact this
              · have hk := (List.getElem?_eq_some_iff.1 hc).1
                have hk' := hk
                rw [hlen] at hk'
                rw [List.getElem?_take_of_lt hk', List.getElem?_drop] at hc
                exact h6 _ c hc
        · cases he
      · cases he
    · cases he
  · cases he
omit hT in
/-- A slice that may be written: where it lies. -/
theorem ownWin_rep (hs : SR S gh w sto) {v : Value} {p : D} {x : Nat × Nat × Nat × Nat} (h : RepD S gh sto w v p) (he : ownWin sto p = some x) : ∃ es wr cs g o' c, sto[x.1]? = some (.arr es wr x.2.1 cs) ∧ blkAt gh x.1 = some g ∧ v = .slice (some ⟨g, o', none⟩) x.2.2.2 c ∧ x.2.2.2 ≤ c ∧ c ≤ maxLen ∧ (0 < x.2.2.2 → o' = x.2.2.1) := by
  unfold ownWin at he
  split at he
  · rename_i id n
    obtain ⟨h1, ⟨a, c, rfl⟩, h3⟩ := h
    split at he
    · rename_i es k cs hes
      split at he
      · rename_i hk
        subst hk
        simp only [Option.some.injEq] at he
        subst he
        have hg := (h3 _ _ _ _ hes).2 rfl
        obtain ⟨gv, hg', hE⟩ := hs.ent id _ hes
        rw [hg] at hg'
        cases hg'
        obtain ⟨e0, s⟩ := es
        obtain ⟨g, cap, cur, hv, _, q1, q2, _⟩ := hE
        exact ⟨_, _, _, g, 0, cap, hes, by unfold blkAt; rw [hg, hv]; rfl, hv, q1, q2, fun _ => rfl⟩
      · cases he
    · cases he
  · rename_i id n o m
    split at he
    · rename_i es wr k cs hes
      split at he
      · rename_i hk
        subst hk
        simp only [Option.some.injEq] at he
        subst he
        obtain ⟨h1, _, h3⟩ := h
        obtain ⟨g, o', c, b1, b2, b3, b4, b5⟩ := (h3 _ _ _ _ hes).2 rfl
        exact ⟨_, _, _, g, o', c, hes, b1, b2, b3, b4, b5⟩
      · cases he
    · cases he
  · cases he
theorem evSliceW_sound (hs : SR S gh w sto) {t : TypeId} {p d : D} {x : Nat × Nat × Nat × Nat} {lo hi mx : Option D} {v : Value} {vl vh vm : Option Value} (h : RepD S gh sto w v p) (hx : ownWin sto p = some x) (hl : ∀ x, vl = some x → ∃ e, lo = some e ∧ RepD S gh sto w x e) (hl0 : vl = none → lo = none)
    (hh : ∀ x, vh = some x → ∃ e, hi = some e ∧ RepD S gh sto w x e) (hh0 : vh = none → hi = none) (hm0 : mx = none → vm = none) (he : evSliceW T t x lo hi mx = some d) : ∃ u, (Instr.sliceAt t v vl vh vm).run P w = .ok u w ∧ RepD S gh sto w u d := by
  obtain ⟨es, wr, cs, g, o', cap, q1, q2, rfl, q3, q4, q5⟩ := ownWin_rep hs h hx
  obtain ⟨id, n, o, m⟩ := x
  simp only at q1 q2 q3 q5
  unfold evSliceW at he
  split at he
  · rename_i e hk
    have hu := kd_slice hT hk
    split at he
    · rename_i j l r hj bl bh
      obtain rfl := hm0 rfl
      split at he
      · rename_i hc
        obtain ⟨c1, c2⟩ := hc
        simp only at c2 bh
        simp only [Option.some.injEq] at he
        subst he
        have H := bound_run (P := P) (c := .sliceAcap) (y := cap) hh hh0 bh (by omega)
        have L := bound_run (P := P) (c := .sliceB) (y := r) hl hl0 bl c1
        have hb : (Instr.sliceBounds true m cap vl vh none).run P w = .ok (l, r, cap) w := by
          unfold Instr.sliceBounds
          cases vh with
          | none =>
            have e1 := H.1 rfl
            subst e1
            cases vl with
            | none =>
              have e2 := L.1 rfl
              subst e2
              simp
            | some x => simp [L.2 x rfl]
          | some y =>
            have e1 := H.2 y rfl
            cases vl with
            | none =>
              have e2 := L.1 rfl
              subst e2
              simp [e1]
            | some x => simp [e1, L.2 x rfl]
        refine ⟨.slice (if cap = l then some ⟨g, o', none⟩ else some ⟨g, o' + l * j.size, none⟩) (r - l) (cap - l), ?_, (List.getElem?_eq_some_iff.1 q1).1, ⟨_, _, rfl⟩, fun es' wr' k' cs' hs' => ?_⟩
        · simp only [Instr.sliceAt, Instr.slice, Sem.run_bind, run_underlying hu, Result.andThen_ok, hb, run_size hT hj, Sem.run_pure, Option.map_some, addr_add]
        · rw [q1] at hs'
          cases hs'
          refine ⟨Nat.le_refl _, fun _ => ?_⟩
          by_cases hcl : cap = l
          · rw [if_pos hcl]
            exact ⟨g, o', cap - l, q2, rfl, by omega, by omega, fun h => by omega⟩
          · rw [if_neg hcl]
            refine ⟨g, o' + l * j.size, cap - l, q2, rfl, by omega, by omega, fun h => ?_⟩
            rw [q5 (by omega)]
      · cases he
    · cases he
  · cases he
theorem evSlice_sound (hs : SR S gh w sto) {t : TypeId} {p d : D} {lo hi mx : Option D} {v : Value} {vl vh vm : Option Value} (h : RepD S gh sto w v p) (hl : ∀ x, vl = some x → ∃ e, lo = some e ∧ RepD S gh sto w x e) (hl0 : vl = none → lo = none)
    (hh : ∀ x, vh = some x → ∃ e, hi = some e ∧ RepD S gh sto w x e) (hh0 : vh = none → hi = none) (hm0 : mx = none → vm = none) (he : evSlice T sto t p lo hi mx = some d) : ∃ u, (Instr.sliceAt t v vl vh vm).run P w = .ok u w ∧ RepD S gh sto w u d := by
  unfold evSlice at he
  split at he
  · rename_i y hy
    exact evSliceW_sound hT hs h hy hl hl0 hh hh0 hm0 he
  · exact evSliceV_sound hT hs h hl hl0 hh hh0 hm0 he
theorem placesT_sound : ∀ (fs : List Field) (ps : List (Nat × Nat)), placesT T (fs.map fun f => (f.offset, f.type)) = some ps → fs.mapM (fun f => (P.info? f.type).map fun i => (f.offset, i.size)) = some ps
  | [], ps, h => by simp only [List.map_nil, placesT, Option.some.injEq] at h; subst h; rfl
  | f :: fs, ps, h => by
    simp only [List.map_cons, placesT] at h
    split at h
    · rename_i j ps' hj hp
      simp only [Option.some.injEq] at h
      subst h
      obtain ⟨x, hx, _, hx2, _⟩ := tab_info hT hj
      simp [List.mapM_cons, hx, placesT_sound fs ps' hp, hx2]
    · cases h
theorem evBuild_sound {t : TypeId} {parts : List (Nat × D)} {vparts : Array (Nat × Value)} {d : D} (hp : Pw (fun (u : Nat × Value) (d : Nat × D) => u.1 = d.1 ∧ RepD S gh sto w u.2 d.2) vparts.toList parts) (he : evBuild T t parts = some d) : ∃ u, (Instr.build t vparts).run P w = .ok u w ∧ RepD S gh sto w u d := by
  unfold evBuild at he
  split at he
  · cases he
  · rename_i i hi
    have fin : ∀ (place : Nat → Option (Nat × Nat)) (z ds : List D), zeroD i = some z → fillD place z parts = some ds → ∃ arr, Instr.fill place i.zero.cells vparts.toList = some arr ∧ RepD S gh sto w (.agg arr) (.agg ds) := by
      intro place z ds hz hf
      have hz' : Pw (fun u d => u.oneCell' = true ∧ RepC S gh sto w u d) i.zero.cells.toList z := RepD.cells (ofVal_rep i.zero) hz
      obtain ⟨arr, e1, e2⟩ := fill_sound place parts vparts.toList z i.zero.cells ds hp hz' hf
      exact ⟨arr, e1, arr.toList, by simp, e2.1, e2.2⟩
    obtain ⟨x, hx, hx1, hx2, _⟩ := tab_info hT hi
    obtain ⟨dd, hu, hk⟩ := tab_kind hT hi
    split at he
    · rename_i z fs hz hkind
      split at he
      · rename_i ps hps
        cases hf : fillD (fun k => ps[k]?) z parts with
        | none => rw [hf] at he; cases he
        | some ds =>
          rw [hf] at he
          simp only [Option.map_some, Option.some.injEq] at he
          subst he
          obtain ⟨arr, e1, e2⟩ := fin _ z ds hz hf
          rw [hkind] at hk
          cases dd <;> simp only [kindOf] at hk <;> first | (cases hk; done) | skip
          rename_i l
          simp only [Kd.struct.injEq] at hk
          rw [← hk] at hps
          have hpl := placesT_sound hT l.toList ps hps
          refine ⟨_, run_build w t vparts arr ?_, e2⟩
          unfold Program.built
          simp only [hx, hu, hx1, hpl]
          simpa using e1
      · cases he
    · rename_i z n e hz hkind
      split at he
      · rename_i j hj
        cases hf : fillD (fun k => some (k * j.size, j.size)) z parts with
        | none => rw [hf] at he; cases he
        | some ds =>
          rw [hf] at he
          simp only [Option.map_some, Option.some.injEq] at he
          subst he
          obtain ⟨arr, e1, e2⟩ := fin _ z ds hz hf
          rw [hkind] at hk
          cases dd <;> simp only [kindOf] at hk <;> first | (cases hk; done) | skip
          rename_i n' e'
          simp only [Kd.array.injEq] at hk
          obtain ⟨rfl, rfl⟩ := hk
          obtain ⟨y, hy, _, hy2, _⟩ := tab_info hT hj
          refine ⟨_, run_build w t vparts arr ?_, e2⟩
          unfold Program.built
          simp only [hx, hu, hx1, hy, hy2]
          exact e1
      · cases he
    · cases he
omit hT in
theorem evBinI_sound {op : BinOp} {k : IntKind} {x y : Int} {r : V} (t : TypeId) (h : evBinI op k x y = some r) : ∃ u, (binOp op t (.int k x) (.int k y)).run P w = .ok u w ∧ RepV S w u r := by
  cases op <;> simp only [evBinI, andI, orI, xorI, andNotI] at h
  case shl => cases h
  case shr => cases h
  case quo =>
    split at h
    · cases h
    · rename_i hy
      simp only [Option.some.injEq] at h
      subst h
      exact ⟨_, by simp [binOp, Op.intDiv, hy], RepV.int _ _⟩
  case rem =>
    split at h
    · cases h
    · rename_i hy
      simp only [Option.some.injEq] at h
      subst h
      exact ⟨_, by simp [binOp, Op.intDiv, hy], RepV.int _ _⟩
  all_goals
    simp only [Option.some.injEq] at h
    subst h
    refine ⟨_, ?_, by first | exact RepV.int _ _ | exact RepV.bool _⟩
    simp only [binOp, Op.intArith, Op.intBits, Op.intCmp, ne_eq, not_true_eq_false, if_false, Sem.run_pure]
omit hT in
theorem evShift_sound {op : BinOp} {k k' : IntKind} {x y : Int} {r : V} (t : TypeId) (h : evShift op k x y = some r) : ∃ u, (binOp op t (.int k x) (.int k' y)).run P w = .ok u w ∧ RepV S w u r := by
  unfold evShift at h
  split at h
  · cases h
  · rename_i hy
    split at h <;> first | (cases h; done) | skip
    all_goals
      simp only [Option.some.injEq] at h
      subst h
      refine ⟨_, ?_, RepV.int _ _⟩
      simp only [binOp, Op.shift, hy, if_false, Sem.run_pure]
omit hT in
theorem guard_run (op : BinOp) (t : TypeId) (x y : Operand) (a b : Value) (h : (match a, b with | .int _ _, .int _ _ => true | .bool _, .bool _ => true | _, _ => false) = true) : (eqGuard op t x y a b).run P w = .ok () w := by
  unfold eqGuard
  cases a <;> cases b <;> first | (cases h; done) | skip
  all_goals
    split <;> simp
theorem evBin_sound {op : BinOp} {t : TypeId} {p q r : V} {x y : Operand} {a b : Value} (hp : RepV S w a p) (hq : RepV S w b q) (h : evBin T op t p q = some r) : ∃ u, ((do eqGuard op t x y a b; binOp op t a b) : Sem Value).run P w = .ok u w ∧ RepV S w u r := by
  unfold evBin at h
  split at h
  · rename_i k m k' n
    obtain rfl := RepV.int_inv hp
    obtain rfl := RepV.int_inv hq
    have hg := guard_run (P := P) (w := w) op t x y (.int k m) (.int k' n) rfl
    split at h
    · obtain ⟨u, e1, e2⟩ := evShift_sound (P := P) (S := S) (w := w) (k' := k') t h
      exact ⟨u, by simp only [Sem.run_bind, hg, Result.andThen_ok, e1], e2⟩
    · obtain ⟨u, e1, e2⟩ := evShift_sound (P := P) (S := S) (w := w) (k' := k') t h
      exact ⟨u, by simp only [Sem.run_bind, hg, Result.andThen_ok, e1], e2⟩
    · split at h
      · rename_i hk
        subst hk
        obtain ⟨u, e1, e2⟩ := evBinI_sound (P := P) (S := S) (w := w) t h
        exact ⟨u, by simp only [Sem.run_bind, hg, Result.andThen_ok, e1], e2⟩
      · cases h
  · rename_i m n
    obtain rfl := RepV.bool_inv hp
    obtain rfl := RepV.bool_inv hq
    have hg := guard_run (P := P) (w := w) op t x y (.bool m) (.bool n) rfl
    split at h
    · rename_i hk
      have hu := kd_bool hT hk
      have heq : (Op.equal t (.bool m) (.bool n)).run P w = .ok (m == n) w := by
        unfold Op.equal Op.maxDepth
        rw [show (10000 : Nat) = 9999 + 1 from rfl, Op.equalIn]
        simp only [Sem.run_bind, run_underlying hu, Result.andThen_ok, Sem.run_pure]
      split at h
      · simp only [Option.some.injEq] at h
        subst h
        exact ⟨_, by simp only [Sem.run_bind, hg, Result.andThen_ok, binOp, heq, Sem.run_pure], RepV.bool _⟩
      · simp only [Option.some.injEq] at h
        subst h
        exact ⟨_, by simp only [Sem.run_bind, hg, Result.andThen_ok, binOp, heq, Sem.run_pure], RepV.bool _⟩
      · cases h
    · cases h
  · cases h
omit hT in
theorem evUn_sound {op : UnOp} {p r : V} {a : Value} (hp : RepV S w a p) (h : evUn op p = some r) : ∃ u, (Op.unary op a).run P w = .ok u w ∧ RepV S w u r := by
  unfold evUn at h
  split at h
  · obtain rfl := RepV.int_inv hp
    split at h
    · simp only [Option.some.injEq] at h; subst h; exact ⟨_, rfl, RepV.int _ _⟩
    · simp only [Option.some.injEq] at h; subst h; exact ⟨_, rfl, RepV.int _ _⟩
    · cases h
  · obtain rfl := RepV.bool_inv hp
    split at h
    · simp only [Option.some.injEq] at h; subst h; exact ⟨_, rfl, RepV.bool _⟩
    · cases h
  · cases h
end
end Go.Proofs.YtomameefmobnlaaDoor
namespace Go.Proofs.YtomameefmobnlaaDoor
open Go Go.RowKit

section
variable {P : Program} {T : Tab} {S : Stay} {gh : List Value} {sto : Sto} {w : World}
theorem argsRep {e : Operand → Value} {ρ : Operand → D} (hρ : ∀ x, RepD S gh sto w (e x) (ρ x)) (l : List Operand) : Pw (RepD S gh sto w) (l.map e) (l.map ρ) := by
  refine ⟨by simp, fun j u d hu hd => ?_⟩
  rw [List.getElem?_map] at hu hd
  cases hx : l[j]? with
  | none => rw [hx] at hu; cases hu
  | some x =>
    rw [hx] at hu hd
    simp only [Option.map_some, Option.some.injEq] at hu hd
    subst hu; subst hd
    exact hρ x
theorem getObj_map {r : Nat} {es : Array MapEntry} {clock : Nat} (hb : w.heap[r]? = some (.map es clock)) : (getObj r).run P w = .ok (.map es clock) w := by simp [getObj, Sem.run, hb]
theorem lenD_sound (hs : SR S gh w sto) {v : Value} {d : D} {n : Nat} (h : RepD S gh sto w v d) (he : lenD sto d = some n) : ∃ a cap, v = .slice a n cap := by
  unfold lenD at he
  split at he
  · rename_i id m
    obtain ⟨_, ⟨a, c, rfl⟩, _⟩ := h
    split at he
    · split at he
      · simp only [Option.some.injEq] at he
        subst he
        exact ⟨a, c, rfl⟩
      · cases he
    · cases he
  · rename_i id n o m
    obtain ⟨_, ⟨a, c, rfl⟩, _⟩ := h
    simp only [Option.some.injEq] at he
    subst he
    exact ⟨a, c, rfl⟩
  · split at he
    · rename_i m cs hv
      simp only [Option.some.injEq] at he
      subst he
      have hc : RepC S gh sto w v d := by
        cases d with
        | agg ds => simp [viewC] at hv
        | _ => exact h
      obtain ⟨a, cap, rfl, _⟩ := RepV.sl_inv (viewC_rep hs hc hv)
      exact ⟨a, cap, rfl⟩
    · cases he
theorem viewLD_rep (hs : SR S gh w sto) : ∀ (us : List Value) (ds : List D) (xs : List V), Pw (RepD S gh sto w) us ds → viewL sto ds = some xs → Pw (RepV S w) us xs
  | [], [], xs, _, h => by simp only [viewL, Option.some.injEq] at h; subst h; exact Pw.nil
  | [], _ :: _, _, h, _ => by have := h.1; simp at this
  | _ :: _, [], _, h, _ => by have := h.1; simp at this
  | u :: us, d :: ds, xs, hp, h => by
    simp only [viewL] at h
    split at h
    · rename_i x xs' h1 h2
      simp only [Option.some.injEq] at h
      subst h
      have h0 := hp.2 0 u d rfl rfl
      have hc : RepC S gh sto w u d := by
        cases d with
        | agg ds => simp [viewC] at h1
        | _ => exact h0
      exact Pw.cons (viewC_rep hs hc h1) (viewLD_rep hs us ds xs' (by have := hp.drop 1; simpa using this) h2)
    · cases h
theorem minMax_run (mx : Bool) : ∀ (l : List V) (us : List Value) (k : IntKind) (x : Int) (r : V), Pw (RepV S w) us l →
    l.foldlM (mm2 mx) (.int k x) = some r →
    (us.foldlM (if mx then Builtin.max2 else Builtin.min2) (.int k x)).run P w = .ok (match r with | .int k n => .int k n | _ => undef) w ∧ ∃ k n, r = .int k n
  | [], us, k, x, r, h, he => by
    have : us = [] := List.length_eq_zero_iff.1 h.1
    subst this
    simp only [List.foldlM_nil, Option.pure_def, Option.some.injEq] at he
    subst he
    exact ⟨by simp, k, x, rfl⟩
  | b :: l, [], k, x, r, h, he => by have := h.1; simp at this
  | b :: l, u :: us, k, x, r, h, he => by
    have h0 := h.2 0 u b rfl rfl
    have h1 : Pw (RepV S w) us l := by have := h.drop 1; simpa using this
    simp only [List.foldlM_cons, Option.bind_eq_bind] at he
    cases b with
    | int k' y =>
      obtain rfl := RepV.int_inv h0
      simp only [mm2, Option.bind_some] at he
      obtain ⟨r1, r2⟩ := minMax_run mx l us k _ r h1 he
      refine ⟨?_, r2⟩
      rw [List.foldlM_cons, Sem.run_bind]
      cases mx with
      | true =>
        simp only [if_true] at r1 ⊢
        simp only [Builtin.max2, Sem.run_pure, Result.andThen_ok]
        exact r1
      | false =>
        simp only [Bool.false_eq_true, if_false] at r1 ⊢
        simp only [Builtin.min2, Sem.run_pure, Result.andThen_ok]
        exact r1
    | _ => simp [mm2] at he
theorem mm_sound {mx : Bool} {l : List V} {us : List Value} {r : V} (h : Pw (RepV S w) us l) (he : evMM mx l = some r) (ty : TypeId) (ts : Array TypeId) : ∃ u, ((if mx then Builtin.max_ else Builtin.min_) ts ty us.toArray).run P w = .ok u w ∧ RepV S w u r := by
  unfold evMM at he
  split at he
  · rename_i k x rest
    cases us with
    | nil => have := h.1; simp at this
    | cons u us =>
      obtain rfl := RepV.int_inv (h.2 0 u _ rfl rfl)
      have h1 : Pw (RepV S w) us rest := by have := h.drop 1; simpa using this
      obtain ⟨r1, k', n, rfl⟩ := minMax_run (P := P) mx rest us k x r h1 he
      refine ⟨.int k' n, ?_, RepV.int _ _⟩
      cases mx with
      | true => simp only [if_true] at r1 ⊢; exact r1
      | false => simp only [Bool.false_eq_true, if_false] at r1 ⊢; exact r1
  · cases he
theorem capId_sound : ∀ (us : List Value) (ds : List D) (ids : List Nat), Pw (RepD S gh sto w) us ds → capId ds = some ids → us.length = ids.length ∧ ∀ (j id : Nat), ids[j]? = some id → id < sto.length ∧ ∃ g, gh[id]? = some (.pointer (some ⟨g, 0, none⟩)) ∧ us[j]? = some (.pointer (some ⟨g, 0, none⟩))
  | us, [], ids, h, he => by
    simp only [capId, Option.some.injEq] at he
    subst he
    exact ⟨h.1, fun j id hj => by simp at hj⟩
  | us, d :: ds, ids, h, he => by
    unfold capId at he
    split at he
    · rename_i h0; cases h0
    · rename_i id rest h0
      simp only [List.cons.injEq] at h0
      obtain ⟨rfl, rfl⟩ := h0
      cases us with
      | nil => have := h.1; simp at this
      | cons u us =>
        cases hc : capId ds with
        | none => rw [hc] at he; cases he
        | some l =>
          rw [hc] at he
          simp only [Option.map_some, Option.some.injEq] at he
          subst he
          obtain ⟨l1, l2⟩ := capId_sound us ds l (by have := h.drop 1; simpa using this) hc
          refine ⟨by simp [l1], fun j id' hj => ?_⟩
          cases j with
          | zero =>
            simp only [List.getElem?_cons_zero, Option.some.injEq] at hj
            subst hj
            have h0 : RepC S gh sto w u (.ptr id 0) := h.2 0 u _ rfl rfl
            obtain ⟨a, g, b, c⟩ := h0
            exact ⟨a, g, b, by simp [c]⟩
          | succ j => exact l2 j id' (by simpa using hj)
    · cases he
variable (hT : T.OK P)
include hT
theorem evBuiltin_sound (hs : SR S gh w sto) {b : Builtin} {ts : Array TypeId} {ds : List D} {us : List Value} {d : D} (h : Pw (RepD S gh sto w) us ds) (ty : TypeId) (cs : Array Bool) (he : evBuiltin T sto b ts ds = some d) : ∃ u, (builtin b ts ty cs us.toArray).run P w = .ok (.value u) w ∧ RepD S gh sto w u d := by
  unfold evBuiltin at he
  split at he
  · split at he
    · rename_i x d0 e hk
      obtain ⟨u, rfl⟩ : ∃ u, us = [u] := by
        have := h.1
        match us, this with
        | [u], _ => exact ⟨u, rfl⟩
      have h0 := h.2 0 u d0 rfl rfl
      obtain ⟨t, ht, hk'⟩ := Option.bind_eq_some_iff.1 hk
      have hu := kd_slice hT hk'
      cases hl : lenD sto d0 with
      | none => rw [hl] at he; cases he
      | some n =>
        rw [hl] at he
        obtain rfl : D.v (.int .i64 n) = d := by simpa using he
        obtain ⟨a, cap, rfl⟩ := lenD_sound hs h0 hl
        refine ⟨.int .i64 n, ?_, RepV.int _ _⟩
        simp only [builtin, Sem.run_bind, Builtin.len_, ht, List.getElem?_toArray, List.getElem?_cons_zero, run_underlying hu, Result.andThen_ok, goInt, Sem.run_pure]
    · rename_i x s hk
      obtain ⟨u, rfl⟩ : ∃ u, us = [u] := by
        have := h.1
        match us, this with
        | [u], _ => exact ⟨u, rfl⟩
      obtain rfl := RepV.str_inv (h.2 0 u _ rfl rfl)
      obtain ⟨t, ht, hk'⟩ := Option.bind_eq_some_iff.1 hk
      have hu := kd_str hT hk'
      simp only [Option.some.injEq] at he
      subst he
      refine ⟨.int .i64 s.size, ?_, RepV.int _ _⟩
      simp only [builtin, Sem.run_bind, Builtin.len_, ht, List.getElem?_toArray, List.getElem?_cons_zero, run_underlying hu, Result.andThen_ok, goInt, Sem.run_pure]
    · rename_i x k e hk
      obtain ⟨u, rfl⟩ : ∃ u, us = [u] := by
        have := h.1
        match us, this with
        | [u], _ => exact ⟨u, rfl⟩
      have h0 : u = .map none := h.2 0 u _ rfl rfl
      subst h0
      obtain ⟨t, ht, hk'⟩ := Option.bind_eq_some_iff.1 hk
      have hu := kd_map hT hk'
      simp only [Option.some.injEq] at he
      subst he
      refine ⟨.int .i64 0, ?_, RepV.int _ _⟩
      simp only [builtin, Sem.run_bind, Builtin.len_, ht, List.getElem?_toArray, List.getElem?_cons_zero, run_underlying hu, Result.andThen_ok, goInt, Sem.run_pure]
    · rename_i x id k e hk
      obtain ⟨u, rfl⟩ : ∃ u, us = [u] := by
        have := h.1
        match us, this with
        | [u], _ => exact ⟨u, rfl⟩
      obtain ⟨_, g, hg, rfl⟩ : RepC S gh sto w u (.map id) := h.2 0 u _ rfl rfl
      obtain ⟨t, ht, hk'⟩ := Option.bind_eq_some_iff.1 hk
      have hu := kd_map hT hk'
      split at he
      · rename_i k0 kvs hes
        simp only [Option.some.injEq] at he
        subst he
        obtain ⟨gv, hgv, hE⟩ := hs.ent id _ hes
        rw [hg] at hgv
        cases hgv
        obtain ⟨g', es, clock, h1, h2, h3, -, h4, h5⟩ := hE
        cases h1
        refine ⟨.int .i64 kvs.length, ?_, RepV.int _ _⟩
        have hsz : es.size = kvs.length := by rw [← Array.length_toList]; exact h4
        simp only [builtin, Sem.run_bind, Builtin.len_, ht, List.getElem?_toArray, List.getElem?_cons_zero, run_underlying hu, getObj_map h2, Result.andThen_ok, goInt, Sem.run_pure, hsz]
      · cases he
    · cases he
  · cases hv : viewL sto ds with
    | none => rw [hv] at he; cases he
    | some l =>
      rw [hv] at he
      simp only [Option.bind_some] at he
      have hl := viewLD_rep hs us ds l h hv
      cases hm : evMM false l with
      | none => rw [hm] at he; cases he
      | some r =>
        rw [hm] at he
        simp only [Option.map_some, Option.some.injEq] at he
        subst he
        obtain ⟨u, e1, e2⟩ := mm_sound (P := P) hl hm ty ts
        simp only [Bool.false_eq_true, if_false] at e1
        exact ⟨u, by simp only [builtin, Sem.run_bind, e1, Result.andThen_ok, Sem.run_pure], e2⟩
  · cases hv : viewL sto ds with
    | none => rw [hv] at he; cases he
    | some l =>
      rw [hv] at he
      simp only [Option.bind_some] at he
      have hl := viewLD_rep hs us ds l h hv
      cases hm : evMM true l with
      | none => rw [hm] at he; cases he
      | some r =>
        rw [hm] at he
        simp only [Option.map_some, Option.some.injEq] at he
        subst he
        obtain ⟨u, e1, e2⟩ := mm_sound (P := P) hl hm ty ts
        simp only [if_true] at e1
        exact ⟨u, by simp only [builtin, Sem.run_bind, e1, Result.andThen_ok, Sem.run_pure], e2⟩
  · cases he
end
end Go.Proofs.YtomameefmobnlaaDoor
namespace Go.Proofs.YtomameefmobnlaaDoor
open Go Go.RowKit

section
variable {P : Program} {T : Tab} {S : Stay} {gh : List Value} {sto : Sto} {w : World}
theorem RepD.toC {v : Value} {d : D} (h : RepD S gh sto w v d) (hd : ∀ ds, d ≠ .agg ds) : RepC S gh sto w v d := by
  cases d with
  | agg ds => exact absurd rfl (hd ds)
  | _ => exact h
theorem run_next {x : Sem Value} {u : Value} (h : x.run P w = .ok u w) : ((do pure (.value (← x))) : Sem Next).run P w = .ok (.value u) w := by
  simp only [Sem.run_bind, h, Result.andThen_ok, Sem.run_pure]
theorem findNow_rep {k : IntKind} (n : Int) : ∀ (es : List MapEntry) (kvs : List (Int × V)) (i : Nat), es.length = kvs.length → (∀ (j : Nat) (e : MapEntry) (kv : Int × V), es[j]? = some e → kvs[j]? = some kv → e.key = .int k kv.1 ∧ RepV S w e.val kv.2) →
    (mget kvs n = none ∧ Instr.findNow (.int k) (.int k n) es i = some none) ∨ ∃ j e v, mget kvs n = some v ∧ Instr.findNow (.int k) (.int k n) es i = some (some (i + j, e.val)) ∧ es[j]? = some e ∧ e.key = .int k n ∧ RepV S w e.val v
  | [], [], i, _, _ => .inl ⟨rfl, rfl⟩
  | [], _ :: _, _, h, _ => by simp at h
  | _ :: _, [], _, h, _ => by simp at h
  | e :: es, (k0, v0) :: kvs, i, hl, hr => by
    obtain ⟨h1, h2⟩ := hr 0 e (k0, v0) rfl rfl
    simp only at h1 h2
    by_cases hn : n = k0
    · right
      subst hn
      exact ⟨0, e, v0, by simp [mget], by simp [Instr.findNow, Instr.sameNow, h1], rfl, h1, h2⟩
    · have hbb : (n == k0) = false := by simp [hn]
      have ih := findNow_rep n es kvs (i + 1) (by simpa using hl) (fun j e' kv he hk => hr (j + 1) e' kv (by simpa using he) (by simpa using hk))
      have e1 : Instr.findNow (.int k) (.int k n) (e :: es) i = Instr.findNow (.int k) (.int k n) es (i + 1) := by
        simp [Instr.findNow, Instr.sameNow, h1, hbb]
      have e2 : mget ((k0, v0) :: kvs) n = mget kvs n := by simp [mget, hn]
      rw [e1, e2]
      rcases ih with h | ⟨j, e', v, a, b, c, d⟩
      · exact .inl h
      · exact .inr ⟨j + 1, e', v, a, by rw [b]; congr 3; omega, by simpa using c, d⟩
theorem checkKey_int {kt : TypeId} {k : IntKind} (hk : P.underlying kt = some (.int k)) (em : Bool) (n : Int) : (Instr.checkKey em 10000 kt (.int k n)).run P w = .ok () w := by
  rw [show (10000 : Nat) = 9999 + 1 from rfl, Instr.checkKey]
  simp only [Sem.run_bind, run_underlying hk, Result.andThen_ok, Sem.run_pure]
theorem findKey_int {kt : TypeId} {k : IntKind} (hk : P.underlying kt = some (.int k)) {n : Int} {es : List MapEntry} {r : Option (Nat × Value)} (h : Instr.findNow (.int k) (.int k n) es 0 = some r) : (Instr.findKey kt (.int k n) es).run P w = .ok r w := by
  unfold Instr.findKey
  simp only [Sem.run_bind, run_underlying hk, Result.andThen_ok, h, Sem.run_pure]
theorem evLookup_sound (hT : T.OK P) (hs : SR S gh w sto) {t : TypeId} {x key d : D} {vx vk : Value} {ok : Bool} (hx : RepD S gh sto w vx x) (hk : RepD S gh sto w vk key) (he : evLookup T sto t x key ok = some d) : ∃ u, (Instr.lookup t vx vk ok).run P w = .ok u w ∧ RepD S gh sto w u d := by
  unfold evLookup at he
  split at he
  · rename_i kt et k' n ht
    have hu := kd_map hT ht
    obtain rfl := RepV.int_inv hk
    split at he
    · rename_i k i hkt hi
      have hku := kd_int hT hkt
      split at he
      · rename_i z hz
        split at he
        · rename_i hkk
          subst hkk
          have h0 : SR S [] w [] := ⟨rfl, fun i e h => by simp at h, fun i j g h => by simp [blkAt] at h, hs.stay⟩
          have hzr : RepV S w i.zero z := view_rep h0 (ofVal_rep i.zero) hz
          have fin : ∀ (u : Value) (y : V) (b : Bool), RepV S w u y → RepD S gh sto w (if ok then .tuple #[u, .bool b] else u) (okV ok y b) := by
            intro u y b hr
            cases ok with
            | true =>
              refine RepV.tup [u, .bool b] [y, .bool b] rfl fun j u' c hu hc => ?_
              match j, hu, hc with
              | 0, hu, hc => simp only [List.getElem?_cons_zero, Option.some.injEq] at hu hc; subst hu; subst hc; exact hr
              | 1, hu, hc => simp only [List.getElem?_cons_succ, List.getElem?_cons_zero, Option.some.injEq] at hu hc; subst hu; subst hc; exact .bool b
              | j + 2, hu, _ => simp at hu
            | false => exact hr
          split at he
          · simp only [Option.some.injEq] at he
            subst he
            have hx' : vx = .map none := hx
            subst hx'
            refine ⟨_, ?_, fin i.zero z false hzr⟩
            have hf : (Instr.findKey kt (.int k' n) []).run P w = .ok none w := findKey_int hku rfl
            simp only [Instr.lookup, Sem.run_bind, run_underlying hu, Result.andThen_ok, Sem.run_pure, checkKey_int hku, hf, run_zero hT hi]
          · rename_i id
            obtain ⟨_, g, hg, rfl⟩ : RepC S gh sto w vx (.map id) := hx
            split at he
            · rename_i k2 kvs hes
              split at he
              · rename_i hk2
                subst hk2
                obtain ⟨gv, hgv, hE⟩ := hs.ent id _ hes
                rw [hg] at hgv
                cases hgv
                obtain ⟨g', es, clock, h1, h2, h3, -, h4, h5⟩ := hE
                cases h1
                rcases findNow_rep n es.toList kvs 0 h4 h5 with ⟨a, b⟩ | ⟨j, e, v, a, b, c, c2, c3⟩
                · rw [a] at he
                  simp only [Option.some.injEq] at he
                  subst he
                  refine ⟨_, ?_, fin i.zero z false hzr⟩
                  simp only [Instr.lookup, Sem.run_bind, run_underlying hu, Result.andThen_ok, getObj_map h2, Sem.run_pure, checkKey_int hku, findKey_int hku b, run_zero hT hi]
                · rw [a] at he
                  simp only [Option.some.injEq] at he
                  subst he
                  refine ⟨_, ?_, fin e.val v true c3⟩
                  simp only [Instr.lookup, Sem.run_bind, run_underlying hu, Result.andThen_ok, getObj_map h2, Sem.run_pure, checkKey_int hku, findKey_int hku b]
              · cases he
            · cases he
          · cases he
        · cases he
      · cases he
    · cases he
  · cases he
theorem evPure_sound (hT : T.OK P) (hs : SR S gh w sto) {e : Operand → Value} {ρ : Operand → D} (hρ : ∀ x, RepD S gh sto w (e x) (ρ x)) {o : Oper} {d : D} (hb : ∀ t n ps, o.op ≠ .buildSlice t n ps) (h : evPure T ρ sto o = some d) : ∃ u, (execOp e o).run P w = .ok (.value u) w ∧ RepD S gh sto w u d := by
  unfold evPure at h
  unfold execOp
  split at h <;> rename_i hop <;> simp only [hop]
  · rename_i x
    simp only [Option.some.injEq] at h
    subst h
    exact ⟨_, rfl, hρ x⟩
  · rename_i x
    simp only [Option.some.injEq] at h
    subst h
    exact ⟨_, rfl, hρ x⟩
  · rename_i c a b
    split at h
    · rename_i t hc
      have hb := hρ c
      rw [hc] at hb
      obtain hb := RepV.bool_inv hb
      simp only [Option.some.injEq] at h
      subst h
      refine ⟨if t then e a else e b, ?_, ?_⟩
      · rw [hb]
        simp only [asBool, Sem.run_bind, Sem.run_pure, Result.andThen_ok]
      · cases t
        · exact hρ b
        · exact hρ a
    · cases h
  · rename_i t parts
    obtain ⟨u, h1, h2⟩ := evBuild_sound (P := P) (S := S) (gh := gh) (sto := sto) (w := w) hT (vparts := parts.map fun (i, x) => (i, e x)) (by
      refine ⟨by simp, fun j u d hu hd => ?_⟩
      simp only [Array.toList_map, List.getElem?_map] at hu hd
      cases hx : parts.toList[j]? with
      | none => rw [hx] at hu; cases hu
      | some p =>
        rw [hx] at hu hd
        simp only [Option.map_some, Option.some.injEq] at hu hd
        subst hu; subst hd
        exact ⟨rfl, hρ p.2⟩) h
    exact ⟨u, run_next h1, h2⟩
  · rename_i t n ps
    exact absurd hop (hb t n ps)
  · rename_i t x
    have hx : RepC S gh sto w (e x) (ρ x) := (hρ x).toC fun ds h0 => by
      rw [h0] at h
      unfold evLoad at h
      split at h <;> cases h
    obtain ⟨u, h1, h2⟩ := evLoad_sound hT hs hx h
    exact ⟨u, run_next h1, h2⟩
  · rename_i x
    split at h
    · rename_i id o hx
      have h0 := hρ x
      rw [hx] at h0
      simp only [Option.some.injEq] at h
      subst h
      obtain ⟨a, g, b, hv⟩ := h0
      refine ⟨e x, ?_, ⟨a, g, b, hv⟩⟩
      rw [hv]; rfl
    · rename_i cs o hx
      have h0 := hρ x
      rw [hx] at h0
      simp only [Option.some.injEq] at h
      subst h
      obtain ⟨a, g, b, hv, hr⟩ := h0
      refine ⟨e x, ?_, ⟨a, g, b, hv, hr⟩⟩
      rw [hv]; rfl
    · rename_i id n o hx
      have h0 := hρ x
      rw [hx] at h0
      simp only [Option.some.injEq] at h
      subst h
      obtain ⟨a, ⟨g, hv⟩, hr⟩ := h0
      refine ⟨e x, ?_, ⟨a, ⟨g, hv⟩, hr⟩⟩
      rw [hv]; rfl
    · rename_i f cs hx
      have h0 := hρ x
      rw [hx] at h0
      simp only [Option.some.injEq] at h
      subst h
      obtain ⟨vs, hv, hr⟩ := h0
      refine ⟨e x, ?_, ⟨vs, hv, hr⟩⟩
      rw [hv]; rfl
    · cases h
  · rename_i op t x y ty
    split at h
    · rename_i a b ha hb
      cases hq : evBin T op t a b with
      | none => rw [hq] at h; cases h
      | some r =>
        rw [hq] at h
        simp only [Option.map_some, Option.some.injEq] at h
        subst h
        obtain ⟨u, h1, h2⟩ := evBin_sound (P := P) (x := x) (y := y) hT (view_rep hs (hρ x) ha) (view_rep hs (hρ y) hb) hq
        exact ⟨u, run_next h1, h2⟩
    · cases h
  · rename_i op t x
    split at h
    · rename_i a ha
      have h0 := hρ x
      rw [ha] at h0
      cases hq : evUn op a with
      | none => rw [hq] at h; cases h
      | some r =>
        rw [hq] at h
        simp only [Option.map_some, Option.some.injEq] at h
        subst h
        obtain ⟨u, h1, h2⟩ := evUn_sound (P := P) h0 hq
        exact ⟨u, run_next h1, h2⟩
    · cases h
  · rename_i src dst x
    split at h
    · rename_i i j k n h1 h2 h3
      have h0 := hρ x
      rw [h3] at h0
      have hv := RepV.int_inv h0
      split at h
      · rename_i k' hk
        simp only [Option.some.injEq] at h
        subst h
        obtain ⟨d1, u1, _⟩ := tab_kind hT h1
        obtain ⟨d2, u2, k2⟩ := tab_kind hT h2
        rw [hk] at k2
        refine ⟨.int k' (k'.wrap n), ?_, RepV.int _ _⟩
        apply run_next
        cases d2 <;> simp only [kindOf] at k2 <;> first | (cases k2; done) | skip
        simp only [Kd.int.injEq] at k2
        subst k2
        rw [hv]
        simp only [convert, Sem.run_bind, run_underlying u1, run_underlying u2, Result.andThen_ok, Conv.intToInt, Sem.run_pure]
      · cases h
    · cases h
  · rename_i f first caps
    split at h
    · rename_i hf
      cases hq : capId (caps.toList.map ρ) with
      | none => rw [hq] at h; cases h
      | some ids =>
        rw [hq] at h
        simp only [Option.map_some, Option.some.injEq] at h
        subst h
        obtain ⟨l1, l2⟩ := capId_sound _ _ _ (argsRep hρ caps.toList) hq
        have hf' : first = #[] := Array.eq_empty_of_size_eq_zero hf
        subst hf'
        refine ⟨.func (.func f) #[] (caps.toList.map e).toArray, ?_, caps.toList.map e, rfl, l1, l2⟩
        apply run_next
        have : (Array.map e caps) = (caps.toList.map e).toArray := Array.ext' (by simp)
        simp [Instr.makeFunc, this]
    · cases h
  · rename_i t x lo hi mx
    obtain ⟨u, h1, h2⟩ := evSlice_sound (P := P) hT hs (hρ x) (vl := lo.map e) (vh := hi.map e) (vm := mx.map e) (by
      intro v hv
      cases lo with
      | none => cases hv
      | some y => simp only [Option.map_some, Option.some.injEq] at hv; subst hv; exact ⟨_, rfl, hρ y⟩) (by intro h0; cases lo with | none => rfl | some y => cases h0) (by
      intro v hv
      cases hi with
      | none => cases hv
      | some y => simp only [Option.map_some, Option.some.injEq] at hv; subst hv; exact ⟨_, rfl, hρ y⟩) (by intro h0; cases hi with | none => rfl | some y => cases h0) (by intro h0; cases mx with | none => rfl | some y => cases h0) h
    exact ⟨u, run_next h1, h2⟩
  · rename_i t x f
    have hx : RepC S gh sto w (e x) (ρ x) := (hρ x).toC fun ds h0 => by
      rw [h0] at h
      unfold evFieldAddr at h
      (repeat' split at h) <;> first | (cases h; done) | contradiction
    obtain ⟨u, h1, h2⟩ := evFieldAddr_sound hT hx h
    exact ⟨u, run_next h1, h2.toD⟩
  · rename_i t x f
    obtain ⟨u, h1, h2⟩ := evField_sound hT (hρ x) h
    exact ⟨u, run_next h1, h2⟩
  · rename_i t x i
    have hx : RepC S gh sto w (e x) (ρ x) := (hρ x).toC fun ds h0 => by
      rw [h0] at h
      unfold evIndexAddr at h
      (repeat' split at h) <;> first | (cases h; done) | contradiction
    obtain ⟨u, h1, h2⟩ := evIndexAddr_sound hT hs hx (hρ i) h
    exact ⟨u, run_next h1, h2.toD⟩
  · rename_i t x i
    obtain ⟨u, h1, h2⟩ := evIndex_sound hT (hρ x) (hρ i) h
    exact ⟨u, run_next h1, h2⟩
  · rename_i t x i ok
    obtain ⟨u, h1, h2⟩ := evLookup_sound hT hs (hρ x) (hρ i) h
    exact ⟨u, run_next h1, h2⟩
  · rename_i x ix
    split at h
    · rename_i vs hx
      have h0 := hρ x
      rw [hx] at h0
      have h0' : RepV S w (e x) (.tup vs) := h0
      cases hq : vs[ix]? with
      | none => rw [hq] at h; cases h
      | some r =>
        rw [hq] at h
        simp only [Option.map_some, Option.some.injEq] at h
        subst h
        generalize e x = v at h0'
        cases h0' with
        | tup us cs l1 l2 =>
          have hlt := (List.getElem?_eq_some_iff.1 hq).1
          have hu : us[ix]? = some (us[ix]'(by omega)) := List.getElem?_eq_getElem (by omega)
          refine ⟨us[ix]'(by omega), ?_, l2 ix _ r hu hq⟩
          apply run_next
          simp only [Instr.extract, List.getElem?_toArray, hu, Sem.run_pure]
    · cases h
  · rename_i c
    split at h
    · rename_i b hb
      obtain ⟨u, h1, h2⟩ := evBuiltin_sound (P := P) hT hs (argsRep hρ c.args.toList) o.type (c.args.map fun | .const _ => true | _ => false) h
      refine ⟨u, ?_, h2⟩
      simp only [resolve, hb, Sem.run_bind, Sem.run_pure, Result.andThen_ok, invoke]
      rw [← h1]
      congr 2
      apply Array.ext'
      simp
    · cases h
  · cases h
end
end Go.Proofs.YtomameefmobnlaaDoor
namespace Go.Proofs.YtomameefmobnlaaDoor
open Go Go.RowKit

section
variable {S S' : Stay} {gh gh' : List Value} {sto sto' : Sto} {w w' : World}
theorem RepE.lt {gv : Value} {e : Ent} {g : Nat} (h : RepE S gh sto w gv e) (hg : blk gv = some g) : g < w.heap.size := by
  have key : ∀ {g : Nat} {o : Obj}, w.heap[g]? = some o → g < w.heap.size := fun h => (Array.getElem?_eq_some_iff.1 h).1
  cases e with
  | cells ds =>
    obtain ⟨g', cur, ty, rfl, hh, _⟩ := h
    simp only [blk, Option.some.injEq] at hg
    subst hg
    exact key hh
  | arr es wr n cs =>
    cases es with
    | none => obtain ⟨rfl, _⟩ := h; simp [blk] at hg
    | some es =>
      obtain ⟨g', cap, cur, rfl, hh, _⟩ := h
      simp only [blk, Option.some.injEq] at hg
      subst hg
      exact key hh
  | map k kvs =>
    obtain ⟨g', es, clock, rfl, hh, _⟩ := h
    simp only [blk, Option.some.injEq] at hg
    subst hg
    exact key hh
theorem SR.lt (hs : SR S gh w sto) {i g : Nat} (h : blkAt gh i = some g) : g < w.heap.size := by
  unfold blkAt at h
  cases hg : gh[i]? with
  | none => rw [hg] at h; cases h
  | some gv =>
    rw [hg] at h
    have hi : i < sto.length := by rw [← hs.len]; exact (List.getElem?_eq_some_iff.1 hg).1
    obtain ⟨gv', h1, h2⟩ := hs.ent i _ (List.getElem?_eq_getElem hi)
    rw [hg] at h1
    cases h1
    exact h2.lt h
theorem RepE.mono {lo : Nat} (hs : SR S gh w sto) (hf : Fr sto.length lo S gh w sto S' gh' w' sto') {gv : Value} {e : Ent} (h : RepE S gh sto w gv e) (hb : ∀ g, blk gv = some g → w'.heap[g]? = w.heap[g]? ∧ ∀ o, S' g o ↔ S g o) : RepE S' gh' sto' w' gv e := by
  cases e with
  | cells ds =>
    obtain ⟨g, cur, ty, rfl, hh, h1, h2, h3⟩ := h
    obtain ⟨b1, b2⟩ := hb g rfl
    exact ⟨g, cur, ty, rfl, by rw [b1]; exact hh, h1, fun o ho => h2 o ((b2 o).1 ho), fun k u d hu hd => ⟨(h3 k u d hu hd).1, RepC.mono hs hf (h3 k u d hu hd).2⟩⟩
  | arr es wr n cs =>
    cases es with
    | none => exact h
    | some es =>
      obtain ⟨e0, s⟩ := es
      obtain ⟨g, cap, cur, rfl, hh, h1, h2, h3, h4, h5, h6⟩ := h
      obtain ⟨b1, b2⟩ := hb g rfl
      refine ⟨g, cap, cur, rfl, by rw [b1]; exact hh, h1, h2, h3, h4, fun j u c hu hc => ⟨(h5 j u c hu hc).1, RepV.mono hf.stable (h5 j u c hu hc).2⟩, ?_⟩
      cases wr with
      | true => simp only [if_true] at h6 ⊢; exact fun o ho => h6 o ((b2 o).1 ho)
      | false => simp only [Bool.false_eq_true, if_false] at h6 ⊢; exact fun o => (b2 o).trans (h6 o)
  | map k kvs =>
    obtain ⟨g, es, clock, rfl, hh, h1, hsp, h2, h3⟩ := h
    obtain ⟨b1, b2⟩ := hb g rfl
    exact ⟨g, es, clock, rfl, by rw [b1]; exact hh, fun o ho => h1 o ((b2 o).1 ho), hsp, h2, fun j e kv he hk => ⟨(h3 j e kv he hk).1, RepV.mono hf.stable (h3 j e kv he hk).2⟩⟩
/-- A new entry: what has to be shown of it. -/
theorem push_fr {lo : Nat} {gv : Value} {e : Ent} (hs : SR S gh w sto) (hlo : lo ≤ sto.length) (hb : Below w.heap.size w w') (hst : ∀ b o, S b o → S' b o) (hnew : ∀ g, blk gv = some g → w.heap.size ≤ g) : Fr sto.length lo S gh w sto S' (gh ++ [gv]) w' (sto ++ [e]) where
  os := hb.os
  tape := hb.tape
  output := hb.output
  size := hb.size
  stable := fun b o h => ⟨hst b o h, hb.cell (p := ⟨b, o, none⟩) (hs.stay b o h)⟩
  block := fun b h _ => hb.block b h
  low := fun i hi => ⟨List.getElem?_append_left (by rw [hs.len]; omega), List.getElem?_append_left (by omega)⟩
  new := fun i g hi hg => by
    unfold blkAt at hg
    rcases Nat.lt_or_ge i gh.length with h | h
    · rw [List.getElem?_append_left h] at hg
      exact .inl ⟨i, hi, hg⟩
    · rw [List.getElem?_append_right h] at hg
      rcases Nat.eq_zero_or_pos (i - gh.length) with h0 | h0
      · rw [h0] at hg
        exact .inr (hnew g hg)
      · rw [List.getElem?_eq_none (by simp; omega)] at hg; cases hg
  keep := fun i e gv hi h1 h2 => ⟨e, gv, by rw [List.getElem?_append_left hi]; exact h1, by rw [List.getElem?_append_left (by rw [hs.len]; exact hi)]; exact h2, KeepE.refl gv e⟩
theorem push_sr {lo : Nat} {gv : Value} {e : Ent} (hs : SR S gh w sto) (hf : Fr sto.length lo S gh w sto S' (gh ++ [gv]) w' (sto ++ [e])) (hb : Below w.heap.size w w') (hS : ∀ b o, S' b o → S b o ∨ (w.heap.size ≤ b ∧ b < w'.heap.size)) (hnew : ∀ g, blk gv = some g → w.heap.size ≤ g)
    (hE : RepE S' (gh ++ [gv]) (sto ++ [e]) w' gv e) : SR S' (gh ++ [gv]) w' (sto ++ [e]) where
  len := by simp [hs.len]
  ent := fun i e' hi => by
    rcases Nat.lt_or_ge i sto.length with h | h
    · rw [List.getElem?_append_left h] at hi
      obtain ⟨gv', h1, h2⟩ := hs.ent i e' hi
      refine ⟨gv', by rw [List.getElem?_append_left (by rw [hs.len]; exact h)]; exact h1, RepE.mono hs hf h2 fun g hg => ?_⟩
      have hlt := h2.lt hg
      exact ⟨hb.block g hlt, fun o => ⟨fun ho => (hS g o ho).resolve_right (by omega), fun ho => (hf.stable g o ho).1⟩⟩
    · rw [List.getElem?_append_right h] at hi
      have h0 : i - sto.length = 0 := by
        rcases Nat.eq_zero_or_pos (i - sto.length) with h0 | h0
        · exact h0
        · rw [List.getElem?_eq_none (by simp; omega)] at hi; cases hi
      rw [h0] at hi
      simp only [List.getElem?_cons_zero, Option.some.injEq] at hi
      subst hi
      exact ⟨gv, by rw [List.getElem?_append_right (by rw [hs.len]; exact h), hs.len, h0]; rfl, hE⟩
  inj := fun i j g hi hj => by
    have look : ∀ i, blkAt (gh ++ [gv]) i = some g → (i < gh.length ∧ blkAt gh i = some g ∧ g < w.heap.size) ∨ (i = gh.length ∧ w.heap.size ≤ g) := by
      intro i hi
      unfold blkAt at hi ⊢
      rcases Nat.lt_or_ge i gh.length with h | h
      · rw [List.getElem?_append_left h] at hi
        exact .inl ⟨h, hi, hs.lt hi⟩
      · rw [List.getElem?_append_right h] at hi
        rcases Nat.eq_zero_or_pos (i - gh.length) with h0 | h0
        · rw [h0] at hi
          exact .inr ⟨by omega, hnew g hi⟩
        · rw [List.getElem?_eq_none (by simp; omega)] at hi; cases hi
    rcases look i hi with ⟨_, a, b⟩ | ⟨a, b⟩ <;> rcases look j hj with ⟨_, c, d⟩ | ⟨c, d⟩
    · exact hs.inj i j g a c
    · omega
    · omega
    · omega
  stay := fun b o h => by
    rcases hS b o h with h | h
    · exact Nat.lt_of_lt_of_le (hs.stay b o h) hb.size
    · exact h.2
/-- An entry changes. -/
theorem upd_fr {lo id : Nat} {gv gv' : Value} {e e' : Ent} (he : sto[id]? = some e) (hg : gh[id]? = some gv) (hlo : lo ≤ id) (hos : w'.os = w.os) (htape : w'.tape = w.tape) (hout : w'.output = w.output) (hsize : w.heap.size ≤ w'.heap.size)
    (hblock : ∀ b, b < w.heap.size → blk gv ≠ some b → w'.heap[b]? = w.heap[b]?) (hst : ∀ b o, S b o → S' b o ∧ w'.cell? ⟨b, o, none⟩ = w.cell? ⟨b, o, none⟩) (hnew : ∀ g, blk gv' = some g → blk gv = some g ∨ w.heap.size ≤ g) (hk : KeepE gv gv' e e') :
    Fr sto.length lo S gh w sto S' (gh.set id gv') w' (sto.set id e') where
  os := hos
  tape := htape
  output := hout
  size := hsize
  stable := hst
  block := fun b hb hn => hblock b hb fun h => hn id hlo (by unfold blkAt; rw [hg]; exact h)
  low := fun i hi => ⟨List.getElem?_set_ne (by omega), List.getElem?_set_ne (by omega)⟩
  new := fun i g hi hgi => by
    unfold blkAt at hgi
    rcases Nat.decEq id i with h | h
    · rw [List.getElem?_set_ne h] at hgi
      exact .inl ⟨i, hi, hgi⟩
    · subst h
      rw [List.getElem?_set_self (List.getElem?_eq_some_iff.1 hg).1] at hgi
      rcases hnew g hgi with h | h
      · exact .inl ⟨id, hi, by unfold blkAt; rw [hg]; exact h⟩
      · exact .inr h
  keep := fun i e0 gv0 hi h1 h2 => by
    rcases Nat.decEq id i with h | h
    · exact ⟨e0, gv0, by rw [List.getElem?_set_ne h]; exact h1, by rw [List.getElem?_set_ne h]; exact h2, KeepE.refl gv0 e0⟩
    · subst h
      rw [he] at h1; rw [hg] at h2
      cases h1; cases h2
      exact ⟨e', gv', by rw [List.getElem?_set_self (List.getElem?_eq_some_iff.1 he).1], by rw [List.getElem?_set_self (List.getElem?_eq_some_iff.1 hg).1], hk⟩
theorem upd_sr {lo id : Nat} {gv gv' : Value} {e e' : Ent} (hs : SR S gh w sto) (he : sto[id]? = some e) (hg : gh[id]? = some gv) (hf : Fr sto.length lo S gh w sto S' (gh.set id gv') w' (sto.set id e'))
    (hblock : ∀ b, b < w.heap.size → blk gv ≠ some b → w'.heap[b]? = w.heap[b]?) (hS : ∀ b o, S' b o → S b o ∨ (blk gv' = some b ∧ b < w'.heap.size)) (hnew : ∀ g, blk gv' = some g → blk gv = some g ∨ w.heap.size ≤ g) (hE : RepE S' (gh.set id gv') (sto.set id e') w' gv' e') :
    SR S' (gh.set id gv') w' (sto.set id e') where
  len := by simp [hs.len]
  ent := fun i e0 hi => by
    rcases Nat.decEq id i with h | h
    · rw [List.getElem?_set_ne h] at hi
      obtain ⟨gv0, h1, h2⟩ := hs.ent i e0 hi
      refine ⟨gv0, by rw [List.getElem?_set_ne h]; exact h1, RepE.mono hs hf h2 fun g hg0 => ?_⟩
      have hlt := h2.lt hg0
      have hb0 : blkAt gh i = some g := by unfold blkAt; rw [h1]; exact hg0
      have hne : blk gv ≠ some g := fun hh => h (hs.inj id i g (by unfold blkAt; rw [hg]; exact hh) hb0)
      refine ⟨hblock g hlt hne, fun o => ⟨fun ho => ?_, fun ho => (hf.stable g o ho).1⟩⟩
      rcases hS g o ho with h' | ⟨h', _⟩
      · exact h'
      · rcases hnew g h' with h' | h'
        · exact absurd h' hne
        · omega
    · subst h
      rw [List.getElem?_set_self (List.getElem?_eq_some_iff.1 he).1] at hi
      cases hi
      exact ⟨gv', by rw [List.getElem?_set_self (List.getElem?_eq_some_iff.1 hg).1], hE⟩
  inj := fun i j g hi hj => by
    have look : ∀ i, blkAt (gh.set id gv') i = some g → (i ≠ id ∧ blkAt gh i = some g) ∨ (i = id ∧ (blkAt gh id = some g ∨ w.heap.size ≤ g)) := by
      intro i hi
      unfold blkAt at hi ⊢
      rcases Nat.decEq id i with h | h
      · rw [List.getElem?_set_ne h] at hi
        exact .inl ⟨fun e => h e.symm, hi⟩
      · subst h
        rw [List.getElem?_set_self (List.getElem?_eq_some_iff.1 hg).1] at hi
        refine .inr ⟨rfl, ?_⟩
        rw [hg]
        exact hnew g hi
    rcases look i hi with ⟨a, b⟩ | ⟨a, b⟩ <;> rcases look j hj with ⟨c, d⟩ | ⟨c, d⟩
    · exact hs.inj i j g b d
    · rcases d with d | d
      · exact absurd (hs.inj i id g b d) a
      · have := hs.lt b; omega
    · rcases b with b | b
      · exact absurd (hs.inj j id g d b) c
      · have := hs.lt d; omega
    · omega
  stay := fun b o h => by
    rcases hS b o h with h | h
    · exact Nat.lt_of_lt_of_le (hs.stay b o h) hf.size
    · exact h.2
end
end Go.Proofs.YtomameefmobnlaaDoor
namespace Go.Proofs.YtomameefmobnlaaDoor
open Go Go.RowKit

/-- What an operation that makes or writes entries leaves. -/
def Eff (P : Program) (lo : Nat) (S : Stay) (gh : List Value) (w : World) (sto : Sto) (x : Sem Value) (d : D) (sto' : Sto) : Prop :=
  ∃ v S' gh' w', x.run P w = .ok v w' ∧ RepD S' gh' sto' w' v d ∧ SR S' gh' w' sto' ∧ Fr sto.length lo S gh w sto S' gh' w' sto'
section
variable {P : Program} {T : Tab} {S : Stay} {gh : List Value} {sto : Sto} {w : World}
theorem below_new (w : World) (o : Obj) : Below w.heap.size w (w.alloc o) := (Below.refl _ _).alloc (Nat.le_refl _) o
theorem newVar_run (t : TypeId) (v : Value) : (newVar t v).run P w = .ok ⟨w.heap.size, 0, none⟩ (w.alloc (.cells v.cells t)) := by
  simp [newVar, newRow]
/-- A box. -/
theorem box_eff {lo : Nat} (hlo : lo ≤ sto.length) (hs : SR S gh w sto) (t : TypeId) {v : Value} {ds : List D} (h : Pw (fun u d => u.oneCell' = true ∧ RepC S gh sto w u d) v.cells.toList ds) : Eff P lo S gh w sto (do pure (.pointer (some (← newVar t v)))) (.ptr sto.length 0) (sto ++ [.cells ds]) := by
  have hb := below_new w (.cells v.cells t)
  have hnew : ∀ g, blk (.pointer (some ⟨w.heap.size, 0, none⟩)) = some g → w.heap.size ≤ g := by
    intro g hg
    simp only [blk, Option.some.injEq] at hg
    omega
  have hf : Fr sto.length lo S gh w sto S (gh ++ [.pointer (some ⟨w.heap.size, 0, none⟩)]) (w.alloc (.cells v.cells t)) (sto ++ [.cells ds]) := push_fr hs hlo hb (fun _ _ h => h) hnew
  refine ⟨.pointer (some ⟨w.heap.size, 0, none⟩), S, _, _, ?_, ?_, push_sr hs hf hb (fun b o h => .inl h) hnew ?_, hf⟩
  · simp only [Sem.run_bind, newVar_run, Result.andThen_ok, Sem.run_pure]
  · refine ⟨by simp, w.heap.size, ?_, rfl⟩
    rw [← hs.len]
    simp
  · refine ⟨w.heap.size, v.cells, t, rfl, heap_alloc_new w _, h.1, fun o ho => ?_, fun k u d hu hd => ?_⟩
    · have := hs.stay _ _ ho; omega
    · have := h.2 k u d hu hd
      exact ⟨this.1, RepC.mono hs hf this.2⟩
/-- A slice of the call's own. -/
theorem arr_eff {lo : Nat} {wr : Bool} (hlo : lo ≤ sto.length) (hs : SR S gh w sto) {w' : World} {cur : Array Value} {e : TypeId} {s n cap : Nat} {cs : List V} (hb : Below w.heap.size w w') (hg : w'.heap[w.heap.size]? = some (.cells cur e (0, 0))) (hn : n ≤ cap) (hc : cap ≤ maxLen) (hsz : cur.size = cap * s) (hl : cs.length = n * s)
    (hr : ∀ (j : Nat) (u : Value) (c : V), cur.toList[j]? = some u → cs[j]? = some c → u.oneCell' = true ∧ RepV S w u c) {x : Sem Value} (hx : x.run P w = .ok (.slice (some ⟨w.heap.size, 0, none⟩) n cap) w') : Eff P lo S gh w sto x (.arr sto.length n) (sto ++ [.arr (some (e, s)) wr n cs]) := by
  have hlt : w.heap.size < w'.heap.size := (Array.getElem?_eq_some_iff.1 hg).1
  obtain ⟨S', hS'⟩ : ∃ S' : Stay, S' = if wr then S else fun b o => S b o ∨ (b = w.heap.size ∧ o < n * s) := ⟨_, rfl⟩
  have hsub : ∀ b o, S b o → S' b o := by
    intro b o h
    rw [hS']
    cases wr
    · exact .inl h
    · exact h
  have hinv : ∀ b o, S' b o → S b o ∨ (w.heap.size ≤ b ∧ b < w'.heap.size) := by
    intro b o h
    rw [hS'] at h
    cases wr
    · rcases h with h | ⟨rfl, _⟩
      · exact .inl h
      · exact .inr ⟨Nat.le_refl _, hlt⟩
    · exact .inl h
  have hnew : ∀ g, blk (.slice (some ⟨w.heap.size, 0, none⟩) n cap) = some g → w.heap.size ≤ g := by
    intro g hg
    simp only [blk, Option.some.injEq] at hg
    omega
  have hf : Fr sto.length lo S gh w sto S' (gh ++ [.slice (some ⟨w.heap.size, 0, none⟩) n cap]) w' (sto ++ [.arr (some (e, s)) wr n cs]) := push_fr hs hlo hb hsub hnew
  refine ⟨_, S', _, w', hx, ?_, push_sr hs hf hb hinv hnew ?_, hf⟩
  · refine ⟨by simp, ⟨_, _, rfl⟩, fun es' wr' m cs' h => ?_⟩
    simp only [List.getElem?_append_right (Nat.le_refl _), Nat.sub_self, List.getElem?_cons_zero, Option.some.injEq, Ent.arr.injEq] at h
    obtain ⟨_, _, rfl, _⟩ := h
    refine ⟨Nat.le_refl _, fun _ => ?_⟩
    rw [← hs.len]
    simp
  · refine ⟨w.heap.size, cap, cur, rfl, hg, hn, hc, hsz, hl, fun j u c hu hcj => ⟨(hr j u c hu hcj).1, RepV.mono hf.stable (hr j u c hu hcj).2⟩, ?_⟩
    have hno : ∀ o, ¬ S w.heap.size o := fun o ho => by have := hs.stay _ _ ho; omega
    rw [hS']
    cases wr with
    | true => simp only [if_true]; exact hno
    | false =>
      simp only [Bool.false_eq_true, if_false]
      exact fun o => ⟨fun h => h.elim (fun h => absurd h (hno o)) (fun h => h.2), fun h => .inr (by simpa using h)⟩
/-- A slice of the call's own gets longer, in place or anew. -/
theorem arr_upd {lo id n n2 cap2 g2 s : Nat} {es : Option (TypeId × Nat)} {e : TypeId} {wr : Bool} {cs cs2 : List V} {gv : Value} {cur2 : Array Value} (hs : SR S gh w sto) (hes : sto[id]? = some (.arr es wr n cs)) (hgv : gh[id]? = some gv) (hlid : lo ≤ id) (hn : n < n2) (hess : es = none ∨ es = some (e, s)) {w' : World}
    (hos : w'.os = w.os) (htape : w'.tape = w.tape) (hout : w'.output = w.output) (hsize : w.heap.size ≤ w'.heap.size) (hblock : ∀ b, b < w.heap.size → blk gv ≠ some b → w'.heap[b]? = w.heap[b]?)
    (hg2 : w'.heap[g2]? = some (.cells cur2 e (0, 0))) (h1 : n2 ≤ cap2) (h2 : cap2 ≤ maxLen) (h3 : cur2.size = cap2 * s) (h4 : cs2.length = n2 * s) (hr : ∀ (j : Nat) (u : Value) (c : V), cur2.toList[j]? = some u → cs2[j]? = some c → u.oneCell' = true ∧ RepV S w u c)
    (hplace : (blk gv = some g2 ∧ ∀ o, o < n * s → w'.cell? ⟨g2, o, none⟩ = w.cell? ⟨g2, o, none⟩) ∨ (w.heap.size ≤ g2 ∧ ∀ b, b < w.heap.size → w'.heap[b]? = w.heap[b]?))
    {x : Sem Value} (hx : x.run P w = .ok (.slice (some ⟨g2, 0, none⟩) n2 cap2) w') : Eff P lo S gh w sto x (.arr id n2) (sto.set id (.arr (some (e, s)) wr n2 cs2)) := by
  obtain ⟨gv', hgv', hE⟩ := hs.ent id _ hes
  rw [hgv] at hgv'
  cases hgv'
  have hlt : g2 < w'.heap.size := (Array.getElem?_eq_some_iff.1 hg2).1
  -- what stays of the old block
  have hold : ∀ g o, blk gv = some g → S g o → wr = false ∧ o < n * s := by
    intro g o hg ho
    rcases hess with rfl | rfl
    · obtain ⟨rfl, _⟩ := hE; simp [blk] at hg
    · obtain ⟨g', cap, cur, rfl, _, _, _, _, _, _, h7⟩ := hE
      simp only [blk, Option.some.injEq] at hg
      subst hg
      cases wr with
      | true => simp only [if_true] at h7; exact absurd ho (h7 o)
      | false => simp only [Bool.false_eq_true, if_false] at h7; exact ⟨rfl, (h7 o).1 ho⟩
  have hiff : wr = false → ∀ g o, blk gv = some g → (S g o ↔ o < n * s) := by
    intro hw g o hg
    rcases hess with rfl | rfl
    · obtain ⟨rfl, _⟩ := hE; simp [blk] at hg
    · obtain ⟨g', cap, cur, rfl, _, _, _, _, _, _, h7⟩ := hE
      simp only [blk, Option.some.injEq] at hg
      subst hg
      subst hw
      simp only [Bool.false_eq_true, if_false] at h7
      exact h7 o
  obtain ⟨S', hS'⟩ : ∃ S' : Stay, S' = if wr then S else fun b o => S b o ∨ (b = g2 ∧ o < n2 * s) := ⟨_, rfl⟩
  have hsub : ∀ b o, S b o → S' b o := by
    intro b o h
    rw [hS']
    cases wr
    · exact .inl h
    · exact h
  have hinv : ∀ b o, S' b o → S b o ∨ (blk (.slice (some ⟨g2, 0, none⟩) n2 cap2) = some b ∧ b < w'.heap.size) := by
    intro b o h
    rw [hS'] at h
    cases wr
    · rcases h with h | ⟨rfl, _⟩
      · exact .inl h
      · exact .inr ⟨rfl, hlt⟩
    · exact .inl h
  have hnew : ∀ g, blk (.slice (some ⟨g2, 0, none⟩) n2 cap2) = some g → blk gv = some g ∨ w.heap.size ≤ g := by
    intro g hg
    simp only [blk, Option.some.injEq] at hg
    subst hg
    rcases hplace with h | h
    · exact .inl h.1
    · exact .inr h.1
  have hst : ∀ b o, S b o → S' b o ∧ w'.cell? ⟨b, o, none⟩ = w.cell? ⟨b, o, none⟩ := by
    intro b o h
    refine ⟨hsub b o h, ?_⟩
    have hb := hs.stay b o h
    by_cases hbg : blk gv = some b
    · obtain ⟨_, ho⟩ := hold b o hbg h
      rcases hplace with ⟨h', h''⟩ | ⟨_, h''⟩
      · rw [hbg] at h'
        cases h'
        exact h'' o ho
      · exact World.cell?_of_block (w := w) (h'' b hb)
    · exact World.cell?_of_block (w := w) (hblock b hb hbg)
  have hf : Fr sto.length lo S gh w sto S' (gh.set id (.slice (some ⟨g2, 0, none⟩) n2 cap2)) w' (sto.set id (.arr (some (e, s)) wr n2 cs2)) := upd_fr hes hgv hlid hos htape hout hsize hblock hst hnew ⟨by omega, fun e => by omega⟩
  have hid : id < sto.length := (List.getElem?_eq_some_iff.1 hes).1
  refine ⟨_, S', _, w', hx, ⟨by simpa using hid, ⟨_, _, rfl⟩, fun es' wr' m cs' h => ?_⟩, upd_sr hs hes hgv hf hblock hinv hnew ⟨g2, cap2, cur2, rfl, hg2, h1, h2, h3, h4, fun j u c hu hc => ⟨(hr j u c hu hc).1, RepV.mono hf.stable (hr j u c hu hc).2⟩, ?_⟩, hf⟩
  · rw [List.getElem?_set_self hid] at h
    simp only [Option.some.injEq, Ent.arr.injEq] at h
    obtain ⟨_, _, rfl, _⟩ := h
    exact ⟨Nat.le_refl _, fun _ => List.getElem?_set_self (by rw [hs.len]; exact hid)⟩
  · rw [hS']
    cases hw : wr with
    | true =>
      simp only [if_true]
      intro o ho
      rcases hplace with ⟨h', _⟩ | ⟨h', _⟩
      · have := (hold g2 o h' ho).1
        rw [hw] at this; cases this
      · have := hs.stay _ _ ho; omega
    | false =>
      simp only [Bool.false_eq_true, if_false]
      intro o
      refine ⟨fun h => ?_, fun h => .inr (by simpa using h)⟩
      rcases h with h | h
      · rcases hplace with ⟨h', _⟩ | ⟨h', _⟩
        · have := (hiff hw g2 o h').1 h
          have : n * s ≤ n2 * s := Nat.mul_le_mul_right _ (by omega)
          omega
        · have := hs.stay _ _ h; omega
      · exact h.2
theorem run_append_zero {t ty e : TypeId} {i : TypeInfo} (ht : P.underlying t = some (.slice e)) (hi : P.info? e = some i) {a : Option Addr} {n cap : Nat} (hn : n ≤ cap) (b : Option Addr) (c : Nat) :
    (Builtin.append_ #[t, t] ty #[.slice a n cap, .slice b 0 c]).run P w = .ok (.slice a n cap) w := by
  cases a <;> cases b <;> simp [Builtin.append_, run_underlying ht, sizeOf, typeInfo, hi, Builtin.lenOf, Builtin.firstCells, hn, storeCells, loadCells, loadCellsFrom]
variable (hT : T.OK P)
include hT
theorem tab_full {t : TypeId} {i : TyI} (h : T t = some i) : ∃ x, P.info? t = some x ∧ x.zero = some i.zero ∧ x.size = i.size ∧ x.bytes = i.bytes ∧ i.zero.cells.size = i.size := by
  obtain ⟨x, h1, h2, h3, h4⟩ := tab_info hT h
  exact ⟨x, h1, h2, h3, h4, (hT t i h).2.2⟩
theorem evAppend_eff {lo : Nat} {wr : Bool} (hlo : lo ≤ sto.length) (hs : SR S gh w sto) {t : TypeId} (ty : TypeId) {x y d : D} {sto' : Sto} {vx vy : Value} (hx : RepC S gh sto w vx x) (hy : RepD S gh sto w vy y) (he : evAppend T lo wr sto t x y = some (d, sto')) :
    Eff P lo S gh w sto (Builtin.append_ #[t, t] ty #[vx, vy]) d sto' := by
  unfold evAppend at he
  split at he
  · rename_i e hk
    have hu := kd_slice hT hk
    split at he
    · rename_i j m news hj hv
      obtain ⟨ti, hi, hz1, hz2, hz3, hz4⟩ := tab_full hT hj
      split at he
      · rename_i hc
        obtain ⟨hpos, hlen, hby⟩ := hc
        obtain ⟨ay, capy, rfl, y1, y2, y3, y4⟩ := RepV.sl_inv (view_rep hs hy hv)
        -- the source's cells
        have src : 0 < m → ∃ (ad : Addr) (nv : List Value), ay = some ad ∧ nv.length = m * j.size ∧ (∀ (k : Nat) (u : Value), nv[k]? = some u → w.cell? (ad.add k) = some u) ∧ (∀ u ∈ nv, u.oneCell' = true) ∧ Pw (fun u c => u.oneCell' = true ∧ RepV S w u c) nv news := by
          intro hm
          have hne : news ≠ [] := by
            intro e0
            rw [e0] at hlen
            have : 0 < m * j.size := Nat.mul_pos hm hpos
            simp only [List.length_nil] at hlen
            omega
          obtain ⟨b, off, us, rfl, h5, h6⟩ := y4 hne
          have hmap : ∀ (k : Nat) (u : Value), ((List.range news.length).map us)[k]? = some u → k < news.length ∧ us k = u := by
            intro k u hu
            have hj : k < news.length := by simpa using (List.getElem?_eq_some_iff.1 hu).1
            rw [List.getElem?_map, List.getElem?_range hj] at hu
            simpa [hj] using hu
          refine ⟨⟨b, off, none⟩, (List.range news.length).map us, rfl, by simp [hlen], fun k u hu => ?_, fun u hu => ?_, by simp, fun k u c hu hcc => ?_⟩
          · obtain ⟨hk1, rfl⟩ := hmap k u hu
            rw [addr_add]; exact (h5 k hk1).2.2
          · obtain ⟨k, hk⟩ := List.mem_iff_getElem?.1 hu
            obtain ⟨hk1, rfl⟩ := hmap k u hk
            exact (h5 k hk1).2.1
          · obtain ⟨hk1, rfl⟩ := hmap k u hu
            exact ⟨(h5 k hk1).2.1, h6 k c hcc⟩
        -- onto nil
        have onNil : 0 < m → m ≤ 1000000000 → ∃ cap cur w', (Builtin.append_ #[t, t] ty #[.slice none 0 0, .slice ay m capy]).run P w = .ok (.slice (some ⟨w.heap.size, 0, none⟩) m cap) w' ∧ Below w.heap.size w w' ∧ w'.heap[w.heap.size]? = some (.cells cur e (0, 0)) ∧ m ≤ cap ∧ cap ≤ maxLen ∧ cur.size = cap * j.size ∧
            ∀ (k : Nat) (u : Value) (c : V), cur.toList[k]? = some u → news[k]? = some c → u.oneCell' = true ∧ RepV S w u c := by
          intro hm hm2
          obtain ⟨ad, nv, rfl, n1, n2, n3, n4⟩ := src hm
          obtain ⟨g, cap, w', hr, ho, hgr, hat, hlt⟩ := run_append_lies (P := P) w t ty 0 e ti j.zero j.size j.bytes hu hi hz1 hz2 hz3 hz4 hpos (.slice none 0 0) 0 [] (World.ownsRow_nil w 0 e j.size) ad m capy nv n1 n2 n3 hm (by unfold maxLen; omega) (by rw [Nat.zero_add]; have : m * j.bytes ≤ 1000000000 * 100000 := Nat.mul_le_mul hm2 hby; omega) (Nat.zero_le _) w.heap.size rfl
          rcases hat with hat | rfl
          · simp [Value.ownBlock] at hat
          · rw [Nat.zero_add] at hr ho
            rcases ho.2 with ⟨h0, _⟩ | ⟨g', cap', cur, h0, _, hh, hn, hcm, hcs, htk⟩
            · cases h0
            · simp only [Value.slice.injEq, Option.some.injEq, Addr.mk.injEq, and_true, true_and] at h0
              obtain ⟨rfl, rfl⟩ := h0
              refine ⟨cap, cur, w', hr, ⟨hgr.os, hgr.tape, hgr.output, hgr.size, fun k hk => hgr.block k hk (by simp [Value.ownBlock])⟩, hh, hn, hcm, hcs, fun k u c hu hcc => ?_⟩
              have hk : k < m * j.size := by have := (List.getElem?_eq_some_iff.1 hcc).1; omega
              rw [List.nil_append] at htk
              have hu' : nv[k]? = some u := by rw [← htk, List.getElem?_take_of_lt hk]; exact hu
              exact n4.2 k u c hu' hcc
        split at he
        · -- nil
          have hvx : vx = .slice none 0 0 := hx
          subst hvx
          split at he
          · rename_i hm2
            split at he
            · rename_i hm
              subst hm
              simp only [Option.some.injEq, Prod.mk.injEq] at he
              obtain ⟨rfl, rfl⟩ := he
              exact ⟨_, S, gh, w, run_append_zero hu hi (Nat.le_refl _) ay capy, rfl, hs, Fr.refl _ _ _ _ _ _⟩
            · rename_i hm
              simp only [Option.some.injEq, Prod.mk.injEq] at he
              obtain ⟨rfl, rfl⟩ := he
              obtain ⟨cap, cur, w', h1, h2, h3, h4, h5, h6, h7⟩ := onNil (by omega) hm2
              exact arr_eff hlo hs h2 h3 h4 h5 h6 hlen h7 h1
          · cases he
        · rename_i id n
          split at he
          · rename_i es wr' n' cs hes
            split at he
            · rename_i hcc
              obtain ⟨rfl, hlid, hnm, hes2⟩ := hcc
              obtain ⟨hid, ⟨a0, c0, rfl⟩, h3⟩ := hx
              have hgv := (h3 es wr' n' cs hes).2 rfl
              obtain ⟨gv, hgv', hE⟩ := hs.ent id _ hes
              rw [hgv] at hgv'
              cases hgv'
              split at he
              · rename_i hm
                subst hm
                simp only [Option.some.injEq, Prod.mk.injEq] at he
                obtain ⟨rfl, rfl⟩ := he
                have hn : n' ≤ c0 := by
                  cases es with
                  | none => obtain ⟨h0, h1, _⟩ := hE; omega
                  | some es => obtain ⟨g, cap, cur, h0, _, h1, _⟩ := hE; cases h0; exact h1
                exact ⟨_, S, gh, w, run_append_zero hu hi hn ay capy, ⟨hid, ⟨a0, c0, rfl⟩, h3⟩, hs, Fr.refl _ _ _ _ _ _⟩
              · rename_i hm
                simp only [Option.some.injEq, Prod.mk.injEq] at he
                obtain ⟨rfl, rfl⟩ := he
                have hm0 : 0 < m := Nat.pos_of_ne_zero hm
                cases es with
                | none =>
                  obtain ⟨h0, rfl, rfl⟩ := hE
                  simp only [Value.slice.injEq, true_and] at h0
                  obtain ⟨rfl, rfl⟩ := h0
                  obtain ⟨cap, cur, w', q1, q2, q3, q4, q5, q6, q7⟩ := onNil (by omega) (by omega)
                  have := arr_upd (P := P) (n2 := m) (cs2 := news) hs hes hgv hlid hm0 (.inl rfl) q2.os q2.tape q2.output q2.size (fun b hb _ => q2.block b hb) q3 q4 q5 q6 hlen q7 (.inr ⟨Nat.le_refl _, fun b hb => q2.block b hb⟩) q1
                  simpa using this
                | some es =>
                  obtain rfl : es = (e, j.size) := by
                    rcases hes2 with h | h
                    · cases h
                    · cases h; rfl
                  obtain ⟨g, cap, cur, h0, hh, q1, q2, q3, q4, q5, q6⟩ := hE
                  simp only [Value.slice.injEq, true_and] at h0
                  obtain ⟨rfl, rfl⟩ := h0
                  obtain ⟨ad, nv, rfl, n1, n2, n3, n4⟩ := src (by omega)
                  have hxl : (cur.toList.take (n' * j.size)).length = n' * j.size := by
                    have : n' * j.size ≤ c0 * j.size := Nat.mul_le_mul_right _ q1
                    simp only [List.length_take, Array.length_toList, q3]
                    omega
                  have hold : Pw (fun u c => u.oneCell' = true ∧ RepV S w u c) (cur.toList.take (n' * j.size)) cs := by
                    refine ⟨by rw [hxl, q4], fun k u c hu hcc => ?_⟩
                    have hk : k < n' * j.size := by have := (List.getElem?_eq_some_iff.1 hu).1; omega
                    rw [List.getElem?_take_of_lt hk] at hu
                    exact q5 k u c hu hcc
                  have hall := hold.append n4
                  have hcsl : (cs ++ news).length = (n' + m) * j.size := by rw [List.length_append, q4, hlen, Nat.add_mul]
                  by_cases hroom : n' + m ≤ c0
                  · have hfit : n' * ti.size + nv.length ≤ cur.size := by
                      rw [hz2, n1, q3, ← Nat.add_mul]; exact Nat.mul_le_mul_right _ hroom
                    have hrun := run_append_room (P := P) w t ty e ti hu hi g n' c0 cur hh ad m capy nv (by rw [hz2]; exact n1) n2 n3 hroom hfit
                    rw [hz2] at hrun
                    obtain ⟨l2, hl2⟩ : ∃ l2, l2 = cur.toList.take (n' * j.size) ++ nv ++ cur.toList.drop (n' * j.size + nv.length) := ⟨_, rfl⟩
                    rw [← hl2] at hrun
                    have hl2len : l2.length = c0 * j.size := by
                      rw [hz2] at hfit
                      rw [hl2]
                      simp only [List.length_append, hxl, List.length_drop, Array.length_toList]
                      omega
                    have hl2k : ∀ (k : Nat), k < (n' + m) * j.size → l2[k]? = (cur.toList.take (n' * j.size) ++ nv)[k]? := by
                      intro k hk
                      rw [hl2, List.getElem?_append_left (by rw [List.length_append, hxl, n1, ← Nat.add_mul]; exact hk)]
                    refine arr_upd (P := P) (w' := w.setRow g l2.toArray) (n2 := n' + m) (cur2 := l2.toArray) hs hes hgv hlid (Nat.lt_add_of_pos_right hm0) (.inr rfl) rfl rfl rfl (by simp) (fun b hb hne => setRow_other w g b _ (fun e => hne (by rw [e]; rfl))) (setRow_heap w g cur _ e _ hh) hroom q2 (by rw [← hl2len]; rfl) hcsl (fun k u c hu hcc => ?_) (.inl ⟨rfl, fun o ho => ?_⟩) hrun
                    · have hk : k < (n' + m) * j.size := by have := (List.getElem?_eq_some_iff.1 hcc).1; omega
                      have hu' : l2[k]? = some u := hu
                      rw [hl2k k hk] at hu'
                      exact hall.2 k u c hu' hcc
                    · rw [cell_setRow_same w g o cur _ e _ hh, cell_heap hh]
                      have hk : o < (n' + m) * j.size := Nat.lt_of_lt_of_le ho (Nat.mul_le_mul_right _ (by omega))
                      rw [List.getElem?_toArray, hl2k o hk, List.getElem?_append_left (by rw [hxl]; exact ho), List.getElem?_take_of_lt ho]
                  · have holds : ∀ (k : Nat) (u : Value), (cur.toList.take (n' * j.size))[k]? = some u → w.cell? ((⟨g, 0, none⟩ : Addr).add k) = some u := by
                      intro k u hu
                      have hk : k < n' * j.size := by have := (List.getElem?_eq_some_iff.1 hu).1; omega
                      rw [List.getElem?_take_of_lt hk] at hu
                      rw [addr_add, Nat.zero_add, cell_heap hh]; exact hu
                    have hby2 : (n' + m) * ti.bytes ≤ 140737488355328 := by
                      rw [hz3]
                      have : (n' + m) * j.bytes ≤ 1000000000 * 100000 := Nat.mul_le_mul hnm hby
                      omega
                    have hrun := run_append_grow (P := P) w t ty e ti j.zero hu hi hz1 ⟨g, 0, none⟩ n' c0 (cur.toList.take (n' * j.size)) (by rw [hz2]; exact hxl) holds ad m capy nv (by rw [hz2]; exact n1) n2 (by omega) (by omega) (growslice_fits (by omega) hby2)
                    have hge := grownCap_ge w (n' + m) c0 e
                    have hcm : grownCap w (n' + m) c0 e ≤ maxLen := grownCap_le_maxLen w (n' + m) c0 e (by unfold maxLen; omega)
                    refine arr_upd (P := P) (w' := w.drew.alloc (.cells ((cur.toList.take (n' * j.size)).toArray ++ nv.toArray ++ Builtin.zeroCells j.zero.cells (grownCap w (n' + m) c0 e - (n' + m))) e)) (n2 := n' + m) hs hes hgv hlid (Nat.lt_add_of_pos_right hm0) (.inr rfl) rfl rfl rfl (by simp) (fun b hb _ => heap_alloc_old w.drew _ hb) (heap_alloc_new w.drew _) hge hcm ?_ hcsl (fun k u c hu hcc => ?_) (.inr ⟨Nat.le_refl _, fun b hb => heap_alloc_old w.drew _ hb⟩) hrun
                    · simp only [Array.size_append, List.size_toArray, size_zeroCells, hz4, hxl, n1, ← Nat.add_mul]
                      congr 1
                      omega
                    · have hk : k < (n' + m) * j.size := by have := (List.getElem?_eq_some_iff.1 hcc).1; omega
                      simp only [Array.toList_append] at hu
                      rw [List.getElem?_append_left (by rw [List.length_append, hxl, n1, ← Nat.add_mul]; exact hk)] at hu
                      exact hall.2 k u c hu hcc
            · cases he
          · cases he
        · cases he
      · cases he
    · cases he
  · cases he
end
end Go.Proofs.YtomameefmobnlaaDoor
namespace Go.Proofs.YtomameefmobnlaaDoor
open Go Go.RowKit

section
variable {P : Program} {T : Tab} {S : Stay} {gh : List Value} {sto : Sto} {w : World}
abbrev CellV (S : Stay) (w : World) : Value → V → Prop := fun u c => u.oneCell' = true ∧ RepV S w u c
theorem cellsV_rep (hs : SR S gh w sto) {v : Value} {d : D} {xs : List V} (h : RepD S gh sto w v d) (hc : cellsV sto d = some xs) : Pw (CellV S w) v.cells.toList xs := by
  unfold cellsV at hc
  split at hc
  · rename_i ds hd
    have hp := RepD.cells h hd
    obtain ⟨l1, l2⟩ := viewL_rep hs _ ds xs hp.1 (fun j u d hu hd => (hp.2 j u d hu hd).2) hc
    refine ⟨l1, fun j u c hu hcc => ⟨?_, l2 j u c hu hcc⟩⟩
    have hlt := (List.getElem?_eq_some_iff.1 hu).1
    exact (hp.2 j u _ hu (List.getElem?_eq_getElem (by rw [← hp.1]; exact hlt))).1
  · cases hc
theorem fillV_sound (hs : SR S gh w sto) (s : Nat) : ∀ (parts : List (Nat × D)) (vparts : List (Nat × Value)) (cs : List V) (arr : Array Value) (out : List V), Pw (fun (u : Nat × Value) (d : Nat × D) => u.1 = d.1 ∧ RepD S gh sto w u.2 d.2) vparts parts → Pw (CellV S w) arr.toList cs → fillV sto s cs parts = some out → ∃ arr', Instr.fill (fun i => some (i * s, s)) arr vparts = some arr' ∧ Pw (CellV S w) arr'.toList out
  | [], [], cs, arr, out, _, h, hf => by simp only [fillV, Option.some.injEq] at hf; subst hf; exact ⟨arr, rfl, h⟩
  | [], _ :: _, _, _, _, h, _, _ => by have := h.1; simp at this
  | _ :: _, [], _, _, _, h, _, _ => by have := h.1; simp at this
  | (i, d) :: parts, (i', v) :: vparts, cs, arr, out, hp, h, hf => by
    obtain ⟨hi, hv⟩ := hp.2 0 _ _ rfl rfl
    simp only at hi hv
    subst hi
    have hp' : Pw (fun (u : Nat × Value) (d : Nat × D) => u.1 = d.1 ∧ RepD S gh sto w u.2 d.2) vparts parts := by
      have := hp.drop 1; simpa using this
    simp only [fillV] at hf
    split at hf
    · rename_i ds h2
      split at hf
      · rename_i hc
        have hcl := cellsV_rep hs hv h2
        have hsz : v.cells.size = s := by rw [← Array.length_toList, hcl.1]; exact hc.1
        have harr : arr.size = cs.length := by rw [← Array.length_toList]; exact h.1
        have hfold := fold_set (i' * s) v.cells.toList 0 arr (by simp; omega)
        have key : (v.cells.zipIdx.foldl (fun cs (c, j) => cs.setIfInBounds (i' * s + j) c) arr).toList = arr.toList.take (i' * s) ++ v.cells.toList ++ arr.toList.drop (i' * s + s) := by
          rw [← Array.foldl_toList, Array.toList_zipIdx, hfold]
          simp [hsz]
        obtain ⟨arr', e1, e2⟩ := fillV_sound hs s parts vparts _ (v.cells.zipIdx.foldl (fun cs (c, j) => cs.setIfInBounds (i' * s + j) c) arr) out hp' (by rw [key]; exact ((h.take (i' * s)).append hcl).append (h.drop (i' * s + s))) hf
        refine ⟨arr', ?_, e2⟩
        simp only [Instr.fill]
        rw [if_neg (by simp; omega)]
        exact e1
      · cases hf
    · cases hf
theorem zeroV_rep (hst : ∀ b o, S b o → b < w.heap.size) {i : TyI} {z : List V} (h : zeroV i = some z) : Pw (CellV S w) i.zero.cells.toList z := by
  unfold zeroV at h
  split at h
  · rename_i ds hd
    have h0 : SR S [] w [] := ⟨rfl, fun i e h => by simp at h, fun i j g h => by simp [blkAt] at h, hst⟩
    have hp : Pw (fun u d => u.oneCell' = true ∧ RepC S [] [] w u d) i.zero.cells.toList ds := RepD.cells (ofVal_rep i.zero) hd
    obtain ⟨l1, l2⟩ := viewL_rep h0 _ ds z hp.1 (fun j u d hu hd => (hp.2 j u d hu hd).2) h
    refine ⟨l1, fun j u c hu hcc => ⟨?_, l2 j u c hu hcc⟩⟩
    have hlt := (List.getElem?_eq_some_iff.1 hu).1
    exact (hp.2 j u _ hu (List.getElem?_eq_getElem (by rw [← hp.1]; exact hlt))).1
  · cases h
theorem repl_get {α : Type} (z : List α) (hz : 0 < z.length) : ∀ (n j : Nat), j < n * z.length → ((List.replicate n z).flatten)[j]? = z[j % z.length]?
  | 0, j, h => by simp at h
  | n + 1, j, h => by
    rw [List.replicate_succ, List.flatten_cons]
    by_cases hj : j < z.length
    · rw [List.getElem?_append_left hj, Nat.mod_eq_of_lt hj]
    · rw [List.getElem?_append_right (by omega), repl_get z hz n (j - z.length) (by rw [Nat.succ_mul] at h; omega), ← Nat.mod_eq_sub_mod (by omega)]
theorem repl_len {α : Type} (z : List α) (n : Nat) : ((List.replicate n z).flatten).length = n * z.length := by
  induction n with
  | zero => simp
  | succ n ih => rw [List.replicate_succ, List.flatten_cons, List.length_append, ih, Nat.succ_mul]; omega
theorem made_rep {zs : Array Value} {z : List V} (h : Pw (CellV S w) zs.toList z) (hz : 0 < z.length) (n : Nat) (arr : Array Value) (ha : arr = (Array.range (n * zs.size)).map (zs[· % zs.size]!)) : Pw (CellV S w) arr.toList (repl n z) := by
  have hsz : zs.size = z.length := by rw [← Array.length_toList]; exact h.1
  subst ha
  refine ⟨by unfold repl; rw [repl_len]; simp [hsz], fun j u c hu hc => ?_⟩
  have hj : j < n * z.length := by have := (List.getElem?_eq_some_iff.1 hu).1; simpa [hsz] using this
  unfold repl at hc
  rw [repl_get z hz n j hj] at hc
  have hm : j % zs.size < zs.size := Nat.mod_lt _ (by omega)
  have hu' : zs.toList[j % z.length]? = some u := by
    rw [Array.getElem?_toList, ← hsz, Array.getElem?_eq_getElem hm]
    rw [Array.getElem?_toList] at hu
    simpa [hsz, hj, getElem!_pos, Nat.mod_lt _ hz] using hu
  exact h.2 _ u c hu' hc
/-- A store into a box. -/
theorem store_box {lo id g : Nat} {cs ds : List D} {vs : List Value} {off : Nat} (hs : SR S gh w sto) (hes : sto[id]? = some (.cells cs)) (hg : gh[id]? = some (.pointer (some ⟨g, 0, none⟩))) (hlid : lo ≤ id) (hv : Pw (fun u d => u.oneCell' = true ∧ RepC S gh sto w u d) vs ds) (hfit : off + ds.length ≤ cs.length) :
    ∃ gh' w', (storeCells ⟨g, off, none⟩ vs).run P w = .ok () w' ∧ SR S gh' w' (sto.set id (.cells (cs.take off ++ ds ++ cs.drop (off + ds.length)))) ∧ Fr sto.length lo S gh w sto S gh' w' (sto.set id (.cells (cs.take off ++ ds ++ cs.drop (off + ds.length)))) := by
  obtain ⟨gv, hgv, hE⟩ := hs.ent id _ hes
  rw [hg] at hgv
  cases hgv
  obtain ⟨g', cur, ty, h0, hh, h1, h2, h3⟩ := hE
  cases h0
  have hone : ∀ u ∈ vs, u.oneCell' = true := by
    intro u hu
    obtain ⟨k, hk⟩ := List.mem_iff_getElem?.1 hu
    have hlt := (List.getElem?_eq_some_iff.1 hk).1
    exact (hv.2 k u _ hk (List.getElem?_eq_getElem (by rw [← hv.1]; exact hlt))).1
  have hrun := run_storeCells_at (P := P) g off ty vs 0 cur w hh (by rw [← Array.length_toList, hv.1]; omega) hone
  obtain ⟨l2, hl2⟩ : ∃ l2, l2 = cur.toList.take off ++ vs ++ cur.toList.drop (off + ds.length) := ⟨_, rfl⟩
  have hcur : Pw (fun u d => u.oneCell' = true ∧ RepC S gh sto w u d) cur.toList cs := ⟨h1, h3⟩
  have hall : Pw (fun u d => u.oneCell' = true ∧ RepC S gh sto w u d) l2 (cs.take off ++ ds ++ cs.drop (off + ds.length)) := by
    rw [hl2]; exact ((hcur.take off).append hv).append (hcur.drop _)
  have hblock : ∀ b, b < w.heap.size → blk (.pointer (some ⟨g, 0, none⟩)) ≠ some b → (w.setRow g l2.toArray).heap[b]? = w.heap[b]? := fun b _ hne => setRow_other w g b _ (fun e => hne (by rw [e]; rfl))
  have hst : ∀ b o, S b o → S b o ∧ (w.setRow g l2.toArray).cell? ⟨b, o, none⟩ = w.cell? ⟨b, o, none⟩ := fun b o h => ⟨h, World.cell?_of_block (w := w) (setRow_other w g b _ (fun e => h2 o (by rw [← e]; exact h)))⟩
  have hlen : (cs.take off ++ ds ++ cs.drop (off + ds.length)).length = cs.length := by
    simp only [List.length_append, List.length_take, List.length_drop]; omega
  have hf : Fr sto.length lo S gh w sto S (gh.set id (.pointer (some ⟨g, 0, none⟩))) (w.setRow g l2.toArray) (sto.set id (.cells (cs.take off ++ ds ++ cs.drop (off + ds.length)))) := upd_fr hes hg hlid rfl rfl rfl (by simp) hblock hst (fun g hg => .inl hg) ⟨rfl, hlen⟩
  refine ⟨_, _, ?_, upd_sr hs hes hg hf hblock (fun b o h => .inl h) (fun g hg => .inl hg) ⟨g, l2.toArray, ty, rfl, setRow_heap w g cur _ ty _ hh, hall.1, h2, fun k u d hu hd => ?_⟩, hf⟩
  · rw [hrun, hl2, Nat.add_zero, hv.1]
  · have := hall.2 k u d hu hd
    exact ⟨this.1, RepC.mono hs hf this.2⟩
/-- A store into a slice of the call's own. -/
theorem store_arr {lo id g n : Nat} {es : Option (TypeId × Nat)} {cs xs : List V} {vs : List Value} {off : Nat} (hs : SR S gh w sto) (hes : sto[id]? = some (.arr es true n cs)) (hg : blkAt gh id = some g) (hlid : lo ≤ id) (hv : Pw (CellV S w) vs xs) (hfit : off + xs.length ≤ cs.length) :
    ∃ gh' w', (storeCells ⟨g, off, none⟩ vs).run P w = .ok () w' ∧ SR S gh' w' (sto.set id (.arr es true n (cs.take off ++ xs ++ cs.drop (off + xs.length)))) ∧ Fr sto.length lo S gh w sto S gh' w' (sto.set id (.arr es true n (cs.take off ++ xs ++ cs.drop (off + xs.length)))) := by
  obtain ⟨gv, hgv, hE⟩ := hs.ent id _ hes
  unfold blkAt at hg
  rw [hgv] at hg
  cases es with
  | none => obtain ⟨rfl, _⟩ := hE; simp [blk] at hg
  | some es =>
    obtain ⟨e, s⟩ := es
    obtain ⟨g', cap, cur, rfl, hh, q1, q2, q3, q4, q5, q6⟩ := hE
    simp only [Option.bind_some, blk, Option.some.injEq] at hg
    subst hg
    simp only [if_true] at q6
    have hone : ∀ u ∈ vs, u.oneCell' = true := by
      intro u hu
      obtain ⟨k, hk⟩ := List.mem_iff_getElem?.1 hu
      have hlt := (List.getElem?_eq_some_iff.1 hk).1
      exact (hv.2 k u _ hk (List.getElem?_eq_getElem (by rw [← hv.1]; exact hlt))).1
    have hcl : cs.length ≤ cur.size := by rw [q3, q4]; exact Nat.mul_le_mul_right _ q1
    have hrun := run_storeCells_at (P := P) g' off e vs 0 cur w hh (by rw [hv.1]; omega) hone
    obtain ⟨l2, hl2⟩ : ∃ l2, l2 = cur.toList.take off ++ vs ++ cur.toList.drop (off + xs.length) := ⟨_, rfl⟩
    have hl2len : l2.length = cur.size := by
      rw [hl2]
      simp only [List.length_append, List.length_take, List.length_drop, Array.length_toList, hv.1]
      omega
    have hall : ∀ (k : Nat) (u : Value) (c : V), l2[k]? = some u → (cs.take off ++ xs ++ cs.drop (off + xs.length))[k]? = some c → u.oneCell' = true ∧ RepV S w u c := by
      have hp1 : Pw (CellV S w) (cur.toList.take off) (cs.take off) := by
        refine ⟨by simp only [List.length_take, Array.length_toList]; omega, fun k u c hu hc => ?_⟩
        have hk : k < off := by have := (List.getElem?_eq_some_iff.1 hu).1; simp only [List.length_take] at this; omega
        rw [List.getElem?_take_of_lt hk] at hu hc
        exact q5 k u c hu hc
      have hp2 := hp1.append hv
      intro k u c hu hc
      by_cases hk : k < (cs.take off ++ xs).length
      · rw [List.getElem?_append_left hk] at hc
        rw [hl2, List.getElem?_append_left (by rw [hp2.1]; exact hk)] at hu
        exact hp2.2 k u c hu hc
      · have hkk : (cs.take off ++ xs).length ≤ k := by omega
        rw [List.getElem?_append_right hkk, List.getElem?_drop] at hc
        rw [hl2, List.getElem?_append_right (by rw [hp2.1]; exact hkk), List.getElem?_drop, hp2.1] at hu
        exact q5 _ u c hu hc
    have hblock : ∀ b, b < w.heap.size → blk (.slice (some ⟨g', 0, none⟩) n cap) ≠ some b → (w.setRow g' l2.toArray).heap[b]? = w.heap[b]? := fun b _ hne => setRow_other w g' b _ (fun e => hne (by rw [e]; rfl))
    have hst : ∀ b o, S b o → S b o ∧ (w.setRow g' l2.toArray).cell? ⟨b, o, none⟩ = w.cell? ⟨b, o, none⟩ := fun b o h => ⟨h, World.cell?_of_block (w := w) (setRow_other w g' b _ (fun e => q6 o (by rw [← e]; exact h)))⟩
    have hlen : (cs.take off ++ xs ++ cs.drop (off + xs.length)).length = n * s := by
      simp only [List.length_append, List.length_take, List.length_drop]; omega
    have hf : Fr sto.length lo S gh w sto S (gh.set id (.slice (some ⟨g', 0, none⟩) n cap)) (w.setRow g' l2.toArray) (sto.set id (.arr (some (e, s)) true n (cs.take off ++ xs ++ cs.drop (off + xs.length)))) := upd_fr hes hgv hlid rfl rfl rfl (by simp) hblock hst (fun g hg => .inl hg) ⟨Nat.le_refl _, fun _ => rfl⟩
    refine ⟨_, _, ?_, upd_sr hs hes hgv hf hblock (fun b o h => .inl h) (fun g hg => .inl hg) ⟨g', cap, l2.toArray, rfl, setRow_heap w g' cur _ e _ hh, q1, q2, by rw [← q3, ← hl2len]; rfl, hlen, fun k u c hu hc => ?_, by simpa using q6⟩, hf⟩
    · rw [hrun, hl2, Nat.add_zero, hv.1]
    · have := hall k u c hu hc
      exact ⟨this.1, RepV.mono hf.stable this.2⟩
end
end Go.Proofs.YtomameefmobnlaaDoor
namespace Go.Proofs.YtomameefmobnlaaDoor
open Go Go.RowKit

section
variable {P : Program} {T : Tab} {S : Stay} {gh : List Value} {sto : Sto} {w : World}
def setO (w : World) (g : Nat) (o : Obj) : World := { w with heap := w.heap.setIfInBounds g o }
theorem setO_same {g : Nat} {o o' : Obj} (h : w.heap[g]? = some o) : (setO w g o').heap[g]? = some o' := by
  have := (Array.getElem?_eq_some_iff.1 h).1
  simp [setO, this]
theorem setO_other {g b : Nat} {o' : Obj} (h : b ≠ g) : (setO w g o').heap[b]? = w.heap[b]? := by
  simp only [setO]
  rw [Array.getElem?_setIfInBounds_ne (fun e => h e.symm)]
abbrev EntR (S : Stay) (w : World) (k : IntKind) : MapEntry → Int × V → Prop := fun e kv => e.key = .int k kv.1 ∧ RepV S w e.val kv.2
theorem map_upd {lo id g clock clock' : Nat} {k : IntKind} {kvs kvs' : List (Int × V)} {es es' : Array MapEntry} (hs : SR S gh w sto) (hes : sto[id]? = some (.map k kvs)) (hg : gh[id]? = some (.map (some g))) (hlid : lo ≤ id) (hb : w.heap[g]? = some (.map es clock)) (hp : Pw (EntR S w k) es'.toList kvs') (hsp : MapKept.Stamped es' clock') :
    ∃ gh', SR S gh' (setO w g (.map es' clock')) (sto.set id (.map k kvs')) ∧ Fr sto.length lo S gh w sto S gh' (setO w g (.map es' clock')) (sto.set id (.map k kvs')) := by
  obtain ⟨gv, hgv, hE⟩ := hs.ent id _ hes
  rw [hg] at hgv
  cases hgv
  obtain ⟨g', es0, c0, h0, hh, h1, _⟩ := hE
  cases h0
  have hblock : ∀ b, b < w.heap.size → blk (.map (some g)) ≠ some b → (setO w g (.map es' clock')).heap[b]? = w.heap[b]? := fun b _ hne => setO_other (fun e => hne (by rw [e]; rfl))
  have hst : ∀ b o, S b o → S b o ∧ (setO w g (.map es' clock')).cell? ⟨b, o, none⟩ = w.cell? ⟨b, o, none⟩ := fun b o h => ⟨h, World.cell?_of_block (w := w) (setO_other (fun e => h1 o (by rw [← e]; exact h)))⟩
  have hf : Fr sto.length lo S gh w sto S (gh.set id (.map (some g))) (setO w g (.map es' clock')) (sto.set id (.map k kvs')) := upd_fr hes hg hlid rfl rfl rfl (by simp [setO]) hblock hst (fun g hg => .inl hg) ⟨rfl, rfl⟩
  refine ⟨_, upd_sr hs hes hg hf hblock (fun b o h => .inl h) (fun g hg => .inl hg) ⟨g, es', clock', rfl, setO_same hb, h1, hsp, hp.1, fun j e kv he hk => ?_⟩, hf⟩
  have := hp.2 j e kv he hk
  exact ⟨this.1, RepV.mono hf.stable this.2⟩
theorem findNow_shift {d : TypeDesc} {x : Value} : ∀ (l : List MapEntry) (i : Nat) (r : Nat × Value), Instr.findNow d x l i = some (some r) → i ≤ r.1 ∧ ∀ i', Instr.findNow d x l i' = some (some (r.1 - i + i', r.2))
  | [], i, r, h => by simp [Instr.findNow] at h
  | e :: l, i, r, h => by
    unfold Instr.findNow at h
    cases hs : Instr.sameNow d x e.key with
    | none => rw [hs] at h; cases h
    | some b =>
      rw [hs] at h
      cases b with
      | true =>
        simp only [Option.some.injEq] at h
        subst h
        refine ⟨Nat.le_refl _, fun i' => ?_⟩
        unfold Instr.findNow
        rw [hs]
        simp
      | false =>
        obtain ⟨a, b⟩ := findNow_shift l (i + 1) r h
        refine ⟨by omega, fun i' => ?_⟩
        unfold Instr.findNow
        rw [hs]
        simp only
        rw [b (i' + 1)]
        congr 3
        omega
theorem mput_hit {k : IntKind} {n : Int} {y : V} {v : Value} (hv : RepV S w v y) : ∀ (es : List MapEntry) (kvs : List (Int × V)) (j : Nat) (e : MapEntry), Pw (EntR S w k) es kvs → (∀ i, Instr.findNow (.int k) (.int k n) es i = some (some (i + j, e.val))) → es[j]? = some e → e.key = .int k n →
    Pw (EntR S w k) (es.modify j fun e => { e with key := .int k n, val := v }) (mput kvs n y)
  | [], kvs, j, e, _, _, hj, _ => by simp at hj
  | e0 :: es, [], j, e, h, _, _, _ => by have := h.1; simp at this
  | e0 :: es, (k0, u) :: kvs, j, e, h, hf, hj, hk => by
    have h0 : e0.key = .int k k0 ∧ RepV S w e0.val u := h.2 0 e0 (k0, u) rfl rfl
    have h' : Pw (EntR S w k) es kvs := by have := h.drop 1; simpa using this
    have h1 := h0.1
    by_cases hn : n = k0
    · subst hn
      have : j = 0 := by
        have := hf 0
        simp [Instr.findNow, Instr.sameNow, h1] at this
        omega
      subst this
      simp only [List.modify_zero_cons, mput, if_true]
      exact Pw.cons ⟨rfl, hv⟩ h'
    · have hb : (n == k0) = false := by simp [hn]
      have step : ∀ i, Instr.findNow (.int k) (.int k n) (e0 :: es) i = Instr.findNow (.int k) (.int k n) es (i + 1) := by
        intro i
        simp [Instr.findNow, Instr.sameNow, h1, hb]
      cases j with
      | zero =>
        simp only [List.getElem?_cons_zero, Option.some.injEq] at hj
        subst hj
        rw [h1] at hk
        simp only [Value.int.injEq, true_and] at hk
        exact absurd hk.symm hn
      | succ j =>
        simp only [List.modify_succ_cons, mput, if_neg hn]
        refine Pw.cons h0 (mput_hit hv es kvs j e h' (fun i => ?_) (by simpa using hj) hk)
        cases i with
        | zero =>
          -- the index is told by the one that is one further
          have := hf 0
          rw [step] at this
          have := (findNow_shift es 1 _ this).2 0
          simpa using this
        | succ i =>
          have := hf i
          rw [step] at this
          rw [this]
          congr 3
          omega
theorem mput_miss {k : IntKind} {n : Int} {y : V} {v : Value} {b : Nat} (hv : RepV S w v y) : ∀ (es : List MapEntry) (kvs : List (Int × V)), Pw (EntR S w k) es kvs → mget kvs n = none → Pw (EntR S w k) (es ++ [{ key := .int k n, val := v, born := b }]) (mput kvs n y)
  | [], [], _, _ => Pw.cons ⟨rfl, hv⟩ Pw.nil
  | [], _ :: _, h, _ => by have := h.1; simp at this
  | _ :: _, [], h, _ => by have := h.1; simp at this
  | e0 :: es, (k0, u) :: kvs, h, hm => by
    have h' : Pw (EntR S w k) es kvs := by have := h.drop 1; simpa using this
    unfold mget at hm
    split at hm
    · cases hm
    · rename_i hn
      simp only [mput, if_neg hn, List.cons_append]
      exact Pw.cons (h.2 0 _ _ rfl rfl) (mput_miss hv es kvs h' hm)
theorem mget_none {n : Int} : ∀ {kvs : List (Int × V)}, mget kvs n = none → ∀ kv ∈ kvs, kv.1 ≠ n
  | (k0, u) :: kvs, hm, kv, h => by
    unfold mget at hm
    split at hm
    · cases hm
    · rename_i hn
      rcases List.mem_cons.1 h with rfl | h
      · exact fun e => hn e.symm
      · exact mget_none hm kv h
theorem mdel_miss {n : Int} : ∀ (kvs : List (Int × V)), mget kvs n = none → mdel kvs n = kvs
  | [], _ => rfl
  | (k0, u) :: kvs, hm => by
    unfold mget at hm
    split at hm
    · cases hm
    · rename_i hn
      simp only [mdel, if_neg hn, mdel_miss kvs hm]
theorem mdel_hit {k : IntKind} {n : Int} : ∀ (es : List MapEntry) (kvs : List (Int × V)) (i : Nat) (r : Nat × Value), Pw (EntR S w k) es kvs → Instr.findNow (.int k) (.int k n) es i = some (some r) → i ≤ r.1 ∧ Pw (EntR S w k) (es.eraseIdx (r.1 - i)) (mdel kvs n)
  | [], kvs, i, r, _, h => by simp [Instr.findNow] at h
  | e0 :: es, [], i, r, h, _ => by have := h.1; simp at this
  | e0 :: es, (k0, u) :: kvs, i, r, h, hf => by
    have h0 : e0.key = .int k k0 ∧ RepV S w e0.val u := h.2 0 e0 (k0, u) rfl rfl
    have h1 := h0.1
    have h' : Pw (EntR S w k) es kvs := by have := h.drop 1; simpa using this
    by_cases hn : n = k0
    · subst hn
      simp [Instr.findNow, Instr.sameNow, h1] at hf
      subst hf
      simp only [Nat.sub_self, List.eraseIdx_zero, List.tail_cons, mdel, if_true]
      exact ⟨Nat.le_refl _, h'⟩
    · have hb : (n == k0) = false := by simp [hn]
      have step : Instr.findNow (.int k) (.int k n) (e0 :: es) i = Instr.findNow (.int k) (.int k n) es (i + 1) := by
        simp [Instr.findNow, Instr.sameNow, h1, hb]
      rw [step] at hf
      obtain ⟨a, b⟩ := mdel_hit es kvs (i + 1) r h' hf
      refine ⟨by omega, ?_⟩
      rw [show r.1 - i = (r.1 - (i + 1)) + 1 from by omega, List.eraseIdx_cons_succ]
      simp only [mdel, if_neg hn]
      exact Pw.cons h0 b
theorem setObj_run {g : Nat} {o : Obj} {es : Array MapEntry} {clock : Nat} (hb : w.heap[g]? = some (.map es clock)) : (setObj g o).run P w = .ok () (setO w g o) := MapKept.run_setObj_map o hb
variable (hT : T.OK P)
include hT
theorem evMakeMap_eff {lo : Nat} (hlo : lo ≤ sto.length) (hs : SR S gh w sto) {t : TypeId} {r : Option D} {vr : Option Value} {d : D} {sto' : Sto} (hr : ∀ x, r = some x → ∃ v, vr = some v ∧ RepD S gh sto w v x) (hr0 : r = none → vr = none) (he : evMakeMap T sto t r = some (d, sto')) : Eff P lo S gh w sto (Instr.makeMap t vr) d sto' := by
  unfold evMakeMap at he
  split at he
  · rename_i kt et ht
    have hu := kd_map hT ht
    have go : ∀ k : IntKind, (Instr.makeMap t vr).run P w = .ok (.map (some w.heap.size)) (w.alloc (.map #[] 0)) → Eff P lo S gh w sto (Instr.makeMap t vr) (.map sto.length) (sto ++ [.map k []]) := by
      intro k hrun
      have hb := below_new w (.map #[] 0)
      have hnew : ∀ g, blk (.map (some w.heap.size)) = some g → w.heap.size ≤ g := by
        intro g hg
        simp only [blk, Option.some.injEq] at hg
        omega
      have hf : Fr sto.length lo S gh w sto S (gh ++ [.map (some w.heap.size)]) (w.alloc (.map #[] 0)) (sto ++ [.map k []]) := push_fr hs hlo hb (fun _ _ h => h) hnew
      refine ⟨_, S, _, _, hrun, ⟨by simp, w.heap.size, ?_, rfl⟩, push_sr hs hf hb (fun b o h => .inl h) hnew ⟨w.heap.size, #[], 0, rfl, heap_alloc_new w _, fun o ho => ?_, MapKept.stamped_empty 0, rfl, fun j e kv he _ => by simp at he⟩, hf⟩
      · rw [← hs.len]; simp
      · have := hs.stay _ _ ho; omega
    split at he
    · rename_i k hk
      simp only [Option.some.injEq, Prod.mk.injEq] at he
      obtain ⟨rfl, rfl⟩ := he
      obtain rfl := hr0 rfl
      exact go k rfl
    · rename_i k k2 n hk
      simp only [Option.some.injEq, Prod.mk.injEq] at he
      obtain ⟨rfl, rfl⟩ := he
      obtain ⟨v, rfl, hv⟩ := hr _ rfl
      obtain rfl := RepV.int_inv hv
      refine go k ?_
      simp [Instr.makeMap, run_underlying hu, asInt, asIntOf]
    · cases he
  · cases he
omit hT in
theorem map_at (hs : SR S gh w sto) {id : Nat} {k : IntKind} {kvs : List (Int × V)} {v : Value} (hx : RepC S gh sto w v (.map id)) (hes : sto[id]? = some (.map k kvs)) : ∃ g es clock, v = .map (some g) ∧ gh[id]? = some (.map (some g)) ∧ w.heap[g]? = some (.map es clock) ∧ Pw (EntR S w k) es.toList kvs ∧ MapKept.Stamped es clock := by
  obtain ⟨_, g, hg, rfl⟩ := hx
  obtain ⟨gv, hgv, hE⟩ := hs.ent id _ hes
  rw [hg] at hgv
  cases hgv
  obtain ⟨g', es, clock, h1, h2, h3, hsp, h4, h5⟩ := hE
  cases h1
  exact ⟨g, es, clock, rfl, hg, h2, ⟨h4, h5⟩, hsp⟩
theorem evUpdate_eff {lo : Nat} (hs : SR S gh w sto) {t : TypeId} {m key val d : D} {vm vk vv : Value} {sto' : Sto} (hm : RepD S gh sto w vm m) (hk : RepD S gh sto w vk key) (hv : RepD S gh sto w vv val) (he : evUpdate T lo sto t m key val = some (d, sto')) :
    d = .undef ∧ ∃ gh' w', (Instr.mapUpdate t vm vk vv).run P w = .ok () w' ∧ SR S gh' w' sto' ∧ Fr sto.length lo S gh w sto S gh' w' sto' := by
  unfold evUpdate at he
  split at he
  · rename_i kt et id k' n y ht hy
    have hu := kd_map hT ht
    obtain rfl := RepV.int_inv hk
    have hvr := view_rep hs hv hy
    split at he
    · rename_i k k2 kvs hkt hes
      have hku := kd_int hT hkt
      split at he
      · rename_i hc
        obtain ⟨rfl, rfl, hlid⟩ := hc
        simp only [Option.some.injEq, Prod.mk.injEq] at he
        obtain ⟨rfl, rfl⟩ := he
        refine ⟨rfl, ?_⟩
        obtain ⟨g, es, clock, rfl, hg, hb, hp, hsp⟩ := map_at hs hm hes
        have fnd := fun i => findNow_rep (S := S) (w := w) n es.toList kvs i hp.1 hp.2
        rcases fnd 0 with ⟨a, b⟩ | ⟨j, e, v, a, b, c, c2, c3⟩
        · obtain ⟨gh', q1, q2⟩ := map_upd (es' := es.push { key := .int k2 n, val := vv, born := clock }) (clock' := clock + 1) hs hes hg hlid hb (kvs' := mput kvs n y) (by
            rw [Array.toList_push]; exact mput_miss hvr _ _ hp a) (MapKept.stamped_push hsp fun x hx e => by
              obtain ⟨i, hi⟩ := List.getElem?_of_mem hx
              obtain ⟨kv, hkv⟩ : ∃ kv, kvs[i]? = some kv := ⟨_, List.getElem?_eq_getElem (by rw [← hp.1]; exact (List.getElem?_eq_some_iff.1 hi).1)⟩
              have h1 := (hp.2 i x kv hi hkv).1
              rw [h1] at e
              simp only [Value.int.injEq, true_and] at e
              exact mget_none a kv (List.mem_of_getElem? hkv) e)
          refine ⟨gh', _, ?_, q1, q2⟩
          simp only [Instr.mapUpdate, Sem.run_bind, run_underlying hu, Result.andThen_ok, getObj_map hb, checkKey_int hku, findKey_int hku b, setObj_run hb]
        · rw [Nat.zero_add] at b
          have hall : ∀ i, Instr.findNow (.int k2) (.int k2 n) es.toList i = some (some (i + j, e.val)) := by
            intro i
            have := (findNow_shift es.toList 0 _ b).2 i
            rw [this]
            congr 3
            simp only
            omega
          obtain ⟨gh', q1, q2⟩ := map_upd (es' := es.modify j fun e => { e with key := .int k2 n, val := vv }) (clock' := clock) hs hes hg hlid hb (kvs' := mput kvs n y) (by
            rw [Array.toList_modify]; exact mput_hit hvr _ _ j e hp hall c c2) (MapKept.stamped_modify hsp j _ (fun _ _ => rfl) fun x _ hx => by
              have hej : es[j]? = some e := by rw [← Array.getElem?_toList]; exact c
              rw [hej] at hx
              cases hx
              exact c2.symm)
          refine ⟨gh', _, ?_, q1, q2⟩
          have hej : es[j]? = some e := by rw [← Array.getElem?_toList]; exact c
          have hks : (Instr.keyThatStays (.int k2 n) (.int k2 n)).run P w = .ok (.int k2 n) w := by
            simp [Instr.keyThatStays, Instr.sameBits]
          simp only [Instr.mapUpdate, Sem.run_bind, run_underlying hu, Result.andThen_ok, getObj_map hb, checkKey_int hku, findKey_int hku b, hej, Option.map_some, Option.getD_some, c2, hks, setObj_run hb]
      · cases he
    · cases he
  · cases he
theorem evDelete_eff {lo : Nat} (hs : SR S gh w sto) {t t2 ty : TypeId} {m key d : D} {vm vk : Value} {sto' : Sto} (hm : RepD S gh sto w vm m) (hk : RepD S gh sto w vk key) (he : evDelete T lo sto t m key = some (d, sto')) : Eff P lo S gh w sto (Builtin.delete_ #[t, t2] ty #[vm, vk]) d sto' := by
  unfold evDelete at he
  split at he
  · rename_i kt et id k' n ht
    have hu := kd_map hT ht
    obtain rfl := RepV.int_inv hk
    split at he
    · rename_i k k2 kvs hkt hes
      have hku := kd_int hT hkt
      split at he
      · rename_i hc
        obtain ⟨rfl, rfl, hlid⟩ := hc
        simp only [Option.some.injEq, Prod.mk.injEq] at he
        obtain ⟨rfl, rfl⟩ := he
        obtain ⟨g, es, clock, rfl, hg, hb, hp, hsp⟩ := map_at hs hm hes
        have tup : ∀ S' gh' sto' w', RepD S' gh' sto' w' (.tuple #[]) (.v (.tup [])) := fun _ _ _ _ => RepV.tup [] [] rfl fun j u c hu _ => by simp at hu
        rcases findNow_rep (S := S) (w := w) n es.toList kvs 0 hp.1 hp.2 with ⟨a, b⟩ | ⟨j, e, v, a, b, c, c2, c3⟩
        · rw [mdel_miss kvs a]
          obtain ⟨gh', q1, q2⟩ := map_upd (es' := es) (clock' := clock) hs hes hg hlid hb hp hsp
          refine ⟨_, S, gh', _, ?_, tup _ _ _ _, q1, q2⟩
          simp [Builtin.delete_, run_underlying hu, getObj_map hb, checkKey_int hku, findKey_int hku b, setObj_run hb]
        · rw [Nat.zero_add] at b
          obtain ⟨_, hd⟩ := mdel_hit es.toList kvs 0 _ hp b
          obtain ⟨gh', q1, q2⟩ := map_upd (es' := es.eraseIdxIfInBounds j) (clock' := clock) hs hes hg hlid hb (kvs' := mdel kvs n) (by
            rw [Array.toList_eraseIdxIfInBounds]; exact hd) (MapKept.stamped_erase hsp j)
          refine ⟨_, S, gh', _, ?_, tup _ _ _ _, q1, q2⟩
          simp [Builtin.delete_, run_underlying hu, getObj_map hb, checkKey_int hku, findKey_int hku b, setObj_run hb]
      · cases he
    · cases he
  · cases he
theorem evClear_eff {lo : Nat} (hs : SR S gh w sto) {t ty : TypeId} {x d : D} {vx : Value} {sto' : Sto} (hx : RepD S gh sto w vx x) (he : evClear T lo sto t x = some (d, sto')) : Eff P lo S gh w sto (Builtin.clear_ #[t] ty #[vx]) d sto' := by
  unfold evClear at he
  split at he
  · rename_i e id n o m ht hw
    have hu := kd_slice hT ht
    obtain ⟨es, wr, cs, g, o', c, q1, q2, rfl, q3, q4, q5⟩ := ownWin_rep hs hx hw
    simp only at q1 q2 q3 q5
    split at he
    · rename_i j hj
      obtain ⟨ti, hi, hz1, hz2, hz3, hz4⟩ := tab_full hT hj
      split at he
      · rename_i z es2 k cs2 hz hes
        rw [q1] at hes
        cases hes
        split at he
        · rename_i hc
          obtain ⟨c1, _, c2, c3, c4⟩ := hc
          have tup : ∀ S' gh' sto' w', RepD S' gh' sto' w' (.tuple #[]) (.v (.tup [])) := fun _ _ _ _ => RepV.tup [] [] rfl fun j u c hu _ => by simp at hu
          simp only [Option.some.injEq, Prod.mk.injEq] at he
          obtain ⟨rfl, rfl⟩ := he
          by_cases hm : m = 0
          · subst hm
            rw [if_pos rfl]
            refine ⟨.tuple #[], S, gh, w, ?_, tup _ _ _ _, hs, Fr.refl _ _ _ _ _ _⟩
            simp [Builtin.clear_, run_underlying hu]
          · rw [if_neg hm]
            obtain rfl := q5 (by omega)
            have hzr := zeroV_rep hs.stay hz
            have hmr := made_rep (S := S) (w := w) hzr (by omega) m ((Array.range (m * j.zero.cells.size)).map (j.zero.cells[· % j.zero.cells.size]!)) rfl
            have hlen : (repl m z).length = m * j.size := by unfold repl; rw [repl_len, c2]
            obtain ⟨gh', w', r1, r2, r3⟩ := store_arr (P := P) hs q1 q2 c1 hmr (by rw [hlen]; exact c4)
            rw [hlen] at r2 r3
            refine ⟨.tuple #[], S, gh', w', ?_, tup _ _ _ _, r2, r3⟩
            obtain ⟨m', rfl⟩ : ∃ m', m = m' + 1 := ⟨m - 1, by omega⟩
            have hzc : (Builtin.zeroCells j.zero.cells (m' + 1)).toList = ((Array.range ((m' + 1) * j.zero.cells.size)).map (j.zero.cells[· % j.zero.cells.size]!)).toList := by
              rfl
            simp only [Builtin.clear_, List.getElem?_toArray, List.getElem?_cons_zero, Sem.run_bind, run_underlying hu, Result.andThen_ok, run_zero hT hj, hzc, r1, Sem.run_pure]
        · cases he
      · cases he
    · cases he
  · cases he
end
end Go.Proofs.YtomameefmobnlaaDoor
namespace Go.Proofs.YtomameefmobnlaaDoor
open Go Go.RowKit
theorem run_append_room_zeros {P : Program} (w : World) (t tn ty e : TypeId) (i : TypeInfo) (z : Value) (kq kn : IntKind) (ht : P.underlying t = some (.slice e)) (htn : P.underlying tn = some (.int kn)) (hi : P.info? e = some i) (hz : i.zero = some z)
    (g sLen sCap : Nat) (cur : Array Value) (hg : w.heap[g]? = some (.cells cur e (0, 0))) (k : Nat) (h0 : 0 < k) (hs : 0 < i.size) (hzs : z.cells.size = i.size) (h1 : ∀ u ∈ (Builtin.zeroCells z.cells k).toList, u.oneCell' = true)
    (hroom : sLen + k ≤ sCap) (hfit : (sLen + k) * i.size ≤ cur.size) (h63 : k ≤ 9223372036854775807) (h48 : k * i.bytes ≤ 281474976710656) :
    (Builtin.append_ #[t, tn] ty #[.slice (some ⟨g, 0, none⟩) sLen sCap, .int kq k]).run P w =
      .ok (.slice (some ⟨g, 0, none⟩) (sLen + k) sCap) (w.setRow g (cur.toList.take (sLen * i.size) ++ (Builtin.zeroCells z.cells k).toList ++ cur.toList.drop (sLen * i.size + k * i.size)).toArray) := by
  have hzl : (Builtin.zeroCells z.cells k).toList.length = k * i.size := by rw [Array.length_toList, size_zeroCells, hzs]
  have hst := run_storeCells_at (P := P) g (sLen * i.size) e (Builtin.zeroCells z.cells k).toList 0 cur w hg (by rw [hzl]; rw [Nat.add_mul] at hfit; simpa using hfit) h1
  simp only [Nat.add_zero, hzl] at hst
  have hk : k ≠ 0 := by omega
  have hw : IntKind.i64.wrap (k : Int) = k := by rw [IntKind.wrap_i64]; omega
  have h48i : ¬ (281474976710656 < (k : Int) * (i.bytes : Int)) := by
    rw [← Int.natCast_mul]
    omega
  have hneg : ¬ ((k : Int) < 0) := by omega
  have hns : ¬ (k * i.size = 0) := Nat.mul_ne_zero hk (by omega)
  simp [Builtin.append_, run_underlying ht, run_underlying htn, sizeOf, typeInfo, zeroValue, hi, hz, asInt, asIntOf, hw, hneg, hns, h48i, hroom, Addr.add_lit, hst]
section
variable {P : Program} {T : Tab} (hT : T.OK P) {S : Stay} {gh : List Value} {w : World} {sto : Sto}
include hT
theorem evAppendZ_eff {lo : Nat} (hs : SR S gh w sto) {t tn : TypeId} {kn : IntKind} (hkn : kd T tn = some (.int kn)) (ty : TypeId) {x y d : D} {sto' : Sto} {vx vy : Value} (hx : RepC S gh sto w vx x) (hy : RepD S gh sto w vy y) (he : evAppendZ T lo sto t x y = some (d, sto')) :
    Eff P lo S gh w sto (Builtin.append_ #[t, tn] ty #[vx, vy]) d sto' := by
  have hun := kd_int hT hkn
  unfold evAppendZ at he
  split at he
  · rename_i e id n kq k hk
    have hu := kd_slice hT hk
    split at he
    · rename_i j es wr n' cs hj hes
      obtain ⟨ti, hi, hz1, hz2, hz3, hz4⟩ := tab_full hT hj
      split at he
      · rename_i z hz
        split at he
        · rename_i hc
          obtain ⟨rfl, hlid, hk0, hk1, hn1, rfl, hpos, hzl, hby⟩ := hc
          simp only [Option.some.injEq, Prod.mk.injEq] at he
          obtain ⟨rfl, rfl⟩ := he
          obtain ⟨k, rfl⟩ := Int.eq_ofNat_of_zero_le (by omega : 0 ≤ k)
          have hy' := RepV.int_inv hy
          subst hy'
          obtain ⟨hid, ⟨a0, c0, rfl⟩, h3⟩ := hx
          have hgv := (h3 _ wr n' cs hes).2 rfl
          obtain ⟨gv, hgv', hE⟩ := hs.ent id _ hes
          rw [hgv] at hgv'
          cases hgv'
          obtain ⟨g, cap, cur, h0, hh, q1, q2, q3, q4, q5, q6⟩ := hE
          simp only [Value.slice.injEq, true_and] at h0
          obtain ⟨rfl, rfl⟩ := h0
          have hzr := zeroV_rep hs.stay hz
          have n4 := made_rep (S := S) (w := w) hzr (by omega) k (Builtin.zeroCells j.zero.cells k) rfl
          have n1 : (Builtin.zeroCells j.zero.cells k).toList.length = k * j.size := by rw [Array.length_toList, size_zeroCells, hz4]
          have n3 : ∀ u ∈ (Builtin.zeroCells j.zero.cells k).toList, u.oneCell' = true := fun u hu => by
            obtain ⟨o, ho⟩ := List.mem_iff_getElem?.1 hu
            have hlt := (List.getElem?_eq_some_iff.1 ho).1
            exact (n4.2 o u _ ho (List.getElem?_eq_getElem (by rw [← n4.1]; exact hlt))).1
          have hlen : (repl k z).length = k * j.size := by unfold repl; rw [repl_len, hzl]
          have hxl : (cur.toList.take (n' * j.size)).length = n' * j.size := by
            have : n' * j.size ≤ c0 * j.size := Nat.mul_le_mul_right _ q1
            simp only [List.length_take, Array.length_toList, q3]
            omega
          have hold : Pw (CellV S w) (cur.toList.take (n' * j.size)) cs := by
            refine ⟨by rw [hxl, q4], fun k u c hu hcc => ?_⟩
            have hk : k < n' * j.size := by have := (List.getElem?_eq_some_iff.1 hu).1; omega
            rw [List.getElem?_take_of_lt hk] at hu
            exact q5 k u c hu hcc
          have hall := hold.append n4
          simp only [Int.toNat_natCast] at *
          have hcsl : (cs ++ repl k z).length = (n' + k) * j.size := by rw [List.length_append, q4, hlen, Nat.add_mul]
          have hkb : k * j.bytes ≤ 1000000 * 100000 := Nat.mul_le_mul (by omega) hby
          by_cases hroom : n' + k ≤ c0
          · have hfit : (n' + k) * j.size ≤ cur.size := by rw [q3]; exact Nat.mul_le_mul_right _ hroom
            have hrun := run_append_room_zeros (P := P) w t tn ty e ti j.zero kq kn hu hun hi hz1 g n' c0 cur hh k (by omega) (by rw [hz2]; exact hpos) (by rw [hz4, hz2]) n3 hroom (by rw [hz2]; exact hfit) (by omega) (by rw [hz3]; omega)
            rw [hz2] at hrun
            obtain ⟨l2, hl2⟩ : ∃ l2, l2 = cur.toList.take (n' * j.size) ++ (Builtin.zeroCells j.zero.cells k).toList ++ cur.toList.drop (n' * j.size + k * j.size) := ⟨_, rfl⟩
            rw [← hl2] at hrun
            rw [Nat.add_mul] at hfit
            have hl2len : l2.length = c0 * j.size := by
              rw [hl2]
              simp only [List.length_append, hxl, List.length_drop, n1]
              rw [Array.length_toList]
              omega
            have hl2k : ∀ (o : Nat), o < (n' + k) * j.size → l2[o]? = (cur.toList.take (n' * j.size) ++ (Builtin.zeroCells j.zero.cells k).toList)[o]? := by
              intro o ho
              rw [hl2, List.getElem?_append_left (by rw [List.length_append, hxl, n1, ← Nat.add_mul]; exact ho)]
            refine arr_upd (P := P) (w' := w.setRow g l2.toArray) (n2 := n' + k) (cur2 := l2.toArray) hs hes hgv hlid (by omega) (.inr rfl) rfl rfl rfl (by simp) (fun b hb hne => setRow_other w g b _ (fun e => hne (by rw [e]; rfl))) (setRow_heap w g cur _ e _ hh) hroom q2 (by rw [← hl2len]; rfl) hcsl (fun o u c hu hcc => ?_) (.inl ⟨rfl, fun o ho => ?_⟩) hrun
            · have ho : o < (n' + k) * j.size := by have := (List.getElem?_eq_some_iff.1 hcc).1; omega
              have hu' : l2[o]? = some u := hu
              rw [hl2k o ho] at hu'
              exact hall.2 o u c hu' hcc
            · rw [cell_setRow_same w g o cur _ e _ hh, cell_heap hh]
              have hk : o < (n' + k) * j.size := Nat.lt_of_lt_of_le ho (Nat.mul_le_mul_right _ (by omega))
              rw [List.getElem?_toArray, hl2k o hk, List.getElem?_append_left (by rw [hxl]; exact ho), List.getElem?_take_of_lt ho]
          · have holds : (Builtin.firstCells ti.size n' (.slice (some ⟨g, 0, none⟩) n' c0)).run P w.drew = .ok (cur.toList.take (n' * j.size)).toArray w.drew := by
              refine run_firstCells_some w.drew ti.size n' ⟨g, 0, none⟩ n' c0 _ (by rw [hz2]; exact hxl) fun o u hu => ?_
              have hk : o < n' * j.size := by have := (List.getElem?_eq_some_iff.1 hu).1; omega
              rw [List.getElem?_take_of_lt hk] at hu
              rw [addr_add, Nat.zero_add]
              simpa [cell_heap hh] using hu
            have hby2 : (n' + k) * ti.bytes ≤ 140737488355328 := by
              rw [hz3]
              have : (n' + k) * j.bytes ≤ 101000000 * 100000 := Nat.mul_le_mul (by omega) hby
              omega
            have hrun := Lib.run_append_grow_zeros (P := P) w t tn ty e ti j.zero kq kn hu hun hi hz1 (some ⟨g, 0, none⟩) n' c0 (cur.toList.take (n' * j.size)) holds k (by omega) (by rw [hz2]; exact hpos) (by omega) (by omega) (by rw [hz3]; omega) (growslice_fits (by omega) hby2)
            have hge := grownCap_ge w (n' + k) c0 e
            have hcm : grownCap w (n' + k) c0 e ≤ maxLen := grownCap_le_maxLen w (n' + k) c0 e (by unfold maxLen; omega)
            refine arr_upd (P := P) (w' := w.drew.alloc (.cells ((cur.toList.take (n' * j.size)).toArray ++ Builtin.zeroCells j.zero.cells k ++ Builtin.zeroCells j.zero.cells (grownCap w (n' + k) c0 e - (n' + k))) e)) (n2 := n' + k) hs hes hgv hlid (by omega) (.inr rfl) rfl rfl rfl (by simp) (fun b hb _ => heap_alloc_old w.drew _ hb) (heap_alloc_new w.drew _) hge hcm ?_ hcsl (fun o u c hu hcc => ?_) (.inr ⟨Nat.le_refl _, fun b hb => heap_alloc_old w.drew _ hb⟩) hrun
            · simp only [Array.size_append, List.size_toArray, size_zeroCells, hz4, hxl, ← Nat.add_mul]
              congr 1
              omega
            · have hk : o < (n' + k) * j.size := by have := (List.getElem?_eq_some_iff.1 hcc).1; omega
              simp only [Array.toList_append] at hu
              rw [List.getElem?_append_left (by rw [List.length_append, hxl, n1, ← Nat.add_mul]; exact hk)] at hu
              exact hall.2 o u c hu hcc
        · cases he
      · cases he
    · cases he
  · cases he
end
end Go.Proofs.YtomameefmobnlaaDoor
namespace Go.Proofs.YtomameefmobnlaaDoor
open Go Go.RowKit

section
variable {P : Program} {T : Tab} {S : Stay} {gh : List Value} {sto : Sto} {w : World}
/-- What an operation leaves, as the walk's step meets it. -/
def EffN (P : Program) (lo : Nat) (S : Stay) (gh : List Value) (w : World) (sto : Sto) (x : Sem Next) (d : D) (sto' : Sto) : Prop :=
  ∃ nx v S' gh' w', x.run P w = .ok nx w' ∧ (nx = .value v ∨ (nx = .skip ∧ v = undef)) ∧ RepD S' gh' sto' w' v d ∧ SR S' gh' w' sto' ∧ Fr sto.length lo S gh w sto S' gh' w' sto'
theorem Eff.next {lo : Nat} {x : Sem Value} {d : D} {sto' : Sto} (h : Eff P lo S gh w sto x d sto') : EffN P lo S gh w sto (do pure (.value (← x))) d sto' := by
  obtain ⟨v, S', gh', w', h1, h2, h3, h4⟩ := h
  exact ⟨.value v, v, S', gh', w', by simp only [Sem.run_bind, h1, Result.andThen_ok, Sem.run_pure], .inl rfl, h2, h3, h4⟩
theorem storeVar_run {t : TypeId} {i : TyI} (hT : T.OK P) (hi : T t = some i) {a : Addr} {v : Value} {w' : World} (hsz : v.cells.size = i.size) (h : (storeCells a v.cells.toList).run P w = .ok () w') : (storeVar t a v).run P w = .ok () w' := by
  simp only [storeVar, Sem.run_bind, run_size hT hi, Result.andThen_ok, hsz, ne_eq, not_true_eq_false, if_false, h]
variable (hT : T.OK P)
include hT
/-- A composite slice: its cells in a new block. -/
theorem sliceLit_run (hs : SR S gh w sto) {e : Operand → Value} {ρ : Operand → D} (hρ : ∀ x, RepD S gh sto w (e x) (ρ x)) {t : TypeId} {len : Nat} {parts : Array (Nat × Operand)} {x : TypeId × Nat × List V} (h : evSliceLit T sto t len (parts.toList.map fun p => (p.1, ρ p.2)) = some x) :
    ∃ arr : Array Value, (Instr.buildSlice t len (parts.map fun (i, x) => (i, e x))).run P w = .ok (.slice (some ⟨w.heap.size, 0, none⟩) len len) (w.alloc (.cells arr x.1)) ∧ len ≤ maxLen ∧ arr.size = len * x.2.1 ∧ x.2.2.length = len * x.2.1 ∧ ∀ (j : Nat) (u : Value) (c : V), arr.toList[j]? = some u → x.2.2[j]? = some c → u.oneCell' = true ∧ RepV S w u c := by
  unfold evSliceLit at h
  split at h
  · rename_i e0 hk
    have hu := kd_slice hT hk
    split at h
    · rename_i j hj
      obtain ⟨ti, hi, hz1, hz2, hz3, hz4⟩ := tab_full hT hj
      split at h
      · rename_i z hz
        split at h
        · rename_i hc
          obtain ⟨c1, c2, c3⟩ := hc
          cases hf : fillV sto j.size (repl len z) (parts.toList.map fun p => (p.1, ρ p.2)) with
          | none => rw [hf] at h; cases h
          | some cs =>
            rw [hf] at h
            simp only [Option.map_some, Option.some.injEq] at h
            subst h
            have hzr := zeroV_rep hs.stay hz
            have hp : Pw (fun (u : Nat × Value) (d : Nat × D) => u.1 = d.1 ∧ RepD S gh sto w u.2 d.2) (parts.map fun (i, x) => (i, e x)).toList (parts.toList.map fun p => (p.1, ρ p.2)) := by
              refine ⟨by simp, fun j u d hu hd => ?_⟩
              simp only [Array.toList_map, List.getElem?_map] at hu hd
              cases hx : parts.toList[j]? with
              | none => rw [hx] at hu; cases hu
              | some p =>
                rw [hx] at hu hd
                simp only [Option.map_some, Option.some.injEq] at hu hd
                subst hu; subst hd
                exact ⟨rfl, hρ p.2⟩
            have hm := made_rep hzr (by omega) len _ rfl
            obtain ⟨arr, e1, e2⟩ := fillV_sound hs j.size _ _ _ _ cs hp hm hf
            have hzsz : j.zero.cells.size = j.size := hz4
            have hlen : arr.size = len * j.size := by
              have h1 : arr.toList.length = cs.length := e2.1
              have h2 : ∀ (parts : List (Nat × D)) (cs out : List V), fillV sto j.size cs parts = some out → out.length = cs.length := by
                intro parts
                induction parts with
                | nil => intro cs out h; simp only [fillV, Option.some.injEq] at h; rw [h]
                | cons p parts ih =>
                  intro cs out h
                  simp only [fillV] at h
                  split at h
                  · split at h
                    · rename_i hq
                      rw [ih _ _ h]
                      simp only [List.length_append, List.length_take, List.length_drop]
                      omega
                    · cases h
                  · cases h
              rw [← Array.length_toList, h1, h2 _ _ _ hf]
              unfold repl
              rw [repl_len, c2]
            have hrun : (Instr.buildSlice t len (parts.map fun (i, x) => (i, e x))).run P w = .ok (.slice (some ⟨w.heap.size, 0, none⟩) len len) (w.alloc (.cells arr e0)) := by
              by_cases h0 : len * j.size = 0
              · have hl0 : len = 0 := by
                  rcases Nat.mul_eq_zero.1 h0 with h | h
                  · exact h
                  · omega
                subst hl0
                have hr0 : Array.range 0 = #[] := rfl
                have e1' : Instr.fill (fun i => some (i * j.size, j.size)) #[] (parts.map fun (i, x) => (i, e x)).toList = some arr := by simpa [hr0] using e1
                simp [Instr.buildSlice, run_underlying hu, sizeOf, typeInfo, hi, hz2, newRow, hr0]
                have e1'' : Instr.fill (fun i => some (i * j.size, j.size)) #[] (List.map (fun x => (x.fst, e x.snd)) parts.toList) = some arr := by simpa using e1'
                rw [e1'']
                rfl
              · refine run_buildSlice w t e0 len _ arr ti j.zero hu hi hz1 (by rw [hz2]; omega) (by rw [hz2]; exact h0) ?_
                rw [hz2]
                rw [hzsz] at e1
                rw [hzsz]
                exact e1
            exact ⟨arr, hrun, by unfold maxLen; have : len * 1 ≤ len * j.size := Nat.mul_le_mul_left _ c3; omega, hlen, by rw [← e2.1, Array.length_toList]; exact hlen, e2.2⟩
        · cases h
      · cases h
    · cases h
  · cases h
theorem evEff_sound {n0 lo : Nat} {wr : Bool} (hlo : lo ≤ sto.length) (hs : SR S gh w sto) {e : Operand → Value} {ρ : Operand → D} (hρ : ∀ x, RepD S gh sto w (e x) (ρ x)) {o : Oper} {d : D} {sto' : Sto} (h : evEff T n0 lo wr ρ sto o = some (d, sto')) : EffN P lo S gh w sto (execOp e o) d sto' := by
  unfold evEff at h
  unfold execOp
  split at h <;> rename_i hop <;> simp only [hop]
  · rename_i t x
    cases hc : (ρ x).cells with
    | none => rw [hc] at h; cases h
    | some ds =>
      rw [hc] at h
      simp only [Option.map_some, Option.some.injEq, Prod.mk.injEq] at h
      obtain ⟨rfl, rfl⟩ := h
      exact (box_eff hlo hs t (RepD.cells (hρ x) hc)).next
  · rename_i t
    split at h
    · rename_i i hi
      cases hc : zeroD i with
      | none => rw [hc] at h; cases h
      | some ds =>
        rw [hc] at h
        simp only [Option.map_some, Option.some.injEq, Prod.mk.injEq] at h
        obtain ⟨rfl, rfl⟩ := h
        have hb := box_eff (P := P) hlo hs t (RepD.cells (ofVal_rep i.zero) hc)
        have : (Instr.alloc t true (.tuple #[])) = (do let z ← zeroValue t; pure (.pointer (some (← newVar t z)))) := by
          unfold Instr.alloc; rfl
        refine Eff.next ?_
        obtain ⟨v, S', gh', w', h1, h2, h3, h4⟩ := hb
        refine ⟨v, S', gh', w', ?_, h2, h3, h4⟩
        rw [this, Sem.run_bind, run_zero hT hi, Result.andThen_ok]
        exact h1
    · cases h
  · rename_i t len parts
    cases hl : evSliceLit T sto t len (parts.toList.map fun p => (p.1, ρ p.2)) with
    | none => rw [hl] at h; cases h
    | some x =>
      rw [hl] at h
      simp only [Option.map_some, Option.some.injEq, Prod.mk.injEq] at h
      obtain ⟨rfl, rfl⟩ := h
      obtain ⟨arr, h1, h2, h3, h4, h5⟩ := sliceLit_run (P := P) hT hs hρ hl
      exact (arr_eff hlo hs (below_new w _) (heap_alloc_new w _) (Nat.le_refl _) h2 h3 h4 h5 h1).next
  · rename_i t l c
    split at h
    · rename_i e0 k a k' b hk hl hc
      have hu := kd_slice hT hk
      split at h
      · rename_i j hj
        obtain ⟨ti, hi, hz1, hz2, hz3, hz4⟩ := tab_full hT hj
        split at h
        · rename_i z hz
          split at h
          · rename_i hcc
            obtain ⟨rfl, c1, c2, c3, c4, c5⟩ := hcc
            simp only [Option.some.injEq, Prod.mk.injEq] at h
            obtain ⟨rfl, rfl⟩ := h
            have h1 := hρ l
            have h2 := hρ c
            rw [hl] at h1
            rw [hc] at h2
            have h1' := RepV.int_inv h1
            have h2' := RepV.int_inv h2
            obtain ⟨n, rfl⟩ := Int.eq_ofNat_of_zero_le c1
            have hzr := zeroV_rep hs.stay hz
            obtain ⟨w', q1, q2, q3⟩ := run_make_full (P := P) w 0 t e0 ti j.zero j.size hu hi hz1 hz2 k k' n (by rw [hz3]; have : j.bytes * n ≤ 100000 * 1000000000 := Nat.mul_le_mul c3 (by omega); omega) (by unfold maxLen; omega) (Nat.zero_le _)
            refine Eff.next ?_
            rcases q2.2 with ⟨h0, _⟩ | ⟨g', cap', cur, h0, _, hh, hn, hcm, hcs, htk⟩
            · cases h0
            · simp only [Value.slice.injEq, Option.some.injEq, Addr.mk.injEq, and_true, true_and] at h0
              obtain ⟨rfl, rfl⟩ := h0
              have hb : Below w.heap.size w w' := ⟨q3.os, q3.tape, q3.output, q3.size, fun k hk => q3.block k hk (by simp)⟩
              have hcur : cur.toList = (madeCells j.zero.cells (n * j.size)).toList := by
                rw [← htk, List.take_of_length_le (by rw [Array.length_toList, hcs]; exact Nat.le_refl _)]
              have hm := made_rep (S := S) (w := w) hzr (by omega) n ((Array.range (n * j.zero.cells.size)).map (j.zero.cells[· % j.zero.cells.size]!)) rfl
              have hmk : (madeCells j.zero.cells (n * j.size)) = (Array.range (n * j.zero.cells.size)).map (j.zero.cells[· % j.zero.cells.size]!) := by
                rw [hz4]; unfold madeCells; rw [hz4]
              rw [← hmk, ← hcur] at hm
              refine arr_eff hlo hs hb hh hn hcm hcs ?_ hm.2 ?_
              · unfold repl; rw [repl_len, c4]
              · rw [h1', h2']; exact q1
          · cases h
        · cases h
      · cases h
    · cases h
  · rename_i t p x
    split at h
    · rename_i i ds hi hc
      split at h
      · rename_i hsz
        have hcells := RepD.cells (hρ x) hc
        have hsz' : (e x).cells.size = i.size := by rw [← Array.length_toList, hcells.1]; exact hsz
        split at h
        · rename_i id off hp
          have h0 := hρ p
          rw [hp] at h0
          obtain ⟨hid, g, hg, hv⟩ := h0
          split at h
          · rename_i cs hes
            split at h
            · rename_i hcc
              obtain ⟨c1, c2, _⟩ := hcc
              simp only [Option.some.injEq, Prod.mk.injEq] at h
              obtain ⟨rfl, rfl⟩ := h
              obtain ⟨gh', w', r1, r2, r3⟩ := store_box (P := P) hs hes hg c1 hcells (by rw [hsz]; exact c2)
              rw [hsz] at r2 r3
              refine ⟨.skip, undef, S, gh', w', ?_, .inr ⟨rfl, rfl⟩, rfl, r2, r3⟩
              rw [hv]
              simp only [Instr.storeAt, Instr.sureAddr, Sem.run_bind, Sem.run_pure, Result.andThen_ok, storeVar_run hT hi hsz' r1]
            · cases h
          · cases h
        · rename_i id n off hp
          have h0 := hρ p
          rw [hp] at h0
          obtain ⟨hid, ⟨a0, ha0⟩, h3⟩ := h0
          split at h
          · rename_i es n' cs xs hes hxs
            split at h
            · rename_i hcc
              obtain ⟨c1, rfl, c2⟩ := hcc
              simp only [Option.some.injEq, Prod.mk.injEq] at h
              obtain ⟨rfl, rfl⟩ := h
              obtain ⟨g, hg, hv⟩ := (h3 es true n' cs hes).2 rfl
              obtain ⟨l1, l2⟩ := viewL_rep hs _ ds xs hcells.1 (fun j u d hu hd => (hcells.2 j u d hu hd).2) hxs
              have hpv : Pw (CellV S w) (e x).cells.toList xs := by
                refine ⟨l1, fun j u c hu hcc => ⟨?_, l2 j u c hu hcc⟩⟩
                have hlt := (List.getElem?_eq_some_iff.1 hu).1
                exact (hcells.2 j u _ hu (List.getElem?_eq_getElem (by rw [← hcells.1]; exact hlt))).1
              have hxl : xs.length = i.size := by rw [← l1, hcells.1]; exact hsz
              obtain ⟨gh', w', r1, r2, r3⟩ := store_arr (P := P) hs hes hg c1 hpv (by rw [hxl]; exact c2)
              rw [hxl] at r2 r3
              refine ⟨.skip, undef, S, gh', w', ?_, .inr ⟨rfl, rfl⟩, rfl, r2, r3⟩
              rw [hv]
              simp only [Instr.storeAt, Instr.sureAddr, Sem.run_bind, Sem.run_pure, Result.andThen_ok, storeVar_run hT hi hsz' r1]
            · cases h
          · cases h
        · cases h
      · cases h
    · cases h
  · rename_i t r
    have ha := evMakeMap_eff (P := P) hT hlo hs (vr := r.map e) (fun x hx => by
      cases r with
      | none => cases hx
      | some y => simp only [Option.map_some, Option.some.injEq] at hx; subst hx; exact ⟨_, rfl, hρ y⟩) (fun h0 => by cases r with | none => rfl | some y => cases h0) h
    exact ha.next
  · rename_i t m x v
    obtain ⟨rfl, gh', w', r1, r2, r3⟩ := evUpdate_eff (P := P) hT hs (hρ m) (hρ x) (hρ v) h
    exact ⟨.skip, undef, S, gh', w', by simp only [Sem.run_bind, r1, Result.andThen_ok, Sem.run_pure], .inr ⟨rfl, rfl⟩, rfl, r2, r3⟩
  · rename_i c
    split at h
    · rename_i x y t t' hb hargs hts
      split at h
      · rename_i htt
        subst htt
        have hx : RepC S gh sto w (e x) (ρ x) := (hρ x).toC fun ds h0 => by
          rw [h0] at h
          unfold evAppend at h
          (repeat' split at h) <;> first | (cases h; done) | contradiction
        have ha := evAppend_eff hT hlo hs o.type hx (hρ y) h
        obtain ⟨v, S', gh', w', r1, r2, r3, r4⟩ := ha
        refine ⟨.value v, v, S', gh', w', ?_, .inl rfl, r2, r3, r4⟩
        have hargs' : c.args = #[x, y] := Array.ext' (by simpa using hargs)
        have hts' : c.argTypes = #[t, t] := Array.ext' (by simpa using hts)
        simp only [resolve, hb, Sem.run_bind, Sem.run_pure, Result.andThen_ok, invoke, builtin, hargs', hts', List.map_toArray, List.map_cons, List.map_nil, r1]
      · split at h
        · rename_i kn hkn
          have hx : RepC S gh sto w (e x) (ρ x) := (hρ x).toC fun ds h0 => by
            rw [h0] at h
            unfold evAppendZ at h
            (repeat' split at h) <;> first | (cases h; done) | contradiction
          have ha := evAppendZ_eff hT hs hkn o.type hx (hρ y) h
          obtain ⟨v, S', gh', w', r1, r2, r3, r4⟩ := ha
          refine ⟨.value v, v, S', gh', w', ?_, .inl rfl, r2, r3, r4⟩
          have hargs' : c.args = #[x, y] := Array.ext' (by simpa using hargs)
          have hts' : c.argTypes = #[t, t'] := Array.ext' (by simpa using hts)
          simp only [resolve, hb, Sem.run_bind, Sem.run_pure, Result.andThen_ok, invoke, builtin, hargs', hts', List.map_toArray, List.map_cons, List.map_nil, r1]
        · cases h
    · rename_i x t hb hargs hts
      obtain ⟨v, S', gh', w', r1, r2, r3, r4⟩ := evClear_eff (P := P) (ty := o.type) hT hs (hρ x) h
      refine ⟨.value v, v, S', gh', w', ?_, .inl rfl, r2, r3, r4⟩
      have hargs' : c.args = #[x] := Array.ext' (by simpa using hargs)
      have hts' : c.argTypes = #[t] := Array.ext' (by simpa using hts)
      simp only [resolve, hb, Sem.run_bind, Sem.run_pure, Result.andThen_ok, invoke, builtin, hargs', hts', List.map_toArray, List.map_cons, List.map_nil, r1]
    · rename_i m x t t2 hb hargs hts
      obtain ⟨v, S', gh', w', r1, r2, r3, r4⟩ := evDelete_eff (P := P) (ty := o.type) (t2 := t2) hT hs (hρ m) (hρ x) h
      refine ⟨.value v, v, S', gh', w', ?_, .inl rfl, r2, r3, r4⟩
      have hargs' : c.args = #[m, x] := Array.ext' (by simpa using hargs)
      have hts' : c.argTypes = #[t, t2] := Array.ext' (by simpa using hts)
      simp only [resolve, hb, Sem.run_bind, Sem.run_pure, Result.andThen_ok, invoke, builtin, hargs', hts', List.map_toArray, List.map_cons, List.map_nil, r1]
    · cases h
  · cases h
end
end Go.Proofs.YtomameefmobnlaaDoor
