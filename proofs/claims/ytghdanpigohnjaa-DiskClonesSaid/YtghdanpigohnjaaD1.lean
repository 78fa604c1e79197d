/-
  Plain data: what the model's values read as. No condition of its own. The package-level variables that the evaluator may read: none. No condition of its own. An evaluator of the model's code over plain data: values are plain trees, a function's boxes and growing slices lie in a list of entries, and a call yields plain data. Whatever it says of a call is shown of the model's own run in EvMain. No condition of its own. The rules by which a walk goes through code in the evaluator. No condition of its own. Plain data's names and small laws for walks in the evaluator. No condition of its own. Rules for walks that part by themselves. No condition of its own. Cuts: what is known of the state takes the state's place. No condition of its own. The walk's tactics, each laid into a hypothesis that it proves itself, so that a text only names it. No condition of its own. The numbers that the reference draws. Plain Lean. No condition of its own. The table of the types of this program, for the evaluator. No condition of its own. The disk in plain words: strings and blocks as lists of bytes, the disk's parts, its entries. No condition of its own. How the model's values and memory read as the evaluator's: plain data in cells that stay (S), boxes and slices of the call's own as entries (gh: where each lies). No condition of its own. The evaluator's operations that leave the entries alone, shown of the model's. No condition of its own. The evaluator's operations that leave the entries alone, shown of the model's: addresses, indices, slices, arithmetic. No condition of its own. The evaluator's operations that leave the entries alone, shown of the model's: all of them. No condition of its own. Arrays of numbers that are compared, and strings. No condition of its own. The evaluator's operations that leave the entries alone, shown of the model's: slices, composite values, arithmetic; all of them together. No condition of its own. The evaluator's operations that leave the entries alone: each is the model's. No condition of its own.
-/
import Derived.WalkKit
import Derived.WalkSpells
import Derived.Lib.Hide
import Derived.Orders
import Derived.Laws.OwnMore
import Derived.Laws.AppendOwnNone
import Derived.Test.YtghdanpigohnjaaProg
import Derived.Laws.StructEq
namespace Go.Proofs.Ytghdanpigohnjaa
open Go Go.RowKit

/-- Plain data: what a value reads as. A slice: its length and its cells. -/
inductive V where
  | bool (b : Bool)
  | int (k : IntKind) (n : Int)
  | str (s : ByteArray)
  | sl (n : Nat) (cs : List V)
  | agg (cs : List V)
  | tup (vs : List V)
  | fn (f : FuncId)
end Go.Proofs.Ytghdanpigohnjaa
namespace Go.Proofs.Ytghdanpigohnjaa
open Go
def globs : List (Nat × List V) := []
end Go.Proofs.Ytghdanpigohnjaa
namespace Go.Proofs.Ytghdanpigohnjaa
open Go Go.RowKit

/-- What a slot or a cell holds: plain data; an aggregate whose cells are no plain data; nil; a slice of the call's own (entry, length); a pointer into one (entry, its length then, cell); a pointer into a box; a pointer into memory that stays; a closure over boxes; a part of a slice of the call's own (entry, its length then, first cell, length); a map (entry); the nil map; results together; a slice of a box's cells (entry, first cell, length). -/
inductive D where
  | v (x : V)
  | agg (ds : List D)
  | nilS
  | arr (id n : Nat)
  | aptr (id n o : Nat)
  | ptr (id off : Nat)
  | vp (cs : List V) (o : Nat)
  | nilp
  | clo (f : FuncId) (caps : List Nat)
  | nilf
  | undef
  | dead
  | win (id n o m : Nat)
  | map (id : Nat)
  | nilM
  | tupD (ds : List D)
  | bwin (id o m : Nat)
  | emp
/-- An entry: a box; a slice of the call's own (its element type and size, none while it is nil; whether it may be written; its length; its cells); a map over numbers. -/
inductive Ent where
  | cells (ds : List D)
  | arr (es : Option (TypeId × Nat)) (wr : Bool) (n : Nat) (cs : List V)
  | map (k : IntKind) (kvs : List (Int × V))
abbrev Sto := List Ent
structure St where
  env : List D
  sto : Sto

/-- A type's kind. -/
inductive Kd where
  | bool | int (k : IntKind) | str | slice (e : TypeId) | struct (fs : List (Nat × TypeId)) | array (n : Nat) (e : TypeId) | map (k e : TypeId) | ptr (e : TypeId) | other
def kindOf : TypeDesc → Kd
  | .bool => .bool
  | .int k => .int k
  | .string => .str
  | .slice e => .slice e
  | .struct fs => .struct (fs.toList.map fun f => (f.offset, f.type))
  | .array n e => .array n e
  | .map k e => .map k e
  | .pointer e => .ptr e
  | _ => .other
/-- What the program's tables say of a type. -/
structure TyI where
  kind : Kd
  zero : Value
  size : Nat
  bytes : Nat
abbrev Tab := TypeId → Option TyI
def Tab.OK (T : Tab) (P : Program) : Prop := ∀ t i, T t = some i → (P.info? t).map (fun x => (x.zero, x.size, x.bytes)) = some (some i.zero, i.size, i.bytes) ∧ (P.underlying t).map kindOf = some i.kind ∧ i.zero.cells.size = i.size
def kd (T : Tab) (t : TypeId) : Option Kd := match T t with
  | some i => some i.kind
  | none => none
def Kd.agg : Kd → Bool
  | .struct _ => true
  | .array _ _ => true
  | _ => false

/-- A constant. -/
def ofVal1 : Value → D
  | .bool b => .v (.bool b)
  | .int k n => .v (.int k n)
  | .string s => .v (.str s)
  | .slice none 0 0 => .nilS
  | .pointer none => .nilp
  | .nilFunc => .nilf
  | .map none => .nilM
  | _ => .dead
def ofVal : Value → D
  | .agg cs => if cs.toList.all (·.oneCell') then .agg (cs.toList.map ofVal1) else .dead
  | v => ofVal1 v
/-- What reads as plain data. -/
def viewC (sto : Sto) : D → Option V
  | .v x => some x
  | .nilS => some (.sl 0 [])
  | .emp => some (.sl 0 [])
  | .arr id n => match sto[id]? with
    | some (.arr _ false m cs) => if m = n then some (.sl n cs) else none
    | _ => none
  | .clo f caps => match caps with
    | [] => some (.fn f)
    | _ => none
  | _ => none
def viewL (sto : Sto) : List D → Option (List V)
  | [] => some []
  | d :: ds => match viewC sto d, viewL sto ds with
    | some x, some xs => some (x :: xs)
    | _, _ => none
def view (sto : Sto) : D → Option V
  | .agg ds => (viewL sto ds).map .agg
  | d => viewC sto d
def D.cells : D → Option (List D)
  | .agg ds => some ds
  | .v (.agg cs) => some (cs.map .v)
  | .v (.tup _) => none
  | .undef => none
  | .dead => none
  | .tupD _ => none
  | d => some [d]
def V.cells : V → List V
  | .agg cs => cs
  | x => [x]
def St.put (st : St) (dst : Option Tmp) (d : D) : St := match dst with
  | some t => { st with env := st.env.set t d }
  | none => st
def globAt (g : Nat) : List (Nat × List V) → Option (List V)
  | [] => none
  | (k, cs) :: r => if g = k then some cs else globAt g r
def opd (env : List D) : Operand → D
  | .tmp t => (env[t]?).getD .undef
  | .const v => ofVal v
  | .global g => match globAt g globs with
    | some cs => .vp cs 0
    | none => .dead
  | .func f => .clo f []

/-- Cells o, o + 1, .. as a value of that type. -/
def pick (i : TyI) (ds : List D) (o : Nat) : Option D :=
  if i.kind.agg then if o + i.size ≤ ds.length then some (.agg ((ds.drop o).take i.size)) else none
  else ds[o]?
def pickV (i : TyI) (cs : List V) (o : Nat) : Option V :=
  if i.kind.agg then if o + i.size ≤ cs.length then some (.agg ((cs.drop o).take i.size)) else none
  else cs[o]?
def evLoad (T : Tab) (sto : Sto) (t : TypeId) (p : D) : Option D :=
  match T t with
  | none => none
  | some i => match p with
    | .ptr id off => match sto[id]? with
      | some (.cells ds) => pick i ds off
      | _ => none
    | .aptr id n o => match sto[id]? with
      | some (.arr _ _ m cs) => if m = n then (pickV i cs o).map .v else none
      | _ => none
    | .vp cs o => (pickV i cs o).map .v
    | _ => none
def andI (k : IntKind) (x y : Int) : Int := k.wrap (BitVec.ofInt k.bits x &&& BitVec.ofInt k.bits y).toNat
def orI (k : IntKind) (x y : Int) : Int := k.wrap (BitVec.ofInt k.bits x ||| BitVec.ofInt k.bits y).toNat
def xorI (k : IntKind) (x y : Int) : Int := k.wrap (BitVec.ofInt k.bits x ^^^ BitVec.ofInt k.bits y).toNat
def andNotI (k : IntKind) (x y : Int) : Int := k.wrap (BitVec.ofInt k.bits x &&& ~~~ BitVec.ofInt k.bits y).toNat
def evBinI (op : BinOp) (k : IntKind) (x : Int) (y : Int) : Option V :=
  match op with
  | .add => some (.int k (k.wrap (x + y)))
  | .sub => some (.int k (k.wrap (x - y)))
  | .mul => some (.int k (k.wrap (x * y)))
  | .quo => if y = 0 then none else some (.int k (k.wrap (x.tdiv y)))
  | .rem => if y = 0 then none else some (.int k (x.tmod y))
  | .and => some (.int k (andI k x y))
  | .or => some (.int k (orI k x y))
  | .xor => some (.int k (xorI k x y))
  | .andNot => some (.int k (andNotI k x y))
  | .eql => some (.bool (x == y))
  | .neq => some (.bool (x != y))
  | .lss => some (.bool (decide (x < y)))
  | .leq => some (.bool (decide (x ≤ y)))
  | .gtr => some (.bool (decide (x > y)))
  | .geq => some (.bool (decide (x ≥ y)))
  | _ => none
def evShift (op : BinOp) (k : IntKind) (x : Int) (y : Int) : Option V :=
  if y < 0 then none else
  match op with
  | .shl => some (.int k (k.wrap (x * 2 ^ (min y.toNat k.bits))))
  | .shr => some (.int k (x.fdiv (2 ^ (min y.toNat k.bits))))
  | _ => none
/-- Strings' bytes. -/
def bytesV (s : ByteArray) : List V := s.data.toList.map fun b => V.int .u8 b.toNat
def strL : List V → Option (List UInt8)
  | [] => some []
  | .int .u8 n :: r => (strL r).map (UInt8.ofNat n.toNat :: ·)
  | _ :: _ => none
def strV (cs : List V) : Option ByteArray := (strL cs).map fun l => ⟨l.toArray⟩
/-- Numbers that are compared one by one. -/
def eqVs : List V → List V → Option Bool
  | [], [] => some true
  | .int k x :: a, .int k' y :: b => if k = k' then (eqVs a b).map ((x == y) && ·) else none
  | _, _ => none
def evBinS (op : BinOp) (x y : ByteArray) : Option V :=
  match op with
  | .eql => some (.bool (x.toList == y.toList))
  | .neq => some (.bool (!(x.toList == y.toList)))
  | .add => if x.size + y.size ≤ 4000000000000000000 then some (.str (x ++ y)) else none
  | _ => none
def evBinA (T : Tab) (op : BinOp) (t : TypeId) (x y : List V) : Option V :=
  match kd T t with
  | some (.array n e) => match kd T e, T e with
    | some (.int _), some j => if x.length = n ∧ y.length = n ∧ j.size = 1 then (match op with
      | .eql => (eqVs x y).map .bool
      | .neq => (eqVs x y).map fun b => .bool (!b)
      | _ => none) else none
    | _, _ => none
  | _ => none
def evBin (T : Tab) (op : BinOp) (t : TypeId) : V → V → Option V
  | .int k x, .int k' y => match op with
    | .shl => evShift .shl k x y
    | .shr => evShift .shr k x y
    | op => if k = k' then evBinI op k x y else none
  | .bool x, .bool y => match kd T t with
    | some .bool => match op with
      | .eql => some (.bool (x == y))
      | .neq => some (.bool (!(x == y)))
      | _ => none
    | _ => none
  | .str x, .str y => evBinS op x y
  | .agg x, .agg y => evBinA T op t x y
  | _, _ => none
def evUn (op : UnOp) : V → Option V
  | .int k n => match op with
    | .neg => some (.int k (k.wrap (0 - n)))
    | .xor => some (.int k (k.wrap (BitVec.ofInt k.bits (if k.signed then -1 else k.max) ^^^ BitVec.ofInt k.bits n).toNat))
    | _ => none
  | .bool b => match op with
    | .not => some (.bool !b)
    | _ => none
  | _ => none
/-- Parts into the cells of a composite value: part i at its place, of its size. -/
def fillD (place : Nat → Option (Nat × Nat)) : List D → List (Nat × D) → Option (List D)
  | cs, [] => some cs
  | cs, (i, d) :: rest => match place i, d.cells with
    | some (off, size), some ds => if ds.length = size ∧ off + size ≤ cs.length then fillD place (cs.take off ++ ds ++ cs.drop (off + size)) rest else none
    | _, _ => none
def placesT (T : Tab) : List (Nat × TypeId) → Option (List (Nat × Nat))
  | [] => some []
  | (off, t) :: r => match T t, placesT T r with
    | some j, some ps => some ((off, j.size) :: ps)
    | _, _ => none
def zeroD (i : TyI) : Option (List D) := (ofVal i.zero).cells
def evBuild (T : Tab) (t : TypeId) (parts : List (Nat × D)) : Option D :=
  match T t with
  | none => none
  | some i => match zeroD i, i.kind with
    | some z, .struct fs => match placesT T fs with
      | some ps => (fillD (fun k => ps[k]?) z parts).map .agg
      | none => none
    | some z, .array _ e => match T e with
      | some j => (fillD (fun k => some (k * j.size, j.size)) z parts).map .agg
      | none => none
    | _, _ => none
def evIndexAddr (T : Tab) (sto : Sto) (t : TypeId) (x i : D) : Option D :=
  match kd T t, i with
  | some (.slice e), .v (.int _ n) => match T e with
    | none => none
    | some j => match x with
      | .v (.sl m cs) => if 0 ≤ n ∧ n < m ∧ cs.length = m * j.size ∧ 0 < j.size then some (.vp cs (n.toNat * j.size)) else none
      | .arr id m => match sto[id]? with
        | some (.arr _ _ m' _) => if 0 ≤ n ∧ n < m ∧ m' = m then some (.aptr id m (n.toNat * j.size)) else none
        | _ => none
      | .win id k o m => match sto[id]? with
        | some (.arr _ _ k' _) => if 0 ≤ n ∧ n < m ∧ k' = k then some (.aptr id k (o + n.toNat * j.size)) else none
        | _ => none
      | .bwin id o m => if 0 ≤ n ∧ n < m then some (.ptr id (o + n.toNat * j.size)) else none
      | _ => none
  | some (.array m e), .v (.int _ n) => match T e with
    | none => none
    | some j => match x with
      | .ptr id off => if 0 ≤ n ∧ n < m then some (.ptr id (off + n.toNat * j.size)) else none
      | .vp cs o => if 0 ≤ n ∧ n < m then some (.vp cs (o + n.toNat * j.size)) else none
      | .aptr id k o => if 0 ≤ n ∧ n < m then some (.aptr id k (o + n.toNat * j.size)) else none
      | _ => none
  | _, _ => none
def evField (T : Tab) (t : TypeId) (f : Nat) (x : D) : Option D :=
  match kd T t with
  | some (.struct fs) => match fs[f]? with
    | some (off, ft) => match T ft, x with
      | some i, .agg ds => pick i ds off
      | some i, .v (.agg cs) => (pickV i cs off).map .v
      | _, _ => none
    | none => none
  | _ => none
def evFieldAddr (T : Tab) (t : TypeId) (f : Nat) (x : D) : Option D :=
  match kd T t with
  | some (.struct fs) => match fs[f]? with
    | some (off, ft) => match T ft with
      | some i => if i.size = 0 then none else match x with
        | .ptr id o => some (.ptr id (o + off))
        | .aptr id n o => some (.aptr id n (o + off))
        | .vp cs o => some (.vp cs (o + off))
        | _ => none
      | none => none
    | none => none
  | _ => none
def evIndex (T : Tab) (t : TypeId) (x i : D) : Option D :=
  match kd T t, i with
  | some (.array m e), .v (.int _ n) => match T e with
    | none => none
    | some j => if 0 ≤ n ∧ n < m then match x with
      | .agg ds => pick j ds (n.toNat * j.size)
      | .v (.agg cs) => (pickV j cs (n.toNat * j.size)).map .v
      | _ => none
      else none
  | some .str, .v (.int _ n) => match x with
    | .v (.str s) => if 0 ≤ n then (s[n.toNat]?).map fun b => .v (.int .u8 b.toNat) else none
    | _ => none
  | _, _ => none
/-- A bound of a slice expression. -/
def bound (d : Option D) (dflt : Nat) : Option Nat :=
  match d with
  | none => some dflt
  | some (.v (.int _ n)) => if 0 ≤ n then some n.toNat else none
  | _ => none
/-- A slice that may be written: entry, its length, first cell, length. -/
def ownWin (sto : Sto) : D → Option (Nat × Nat × Nat × Nat)
  | .arr id n => match sto[id]? with
    | some (.arr (some _) true k _) => if k = n then some (id, n, 0, n) else none
    | _ => none
  | .win id n o m => match sto[id]? with
    | some (.arr _ _ k _) => if k = n then some (id, n, o, m) else none
    | _ => none
  | _ => none
def evSliceW (T : Tab) (t : TypeId) (x : Nat × Nat × Nat × Nat) (lo hi mx : Option D) : Option D :=
  match kd T t with
  | some (.slice e) => match T e, bound lo 0, bound hi x.2.2.2, mx with
    | some j, some l, some h, none => if l ≤ h ∧ h ≤ x.2.2.2 then some (.win x.1 x.2.1 (x.2.2.1 + l * j.size) (h - l)) else none
    | _, _, _, _ => none
  | _ => none
def evSliceV (T : Tab) (sto : Sto) (t : TypeId) (x : D) (lo hi mx : Option D) : Option D :=
  match kd T t, view sto x with
  | some (.slice e), some (.sl n cs) => match T e, bound lo 0, bound hi n with
    | some j, some l, some h => match mx with
      | none => if l ≤ h ∧ h ≤ n ∧ cs.length = n * j.size ∧ 0 < j.size then some (.v (.sl (h - l) ((cs.drop (l * j.size)).take ((h - l) * j.size)))) else none
      | some _ => none
    | _, _, _ => none
  | _, _ => none
def evSliceO (T : Tab) (sto : Sto) (t : TypeId) (x : D) (lo hi mx : Option D) : Option D :=
  match ownWin sto x with
  | some y => evSliceW T t y lo hi mx
  | none => evSliceV T sto t x lo hi mx
/-- A part of a string. -/
def evSliceS (x : D) (lo hi mx : Option D) : Option D :=
  match x with
  | .v (.str s) => match bound lo 0, bound hi s.size, mx with
    | some l, some h, none => if l ≤ h ∧ h ≤ s.size then some (.v (.str (s.extract l h))) else none
    | _, _, _ => none
  | _ => none
/-- A part of an array that lies at an address. -/
def evSliceA (T : Tab) (sto : Sto) (n : Nat) (e : TypeId) (x : D) (lo hi mx : Option D) : Option D :=
  match T e, bound lo 0, bound hi n, mx with
  | some j, some l, some h, none => if l ≤ h ∧ h ≤ n ∧ l < n ∧ n ≤ 1000000000 then (match x with
    | .ptr id off => some (.bwin id (off + l * j.size) (h - l))
    | .aptr id k o => match sto[id]? with
      | some (.arr _ _ k' _) => if k' = k then some (.win id k (o + l * j.size) (h - l)) else none
      | _ => none
    | .vp cs o => if o + h * j.size ≤ cs.length then some (.v (.sl (h - l) ((cs.drop (o + l * j.size)).take ((h - l) * j.size)))) else none
    | _ => none) else none
  | _, _, _, _ => none
def evSlice (T : Tab) (sto : Sto) (t : TypeId) (x : D) (lo hi mx : Option D) : Option D :=
  match kd T t with
  | some .str => evSliceS x lo hi mx
  | some (.array n e) => evSliceA T sto n e x lo hi mx
  | _ => evSliceO T sto t x lo hi mx
/-- What a slice holds now, wherever it lies; elements of that size. -/
def srcV (sto : Sto) (s : Nat) (y : D) : Option V :=
  match y with
  | .arr id n => match sto[id]? with
    | some (.arr _ _ k cs) => if k = n then some (.sl n cs) else none
    | _ => none
  | .win id n o m => match sto[id]? with
    | some (.arr _ _ k cs) => if k = n ∧ o + m * s ≤ cs.length then some (.sl m ((cs.drop o).take (m * s))) else none
    | _ => none
  | .bwin id o m => match sto[id]? with
    | some (.cells ds) => if o + m * s ≤ ds.length then (viewL sto ((ds.drop o).take (m * s))).map (.sl m ·) else none
    | _ => none
  | y => view sto y
/-- Is it nil? -/
def isNil (sto : Sto) (k : Kd) (x : D) : Option Bool :=
  match k, x with
  | .slice _, .nilS => some true
  | .slice _, .arr id n => match sto[id]? with
    | some (.arr es _ k _) => if k = n then some es.isNone else none
    | _ => none
  | .slice _, .win id n _ _ => match sto[id]? with
    | some (.arr _ _ k _) => if k = n then some false else none
    | _ => none
  | .slice _, .bwin _ _ _ => some false
  | .slice _, .v (.sl n _) => if 0 < n then some false else none
  | .map _ _, .map _ => some false
  | .map _ _, .nilM => some true
  | .ptr _, .ptr _ _ => some false
  | .ptr _, .nilp => some true
  | .ptr _, .aptr _ _ _ => some false
  | .ptr _, .vp _ _ => some false
  | _, _ => none
def nilLit : Kd → D → Bool
  | .slice _, .nilS => true
  | .map _ _, .nilM => true
  | .ptr _, .nilp => true
  | _, _ => false
def evNil (T : Tab) (sto : Sto) (op : BinOp) (t : TypeId) (x y : D) : Option D :=
  match kd T t with
  | some k => if nilLit k y then (match isNil sto k x with
    | some b => match op with
      | .eql => some (.v (.bool b))
      | .neq => some (.v (.bool (!b)))
      | _ => none
    | none => none) else none
  | none => none
def mm2 (mx : Bool) : V → V → Option V
  | .int k x, .int _ y => some (.int k (if mx then (if y > x then y else x) else (if y < x then y else x)))
  | _, _ => none
def evMM (mx : Bool) : List V → Option V
  | .int k x :: rest => rest.foldlM (mm2 mx) (.int k x)
  | _ => none
def lenD (sto : Sto) (d : D) : Option Nat :=
  match d with
  | .arr id n => match sto[id]? with
    | some (.arr _ _ m _) => if m = n then some n else none
    | _ => none
  | .win _ _ _ m => some m
  | .bwin _ _ m => some m
  | d => match viewC sto d with
    | some (.sl n _) => some n
    | _ => none
def evBuiltin (T : Tab) (sto : Sto) (b : Builtin) (ts : Array TypeId) (args : List D) : Option D :=
  match b with
  | .len => match args, (ts[0]?).bind (kd T) with
    | [d], some (.slice _) => (lenD sto d).map fun n => .v (.int .i64 n)
    | [.v (.str s)], some .str => some (.v (.int .i64 s.size))
    | [.nilM], some (.map _ _) => some (.v (.int .i64 0))
    | [.map id], some (.map _ _) => match sto[id]? with
      | some (.map _ kvs) => some (.v (.int .i64 kvs.length))
      | _ => none
    | _, _ => none
  | .min => ((viewL sto args).bind (evMM false)).map .v
  | .max => ((viewL sto args).bind (evMM true)).map .v
  | _ => none
/-! Maps over numbers. -/
def mget : List (Int × V) → Int → Option V
  | [], _ => none
  | (k, v) :: r, n => if n = k then some v else mget r n
def mput : List (Int × V) → Int → V → List (Int × V)
  | [], n, v => [(n, v)]
  | (k, u) :: r, n, v => if n = k then (n, v) :: r else (k, u) :: mput r n v
def mdel : List (Int × V) → Int → List (Int × V)
  | [], _ => []
  | (k, u) :: r, n => if n = k then r else (k, u) :: mdel r n
def okV (ok : Bool) (v : V) (b : Bool) : D := if ok then .v (.tup [v, .bool b]) else .v v
def evLookup (T : Tab) (sto : Sto) (t : TypeId) (x key : D) (ok : Bool) : Option D :=
  match kd T t, key with
  | some (.map kt et), .v (.int k' n) => match kd T kt, T et with
    | some (.int k), some i => match view [] (ofVal i.zero) with
      | some z => if k' = k then match x with
        | .nilM => some (okV ok z false)
        | .map id => match sto[id]? with
          | some (.map k2 kvs) => if k2 = k then (match mget kvs n with
            | some v => some (okV ok v true)
            | none => some (okV ok z false)) else none
          | _ => none
        | _ => none
        else none
      | none => none
    | _, _ => none
  | _, _ => none
def capId (ds : List D) : Option (List Nat) :=
  match ds with
  | [] => some []
  | .ptr id 0 :: rest => (capId rest).map (id :: ·)
  | _ => none
/-- A slice's cells, each its own value. -/
def cellsV (sto : Sto) (d : D) : Option (List V) :=
  match d.cells with
  | some ds => viewL sto ds
  | none => none
def fillV (sto : Sto) (s : Nat) : List V → List (Nat × D) → Option (List V)
  | cs, [] => some cs
  | cs, (i, d) :: rest => match cellsV sto d with
    | some ds => if ds.length = s ∧ i * s + s ≤ cs.length then fillV sto s (cs.take (i * s) ++ ds ++ cs.drop (i * s + s)) rest else none
    | none => none
def zeroV (i : TyI) : Option (List V) := match zeroD i with
  | some ds => viewL [] ds
  | none => none
def repl (n : Nat) (z : List V) : List V := (List.replicate n z).flatten
/-- A composite slice that nothing is written to. -/
def evSliceLit (T : Tab) (sto : Sto) (t : TypeId) (len : Nat) (parts : List (Nat × D)) : Option (TypeId × Nat × List V) :=
  match kd T t with
  | some (.slice e) => match T e with
    | some j => match zeroV j with
      | some z => if len * j.size ≤ 16777216 ∧ z.length = j.size ∧ 0 < j.size then
          (fillV sto j.size (repl len z) parts).map fun cs => (e, j.size, cs)
        else none
      | none => none
    | none => none
  | _ => none
/-- Bytes and strings. -/
def evConv (T : Tab) (sto : Sto) (k k' : Kd) (x : D) : Option D :=
  match k, k' with
  | .slice e, .str => match kd T e, srcV sto 1 x with
    | some (.int .u8), some (.sl m cs) => if cs.length = m then (strV cs).map fun s => .v (.str s) else none
    | _, _ => none
  | .str, .slice e => match kd T e, x with
    | some (.int .u8), .v (.str s) => if s.size ≤ 1000000000 then some (.v (.sl s.size (bytesV s))) else none
    | _, _ => none
  | _, _ => none
/-- An array that lies where a slice begins. -/
def evToArr (T : Tab) (dst : TypeId) (x : D) : Option D :=
  match kd T dst with
  | some (.array n _) => match x with
    | .bwin id o m => if n ≤ m then some (.ptr id o) else none
    | .v (.sl m cs) => if n ≤ m ∧ cs ≠ [] then some (.vp cs 0) else none
    | _ => none
  | _ => none
/-- The operations that leave the entries alone. -/
def evPure (T : Tab) (ρ : Operand → D) (sto : Sto) (o : Oper) : Option D :=
  match o.op with
  | .move x => some (ρ x)
  | .assign x => some (ρ x)
  | .pick c a b => match ρ c with
    | .v (.bool t) => some (if t then ρ a else ρ b)
    | _ => none
  | .build t parts => evBuild T t (parts.toList.map fun p => (p.1, ρ p.2))
  | .buildSlice t len parts => (evSliceLit T sto t len (parts.toList.map fun p => (p.1, ρ p.2))).map fun x => if len = 0 then .emp else .v (.sl len x.2.2)
  | .load t x => evLoad T sto t (ρ x)
  | .nilCheck x => match ρ x with
    | .ptr id o => some (.ptr id o)
    | .vp cs o => some (.vp cs o)
    | .aptr id n o => some (.aptr id n o)
    | .clo f cs => some (.clo f cs)
    | _ => none
  | .binOp op t x y _ => match view sto (ρ x), view sto (ρ y) with
    | some a, some b => match evBin T op t a b with
      | some r => some (.v r)
      | none => evNil T sto op t (ρ x) (ρ y)
    | _, _ => evNil T sto op t (ρ x) (ρ y)
  | .unOp op _ x => match ρ x with
    | .v a => (evUn op a).map .v
    | _ => none
  | .convert src dst x => match T src, T dst, ρ x with
    | some _, some i, .v (.int _ n) => match i.kind with
      | .int k => some (.v (.int k (k.wrap n)))
      | _ => none
    | some i, some j, x => evConv T sto i.kind j.kind x
    | _, _, _ => none
  | .sliceToArrayPointer dst x => evToArr T dst (ρ x)
  | .makeFunc (.func f) first caps => if first.size = 0 then (capId (caps.toList.map ρ)).map (.clo f ·) else none
  | .slice t x lo hi mx => evSlice T sto t (ρ x) (lo.map ρ) (hi.map ρ) (mx.map ρ)
  | .fieldAddr t x f => evFieldAddr T t f (ρ x)
  | .field t x f => evField T t f (ρ x)
  | .indexAddr t x i => evIndexAddr T sto t (ρ x) (ρ i)
  | .index t x i => evIndex T t (ρ x) (ρ i)
  | .lookup t x i ok => evLookup T sto t (ρ x) (ρ i) ok
  | .extract x ix => match ρ x with
    | .v (.tup vs) => (vs[ix]?).map .v
    | .tupD ds => ds[ix]?
    | _ => none
  | .call c => match c.callee with
    | .builtin b => evBuiltin T sto b c.argTypes (c.args.toList.map ρ)
    | _ => none
  | _ => none
/-- A new slice of zeros that nothing is written to. -/
def evMakeP (T : Tab) (ρ : Operand → D) (o : Oper) : Option D :=
  match o.op with
  | .makeSlice t l c => match kd T t, ρ l, ρ c with
    | some (.slice e), .v (.int _ a), .v (.int _ b) => match T e with
      | some j => match zeroV j with
        | some z => if a = b ∧ 0 ≤ a ∧ a ≤ 1000000000 ∧ j.bytes ≤ 100000 ∧ z.length = j.size ∧ 0 < j.size then some (.v (.sl a.toNat (repl a.toNat z))) else none
        | none => none
      | none => none
    | _, _, _ => none
  | _ => none
def evPureM (T : Tab) (ρ : Operand → D) (sto : Sto) (o : Oper) : Option D := match evPure T ρ sto o with
  | some d => some d
  | none => evMakeP T ρ o
theorem pm {T : Tab} {ρ : Operand → D} {sto : Sto} {o : Oper} {d : D} (h : evPure T ρ sto o = some d) : evPureM T ρ sto o = some d := by simp [evPureM, h]
/-- Nothing in it points at an entry from m on. -/
def D.inside (m : Nat) : D → Bool
  | .v _ => true
  | .nilS => true
  | .emp => true
  | .nilp => true
  | .nilf => true
  | .undef => true
  | .dead => true
  | .arr id _ => decide (id < m)
  | .aptr id _ _ => decide (id < m)
  | .ptr id _ => decide (id < m)
  | .clo _ cs => cs.all (decide <| · < m)
  | .vp _ _ => true
  | .win id _ _ _ => decide (id < m)
  | .map id => decide (id < m)
  | .nilM => true
  | .agg _ => false
  | .tupD _ => false
  | .bwin id _ _ => decide (id < m)
def scopedL (m : Nat) : List D → Bool
  | [] => true
  | d :: ds => d.inside m && scopedL m ds
def evAppend (T : Tab) (lo : Nat) (wr : Bool) (sto : Sto) (t : TypeId) (x y : D) : Option (D × Sto) :=
  match kd T t with
  | some (.slice e) => match T e with
    | some j => match srcV sto j.size y with
     | some (.sl m news) => if 0 < j.size ∧ news.length = m * j.size ∧ j.bytes ≤ 100000 then match x with
      | .nilS => if m ≤ 1000000000 then
          (if m = 0 then some (.nilS, sto) else some (.arr sto.length m, sto ++ [.arr (some (e, j.size)) wr m news]))
        else none
      | .emp => if m ≤ 1000000000 then
          (if m = 0 then some (.emp, sto) else some (.arr sto.length m, sto ++ [.arr (some (e, j.size)) wr m news]))
        else none
      | .arr id n => match sto[id]? with
        | some (.arr es w n' cs) => if n' = n ∧ lo ≤ id ∧ n + m ≤ 1000000000 ∧ (es = none ∨ es = some (e, j.size)) then
            (if m = 0 then some (.arr id n, sto) else some (.arr id (n + m), sto.set id (.arr (some (e, j.size)) w (n + m) (cs ++ news))))
          else none
        | _ => none
      | _ => none
      else none
     | _ => none
    | none => none
  | _ => none
/-- append(x, make(.., k)...): its second argument is the number. -/
def evAppendZ (T : Tab) (lo : Nat) (sto : Sto) (t : TypeId) (x y : D) : Option (D × Sto) :=
  match kd T t, x, y with
  | some (.slice e), .arr id n, .v (.int _ k) => match T e, sto[id]? with
    | some j, some (.arr es w n' cs) => match zeroV j with
      | some z => if n' = n ∧ lo ≤ id ∧ 0 < k ∧ k ≤ 1000000 ∧ n ≤ 100000000 ∧ es = some (e, j.size) ∧ 0 < j.size ∧ z.length = j.size ∧ j.bytes ≤ 100000 then
          some (.arr id (n + k.toNat), sto.set id (.arr (some (e, j.size)) w (n + k.toNat) (cs ++ repl k.toNat z)))
        else none
      | none => none
    | _, _ => none
  | _, _, _ => none
def evClear (T : Tab) (lo : Nat) (sto : Sto) (t : TypeId) (x : D) : Option (D × Sto) :=
  match kd T t, ownWin sto x with
  | some (.slice e), some (id, n, o, m) => match T e with
    | some j => match zeroV j, sto[id]? with
      | some z, some (.arr es true k cs) => if lo ≤ id ∧ k = n ∧ z.length = j.size ∧ 0 < j.size ∧ o + m * j.size ≤ cs.length then
          some (.v (.tup []), if m = 0 then sto else sto.set id (.arr es true n (cs.take o ++ repl m z ++ cs.drop (o + m * j.size))))
        else none
      | _, _ => none
    | none => none
  | _, _ => none
/-- copy: the number of elements that are copied. -/
def evCopy (T : Tab) (lo : Nat) (sto : Sto) (t : TypeId) (x y : D) : Option (D × Sto) :=
  match kd T t with
  | some (.slice e) => match T e with
    | some j => match srcV sto j.size y with
      | some (.sl m news) => if news.length = m * j.size ∧ 0 < j.size then (match x with
        | .bwin id o k => match sto[id]? with
          | some (.cells ds) => if lo ≤ id ∧ o + k * j.size ≤ ds.length then
              some (.v (.int .i64 (min m k : Nat)), sto.set id (.cells (ds.take o ++ (news.take (min m k * j.size)).map .v ++ ds.drop (o + min m k * j.size)))) else none
          | _ => none
        | .win id n o k => match sto[id]? with
          | some (.arr es true n' cs) => if lo ≤ id ∧ n' = n ∧ o + k * j.size ≤ cs.length then
              some (.v (.int .i64 (min m k : Nat)), sto.set id (.arr es true n (cs.take o ++ news.take (min m k * j.size) ++ cs.drop (o + min m k * j.size)))) else none
          | _ => none
        | _ => none) else none
      | _ => none
    | none => none
  | _ => none
/-- A string's bytes in a new box. -/
def evBytes (T : Tab) (sto : Sto) (src dst : TypeId) (x : D) : Option (D × Sto) :=
  match kd T src, kd T dst, x with
  | some .str, some (.slice e), .v (.str s) => match kd T e with
    | some (.int .u8) => if s.size ≤ 1000000000 then some (.bwin sto.length 0 s.size, sto ++ [.cells ((bytesV s).map .v)]) else none
    | _ => none
  | _, _, _ => none
def evDelete (T : Tab) (lo : Nat) (sto : Sto) (t : TypeId) (m key : D) : Option (D × Sto) :=
  match kd T t, m, key with
  | some (.map kt _), .map id, .v (.int k' n) => match kd T kt, sto[id]? with
    | some (.int k), some (.map k2 kvs) => if k' = k ∧ k2 = k ∧ lo ≤ id then some (.v (.tup []), sto.set id (.map k (mdel kvs n))) else none
    | _, _ => none
  | _, _, _ => none
def evUpdate (T : Tab) (lo : Nat) (sto : Sto) (t : TypeId) (m key val : D) : Option (D × Sto) :=
  match kd T t, m, key, view sto val with
  | some (.map kt _), .map id, .v (.int k' n), some y => match kd T kt, sto[id]? with
    | some (.int k), some (.map k2 kvs) => if k' = k ∧ k2 = k ∧ lo ≤ id then some (.undef, sto.set id (.map k (mput kvs n y))) else none
    | _, _ => none
  | _, _, _, _ => none
def evMakeMap (T : Tab) (sto : Sto) (t : TypeId) (r : Option D) : Option (D × Sto) :=
  match kd T t with
  | some (.map kt _) => match kd T kt, r with
    | some (.int k), none => some (.map sto.length, sto ++ [.map k []])
    | some (.int k), some (.v (.int _ _)) => some (.map sto.length, sto ++ [.map k []])
    | _, _ => none
  | _ => none
/-- The operations that make or write entries. -/
def evEff (T : Tab) (n0 lo : Nat) (wr : Bool) (ρ : Operand → D) (sto : Sto) (o : Oper) : Option (D × Sto) :=
  match o.op with
  | .box _ x => (ρ x).cells.map fun ds => (.ptr sto.length 0, sto ++ [.cells ds])
  | .alloc t => match T t with
    | some i => (zeroD i).map fun ds => (.ptr sto.length 0, sto ++ [.cells ds])
    | none => none
  | .buildSlice t len parts => (evSliceLit T sto t len (parts.toList.map fun p => (p.1, ρ p.2))).map fun x => (.arr sto.length len, sto ++ [.arr (some (x.1, x.2.1)) wr len x.2.2])
  | .makeSlice t l c => match kd T t, ρ l, ρ c with
    | some (.slice e), .v (.int _ a), .v (.int _ b) => match T e with
      | some j => match zeroV j with
        | some z => if a = b ∧ 0 ≤ a ∧ a ≤ 1000000000 ∧ j.bytes ≤ 100000 ∧ z.length = j.size ∧ 0 < j.size then
            some (.arr sto.length a.toNat, sto ++ [.arr (some (e, j.size)) wr a.toNat (repl a.toNat z)])
          else none
        | none => none
      | none => none
    | _, _, _ => none
  | .store t p x => match T t, (ρ x).cells with
    | some i, some ds => if ds.length = i.size then match ρ p with
      | .ptr id off => match sto[id]? with
        | some (.cells cs) => if lo ≤ id ∧ off + i.size ≤ cs.length ∧ (id < n0 → scopedL n0 ds = true) then
            some (.undef, sto.set id (.cells (cs.take off ++ ds ++ cs.drop (off + i.size)))) else none
        | _ => none
      | .aptr id n off => match sto[id]?, viewL sto ds with
        | some (.arr es true n' cs), some xs => if lo ≤ id ∧ n' = n ∧ off + i.size ≤ cs.length then
            some (.undef, sto.set id (.arr es true n (cs.take off ++ xs ++ cs.drop (off + i.size)))) else none
        | _, _ => none
      | _ => none
      else none
    | _, _ => none
  | .makeMap t r => evMakeMap T sto t (r.map ρ)
  | .mapUpdate t m x v => evUpdate T lo sto t (ρ m) (ρ x) (ρ v)
  | .call c => match c.callee, c.args.toList, c.argTypes.toList with
    | .builtin .append, [x, y], [t, t'] => if t = t' then evAppend T lo wr sto t (ρ x) (ρ y) else (match kd T t' with
      | some (.int _) => evAppendZ T lo sto t (ρ x) (ρ y)
      | _ => none)
    | .builtin .clear, [x], [t] => evClear T lo sto t (ρ x)
    | .builtin .copy, [x, y], [t, t'] => if t = t' then evCopy T lo sto t (ρ x) (ρ y) else none
    | .builtin .delete, [m, x], [t, _] => evDelete T lo sto t (ρ m) (ρ x)
    | _, _, _ => none
  | .convert src dst x => evBytes T sto src dst (ρ x)
  | _ => none
/-- The call's function and its arguments as the callee meets them. -/
def argD (sto : Sto) (d : D) : Option D :=
  match d with
  | .ptr id o => some (.ptr id o)
  | .clo f cs => some (.clo f cs)
  | .nilf => some .nilf
  | .vp cs o => some (.vp cs o)
  | .nilp => some .nilp
  | .map id => some (.map id)
  | .nilM => some .nilM
  | .win id n o m => some (.win id n o m)
  | .aptr id n o => some (.aptr id n o)
  | .bwin id o m => some (.bwin id o m)
  | .arr id n => match sto[id]? with
    | some (.arr _ true k _) => if k = n then some (.arr id n) else none
    | _ => (view sto (.arr id n)).map .v
  | d => (view sto d).map .v
def argsD (sto : Sto) : List D → Option (List D)
  | [] => some []
  | d :: ds => match argD sto d, argsD sto ds with
    | some x, some xs => some (x :: xs)
    | _, _ => none
def evCallee (ρ : Operand → D) (sto : Sto) (o : Oper) : Option (FuncId × List D) :=
  match o.op with
  | .call c => match c.callee with
    | .value f => match ρ f with
      | .clo fid caps => (argsD sto (c.args.toList.map ρ)).map fun l => (fid, l ++ caps.map (.ptr · 0))
      | .v (.fn fid) => (argsD sto (c.args.toList.map ρ)).map fun l => (fid, l)
      | _ => none
    | _ => none
  | _ => none

/-- What a call yields: function, arguments, entries, the first entry that may be written, result, entries. -/
abbrev CallP := FuncId → List D → Sto → Nat → D → Sto → Prop
def guardD (ops : Array Oper) (o : Oper) (env : List D) : Option Bool :=
  match o.guard with
  | none => some true
  | some (j, want) => match (ops[j]?).bind (·.dst) with
    | none => some false
    | some d => match env[d]? with
      | none => some false
      | some (.v (.bool b)) => some (b == want)
      | some .undef => some false
      | _ => none
def wrOf (wt : List Tmp) (o : Oper) : Bool := match o.dst with
  | some t => wt.contains t
  | none => false
/-- 0: reads and reckons; 1: makes an entry; 2: writes; 3: calls. -/
def effKind (o : Oper) : Nat := match o.op with
  | .box .. => 1
  | .alloc _ => 1
  | .store .. => 2
  | .makeMap .. => 1
  | .mapUpdate .. => 2
  | .call c => match c.callee with
    | .builtin .append => 2
    | .builtin .clear => 2
    | .builtin .delete => 2
    | .builtin .copy => 2
    | .builtin _ => 0
    | _ => 3
  | _ => 0
def ancOf (acc : List Nat) (o : Oper) : Nat := o.after.toList.foldl (fun s e => if Region.binds .any e then s ||| 2 ^ e.on ||| acc.getD e.on 0 else s) 0
def ancs : List Oper → List Nat → List Nat
  | [], acc => acc
  | o :: os, acc => ancs os (acc ++ [ancOf acc o])
/-- An operation that only reads, beside which one that writes may come earlier or later. -/
def needsFree (ops : Array Oper) (o : Oper) : Bool :=
  let a := ancs ops.toList []
  (List.range ops.size).any fun k => match ops[k]? with
    | some x => x.dst == o.dst && (List.range ops.size).any fun j => j != k && !(a.getD (max j k) 0).testBit (min j k) && match ops[j]? with
      | some y => effKind y == 1 || effKind y == 2
      | none => false
    | none => false
def kindsOk (a b : Nat) : Bool := ((a == 0 || a == 3) && (b == 0 || b == 3)) || (a == 0 && (b == 1 || b == 2)) || ((a == 1 || a == 2) && b == 0)
/-- A region that draws its order: whatever the order, it comes to what the order of the text comes to. -/
def drawOk (ops : Array Oper) : Bool :=
  let a := ancs ops.toList []
  (List.range ops.size).all fun j => (match ops[j]? with
    | some y => y.after.toList.all fun e => !Region.binds .any e || decide (e.on < j)
    | none => false) && (List.range j).all fun i => (a.getD j 0).testBit i || match ops[i]?, ops[j]? with
    | some x, some y => x.apart ops y && kindsOk (effKind x) (effKind y)
    | _, _ => false
/-- A mark among the slots: calls that write may stand in regions that draw their order. -/
def wCall (wt : List Tmp) : Bool := wt.contains 999999
/-- A call that stands unordered beside none. -/
def aloneCall (ops : Array Oper) (o : Oper) : Bool :=
  let a := ancs ops.toList []
  (List.range ops.size).all fun k => match ops[k]? with
    | some x => !(x.dst == o.dst) || (List.range ops.size).all fun j => j == k || (a.getD (max j k) 0).testBit (min j k) || match ops[j]? with
      | some y => !(effKind y == 3)
      | none => true
    | none => true
/-- An operation beside which a call may come earlier or later. -/
def besideCall (ops : Array Oper) (o : Oper) : Bool :=
  let a := ancs ops.toList []
  (List.range ops.size).any fun k => match ops[k]? with
    | some x => x.dst == o.dst && (List.range ops.size).any fun j => j != k && !(a.getD (max j k) 0).testBit (min j k) && match ops[j]? with
      | some y => effKind y == 3
      | none => false
    | none => false
/-- A second mark: such calls leave all older entries as they are (and may make new ones). -/
def aMode (wt : List Tmp) : Bool := wt.contains 999998
/-- The call's own entries are the same; or, under the second mark, all older ones. -/
def Own (md : Bool) (n0 : Nat) (sto s : Sto) : Prop := ∀ i, (if md then i < n0 else n0 ≤ i) → s[i]? = sto[i]?
theorem Own.symm {md : Bool} {n0 : Nat} {sto s : Sto} (h : Own md n0 sto s) : Own md n0 s sto := fun i hi => (h i hi).symm
theorem Own.trans {md : Bool} {n0 : Nat} {a b c : Sto} (h : Own md n0 a b) (k : Own md n0 b c) : Own md n0 a c := fun i hi => (k i hi).trans (h i hi)
def EvOp (T : Tab) (X : CallP) (n0 lo : Nat) (wt : List Tmp) (draw : Bool) (ops : Array Oper) (o : Oper) (st : St) (K : St → Prop) : Prop :=
  (∃ d, evPureM T (opd st.env) st.sto o = some d ∧ (draw = true → (needsFree ops o = true → ∀ s, (aMode wt = true → Own true n0 st.sto s) → evPureM T (opd st.env) s o = some d) ∧ (wCall wt = true → besideCall ops o = true → ∀ s, Own (aMode wt) n0 st.sto s → evPureM T (opd st.env) s o = some d)) ∧ K (st.put o.dst d)) ∨
  (∃ d sto', evEff T n0 lo (wrOf wt o) (opd st.env) st.sto o = some (d, sto') ∧ (draw = true → effKind o ≠ 0 ∧ (aMode wt = true → Own true n0 st.sto sto')) ∧ K (St.put { st with sto := sto' } o.dst d)) ∨
  (∃ f args r sto', evCallee (opd st.env) st.sto o = some (f, args) ∧ X f args st.sto (if draw then st.sto.length else lo) r sto' ∧ (draw = true → sto' = st.sto) ∧ (sto' = st.sto ∨ ∀ i ds, lo ≤ i → i < n0 → sto'[i]? = some (.cells ds) → st.sto[i]? = some (.cells ds) ∨ scopedL n0 ds = true) ∧ K (St.put { st with sto := sto' } o.dst r)) ∨
  (∃ f args r sto', wCall wt = true ∧ aloneCall ops o = true ∧ evCallee (opd st.env) st.sto o = some (f, args) ∧ X f args st.sto lo r sto' ∧ Own (aMode wt) n0 st.sto sto' ∧ (∀ i ds, lo ≤ i → i < n0 → sto'[i]? = some (.cells ds) → st.sto[i]? = some (.cells ds) ∨ scopedL n0 ds = true) ∧ K (St.put { st with sto := sto' } o.dst r))
def EvOps (T : Tab) (X : CallP) (n0 lo : Nat) (wt : List Tmp) (draw : Bool) (ops : Array Oper) (Q : St → Prop) : List Oper → St → Prop
  | [], st => Q st
  | o :: rest, st => match guardD ops o st.env with
    | some true => EvOp T X n0 lo wt draw ops o st (EvOps T X n0 lo wt draw ops Q rest)
    | some false => EvOps T X n0 lo wt draw ops Q rest (st.put o.dst .undef)
    | none => False
/-- Before a region or a round: slices are declared read-only. -/
def shareE : Ent → Ent
  | .arr es _ n cs => .arr es false n cs
  | e => e
def shareAll (lo : Nat) : List Nat → Sto → Sto
  | [], sto => sto
  | i :: is, sto => shareAll lo is (if lo ≤ i then (match sto[i]? with | some e => sto.set i (shareE e) | none => sto) else sto)
/-- Between rounds: what is forgotten, read off, or made a slice of the call's own. -/
inductive Ghost (n0 lo : Nat) : St → St → Prop
  | refl (s) : Ghost n0 lo s s
  | trans {a b c} : Ghost n0 lo a b → Ghost n0 lo b c → Ghost n0 lo a c
  | kill (s : St) (t : Nat) : Ghost n0 lo s { s with env := s.env.set t .dead }
  | view (s : St) (t : Nat) (d : D) (x : V) (h : s.env[t]? = some d) (hv : view s.sto d = some x) : Ghost n0 lo s { s with env := s.env.set t (.v x) }
  | adopt (s : St) (t : Nat) (wr : Bool) (h : s.env[t]? = some .nilS) (hl : lo ≤ s.sto.length) : Ghost n0 lo s { env := s.env.set t (.arr s.sto.length 0), sto := s.sto ++ [.arr none wr 0 []] }
  | adoptC (s : St) (i k : Nat) (wr : Bool) (ds : List D) (h : s.sto[i]? = some (.cells ds)) (hk : ds[k]? = some .nilS) (hi : n0 ≤ i) (hl : lo ≤ i) : Ghost n0 lo s { s with sto := (s.sto.set i (.cells (ds.set k (.arr s.sto.length 0)))) ++ [.arr none wr 0 []] }
  | killC (s : St) (i k : Nat) (ds : List D) (h : s.sto[i]? = some (.cells ds)) (hi : n0 ≤ i) (hl : lo ≤ i) : Ghost n0 lo s { s with sto := s.sto.set i (.cells (ds.set k .dead)) }
  | viewC (s : St) (i k : Nat) (ds : List D) (d : D) (x : V) (h : s.sto[i]? = some (.cells ds)) (hk : ds[k]? = some d) (hv : viewC s.sto d = some x) (hl : lo ≤ i) : Ghost n0 lo s { s with sto := s.sto.set i (.cells (ds.set k (.v x))) }
  | share (s : St) (l : List Nat) : Ghost n0 lo s { s with sto := shareAll lo l s.sto }
  | reserve (s : St) (hl : lo ≤ s.sto.length) : Ghost n0 lo s { s with sto := s.sto ++ [.arr none false 0 []] }
  | trunc (s : St) (m : Nat) (hm : n0 ≤ m) (he : scopedL m s.env = true) (hs : ∀ i ds, i < m → s.sto[i]? = some (.cells ds) → n0 ≤ i → scopedL m ds = true) : Ghost n0 lo s { s with sto := s.sto.take m }
/-- Entries below m are the same. -/
def Agr (m : Nat) (sto s : Sto) : Prop := s.length = sto.length ∧ ∀ i, i < m → s[i]? = sto[i]?
theorem Agr.refl (m : Nat) (s : Sto) : Agr m s s := ⟨rfl, fun _ _ => rfl⟩
theorem Agr.symm {m : Nat} {a b : Sto} (h : Agr m a b) : Agr m b a := ⟨h.1.symm, fun i hi => (h.2 i hi).symm⟩
theorem Agr.trans {m : Nat} {a b c : Sto} (h : Agr m a b) (k : Agr m b c) : Agr m a c := ⟨k.1.trans h.1, fun i hi => (k.2 i hi).trans (h.2 i hi)⟩
/-- What a new box holds. -/
def boxCells (T : Tab) (ρ : Operand → D) (o : Oper) : Option (List D) := match o.op with
  | .box _ x => (ρ x).cells
  | .alloc t => match T t with
    | some i => zeroD i
    | none => none
  | _ => none
abbrev PH : Ent := .arr none false 0 []
/-- One operation of a region whose new boxes have their entries laid by before (from m on); all else looks at entries below m alone. -/
def EvOpR (T : Tab) (X : CallP) (n0 lo m : Nat) (o : Oper) (st : St) (K : St → Prop) : Prop :=
  (∃ d, effKind o = 0 ∧ (∀ s, Agr m st.sto s → evPure T (opd st.env) s o = some d) ∧ K (st.put o.dst d)) ∨
  (∃ id ds, effKind o = 1 ∧ boxCells T (opd st.env) o = some ds ∧ st.sto[id]? = some PH ∧ m ≤ id ∧ K (St.put { st with sto := st.sto.set id (.cells ds) } o.dst (.ptr id 0))) ∨
  (∃ d sto', effKind o = 2 ∧ evEff T n0 lo false (opd st.env) st.sto o = some (d, sto') ∧ Agr m st.sto sto' ∧ K (St.put { st with sto := sto' } o.dst d)) ∨
  (∃ f args r, (∀ s, Agr m st.sto s → evCallee (opd st.env) s o = some (f, args)) ∧ (∀ s, Agr m st.sto s → X f args s s.length r s) ∧ K (st.put o.dst r))
def EvOpsR (T : Tab) (X : CallP) (n0 lo m : Nat) (ops : Array Oper) (Q : St → Prop) : List Oper → St → Prop
  | [], st => Q st
  | o :: rest, st => match guardD ops o st.env with
    | some true => EvOpR T X n0 lo m o st (EvOpsR T X n0 lo m ops Q rest)
    | some false => EvOpsR T X n0 lo m ops Q rest (st.put o.dst .undef)
    | none => False
def kindsOkR (a b : Nat) : Bool := ((a == 0 || a == 3 || a == 1) && (b == 0 || b == 3 || b == 1)) || (a == 0 && b == 2) || (a == 2 && b == 0)
def drawOkR (ops : Array Oper) : Bool :=
  let a := ancs ops.toList []
  (List.range ops.size).all fun j => (match ops[j]? with
    | some y => y.after.toList.all fun e => !Region.binds .any e || decide (e.on < j)
    | none => false) && (List.range j).all fun i => (a.getD j 0).testBit i || match ops[i]?, ops[j]? with
    | some x, some y => x.apart ops y && kindsOkR (effKind x) (effKind y)
    | _, _ => false
def thenP (K : St → Prop) (Q : Exit → St → Prop) : Exit → St → Prop
  | .normal, st => K st
  | e, st => Q e st
def blockP (id : Nat) (Q : Exit → St → Prop) : Exit → St → Prop
  | .exit id', st => if id' = id then Q .normal st else Q (.exit id') st
  | e, st => Q e st
def EvC (T : Tab) (X : CallP) (n0 lo : Nat) (wt : List Tmp) : Code → (Exit → St → Prop) → St → Prop
  | .skip, Q, st => Q .normal st
  | .region _ ops draw, Q, st => ((draw = true → drawOk ops = true) ∧ ∃ st', Ghost n0 lo st st' ∧ EvOps T X n0 lo wt draw ops (Q .normal) ops.toList st') ∨
    (draw = true ∧ drawOkR ops = true ∧ ∃ st' m, Ghost n0 lo st st' ∧ n0 ≤ m ∧ EvOpsR T X n0 lo m ops (Q .normal) ops.toList st')
  | .seq x y, Q, st => EvC T X n0 lo wt x (thenP (EvC T X n0 lo wt y Q) Q) st
  | .cond c x y, Q, st => match opd st.env c with
    | .v (.bool b) => (b = true → EvC T X n0 lo wt x Q st) ∧ (b = false → EvC T X n0 lo wt y Q st)
    | _ => False
  | .block id b, Q, st => EvC T X n0 lo wt b (blockP id Q) st
  | .loop b, Q, st => ∀ Y : St → Prop, (∀ s s', Ghost n0 lo s s' → EvC T X n0 lo wt b (thenP Y Q) s' → Y s) → Y st
  | .exit id, Q, st => Q (.exit id) st
  | .ret, Q, st => Q .ret st
  | _, _, _ => False
def resOf (T : Tab) (st : St) : ResultVar → Option V
  | .tmp t => view st.sto ((st.env[t]?).getD .undef)
  | .cell a t => match evLoad T st.sto t ((st.env[a]?).getD .undef) with
    | some d => view st.sto d
    | none => none
def resL (T : Tab) (st : St) : List ResultVar → Option (List V)
  | [] => some []
  | r :: rs => match resOf T st r, resL T st rs with
    | some x, some xs => some (x :: xs)
    | _, _ => none
def resV (T : Tab) (st : St) (rs : List ResultVar) : Option V :=
  match resL T st rs with
  | some [x] => some x
  | some xs => some (.tup xs)
  | none => none
/-- A result that may name entries. -/
def resD (T : Tab) (st : St) (r : ResultVar) : Option D :=
  match (match r with
    | .tmp t => some ((st.env[t]?).getD .undef)
    | .cell a t => evLoad T st.sto t ((st.env[a]?).getD .undef)) with
  | some (.tupD _) => none
  | x => x
def resDs (T : Tab) (st : St) : List ResultVar → Option (List D)
  | [] => some []
  | r :: rs => match resD T st r, resDs T st rs with
    | some x, some xs => some (x :: xs)
    | _, _ => none
def tupOf : List D → D
  | [d] => d
  | ds => .tupD ds
/-- How a body may end: its result is plain data, its own entries go; or its result may name them, and they stay; or it is a slice of its own, which alone stays. -/
def bodyP (T : Tab) (fn : Func) (n0 : Nat) (r : D) (sto' : Sto) (e : Exit) (st : St) : Prop :=
  (e = .normal ∨ e = .ret) ∧ ((∃ sh x, resV T { st with sto := shareAll n0 sh st.sto } fn.results.toList = some x ∧ r = .v x ∧ st.sto.take n0 = sto') ∨
    (∃ t, fn.results.toList = [.tmp t] ∧ r = (st.env[t]?).getD .undef ∧ sto' = st.sto) ∨
    (∃ t id n es wr cs, fn.results.toList = [.tmp t] ∧ (st.env[t]?).getD .undef = .arr id n ∧ n0 ≤ id ∧ st.sto[id]? = some (.arr es wr n cs) ∧ r = .arr n0 n ∧ sto' = st.sto.take n0 ++ [.arr es wr n cs]) ∨
    (∃ ds, resDs T st fn.results.toList = some ds ∧ r = tupOf ds ∧ sto' = st.sto))
def callable (P : Program) (f : FuncId) : Bool := match P.funcs[f]? with
  | some fn => fn.body.isSome && fn.name != "runtime.NumGoroutine"
  | none => false
def EvBody (P : Program) (T : Tab) (X : CallP) (f : FuncId) (args : List D) (sto : Sto) (lo : Nat) (r : D) (sto' : Sto) : Prop :=
  ∃ fn c wt, P.funcs[f]? = some fn ∧ fn.body = some c ∧ fn.name ≠ "runtime.NumGoroutine" ∧
    EvC T X sto.length lo wt c (bodyP T fn sto.length r sto') ⟨args ++ List.replicate (fn.ntmps - args.length) .undef, sto⟩
/-- The least such thing over what is shown of some calls otherwise (B). -/
def CallEv (P : Program) (T : Tab) (B : CallP) : CallP := fun f args sto lo r sto' =>
  ∀ X : CallP, (∀ f args sto lo r sto', EvBody P T X f args sto lo r sto' → X f args sto lo r sto') → (∀ f args sto lo r sto', B f args sto lo r sto' → X f args sto lo r sto') → X f args sto lo r sto'
end Go.Proofs.Ytghdanpigohnjaa
namespace Go.Proofs.Ytghdanpigohnjaa
open Go Go.RowKit

@[congr] theorem EvOps_congr {T : Tab} {X : CallP} {n0 lo : Nat} {wt : List Tmp} {draw : Bool} {ops : Array Oper} {Q : St → Prop} {l : List Oper} {st st' : St} (h : st = st') : EvOps T X n0 lo wt draw ops Q l st = EvOps T X n0 lo wt draw ops Q l st' := by rw [h]
@[congr] theorem EvC_congr {T : Tab} {X : CallP} {n0 lo : Nat} {wt : List Tmp} {c : Code} {Q : Exit → St → Prop} {st st' : St} (h : st = st') : EvC T X n0 lo wt c Q st = EvC T X n0 lo wt c Q st' := by rw [h]
section
variable {T : Tab} {X : CallP} {n0 lo : Nat} {wt : List Tmp} {draw : Bool} {ops : Array Oper} {Q : St → Prop} {R : Exit → St → Prop} {rest : List Oper} {o : Oper} {env : List D} {sto : Sto} {st : St}
theorem ops_nil (h : Q st) : EvOps T X n0 lo wt draw ops Q [] st := h
theorem ops_pure {d : D} (hg : guardD ops o env = some true) (h : evPure T (opd env) sto o = some d) (k : EvOps T X n0 lo wt false ops Q rest (St.put ⟨env, sto⟩ o.dst d)) : EvOps T X n0 lo wt false ops Q (o :: rest) ⟨env, sto⟩ := by
  unfold EvOps; simp only [hg]; exact .inl ⟨d, pm h, (fun h => by cases h), k⟩
theorem ops_pureD {d : D} (hn : (needsFree ops o || (wCall wt && besideCall ops o)) = false) (hg : guardD ops o env = some true) (h : evPure T (opd env) sto o = some d) (k : EvOps T X n0 lo wt true ops Q rest (St.put ⟨env, sto⟩ o.dst d)) : EvOps T X n0 lo wt true ops Q (o :: rest) ⟨env, sto⟩ := by
  unfold EvOps; simp only [hg]; exact .inl ⟨d, pm h, (fun _ => by
    simp only [Bool.or_eq_false_iff, Bool.and_eq_false_iff] at hn
    exact ⟨fun h => (by rw [hn.1] at h; cases h), fun h1 h2 => by rcases hn.2 with h | h <;> simp [h] at h1 h2⟩), k⟩
/-- It looks at the call's own entries alone. -/
theorem ops_pureW {d : D} (hn : (needsFree ops o || aMode wt) = false) (hg : guardD ops o env = some true) (h0 : evPure T (opd env) sto o = some d) (h : ∀ s, s[n0]? = sto[n0]? → (∀ k, s[n0 + k]? = sto[n0 + k]?) → evPure T (opd env) s o = some d) (k : EvOps T X n0 lo wt true ops Q rest (St.put ⟨env, sto⟩ o.dst d)) : EvOps T X n0 lo wt true ops Q (o :: rest) ⟨env, sto⟩ := by
  simp only [Bool.or_eq_false_iff] at hn
  unfold EvOps; simp only [hg]; exact .inl ⟨d, pm h0, (fun _ => ⟨fun h => (by rw [hn.1] at h; cases h), fun _ _ s hs => by
    rw [hn.2] at hs
    exact pm (h s (hs n0 (by simp)) (fun k => hs (n0 + k) (by simp)))⟩), k⟩
/-- It looks at the older entries alone. -/
theorem ops_pureO {d : D} (hn : (!aMode wt) = false) (hg : guardD ops o env = some true) (h : ∀ s, (∀ i, i < n0 → s[i]? = sto[i]?) → evPure T (opd env) s o = some d) (k : EvOps T X n0 lo wt true ops Q rest (St.put ⟨env, sto⟩ o.dst d)) : EvOps T X n0 lo wt true ops Q (o :: rest) ⟨env, sto⟩ := by
  simp only [Bool.not_eq_false'] at hn
  unfold EvOps; simp only [hg]; exact .inl ⟨d, pm (h sto fun _ _ => rfl), (fun _ => ⟨fun _ s hs => pm <| h s fun i hi => hs hn i (by simpa using hi), fun _ _ s hs => pm <| h s fun i hi => by
    rw [hn] at hs
    exact hs i (by simpa using hi)⟩), k⟩
theorem ops_pureF {d : D} (hg : guardD ops o env = some true) (h : ∀ s, evPure T (opd env) s o = some d) (k : EvOps T X n0 lo wt true ops Q rest (St.put ⟨env, sto⟩ o.dst d)) : EvOps T X n0 lo wt true ops Q (o :: rest) ⟨env, sto⟩ := by
  unfold EvOps; simp only [hg]; exact .inl ⟨d, pm (h sto), (fun _ => ⟨fun _ s _ => pm (h s), fun _ _ s _ => pm (h s)⟩), k⟩
/-- A new slice that nothing is written to. -/
theorem ops_make {d : D} (hg : guardD ops o env = some true) (h0 : ∀ s, evPure T (opd env) s o = none) (h : evMakeP T (opd env) o = some d) (k : EvOps T X n0 lo wt draw ops Q rest (St.put ⟨env, sto⟩ o.dst d)) : EvOps T X n0 lo wt draw ops Q (o :: rest) ⟨env, sto⟩ := by
  have hp : ∀ s, evPureM T (opd env) s o = some d := fun s => by simp [evPureM, h0 s, h]
  unfold EvOps; simp only [hg]; exact .inl ⟨d, hp sto, (fun _ => ⟨fun _ s _ => hp s, fun _ _ s _ => hp s⟩), k⟩
theorem ops_eff {d : D} {sto' : Sto} (hk : effKind o ≠ 0 ∧ (draw && aMode wt) = false) (hg : guardD ops o env = some true) (h : evEff T n0 lo (wrOf wt o) (opd env) sto o = some (d, sto')) (k : EvOps T X n0 lo wt draw ops Q rest (St.put ⟨env, sto'⟩ o.dst d)) : EvOps T X n0 lo wt draw ops Q (o :: rest) ⟨env, sto⟩ := by
  unfold EvOps; simp only [hg]; exact .inr (.inl ⟨d, sto', h, (fun hd => ⟨hk.1, fun ha => by have := hk.2; rw [hd, ha] at this; cases this⟩), k⟩)
/-- An operation that makes entries and leaves the older ones, in a region that draws its order. -/
theorem ops_effO {d : D} {sto' : Sto} (hk : effKind o ≠ 0) (hg : guardD ops o env = some true) (h : evEff T n0 lo (wrOf wt o) (opd env) sto o = some (d, sto')) (hown : ∀ i, i < n0 → sto'[i]? = sto[i]?) (k : EvOps T X n0 lo wt draw ops Q rest (St.put ⟨env, sto'⟩ o.dst d)) : EvOps T X n0 lo wt draw ops Q (o :: rest) ⟨env, sto⟩ := by
  unfold EvOps; simp only [hg]; exact .inr (.inl ⟨d, sto', h, (fun _ => ⟨hk, fun _ i hi => hown i (by simpa using hi)⟩), k⟩)
theorem ops_lit {d : D} {sto' : Sto} (hg : guardD ops o env = some true) (h : evEff T n0 lo (wrOf wt o) (opd env) sto o = some (d, sto')) (k : EvOps T X n0 lo wt false ops Q rest (St.put ⟨env, sto'⟩ o.dst d)) : EvOps T X n0 lo wt false ops Q (o :: rest) ⟨env, sto⟩ := by
  unfold EvOps; simp only [hg]; exact .inr (.inl ⟨d, sto', h, (fun h => by cases h), k⟩)
theorem ops_call {f : FuncId} {args : List D} {r : D} (hg : guardD ops o env = some true) (h : evCallee (opd env) sto o = some (f, args)) (hx : X f args sto (if draw then sto.length else lo) r sto) (k : EvOps T X n0 lo wt draw ops Q rest (St.put ⟨env, sto⟩ o.dst r)) : EvOps T X n0 lo wt draw ops Q (o :: rest) ⟨env, sto⟩ := by
  unfold EvOps; simp only [hg]; exact .inr (.inr (.inl ⟨f, args, r, sto, h, hx, (fun _ => rfl), .inl rfl, k⟩))
theorem ops_callW {f : FuncId} {args : List D} {r : D} {sto' : Sto} (hg : guardD ops o env = some true) (h : evCallee (opd env) sto o = some (f, args)) (hx : X f args sto lo r sto') (ho : ∀ i ds, lo ≤ i → i < n0 → sto'[i]? = some (.cells ds) → sto[i]? = some (.cells ds) ∨ scopedL n0 ds = true) (k : EvOps T X n0 lo wt false ops Q rest (St.put ⟨env, sto'⟩ o.dst r)) : EvOps T X n0 lo wt false ops Q (o :: rest) ⟨env, sto⟩ := by
  unfold EvOps; simp only [hg]; exact .inr (.inr (.inl ⟨f, args, r, sto', h, by simpa using hx, (fun h => by cases h), .inr ho, k⟩))
/-- A call that writes, in a region that draws its order. -/
theorem ops_callWD {f : FuncId} {args : List D} {r : D} {sto' : Sto} (hw : (wCall wt && !aMode wt && aloneCall ops o) = true) (hg : guardD ops o env = some true) (h : evCallee (opd env) sto o = some (f, args)) (hx : X f args sto lo r sto') (hown : ∀ i, n0 ≤ i → sto'[i]? = sto[i]?) (ho : ∀ i ds, lo ≤ i → i < n0 → sto'[i]? = some (.cells ds) → sto[i]? = some (.cells ds) ∨ scopedL n0 ds = true) (k : EvOps T X n0 lo wt draw ops Q rest (St.put ⟨env, sto'⟩ o.dst r)) : EvOps T X n0 lo wt draw ops Q (o :: rest) ⟨env, sto⟩ := by
  simp only [Bool.and_eq_true, Bool.not_eq_true'] at hw
  unfold EvOps; simp only [hg]; exact .inr (.inr (.inr ⟨f, args, r, sto', hw.1.1, hw.2, h, hx, by rw [hw.1.2]; exact fun i hi => hown i (by simpa using hi), ho, k⟩))
/-- A call that makes entries and leaves the older ones, in a region that draws its order. -/
theorem ops_callO {f : FuncId} {args : List D} {r : D} {sto' : Sto} (hw : (wCall wt && aMode wt && aloneCall ops o) = true) (hg : guardD ops o env = some true) (h : evCallee (opd env) sto o = some (f, args)) (hx : X f args sto lo r sto') (hown : ∀ i, i < n0 → sto'[i]? = sto[i]?) (k : EvOps T X n0 lo wt draw ops Q rest (St.put ⟨env, sto'⟩ o.dst r)) : EvOps T X n0 lo wt draw ops Q (o :: rest) ⟨env, sto⟩ := by
  simp only [Bool.and_eq_true] at hw
  unfold EvOps; simp only [hg]; exact .inr (.inr (.inr ⟨f, args, r, sto', hw.1.1, hw.2, h, hx, by rw [hw.1.2]; exact fun i hi => hown i (by simpa using hi), fun i ds _ hi hd => .inl (by rw [← hown i hi]; exact hd), k⟩))
theorem ops_skip (hg : guardD ops o env = some false) (k : EvOps T X n0 lo wt draw ops Q rest (St.put ⟨env, sto⟩ o.dst .undef)) : EvOps T X n0 lo wt draw ops Q (o :: rest) ⟨env, sto⟩ := by
  unfold EvOps; simp only [hg]; exact k
theorem c_skip (h : R .normal st) : EvC T X n0 lo wt .skip R st := by unfold EvC; exact h
theorem c_seq {x y : Code} (h : EvC T X n0 lo wt x (thenP (EvC T X n0 lo wt y R) R) st) : EvC T X n0 lo wt (.seq x y) R st := by rw [EvC]; exact h
theorem c_block {id : Nat} {b : Code} (h : EvC T X n0 lo wt b (blockP id R) st) : EvC T X n0 lo wt (.block id b) R st := by rw [EvC]; exact h
theorem c_exit {id : Nat} (h : R (.exit id) st) : EvC T X n0 lo wt (.exit id) R st := by rw [EvC]; exact h
theorem c_ret (h : R .ret st) : EvC T X n0 lo wt .ret R st := by rw [EvC]; exact h
theorem c_region {id : Nat} {l : List Oper} (h : EvOps T X n0 lo wt false l.toArray (R .normal) l st) : EvC T X n0 lo wt (.region id l.toArray false) R st := by
  rw [EvC]; exact .inl ⟨(fun h => by cases h), _, .refl _, by simpa using h⟩
theorem c_regionD {id : Nat} {l : List Oper} (hd : drawOk l.toArray = true) (h : EvOps T X n0 lo wt true l.toArray (R .normal) l st) : EvC T X n0 lo wt (.region id l.toArray true) R st := by
  rw [EvC]; exact .inl ⟨fun _ => hd, _, .refl _, by simpa using h⟩
theorem c_region_share (sh : List Nat) {id : Nat} {l : List Oper} (hd : draw = true → drawOk l.toArray = true) (h : EvOps T X n0 lo wt draw l.toArray (R .normal) l { st with sto := shareAll lo sh st.sto }) : EvC T X n0 lo wt (.region id l.toArray draw) R st := by
  rw [EvC]; exact .inl ⟨hd, _, .share _ sh, by simpa using h⟩
theorem c_region_g {st' : St} (hg : Ghost n0 lo st st') {id : Nat} {l : List Oper} (hd : draw = true → drawOk l.toArray = true) (h : EvOps T X n0 lo wt draw l.toArray (R .normal) l st') : EvC T X n0 lo wt (.region id l.toArray draw) R st := by
  rw [EvC]; exact .inl ⟨hd, _, hg, by simpa using h⟩
/-- A region that draws its order and makes boxes: their entries are laid by first. -/
theorem c_regionR {st' : St} (m : Nat) (hg : Ghost n0 lo st st') (hm : n0 ≤ m) {id : Nat} {l : List Oper} (hd : drawOkR l.toArray = true) (h : EvOpsR T X n0 lo m l.toArray (R .normal) l st') : EvC T X n0 lo wt (.region id l.toArray true) R st := by
  rw [EvC]; exact .inr ⟨rfl, hd, _, m, hg, hm, by simpa using h⟩
theorem r_nil {m : Nat} (h : Q st) : EvOpsR T X n0 lo m ops Q [] st := h
theorem r_pure {m : Nat} {d : D} (hk : effKind o = 0) (hg : guardD ops o env = some true) (h : ∀ s, s.length = sto.length → (∀ i, i < m → s[i]? = sto[i]?) → evPure T (opd env) s o = some d) (k : EvOpsR T X n0 lo m ops Q rest (St.put ⟨env, sto⟩ o.dst d)) : EvOpsR T X n0 lo m ops Q (o :: rest) ⟨env, sto⟩ := by
  unfold EvOpsR; simp only [hg]; exact .inl ⟨d, hk, fun s hs => h s hs.1 hs.2, k⟩
theorem r_box {m : Nat} (id : Nat) {ds : List D} (hk : effKind o = 1) (hg : guardD ops o env = some true) (h : boxCells T (opd env) o = some ds) (hp : sto[id]? = some PH) (hm : m ≤ id) (k : EvOpsR T X n0 lo m ops Q rest (St.put ⟨env, sto.set id (.cells ds)⟩ o.dst (.ptr id 0))) : EvOpsR T X n0 lo m ops Q (o :: rest) ⟨env, sto⟩ := by
  unfold EvOpsR; simp only [hg]; exact .inr (.inl ⟨id, ds, hk, h, hp, hm, k⟩)
theorem r_store {m : Nat} {d : D} {sto' : Sto} (hk : effKind o = 2) (hg : guardD ops o env = some true) (h : evEff T n0 lo false (opd env) sto o = some (d, sto')) (ha : sto'.length = sto.length ∧ ∀ i, i < m → sto'[i]? = sto[i]?) (k : EvOpsR T X n0 lo m ops Q rest (St.put ⟨env, sto'⟩ o.dst d)) : EvOpsR T X n0 lo m ops Q (o :: rest) ⟨env, sto⟩ := by
  unfold EvOpsR; simp only [hg]; exact .inr (.inr (.inl ⟨d, sto', hk, h, ha, k⟩))
theorem r_call {m : Nat} {f : FuncId} {args : List D} {r : D} (hg : guardD ops o env = some true) (h : ∀ s, s.length = sto.length → (∀ i, i < m → s[i]? = sto[i]?) → evCallee (opd env) s o = some (f, args)) (hx : ∀ s, s.length = sto.length → (∀ i, i < m → s[i]? = sto[i]?) → X f args s s.length r s) (k : EvOpsR T X n0 lo m ops Q rest (St.put ⟨env, sto⟩ o.dst r)) : EvOpsR T X n0 lo m ops Q (o :: rest) ⟨env, sto⟩ := by
  unfold EvOpsR; simp only [hg]; exact .inr (.inr (.inr ⟨f, args, r, fun s hs => h s hs.1 hs.2, fun s hs => hx s hs.1 hs.2, k⟩))
theorem r_skip {m : Nat} (hg : guardD ops o env = some false) (k : EvOpsR T X n0 lo m ops Q rest (St.put ⟨env, sto⟩ o.dst .undef)) : EvOpsR T X n0 lo m ops Q (o :: rest) ⟨env, sto⟩ := by
  unfold EvOpsR; simp only [hg]; exact k
theorem c_cond {c : Operand} {x y : Code} {b : Bool} (hc : opd st.env c = .v (.bool b)) (hx : b = true → EvC T X n0 lo wt x R st) (hy : b = false → EvC T X n0 lo wt y R st) : EvC T X n0 lo wt (.cond c x y) R st := by
  rw [EvC]; simp only [hc]; exact ⟨hx, hy⟩
theorem c_cond_t {c : Operand} {x y : Code} (hc : opd st.env c = .v (.bool true)) (hx : EvC T X n0 lo wt x R st) : EvC T X n0 lo wt (.cond c x y) R st := c_cond hc (fun _ => hx) (fun h => by cases h)
theorem c_cond_f {c : Operand} {x y : Code} (hc : opd st.env c = .v (.bool false)) (hy : EvC T X n0 lo wt y R st) : EvC T X n0 lo wt (.cond c x y) R st := c_cond hc (fun h => by cases h) (fun _ => hy)
theorem then_normal {K : St → Prop} (h : K st) : thenP K R .normal st := h
theorem then_exit {K : St → Prop} {id : Nat} (h : R (.exit id) st) : thenP K R (.exit id) st := h
theorem then_ret {K : St → Prop} (h : R .ret st) : thenP K R .ret st := h
theorem block_normal {id : Nat} (h : R .normal st) : blockP id R .normal st := h
theorem block_ret {id : Nat} (h : R .ret st) : blockP id R .ret st := h
theorem block_here {id : Nat} (h : R .normal st) : blockP id R (.exit id) st := by simp only [blockP, if_true]; exact h
theorem block_far {id id' : Nat} (hne : id' ≠ id) (h : R (.exit id') st) : blockP id R (.exit id') st := by simp only [blockP, hne, if_false]; exact h
theorem EvOps_mono {X X' : CallP} {Q Q' : St → Prop} (hX : ∀ f a s l (r : D) s', X f a s l r s' → X' f a s l r s') (hQ : ∀ st, Q st → Q' st) : ∀ l st, EvOps T X n0 lo wt draw ops Q l st → EvOps T X' n0 lo wt draw ops Q' l st
  | [], st, h => hQ st h
  | o :: rest, st, h => by
    unfold EvOps at h ⊢
    split at h
    · rcases h with ⟨d, h1, h0, h2⟩ | ⟨d, s', h1, h0, h2⟩ | ⟨f, a, r, s', h1, h2, h0, h4, h3⟩ | ⟨f, a, r, s', hw, ha, h1, h2, h0, h4, h3⟩
      · exact .inl ⟨d, h1, h0, EvOps_mono hX hQ rest _ h2⟩
      · exact .inr (.inl ⟨d, s', h1, h0, EvOps_mono hX hQ rest _ h2⟩)
      · exact .inr (.inr (.inl ⟨f, a, r, s', h1, hX _ _ _ _ _ _ h2, h0, h4, EvOps_mono hX hQ rest _ h3⟩))
      · exact .inr (.inr (.inr ⟨f, a, r, s', hw, ha, h1, hX _ _ _ _ _ _ h2, h0, h4, EvOps_mono hX hQ rest _ h3⟩))
    · exact EvOps_mono hX hQ rest _ h
    · exact h.elim
theorem EvOpsR_mono {m : Nat} {X X' : CallP} {Q Q' : St → Prop} (hX : ∀ f a s l (r : D) s', X f a s l r s' → X' f a s l r s') (hQ : ∀ st, Q st → Q' st) : ∀ l st, EvOpsR T X n0 lo m ops Q l st → EvOpsR T X' n0 lo m ops Q' l st
  | [], st, h => hQ st h
  | o :: rest, st, h => by
    unfold EvOpsR at h ⊢
    split at h
    · rcases h with ⟨d, h1, h2, h3⟩ | ⟨id, ds, h1, h2, h3, h4, h5⟩ | ⟨d, s', h1, h2, h3, h4⟩ | ⟨f, a, r, h1, h2, h3⟩
      · exact .inl ⟨d, h1, h2, EvOpsR_mono hX hQ rest _ h3⟩
      · exact .inr (.inl ⟨id, ds, h1, h2, h3, h4, EvOpsR_mono hX hQ rest _ h5⟩)
      · exact .inr (.inr (.inl ⟨d, s', h1, h2, h3, EvOpsR_mono hX hQ rest _ h4⟩))
      · exact .inr (.inr (.inr ⟨f, a, r, h1, fun s hs => hX _ _ _ _ _ _ (h2 s hs), EvOpsR_mono hX hQ rest _ h3⟩))
    · exact EvOpsR_mono hX hQ rest _ h
    · exact h.elim
theorem thenP_mono {K K' : St → Prop} {R R' : Exit → St → Prop} (hK : ∀ s, K s → K' s) (hR : ∀ e s, R e s → R' e s) : ∀ e s, thenP K R e s → thenP K' R' e s := by
  intro e s h
  cases e <;> first | exact hK s h | exact hR _ s h
theorem blockP_mono {id : Nat} {R R' : Exit → St → Prop} (hR : ∀ e s, R e s → R' e s) : ∀ e s, blockP id R e s → blockP id R' e s := by
  intro e s h
  cases e <;> simp only [blockP] at h ⊢
  case exit j => split at h <;> simp_all
  all_goals exact hR _ _ h
theorem EvC_mono {X X' : CallP} (hX : ∀ f a s l (r : D) s', X f a s l r s' → X' f a s l r s') : ∀ (c : Code) (R R' : Exit → St → Prop), (∀ e s, R e s → R' e s) → ∀ st, EvC T X n0 lo wt c R st → EvC T X' n0 lo wt c R' st := by
  intro c
  induction c with
  | skip => intro R R' hR st h; simp only [EvC] at h ⊢; exact hR _ _ h
  | region id l d =>
    intro R R' hR st h
    simp only [EvC] at h ⊢
    rcases h with ⟨hd, s2, hg, h⟩ | ⟨hd, ho, s2, m, hg, hm, h⟩
    · exact .inl ⟨hd, s2, hg, EvOps_mono hX (fun s => hR _ s) _ _ h⟩
    · exact .inr ⟨hd, ho, s2, m, hg, hm, EvOpsR_mono hX (fun s => hR _ s) _ _ h⟩
  | seq x y ihx ihy => intro R R' hR st h; simp only [EvC] at h ⊢; exact ihx _ _ (thenP_mono (fun s => ihy _ _ hR s) hR) _ h
  | cond c x y ihx ihy =>
    intro R R' hR st h
    simp only [EvC] at h ⊢
    split at h
    · exact ⟨fun hb => ihx _ _ hR _ (h.1 hb), fun hb => ihy _ _ hR _ (h.2 hb)⟩
    · exact h.elim
  | block id b ih => intro R R' hR st h; simp only [EvC] at h ⊢; exact ih _ _ (blockP_mono hR) _ h
  | loop b ih =>
    intro R R' hR st h
    simp only [EvC] at h ⊢
    intro Y hY
    exact h Y fun s s' hg hb => hY s s' hg (ih _ _ (thenP_mono (fun _ h => h) hR) _ hb)
  | exit id => intro R R' hR st h; simp only [EvC] at h ⊢; exact hR _ _ h
  | ret => intro R R' hR st h; simp only [EvC] at h ⊢; exact hR _ _ h
  | _ => intro R R' hR st h; simp only [EvC] at h

/-- A loop: a relation with a measure that each round lowers; between rounds what a ghost step allows. -/
theorem c_loop {b : Code} (I : Nat → St → Prop) {n : Nat} {st' : St} (hg : Ghost n0 lo st st') (h0 : I n st')
    (hr : ∀ n s, I n s → EvC T X n0 lo wt b (thenP (fun s' => ∃ m s'', m < n ∧ Ghost n0 lo s' s'' ∧ I m s'') R) s) : EvC T X n0 lo wt (.loop b) R st := by
  rw [EvC]
  intro Y hY
  have key : ∀ n s, I n s → EvC T X n0 lo wt b (thenP Y R) s ∧ ∀ s0, Ghost n0 lo s0 s → Y s0 := by
    intro n
    induction n using Nat.strongRecOn with
    | _ n ih =>
      intro s hI
      have hb : EvC T X n0 lo wt b (thenP Y R) s :=
        EvC_mono (fun _ _ _ _ _ _ h => h) b _ _ (thenP_mono (fun s' ⟨m, s'', hm, hg, hI'⟩ => (ih m hm s'' hI').2 s' hg) (fun _ _ h => h)) s (hr n s hI)
      exact ⟨hb, fun s0 hg => hY s0 s hg hb⟩
  exact (key n st' h0).2 st hg
theorem CallEv.intro {P : Program} {T : Tab} {B : CallP} {f : FuncId} {args : List D} {sto : Sto} {lo : Nat} {r : D} {sto' : Sto} (h : EvBody P T (CallEv P T B) f args sto lo r sto') : CallEv P T B f args sto lo r sto' := by
  intro X hX hB
  obtain ⟨fn, c, wt, h1, h2, h3, h4⟩ := h
  exact hX _ _ _ _ _ _ ⟨fn, c, wt, h1, h2, h3, EvC_mono (fun _ _ _ _ _ _ h => h X hX hB) c _ _ (fun _ _ h => h) _ h4⟩
theorem CallEv.base {P : Program} {T : Tab} {B : CallP} {f : FuncId} {args : List D} {sto : Sto} {lo : Nat} {r : D} {sto' : Sto} (h : B f args sto lo r sto') : CallEv P T B f args sto lo r sto' := fun _ _ hB => hB _ _ _ _ _ _ h
end
/-! What a walk unfolds. -/
theorem ofVal_bool (b : Bool) : ofVal (.bool b) = .v (.bool b) := rfl
theorem ofVal_int (k : IntKind) (n : Int) : ofVal (.int k n) = .v (.int k n) := rfl
theorem ofVal_str (s : ByteArray) : ofVal (.string s) = .v (.str s) := rfl
theorem ofVal_nilS : ofVal (.slice none 0 0) = .nilS := rfl
theorem ofVal_nilp : ofVal (.pointer none) = .nilp := rfl
theorem ofVal_nilf : ofVal .nilFunc = .nilf := rfl
theorem ofVal_nilM : ofVal (.map none) = .nilM := rfl
theorem ofVal_agg (cs : Array Value) : ofVal (.agg cs) = if cs.toList.all (·.oneCell') then .agg (cs.toList.map ofVal1) else .dead := rfl
attribute [go_sem] evPure evEff opd globAt globs ofVal_bool ofVal_int ofVal_str ofVal_nilS ofVal_nilp ofVal_nilf ofVal_nilM ofVal_agg ofVal1 evLoad kd pick pickV Kd.agg evFieldAddr evBin evBinI evShift evUn view viewC viewL D.cells lenD mget mput mdel okV evLookup ownWin evSliceW evSliceV evClear evDelete evUpdate evMakeMap evBuiltin evIndexAddr evSlice evIndex evField evBuild fillD placesT zeroD bound wrOf St.put evAppend cellsV fillV zeroV repl evSliceLit mm2 evMM List.foldlM_cons List.foldlM_nil capId D.inside scopedL evAppendZ argD argsD evCallee guardD evConv evToArr evMakeP evSliceS evSliceA evSliceO srcV isNil nilLit evNil evBinS evBinA evCopy evBytes Option.isNone_some Option.isNone_none shareE shareAll resOf resL resV resD resDs tupOf
attribute [go_sem] List.set_cons_zero List.set_cons_succ List.getElem?_cons_zero List.getElem?_cons_succ List.map_cons List.map_nil Option.map_some Option.map_none Option.getD_some Option.getD_none Option.bind_some Option.bind_none List.length_append List.length_cons List.length_nil Nat.le_refl Nat.sub_self if_true if_false reduceIte Bool.false_eq_true decide_true decide_false and_self and_true true_and Nat.zero_add Nat.add_zero Nat.reduceAdd Nat.reduceSub Nat.reduceMul List.replicate_succ List.replicate_zero List.cons_append List.nil_append
theorem get_app0 {α : Type} (l : List α) (x : α) (m : List α) : (l ++ x :: m)[l.length]? = some x := by simp
theorem get_app {α : Type} (l m : List α) (k : Nat) : (l ++ m)[l.length + k]? = m[k]? := by rw [List.getElem?_append_right (by omega)]; congr 1; omega
theorem set_app0 {α : Type} (l : List α) (x y : α) (m : List α) : (l ++ x :: m).set l.length y = l ++ y :: m := by simp
theorem set_app {α : Type} (l m : List α) (k : Nat) (y : α) : (l ++ m).set (l.length + k) y = l ++ m.set k y := by rw [List.set_append_right _ _ (by omega)]; congr 2; omega
theorem take_app0 {α : Type} (l m : List α) : (l ++ m).take l.length = l := List.take_left
attribute [go_sem] get_app0 get_app set_app0 set_app take_app0 List.append_assoc List.take_succ_cons List.take_zero List.drop_succ_cons List.drop_zero List.take_nil List.drop_nil
end Go.Proofs.Ytghdanpigohnjaa
namespace Go.Proofs.Ytghdanpigohnjaa
open Go Go.RowKit
abbrev VI (n : Int) : V := .int .i64 n
abbrev VU (n : Nat) : V := .int .u64 (n : Int)
abbrev VB (b : Bool) : V := .bool b
/-- A slice of one-cell elements. -/
abbrev SL {α : Type} (f : α → V) (xs : List α) : V := .sl xs.length (xs.map f)
abbrev LI (xs : List Int) : V := SL VI xs
abbrev LLI (xs : List (List Int)) : V := SL LI xs
abbrev B0 : CallP := fun _ _ _ _ _ _ => False
theorem wrapI {x : Int} (h : -9223372036854775808 ≤ x ∧ x < 9223372036854775808) : IntKind.wrap .i64 x = x := by
  rw [IntKind.wrap_i64]; omega
theorem wrapU {x : Int} (h : 0 ≤ x ∧ x < 18446744073709551616) : IntKind.wrap .u64 x = x := by
  rw [IntKind.wrap_u64]; omega
theorem take_succ {α : Type} {l : List α} {i : Nat} (h : i < l.length) : l.take (i + 1) = l.take i ++ [l[i]] := List.take_succ_eq_append_getElem h
theorem beqT {a b : Int} (h : a = b) : (a == b) = true := by simp [h]
theorem beqF {a b : Int} (h : ¬ a = b) : (a == b) = false := by simp [h]
theorem bneT {a b : Int} (h : ¬ a = b) : (a != b) = true := by simp [h]
theorem bneF {a b : Int} (h : a = b) : (a != b) = false := by simp [h]
theorem listJ {n : Nat} {l : List D} (h : l.length = n) : ∃ J : Nat → D, l = (List.range n).map J :=
  ⟨fun k => l.getD k .dead, by
    apply List.ext_getElem
    · simp [h]
    · intro i h1 h2
      simp [List.getD, h1]⟩
theorem tmod2 (a : Nat) : (a : Int).tmod 2 = ((a % 2 : Nat) : Int) := by rw [Int.tmod_eq_emod_of_nonneg (by omega)]; omega
theorem tdiv2 (a : Nat) : (a : Int).tdiv 2 = ((a / 2 : Nat) : Int) := by rw [Int.tdiv_eq_ediv_of_nonneg (by omega)]; omega
attribute [go_sem] tmod2 tdiv2
attribute [go_sem] List.getElem_map List.length_map List.getElem?_map Int.toNat_natCast Nat.mul_one Nat.one_mul  Nat.mul_zero
-- last: it asks for a bound
attribute [go_sem low] List.getElem?_eq_getElem
end Go.Proofs.Ytghdanpigohnjaa
namespace Go.Proofs.Ytghdanpigohnjaa
open Go Go.RowKit
section
variable {T : Tab} {X : CallP} {n0 lo : Nat} {wt : List Tmp} {draw : Bool} {ops : Array Oper} {Q : St → Prop} {rest : List Oper} {o : Oper} {env : List D} {sto : Sto}
theorem set_same {l : List D} {d : Nat} {x : D} (h : l[d]? = some x) : l.set d x = l := by
  apply List.ext_getElem?
  intro k
  rcases Nat.decEq d k with hk | hk
  · rw [List.getElem?_set_ne hk]
  · subst hk
    rw [List.getElem?_set_self (List.getElem?_eq_some_iff.1 h).1, h]
set_option linter.unusedVariables false in
/-- A guard that is not known yet. -/
theorem ops_bsplit {j d : Nat} {want b : Bool} (h1 : o.guard = some (j, want)) (h2 : (ops[j]?).bind (·.dst) = some d) (h3 : env[d]? = some (.v (.bool b))) (ht : b = true → EvOps T X n0 lo wt draw ops Q (o :: rest) ⟨env.set d (.v (.bool true)), sto⟩) (hf : b = false → EvOps T X n0 lo wt draw ops Q (o :: rest) ⟨env.set d (.v (.bool false)), sto⟩) : EvOps T X n0 lo wt draw ops Q (o :: rest) ⟨env, sto⟩ := by
  cases b with
  | true => have := ht rfl; rwa [set_same h3] at this
  | false => have := hf rfl; rwa [set_same h3] at this
theorem ho_arr {id n : Nat} {es : Option (TypeId × Nat)} {wr : Bool} {cs : List V} : ∀ i ds, lo ≤ i → i < n0 → (sto.set id (.arr es wr n cs))[i]? = some (.cells ds) → sto[i]? = some (.cells ds) ∨ scopedL n0 ds = true := by
  intro i ds _ _ h
  left
  rw [List.getElem?_set] at h
  split at h
  · split at h <;> cases h
  · exact h
theorem ho_arr2 {id n n' : Nat} {es es' : Option (TypeId × Nat)} {wr wr' : Bool} {cs cs' : List V} : ∀ i ds, lo ≤ i → i < n0 → (sto.set id (.arr es wr n cs))[i]? = some (.cells ds) → (sto.set id (.arr es' wr' n' cs'))[i]? = some (.cells ds) ∨ scopedL n0 ds = true := by
  intro i ds _ _ h
  left
  rw [List.getElem?_set] at h ⊢
  split at h
  · split at h <;> cases h
  · rename_i hne
    rw [if_neg hne]
    exact h
theorem ho_map {id : Nat} {k : IntKind} {kvs : List (Int × V)} : ∀ i ds, lo ≤ i → i < n0 → (sto.set id (.map k kvs))[i]? = some (.cells ds) → sto[i]? = some (.cells ds) ∨ scopedL n0 ds = true := by
  intro i ds _ _ h
  left
  rw [List.getElem?_set] at h
  split at h
  · split at h <;> cases h
  · exact h
theorem ho_app {l : Sto} (hn : n0 ≤ sto.length) : ∀ i ds, lo ≤ i → i < n0 → (sto ++ l)[i]? = some (.cells ds) → sto[i]? = some (.cells ds) ∨ scopedL n0 ds = true := by
  intro i ds _ hi h
  left
  rwa [List.getElem?_append_left (by omega)] at h
theorem ho_app2 {l l' : Sto} (hn : n0 ≤ sto.length) : ∀ i ds, lo ≤ i → i < n0 → (sto ++ l)[i]? = some (.cells ds) → (sto ++ l')[i]? = some (.cells ds) ∨ scopedL n0 ds = true := by
  intro i ds _ hi h
  left
  rwa [List.getElem?_append_left (by omega)] at h ⊢
theorem set_sameE {id : Nat} {e : Ent} (h : sto[id]? = some e) : sto.set id e = sto := by
  apply List.ext_getElem?
  intro k
  rcases Nat.decEq id k with hk | hk
  · rw [List.getElem?_set_ne hk]
  · subst hk
    rw [List.getElem?_set_self (List.getElem?_eq_some_iff.1 h).1, h]
theorem getS {id : Nat} {e : Ent} (h : id < sto.length) : (sto.set id e)[id]? = some e := List.getElem?_set_self h
theorem mapSet {α : Type} {f : α → V} {zs : List α} {x : α} {i : Nat} (h : i < zs.length) : List.take i (zs.map f) ++ f x :: List.drop (i + 1) (zs.map f) = (zs.set i x).map f := by
  rw [List.map_set, List.set_eq_take_append_cons_drop, if_pos (by simpa using h)]
theorem CallEv.up {P : Program} {B B' : CallP} {f : FuncId} {args : List D} {r : D} {sto' : Sto} (hB : ∀ f args sto lo r sto', B f args sto lo r sto' → B' f args sto lo r sto') (h : CallEv P T B f args sto lo r sto') : CallEv P T B' f args sto lo r sto' :=
  fun X hX hb => h X hX fun _ _ _ _ _ _ q => hb _ _ _ _ _ _ (hB _ _ _ _ _ _ q)
theorem CallEv.up0 {P : Program} {B : CallP} {f : FuncId} {args : List D} {r : D} {sto' : Sto} (h : CallEv P T B0 f args sto lo r sto') : CallEv P T B f args sto lo r sto' := h.up fun _ _ _ _ _ _ q => q.elim
end
theorem bT {b : Bool} (h : b = true) : b = true := h
end Go.Proofs.Ytghdanpigohnjaa
namespace Go.Proofs.Ytghdanpigohnjaa
open Go
variable {T : Tab} {X : CallP} {n0 lo : Nat} {wt : List Tmp} {draw : Bool}
theorem cut_c {P : St → Prop} {c : Code} {R : Exit → St → Prop} {st : St} (h : P st) (k : ∀ s, P s → EvC T X n0 lo wt c R s) : EvC T X n0 lo wt c R st := k _ h
theorem cut_o {P : St → Prop} {ops : Array Oper} {Q : St → Prop} {l : List Oper} {st : St} (h : P st) (k : ∀ s, P s → EvOps T X n0 lo wt draw ops Q l s) : EvOps T X n0 lo wt draw ops Q l st := k _ h
/-- All ways out of a piece of code meet again. -/
theorem c_cut (e0 : Exit) (P : St → Prop) {c : Code} {R : Exit → St → Prop} {st : St} (h : EvC T X n0 lo wt c (fun e s => e = e0 ∧ P s) st) (k : ∀ s, P s → R e0 s) : EvC T X n0 lo wt c R st :=
  EvC_mono (fun _ _ _ _ _ _ h => h) _ _ _ (fun _ s h => h.1 ▸ k s h.2) _ h
theorem ite_same {α : Type} {m : Nat} {a b : α} (h : m = 0 → a = b) : (if m = 0 then a else b) = b := by by_cases hm : m = 0 <;> simp [hm, h]
/-- What a slot's slice reads as. -/
@[irreducible] def Rds (s : St) (d : D) (x : V) : Prop := view s.sto d = some x
theorem Rds.mk {s : St} {d : D} {x : V} (h : view s.sto d = some x) : Rds s d x := by unfold Rds; exact h
theorem Rds.get {s : St} {d : D} {x : V} (h : Rds s d x) : view s.sto d = some x := by unfold Rds at h; exact h
end Go.Proofs.Ytghdanpigohnjaa
namespace Go.Proofs.Ytghdanpigohnjaa
open Go Go.RowKit

/-- What is shown after the steps. -/
structure Later (q : Prop) : Prop where
  get : q
attribute [local irreducible] EvOps EvC
theorem go {p q : Prop} (k : Later q) (h : Later q → p := by (intro k; (first | with_reducible (first | refine c_seq ?_ | refine c_block ?_ | refine c_region ?_ | refine c_skip ?_ | refine c_exit ?_ | refine c_ret ?_ | refine then_normal ?_ | refine then_exit ?_ | refine then_ret ?_ | refine block_normal ?_ | refine block_here ?_ | refine block_ret ?_ | refine block_far (by decide) ?_ | refine ops_nil ?_ | refine c_cond_t rfl ?_ | refine c_cond_f rfl ?_) | ((with_reducible apply ops_pure); rfl; (simp (disch := (first | omega | assumption | ((repeat' with_reducible apply And.intro) <;> first | omega | assumption | rfl | (apply Or.inl; rfl) | (apply Or.inr; first | rfl | trivial | fail) | fail) | fail)) only [go_sem, if_pos, if_neg, wrapI, wrapU, decide_eq_true, decide_eq_false, beqT, beqF, bneT, bneF] <;> rfl); simp only [go_sem]) | ((with_reducible apply ops_pureF); rfl; (intro _; simp (disch := (first | omega | assumption | ((repeat' with_reducible apply And.intro) <;> first | omega | assumption | rfl | (apply Or.inl; rfl) | (apply Or.inr; first | rfl | trivial | fail) | fail) | fail)) only [go_sem, if_pos, if_neg, wrapI, wrapU, decide_eq_true, decide_eq_false, beqT, beqF, bneT, bneF] <;> rfl); simp only [go_sem]) | ((with_reducible apply ops_pureD); kernel_rfl; rfl; (simp (disch := (first | omega | assumption | ((repeat' with_reducible apply And.intro) <;> first | omega | assumption | rfl | (apply Or.inl; rfl) | (apply Or.inr; first | rfl | trivial | fail) | fail) | fail)) only [go_sem, if_pos, if_neg, wrapI, wrapU, decide_eq_true, decide_eq_false, beqT, beqF, bneT, bneF] <;> rfl); simp only [go_sem]) | ((with_reducible apply ops_skip); rfl; simp only [go_sem]) | ((with_reducible apply c_regionD); kernel_rfl) | ((first | ((with_reducible apply ops_eff); decide) | (with_reducible apply ops_lit)); rfl; (simp (disch := (first | omega | assumption | ((repeat' with_reducible apply And.intro) <;> first | omega | assumption | rfl | (apply Or.inl; rfl) | (apply Or.inr; first | rfl | trivial | fail) | fail) | fail)) only [go_sem, if_pos, if_neg, wrapI, wrapU, decide_eq_true, decide_eq_false, beqT, beqF, bneT, bneF] <;> rfl); simp only [go_sem])); (repeat (first | with_reducible (first | refine c_seq ?_ | refine c_block ?_ | refine c_region ?_ | refine c_skip ?_ | refine c_exit ?_ | refine c_ret ?_ | refine then_normal ?_ | refine then_exit ?_ | refine then_ret ?_ | refine block_normal ?_ | refine block_here ?_ | refine block_ret ?_ | refine block_far (by decide) ?_ | refine ops_nil ?_ | refine c_cond_t rfl ?_ | refine c_cond_f rfl ?_) | ((with_reducible apply ops_pure); rfl; (simp (disch := (first | omega | assumption | ((repeat' with_reducible apply And.intro) <;> first | omega | assumption | rfl | (apply Or.inl; rfl) | (apply Or.inr; first | rfl | trivial | fail) | fail) | fail)) only [go_sem, if_pos, if_neg, wrapI, wrapU, decide_eq_true, decide_eq_false, beqT, beqF, bneT, bneF] <;> rfl); simp only [go_sem]) | ((with_reducible apply ops_pureF); rfl; (intro _; simp (disch := (first | omega | assumption | ((repeat' with_reducible apply And.intro) <;> first | omega | assumption | rfl | (apply Or.inl; rfl) | (apply Or.inr; first | rfl | trivial | fail) | fail) | fail)) only [go_sem, if_pos, if_neg, wrapI, wrapU, decide_eq_true, decide_eq_false, beqT, beqF, bneT, bneF] <;> rfl); simp only [go_sem]) | ((with_reducible apply ops_pureD); kernel_rfl; rfl; (simp (disch := (first | omega | assumption | ((repeat' with_reducible apply And.intro) <;> first | omega | assumption | rfl | (apply Or.inl; rfl) | (apply Or.inr; first | rfl | trivial | fail) | fail) | fail)) only [go_sem, if_pos, if_neg, wrapI, wrapU, decide_eq_true, decide_eq_false, beqT, beqF, bneT, bneF] <;> rfl); simp only [go_sem]) | ((with_reducible apply ops_skip); rfl; simp only [go_sem]) | ((with_reducible apply c_regionD); kernel_rfl) | ((first | ((with_reducible apply ops_eff); decide) | (with_reducible apply ops_lit)); rfl; (simp (disch := (first | omega | assumption | ((repeat' with_reducible apply And.intro) <;> first | omega | assumption | rfl | (apply Or.inl; rfl) | (apply Or.inr; first | rfl | trivial | fail) | fail) | fail)) only [go_sem, if_pos, if_neg, wrapI, wrapU, decide_eq_true, decide_eq_false, beqT, beqF, bneT, bneF] <;> rfl); simp only [go_sem]))); exact k.get)) : p := h k
theorem goL {p q : Prop} (k : Later q) (h : Later q → p := by (intro k; (first | with_reducible (first | refine c_seq ?_ | refine c_block ?_ | refine c_region ?_ | refine c_skip ?_ | refine c_exit ?_ | refine c_ret ?_ | refine then_normal ?_ | refine then_exit ?_ | refine then_ret ?_ | refine block_normal ?_ | refine block_here ?_ | refine block_ret ?_ | refine block_far (by decide) ?_ | refine ops_nil ?_ | refine c_cond_t rfl ?_ | refine c_cond_f rfl ?_) | ((with_reducible apply ops_lit); rfl; (simp (disch := (first | omega | assumption | ((repeat' with_reducible apply And.intro) <;> first | omega | assumption | rfl | (apply Or.inl; rfl) | (apply Or.inr; first | rfl | trivial | fail) | fail) | fail)) only [go_sem, if_pos, if_neg, wrapI, wrapU, decide_eq_true, decide_eq_false, beqT, beqF, bneT, bneF] <;> rfl); simp only [go_sem]) | ((with_reducible apply ops_pure); rfl; (simp (disch := (first | omega | assumption | ((repeat' with_reducible apply And.intro) <;> first | omega | assumption | rfl | (apply Or.inl; rfl) | (apply Or.inr; first | rfl | trivial | fail) | fail) | fail)) only [go_sem, if_pos, if_neg, wrapI, wrapU, decide_eq_true, decide_eq_false, beqT, beqF, bneT, bneF] <;> rfl); simp only [go_sem]) | ((with_reducible apply ops_pureF); rfl; (intro _; simp (disch := (first | omega | assumption | ((repeat' with_reducible apply And.intro) <;> first | omega | assumption | rfl | (apply Or.inl; rfl) | (apply Or.inr; first | rfl | trivial | fail) | fail) | fail)) only [go_sem, if_pos, if_neg, wrapI, wrapU, decide_eq_true, decide_eq_false, beqT, beqF, bneT, bneF] <;> rfl); simp only [go_sem]) | ((with_reducible apply ops_pureD); kernel_rfl; rfl; (simp (disch := (first | omega | assumption | ((repeat' with_reducible apply And.intro) <;> first | omega | assumption | rfl | (apply Or.inl; rfl) | (apply Or.inr; first | rfl | trivial | fail) | fail) | fail)) only [go_sem, if_pos, if_neg, wrapI, wrapU, decide_eq_true, decide_eq_false, beqT, beqF, bneT, bneF] <;> rfl); simp only [go_sem]) | ((with_reducible apply ops_skip); rfl; simp only [go_sem]) | ((with_reducible apply c_regionD); kernel_rfl) | ((first | ((with_reducible apply ops_eff); decide) | (with_reducible apply ops_lit)); rfl; (simp (disch := (first | omega | assumption | ((repeat' with_reducible apply And.intro) <;> first | omega | assumption | rfl | (apply Or.inl; rfl) | (apply Or.inr; first | rfl | trivial | fail) | fail) | fail)) only [go_sem, if_pos, if_neg, wrapI, wrapU, decide_eq_true, decide_eq_false, beqT, beqF, bneT, bneF] <;> rfl); simp only [go_sem])); (repeat (first | with_reducible (first | refine c_seq ?_ | refine c_block ?_ | refine c_region ?_ | refine c_skip ?_ | refine c_exit ?_ | refine c_ret ?_ | refine then_normal ?_ | refine then_exit ?_ | refine then_ret ?_ | refine block_normal ?_ | refine block_here ?_ | refine block_ret ?_ | refine block_far (by decide) ?_ | refine ops_nil ?_ | refine c_cond_t rfl ?_ | refine c_cond_f rfl ?_) | ((with_reducible apply ops_lit); rfl; (simp (disch := (first | omega | assumption | ((repeat' with_reducible apply And.intro) <;> first | omega | assumption | rfl | (apply Or.inl; rfl) | (apply Or.inr; first | rfl | trivial | fail) | fail) | fail)) only [go_sem, if_pos, if_neg, wrapI, wrapU, decide_eq_true, decide_eq_false, beqT, beqF, bneT, bneF] <;> rfl); simp only [go_sem]) | ((with_reducible apply ops_pure); rfl; (simp (disch := (first | omega | assumption | ((repeat' with_reducible apply And.intro) <;> first | omega | assumption | rfl | (apply Or.inl; rfl) | (apply Or.inr; first | rfl | trivial | fail) | fail) | fail)) only [go_sem, if_pos, if_neg, wrapI, wrapU, decide_eq_true, decide_eq_false, beqT, beqF, bneT, bneF] <;> rfl); simp only [go_sem]) | ((with_reducible apply ops_pureF); rfl; (intro _; simp (disch := (first | omega | assumption | ((repeat' with_reducible apply And.intro) <;> first | omega | assumption | rfl | (apply Or.inl; rfl) | (apply Or.inr; first | rfl | trivial | fail) | fail) | fail)) only [go_sem, if_pos, if_neg, wrapI, wrapU, decide_eq_true, decide_eq_false, beqT, beqF, bneT, bneF] <;> rfl); simp only [go_sem]) | ((with_reducible apply ops_pureD); kernel_rfl; rfl; (simp (disch := (first | omega | assumption | ((repeat' with_reducible apply And.intro) <;> first | omega | assumption | rfl | (apply Or.inl; rfl) | (apply Or.inr; first | rfl | trivial | fail) | fail) | fail)) only [go_sem, if_pos, if_neg, wrapI, wrapU, decide_eq_true, decide_eq_false, beqT, beqF, bneT, bneF] <;> rfl); simp only [go_sem]) | ((with_reducible apply ops_skip); rfl; simp only [go_sem]) | ((with_reducible apply c_regionD); kernel_rfl) | ((first | ((with_reducible apply ops_eff); decide) | (with_reducible apply ops_lit)); rfl; (simp (disch := (first | omega | assumption | ((repeat' with_reducible apply And.intro) <;> first | omega | assumption | rfl | (apply Or.inl; rfl) | (apply Or.inr; first | rfl | trivial | fail) | fail) | fail)) only [go_sem, if_pos, if_neg, wrapI, wrapU, decide_eq_true, decide_eq_false, beqT, beqF, bneT, bneF] <;> rfl); simp only [go_sem]))); exact k.get)) : p := h k
theorem goX {p q : Prop} (k : Later q) (h : Later q → p := by (intro k; (first | with_reducible (first | refine c_seq ?_ | refine c_block ?_ | refine c_skip ?_ | refine c_exit ?_ | refine c_ret ?_ | refine then_normal ?_ | refine then_exit ?_ | refine then_ret ?_ | refine block_normal ?_ | refine block_here ?_ | refine block_ret ?_ | refine block_far (by decide) ?_ | refine ops_nil ?_ | refine c_cond_t rfl ?_ | refine c_cond_f rfl ?_) | ((with_reducible apply ops_pure); rfl; (simp (disch := (first | omega | assumption | ((repeat' with_reducible apply And.intro) <;> first | omega | assumption | rfl | (apply Or.inl; rfl) | (apply Or.inr; first | rfl | trivial | fail) | fail) | fail)) only [go_sem, if_pos, if_neg, wrapI, wrapU, decide_eq_true, decide_eq_false, beqT, beqF, bneT, bneF] <;> rfl); simp only [go_sem]) | ((with_reducible apply ops_pureF); rfl; (intro _; simp (disch := (first | omega | assumption | ((repeat' with_reducible apply And.intro) <;> first | omega | assumption | rfl | (apply Or.inl; rfl) | (apply Or.inr; first | rfl | trivial | fail) | fail) | fail)) only [go_sem, if_pos, if_neg, wrapI, wrapU, decide_eq_true, decide_eq_false, beqT, beqF, bneT, bneF] <;> rfl); simp only [go_sem]) | ((with_reducible apply ops_pureD); kernel_rfl; rfl; (simp (disch := (first | omega | assumption | ((repeat' with_reducible apply And.intro) <;> first | omega | assumption | rfl | (apply Or.inl; rfl) | (apply Or.inr; first | rfl | trivial | fail) | fail) | fail)) only [go_sem, if_pos, if_neg, wrapI, wrapU, decide_eq_true, decide_eq_false, beqT, beqF, bneT, bneF] <;> rfl); simp only [go_sem]) | ((with_reducible apply ops_skip); rfl; simp only [go_sem]) | ((with_reducible apply c_regionD); kernel_rfl) | ((first | ((with_reducible apply ops_eff); decide) | (with_reducible apply ops_lit)); rfl; (simp (disch := (first | omega | assumption | ((repeat' with_reducible apply And.intro) <;> first | omega | assumption | rfl | (apply Or.inl; rfl) | (apply Or.inr; first | rfl | trivial | fail) | fail) | fail)) only [go_sem, if_pos, if_neg, wrapI, wrapU, decide_eq_true, decide_eq_false, beqT, beqF, bneT, bneF] <;> rfl); simp only [go_sem])); (repeat (first | with_reducible (first | refine c_seq ?_ | refine c_block ?_ | refine c_skip ?_ | refine c_exit ?_ | refine c_ret ?_ | refine then_normal ?_ | refine then_exit ?_ | refine then_ret ?_ | refine block_normal ?_ | refine block_here ?_ | refine block_ret ?_ | refine block_far (by decide) ?_ | refine ops_nil ?_ | refine c_cond_t rfl ?_ | refine c_cond_f rfl ?_) | ((with_reducible apply ops_pure); rfl; (simp (disch := (first | omega | assumption | ((repeat' with_reducible apply And.intro) <;> first | omega | assumption | rfl | (apply Or.inl; rfl) | (apply Or.inr; first | rfl | trivial | fail) | fail) | fail)) only [go_sem, if_pos, if_neg, wrapI, wrapU, decide_eq_true, decide_eq_false, beqT, beqF, bneT, bneF] <;> rfl); simp only [go_sem]) | ((with_reducible apply ops_pureF); rfl; (intro _; simp (disch := (first | omega | assumption | ((repeat' with_reducible apply And.intro) <;> first | omega | assumption | rfl | (apply Or.inl; rfl) | (apply Or.inr; first | rfl | trivial | fail) | fail) | fail)) only [go_sem, if_pos, if_neg, wrapI, wrapU, decide_eq_true, decide_eq_false, beqT, beqF, bneT, bneF] <;> rfl); simp only [go_sem]) | ((with_reducible apply ops_pureD); kernel_rfl; rfl; (simp (disch := (first | omega | assumption | ((repeat' with_reducible apply And.intro) <;> first | omega | assumption | rfl | (apply Or.inl; rfl) | (apply Or.inr; first | rfl | trivial | fail) | fail) | fail)) only [go_sem, if_pos, if_neg, wrapI, wrapU, decide_eq_true, decide_eq_false, beqT, beqF, bneT, bneF] <;> rfl); simp only [go_sem]) | ((with_reducible apply ops_skip); rfl; simp only [go_sem]) | ((with_reducible apply c_regionD); kernel_rfl) | ((first | ((with_reducible apply ops_eff); decide) | (with_reducible apply ops_lit)); rfl; (simp (disch := (first | omega | assumption | ((repeat' with_reducible apply And.intro) <;> first | omega | assumption | rfl | (apply Or.inl; rfl) | (apply Or.inr; first | rfl | trivial | fail) | fail) | fail)) only [go_sem, if_pos, if_neg, wrapI, wrapU, decide_eq_true, decide_eq_false, beqT, beqF, bneT, bneF] <;> rfl); simp only [go_sem]))); exact k.get)) : p := h k
theorem sv {p : Prop} (h : p := by simp (disch := (first | omega | assumption | ((repeat' with_reducible apply And.intro) <;> first | omega | assumption | rfl | (apply Or.inl; rfl) | (apply Or.inr; first | rfl | trivial | fail) | fail) | fail)) only [go_sem, if_pos, if_neg, wrapI, wrapU, decide_eq_true, decide_eq_false, beqT, beqF, bneT, bneF] <;> rfl) : p := h
theorem call {T : Tab} {X : CallP} {n0 lo : Nat} {wt : List Tmp} {draw : Bool} {ops : Array Oper} {Q : St → Prop} {rest : List Oper} {o : Oper} {env : List D} {sto : Sto} {f : FuncId} {args : List D} (k : ∃ r, X f args sto (if draw then sto.length else lo) r sto ∧ EvOps T X n0 lo wt draw ops Q rest (St.put ⟨env, sto⟩ o.dst r)) (hg : guardD ops o env = some true := by rfl) (h : evCallee (opd env) sto o = some (f, args) := by simp (disch := (first | omega | assumption | ((repeat' with_reducible apply And.intro) <;> first | omega | assumption | rfl | (apply Or.inl; rfl) | (apply Or.inr; first | rfl | trivial | fail) | fail) | fail)) only [go_sem, if_pos, if_neg, wrapI, wrapU, decide_eq_true, decide_eq_false, beqT, beqF, bneT, bneF] <;> rfl) : EvOps T X n0 lo wt draw ops Q (o :: rest) ⟨env, sto⟩ := k.elim fun _ k => ops_call hg h k.1 k.2
section
variable {T : Tab} {X : CallP} {n0 lo : Nat} {wt : List Tmp} {draw : Bool} {ops : Array Oper} {Q : St → Prop} {R : Exit → St → Prop} {rest : List Oper} {o : Oper} {env : List D} {sto : Sto} {st : St}
theorem bsp {j d : Nat} {want b : Bool} (ht : b = true → EvOps T X n0 lo wt draw ops Q (o :: rest) ⟨env.set d (.v (.bool true)), sto⟩) (hf : b = false → EvOps T X n0 lo wt draw ops Q (o :: rest) ⟨env.set d (.v (.bool false)), sto⟩) (h1 : o.guard = some (j, want) := by rfl) (h2 : (ops[j]?).bind (·.dst) = some d := by rfl) (h3 : env[d]? = some (.v (.bool b)) := by rfl) : EvOps T X n0 lo wt draw ops Q (o :: rest) ⟨env, sto⟩ := ops_bsplit h1 h2 h3 ht hf
theorem csp {c : Operand} {x y : Code} {b : Bool} (hx : b = true → EvC T X n0 lo wt x R st) (hy : b = false → EvC T X n0 lo wt y R st) (hc : opd st.env c = .v (.bool b) := by rfl) : EvC T X n0 lo wt (.cond c x y) R st := c_cond hc hx hy
end
end Go.Proofs.Ytghdanpigohnjaa
namespace Go.Proofs.Ytghdanpigohnjaa
def aroundS (n most : Int) : Int := (if n < 0 then -(n + 1) else n).tmod most
def atS (l : List Int) (i most : Int) : Int := if i < 0 ∨ i ≥ l.length then 0 else aroundS (l.getD i.toNat 0) most
def Big (x : Int) : Prop := -9223372036854775808 ≤ x ∧ x ≤ 9223372036854775807
theorem aroundS_bound {n most : Int} (hm : 0 < most) : 0 ≤ aroundS n most ∧ aroundS n most < most := by
  unfold aroundS
  rw [Int.tmod_eq_emod_of_nonneg (by split <;> omega)]
  exact ⟨Int.emod_nonneg _ (by omega), Int.emod_lt_of_pos _ hm⟩
theorem atS_bound {l : List Int} {i most : Int} (hm : 0 < most) : 0 ≤ atS l i most ∧ atS l i most < most := by
  unfold atS
  split
  · omega
  · exact aroundS_bound hm
end Go.Proofs.Ytghdanpigohnjaa
namespace Go.Proofs.Ytghdanpigohnjaa
open Go Go.RowKit

def bigZ (n : Nat) (v : Value) : Value := .agg (List.replicate n v).toArray
@[irreducible] def zsD (n : Nat) (k : IntKind) (x : Int) : List D := List.replicate n (.v (.int k x))
@[irreducible] def zsV (n : Nat) (k : IntKind) (x : Int) : List V := List.replicate n (.int k x)
theorem ofVal_bigZ {n : Nat} {k : IntKind} {x : Int} : ofVal (bigZ n (.int k x)) = .agg (zsD n k x) := by
  have h : (List.replicate n (Value.int k x)).all (·.oneCell') = true := by rw [List.all_eq_true]; intro v hv; rw [(List.mem_replicate.1 hv).2]; rfl
  unfold zsD
  simp only [bigZ, ofVal, h, if_true, List.map_replicate, ofVal1]
theorem zsD_eq {n : Nat} {k : IntKind} {x : Int} : zsD n k x = (zsV n k x).map D.v := by unfold zsD zsV; rw [List.map_replicate]
attribute [go_sem ↓ high] ofVal_bigZ
attribute [go_sem] zsD_eq
def tab : Tab := fun t => match t with
  | 1 => some ⟨.other, .nilFunc, 1, 8⟩
  | 2 => some ⟨.int .i64, .int .i64 0, 1, 8⟩
  | 3 => some ⟨.int .i64, .int .i64 0, 1, 8⟩
  | 4 => some ⟨.bool, .bool false, 1, 1⟩
  | 5 => some ⟨.int .u8, .int .u8 0, 1, 1⟩
  | 6 => some ⟨.int .u8, .int .u8 0, 1, 1⟩
  | 7 => some ⟨.struct [(0, 2), (1, 3), (2, 4), (3, 6)], .agg #[.int .i64 0, .int .i64 0, .bool false, .int .u8 0], 4, 24⟩
  | 8 => some ⟨.struct [(0, 2), (1, 3), (2, 4), (3, 6)], .agg #[.int .i64 0, .int .i64 0, .bool false, .int .u8 0], 4, 24⟩
  | 9 => some ⟨.str, .string ByteArray.empty, 1, 16⟩
  | 10 => some ⟨.str, .string ByteArray.empty, 1, 16⟩
  | 11 => some ⟨.str, .string ByteArray.empty, 1, 16⟩
  | 12 => some ⟨.int .u64, .int .u64 0, 1, 8⟩
  | 13 => some ⟨.struct [(0, 9), (1, 12)], .agg #[.string ByteArray.empty, .int .u64 0], 2, 24⟩
  | 14 => some ⟨.struct [(0, 9), (1, 12)], .agg #[.string ByteArray.empty, .int .u64 0], 2, 24⟩
  | 15 => some ⟨.ptr 115, .pointer none, 1, 8⟩
  | 16 => some ⟨.ptr 118, .pointer none, 1, 8⟩
  | 17 => some ⟨.ptr 126, .pointer none, 1, 8⟩
  | 18 => some ⟨.struct [(0, 17)], .agg #[.pointer none], 1, 8⟩
  | 19 => some ⟨.struct [(0, 17)], .agg #[.pointer none], 1, 8⟩
  | 21 => some ⟨.int .i32, .int .i32 0, 1, 4⟩
  | 22 => some ⟨.slice 33, .slice none 0 0, 1, 24⟩
  | 23 => some ⟨.other, .nilFunc, 1, 8⟩
  | 24 => some ⟨.ptr 71, .pointer none, 1, 8⟩
  | 25 => some ⟨.ptr 54, .pointer none, 1, 8⟩
  | 27 => some ⟨.other, .nilFunc, 1, 8⟩
  | 28 => some ⟨.int .i64, .int .i64 0, 1, 8⟩
  | 30 => some ⟨.other, .nilFunc, 1, 8⟩
  | 31 => some ⟨.slice 3, .slice none 0 0, 1, 24⟩
  | 32 => some ⟨.struct [(0, 3), (1, 3), (2, 3), (3, 9), (4, 31)], .agg #[.int .i64 0, .int .i64 0, .int .i64 0, .string ByteArray.empty, .slice none 0 0], 5, 64⟩
  | 33 => some ⟨.struct [(0, 3), (1, 3), (2, 3), (3, 9), (4, 31)], .agg #[.int .i64 0, .int .i64 0, .int .i64 0, .string ByteArray.empty, .slice none 0 0], 5, 64⟩
  | 34 => some ⟨.other, .nilFunc, 1, 8⟩
  | 35 => some ⟨.other, .nilFunc, 1, 8⟩
  | 36 => some ⟨.other, .nilFunc, 1, 8⟩
  | 38 => some ⟨.other, .nilFunc, 1, 8⟩
  | 39 => some ⟨.slice 9, .slice none 0 0, 1, 24⟩
  | 40 => some ⟨.other, .nilFunc, 1, 8⟩
  | 41 => some ⟨.other, .nilFunc, 1, 8⟩
  | 42 => some ⟨.other, .nilFunc, 1, 8⟩
  | 43 => some ⟨.other, .nilFunc, 1, 8⟩
  | 44 => some ⟨.other, .nilFunc, 1, 8⟩
  | 45 => some ⟨.other, .nilFunc, 1, 8⟩
  | 46 => some ⟨.other, .nilFunc, 1, 8⟩
  | 47 => some ⟨.other, .nilFunc, 1, 8⟩
  | 48 => some ⟨.other, .nilFunc, 1, 8⟩
  | 49 => some ⟨.other, .nilFunc, 1, 8⟩
  | 50 => some ⟨.struct [(0, 9), (1, 9), (2, 4), (3, 4)], .agg #[.string ByteArray.empty, .string ByteArray.empty, .bool false, .bool false], 4, 40⟩
  | 51 => some ⟨.struct [(0, 9), (1, 9), (2, 4), (3, 4)], .agg #[.string ByteArray.empty, .string ByteArray.empty, .bool false, .bool false], 4, 40⟩
  | 52 => some ⟨.slice 51, .slice none 0 0, 1, 24⟩
  | 53 => some ⟨.struct [(0, 52), (1, 4), (2, 3)], .agg #[.slice none 0 0, .bool false, .int .i64 0], 3, 40⟩
  | 54 => some ⟨.struct [(0, 52), (1, 4), (2, 3)], .agg #[.slice none 0 0, .bool false, .int .i64 0], 3, 40⟩
  | 55 => some ⟨.other, .nilFunc, 1, 8⟩
  | 56 => some ⟨.other, .nilFunc, 1, 8⟩
  | 57 => some ⟨.other, .nilFunc, 1, 8⟩
  | 58 => some ⟨.other, .nilFunc, 1, 8⟩
  | 59 => some ⟨.other, .nilFunc, 1, 8⟩
  | 60 => some ⟨.other, .nilFunc, 1, 8⟩
  | 61 => some ⟨.other, .nilFunc, 1, 8⟩
  | 62 => some ⟨.other, .nilFunc, 1, 8⟩
  | 64 => some ⟨.other, .nilFunc, 1, 8⟩
  | 65 => some ⟨.other, .nilFunc, 1, 8⟩
  | 66 => some ⟨.other, .nilFunc, 1, 8⟩
  | 67 => some ⟨.slice 74, .slice none 0 0, 1, 24⟩
  | 68 => some ⟨.map 3 74, .map none, 1, 8⟩
  | 69 => some ⟨.map 3 4, .map none, 1, 8⟩
  | 70 => some ⟨.struct [(0, 67), (1, 68), (2, 69), (3, 4), (4, 3)], .agg #[.slice none 0 0, .map none, .map none, .bool false, .int .i64 0], 5, 56⟩
  | 71 => some ⟨.struct [(0, 67), (1, 68), (2, 69), (3, 4), (4, 3)], .agg #[.slice none 0 0, .map none, .map none, .bool false, .int .i64 0], 5, 56⟩
  | 72 => some ⟨.slice 5, .slice none 0 0, 1, 24⟩
  | 73 => some ⟨.array 64 5, bigZ 64 (.int .u8 0), 64, 64⟩
  | 74 => some ⟨.array 64 5, bigZ 64 (.int .u8 0), 64, 64⟩
  | 76 => some ⟨.other, .nilFunc, 1, 8⟩
  | 77 => some ⟨.other, .nilFunc, 1, 8⟩
  | 78 => some ⟨.other, .nilFunc, 1, 8⟩
  | 79 => some ⟨.other, .nilFunc, 1, 8⟩
  | 80 => some ⟨.other, .nilFunc, 1, 8⟩
  | 81 => some ⟨.other, .nilFunc, 1, 8⟩
  | 82 => some ⟨.other, .nilFunc, 1, 8⟩
  | 83 => some ⟨.other, .nilFunc, 1, 8⟩
  | 84 => some ⟨.other, .nilFunc, 1, 8⟩
  | 85 => some ⟨.other, .nilFunc, 1, 8⟩
  | 86 => some ⟨.other, .nilFunc, 1, 8⟩
  | 87 => some ⟨.other, .nilFunc, 1, 8⟩
  | 88 => some ⟨.other, .nilFunc, 1, 8⟩
  | 89 => some ⟨.other, .nilFunc, 1, 8⟩
  | 90 => some ⟨.int .u64, .int .u64 0, 1, 8⟩
  | 91 => some ⟨.other, .nilFunc, 1, 8⟩
  | 92 => some ⟨.int .i64, .int .i64 0, 1, 8⟩
  | 94 => some ⟨.other, .nilFunc, 1, 8⟩
  | 95 => some ⟨.other, .nilFunc, 1, 8⟩
  | 96 => some ⟨.other, .nilFunc, 1, 8⟩
  | 97 => some ⟨.other, .nilFunc, 1, 8⟩
  | 99 => some ⟨.other, .nilFunc, 1, 8⟩
  | 100 => some ⟨.other, .nilFunc, 1, 8⟩
  | 101 => some ⟨.int .u32, .int .u32 0, 1, 4⟩
  | 102 => some ⟨.other, .nilFunc, 1, 8⟩
  | 103 => some ⟨.int .u64, .int .u64 0, 1, 8⟩
  | 104 => some ⟨.int .u64, .int .u64 0, 1, 8⟩
  | 105 => some ⟨.other, .nilFunc, 1, 8⟩
  | 106 => some ⟨.other, .nilFunc, 1, 8⟩
  | 107 => some ⟨.other, .nilFunc, 1, 8⟩
  | 108 => some ⟨.ptr 3, .pointer none, 1, 8⟩
  | 109 => some ⟨.other, .nilFunc, 1, 8⟩
  | 110 => some ⟨.ptr 104, .pointer none, 1, 8⟩
  | 112 => some ⟨.other, .nilFunc, 1, 8⟩
  | 113 => some ⟨.other, .nilFunc, 1, 8⟩
  | 114 => some ⟨.struct [(0, 17), (1, 17), (2, 17), (3, 9)], .agg #[.pointer none, .pointer none, .pointer none, .string ByteArray.empty], 4, 40⟩
  | 115 => some ⟨.struct [(0, 17), (1, 17), (2, 17), (3, 9)], .agg #[.pointer none, .pointer none, .pointer none, .string ByteArray.empty], 4, 40⟩
  | 116 => some ⟨.array 0 16, .agg #[], 0, 0⟩
  | 117 => some ⟨.struct [(0, 116)], .agg #[], 0, 0⟩
  | 118 => some ⟨.struct [(0, 116)], .agg #[], 0, 0⟩
  | 119 => some ⟨.int .u8, .int .u8 0, 1, 1⟩
  | 120 => some ⟨.int .u8, .int .u8 0, 1, 1⟩
  | 121 => some ⟨.other, .nilFunc, 1, 8⟩
  | 122 => some ⟨.ptr 5, .pointer none, 1, 8⟩
  | 123 => some ⟨.int .i32, .int .i32 0, 1, 4⟩
  | 124 => some ⟨.int .i32, .int .i32 0, 1, 4⟩
  | 125 => some ⟨.struct [(0, 12), (1, 12), (2, 101), (3, 119), (4, 5), (5, 5), (6, 120), (7, 121), (8, 122), (9, 123), (10, 124)], .agg #[.int .u64 0, .int .u64 0, .int .u32 0, .int .u8 0, .int .u8 0, .int .u8 0, .int .u8 0, .nilFunc, .pointer none, .int .i32 0, .int .i32 0], 11, 48⟩
  | 126 => some ⟨.struct [(0, 12), (1, 12), (2, 101), (3, 119), (4, 5), (5, 5), (6, 120), (7, 121), (8, 122), (9, 123), (10, 124)], .agg #[.int .u64 0, .int .u64 0, .int .u32 0, .int .u8 0, .int .u8 0, .int .u8 0, .int .u8 0, .nilFunc, .pointer none, .int .i32 0, .int .i32 0], 11, 48⟩
  | _ => none
@[go_sem] theorem tab_1 : tab 1 = some ⟨.other, .nilFunc, 1, 8⟩ := rfl
@[go_sem] theorem tab_2 : tab 2 = some ⟨.int .i64, .int .i64 0, 1, 8⟩ := rfl
@[go_sem] theorem tab_3 : tab 3 = some ⟨.int .i64, .int .i64 0, 1, 8⟩ := rfl
@[go_sem] theorem tab_4 : tab 4 = some ⟨.bool, .bool false, 1, 1⟩ := rfl
@[go_sem] theorem tab_5 : tab 5 = some ⟨.int .u8, .int .u8 0, 1, 1⟩ := rfl
@[go_sem] theorem tab_6 : tab 6 = some ⟨.int .u8, .int .u8 0, 1, 1⟩ := rfl
@[go_sem] theorem tab_7 : tab 7 = some ⟨.struct [(0, 2), (1, 3), (2, 4), (3, 6)], .agg #[.int .i64 0, .int .i64 0, .bool false, .int .u8 0], 4, 24⟩ := rfl
@[go_sem] theorem tab_8 : tab 8 = some ⟨.struct [(0, 2), (1, 3), (2, 4), (3, 6)], .agg #[.int .i64 0, .int .i64 0, .bool false, .int .u8 0], 4, 24⟩ := rfl
@[go_sem] theorem tab_9 : tab 9 = some ⟨.str, .string ByteArray.empty, 1, 16⟩ := rfl
@[go_sem] theorem tab_10 : tab 10 = some ⟨.str, .string ByteArray.empty, 1, 16⟩ := rfl
@[go_sem] theorem tab_11 : tab 11 = some ⟨.str, .string ByteArray.empty, 1, 16⟩ := rfl
@[go_sem] theorem tab_12 : tab 12 = some ⟨.int .u64, .int .u64 0, 1, 8⟩ := rfl
@[go_sem] theorem tab_13 : tab 13 = some ⟨.struct [(0, 9), (1, 12)], .agg #[.string ByteArray.empty, .int .u64 0], 2, 24⟩ := rfl
@[go_sem] theorem tab_14 : tab 14 = some ⟨.struct [(0, 9), (1, 12)], .agg #[.string ByteArray.empty, .int .u64 0], 2, 24⟩ := rfl
@[go_sem] theorem tab_15 : tab 15 = some ⟨.ptr 115, .pointer none, 1, 8⟩ := rfl
@[go_sem] theorem tab_16 : tab 16 = some ⟨.ptr 118, .pointer none, 1, 8⟩ := rfl
@[go_sem] theorem tab_17 : tab 17 = some ⟨.ptr 126, .pointer none, 1, 8⟩ := rfl
@[go_sem] theorem tab_18 : tab 18 = some ⟨.struct [(0, 17)], .agg #[.pointer none], 1, 8⟩ := rfl
@[go_sem] theorem tab_19 : tab 19 = some ⟨.struct [(0, 17)], .agg #[.pointer none], 1, 8⟩ := rfl
@[go_sem] theorem tab_21 : tab 21 = some ⟨.int .i32, .int .i32 0, 1, 4⟩ := rfl
@[go_sem] theorem tab_22 : tab 22 = some ⟨.slice 33, .slice none 0 0, 1, 24⟩ := rfl
@[go_sem] theorem tab_23 : tab 23 = some ⟨.other, .nilFunc, 1, 8⟩ := rfl
@[go_sem] theorem tab_24 : tab 24 = some ⟨.ptr 71, .pointer none, 1, 8⟩ := rfl
@[go_sem] theorem tab_25 : tab 25 = some ⟨.ptr 54, .pointer none, 1, 8⟩ := rfl
@[go_sem] theorem tab_27 : tab 27 = some ⟨.other, .nilFunc, 1, 8⟩ := rfl
@[go_sem] theorem tab_28 : tab 28 = some ⟨.int .i64, .int .i64 0, 1, 8⟩ := rfl
@[go_sem] theorem tab_30 : tab 30 = some ⟨.other, .nilFunc, 1, 8⟩ := rfl
@[go_sem] theorem tab_31 : tab 31 = some ⟨.slice 3, .slice none 0 0, 1, 24⟩ := rfl
@[go_sem] theorem tab_32 : tab 32 = some ⟨.struct [(0, 3), (1, 3), (2, 3), (3, 9), (4, 31)], .agg #[.int .i64 0, .int .i64 0, .int .i64 0, .string ByteArray.empty, .slice none 0 0], 5, 64⟩ := rfl
@[go_sem] theorem tab_33 : tab 33 = some ⟨.struct [(0, 3), (1, 3), (2, 3), (3, 9), (4, 31)], .agg #[.int .i64 0, .int .i64 0, .int .i64 0, .string ByteArray.empty, .slice none 0 0], 5, 64⟩ := rfl
@[go_sem] theorem tab_34 : tab 34 = some ⟨.other, .nilFunc, 1, 8⟩ := rfl
@[go_sem] theorem tab_35 : tab 35 = some ⟨.other, .nilFunc, 1, 8⟩ := rfl
@[go_sem] theorem tab_36 : tab 36 = some ⟨.other, .nilFunc, 1, 8⟩ := rfl
@[go_sem] theorem tab_38 : tab 38 = some ⟨.other, .nilFunc, 1, 8⟩ := rfl
@[go_sem] theorem tab_39 : tab 39 = some ⟨.slice 9, .slice none 0 0, 1, 24⟩ := rfl
@[go_sem] theorem tab_40 : tab 40 = some ⟨.other, .nilFunc, 1, 8⟩ := rfl
@[go_sem] theorem tab_41 : tab 41 = some ⟨.other, .nilFunc, 1, 8⟩ := rfl
@[go_sem] theorem tab_42 : tab 42 = some ⟨.other, .nilFunc, 1, 8⟩ := rfl
@[go_sem] theorem tab_43 : tab 43 = some ⟨.other, .nilFunc, 1, 8⟩ := rfl
@[go_sem] theorem tab_44 : tab 44 = some ⟨.other, .nilFunc, 1, 8⟩ := rfl
@[go_sem] theorem tab_45 : tab 45 = some ⟨.other, .nilFunc, 1, 8⟩ := rfl
@[go_sem] theorem tab_46 : tab 46 = some ⟨.other, .nilFunc, 1, 8⟩ := rfl
@[go_sem] theorem tab_47 : tab 47 = some ⟨.other, .nilFunc, 1, 8⟩ := rfl
@[go_sem] theorem tab_48 : tab 48 = some ⟨.other, .nilFunc, 1, 8⟩ := rfl
@[go_sem] theorem tab_49 : tab 49 = some ⟨.other, .nilFunc, 1, 8⟩ := rfl
@[go_sem] theorem tab_50 : tab 50 = some ⟨.struct [(0, 9), (1, 9), (2, 4), (3, 4)], .agg #[.string ByteArray.empty, .string ByteArray.empty, .bool false, .bool false], 4, 40⟩ := rfl
@[go_sem] theorem tab_51 : tab 51 = some ⟨.struct [(0, 9), (1, 9), (2, 4), (3, 4)], .agg #[.string ByteArray.empty, .string ByteArray.empty, .bool false, .bool false], 4, 40⟩ := rfl
@[go_sem] theorem tab_52 : tab 52 = some ⟨.slice 51, .slice none 0 0, 1, 24⟩ := rfl
@[go_sem] theorem tab_53 : tab 53 = some ⟨.struct [(0, 52), (1, 4), (2, 3)], .agg #[.slice none 0 0, .bool false, .int .i64 0], 3, 40⟩ := rfl
@[go_sem] theorem tab_54 : tab 54 = some ⟨.struct [(0, 52), (1, 4), (2, 3)], .agg #[.slice none 0 0, .bool false, .int .i64 0], 3, 40⟩ := rfl
@[go_sem] theorem tab_55 : tab 55 = some ⟨.other, .nilFunc, 1, 8⟩ := rfl
@[go_sem] theorem tab_56 : tab 56 = some ⟨.other, .nilFunc, 1, 8⟩ := rfl
@[go_sem] theorem tab_57 : tab 57 = some ⟨.other, .nilFunc, 1, 8⟩ := rfl
@[go_sem] theorem tab_58 : tab 58 = some ⟨.other, .nilFunc, 1, 8⟩ := rfl
@[go_sem] theorem tab_59 : tab 59 = some ⟨.other, .nilFunc, 1, 8⟩ := rfl
@[go_sem] theorem tab_60 : tab 60 = some ⟨.other, .nilFunc, 1, 8⟩ := rfl
@[go_sem] theorem tab_61 : tab 61 = some ⟨.other, .nilFunc, 1, 8⟩ := rfl
@[go_sem] theorem tab_62 : tab 62 = some ⟨.other, .nilFunc, 1, 8⟩ := rfl
@[go_sem] theorem tab_64 : tab 64 = some ⟨.other, .nilFunc, 1, 8⟩ := rfl
@[go_sem] theorem tab_65 : tab 65 = some ⟨.other, .nilFunc, 1, 8⟩ := rfl
@[go_sem] theorem tab_66 : tab 66 = some ⟨.other, .nilFunc, 1, 8⟩ := rfl
@[go_sem] theorem tab_67 : tab 67 = some ⟨.slice 74, .slice none 0 0, 1, 24⟩ := rfl
@[go_sem] theorem tab_68 : tab 68 = some ⟨.map 3 74, .map none, 1, 8⟩ := rfl
@[go_sem] theorem tab_69 : tab 69 = some ⟨.map 3 4, .map none, 1, 8⟩ := rfl
@[go_sem] theorem tab_70 : tab 70 = some ⟨.struct [(0, 67), (1, 68), (2, 69), (3, 4), (4, 3)], .agg #[.slice none 0 0, .map none, .map none, .bool false, .int .i64 0], 5, 56⟩ := rfl
@[go_sem] theorem tab_71 : tab 71 = some ⟨.struct [(0, 67), (1, 68), (2, 69), (3, 4), (4, 3)], .agg #[.slice none 0 0, .map none, .map none, .bool false, .int .i64 0], 5, 56⟩ := rfl
@[go_sem] theorem tab_72 : tab 72 = some ⟨.slice 5, .slice none 0 0, 1, 24⟩ := rfl
@[go_sem] theorem tab_73 : tab 73 = some ⟨.array 64 5, bigZ 64 (.int .u8 0), 64, 64⟩ := rfl
@[go_sem] theorem tab_74 : tab 74 = some ⟨.array 64 5, bigZ 64 (.int .u8 0), 64, 64⟩ := rfl
@[go_sem] theorem tab_76 : tab 76 = some ⟨.other, .nilFunc, 1, 8⟩ := rfl
@[go_sem] theorem tab_77 : tab 77 = some ⟨.other, .nilFunc, 1, 8⟩ := rfl
@[go_sem] theorem tab_78 : tab 78 = some ⟨.other, .nilFunc, 1, 8⟩ := rfl
@[go_sem] theorem tab_79 : tab 79 = some ⟨.other, .nilFunc, 1, 8⟩ := rfl
@[go_sem] theorem tab_80 : tab 80 = some ⟨.other, .nilFunc, 1, 8⟩ := rfl
@[go_sem] theorem tab_81 : tab 81 = some ⟨.other, .nilFunc, 1, 8⟩ := rfl
@[go_sem] theorem tab_82 : tab 82 = some ⟨.other, .nilFunc, 1, 8⟩ := rfl
@[go_sem] theorem tab_83 : tab 83 = some ⟨.other, .nilFunc, 1, 8⟩ := rfl
@[go_sem] theorem tab_84 : tab 84 = some ⟨.other, .nilFunc, 1, 8⟩ := rfl
@[go_sem] theorem tab_85 : tab 85 = some ⟨.other, .nilFunc, 1, 8⟩ := rfl
@[go_sem] theorem tab_86 : tab 86 = some ⟨.other, .nilFunc, 1, 8⟩ := rfl
@[go_sem] theorem tab_87 : tab 87 = some ⟨.other, .nilFunc, 1, 8⟩ := rfl
@[go_sem] theorem tab_88 : tab 88 = some ⟨.other, .nilFunc, 1, 8⟩ := rfl
@[go_sem] theorem tab_89 : tab 89 = some ⟨.other, .nilFunc, 1, 8⟩ := rfl
@[go_sem] theorem tab_90 : tab 90 = some ⟨.int .u64, .int .u64 0, 1, 8⟩ := rfl
@[go_sem] theorem tab_91 : tab 91 = some ⟨.other, .nilFunc, 1, 8⟩ := rfl
@[go_sem] theorem tab_92 : tab 92 = some ⟨.int .i64, .int .i64 0, 1, 8⟩ := rfl
@[go_sem] theorem tab_94 : tab 94 = some ⟨.other, .nilFunc, 1, 8⟩ := rfl
@[go_sem] theorem tab_95 : tab 95 = some ⟨.other, .nilFunc, 1, 8⟩ := rfl
@[go_sem] theorem tab_96 : tab 96 = some ⟨.other, .nilFunc, 1, 8⟩ := rfl
@[go_sem] theorem tab_97 : tab 97 = some ⟨.other, .nilFunc, 1, 8⟩ := rfl
@[go_sem] theorem tab_99 : tab 99 = some ⟨.other, .nilFunc, 1, 8⟩ := rfl
@[go_sem] theorem tab_100 : tab 100 = some ⟨.other, .nilFunc, 1, 8⟩ := rfl
@[go_sem] theorem tab_101 : tab 101 = some ⟨.int .u32, .int .u32 0, 1, 4⟩ := rfl
@[go_sem] theorem tab_102 : tab 102 = some ⟨.other, .nilFunc, 1, 8⟩ := rfl
@[go_sem] theorem tab_103 : tab 103 = some ⟨.int .u64, .int .u64 0, 1, 8⟩ := rfl
@[go_sem] theorem tab_104 : tab 104 = some ⟨.int .u64, .int .u64 0, 1, 8⟩ := rfl
@[go_sem] theorem tab_105 : tab 105 = some ⟨.other, .nilFunc, 1, 8⟩ := rfl
@[go_sem] theorem tab_106 : tab 106 = some ⟨.other, .nilFunc, 1, 8⟩ := rfl
@[go_sem] theorem tab_107 : tab 107 = some ⟨.other, .nilFunc, 1, 8⟩ := rfl
@[go_sem] theorem tab_108 : tab 108 = some ⟨.ptr 3, .pointer none, 1, 8⟩ := rfl
@[go_sem] theorem tab_109 : tab 109 = some ⟨.other, .nilFunc, 1, 8⟩ := rfl
@[go_sem] theorem tab_110 : tab 110 = some ⟨.ptr 104, .pointer none, 1, 8⟩ := rfl
@[go_sem] theorem tab_112 : tab 112 = some ⟨.other, .nilFunc, 1, 8⟩ := rfl
@[go_sem] theorem tab_113 : tab 113 = some ⟨.other, .nilFunc, 1, 8⟩ := rfl
@[go_sem] theorem tab_114 : tab 114 = some ⟨.struct [(0, 17), (1, 17), (2, 17), (3, 9)], .agg #[.pointer none, .pointer none, .pointer none, .string ByteArray.empty], 4, 40⟩ := rfl
@[go_sem] theorem tab_115 : tab 115 = some ⟨.struct [(0, 17), (1, 17), (2, 17), (3, 9)], .agg #[.pointer none, .pointer none, .pointer none, .string ByteArray.empty], 4, 40⟩ := rfl
@[go_sem] theorem tab_116 : tab 116 = some ⟨.array 0 16, .agg #[], 0, 0⟩ := rfl
@[go_sem] theorem tab_117 : tab 117 = some ⟨.struct [(0, 116)], .agg #[], 0, 0⟩ := rfl
@[go_sem] theorem tab_118 : tab 118 = some ⟨.struct [(0, 116)], .agg #[], 0, 0⟩ := rfl
@[go_sem] theorem tab_119 : tab 119 = some ⟨.int .u8, .int .u8 0, 1, 1⟩ := rfl
@[go_sem] theorem tab_120 : tab 120 = some ⟨.int .u8, .int .u8 0, 1, 1⟩ := rfl
@[go_sem] theorem tab_121 : tab 121 = some ⟨.other, .nilFunc, 1, 8⟩ := rfl
@[go_sem] theorem tab_122 : tab 122 = some ⟨.ptr 5, .pointer none, 1, 8⟩ := rfl
@[go_sem] theorem tab_123 : tab 123 = some ⟨.int .i32, .int .i32 0, 1, 4⟩ := rfl
@[go_sem] theorem tab_124 : tab 124 = some ⟨.int .i32, .int .i32 0, 1, 4⟩ := rfl
@[go_sem] theorem tab_125 : tab 125 = some ⟨.struct [(0, 12), (1, 12), (2, 101), (3, 119), (4, 5), (5, 5), (6, 120), (7, 121), (8, 122), (9, 123), (10, 124)], .agg #[.int .u64 0, .int .u64 0, .int .u32 0, .int .u8 0, .int .u8 0, .int .u8 0, .int .u8 0, .nilFunc, .pointer none, .int .i32 0, .int .i32 0], 11, 48⟩ := rfl
@[go_sem] theorem tab_126 : tab 126 = some ⟨.struct [(0, 12), (1, 12), (2, 101), (3, 119), (4, 5), (5, 5), (6, 120), (7, 121), (8, 122), (9, 123), (10, 124)], .agg #[.int .u64 0, .int .u64 0, .int .u32 0, .int .u8 0, .int .u8 0, .int .u8 0, .int .u8 0, .nilFunc, .pointer none, .int .i32 0, .int .i32 0], 11, 48⟩ := rfl
set_option maxRecDepth 100000 in
theorem tab_ok : Tab.OK tab Try.prog := by
  intro t i h
  unfold tab at h
  split at h
  all_goals first | cases h; done | (cases h; exact ⟨by kernel_rfl, by kernel_rfl, rfl⟩)
end Go.Proofs.Ytghdanpigohnjaa
namespace Go.Proofs.Ytghdanpigohnjaa
open Go Go.RowKit
abbrev By := List UInt8
def u8V (x : UInt8) : V := .int .u8 x.toNat
def u8s (b : By) : List V := b.map u8V
abbrev BLK (b : By) : V := .agg (u8s b)
def bs (b : By) : ByteArray := ⟨b.toArray⟩
abbrev STR (b : By) : V := .str (bs b)
theorem u8s_len (b : By) : (u8s b).length = b.length := by simp [u8s]
theorem bs_size (b : By) : (bs b).size = b.length := by simp [bs, ByteArray.size]
theorem bytesV_bs (b : By) : bytesV (bs b) = u8s b := by simp [bytesV, bs, u8s, u8V]
theorem strL_u8s : ∀ b : By, strL (u8s b) = some b
  | [] => rfl
  | x :: b => by
    show strL (u8V x :: u8s b) = _
    simp only [u8V, strL, strL_u8s b, Option.map_some, Int.toNat_natCast, UInt8.ofNat_toNat]
theorem strV_u8s (b : By) : strV (u8s b) = some (bs b) := by rw [strV, strL_u8s]; rfl
theorem u8V_inj {x y : UInt8} : u8V x = u8V y ↔ x = y := by
  constructor
  · intro h
    simp only [u8V, V.int.injEq, true_and] at h
    exact UInt8.toNat_inj.1 (by omega)
  · rintro rfl; rfl
theorem eqVs_u8s : ∀ a b : By, a.length = b.length → eqVs (u8s a) (u8s b) = some (decide (a = b))
  | [], [], _ => rfl
  | [], _ :: _, h => by simp at h
  | _ :: _, [], h => by simp at h
  | x :: a, y :: b, h => by
    show eqVs (u8V x :: u8s a) (u8V y :: u8s b) = _
    simp only [u8V, eqVs, if_true, eqVs_u8s a b (by simpa using h), Option.map_some, Option.some.injEq]
    by_cases hx : x = y
    · subst hx; simp
    · have : ¬ ((x.toNat : Int) = y.toNat) := fun h => hx (UInt8.toNat_inj.1 (by omega))
      simp [hx, this]
theorem bs_append (a b : By) : bs a ++ bs b = bs (a ++ b) := by
  apply ByteArray.ext
  simp [bs]
theorem bs_extract (b : By) (l h : Nat) : (bs b).extract l h = bs ((b.take h).drop l) := by
  apply ByteArray.ext
  rw [ByteArray.data_extract]
  simp [bs, List.drop_take]
theorem bs_toList (b : By) : (bs b).toList = b := by rw [ByteArray.toList_eq]; rfl
theorem bs_beq (a b : By) : ((bs a).toList == (bs b).toList) = decide (a = b) := by
  rw [bs_toList, bs_toList]
  by_cases h : a = b <;> simp [h]
theorem bs_inj {a b : By} (h : bs a = bs b) : a = b := by
  have := congrArg ByteArray.toList h
  rwa [bs_toList, bs_toList] at this
theorem bs_of (s : ByteArray) : s = bs s.data.toList := by apply ByteArray.ext; simp [bs]
theorem bs_nil : ByteArray.empty = bs [] := rfl
theorem bs_nil2 : ByteArray.mk #[] = bs [] := rfl
theorem bs_get (b : By) (i : Nat) : (bs b)[i]? = b[i]? := by
  show (if h : i < (bs b).size then _ else _) = _
  by_cases h : i < b.length
  · have h' : i < (bs b).size := by rw [bs_size]; exact h
    rw [dif_pos h', List.getElem?_eq_getElem h]
    congr 1
  · have h' : ¬ i < (bs b).size := by rw [bs_size]; exact h
    rw [dif_neg h', List.getElem?_eq_none (by omega)]
theorem take_u8 {b : By} (h : b.length = 64) : (u8s b).take 64 = u8s b := List.take_of_length_le (by rw [u8s_len, h]; exact Nat.le_refl _)
theorem take_u8v {b : By} (h : b.length = 64) : ((u8s b).map _root_.Go.Proofs.Ytghdanpigohnjaa.D.v).take 64 = (u8s b).map _root_.Go.Proofs.Ytghdanpigohnjaa.D.v := List.take_of_length_le (by rw [List.length_map, u8s_len, h]; exact Nat.le_refl _)
theorem drop_u8v {b : By} (h : b.length = 64) : ((u8s b).map _root_.Go.Proofs.Ytghdanpigohnjaa.D.v).drop 64 = [] := List.drop_of_length_le (by rw [List.length_map, u8s_len, h]; exact Nat.le_refl _)
theorem len_u8v {b : By} : ((u8s b).map _root_.Go.Proofs.Ytghdanpigohnjaa.D.v).length = b.length := by rw [List.length_map, u8s_len]
theorem viewL_mv {sto : Sto} : ∀ {xs : List V}, viewL sto (xs.map _root_.Go.Proofs.Ytghdanpigohnjaa.D.v) = some xs
  | [] => rfl
  | x :: xs => by simp only [List.map_cons, viewL, viewC, viewL_mv (xs := xs)]
def Z64 : By := List.replicate 64 0
theorem Z64_len : Z64.length = 64 := by simp [Z64]
theorem zsV_Z64 : zsV 64 .u8 0 = u8s Z64 := by
  unfold zsV Z64 u8s
  rw [List.map_replicate]; rfl
/-- Pieces of equal length, one behind the other. -/
theorem flat_at {α : Type} {s : Nat} : ∀ {L : List (List α)} (_ : ∀ l ∈ L, l.length = s) {i : Nat} (hi : i < L.length), ∃ A B, L.flatten = A ++ L[i] ++ B ∧ A.length = i * s ∧ ∀ X, (L.set i X).flatten = A ++ X ++ B
  | [], _, i, hi => by simp at hi
  | l :: L, h, 0, hi => ⟨[], L.flatten, by simp, by simp, by simp⟩
  | l :: L, h, i + 1, hi => by
    obtain ⟨A, B, h1, h2, h3⟩ := flat_at (L := L) (fun x hx => h x (by simp [hx])) (i := i) (by simpa using hi)
    refine ⟨l ++ A, B, by simp [h1, List.append_assoc], ?_, fun X => by simp [h3, List.append_assoc]⟩
    rw [List.length_append, h l (by simp), h2, Nat.succ_mul]; omega
theorem flat_len {α : Type} {s : Nat} : ∀ {L : List (List α)} (_ : ∀ l ∈ L, l.length = s), L.flatten.length = L.length * s
  | [], _ => by simp
  | l :: L, h => by
    rw [List.flatten_cons, List.length_append, flat_len (L := L) (fun x hx => h x (by simp [hx])), h l (by simp), List.length_cons, Nat.succ_mul]; omega
theorem flat_get {α : Type} {s : Nat} {L : List (List α)} (h : ∀ l ∈ L, l.length = s) {i : Nat} (hi : i < L.length) : (L.flatten.drop (i * s)).take s = L[i] := by
  obtain ⟨A, B, h1, h2, _⟩ := flat_at h hi
  have hl := h L[i] (List.getElem_mem hi)
  rw [h1, List.append_assoc, List.drop_append_of_le_length (by omega), List.drop_of_length_le (by omega), List.nil_append, List.take_append_of_le_length (by omega), List.take_of_length_le (by omega)]
theorem flat_get1 {α : Type} {s : Nat} {L : List (List α)} (h : ∀ l ∈ L, l.length = s) {i j : Nat} (hi : i < L.length) (hj : j < s) : L.flatten[i * s + j]? = L[i][j]? := by
  obtain ⟨A, B, h1, h2, _⟩ := flat_at h hi
  have hl := h L[i] (List.getElem_mem hi)
  rw [h1, List.append_assoc, List.getElem?_append_right (by omega), List.getElem?_append_left (by omega)]
  congr 1; omega
theorem flat_put {α : Type} {s : Nat} {L : List (List α)} (h : ∀ l ∈ L, l.length = s) {i j : Nat} (hi : i < L.length) (X : List α) (hj : j + X.length ≤ s) : L.flatten.take (i * s + j) ++ X ++ L.flatten.drop (i * s + j + X.length) = (L.set i (L[i].take j ++ X ++ L[i].drop (j + X.length))).flatten := by
  obtain ⟨A, B, h1, h2, h3⟩ := flat_at h hi
  have hl := h L[i] (List.getElem_mem hi)
  rw [h3, h1, List.append_assoc A L[i] B, List.take_append, List.drop_append, h2]
  rw [show i * s + j - i * s = j from by omega, List.take_of_length_le (l := A) (by omega), List.drop_of_length_le (l := A) (by omega), List.nil_append, show i * s + j + X.length - i * s = j + X.length from by omega, List.take_append_of_le_length (by omega), List.drop_append_of_le_length (by omega)]
  simp [List.append_assoc]
/-- A disk: its blocks, what is pending, which sectors are worn, whether the power is off, how many steps are left. -/
structure DK where
  bl : List By
  pd : List (Int × By)
  wn : List Int
  off : Bool
  lf : Int
def kvP (pd : List (Int × By)) : List (Int × V) := pd.map fun p => (p.1, BLK p.2)
def kvW (wn : List Int) : List (Int × V) := wn.map fun k => (k, .bool true)
def flatB (bl : List By) : List V := (bl.map u8s).flatten
def DK.ok (D : DK) : Prop := (∀ b ∈ D.bl, b.length = 64) ∧ (∀ p ∈ D.pd, p.2.length = 64 ∧ 0 ≤ p.1 ∧ p.1 < D.bl.length) ∧ (D.pd.map (·.1)).Nodup ∧ (∀ k ∈ D.wn, 0 ≤ k ∧ k < D.bl.length) ∧ D.wn.Nodup ∧ D.bl.length ≤ 4096 ∧ 0 < D.bl.length ∧ Big D.lf
theorem DK.blen {D : DK} (h : D.ok) : ∀ l ∈ D.bl.map u8s, l.length = 64 := by
  intro l hl
  obtain ⟨b, hb, rfl⟩ := List.mem_map.1 hl
  rw [u8s_len]; exact h.1 b hb
theorem flatB_len {D : DK} (h : D.ok) : (flatB D.bl).length = D.bl.length * 64 := by
  rw [flatB, flat_len (DK.blen h), List.length_map]
theorem flatB_get {D : DK} (h : D.ok) {i : Nat} (hi : i < D.bl.length) : ((flatB D.bl).drop (i * 64)).take 64 = u8s D.bl[i] := by
  rw [flatB, flat_get (DK.blen h) (by simpa using hi), List.getElem_map]
theorem flatB_get1 {D : DK} (h : D.ok) {i j : Nat} (hi : i < D.bl.length) (hj : j < 64) : (flatB D.bl)[i * 64 + j]? = some (u8V (D.bl[i]'hi)[j]!) := by
  have hl := h.1 _ (List.getElem_mem hi)
  rw [flatB, flat_get1 (DK.blen h) (by simpa using hi) hj, List.getElem_map, u8s, List.getElem?_map, List.getElem?_eq_getElem (by omega), getElem!_pos _ j (by omega)]
  rfl
theorem flatB_put {D : DK} (h : D.ok) {i j : Nat} (hi : i < D.bl.length) (X : By) (hj : j + X.length ≤ 64) : (flatB D.bl).take (i * 64 + j) ++ u8s X ++ (flatB D.bl).drop (i * 64 + j + X.length) = flatB (D.bl.set i (D.bl[i].take j ++ X ++ D.bl[i].drop (j + X.length))) := by
  have := flat_put (DK.blen h) (i := i) (j := j) (by simpa using hi) (u8s X) (by rw [u8s_len]; exact hj)
  rw [u8s_len] at this
  rw [flatB, flatB, this, List.getElem_map, List.map_set]
  simp [u8s, List.map_take, List.map_drop]
def eB (D : DK) : Ent := .arr (some (74, 64)) true D.bl.length (flatB D.bl)
def eP (D : DK) : Ent := .map .i64 (kvP D.pd)
def eW (D : DK) : Ent := .map .i64 (kvW D.wn)
def eD (k : Nat) (D : DK) : Ent := .cells [.arr k D.bl.length, .map (k + 1), .map (k + 2), .v (.bool D.off), .v (VI D.lf)]
/-- Where a disk lies: four entries. -/
structure DiskAt (sto : Sto) (k : Nat) (D : DK) : Prop where
  b : sto[k]? = some (.arr (some (74, 64)) true D.bl.length (flatB D.bl))
  p : sto[k + 1]? = some (.map .i64 (kvP D.pd))
  w : sto[k + 2]? = some (.map .i64 (kvW D.wn))
  d : sto[k + 3]? = some (.cells [.arr k D.bl.length, .map (k + 1), .map (k + 2), .v (.bool D.off), .v (VI D.lf)])
theorem DiskAt.lt {sto : Sto} {k : Nat} {D : DK} (h : DiskAt sto k D) : k + 3 < sto.length := (List.getElem?_eq_some_iff.1 h.d).1
@[irreducible] def putD (sto : Sto) (k : Nat) (D : DK) : Sto := (((sto.set k (eB D)).set (k + 1) (eP D)).set (k + 2) (eW D)).set (k + 3) (eD k D)
theorem putD_len {sto : Sto} {k : Nat} {D : DK} : (putD sto k D).length = sto.length := by unfold putD; simp
theorem putD_b {sto : Sto} {k : Nat} {D : DK} (h : k + 3 < sto.length) : (putD sto k D)[k]? = some (.arr (some (74, 64)) true D.bl.length (flatB D.bl)) := by
  unfold putD
  rw [List.getElem?_set_ne (by omega), List.getElem?_set_ne (by omega), List.getElem?_set_ne (by omega), List.getElem?_set_self (by omega)]; rfl
theorem putD_p {sto : Sto} {k : Nat} {D : DK} (h : k + 3 < sto.length) : (putD sto k D)[k + 1]? = some (.map .i64 (kvP D.pd)) := by
  unfold putD
  rw [List.getElem?_set_ne (by omega), List.getElem?_set_ne (by omega), List.getElem?_set_self (by simp; omega)]; rfl
theorem putD_w {sto : Sto} {k : Nat} {D : DK} (h : k + 3 < sto.length) : (putD sto k D)[k + 2]? = some (.map .i64 (kvW D.wn)) := by
  unfold putD
  rw [List.getElem?_set_ne (by omega), List.getElem?_set_self (by simp; omega)]; rfl
theorem putD_d {sto : Sto} {k : Nat} {D : DK} (h : k + 3 < sto.length) : (putD sto k D)[k + 3]? = some (.cells [.arr k D.bl.length, .map (k + 1), .map (k + 2), .v (.bool D.off), .v (VI D.lf)]) := by
  unfold putD
  rw [List.getElem?_set_self (by simp; omega)]; rfl
theorem putD_at {sto : Sto} {k : Nat} {D : DK} (h : k + 3 < sto.length) : DiskAt (putD sto k D) k D := ⟨putD_b h, putD_p h, putD_w h, putD_d h⟩
theorem putD_ne {sto : Sto} {k i : Nat} {D : DK} (h : i < k ∨ k + 3 < i) : (putD sto k D)[i]? = sto[i]? := by
  unfold putD
  rw [List.getElem?_set_ne (by omega), List.getElem?_set_ne (by omega), List.getElem?_set_ne (by omega), List.getElem?_set_ne (by omega)]
theorem putD_eq {s sto : Sto} {k : Nat} {D : DK} (hl : s.length = sto.length) (h : DiskAt s k D) (hne : ∀ i, i < k ∨ k + 3 < i → s[i]? = sto[i]?) : s = putD sto k D := by
  have hlt := h.lt
  have h2 := putD_at (D := D) (k := k) (sto := sto) (by omega)
  apply List.ext_getElem?
  intro i
  by_cases hi : i < k ∨ k + 3 < i
  · rw [hne i hi, putD_ne hi]
  · rcases (by omega : i = k ∨ i = k + 1 ∨ i = k + 2 ∨ i = k + 3) with rfl | rfl | rfl | rfl
    · rw [h.b, h2.b]
    · rw [h.p, h2.p]
    · rw [h.w, h2.w]
    · rw [h.d, h2.d]
theorem putD_same {sto : Sto} {k : Nat} {D : DK} (h : DiskAt sto k D) : putD sto k D = sto := (putD_eq rfl h fun _ _ => rfl).symm
theorem putD_app {sto l : Sto} {k : Nat} {D : DK} (h : k + 3 < sto.length) : putD (sto ++ l) k D = putD sto k D ++ l := by
  unfold putD
  rw [List.set_append_left _ _ (by omega), List.set_append_left _ _ (by simp; omega), List.set_append_left _ _ (by simp; omega), List.set_append_left _ _ (by simp; omega)]
theorem putD_put {sto : Sto} {k : Nat} {D E : DK} (h : k + 3 < sto.length) : putD (putD sto k D) k E = putD sto k E := by
  refine putD_eq (by simp [putD_len]) (putD_at (by rw [putD_len]; exact h)) fun i hi => by rw [putD_ne hi, putD_ne hi]
theorem putD_swap {sto : Sto} {k j : Nat} {D E : DK} (hk : k + 3 < sto.length) (hj : j + 3 < sto.length) (h : k + 3 < j ∨ j + 3 < k) : putD (putD sto j E) k D = putD (putD sto k D) j E := by
  have a1 := putD_at (D := D) (k := k) (sto := sto) hk
  have a2 := putD_at (D := D) (k := k) (sto := putD sto j E) (by rw [putD_len]; exact hk)
  refine putD_eq (by simp [putD_len]) ?_ fun i hi => ?_
  · have b := putD_at (D := E) (k := j) (sto := sto) hj
    exact ⟨by rw [putD_ne (by omega)]; exact b.b, by rw [putD_ne (by omega)]; exact b.p, by rw [putD_ne (by omega)]; exact b.w, by rw [putD_ne (by omega)]; exact b.d⟩
  · by_cases hi2 : i < k ∨ k + 3 < i
    · rw [putD_ne hi2, putD_ne hi, putD_ne hi2]
    · rcases (by omega : i = k ∨ i = k + 1 ∨ i = k + 2 ∨ i = k + 3) with rfl | rfl | rfl | rfl
      · rw [a2.b, a1.b]
      · rw [a2.p, a1.p]
      · rw [a2.w, a1.w]
      · rw [a2.d, a1.d]
theorem putD_setd {sto : Sto} {k : Nat} {bl : List By} {pd : List (Int × By)} {wn : List Int} {off o : Bool} {lf l : Int} : (putD sto k ⟨bl, pd, wn, off, lf⟩).set (k + 3) (.cells [.arr k bl.length, .map (k + 1), .map (k + 2), .v (.bool o), .v (VI l)]) = putD sto k ⟨bl, pd, wn, o, l⟩ := by
  unfold putD; rw [List.set_set]; rfl
theorem putD_setw {sto : Sto} {k : Nat} {bl : List By} {pd : List (Int × By)} {wn w : List Int} {off : Bool} {lf : Int} : (putD sto k ⟨bl, pd, wn, off, lf⟩).set (k + 2) (.map .i64 (kvW w)) = putD sto k ⟨bl, pd, w, off, lf⟩ := by
  unfold putD; rw [List.set_comm _ _ (by omega : k + 3 ≠ k + 2), List.set_set]; rfl
theorem putD_setp {sto : Sto} {k : Nat} {bl : List By} {pd p : List (Int × By)} {wn : List Int} {off : Bool} {lf : Int} : (putD sto k ⟨bl, pd, wn, off, lf⟩).set (k + 1) (.map .i64 (kvP p)) = putD sto k ⟨bl, p, wn, off, lf⟩ := by
  unfold putD; rw [List.set_comm _ _ (by omega : k + 3 ≠ k + 1), List.set_comm _ _ (by omega : k + 2 ≠ k + 1), List.set_set]; rfl
theorem putD_setb {sto : Sto} {k : Nat} {bl b : List By} {pd : List (Int × By)} {wn : List Int} {off : Bool} {lf : Int} (h : b.length = bl.length) : (putD sto k ⟨bl, pd, wn, off, lf⟩).set k (.arr (some (74, 64)) true bl.length (flatB b)) = putD sto k ⟨b, pd, wn, off, lf⟩ := by
  unfold putD; rw [List.set_comm _ _ (by omega : k + 3 ≠ k), List.set_comm _ _ (by omega : k + 2 ≠ k), List.set_comm _ _ (by omega : k + 1 ≠ k), List.set_set]; simp only [eB, eD, eW, eP, h]
theorem setL {sto l : Sto} {i : Nat} {e : Ent} (h : i < sto.length) : (sto ++ l).set i e = sto.set i e ++ l := List.set_append_left _ _ h
theorem getLD {sto l : Sto} {k i : Nat} {K : DK} (h : i < sto.length) : (putD sto k K ++ l)[i]? = (putD sto k K)[i]? := List.getElem?_append_left (by rw [putD_len]; exact h)
theorem setLD {sto l : Sto} {k i : Nat} {K : DK} {e : Ent} (h : i < sto.length) : (putD sto k K ++ l).set i e = (putD sto k K).set i e ++ l := List.set_append_left _ _ (by rw [putD_len]; exact h)
section
variable {T : Tab} {X : CallP} {n0 lo : Nat} {wt : List Tmp}
theorem c_sto {c : Code} {R : Exit → St → Prop} {env : List D} {sto sto' : Sto} (h : sto' = sto) (k : EvC T X n0 lo wt c R ⟨env, sto'⟩) : EvC T X n0 lo wt c R ⟨env, sto⟩ := h ▸ k
end
theorem putD_get0 {sto l : Sto} {k : Nat} {D : DK} : (putD sto k D ++ l)[sto.length]? = l[0]? := by
  rw [List.getElem?_append_right (by rw [putD_len]; omega), putD_len, Nat.sub_self]
theorem putD_get {sto l : Sto} {k n : Nat} {D : DK} : (putD sto k D ++ l)[sto.length + n]? = l[n]? := by
  rw [List.getElem?_append_right (by rw [putD_len]; omega), putD_len]; congr 1; omega
theorem putD_set0 {sto l : Sto} {k : Nat} {D : DK} {e : Ent} : (putD sto k D ++ l).set sto.length e = putD sto k D ++ l.set 0 e := by
  rw [List.set_append_right _ _ (by rw [putD_len]; omega), putD_len, Nat.sub_self]
theorem putD_set {sto l : Sto} {k n : Nat} {D : DK} {e : Ent} : (putD sto k D ++ l).set (sto.length + n) e = putD sto k D ++ l.set n e := by
  rw [List.set_append_right _ _ (by rw [putD_len]; omega), putD_len]; congr 2; omega
theorem putD_take {sto l : Sto} {k : Nat} {D : DK} : (putD sto k D ++ l).take sto.length = putD sto k D := by
  rw [List.take_append_of_le_length (by rw [putD_len]; omega), List.take_of_length_le (by rw [putD_len]; omega)]
theorem putD_takeN {sto : Sto} {k : Nat} {D : DK} : (putD sto k D).take sto.length = putD sto k D := List.take_of_length_le (by rw [putD_len]; omega)
theorem getL {sto l : Sto} {i : Nat} (h : i < sto.length) : (sto ++ l)[i]? = sto[i]? := List.getElem?_append_left h
/-- The entries that are older than a call, behind a call of a disk's method. -/
theorem ho_putD {n0 lo k : Nat} {sto : Sto} {E : DK} (hk : k + 3 < n0) : ∀ i ds, lo ≤ i → i < n0 → (putD sto k E)[i]? = some (.cells ds) → sto[i]? = some (.cells ds) ∨ scopedL n0 ds = true := by
  intro i ds _ hi hd
  by_cases hi2 : i < k ∨ k + 3 < i
  · rw [putD_ne hi2] at hd; exact .inl hd
  · by_cases hlt : k + 3 < sto.length
    · rcases (by omega : i = k ∨ i = k + 1 ∨ i = k + 2 ∨ i = k + 3) with rfl | rfl | rfl | rfl
      · rw [putD_b hlt] at hd; cases hd
      · rw [putD_p hlt] at hd; cases hd
      · rw [putD_w hlt] at hd; cases hd
      · rw [putD_d hlt] at hd
        simp only [Option.some.injEq, Ent.cells.injEq] at hd
        subst hd
        right
        simp [scopedL, D.inside]
        omega
    · unfold putD at hd
      left
      have e : i < sto.length := by have := (List.getElem?_eq_some_iff.1 hd).1; simpa using this
      rcases (by omega : i = k ∨ i = k + 1 ∨ i = k + 2) with rfl | rfl | rfl
      · rw [List.getElem?_set_ne (by omega), List.getElem?_set_ne (by omega), List.getElem?_set_ne (by omega), List.getElem?_set_self (by omega)] at hd; cases hd
      · rw [List.getElem?_set_ne (by omega), List.getElem?_set_ne (by omega), List.getElem?_set_self (by simp; omega)] at hd; cases hd
      · rw [List.getElem?_set_ne (by omega), List.getElem?_set_self (by simp; omega)] at hd; cases hd
theorem ho_putDn {n0 lo k : Nat} {sto : Sto} {E : DK} (hk : n0 ≤ k) : ∀ i ds, lo ≤ i → i < n0 → (putD sto k E)[i]? = some (.cells ds) → sto[i]? = some (.cells ds) ∨ scopedL n0 ds = true := by
  intro i ds _ hi hd
  rw [putD_ne (by omega)] at hd; exact .inl hd
end Go.Proofs.Ytghdanpigohnjaa
namespace Go.Proofs.Ytghdanpigohnjaa
open Go Go.RowKit

abbrev Stay := Nat → Nat → Prop
inductive RepV (S : Stay) (w : World) : Value → V → Prop
  | bool (b : Bool) : RepV S w (.bool b) (.bool b)
  | int (k : IntKind) (n : Int) : RepV S w (.int k n) (.int k n)
  | str (s : ByteArray) : RepV S w (.string s) (.str s)
  | sl0 (a : Option Addr) (n cap : Nat) (h : n ≤ cap) (hc : cap ≤ maxLen) (h0 : a = none → cap = 0) : RepV S w (.slice a n cap) (.sl n [])
  | sl (b off n cap : Nat) (us : Nat → Value) (cs : List V) (h : n ≤ cap) (hc : cap ≤ maxLen) (hu : ∀ j, j < cs.length → S b (off + j) ∧ (us j).oneCell' = true ∧ w.cell? ⟨b, off + j, none⟩ = some (us j)) (hr : ∀ (j : Nat) (c : V), cs[j]? = some c → RepV S w (us j) c) : RepV S w (.slice (some ⟨b, off, none⟩) n cap) (.sl n cs)
  | agg (us : List Value) (cs : List V) (h : us.length = cs.length) (ho : ∀ u ∈ us, u.oneCell' = true) (hr : ∀ (j : Nat) (u : Value) (c : V), us[j]? = some u → cs[j]? = some c → RepV S w u c) : RepV S w (.agg us.toArray) (.agg cs)
  | tup (us : List Value) (cs : List V) (h : us.length = cs.length) (hr : ∀ (j : Nat) (u : Value) (c : V), us[j]? = some u → cs[j]? = some c → RepV S w u c) : RepV S w (.tuple us.toArray) (.tup cs)
  | fn (f : FuncId) : RepV S w (.func (.func f) #[] #[]) (.fn f)
theorem RepV.mono {S S' : Stay} {w w' : World} (hst : ∀ b o, S b o → S' b o ∧ w'.cell? ⟨b, o, none⟩ = w.cell? ⟨b, o, none⟩) {v : Value} {x : V} (h : RepV S w v x) : RepV S' w' v x := by
  induction h with
  | bool b => exact .bool b
  | int k n => exact .int k n
  | str s => exact .str s
  | sl0 a n cap h hc h0 => exact .sl0 a n cap h hc h0
  | sl b off n cap us cs h hc hu hr ih => exact .sl b off n cap us cs h hc (fun j hj => ⟨(hst _ _ (hu j hj).1).1, (hu j hj).2.1, (hst _ _ (hu j hj).1).2.trans (hu j hj).2.2⟩) ih
  | agg us cs h ho hr ih => exact .agg us cs h ho ih
  | tup us cs h hr ih => exact .tup us cs h ih
  | fn f => exact .fn f
/-- The block that a value names. -/
def blk : Value → Option Nat
  | .pointer (some a) => some a.block
  | .slice (some a) _ _ => some a.block
  | .map (some g) => some g
  | _ => none
def blkAt (gh : List Value) (i : Nat) : Option Nat := (gh[i]?).bind blk
def RepC (S : Stay) (gh : List Value) (sto : Sto) (w : World) (v : Value) : D → Prop
  | .v x => RepV S w v x
  | .agg _ => False
  | .tupD _ => False
  | .nilS => v = .slice none 0 0
  | .emp => ∃ a, v = .slice (some a) 0 0
  | .arr id n => id < sto.length ∧ (∃ a c, v = .slice a n c) ∧ ∀ es wr m cs, sto[id]? = some (.arr es wr m cs) → n ≤ m ∧ (n = m → gh[id]? = some v)
  | .aptr id n o => id < sto.length ∧ (∃ a, v = .pointer (some a)) ∧ ∀ es wr m cs, sto[id]? = some (.arr es wr m cs) → n ≤ m ∧ (n = m → ∃ g, blkAt gh id = some g ∧ v = .pointer (some ⟨g, o, none⟩))
  | .ptr id off => id < sto.length ∧ ∃ g, gh[id]? = some (.pointer (some ⟨g, 0, none⟩)) ∧ v = .pointer (some ⟨g, off, none⟩)
  | .vp cs o => ∃ (b off : Nat) (us : Nat → Value), v = .pointer (some ⟨b, off + o, none⟩) ∧ (∀ j, j < cs.length → S b (off + j) ∧ (us j).oneCell' = true ∧ w.cell? ⟨b, off + j, none⟩ = some (us j)) ∧ ∀ (j : Nat) (c : V), cs[j]? = some c → RepV S w (us j) c
  | .nilp => v = .pointer none
  | .clo f caps => ∃ vs : List Value, v = .func (.func f) #[] vs.toArray ∧ vs.length = caps.length ∧ ∀ (j id : Nat), caps[j]? = some id → id < sto.length ∧ ∃ g, gh[id]? = some (.pointer (some ⟨g, 0, none⟩)) ∧ vs[j]? = some (.pointer (some ⟨g, 0, none⟩))
  | .nilf => v = .nilFunc
  | .undef => v = undef
  | .dead => True
  | .win id n o m => id < sto.length ∧ (∃ a c, v = .slice a m c) ∧ ∀ es wr k cs, sto[id]? = some (.arr es wr k cs) → n ≤ k ∧ (n = k → ∃ g o' c, blkAt gh id = some g ∧ v = .slice (some ⟨g, o', none⟩) m c ∧ m ≤ c ∧ c ≤ maxLen ∧ (0 < m → o' = o))
  | .map id => id < sto.length ∧ ∃ g, gh[id]? = some (.map (some g)) ∧ v = .map (some g)
  | .nilM => v = .map none
  | .bwin id o m => id < sto.length ∧ ∃ g c, gh[id]? = some (.pointer (some ⟨g, 0, none⟩)) ∧ v = .slice (some ⟨g, o, none⟩) m c ∧ m ≤ c ∧ c ≤ maxLen
def RepA (S : Stay) (gh : List Value) (sto : Sto) (w : World) (v : Value) : D → Prop
  | .agg ds => ∃ us : List Value, v = .agg us.toArray ∧ us.length = ds.length ∧ ∀ (j : Nat) (u : Value) (d : D), us[j]? = some u → ds[j]? = some d → u.oneCell' = true ∧ RepC S gh sto w u d
  | d => RepC S gh sto w v d
def RepD (S : Stay) (gh : List Value) (sto : Sto) (w : World) (v : Value) : D → Prop
  | .agg ds => ∃ us : List Value, v = .agg us.toArray ∧ us.length = ds.length ∧ ∀ (j : Nat) (u : Value) (d : D), us[j]? = some u → ds[j]? = some d → u.oneCell' = true ∧ RepC S gh sto w u d
  | .tupD ds => ∃ us : List Value, v = .tuple us.toArray ∧ us.length = ds.length ∧ ∀ (j : Nat) (u : Value) (d : D), us[j]? = some u → ds[j]? = some d → RepA S gh sto w u d
  | d => RepC S gh sto w v d
/-- What is kept of an entry. -/
def KeepE (gv gv' : Value) : Ent → Ent → Prop
  | .cells ds, .cells ds' => gv' = gv ∧ ds'.length = ds.length
  | .arr _ _ n _, .arr _ _ n' _ => n ≤ n' ∧ (n' = n → gv' = gv)
  | .map k _, .map k' _ => gv' = gv ∧ k' = k
  | .arr _ _ _ _, .cells _ => True
  | _, _ => False
def RepE (S : Stay) (gh : List Value) (sto : Sto) (w : World) (gv : Value) : Ent → Prop
  | .cells ds => ∃ (g : Nat) (cur : Array Value) (ty : TypeId × Nat × Nat), gv = .pointer (some ⟨g, 0, none⟩) ∧ w.heap[g]? = some (.cells cur ty.1 ty.2) ∧ ((ty.2 = (0, 0) ∨ cur.size ≤ ty.2.1) ∧ ds.length ≤ cur.toList.length) ∧ (∀ o, ¬ S g o) ∧ ∀ (k : Nat) (u : Value) (d : D), cur.toList[k]? = some u → ds[k]? = some d → u.oneCell' = true ∧ RepC S gh sto w u d
  | .arr none _ n cs => gv = .slice none 0 0 ∧ n = 0 ∧ cs = []
  | .arr (some (e, s)) wr n cs => ∃ g cap cur, gv = .slice (some ⟨g, 0, none⟩) n cap ∧ w.heap[g]? = some (.cells cur e (0, 0)) ∧ n ≤ cap ∧ cap ≤ maxLen ∧ cur.size = cap * s ∧ cs.length = n * s ∧ (∀ (j : Nat) (u : Value) (c : V), cur.toList[j]? = some u → cs[j]? = some c → u.oneCell' = true ∧ RepV S w u c) ∧ (if wr then ∀ o, ¬ S g o else ∀ o, S g o ↔ o < n * s)
  | .map k kvs => ∃ g es clock, gv = .map (some g) ∧ w.heap[g]? = some (.map es clock) ∧ (∀ o, ¬ S g o) ∧ MapKept.Stamped es clock ∧ es.toList.length = kvs.length ∧ ∀ (j : Nat) (e : MapEntry) (kv : Int × V), es.toList[j]? = some e → kvs[j]? = some kv → e.key = .int k kv.1 ∧ RepV S w e.val kv.2
structure SR (S : Stay) (gh : List Value) (w : World) (sto : Sto) : Prop where
  len : gh.length = sto.length
  ent : ∀ (i : Nat) (e : Ent), sto[i]? = some e → ∃ gv, gh[i]? = some gv ∧ RepE S gh sto w gv e
  inj : ∀ i j g, blkAt gh i = some g → blkAt gh j = some g → i = j
  stay : ∀ b o, S b o → b < w.heap.size
/-- The package-level variables read as they do. -/
def GlobOK (S : Stay) (w : World) : Prop := ∀ g cs, (g, cs) ∈ globs → ∃ us : Nat → Value, (∀ j, j < cs.length → S g j ∧ (us j).oneCell' = true ∧ w.cell? ⟨g, j, none⟩ = some (us j)) ∧ ∀ (j : Nat) (c : V), cs[j]? = some c → RepV S w (us j) c
theorem GlobOK.mono {S S' : Stay} {w w' : World} (hst : ∀ b o, S b o → S' b o ∧ w'.cell? ⟨b, o, none⟩ = w.cell? ⟨b, o, none⟩) (h : GlobOK S w) : GlobOK S' w' := by
  intro g cs hg
  obtain ⟨us, h1, h2⟩ := h g cs hg
  exact ⟨us, fun j hj => ⟨(hst _ _ (h1 j hj).1).1, (h1 j hj).2.1, (hst _ _ (h1 j hj).1).2.trans (h1 j hj).2.2⟩, fun j c hc => RepV.mono hst (h2 j c hc)⟩
structure RS (S : Stay) (gh : List Value) (w : World) (a : Act) (st : St) : Prop where
  size : a.tmps.toList.length = st.env.length
  env : ∀ (t : Nat) (v : Value) (d : D), a.tmps.toList[t]? = some v → st.env[t]? = some d → RepD S gh st.sto w v d
  sto : SR S gh w st.sto
  defers : a.defers = []
  glob : GlobOK S w
/-- What a step leaves as it was: entries below lo wholly; of those below n0 where they lie; blocks that are no entry's. -/
structure Fr (n0 lo : Nat) (S : Stay) (gh : List Value) (w : World) (sto : Sto) (S' : Stay) (gh' : List Value) (w' : World) (sto' : Sto) : Prop where
  os : w'.os = w.os
  tape : w'.tape = w.tape
  output : w'.output = w.output
  size : w.heap.size ≤ w'.heap.size
  stable : ∀ b o, S b o → S' b o ∧ w'.cell? ⟨b, o, none⟩ = w.cell? ⟨b, o, none⟩
  block : ∀ b, b < w.heap.size → (∀ i, lo ≤ i → blkAt gh i ≠ some b) → w'.heap[b]? = w.heap[b]?
  low : ∀ i, i < lo → gh'[i]? = gh[i]? ∧ sto'[i]? = sto[i]?
  new : ∀ i g, lo ≤ i → blkAt gh' i = some g → (∃ j, lo ≤ j ∧ blkAt gh j = some g) ∨ w.heap.size ≤ g
  keep : ∀ (i : Nat) (e : Ent) (gv : Value), i < n0 → sto[i]? = some e → gh[i]? = some gv → ∃ e' gv', sto'[i]? = some e' ∧ gh'[i]? = some gv' ∧ KeepE gv gv' e e'
theorem KeepE.refl (gv : Value) : ∀ e, KeepE gv gv e e
  | .cells _ => ⟨rfl, rfl⟩
  | .arr _ _ _ _ => ⟨Nat.le_refl _, fun _ => rfl⟩
  | .map _ _ => ⟨rfl, rfl⟩
theorem KeepE.trans {a b c : Value} {e f g : Ent} (h : KeepE a b e f) (k : KeepE b c f g) : KeepE a c e g := by
  cases e <;> cases f <;> cases g <;> simp only [KeepE] at h k ⊢ <;> try (first | exact h.elim | exact k.elim)
  · exact ⟨k.1.trans h.1, k.2.trans h.2⟩
  · exact ⟨Nat.le_trans h.1 k.1, fun e => by
      have h1 := h.1; have k1 := k.1
      exact (k.2 (by omega)).trans (h.2 (by omega))⟩
  · exact ⟨k.1.trans h.1, k.2.trans h.2⟩
theorem Fr.refl (n0 lo : Nat) (S : Stay) (gh : List Value) (w : World) (sto : Sto) : Fr n0 lo S gh w sto S gh w sto :=
  ⟨rfl, rfl, rfl, Nat.le_refl _, fun _ _ h => ⟨h, rfl⟩, fun _ _ _ => rfl, fun _ _ => ⟨rfl, rfl⟩, fun i _ hi hg => .inl ⟨i, hi, hg⟩, fun _ e gv _ h1 h2 => ⟨e, gv, h1, h2, KeepE.refl gv e⟩⟩
theorem Fr.trans {n0 lo : Nat} {S1 S2 S3 : Stay} {g1 g2 g3 : List Value} {w1 w2 w3 : World} {s1 s2 s3 : Sto} (h : Fr n0 lo S1 g1 w1 s1 S2 g2 w2 s2) (k : Fr n0 lo S2 g2 w2 s2 S3 g3 w3 s3) : Fr n0 lo S1 g1 w1 s1 S3 g3 w3 s3 where
  os := k.os.trans h.os
  tape := k.tape.trans h.tape
  output := k.output.trans h.output
  size := Nat.le_trans h.size k.size
  stable := fun b o hb => ⟨(k.stable b o (h.stable b o hb).1).1, (k.stable b o (h.stable b o hb).1).2.trans (h.stable b o hb).2⟩
  block := fun b hb hn => (k.block b (Nat.lt_of_lt_of_le hb h.size) (fun i hi hg => by
    rcases h.new i b hi hg with ⟨j, hj, hg'⟩ | hge
    · exact hn j hj hg'
    · omega)).trans (h.block b hb hn)
  low := fun i hi => ⟨(k.low i hi).1.trans (h.low i hi).1, (k.low i hi).2.trans (h.low i hi).2⟩
  new := fun i g hi hg => by
    rcases k.new i g hi hg with ⟨j, hj, hg'⟩ | hge
    · exact h.new j g hj hg'
    · exact .inr (Nat.le_trans h.size hge)
  keep := fun i e gv hi h1 h2 => by
    obtain ⟨e2, gv2, a1, a2, a3⟩ := h.keep i e gv hi h1 h2
    obtain ⟨e3, gv3, b1, b2, b3⟩ := k.keep i e2 gv2 hi a1 a2
    exact ⟨e3, gv3, b1, b2, a3.trans b3⟩
theorem Fr.weaken {n0 n1 lo : Nat} {S S' : Stay} {gh gh' : List Value} {w w' : World} {sto sto' : Sto} (h : Fr n0 lo S gh w sto S' gh' w' sto') (hn : n1 ≤ n0) : Fr n1 lo S gh w sto S' gh' w' sto' :=
  { h with keep := fun i e gv hi => h.keep i e gv (by omega) }
/-- What reads in the old memory reads in the new. -/
theorem RepC.mono {lo : Nat} {S S' : Stay} {gh gh' : List Value} {w w' : World} {sto sto' : Sto} (hs : SR S gh w sto) (hf : Fr sto.length lo S gh w sto S' gh' w' sto') {v : Value} {d : D} (h : RepC S gh sto w v d) : RepC S' gh' sto' w' v d := by
  have look : ∀ id, id < sto.length → ∃ e gv e' gv', sto[id]? = some e ∧ gh[id]? = some gv ∧ RepE S gh sto w gv e ∧ sto'[id]? = some e' ∧ gh'[id]? = some gv' ∧ KeepE gv gv' e e' := by
    intro id hid
    have h1 : sto[id]? = some sto[id] := List.getElem?_eq_getElem hid
    obtain ⟨gv, h2, h3⟩ := hs.ent id _ h1
    obtain ⟨e', gv', a, b, c⟩ := hf.keep id _ _ hid h1 h2
    exact ⟨_, gv, e', gv', h1, h2, h3, a, b, c⟩
  have lt' : ∀ (id : Nat) (e' : Ent), sto'[id]? = some e' → id < sto'.length := fun id e' h => (List.getElem?_eq_some_iff.1 h).1
  have pt : ∀ id g, id < sto.length → gh[id]? = some (.pointer (some ⟨g, 0, none⟩)) → id < sto'.length ∧ gh'[id]? = some (.pointer (some ⟨g, 0, none⟩)) := by
    intro id g hid hg
    obtain ⟨e, gv, e', gv', a1, a2, a3, a4, a5, a6⟩ := look id hid
    rw [a2] at hg
    cases hg
    refine ⟨lt' id e' a4, ?_⟩
    cases e with
    | cells ds => cases e' <;> simp only [KeepE] at a6; rw [a5, a6.1]
    | arr es wr n cs => cases es with
      | none => simp only [RepE] at a3; exact absurd a3.1 (by simp)
      | some es =>
        obtain ⟨e0, s0⟩ := es
        simp only [RepE] at a3
        obtain ⟨g', cap, cur, h, _⟩ := a3
        cases h
    | map k kvs => obtain ⟨g', es, clock, h, _⟩ := a3; cases h
  have mt : ∀ id g, id < sto.length → gh[id]? = some (.map (some g)) → id < sto'.length ∧ gh'[id]? = some (.map (some g)) := by
    intro id g hid hg
    obtain ⟨e, gv, e', gv', a1, a2, a3, a4, a5, a6⟩ := look id hid
    rw [a2] at hg
    cases hg
    refine ⟨lt' id e' a4, ?_⟩
    cases e with
    | cells ds => obtain ⟨g', cur, ty, h, _⟩ := a3; cases h
    | arr es wr n cs => cases es with
      | none => simp only [RepE] at a3; exact absurd a3.1 (by simp)
      | some es =>
        obtain ⟨e0, s0⟩ := es
        simp only [RepE] at a3
        obtain ⟨g', cap, cur, h, _⟩ := a3
        cases h
    | map k kvs => cases e' <;> simp only [KeepE] at a6; rw [a5, a6.1]
  have ar : ∀ id n, id < sto.length → (∀ es wr m cs, sto[id]? = some (.arr es wr m cs) → n ≤ m) → ∀ es' wr' m' cs', sto'[id]? = some (.arr es' wr' m' cs') → ∃ es wr m cs, sto[id]? = some (.arr es wr m cs) ∧ n ≤ m' ∧ (n = m' → n = m ∧ gh'[id]? = gh[id]?) := by
    intro id n hid hle es' wr' m' cs' hs'
    obtain ⟨e, gv, e', gv', a1, a2, a3, a4, a5, a6⟩ := look id hid
    rw [a4] at hs'
    cases hs'
    cases e with
    | cells ds => simp only [KeepE] at a6
    | map k kvs => simp only [KeepE] at a6
    | arr es wr m cs =>
      simp only [KeepE] at a6
      have := hle es wr m cs a1
      refine ⟨es, wr, m, cs, a1, by omega, fun e => ?_⟩
      have hm : n = m := by omega
      exact ⟨hm, by rw [a5, a2, a6.2 (by omega)]⟩
  have ltn : ∀ id, id < sto.length → id < sto'.length := fun id hid => by
    obtain ⟨e, gv, e', gv', a1, a2, a3, a4, a5, a6⟩ := look id hid
    exact lt' id e' a4
  cases d with
  | v x => exact RepV.mono hf.stable h
  | agg ds => exact h.elim
  | tupD ds => exact h.elim
  | nilS => exact h
  | emp => exact h
  | arr id n =>
    obtain ⟨h1, h2, h3⟩ := h
    refine ⟨ltn id h1, h2, fun es' wr' m' cs' hs' => ?_⟩
    obtain ⟨es, wr, m, cs, b1, b2, b3⟩ := ar id n h1 (fun es wr m cs hx => (h3 es wr m cs hx).1) es' wr' m' cs' hs'
    exact ⟨b2, fun e => (b3 e).2.trans ((h3 es wr m cs b1).2 (b3 e).1)⟩
  | aptr id n o =>
    obtain ⟨h1, h2, h3⟩ := h
    refine ⟨ltn id h1, h2, fun es' wr' m' cs' hs' => ?_⟩
    obtain ⟨es, wr, m, cs, b1, b2, b3⟩ := ar id n h1 (fun es wr m cs hx => (h3 es wr m cs hx).1) es' wr' m' cs' hs'
    refine ⟨b2, fun e => ?_⟩
    obtain ⟨g, hg, hv⟩ := (h3 es wr m cs b1).2 (b3 e).1
    exact ⟨g, by unfold blkAt at hg ⊢; rw [(b3 e).2]; exact hg, hv⟩
  | ptr id off =>
    obtain ⟨h1, g, h2, h3⟩ := h
    obtain ⟨h4, h5⟩ := pt id g h1 h2
    exact ⟨h4, g, h5, h3⟩
  | vp cs o =>
    obtain ⟨b, off, us, h1, h2, h3⟩ := h
    exact ⟨b, off, us, h1, fun j hj => ⟨(hf.stable _ _ (h2 j hj).1).1, (h2 j hj).2.1, (hf.stable _ _ (h2 j hj).1).2.trans (h2 j hj).2.2⟩, fun j c hc => RepV.mono hf.stable (h3 j c hc)⟩
  | nilp => exact h
  | clo f caps =>
    obtain ⟨vs, h1, h2, h3⟩ := h
    refine ⟨vs, h1, h2, fun j id hj => ?_⟩
    obtain ⟨a1, g, a2, a3⟩ := h3 j id hj
    obtain ⟨b1, b2⟩ := pt id g a1 a2
    exact ⟨b1, g, b2, a3⟩
  | nilf => exact h
  | undef => exact h
  | dead => exact h
  | win id n o m =>
    obtain ⟨h1, h2, h3⟩ := h
    refine ⟨ltn id h1, h2, fun es' wr' k' cs' hs' => ?_⟩
    obtain ⟨es, wr, k, cs, b1, b2, b3⟩ := ar id n h1 (fun es wr k cs hx => (h3 es wr k cs hx).1) es' wr' k' cs' hs'
    refine ⟨b2, fun e => ?_⟩
    obtain ⟨g, o', c, hg, hv⟩ := (h3 es wr k cs b1).2 (b3 e).1
    exact ⟨g, o', c, by unfold blkAt at hg ⊢; rw [(b3 e).2]; exact hg, hv⟩
  | map id =>
    obtain ⟨h1, g, h2, h3⟩ := h
    obtain ⟨h4, h5⟩ := mt id g h1 h2
    exact ⟨h4, g, h5, h3⟩
  | nilM => exact h
  | bwin id o m =>
    obtain ⟨h1, g, c, h2, h3⟩ := h
    obtain ⟨h4, h5⟩ := pt id g h1 h2
    exact ⟨h4, g, c, h5, h3⟩
theorem RepA.mono {lo : Nat} {S S' : Stay} {gh gh' : List Value} {w w' : World} {sto sto' : Sto} (hs : SR S gh w sto) (hf : Fr sto.length lo S gh w sto S' gh' w' sto') {v : Value} {d : D} (h : RepA S gh sto w v d) : RepA S' gh' sto' w' v d := by
  cases d with
  | agg ds =>
    obtain ⟨us, h1, h2, h3⟩ := h
    exact ⟨us, h1, h2, fun j u d hu hd => ⟨(h3 j u d hu hd).1, RepC.mono hs hf (h3 j u d hu hd).2⟩⟩
  | _ => simp only [RepA] at h ⊢; exact RepC.mono hs hf h
theorem RepA.toD {S : Stay} {gh : List Value} {w : World} {sto : Sto} {v : Value} {d : D} (h : RepA S gh sto w v d) : RepD S gh sto w v d := by
  cases d with
  | tupD ds => exact h.elim
  | _ => exact h
theorem RepD.toA {S : Stay} {gh : List Value} {w : World} {sto : Sto} {v : Value} {d : D} (h : RepD S gh sto w v d) (hd : ∀ ds, d ≠ .tupD ds) : RepA S gh sto w v d := by
  cases d with
  | tupD ds => exact absurd rfl (hd ds)
  | _ => exact h
theorem RepD.mono {lo : Nat} {S S' : Stay} {gh gh' : List Value} {w w' : World} {sto sto' : Sto} (hs : SR S gh w sto) (hf : Fr sto.length lo S gh w sto S' gh' w' sto') {v : Value} {d : D} (h : RepD S gh sto w v d) : RepD S' gh' sto' w' v d := by
  cases d with
  | agg ds =>
    obtain ⟨us, h1, h2, h3⟩ := h
    exact ⟨us, h1, h2, fun j u d hu hd => ⟨(h3 j u d hu hd).1, RepC.mono hs hf (h3 j u d hu hd).2⟩⟩
  | tupD ds =>
    obtain ⟨us, h1, h2, h3⟩ := h
    exact ⟨us, h1, h2, fun j u d hu hd => RepA.mono hs hf (h3 j u d hu hd)⟩
  | _ => simp only [RepD] at h ⊢; exact RepC.mono hs hf h
end Go.Proofs.Ytghdanpigohnjaa
namespace Go.Proofs.Ytghdanpigohnjaa
open Go Go.RowKit

section
variable {P : Program} {T : Tab} (hT : T.OK P) {S : Stay} {gh : List Value} {sto : Sto} {w : World}
theorem RepC.toD {v : Value} {d : D} (h : RepC S gh sto w v d) : RepD S gh sto w v d := by
  cases d <;> first | exact h.elim | exact h
theorem RepV.toD {v : Value} {x : V} (h : RepV S w v x) : RepD S gh sto w v (.v x) := h
theorem ofVal1_rep (v : Value) : RepC S gh sto w v (ofVal1 v) := by
  unfold ofVal1
  split
  · exact RepV.bool _
  · exact RepV.int _ _
  · exact RepV.str _
  · rfl
  · rfl
  · rfl
  · rfl
  · exact True.intro
theorem ofVal_rep (v : Value) : RepD S gh sto w v (ofVal v) := by
  unfold ofVal
  split
  · rename_i cs
    split
    · rename_i h
      refine ⟨cs.toList, rfl, by simp, fun j u d hu hd => ⟨?_, ?_⟩⟩
      · rw [List.all_eq_true] at h
        exact h u (List.mem_of_getElem? hu)
      · rw [List.getElem?_map, hu] at hd
        simp only [Option.map_some, Option.some.injEq] at hd
        rw [← hd]; exact ofVal1_rep u
    · exact True.intro
  · exact (ofVal1_rep _).toD
theorem globAt_mem {g : Nat} {cs : List V} : ∀ {l : List (Nat × List V)}, globAt g l = some cs → (g, cs) ∈ l
  | [], h => by simp [globAt] at h
  | (k, x) :: l, h => by
    unfold globAt at h
    split at h
    · rename_i e
      simp only [Option.some.injEq] at h
      subst e; subst h; simp
    · exact List.mem_cons_of_mem _ (globAt_mem h)
theorem opd_rep {a : Act} {env : List D} (hgl : GlobOK S w) (hs : a.tmps.toList.length = env.length) (he : ∀ (t : Nat) (v : Value) (d : D), a.tmps.toList[t]? = some v → env[t]? = some d → RepD S gh sto w v d) (x : Operand) : RepD S gh sto w (a.eval x) (opd env x) := by
  cases x with
  | tmp t =>
    simp only [Act.eval, opd]
    rw [Array.getD_eq_getD_getElem?, ← Array.getElem?_toList]
    cases h1 : a.tmps.toList[t]? with
    | none =>
      have h2 : env[t]? = none := by rw [List.getElem?_eq_none_iff] at h1 ⊢; omega
      rw [h2]; exact rfl
    | some v =>
      have hlt := (List.getElem?_eq_some_iff.1 h1).1
      have h2 : env[t]? = some (env[t]'(by omega)) := List.getElem?_eq_getElem (by omega)
      rw [h2]
      exact he t v _ h1 h2
  | const v => exact ofVal_rep v
  | global g =>
    simp only [opd]
    split
    · rename_i cs hg
      obtain ⟨us, h1, h2⟩ := hgl g cs (globAt_mem hg)
      exact ⟨g, 0, us, rfl, fun j hj => by rw [Nat.zero_add]; exact h1 j hj, h2⟩
    · exact True.intro
  | func f => exact ⟨[], rfl, rfl, fun j id h => by simp at h⟩
theorem cell_heap {g : Nat} {cur : Array Value} {ty : TypeId} {fr : Nat × Nat} (h : w.heap[g]? = some (.cells cur ty fr)) (o : Nat) : w.cell? ⟨g, o, none⟩ = cur.toList[o]? := by
  simp [World.cell?, h]
theorem viewC_rep (hs : SR S gh w sto) {v : Value} {d : D} {x : V} (h : RepC S gh sto w v d) (hv : viewC sto d = some x) : RepV S w v x := by
  cases d with
  | v y => simp only [viewC, Option.some.injEq] at hv; subst hv; exact h
  | nilS =>
    simp only [viewC, Option.some.injEq] at hv
    subst hv
    have h' : v = .slice none 0 0 := h
    subst h'
    exact .sl0 none 0 0 (Nat.le_refl _) (Nat.zero_le _) fun _ => rfl
  | emp =>
    simp only [viewC, Option.some.injEq] at hv
    subst hv
    obtain ⟨a, rfl⟩ : ∃ a, v = .slice (some a) 0 0 := h
    exact .sl0 (some a) 0 0 (Nat.le_refl _) (Nat.zero_le _) fun _ => rfl
  | arr id n =>
    simp only [viewC] at hv
    split at hv
    · rename_i es m cs he
      split at hv
      · rename_i hm
        subst hm
        simp only [Option.some.injEq] at hv
        subst hv
        obtain ⟨_, _, h3⟩ := h
        have hg := (h3 es false m cs he).2 rfl
        obtain ⟨gv, hg', hE⟩ := hs.ent id _ he
        rw [hg] at hg'
        cases hg'
        cases es with
        | none =>
          obtain ⟨rfl, rfl, rfl⟩ := hE
          exact .sl0 none 0 0 (Nat.le_refl _) (Nat.zero_le _) fun _ => rfl
        | some es =>
          obtain ⟨e, s⟩ := es
          obtain ⟨g, cap, cur, rfl, hh, h1, h2, h4, h5, h6, h7⟩ := hE
          simp only [Bool.false_eq_true, if_false] at h7
          have hlen : cs.length ≤ cur.toList.length := by
            have h8 : m * s ≤ cap * s := Nat.mul_le_mul_right _ h1
            have h9 : cur.toList.length = cur.size := Array.length_toList
            omega
          refine .sl g 0 m cap (fun j => (cur.toList[j]?).getD undef) cs h1 h2 (fun j hj => ?_) (fun j c hc => ?_)
          · have hu : cur.toList[j]? = some (cur.toList[j]'(by omega)) := List.getElem?_eq_getElem (by omega)
            have hc : cs[j]? = some cs[j] := List.getElem?_eq_getElem hj
            refine ⟨(h7 (0 + j)).2 (by omega), ?_, ?_⟩
            · rw [hu]; exact (h6 j _ _ hu hc).1
            · rw [Nat.zero_add, cell_heap hh, hu]; rfl
          · have hj := (List.getElem?_eq_some_iff.1 hc).1
            have hu : cur.toList[j]? = some (cur.toList[j]'(by omega)) := List.getElem?_eq_getElem (by omega)
            simp only [hu, Option.getD_some]
            exact (h6 j _ _ hu hc).2
      · cases hv
    · cases hv
  | clo f caps =>
    simp only [viewC] at hv
    split at hv
    · simp only [Option.some.injEq] at hv
      subst hv
      obtain ⟨vs, rfl, h1, _⟩ := h
      have : vs = [] := List.length_eq_zero_iff.1 h1
      subst this
      exact RepV.fn f
    · cases hv
  | _ => simp only [viewC] at hv; cases hv
theorem viewL_rep (hs : SR S gh w sto) : ∀ (us : List Value) (ds : List D) (xs : List V), us.length = ds.length → (∀ (j : Nat) (u : Value) (d : D), us[j]? = some u → ds[j]? = some d → RepC S gh sto w u d) → viewL sto ds = some xs → us.length = xs.length ∧ ∀ (j : Nat) (u : Value) (x : V), us[j]? = some u → xs[j]? = some x → RepV S w u x
  | [], [], xs, _, _, h => by simp only [viewL, Option.some.injEq] at h; subst h; exact ⟨rfl, fun j u x hu => by simp at hu⟩
  | [], _ :: _, _, h, _, _ => by simp at h
  | _ :: _, [], _, h, _, _ => by simp at h
  | u :: us, d :: ds, xs, hl, hr, h => by
    simp only [viewL] at h
    split at h
    · rename_i x xs' h1 h2
      simp only [Option.some.injEq] at h
      subst h
      obtain ⟨l1, l2⟩ := viewL_rep hs us ds xs' (by simpa using hl) (fun j u d hu hd => hr (j + 1) u d (by simpa using hu) (by simpa using hd)) h2
      refine ⟨by simp [l1], fun j u' x' hu hx => ?_⟩
      cases j with
      | zero =>
        simp only [List.getElem?_cons_zero, Option.some.injEq] at hu hx
        subst hu; subst hx
        exact viewC_rep hs (hr 0 u d rfl rfl) h1
      | succ j => exact l2 j u' x' (by simpa using hu) (by simpa using hx)
    · cases h
theorem view_rep (hs : SR S gh w sto) {v : Value} {d : D} {x : V} (h : RepD S gh sto w v d) (hv : view sto d = some x) : RepV S w v x := by
  cases d with
  | agg ds =>
    obtain ⟨us, rfl, h1, h2⟩ := h
    simp only [view] at hv
    cases hl : viewL sto ds with
    | none => rw [hl] at hv; cases hv
    | some xs =>
      rw [hl] at hv
      simp only [Option.map_some, Option.some.injEq] at hv
      subst hv
      obtain ⟨l1, l2⟩ := viewL_rep hs us ds xs h1 (fun j u d hu hd => (h2 j u d hu hd).2) hl
      refine .agg us xs l1 (fun u hu => ?_) l2
      obtain ⟨j, hj⟩ := List.mem_iff_getElem?.1 hu
      have hlt := (List.getElem?_eq_some_iff.1 hj).1
      exact (h2 j u _ hj (List.getElem?_eq_getElem (by omega))).1
  | tupD ds => simp [view, viewC] at hv
  | _ => simp only [view] at hv; simp only [RepD] at h; exact viewC_rep hs h hv
/-- What an entry's cells are. -/
theorem arr_win (hs : SR S gh w sto) {id n o : Nat} {v : Value} {es : Option (TypeId × Nat)} {wr : Bool} {cs : List V} (h : RepC S gh sto w v (.aptr id n o)) (he : sto[id]? = some (.arr es wr n cs)) : ∃ (g : Nat) (us : List Value), v = .pointer (some ⟨g, 0 + o, none⟩) ∧ (∀ (j : Nat) (u : Value), us[j]? = some u → w.cell? ⟨g, 0 + j, none⟩ = some u) ∧ cs.length ≤ us.length ∧ ∀ (j : Nat) (u : Value) (c : V), us[j]? = some u → cs[j]? = some c → u.oneCell' = true ∧ RepV S w u c := by
  obtain ⟨_, _, h3⟩ := h
  obtain ⟨g, hg, rfl⟩ := (h3 es wr n cs he).2 rfl
  obtain ⟨gv, hgv, hE⟩ := hs.ent id _ he
  unfold blkAt at hg
  rw [hgv] at hg
  cases es with
  | none => obtain ⟨rfl, _, _⟩ := hE; simp [blk] at hg
  | some es =>
    obtain ⟨e, s⟩ := es
    obtain ⟨g', cap, cur, rfl, hh, h1, h2, h4, h5, h6, h7⟩ := hE
    simp only [Option.bind_some, blk, Option.some.injEq] at hg
    subst hg
    refine ⟨g', cur.toList, by rw [Nat.zero_add], fun j u hu => ?_, ?_, h6⟩
    · rw [Nat.zero_add, cell_heap hh]; exact hu
    · have h8 : n * s ≤ cap * s := Nat.mul_le_mul_right _ h1
      have h9 : cur.toList.length = cur.size := Array.length_toList
      omega
include hT
theorem tab_info {t : TypeId} {i : TyI} (h : T t = some i) : ∃ x, P.info? t = some x ∧ x.zero = some i.zero ∧ x.size = i.size ∧ x.bytes = i.bytes := by
  obtain ⟨h1, _⟩ := hT t i h
  cases hx : P.info? t with
  | none => rw [hx] at h1; cases h1
  | some x => rw [hx] at h1; simp only [Option.map_some, Option.some.injEq, Prod.mk.injEq] at h1; exact ⟨x, rfl, h1.1, h1.2.1, h1.2.2⟩
theorem tab_kind {t : TypeId} {i : TyI} (h : T t = some i) : ∃ d, P.underlying t = some d ∧ kindOf d = i.kind := by
  obtain ⟨_, h1, _⟩ := hT t i h
  cases hx : P.underlying t with
  | none => rw [hx] at h1; cases h1
  | some x => rw [hx] at h1; simp only [Option.map_some, Option.some.injEq] at h1; exact ⟨x, rfl, h1⟩
theorem run_size {t : TypeId} {i : TyI} (h : T t = some i) : (sizeOf t).run P w = .ok i.size w := by
  obtain ⟨x, h1, _, h2, _⟩ := tab_info hT h
  simp [sizeOf, typeInfo, h1, h2]
theorem run_bytes {t : TypeId} {i : TyI} (h : T t = some i) : ∃ x, (typeInfo t).run P w = .ok x w ∧ x.bytes = i.bytes ∧ x.size = i.size ∧ x.zero = some i.zero := by
  obtain ⟨x, h1, h3, h2, h4⟩ := tab_info hT h
  exact ⟨x, by simp [typeInfo, h1], h4, h2, h3⟩
theorem run_zero {t : TypeId} {i : TyI} (h : T t = some i) : (zeroValue t).run P w = .ok i.zero w := by
  obtain ⟨x, h1, h2, _⟩ := tab_info hT h
  simp [zeroValue, typeInfo, h1, h2]
theorem run_agg {t : TypeId} {i : TyI} (h : T t = some i) : (isAgg t).run P w = .ok i.kind.agg w := by
  obtain ⟨d, h1, h2⟩ := tab_kind hT h
  rw [← h2]
  simp only [isAgg, Sem.run_bind, run_underlying h1, Result.andThen_ok]
  cases d <;> rfl
theorem kd_slice {t e : TypeId} (h : kd T t = some (.slice e)) : P.underlying t = some (.slice e) := by
  unfold kd at h
  split at h
  · rename_i i hi
    simp only [Option.some.injEq] at h
    obtain ⟨d, h1, h2⟩ := tab_kind hT hi
    rw [h] at h2
    cases d <;> simp only [kindOf] at h2 <;> first | cases h2 | skip
    exact h1
  · cases h
theorem kd_array {t e : TypeId} {n : Nat} (h : kd T t = some (.array n e)) : P.underlying t = some (.array n e) := by
  unfold kd at h
  split at h
  · rename_i i hi
    simp only [Option.some.injEq] at h
    obtain ⟨d, h1, h2⟩ := tab_kind hT hi
    rw [h] at h2
    cases d <;> simp only [kindOf] at h2 <;> first | cases h2 | skip
    exact h1
  · cases h
theorem kd_map {t k e : TypeId} (h : kd T t = some (.map k e)) : P.underlying t = some (.map k e) := by
  unfold kd at h
  split at h
  · rename_i i hi
    simp only [Option.some.injEq] at h
    obtain ⟨d, h1, h2⟩ := tab_kind hT hi
    rw [h] at h2
    cases d <;> simp only [kindOf] at h2 <;> first | cases h2 | skip
    exact h1
  · cases h
theorem kd_int {t : TypeId} {k : IntKind} (h : kd T t = some (.int k)) : P.underlying t = some (.int k) := by
  unfold kd at h
  split at h
  · rename_i i hi
    simp only [Option.some.injEq] at h
    obtain ⟨d, h1, h2⟩ := tab_kind hT hi
    rw [h] at h2
    cases d <;> simp only [kindOf] at h2 <;> first | cases h2 | skip
    exact h1
  · cases h
theorem kd_str {t : TypeId} (h : kd T t = some .str) : P.underlying t = some .string := by
  unfold kd at h
  split at h
  · rename_i i hi
    simp only [Option.some.injEq] at h
    obtain ⟨d, h1, h2⟩ := tab_kind hT hi
    rw [h] at h2
    cases d <;> simp only [kindOf] at h2 <;> first | cases h2 | skip
    exact h1
  · cases h
theorem kd_bool {t : TypeId} (h : kd T t = some .bool) : P.underlying t = some .bool := by
  unfold kd at h
  split at h
  · rename_i i hi
    simp only [Option.some.injEq] at h
    obtain ⟨d, h1, h2⟩ := tab_kind hT hi
    rw [h] at h2
    cases d <;> simp only [kindOf] at h2 <;> first | cases h2 | skip
    exact h1
  · cases h
theorem kd_struct {t : TypeId} {fs : List (Nat × TypeId)} (h : kd T t = some (.struct fs)) : ∃ l : Array Field, P.underlying t = some (.struct l) ∧ ∀ (f off : Nat) (ft : TypeId), fs[f]? = some (off, ft) → ∃ fl : Field, l[f]? = some fl ∧ fl.offset = off ∧ fl.type = ft := by
  unfold kd at h
  split at h
  · rename_i i hi
    simp only [Option.some.injEq] at h
    obtain ⟨d, h1, h2⟩ := tab_kind hT hi
    rw [h] at h2
    cases d <;> simp only [kindOf] at h2 <;> first | cases h2 | skip
    rename_i l
    refine ⟨l, h1, fun f off ft hf => ?_⟩
    rw [List.getElem?_map] at hf
    cases hx : l.toList[f]? with
    | none => rw [hx] at hf; cases hf
    | some fl =>
      rw [hx] at hf
      simp only [Option.map_some, Option.some.injEq, Prod.mk.injEq] at hf
      exact ⟨fl, by rw [← Array.getElem?_toList]; exact hx, hf.1, hf.2⟩
  · cases h
/-- Loads out of a window of cells. -/
theorem run_loadWin {t : TypeId} {i : TyI} (hi : T t = some i) {b off : Nat} {us : List Value} (hw : ∀ (j : Nat) (u : Value), us[j]? = some u → w.cell? ⟨b, off + j, none⟩ = some u) (o : Nat) :
    (i.kind.agg = true → o + i.size ≤ us.length → (loadVar t ⟨b, off + o, none⟩).run P w = .ok (.agg ((us.drop o).take i.size).toArray) w) ∧
    (i.kind.agg = false → ∀ u, us[o]? = some u → (loadVar t ⟨b, off + o, none⟩).run P w = .ok u w) := by
  constructor
  · intro ha hl
    have hll : ((us.drop o).take i.size).length = i.size := by simp; omega
    have hc : ∀ j v, ((us.drop o).take i.size)[j]? = some v → w.cell? ((⟨b, off + o, none⟩ : Addr).add j) = some v := by
      intro j v hv
      have hj := (List.getElem?_eq_some_iff.1 hv).1
      rw [List.getElem?_take_of_lt (by omega), List.getElem?_drop] at hv
      rw [Addr.add_lit]
      have := hw (o + j) v hv
      rwa [← Nat.add_assoc] at this
    have := run_loadCells_list (P := P) (w := w) ⟨b, off + o, none⟩ ((us.drop o).take i.size) hc
    rw [hll] at this
    simp only [loadVar, Sem.run_bind, run_agg hT hi, Result.andThen_ok, ha, if_true, run_size hT hi, this, Sem.run_pure]
  · intro ha u hu
    simp only [loadVar, Sem.run_bind, run_agg hT hi, Result.andThen_ok, ha, Bool.false_eq_true, if_false]
    rw [run_load, hw o u hu]
theorem pickV_sound {t : TypeId} {i : TyI} (hi : T t = some i) {b off : Nat} {us : List Value} {cs : List V} (hw : ∀ (j : Nat) (u : Value), us[j]? = some u → w.cell? ⟨b, off + j, none⟩ = some u) (hl : cs.length ≤ us.length)
    (hr : ∀ (j : Nat) (u : Value) (c : V), us[j]? = some u → cs[j]? = some c → u.oneCell' = true ∧ RepV S w u c) {o : Nat} {x : V} (h : pickV i cs o = some x) : ∃ v, (loadVar t ⟨b, off + o, none⟩).run P w = .ok v w ∧ RepV S w v x := by
  obtain ⟨h1, h2⟩ := run_loadWin hT hi hw o
  unfold pickV at h
  split at h
  · rename_i ha
    split at h
    · rename_i hle
      simp only [Option.some.injEq] at h
      subst h
      refine ⟨_, h1 ha (by omega), .agg _ _ (by simp; omega) (fun u hu => ?_) (fun j u c hu hc => ?_)⟩
      · obtain ⟨j, hj⟩ := List.mem_iff_getElem?.1 hu
        have hjl := (List.getElem?_eq_some_iff.1 hj).1
        simp only [List.length_take, List.length_drop] at hjl
        rw [List.getElem?_take_of_lt (by omega), List.getElem?_drop] at hj
        exact (hr (o + j) u _ hj (List.getElem?_eq_getElem (by omega))).1
      · have hjl := (List.getElem?_eq_some_iff.1 hu).1
        simp only [List.length_take, List.length_drop] at hjl
        rw [List.getElem?_take_of_lt (by omega), List.getElem?_drop] at hu hc
        exact (hr (o + j) u c hu hc).2
    · cases h
  · rename_i ha
    have hlt := (List.getElem?_eq_some_iff.1 h).1
    have hu : us[o]? = some (us[o]'(by omega)) := List.getElem?_eq_getElem (by omega)
    exact ⟨_, h2 (by simpa using ha) _ hu, (hr o _ _ hu h).2⟩
theorem pick_sound {t : TypeId} {i : TyI} (hi : T t = some i) {b off : Nat} {us : List Value} {ds : List D} (hw : ∀ (j : Nat) (u : Value), us[j]? = some u → w.cell? ⟨b, off + j, none⟩ = some u) (hl : ds.length ≤ us.length)
    (hr : ∀ (j : Nat) (u : Value) (c : D), us[j]? = some u → ds[j]? = some c → u.oneCell' = true ∧ RepC S gh sto w u c) {o : Nat} {x : D} (h : pick i ds o = some x) : ∃ v, (loadVar t ⟨b, off + o, none⟩).run P w = .ok v w ∧ RepD S gh sto w v x := by
  obtain ⟨h1, h2⟩ := run_loadWin hT hi hw o
  unfold pick at h
  split at h
  · rename_i ha
    split at h
    · rename_i hle
      simp only [Option.some.injEq] at h
      subst h
      refine ⟨_, h1 ha (by omega), _, rfl, by simp; omega, fun j u c hu hc => ?_⟩
      have hjl := (List.getElem?_eq_some_iff.1 hu).1
      simp only [List.length_take, List.length_drop] at hjl
      rw [List.getElem?_take_of_lt (by omega), List.getElem?_drop] at hu hc
      exact hr (o + j) u c hu hc
    · cases h
  · rename_i ha
    have hlt := (List.getElem?_eq_some_iff.1 h).1
    have hu : us[o]? = some (us[o]'(by omega)) := List.getElem?_eq_getElem (by omega)
    exact ⟨_, h2 (by simpa using ha) _ hu, (hr o _ _ hu h).2.toD⟩
theorem evLoad_sound (hs : SR S gh w sto) {t : TypeId} {p d : D} {v : Value} (h : RepC S gh sto w v p) (he : evLoad T sto t p = some d) : ∃ u, (Instr.loadAt t v).run P w = .ok u w ∧ RepD S gh sto w u d := by
  unfold evLoad at he
  split at he
  · cases he
  · rename_i i hi
    split at he
    · rename_i id off
      split at he
      · rename_i ds hds
        obtain ⟨_, g, hg, rfl⟩ := h
        obtain ⟨gv, hgv, hE⟩ := hs.ent id _ hds
        rw [hg] at hgv
        cases hgv
        obtain ⟨g', cur, ty, hx, hh, hl, _, hr⟩ := hE
        cases hx
        obtain ⟨u, h1, h2⟩ := pick_sound hT hi (b := g) (off := 0) (us := cur.toList) (fun j u hu => by rw [Nat.zero_add, cell_heap hh]; exact hu) (by omega) hr he
        rw [Nat.zero_add] at h1
        exact ⟨u, by simp only [Instr.loadAt, Sem.run_bind, Instr.sureAddr, Sem.run_pure, Result.andThen_ok, h1], h2⟩
      · cases he
    · rename_i id n o
      split at he
      · rename_i es wr m cs hcs
        split at he
        · rename_i hm
          subst hm
          obtain ⟨g, us, rfl, hw, hl, hr⟩ := arr_win hs h hcs
          cases hp : pickV i cs o with
          | none => rw [hp] at he; cases he
          | some x =>
            rw [hp] at he
            simp only [Option.map_some, Option.some.injEq] at he
            subst he
            obtain ⟨u, h1, h2⟩ := pickV_sound hT hi hw hl hr hp
            exact ⟨u, by simp only [Instr.loadAt, Sem.run_bind, Instr.sureAddr, Sem.run_pure, Result.andThen_ok, h1], h2⟩
        · cases he
      · cases he
    · rename_i cs o
      obtain ⟨b, off, us, rfl, hw, hr⟩ := h
      cases hp : pickV i cs o with
      | none => rw [hp] at he; cases he
      | some x =>
        rw [hp] at he
        simp only [Option.map_some, Option.some.injEq] at he
        subst he
        have hmap : ∀ (j : Nat) (u : Value), ((List.range cs.length).map us)[j]? = some u → j < cs.length ∧ us j = u := by
          intro j u hu
          have hj : j < cs.length := by simpa using (List.getElem?_eq_some_iff.1 hu).1
          rw [List.getElem?_map, List.getElem?_range hj] at hu
          simpa [hj] using hu
        obtain ⟨u, h1, h2⟩ := pickV_sound hT hi (b := b) (off := off) (us := (List.range cs.length).map us) (fun j u hu => by
          obtain ⟨hj, rfl⟩ := hmap j u hu
          exact (hw j hj).2.2) (by simp) (fun j u c hu hc => by
          obtain ⟨hj, rfl⟩ := hmap j u hu
          exact ⟨(hw j hj).2.1, hr j c hc⟩) hp
        exact ⟨u, by simp only [Instr.loadAt, Sem.run_bind, Instr.sureAddr, Sem.run_pure, Result.andThen_ok, h1], h2⟩
    · cases he
end
end Go.Proofs.Ytghdanpigohnjaa
namespace Go.Proofs.Ytghdanpigohnjaa
open Go Go.RowKit

/-- Element by element. -/
def Pw {α β : Type} (R : α → β → Prop) (us : List α) (ds : List β) : Prop := us.length = ds.length ∧ ∀ (j : Nat) (u : α) (d : β), us[j]? = some u → ds[j]? = some d → R u d
section
variable {α β : Type} {R : α → β → Prop}
theorem Pw.nil : Pw R [] [] := ⟨rfl, fun j u d h => by simp at h⟩
theorem Pw.cons {u : α} {d : β} {us : List α} {ds : List β} (h : R u d) (k : Pw R us ds) : Pw R (u :: us) (d :: ds) := by
  refine ⟨by simp [k.1], fun j u' d' hu hd => ?_⟩
  cases j with
  | zero => simp only [List.getElem?_cons_zero, Option.some.injEq] at hu hd; subst hu; subst hd; exact h
  | succ j => exact k.2 j u' d' (by simpa using hu) (by simpa using hd)
theorem Pw.append {us vs : List α} {ds es : List β} (h : Pw R us ds) (k : Pw R vs es) : Pw R (us ++ vs) (ds ++ es) := by
  refine ⟨by simp [h.1, k.1], fun j u d hu hd => ?_⟩
  by_cases hj : j < us.length
  · rw [List.getElem?_append_left hj] at hu
    rw [List.getElem?_append_left (by rw [← h.1]; exact hj)] at hd
    exact h.2 j u d hu hd
  · rw [List.getElem?_append_right (by omega)] at hu
    rw [List.getElem?_append_right (by rw [← h.1]; omega), ← h.1] at hd
    exact k.2 _ u d hu hd
theorem Pw.take {us : List α} {ds : List β} (h : Pw R us ds) (n : Nat) : Pw R (us.take n) (ds.take n) := by
  refine ⟨by simp [h.1], fun j u d hu hd => ?_⟩
  have hj : j < n := by have := (List.getElem?_eq_some_iff.1 hu).1; simp at this; omega
  rw [List.getElem?_take_of_lt hj] at hu hd
  exact h.2 j u d hu hd
theorem Pw.drop {us : List α} {ds : List β} (h : Pw R us ds) (n : Nat) : Pw R (us.drop n) (ds.drop n) := by
  refine ⟨by simp [h.1], fun j u d hu hd => ?_⟩
  rw [List.getElem?_drop] at hu hd
  exact h.2 _ u d hu hd
theorem Pw.imp {R' : α → β → Prop} {us : List α} {ds : List β} (h : Pw R us ds) (hi : ∀ u d, R u d → R' u d) : Pw R' us ds := ⟨h.1, fun j u d hu hd => hi u d (h.2 j u d hu hd)⟩
end
section
variable {P : Program} {T : Tab} {S : Stay} {gh : List Value} {sto : Sto} {w : World}
theorem RepV.one {v : Value} {x : V} (h : RepV S w v x) (hx : (match x with | .agg _ => false | .tup _ => false | _ => true) = true) : v.oneCell' = true := by
  cases h <;> first | rfl | cases hx
theorem RepD.cells {v : Value} {d : D} {ds : List D} (h : RepD S gh sto w v d) (hd : d.cells = some ds) : Pw (fun u d => u.oneCell' = true ∧ RepC S gh sto w u d) v.cells.toList ds := by
  have single : RepC S gh sto w v d → v.oneCell' = true → Pw (fun u d => u.oneCell' = true ∧ RepC S gh sto w u d) v.cells.toList [d] := by
    intro h1 h2
    have : v.cells = #[v] := by cases v <;> first | rfl | cases h2
    rw [this]
    exact Pw.cons ⟨h2, h1⟩ Pw.nil
  cases d with
  | agg ds' =>
    simp only [D.cells, Option.some.injEq] at hd
    subst hd
    obtain ⟨us, rfl, h1, h2⟩ := h
    exact ⟨h1, h2⟩
  | v x =>
    cases x with
    | agg cs =>
      simp only [D.cells, Option.some.injEq] at hd
      subst hd
      have h' : RepV S w v (.agg cs) := h
      cases h' with
      | agg us cs h1 h2 h3 =>
        refine ⟨by simp [Value.cells, h1], fun j u d hu hd => ?_⟩
        have hu' : us[j]? = some u := by simpa [Value.cells] using hu
        rw [List.getElem?_map] at hd
        cases hc : cs[j]? with
        | none => rw [hc] at hd; cases hd
        | some c =>
          rw [hc] at hd
          simp only [Option.map_some, Option.some.injEq] at hd
          subst hd
          exact ⟨h2 u (List.mem_of_getElem? hu'), h3 j u c hu' hc⟩
    | tup cs => simp only [D.cells] at hd; cases hd
    | _ => simp only [D.cells, Option.some.injEq] at hd; subst hd; exact single h (RepV.one h rfl)
  | undef => simp only [D.cells] at hd; cases hd
  | tupD ds => simp only [D.cells] at hd; cases hd
  | dead => simp only [D.cells] at hd; cases hd
  | nilS => simp only [D.cells, Option.some.injEq] at hd; subst hd; exact single h (by have h' : v = .slice none 0 0 := h; subst h'; rfl)
  | emp => simp only [D.cells, Option.some.injEq] at hd; subst hd; exact single h (by obtain ⟨a, rfl⟩ : ∃ a, v = .slice (some a) 0 0 := h; rfl)
  | arr id n => simp only [D.cells, Option.some.injEq] at hd; subst hd; exact single h (by obtain ⟨_, ⟨a, c, rfl⟩, _⟩ := h; rfl)
  | aptr id n o => simp only [D.cells, Option.some.injEq] at hd; subst hd; exact single h (by obtain ⟨_, ⟨a, rfl⟩, _⟩ := h; rfl)
  | ptr id o => simp only [D.cells, Option.some.injEq] at hd; subst hd; exact single h (by obtain ⟨_, g, _, rfl⟩ := h; rfl)
  | vp cs o => simp only [D.cells, Option.some.injEq] at hd; subst hd; exact single h (by obtain ⟨b, off, us, rfl, _⟩ := h; rfl)
  | nilp => simp only [D.cells, Option.some.injEq] at hd; subst hd; exact single h (by have h' : v = .pointer none := h; subst h'; rfl)
  | clo f caps => simp only [D.cells, Option.some.injEq] at hd; subst hd; exact single h (by obtain ⟨vs, rfl, _⟩ := h; rfl)
  | nilf => simp only [D.cells, Option.some.injEq] at hd; subst hd; exact single h (by have h' : v = .nilFunc := h; subst h'; rfl)
  | win id n o m => simp only [D.cells, Option.some.injEq] at hd; subst hd; exact single h (by obtain ⟨_, ⟨a, c, rfl⟩, _⟩ := h; rfl)
  | map id => simp only [D.cells, Option.some.injEq] at hd; subst hd; exact single h (by obtain ⟨_, g, _, rfl⟩ := h; rfl)
  | nilM => simp only [D.cells, Option.some.injEq] at hd; subst hd; exact single h (by have h' : v = .map none := h; subst h'; rfl)
  | bwin id o m => simp only [D.cells, Option.some.injEq] at hd; subst hd; exact single h (by obtain ⟨_, g, c, _, rfl, _⟩ := h; rfl)
theorem fold_set (off : Nat) : ∀ (vs : List Value) (k : Nat) (arr : Array Value), off + k + vs.length ≤ arr.size → ((vs.zipIdx k).foldl (fun cs (c, j) => cs.setIfInBounds (off + j) c) arr).toList = arr.toList.take (off + k) ++ vs ++ arr.toList.drop (off + k + vs.length)
  | [], k, arr, _ => by simp
  | v :: vs, k, arr, h => by
    simp only [List.length_cons] at h
    rw [List.zipIdx_cons, List.foldl_cons, fold_set off vs (k + 1) _ (by simp; omega)]
    have hk : off + k < arr.toList.length := by rw [Array.length_toList]; omega
    simp only [Array.toList_setIfInBounds]
    rw [show off + (k + 1) = (off + k) + 1 from by omega, List.take_succ_eq_append_getElem (by simpa using hk), List.getElem_set_self, List.take_set_of_le (by omega), List.drop_set_of_lt (by omega)]
    simp only [List.append_assoc, List.cons_append, List.nil_append, List.length_cons]
    rw [show off + k + 1 + vs.length = off + k + (vs.length + 1) from by omega]
theorem fill_sound (place : Nat → Option (Nat × Nat)) : ∀ (parts : List (Nat × D)) (vparts : List (Nat × Value)) (cs : List D) (arr : Array Value) (out : List D), Pw (fun (u : Nat × Value) (d : Nat × D) => u.1 = d.1 ∧ RepD S gh sto w u.2 d.2) vparts parts → Pw (fun u d => u.oneCell' = true ∧ RepC S gh sto w u d) arr.toList cs → fillD place cs parts = some out → ∃ arr', Instr.fill place arr vparts = some arr' ∧ Pw (fun u d => u.oneCell' = true ∧ RepC S gh sto w u d) arr'.toList out
  | [], [], cs, arr, out, _, h, hf => by simp only [fillD, Option.some.injEq] at hf; subst hf; exact ⟨arr, rfl, h⟩
  | [], _ :: _, _, _, _, h, _, _ => by have := h.1; simp at this
  | _ :: _, [], _, _, _, h, _, _ => by have := h.1; simp at this
  | (i, d) :: parts, (i', v) :: vparts, cs, arr, out, hp, h, hf => by
    obtain ⟨hi, hv⟩ := hp.2 0 _ _ rfl rfl
    simp only at hi hv
    subst hi
    have hp' : Pw (fun (u : Nat × Value) (d : Nat × D) => u.1 = d.1 ∧ RepD S gh sto w u.2 d.2) vparts parts := by
      have := hp.drop 1; simpa using this
    simp only [fillD] at hf
    split at hf
    · rename_i off size ds h1 h2
      split at hf
      · rename_i hc
        have hcl := RepD.cells hv h2
        have hsz : v.cells.size = size := by rw [← Array.length_toList, hcl.1]; exact hc.1
        have harr : arr.size = cs.length := by rw [← Array.length_toList]; exact h.1
        have hfold := fold_set off v.cells.toList 0 arr (by simp; omega)
        have key : (v.cells.zipIdx.foldl (fun cs (c, j) => cs.setIfInBounds (off + j) c) arr).toList = arr.toList.take off ++ v.cells.toList ++ arr.toList.drop (off + size) := by
          rw [← Array.foldl_toList, Array.toList_zipIdx, hfold]
          simp [hsz]
        obtain ⟨arr', e1, e2⟩ := fill_sound place parts vparts _ (v.cells.zipIdx.foldl (fun cs (c, j) => cs.setIfInBounds (off + j) c) arr) out hp' (by rw [key]; exact ((h.take off).append hcl).append (h.drop (off + size))) hf
        refine ⟨arr', ?_, e2⟩
        simp only [Instr.fill, h1]
        rw [if_neg (by simp; omega)]
        exact e1
      · cases hf
    · cases hf
end
end Go.Proofs.Ytghdanpigohnjaa
namespace Go.Proofs.Ytghdanpigohnjaa
open Go Go.RowKit

section
variable {P : Program} {T : Tab} {S : Stay} {gh : List Value} {sto : Sto} {w : World}
theorem addr_add (b o n : Nat) : (⟨b, o, none⟩ : Addr).add n = ⟨b, o + n, none⟩ := Addr.add_lit b o n
theorem ptr_move {id n o k : Nat} {v : Value} (h : RepC S gh sto w v (.aptr id n o)) : ∃ a, v = .pointer (some a) ∧ RepC S gh sto w (.pointer (some (a.add k))) (.aptr id n (o + k)) := by
  obtain ⟨h1, ⟨a, rfl⟩, h2⟩ := h
  refine ⟨a, rfl, h1, ⟨_, rfl⟩, fun es wr m cs hs => ?_⟩
  obtain ⟨h3, h4⟩ := h2 es wr m cs hs
  refine ⟨h3, fun e => ?_⟩
  obtain ⟨g, hg, hv⟩ := h4 e
  simp only [Value.pointer.injEq, Option.some.injEq] at hv
  subst hv
  exact ⟨g, hg, by rw [addr_add]⟩
theorem vp_move {cs : List V} {o k : Nat} {v : Value} (h : RepC S gh sto w v (.vp cs o)) : ∃ a, v = .pointer (some a) ∧ RepC S gh sto w (.pointer (some (a.add k))) (.vp cs (o + k)) := by
  obtain ⟨b, off, us, rfl, h1, h2⟩ := h
  exact ⟨_, rfl, b, off, us, by rw [addr_add, Nat.add_assoc], h1, h2⟩
theorem box_move {id o k : Nat} {v : Value} (h : RepC S gh sto w v (.ptr id o)) : ∃ a, v = .pointer (some a) ∧ RepC S gh sto w (.pointer (some (a.add k))) (.ptr id (o + k)) := by
  obtain ⟨h1, g, h2, rfl⟩ := h
  exact ⟨_, rfl, h1, g, h2, by rw [addr_add]⟩
theorem RepV.parts {v : Value} {cs : List V} (h : RepV S w v (.agg cs)) : ∃ us : List Value, v = .agg us.toArray ∧ Pw (fun u d => u.oneCell' = true ∧ RepV S w u d) us cs := by
  cases h with
  | agg us cs h1 h2 h3 => exact ⟨us, rfl, h1, fun j u c hu hc => ⟨h2 u (List.mem_of_getElem? hu), h3 j u c hu hc⟩⟩
theorem RepV.int_inv {v : Value} {k : IntKind} {n : Int} (h : RepV S w v (.int k n)) : v = .int k n := by cases h; rfl
theorem RepV.bool_inv {v : Value} {b : Bool} (h : RepV S w v (.bool b)) : v = .bool b := by cases h; rfl
theorem RepV.str_inv {v : Value} {s : ByteArray} (h : RepV S w v (.str s)) : v = .string s := by cases h; rfl
/-- A slice that reads as plain data: where its cells lie. -/
theorem RepV.sl_inv {v : Value} {n : Nat} {cs : List V} (h : RepV S w v (.sl n cs)) : ∃ a cap, v = .slice a n cap ∧ n ≤ cap ∧ cap ≤ maxLen ∧ (a = none → cap = 0) ∧ (cs ≠ [] → ∃ (b off : Nat) (us : Nat → Value), a = some ⟨b, off, none⟩ ∧ (∀ j, j < cs.length → S b (off + j) ∧ (us j).oneCell' = true ∧ w.cell? ⟨b, off + j, none⟩ = some (us j)) ∧ ∀ (j : Nat) (c : V), cs[j]? = some c → RepV S w (us j) c) := by
  cases h with
  | sl0 a n cap h hc h0 => exact ⟨a, cap, rfl, h, hc, h0, fun h => absurd rfl h⟩
  | sl b off n cap us cs h hc hu hr => exact ⟨_, cap, rfl, h, hc, (fun h => by cases h), fun _ => ⟨b, off, us, rfl, hu, hr⟩⟩
variable (hT : T.OK P)
include hT
theorem evFieldAddr_sound {t : TypeId} {f : Nat} {p d : D} {v : Value} (h : RepC S gh sto w v p) (he : evFieldAddr T t f p = some d) : ∃ u, (Instr.fieldAt t v f).run P w = .ok u w ∧ RepC S gh sto w u d := by
  unfold evFieldAddr at he
  split at he
  · rename_i fs hk
    split at he
    · rename_i off ft hf
      split at he
      · rename_i i hi
        split at he
        · cases he
        · rename_i hz
          obtain ⟨l, hu, hl⟩ := kd_struct hT hk
          obtain ⟨fl, h1, h2, h3⟩ := hl f off ft hf
          have run : ∀ a, v = .pointer (some a) → (Instr.fieldAt t v f).run P w = .ok (.pointer (some (a.add off))) w := by
            intro a ha
            subst ha
            have hz' : (fieldPlace a fl).run P w = .ok (a.add off) w := by
              simp only [fieldPlace, Sem.run_bind]
              rw [h3, run_size hT hi]
              simp [hz, h2]
            simp only [Instr.fieldAt, Sem.run_bind, run_underlying hu, Result.andThen_ok, h1, Instr.sureAddr, Sem.run_pure, hz']
          split at he
          · simp only [Option.some.injEq] at he
            subst he
            obtain ⟨a, ha, hr⟩ := box_move (k := off) h
            exact ⟨_, run a ha, hr⟩
          · simp only [Option.some.injEq] at he
            subst he
            obtain ⟨a, ha, hr⟩ := ptr_move (k := off) h
            exact ⟨_, run a ha, hr⟩
          · simp only [Option.some.injEq] at he
            subst he
            obtain ⟨a, ha, hr⟩ := vp_move (k := off) h
            exact ⟨_, run a ha, hr⟩
          · cases he
      · cases he
    · cases he
  · cases he
/-- A part of an aggregate. -/
theorem part_sound {t : TypeId} {i : TyI} (hi : T t = some i) {us : List Value} (o : Nat) :
    (i.kind.agg = true → (part t us.toArray o).run P w = .ok (.agg ((us.drop o).take i.size).toArray) w) ∧ (i.kind.agg = false → ∀ u, us[o]? = some u → (part t us.toArray o).run P w = .ok u w) := by
  constructor
  · intro ha
    simp only [part, Sem.run_bind, run_agg hT hi, Result.andThen_ok, ha, if_true, run_size hT hi, Sem.run_pure]
    congr 2
    apply Array.ext'
    simp [List.take_drop]
  · intro ha u hu
    have hu' : us.toArray[o]? = some u := by simpa using hu
    simp only [part, Sem.run_bind, run_agg hT hi, Result.andThen_ok, ha, Bool.false_eq_true, if_false, hu', Sem.run_pure]
theorem partD_sound {t : TypeId} {i : TyI} (hi : T t = some i) {us : List Value} {ds : List D} (hp : Pw (fun u d => u.oneCell' = true ∧ RepC S gh sto w u d) us ds) {o : Nat} {d : D} (h : pick i ds o = some d) : ∃ u, (part t us.toArray o).run P w = .ok u w ∧ RepD S gh sto w u d := by
  obtain ⟨h1, h2⟩ := part_sound (w := w) hT hi (us := us) o
  unfold pick at h
  split at h
  · rename_i ha
    split at h
    · simp only [Option.some.injEq] at h
      subst h
      have := (hp.drop o).take i.size
      exact ⟨_, h1 ha, _, rfl, this.1, this.2⟩
    · cases h
  · rename_i ha
    have hlt := (List.getElem?_eq_some_iff.1 h).1
    have hu : us[o]? = some (us[o]'(by rw [hp.1]; exact hlt)) := List.getElem?_eq_getElem _
    exact ⟨_, h2 (by simpa using ha) _ hu, (hp.2 o _ _ hu h).2.toD⟩
theorem partV_sound {t : TypeId} {i : TyI} (hi : T t = some i) {us : List Value} {cs : List V} (hp : Pw (fun u d => u.oneCell' = true ∧ RepV S w u d) us cs) {o : Nat} {x : V} (h : pickV i cs o = some x) : ∃ u, (part t us.toArray o).run P w = .ok u w ∧ RepV S w u x := by
  obtain ⟨h1, h2⟩ := part_sound (w := w) hT hi (us := us) o
  unfold pickV at h
  split at h
  · rename_i ha
    split at h
    · simp only [Option.some.injEq] at h
      subst h
      have := (hp.drop o).take i.size
      refine ⟨_, h1 ha, .agg _ _ this.1 (fun u hu => ?_) (fun j u c hu hc => (this.2 j u c hu hc).2)⟩
      obtain ⟨j, hj⟩ := List.mem_iff_getElem?.1 hu
      have hlt := (List.getElem?_eq_some_iff.1 hj).1
      exact (this.2 j u _ hj (List.getElem?_eq_getElem (by rw [← this.1]; exact hlt))).1
    · cases h
  · rename_i ha
    have hlt := (List.getElem?_eq_some_iff.1 h).1
    have hu : us[o]? = some (us[o]'(by rw [hp.1]; exact hlt)) := List.getElem?_eq_getElem _
    exact ⟨_, h2 (by simpa using ha) _ hu, (hp.2 o _ _ hu h).2⟩
theorem evField_sound {t : TypeId} {f : Nat} {p d : D} {v : Value} (h : RepD S gh sto w v p) (he : evField T t f p = some d) : ∃ u, (Instr.field t v f).run P w = .ok u w ∧ RepD S gh sto w u d := by
  unfold evField at he
  split at he
  · rename_i fs hk
    split at he
    · rename_i off ft hf
      obtain ⟨l, hu, hl⟩ := kd_struct hT hk
      obtain ⟨fl, h1, h2, h3⟩ := hl f off ft hf
      split at he
      · rename_i i ds hi
        obtain ⟨us, rfl, hp⟩ := h
        obtain ⟨u, e1, e2⟩ := partD_sound hT hi hp he
        exact ⟨u, by simp only [Instr.field, Sem.run_bind, run_underlying hu, Result.andThen_ok, h1, asAgg, Sem.run_pure, h2, h3, e1], e2⟩
      · rename_i i cs hi
        obtain ⟨us, rfl, hp⟩ := RepV.parts h
        cases hq : pickV i cs off with
        | none => rw [hq] at he; cases he
        | some x =>
          rw [hq] at he
          simp only [Option.map_some, Option.some.injEq] at he
          subst he
          obtain ⟨u, e1, e2⟩ := partV_sound hT hi hp hq
          exact ⟨u, by simp only [Instr.field, Sem.run_bind, run_underlying hu, Result.andThen_ok, h1, asAgg, Sem.run_pure, h2, h3, e1], e2⟩
      · cases he
    · cases he
  · cases he
theorem evIndexAddr_sound (hs : SR S gh w sto) {t : TypeId} {p i d : D} {v vi : Value} (h : RepC S gh sto w v p) (hi : RepD S gh sto w vi i) (he : evIndexAddr T sto t p i = some d) : ∃ u, (Instr.indexAt t v vi).run P w = .ok u w ∧ RepC S gh sto w u d := by
  unfold evIndexAddr at he
  split at he
  · rename_i e k n hk
    obtain rfl := RepV.int_inv hi
    have hu := kd_slice hT hk
    split at he
    · cases he
    · rename_i j hj
      split at he
      · rename_i m cs
        split at he
        · rename_i hc
          simp only [Option.some.injEq] at he
          subst he
          obtain ⟨a, cap, rfl, h1, h2, h3, h4⟩ := RepV.sl_inv h
          have hne : cs ≠ [] := by
            intro e0
            have hl := hc.2.2.1
            rw [e0] at hl
            simp only [List.length_nil] at hl
            have : 0 < m * j.size := Nat.mul_pos (by omega) hc.2.2.2
            omega
          obtain ⟨b, off, us, rfl, h5, h6⟩ := h4 hne
          refine ⟨.pointer (some ((⟨b, off, none⟩ : Addr).add (n.toNat * j.size))), ?_, b, off, us, by rw [addr_add], h5, h6⟩
          simp only [Instr.indexAt, asIntOf, Sem.run_bind, Sem.run_pure, run_underlying hu, Result.andThen_ok, hc.1, hc.2.1, and_self, if_true, run_size hT hj]
        · cases he
      · rename_i id m
        split at he
        · rename_i es wr m' cs hes
          split at he
          · rename_i hc
            simp only [Option.some.injEq] at he
            subst he
            obtain ⟨c1, c2, rfl⟩ := hc
            obtain ⟨hid, _, h3⟩ := h
            have hg := (h3 es wr m' cs hes).2 rfl
            obtain ⟨gv, hg', hE⟩ := hs.ent id _ hes
            rw [hg] at hg'
            cases hg'
            cases es with
            | none => obtain ⟨_, rfl, _⟩ := hE; omega
            | some es =>
              obtain ⟨e0, s⟩ := es
              obtain ⟨g, cap, cur, rfl, hh, _⟩ := hE
              refine ⟨.pointer (some ((⟨g, 0, none⟩ : Addr).add (n.toNat * j.size))), ?_, hid, ⟨_, rfl⟩, fun es' wr' m'' cs' hs' => ?_⟩
              · simp only [Instr.indexAt, asIntOf, Sem.run_bind, Sem.run_pure, run_underlying hu, Result.andThen_ok, c1, c2, and_self, if_true, run_size hT hj]
              · rw [hes] at hs'
                cases hs'
                exact ⟨Nat.le_refl _, fun _ => ⟨g, by unfold blkAt; rw [hg]; rfl, by rw [addr_add, Nat.zero_add]⟩⟩
          · cases he
        · cases he
      · rename_i id k0 o m
        split at he
        · rename_i es wr m' cs hes
          split at he
          · rename_i hc
            simp only [Option.some.injEq] at he
            subst he
            obtain ⟨c1, c2, rfl⟩ := hc
            obtain ⟨hid, _, h3⟩ := h
            obtain ⟨g, o', c, hg, rfl, _, _, ho⟩ := (h3 es wr m' cs hes).2 rfl
            obtain rfl := ho (by omega)
            refine ⟨.pointer (some ((⟨g, o', none⟩ : Addr).add (n.toNat * j.size))), ?_, hid, ⟨_, rfl⟩, fun es' wr' m'' cs' hs' => ?_⟩
            · simp only [Instr.indexAt, asIntOf, Sem.run_bind, Sem.run_pure, run_underlying hu, Result.andThen_ok, c1, c2, and_self, if_true, run_size hT hj]
            · rw [hes] at hs'
              cases hs'
              exact ⟨Nat.le_refl _, fun _ => ⟨g, hg, by rw [addr_add]⟩⟩
          · cases he
        · cases he
      · rename_i id o m
        split at he
        · rename_i hc
          simp only [Option.some.injEq] at he
          subst he
          obtain ⟨hid, g, c, hg, rfl, _, _⟩ := h
          refine ⟨.pointer (some ((⟨g, o, none⟩ : Addr).add (n.toNat * j.size))), ?_, hid, g, hg, by rw [addr_add]⟩
          simp only [Instr.indexAt, asIntOf, Sem.run_bind, Sem.run_pure, run_underlying hu, Result.andThen_ok, hc.1, hc.2, and_self, if_true, run_size hT hj]
        · cases he
      · cases he
  · rename_i m e k n hk
    obtain rfl := RepV.int_inv hi
    have hu := kd_array hT hk
    split at he
    · cases he
    · rename_i j hj
      have run : ∀ a, v = .pointer (some a) → 0 ≤ n ∧ n < (m : Int) → (Instr.indexAt t v (.int k n)).run P w = .ok (.pointer (some (a.add (n.toNat * j.size)))) w := by
        intro a ha hc
        subst ha
        simp only [Instr.indexAt, asIntOf, Sem.run_bind, Sem.run_pure, run_underlying hu, Result.andThen_ok, Instr.sureAddr, hc.1, hc.2, and_self, if_true, run_size hT hj]
      split at he
      · split at he
        · rename_i hc
          simp only [Option.some.injEq] at he
          subst he
          obtain ⟨a, ha, hr⟩ := box_move (k := n.toNat * j.size) h
          exact ⟨_, run a ha hc, hr⟩
        · cases he
      · split at he
        · rename_i hc
          simp only [Option.some.injEq] at he
          subst he
          obtain ⟨a, ha, hr⟩ := vp_move (k := n.toNat * j.size) h
          exact ⟨_, run a ha hc, hr⟩
        · cases he
      · split at he
        · rename_i hc
          simp only [Option.some.injEq] at he
          subst he
          obtain ⟨a, ha, hr⟩ := ptr_move (k := n.toNat * j.size) h
          exact ⟨_, run a ha hc, hr⟩
        · cases he
      · cases he
  · cases he
theorem evIndex_sound {t : TypeId} {p i d : D} {v vi : Value} (h : RepD S gh sto w v p) (hi : RepD S gh sto w vi i) (he : evIndex T t p i = some d) : ∃ u, (Instr.index t v vi).run P w = .ok u w ∧ RepD S gh sto w u d := by
  unfold evIndex at he
  split at he
  · rename_i m e k n hk
    obtain rfl := RepV.int_inv hi
    have hu := kd_array hT hk
    split at he
    · cases he
    · rename_i j hj
      split at he
      · rename_i hc
        split at he
        · rename_i ds
          obtain ⟨us, rfl, hp⟩ := h
          obtain ⟨u, e1, e2⟩ := partD_sound hT hj hp he
          exact ⟨u, by simp only [Instr.index, asIntOf, Sem.run_bind, Sem.run_pure, run_underlying hu, Result.andThen_ok, hc.1, hc.2, and_self, if_true, run_size hT hj, e1], e2⟩
        · rename_i cs
          obtain ⟨us, rfl, hp⟩ := RepV.parts h
          cases hq : pickV j cs (n.toNat * j.size) with
          | none => rw [hq] at he; cases he
          | some x =>
            rw [hq] at he
            simp only [Option.map_some, Option.some.injEq] at he
            subst he
            obtain ⟨u, e1, e2⟩ := partV_sound hT hj hp hq
            exact ⟨u, by simp only [Instr.index, asIntOf, Sem.run_bind, Sem.run_pure, run_underlying hu, Result.andThen_ok, hc.1, hc.2, and_self, if_true, run_size hT hj, e1], e2⟩
        · cases he
      · cases he
  · rename_i k n hk
    obtain rfl := RepV.int_inv hi
    have hu := kd_str hT hk
    split at he
    · rename_i s
      obtain rfl := RepV.str_inv h
      split at he
      · rename_i hc
        cases hb : s[n.toNat]? with
        | none => rw [hb] at he; cases he
        | some b =>
          rw [hb] at he
          simp only [Option.map_some, Option.some.injEq] at he
          subst he
          refine ⟨.int .u8 b.toNat, ?_, RepV.int _ _⟩
          simp only [Instr.index, asIntOf, Sem.run_bind, Sem.run_pure, run_underlying hu, Result.andThen_ok, hc, if_true, hb]
      · cases he
    · cases he
  · cases he
end
end Go.Proofs.Ytghdanpigohnjaa
namespace Go.Proofs.Ytghdanpigohnjaa
open Go Go.RowKit

section
variable {P : Program} {S : Stay} {w : World}
theorem part_int {e : TypeId} {k0 : IntKind} (he : P.underlying e = some (.int k0)) {xs : Array Value} {o : Nat} {u : Value} (h : xs[o]? = some u) : (part e xs o).run P w = .ok u w := by
  simp [part, isAgg, run_underlying he, h, Sem.run_bind, Result.andThen_ok]
theorem eqVs_cons {a b : List V} {r : Bool} {k : Nat} {x y : V} (hx : a[k]? = some x) (hy : b[k]? = some y) (h : eqVs (a.drop k) (b.drop k) = some r) : ∃ K m n r', x = .int K m ∧ y = .int K n ∧ eqVs (a.drop (k + 1)) (b.drop (k + 1)) = some r' ∧ r = ((m == n) && r') := by
  have hk := (List.getElem?_eq_some_iff.1 hx)
  have hk' := (List.getElem?_eq_some_iff.1 hy)
  obtain ⟨h1, rfl⟩ := hk
  obtain ⟨h2, rfl⟩ := hk'
  rw [List.drop_eq_getElem_cons h1, List.drop_eq_getElem_cons h2] at h
  unfold eqVs at h
  split at h
  · rename_i q _; cases q
  · rename_i K m a' K' n b' q1 q2
    simp only [List.cons.injEq] at q1 q2
    obtain ⟨q1, rfl⟩ := q1
    obtain ⟨q2, rfl⟩ := q2
    split at h
    · rename_i hK
      subst hK
      simp only [Option.map_eq_some_iff] at h
      obtain ⟨r', h3, rfl⟩ := h
      exact ⟨K, m, n, r', q1, q2, h3, rfl⟩
    · cases h
  · cases h
theorem run_eq_ints (d : Nat) {t e : TypeId} {n : Nat} {k0 : IntKind} (ht : P.underlying t = some (.array n e)) (he : P.underlying e = some (.int k0)) (hs : (sizeOf e).run P w = .ok 1 w) (xs ys : List V) (us vs : List Value) (r : Bool) (hu : Pw (RepV S w) us xs) (hv : Pw (RepV S w) vs ys) (hul : us.length = n) (hvl : vs.length = n) (hr : eqVs xs ys = some r) :
    (Op.equalIn (d + 2) t (.agg us.toArray) (.agg vs.toArray)).run P w = .ok r w := by
  rw [show d + 2 = (d + 1) + 1 from rfl, Op.equalIn]
  simp only [Sem.run_bind, run_underlying ht, Result.andThen_ok, hs]
  rw [Std.Legacy.Range.forIn_eq_forIn_range']
  have hsz : [:n].size = n := by simp [Std.Legacy.Range.size]
  rw [hsz]
  show ((Sem.run P (forIn (List.range' 0 n 1) _ _) w).andThen _) = _
  have key : ∀ (l k : Nat) (r : Bool), k + l = n → eqVs (xs.drop k) (ys.drop k) = some r → Sem.run P (forIn (List.range' k l 1) ((none, ()) : Option Bool × Unit) fun i _ => do
            let a ← part e us.toArray (i * 1)
            let b ← part e vs.toArray (i * 1)
            let c ← Op.equalIn (d + 1) e a b
            if (!c) = true then pure (ForInStep.done (some false, ())) else pure (ForInStep.yield (none, ()))) w = Result.ok (if r then (none, ()) else (some false, ())) w := by
    intro l
    induction l with
    | zero =>
      intro k r hk h
      have e1 : xs.drop k = [] := List.drop_eq_nil_of_le (by rw [← hu.1]; omega)
      have e2 : ys.drop k = [] := List.drop_eq_nil_of_le (by rw [← hv.1]; omega)
      rw [e1, e2] at h
      simp only [eqVs, Option.some.injEq] at h
      subst h
      simp
    | succ l ih =>
      intro k r hk h
      have l1 : k < us.length := by omega
      have l2 : k < vs.length := by omega
      have u1 : us[k]? = some us[k] := List.getElem?_eq_getElem l1
      have v1 : vs[k]? = some vs[k] := List.getElem?_eq_getElem l2
      have x1 : xs[k]? = some (xs[k]'(by rw [← hu.1]; exact l1)) := List.getElem?_eq_getElem _
      have y1 : ys[k]? = some (ys[k]'(by rw [← hv.1]; exact l2)) := List.getElem?_eq_getElem _
      obtain ⟨K, m, m', r', c1, c2, c3, rfl⟩ := eqVs_cons x1 y1 h
      rw [c1] at x1
      rw [c2] at y1
      have a1 := RepV.int_inv (hu.2 k _ _ u1 x1)
      have a2 := RepV.int_inv (hv.2 k _ _ v1 y1)
      rw [a1] at u1
      rw [a2] at v1
      have p1 : (part e us.toArray (k * 1)).run P w = .ok (.int K m) w := part_int he (by simpa using u1)
      have p2 : (part e vs.toArray (k * 1)).run P w = .ok (.int K m') w := part_int he (by simpa using v1)
      have p3 := run_equalIn_int (P := P) w d e K k0 m m' he
      rw [List.range'_succ, List.forIn_cons]
      simp only [Sem.run_bind, p1, p2, p3, Result.andThen_ok]
      by_cases hm : (m == m') = true
      · simp only [hm, Bool.not_true, Bool.false_eq_true, if_false, Sem.run_pure, Result.andThen_ok, Bool.true_and]
        exact ih (k + 1) r' (by omega) c3
      · simp only [Bool.not_eq_true] at hm
        simp only [hm, Bool.not_false, if_true, Sem.run_pure, Result.andThen_ok, Bool.false_and]
        rfl
  have h0 := key n 0 r (by omega) (by simpa using hr)
  refine (congrArg (fun x => Result.andThen x _) h0).trans ?_
  cases r <;> rfl
theorem run_guard_ints (d : Nat) {t e : TypeId} {n : Nat} {k0 : IntKind} (ht : P.underlying t = some (.array n e)) (he : P.underlying e = some (.int k0)) (hs : (sizeOf e).run P w = .ok 1 w) (us vs : List Value) (hul : us.length = n) (hvl : vs.length = n) :
    (Op.eqGuardIn (d + 2) t (.agg us.toArray) (.agg vs.toArray)).run P w = .ok false w := by
  rw [show d + 2 = (d + 1) + 1 from rfl, Op.eqGuardIn]
  simp only [Sem.run_bind, run_underlying ht, Result.andThen_ok, hs]
  rw [Std.Legacy.Range.forIn_eq_forIn_range']
  have hsz : [:n].size = n := by simp [Std.Legacy.Range.size]
  rw [hsz]
  show ((Sem.run P (forIn (List.range' 0 n 1) _ _) w).andThen _) = _
  have key : ∀ (l k : Nat), k + l = n → Sem.run P (forIn (List.range' k l 1) ((none, ()) : Option Bool × Unit) fun i _ => do
            let a ← part e us.toArray (i * 1)
            let b ← part e vs.toArray (i * 1)
            let c ← Op.eqGuardIn (d + 1) e a b
            if c = true then pure (ForInStep.done (some true, ())) else pure (ForInStep.yield (none, ()))) w = Result.ok (none, ()) w := by
    intro l
    induction l with
    | zero => intro k hk; simp
    | succ l ih =>
      intro k hk
      have u1 : us[k]? = some (us[k]'(by omega)) := List.getElem?_eq_getElem _
      have v1 : vs[k]? = some (vs[k]'(by omega)) := List.getElem?_eq_getElem _
      have p1 : (part e us.toArray (k * 1)).run P w = .ok (us[k]'(by omega)) w := part_int he (by simp [u1])
      have p2 : (part e vs.toArray (k * 1)).run P w = .ok (vs[k]'(by omega)) w := part_int he (by simp [v1])
      have p3 : ∀ a b, (Op.eqGuardIn (d + 1) e a b).run P w = .ok false w := by
        intro a b
        rw [Op.eqGuardIn]
        simp only [Sem.run_bind, run_underlying he, Result.andThen_ok, Sem.run_pure]
      rw [List.range'_succ, List.forIn_cons]
      simp only [Sem.run_bind, p1, p2, p3, Result.andThen_ok, Bool.false_eq_true, if_false, Sem.run_pure]
      exact ih (k + 1) (by omega)
  have h0 := key n 0 (by omega)
  exact (congrArg (fun x => Result.andThen x _) h0).trans rfl
end
section
variable {P : Program} {T : Tab} (hT : T.OK P) {S : Stay} {gh : List Value} {sto : Sto} {w : World}
omit hT in
theorem evBinS_sound {op : BinOp} {x y : ByteArray} {r : V} (t : TypeId) (xo yo : Operand) (h : evBinS op x y = some r) : ∃ u, ((do eqGuard op t xo yo (.string x) (.string y); binOp op t (.string x) (.string y)) : Sem Value).run P w = .ok u w ∧ RepV S w u r := by
  unfold evBinS at h
  split at h
  · simp only [Option.some.injEq] at h
    subst h
    exact ⟨_, by simp [eqGuard, binOp, Op.stringOp], RepV.bool _⟩
  · simp only [Option.some.injEq] at h
    subst h
    exact ⟨_, by simp [eqGuard, binOp, Op.stringOp], RepV.bool _⟩
  · split at h
    · rename_i hc
      simp only [Option.some.injEq] at h
      subst h
      have e2 : IntKind.i64.max = 9223372036854775807 := by decide
      refine ⟨_, ?_, RepV.str _⟩
      have hn : ¬ (((x.size + y.size : Nat) : Int) > IntKind.i64.max) := by rw [e2]; omega
      simp only [eqGuard, binOp, Op.stringOp, Sem.run_bind, Bool.not_false, if_true, Sem.run_pure, Result.andThen_ok, hn, if_false]
    · cases h
  · cases h
include hT
theorem evBinA_sound {op : BinOp} {t : TypeId} {x y : List V} {r : V} {a b : Value} (xo yo : Operand) (hp : RepV S w a (.agg x)) (hq : RepV S w b (.agg y)) (h : evBinA T op t x y = some r) : ∃ u, ((do eqGuard op t xo yo a b; binOp op t a b) : Sem Value).run P w = .ok u w ∧ RepV S w u r := by
  unfold evBinA at h
  split at h
  · rename_i n e hk
    have ht := kd_array hT hk
    split at h
    · rename_i k0 j hk0 hj
      have he := kd_int hT hk0
      split at h
      · rename_i hc
        obtain ⟨c1, c2, c3⟩ := hc
        obtain ⟨us, rfl, hu⟩ := RepV.parts hp
        obtain ⟨vs, rfl, hv⟩ := RepV.parts hq
        have hs := run_size (P := P) (w := w) hT hj
        rw [c3] at hs
        have hul : us.length = n := by rw [hu.1]; exact c1
        have hvl : vs.length = n := by rw [hv.1]; exact c2
        have gd : (eqGuard op t xo yo (.agg us.toArray) (.agg vs.toArray)).run P w = .ok () w := by
          have hg := run_guard_ints (P := P) (w := w) 9998 ht he hs us vs hul hvl
          have hg' : (Op.eqGuardIn Op.maxDepth t (.agg us.toArray) (.agg vs.toArray)).run P w = .ok false w := hg
          unfold eqGuard
          by_cases ho : (match op with | .eql => true | .neq => true | _ => false) = true
          · cases op <;> first | (cases ho; done) | skip
            all_goals
              simp only [Bool.not_true, Bool.false_eq_true, if_false, Sem.run_bind, run_program, Result.andThen_ok]
              split
              · rfl
              · simp only [Sem.run_bind, hg', Result.andThen_ok, Bool.false_eq_true, if_false, Sem.run_pure]
          · cases op <;> first | (exact absurd rfl ho) | rfl
        have eqr : ∀ rr, eqVs x y = some rr → (Op.equal t (.agg us.toArray) (.agg vs.toArray)).run P w = .ok rr w := fun rr hr => run_eq_ints (P := P) (w := w) 9998 ht he hs x y us vs rr (hu.imp fun _ _ h => h.2) (hv.imp fun _ _ h => h.2) hul hvl hr
        split at h
        · simp only [Option.map_eq_some_iff] at h
          obtain ⟨rr, h1, rfl⟩ := h
          exact ⟨.bool rr, by simp only [Sem.run_bind, gd, Result.andThen_ok, binOp, eqr rr h1, Sem.run_pure], RepV.bool _⟩
        · simp only [Option.map_eq_some_iff] at h
          obtain ⟨rr, h1, rfl⟩ := h
          exact ⟨.bool !rr, by simp only [Sem.run_bind, gd, Result.andThen_ok, binOp, eqr rr h1, Sem.run_pure], RepV.bool _⟩
        · cases h
      · cases h
    · cases h
  · cases h
end
end Go.Proofs.Ytghdanpigohnjaa
namespace Go.Proofs.Ytghdanpigohnjaa
open Go Go.RowKit

section
variable {P : Program} {T : Tab} {S : Stay} {gh : List Value} {sto : Sto} {w : World}
theorem bound_run {x : Option Value} {d : Option D} {dflt n y : Nat} {c : BoundsCode} (hx : ∀ v, x = some v → ∃ e, d = some e ∧ RepD S gh sto w v e) (hn : x = none → d = none) (h : bound d dflt = some n) (hle : n ≤ y) :
    (x = none → n = dflt) ∧ ∀ v, x = some v → (Instr.sliceBound v y c).run P w = .ok n w := by
  constructor
  · intro h0
    rw [hn h0] at h
    simpa [bound] using h.symm
  · intro v hv
    obtain ⟨e, rfl, hr⟩ := hx v hv
    unfold bound at h
    split at h
    · rename_i h0; cases h0
    · rename_i k m h0
      simp only [Option.some.injEq] at h0
      subst h0
      obtain rfl := RepV.int_inv hr
      split at h
      · rename_i hm
        simp only [Option.some.injEq] at h
        subst h
        have h2 : m ≤ (y : Int) := by omega
        simp only [Instr.sliceBound, asIntOf, Sem.run_bind, Sem.run_pure, Result.andThen_ok, hm, h2, and_self, if_true]
      · cases h
    · cases h
variable (hT : T.OK P)
include hT
theorem evSliceV_sound (hs : SR S gh w sto) {t : TypeId} {p d : D} {lo hi mx : Option D} {v : Value} {vl vh vm : Option Value} (h : RepD S gh sto w v p) (hl : ∀ x, vl = some x → ∃ e, lo = some e ∧ RepD S gh sto w x e) (hl0 : vl = none → lo = none)
    (hh : ∀ x, vh = some x → ∃ e, hi = some e ∧ RepD S gh sto w x e) (hh0 : vh = none → hi = none) (hm0 : mx = none → vm = none) (he : evSliceV T sto t p lo hi mx = some d) : ∃ u, (Instr.sliceAt t v vl vh vm).run P w = .ok u w ∧ RepD S gh sto w u d := by
  unfold evSliceV at he
  split at he
  · rename_i e n cs hk hv
    have hu := kd_slice hT hk
    have hrep := view_rep hs h hv
    obtain ⟨a, cap, rfl, h1, h2, h3, h4⟩ := RepV.sl_inv hrep
    split at he
    · rename_i j l r hj bl bh
      split at he
      · rename_i hmx
        obtain rfl := hm0 rfl
        split at he
        · rename_i hc
          obtain ⟨c1, c2, c3, c4⟩ := hc
          simp only [Option.some.injEq] at he
          subst he
          have H := bound_run (P := P) (c := .sliceAcap) (y := cap) hh hh0 bh (by omega)
          have L := bound_run (P := P) (c := .sliceB) (y := r) hl hl0 bl c1
          have hb : (Instr.sliceBounds true n cap vl vh none).run P w = .ok (l, r, cap) w := by
            unfold Instr.sliceBounds
            cases vh with
            | none =>
              have e1 := H.1 rfl
              subst e1
              cases vl with
              | none =>
                have e2 := L.1 rfl
                subst e2
                simp
              | some x => simp [L.2 x rfl]
            | some y =>
              have e1 := H.2 y rfl
              cases vl with
              | none =>
                have e2 := L.1 rfl
                subst e2
                simp [e1]
              | some x => simp [e1, L.2 x rfl]
          refine ⟨.slice (if cap = l then a else a.map (·.add (l * j.size))) (r - l) (cap - l), ?_, ?_⟩
          · simp only [Instr.sliceAt, Instr.slice, Sem.run_bind, run_underlying hu, Result.andThen_ok, hb, run_size hT hj, Sem.run_pure]
          · show RepV S w _ _
            have hlen : ((cs.drop (l * j.size)).take ((r - l) * j.size)).length = (r - l) * j.size := by
              have q : r * j.size ≤ n * j.size := Nat.mul_le_mul_right _ c2
              have q2 : (r - l) * j.size + l * j.size = r * j.size := by rw [← Nat.add_mul]; congr 1; omega
              simp only [List.length_take, List.length_drop, c3]
              omega
            by_cases hz : (cs.drop (l * j.size)).take ((r - l) * j.size) = []
            · rw [hz]
              refine .sl0 _ _ _ (by omega) (by omega) fun h0 => ?_
              split at h0
              · omega
              · cases a with
                | none => have := h3 rfl; omega
                | some a => cases h0
            · have hne : cs ≠ [] := by
                intro e0
                rw [e0] at hz
                simp at hz
              obtain ⟨b, off, us, rfl, h5, h6⟩ := h4 hne
              have hrl : l < r := by
                rcases Nat.lt_or_ge l r with h | h
                · exact h
                · exfalso; apply hz
                  rw [show r - l = 0 from by omega, Nat.zero_mul]; rfl
              rw [if_neg (by omega)]
              simp only [Option.map_some, addr_add]
              have hj2 : ∀ k, k < ((cs.drop (l * j.size)).take ((r - l) * j.size)).length → l * j.size + k < cs.length := by
                intro k hk
                simp only [List.length_take, List.length_drop] at hk
                omega
              refine .sl b (off + l * j.size) (r - l) (cap - l) (fun k => us (l * j.size + k)) _ (by omega) (by omega) (fun k hk => ?_) (fun k c hc => ?_)
              · have := h5 _ (hj2 k hk)
                rw [← Nat.add_assoc] at this
                exact this
              · have hk := (List.getElem?_eq_some_iff.1 hc).1
                have hk' := hk
                rw [hlen] at hk'
                rw [List.getElem?_take_of_lt hk', List.getElem?_drop] at hc
                exact h6 _ c hc
        · cases he
      · cases he
    · cases he
  · cases he
omit hT in
/-- A slice that may be written: where it lies. -/
theorem ownWin_rep (hs : SR S gh w sto) {v : Value} {p : D} {x : Nat × Nat × Nat × Nat} (h : RepD S gh sto w v p) (he : ownWin sto p = some x) : ∃ es wr cs g o' c, sto[x.1]? = some (.arr es wr x.2.1 cs) ∧ blkAt gh x.1 = some g ∧ v = .slice (some ⟨g, o', none⟩) x.2.2.2 c ∧ x.2.2.2 ≤ c ∧ c ≤ maxLen ∧ (0 < x.2.2.2 → o' = x.2.2.1) := by
  unfold ownWin at he
  split at he
  · rename_i id n
    obtain ⟨h1, ⟨a, c, rfl⟩, h3⟩ := h
    split at he
    · rename_i es k cs hes
      split at he
      · rename_i hk
        subst hk
        simp only [Option.some.injEq] at he
        subst he
        have hg := (h3 _ _ _ _ hes).2 rfl
        obtain ⟨gv, hg', hE⟩ := hs.ent id _ hes
        rw [hg] at hg'
        cases hg'
        obtain ⟨e0, s⟩ := es
        obtain ⟨g, cap, cur, hv, _, q1, q2, _⟩ := hE
        exact ⟨_, _, _, g, 0, cap, hes, by unfold blkAt; rw [hg, hv]; rfl, hv, q1, q2, fun _ => rfl⟩
      · cases he
    · cases he
  · rename_i id n o m
    split at he
    · rename_i es wr k cs hes
      split at he
      · rename_i hk
        subst hk
        simp only [Option.some.injEq] at he
        subst he
        obtain ⟨h1, _, h3⟩ := h
        obtain ⟨g, o', c, b1, b2, b3, b4, b5⟩ := (h3 _ _ _ _ hes).2 rfl
        exact ⟨_, _, _, g, o', c, hes, b1, b2, b3, b4, b5⟩
      · cases he
    · cases he
  · cases he
theorem evSliceW_sound (hs : SR S gh w sto) {t : TypeId} {p d : D} {x : Nat × Nat × Nat × Nat} {lo hi mx : Option D} {v : Value} {vl vh vm : Option Value} (h : RepD S gh sto w v p) (hx : ownWin sto p = some x) (hl : ∀ x, vl = some x → ∃ e, lo = some e ∧ RepD S gh sto w x e) (hl0 : vl = none → lo = none)
    (hh : ∀ x, vh = some x → ∃ e, hi = some e ∧ RepD S gh sto w x e) (hh0 : vh = none → hi = none) (hm0 : mx = none → vm = none) (he : evSliceW T t x lo hi mx = some d) : ∃ u, (Instr.sliceAt t v vl vh vm).run P w = .ok u w ∧ RepD S gh sto w u d := by
  obtain ⟨es, wr, cs, g, o', cap, q1, q2, rfl, q3, q4, q5⟩ := ownWin_rep hs h hx
  obtain ⟨id, n, o, m⟩ := x
  simp only at q1 q2 q3 q5
  unfold evSliceW at he
  split at he
  · rename_i e hk
    have hu := kd_slice hT hk
    split at he
    · rename_i j l r hj bl bh
      obtain rfl := hm0 rfl
      split at he
      · rename_i hc
        obtain ⟨c1, c2⟩ := hc
        simp only at c2 bh
        simp only [Option.some.injEq] at he
        subst he
        have H := bound_run (P := P) (c := .sliceAcap) (y := cap) hh hh0 bh (by omega)
        have L := bound_run (P := P) (c := .sliceB) (y := r) hl hl0 bl c1
        have hb : (Instr.sliceBounds true m cap vl vh none).run P w = .ok (l, r, cap) w := by
          unfold Instr.sliceBounds
          cases vh with
          | none =>
            have e1 := H.1 rfl
            subst e1
            cases vl with
            | none =>
              have e2 := L.1 rfl
              subst e2
              simp
            | some x => simp [L.2 x rfl]
          | some y =>
            have e1 := H.2 y rfl
            cases vl with
            | none =>
              have e2 := L.1 rfl
              subst e2
              simp [e1]
            | some x => simp [e1, L.2 x rfl]
        refine ⟨.slice (if cap = l then some ⟨g, o', none⟩ else some ⟨g, o' + l * j.size, none⟩) (r - l) (cap - l), ?_, (List.getElem?_eq_some_iff.1 q1).1, ⟨_, _, rfl⟩, fun es' wr' k' cs' hs' => ?_⟩
        · simp only [Instr.sliceAt, Instr.slice, Sem.run_bind, run_underlying hu, Result.andThen_ok, hb, run_size hT hj, Sem.run_pure, Option.map_some, addr_add]
        · rw [q1] at hs'
          cases hs'
          refine ⟨Nat.le_refl _, fun _ => ?_⟩
          by_cases hcl : cap = l
          · rw [if_pos hcl]
            exact ⟨g, o', cap - l, q2, rfl, by omega, by omega, fun h => by omega⟩
          · rw [if_neg hcl]
            refine ⟨g, o' + l * j.size, cap - l, q2, rfl, by omega, by omega, fun h => ?_⟩
            rw [q5 (by omega)]
      · cases he
    · cases he
  · cases he
theorem evSliceO_sound (hs : SR S gh w sto) {t : TypeId} {p d : D} {lo hi mx : Option D} {v : Value} {vl vh vm : Option Value} (h : RepD S gh sto w v p) (hl : ∀ x, vl = some x → ∃ e, lo = some e ∧ RepD S gh sto w x e) (hl0 : vl = none → lo = none)
    (hh : ∀ x, vh = some x → ∃ e, hi = some e ∧ RepD S gh sto w x e) (hh0 : vh = none → hi = none) (hm0 : mx = none → vm = none) (he : evSliceO T sto t p lo hi mx = some d) : ∃ u, (Instr.sliceAt t v vl vh vm).run P w = .ok u w ∧ RepD S gh sto w u d := by
  unfold evSliceO at he
  split at he
  · rename_i y hy
    exact evSliceW_sound hT hs h hy hl hl0 hh hh0 hm0 he
  · exact evSliceV_sound hT hs h hl hl0 hh hh0 hm0 he
omit hT in
theorem bound_run2 {x : Option Value} {d : Option D} {dflt n : Nat} (hx : ∀ v, x = some v → ∃ e, d = some e ∧ RepD S gh sto w v e) (hn : x = none → d = none) (h : bound d dflt = some n) : (x = none ∧ n = dflt) ∨ ∃ k, x = some (.int k n) := by
  cases x with
  | none =>
    left
    rw [hn rfl] at h
    simp only [bound, Option.some.injEq] at h
    exact ⟨rfl, h.symm⟩
  | some v =>
    right
    obtain ⟨e, rfl, hr⟩ := hx v rfl
    unfold bound at h
    split at h
    · rename_i q; cases q
    · rename_i k m q
      cases q
      split at h
      · rename_i hm
        simp only [Option.some.injEq] at h
        obtain rfl := RepV.int_inv hr
        exact ⟨k, by rw [← h]; congr 2; omega⟩
      · cases h
    · cases h
omit hT in
theorem sliceBounds_run {isS : Bool} {len cap : Nat} {vl vh : Option Value} {lo hi : Option D} {l h : Nat} (hl : ∀ x, vl = some x → ∃ e, lo = some e ∧ RepD S gh sto w x e) (hl0 : vl = none → lo = none)
    (hh : ∀ x, vh = some x → ∃ e, hi = some e ∧ RepD S gh sto w x e) (hh0 : vh = none → hi = none) (h1 : bound lo 0 = some l) (h2 : bound hi len = some h) (hlh : l ≤ h) (hc : h ≤ cap) : (Instr.sliceBounds isS len cap vl vh none).run P w = .ok (l, h, cap) w := by
  have sb : ∀ (k : IntKind) (n y : Nat) (c : BoundsCode), n ≤ y → (Instr.sliceBound (.int k n) y c).run P w = .ok n w := by
    intro k n y c hn
    have hq : (0 : Int) ≤ (n : Int) ∧ (n : Int) ≤ (y : Int) := by omega
    simp only [Instr.sliceBound, asIntOf, Sem.run_bind, Sem.run_pure, Result.andThen_ok, hq, and_self, if_true, Int.toNat_natCast]
  unfold Instr.sliceBounds
  rcases bound_run2 hh hh0 h2 with ⟨rfl, rfl⟩ | ⟨k2, rfl⟩ <;> rcases bound_run2 hl hl0 h1 with ⟨rfl, rfl⟩ | ⟨k1, rfl⟩ <;>
    simp only [Sem.run_bind, Sem.run_pure, Result.andThen_ok, sb _ _ _ _ hlh, sb _ _ _ _ hc, Option.isSome_none, Bool.false_eq_true, if_false]
theorem evSliceS_sound {t : TypeId} (hk : kd T t = some .str) {p d : D} {lo hi mx : Option D} {v : Value} {vl vh vm : Option Value} (h : RepD S gh sto w v p) (hl : ∀ x, vl = some x → ∃ e, lo = some e ∧ RepD S gh sto w x e) (hl0 : vl = none → lo = none)
    (hh : ∀ x, vh = some x → ∃ e, hi = some e ∧ RepD S gh sto w x e) (hh0 : vh = none → hi = none) (hm0 : mx = none → vm = none) (he : evSliceS p lo hi mx = some d) : ∃ u, (Instr.sliceAt t v vl vh vm).run P w = .ok u w ∧ RepD S gh sto w u d := by
  have hu := kd_str hT hk
  unfold evSliceS at he
  split at he
  · rename_i s
    split at he
    · rename_i l h' q1 q2
      split at he
      · rename_i hc
        simp only [Option.some.injEq] at he
        subst he
        have h0 : RepV S w v (.str s) := h
        obtain rfl := RepV.str_inv h0
        obtain rfl := hm0 rfl
        refine ⟨.string (s.extract l h'), ?_, RepV.str _⟩
        simp only [Instr.sliceAt, Instr.slice, Sem.run_bind, run_underlying hu, Result.andThen_ok, Option.isSome_none, Bool.false_eq_true, if_false, Sem.run_pure, sliceBounds_run (P := P) (cap := s.size) hl hl0 hh hh0 q1 q2 hc.1 hc.2]
      · cases he
    · cases he
  · cases he
theorem evSliceA_sound {t : TypeId} {n : Nat} {e : TypeId} (hk : kd T t = some (.array n e)) {p d : D} {lo hi mx : Option D} {v : Value} {vl vh vm : Option Value} (h : RepD S gh sto w v p) (hl : ∀ x, vl = some x → ∃ e, lo = some e ∧ RepD S gh sto w x e) (hl0 : vl = none → lo = none)
    (hh : ∀ x, vh = some x → ∃ e, hi = some e ∧ RepD S gh sto w x e) (hh0 : vh = none → hi = none) (hm0 : mx = none → vm = none) (he : evSliceA T sto n e p lo hi mx = some d) : ∃ u, (Instr.sliceAt t v vl vh vm).run P w = .ok u w ∧ RepD S gh sto w u d := by
  have hu := kd_array hT hk
  unfold evSliceA at he
  split at he
  · rename_i j l h' hj q1 q2
    obtain rfl := hm0 rfl
    split at he
    · rename_i hc
      obtain ⟨c1, c2, c3, c4⟩ := hc
      have hsb := sliceBounds_run (P := P) (isS := false) (cap := n) hl hl0 hh hh0 q1 q2 c1 c2
      have run : ∀ a, v = .pointer (some a) → (Instr.sliceAt t v vl vh none).run P w = .ok (.slice (some (a.add (l * j.size))) (h' - l) (n - l)) w := by
        intro a ha
        subst ha
        simp only [Instr.sliceAt, Sem.run_bind, run_underlying hu, Result.andThen_ok, Instr.sureAddr, Sem.run_pure, hsb, run_size hT hj, if_neg (show ¬ n = l by omega)]
      have hmx : n - l ≤ maxLen := by unfold maxLen; omega
      split at he
      · rename_i id off
        simp only [Option.some.injEq] at he
        subst he
        obtain ⟨hid, g, hg, rfl⟩ := h
        exact ⟨_, run _ rfl, hid, g, n - l, hg, by rw [addr_add], by omega, hmx⟩
      · rename_i id k o
        split at he
        · rename_i es wr k' cs hes
          split at he
          · rename_i hkk
            subst hkk
            simp only [Option.some.injEq] at he
            subst he
            obtain ⟨hid, ⟨a, rfl⟩, h3⟩ := h
            obtain ⟨g, hg, hv⟩ := (h3 _ _ _ _ hes).2 rfl
            simp only [Value.pointer.injEq, Option.some.injEq] at hv
            subst hv
            refine ⟨_, run _ rfl, hid, ⟨_, _, rfl⟩, fun es' wr' k2 cs' hs' => ?_⟩
            rw [hes] at hs'
            cases hs'
            exact ⟨Nat.le_refl _, fun _ => ⟨g, _, n - l, hg, by rw [addr_add], by omega, hmx, fun _ => rfl⟩⟩
          · cases he
        · cases he
      · rename_i cs o
        split at he
        · rename_i hb
          simp only [Option.some.injEq] at he
          subst he
          obtain ⟨b, off, us, rfl, k2, k3⟩ := h
          refine ⟨_, run _ rfl, ?_⟩
          rw [addr_add]
          show RepV S w _ _
          have hlen : ∀ i, i < ((cs.drop (o + l * j.size)).take ((h' - l) * j.size)).length → o + l * j.size + i < cs.length := by
            intro i hi
            simp only [List.length_take, List.length_drop] at hi
            omega
          refine .sl b (off + o + l * j.size) (h' - l) (n - l) (fun i => us (o + l * j.size + i)) _ (by omega) hmx (fun i hi => ?_) (fun i c hc => ?_)
          · have := k2 _ (hlen i hi)
            rw [show off + o + l * j.size + i = off + (o + l * j.size + i) by omega]
            exact this
          · have hlt := (List.getElem?_eq_some_iff.1 hc).1
            refine k3 _ c ?_
            rw [List.getElem?_take, List.getElem?_drop] at hc
            split at hc
            · exact hc
            · cases hc
        · cases he
      · cases he
    · cases he
  · cases he
theorem evSlice_sound (hs : SR S gh w sto) {t : TypeId} {p d : D} {lo hi mx : Option D} {v : Value} {vl vh vm : Option Value} (h : RepD S gh sto w v p) (hl : ∀ x, vl = some x → ∃ e, lo = some e ∧ RepD S gh sto w x e) (hl0 : vl = none → lo = none)
    (hh : ∀ x, vh = some x → ∃ e, hi = some e ∧ RepD S gh sto w x e) (hh0 : vh = none → hi = none) (hm0 : mx = none → vm = none) (he : evSlice T sto t p lo hi mx = some d) : ∃ u, (Instr.sliceAt t v vl vh vm).run P w = .ok u w ∧ RepD S gh sto w u d := by
  unfold evSlice at he
  split at he
  · rename_i hk
    exact evSliceS_sound hT hk h hl hl0 hh hh0 hm0 he
  · rename_i n e hk
    exact evSliceA_sound hT hk h hl hl0 hh hh0 hm0 he
  · exact evSliceO_sound hT hs h hl hl0 hh hh0 hm0 he
theorem placesT_sound : ∀ (fs : List Field) (ps : List (Nat × Nat)), placesT T (fs.map fun f => (f.offset, f.type)) = some ps → fs.mapM (fun f => (P.info? f.type).map fun i => (f.offset, i.size)) = some ps
  | [], ps, h => by simp only [List.map_nil, placesT, Option.some.injEq] at h; subst h; rfl
  | f :: fs, ps, h => by
    simp only [List.map_cons, placesT] at h
    split at h
    · rename_i j ps' hj hp
      simp only [Option.some.injEq] at h
      subst h
      obtain ⟨x, hx, _, hx2, _⟩ := tab_info hT hj
      simp [List.mapM_cons, hx, placesT_sound fs ps' hp, hx2]
    · cases h
theorem evBuild_sound {t : TypeId} {parts : List (Nat × D)} {vparts : Array (Nat × Value)} {d : D} (hp : Pw (fun (u : Nat × Value) (d : Nat × D) => u.1 = d.1 ∧ RepD S gh sto w u.2 d.2) vparts.toList parts) (he : evBuild T t parts = some d) : ∃ u, (Instr.build t vparts).run P w = .ok u w ∧ RepD S gh sto w u d := by
  unfold evBuild at he
  split at he
  · cases he
  · rename_i i hi
    have fin : ∀ (place : Nat → Option (Nat × Nat)) (z ds : List D), zeroD i = some z → fillD place z parts = some ds → ∃ arr, Instr.fill place i.zero.cells vparts.toList = some arr ∧ RepD S gh sto w (.agg arr) (.agg ds) := by
      intro place z ds hz hf
      have hz' : Pw (fun u d => u.oneCell' = true ∧ RepC S gh sto w u d) i.zero.cells.toList z := RepD.cells (ofVal_rep i.zero) hz
      obtain ⟨arr, e1, e2⟩ := fill_sound place parts vparts.toList z i.zero.cells ds hp hz' hf
      exact ⟨arr, e1, arr.toList, by simp, e2.1, e2.2⟩
    obtain ⟨x, hx, hx1, hx2, _⟩ := tab_info hT hi
    obtain ⟨dd, hu, hk⟩ := tab_kind hT hi
    split at he
    · rename_i z fs hz hkind
      split at he
      · rename_i ps hps
        cases hf : fillD (fun k => ps[k]?) z parts with
        | none => rw [hf] at he; cases he
        | some ds =>
          rw [hf] at he
          simp only [Option.map_some, Option.some.injEq] at he
          subst he
          obtain ⟨arr, e1, e2⟩ := fin _ z ds hz hf
          rw [hkind] at hk
          cases dd <;> simp only [kindOf] at hk <;> first | (cases hk; done) | skip
          rename_i l
          simp only [Kd.struct.injEq] at hk
          rw [← hk] at hps
          have hpl := placesT_sound hT l.toList ps hps
          refine ⟨_, run_build w t vparts arr ?_, e2⟩
          unfold Program.built
          simp only [hx, hu, hx1, hpl]
          simpa using e1
      · cases he
    · rename_i z n e hz hkind
      split at he
      · rename_i j hj
        cases hf : fillD (fun k => some (k * j.size, j.size)) z parts with
        | none => rw [hf] at he; cases he
        | some ds =>
          rw [hf] at he
          simp only [Option.map_some, Option.some.injEq] at he
          subst he
          obtain ⟨arr, e1, e2⟩ := fin _ z ds hz hf
          rw [hkind] at hk
          cases dd <;> simp only [kindOf] at hk <;> first | (cases hk; done) | skip
          rename_i n' e'
          simp only [Kd.array.injEq] at hk
          obtain ⟨rfl, rfl⟩ := hk
          obtain ⟨y, hy, _, hy2, _⟩ := tab_info hT hj
          refine ⟨_, run_build w t vparts arr ?_, e2⟩
          unfold Program.built
          simp only [hx, hu, hx1, hy, hy2]
          exact e1
      · cases he
    · cases he
omit hT in
theorem evBinI_sound {op : BinOp} {k : IntKind} {x y : Int} {r : V} (t : TypeId) (h : evBinI op k x y = some r) : ∃ u, (binOp op t (.int k x) (.int k y)).run P w = .ok u w ∧ RepV S w u r := by
  cases op <;> simp only [evBinI, andI, orI, xorI, andNotI] at h
  case shl => cases h
  case shr => cases h
  case quo =>
    split at h
    · cases h
    · rename_i hy
      simp only [Option.some.injEq] at h
      subst h
      exact ⟨_, by simp [binOp, Op.intDiv, hy], RepV.int _ _⟩
  case rem =>
    split at h
    · cases h
    · rename_i hy
      simp only [Option.some.injEq] at h
      subst h
      exact ⟨_, by simp [binOp, Op.intDiv, hy], RepV.int _ _⟩
  all_goals
    simp only [Option.some.injEq] at h
    subst h
    refine ⟨_, ?_, by first | exact RepV.int _ _ | exact RepV.bool _⟩
    simp only [binOp, Op.intArith, Op.intBits, Op.intCmp, ne_eq, not_true_eq_false, if_false, Sem.run_pure]
omit hT in
theorem evShift_sound {op : BinOp} {k k' : IntKind} {x y : Int} {r : V} (t : TypeId) (h : evShift op k x y = some r) : ∃ u, (binOp op t (.int k x) (.int k' y)).run P w = .ok u w ∧ RepV S w u r := by
  unfold evShift at h
  split at h
  · cases h
  · rename_i hy
    split at h <;> first | (cases h; done) | skip
    all_goals
      simp only [Option.some.injEq] at h
      subst h
      refine ⟨_, ?_, RepV.int _ _⟩
      simp only [binOp, Op.shift, hy, if_false, Sem.run_pure]
omit hT in
theorem guard_run (op : BinOp) (t : TypeId) (x y : Operand) (a b : Value) (h : (match a, b with | .int _ _, .int _ _ => true | .bool _, .bool _ => true | _, _ => false) = true) : (eqGuard op t x y a b).run P w = .ok () w := by
  unfold eqGuard
  cases a <;> cases b <;> first | (cases h; done) | skip
  all_goals
    split <;> simp
theorem evBin_sound {op : BinOp} {t : TypeId} {p q r : V} {x y : Operand} {a b : Value} (hp : RepV S w a p) (hq : RepV S w b q) (h : evBin T op t p q = some r) : ∃ u, ((do eqGuard op t x y a b; binOp op t a b) : Sem Value).run P w = .ok u w ∧ RepV S w u r := by
  unfold evBin at h
  split at h
  · rename_i k m k' n
    obtain rfl := RepV.int_inv hp
    obtain rfl := RepV.int_inv hq
    have hg := guard_run (P := P) (w := w) op t x y (.int k m) (.int k' n) rfl
    split at h
    · obtain ⟨u, e1, e2⟩ := evShift_sound (P := P) (S := S) (w := w) (k' := k') t h
      exact ⟨u, by simp only [Sem.run_bind, hg, Result.andThen_ok, e1], e2⟩
    · obtain ⟨u, e1, e2⟩ := evShift_sound (P := P) (S := S) (w := w) (k' := k') t h
      exact ⟨u, by simp only [Sem.run_bind, hg, Result.andThen_ok, e1], e2⟩
    · split at h
      · rename_i hk
        subst hk
        obtain ⟨u, e1, e2⟩ := evBinI_sound (P := P) (S := S) (w := w) t h
        exact ⟨u, by simp only [Sem.run_bind, hg, Result.andThen_ok, e1], e2⟩
      · cases h
  · rename_i m n
    obtain rfl := RepV.bool_inv hp
    obtain rfl := RepV.bool_inv hq
    have hg := guard_run (P := P) (w := w) op t x y (.bool m) (.bool n) rfl
    split at h
    · rename_i hk
      have hu := kd_bool hT hk
      have heq : (Op.equal t (.bool m) (.bool n)).run P w = .ok (m == n) w := by
        unfold Op.equal Op.maxDepth
        rw [show (10000 : Nat) = 9999 + 1 from rfl, Op.equalIn]
        simp only [Sem.run_bind, run_underlying hu, Result.andThen_ok, Sem.run_pure]
      split at h
      · simp only [Option.some.injEq] at h
        subst h
        exact ⟨_, by simp only [Sem.run_bind, hg, Result.andThen_ok, binOp, heq, Sem.run_pure], RepV.bool _⟩
      · simp only [Option.some.injEq] at h
        subst h
        exact ⟨_, by simp only [Sem.run_bind, hg, Result.andThen_ok, binOp, heq, Sem.run_pure], RepV.bool _⟩
      · cases h
    · cases h
  · rename_i m n
    obtain rfl := RepV.str_inv hp
    obtain rfl := RepV.str_inv hq
    exact evBinS_sound t x y h
  · exact evBinA_sound hT x y hp hq h
  · cases h
omit hT in
theorem evUn_sound {op : UnOp} {p r : V} {a : Value} (hp : RepV S w a p) (h : evUn op p = some r) : ∃ u, (Op.unary op a).run P w = .ok u w ∧ RepV S w u r := by
  unfold evUn at h
  split at h
  · obtain rfl := RepV.int_inv hp
    split at h
    · simp only [Option.some.injEq] at h; subst h; exact ⟨_, rfl, RepV.int _ _⟩
    · simp only [Option.some.injEq] at h; subst h; exact ⟨_, rfl, RepV.int _ _⟩
    · cases h
  · obtain rfl := RepV.bool_inv hp
    split at h
    · simp only [Option.some.injEq] at h; subst h; exact ⟨_, rfl, RepV.bool _⟩
    · cases h
  · cases h
end
end Go.Proofs.Ytghdanpigohnjaa
namespace Go.Proofs.Ytghdanpigohnjaa
open Go Go.RowKit

section
variable {P : Program} {T : Tab} {S : Stay} {gh : List Value} {sto : Sto} {w : World}
theorem argsRep {e : Operand → Value} {ρ : Operand → D} (hρ : ∀ x, RepD S gh sto w (e x) (ρ x)) (l : List Operand) : Pw (RepD S gh sto w) (l.map e) (l.map ρ) := by
  refine ⟨by simp, fun j u d hu hd => ?_⟩
  rw [List.getElem?_map] at hu hd
  cases hx : l[j]? with
  | none => rw [hx] at hu; cases hu
  | some x =>
    rw [hx] at hu hd
    simp only [Option.map_some, Option.some.injEq] at hu hd
    subst hu; subst hd
    exact hρ x
theorem getObj_map {r : Nat} {es : Array MapEntry} {clock : Nat} (hb : w.heap[r]? = some (.map es clock)) : (getObj r).run P w = .ok (.map es clock) w := by simp [getObj, Sem.run, hb]
theorem lenD_sound (hs : SR S gh w sto) {v : Value} {d : D} {n : Nat} (h : RepD S gh sto w v d) (he : lenD sto d = some n) : ∃ a cap, v = .slice a n cap := by
  unfold lenD at he
  split at he
  · rename_i id m
    obtain ⟨_, ⟨a, c, rfl⟩, _⟩ := h
    split at he
    · split at he
      · simp only [Option.some.injEq] at he
        subst he
        exact ⟨a, c, rfl⟩
      · cases he
    · cases he
  · rename_i id n o m
    obtain ⟨_, ⟨a, c, rfl⟩, _⟩ := h
    simp only [Option.some.injEq] at he
    subst he
    exact ⟨a, c, rfl⟩
  · rename_i id o m
    obtain ⟨_, g, c, _, rfl, _⟩ := h
    simp only [Option.some.injEq] at he
    subst he
    exact ⟨_, c, rfl⟩
  · split at he
    · rename_i m cs hv
      simp only [Option.some.injEq] at he
      subst he
      have hc : RepC S gh sto w v d := by
        cases d with
        | agg ds => simp [viewC] at hv
        | tupD ds => simp [viewC] at hv
        | _ => exact h
      obtain ⟨a, cap, rfl, _⟩ := RepV.sl_inv (viewC_rep hs hc hv)
      exact ⟨a, cap, rfl⟩
    · cases he
theorem viewLD_rep (hs : SR S gh w sto) : ∀ (us : List Value) (ds : List D) (xs : List V), Pw (RepD S gh sto w) us ds → viewL sto ds = some xs → Pw (RepV S w) us xs
  | [], [], xs, _, h => by simp only [viewL, Option.some.injEq] at h; subst h; exact Pw.nil
  | [], _ :: _, _, h, _ => by have := h.1; simp at this
  | _ :: _, [], _, h, _ => by have := h.1; simp at this
  | u :: us, d :: ds, xs, hp, h => by
    simp only [viewL] at h
    split at h
    · rename_i x xs' h1 h2
      simp only [Option.some.injEq] at h
      subst h
      have h0 := hp.2 0 u d rfl rfl
      have hc : RepC S gh sto w u d := by
        cases d with
        | agg ds => simp [viewC] at h1
        | tupD ds => simp [viewC] at h1
        | _ => exact h0
      exact Pw.cons (viewC_rep hs hc h1) (viewLD_rep hs us ds xs' (by have := hp.drop 1; simpa using this) h2)
    · cases h
theorem minMax_run (mx : Bool) : ∀ (l : List V) (us : List Value) (k : IntKind) (x : Int) (r : V), Pw (RepV S w) us l →
    l.foldlM (mm2 mx) (.int k x) = some r →
    (us.foldlM (if mx then Builtin.max2 else Builtin.min2) (.int k x)).run P w = .ok (match r with | .int k n => .int k n | _ => undef) w ∧ ∃ k n, r = .int k n
  | [], us, k, x, r, h, he => by
    have : us = [] := List.length_eq_zero_iff.1 h.1
    subst this
    simp only [List.foldlM_nil, Option.pure_def, Option.some.injEq] at he
    subst he
    exact ⟨by simp, k, x, rfl⟩
  | b :: l, [], k, x, r, h, he => by have := h.1; simp at this
  | b :: l, u :: us, k, x, r, h, he => by
    have h0 := h.2 0 u b rfl rfl
    have h1 : Pw (RepV S w) us l := by have := h.drop 1; simpa using this
    simp only [List.foldlM_cons, Option.bind_eq_bind] at he
    cases b with
    | int k' y =>
      obtain rfl := RepV.int_inv h0
      simp only [mm2, Option.bind_some] at he
      obtain ⟨r1, r2⟩ := minMax_run mx l us k _ r h1 he
      refine ⟨?_, r2⟩
      rw [List.foldlM_cons, Sem.run_bind]
      cases mx with
      | true =>
        simp only [if_true] at r1 ⊢
        simp only [Builtin.max2, Sem.run_pure, Result.andThen_ok]
        exact r1
      | false =>
        simp only [Bool.false_eq_true, if_false] at r1 ⊢
        simp only [Builtin.min2, Sem.run_pure, Result.andThen_ok]
        exact r1
    | _ => simp [mm2] at he
theorem mm_sound {mx : Bool} {l : List V} {us : List Value} {r : V} (h : Pw (RepV S w) us l) (he : evMM mx l = some r) (ty : TypeId) (ts : Array TypeId) : ∃ u, ((if mx then Builtin.max_ else Builtin.min_) ts ty us.toArray).run P w = .ok u w ∧ RepV S w u r := by
  unfold evMM at he
  split at he
  · rename_i k x rest
    cases us with
    | nil => have := h.1; simp at this
    | cons u us =>
      obtain rfl := RepV.int_inv (h.2 0 u _ rfl rfl)
      have h1 : Pw (RepV S w) us rest := by have := h.drop 1; simpa using this
      obtain ⟨r1, k', n, rfl⟩ := minMax_run (P := P) mx rest us k x r h1 he
      refine ⟨.int k' n, ?_, RepV.int _ _⟩
      cases mx with
      | true => simp only [if_true] at r1 ⊢; exact r1
      | false => simp only [Bool.false_eq_true, if_false] at r1 ⊢; exact r1
  · cases he
theorem capId_sound : ∀ (us : List Value) (ds : List D) (ids : List Nat), Pw (RepD S gh sto w) us ds → capId ds = some ids → us.length = ids.length ∧ ∀ (j id : Nat), ids[j]? = some id → id < sto.length ∧ ∃ g, gh[id]? = some (.pointer (some ⟨g, 0, none⟩)) ∧ us[j]? = some (.pointer (some ⟨g, 0, none⟩))
  | us, [], ids, h, he => by
    simp only [capId, Option.some.injEq] at he
    subst he
    exact ⟨h.1, fun j id hj => by simp at hj⟩
  | us, d :: ds, ids, h, he => by
    unfold capId at he
    split at he
    · rename_i h0; cases h0
    · rename_i id rest h0
      simp only [List.cons.injEq] at h0
      obtain ⟨rfl, rfl⟩ := h0
      cases us with
      | nil => have := h.1; simp at this
      | cons u us =>
        cases hc : capId ds with
        | none => rw [hc] at he; cases he
        | some l =>
          rw [hc] at he
          simp only [Option.map_some, Option.some.injEq] at he
          subst he
          obtain ⟨l1, l2⟩ := capId_sound us ds l (by have := h.drop 1; simpa using this) hc
          refine ⟨by simp [l1], fun j id' hj => ?_⟩
          cases j with
          | zero =>
            simp only [List.getElem?_cons_zero, Option.some.injEq] at hj
            subst hj
            have h0 : RepC S gh sto w u (.ptr id 0) := h.2 0 u _ rfl rfl
            obtain ⟨a, g, b, c⟩ := h0
            exact ⟨a, g, b, by simp [c]⟩
          | succ j => exact l2 j id' (by simpa using hj)
    · cases he
variable (hT : T.OK P)
include hT
theorem evBuiltin_sound (hs : SR S gh w sto) {b : Builtin} {ts : Array TypeId} {ds : List D} {us : List Value} {d : D} (h : Pw (RepD S gh sto w) us ds) (ty : TypeId) (cs : Array Bool) (he : evBuiltin T sto b ts ds = some d) : ∃ u, (builtin b ts ty cs us.toArray).run P w = .ok (.value u) w ∧ RepD S gh sto w u d := by
  unfold evBuiltin at he
  split at he
  · split at he
    · rename_i x d0 e hk
      obtain ⟨u, rfl⟩ : ∃ u, us = [u] := by
        have := h.1
        match us, this with
        | [u], _ => exact ⟨u, rfl⟩
      have h0 := h.2 0 u d0 rfl rfl
      obtain ⟨t, ht, hk'⟩ := Option.bind_eq_some_iff.1 hk
      have hu := kd_slice hT hk'
      cases hl : lenD sto d0 with
      | none => rw [hl] at he; cases he
      | some n =>
        rw [hl] at he
        obtain rfl : D.v (.int .i64 n) = d := by simpa using he
        obtain ⟨a, cap, rfl⟩ := lenD_sound hs h0 hl
        refine ⟨.int .i64 n, ?_, RepV.int _ _⟩
        simp only [builtin, Sem.run_bind, Builtin.len_, ht, List.getElem?_toArray, List.getElem?_cons_zero, run_underlying hu, Result.andThen_ok, goInt, Sem.run_pure]
    · rename_i x s hk
      obtain ⟨u, rfl⟩ : ∃ u, us = [u] := by
        have := h.1
        match us, this with
        | [u], _ => exact ⟨u, rfl⟩
      obtain rfl := RepV.str_inv (h.2 0 u _ rfl rfl)
      obtain ⟨t, ht, hk'⟩ := Option.bind_eq_some_iff.1 hk
      have hu := kd_str hT hk'
      simp only [Option.some.injEq] at he
      subst he
      refine ⟨.int .i64 s.size, ?_, RepV.int _ _⟩
      simp only [builtin, Sem.run_bind, Builtin.len_, ht, List.getElem?_toArray, List.getElem?_cons_zero, run_underlying hu, Result.andThen_ok, goInt, Sem.run_pure]
    · rename_i x k e hk
      obtain ⟨u, rfl⟩ : ∃ u, us = [u] := by
        have := h.1
        match us, this with
        | [u], _ => exact ⟨u, rfl⟩
      have h0 : u = .map none := h.2 0 u _ rfl rfl
      subst h0
      obtain ⟨t, ht, hk'⟩ := Option.bind_eq_some_iff.1 hk
      have hu := kd_map hT hk'
      simp only [Option.some.injEq] at he
      subst he
      refine ⟨.int .i64 0, ?_, RepV.int _ _⟩
      simp only [builtin, Sem.run_bind, Builtin.len_, ht, List.getElem?_toArray, List.getElem?_cons_zero, run_underlying hu, Result.andThen_ok, goInt, Sem.run_pure]
    · rename_i x id k e hk
      obtain ⟨u, rfl⟩ : ∃ u, us = [u] := by
        have := h.1
        match us, this with
        | [u], _ => exact ⟨u, rfl⟩
      obtain ⟨_, g, hg, rfl⟩ : RepC S gh sto w u (.map id) := h.2 0 u _ rfl rfl
      obtain ⟨t, ht, hk'⟩ := Option.bind_eq_some_iff.1 hk
      have hu := kd_map hT hk'
      split at he
      · rename_i k0 kvs hes
        simp only [Option.some.injEq] at he
        subst he
        obtain ⟨gv, hgv, hE⟩ := hs.ent id _ hes
        rw [hg] at hgv
        cases hgv
        obtain ⟨g', es, clock, h1, h2, h3, -, h4, h5⟩ := hE
        cases h1
        refine ⟨.int .i64 kvs.length, ?_, RepV.int _ _⟩
        have hsz : es.size = kvs.length := by rw [← Array.length_toList]; exact h4
        simp only [builtin, Sem.run_bind, Builtin.len_, ht, List.getElem?_toArray, List.getElem?_cons_zero, run_underlying hu, getObj_map h2, Result.andThen_ok, goInt, Sem.run_pure, hsz]
      · cases he
    · cases he
  · cases hv : viewL sto ds with
    | none => rw [hv] at he; cases he
    | some l =>
      rw [hv] at he
      simp only [Option.bind_some] at he
      have hl := viewLD_rep hs us ds l h hv
      cases hm : evMM false l with
      | none => rw [hm] at he; cases he
      | some r =>
        rw [hm] at he
        simp only [Option.map_some, Option.some.injEq] at he
        subst he
        obtain ⟨u, e1, e2⟩ := mm_sound (P := P) hl hm ty ts
        simp only [Bool.false_eq_true, if_false] at e1
        exact ⟨u, by simp only [builtin, Sem.run_bind, e1, Result.andThen_ok, Sem.run_pure], e2⟩
  · cases hv : viewL sto ds with
    | none => rw [hv] at he; cases he
    | some l =>
      rw [hv] at he
      simp only [Option.bind_some] at he
      have hl := viewLD_rep hs us ds l h hv
      cases hm : evMM true l with
      | none => rw [hm] at he; cases he
      | some r =>
        rw [hm] at he
        simp only [Option.map_some, Option.some.injEq] at he
        subst he
        obtain ⟨u, e1, e2⟩ := mm_sound (P := P) hl hm ty ts
        simp only [if_true] at e1
        exact ⟨u, by simp only [builtin, Sem.run_bind, e1, Result.andThen_ok, Sem.run_pure], e2⟩
  · cases he
end
end Go.Proofs.Ytghdanpigohnjaa
