/- A pure evaluator over the program's own operations: values, the local store, and what each operation does to them. -/
import GoSem.Dispatch
import GoSem.Machine.Frame
import Derived.Lib.SlicesCompact
namespace Go.Dp

/-- Pure values. A row: the shape of its elements (0: one cell; n+1: a struct of n+1 cells), a flag (0: any, 1: no spare room, 2: nil, 3: not nil), its elements. -/
inductive PV where
  | int (k : IntKind) (n : Int)
  | bool (b : Bool)
  | str (s : ByteArray)
  | agg (cs : List PV)
  | row (sh f : Nat) (xs : List PV)
  deriving Inhabited

/-- A column of rows of one's own: its place among an element's cells, the rows' element type and shape, a version, the place that is out. -/
structure Kd where
  j : Nat
  e : Nat
  sh : Nat
  nv : Nat
  hole : Option Nat
  deriving Inhabited, DecidableEq
/-- An element type, perhaps with a column of rows of one's own. -/
structure Et where
  t : Nat
  kd : Option Kd
  deriving Inhabited, DecidableEq
/-- The column's version begins anew. -/
def Et.reset (e : Et) : Et := match e.kd with | none => e | some k => ⟨e.t, some { k with nv := 0 }⟩
instance : Coe Nat Et := ⟨fun n => ⟨n, none⟩⟩
instance (n : Nat) : OfNat Et n := ⟨⟨n, none⟩⟩
/-- Values of one cell, inside a call. -/
inductive CV where
  | undef
  | p (v : PV)
  | loc (id ver sh lo len : Nat)
  | bptr (id off : Nat)
  | aptr (id ver sh i off : Nat)
  | eptr (v : PV) (sh off : Nat)
  | fn (f : FuncId) (caps : List Nat)
  /-- where one call hands over to another: a row that nobody else has -/
  | own (e : Et) (sh : Nat) (xs : List PV)
  /-- a row out of an own row's column -/
  | nel (id ver nv i : Nat)
  deriving Inhabited

inductive SV where
  | c (v : CV)
  | agg (cs : List CV)
  deriving Inhabited

inductive AV where
  | s (v : SV)
  | tup (vs : List SV)
  deriving Inhabited

/-- The local store: variables in memory, and rows of the call's own (element type, shape, version, let go). -/
inductive AObj where
  | dead
  | box (cs : List CV)
  | arr (e : Et) (sh ver : Nat) (fz : Bool) (xs : List PV)
  deriving Inhabited

abbrev SV.p (v : PV) : SV := .c (.p v)
abbrev AV.p (v : PV) : AV := .s (.c (.p v))
abbrev AV.undef : AV := .s (.c .undef)

structure St where
  t : List AV
  o : List AObj

def PV.one : PV → Bool
  | .agg _ => false
  | _ => true
def PV.cells : PV → List PV
  | .agg cs => cs
  | v => [v]
/-- Has a value this shape? -/
def PV.shp : Nat → PV → Bool
  | 0, v => v.one
  | n + 1, .agg cs => cs.length == n + 1 && cs.all PV.one
  | _ + 1, _ => false
def csz (sh : Nat) : Nat := if sh = 0 then 1 else sh
def PV.cell (v : PV) (i : Nat) : Option PV := v.cells[i]?
def PV.bool? : PV → Option Bool
  | .bool b => some b
  | _ => none
def PV.int? : PV → Option Int
  | .int _ n => some n
  | _ => none

def PV.row? : PV → Option (Nat × Nat × List PV)
  | .row sh f xs => some (sh, f, xs)
  | _ => none
def PV.str? : PV → Option ByteArray
  | .str s => some s
  | _ => none

/-- What kind of value a cell holds, for values out of rows and calls; .any: nothing is told. -/
inductive CellT where
  | any
  | int (k : IntKind)
  | bool
  | str
  | row (sh : Nat)
  deriving Inhabited
inductive CT where
  | one (c : CellT)
  | agg (cs : List CellT)
  deriving Inhabited
def PV.asInt (k : IntKind) : PV → Option Int
  | .int k' n => bif decide (k' = k) then some n else none
  | _ => none
def PV.asRow (sh : Nat) : PV → Option (List PV)
  | .row s f xs => bif s == sh || f == 2 then some xs else none
  | _ => none
def PV.atInt (v : PV) (k : IntKind) (i : Nat) : Option Int := (v.cell i).bind (PV.asInt k)
def PV.atBool (v : PV) (i : Nat) : Option Bool := (v.cell i).bind PV.bool?
def PV.atStr (v : PV) (i : Nat) : Option ByteArray := (v.cell i).bind PV.str?
def PV.atRow (v : PV) (sh i : Nat) : Option (List PV) := (v.cell i).bind (PV.asRow sh)
/-- A value in the form that its kind has: an integer of that kind, a row of that shape (of which no more is told). -/
def castCell {α : Type} (ct : CellT) (v : PV) (K : PV → Option α) : Option α :=
  match ct with
  | .any => K v
  | .int k => (v.asInt k).bind fun n => K (.int k n)
  | .bool => v.bool?.bind fun b => K (.bool b)
  | .str => v.str?.bind fun s => K (.str s)
  | .row sh => (v.asRow sh).bind fun xs => K (.row sh 0 xs)
def castAt {α : Type} (ct : CellT) (v : PV) (i : Nat) (K : PV → Option α) : Option α :=
  match ct with
  | .any => (v.cell i).bind K
  | .int k => (v.atInt k i).bind fun n => K (.int k n)
  | .bool => (v.atBool i).bind fun b => K (.bool b)
  | .str => (v.atStr i).bind fun s => K (.str s)
  | .row sh => (v.atRow sh i).bind fun xs => K (.row sh 0 xs)
def castCells {α : Type} : List CellT → PV → Nat → (List PV → Option α) → Option α
  | [], _, _, K => K []
  | c :: cs, v, i, K => castAt c v i fun y => castCells cs v (i + 1) fun ys => K (y :: ys)
def castK {α : Type} (ct : CT) (v : PV) (K : PV → Option α) : Option α :=
  match ct with
  | .one c => castCell c v K
  | .agg cs => bif cs.length != 0 && v.shp cs.length then castCells cs v 0 fun ys => K (.agg ys) else none

/-- How a result, or a box's cell, is handed over: let go, or as a row of one's own (its element type and shape). -/
inductive Kind where
  | p (ct : CellT)
  | own (e : Et) (sh : Nat)
  deriving Inhabited
/-- A result: one cell, or a struct's cells. -/
inductive RK where
  | c (k : Kind)
  | agg (ks : List Kind)
  deriving Inhabited

/-- What the evaluator is told of the program's types: the soundness theorem asks that all of it is so. -/
structure Env where
  /-- a slice type's element type, its shape, its bytes -/
  sl : TypeId → Option (TypeId × Nat × Nat)
  /-- a type's shape -/
  sh : TypeId → Option Nat
  /-- a struct type's fields: offset, shape -/
  fl : TypeId → Nat → Option (Nat × Nat)
  /-- an integer type's kind -/
  ik : TypeId → Option IntKind
  /-- a type's zero value's cells -/
  zr : TypeId → Option (List PV)
  /-- a struct type of plain cells, that may be compared: the cells' kinds (0: int, 1: bool, 2: string) -/
  eqs : TypeId → Option (List Nat)
  bl : TypeId → Bool
  /-- the type string -/
  st : TypeId → Bool
  /-- has a type no reference inside? -/
  flat : TypeId → Bool
  /-- the slots that are wanted at a loop's head, by the block around it -/
  live : FuncId → Nat → List Nat
  /-- how a function hands back its results, and the boxes that it is handed -/
  rk : FuncId → List RK
  bk : FuncId → Option (List (List Kind))
  /-- do its results hold no reference? -/
  plain : FuncId → Bool
  /-- the kinds of what is loaded, and of a function's arguments -/
  ct : TypeId → CT
  ak : FuncId → List CT
  /-- at a loop's head: slots (none) and boxes' cells that are the call's own rows, also where they are nil: element type, shape -/
  own : FuncId → Nat → List (Option Nat × Nat × Et × Nat)
  /-- the regions before which all but the wanted slots is forgotten -/
  cut : FuncId → Nat → Option (List Nat)
  /-- by a slice type: the column of rows of one's own that it has where it is made -/
  nest : TypeId → Option Kd
  /-- library functions that turn a row of integers of one's own: 1: slices.Sort, else slices.Compact -/
  sorts : FuncId → Nat

def getT (t : List AV) (i : Nat) : AV := (t[i]?).getD .undef
def constAV : Value → AV
  | .int k n => .p (.int k n)
  | .bool b => .p (.bool b)
  | .string s => .p (.str s)
  | .slice none 0 0 => .p (.row 0 2 [])
  | _ => .undef
def aval (t : List AV) : Operand → AV
  | .tmp i => getT t i
  | .const v => constAV v
  | .func f => .s (.c (.fn f []))
  | .global _ => .undef
def AV.pv? : AV → Option PV
  | .s (.c (.p v)) => some v
  | _ => none
def AV.cv? : AV → Option CV
  | .s (.c v) => some v
  | _ => none
def AV.sv? : AV → Option SV
  | .s v => some v
  | _ => none
def AV.int? (a : AV) : Option Int := a.pv?.bind PV.int?
def AV.bool? (a : AV) : Option Bool := a.pv?.bind PV.bool?

/-! ### Operators -/
def bitsOp (op : BinOp) (k : IntKind) (x y : Int) : Int :=
  let a := BitVec.ofInt k.bits x
  let b := BitVec.ofInt k.bits y
  match op with
  | .and => k.wrap (a &&& b).toNat
  | .or => k.wrap (a ||| b).toNat
  | .xor => k.wrap (a ^^^ b).toNat
  | _ => k.wrap (a &&& ~~~b).toNat
def intBin (op : BinOp) (k : IntKind) (x y : Int) : Option PV :=
  match op with
  | .add => some (.int k (k.wrap (x + y)))
  | .sub => some (.int k (k.wrap (x - y)))
  | .mul => some (.int k (k.wrap (x * y)))
  | .quo => bif y == 0 then none else some (.int k (k.wrap (x.tdiv y)))
  | .rem => bif y == 0 then none else some (.int k (x.tmod y))
  | .and => some (.int k (bitsOp .and k x y))
  | .or => some (.int k (bitsOp .or k x y))
  | .xor => some (.int k (bitsOp .xor k x y))
  | .andNot => some (.int k (bitsOp .andNot k x y))
  | .eql => some (.bool (x == y))
  | .neq => some (.bool (x != y))
  | .lss => some (.bool (decide (x < y)))
  | .leq => some (.bool (decide (x ≤ y)))
  | .gtr => some (.bool (decide (x > y)))
  | .geq => some (.bool (decide (x ≥ y)))
  | _ => none
def shiftBin (op : BinOp) (k : IntKind) (x y : Int) : Option PV :=
  bif decide (y < 0) then none else
  match op with
  | .shl => some (.int k (k.wrap (x * 2 ^ (min y.toNat k.bits))))
  | .shr => some (.int k (x.fdiv (2 ^ (min y.toNat k.bits))))
  | _ => none
def strBin (op : BinOp) (x y : ByteArray) : Option PV :=
  match op with
  | .add => bif decide (x.size + y.size ≤ 9223372036854775807) then some (.str (x ++ y)) else none
  | .eql => some (.bool (x.toList == y.toList))
  | .neq => some (.bool !(x.toList == y.toList))
  | _ => none
/-- Are two flat values the same, cell by cell? -/
def cellEq : Nat → PV → PV → Option Bool
  | 0, .int k a, .int k' b => if k = k' then some (a == b) else none
  | 1, .bool a, .bool b => some (a == b)
  | 2, .str a, .str b => some (a.toList == b.toList)
  | _, _, _ => none
def cellsEq : List Nat → List PV → List PV → Option Bool
  | [], [], [] => some true
  | k :: ks, a :: as, b :: bs => match cellEq k a b, cellsEq ks as bs with
    | some x, some y => some (x && y)
    | _, _ => none
  | _, _, _ => none
def boolBin (bl : Bool) (op : BinOp) (x y : Bool) : Option PV :=
  match op with
  | .eql => bif bl then some (.bool (x == y)) else none
  | .neq => bif bl then some (.bool !(x == y)) else none
  | _ => none
def pbin (op : BinOp) : PV → PV → Option PV
  | .int k x, .int k' y =>
    match op with
    | .shl => shiftBin .shl k x y
    | .shr => shiftBin .shr k x y
    | op => if k = k' then intBin op k x y else none
  | .str x, .str y => strBin op x y
  | _, _ => none
/-- The same, structs of plain cells too. -/
def pbinT (eqs : Option (List Nat)) (bl : Bool) (op : BinOp) (a b : PV) : Option PV :=
  match a, b with
  | .agg as, .agg bs =>
    match op, eqs with
    | .eql, some ks => (cellsEq ks as bs).map .bool
    | .neq, some ks => (cellsEq ks as bs).map fun b => .bool !b
    | _, _ => none
  | .bool x, .bool y => boolBin bl op x y
  | a, b => pbin op a b
def shlI (k : IntKind) (x y : Int) : Int := k.wrap (x * 2 ^ (min y.toNat k.bits))
def shrI (k : IntKind) (x y : Int) : Int := x.fdiv (2 ^ (min y.toNat k.bits))
/-- The same, with what follows. -/
def binK {α : Type} (eqs : Option (List Nat)) (bl : Bool) (op : BinOp) (a b : PV) (K : PV → Option α) : Option α :=
  match a, b with
  | .int k x, .int k' y =>
    match op with
    | .quo => bif decide (k = k') && !(y == 0) then K (.int k (k.wrap (x.tdiv y))) else none
    | .rem => bif decide (k = k') && !(y == 0) then K (.int k (x.tmod y)) else none
    | .shl => bif !decide (y < 0) then K (.int k (shlI k x y)) else none
    | .shr => bif !decide (y < 0) then K (.int k (shrI k x y)) else none
    | op => (pbinT eqs bl op (.int k x) (.int k' y)).bind K
  | .str x, .str y =>
    match op with
    | .add => bif decide (x.size + y.size ≤ 9223372036854775807) then K (.str (x ++ y)) else none
    | op => (pbinT eqs bl op (.str x) (.str y)).bind K
  | a, b => (pbinT eqs bl op a b).bind K
theorem binK_eq {α : Type} (eqs : Option (List Nat)) (bl : Bool) (op : BinOp) (a b : PV) (K : PV → Option α) : binK eqs bl op a b K = (pbinT eqs bl op a b).bind K := by
  unfold binK
  split
  · rename_i k x k' y
    split
    · by_cases h : k = k' <;> cases hy : y == 0 <;> simp [pbinT, pbin, intBin, h, hy]
    · by_cases h : k = k' <;> cases hy : y == 0 <;> simp [pbinT, pbin, intBin, h, hy]
    · cases hy : decide (y < 0) <;> simp [pbinT, pbin, shiftBin, hy, shlI]
    · cases hy : decide (y < 0) <;> simp [pbinT, pbin, shiftBin, hy, shrI]
    · rfl
  · rename_i x y
    split
    · cases hy : decide (x.size + y.size ≤ 9223372036854775807) <;> simp [pbinT, pbin, strBin, hy]
    · rfl
  · rfl
/-- A row held against nil. -/
def nilEq (op : BinOp) (a b : PV) : Option Bool :=
  match op, a, b with
  | .eql, .row _ f _, .row _ g [] => bif g == 2 then (bif f == 2 then some true else bif f == 3 then some false else none) else none
  | .neq, .row _ f _, .row _ g [] => bif g == 2 then (bif f == 2 then some false else bif f == 3 then some true else none) else none
  | _, _, _ => none
def minI (x y : Int) : Int := bif decide (y < x) then y else x
def maxI (x y : Int) : Int := bif decide (y > x) then y else x
def pun (op : UnOp) : PV → Option PV
  | .int k n =>
    match op with
    | .neg => some (.int k (k.wrap (0 - n)))
    | .xor => some (.int k (bitsOp .xor k (if k.signed then -1 else k.max) n))
    | _ => none
  | .bool b =>
    match op with
    | .not => some (.bool !b)
    | _ => none
  | _ => none

/-! ### The store -/
def setO (o : List AObj) (id : Nat) (x : AObj) : List AObj := o.set id x
/-- A slice of the call's own, as a pure row. -/
def viewLoc (o : List AObj) (id ver sh lo len : Nat) : Option PV :=
  match o[id]? with
  | some (.arr e sh' ver' _ xs) => bif ver == ver' && sh == sh' && e.kd.isNone then some (.row sh 0 ((xs.drop lo).take len)) else none
  | _ => none
def viewC (o : List AObj) : CV → Option PV
  | .p v => some v
  | .loc id ver sh lo len => viewLoc o id ver sh lo len
  | _ => none
def freezeO (o : List AObj) (id : Nat) : List AObj :=
  match o[id]? with
  | some (.arr e sh ver _ xs) => match e.kd with
    | none => o.set id (.arr e sh ver true xs)
    | some k => bif k.hole.isNone then o.set id (.arr e.t sh ver true xs) else o
  | _ => o
/-- A cell's value let go: from now on nobody writes its row. -/
def freezeC (o : List AObj) : CV → Option (PV × List AObj)
  | .p v => some (v, o)
  | .loc id ver sh lo len => (viewLoc (freezeO o id) id ver sh lo len).map fun v => (v, freezeO o id)
  | _ => none
def freezeCs (o : List AObj) : List CV → Option (List PV × List AObj)
  | [] => some ([], o)
  | c :: cs => (freezeC o c).bind fun (v, o1) => (freezeCs o1 cs).bind fun (vs, o2) => some (v :: vs, o2)
def freezeS (o : List AObj) : SV → Option (PV × List AObj)
  | .c v => freezeC o v
  | .agg cs => (freezeCs o cs).bind fun (vs, o1) => some (.agg vs, o1)
/-- Is this slice told by its row as the row now is? -/
def cur (o : List AObj) (id ver sh : Nat) : Bool :=
  match o[id]? with
  | some (.arr _ sh' ver' _ _) => ver == ver' && sh == sh'
  | _ => false
def isBox (o : List AObj) (id : Nat) : Bool := match o[id]? with | some (.box _) => true | _ => false
/-- Is a cell's value one of which something is known? -/
def okC (o : List AObj) : CV → Bool
  | .loc id ver sh _ _ => cur o id ver sh
  | .bptr id _ => isBox o id
  | .aptr id ver sh _ _ => cur o id ver sh
  | .p _ => true
  | .eptr .. => true
  | .fn .. => true
  | .undef => false
  | .own .. => false
  | .nel .. => false
/-- The cells of a value of a shape. -/
def cellsK {α : Type} (o : List AObj) (sh : Nat) (v : SV) (K : List CV → Option α) : Option α :=
  match v with
  | .agg cs => bif sh == cs.length && sh != 0 then K cs else none
  | .c c => match c with
    | .p v => bif v.shp sh then K (match sh with | 0 => [.p v] | n + 1 => (List.range (n + 1)).map fun i => .p ((v.cell i).getD (.bool false))) else none
    | c => bif sh == 0 && okC o c then K [c] else none
def allP : List CV → Option (List PV)
  | [] => some []
  | .p v :: cs => (allP cs).map (v :: ·)
  | _ :: _ => none
def mkAgg (cs : List CV) : SV := match allP cs with | some vs => .c (.p (.agg vs)) | none => .agg cs
/-- A value of a shape out of a variable's cells. -/
def ofCells (sh : Nat) (cs : List CV) : Option SV :=
  match sh with
  | 0 => cs[0]?.map .c
  | n + 1 => bif decide (n + 1 ≤ cs.length) then some (mkAgg (cs.take (n + 1))) else none
/-- A part of an element. -/
def partP (v : PV) (vsh off sh : Nat) : Option PV :=
  match sh with
  | 0 => v.cell off
  | n + 1 => bif off == 0 && vsh == n + 1 then some v
    else bif decide (off + (n + 1) ≤ v.cells.length) && vsh != 0 then some (.agg ((v.cells.drop off).take (n + 1))) else none
def splice (cs : List CV) (off : Nat) (ns : List CV) : Option (List CV) :=
  bif decide (off + ns.length ≤ cs.length) then some (cs.take off ++ ns ++ cs.drop (off + ns.length)) else none
/-- An element with a part written anew. -/
def putPart (v : PV) (vsh off : Nat) (x : PV) (sh : Nat) : Option PV :=
  bif off == 0 && vsh == sh then some x
  else match sh with
    | 0 => bif decide (off < v.cells.length) && vsh != 0 && x.one then some (.agg (v.cells.set off x)) else none
    | _ => none

def LIM : Nat := 140737488355328

/-! ### Local operations, each with what follows: a value, and the store -/
abbrev R := Option (List SV × List (List CV))
abbrev Kt := AV → List AObj → R
def pureK (v : Option PV) (o : List AObj) (K : Kt) : R := v.bind fun v => K (.p v) o

def loadP (ct : CT) (v : PV) (vsh off sh : Nat) (K : PV → R) : R :=
  match sh, ct with
  | 0, .one c => castAt c v off K
  | _, ct => (partP v vsh off sh).bind fun u => castK ct u K
def opLoad (E : Env) (T : TypeId) (a : AV) (o : List AObj) (K : Kt) : R :=
  match a.cv?, E.sh T with
  | some (.bptr id off), some sh =>
    match o[id]? with
    | some (.box cs) => (ofCells sh (cs.drop off)).bind fun v => K (.s v) o
    | _ => none
  | some (.aptr id ver vsh i off), some sh =>
    match o[id]? with
    | some (.arr e sh' ver' _ xs) => match e.kd with
      | none => bif ver == ver' && vsh == sh' then (xs[i]?).bind fun x => loadP (E.ct T) x vsh off sh fun u => K (.p u) o else none
      | some k => bif ver == ver' && vsh == sh' && sh == 0 && off == k.j && k.hole.isNone then K (.s (.c (.nel id ver k.nv i))) o else none
    | _ => none
  | some (.eptr v vsh off), some sh => loadP (E.ct T) v vsh off sh fun u => K (.p u) o
  | _, _ => none
/-- Is a store of this part none to an own column? -/
def stays (e : Et) (off sh : Nat) : Bool := match e.kd with | none => true | some k => sh == 0 && off != k.j
def opStore (E : Env) (T : TypeId) (a x : AV) (o : List AObj) (K : Kt) : R :=
  match a.cv?, E.sh T, x.sv? with
  | some (.bptr id off), some sh, some x =>
    match o[id]? with
    | some (.box cs) => cellsK o sh x fun ns => (splice cs off ns).bind fun cs' => K .undef (o.set id (.box cs'))
    | _ => none
  | some (.aptr id ver vsh i off), some sh, some x =>
    (freezeS o x).bind fun (v, o1) =>
    match o1[id]? with
    | some (.arr e sh' ver' false xs) => bif ver == ver' && vsh == sh' && v.shp sh && stays e off sh then
        (xs[i]?).bind fun y => (putPart y vsh off v sh).bind fun z => K .undef (o1.set id (.arr e sh' ver' false (xs.set i z))) else none
    | _ => none
  | _, _, _ => none
/-- A row of one's own goes back to its place in a column. -/
def opGive (E : Env) (T : TypeId) (a x : AV) (o : List AObj) (K : Kt) : R :=
  match a.cv?, E.sh T, x.cv? with
  | some (.aptr id ver vsh i off), some 0, some (.loc id2 ver2 sh2 lo len) =>
    match o[id]?, o[id2]? with
    | some (.arr e sh' ver' false xs), some (.arr e2 sh2' ver2' false ys) =>
      match e.kd with
      | some k => (xs[i]?).bind fun y => bif ver == ver' && vsh == sh' && off == k.j && ver2 == ver2' && sh2 == sh2' && lo == 0 && sh2 == k.sh && e2 == (k.e : Et) && id != id2 && k.hole == some i && decide (len ≤ ys.length) then
          (putPart y vsh off (.row k.sh 0 (ys.take len)) 0).bind fun z => K .undef ((o.set id (.arr ⟨e.t, some { k with nv := k.nv + 1, hole := none }⟩ sh' ver' false (xs.set i z))).set id2 .dead) else none
      | none => none
    | _, _ => none
  | _, _, _ => none
/-- Is this a store to a column's place? -/
def givesTo (o : List AObj) (a x : AV) : Bool :=
  match a.cv?, x.cv? with
  | some (.aptr id _ _ _ off), some (.loc ..) => match o[id]? with
    | some (.arr e _ _ _ _) => match e.kd with
      | some k => off == k.j
      | none => false
    | _ => false
  | _, _ => false
def opFieldAddr (E : Env) (T : TypeId) (a : AV) (f : Nat) (o : List AObj) (K : Kt) : R :=
  match a.cv?, E.fl T f with
  | some (.bptr id off), some (fo, _) => bif isBox o id then K (.s (.c (.bptr id (off + fo)))) o else none
  | some (.aptr id ver sh i off), some (fo, _) => bif cur o id ver sh then K (.s (.c (.aptr id ver sh i (off + fo)))) o else none
  | some (.eptr v sh off), some (fo, _) => K (.s (.c (.eptr v sh (off + fo)))) o
  | _, _ => none
def lookP (xs : List PV) (n : Int) : Option PV := bif decide (0 ≤ n) then xs[n.toNat]? else none
def byteAt (s : ByteArray) (n : Int) : Option Int := bif decide (0 ≤ n) then (s.data.toList[n.toNat]?).bind fun b => some (b.toNat : Int) else none
def opIndexAddr (E : Env) (T : TypeId) (a i : AV) (o : List AObj) (K : Kt) : R :=
  match a.cv?, E.sl T with
  | some (.p v), some (_, sh', _) =>
    v.row?.bind fun q => bif q.1 == sh' then i.int?.bind fun n => (lookP q.2.2 n).bind fun x => K (.s (.c (.eptr x sh' 0))) o else none
  | some (.loc id ver sh lo len), some (_, sh', _) =>
    i.int?.bind fun n => bif sh == sh' && cur o id ver sh && decide (0 ≤ n) && decide (n < len) then K (.s (.c (.aptr id ver sh (lo + n.toNat) 0))) o else none
  | _, _ => none
def opIndex (E : Env) (T : TypeId) (a i : AV) (o : List AObj) (K : Kt) : R :=
  match a.pv?, E.st T with
  | some v, true => v.str?.bind fun s => i.int?.bind fun n => (byteAt s n).bind fun b => K (.p (.int .u8 b)) o
  | _, _ => none
def bound? : Option AV → Option (Option Int)
  | none => some none
  | some a => a.int?.map some
def sliceStr (s : ByteArray) (lo hi : Int) (o : List AObj) (K : Kt) : R :=
  bif decide (0 ≤ lo) && decide (lo ≤ hi) && decide (hi ≤ s.size) then K (.p (.str (s.extract lo.toNat hi.toNat))) o else none
def sliceRow (sh f : Nat) (xs : List PV) (lo hi : Int) (o : List AObj) (K : Kt) : R :=
  bif decide (0 ≤ lo) && decide (lo ≤ hi) && decide (hi ≤ xs.length) then K (.p (.row sh f ((xs.take hi.toNat).drop lo.toNat))) o else none
def sliceLoc (id ver sh l0 len : Nat) (lo hi : Int) (o : List AObj) (K : Kt) : R :=
  bif decide (0 ≤ lo) && decide (lo ≤ hi) && decide (hi ≤ len) then K (.s (.c (.loc id ver sh (l0 + lo.toNat) (hi.toNat - lo.toNat)))) o else none
def boundK (a : Option AV) (d : Int) (K : Int → R) : R :=
  match a with
  | none => K d
  | some a => a.int?.bind K
def opSlice (E : Env) (T : TypeId) (a : AV) (lo hi mx : Option AV) (o : List AObj) (K : Kt) : R :=
  match a.cv?, mx with
  | some (.p v), none =>
    match E.st T, E.sl T with
    | true, _ => v.str?.bind fun s => boundK lo 0 fun l => boundK hi s.size fun h => sliceStr s l h o K
    | false, some (_, sh', _) => v.row?.bind fun q => bif q.1 == sh' || q.2.1 == 2 then boundK lo 0 fun l => boundK hi q.2.2.length fun h => sliceRow q.1 (bif q.2.1 == 2 then 2 else 0) q.2.2 l h o K else none
    | _, _ => none
  | some (.loc id ver sh l0 len), none =>
    match E.sl T with
    | some (_, sh', _) => bif sh == sh' && cur o id ver sh then boundK lo 0 fun l => boundK hi len fun h => sliceLoc id ver sh l0 len l h o K else none
    | none => none
  | some (.p v), some m =>
    match hi, E.sl T with
    | some h, some (_, sh', _) => v.row?.bind fun q => bif q.1 == sh' || q.2.1 == 2 then boundK lo 0 fun l => h.int?.bind fun h => m.int?.bind fun m => bif m == h then sliceRow q.1 (bif q.2.1 == 2 then 2 else 1) q.2.2 l h o K else none else none
    | _, _ => none
  | _, _ => none
def opConvert (E : Env) (src dst : TypeId) (a : AV) (o : List AObj) (K : Kt) : R :=
  match E.ik src, E.ik dst with
  | some _, some k => a.int?.bind fun n => K (.p (.int k (k.wrap n))) o
  | _, _ => none
def opAlloc (E : Env) (T : TypeId) (o : List AObj) (K : Kt) : R :=
  (E.zr T).bind fun z => K (.s (.c (.bptr o.length 0))) (o ++ [.box (z.map .p)])
def opBox (E : Env) (T : TypeId) (a : AV) (o : List AObj) (K : Kt) : R :=
  match a.sv?, E.sh T with
  | some x, some sh => cellsK o sh x fun cs => K (.s (.c (.bptr o.length 0))) (o ++ [.box cs])
  | _, _ => none
def buildIn (E : Env) (T : TypeId) (t : List AV) (o : List AObj) : List (Nat × Operand) → List CV → (List CV → R) → R
  | [], cs, K => K cs
  | (i, x) :: ps, cs, K =>
    match E.fl T i, (aval t x).sv? with
    | some (off, sh), some v => cellsK o sh v fun ns => (splice cs off ns).bind fun cs' => buildIn E T t o ps cs' K
    | _, _ => none
def opBuild (E : Env) (T : TypeId) (t : List AV) (ps : List (Nat × Operand)) (o : List AObj) (K : Kt) : R :=
  match E.zr T, E.sh T with
  | some z, some (_ + 1) => buildIn E T t o ps (z.map .p) fun cs => K (.s (mkAgg cs)) o
  | _, _ => none
def elemsIn (sh : Nat) (t : List AV) : Nat → List (Nat × Operand) → List AObj → (List PV → List AObj → R) → R
  | _, [], o, K => K [] o
  | n, (i, x) :: ps, o, K =>
    bif i == n then
      ((aval t x).sv?).bind fun v => (freezeS o v).bind fun (y, o1) =>
        bif y.shp sh then elemsIn sh t (n + 1) ps o1 fun ys o2 => K (y :: ys) o2 else none
    else none
def opBuildSlice (E : Env) (T : TypeId) (n : Nat) (t : List AV) (ps : List (Nat × Operand)) (o : List AObj) (K : Kt) : R :=
  match E.sl T with
  | some (e, sh, _) =>
    bif ps.length == n && decide (n * csz sh ≤ 16777216) then
      elemsIn sh t 0 ps o fun ys o1 => K (.s (.c (.loc o1.length 0 sh 0 n))) (o1 ++ [.arr e sh 0 false ys]) else none
  | none => none
/-- The element type of a new row, with the column that it has by its slice type, if the zero value is nil there. -/
def newEt (E : Env) (T : TypeId) (e : Nat) (z : List PV) : Et :=
  match E.nest T with
  | none => e
  | some k => match z[k.j]? with
    | some (.row s f []) => bif f == 2 && s == k.sh then ⟨e, some { k with nv := 0, hole := none }⟩ else e
    | _ => e
/-- An element out of a type's zero cells. -/
def zeroEl (sh : Nat) (z : List PV) : PV := match sh with | 0 => (z[0]?).getD (.bool false) | _ => .agg z
/-- One element whose column's row is one of one's own, as a row with a column. -/
def opBuildNest (E : Env) (T : TypeId) (n : Nat) (t : List AV) (ps : List (Nat × Operand)) (o : List AObj) (K : Kt) : R :=
  match E.nest T, E.sl T, ps with
  | some k, some (e, sh, _), [(i, x)] =>
    match (aval t x).sv? with
    | some (.agg cs) => match cs[k.j]? with
      | some (.loc id2 ver2 sh2 lo len) => match o[id2]? with
        | some (.arr e2 sh2' ver2' false ys) =>
          bif i == 0 && n == 1 && decide (csz sh ≤ 16777216) && ver2 == ver2' && sh2 == sh2' && lo == 0 && sh2 == k.sh && e2 == (k.e : Et) && decide (len ≤ ys.length) then
            (allP (cs.set k.j (.p (.row k.sh 0 (ys.take len))))).bind fun vs =>
              bif (PV.agg vs).shp sh then K (.s (.c (.loc o.length 0 sh 0 1))) ((o.set id2 .dead) ++ [.arr ⟨e, some { k with nv := 0, hole := none }⟩ sh 0 false [.agg vs]]) else none
          else none
        | _ => none
      | _ => none
    | _ => none
  | _, _, _ => none
/-- Is this such a row? -/
def nestEl (E : Env) (T : TypeId) (t : List AV) (ps : List (Nat × Operand)) : Bool :=
  match E.nest T, ps with
  | some k, [(_, x)] => match (aval t x).sv? with
    | some (.agg cs) => match cs[k.j]? with
      | some (.loc ..) => true
      | _ => false
    | _ => false
  | _, _ => false
def isNest (o : List AObj) (id : Nat) : Bool := match o[id]? with | some (.arr e _ _ _ _) => e.kd.isSome | _ => false
def opMakeSlice (E : Env) (T : TypeId) (l c : AV) (o : List AObj) (K : Kt) : R :=
  match E.sl T with
  | some (e, sh, by_) =>
    (E.zr e).bind fun z => l.int?.bind fun l => c.int?.bind fun c =>
    bif l == c && decide (0 ≤ l) && decide (l.toNat * by_ ≤ LIM) && decide (l.toNat ≤ LIM) then
      bif (zeroEl sh z).shp sh then K (.s (.c (.loc o.length 0 sh 0 l.toNat))) (o ++ [.arr (newEt E T e z) sh 0 false (List.replicate l.toNat (zeroEl sh z))]) else none
    else none
  | none => none
def opExtract (a : AV) (i : Nat) (o : List AObj) (K : Kt) : R :=
  match a with
  | .tup vs => (vs[i]?).bind fun v => K (.s v) o
  | _ => none
def capIds (t : List AV) : List Operand → Option (List Nat)
  | [] => some []
  | x :: xs => match (aval t x).cv? with
    | some (.bptr id 0) => (capIds t xs).map (id :: ·)
    | _ => none
def opMakeFunc (fn : Fn) (first caps : List Operand) (t : List AV) (o : List AObj) (K : Kt) : R :=
  match fn, first with
  | .func f, [] => (capIds t caps).bind fun ids => K (.s (.c (.fn f ids))) o
  | _, _ => none
def opLen (E : Env) (T : TypeId) (a : AV) (o : List AObj) (K : Kt) : R :=
  match a.cv? with
  | some (.p v) => match E.st T, E.sl T with
    | true, _ => v.str?.bind fun s => K (.p (.int .i64 s.size)) o
    | false, some _ => v.row?.bind fun q => K (.p (.int .i64 q.2.2.length)) o
    | _, _ => none
  | some (.loc id ver sh _ len) => bif (E.sl T).isSome && cur o id ver sh then K (.p (.int .i64 len)) o else none
  | _ => none
/-- What an append's second argument brings. -/
def newsOf (sh : Nat) (v : PV) : Option (List PV) := v.row?.bind fun q => bif sh == q.1 || q.2.2.isEmpty then some q.2.2 else none
def appendTo (e sh by_ : Nat) (a : CV) (ys : List PV) (o : List AObj) (K : Kt) : R :=
  match a with
  | .p v =>
    v.row?.bind fun q =>
      bif ys.isEmpty then K (.p (.row q.1 (bif q.2.1 == 2 then 2 else 0) q.2.2)) o
      else bif (q.2.1 == 2 || (q.2.1 == 1 && sh == q.1)) && decide ((q.2.2.length + ys.length) * by_ ≤ LIM) && decide (q.2.2.length + ys.length ≤ LIM) then
        K (.s (.c (.loc o.length 0 sh 0 (q.2.2.length + ys.length)))) (o ++ [.arr e sh 0 false (q.2.2 ++ ys)]) else none
  | .loc id ver sh' lo len =>
    match o[id]? with
    | some (.arr e' sh'' ver' false xs) =>
      bif lo == 0 && ver == ver' && sh == sh' && sh == sh'' && (e : Et) == e' && decide ((len + ys.length) * by_ ≤ LIM) && decide (len + ys.length ≤ LIM) then
        K (.s (.c (.loc id (ver + 1) sh 0 (len + ys.length)))) (o.set id (.arr e sh (ver + 1) false (xs.take len ++ ys))) else none
    | _ => none
  | _ => none
/-- A column's row grown: it is out, as a row of its own. -/
def appendNel (e sh by_ : Nat) (id ver nv i : Nat) (ys : List PV) (o : List AObj) (K : Kt) : R :=
  match o[id]? with
  | some (.arr e' sh' ver' false xs) =>
    match e'.kd with
    | some k => bif ver == ver' && nv == k.nv && k.hole.isNone && k.e == e && k.sh == sh then
        (xs[i]?).bind fun x => (x.atRow sh k.j).bind fun zs =>
          bif decide ((zs.length + ys.length) * by_ ≤ LIM) && decide (zs.length + ys.length ≤ LIM) then
            K (.s (.c (.loc o.length 0 sh 0 (zs.length + ys.length)))) ((o.set id (.arr ⟨e'.t, some { k with nv := k.nv + 1, hole := some i }⟩ sh' ver' false xs)) ++ [.arr e sh 0 false (zs ++ ys)]) else none
        else none
    | none => none
  | _ => none
def opAppend (E : Env) (T : TypeId) (a b : AV) (o : List AObj) (K : Kt) : R :=
  match E.sl T, a.cv?, b.cv? with
  | some (e, sh, by_), some a, some b => (viewC o b).bind fun r => (newsOf sh r).bind fun ys => match a with
    | .nel id ver nv i => appendNel e sh by_ id ver nv i ys o K
    | a => appendTo e sh by_ a ys o K
  | _, _, _ => none

/-- A row with a column, and another one behind it that is used up. -/
def opAppendNest (E : Env) (T : TypeId) (a b : AV) (o : List AObj) (K : Kt) : R :=
  match E.sl T, a.cv?, b.cv? with
  | some (e, sh, by_), some (.loc id ver sh1 lo len), some (.loc id2 ver2 sh2 lo2 len2) =>
    match o[id]?, o[id2]? with
    | some (.arr e1 sh1' ver' false xs), some (.arr e2 sh2' ver2' false ys) =>
      match e1.kd, e2.kd with
      | some k1, some k2 =>
        bif e1.t == e && e2.t == e && k1.j == k2.j && k1.e == k2.e && k1.sh == k2.sh && k1.hole.isNone && k2.hole.isNone && sh == sh1 && sh == sh1' && sh == sh2 && sh == sh2' && ver == ver' && ver2 == ver2' && lo == 0 && lo2 == 0 && id != id2 && len2 == ys.length && len == xs.length
            && decide ((len + ys.length) * by_ ≤ LIM) && decide (len + ys.length ≤ LIM) then
          K (.s (.c (.loc id (ver + 1) sh 0 (len + ys.length)))) ((o.set id (.arr e1 sh (ver + 1) false (xs ++ ys))).set id2 .dead) else none
      | _, _ => none
    | _, _ => none
  | _, _, _ => none
def nestLoc (o : List AObj) (b : AV) : Bool := match b.cv? with | some (.loc id ..) => isNest o id | _ => false
def opCap (E : Env) (T : TypeId) (a : AV) (o : List AObj) (K : Kt) : R :=
  match a.pv?, E.sl T with
  | some v, some _ => v.row?.bind fun q => bif q.2.1 == 2 then K (.p (.int .i64 0)) o else none
  | _, _ => none
def opMin (mx : Bool) (a b : AV) (o : List AObj) (K : Kt) : R :=
  match a.pv?, b.pv? with
  | some (.int k x), some (.int _ y) => K (.p (.int k (bif mx then maxI x y else minI x y))) o
  | _, _ => none
/-- append of zeros (make) onto nil. -/
def opAppendZ (E : Env) (T T' : TypeId) (a b : AV) (o : List AObj) (K : Kt) : R :=
  match E.sl T, E.ik T', a.pv? with
  | some (e, sh, by_), some _, some v => v.row?.bind fun q => (E.zr e).bind fun z => b.int?.bind fun n =>
    bif (zeroEl sh z).shp sh && q.2.1 == 2 && decide (0 < n) && decide (n.toNat * by_ ≤ LIM) && decide (n.toNat ≤ LIM) then
      K (.s (.c (.loc o.length 0 sh 0 n.toNat))) (o ++ [.arr e sh 0 false (List.replicate n.toNat (zeroEl sh z))]) else none
  | _, _, _ => none

/-- The operations that neither part the ways nor call. -/
def evOp (E : Env) (op : Op) (s : St) (K : Kt) : R :=
  match op with
  | .move x | .assign x => K (aval s.t x) s.o
  | .alloc T => opAlloc E T s.o K
  | .box T x => opBox E T (aval s.t x) s.o K
  | .build T ps => opBuild E T s.t ps.toList s.o K
  | .buildSlice T n ps => bif nestEl E T s.t ps.toList then opBuildNest E T n s.t ps.toList s.o K else opBuildSlice E T n s.t ps.toList s.o K
  | .load T a => opLoad E T (aval s.t a) s.o K
  | .store T a x => bif givesTo s.o (aval s.t a) (aval s.t x) then opGive E T (aval s.t a) (aval s.t x) s.o K else opStore E T (aval s.t a) (aval s.t x) s.o K
  | .nilCheck x => match (aval s.t x).cv? with
    | some (.bptr id off) => bif isBox s.o id then K (.s (.c (.bptr id off))) s.o else none
    | _ => none
  | .binOp op T x y _ => match (aval s.t x).pv?, (aval s.t y).pv? with
    | some a, some b => match nilEq op a b with
      | some c => bif (E.sl T).isSome then K (.p (.bool c)) s.o else none
      | none => binK (E.eqs T) (E.bl T) op a b fun v => K (.p v) s.o
    | _, _ => none
  | .unOp op _ x => ((aval s.t x).pv?).bind fun a => pureK (pun op a) s.o K
  | .convert src dst x => opConvert E src dst (aval s.t x) s.o K
  | .makeFunc fn first caps => opMakeFunc fn first.toList caps.toList s.t s.o K
  | .makeSlice T l c => opMakeSlice E T (aval s.t l) (aval s.t c) s.o K
  | .slice T x lo hi mx => opSlice E T (aval s.t x) (lo.map (aval s.t)) (hi.map (aval s.t)) (mx.map (aval s.t)) s.o K
  | .fieldAddr T x f => opFieldAddr E T (aval s.t x) f s.o K
  | .indexAddr T x i => opIndexAddr E T (aval s.t x) (aval s.t i) s.o K
  | .index T x i => opIndex E T (aval s.t x) (aval s.t i) s.o K
  | .extract x i => opExtract (aval s.t x) i s.o K
  | .call c => match c.callee, c.args.toList, c.argTypes.toList with
    | .builtin .len, [x], [T] => opLen E T (aval s.t x) s.o K
    | .builtin .append, [x, y], [T, T'] => bif T == T' then (bif nestLoc s.o (aval s.t y) then opAppendNest E T (aval s.t x) (aval s.t y) s.o K else opAppend E T (aval s.t x) (aval s.t y) s.o K) else opAppendZ E T T' (aval s.t x) (aval s.t y) s.o K
    | .builtin .cap, [x], [T] => opCap E T (aval s.t x) s.o K
    | .builtin .min, [x, y], _ => opMin false (aval s.t x) (aval s.t y) s.o K
    | .builtin .max, [x, y], _ => opMin true (aval s.t x) (aval s.t y) s.o K
    | _, _, _ => none
  | _ => none

/-! ### Names of objects given anew -/
def idx (L : List Nat) (id : Nat) : Option Nat := L.idxOf? id
def idxs (L : List Nat) : List Nat → Option (List Nat)
  | [] => some []
  | i :: is => match idx L i, idxs L is with
    | some j, some js => some (j :: js)
    | _, _ => none
/-- A cell's value, told over the objects in L alone. -/
def renC (L : List Nat) (o : List AObj) : CV → CV
  | .p v => .p v
  | .loc id ver sh lo len =>
    match o[id]? with
    | some (.arr _ sh' ver' fz xs) =>
      bif ver == ver' && sh == sh' then
        bif fz then .p (.row sh 0 ((xs.drop lo).take len))
        else match idx L id with | some j => .loc j 0 sh lo len | none => .undef
      else .undef
    | _ => .undef
  | .bptr id off => match o[id]?, idx L id with | some (.box _), some j => .bptr j off | _, _ => .undef
  | .aptr .. => .undef
  | .eptr v sh off => .eptr v sh off
  | .fn f caps => match idxs L caps with | some js => bif caps.all (fun i => match o[i]? with | some (.box _) => true | _ => false) then .fn f js else .undef | none => .undef
  | .own .. => .undef
  | .nel .. => .undef
  | .undef => .undef
def renS (L : List Nat) (o : List AObj) : SV → SV
  | .c v => .c (renC L o v)
  | .agg cs => .agg (cs.map (renC L o))
def renA (L : List Nat) (o : List AObj) : AV → AV
  | .s v => .s (renS L o v)
  | .tup vs => .tup (vs.map (renS L o))
def renO (L : List Nat) (o : List AObj) : AObj → AObj
  | .dead => .dead
  | .box cs => .box (cs.map (renC L o))
  | .arr e sh _ fz xs => .arr e.reset sh 0 fz xs
def renSt (L : List Nat) (o : List AObj) : List AObj := L.map fun id => renO L o ((o[id]?).getD .dead)
/-- The objects that a value leads to. -/
def ptrsC : CV → List Nat
  | .bptr id _ => [id]
  | .fn _ caps => caps
  | _ => []
def locsC (o : List AObj) : CV → List Nat
  | .loc id ver _ _ _ => match o[id]? with | some (.arr _ _ ver' false _) => bif ver == ver' then [id] else [] | _ => []
  | _ => []
def cellsOfS : SV → List CV
  | .c v => [v]
  | .agg cs => cs
def cellsOfA : AV → List CV
  | .s v => cellsOfS v
  | .tup vs => vs.flatMap cellsOfS
def cellsOfO (o : List AObj) (id : Nat) : List CV := match o[id]? with | some (.box cs) => cs | _ => []
def add1 (l : List Nat) (i : Nat) : List Nat := bif l.contains i then l else l ++ [i]
def adds (l is : List Nat) : List Nat := is.foldl add1 l
/-- The boxes first (those at the head stay where they are), then the rows that they and the values lead to. -/
def reach (o : List AObj) (m : Nat) (cs : List CV) : List Nat :=
  let b1 := adds (List.range m) ((cs.flatMap ptrsC).filter (isBox o))
  let b2 := adds b1 (((b1.flatMap (cellsOfO o)).flatMap ptrsC).filter (isBox o))
  adds (adds b2 ((b2.flatMap (cellsOfO o)).flatMap (locsC o))) (cs.flatMap (locsC o))
/-- At a loop's head: the slots in 'live' stay, all else is forgotten. -/
def keepT (live : List Nat) : Nat → List AV → List AV
  | _, [] => []
  | i, v :: t => (bif live.contains i then v else .undef) :: keepT live (i + 1) t
def canon (m : Nat) (live : List Nat) (s : St) : St :=
  let t := keepT live 0 s.t
  let L := reach s.o m (t.flatMap cellsOfA)
  ⟨t.map (renA L s.o), renSt L s.o⟩

/-- May nil stand for such a row? -/
def nilEt (e : Et) (sh : Nat) : Bool := match e.kd with | none => true | some k => decide (k.j < csz sh) && k.hole.isNone
/-- A nil row as a row of one's own; where the element type is given as 0: a row as one of which no more is told. -/
def own1 (s : St) (q : Option Nat × Nat × Et × Nat) : St :=
  match q.1 with
  | none => match getT s.t q.2.1 with
    | .s (.c (.p (.row s' f xs))) => match q.2.2.1.t with
      | 0 => match PV.asRow q.2.2.2 (.row s' f xs) with
        | some ys => ⟨s.t.set q.2.1 (.s (.c (.p (.row q.2.2.2 0 ys)))), s.o⟩
        | none => s
      | _ => bif f == 2 && nilEt q.2.2.1 q.2.2.2 then ⟨s.t.set q.2.1 (.s (.c (.loc s.o.length 0 q.2.2.2 0 0))), s.o ++ [.arr q.2.2.1 q.2.2.2 0 false []]⟩ else s
    | _ => s
  | some j => match s.o[j]? with
    | some (.box cs) => match cs[q.2.1]? with
      | some (.p (.row s' f xs)) => match q.2.2.1.t with
        | 0 => match PV.asRow q.2.2.2 (.row s' f xs) with
          | some ys => ⟨s.t, s.o.set j (.box (cs.set q.2.1 (.p (.row q.2.2.2 0 ys))))⟩
          | none => s
        | _ => bif f == 2 && nilEt q.2.2.1 q.2.2.2 then ⟨s.t, ((s.o ++ [AObj.arr q.2.2.1 q.2.2.2 0 false []]) : List AObj).set j (.box (cs.set q.2.1 (.loc s.o.length 0 q.2.2.2 0 0)))⟩ else s
      | _ => s
    | _ => s
def head (m : Nat) (live : List Nat) (own : List (Option Nat × Nat × Et × Nat)) (s : St) : St :=
  match own with
  | [] => canon m live s
  | own => canon m live (own.foldl own1 (canon m live s))

/-! ### Code -/
inductive AExit where
  | normal
  | exit (n : Nat)
  | ret

structure Ctx where
  E : Env
  self : FuncId
  /-- a call: the function, its arguments, the boxes that it is handed -/
  call : FuncId → List AV → List (List CV) → R
  n : Nat
  m : Nat

def branch (t : List AV) (x : Operand) (K : Bool → List AV → R) : R :=
  match x with
  | .tmp i => ((getT t i).bool?).bind fun b => bif b then K true (t.set i (.p (.bool true))) else K false (t.set i (.p (.bool false)))
  | .const v => (constAV v).bool?.bind fun b => bif b then K true t else K false t
  | _ => none
def putD (t : List AV) (dst : Option Tmp) (v : AV) : List AV := match dst with | some d => t.set d v | none => t

/-! ### Handing over -/
/-- Is a row such as is asked for? One with a column goes out whole, nothing of it being out. -/
def sameEt (e e' : Et) (len n : Nat) : Bool := e.t == e'.t && match e.kd, e'.kd with
  | none, none => true
  | some k, some k' => k.j == k'.j && k.e == k'.e && k.sh == k'.sh && k.nv == 0 && k.hole.isNone && k'.hole.isNone && len == n
  | _, _ => false
/-- A cell on its way out. -/
def outC (k : Kind) (c : CV) (o : List AObj) (K : CV → List AObj → R) : R :=
  match k with
  | .p ct => (freezeC o c).bind fun (v, o1) => castCell ct v fun v => K (.p v) o1
  | .own e sh =>
    match c with
    | .p v => v.row?.bind fun q => bif q.2.1 == 2 && nilEt e sh then K (.own e sh []) o else none
    | .loc id ver sh' lo len =>
      match o[id]? with
      | some (.arr e' sh'' ver' false xs) => bif lo == 0 && ver == ver' && sh == sh' && sh == sh'' && sameEt e e' len xs.length then K (.own e sh (xs.take len)) (o.set id .dead) else none
      | _ => none
    | _ => none
def outCs : List Kind → List CV → List AObj → (List CV → List AObj → R) → R
  | [], [], o, K => K [] o
  | k :: ks, c :: cs, o, K => outC k c o fun d o1 => outCs ks cs o1 fun ds o2 => K (d :: ds) o2
  | _, _, _, _ => none
def outS (k : RK) (v : SV) (o : List AObj) (K : SV → List AObj → R) : R :=
  match k, v with
  | .c k, .c c => outC k c o fun d o1 => K (.c d) o1
  | .c (.p .any), .agg cs => (freezeCs o cs).bind fun (vs, o1) => K (.c (.p (.agg vs))) o1
  | .agg ks, v => cellsK o ks.length v fun cs => outCs ks cs o fun ds o1 => K (.agg ds) o1
  | _, _ => none
def outSs : List RK → List SV → List AObj → (List SV → List AObj → R) → R
  | [], [], o, K => K [] o
  | k :: ks, v :: vs, o, K => outS k v o fun d o1 => outSs ks vs o1 fun ds o2 => K (d :: ds) o2
  | _, _, _, _ => none
/-- The boxes out (at the places 'ids'). -/
def outBs : List (List Kind) → List Nat → List AObj → (List (List CV) → List AObj → R) → R
  | [], [], o, K => K [] o
  | ks :: kss, i :: is, o, K =>
    match o[i]? with
    | some (.box cs) => outCs ks cs o fun ds o1 => outBs kss is o1 fun dss o2 => K (ds :: dss) o2
    | _ => none
  | _, _, _, _ => none
/-- What comes in, piece by piece. -/
def asP : Option CV → Option PV
  | some (.p v) => some v
  | _ => none
def asOwn (e : Et) (sh : Nat) : Option CV → Option (List PV)
  | some (.own e' sh' xs) => bif e == e' && sh == sh' then some xs else none
  | _ => none
def cellAt (bs : List (List CV)) (j i : Nat) : Option CV := (bs[j]?).bind fun cs => cs[i]?
def resAt (vs : List SV) (j : Nat) : Option CV := match vs[j]? with | some (.c v) => some v | _ => none
def partAt (vs : List SV) (j i : Nat) : Option CV := match vs[j]? with | some (.agg cs) => cs[i]? | _ => none
def lensB (bs : List (List CV)) (ks : List (List Kind)) : Bool := bs.map List.length == ks.map List.length
def lenS : SV → Nat
  | .c _ => 0
  | .agg cs => cs.length + 1
def lenK : RK → Nat
  | .c _ => 0
  | .agg ks => ks.length + 1
def lensS (vs : List SV) (ks : List RK) : Bool := vs.map lenS == ks.map lenK
def cInt (c : Option CV) (k : IntKind) : Option Int := (asP c).bind (PV.asInt k)
def cBool (c : Option CV) : Option Bool := (asP c).bind PV.bool?
def cStr (c : Option CV) : Option ByteArray := (asP c).bind PV.str?
def cRow (c : Option CV) (sh : Nat) : Option (List PV) := (asP c).bind (PV.asRow sh)
def inP (ct : CellT) (c : Option CV) (K : PV → R) : R :=
  match ct with
  | .any => (asP c).bind K
  | .int k => (cInt c k).bind fun n => K (.int k n)
  | .bool => (cBool c).bind fun b => K (.bool b)
  | .str => (cStr c).bind fun s => K (.str s)
  | .row sh => (cRow c sh).bind fun xs => K (.row sh 0 xs)
/-- A cell on its way in. -/
def inC (k : Kind) (c : Option CV) (o : List AObj) (K : CV → List AObj → R) : R :=
  match k with
  | .p ct => inP ct c fun v => K (.p v) o
  | .own e sh => (asOwn e sh c).bind fun xs => K (.loc o.length 0 sh 0 xs.length) (o ++ [.arr e sh 0 false xs])
def inCs (get : Nat → Option CV) : List Kind → Nat → List AObj → (List CV → List AObj → R) → R
  | [], _, o, K => K [] o
  | k :: ks, i, o, K => inC k (get i) o fun d o1 => inCs get ks (i + 1) o1 fun ds o2 => K (d :: ds) o2
def inSs (vs : List SV) : List RK → Nat → List AObj → (List SV → List AObj → R) → R
  | [], _, o, K => K [] o
  | .c k :: ks, j, o, K => inC k (resAt vs j) o fun d o1 => inSs vs ks (j + 1) o1 fun ds o2 => K (.c d :: ds) o2
  | .agg ks :: kss, j, o, K => inCs (partAt vs j) ks 0 o fun ds o1 => inSs vs kss (j + 1) o1 fun dss o2 => K (mkAgg ds :: dss) o2
def inBs (bs : List (List CV)) : List (List Kind) → List Nat → Nat → List AObj → (List AObj → R) → R
  | [], [], _, o, K => K o
  | ks :: kss, i :: is, j, o, K => inCs (cellAt bs j) ks 0 o fun ds o1 => inBs bs kss is (j + 1) (o1.set i (.box ds)) K
  | _, _, _, _, _ => none

/-- An argument as the callee sees it: a row of the caller's own is lent. -/
def lendC (o : List AObj) : CV → CV
  | .loc id ver sh lo len => match viewLoc o id ver sh lo len with | some v => .p v | none => .undef
  | c => c
/-- Pointers named as the callee names them. -/
def nameC (roots : List Nat) : CV → CV
  | .bptr id off => match idx roots id with | some j => .bptr j off | none => .undef
  | .fn f caps => match idxs roots caps with | some js => .fn f js | none => .undef
  | .p v => .p v
  | .eptr v sh off => .eptr v sh off
  | _ => .undef
def lendA (roots : List Nat) (o : List AObj) : AV → AV
  | .s (.c v) => .s (.c (nameC roots (lendC o v)))
  | .s (.agg cs) => .s (mkAgg (cs.map fun c => nameC roots (lendC o c)))
  | .tup _ => .undef
def freezeAll (is : List Nat) (o : List AObj) : List AObj := is.foldl freezeO o
/-- No reference inside. -/
def plainP : PV → Bool
  | .row _ _ _ => false
  | .agg cs => cs.all fun c => match c with | .row .. => false | .agg _ => false | _ => true
  | _ => true
def plainC : CV → Bool
  | .p v => plainP v
  | .own e _ xs => e.kd.isNone && xs.all plainP
  | _ => false
def plainS : SV → Bool
  | .c v => plainC v
  | .agg cs => cs.all plainC
/-- What is lent stays the caller's own only if nothing that comes back can lead to it. -/
def afterLend (plain : Bool) (lent : List Nat) (r : List SV × List (List CV)) (o : List AObj) (K : List AObj → R) : R :=
  match lent with
  | [] => K o
  | _ => bif plain then (bif r.1.all plainS && r.2.all (fun cs => cs.all plainC) then K o else none) else K (freezeAll lent o)
def kindsOf (b : Option (List (List Kind))) (lens : List Nat) : List (List Kind) := match b with | some b => b | none => lens.map fun n => List.replicate n (.p .any)
def packS : List SV → AV
  | [x] => .s x
  | xs => .tup xs
def castC (ct : CellT) (c : CV) (K : CV → R) : R := match c with | .p v => castCell ct v fun v => K (.p v) | c => K c
def castA (ct : CT) (a : AV) (K : AV → R) : R :=
  match ct, a with
  | .one ct, .s (.c c) => castC ct c fun c => K (.s (.c c))
  | .agg cts, .s (.c (.p v)) => castK (.agg cts) v fun v => K (.p v)
  | _, a => K a
def castAs : List CT → List AV → (List AV → R) → R
  | ct :: cts, a :: as, K => castA ct a fun a => castAs cts as fun as => K (a :: as)
  | _, as, K => K as
/-- The integers of a row of integers. -/
def intsOf : List PV → Option (List Int)
  | [] => some []
  | .int .i64 n :: l => (intsOf l).map (n :: ·)
  | _ => none
def sortI (l : List Int) : List Int := l.mergeSort fun x y => decide (x ≤ y)
def compI (l : List Int) : List Int := Lib.compact l
def opSort (n : Nat) (args : List AV) (o : List AObj) (K : Kt) : R :=
  match args with
  | [.s (.c (.loc id ver sh lo len))] =>
    match o[id]? with
    | some (.arr e sh' ver' false xs) =>
      bif e.kd.isNone && ver == ver' && sh == 0 && sh' == 0 && lo == 0 && decide (len ≤ LIM) then
        (intsOf (xs.take len)).bind fun zs =>
        bif n == 1 then K (.tup []) (o.set id (.arr e 0 ver false ((sortI zs).map (PV.int .i64) ++ xs.drop len)))
        else K (.s (.c (.loc id ver 0 0 (compI zs).length))) (o.set id (.arr e 0 ver false ((compI zs).map (PV.int .i64) ++ List.replicate (len - (compI zs).length) (PV.int .i64 0) ++ xs.drop len)))
      else none
    | _ => none
  | _ => none
def callOp (C : Ctx) (f : AV) (args : List AV) (s : St) (K : Kt) : R :=
  match f.cv? with
  | some (.fn g caps) =>
    bif C.E.sorts g != 0 then (bif caps.isEmpty then opSort (C.E.sorts g) args s.o K else none) else
    let args := args ++ caps.map fun i => .s (.c (.bptr i 0))
    let cs := args.flatMap cellsOfA
    let roots := adds [] (cs.flatMap ptrsC)
    let ks := kindsOf (C.E.bk g) (roots.map fun i => (cellsOfO s.o i).length)
    outBs ks roots s.o fun bs o1 =>
      castAs (C.E.ak g) (args.map (lendA roots o1)) fun as =>
      (C.call g as bs).bind fun r =>
        afterLend (C.E.plain g) (adds [] (cs.flatMap (locsC o1))) r o1 fun o2 =>
        bif lensB r.2 ks && lensS r.1 (C.E.rk g) then
          inBs r.2 ks roots 0 o2 fun o3 =>
          inSs r.1 (C.E.rk g) 0 o3 fun vs o4 =>
          K (packS vs) o4
        else none
  | _ => none

def stepOp (C : Ctx) (o : Oper) (s : St) (K : St → R) : R :=
  match o.op with
  | .pick c a b => branch s.t c fun bv t => K ⟨putD t o.dst (aval t (bif bv then a else b)), s.o⟩
  | .call c =>
    match c.callee with
    | .value f => callOp C (aval s.t f) (c.args.toList.map (aval s.t)) s fun v ob => K ⟨putD s.t o.dst v, ob⟩
    | _ => evOp C.E o.op s fun v ob => K ⟨putD s.t o.dst v, ob⟩
  | op => evOp C.E op s fun v ob => K ⟨putD s.t o.dst v, ob⟩
/-- Is this what stands in the slot of an operation that was left out? -/
def skipped (a : AV) : Bool := match a with | .tup [] => true | _ => false
def guarded (C : Ctx) (ops : Array Oper) (o : Oper) (s : St) (K : St → R) : R :=
  match o.guard with
  | none => stepOp C o s K
  | some (j, want) =>
    match (ops[j]?).bind (·.dst) with
    | some d => bif skipped (getT s.t d) then K ⟨putD s.t o.dst (.tup []), s.o⟩ else
      branch s.t (.tmp d) fun b t => bif b == want then stepOp C o ⟨t, s.o⟩ K else K ⟨putD t o.dst (.tup []), s.o⟩
    | none => none
def evOps (C : Ctx) (ops : Array Oper) : List Nat → St → (St → R) → R
  | [], s, K => K s
  | i :: is, s, K =>
    match ops[i]? with
    | some o => guarded C ops o s fun s' => evOps C ops is s' K
    | none => none

/-! ### The order of a region that draws one: what leaves memory alone comes as soon as it may; what acts comes in a chain -/
/-- Operations that leave the world alone. -/
def silent : Op → Bool
  | .move _ | .assign _ | .build .. | .load .. | .nilCheck _ | .binOp .. | .unOp .. | .convert .. | .makeFunc .. | .slice .. | .fieldAddr .. | .indexAddr .. | .index .. | .extract .. => true
  | .call c => match c.callee with | .builtin .len => true | .builtin .cap => true | .builtin .min => true | .builtin .max => true | _ => false
  | _ => false
def quietO (o : Oper) : Bool := match o.op with | .pick .. => true | op => silent op
def bindsOn (o : Oper) : List Nat := o.after.toList.filterMap fun e => bif Region.binds .any e then some e.on else none
def bitsOf (bs : List Nat) (i : Nat) : Nat := (bs[i]?).getD 0
/-- For each operation those that must come before it (all of them, as bits). -/
def befores (ops : List Oper) : List Nat :=
  ops.foldl (fun acc o => acc ++ [(bindsOn o).foldl (fun s i => s ||| 2 ^ i ||| bitsOf acc i) 0]) []
def looksT (ops : Array Oper) (o : Oper) : List Tmp :=
  (o.op.operands.toList.filterMap fun | .tmp t => some t | _ => none) ++ (match o.guard with | some (g, _) => ((ops[g]?).bind (·.dst)).toList | none => [])
def namesT (ops : Array Oper) (o : Oper) : List Tmp := o.dst.toList ++ looksT ops o
/-- One that leaves the world alone, and whose slot none looks at but those that wait for it. -/
def quietB (ops : Array Oper) (o : Oper) : Bool := quietO o && match o.dst with
  | none => true
  | some d => !(ops.toList.any fun oj => (looksT ops oj).contains d && !((bindsOn oj).any fun e => ((ops[e]?).bind (·.dst)) == some d))
/-- One that makes an object, whatever it is asked. -/
def lateO (o : Oper) : Bool := o.guard.isNone && match o.op with | .alloc _ | .box .. | .buildSlice .. => true | _ => false
def latePlain (t : List AV) (op : Op) : Bool := match op with | .buildSlice _ _ ps => ps.toList.all fun q => (aval t q.2).pv?.isSome | _ => true
/-- One that may be done ahead of the machine: a quiet one; and, if asked for, one that makes an object. -/
def lazyB (lz : Bool) (ops : Array Oper) (o : Oper) : Bool := match lz with
  | false => quietB ops o
  | true => quietB ops o || (lateO o && (!((bindsOn o).any fun e => match ops[e]? with | some p => lateO p | none => false) && match o.dst with
    | none => false
    | some d => !(ops.toList.any fun oj => (looksT ops oj).contains d && !((bindsOn oj).any fun e => ((ops[e]?).bind (·.dst)) == some d))))
def pickNext (q : Oper → Bool) (ops : List Oper) (done : Nat) : Option Nat :=
  let rd := ops.zipIdx.filterMap fun (o, i) => bif !done.testBit i && (bindsOn o).all (fun j => done.testBit j) then some (o, i) else none
  match rd.find? fun oi => q oi.1 with
  | some oi => some oi.2
  | none => rd[0]?.map (·.2)
def orderFrom (q : Oper → Bool) (ops : List Oper) : Nat → Nat → List Nat
  | 0, _ => []
  | n + 1, done => match pickNext q ops done with
    | some i => i :: orderFrom q ops n (done ||| 2 ^ i)
    | none => []
/-- Is 'bs' what 'befores' should be? -/
def closedOk (ops : Array Oper) (bs : List Nat) : Bool := ops.toList.zipIdx.all fun oi => bitsOf bs oi.2 == (bindsOn oi.1).foldl (fun s e => s ||| 2 ^ e ||| bitsOf bs e) 0
/-- Nobody names what a quiet operation writes but those that wait for it; what an acting one writes is named by none that it may overtake; no two write one slot. -/
def slotsOk (lz : Bool) (ops : Array Oper) (bs : List Nat) : Bool := ops.toList.zipIdx.all fun oi => match oi.1.dst with
  | none => true
  | some d => (!lazyB lz ops oi.1 || !(looksT ops oi.1).contains d) && ops.toList.zipIdx.all fun oj => oi.2 == oj.2 ||
      oj.1.dst != some d && (!(looksT ops oj.1).contains d || (bitsOf bs oj.2).testBit oi.2 || !lazyB lz ops oi.1 && (!lazyB lz ops oj.1 || (bitsOf bs oi.2).testBit oj.2))
/-- The order keeps what binds, and what comes behind one that acts waits for it. -/
def lineOk (lz : Bool) (ops : Array Oper) (bs : List Nat) : Nat → List Nat → Bool
  | _, [] => true
  | done, i :: is => match ops[i]? with
    | some o => !done.testBit i && (bindsOn o).all (fun j => done.testBit j) && (lazyB lz ops o || is.all fun j => (bitsOf bs j).testBit i) && lineOk lz ops bs (done ||| 2 ^ i) is
    | none => false
def drawOk (lz : Bool) (ops : Array Oper) (bs l : List Nat) : Bool :=
  closedOk ops bs && slotsOk lz ops bs && lineOk lz ops bs 0 l && (List.range ops.size).all (fun i => l.contains i) && ops.toList.zipIdx.all fun oi => (bindsOn oi.1).all fun j => decide (j < oi.2)
/-- The objects that a value names. -/
def idsC : CV → List Nat
  | .nel id _ _ _ => [id]
  | .loc id _ _ _ _ => [id]
  | .aptr id _ _ _ _ => [id]
  | .bptr id _ => [id]
  | .fn _ caps => caps
  | _ => []
def idsA (a : AV) : List Nat := (cellsOfA a).flatMap idsC
def idsOp (t : List AV) (op : Op) : List Nat := op.operands.toList.flatMap fun x => idsA (aval t x)
/-- The objects that a quiet operation looks into. -/
def idsQ (t : List AV) (op : Op) : List Nat :=
  match op with
  | .move _ | .assign _ | .pick .. | .binOp .. | .unOp .. | .convert .. | .makeFunc .. | .extract .. => []
  | op => idsOp t op
/-- The objects that an operation may change. -/
def touched (s : St) (op : Op) : List Nat := (idsOp s.t op).filter (fun id => isNest s.o id) ++
  match op with
  | .store _ a x => idsA (aval s.t a) ++ (bif givesTo s.o (aval s.t a) (aval s.t x) then idsA (aval s.t x) else [])
  | .buildSlice _ _ ps => ps.toList.flatMap fun q => match aval s.t q.2 with | .s (.agg cs) => cs.flatMap idsC | _ => []
  | .call c => match c.callee with
    | .value _ => idsOp s.t op ++ ((idsOp s.t op).flatMap (cellsOfO s.o)).flatMap idsC
    | _ => (match c.args.toList with | x :: _ => idsA (aval s.t x) | [] => [])
  | _ => []
def evDr (lz : Bool) (C : Ctx) (ops : Array Oper) (bs : List Nat) : List (Nat × List Nat) → List Nat → St → (St → R) → R
  | _, [], s, K => K s
  | early, i :: is, s, K =>
    match ops[i]? with
    | some o =>
      match lazyB lz ops o with
      | true => match lateO o with
        | false => guarded C ops o s fun s' => evDr lz C ops bs ((i, idsQ s.t o.op) :: early) is s' K
        | true => bif latePlain s.t o.op && (idsOp s.t o.op).all (fun id => decide (id < s.o.length)) && early.all (fun k => k.2.all fun id => decide (id < s.o.length)) then
            guarded C ops o s fun s' => evDr lz C ops bs ((i, s.o.length :: idsOp s.t o.op) :: early) is s' K else none
      | false =>
        bif early.all fun k => (bitsOf bs i).testBit k.1 || k.2.all fun id => !(touched s o.op).contains id && decide (id < s.o.length) then guarded C ops o s fun s' => evDr lz C ops bs early is s' K else none
    | none => none
def evDrawAt (lz : Bool) (C : Ctx) (ops : Array Oper) (s : St) (K : St → R) (other : Unit → R) : R :=
  match drawOk lz ops (befores ops.toList) (orderFrom (lazyB lz ops) ops.toList ops.size 0) with
  | true => evDr lz C ops (befores ops.toList) [] (orderFrom (lazyB lz ops) ops.toList ops.size 0) s K
  | false => other ()
def evDraw (C : Ctx) (ops : Array Oper) (s : St) (K : St → R) : R := evDrawAt false C ops s K fun _ => evDrawAt true C ops s K fun _ => none

abbrev Kc := AExit → St → R
def seqK (next : St → R) (K : Kc) : Kc := fun e s => match e with | .normal => next s | e => K e s
def blockK (id : Nat) (K : Kc) : Kc := fun e s => match e with | .exit n => bif n == id then K .normal s else K (.exit n) s | e => K e s
def evLoop (C : Ctx) (cur : Nat) (F : St → Kc → R) (K : Kc) : Nat → St → R
  | 0, _ => none
  | n + 1, s => F s fun e s' => match e with
    | .normal => evLoop C cur F K n (head C.m (C.E.live C.self cur) (C.E.own C.self cur) s')
    | e => K e s'
/-- A place to stop at, and to go on from. -/
def cutK : Nat → (Unit → R) → R
  | 0, _ => none
  | _ + 1, f => f ()
def evCode (C : Ctx) : Code → Nat → St → Kc → R
  | .skip, _, s, K => K .normal s
  | .label _, _, s, K => K .normal s
  | .region id ops draw, _, s, K =>
    match C.E.cut C.self id with
    | none => match draw with
      | false => evOps C ops (List.range ops.size) s (K .normal)
      | true => evDraw C ops s (K .normal)
    | some live => cutK C.n fun _ => match draw with
      | false => evOps C ops (List.range ops.size) (canon C.m live s) (K .normal)
      | true => evDraw C ops (canon C.m live s) (K .normal)
  | .seq a b, cur, s, K => evCode C a cur s (seqK (fun s => evCode C b cur s K) K)
  | .cond c a b, cur, s, K => branch s.t c fun bv t => bif bv then evCode C a cur ⟨t, s.o⟩ K else evCode C b cur ⟨t, s.o⟩ K
  | .block id c, _, s, K => evCode C c id s (blockK id K)
  | .loop c, cur, s, K => evLoop C cur (fun s K => evCode C c cur s K) K C.n (head C.m (C.E.live C.self cur) (C.E.own C.self cur) s)
  | .exit id, _, s, K => K (.exit id) s
  | .ret, _, s, K => K .ret s
  | _, _, _, _ => none

/-! ### Functions -/
def resIn (E : Env) (s : St) : List ResultVar → (List SV → R) → R
  | [], K => K []
  | .tmp t :: rs, K => (getT s.t t).sv?.bind fun v => resIn E s rs fun vs => K (v :: vs)
  | .cell a T :: rs, K => opLoad E T (getT s.t a) s.o fun v _ => v.sv?.bind fun v => resIn E s rs fun vs => K (v :: vs)
/-- A function's end: its results and the boxes that it was handed. -/
def endK (E : Env) (f : FuncId) (fn : Func) (ls : List Nat) : Kc := fun e s => match e with
  | .exit _ => none
  | _ => resIn E s fn.results.toList fun rs =>
    outBs (kindsOf (E.bk f) ls) (List.range ls.length) s.o fun bs' o1 =>
    outSs (E.rk f) rs o1 fun rs' _ => some (rs', bs')
def evBody (P : FuncId → Option Func) (E : Env) (call : FuncId → List AV → List (List CV) → R) (n : Nat) (f : FuncId) (args : List AV) (bs : List (List CV)) : R :=
  match P f with
  | some fn => match fn.body with
    | some c =>
      bif lensB bs (kindsOf (E.bk f) (bs.map List.length)) then inBs bs (kindsOf (E.bk f) (bs.map List.length)) (List.range bs.length) 0 (List.replicate bs.length (.box [])) fun o =>
      evCode { E, self := f, call, n, m := bs.length } c 0 ⟨args ++ List.replicate (fn.ntmps - args.length) .undef, o⟩ (endK E f fn (bs.map List.length))
      else none
    | none => none
  | none => none
def evF (P : FuncId → Option Func) (E : Env) (T : FuncId → List AV → List (List CV) → R) : Nat → FuncId → List AV → List (List CV) → R
  | 0, _, _, _ => none
  | k + 1, f, args, bs => match T f args bs with
    | some r => some r
    | none => evBody P E (evF P E T k) k f args bs


/-! ### A loop, named by its place in the code -/
def ctxK (C : Ctx) : List Nat → List Nat → Code → Nat → Kc → Code × Nat × Kc
  | [], _, c, cur, K => (c, cur, K)
  | d :: p, fs, c, cur, K => match c with
    | .seq a b => match d with
      | 0 => ctxK C p fs a cur (seqK (fun s => evCode C b cur s K) K)
      | _ => ctxK C p fs b cur K
    | .cond _ a b => match d with
      | 0 => ctxK C p fs a cur K
      | _ => ctxK C p fs b cur K
    | .block id b => ctxK C p fs b id (blockK id K)
    | .loop b => match fs with
      | n :: fs => ctxK C p fs b cur fun e s' => match e with
        | .normal => evLoop C cur (fun s K => evCode C b cur s K) K n (head C.m (C.E.live C.self cur) (C.E.own C.self cur) s')
        | e => K e s'
      | [] => (c, cur, K)
    | c => (c, cur, K)
/-- The loop at 'path' in function f's code, with 'n' rounds left (and 'fs' of the loops around it), in a state. -/
def evLoopAt (P : FuncId → Option Func) (E : Env) (T : FuncId → List AV → List (List CV) → R) (k : Nat) (f : FuncId) (ls path fs : List Nat) (n : Nat) (s : St) : R :=
  match P f with
  | some fn => match fn.body with
    | some c => match ctxK { E, self := f, call := evF P E T k, n := k, m := ls.length } path fs c 0 (endK E f fn ls) with
      | (.loop b, cur, K) => evLoop { E, self := f, call := evF P E T k, n := k, m := ls.length } cur (fun s K => evCode { E, self := f, call := evF P E T k, n := k, m := ls.length } b cur s K) K n s
      | _ => none
    | none => none
  | none => none
/-- The code at 'path', in a state. -/
def evCutAt (P : FuncId → Option Func) (E : Env) (T : FuncId → List AV → List (List CV) → R) (k : Nat) (f : FuncId) (ls path fs : List Nat) (s : St) : R :=
  match P f with
  | some fn => match fn.body with
    | some c => match ctxK { E, self := f, call := evF P E T k, n := k, m := ls.length } path fs c 0 (endK E f fn ls) with
      | (c, cur, K) => evCode { E, self := f, call := evF P E T k, n := k, m := ls.length } c cur s K
    | none => none
  | none => none
/-- The slots, but for those that are listed, are not known. -/
def mkT (n : Nat) (l : List (Nat × AV)) : List AV := (List.range n).map fun i => match l.find? fun x => x.1 == i with | some x => x.2 | none => .undef
end Go.Dp
