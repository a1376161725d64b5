/- Dp0; Dp1; Dp2; Dp3; Dp4; Dp5; Dp6; Dp7; Dp8; Dp9; Dp10: texts put together. -/
import GoSem.Dispatch
import GoSem.Machine.Frame
import Derived.Lib.SlicesCompact
import Derived.WalkKit
import Derived.Maps.AppendAt
import Derived.ArgAppend
import Derived.OrdersHeld
import Derived.Laws.StructEq
import Derived.Great.BuildSlice
import Derived.Laws.Tables
import Derived.Lib.AppendZeros
import Derived.Laws.CopyRow
set_option linter.all false
set_option maxRecDepth 100000
namespace Go.Dp
inductive PV where
 | int (k:IntKind) (n:Int)
 | bool (b:Bool)
 | str (s:ByteArray)
 | agg (cs:List PV)
 | row (sh f:Nat) (xs:List PV)
 | junk
 deriving Inhabited
structure Kd where
 j:Nat
 e:Nat
 sh:Nat
 nv:Nat
 hole:Option Nat
 deriving Inhabited,DecidableEq
structure Et where
 t:Nat
 kd:Option Kd
 deriving Inhabited,DecidableEq
def Et.reset (e:Et):Et:=match e.kd with | none=>e | some k=>⟨e.t,some { k with nv:=0 }⟩
instance:Coe Nat Et:=⟨fun n=>⟨n,none⟩⟩
instance (n:Nat):OfNat Et n:=⟨⟨n,none⟩⟩
inductive CV where
 | undef
 | p (v:PV)
 | loc (id ver sh lo len:Nat)
 | bptr (id off:Nat)
 | aptr (id ver sh i off:Nat)
 | eptr (v:PV) (sh off:Nat)
 | fn (f:FuncId) (caps:List Nat)
 | cfn (f:FuncId) (vs:List PV)
 | own (e:Et) (sh:Nat) (xs:List PV)
 | nel (id ver nv i:Nat)
 deriving Inhabited
inductive SV where
 | c (v:CV)
 | agg (cs:List CV)
 deriving Inhabited
inductive AV where
 | s (v:SV)
 | tup (vs:List SV)
 deriving Inhabited
inductive AObj where
 | dead
 | box (cs:List CV)
 | arr (e:Et) (sh ver:Nat) (fz:Bool) (xs:List PV)
 deriving Inhabited
abbrev SV.p (v:PV):SV:=.c (.p v)
abbrev AV.p (v:PV):AV:=.s (.c (.p v))
abbrev AV.undef:AV:=.s (.c .undef)
structure St where
 t:List AV
 o:List AObj
def PV.one:PV->Bool
 | .agg _=>false
 | _=>true
def PV.cells:PV->List PV
 | .agg cs=>cs
 | v=>[v]
def PV.shp:Nat->PV->Bool
 | 0,v=>v.one
 | n+1,.agg cs=>cs.length==n+1&&cs.all PV.one
 | _+1,_=>false
def csz (sh:Nat):Nat:=if sh=0 then 1 else sh
def PV.cell (v:PV) (i:Nat):Option PV:=v.cells[i]?
def PV.bool?:PV->Option Bool
 | .bool b=>some b
 | _=>none
def PV.int?:PV->Option Int
 | .int _ n=>some n
 | _=>none
def PV.row?:PV->Option (Nat × Nat × List PV)
 | .row sh f xs=>some (sh,f,xs)
 | _=>none
def PV.str?:PV->Option ByteArray
 | .str s=>some s
 | _=>none
inductive CellT where
 | any
 | int (k:IntKind)
 | bool
 | str
 | row (sh:Nat)
 | rowN (sh:Nat)
 deriving Inhabited
inductive CT where
 | one (c:CellT)
 | agg (cs:List CellT)
 deriving Inhabited
def PV.asInt (k:IntKind):PV->Option Int
 | .int k' n=>bif decide (k'=k) then some n else none
 | _=>none
def PV.asRow (sh:Nat):PV->Option (List PV)
 | .row s f xs=>bif s==sh||f==2 then some xs else none
 | _=>none
def PV.atInt (v:PV) (k:IntKind) (i:Nat):Option Int:=(v.cell i).bind (PV.asInt k)
def PV.atBool (v:PV) (i:Nat):Option Bool:=(v.cell i).bind PV.bool?
def PV.atStr (v:PV) (i:Nat):Option ByteArray:=(v.cell i).bind PV.str?
def PV.atRow (v:PV) (sh i:Nat):Option (List PV):=(v.cell i).bind (PV.asRow sh)
def PV.rowN (sh:Nat) (xs:List PV):PV:=bif xs.isEmpty then .row sh 2 [] else .row sh 3 xs
def PV.asRowN (sh:Nat):PV->Option (List PV)
 | .row s f xs=>bif f==2 then some [] else bif s==sh&&!xs.isEmpty then some xs else none
 | _=>none
def q2c {α:Type} (ct:CellT) (v:PV) (K:PV->Option α):Option α :=
 match ct with
 | .any=>K v
 | .int k=>(v.asInt k).bind fun n=>K (.int k n)
 | .bool=>v.bool?.bind fun b=>K (.bool b)
 | .str=>v.str?.bind fun s=>K (.str s)
 | .row sh=>(v.asRow sh).bind fun xs=>K (.row sh 0 xs)
 | .rowN sh=>match v with
  | .row s f xs=>bif f==2 then K (.rowN sh []) else bif s==sh&&!xs.isEmpty then K (.rowN sh xs) else none
  | _=>none
def q9x {α:Type} (ct:CellT) (v:PV) (i:Nat) (K:PV->Option α):Option α :=
 match ct with
 | .any=>(v.cell i).bind K
 | .int k=>(v.atInt k i).bind fun n=>K (.int k n)
 | .bool=>(v.atBool i).bind fun b=>K (.bool b)
 | .str=>(v.atStr i).bind fun s=>K (.str s)
 | .row sh=>(v.atRow sh i).bind fun xs=>K (.row sh 0 xs)
 | .rowN sh=>(v.cell i).bind fun c=>q2c (.rowN sh) c K
def q5i {α:Type}:List CellT->PV->Nat->(List PV->Option α)->Option α
 | [],_,_,K=>K []
 | c::cs,v,i,K=>q9x c v i fun y=>q5i cs v (i+1) fun ys=>K (y::ys)
def z3f {α:Type} (ct:CT) (v:PV) (K:PV->Option α):Option α :=
 match ct with
 | .one c=>q2c c v K
 | .agg cs=>bif cs.length != 0&&v.shp cs.length then q5i cs v 0 fun ys=>K (.agg ys) else none
inductive Kind where
 | p (ct:CellT)
 | own (e:Et) (sh:Nat)
 deriving Inhabited
inductive RK where
 | c (k:Kind)
 | agg (ks:List Kind)
 deriving Inhabited
structure Env where
 sl:TypeId->Option (TypeId × Nat × Nat)
 sh:TypeId->Option Nat
 fl:TypeId->Nat->Option (Nat × Nat)
 ik:TypeId->Option IntKind
 zr:TypeId->Option (List PV)
 eqs:TypeId->Option (List Nat)
 bl:TypeId->Bool
 st:TypeId->Bool
 flat:TypeId->Bool
 live:FuncId->Nat->List Nat
 rk:FuncId->List RK
 bk:FuncId->Option (List (List Kind))
 plain:FuncId->Bool
 ct:TypeId->CT
 ak:FuncId->List CT
 own:FuncId->Nat->List (Option Nat × Nat × Et × Nat)
 cut:FuncId->Nat->Option (List Nat)
 nest:TypeId->Option Kd
 sorts:FuncId->Nat
 ao:FuncId->List (Option (Et × Nat)):=fun _=>[]
 ext:FuncId->Nat:=fun _=>0
 ro:Nat->Bool:=fun _=>false
 ar:TypeId->Nat:=fun _=>0
 n1s:FuncId->Bool:=fun _=>false
 n1:Bool:=false
def Env.on (E:Env) (f:FuncId):Env:={ E with n1:=E.n1s f }
def Env.pl (E:Env) (T i:Nat):Option (Nat × Nat):=match E.fl T i with
 | some q=>some q
 | none=>bif decide (i<E.ar T) then some (i,0) else none
def getT (t:List AV) (i:Nat):AV:=(t[i]?).getD .undef
def constAV:Value->AV
 | .int k n=>.p (.int k n)
 | .bool b=>.p (.bool b)
 | .string s=>.p (.str s)
 | .slice none 0 0=>.p (.row 0 2 [])
 | _=>.undef
def aval (t:List AV):Operand->AV
 | .tmp i=>getT t i
 | .const v=>constAV v
 | .func f=>.s (.c (.fn f []))
 | .global _=>.undef
def AV.pv?:AV->Option PV
 | .s (.c (.p v))=>some v
 | _=>none
def AV.cv?:AV->Option CV
 | .s (.c v)=>some v
 | _=>none
def AV.sv?:AV->Option SV
 | .s v=>some v
 | _=>none
def AV.int? (a:AV):Option Int:=a.pv?.bind PV.int?
def AV.bool? (a:AV):Option Bool:=a.pv?.bind PV.bool?
def q0o (op:BinOp) (k:IntKind) (x y:Int):Int :=
 let a:=BitVec.ofInt k.bits x
 let b:=BitVec.ofInt k.bits y
 match op with
 | .and=>k.wrap (a &&& b).toNat
 | .or=>k.wrap (a ||| b).toNat
 | .xor=>k.wrap (a ^^^ b).toNat
 | _=>k.wrap (a &&& ~~~b).toNat
def z67 (op:BinOp) (k:IntKind) (x y:Int):Option PV :=
 match op with
 | .add=>some (.int k (k.wrap (x+y)))
 | .sub=>some (.int k (k.wrap (x-y)))
 | .mul=>some (.int k (k.wrap (x*y)))
 | .quo=>bif y==0 then none else some (.int k (k.wrap (x.tdiv y)))
 | .rem=>bif y==0 then none else some (.int k (x.tmod y))
 | .and=>some (.int k (q0o .and k x y))
 | .or=>some (.int k (q0o .or k x y))
 | .xor=>some (.int k (q0o .xor k x y))
 | .andNot=>some (.int k (q0o .andNot k x y))
 | .eql=>some (.bool (x==y))
 | .neq=>some (.bool (x != y))
 | .lss=>some (.bool (decide (x<y)))
 | .leq=>some (.bool (decide (x<=y)))
 | .gtr=>some (.bool (decide (x>y)))
 | .geq=>some (.bool (decide (x>=y)))
 | _=>none
def q7m (op:BinOp) (k:IntKind) (x y:Int):Option PV :=
 bif decide (y<0) then none else
 match op with
 | .shl=>some (.int k (k.wrap (x*2 ^ (min y.toNat k.bits))))
 | .shr=>some (.int k (x.fdiv (2 ^ (min y.toNat k.bits))))
 | _=>none
def y5d (op:BinOp) (x y:ByteArray):Option PV :=
 match op with
 | .add=>bif decide (x.size+y.size<=9223372036854775807) then some (.str (x++y)) else none
 | .eql=>some (.bool (x.toList==y.toList))
 | .neq=>some (.bool !(x.toList==y.toList))
 | _=>none
def cellEq:Nat->PV->PV->Option Bool
 | 0,.int k a,.int k' b=>if k=k' then some (a==b) else none
 | 1,.bool a,.bool b=>some (a==b)
 | 2,.str a,.str b=>some (a.toList==b.toList)
 | _,_,_=>none
def cellsEq:List Nat->List PV->List PV->Option Bool
 | [],[],[]=>some true
 | k::ks,a::as,b::bs=>match cellEq k a b,cellsEq ks as bs with
  | some x,some y=>some (x&&y)
  | _,_=>none
 | _,_,_=>none
def x5o (bl:Bool) (op:BinOp) (x y:Bool):Option PV :=
 match op with
 | .eql=>bif bl then some (.bool (x==y)) else none
 | .neq=>bif bl then some (.bool !(x==y)) else none
 | _=>none
def pbin (op:BinOp):PV->PV->Option PV
 | .int k x,.int k' y=>
  match op with
  | .shl=>q7m .shl k x y
  | .shr=>q7m .shr k x y
  | op=>if k=k' then z67 op k x y else none
 | .str x,.str y=>y5d op x y
 | _,_=>none
def q2x (eqs:Option (List Nat)) (bl:Bool) (op:BinOp) (a b:PV):Option PV :=
 match a,b with
 | .agg as,.agg bs=>
  match op,eqs with
  | .eql,some ks=>(cellsEq ks as bs).map .bool
  | .neq,some ks=>(cellsEq ks as bs).map fun b=>.bool !b
  | _,_=>none
 | .bool x,.bool y=>x5o bl op x y
 | a,b=>pbin op a b
def shlI (k:IntKind) (x y:Int):Int:=k.wrap (x*2 ^ (min y.toNat k.bits))
def shrI (k:IntKind) (x y:Int):Int:=x.fdiv (2 ^ (min y.toNat k.bits))
def binK {α:Type} (eqs:Option (List Nat)) (bl:Bool) (op:BinOp) (a b:PV) (K:PV->Option α):Option α :=
 match a,b with
 | .int k x,.int k' y=>
  match op with
  | .quo=>bif decide (k=k')&&!(y==0) then K (.int k (k.wrap (x.tdiv y))) else none
  | .rem=>bif decide (k=k')&&!(y==0) then K (.int k (x.tmod y)) else none
  | .shl=>bif !decide (y<0) then K (.int k (shlI k x y)) else none
  | .shr=>bif !decide (y<0) then K (.int k (shrI k x y)) else none
  | op=>(q2x eqs bl op (.int k x) (.int k' y)).bind K
 | .str x,.str y=>
  match op with
  | .add=>bif decide (x.size+y.size<=9223372036854775807) then K (.str (x++y)) else none
  | op=>(q2x eqs bl op (.str x) (.str y)).bind K
 | a,b=>(q2x eqs bl op a b).bind K
theorem y5r {α:Type} (eqs:Option (List Nat)) (bl:Bool) (op:BinOp) (a b:PV) (K:PV->Option α):binK eqs bl op a b K=(q2x eqs bl op a b).bind K:=by
 unfold binK;split
 ·rename_i k x k' y;split
  ·by_cases h:k=k' <;> cases hy:y==0 <;> simp [q2x,pbin,z67,h,hy]
  ·by_cases h:k=k' <;> cases hy:y==0 <;> simp [q2x,pbin,z67,h,hy]
  ·cases hy:decide (y<0) <;> simp [q2x,pbin,q7m,hy,shlI]
  ·cases hy:decide (y<0) <;> simp [q2x,pbin,q7m,hy,shrI]
  ·rfl
 ·rename_i x y;split
  ·cases hy:decide (x.size+y.size<=9223372036854775807) <;> simp [q2x,pbin,y5d,hy]
  ·rfl
 ·rfl
def nilEq (op:BinOp) (a b:PV):Option Bool :=
 match op,a,b with
 | .eql,.row _ f _,.row _ g []=>bif g==2 then (bif f==2 then some true else bif f==3 then some false else none) else none
 | .neq,.row _ f _,.row _ g []=>bif g==2 then (bif f==2 then some false else bif f==3 then some true else none) else none
 | _,_,_=>none
def z20 (op:BinOp) (a b:PV):Bool :=
 match op,a,b with
 | .eql,.row _ _ _,.row _ g []=>g==2
 | .neq,.row _ _ _,.row _ g []=>g==2
 | _,_,_=>false
def z8z (a:PV):Bool :=
 match a with
 | .row _ _ xs=>!xs.isEmpty
 | _=>false
def y93 (op:BinOp):Bool :=
 match op with
 | .neq=>true
 | _=>false
def minI (x y:Int):Int:=bif decide (y<x) then y else x
def maxI (x y:Int):Int:=bif decide (y>x) then y else x
def pun (op:UnOp):PV->Option PV
 | .int k n=>
  match op with
  | .neg=>some (.int k (k.wrap (0-n)))
  | .xor=>some (.int k (q0o .xor k (if k.signed then -1 else k.max) n))
  | _=>none
 | .bool b=>
  match op with
  | .not=>some (.bool !b)
  | _=>none
 | _=>none
def viewLoc (o:List AObj) (id ver sh lo len:Nat):Option PV :=
 match o[id]? with
 | some (.arr e sh' ver' _ xs)=>bif ver==ver'&&sh==sh'&&e.kd.isNone then some (.row sh 0 ((xs.drop lo).take len)) else none
 | _=>none
def outOf (k:Kd) (xs:List PV):List PV:=match k.hole with | none=>xs | some i=>xs.set i .junk
def viewNest (o:List AObj) (id ver sh lo len:Nat):Option PV :=
 match o[id]? with
 | some (.arr e sh' ver' _ xs)=>match e.kd with
  | some k=>bif ver==ver'&&sh==sh'&&(k.hole.isNone||(sh==0&&k.j==0)) then some (.row sh 0 (((outOf k xs).drop lo).take len)) else none
  | none=>none
 | _=>none
def viewL (o:List AObj) (id ver sh lo len:Nat):Option PV :=
 match viewLoc o id ver sh lo len with
 | some v=>some v
 | none=>viewNest o id ver sh lo len
def z74 (o:List AObj) (id:Nat):Bool :=
 match o[id]? with
 | some (.arr e _ _ _ _)=>match e.kd with
  | some k=>k.hole.isNone
  | none=>true
 | _=>true
def viewC (o:List AObj):CV->Option PV
 | .p v=>some v
 | .loc id ver sh lo len=>viewLoc o id ver sh lo len
 | _=>none
def freezeO (o:List AObj) (id:Nat):List AObj :=
 match o[id]? with
 | some (.arr e sh ver _ xs)=>match e.kd with
  | none=>o.set id (.arr e sh ver true xs)
  | some k=>bif k.hole.isNone then o.set id (.arr e.t sh ver true xs) else o
 | _=>o
def freezeC (o:List AObj):CV->Option (PV × List AObj)
 | .p v=>some (v,o)
 | .loc id ver sh lo len=>(viewLoc (freezeO o id) id ver sh lo len).map fun v=>(v,freezeO o id)
 | _=>none
def freezeCs (o:List AObj):List CV->Option (List PV × List AObj)
 | []=>some ([],o)
 | c::cs=>(freezeC o c).bind fun (v,o1)=>(freezeCs o1 cs).bind fun (vs,o2)=>some (v::vs,o2)
def freezeS (o:List AObj):SV->Option (PV × List AObj)
 | .c v=>freezeC o v
 | .agg cs=>(freezeCs o cs).bind fun (vs,o1)=>some (.agg vs,o1)
def cur (o:List AObj) (id ver sh:Nat):Bool :=
 match o[id]? with
 | some (.arr _ sh' ver' _ _)=>ver==ver'&&sh==sh'
 | _=>false
def isBox (o:List AObj) (id:Nat):Bool:=match o[id]? with | some (.box _)=>true | _=>false
def okC (o:List AObj):CV->Bool
 | .loc id ver sh _ _=>cur o id ver sh
 | .bptr id _=>isBox o id
 | .aptr id ver sh _ _=>cur o id ver sh
 | .p _=>true
 | .eptr ..=>true
 | .fn ..=>true
 | .cfn ..=>true
 | .undef=>false
 | .own ..=>false
 | .nel ..=>false
def cellsK {α:Type} (o:List AObj) (sh:Nat) (v:SV) (K:List CV->Option α):Option α :=
 match v with
 | .agg cs=>bif sh==cs.length&&sh != 0 then K cs else none
 | .c c=>match c with
  | .p v=>bif v.shp sh then K (match sh with | 0=>[.p v] | n+1=>(List.range (n+1)).map fun i=>.p ((v.cell i).getD (.bool false))) else none
  | c=>bif sh==0&&okC o c then K [c] else none
def allP:List CV->Option (List PV)
 | []=>some []
 | .p v::cs=>(allP cs).map (v::·)
 | _::_=>none
def mkAgg (cs:List CV):SV:=match allP cs with | some vs=>.c (.p (.agg vs)) | none=>.agg cs
def z21 (sh:Nat) (cs:List CV):Option SV :=
 match sh with
 | 0=>cs[0]?.map .c
 | n+1=>bif decide (n+1<=cs.length) then some (mkAgg (cs.take (n+1))) else none
def y43 (v:PV) (vsh off sh:Nat):Option PV :=
 match sh with
 | 0=>v.cell off
 | n+1=>bif off==0&&vsh==n+1 then some v
  else bif decide (off+(n+1)<=v.cells.length)&&vsh != 0 then some (.agg ((v.cells.drop off).take (n+1))) else none
def z7u (cs:List CV) (off:Nat) (ns:List CV):Option (List CV) :=
 bif decide (off+ns.length<=cs.length) then some (cs.take off++ns++cs.drop (off+ns.length)) else none
def putPart (v:PV) (vsh off:Nat) (x:PV) (sh:Nat):Option PV :=
 bif off==0&&vsh==sh then some x
 else match sh with
  | 0=>bif decide (off<v.cells.length)&&vsh != 0&&x.one then some (.agg (v.cells.set off x)) else none
  | _=>none
def LIM:Nat:=140737488355328
abbrev R:=Option (List SV × List (List CV))
abbrev Kt:=AV->List AObj->R
def v5g (v:Option PV) (o:List AObj) (K:Kt):R:=v.bind fun v=>K (.p v) o
def loadP (ct:CT) (v:PV) (vsh off sh:Nat) (K:PV->R):R :=
 match sh,ct with
 | 0,.one c=>q9x c v off K
 | _,ct=>(y43 v vsh off sh).bind fun u=>z3f ct u K
def opLoad (E:Env) (T:TypeId) (a:AV) (o:List AObj) (K:Kt):R :=
 match a.cv?,E.sh T with
 | some (.bptr id off),some sh=>
  match o[id]? with
  | some (.box cs)=>(z21 sh (cs.drop off)).bind fun v=>K (.s v) o
  | _=>none
 | some (.aptr id ver vsh i off),some sh=>
  match o[id]? with
  | some (.arr e sh' ver' _ xs)=>match e.kd with
   | none=>bif ver==ver'&&vsh==sh' then (xs[i]?).bind fun x=>loadP (E.ct T) x vsh off sh fun u=>K (.p u) o else none
   | some k=>bif ver==ver'&&vsh==sh'&&sh==0&&off==k.j&&k.hole.isNone then K (.s (.c (.nel id ver k.nv i))) o else none
  | _=>none
 | some (.eptr v vsh off),some sh=>loadP (E.ct T) v vsh off sh fun u=>K (.p u) o
 | _,_=>none
def stays (e:Et) (off sh:Nat):Bool:=match e.kd with | none=>true | some k=>sh==0&&off != k.j
def opStore (E:Env) (T:TypeId) (a x:AV) (o:List AObj) (K:Kt):R :=
 match a.cv?,E.sh T,x.sv? with
 | some (.bptr id off),some sh,some x=>
  match o[id]? with
  | some (.box cs)=>cellsK o sh x fun ns=>(z7u cs off ns).bind fun cs'=>K .undef (o.set id (.box cs'))
  | _=>none
 | some (.aptr id ver vsh i off),some sh,some x=>
  (freezeS o x).bind fun (v,o1)=>
  match o1[id]? with
  | some (.arr e sh' ver' false xs)=>bif ver==ver'&&vsh==sh'&&v.shp sh&&stays e off sh then
    (xs[i]?).bind fun y=>(putPart y vsh off v sh).bind fun z=>K .undef (o1.set id (.arr e sh' ver' false (xs.set i z))) else none
  | _=>none
 | _,_,_=>none
def opGive (E:Env) (T:TypeId) (a x:AV) (o:List AObj) (K:Kt):R :=
 match a.cv?,E.sh T,x.cv? with
 | some (.aptr id ver vsh i off),some 0,some (.loc id2 ver2 sh2 lo len)=>
  match o[id]?,o[id2]? with
  | some (.arr e sh' ver' false xs),some (.arr e2 sh2' ver2' false ys)=>
   match e.kd with
   | some k=>(xs[i]?).bind fun y=>bif ver==ver'&&vsh==sh'&&off==k.j&&ver2==ver2'&&sh2==sh2'&&lo==0&&sh2==k.sh&&e2==(k.e:Et)&&id != id2&&(k.hole.isNone||k.hole==some i)&&decide (len<=ys.length) then
     (putPart y vsh off (.row k.sh 0 (ys.take len)) 0).bind fun z=>K .undef ((o.set id (.arr ⟨e.t,some { k with nv:=k.nv+1,hole:=none }⟩ sh' ver' false (xs.set i z))).set id2 .dead) else none
   | none=>none
  | _,_=>none
 | _,_,_=>none
def z2r (o:List AObj) (a x:AV):Bool :=
 match a.cv?,x.cv? with
 | some (.aptr id _ _ _ off),some (.loc ..)=>match o[id]? with
  | some (.arr e _ _ _ _)=>match e.kd with
   | some k=>off==k.j
   | none=>false
  | _=>false
 | _,_=>false
def opFieldAddr (E:Env) (T:TypeId) (a:AV) (f:Nat) (o:List AObj) (K:Kt):R :=
 match a.cv?,E.fl T f with
 | some (.bptr id off),some (fo,_)=>bif isBox o id then K (.s (.c (.bptr id (off+fo)))) o else none
 | some (.aptr id ver sh i off),some (fo,_)=>bif cur o id ver sh then K (.s (.c (.aptr id ver sh i (off+fo)))) o else none
 | some (.eptr v sh off),some (fo,_)=>K (.s (.c (.eptr v sh (off+fo)))) o
 | _,_=>none
def q0e (xs:List PV) (n:Int):Option PV:=bif decide (0<=n) then xs[n.toNat]? else none
def w0i (s:ByteArray) (n:Int):Option Int:=bif decide (0<=n) then (s.data.toList[n.toNat]?).bind fun b=>some (b.toNat:Int) else none
def opIndexAddr (E:Env) (T:TypeId) (a i:AV) (o:List AObj) (K:Kt):R :=
 match a.cv?,E.sl T with
 | some (.p v),some (_,sh',_)=>
  v.row?.bind fun q=>bif q.1==sh' then i.int?.bind fun n=>(q0e q.2.2 n).bind fun x=>K (.s (.c (.eptr x sh' 0))) o else none
 | some (.loc id ver sh lo len),some (_,sh',_)=>
  i.int?.bind fun n=>bif sh==sh'&&cur o id ver sh&&decide (0<=n)&&decide (n<len) then K (.s (.c (.aptr id ver sh (lo+n.toNat) 0))) o else none
 | some (.bptr id off),none=>
  i.int?.bind fun n=>bif isBox o id&&decide (0<=n)&&decide (n<E.ar T) then K (.s (.c (.bptr id (off+n.toNat)))) o else none
 | some (.aptr id ver sh j off),none=>
  i.int?.bind fun n=>bif cur o id ver sh&&decide (0<=n)&&decide (n<E.ar T) then K (.s (.c (.aptr id ver sh j (off+n.toNat)))) o else none
 | some (.eptr v sh off),none=>
  i.int?.bind fun n=>bif decide (0<=n)&&decide (n<E.ar T) then K (.s (.c (.eptr v sh (off+n.toNat)))) o else none
 | _,_=>none
def opIndex (E:Env) (T:TypeId) (a i:AV) (o:List AObj) (K:Kt):R :=
 match a.pv?,E.st T with
 | some v,true=>v.str?.bind fun s=>i.int?.bind fun n=>(w0i s n).bind fun b=>K (.p (.int .u8 b)) o
 | _,_=>none
def z4i (s:ByteArray) (lo hi:Int) (o:List AObj) (K:Kt):R :=
 bif decide (0<=lo)&&decide (lo<=hi)&&decide (hi<=s.size) then K (.p (.str (s.extract lo.toNat hi.toNat))) o else none
def z0s (sh f:Nat) (xs:List PV) (lo hi:Int) (o:List AObj) (K:Kt):R :=
 bif decide (0<=lo)&&decide (lo<=hi)&&decide (hi<=xs.length) then K (.p (.row sh f ((xs.take hi.toNat).drop lo.toNat))) o else none
def z4h (id ver sh l0 len:Nat) (lo hi:Int) (o:List AObj) (K:Kt):R :=
 bif decide (0<=lo)&&decide (lo<=hi)&&decide (hi<=len) then K (.s (.c (.loc id ver sh (l0+lo.toNat) (hi.toNat-lo.toNat)))) o else none
def q44 (a:Option AV) (d:Int) (K:Int->R):R :=
 match a with
 | none=>K d
 | some a=>a.int?.bind K
def opSlice (E:Env) (T:TypeId) (a:AV) (lo hi mx:Option AV) (o:List AObj) (K:Kt):R :=
 match a.cv?,mx with
 | some (.p v),none=>
  match E.st T,E.sl T with
  | true,_=>v.str?.bind fun s=>q44 lo 0 fun l=>q44 hi s.size fun h=>z4i s l h o K
  | false,some (_,sh',_)=>v.row?.bind fun q=>bif q.1==sh'||q.2.1==2 then q44 lo 0 fun l=>q44 hi q.2.2.length fun h=>z0s q.1 (bif q.2.1==2 then 2 else 0) q.2.2 l h o K else none
  | _,_=>none
 | some (.loc id ver sh l0 len),none=>
  match E.sl T with
  | some (_,sh',_)=>bif sh==sh'&&cur o id ver sh then q44 lo 0 fun l=>q44 hi len fun h=>z4h id ver sh l0 len l h o K else none
  | none=>none
 | some (.p v),some m=>
  match hi,E.sl T with
  | some h,some (_,sh',_)=>v.row?.bind fun q=>bif q.1==sh'||q.2.1==2 then q44 lo 0 fun l=>h.int?.bind fun h=>m.int?.bind fun m=>bif m==h then z0s q.1 (bif q.2.1==2 then 2 else 1) q.2.2 l h o K else none else none
  | _,_=>none
 | _,_=>none
def opConvert (E:Env) (src dst:TypeId) (a:AV) (o:List AObj) (K:Kt):R :=
 match E.ik src,E.ik dst with
 | some _,some k=>a.int?.bind fun n=>K (.p (.int k (k.wrap n))) o
 | _,_=>none
def z8t (E:Env) (T:TypeId) (o:List AObj) (K:Kt):R :=
 (E.zr T).bind fun z=>K (.s (.c (.bptr o.length 0))) (o++[.box (z.map .p)])
def opBox (E:Env) (T:TypeId) (a:AV) (o:List AObj) (K:Kt):R :=
 match a.sv?,E.sh T with
 | some x,some sh=>cellsK o sh x fun cs=>K (.s (.c (.bptr o.length 0))) (o++[.box cs])
 | _,_=>none
def buildIn (E:Env) (T:TypeId) (t:List AV) (o:List AObj):List (Nat × Operand)->List CV->(List CV->R)->R
 | [],cs,K=>K cs
 | (i,x)::ps,cs,K=>
  match E.pl T i,(aval t x).sv? with
  | some (off,sh),some v=>cellsK o sh v fun ns=>(z7u cs off ns).bind fun cs'=>buildIn E T t o ps cs' K
  | _,_=>none
def opBuild (E:Env) (T:TypeId) (t:List AV) (ps:List (Nat × Operand)) (o:List AObj) (K:Kt):R :=
 match E.zr T,E.sh T with
 | some z,some (_+1)=>buildIn E T t o ps (z.map .p) fun cs=>K (.s (mkAgg cs)) o
 | _,_=>none
def q3j (sh:Nat) (t:List AV):Nat->List (Nat × Operand)->List AObj->(List PV->List AObj->R)->R
 | _,[],o,K=>K [] o
 | n,(i,x)::ps,o,K=>
  bif i==n then
   ((aval t x).sv?).bind fun v=>(freezeS o v).bind fun (y,o1)=>
    bif y.shp sh then q3j sh t (n+1) ps o1 fun ys o2=>K (y::ys) o2 else none
  else none
def q17 (E:Env) (T:TypeId) (n:Nat) (t:List AV) (ps:List (Nat × Operand)) (o:List AObj) (K:Kt):R :=
 match E.sl T with
 | some (e,sh,_)=>
  bif ps.length==n&&decide (n*csz sh<=16777216) then
   q3j sh t 0 ps o fun ys o1=>K (.s (.c (.loc o1.length 0 sh 0 n))) (o1++[.arr e sh 0 false ys]) else none
 | none=>none
def newEt (E:Env) (T:TypeId) (e:Nat) (z:List PV):Et :=
 match E.nest T with
 | none=>e
 | some k=>match z[k.j]? with
  | some (.row s f [])=>bif f==2&&s==k.sh then ⟨e,some { k with nv:=0,hole:=none }⟩ else e
  | _=>e
def q5r (sh:Nat) (z:List PV):PV:=match sh with | 0=>(z[0]?).getD (.bool false) | _=>.agg z
def v2g:SV->List CV
 | .c v=>[v]
 | .agg cs=>cs
def z8m (sh:Nat) (vs:List PV):PV:=match sh with | 0=>(vs[0]?).getD .junk | _=>.agg vs
def opBuildNest (E:Env) (T:TypeId) (n:Nat) (t:List AV) (ps:List (Nat × Operand)) (o:List AObj) (K:Kt):R :=
 match E.nest T,E.sl T,ps with
 | some k,some (e,sh,_),[(i,x)]=>
  match (aval t x).sv?.map v2g with
  | some cs=>match cs[k.j]? with
   | some (.loc id2 ver2 sh2 lo len)=>match o[id2]? with
    | some (.arr e2 sh2' ver2' false ys)=>
     bif i==0&&n==1&&decide (csz sh<=16777216)&&ver2==ver2'&&sh2==sh2'&&lo==0&&sh2==k.sh&&e2==(k.e:Et)&&decide (len<=ys.length) then
      (allP (cs.set k.j (.p (.row k.sh 0 (ys.take len))))).bind fun vs=>
       bif vs.length==csz sh&&(z8m sh vs).shp sh then K (.s (.c (.loc o.length 0 sh 0 1))) ((o.set id2 .dead)++[.arr ⟨e,some { k with nv:=0,hole:=none }⟩ sh 0 false [z8m sh vs]]) else none
     else none
    | _=>none
   | _=>none
  | _=>none
 | _,_,_=>none
def nestEl (E:Env) (T:TypeId) (t:List AV) (ps:List (Nat × Operand)):Bool :=
 match E.nest T,ps with
 | some k,[(_,x)]=>match (aval t x).sv? with
  | some (.agg cs)=>match cs[k.j]? with
   | some (.loc ..)=>true
   | _=>false
  | some (.c (.loc ..))=>E.n1&&k.j==0
  | _=>false
 | _,_=>false
def q1y (o:List AObj) (id:Nat):Bool:=match o[id]? with | some (.arr e _ _ _ _)=>e.kd.isSome | _=>false
def q7w (E:Env) (T:TypeId) (l c:AV) (o:List AObj) (K:Kt):R :=
 match E.sl T with
 | some (e,sh,by_)=>
  (E.zr e).bind fun z=>l.int?.bind fun l=>c.int?.bind fun c=>
  bif l==c&&decide (0<=l)&&decide (l.toNat*by_<=LIM)&&decide (l.toNat<=LIM) then
   bif (q5r sh z).shp sh then K (.s (.c (.loc o.length 0 sh 0 l.toNat))) (o++[.arr (newEt E T e z) sh 0 false (List.replicate l.toNat (q5r sh z))]) else none
  else none
 | none=>none
def opExtract (a:AV) (i:Nat) (o:List AObj) (K:Kt):R :=
 match a with
 | .tup vs=>(vs[i]?).bind fun v=>K (.s v) o
 | _=>none
def opField (E:Env) (T:TypeId) (a:AV) (f:Nat) (o:List AObj) (K:Kt):R :=
 match E.fl T f,a with
 | some (off,0),.s (.agg cs)=>(cs[off]?).bind fun c=>K (.s (.c c)) o
 | some (off,0),.s (.c (.p (.agg ps)))=>(ps[off]?).bind fun c=>K (.p c) o
 | _,_=>none
def capIds (t:List AV):List Operand->Option (List Nat)
 | []=>some []
 | x::xs=>match (aval t x).cv? with
  | some (.bptr id 0)=>(capIds t xs).map (id::·)
  | _=>none
def capVals (t:List AV):List Operand->Option (List PV)
 | []=>some []
 | x::xs=>match (aval t x).cv? with
  | some (.eptr v sh 0)=>bif sh==v.cells.length then (capVals t xs).map (v::·) else none
  | _=>none
def opMakeFunc (fn:Fn) (first caps:List Operand) (t:List AV) (o:List AObj) (K:Kt):R :=
 match fn,first with
 | .func f,[]=>match capVals t caps with
  | some (u::us)=>K (.s (.c (.cfn f (u::us)))) o
  | _=>(capIds t caps).bind fun ids=>K (.s (.c (.fn f ids))) o
 | _,_=>none
def opLen (E:Env) (T:TypeId) (a:AV) (o:List AObj) (K:Kt):R :=
 match a.cv? with
 | some (.p v)=>match E.st T,E.sl T with
  | true,_=>v.str?.bind fun s=>K (.p (.int .i64 s.size)) o
  | false,some _=>v.row?.bind fun q=>K (.p (.int .i64 q.2.2.length)) o
  | _,_=>none
 | some (.loc id ver sh _ len)=>bif (E.sl T).isSome&&cur o id ver sh then K (.p (.int .i64 len)) o else none
 | _=>none
def y4r (sh:Nat) (v:PV):Option (List PV):=v.row?.bind fun q=>bif sh==q.1||q.2.2.isEmpty then some q.2.2 else none
def y0r (e sh by_:Nat) (a:CV) (ys:List PV) (o:List AObj) (K:Kt):R :=
 match a with
 | .p v=>
  v.row?.bind fun q=>
   bif ys.isEmpty then K (.p (.row q.1 (bif q.2.1==2 then 2 else 0) q.2.2)) o
   else bif (q.2.1==2||(q.2.1==1&&sh==q.1))&&decide ((q.2.2.length+ys.length)*by_<=LIM)&&decide (q.2.2.length+ys.length<=LIM) then
    K (.s (.c (.loc o.length 0 sh 0 (q.2.2.length+ys.length)))) (o++[.arr e sh 0 false (q.2.2++ys)]) else none
 | .loc id ver sh' lo len=>
  match o[id]? with
  | some (.arr e' sh'' ver' false xs)=>
   bif ver==ver'&&sh==sh'&&sh==sh''&&(e:Et)==e'&&decide ((len+ys.length)*by_<=LIM)&&decide (len+ys.length<=LIM) then
    K (.s (.c (.loc id (ver+1) sh 0 (len+ys.length)))) (o.set id (.arr e sh (ver+1) false ((xs.drop lo).take len++ys))) else none
  | _=>none
 | _=>none
def z0x (e sh by_:Nat) (id ver nv i:Nat) (ys:List PV) (o:List AObj) (K:Kt):R :=
 match o[id]? with
 | some (.arr e' sh' ver' false xs)=>
  match e'.kd with
  | some k=>bif ver==ver'&&nv==k.nv&&k.hole.isNone&&k.e==e&&k.sh==sh then
    (xs[i]?).bind fun x=>(x.atRow sh k.j).bind fun zs=>
     bif decide ((zs.length+ys.length)*by_<=LIM)&&decide (zs.length+ys.length<=LIM) then
      K (.s (.c (.loc o.length 0 sh 0 (zs.length+ys.length)))) ((o.set id (.arr ⟨e'.t,some { k with nv:=k.nv+1,hole:=some i }⟩ sh' ver' false xs))++[.arr e sh 0 false (zs++ys)]) else none
    else none
  | none=>none
 | _=>none
def opAppend (E:Env) (T:TypeId) (a b:AV) (o:List AObj) (K:Kt):R :=
 match E.sl T,a.cv?,b.cv? with
 | some (e,sh,by_),some a,some b=>(viewC o b).bind fun r=>(y4r sh r).bind fun ys=>match a with
  | .nel id ver nv i=>z0x e sh by_ id ver nv i ys o K
  | a=>y0r e sh by_ a ys o K
 | _,_,_=>none
def opAppendNest (E:Env) (T:TypeId) (a b:AV) (o:List AObj) (K:Kt):R :=
 match E.sl T,a.cv?,b.cv? with
 | some (e,sh,by_),some (.loc id ver sh1 lo len),some (.loc id2 ver2 sh2 lo2 len2)=>
  match o[id]?,o[id2]? with
  | some (.arr e1 sh1' ver' false xs),some (.arr e2 sh2' ver2' false ys)=>
   match e1.kd,e2.kd with
   | some k1,some k2=>
    bif e1.t==e&&e2.t==e&&k1.j==k2.j&&k1.e==k2.e&&k1.sh==k2.sh&&k1.hole.isNone&&k2.hole.isNone&&sh==sh1&&sh==sh1'&&sh==sh2&&sh==sh2'&&ver==ver'&&ver2==ver2'&&lo==0&&lo2==0&&id != id2&&len2==ys.length&&len==xs.length
      && decide ((len+ys.length)*by_<=LIM)&&decide (len+ys.length<=LIM) then
     K (.s (.c (.loc id (ver+1) sh 0 (len+ys.length)))) ((o.set id (.arr e1 sh (ver+1) false (xs++ys))).set id2 .dead) else none
   | _,_=>none
  | _,_=>none
 | _,_,_=>none
def z8o (o:List AObj) (b:AV):Bool:=match b.cv? with | some (.loc id ..)=>q1y o id | _=>false
def opCap (E:Env) (T:TypeId) (a:AV) (o:List AObj) (K:Kt):R :=
 match a.pv?,E.sl T with
 | some v,some _=>v.row?.bind fun q=>bif q.2.1==2 then K (.p (.int .i64 0)) o else none
 | _,_=>none
def opMin (mx:Bool) (a b:AV) (o:List AObj) (K:Kt):R :=
 match a.pv?,b.pv? with
 | some (.int k x),some (.int _ y)=>K (.p (.int k (bif mx then maxI x y else minI x y))) o
 | _,_=>none
def opAppendZ (E:Env) (T T':TypeId) (a b:AV) (o:List AObj) (K:Kt):R :=
 match E.sl T,E.ik T',a.pv? with
 | some (e,sh,by_),some _,some v=>v.row?.bind fun q=>(E.zr e).bind fun z=>b.int?.bind fun n=>
  bif (q5r sh z).shp sh&&q.2.1==2&&decide (0<n)&&decide (n.toNat*by_<=LIM)&&decide (n.toNat<=LIM) then
   K (.s (.c (.loc o.length 0 sh 0 n.toNat))) (o++[.arr e sh 0 false (List.replicate n.toNat (q5r sh z))]) else none
 | _,_,_=>none
def opCopy (E:Env) (T:TypeId) (a b:AV) (o:List AObj) (K:Kt):R :=
 match E.sl T,a.cv?,b.cv? with
 | some (e,sh,_),some (.loc id ver sh1 lo len),some b=>(viewC o b).bind fun r=>(y4r 0 r).bind fun ys=>
  match o[id]? with
  | some (.arr e' sh' ver' false xs)=>bif sh==0&&sh1==0&&sh'==0&&e'.kd.isNone&&ver==ver'&&(e:Et)==e' then
    K (.p (.int .i64 (min ys.length len:Nat))) (o.set id (.arr e' 0 ver' false (xs.take lo++ys.take (min ys.length len)++xs.drop (lo+(ys.take (min ys.length len)).length)))) else none
  | _=>none
 | _,_,_=>none
def opClear (E:Env) (T:TypeId) (a:AV) (o:List AObj) (K:Kt):R :=
 match E.sl T,a.cv? with
 | some (e,sh,_),some (.loc id ver sh1 lo len)=>(E.zr e).bind fun z=>
  match o[id]? with
  | some (.arr e' sh' ver' false xs)=>bif sh==0&&sh1==0&&sh'==0&&e'.kd.isNone&&ver==ver'&&(e:Et)==e'&&(q5r 0 z).shp 0 then
    K (.tup []) (o.set id (.arr e' 0 ver' false (xs.take lo++List.replicate len (q5r 0 z)++xs.drop (lo+len)))) else none
  | _=>none
 | _,_=>none
def evOp (E:Env) (op:Op) (s:St) (K:Kt):R :=
 match op with
 | .move x | .assign x=>K (aval s.t x) s.o
 | .alloc T=>z8t E T s.o K
 | .box T x=>opBox E T (aval s.t x) s.o K
 | .build T ps=>opBuild E T s.t ps.toList s.o K
 | .buildSlice T n ps=>bif nestEl E T s.t ps.toList then opBuildNest E T n s.t ps.toList s.o K else q17 E T n s.t ps.toList s.o K
 | .load T a=>opLoad E T (aval s.t a) s.o K
 | .store T a x=>bif z2r s.o (aval s.t a) (aval s.t x) then opGive E T (aval s.t a) (aval s.t x) s.o K else opStore E T (aval s.t a) (aval s.t x) s.o K
 | .nilCheck x=>match (aval s.t x).cv? with
  | some (.bptr id off)=>bif isBox s.o id then K (.s (.c (.bptr id off))) s.o else none
  | _=>none
 | .binOp op T x y _=>match (aval s.t x).pv?,(aval s.t y).pv? with
  | some a,some b=>match nilEq op a b with
   | some c=>bif (E.sl T).isSome then K (.p (.bool c)) s.o else none
   | none=>bif z20 op a b then (bif (E.sl T).isSome&&z8z a then K (.p (.bool (y93 op))) s.o else none) else binK (E.eqs T) (E.bl T) op a b fun v=>K (.p v) s.o
  | _,_=>none
 | .unOp op _ x=>((aval s.t x).pv?).bind fun a=>v5g (pun op a) s.o K
 | .convert src dst x=>opConvert E src dst (aval s.t x) s.o K
 | .makeFunc fn first caps=>opMakeFunc fn first.toList caps.toList s.t s.o K
 | .makeSlice T l c=>q7w E T (aval s.t l) (aval s.t c) s.o K
 | .slice T x lo hi mx=>opSlice E T (aval s.t x) (lo.map (aval s.t)) (hi.map (aval s.t)) (mx.map (aval s.t)) s.o K
 | .fieldAddr T x f=>opFieldAddr E T (aval s.t x) f s.o K
 | .indexAddr T x i=>opIndexAddr E T (aval s.t x) (aval s.t i) s.o K
 | .index T x i=>opIndex E T (aval s.t x) (aval s.t i) s.o K
 | .extract x i=>opExtract (aval s.t x) i s.o K
 | .field T x f=>opField E T (aval s.t x) f s.o K
 | .call c=>match c.callee,c.args.toList,c.argTypes.toList with
  | .builtin .len,[x],[T]=>opLen E T (aval s.t x) s.o K
  | .builtin .append,[x,y],[T,T']=>bif T==T' then (bif z8o s.o (aval s.t y) then opAppendNest E T (aval s.t x) (aval s.t y) s.o K else opAppend E T (aval s.t x) (aval s.t y) s.o K) else opAppendZ E T T' (aval s.t x) (aval s.t y) s.o K
  | .builtin .cap,[x],[T]=>opCap E T (aval s.t x) s.o K
  | .builtin .min,[x,y],_=>opMin false (aval s.t x) (aval s.t y) s.o K
  | .builtin .max,[x,y],_=>opMin true (aval s.t x) (aval s.t y) s.o K
  | .builtin .copy,[x,y],[T,_]=>opCopy E T (aval s.t x) (aval s.t y) s.o K
  | .builtin .clear,[x],[T]=>opClear E T (aval s.t x) s.o K
  | _,_,_=>none
 | _=>none
def idx (L:List Nat) (id:Nat):Option Nat:=L.idxOf? id
def idxs (L:List Nat):List Nat->Option (List Nat)
 | []=>some []
 | i::is=>match idx L i,idxs L is with
  | some j,some js=>some (j::js)
  | _,_=>none
def renC (L:List Nat) (o:List AObj):CV->CV
 | .p v=>.p v
 | .loc id ver sh lo len=>
  match o[id]? with
  | some (.arr _ sh' ver' fz xs)=>
   bif ver==ver'&&sh==sh' then
    bif fz then .p (.row sh 0 ((xs.drop lo).take len))
    else match idx L id with | some j=>.loc j 0 sh lo len | none=>.undef
   else .undef
  | _=>.undef
 | .bptr id off=>match o[id]?,idx L id with | some (.box _),some j=>.bptr j off | _,_=>.undef
 | .aptr ..=>.undef
 | .eptr v sh off=>.eptr v sh off
 | .fn f caps=>match idxs L caps with | some js=>bif caps.all (fun i=>match o[i]? with | some (.box _)=>true | _=>false) then .fn f js else .undef | none=>.undef
 | .cfn f vs=>.cfn f vs
 | .own ..=>.undef
 | .nel ..=>.undef
 | .undef=>.undef
def renS (L:List Nat) (o:List AObj):SV->SV
 | .c v=>.c (renC L o v)
 | .agg cs=>.agg (cs.map (renC L o))
def renA (L:List Nat) (o:List AObj):AV->AV
 | .s v=>.s (renS L o v)
 | .tup vs=>.tup (vs.map (renS L o))
def renO (L:List Nat) (o:List AObj):AObj->AObj
 | .dead=>.dead
 | .box cs=>.box (cs.map (renC L o))
 | .arr e sh _ fz xs=>.arr e.reset sh 0 fz xs
def q62 (L:List Nat) (o:List AObj):List AObj:=L.map fun id=>renO L o ((o[id]?).getD .dead)
def z09:CV->List Nat
 | .bptr id _=>[id]
 | .fn _ caps=>caps
 | _=>[]
def q7v (o:List AObj):CV->List Nat
 | .loc id ver _ _ _=>match o[id]? with | some (.arr _ _ ver' false _)=>bif ver==ver' then [id] else [] | _=>[]
 | _=>[]
def cellsOfS:SV->List CV
 | .c v=>[v]
 | .agg cs=>cs
def q1d:AV->List CV
 | .s v=>cellsOfS v
 | .tup vs=>vs.flatMap cellsOfS
def q3o (o:List AObj) (id:Nat):List CV:=match o[id]? with | some (.box cs)=>cs | _=>[]
def add1 (l:List Nat) (i:Nat):List Nat:=bif l.contains i then l else l++[i]
def adds (l is:List Nat):List Nat:=is.foldl add1 l
def reach (o:List AObj) (m:Nat) (cs:List CV):List Nat :=
 let b1:=adds (List.range m) ((cs.flatMap z09).filter (isBox o))
 let b2:=adds b1 (((b1.flatMap (q3o o)).flatMap z09).filter (isBox o))
 adds (adds b2 ((b2.flatMap (q3o o)).flatMap (q7v o))) (cs.flatMap (q7v o))
def q5b (live:List Nat):Nat->List AV->List AV
 | _,[]=>[]
 | i,v::t=>(bif live.contains i then v else .undef)::q5b live (i+1) t
def canon (m:Nat) (live:List Nat) (s:St):St :=
 let t:=q5b live 0 s.t
 let L:=reach s.o m (t.flatMap q1d)
 ⟨t.map (renA L s.o),q62 L s.o⟩
def q5t (e:Et) (sh:Nat):Bool:=match e.kd with | none=>true | some k=>decide (k.j<csz sh)&&k.hole.isNone
def own1G (s:St) (q:Option Nat × Nat × Et × Nat):St :=
 match q.1 with
 | none=>match getT s.t q.2.1 with
  | .s (.c (.p (.row s' f xs)))=>match q.2.2.1.t with
   | 0=>match PV.asRow q.2.2.2 (.row s' f xs) with
    | some ys=>⟨s.t.set q.2.1 (.s (.c (.p (.row q.2.2.2 0 ys)))),s.o⟩
    | none=>s
   | _=>bif f==2&&q5t q.2.2.1 q.2.2.2 then ⟨s.t.set q.2.1 (.s (.c (.loc s.o.length 0 q.2.2.2 0 0))),s.o++[.arr q.2.2.1 q.2.2.2 0 false []]⟩ else s
  | .s (.c (.loc id ver sh0 lo len))=>match q.2.2.1.kd with
   | none=>s
   | some _=>match s.o[id]? with
    | some (.arr e' sh' ver' false xs)=>match e'.kd with
     | some _=>s
     | none=>match xs with
      | []=>bif e'.t==q.2.2.1.t&&sh'==q.2.2.2&&q5t q.2.2.1 q.2.2.2&&ver==ver'&&sh0==sh'&&lo==0&&len==0 then ⟨s.t.set q.2.1 (.s (.c (.loc id (ver'+1) sh' 0 0))),s.o.set id (.arr q.2.2.1 sh' (ver'+1) false [])⟩ else s
      | _::_=>s
    | _=>s
  | _=>s
 | some j=>match s.o[j]? with
  | some (.box cs)=>match cs[q.2.1]? with
   | some (.p (.row s' f xs))=>match q.2.2.1.t with
    | 0=>match PV.asRow q.2.2.2 (.row s' f xs) with
     | some ys=>⟨s.t,s.o.set j (.box (cs.set q.2.1 (.p (.row q.2.2.2 0 ys))))⟩
     | none=>s
    | _=>bif f==2&&q5t q.2.2.1 q.2.2.2 then ⟨s.t,((s.o++[AObj.arr q.2.2.1 q.2.2.2 0 false []]):List AObj).set j (.box (cs.set q.2.1 (.loc s.o.length 0 q.2.2.2 0 0)))⟩ else s
   | _=>s
  | _=>s
def letGo (s:St) (q:Option Nat × Nat × Et × Nat):St :=
 match (match q.1 with
  | none=>(getT s.t q.2.1).cv?
  | some j=>match s.o[j]? with
   | some (.box cs)=>cs[q.2.1]?
   | _=>none) with
 | some (.loc id _ _ _ _)=>⟨s.t,freezeO s.o id⟩
 | _=>s
def own1 (s:St) (q:Option Nat × Nat × Et × Nat):St :=
 match q.2.2.1.t,q.2.2.1.kd with
 | 0,some _=>letGo s q
 | _,_=>own1G s q
def head (m:Nat) (live:List Nat) (own:List (Option Nat × Nat × Et × Nat)) (s:St):St :=
 match own with
 | []=>canon m live s
 | own=>canon m live (own.foldl own1 (canon m live s))
inductive AExit where
 | normal
 | exit (n:Nat)
 | ret
structure Ctx where
 E:Env
 self:FuncId
 call:FuncId->List AV->List (List CV)->R
 n:Nat
 m:Nat
def branch (t:List AV) (x:Operand) (K:Bool->List AV->R):R :=
 match x with
 | .tmp i=>((getT t i).bool?).bind fun b=>bif b then K true (t.set i (.p (.bool true))) else K false (t.set i (.p (.bool false)))
 | .const v=>(constAV v).bool?.bind fun b=>bif b then K true t else K false t
 | _=>none
def putD (t:List AV) (dst:Option Tmp) (v:AV):List AV:=match dst with | some d=>t.set d v | none=>t
def sameEt (e e':Et) (len n:Nat):Bool:=e.t==e'.t&&match e.kd,e'.kd with
 | none,none=>true
 | some k,some k'=>k.j==k'.j&&k.e==k'.e&&k.sh==k'.sh&&k.nv==0&&k.hole.isNone&&k'.hole.isNone&&len==n
 | _,_=>false
def outC (k:Kind) (c:CV) (o:List AObj) (K:CV->List AObj->R):R :=
 match k with
 | .p ct=>(freezeC o c).bind fun (v,o1)=>q2c ct v fun v=>K (.p v) o1
 | .own e sh=>
  match c with
  | .p v=>v.row?.bind fun q=>bif q.2.1==2&&q5t e sh then K (.own e sh []) o else none
  | .loc id ver sh' lo len=>
   match o[id]? with
   | some (.arr e' sh'' ver' false xs)=>bif lo==0&&ver==ver'&&sh==sh'&&sh==sh''&&sameEt e e' len xs.length then K (.own e sh (xs.take len)) (o.set id .dead) else none
   | _=>none
  | .nel id ver nv i=>
   match o[id]? with
   | some (.arr e' sh' ver' false xs)=>match e'.kd with
    | some k=>bif ver==ver'&&nv==k.nv&&k.hole.isNone&&e==(k.e:Et)&&sh==k.sh then
      (xs[i]?).bind fun x=>(x.atRow sh k.j).bind fun zs=>K (.own e sh zs) (o.set id (.arr ⟨e'.t,some { k with nv:=k.nv+1,hole:=some i }⟩ sh' ver' false xs)) else none
    | none=>none
   | _=>none
  | _=>none
def q7x:List Kind->List CV->List AObj->(List CV->List AObj->R)->R
 | [],[],o,K=>K [] o
 | k::ks,c::cs,o,K=>outC k c o fun d o1=>q7x ks cs o1 fun ds o2=>K (d::ds) o2
 | _,_,_,_=>none
def outS (k:RK) (v:SV) (o:List AObj) (K:SV->List AObj->R):R :=
 match k,v with
 | .c k,.c c=>outC k c o fun d o1=>K (.c d) o1
 | .c (.p .any),.agg cs=>(freezeCs o cs).bind fun (vs,o1)=>K (.c (.p (.agg vs))) o1
 | .agg ks,v=>cellsK o ks.length v fun cs=>q7x ks cs o fun ds o1=>K (.agg ds) o1
 | _,_=>none
def z08:List RK->List SV->List AObj->(List SV->List AObj->R)->R
 | [],[],o,K=>K [] o
 | k::ks,v::vs,o,K=>outS k v o fun d o1=>z08 ks vs o1 fun ds o2=>K (d::ds) o2
 | _,_,_,_=>none
def q6z:List (List Kind)->List Nat->List AObj->(List (List CV)->List AObj->R)->R
 | [],[],o,K=>K [] o
 | ks::kss,i::is,o,K=>
  match o[i]? with
  | some (.box cs)=>q7x ks cs o fun ds o1=>q6z kss is o1 fun dss o2=>K (ds::dss) o2
  | _=>none
 | _,_,_,_=>none
def outA (q:Et × Nat) (a:AV) (o:List AObj) (K:AV->List AObj->R):R :=
 match a with
 | .s (.c c)=>outC (.own q.1 q.2) c o fun d o1=>K (.s (.c d)) o1
 | _=>none
def q5c:List (Option (Et × Nat))->List AV->List AObj->(List AV->List AObj->R)->R
 | none::qs,a::as,o,K=>q5c qs as o fun bs o1=>K (a::bs) o1
 | some q::qs,a::as,o,K=>outA q a o fun b o1=>q5c qs as o1 fun bs o2=>K (b::bs) o2
 | _,as,o,K=>K as o
def inAs:List AV->List AObj->(List AV->List AObj->R)->R
 | [],o,K=>K [] o
 | a::as,o,K=>match a with
  | .s (.c (.own e sh xs))=>inAs as (o++[.arr e sh 0 false xs]) fun bs o1=>K (.s (.c (.loc o.length 0 sh 0 xs.length))::bs) o1
  | a=>inAs as o fun bs o1=>K (a::bs) o1
def asP:Option CV->Option PV
 | some (.p v)=>some v
 | _=>none
def q3z (e:Et) (sh:Nat):Option CV->Option (List PV)
 | some (.own e' sh' xs)=>bif e==e'&&sh==sh' then some xs else none
 | _=>none
def q0w (bs:List (List CV)) (j i:Nat):Option CV:=(bs[j]?).bind fun cs=>cs[i]?
def q01 (vs:List SV) (j:Nat):Option CV:=match vs[j]? with | some (.c v)=>some v | _=>none
def partAt (vs:List SV) (j i:Nat):Option CV:=match vs[j]? with | some (.agg cs)=>cs[i]? | _=>none
def q0y (bs:List (List CV)) (ks:List (List Kind)):Bool:=bs.map List.length==ks.map List.length
def lenS:SV->Nat
 | .c _=>0
 | .agg cs=>cs.length+1
def lenK:RK->Nat
 | .c _=>0
 | .agg ks=>ks.length+1
def q02 (vs:List SV) (ks:List RK):Bool:=vs.map lenS==ks.map lenK
def cInt (c:Option CV) (k:IntKind):Option Int:=(asP c).bind (PV.asInt k)
def q3d (c:Option CV):Option Bool:=(asP c).bind PV.bool?
def cStr (c:Option CV):Option ByteArray:=(asP c).bind PV.str?
def x77 (c:Option CV) (sh:Nat):Option (List PV):=(asP c).bind (PV.asRowN sh)
def cRow (c:Option CV) (sh:Nat):Option (List PV):=(asP c).bind (PV.asRow sh)
def inP (ct:CellT) (c:Option CV) (K:PV->R):R :=
 match ct with
 | .any=>(asP c).bind K
 | .int k=>(cInt c k).bind fun n=>K (.int k n)
 | .bool=>(q3d c).bind fun b=>K (.bool b)
 | .str=>(cStr c).bind fun s=>K (.str s)
 | .row sh=>(cRow c sh).bind fun xs=>K (.row sh 0 xs)
 | .rowN sh=>(x77 c sh).bind fun xs=>bif xs.isEmpty then K (.row sh 2 []) else K (.row sh 3 xs)
def inC (k:Kind) (c:Option CV) (o:List AObj) (K:CV->List AObj->R):R :=
 match k with
 | .p ct=>inP ct c fun v=>K (.p v) o
 | .own e sh=>(q3z e sh c).bind fun xs=>K (.loc o.length 0 sh 0 xs.length) (o++[.arr e sh 0 false xs])
def inCs (get:Nat->Option CV):List Kind->Nat->List AObj->(List CV->List AObj->R)->R
 | [],_,o,K=>K [] o
 | k::ks,i,o,K=>inC k (get i) o fun d o1=>inCs get ks (i+1) o1 fun ds o2=>K (d::ds) o2
def inSs (vs:List SV):List RK->Nat->List AObj->(List SV->List AObj->R)->R
 | [],_,o,K=>K [] o
 | .c k::ks,j,o,K=>inC k (q01 vs j) o fun d o1=>inSs vs ks (j+1) o1 fun ds o2=>K (.c d::ds) o2
 | .agg ks::kss,j,o,K=>inCs (partAt vs j) ks 0 o fun ds o1=>inSs vs kss (j+1) o1 fun dss o2=>K (mkAgg ds::dss) o2
def inBs (bs:List (List CV)):List (List Kind)->List Nat->Nat->List AObj->(List AObj->R)->R
 | [],[],_,o,K=>K o
 | ks::kss,i::is,j,o,K=>inCs (q0w bs j) ks 0 o fun ds o1=>inBs bs kss is (j+1) (o1.set i (.box ds)) K
 | _,_,_,_,_=>none
def q9 (o:List AObj):CV->CV
 | .loc id ver sh lo len=>bif z74 o id then (match viewL o id ver sh lo len with | some v=>.p v | none=>.undef) else .undef
 | c=>c
def z38 (roots:List Nat):CV->CV
 | .bptr id off=>match idx roots id with | some j=>.bptr j off | none=>.undef
 | .fn f caps=>match idxs roots caps with | some js=>.fn f js | none=>.undef
 | .p v=>.p v
 | .eptr v sh off=>.eptr v sh off
 | .own e sh xs=>.own e sh xs
 | .cfn f vs=>.cfn f vs
 | _=>.undef
def q7t (roots:List Nat) (o:List AObj):AV->AV
 | .s (.c v)=>.s (.c (z38 roots (q9 o v)))
 | .s (.agg cs)=>.s (mkAgg (cs.map fun c=>z38 roots (q9 o c)))
 | .tup _=>.undef
def z73 (o:List AObj):CV->Option PV
 | .loc id ver sh lo len=>viewL o id ver sh lo len
 | c=>viewC o c
def viewCs (o:List AObj):List CV->Option (List PV)
 | []=>some []
 | c::cs=>match z73 o c,viewCs o cs with
  | some v,some vs=>bif v.one then some (v::vs) else none
  | _,_=>none
def boxVals (o:List AObj):List Nat->Option (List PV)
 | []=>some []
 | i::is=>match o[i]? with
  | some (.box cs)=>match viewCs o cs,boxVals o is with
   | some vs,some us=>bif !vs.isEmpty then some (.agg vs::us) else none
   | _,_=>none
  | _=>none
def lendR (ro:Bool) (roots:List Nat) (o:List AObj) (a:AV):AV :=
 match ro with
 | false=>q7t roots o a
 | true=>match a with
  | .s (.c (.fn f caps))=>bif caps.all (fun i=>!roots.contains i) then (match boxVals o caps with | some vs=>.s (.c (.cfn f vs)) | none=>.undef) else .undef
  | a=>q7t roots o a
def ptrsR (ro:Bool) (c:CV):List Nat:=match ro,c with
 | true,.fn _ _=>[]
 | _,c=>z09 c
def x78:CV->List Nat
 | .fn _ caps=>caps
 | _=>[]
def z35 (ro:Bool) (o:List AObj) (c:CV):List Nat:=bif ro then q7v o c++(x78 c).flatMap fun i=>(q3o o i).flatMap (q7v o) else q7v o c
def freezeAll (is:List Nat) (o:List AObj):List AObj:=is.foldl freezeO o
def q35:PV->Bool
 | .row _ _ _=>false
 | .junk=>false
 | .agg cs=>cs.all fun c=>match c with | .row ..=>false | .agg _=>false | .junk=>false | _=>true
 | _=>true
def q1m:CV->Bool
 | .p v=>q35 v
 | .own e _ xs=>e.kd.isNone&&xs.all q35
 | _=>false
def q0z:SV->Bool
 | .c v=>q1m v
 | .agg cs=>cs.all q1m
def afterLend (ro plain:Bool) (lent:List Nat) (r:List SV × List (List CV)) (o:List AObj) (K:List AObj->R):R :=
 bif ro then (bif r.1.all q0z&&r.2.all (fun cs=>cs.all q1m) then K o else none) else
 match lent with
 | []=>K o
 | _=>bif plain then (bif r.1.all q0z&&r.2.all (fun cs=>cs.all q1m) then K o else none) else K (freezeAll lent o)
def q6h (b:Option (List (List Kind))) (lens:List Nat):List (List Kind):=match b with | some b=>b | none=>lens.map fun n=>List.replicate n (.p .any)
def y42:List SV->AV
 | [x]=>.s x
 | xs=>.tup xs
def z8g (ct:CellT) (c:CV) (K:CV->R):R:=match c with | .p v=>q2c ct v fun v=>K (.p v) | c=>K c
def castA (ct:CT) (a:AV) (K:AV->R):R :=
 match ct,a with
 | .one ct,.s (.c c)=>z8g ct c fun c=>K (.s (.c c))
 | .agg cts,.s (.c (.p v))=>z3f (.agg cts) v fun v=>K (.p v)
 | _,a=>K a
def q5g:List CT->List AV->(List AV->R)->R
 | ct::cts,a::as,K=>castA ct a fun a=>q5g cts as fun as=>K (a::as)
 | _,as,K=>K as
def intsOf:List PV->Option (List Int)
 | []=>some []
 | .int .i64 n::l=>(intsOf l).map (n::·)
 | _=>none
def q2j (l:List Int):List Int:=l.mergeSort fun x y=>decide (x<=y)
def q3t (l:List Int):List Int:=Lib.compact l
def w5:List AV->Nat
 | []=>0
 | a::as=>match a with
  | .s (.c (.fn g _))=>g+1
  | .s (.c (.cfn g _))=>g+1
  | _=>w5 as
def keyOf (f:FuncId) (args:List AV):Nat:=f+1000*w5 args
def opSort (n:Nat) (args:List AV) (o:List AObj) (K:Kt):R :=
 match args with
 | [.s (.c (.loc id ver sh lo len))]=>
  match o[id]? with
  | some (.arr e sh' ver' false xs)=>
   bif e.kd.isNone&&ver==ver'&&sh==0&&sh'==0&&lo==0&&decide (len<=LIM) then
    (intsOf (xs.take len)).bind fun zs=>
    bif n==1 then K (.tup []) (o.set id (.arr e 0 ver false ((q2j zs).map (PV.int .i64)++xs.drop len)))
    else K (.s (.c (.loc id ver 0 0 (q3t zs).length))) (o.set id (.arr e 0 ver false ((q3t zs).map (PV.int .i64)++List.replicate (len-(q3t zs).length) (PV.int .i64 0)++xs.drop len)))
   else none
  | _=>none
 | _=>none
def z8f (C:Ctx) (g:FuncId) (A:List AV) (s:St) (K:Kt):R :=
 let q:=keyOf g A
 let ro:=C.E.ro q
 let cs:=A.flatMap q1d
 let roots:=adds [] (cs.flatMap (ptrsR ro))
 let ks:=q6h (C.E.bk q) (roots.map fun i=>(q3o s.o i).length)
 q6z ks roots s.o fun bs o0=>
  q5c (C.E.ao g) A o0 fun args o1=>
  q5g (C.E.ak g) (args.map (lendR ro roots o1)) fun as=>
  (C.call g as bs).bind fun r=>
   afterLend ro (C.E.plain q) (adds [] (cs.flatMap (z35 ro o1))) r o1 fun o2=>
   bif q0y r.2 ks&&q02 r.1 (C.E.rk g) then
    inBs r.2 ks roots 0 o2 fun o3=>
    inSs r.1 (C.E.rk g) 0 o3 fun vs o4=>
    K (y42 vs) o4
   else none
def callOp (C:Ctx) (f:AV) (args:List AV) (s:St) (K:Kt):R :=
 match f.cv? with
 | some (.fn g caps)=>
  bif C.E.sorts g != 0 then (bif caps.isEmpty then opSort (C.E.sorts g) args s.o K else none) else
  z8f C g (args++caps.map fun i=>.s (.c (.bptr i 0))) s K
 | some (.cfn g vs)=>z8f C g (args++vs.map fun v=>.s (.c (.eptr v v.cells.length 0))) s K
 | _=>none
def opExt (n:Nat) (args:List AV) (o:List AObj) (K:Kt):R :=
 match n,args with
 | 1,[a,b,c]=>match a.pv?,b.pv?,c.pv? with
  | some (.int .u64 x),some (.int .u64 y),some (.int .u64 z)=>bif decide (0<=x)&&decide (0<=y)&&decide (0<=z)&&decide (z<=1) then
    K (.tup [.c (.p (.int .u64 ((x+y+z) % 18446744073709551616))),.c (.p (.int .u64 ((x+y+z) / 18446744073709551616)))]) o else none
  | _,_,_=>none
 | _,_=>none
def extOf (E:Env) (f:AV):Nat:=match f.cv? with
 | some (.fn g [])=>E.ext g
 | _=>0
def stepOp (C:Ctx) (o:Oper) (s:St) (K:St->R):R :=
 match o.op with
 | .pick c a b=>branch s.t c fun bv t=>K ⟨putD t o.dst (aval t (bif bv then a else b)),s.o⟩
 | .call c=>
  match c.callee with
  | .value f=>match extOf C.E (aval s.t f) with
   | 0=>callOp C (aval s.t f) (c.args.toList.map (aval s.t)) s fun v ob=>K ⟨putD s.t o.dst v,ob⟩
   | n+1=>opExt (n+1) (c.args.toList.map (aval s.t)) s.o fun v ob=>K ⟨putD s.t o.dst v,ob⟩
  | _=>evOp (C.E.on C.self) o.op s fun v ob=>K ⟨putD s.t o.dst v,ob⟩
 | op=>evOp (C.E.on C.self) op s fun v ob=>K ⟨putD s.t o.dst v,ob⟩
def skipped (a:AV):Bool:=match a with | .tup []=>true | _=>false
def guarded (C:Ctx) (ops:Array Oper) (o:Oper) (s:St) (K:St->R):R :=
 match o.guard with
 | none=>stepOp C o s K
 | some (j,want)=>
  match (ops[j]?).bind (·.dst) with
  | some d=>bif skipped (getT s.t d) then K ⟨putD s.t o.dst (.tup []),s.o⟩ else
   branch s.t (.tmp d) fun b t=>bif b==want then stepOp C o ⟨t,s.o⟩ K else K ⟨putD t o.dst (.tup []),s.o⟩
  | none=>none
def evOps (C:Ctx) (ops:Array Oper):List Nat->St->(St->R)->R
 | [],s,K=>K s
 | i::is,s,K=>
  match ops[i]? with
  | some o=>guarded C ops o s fun s'=>evOps C ops is s' K
  | none=>none
def q1k:Op->Bool
 | .move _ | .assign _ | .build .. | .load .. | .nilCheck _ | .binOp .. | .unOp .. | .convert .. | .makeFunc .. | .slice .. | .fieldAddr .. | .indexAddr .. | .index .. | .extract .. | .field ..=>true
 | .call c=>match c.callee with | .builtin .len=>true | .builtin .cap=>true | .builtin .min=>true | .builtin .max=>true | _=>false
 | _=>false
def quietO (o:Oper):Bool:=match o.op with | .pick ..=>true | op=>q1k op
def q14 (o:Oper):List Nat:=o.after.toList.filterMap fun e=>bif Region.binds .any e then some e.on else none
def bitsOf (bs:List Nat) (i:Nat):Nat:=(bs[i]?).getD 0
def x5n (ops:List Oper):List Nat :=
 ops.foldl (fun acc o=>acc++[(q14 o).foldl (fun s i=>s ||| 2 ^ i ||| bitsOf acc i) 0]) []
def looksT (ops:Array Oper) (o:Oper):List Tmp :=
 (o.op.operands.toList.filterMap fun | .tmp t=>some t | _=>none)++(match o.guard with | some (g,_)=>((ops[g]?).bind (·.dst)).toList | none=>[])
def y45 (ops:Array Oper) (o:Oper):Bool:=quietO o&&match o.dst with
 | none=>true
 | some d=>!(ops.toList.any fun oj=>(looksT ops oj).contains d&&!((q14 oj).any fun e=>((ops[e]?).bind (·.dst))==some d))
def q89 (o:Oper):Bool:=o.guard.isNone&&match o.op with | .alloc _ | .box .. | .buildSlice ..=>true | _=>false
def z07 (t:List AV) (op:Op):Bool:=match op with | .buildSlice _ _ ps=>ps.toList.all fun q=>(aval t q.2).pv?.isSome | _=>true
def lazyB (lz:Bool) (ops:Array Oper) (o:Oper):Bool:=match lz with
 | false=>y45 ops o
 | true=>y45 ops o||(q89 o&&(!((q14 o).any fun e=>match ops[e]? with | some p=>q89 p | none=>false)&&match o.dst with
  | none=>false
  | some d=>!(ops.toList.any fun oj=>(looksT ops oj).contains d&&!((q14 oj).any fun e=>((ops[e]?).bind (·.dst))==some d))))
def w4b (q:Oper->Bool) (ops:List Oper) (done:Nat):Option Nat :=
 let rd:=ops.zipIdx.filterMap fun (o,i)=>bif !done.testBit i&&(q14 o).all (fun j=>done.testBit j) then some (o,i) else none
 match rd.find? fun oi=>q oi.1 with
 | some oi=>some oi.2
 | none=>rd[0]?.map (·.2)
def z7i (q:Oper->Bool) (ops:List Oper):Nat->Nat->List Nat
 | 0,_=>[]
 | n+1,done=>match w4b q ops done with
  | some i=>i::z7i q ops n (done ||| 2 ^ i)
  | none=>[]
def q4q (ops:Array Oper) (bs:List Nat):Bool:=ops.toList.zipIdx.all fun oi=>bitsOf bs oi.2==(q14 oi.1).foldl (fun s e=>s ||| 2 ^ e ||| bitsOf bs e) 0
def x67 (lz:Bool) (ops:Array Oper) (bs:List Nat):Bool:=ops.toList.zipIdx.all fun oi=>match oi.1.dst with
 | none=>true
 | some d=>(!lazyB lz ops oi.1||!(looksT ops oi.1).contains d)&&ops.toList.zipIdx.all fun oj=>oi.2==oj.2 ||
   oj.1.dst != some d&&(!(looksT ops oj.1).contains d||(bitsOf bs oj.2).testBit oi.2||!lazyB lz ops oi.1&&(!lazyB lz ops oj.1||(bitsOf bs oi.2).testBit oj.2))
def lineOk (lz:Bool) (ops:Array Oper) (bs:List Nat):Nat->List Nat->Bool
 | _,[]=>true
 | done,i::is=>match ops[i]? with
  | some o=>!done.testBit i&&(q14 o).all (fun j=>done.testBit j)&&(lazyB lz ops o||is.all fun j=>(bitsOf bs j).testBit i)&&lineOk lz ops bs (done ||| 2 ^ i) is
  | none=>false
def w0u (lz:Bool) (ops:Array Oper) (bs l:List Nat):Bool :=
 q4q ops bs&&x67 lz ops bs&&lineOk lz ops bs 0 l&&(List.range ops.size).all (fun i=>l.contains i)&&ops.toList.zipIdx.all fun oi=>(q14 oi.1).all fun j=>decide (j<oi.2)
def idsC:CV->List Nat
 | .nel id _ _ _=>[id]
 | .loc id _ _ _ _=>[id]
 | .aptr id _ _ _ _=>[id]
 | .bptr id _=>[id]
 | .fn _ caps=>caps
 | _=>[]
def idsA (a:AV):List Nat:=(q1d a).flatMap idsC
def q4v (t:List AV) (op:Op):List Nat:=op.operands.toList.flatMap fun x=>idsA (aval t x)
def idsQ (t:List AV) (op:Op):List Nat :=
 match op with
 | .move _ | .assign _ | .pick .. | .binOp .. | .unOp .. | .convert .. | .makeFunc .. | .extract ..=>[]
 | op=>q4v t op
def y92:CV->List Nat
 | .fn _ _=>[]
 | c=>idsC c
def q6x (a:AV):List Nat:=(q1d a).flatMap y92
def q63 (E:Env) (f:AV) (args:List AV):Bool:=match f.cv? with
 | some (.fn g [])=>E.sorts g==0&&E.ro (keyOf g args)
 | _=>false
def touched (E:Env) (s:St) (op:Op):List Nat:=(q4v s.t op).filter (fun id=>q1y s.o id) ++
 match op with
 | .store _ a x=>idsA (aval s.t a)++(bif z2r s.o (aval s.t a) (aval s.t x) then idsA (aval s.t x) else [])
 | .buildSlice T _ ps=>ps.toList.flatMap fun q=>match aval s.t q.2 with | .s (.agg cs)=>cs.flatMap idsC | .s (.c c)=>(match E.nest T with | some _=>idsC c | none=>[]) | _=>[]
 | .call c=>match c.callee with
  | .value f=>match q63 E (aval s.t f) (c.args.toList.map (aval s.t)) with
   | true=>(c.args.toList.map (aval s.t)).flatMap q6x++(((c.args.toList.map (aval s.t)).flatMap q6x).flatMap (q3o s.o)).flatMap idsC
   | false=>q4v s.t op++((q4v s.t op).flatMap (q3o s.o)).flatMap idsC
  | _=>(match c.args.toList with | x::_=>idsA (aval s.t x) | []=>[])
 | _=>[]
def evDr (lz:Bool) (C:Ctx) (ops:Array Oper) (bs:List Nat):List (Nat × List Nat)->List Nat->St->(St->R)->R
 | _,[],s,K=>K s
 | early,i::is,s,K=>
  match ops[i]? with
  | some o=>
   match lazyB lz ops o with
   | true=>match q89 o with
    | false=>guarded C ops o s fun s'=>evDr lz C ops bs ((i,idsQ s.t o.op)::early) is s' K
    | true=>bif z07 s.t o.op&&(q4v s.t o.op).all (fun id=>decide (id<s.o.length))&&early.all (fun k=>k.2.all fun id=>decide (id<s.o.length)) then
      guarded C ops o s fun s'=>evDr lz C ops bs ((i,s.o.length::q4v s.t o.op)::early) is s' K else none
   | false=>
    bif early.all fun k=>(bitsOf bs i).testBit k.1||k.2.all fun id=>!(touched C.E s o.op).contains id&&decide (id<s.o.length) then guarded C ops o s fun s'=>evDr lz C ops bs early is s' K else none
  | none=>none
def z3l (lz:Bool) (C:Ctx) (ops:Array Oper) (s:St) (K:St->R) (other:Unit->R):R :=
 match w0u lz ops (x5n ops.toList) (z7i (lazyB lz ops) ops.toList ops.size 0) with
 | true=>evDr lz C ops (x5n ops.toList) [] (z7i (lazyB lz ops) ops.toList ops.size 0) s K
 | false=>other ()
def x1p (C:Ctx) (ops:Array Oper) (s:St) (K:St->R):R:=z3l false C ops s K fun _=>z3l true C ops s K fun _=>none
abbrev Kc:=AExit->St->R
def seqK (next:St->R) (K:Kc):Kc:=fun e s=>match e with | .normal=>next s | e=>K e s
def y3s (id:Nat) (K:Kc):Kc:=fun e s=>match e with | .exit n=>bif n==id then K .normal s else K (.exit n) s | e=>K e s
def q90 (C:Ctx) (cur:Nat) (F:St->Kc->R) (K:Kc):Nat->St->R
 | 0,_=>none
 | n+1,s=>F s fun e s'=>match e with
  | .normal=>q90 C cur F K n (head C.m (C.E.live C.self cur) (C.E.own C.self cur) s')
  | e=>K e s'
def cutK:Nat->(Unit->R)->R
 | 0,_=>none
 | _+1,f=>f ()
def evCode (C:Ctx):Code->Nat->St->Kc->R
 | .skip,_,s,K=>K .normal s
 | .label _,_,s,K=>K .normal s
 | .region id ops draw,_,s,K=>
  match C.E.cut C.self id with
  | none=>match draw with
   | false=>evOps C ops (List.range ops.size) s (K .normal)
   | true=>x1p C ops s (K .normal)
  | some live=>cutK C.n fun _=>match draw with
   | false=>evOps C ops (List.range ops.size) (head C.m live (C.E.own C.self (1000000+id)) s) (K .normal)
   | true=>x1p C ops (head C.m live (C.E.own C.self (1000000+id)) s) (K .normal)
 | .seq a b,cur,s,K=>evCode C a cur s (seqK (fun s=>evCode C b cur s K) K)
 | .cond c a b,cur,s,K=>branch s.t c fun bv t=>bif bv then evCode C a cur ⟨t,s.o⟩ K else evCode C b cur ⟨t,s.o⟩ K
 | .block id c,_,s,K=>evCode C c id s (y3s id K)
 | .loop c,cur,s,K=>q90 C cur (fun s K=>evCode C c cur s K) K C.n (head C.m (C.E.live C.self cur) (C.E.own C.self cur) s)
 | .exit id,_,s,K=>K (.exit id) s
 | .ret,_,s,K=>K .ret s
 | _,_,_,_=>none
def z8y (E:Env) (s:St):List ResultVar->(List SV->R)->R
 | [],K=>K []
 | .tmp t::rs,K=>(getT s.t t).sv?.bind fun v=>z8y E s rs fun vs=>K (v::vs)
 | .cell a T::rs,K=>opLoad E T (getT s.t a) s.o fun v _=>v.sv?.bind fun v=>z8y E s rs fun vs=>K (v::vs)
def endK (E:Env) (f q:FuncId) (fn:Func) (ls:List Nat):Kc:=fun e s=>match e with
 | .exit _=>none
 | _=>z8y E s fn.results.toList fun rs=>
  q6z (q6h (E.bk q) ls) (List.range ls.length) s.o fun bs' o1=>
  z08 (E.rk f) rs o1 fun rs' _=>some (rs',bs')
def evBody (P:FuncId->Option Func) (E:Env) (call:FuncId->List AV->List (List CV)->R) (n:Nat) (f:FuncId) (args:List AV) (bs:List (List CV)):R :=
 match P f with
 | some fn=>match fn.body with
  | some c=>
   bif q0y bs (q6h (E.bk (keyOf f args)) (bs.map List.length)) then inBs bs (q6h (E.bk (keyOf f args)) (bs.map List.length)) (List.range bs.length) 0 (List.replicate bs.length (.box [])) fun o=>
   inAs args o fun as o=>
   evCode { E,self:=f,call,n,m:=bs.length } c 0 ⟨as++List.replicate (fn.ntmps-as.length) .undef,o⟩ (endK E f (keyOf f args) fn (bs.map List.length))
   else none
  | none=>none
 | none=>none
def evF (P:FuncId->Option Func) (E:Env) (T:FuncId->List AV->List (List CV)->R):Nat->FuncId->List AV->List (List CV)->R
 | 0,_,_,_=>none
 | k+1,f,args,bs=>match T f args bs with
  | some r=>some r
  | none=>evBody P E (evF P E T k) k f args bs
def ctxK (C:Ctx):List Nat->List Nat->Code->Nat->Kc->Code × Nat × Kc
 | [],_,c,cur,K=>(c,cur,K)
 | d::p,fs,c,cur,K=>match c with
  | .seq a b=>match d with
   | 0=>ctxK C p fs a cur (seqK (fun s=>evCode C b cur s K) K)
   | _=>ctxK C p fs b cur K
  | .cond _ a b=>match d with
   | 0=>ctxK C p fs a cur K
   | _=>ctxK C p fs b cur K
  | .block id b=>ctxK C p fs b id (y3s id K)
  | .loop b=>match fs with
   | n::fs=>ctxK C p fs b cur fun e s'=>match e with
    | .normal=>q90 C cur (fun s K=>evCode C b cur s K) K n (head C.m (C.E.live C.self cur) (C.E.own C.self cur) s')
    | e=>K e s'
   | []=>(c,cur,K)
  | c=>(c,cur,K)
def q1a (P:FuncId->Option Func) (E:Env) (T:FuncId->List AV->List (List CV)->R) (k:Nat) (f q:FuncId) (ls path fs:List Nat) (n:Nat) (s:St):R :=
 match P f with
 | some fn=>match fn.body with
  | some c=>match ctxK { E,self:=f,call:=evF P E T k,n:=k,m:=ls.length } path fs c 0 (endK E f q fn ls) with
   | (.loop b,cur,K)=>q90 { E,self:=f,call:=evF P E T k,n:=k,m:=ls.length } cur (fun s K=>evCode { E,self:=f,call:=evF P E T k,n:=k,m:=ls.length } b cur s K) K n s
   | _=>none
  | none=>none
 | none=>none
def x56 (P:FuncId->Option Func) (E:Env) (T:FuncId->List AV->List (List CV)->R) (k:Nat) (f q:FuncId) (ls path fs:List Nat) (s:St):R :=
 match P f with
 | some fn=>match fn.body with
  | some c=>match ctxK { E,self:=f,call:=evF P E T k,n:=k,m:=ls.length } path fs c 0 (endK E f q fn ls) with
   | (c,cur,K)=>evCode { E,self:=f,call:=evF P E T k,n:=k,m:=ls.length } c cur s K
  | none=>none
 | none=>none
def mkT (n:Nat) (l:List (Nat × AV)):List AV:=(List.range n).map fun i=>match l.find? fun x=>x.1==i with | some x=>x.2 | none=>.undef
end Go.Dp
namespace Go
def World.ownsAt (w:World) (base:Nat) (e:TypeId) (size:Nat) (v:Value) (n:Nat) (xs:List Value):Prop :=
 xs.length=n*size /\
 ((v=.slice none 0 0 /\ n=0) ∨
  ∃ g bo cap cur,v=.slice (some ⟨g,bo,none⟩) n cap /\ base<=g /\ w.heap[g]? = some (.cells cur e (0,0)) /\ n<=cap /\ cap<=maxLen /\ (0<cap->cur.size=bo+cap*size) /\ (cur.toList.drop bo).take (n*size)=xs)
theorem World.ownsAt_of {w:World} {base:Nat} {e:TypeId} {size:Nat} {v:Value} {n:Nat} {xs:List Value} (h:w.ownsRow base e size v n xs):w.ownsAt base e size v n xs:=by
 refine ⟨h.1,?_⟩;rcases h.2 with hn | ⟨g,cap,cur,hv,hb,hg,h1,h2,h3,h4⟩
 · exact .inl hn
 · exact .inr ⟨g,0,cap,cur,hv,hb,hg,h1,h2,fun _=>by omega,by simpa using h4⟩
theorem World.ownsAt_nil (w:World) (base:Nat) (e:TypeId) (size:Nat):w.ownsAt base e size (.slice none 0 0) 0 []:=⟨by simp,.inl ⟨rfl,rfl⟩⟩
theorem World.ownsAt.cells {w:World} {base:Nat} {e:TypeId} {size:Nat} {v:Value} {n:Nat} {xs:List Value} (h:w.ownsAt base e size v n xs) {g bo m c:Nat} (hg:v=.slice (some ⟨g,bo,none⟩) m c) :
  ∀ j u,xs[j]? = some u->w.cell? ((⟨g,bo,none⟩:Addr).add j)=some u:=by
 intro j u hu;rcases h.2 with ⟨rfl,_⟩ | ⟨g',bo',cap,cur,rfl,_,hgg,_,_,_,htake⟩
 ·cases hg
 ·injection hg with h1 h2 h3
  injection h1 with h1
  injection h1 with h1 h2
  subst h1;subst h2;have hadd:(⟨g',bo',none⟩:Addr).add j=⟨g',bo'+j,none⟩:=by unfold Addr.add;split <;> simp_all
  rw [hadd,cell_of_row w g' (bo'+j) cur e (0,0) hgg];rw [<- htake,List.getElem?_take] at hu;split at hu
  ·rw [List.getElem?_drop] at hu;rw [<- Array.getElem?_toList];exact hu
  ·cases hu
theorem run_append_at {P:Program} (w:World) (t ty e:TypeId) (i:TypeInfo) (z:Value) (size bytes:Nat) (ht:P.underlying t=some (.slice e)) (hi:P.info? e=some i) (hz:i.zero=some z)
  (hsize:i.size=size) (hby:i.bytes=bytes) (hzs:z.cells.size=size) (hsz:0<size)
  (v:Value) (n:Nat) (xs:List Value) (hown:w.ownsAt 0 e size v n xs)
  (a:Addr) (m c:Nat) (news:List Value) (hl:news.length=m*size) (hnews:∀ j u,news[j]? = some u->w.cell? (a.add j)=some u) (h1:∀ u∈news,u.oneCell'=true)
  (h63:n+m<=maxLen) (hbytes:(n+m)*bytes<=140737488355328) :
  ∃ v' w',(Builtin.append_ #[t,t] ty #[v,.slice (some a) m c]).run P w=.ok v' w' /\ w'.ownsAt 0 e size v' (n+m) (xs++news) /\ w.grownBy w' v.ownBlock /\
   (v'=.slice none 0 0↔v=.slice none 0 0 /\ m=0) /\ (v'.ownBlock=v.ownBlock∨v'.ownBlock=some w.heap.size):=by
 rcases hown.2 with ⟨rfl,rfl⟩ | ⟨g,bo,cap,cur,rfl,_,hg,hnc,hcm,hcs,htake⟩
 ·have hx:xs=[]:=List.eq_nil_of_length_eq_zero (by simpa using hown.1);subst hx;obtain ⟨v',w',a1,a2,a3,a4,a5⟩:=run_append_own_at (P:=P) w 0 t ty e i z size bytes ht hi hz hsize hby hzs hsz (.slice none 0 0) 0 [] (World.ownsRow_nil w 0 e size) a m c news hl hnews h1 h63 hbytes (Nat.zero_le _);exact ⟨v',w',a1,World.ownsAt_of a2,a3,a4,a5⟩
 ·have hlen:(xs++news).length=(n+m)*size:=by rw [List.length_append,hown.1,hl,Nat.add_mul]
  by_cases hroom:n+m<=cap
  ·rcases Nat.eq_zero_or_pos cap with hc0 | hc0
   ·have hm0:m=0:=by omega
    subst hm0;have hn:news=[]:=List.eq_nil_of_length_eq_zero (by simpa using hl);subst hn;have hf:=run_firstCells_some (P:=P) w i.size 0 a 0 c [] (by simp) hnews;refine ⟨.slice (some ⟨g,bo,none⟩) n cap,w,?_,by simpa using hown,⟨rfl,rfl,rfl,Nat.le_refl _,fun _ _ _=>rfl⟩,by simp,.inl rfl⟩;simp [Builtin.append_,run_underlying ht,sizeOf,typeInfo,hi,Builtin.lenOf,hnc,hf,Addr.add_lit,storeCells]
   ·have hcs:=hcs hc0;have hmul:(n+m)*size<=cap*size:=Nat.mul_le_mul_right _ hroom;rw [Nat.add_mul] at hmul;have hf:=run_firstCells_some (P:=P) w i.size m a m c news (by rw [hsize];exact hl) hnews;have hst:=run_storeCells_at P g (bo+n*size) e news 0 cur w hg (by omega) h1;simp only [Nat.add_zero] at hst;have hr:(Builtin.append_ #[t,t] ty #[.slice (some ⟨g,bo,none⟩) n cap,.slice (some a) m c]).run P w =
      .ok (.slice (some ⟨g,bo,none⟩) (n+m) cap) (w.setRow g (cur.toList.take (bo+n*size)++news++cur.toList.drop (bo+n*size+news.length)).toArray):=by
     subst hsize;simp [Builtin.append_,run_underlying ht,sizeOf,typeInfo,hi,Builtin.lenOf,hroom,hf,Addr.add_lit,hst]
    refine ⟨_,_,hr,⟨hlen,.inr ⟨g,bo,cap,_,rfl,Nat.zero_le _,setRow_heap w g cur _ e _ hg,hroom,hcm,fun _=>?_,?_⟩⟩,⟨rfl,rfl,rfl,by simp,fun k _ hk=>setRow_other w g k _ (fun e=>hk (by simp [Value.ownBlock,e]))⟩,by simp,Or.inl rfl⟩
    ·simp only [List.size_toArray,List.length_append,List.length_take,List.length_drop,Array.length_toList];omega
    ·have e1:(cur.toList.take (bo+n*size)++news++cur.toList.drop (bo+n*size+news.length)).drop bo=xs++(news++cur.toList.drop (bo+n*size+news.length)):=by
      rw [List.append_assoc,List.drop_append_of_le_length (by simp;omega),List.drop_take,Nat.add_sub_cancel_left,htake]
     simp only [];rw [e1,<- List.append_assoc,<- hlen];exact List.take_left
  ·subst hsize;subst hby;have hr:=run_append_grow (P:=P) w t ty e i z ht hi hz ⟨g,bo,none⟩ n cap xs hown.1 (hown.cells rfl) a m c news hl hnews (by omega) (by simp only [maxLen] at h63;omega) (growslice_fits (by omega) hbytes);have hge:=grownCap_ge w (n+m) cap e;have hcm2:grownCap w (n+m) cap e<=maxLen:=grownCap_le_maxLen w (n+m) cap e h63;refine ⟨_,_,hr,World.ownsAt_of ⟨hlen,.inr ⟨w.heap.size,_,_,rfl,Nat.zero_le _,heap_alloc_new w.drew _,hge,hcm2,?_,?_⟩⟩,⟨rfl,rfl,rfl,by simp,fun k hk _=>heap_alloc_old w.drew _ hk⟩,by simp,.inr rfl⟩
   ·simp only [Array.size_append,List.size_toArray,size_zeroCells,hzs,hown.1,hl,<- Nat.add_mul]
    congr 1
    omega
   ·simp only [Array.toList_append,List.append_assoc];rw [<- List.append_assoc,<- hlen];exact List.take_left
end Go
namespace Go.Dp
inductive RP (w:World) (Im:Nat->Prop):PV->Value->Prop
 | int (k:IntKind) (n:Int):RP w Im (.int k n) (.int k n)
 | bool (b:Bool):RP w Im (.bool b) (.bool b)
 | str (s:ByteArray):RP w Im (.str s) (.string s)
 | junk (v:Value) (h1:v.oneCell'=true) (h2:v.cells=#[v]):RP w Im .junk v
 | agg (cs:List PV) (vs:Array Value) (hl:vs.size=cs.length) (h1:∀ (i:Nat) (c:PV),cs[i]? = some c->c.one=true)
   (h:∀ (i:Nat) (c:PV) (v:Value),cs[i]? = some c->vs[i]? = some v->RP w Im c v):RP w Im (.agg cs) (.agg vs)
 | nil (sh f:Nat) (hf:f≠3):RP w Im (.row sh f []) (.slice none 0 0)
 | row (sh f:Nat) (xs:List PV) (a:Addr) (cap:Nat) (g:Nat->Value) (hf:f≠2) (hs:a.spot=none) (hc:xs.length<=cap) (hm:cap<=maxLen)
   (h1:f=1->cap=xs.length) (him:0<xs.length->Im a.block)
   (hsh:∀ (i:Nat) (x:PV),xs[i]? = some x->x.shp sh=true)
   (hcell:∀ (i:Nat) (x:PV) (j:Nat) (c:PV),xs[i]? = some x->x.cells[j]? = some c->w.cell? ⟨a.block,a.off+(i*csz sh+j),none⟩=some (g (i*csz sh+j)))
   (h:∀ (i:Nat) (x:PV) (j:Nat) (c:PV),xs[i]? = some x->x.cells[j]? = some c->RP w Im c (g (i*csz sh+j))):RP w Im (.row sh f xs) (.slice (some a) xs.length cap)
theorem PV.cells_of_one {v:PV} (h:v.one=true):v.cells=[v]:=by cases v <;> simp_all [PV.one,PV.cells]
theorem PV.shp_len {v:PV} {sh:Nat} (h:v.shp sh=true):v.cells.length=csz sh:=by
 cases sh with
 | zero=>rw [PV.cells_of_one (by simpa [PV.shp] using h)];rfl
 | succ n=>cases v <;> simp_all [PV.shp,PV.cells,csz]
theorem PV.shp_one {v:PV} {sh:Nat} (h:v.shp sh=true):∀ (i:Nat) (c:PV),v.cells[i]? = some c->c.one=true:=by
 cases sh with
 | zero=>
  have h':v.one=true:=by simpa [PV.shp] using h
  intro i c hc;rw [PV.cells_of_one h'] at hc;cases i <;> simp_all
 | succ n=>
  cases v with
  | agg cs=>
   intro i c hc;simp [PV.shp] at h;exact h.2 c (List.mem_of_getElem? hc)
  | _=>simp [PV.shp] at h
theorem q3w (sh:Nat):0<csz sh:=by unfold csz;split <;> omega
theorem q8 {w w':World} {a:Addr} (h:w'.heap[a.block]? = w.heap[a.block]?):w'.cell? a=w.cell? a:=by simp [World.cell?,h]
theorem RP.mono {w w':World} {Im Im':Nat->Prop} (hi:∀ b,Im b->Im' b /\ w'.heap[b]? = w.heap[b]?) {v:PV} {x:Value} (h:RP w Im v x):RP w' Im' v x:=by
 induction h with
 | int k n=>exact .int k n
 | bool b=>exact .bool b
 | str s=>exact .str s
 | junk v h1 h2=>exact .junk v h1 h2
 | agg cs vs hl h1 _ ih=>exact .agg cs vs hl h1 ih
 | nil sh f hf=>exact .nil sh f hf
 | row sh f xs a cap g hf hs hc hm h1 him hsh hcell _ ih=>
  refine .row sh f xs a cap g hf hs hc hm h1 (fun hp=>(hi _ (him hp)).1) hsh ?_ ih;intro i x j c hx hcj;have hp:0<xs.length:=by have:=(List.getElem?_eq_some_iff.1 hx).1;omega
  exact (q8 (w:=w) (w':=w') (a:=⟨a.block,a.off+(i*csz sh+j),none⟩) (hi _ (him hp)).2).trans (hcell i x j c hx hcj)
theorem RP.one {w:World} {Im:Nat->Prop} {v:PV} {x:Value} (h:RP w Im v x) (h1:v.one=true):x.oneCell'=true /\ x.cells=#[x]:=by
 cases h <;> simp_all [PV.one,Value.oneCell',Value.cells]
theorem RP.cells {w:World} {Im:Nat->Prop} {v:PV} {x:Value} (h:RP w Im v x):x.cells.size=v.cells.length /\ ∀ (i:Nat) (c:PV) (y:Value),v.cells[i]? = some c->x.cells[i]? = some y->RP w Im c y:=by
 cases h with
 | agg cs vs hl h1 h=>exact ⟨by simpa [Value.cells,PV.cells] using hl,fun i c y hc hy=>h i c y (by simpa [PV.cells] using hc) (by simpa [Value.cells] using hy)⟩
 | int k n=>exact ⟨rfl,fun i c y hc hy=>by cases i <;> simp_all [PV.cells,Value.cells] <;> (obtain ⟨rfl,rfl⟩:=And.intro hc hy;exact .int _ _)⟩
 | bool b=>exact ⟨rfl,fun i c y hc hy=>by cases i <;> simp_all [PV.cells,Value.cells] <;> (obtain ⟨rfl,rfl⟩:=And.intro hc hy;exact .bool _)⟩
 | str s=>exact ⟨rfl,fun i c y hc hy=>by cases i <;> simp_all [PV.cells,Value.cells] <;> (obtain ⟨rfl,rfl⟩:=And.intro hc hy;exact .str _)⟩
 | nil sh f hf=>exact ⟨rfl,fun i c y hc hy=>by cases i <;> simp_all [PV.cells,Value.cells] <;> (obtain ⟨rfl,rfl⟩:=And.intro hc hy;exact .nil _ _ hf)⟩
 | junk v h1 h2=>exact ⟨by rw [h2];rfl,fun i c y hc hy=>by rw [h2] at hy;cases i <;> simp_all [PV.cells] <;> (obtain ⟨rfl,rfl⟩:=And.intro hc hy;exact .junk _ h1 h2)⟩
 | row sh f xs a cap g hf hs hc hm h1 him hsh hcell h=>
  refine ⟨rfl,fun i c y hc' hy=>?_⟩;cases i with
  | zero=>
   simp [PV.cells,Value.cells] at hc' hy;subst hc';subst hy;exact .row sh f xs a cap g hf hs hc hm h1 him hsh hcell h
  | succ i=>simp [PV.cells] at hc'
def RSl (v:Value) (s lo len:Nat) (x:Value):Prop :=
 match v with
 | .slice (some ⟨g,bo,_⟩) _ cap=>∃ off,x=.slice (some ⟨g,off,none⟩) len (cap-lo) /\ lo<=cap /\ (lo=0∨0<cap-lo->off=bo+lo*s)
 | .slice none _ _=>lo=0 /\ len=0 /\ x=.slice none 0 0
 | _=>False
def mainV:Value->Value
 | .tuple vs=>(vs[0]?).getD undef
 | v=>v
def kidBlk:Value->Nat->Prop
 | .slice (some a) _ _,b=>a.block=b
 | _,_=>False
def Blk:Value->Nat->Prop
 | .pointer (some a),b=>a.block=b
 | .slice (some a) _ _,b=>a.block=b
 | .tuple vs,b=>∃ (i:Nat) (v:Value),vs[i]? = some v /\ kidBlk v b
 | _,_=>False
@[simp] theorem v5m (a n c b):Blk (.slice (some a) n c) b↔a.block=b:=Iff.rfl
@[simp] theorem v5o (n c b):Blk (.slice none n c) b↔False:=Iff.rfl
@[simp] theorem v5p (a b):Blk (.pointer (some a)) b↔a.block=b:=Iff.rfl
@[simp] theorem v2q (a n c b):kidBlk (.slice (some a) n c) b↔a.block=b:=Iff.rfl
@[simp] theorem v5b (n c b):kidBlk (.slice none n c) b↔False:=Iff.rfl
theorem q7b {v:Value} {b:Nat} (h:kidBlk v b):Blk v b:=by
 cases v <;> try exact h.elim
 rename_i a n c;cases a <;> first | exact h.elim | exact h
theorem q1g {v:Value} {b:Nat} (h:kidBlk (mainV v) b):Blk v b:=by
 cases v <;> first | exact q7b h | skip
 rename_i vs;simp only [mainV] at h;cases h0:vs[0]? with
 | none=>rw [h0] at h;exact h.elim
 | some u=>rw [h0] at h;exact ⟨0,u,h0,h⟩
def Row1 (w:World) (Im:Nat->Prop) (e sh:Nat) (u:Value) (ys:List PV):Prop :=
 ∃ vals,w.ownsAt 0 e (csz sh) u ys.length vals /\ (∀ x∈ys,x.shp sh=true) /\
  ∀ (i:Nat) (x:PV) (j:Nat) (c:PV) (y:Value),ys[i]? = some x->x.cells[j]? = some c->vals[i*csz sh+j]? = some y->RP w Im c y
structure KidsOK (w:World) (Im:Nat->Prop) (k:Kd) (sh:Nat) (xs:List PV) (vals ks:List Value):Prop where
 len:ks.length=xs.length
 jlt:k.j<csz sh
 kid:∀ (i:Nat) (x:PV),xs[i]? = some x->k.hole≠some i->∃ f ys u,x.cells[k.j]? = some (.row k.sh f ys) /\ (f=0∨(f=2 /\ u=.slice none 0 0)) /\ ks[i]? = some u /\ vals[i*csz sh+k.j]? = some u /\ Row1 w Im k.e k.sh u ys
 out:∀ (i:Nat) (u:Value),k.hole=some i->ks[i]? = some u->u=.slice none 0 0
 inj:∀ (i i':Nat) (u u':Value) (b:Nat),ks[i]? = some u->ks[i']? = some u'->kidBlk u b->kidBlk u' b->i=i'
 one:∀ (i:Nat) (y:Value),vals[i]? = some y->y.oneCell'=true
def RPk (w:World) (Im:Nat->Prop) (e:Et) (j:Nat) (c:PV) (y:Value):Prop :=
 match e.kd with
 | none=>RP w Im c y
 | some k=>j≠k.j->RP w Im c y
def RKids (w:World) (Im:Nat->Prop) (e:Et) (sh:Nat) (fz:Bool) (xs:List PV) (vals:List Value) (v:Value):Prop :=
 match e.kd with
 | none=>fz=false->mainV v=v
 | some k=>fz=false /\ ∃ ks:List Value,v=.tuple (mainV v::ks).toArray /\ KidsOK w Im k sh xs vals ks /\ ∀ (i:Nat) (u:Value) (b:Nat),ks[i]? = some u->kidBlk u b->¬ kidBlk (mainV v) b
section
variable (w:World) (Im:Nat->Prop) (ρ:Nat->Option Value) (o:List AObj)
def RB (id off:Nat) (x:Value):Prop :=
 match o[id]? with
 | some (.box _)=>∃ b,ρ id=some (.pointer (some ⟨b,0,none⟩)) /\ x=.pointer (some ⟨b,off,none⟩)
 | some _=>True
 | none=>False
def RC:CV->Value->Prop
 | .undef,_=>True
 | .p v,x=>RP w Im v x
 | .loc id ver sh lo len,x=>
  match o[id]? with
  | some (.arr _ sh' ver' _ xs)=>ver<=ver' /\ (ver=ver'->sh=sh'->lo+len<=xs.length /\ ∃ v,ρ id=some v /\ RSl (mainV v) (csz sh) lo len x)
  | some _=>True
  | none=>False
 | .bptr id off,x=>RB ρ o id off x
 | .aptr id ver sh i off,x=>
  match o[id]? with
  | some (.arr _ sh' ver' _ xs)=>ver<=ver' /\ (ver=ver'->sh=sh'->i<xs.length /\ ∃ g bo n cap v,ρ id=some v /\ mainV v=.slice (some ⟨g,bo,none⟩) n cap /\ x=.pointer (some ⟨g,bo+i*csz sh+off,none⟩))
  | some _=>True
  | none=>False
 | .eptr v sh off,x=>∃ b base,x=.pointer (some ⟨b,base+off,none⟩) /\ Im b /\ v.shp sh=true /\ ∀ (j:Nat) (c:PV),v.cells[j]? = some c->∃ y,w.cell? ⟨b,base+j,none⟩=some y /\ RP w Im c y
 | .fn f caps,x=>∃ vs,x=.func (.func f) #[] vs /\ vs.size=caps.length /\ ∀ (i:Nat) (id:Nat),caps[i]? = some id->∃ y,vs[i]? = some y /\ RB ρ o id 0 y
 | .cfn f us,x=>∃ vs,x=.func (.func f) #[] vs /\ vs.size=us.length /\ ∀ (i:Nat) (u:PV),us[i]? = some u->∃ b base,vs[i]? = some (.pointer (some ⟨b,base,none⟩)) /\ Im b /\ u.shp u.cells.length=true /\ ∀ (j:Nat) (c:PV),u.cells[j]? = some c->∃ y,w.cell? ⟨b,base+j,none⟩=some y /\ RP w Im c y
 | .own ..,_=>False
 | .nel id ver nv i,x=>
  match o[id]? with
  | some (.arr e _ ver' _ xs)=>ver<=ver' /\ (ver=ver'->∀ k,e.kd=some k->nv<=k.nv /\ (nv=k.nv->k.hole=none->i<xs.length /\ ∃ m ks,ρ id=some (.tuple (m::ks:List Value).toArray) /\ ks[i]? = some x))
  | some _=>True
  | none=>False
def RS:SV->Value->Prop
 | .c c,x=>RC w Im ρ o c x
 | .agg cs,x=>∃ vs,x=.agg vs /\ vs.size=cs.length /\ (∀ (i:Nat) (c:CV) (y:Value),cs[i]? = some c->vs[i]? = some y->RC w Im ρ o c y) /\ ∀ (i:Nat) (y:Value),vs[i]? = some y->y.oneCell'=true
def RA:AV->Value->Prop
 | .s v,x=>RS w Im ρ o v x
 | .tup ts,x=>∃ vs,x=.tuple vs /\ vs.size=ts.length /\ ∀ (i:Nat) (c:SV) (y:Value),ts[i]? = some c->vs[i]? = some y->RS w Im ρ o c y
def RO (v:Value):AObj->Prop
 | .dead=>True
 | .box cs=>∃ b vs e,v=.pointer (some ⟨b,0,none⟩) /\ w.heap[b]? = some (.cells vs e (0,0)) /\ vs.size=cs.length /\ (∀ (i:Nat) (c:CV) (y:Value),cs[i]? = some c->vs[i]? = some y->RC w Im ρ o c y) /\ (∀ (i:Nat) (y:Value),vs[i]? = some y->y.oneCell'=true) /\ ¬ Im b
 | .arr e sh _ fz xs=>∃ vals,w.ownsAt 0 e.t (csz sh) (mainV v) xs.length vals /\ (∀ x∈xs,x.shp sh=true) /\
   (∀ (i:Nat) (x:PV) (j:Nat) (c:PV) (y:Value),xs[i]? = some x->x.cells[j]? = some c->vals[i*csz sh+j]? = some y->RPk w Im e j c y) /\
   (∀ b,Blk v b->(fz=false->¬ Im b) /\ (fz=true->Im b)) /\ RKids w Im e sh fz xs vals v
end
structure SR (w:World) (Im:Nat->Prop) (ρ:Nat->Option Value) (o:List AObj):Prop where
 ob:∀ id x v,o[id]? = some x->ρ id=some v->RO w Im ρ o v x
 inj:∀ id id' v v' b,ρ id=some v->ρ id'=some v'->Blk v b->Blk v' b->id=id'
 lt:∀ id v,ρ id=some v->id<o.length /\ ∀ b,Blk v b->b<w.heap.size
 im:∀ b,Im b->b<w.heap.size
 dd:∀ id,o[id]? = some .dead->ρ id=none
structure Wd (w w':World):Prop where
 os:w'.os=w.os
 tape:w'.tape=w.tape
 output:w'.output=w.output
 size:w.heap.size<=w'.heap.size
theorem Wd.refl (w:World):Wd w w:=⟨rfl,rfl,rfl,Nat.le_refl _⟩
theorem Wd.trans {a b c:World} (h:Wd a b) (k:Wd b c):Wd a c:=⟨k.os.trans h.os,k.tape.trans h.tape,k.output.trans h.output,Nat.le_trans h.size k.size⟩
def Mapped (ρ:Nat->Option Value) (o:List AObj):Prop:=∀ id x,o[id]? = some x->x≠.dead->∃ v,ρ id=some v
def Grown (ρ:Nat->Option Value) (o:List AObj) (ρ':Nat->Option Value) (o':List AObj):Prop:=o.length<=o'.length /\ ∀ id,id<o.length->ρ id=none->ρ' id=none
theorem Grown.refl {ρ o}:Grown ρ o ρ o:=⟨Nat.le_refl _,fun _ _ h=>h⟩
theorem Grown.trans {ρ o ρ1 o1 ρ2 o2} (h:Grown ρ o ρ1 o1) (k:Grown ρ1 o1 ρ2 o2):Grown ρ o ρ2 o2:=⟨Nat.le_trans h.1 k.1,fun id hl hn=>k.2 id (Nat.lt_of_lt_of_le hl h.1) (h.2 id hl hn)⟩
structure Step (w:World) (Im:Nat->Prop) (ρ:Nat->Option Value) (o:List AObj) (w':World) (Im':Nat->Prop) (ρ':Nat->Option Value) (o':List AObj):Prop where
 wd:Wd w w'
 sr:SR w' Im' ρ' o'
 keep:∀ c x,RC w Im ρ o c x->RC w' Im' ρ' o' c x
 fr:∀ b,b<w.heap.size->(∀ id v,ρ id=some v->¬ Blk v b)->w'.heap[b]? = w.heap[b]?
 ow:∀ id v b,ρ' id=some v->Blk v b->w.heap.size<=b∨∃ id' v',ρ id'=some v' /\ Blk v' b
 im:∀ b,Im b->Im' b /\ w'.heap[b]? = w.heap[b]?
 imn:∀ b,Im' b->Im b∨w.heap.size<=b∨∃ id v,ρ id=some v /\ Blk v b
 mp:Mapped ρ o->Mapped ρ' o'
 gr:Grown ρ o ρ' o'
theorem Step.refl {w Im ρ o} (h:SR w Im ρ o):Step w Im ρ o w Im ρ o :=
 ⟨Wd.refl w,h,fun _ _ h=>h,fun _ _ _=>rfl,fun id v b h1 h2=>.inr ⟨id,v,h1,h2⟩,fun _ h=>⟨h,rfl⟩,fun _ h=>.inl h,fun h=>h,Grown.refl⟩
theorem Step.trans {w Im ρ o w1 Im1 ρ1 o1 w2 Im2 ρ2 o2} (h:Step w Im ρ o w1 Im1 ρ1 o1) (k:Step w1 Im1 ρ1 o1 w2 Im2 ρ2 o2):Step w Im ρ o w2 Im2 ρ2 o2:=by
 refine ⟨h.wd.trans k.wd,k.sr,fun c x hc=>k.keep c x (h.keep c x hc),?_,?_,fun b hb=>?_,?_,fun hm=>k.mp (h.mp hm),h.gr.trans k.gr⟩
 ·intro b hb hno;rw [k.fr b (Nat.lt_of_lt_of_le hb h.wd.size) ?_,h.fr b hb hno];intro id v hv hbk;rcases h.ow id v b hv hbk with hge | ⟨id',v',h1,h2⟩
  ·omega
  ·exact hno id' v' h1 h2
 ·intro id v b hv hb;rcases k.ow id v b hv hb with hge | ⟨id',v',h1,h2⟩
  ·exact .inl (Nat.le_trans h.wd.size hge)
  ·exact h.ow id' v' b h1 h2
 ·have h1:=h.im b hb;have h2:=k.im b h1.1;exact ⟨h2.1,h2.2.trans h1.2⟩
 ·intro b hb;rcases k.imn b hb with h1 | h1 | ⟨id,v,h1,h2⟩
  ·exact h.imn b h1
  ·exact .inr (.inl (Nat.le_trans h.wd.size h1))
  ·rcases h.ow id v b h1 h2 with hge | ⟨id',v',h3,h4⟩
   ·exact .inr (.inl hge)
   ·exact .inr (.inr ⟨id',v',h3,h4⟩)
theorem Step.keepS {w Im ρ o w' Im' ρ' o'} (h:Step w Im ρ o w' Im' ρ' o'):∀ v x,RS w Im ρ o v x->RS w' Im' ρ' o' v x:=by
 intro v x hv;cases v with
 | c c=>exact h.keep c x hv
 | agg cs=>obtain ⟨vs,rfl,h1,h2,h3⟩:=hv;exact ⟨vs,rfl,h1,fun i c y hc hy=>h.keep c y (h2 i c y hc hy),h3⟩
theorem Step.keepA {w Im ρ o w' Im' ρ' o'} (h:Step w Im ρ o w' Im' ρ' o'):∀ v x,RA w Im ρ o v x->RA w' Im' ρ' o' v x:=by
 intro v x hv;cases v with
 | s v=>exact h.keepS v x hv
 | tup ts=>obtain ⟨vs,rfl,h1,h2⟩:=hv;exact ⟨vs,rfl,h1,fun i c y hc hy=>h.keepS c y (h2 i c y hc hy)⟩
end Go.Dp
namespace Go.Dp
def sortRes (n:Nat) (zs:List Int):List Int:=if n=1 then q2j zs else q3t zs++List.replicate (zs.length-(q3t zs).length) 0
def sortRet (n:Nat) (zs:List Int) (a:Option Addr) (cap:Nat):Value:=if n=1 then .tuple #[] else .slice a (q3t zs).length cap
structure SortOK (P:Program) (n:Nat) (g:FuncId):Prop where
 enters : ∃ fn, P.funcs[g]? = some fn ∧ fn.body.isSome = true ∧ fn.name ≠ "runtime.NumGoroutine"
 empty:∀ (w:World) (p:Option Addr) (cap:Nat),Calls P g #[.slice p 0 cap] w fun e w'=>e=.returned (sortRet n [] p cap) /\ w'=w
 row:∀ (w:World) (b bo cap:Nat) (zs:List Int) (cu:Array Value) (e:TypeId),w.heap[b]? = some (.cells cu e (0,0))->(cu.toList.drop bo).take zs.length=zs.map (Value.int .i64)->zs.length<=cap->zs.length<=LIM ->
  Calls P g #[.slice (some ⟨b,bo,none⟩) zs.length cap] w fun e' w'=>e'=.returned (sortRet n zs (some ⟨b,bo,none⟩) cap) /\ Wd w w' /\ (∀ k,k<w.heap.size->k≠b->w'.heap[k]? = w.heap[k]?) /\
   ∃ cu',w'.heap[b]? = some (.cells cu' e (0,0)) /\ cu'.size=cu.size /\ cu'.toList=cu.toList.take bo++((sortRes n zs).map (Value.int .i64)++cu.toList.drop (bo+zs.length))
def ExtOK (P:Program) (n:Nat) (g:FuncId):Prop:=n=1 /\ ∀ (x y c:Int) (w:World),0<=x->0<=y->0<=c->c<=1 ->
 (callFunc g #[.int .u64 x,.int .u64 y,.int .u64 c]).run P w=.ok (.value (.tuple #[.int .u64 ((x+y+c) % 18446744073709551616),.int .u64 ((x+y+c) / 18446744073709551616)])) w
structure EnvOK (P:Program) (E:Env):Prop where
 mixed:P.follows .mixedOrders=true
 sl:∀ T e sh by_,E.sl T=some (e,sh,by_)->P.underlying T=some (.slice e) /\ (∃ i z,P.info? e=some i /\ i.size=csz sh /\ i.bytes=by_ /\ i.zero=some z /\ z.cells.size=csz sh) /\ E.sh e=some sh /\ 0<by_
 sh0:∀ T,E.sh T=some 0->∃ d i,P.underlying T=some d /\ (∀ fs,d≠.struct fs) /\ (∀ n e,d≠.array n e) /\ P.info? T=some i /\ i.size=1
 shn:∀ T n,E.sh T=some (n+1)->∃ d i,P.underlying T=some d /\ P.info? T=some i /\ i.size=n+1 /\ ((∃ fs,d=.struct fs /\ ∀ fd∈fs.toList,∃ j,P.info? fd.type=some j)∨∃ m e ie,d=.array m e /\ P.info? e=some ie /\ ie.size=1)
 ar:∀ T m,E.ar T=m+1->∃ e i,P.underlying T=some (.array (m+1) e) /\ P.info? e=some i /\ i.size=1
 fl:∀ T f off fsh,E.fl T f=some (off,fsh)->∃ fs fd i,P.underlying T=some (.struct fs) /\ fs[f]? = some fd /\ fd.offset=off /\ P.info? fd.type=some i /\ i.size=csz fsh /\ (fsh=0->∃ d,P.underlying fd.type=some d /\ (∀ fs,d≠.struct fs) /\ ∀ n e,d≠.array n e)
 ik:∀ T k,E.ik T=some k->P.underlying T=some (.int k)
 zr:∀ T zs,E.zr T=some zs->∃ i z sh,P.info? T=some i /\ i.zero=some z /\ z.cells.size=zs.length /\ E.sh T=some sh /\ zs.length=csz sh /\ (∀ c∈zs,c.one=true) /\
   ∀ (i:Nat) (c:PV) (y:Value),zs[i]? = some c->z.cells[i]? = some y->∀ w Im,RP w Im c y
 bl:∀ T,E.bl T=true->P.underlying T=some .bool
 srt:∀ g n,E.sorts g=n->n≠0->SortOK P n g
 ext:∀ g n,E.ext g=n+1->ExtOK P (n+1) g
 st:∀ T,E.st T=true->P.underlying T=some .string
 eqs:∀ T ks,E.eqs T=some ks->∀ (w:World) (x y:Operand) (Im:Nat->Prop) (as bs:List PV) (vs us:Array Value) (b:Bool),RP w Im (.agg as) (.agg vs)->RP w Im (.agg bs) (.agg us)->cellsEq ks as bs=some b ->
   (do eqGuard .eql T x y (.agg vs) (.agg us);binOp .eql T (.agg vs) (.agg us)).run P w=.ok (.bool b) w /\ (do eqGuard .neq T x y (.agg vs) (.agg us);binOp .neq T (.agg vs) (.agg us)).run P w=.ok (.bool !b) w
theorem EnvOK.on {P:Program} {E:Env} (h:EnvOK P E) (f:FuncId):EnvOK P (E.on f):=⟨h.mixed,h.sl,h.sh0,h.shn,h.ar,h.fl,h.ik,h.zr,h.bl,h.srt,h.ext,h.st,h.eqs⟩
theorem EnvOK.ones {P:Program} {E:Env} (h:EnvOK P E) (g:FuncId->Bool):EnvOK P { E with n1s:=g }:=⟨h.mixed,h.sl,h.sh0,h.shn,h.ar,h.fl,h.ik,h.zr,h.bl,h.srt,h.ext,h.st,h.eqs⟩
section
variable {P:Program} {E:Env} {w:World} {Im:Nat->Prop} {ρ:Nat->Option Value} {o:List AObj}
theorem z4g (hE:EnvOK P E) {T:TypeId} (h:E.sh T=some 0) (w:World):(isAgg T).run P w=.ok false w:=by
 obtain ⟨d,i,hd,h1,h2,_⟩:=hE.sh0 T h;simp only [isAgg,Sem.run_bind,run_underlying hd,Result.andThen_ok];cases d <;> simp_all
theorem y48 (hE:EnvOK P E) {T:TypeId} {n:Nat} (h:E.sh T=some (n+1)) (w:World):(isAgg T).run P w=.ok true w:=by
 obtain ⟨d,i,hd,_,_,hc⟩:=hE.shn T n h;rcases hc with ⟨fs,rfl,_⟩ | ⟨m,e,ie,rfl,_⟩ <;> simp [isAgg,run_underlying hd]
theorem y1z (hE:EnvOK P E) {T:TypeId} {sh:Nat} (h:E.sh T=some sh) (w:World):(sizeOf T).run P w=.ok (csz sh) w:=by
 cases sh with
 | zero=>
  obtain ⟨d,i,_,_,_,hi,hs⟩:=hE.sh0 T h;simp [sizeOf,typeInfo,hi,hs,csz]
 | succ n=>
  obtain ⟨d,i,_,hi,hs,_⟩:=hE.shn T n h;simp [sizeOf,typeInfo,hi,hs,csz]
theorem z6m {op:BinOp} (h:op=.and∨op=.or∨op=.xor∨op=.andNot) (k:IntKind) (x y:Int) (w:World) :
  (Op.intBits op k x y).run P w=.ok (.int k (q0o op k x y)) w:=by
 rcases h with rfl | rfl | rfl | rfl <;> simp [Op.intBits,q0o]
theorem q3c (op:BinOp) (T:TypeId) (x y:Operand) (a b:Value) (ha:∀ vs,a≠.agg vs) (hn:a≠.nilIface) (w:World):(eqGuard op T x y a b).run P w=.ok () w:=by
 unfold eqGuard;cases op <;> cases a <;> first | exact absurd rfl hn | exact absurd rfl (ha _) | simp
theorem x1y {op:BinOp} {k:IntKind} {a b:Int} {v:PV} (h:z67 op k a b=some v) (T:TypeId) (w:World) (Im:Nat->Prop) :
   ∃ y,(binOp op T (.int k a) (.int k b)).run P w=.ok y w /\ RP w Im v y:=by
 cases op <;> simp only [z67] at h <;>
   first
     | (cases h;done)
     | (injection h with h;subst h;refine ⟨_,?_,RP.int _ _⟩;simp [binOp,Op.intArith,z6m];done)
     | (injection h with h;subst h;refine ⟨_,?_,RP.bool _⟩;simp [binOp,Op.intCmp];done)
     | (cases hb:(b==0) <;> rw [hb] at h <;> simp only [cond_true,cond_false] at h <;>
         first
           | (cases h;done)
           | (injection h with h;subst h;refine ⟨_,?_,RP.int _ _⟩;have:¬ b=0:=by simpa using hb
              simp [binOp,Op.intDiv,this]))
theorem y0f {op:BinOp} {k k':IntKind} {a b:Int} {v:PV} (hop:op=.shl∨op=.shr) (h:q7m op k a b=some v) (T:TypeId) (w:World) (Im:Nat->Prop) :
  ∃ y,(binOp op T (.int k a) (.int k' b)).run P w=.ok y w /\ RP w Im v y:=by
 unfold q7m at h;cases hb:decide (b<0) <;> rw [hb] at h <;> simp only [cond_true,cond_false] at h
 ·have hn:¬ b<0:=by simpa using hb
  rcases hop with rfl | rfl <;> simp only at h <;> injection h with h <;> subst h <;> refine ⟨_,?_,RP.int _ _⟩ <;> simp [binOp,Op.shift,hn]
 ·cases h
theorem x3f {op:BinOp} {a b:ByteArray} {v:PV} (h:y5d op a b=some v) (T:TypeId) (w:World) (Im:Nat->Prop) :
  ∃ y,(binOp op T (.string a) (.string b)).run P w=.ok y w /\ RP w Im v y:=by
 have e:∀ op',binOp op' T (.string a) (.string b)=Op.stringOp op' a b:=fun op'=>by cases op' <;> rfl
 rw [e];cases op <;> simp only [y5d] at h <;>
  first
   | (cases h;done)
   | (injection h with h;subst h;refine ⟨_,?_,RP.bool _⟩;simp [Op.stringOp];done)
   | skip
 cases hb:decide (a.size+b.size<=9223372036854775807) <;> rw [hb] at h <;> simp only [cond_true,cond_false] at h
 ·cases h
 ·injection h with h
  subst h;have hle:a.size+b.size<=9223372036854775807:=by simpa using hb
  refine ⟨_,?_,RP.str _⟩;have hn:¬ (((a.size+b.size:Nat):Int)>IntKind.i64.max):=by
   have:IntKind.i64.max=9223372036854775807:=rfl
   rw [this];omega
  simp only [Op.stringOp];rw [if_neg hn];rfl
theorem x4t (hE:EnvOK P E) {op:BinOp} {T:TypeId} {a b v:PV} {x y:Value} (ox oy:Operand) (h:q2x (E.eqs T) (E.bl T) op a b=some v) (ha:RP w Im a x) (hb:RP w Im b y) :
   ∃ z,(do eqGuard op T ox oy x y;binOp op T x y).run P w=.ok z w /\ RP w Im v z:=by
 cases ha with
 | agg as vs hl h1 hh=>
   cases hb with
   | agg bs us hl' h1' hh'=>
     simp only [q2x] at h;cases he:E.eqs T with
     | none=>rw [he] at h;cases op <;> cases h
     | some ks=>
       rw [he] at h;cases op <;> simp only at h <;> first | (cases h;done) | skip
       all_goals
         obtain ⟨c,hc,rfl⟩:=Option.map_eq_some_iff.1 h
         have:=hE.eqs T ks he w ox oy Im as bs vs us c (.agg as vs hl h1 hh) (.agg bs us hl' h1' hh') hc
         first | exact ⟨_,this.1,RP.bool _⟩ | exact ⟨_,this.2,RP.bool _⟩
   | _=>simp [q2x,pbin] at h
 | int k n=>
   cases hb with
   | int k' m=>
     simp only [q2x,pbin] at h;have hg:(eqGuard op T ox oy (.int k n) (.int k' m)).run P w=.ok () w:=q3c _ _ _ _ _ _ (by simp) (by simp) w;simp only [Sem.run_bind,hg,Result.andThen_ok];cases op <;> simp only at h <;>
       first
         | exact y0f (.inl rfl) h T w Im
         | exact y0f (.inr rfl) h T w Im
         | (split at h
            · rename_i hk;subst hk;exact x1y h T w Im
            · cases h)
   | _=>simp [q2x,pbin] at h
 | str s=>
   cases hb with
   | str s'=>
     simp only [q2x,pbin] at h;have hg:(eqGuard op T ox oy (.string s) (.string s')).run P w=.ok () w:=q3c _ _ _ _ _ _ (by simp) (by simp) w;simp only [Sem.run_bind,hg,Result.andThen_ok];exact x3f h T w Im
   | _=>simp [q2x,pbin] at h
 | bool p=>
   cases hb with
   | bool q=>
     simp only [q2x] at h;have hg:(eqGuard op T ox oy (.bool p) (.bool q)).run P w=.ok () w:=q3c _ _ _ _ _ _ (by simp) (by simp) w;simp only [Sem.run_bind,hg,Result.andThen_ok];unfold x5o at h;cases op <;> simp only at h <;> first | (cases h;done) | skip
     all_goals
       cases hb:E.bl T <;> rw [hb] at h <;> simp only [cond_true,cond_false] at h
       · cases h
       · injection h with h
         subst h;have hu:=hE.bl T hb;refine ⟨_,?_,RP.bool _⟩;simp [binOp,Op.equal,Op.maxDepth,run_equalIn_bool' (P:=P) w 9999 T p q hu]
   | _=>simp [q2x,pbin] at h
 | _=>cases hb <;> simp [q2x,pbin] at h
theorem w1v {op:UnOp} {a v:PV} {x:Value} (h:pun op a=some v) (ha:RP w Im a x):∃ z,(Op.unary op x).run P w=.ok z w /\ RP w Im v z:=by
 cases ha with
 | int k n=>
  cases op <;> simp only [pun] at h <;> first | (cases h;done) | skip
  ·injection h with h;subst h;exact ⟨_,by simp [Op.unary,Op.intArith],RP.int _ _⟩
  ·injection h with h;subst h;exact ⟨_,by simp [Op.unary,z6m],RP.int _ _⟩
 | bool b=>
  cases op <;> simp only [pun] at h <;> first | (cases h;done) | skip
  injection h with h;subst h;exact ⟨_,by simp [Op.unary],RP.bool _⟩
 | _=>simp [pun] at h
end
end Go.Dp
namespace Go.Dp
def Did (P:Program) (w:World) (Im:Nat->Prop) (ρ:Nat->Option Value) (o:List AObj) (K:Kt) (r:List SV × List (List CV)) (s:Sem Value):Prop :=
 ∃ v o' y w' Im' ρ',K v o'=some r /\ s.run P w=.ok y w' /\ Step w Im ρ o w' Im' ρ' o' /\ RA w' Im' ρ' o' v y
section
variable {P:Program} {E:Env} {w:World} {Im:Nat->Prop} {ρ:Nat->Option Value} {o:List AObj} {K:Kt} {r:List SV × List (List CV)}
def DidS (P:Program) (w:World) (Im:Nat->Prop) (ρ:Nat->Option Value) (o:List AObj) (K:Kt) (r:List SV × List (List CV)) (s:Sem Value):Prop :=
 ∃ v y,K v o=some r /\ s.run P w=.ok y w /\ RA w Im ρ o v y
theorem DidS.same {s:Sem Value} {v:AV} {y:Value} (hk:K v o=some r) (hr:s.run P w=.ok y w) (h:RA w Im ρ o v y):DidS P w Im ρ o K r s:=⟨v,y,hk,hr,h⟩
theorem Did.same {s:Sem Value} {v:AV} {y:Value} (hs:SR w Im ρ o) (hk:K v o=some r) (hr:s.run P w=.ok y w) (h:RA w Im ρ o v y):Did P w Im ρ o K r s :=
 ⟨v,o,y,w,Im,ρ,hk,hr,Step.refl hs,h⟩
theorem q2e (b off j:Nat):(⟨b,off,none⟩:Addr).add j=⟨b,off+j,none⟩:=by
 unfold Addr.add
 split <;> simp_all
theorem x5u {vs:Array Value} {e:TypeId} {fr:Nat × Nat} {b i:Nat} (h:w.heap[b]? = some (.cells vs e fr)):w.cell? ⟨b,i,none⟩=vs[i]?:=by simp [World.cell?,h]
theorem RP.one_of {v:PV} {y:Value} (h:RP w Im v y) (hy:y.oneCell'=true):v.one=true:=by
 cases h <;> simp_all [Value.oneCell',PV.one]
theorem q0s {a:AV} {c:CV} (h:a.cv? = some c):a=.s (.c c):=by
 cases a with
 | s v=>cases v <;> simp_all [AV.cv?]
 | tup _=>simp [AV.cv?] at h
theorem z8v {a:AV} {v:PV} (h:a.pv? = some v):a=.p v:=by
 cases a with
 | s s=>cases s with
  | c c=>cases c <;> simp_all [AV.pv?]
  | agg _=>simp [AV.pv?] at h
 | tup _=>simp [AV.pv?] at h
theorem q2k {a:AV} {v:SV} (h:a.sv? = some v):a=.s v:=by cases a <;> simp_all [AV.sv?]
theorem w27 {a:AV} {n:Int} (h:a.int? = some n):∃ k,a=.p (.int k n):=by
 unfold AV.int? at h;obtain ⟨v,hv,hn⟩:=Option.bind_eq_some_iff.1 h;rw [z8v hv];cases v <;> simp [PV.int?] at hn
 subst hn;exact ⟨_,rfl⟩
theorem q79 {a:AV} {b:Bool} (h:a.bool? = some b):a=.p (.bool b):=by
 unfold AV.bool? at h;obtain ⟨v,hv,hn⟩:=Option.bind_eq_some_iff.1 h;rw [z8v hv];cases v <;> simp [PV.bool?] at hn
 subst hn;rfl
theorem RA.int {a:AV} {n:Int} {x:Value} (h:a.int? = some n) (hx:RA w Im ρ o a x):∃ k,x=.int k n:=by
 obtain ⟨k,rfl⟩:=w27 h;cases hx;exact ⟨k,rfl⟩
theorem RA.bool {a:AV} {b:Bool} {x:Value} (h:a.bool? = some b) (hx:RA w Im ρ o a x):x=.bool b:=by
 rw [q79 h] at hx;cases hx;rfl
theorem RA.pv {a:AV} {v:PV} {x:Value} (h:a.pv? = some v) (hx:RA w Im ρ o a x):RP w Im v x:=by
 rw [z8v h] at hx;exact hx
theorem bind_some {α β:Type} {a:Option α} {f:α->Option β} {b:β} (h:a.bind f=some b):∃ x,a=some x /\ f x=some b:=Option.bind_eq_some_iff.1 h
theorem q0j {α:Type} {c:Bool} {x:Option α} {b:α} (h:(bif c then x else none)=some b):c=true /\ x=some b:=by
 cases c
 · cases h
 · exact ⟨rfl,h⟩
theorem q41 {v:PV} {q:Nat × Nat × List PV} (h:v.row? = some q):v=.row q.1 q.2.1 q.2.2:=by
 cases v <;> simp [PV.row?] at h
 subst h;rfl
theorem y15 {v:PV} {s:ByteArray} (h:v.str? = some s):v=.str s:=by
 cases v <;> simp [PV.str?] at h
 subst h;rfl
theorem y8l {m i:Nat} {f:Nat->Value} {y:Value} (h:((List.range m).map f).toArray[i]? = some y):i<m /\ y=f i:=by
 simp only [List.getElem?_toArray,List.getElem?_map] at h;rcases Nat.lt_or_ge i m with hi | hi
 ·rw [List.getElem?_range hi] at h;simp at h;exact ⟨hi,h.symm⟩
 ·rw [List.getElem?_eq_none (by simpa using hi)] at h;simp at h
theorem q5z {cs:List CV} {vs:Array Value} (hl:vs.size=cs.length) (h:∀ (i:Nat) (c:CV) (y:Value),cs[i]? = some c->vs[i]? = some y->RC w Im ρ o c y)
  (h1:∀ (i:Nat) (y:Value),vs[i]? = some y->y.oneCell'=true):RS w Im ρ o (mkAgg cs) (.agg vs):=by
 unfold mkAgg;split
 ·rename_i ps hp;have hps:cs=ps.map .p:=by
   clear hl h h1
   induction cs generalizing ps with
   | nil=>simp [allP] at hp;simp [hp]
   | cons c cs ih=>
    cases c <;> simp [allP] at hp
    obtain ⟨qs,hq,rfl⟩:=hp;simp [ih qs hq]
  subst hps;refine RP.agg ps vs (by simpa using hl) ?_ ?_
  ·intro i c hc;have hi:i<vs.size:=by rw [hl];simpa using (List.getElem?_eq_some_iff.1 hc).1
   have:=h i (.p c) vs[i] (by simp [hc]) (by simp [hi])
   exact RP.one_of this (h1 i _ (by simp [hi]))
  ·intro i c v hc hv;exact h i (.p c) v (by simp [hc]) hv
 ·exact ⟨vs,rfl,hl,h,h1⟩
theorem y9h (hE:EnvOK P E) {T:TypeId} {sh:Nat} (hT:E.sh T=some sh) {cs:List CV} {off b:Nat} {vs:Array Value} {e:TypeId} {v:SV} (hb:w.heap[b]? = some (.cells vs e (0,0))) (hl:vs.size=cs.length)
  (h:∀ (i:Nat) (c:CV) (y:Value),cs[i]? = some c->vs[i]? = some y->RC w Im ρ o c y) (h1:∀ (i:Nat) (y:Value),vs[i]? = some y->y.oneCell'=true)
  (hv:z21 sh (cs.drop off)=some v):∃ y,(loadVar T ⟨b,off,none⟩).run P w=.ok y w /\ RS w Im ρ o v y:=by
 cases sh with
 | zero=>
  simp only [z21,List.getElem?_drop,Nat.add_zero] at hv;obtain ⟨c,hc,rfl⟩:=Option.map_eq_some_iff.1 hv;have hi:off<vs.size:=by rw [hl];exact (List.getElem?_eq_some_iff.1 hc).1
  refine ⟨vs[off],?_,h off c _ hc (by simp [hi])⟩;simp [loadVar,z4g hE hT,x5u hb,hi]
 | succ n=>
  simp only [z21] at hv;obtain ⟨hle,hv⟩:=q0j hv;injection hv with hv
  subst hv;have hle:off+(n+1)<=cs.length:=by have:=of_decide_eq_true hle;simp at this;omega
  let f:Nat->Value:=fun j=>(vs[off+j]?).getD undef
  have hf:∀ j,j<n+1->w.cell? ((⟨b,off,none⟩:Addr).add j)=some (f j):=fun j hj=>by
   rw [q2e,x5u hb]
   have:off+j<vs.size:=by omega
   simp [f,this]
  refine ⟨.agg ((List.range (n+1)).map f).toArray,?_,?_⟩
  ·simp only [loadVar,Sem.run_bind,y48 hE hT,Result.andThen_ok,if_true,y1z hE hT,csz,Nat.succ_ne_zero,if_false,run_loadCells w _ (n+1) f hf,Sem.run_pure]
  ·have get:∀ i y,((List.range (n+1)).map f).toArray[i]? = some y->i<n+1 /\ vs[off+i]? = some y:=by
    intro i y hy;obtain ⟨hk,rfl⟩:=y8l hy
    have:off+i<vs.size:=by omega
    exact ⟨hk,by simp [f,this]⟩
   refine q5z (by simp;omega) ?_ ?_
   ·intro i c y hc hy;obtain ⟨hi,hy⟩:=get i y hy;rw [List.getElem?_take_of_lt hi,List.getElem?_drop] at hc;exact h _ c y hc hy
   ·intro i y hy;exact h1 _ y (get i y hy).2
theorem z96 (hE:EnvOK P E) {T:TypeId} {sh vsh off b base:Nat} {x v:PV} (hT:E.sh T=some sh) (hx:x.shp vsh=true)
  (hc:∀ (j:Nat) (c:PV),x.cells[j]? = some c->∃ y,w.cell? ⟨b,base+j,none⟩=some y /\ RP w Im c y) (hv:y43 x vsh off sh=some v) :
  ∃ y,(loadVar T ⟨b,base+off,none⟩).run P w=.ok y w /\ RP w Im v y:=by
 cases sh with
 | zero=>
  obtain ⟨y,hy,hr⟩:=hc off v hv;exact ⟨y,by simp [loadVar,z4g hE hT,hy],hr⟩
 | succ n=>
  have main:∀ ps:List PV,ps.length=n+1->(∀ (j:Nat) (c:PV),ps[j]? = some c->x.cells[off+j]? = some c)->(∀ (j:Nat) (c:PV),ps[j]? = some c->c.one=true) ->
    ∃ y,(loadVar T ⟨b,base+off,none⟩).run P w=.ok y w /\ RP w Im (.agg ps) y:=by
   intro ps hl hsub hone
   let f:Nat->Value:=fun j=>(w.cell? ⟨b,base+off+j,none⟩).getD undef
   have hf:∀ j c,ps[j]? = some c->w.cell? ⟨b,base+off+j,none⟩=some (f j) /\ RP w Im c (f j):=fun j c hj=>by
    obtain ⟨y,hy,hr⟩:=hc _ c (hsub j c hj);rw [<- Nat.add_assoc] at hy;exact ⟨by simp [f,hy],by simp [f,hy,hr]⟩
   refine ⟨.agg ((List.range (n+1)).map f).toArray,?_,?_⟩
   ·have h0:∀ j,j<n+1->w.cell? ((⟨b,base+off,none⟩:Addr).add j)=some (f j):=fun j hj=>by
     rw [q2e];exact (hf j _ (List.getElem?_eq_getElem (by omega))).1
    simp only [loadVar,Sem.run_bind,y48 hE hT,Result.andThen_ok,if_true,y1z hE hT,csz,Nat.succ_ne_zero,if_false,run_loadCells w _ (n+1) f h0,Sem.run_pure]
   ·refine RP.agg ps _ (by simp [hl]) hone ?_;intro i c y hci hy;obtain ⟨hk,rfl⟩:=y8l hy;exact (hf _ c hci).2
  simp only [y43] at hv;cases h0:(off==0&&vsh==n+1) <;> rw [h0] at hv <;> simp only [cond_true,cond_false] at hv
  ·obtain ⟨hle,hv⟩:=q0j hv;injection hv with hv
   subst hv;simp at hle;refine main _ (by simp;omega) ?_ ?_
   ·intro j c hj;have hj':j<n+1:=by have:=(List.getElem?_eq_some_iff.1 hj).1;simp at this;omega
    rw [List.getElem?_take_of_lt hj',List.getElem?_drop] at hj;exact hj
   ·intro j c hj;have hj':j<n+1:=by have:=(List.getElem?_eq_some_iff.1 hj).1;simp at this;omega
    rw [List.getElem?_take_of_lt hj',List.getElem?_drop] at hj;exact PV.shp_one hx _ c hj
  ·injection hv with hv
   subst hv;simp at h0;obtain ⟨rfl,rfl⟩:=h0;cases x with
   | agg cs=>
    simp [PV.shp] at hx;refine main cs hx.1 ?_ ?_
    ·intro j c hj;simpa [PV.cells] using hj
    ·intro j c hj;exact hx.2 c (List.mem_of_getElem? hj)
   | _=>simp [PV.shp] at hx
theorem q5d {T e:TypeId} (hu:P.underlying T=some (.slice e)) (d:Nat) (a:Option Addr) (n c:Nat) (w:World):(Op.equalIn (d+1) T (.slice a n c) (.slice none 0 0)).run P w=.ok a.isNone w:=by
 unfold Op.equalIn;rw [Sem.run_bind,run_underlying hu];cases a <;> rfl
theorem z1p (hE:EnvOK P E) {op:BinOp} {T:TypeId} {a b:PV} {c:Bool} {x y:Value} (ox oy:Operand) (h:nilEq op a b=some c) (hT:(E.sl T).isSome=true) (ha:RP w Im a x) (hb:RP w Im b y) :
  (do eqGuard op T ox oy x y;binOp op T x y).run P w=.ok (.bool c) w:=by
 obtain ⟨⟨e,sh,by_⟩,hT⟩:=Option.isSome_iff_exists.1 hT;have hu:=(hE.sl T e sh by_ hT).1;unfold nilEq at h;split at h
 ·rename_i s1 f xs s2 g0;obtain ⟨hg,h⟩:=q0j h;simp only [beq_iff_eq] at hg;subst hg;cases hb with
  | row _ _ _ a cap g hf=>exact absurd rfl hf
  | nil=>
   cases ha with
   | nil _ _ hf=>
    have hg:(eqGuard .eql T ox oy (.slice none 0 0) (.slice none 0 0)).run P w=.ok () w:=q3c _ _ _ _ _ _ (by simp) (by simp) w;cases h2:(f==2)
    ·rw [h2] at h;cases h3:(f==3)
     ·rw [h3] at h;cases h
     ·exact absurd (by simpa using h3) hf
    ·rw [h2] at h;injection h with h
     subst h;simp [hg,binOp,Op.equal,Op.maxDepth,q5d hu]
   | row _ _ _ a cap g hf=>
    have hg:(eqGuard .eql T ox oy (.slice (some a) xs.length cap) (.slice none 0 0)).run P w=.ok () w:=q3c _ _ _ _ _ _ (by simp) (by simp) w;have h2:(f==2)=false:=by simpa using hf
    rw [h2] at h;cases h3:(f==3)
    ·rw [h3] at h;cases h
    ·rw [h3] at h;injection h with h
     subst h;simp [hg,binOp,Op.equal,Op.maxDepth,q5d hu]
 ·rename_i s1 f xs s2 g0;obtain ⟨hg,h⟩:=q0j h;simp only [beq_iff_eq] at hg;subst hg;cases hb with
  | row _ _ _ a cap g hf=>exact absurd rfl hf
  | nil=>
   cases ha with
   | nil _ _ hf=>
    have hg:(eqGuard .neq T ox oy (.slice none 0 0) (.slice none 0 0)).run P w=.ok () w:=q3c _ _ _ _ _ _ (by simp) (by simp) w;cases h2:(f==2)
    ·rw [h2] at h;cases h3:(f==3)
     ·rw [h3] at h;cases h
     ·exact absurd (by simpa using h3) hf
    ·rw [h2] at h;injection h with h
     subst h;simp [hg,binOp,Op.equal,Op.maxDepth,q5d hu]
   | row _ _ _ a cap g hf=>
    have hg:(eqGuard .neq T ox oy (.slice (some a) xs.length cap) (.slice none 0 0)).run P w=.ok () w:=q3c _ _ _ _ _ _ (by simp) (by simp) w;have h2:(f==2)=false:=by simpa using hf
    rw [h2] at h;cases h3:(f==3)
    ·rw [h3] at h;cases h
    ·rw [h3] at h;injection h with h
     subst h;simp [hg,binOp,Op.equal,Op.maxDepth,q5d hu]
 ·cases h
def Weak (v u:PV):Prop:=(v.one=true->u.one=true) /\ ∀ (w:World) (Im:Nat->Prop) (x:Value),RP w Im v x->RP w Im u x
theorem y9f (hE:EnvOK P E) {op:BinOp} {T:TypeId} {a b:PV} {x y:Value} (ox oy:Operand) (h:z20 op a b=true) (hf:z8z a=true) (hT:(E.sl T).isSome=true) (ha:RP w Im a x) (hb:RP w Im b y) :
  (do eqGuard op T ox oy x y;binOp op T x y).run P w=.ok (.bool (y93 op)) w:=by
 unfold z20 at h;split at h
 ·rename_i s1 f xs s2 g0;have hg:g0=2:=by simpa using h
  subst hg;cases ha with
  | nil=>simp [z8z] at hf
  | row _ _ _ a cap g hf0 hs hc hm h1 him hsh hcell hr=>
   exact z1p (a:=.row s1 3 xs) hE ox oy rfl hT (.row s1 3 xs a cap g (by decide) hs hc hm (fun h=>by cases h) him hsh hcell hr) hb
 ·rename_i s1 f xs s2 g0;have hg:g0=2:=by simpa using h
  subst hg;cases ha with
  | nil=>simp [z8z] at hf
  | row _ _ _ a cap g hf0 hs hc hm h1 him hsh hcell hr=>
   exact z1p (a:=.row s1 3 xs) hE ox oy rfl hT (.row s1 3 xs a cap g (by decide) hs hc hm (fun h=>by cases h) him hsh hcell hr) hb
 ·cases h
theorem Weak.refl (v:PV):Weak v v:=⟨fun h=>h,fun _ _ _ h=>h⟩
theorem x71 {v:PV} {k:IntKind} {n:Int} (h:v.asInt k=some n):v=.int k n:=by
 cases v <;> simp only [PV.asInt] at h <;> first | (cases h;done) | skip
 obtain ⟨h1,h2⟩:=q0j h;simp at h1;subst h1;injection h2 with h2
 rw [h2]
theorem z3a {v:PV} {sh:Nat} {xs:List PV} (h:v.asRow sh=some xs):Weak v (.row sh 0 xs):=by
 cases v <;> simp only [PV.asRow] at h <;> first | (cases h;done) | skip
 rename_i s f ys;obtain ⟨h1,h2⟩:=q0j h;injection h2 with h2
 subst h2;refine ⟨fun _=>rfl,fun w Im x hx=>?_⟩;simp at h1;cases hx with
 | nil=>exact .nil _ _ (by decide)
 | row _ _ _ a cap g hf hs hc hm h1' him hsh hcell hrec=>
  rcases h1 with rfl | h1
  ·exact .row _ _ _ a cap g (by simp) hs hc hm (by simp) him hsh hcell hrec
  ·exact absurd h1 hf
theorem y8o {s sh f:Nat} {xs:List PV} (h:f=2∨(s=sh /\ xs≠[])):Weak (.row s f xs) (.rowN sh (bif f==2 then [] else xs)):=by
 refine ⟨fun _=>by unfold PV.rowN;cases List.isEmpty _ <;> rfl,fun w Im x hx=>?_⟩;by_cases hf:f=2
 ·subst hf;cases hx with
  | nil=>exact .nil _ _ (by decide)
  | row _ _ _ a cap g hf=>exact absurd rfl hf
 ·rw [beq_eq_false_iff_ne.2 hf];obtain ⟨rfl,hne⟩:=h.resolve_left hf;have e:PV.rowN s xs=.row s 3 xs:=by
   unfold PV.rowN;cases xs with
   | nil=>exact absurd rfl hne
   | cons x xs=>rfl
  rw [cond_false,e];cases hx with
  | nil=>exact absurd rfl hne
  | row _ _ _ a cap g hf hs hc hm h1' him hsh hcell hrec=>exact .row _ _ _ a cap g (by decide) hs hc hm (by simp) him hsh hcell hrec
theorem q45 {α:Type} {ct:CellT} {v:PV} {K:PV->Option α} {r:α} (h:q2c ct v K=some r):∃ u,K u=some r /\ Weak v u:=by
 cases ct <;> simp only [q2c] at h
 ·exact ⟨v,h,Weak.refl v⟩
 ·obtain ⟨n,hn,h⟩:=bind_some h;rw [x71 hn];exact ⟨_,h,Weak.refl _⟩
 ·obtain ⟨n,hn,h⟩:=bind_some h;cases v <;> simp [PV.bool?] at hn
  subst hn;exact ⟨_,h,Weak.refl _⟩
 ·obtain ⟨n,hn,h⟩:=bind_some h;cases v <;> simp [PV.str?] at hn
  subst hn;exact ⟨_,h,Weak.refl _⟩
 ·obtain ⟨n,hn,h⟩:=bind_some h;exact ⟨_,h,z3a hn⟩
 ·split at h
  ·rename_i s f xs;cases hf:(f==2) <;> rw [hf] at h
   ·obtain ⟨hc,h⟩:=q0j h;simp only [Bool.and_eq_true,beq_iff_eq,Bool.not_eq_true',List.isEmpty_eq_false_iff] at hc
    have:=y8o (f:=f) (.inr hc)
    rw [hf] at this;exact ⟨_,h,this⟩
   ·refine ⟨_,h,?_⟩;have key:=fun sh'=>y8o (s:=s) (f:=f) (xs:=xs) (sh:=sh') (.inl (by simpa using hf))
    rw [hf] at key;exact key _
  ·cases h
theorem y7j {α:Type} (ct:CellT) (v:PV) (i:Nat) (K:PV->Option α):q9x ct v i K=(v.cell i).bind fun c=>q2c ct c K:=by
 cases ct <;> simp only [q9x,q2c,PV.atInt,PV.atBool,PV.atStr,PV.atRow] <;> cases v.cell i <;> rfl
theorem z9h {α:Type} {ct:CellT} {v:PV} {i:Nat} {K:PV->Option α} {r:α} (h:q9x ct v i K=some r):∃ c u,v.cell i=some c /\ K u=some r /\ Weak c u:=by
 rw [y7j] at h;obtain ⟨c,hc,h⟩:=bind_some h;obtain ⟨u,h1,h2⟩:=q45 h;exact ⟨c,u,hc,h1,h2⟩
theorem z2l {α:Type}:∀ {cs:List CellT} {v:PV} {i:Nat} {K:List PV->Option α} {r:α},q5i cs v i K=some r->∃ us,K us=some r /\ us.length=cs.length /\ ∀ (j:Nat) (u:PV),us[j]? = some u->∃ c,v.cell (i+j)=some c /\ Weak c u
 | [],v,i,K,r,h=>⟨[],h,rfl,fun j u hj=>by simp at hj⟩
 | c::cs,v,i,K,r,h=>by
  simp only [q5i] at h;obtain ⟨c0,u,hc,h,hw⟩:=z9h h;obtain ⟨us,h,hl,hr⟩:=z2l h;refine ⟨u::us,h,by simp [hl],fun j u' hj=>?_⟩;cases j with
  | zero=>simp at hj;subst hj;exact ⟨c0,hc,hw⟩
  | succ j=>
   obtain ⟨c1,h1,h2⟩:=hr j u' (by simpa using hj);exact ⟨c1,by rw [show i+(j+1)=i+1+j by omega];exact h1,h2⟩
theorem y3v {α:Type} {ct:CT} {v:PV} {K:PV->Option α} {r:α} (h:z3f ct v K=some r):∃ u,K u=some r /\ Weak v u:=by
 cases ct with
 | one c=>exact q45 h
 | agg cs=>
  simp only [z3f] at h;obtain ⟨h1,h⟩:=q0j h;simp only [Bool.and_eq_true,bne_iff_ne,ne_eq] at h1;have h1:=h1.symm;obtain ⟨us,h,hl,hr⟩:=z2l h;refine ⟨_,h,?_,fun w Im x hx=>?_⟩
  ·intro hv;cases hcl:cs.length with
   | zero=>exact absurd hcl h1.2
   | succ n=>rw [hcl] at h1;cases v <;> simp_all [PV.shp,PV.one]
  ·have hsh:=h1.1;cases hcl:cs.length with
   | zero=>exact absurd hcl h1.2
   | succ n=>
    rw [hcl] at hsh;cases v with
    | agg ps=>
     cases hx with
     | agg _ vs hvl ho hh=>
      simp only [PV.shp,Bool.and_eq_true,beq_iff_eq] at hsh;refine .agg us vs (by omega) (fun i c hc=>?_) (fun i c y hc hy=>?_)
      ·obtain ⟨c0,h2,h3⟩:=hr i c hc;simp only [PV.cell,PV.cells,Nat.zero_add] at h2;exact h3.1 (ho i c0 h2)
      ·obtain ⟨c0,h2,h3⟩:=hr i c hc;simp only [PV.cell,PV.cells,Nat.zero_add] at h2;exact h3.2 w Im y (hh i c0 y h2 hy)
    | _=>simp [PV.shp] at hsh
theorem y4k {ct:CT} {v:PV} {vsh off sh:Nat} {K:PV->R} {r:List SV × List (List CV)} (h:loadP ct v vsh off sh K=some r):∃ c u,y43 v vsh off sh=some c /\ K u=some r /\ Weak c u:=by
 unfold loadP at h;split at h
 ·exact z9h h
 ·obtain ⟨c,hc,h⟩:=bind_some h;obtain ⟨u,h1,h2⟩:=y3v h;exact ⟨c,u,hc,h1,h2⟩
theorem q5h {α:Type} (ct:CellT) (v:PV):(∀ K:PV->Option α,q2c ct v K=none)∨∃ u,∀ K:PV->Option α,q2c ct v K=K u:=by
 cases ct <;> simp only [q2c]
 ·exact .inr ⟨v,fun K=>rfl⟩
 ·cases v.asInt _ with
  | none=>exact .inl fun K=>rfl
  | some n=>exact .inr ⟨_,fun K=>rfl⟩
 ·cases v.bool? with
  | none=>exact .inl fun K=>rfl
  | some n=>exact .inr ⟨_,fun K=>rfl⟩
 ·cases v.str? with
  | none=>exact .inl fun K=>rfl
  | some n=>exact .inr ⟨_,fun K=>rfl⟩
 ·cases v.asRow _ with
  | none=>exact .inl fun K=>rfl
  | some n=>exact .inr ⟨_,fun K=>rfl⟩
 ·split
  ·rename_i s f xs;cases (f==2)
   ·cases (s==_&&!xs.isEmpty)
    ·exact .inl fun K=>rfl
    ·exact .inr ⟨_,fun K=>rfl⟩
   ·exact .inr ⟨_,fun K=>rfl⟩
  ·exact .inl fun K=>rfl
theorem y3u {α:Type} (ct:CellT) (v:PV) (i:Nat):(∀ K:PV->Option α,q9x ct v i K=none)∨∃ u,∀ K:PV->Option α,q9x ct v i K=K u:=by
 simp only [y7j];cases v.cell i with
 | none=>exact .inl fun K=>rfl
 | some c=>exact q5h ct c
theorem z4t {α:Type}:∀ (cs:List CellT) (v:PV) (i:Nat),(∀ K:List PV->Option α,q5i cs v i K=none)∨∃ u,∀ K:List PV->Option α,q5i cs v i K=K u
 | [],v,i=>.inr ⟨[],fun K=>rfl⟩
 | c::cs,v,i=>by
  simp only [q5i];rcases y3u (α:=α) c v i with h | ⟨u,h⟩
  ·exact .inl fun K=>h _
  ·rcases z4t (α:=α) cs v (i+1) with h2 | ⟨us,h2⟩
   ·exact .inl fun K=>(h _).trans (h2 _)
   ·exact .inr ⟨u::us,fun K=>(h _).trans (h2 _)⟩
theorem y7k {α:Type} (ct:CT) (v:PV):(∀ K:PV->Option α,z3f ct v K=none)∨∃ u,∀ K:PV->Option α,z3f ct v K=K u:=by
 cases ct with
 | one c=>exact q5h c v
 | agg cs=>
  simp only [z3f];cases (cs.length != 0&&v.shp cs.length)
  ·exact .inl fun K=>rfl
  ·rcases z4t (α:=α) cs v 0 with h | ⟨u,h⟩
   ·exact .inl fun K=>h _
   ·exact .inr ⟨.agg u,fun K=>h _⟩
theorem y76 (ct:CT) (v:PV) (vsh off sh:Nat):(∀ K:PV->R,loadP ct v vsh off sh K=none)∨∃ u,∀ K:PV->R,loadP ct v vsh off sh K=K u:=by
 unfold loadP;split
 ·exact y3u _ _ _
 ·cases y43 v vsh off sh with
  | none=>exact .inl fun K=>rfl
  | some u=>exact y7k _ u
theorem z7h (hE:EnvOK P E) (hs:SR w Im ρ o) {T:TypeId} {a:AV} {x:Value} (ha:RA w Im ρ o a x) (h:opLoad E T a o K=some r):DidS P w Im ρ o K r (Instr.loadAt T x):=by
 unfold opLoad at h;split at h
 ·rename_i id off sh hc hT;rw [q0s hc] at ha;split at h
  ·rename_i cs ho;obtain ⟨v,hv,hk⟩:=bind_some h;simp only [RA,RS,RC,RB,ho] at ha;obtain ⟨b,hρ,rfl⟩:=ha;obtain ⟨b',vs,e,hb,hh,hl,hrc,h1,_⟩:=hs.ob id _ _ ho hρ;obtain rfl:b=b':=by simpa using hb
   obtain ⟨y,hy,hr⟩:=y9h hE hT hh hl hrc h1 hv;exact DidS.same hk (by simp [Instr.loadAt,Instr.sureAddr,hy]) hr
  ·cases h
 ·rename_i id ver vsh i off sh hc hT;rw [q0s hc] at ha;split at h
  ·rename_i e sh' ver' fz xs ho;split at h
   rotate_left
   ·rename_i kd hkd;obtain ⟨hcnd,hk⟩:=q0j h;simp only [Bool.and_eq_true,beq_iff_eq,Option.isNone_iff_eq_none] at hcnd;obtain ⟨⟨⟨⟨rfl,rfl⟩,rfl⟩,rfl⟩,hh0⟩:=hcnd;simp only [RA,RS,RC,ho] at ha;obtain ⟨hi,g,bo,n,cap,v,hρ,hmv,rfl⟩:=ha.2 trivial trivial;obtain ⟨vals,hown,hshp,hrp,_,hkids⟩:=hs.ob id _ _ ho hρ;simp only [RKids,hkd] at hkids;obtain ⟨_,ks,hv,hks,_⟩:=hkids;have hix:i<xs.length:=hi;obtain ⟨f,ys,u,h1,_,h2,h3,_⟩:=hks.kid i xs[i] (by simp [hix]) (by simp [hh0])
    have:=hown.cells (g:=g) (bo:=bo) hmv (i*csz vsh+kd.j) u h3
    rw [q2e,<- Nat.add_assoc] at this;refine DidS.same (y:=u) hk (by simp [Instr.loadAt,Instr.sureAddr,loadVar,z4g hE hT,this]) ?_;simp only [RA,RS,RC,ho];refine ⟨Nat.le_refl _,fun _ k2 hk2=>?_⟩;rw [hkd] at hk2;injection hk2 with hk2
    subst hk2;exact ⟨Nat.le_refl _,fun _ _=>⟨hix,_,ks,by rw [hρ,hv],h2⟩⟩
   rename_i hkd;obtain ⟨hver,h⟩:=q0j h;obtain ⟨x',hx',hk⟩:=bind_some h;obtain ⟨v,v2,hv,hk,hwk⟩:=y4k hk;simp at hver;simp only [RA,RS,RC,ho] at ha;obtain ⟨hi,g,bo,n,cap,v0,hρ,hmv,rfl⟩:=ha.2 hver.1 hver.2;obtain ⟨rfl,rfl⟩:=hver;obtain ⟨vals,hown,hshp,hrp,_⟩:=hs.ob id _ _ ho hρ;simp only [RPk,hkd] at hrp;have hcells:∀ (j:Nat) (c:PV),x'.cells[j]? = some c->∃ y,w.cell? ⟨g,bo+i*csz vsh+j,none⟩=some y /\ RP w Im c y:=by
    intro j c hj;have hx1:=List.mem_of_getElem? hx';have hlen:=PV.shp_len (hshp x' hx1);have hjl:j<csz vsh:=by rw [<- hlen];exact (List.getElem?_eq_some_iff.1 hj).1
    have hvl:i*csz vsh+j<vals.length:=by
     rw [hown.1];have h1:(i+1)*csz vsh<=xs.length*csz vsh:=Nat.mul_le_mul_right _ hi;rw [Nat.add_mul] at h1;omega
    refine ⟨vals[i*csz vsh+j],?_,hrp i x' j c _ hx' hj (by simp [hvl])⟩
    have:=hown.cells (g:=g) (bo:=bo) hmv (i*csz vsh+j) vals[i*csz vsh+j] (by simp [hvl])
    rwa [q2e,<- Nat.add_assoc] at this
   obtain ⟨y,hy,hr⟩:=z96 hE hT (hshp x' (List.mem_of_getElem? hx')) hcells hv;exact DidS.same hk (by simp [Instr.loadAt,Instr.sureAddr,hy]) (hwk.2 _ _ _ hr)
  ·cases h
 ·rename_i v vsh off sh hc hT;rw [q0s hc] at ha;obtain ⟨b,base,rfl,hIm,hshp,hcells⟩:=ha;obtain ⟨u,u2,hu,hk,hwk⟩:=y4k h;obtain ⟨y,hy,hr⟩:=z96 hE hT hshp hcells hu;exact DidS.same hk (by simp [Instr.loadAt,Instr.sureAddr,hy]) (hwk.2 _ _ _ hr)
 ·cases h
end
end Go.Dp
namespace Go.Dp
section
variable {P:Program} {E:Env} {w:World} {Im:Nat->Prop} {ρ:Nat->Option Value} {o:List AObj} {K:Kt} {r:List SV × List (List CV)}
theorem q88 {id:Nat} (h:isBox o id=true):∃ cs,o[id]? = some (.box cs):=by
 unfold isBox at h;split at h
 · rename_i cs hc;exact ⟨cs,hc⟩
 · cases h
theorem q54 {id ver sh:Nat} (h:cur o id ver sh=true):∃ e fz xs,o[id]? = some (.arr e sh ver fz xs):=by
 unfold cur at h;split at h
 ·rename_i e sh' ver' fz xs hc;simp at h;obtain ⟨rfl,rfl⟩:=h;exact ⟨e,fz,xs,hc⟩
 ·cases h
theorem z1v (hE:EnvOK P E) {T:TypeId} {f off sh:Nat} (h:E.fl T f=some (off,sh)) (b base:Nat) (w:World) :
  (Instr.fieldAt T (.pointer (some ⟨b,base,none⟩)) f).run P w=.ok (.pointer (some ⟨b,base+off,none⟩)) w:=by
 obtain ⟨fs,fd,i,hu,hf,ho,hi,hz,_⟩:=hE.fl T f off sh h;have hp:=q3w sh;have hn:¬ i.size=0:=by omega
 simp [Instr.fieldAt,run_underlying hu,hf,Instr.sureAddr,fieldPlace,sizeOf,typeInfo,hi,hn,q2e,ho]
theorem z84 (hE:EnvOK P E) (hs:SR w Im ρ o) {T:TypeId} {f:Nat} {a:AV} {x:Value} (ha:RA w Im ρ o a x) (h:opFieldAddr E T a f o K=some r):DidS P w Im ρ o K r (Instr.fieldAt T x f):=by
 unfold opFieldAddr at h;split at h
 ·rename_i id off fo fsh hc hT;rw [q0s hc] at ha;obtain ⟨hb,hk⟩:=q0j h;obtain ⟨cs,ho⟩:=q88 hb;simp only [RA,RS,RC,RB,ho] at ha;obtain ⟨b,hρ,rfl⟩:=ha;exact DidS.same hk (z1v hE hT b off w) (by simp only [RA,RS,RC,RB,ho];exact ⟨b,hρ,rfl⟩)
 ·rename_i id ver sh i off fo fsh hc hT;rw [q0s hc] at ha;obtain ⟨hb,hk⟩:=q0j h;obtain ⟨e,fz,xs,ho⟩:=q54 hb;simp only [RA,RS,RC,ho] at ha;obtain ⟨hi,g,bo,n,cap,v0,hρ,hmv,rfl⟩:=ha.2 (by simp) (by simp);refine DidS.same hk (z1v hE hT g _ w) ?_;simp only [RA,RS,RC,ho];exact ⟨Nat.le_refl _,fun _ _=>⟨hi,g,bo,n,cap,v0,hρ,hmv,by rw [Nat.add_assoc]⟩⟩
 ·rename_i v sh off fo fsh hc hT;rw [q0s hc] at ha;obtain ⟨b,base,rfl,hIm,hshp,hcells⟩:=ha;exact DidS.same h (z1v hE hT b _ w) ⟨b,base,by rw [Nat.add_assoc],hIm,hshp,hcells⟩
 ·cases h
theorem y0d (hE:EnvOK P E) {T:TypeId} {e sh by_:Nat} (h:E.sl T=some (e,sh,by_)) (k:IntKind) (i:Int) (a:Addr) (len cap:Nat) (h0:0<=i) (h1:i<len) (w:World) :
  (Instr.indexAt T (.slice (some a) len cap) (.int k i)).run P w=.ok (.pointer (some (a.add (i.toNat*csz sh)))) w:=by
 obtain ⟨hu,⟨inf,z,hi,hz,_⟩,_⟩:=hE.sl T e sh by_ h;simp [Instr.indexAt,asIntOf,run_underlying hu,h0,h1,sizeOf,typeInfo,hi,hz]
theorem z0q (hE:EnvOK P E) {T:TypeId} (k:IntKind) (i:Int) (a:Addr) (h0:0<=i) (h1:i<E.ar T) (w:World) :
  (Instr.indexAt T (.pointer (some a)) (.int k i)).run P w=.ok (.pointer (some (a.add (i.toNat*1)))) w:=by
 obtain ⟨m,hm⟩:∃ m,E.ar T=m+1:=⟨E.ar T-1,by omega⟩;obtain ⟨e,inf,hu,hi,hz⟩:=hE.ar T m hm;rw [hm] at h1;have h1':i<(m:Int)+1:=by omega
 simp [Instr.indexAt,asIntOf,run_underlying hu,h0,h1',Instr.sureAddr,sizeOf,typeInfo,hi,hz]
theorem z85 (hE:EnvOK P E) (hs:SR w Im ρ o) {T:TypeId} {a i:AV} {x y:Value} (ha:RA w Im ρ o a x) (hi:RA w Im ρ o i y) (h:opIndexAddr E T a i o K=some r):DidS P w Im ρ o K r (Instr.indexAt T x y):=by
 unfold opIndexAddr at h;split at h
 ·rename_i v e sh' by_ hc hT;rw [q0s hc] at ha;obtain ⟨⟨sh,f,xs⟩,hq,h⟩:=bind_some h;obtain rfl:=q41 hq
  simp only at h ha
  all_goals
   obtain ⟨hsh,h⟩:=q0j h;obtain ⟨n,hn,h⟩:=bind_some h;obtain ⟨x',hx',hk⟩:=bind_some h;obtain ⟨h0,hx'⟩:=q0j hx'
   replace hx':xs[n.toNat]? = some x':=hx'
   obtain ⟨k,rfl⟩:=hi.int hn;simp at hsh;subst hsh;have h0:=of_decide_eq_true h0;have hlt:=(List.getElem?_eq_some_iff.1 hx').1;cases ha with
   | nil=>simp at hlt
   | row _ _ _ a cap g hf hsp hcap hm h1 him hshp hcell hrp=>
    refine DidS.same hk (y0d hE hT k n a _ cap h0 (by omega) w) ?_;have e1:a.add (n.toNat*csz sh)=⟨a.block,a.off+n.toNat*csz sh+0,none⟩:=by
     obtain ⟨b,off,sp⟩:=a
     simp only at hsp
     subst hsp;exact q2e b off _
    rw [e1];refine ⟨a.block,a.off+n.toNat*csz sh,rfl,him (by omega),hshp _ _ hx',?_⟩;intro j c hj;refine ⟨_,?_,hrp _ _ j c hx' hj⟩;rw [Nat.add_assoc];exact hcell _ _ j c hx' hj
 ·rename_i id ver sh lo len e sh' by_ hc hT;rw [q0s hc] at ha;obtain ⟨n,hn,h⟩:=bind_some h;obtain ⟨hcond,hk⟩:=q0j h;simp only [Bool.and_eq_true,beq_iff_eq,decide_eq_true_eq] at hcond;obtain ⟨⟨⟨rfl,hcur⟩,h0⟩,h1⟩:=hcond;obtain ⟨e',fz,xs,ho⟩:=q54 hcur;obtain ⟨k,rfl⟩:=hi.int hn;simp only [RA,RS,RC,ho] at ha;obtain ⟨hle,v,hρ,hsl⟩:=ha.2 (by simp) (by simp);obtain ⟨vals,hown,_⟩:=hs.ob id _ _ ho hρ;rcases hown.2 with ⟨hm,_⟩ | ⟨g,bo,cap,cur,hm,_,hh,hnc,hcm,hcs,_⟩
  ·rw [hm] at hsl;simp only [RSl] at hsl;omega
  ·have hsl':=hsl;rw [hm] at hsl';obtain ⟨off,rfl,hlc,hoff⟩:=hsl';have hoff:=hoff (.inr (by omega));subst hoff;refine DidS.same hk (y0d hE hT k n _ len _ h0 h1 w) ?_;rw [q2e];simp only [RA,RS,RC,ho];refine ⟨Nat.le_refl _,fun _ _=>⟨by omega,g,bo,_,cap,v,hρ,hm,?_⟩⟩;rw [Nat.add_mul,Nat.add_zero,Nat.add_assoc]
 ·rename_i id off hc hT;rw [q0s hc] at ha;obtain ⟨n,hn,h⟩:=bind_some h;obtain ⟨hcond,hk⟩:=q0j h;simp only [Bool.and_eq_true,decide_eq_true_eq] at hcond;obtain ⟨⟨hb,h0⟩,h1⟩:=hcond;obtain ⟨k,rfl⟩:=hi.int hn;obtain ⟨cs,ho⟩:=q88 hb;simp only [RA,RS,RC,RB,ho] at ha;obtain ⟨b,hρ,rfl⟩:=ha;refine DidS.same hk (z0q hE k n _ h0 h1 w) ?_;rw [q2e,Nat.mul_one];simp only [RA,RS,RC,RB,ho];exact ⟨b,hρ,rfl⟩
 ·rename_i id ver sh j off hc hT;rw [q0s hc] at ha;obtain ⟨n,hn,h⟩:=bind_some h;obtain ⟨hcond,hk⟩:=q0j h;simp only [Bool.and_eq_true,decide_eq_true_eq] at hcond;obtain ⟨⟨hcur,h0⟩,h1⟩:=hcond;obtain ⟨k,rfl⟩:=hi.int hn;obtain ⟨e,fz,xs,ho⟩:=q54 hcur;simp only [RA,RS,RC,ho] at ha;obtain ⟨hi2,g,bo,n2,cap,v0,hρ,hmv,rfl⟩:=ha.2 (by simp) (by simp);refine DidS.same hk (z0q hE k n _ h0 h1 w) ?_;rw [q2e,Nat.mul_one];simp only [RA,RS,RC,ho];exact ⟨Nat.le_refl _,fun _ _=>⟨hi2,g,bo,n2,cap,v0,hρ,hmv,by rw [Nat.add_assoc]⟩⟩
 ·rename_i v sh off hc hT;rw [q0s hc] at ha;obtain ⟨n,hn,h⟩:=bind_some h;obtain ⟨hcond,hk⟩:=q0j h;simp only [Bool.and_eq_true,decide_eq_true_eq] at hcond;obtain ⟨h0,h1⟩:=hcond;obtain ⟨k,rfl⟩:=hi.int hn;obtain ⟨b,base,rfl,hIm,hshp,hcells⟩:=ha;refine DidS.same hk (z0q hE k n _ h0 h1 w) ?_;rw [q2e,Nat.mul_one];exact ⟨b,base,by rw [Nat.add_assoc],hIm,hshp,hcells⟩
 ·cases h
theorem y9m (hE:EnvOK P E) (hs:SR w Im ρ o) {T:TypeId} {a i:AV} {x y:Value} (ha:RA w Im ρ o a x) (hi:RA w Im ρ o i y) (h:opIndex E T a i o K=some r):DidS P w Im ρ o K r (Instr.index T x y):=by
 unfold opIndex at h;split at h
 ·rename_i v hc hT;obtain ⟨s,hv,h⟩:=bind_some h
  have:=RA.pv hc ha
  rw [y15 hv] at this;cases this;obtain ⟨n,hn,h⟩:=bind_some h;obtain ⟨m,hm,hk⟩:=bind_some h;obtain ⟨h0,hm⟩:=q0j hm;obtain ⟨b,hb,hm⟩:=bind_some hm;injection hm with hm
  subst hm;obtain ⟨k,rfl⟩:=hi.int hn;have h0:=of_decide_eq_true h0;have hlt:=(List.getElem?_eq_some_iff.1 hb).1;have hlt':n.toNat<s.size:=by simpa using hlt
  refine DidS.same hk ?_ (RP.int _ _);have hg:s[n.toNat]? = some b:=by
   rw [<- hb];simp [hlt'];rfl
  simp [Instr.index,asIntOf,run_underlying (hE.st T hT),h0,hg]
 ·cases h
theorem y4y (hE:EnvOK P E) (hs:SR w Im ρ o) {S T:TypeId} {a:AV} {x:Value} (ha:RA w Im ρ o a x) (h:opConvert E S T a o K=some r):DidS P w Im ρ o K r (convert S T x):=by
 unfold opConvert at h;split at h
 ·rename_i k' k hS hT;obtain ⟨n,hn,hk⟩:=bind_some h;obtain ⟨k0,rfl⟩:=ha.int hn;refine DidS.same hk ?_ (RP.int _ _);simp [convert,run_underlying (hE.ik S k' hS),run_underlying (hE.ik T k hT),Conv.intToInt]
 ·cases h
theorem y4z (hs:SR w Im ρ o) {i:Nat} {a:AV} {x:Value} (ha:RA w Im ρ o a x) (h:opExtract a i o K=some r):DidS P w Im ρ o K r (Instr.extract x i):=by
 unfold opExtract at h;split at h
 ·rename_i vs;obtain ⟨v,hv,hk⟩:=bind_some h;obtain ⟨us,rfl,hl,hh⟩:=ha;have hi:i<us.size:=by rw [hl];exact (List.getElem?_eq_some_iff.1 hv).1
  exact DidS.same hk (by simp [Instr.extract,hi]) (hh i v us[i] hv (by simp [hi]))
 ·cases h
theorem y9l (hE:EnvOK P E) (hs:SR w Im ρ o) {T:TypeId} {f:Nat} {a:AV} {x:Value} (ha:RA w Im ρ o a x) (h:opField E T a f o K=some r):DidS P w Im ρ o K r (Instr.field T x f):=by
 unfold opField at h;split at h
 ·rename_i off cs hfl;obtain ⟨fs,fd,i,hu,hf,ho,hi,hz,hn⟩:=hE.fl T f off 0 hfl;obtain ⟨d,hd,h1,h2⟩:=hn rfl;obtain ⟨c,hc,hk⟩:=bind_some h;obtain ⟨vs,rfl,hl,hr,_⟩:=ha;have hlt:off<vs.size:=by rw [hl];exact (List.getElem?_eq_some_iff.1 hc).1
  have hg:vs[off]? = some vs[off]:=by simp [hlt]
  refine DidS.same hk ?_ (hr off c _ hc hg);have hia:(isAgg fd.type).run P w=.ok false w:=by
   simp only [isAgg,Sem.run_bind,run_underlying hd,Result.andThen_ok];cases d <;> simp_all
  simp [Instr.field,run_underlying hu,hf,asAgg,part,hia,ho,hg]
 ·rename_i off ps hfl;obtain ⟨fs,fd,i,hu,hf,ho,hi,hz,hn⟩:=hE.fl T f off 0 hfl;obtain ⟨d,hd,h1,h2⟩:=hn rfl;obtain ⟨c,hc,hk⟩:=bind_some h;cases ha with
  | agg _ vs hl hone hr=>
   have hlt:off<vs.size:=by rw [hl];exact (List.getElem?_eq_some_iff.1 hc).1
   have hg:vs[off]? = some vs[off]:=by simp [hlt]
   refine DidS.same hk ?_ (hr off c _ hc hg);have hia:(isAgg fd.type).run P w=.ok false w:=by
    simp only [isAgg,Sem.run_bind,run_underlying hd,Result.andThen_ok];cases d <;> simp_all
   simp [Instr.field,run_underlying hu,hf,asAgg,part,hia,ho,hg]
 ·cases h
theorem x4r (hE:EnvOK P E) (hs:SR w Im ρ o) {T ty:TypeId} {a:AV} {x:Value} (ha:RA w Im ρ o a x) (h:opLen E T a o K=some r):DidS P w Im ρ o K r (Builtin.len_ #[T] ty #[x]):=by
 unfold opLen at h;split at h
 ·rename_i v hc;rw [q0s hc] at ha;split at h
  ·rename_i hT;obtain ⟨s,hv,h⟩:=bind_some h;rw [y15 hv] at ha;cases ha;exact DidS.same h (by simp [Builtin.len_,run_underlying (hE.st T hT),goInt]) (RP.int _ _)
  ·rename_i q _ hT;obtain ⟨⟨sh,f,xs⟩,hv,h⟩:=bind_some h;rw [q41 hv] at ha
   simp only at h ha
   obtain ⟨e,sh',by_⟩:=q;have hu:=(hE.sl T e sh' by_ hT).1;cases ha with
   | nil=>exact DidS.same h (by simp [Builtin.len_,run_underlying hu,goInt]) (RP.int _ _)
   | row _ _ _ a cap g hf hsp hcap hm h1 him hshp hcell hrp=>exact DidS.same h (by simp [Builtin.len_,run_underlying hu,goInt]) (RP.int _ _)
  ·cases h
 ·rename_i id ver sh lo len hc;rw [q0s hc] at ha;obtain ⟨hcond,hk⟩:=q0j h;simp only [Bool.and_eq_true] at hcond;obtain ⟨hT,hcur⟩:=hcond;obtain ⟨⟨e,sh',by_⟩,hT⟩:=Option.isSome_iff_exists.1 hT;have hu:=(hE.sl T e sh' by_ hT).1;obtain ⟨e',fz,xs,ho⟩:=q54 hcur;simp only [RA,RS,RC,ho] at ha;obtain ⟨hle,v,hρ,hsl⟩:=ha.2 (by simp) (by simp);have hx:∃ ad cap,x=.slice ad len cap:=by
   obtain ⟨vals,hown,_⟩:=hs.ob id _ _ ho hρ;rcases hown.2 with ⟨hm,_⟩ | ⟨g,bo,cap,cur,hm,_⟩
   ·rw [hm] at hsl;obtain ⟨_,rfl,rfl⟩:=hsl;exact ⟨_,_,rfl⟩
   ·rw [hm] at hsl;obtain ⟨off,rfl,_⟩:=hsl;exact ⟨_,_,rfl⟩
  obtain ⟨ad,cap,rfl⟩:=hx;exact DidS.same hk (by simp [Builtin.len_,run_underlying hu,goInt]) (RP.int _ _)
 ·cases h
theorem z1c {a:Option AV} {d:Int} {K:Int->R} {r:List SV × List (List CV)} {x:Option Value} (h:q44 a d K=some r) (ha:∀ v,a=some v->∃ y,x=some y /\ RA w Im ρ o v y) (hn:a=none->x=none) :
  (a=none /\ x=none /\ K d=some r)∨∃ k n,a.isSome=true /\ x=some (.int k n) /\ K n=some r:=by
 cases a with
 | none=>exact .inl ⟨rfl,hn rfl,h⟩
 | some v=>
  obtain ⟨n,hn',hk⟩:=bind_some h;obtain ⟨y,rfl,hy⟩:=ha v rfl;obtain ⟨k,rfl⟩:=hy.int hn';exact .inr ⟨k,n,rfl,rfl,hk⟩
theorem q36 (k:IntKind) (n:Int) (y:Nat) (code:BoundsCode) (h0:0<=n) (h1:n<=y) (w:World):(Instr.sliceBound (.int k n) y code).run P w=.ok n.toNat w:=by
 simp [Instr.sliceBound,asIntOf,h0,h1]
theorem y47 (isS:Bool) (len cap:Nat) (hlc:len<=cap) {lo hi:Option Value} {l h:Int} (hlo:(lo=none /\ l=0)∨∃ k,lo=some (.int k l)) (hhi:(hi=none /\ h=len)∨∃ k,hi=some (.int k h))
  (h0:0<=l) (h1:l<=h) (h2:h<=len) (w:World):(Instr.sliceBounds isS len cap lo hi none).run P w=.ok (l.toNat,h.toNat,cap) w:=by
 have e1:(h.toNat:Int)=h:=Int.toNat_of_nonneg (by omega);rcases hhi with ⟨rfl,rfl⟩ | ⟨k,rfl⟩ <;> rcases hlo with ⟨rfl,rfl⟩ | ⟨k',rfl⟩
 ·simp [Instr.sliceBounds]
 ·simp [Instr.sliceBounds,q36 k' l len _ h0 (by omega)]
 ·simp [Instr.sliceBounds,q36 k h cap _ (by omega) (by omega)]
 ·simp [Instr.sliceBounds,q36 k h cap _ (by omega) (by omega),q36 k' l h.toNat _ h0 (by omega)]
theorem x84 (hE:EnvOK P E) {T:TypeId} (hT:E.st T=true) (s:ByteArray) {lo hi:Option Value} {l h:Int} (hlo:(lo=none /\ l=0)∨∃ k,lo=some (.int k l)) (hhi:(hi=none /\ h=s.size)∨∃ k,hi=some (.int k h))
  (h0:0<=l) (h1:l<=h) (h2:h<=s.size) (w:World):(Instr.sliceAt T (.string s) lo hi none).run P w=.ok (.string (s.extract l.toNat h.toNat)) w:=by
 simp [Instr.sliceAt,Instr.slice,run_underlying (hE.st T hT),y47 false s.size s.size (Nat.le_refl _) hlo hhi h0 h1 h2]
theorem q9c (hE:EnvOK P E) {T:TypeId} {e sh by_:Nat} (hT:E.sl T=some (e,sh,by_)) (a:Option Addr) (len cap:Nat) (hlc:len<=cap) {lo hi:Option Value} {l h:Int} (hlo:(lo=none /\ l=0)∨∃ k,lo=some (.int k l)) (hhi:(hi=none /\ h=len)∨∃ k,hi=some (.int k h))
  (h0:0<=l) (h1:l<=h) (h2:h<=len) (w:World):(Instr.sliceAt T (.slice a len cap) lo hi none).run P w=.ok (.slice (if cap=l.toNat then a else a.map (·.add (l.toNat*csz sh))) (h.toNat-l.toNat) (cap-l.toNat)) w:=by
 obtain ⟨hu,⟨inf,z,hi',hz,_⟩,_⟩:=hE.sl T e sh by_ hT;simp [Instr.sliceAt,Instr.slice,run_underlying hu,y47 true len cap hlc hlo hhi h0 h1 h2,sizeOf,typeInfo,hi',hz]
theorem y0e (hE:EnvOK P E) {T:TypeId} {e sh by_:Nat} (hT:E.sl T=some (e,sh,by_)) (a:Option Addr) (len cap:Nat) {lo:Option Value} {kh km:IntKind} {l h:Int} (hlo:(lo=none /\ l=0)∨∃ k,lo=some (.int k l))
  (h0:0<=l) (h1:l<=h) (h2:h<=cap) (w:World):(Instr.sliceAt T (.slice a len cap) lo (some (.int kh h)) (some (.int km h))).run P w=.ok (.slice (if h.toNat=l.toNat then a else a.map (·.add (l.toNat*csz sh))) (h.toNat-l.toNat) (h.toNat-l.toNat)) w:=by
 obtain ⟨hu,⟨inf,z,hi',hz,_⟩,_⟩:=hE.sl T e sh by_ hT;have hb:(Instr.sliceBounds true len cap lo (some (.int kh h)) (some (.int km h))).run P w=.ok (l.toNat,h.toNat,h.toNat) w:=by
  have e1:(h.toNat:Int)=h:=Int.toNat_of_nonneg (by omega);rcases hlo with ⟨rfl,rfl⟩ | ⟨k',rfl⟩
  ·simp [Instr.sliceBounds,q36 km h cap _ (by omega) (by omega),q36 kh h h.toNat _ (by omega) (by omega)]
  ·simp [Instr.sliceBounds,q36 km h cap _ (by omega) (by omega),q36 kh h h.toNat _ (by omega) (by omega),q36 k' l h.toNat _ h0 (by omega)]
 simp [Instr.sliceAt,Instr.slice,run_underlying hu,hb,sizeOf,typeInfo,hi',hz]
theorem RP.cut {sh f f':Nat} {xs:List PV} {a:Addr} {cap l h c:Nat} (hr:RP w Im (.row sh f xs) (.slice (some a) xs.length cap)) (hl:l<=h) (hh:h<=xs.length) (hf':f'≠2) (hc:c=h-l∨f'≠1) (hc2:h-l<=c) (hc3:c<=cap) (A:Addr)
  (hA:A=a /\ h=l∨A=a.add (l*csz sh)):RP w Im (.row sh f' ((xs.take h).drop l)) (.slice (some A) (h-l) c):=by
 cases hr with
 | row _ _ _ _ _ g hf hsp hcap hm h1 him hshp hcell hrp=>
  have hlen:((xs.take h).drop l).length=h-l:=by simp;omega
  have get:∀ i x,((xs.take h).drop l)[i]? = some x->i<h-l /\ xs[l+i]? = some x:=by
   intro i x hx;have hi:i<h-l:=by have:=(List.getElem?_eq_some_iff.1 hx).1;rwa [hlen] at this
   rw [List.getElem?_drop,List.getElem?_take_of_lt (by omega)] at hx;exact ⟨hi,hx⟩
  have hAb:A.block=a.block /\ A.spot=none:=by
   rcases hA with ⟨rfl,_⟩ | rfl
   ·exact ⟨rfl,hsp⟩
   ·obtain ⟨b,off,sp⟩:=a
    simp only at hsp
    subst hsp;rw [q2e];exact ⟨rfl,rfl⟩
  have hoff:l<h->A.off=a.off+l*csz sh:=by
   intro hlt;rcases hA with ⟨rfl,he⟩ | rfl
   ·omega
   ·obtain ⟨b,off,sp⟩:=a
    simp only at hsp
    subst hsp;rw [q2e]
  have key:=RP.row (w:=w) (Im:=Im) sh f' ((xs.take h).drop l) A c (fun k=>g (l*csz sh+k)) hf' hAb.2 (by omega) (by omega) (fun e=>by rcases hc with hc | hc <;> omega)
   (fun hp=>by rw [hAb.1];exact him (by omega)) (fun i x hx=>hshp _ _ (get i x hx).2) ?_ ?_
  ·rwa [hlen] at key
  ·intro i x j c' hx hj;obtain ⟨hi,hx⟩:=get i x hx
   have:=hcell (l+i) x j c' hx hj
   rw [hAb.1,hoff (by omega)];rw [Nat.add_mul,Nat.add_assoc] at this;rw [Nat.add_assoc];exact this
  ·intro i x j c' hx hj;obtain ⟨hi,hx⟩:=get i x hx
   have:=hrp (l+i) x j c' hx hj
   rwa [Nat.add_mul,Nat.add_assoc] at this
theorem y9n (hE:EnvOK P E) (hs:SR w Im ρ o) {T:TypeId} {a:AV} {lo hi mx:Option AV} {x:Value} {xl xh xm:Option Value} (ha:RA w Im ρ o a x)
  (hl:∀ v,lo=some v->∃ y,xl=some y /\ RA w Im ρ o v y) (hln:lo=none->xl=none) (hh:∀ v,hi=some v->∃ y,xh=some y /\ RA w Im ρ o v y) (hhn:hi=none->xh=none)
  (hm:∀ v,mx=some v->∃ y,xm=some y /\ RA w Im ρ o v y) (hmn:mx=none->xm=none) (h:opSlice E T a lo hi mx o K=some r):DidS P w Im ρ o K r (Instr.sliceAt T x xl xh xm):=by
 have two:∀ {d:Int} {K':Int->Int->R},q44 lo 0 (fun l=>q44 hi d fun h=>K' l h)=some r->∃ l h,K' l h=some r /\ ((xl=none /\ l=0)∨∃ k,xl=some (.int k l)) /\ ((xh=none /\ h=d)∨∃ k,xh=some (.int k h)):=by
  intro d K' h;rcases z1c h hl hln with ⟨_,e1,h⟩ | ⟨k,l,_,e1,h⟩ <;> rcases z1c h hh hhn with ⟨_,e2,h⟩ | ⟨k',h',_,e2,h⟩
  ·exact ⟨_,_,h,.inl ⟨e1,rfl⟩,.inl ⟨e2,rfl⟩⟩
  ·exact ⟨_,_,h,.inl ⟨e1,rfl⟩,.inr ⟨_,e2⟩⟩
  ·exact ⟨_,_,h,.inr ⟨_,e1⟩,.inl ⟨e2,rfl⟩⟩
  ·exact ⟨_,_,h,.inr ⟨_,e1⟩,.inr ⟨_,e2⟩⟩
 have one:∀ {K':Int->R},q44 lo 0 K'=some r->∃ l,K' l=some r /\ ((xl=none /\ l=0)∨∃ k,xl=some (.int k l)):=by
  intro K' h;rcases z1c h hl hln with ⟨_,e1,h⟩ | ⟨k,l,_,e1,h⟩
  ·exact ⟨_,h,.inl ⟨e1,rfl⟩⟩
  ·exact ⟨_,h,.inr ⟨_,e1⟩⟩
 unfold opSlice at h;split at h
 ·rename_i v hc;obtain rfl:=hmn rfl;rw [q0s hc] at ha;split at h
  ·rename_i hT;obtain ⟨s,hv,h⟩:=bind_some h;rw [y15 hv] at ha;obtain ⟨l,h',hk,e1,e2⟩:=two h;unfold z4i at hk;obtain ⟨hcond,hk⟩:=q0j hk;simp only [Bool.and_eq_true,decide_eq_true_eq] at hcond;cases ha;exact DidS.same hk (x84 hE hT s e1 e2 hcond.1.1 hcond.1.2 hcond.2 w) (RP.str _)
  ·rename_i e sh' by_ _ hT;obtain ⟨⟨sh,f,xs⟩,hv,h⟩:=bind_some h;rw [q41 hv] at ha
   simp only at h ha
   obtain ⟨hsh,h⟩:=q0j h;obtain ⟨l,h',hk,e1,e2⟩:=two h;unfold z0s at hk;obtain ⟨hcond,hk⟩:=q0j hk;simp only [Bool.and_eq_true,decide_eq_true_eq] at hcond;obtain ⟨⟨h0,h1⟩,h2⟩:=hcond;cases ha with
   | nil=>
    simp at h2;have e2':(xh=none /\ h'=((0:Nat):Int))∨∃ k,xh=some (.int k h'):=by simpa using e2
    have hl0:l=0:=by omega
    have hh0:h'=0:=by omega
    subst hl0;subst hh0;refine DidS.same hk (q9c hE hT none 0 0 (Nat.le_refl _) e1 e2' (by omega) (by omega) (by simp) w) ?_
    show RP w Im _ _
    have hnf:(bif f==2 then 2 else 0)≠3:=by cases (f==2) <;> decide
    simpa using RP.nil sh _ hnf
   | row _ _ _ ad cap g hf hsp hcap hm' h1' him hshp hcell hrp=>
    have hr0:RP w Im (.row sh f xs) (.slice (some ad) xs.length cap):=.row sh f xs ad cap g hf hsp hcap hm' h1' him hshp hcell hrp;have hf2:(f==2)=false:=by simpa using hf
    simp only [hf2,Bool.or_false,beq_iff_eq] at hsh;subst hsh;refine DidS.same hk (q9c hE hT (some ad) xs.length cap hcap e1 e2 h0 h1 h2 w) ?_;simp only [hf2,cond_false];by_cases hcl:cap=l.toNat
    ·rw [if_pos hcl];exact hr0.cut (by omega) (by omega) (by decide) (.inr (by decide)) (by omega) (by omega) ad (.inl ⟨rfl,by omega⟩)
    ·rw [if_neg hcl];exact hr0.cut (by omega) (by omega) (by decide) (.inr (by decide)) (by omega) (by omega) _ (.inr rfl)
  ·cases h
 ·rename_i id ver sh l0 len hc;obtain rfl:=hmn rfl;rw [q0s hc] at ha;split at h
  ·rename_i e sh' by_ hT;obtain ⟨hcnd,h⟩:=q0j h;obtain ⟨l,h',hk,e1,e2⟩:=two h;unfold z4h at hk;obtain ⟨hcond,hk⟩:=q0j hk;simp only [Bool.and_eq_true,beq_iff_eq,decide_eq_true_eq] at hcond hcnd;obtain ⟨⟨h0,h1⟩,h2⟩:=hcond;obtain ⟨rfl,hcur⟩:=hcnd;obtain ⟨e',fz,xs,ho⟩:=q54 hcur;simp only [RA,RS,RC,ho] at ha;obtain ⟨hle,v,hρ,hsl⟩:=ha.2 (by simp) (by simp);obtain ⟨vals,hown,_⟩:=hs.ob id _ _ ho hρ;rcases hown.2 with ⟨hm,_⟩ | ⟨g,bo,cap,cu,hm,_,hh',hnc,hcm,hcs,_⟩ <;> rw [hm] at hsl
   ·obtain ⟨rfl,rfl,rfl⟩:=hsl;have hl0:l=0:=by omega
    have hh0:h'=0:=by omega
    subst hl0;subst hh0;refine DidS.same hk (q9c hE hT none 0 0 (Nat.le_refl _) e1 e2 (by omega) (by omega) (by simp) w) ?_;simp only [RA,RS,RC,ho];exact ⟨Nat.le_refl _,fun _ _=>⟨by simp,_,hρ,by rw [hm];simp [RSl]⟩⟩
   ·obtain ⟨off,rfl,hlc,hoff⟩:=hsl;refine DidS.same hk (q9c hE hT (some ⟨g,off,none⟩) len (cap-l0) (by omega) e1 e2 h0 h1 h2 w) ?_;simp only [RA,RS,RC,ho];refine ⟨Nat.le_refl _,fun _ _=>⟨by omega,_,hρ,?_⟩⟩;rw [hm];by_cases hcl:cap-l0=l.toNat
    ·rw [if_pos hcl];refine ⟨off,by congr 1;omega,by omega,?_⟩
     rintro (h3 | h3)
     ·have:l0=0:=by omega
      subst this
      have:=hoff (.inl rfl)
      rw [this,show l.toNat=0 by omega]
     ·omega
    ·rw [if_neg hcl];simp only [Option.map_some,q2e];refine ⟨off+l.toNat*csz sh,by congr 1;omega,by omega,fun _=>?_⟩;rw [hoff (.inr (by omega)),Nat.add_mul,Nat.add_assoc]
  ·cases h
 ·rename_i v m hc;rw [q0s hc] at ha;split at h
  ·rename_i h' e sh' by_ hT;obtain ⟨⟨sh,f,xs⟩,hv,h⟩:=bind_some h;rw [q41 hv] at ha
   simp only at h ha
   obtain ⟨hsh,h⟩:=q0j h;obtain ⟨l,h,e1⟩:=one h;obtain ⟨n,hn,h⟩:=bind_some h;obtain ⟨q,hq,h⟩:=bind_some h;obtain ⟨hmq,h⟩:=q0j h;simp at hmq;subst hmq;obtain ⟨y,rfl,hy⟩:=hh h' rfl;obtain ⟨kh,rfl⟩:=hy.int hn;obtain ⟨y,rfl,hy⟩:=hm m rfl;obtain ⟨km,rfl⟩:=hy.int hq;unfold z0s at h;obtain ⟨hcond,hk⟩:=q0j h;simp only [Bool.and_eq_true,decide_eq_true_eq] at hcond;obtain ⟨⟨h0,h1⟩,h2⟩:=hcond;cases ha with
   | nil=>
    simp at h2;refine DidS.same hk (y0e hE hT none 0 0 e1 (by omega) (by omega) (by simpa using h2) w) ?_;have e3:q.toNat=0:=by omega
    rw [e3]
    show RP w Im _ _
    have hnf:(bif f==2 then 2 else 1)≠3:=by cases (f==2) <;> decide
    simpa using RP.nil sh _ hnf
   | row _ _ _ ad cap g hf hsp hcap hm' h1' him hshp hcell hrp=>
    have hr0:RP w Im (.row sh f xs) (.slice (some ad) xs.length cap):=.row sh f xs ad cap g hf hsp hcap hm' h1' him hshp hcell hrp;have hf2:(f==2)=false:=by simpa using hf
    simp only [hf2,Bool.or_false,beq_iff_eq] at hsh;subst hsh;refine DidS.same hk (y0e hE hT (some ad) xs.length cap e1 h0 h1 (by omega) w) ?_;simp only [hf2,cond_false];split
    ·exact hr0.cut (by omega) (by omega) (by decide) (.inl rfl) (by omega) (by omega) ad (.inl ⟨rfl,by omega⟩)
    ·exact hr0.cut (by omega) (by omega) (by decide) (.inl rfl) (by omega) (by omega) _ (.inr rfl)
  ·cases h
 ·cases h
end
end Go.Dp
namespace Go.Dp
def KdC:Option Kd->Option Kd->Prop->Prop
 | _,none,_=>True
 | none,some _,_=>False
 | some k,some k',p=>k.nv<k'.nv∨(k=k' /\ p)
@[simp] theorem v5n (a:Option Kd):KdC a a True=True:=by cases a <;> simp [KdC]
theorem q6a (a:Option Kd) {p:Prop} (h:p):KdC a a p:=by cases a <;> simp [KdC,h]
theorem w2h {a b:Option Kd} {p:Prop} (h:b=none):KdC a b p:=by subst h;cases a <;> trivial
def q1f (v v':Option Value):AObj->AObj->Prop
 | .box _,.box _=>v'=v
 | .box _,.dead=>True
 | .arr e sh ver _ xs,.arr e' sh' ver' _ xs'=>ver<ver'∨(ver=ver' /\ sh=sh' /\ xs.length<=xs'.length /\ v'.map mainV=v.map mainV /\ KdC e.kd e'.kd (v'=v))
 | .arr ..,.dead=>True
 | .dead,.dead=>True
 | _,_=>False
def q1u (ρ ρ':Nat->Option Value) (o o':List AObj):Prop:=∀ id a,o[id]? = some a->∃ a',o'[id]? = some a' /\ q1f (ρ id) (ρ' id) a a'
section
variable {P:Program} {E:Env} {w w':World} {Im Im':Nat->Prop} {ρ ρ':Nat->Option Value} {o o':List AObj} {K:Kt} {r:List SV × List (List CV)}
theorem x15 {a b:Option Value} {v:Value} (h:b.map mainV=a.map mainV) (hv:a=some v):∃ v',b=some v' /\ mainV v'=mainV v:=by
 subst hv;cases b with
 | none=>simp at h
 | some v'=>exact ⟨v',rfl,by simpa using h⟩
theorem RB.compat (hc:q1u ρ ρ' o o') {id off:Nat} {x:Value} (h:RB ρ o id off x):RB ρ' o' id off x:=by
 unfold RB at h ⊢;split at h
 ·rename_i cs ho;obtain ⟨a',ha',hcc⟩:=hc id _ ho;obtain ⟨b,hb,hx⟩:=h;rw [ha'];cases a' <;> simp only [q1f] at hcc
  ·trivial
  ·exact ⟨b,hcc.trans hb,hx⟩
 ·rename_i a _ ho;obtain ⟨a',ha',hcc⟩:=hc id _ ho;rw [ha'];cases a <;> cases a' <;> simp_all [q1f]
 ·exact h.elim
theorem RC.compat (hi:∀ b,Im b->Im' b /\ w'.heap[b]? = w.heap[b]?) (hc:q1u ρ ρ' o o') {c:CV} {x:Value} (h:RC w Im ρ o c x):RC w' Im' ρ' o' c x:=by
 cases c with
 | undef=>trivial
 | p v=>exact RP.mono hi h
 | loc id ver sh lo len=>
  simp only [RC] at h ⊢;split at h
  ·rename_i e sh' ver' fz xs ho;obtain ⟨a',ha',hcc⟩:=hc id _ ho;simp only [ha'];cases a' with
   | dead=>trivial
   | box cs=>exact hcc.elim
   | arr e2 sh2 ver2 fz2 xs2=>
    rcases hcc with hlt | ⟨rfl,rfl,hlen,hρ,_⟩
    ·exact ⟨by omega,fun he=>by omega⟩
    ·refine ⟨h.1,fun he hs=>?_⟩;obtain ⟨hle,v,hv,hsl⟩:=h.2 he hs;obtain ⟨v',hv',hm⟩:=x15 hρ hv;exact ⟨by omega,v',hv',by rw [hm];exact hsl⟩
  ·rename_i a hno ho;obtain ⟨a',ha',hcc⟩:=hc id _ ho;simp only [ha'];cases a with
   | arr e1 s1 v1 f1 x1=>exact (hno e1 s1 v1 f1 x1 rfl).elim
   | _=>cases a' <;> simp_all [q1f]
  ·exact h.elim
 | bptr id off=>exact RB.compat hc h
 | aptr id ver sh i off=>
  simp only [RC] at h ⊢;split at h
  ·rename_i e sh' ver' fz xs ho;obtain ⟨a',ha',hcc⟩:=hc id _ ho;simp only [ha'];cases a' with
   | dead=>trivial
   | box cs=>exact hcc.elim
   | arr e2 sh2 ver2 fz2 xs2=>
    rcases hcc with hlt | ⟨rfl,rfl,hlen,hρ,_⟩
    ·exact ⟨by omega,fun he=>by omega⟩
    ·refine ⟨h.1,fun he hs=>?_⟩;obtain ⟨hle,g,bo,n,cap,v,hv,hvm,hx⟩:=h.2 he hs;obtain ⟨v',hv',hm⟩:=x15 hρ hv;exact ⟨by omega,g,bo,n,cap,v',hv',hm.trans hvm,hx⟩
  ·rename_i a hno ho;obtain ⟨a',ha',hcc⟩:=hc id _ ho;simp only [ha'];cases a with
   | arr e1 s1 v1 f1 x1=>exact (hno e1 s1 v1 f1 x1 rfl).elim
   | _=>cases a' <;> simp_all [q1f]
  ·exact h.elim
 | eptr v sh off=>
  obtain ⟨b,base,hx,hb,hs,hh⟩:=h;refine ⟨b,base,hx,(hi b hb).1,hs,fun j c hj=>?_⟩;obtain ⟨y,hy,hr⟩:=hh j c hj;exact ⟨y,(q8 (w:=w) (w':=w') (a:=⟨b,base+j,none⟩) (hi b hb).2).trans hy,RP.mono hi hr⟩
 | fn f caps=>
  obtain ⟨vs,hx,hl,hh⟩:=h;exact ⟨vs,hx,hl,fun i id hid=>let ⟨y,hy,hr⟩:=hh i id hid;⟨y,hy,RB.compat hc hr⟩⟩
 | cfn f us=>
  obtain ⟨vs,hx,hl,hh⟩:=h;refine ⟨vs,hx,hl,fun i u hu=>?_⟩;obtain ⟨b,base,h1,h2,h3,h4⟩:=hh i u hu;refine ⟨b,base,h1,(hi b h2).1,h3,fun j c hj=>?_⟩;obtain ⟨y,hy,hr⟩:=h4 j c hj;exact ⟨y,(q8 (w:=w) (w':=w') (a:=⟨b,base+j,none⟩) (hi b h2).2).trans hy,RP.mono hi hr⟩
 | own e sh xs=>exact h.elim
 | nel id ver nv i=>
  simp only [RC] at h ⊢;split at h
  ·rename_i e sh' ver' fz xs ho;obtain ⟨a',ha',hcc⟩:=hc id _ ho;simp only [ha'];cases a' with
   | dead=>trivial
   | box cs=>exact hcc.elim
   | arr e2 sh2 ver2 fz2 xs2=>
    rcases hcc with hlt | ⟨rfl,rfl,hlen,hρ,hk⟩
    ·exact ⟨by omega,fun he=>by omega⟩
    ·refine ⟨h.1,fun he k2 hk2=>?_⟩;rw [hk2] at hk;cases hk1:e.kd with
     | none=>rw [hk1] at hk;exact hk.elim
     | some k1=>
      obtain ⟨h1,h2⟩:=h.2 he k1 hk1;rw [hk1] at hk;rcases hk with hlt | ⟨rfl,hp⟩
      ·exact ⟨by omega,fun hh=>by omega⟩
      ·refine ⟨h1,fun hh hh2=>?_⟩;obtain ⟨h3,m,ks,h4,h5⟩:=h2 hh hh2;exact ⟨by omega,m,ks,hp.trans h4,h5⟩
  ·rename_i a hno ho;obtain ⟨a',ha',hcc⟩:=hc id _ ho;simp only [ha'];cases a with
   | arr e1 s1 v1 f1 x1=>exact (hno e1 s1 v1 f1 x1 rfl).elim
   | _=>cases a' <;> simp_all [q1f]
  ·exact h.elim
theorem Row1.keep (hi:∀ b,Im b->Im' b /\ w'.heap[b]? = w.heap[b]?) {e sh:Nat} {u:Value} {ys:List PV} (hb:∀ b,kidBlk u b->w'.heap[b]? = w.heap[b]?) (h:Row1 w Im e sh u ys):Row1 w' Im' e sh u ys:=by
 obtain ⟨vals,hown,h1,h2⟩:=h;refine ⟨vals,⟨hown.1,?_⟩,h1,fun i x j c y a1 a2 a3=>RP.mono hi (h2 i x j c y a1 a2 a3)⟩;rcases hown.2 with hn | ⟨g,bo,cap,cur,rfl,hb',hh,rest⟩
 · exact .inl hn
 · exact .inr ⟨g,bo,cap,cur,rfl,hb',(hb g rfl).trans hh,rest⟩
theorem RPk.keep (hi:∀ b,Im b->Im' b /\ w'.heap[b]? = w.heap[b]?) {e:Et} {j:Nat} {c:PV} {y:Value} (h:RPk w Im e j c y):RPk w' Im' e j c y:=by
 unfold RPk at h ⊢;split
 · rename_i he;rw [he] at h;exact RP.mono hi h
 · rename_i k he;rw [he] at h;exact fun hj=>RP.mono hi (h hj)
theorem KidsOK.keep (hi:∀ b,Im b->Im' b /\ w'.heap[b]? = w.heap[b]?) {k:Kd} {sh:Nat} {xs:List PV} {vals ks:List Value} (hb:∀ (i:Nat) (u:Value) (b:Nat),ks[i]? = some u->kidBlk u b->w'.heap[b]? = w.heap[b]?) (h:KidsOK w Im k sh xs vals ks):KidsOK w' Im' k sh xs vals ks:=by
 refine ⟨h.len,h.jlt,fun i x hx hh=>?_,h.out,h.inj,h.one⟩;obtain ⟨f,ys,u,h1,hf,h2,h3,h4⟩:=h.kid i x hx hh;exact ⟨f,ys,u,h1,hf,h2,h3,h4.keep hi fun b hbk=>hb i u b h2 hbk⟩
theorem q1e {v:Value} {ks:List Value} {i b:Nat} {u m:Value} (hv:v=.tuple (m::ks).toArray) (hi:ks[i]? = some u) (hb:kidBlk u b):Blk v b:=by
 subst hv;exact ⟨i+1,u,by simpa using hi,hb⟩
theorem RKids.keep (hi:∀ b,Im b->Im' b /\ w'.heap[b]? = w.heap[b]?) {e:Et} {sh:Nat} {fz:Bool} {xs:List PV} {vals:List Value} {v:Value} (hb:∀ b,Blk v b->w'.heap[b]? = w.heap[b]?) (h:RKids w Im e sh fz xs vals v):RKids w' Im' e sh fz xs vals v:=by
 unfold RKids at h ⊢;split
 ·rename_i he;rw [he] at h;exact h
 ·rename_i k he;rw [he] at h;obtain ⟨hf,ks,hv,hk,hd⟩:=h;exact ⟨hf,ks,hv,hk.keep hi fun i u b hu hbk=>hb b (q1e hv hu hbk),hd⟩
theorem q4g {base:Nat} {e s n:Nat} {v:Value} {xs:List Value} (hb:∀ b,kidBlk v b->w'.heap[b]? = w.heap[b]?) (h:w.ownsAt base e s v n xs):w'.ownsAt base e s v n xs:=by
 refine ⟨h.1,?_⟩;rcases h.2 with hn | ⟨g,bo,cap,cur,rfl,hb',hh,rest⟩
 · exact .inl hn
 · exact .inr ⟨g,bo,cap,cur,rfl,hb',(hb g rfl).trans hh,rest⟩
theorem RO.keep (hi:∀ b,Im b->Im' b /\ w'.heap[b]? = w.heap[b]?) (hc:q1u ρ ρ' o o') {v:Value} {x:AObj} (hb:∀ b,Blk v b->w'.heap[b]? = w.heap[b]?) (hn:∀ b,Blk v b->Im' b->Im b) (h:RO w Im ρ o v x):RO w' Im' ρ' o' v x:=by
 cases x with
 | dead=>trivial
 | box cs=>
  obtain ⟨b,vs,e,rfl,hh,hl,hr,h1,hni⟩:=h;exact ⟨b,vs,e,rfl,(hb b rfl).trans hh,hl,fun i c y hc' hy=>RC.compat hi hc (hr i c y hc' hy),h1,fun him=>hni (hn b rfl him)⟩
 | arr e sh ver fz xs=>
  obtain ⟨vals,hown,hs,hr,hz,hk⟩:=h;exact ⟨vals,q4g (fun b hbk=>hb b (q1g hbk)) hown,hs,fun i x j c y h1 h2 h3=>(hr i x j c y h1 h2 h3).keep hi,fun b hbk=>⟨fun hf him=>(hz b hbk).1 hf (hn b hbk him),fun hf=>(hi b ((hz b hbk).2 hf)).1⟩,hk.keep hi hb⟩
def upd (ρ:Nat->Option Value) (id:Nat) (v:Option Value):Nat->Option Value:=fun i=>if i=id then v else ρ i
theorem q0x {ρ:Nat->Option Value} {id:Nat} {v:Option Value}:upd ρ id v id=v:=by simp [upd]
theorem q0t {ρ:Nat->Option Value} {id i:Nat} {v:Option Value} (h:i≠id):upd ρ id v i=ρ i:=by simp [upd,h]
theorem y3z (hs:SR w Im ρ o) (v:Option Value) (x:AObj):q1u ρ (upd ρ o.length v) o (o++[x]):=by
 intro id a ha;have hlt:=(List.getElem?_eq_some_iff.1 ha).1;refine ⟨a,by rw [List.getElem?_append_left hlt];exact ha,?_⟩;rw [q0t (by omega)];cases a <;> simp [q1f]
theorem Step.new (hs:SR w Im ρ o) (hwd:Wd w w') (hh:∀ b,b<w.heap.size->w'.heap[b]? = w.heap[b]?) {v:Value} {x:AObj} (hx:x≠.dead) (hv:∀ b,Blk v b->w.heap.size<=b /\ b<w'.heap.size)
  (hro:RO w' Im (upd ρ o.length (some v)) (o++[x]) v x):Step w Im ρ o w' Im (upd ρ o.length (some v)) (o++[x]):=by
 have hc:=y3z hs (some v) x;have him:∀ b,Im b->Im b /\ w'.heap[b]? = w.heap[b]?:=fun b hb=>⟨hb,hh b (hs.im b hb)⟩
 have hn:ρ o.length=none:=by
  cases h:ρ o.length with
  | none=>rfl
  | some u=>have:=(hs.lt _ u h).1;omega
 have cs:∀ id u,upd ρ o.length (some v) id=some u->(id=o.length /\ u=v)∨(id≠o.length /\ ρ id=some u):=by
  intro id u h;by_cases e:id=o.length
  ·subst e;rw [q0x] at h;exact .inl ⟨rfl,by injection h with h;exact h.symm⟩
  ·rw [q0t e] at h;exact .inr ⟨e,h⟩
 refine ⟨hwd,⟨?_,?_,?_,fun b hb=>Nat.lt_of_lt_of_le (hs.im b hb) hwd.size,?_⟩,fun c y hy=>RC.compat him hc hy,fun b hb _=>hh b hb,?_,him,fun b hb=>.inl hb,?_,⟨by simp,fun id hl h0=>by rw [q0t (by omega)];exact h0⟩⟩
 ·intro id a u ha hu;rcases cs id u hu with ⟨rfl,rfl⟩ | ⟨hne,hu⟩
  ·have:a=x:=by simpa using ha.symm
   subst this;exact hro
  ·have hlt:=(hs.lt id u hu).1;rw [List.getElem?_append_left hlt] at ha;exact RO.keep him hc (fun b hb=>hh b ((hs.lt id u hu).2 b hb)) (fun b _ h=>h) (hs.ob id a u ha hu)
 ·intro id id' u u' b hu hu' hb hb';rcases cs id u hu with ⟨h1,h2⟩ | ⟨hne,h2⟩ <;> rcases cs id' u' hu' with ⟨h3,h4⟩ | ⟨hne',h4⟩
  ·exact h1.trans h3.symm
  ·rw [h2] at hb;have:=(hv b hb).1;have:=(hs.lt id' u' h4).2 b hb';omega
  ·rw [h4] at hb';have:=(hv b hb').1;have:=(hs.lt id u h2).2 b hb;omega
  ·exact hs.inj id id' u u' b h2 h4 hb hb'
 ·intro id u hu;rcases cs id u hu with ⟨rfl,rfl⟩ | ⟨hne,hu⟩
  ·exact ⟨by simp,fun b hb=>(hv b hb).2⟩
  ·have:=hs.lt id u hu
   exact ⟨by simp;omega,fun b hb=>Nat.lt_of_lt_of_le (this.2 b hb) hwd.size⟩
 ·intro id hd;by_cases e:id=o.length
  ·subst e;simp at hd;exact absurd hd hx
  ·rw [q0t e];have hlt:id<o.length:=by have:=(List.getElem?_eq_some_iff.1 hd).1;simp at this;omega
   rw [List.getElem?_append_left hlt] at hd;exact hs.dd id hd
 ·intro id u b hu hb;rcases cs id u hu with ⟨rfl,rfl⟩ | ⟨hne,hu⟩
  ·exact .inl (hv b hb).1
  ·exact .inr ⟨id,u,hu,hb⟩
 ·intro hm id a ha hd;by_cases e:id=o.length
  ·subst e;exact ⟨v,q0x⟩
  ·rw [q0t e];have hlt:id<o.length:=by have:=(List.getElem?_eq_some_iff.1 ha).1;simp at this;omega
   rw [List.getElem?_append_left hlt] at ha;exact hm id a ha hd
theorem Step.multi (hs:SR w Im ρ o) (hwd:Wd w w') (S:Nat->Prop) (hlen:o.length<=o'.length) (hsame:∀ id,¬ S id->id<o.length->o'[id]? = o[id]? /\ ρ' id=ρ id) (hnew:∀ id,o.length<=id->¬ S id->o'[id]? = none /\ ρ' id=none)
  (hc:q1u ρ ρ' o o') (hh:∀ b,b<w.heap.size->(∀ id v,S id->ρ id=some v->¬ Blk v b)->w'.heap[b]? = w.heap[b]?) (hni:∀ id v b,S id->ρ id=some v->Blk v b->¬ Im b)
  (hv:∀ id v b,S id->ρ' id=some v->Blk v b->(∃ id0 v0,S id0 /\ ρ id0=some v0 /\ Blk v0 b)∨w.heap.size<=b) (hv2:∀ id v,S id->ρ' id=some v->id<o'.length /\ ∀ b,Blk v b->b<w'.heap.size)
  (hinj:∀ id id' v v' b,S id->S id'->ρ' id=some v->ρ' id'=some v'->Blk v b->Blk v' b->id=id')
  (hro:∀ id x v,S id->o'[id]? = some x->ρ' id=some v->RO w' Im ρ' o' v x) (hdd:∀ id,S id->o'[id]? = some .dead->ρ' id=none)
  (hmp:∀ id x,S id->o'[id]? = some x->x≠.dead->∃ v,ρ' id=some v) (hgr:∀ id,S id->id<o.length->ρ id=none->ρ' id=none):Step w Im ρ o w' Im ρ' o':=by
 have hb:∀ b,b<w.heap.size->(∀ id v,S id->ρ id=some v->¬ Blk v b)->w'.heap[b]? = w.heap[b]?:=hh;have him:∀ b,Im b->Im b /\ w'.heap[b]? = w.heap[b]?:=fun b hI=>⟨hI,hb b (hs.im b hI) fun id v h1 h2 h3=>hni id v b h1 h2 h3 hI⟩
 have old:∀ id v,¬ S id->ρ' id=some v->id<o.length /\ o'[id]? = o[id]? /\ ρ id=some v:=by
  intro id v hS hv;rcases Nat.lt_or_ge id o.length with hl | hl
  ·obtain ⟨h1,h2⟩:=hsame id hS hl;exact ⟨hl,h1,h2 ▸ hv⟩
  ·have:=(hnew id hl hS).2;rw [hv] at this;cases this
 have oth:∀ id v b,¬ S id->ρ id=some v->Blk v b->w'.heap[b]? = w.heap[b]?:=fun id v b hS hv hbk=>hb b ((hs.lt id v hv).2 b hbk) fun id' v' h1 h2 h3=>hS ((hs.inj id id' v v' b hv h2 hbk h3) ▸ h1)
 refine ⟨hwd,⟨?_,?_,?_,fun b hb=>Nat.lt_of_lt_of_le (hs.im b hb) hwd.size,?_⟩,fun c y hy=>RC.compat him hc hy,fun b hb' hno=>hb b hb' fun id v _ h2=>hno id v h2,?_,him,fun b hb=>.inl hb,?_,⟨hlen,fun id hl h0=>?_⟩⟩
 ·intro id x v hx hv';by_cases hS:S id
  ·exact hro id x v hS hx hv'
  ·obtain ⟨hl,h1,h2⟩:=old id v hS hv';rw [h1] at hx;exact RO.keep him hc (fun b hbk=>oth id v b hS h2 hbk) (fun b _ h=>h) (hs.ob id x v hx h2)
 ·intro id id' v v' b h1 h2 h3 h4;by_cases hS:S id <;> by_cases hS':S id'
  ·exact hinj id id' v v' b hS hS' h1 h2 h3 h4
  ·obtain ⟨hl,_,h5⟩:=old id' v' hS' h2;rcases hv id v b hS h1 h3 with ⟨id0,v0,h6,h7,h8⟩ | h6
   ·exact absurd (hs.inj id0 id' v0 v' b h7 h5 h8 h4 ▸ h6) hS'
   ·have:=(hs.lt id' v' h5).2 b h4;omega
  ·obtain ⟨hl,_,h5⟩:=old id v hS h1;rcases hv id' v' b hS' h2 h4 with ⟨id0,v0,h6,h7,h8⟩ | h6
   ·exact absurd (hs.inj id0 id v0 v b h7 h5 h8 h3 ▸ h6) hS
   ·have:=(hs.lt id v h5).2 b h3;omega
  ·exact hs.inj id id' v v' b (old id v hS h1).2.2 (old id' v' hS' h2).2.2 h3 h4
 ·intro id v hv';by_cases hS:S id
  ·exact hv2 id v hS hv'
  ·obtain ⟨hl,_,h5⟩:=old id v hS hv';exact ⟨by omega,fun b hbk=>Nat.lt_of_lt_of_le ((hs.lt id v h5).2 b hbk) hwd.size⟩
 ·intro id hd;by_cases hS:S id
  ·exact hdd id hS hd
  ·rcases Nat.lt_or_ge id o.length with hl | hl
   ·obtain ⟨h1,h2⟩:=hsame id hS hl;rw [h2];rw [h1] at hd;exact hs.dd id hd
   ·exact (hnew id hl hS).2
 ·intro id v b h1 h2;by_cases hS:S id
  ·rcases hv id v b hS h1 h2 with ⟨id0,v0,h6,h7,h8⟩ | h6
   ·exact .inr ⟨id0,v0,h7,h8⟩
   ·exact .inl h6
  ·exact .inr ⟨id,v,(old id v hS h1).2.2,h2⟩
 ·intro hm id x hx hd;by_cases hS:S id
  ·exact hmp id x hS hx hd
  ·rcases Nat.lt_or_ge id o.length with hl | hl
   ·obtain ⟨h1,h2⟩:=hsame id hS hl;rw [h2];rw [h1] at hx;exact hm id x hx hd
   ·have:=(hnew id hl hS).1;rw [hx] at this;cases this
 ·by_cases hS:S id
  ·exact hgr id hS hl h0
  ·rw [(hsame id hS hl).2];exact h0
theorem Step.turn (hs:SR w Im ρ o) (hwd:Wd w w') {id:Nat} {x x':AObj} {v v':Value} (hx:o[id]? = some x) (hρ:ρ id=some v) (hd:x'≠.dead) (hco:q1f (some v) (some v') x x')
  (hh:∀ b,b<w.heap.size->¬ Blk v b->w'.heap[b]? = w.heap[b]?) (hni:∀ b,Blk v b->¬ Im b) (hv:∀ b,Blk v' b->Blk v b∨(w.heap.size<=b)) (hv2:∀ b,Blk v' b->b<w'.heap.size)
  (hro:RO w' Im (upd ρ id (some v')) (o.set id x') v' x'):Step w Im ρ o w' Im (upd ρ id (some v')) (o.set id x'):=by
 have hlt:=(hs.lt id v hρ).1;have hc:q1u ρ (upd ρ id (some v')) o (o.set id x'):=by
  intro i a ha;by_cases e:i=id
  ·subst e;rw [hx] at ha;injection ha with ha
   subst ha;exact ⟨x',by simp [hlt],by rw [q0x,hρ];exact hco⟩
  ·refine ⟨a,by rw [List.getElem?_set_ne (Ne.symm e)];exact ha,?_⟩;rw [q0t e];cases a <;> simp [q1f]
 have him:∀ b,Im b->Im b /\ w'.heap[b]? = w.heap[b]?:=fun b hb=>⟨hb,hh b (hs.im b hb) fun e=>hni b e hb⟩
 have cs:∀ i u,upd ρ id (some v') i=some u->(i=id /\ u=v')∨(i≠id /\ ρ i=some u):=by
  intro i u h;by_cases e:i=id
  ·subst e;rw [q0x] at h;exact .inl ⟨rfl,by injection h with h;exact h.symm⟩
  ·rw [q0t e] at h;exact .inr ⟨e,h⟩
 have oth:∀ i u b,i≠id->ρ i=some u->Blk u b->w'.heap[b]? = w.heap[b]?:=fun i u b hne hu hb=>hh b ((hs.lt i u hu).2 b hb) fun e=>hne (hs.inj i id u v b hu hρ hb e)
 refine ⟨hwd,⟨?_,?_,?_,fun b hb=>Nat.lt_of_lt_of_le (hs.im b hb) hwd.size,?_⟩,fun c y hy=>RC.compat him hc hy,fun b hb hno=>hh b hb (hno id v hρ),?_,him,fun b hb=>.inl hb,?_,⟨by simp,fun i hl h0=>by rw [q0t (by rintro rfl;rw [hρ] at h0;cases h0)];exact h0⟩⟩
 ·intro i a u ha hu;rcases cs i u hu with ⟨rfl,rfl⟩ | ⟨hne,hu⟩
  ·have:a=x':=by simpa [hlt] using ha.symm
   subst this;exact hro
  ·rw [List.getElem?_set_ne (Ne.symm hne)] at ha;exact RO.keep him hc (fun b hb=>oth i u b hne hu hb) (fun b _ h=>h) (hs.ob i a u ha hu)
 ·intro i i' u u' b hu hu' hb hb';rcases cs i u hu with ⟨h1,h2⟩ | ⟨hne,h2⟩ <;> rcases cs i' u' hu' with ⟨h3,h4⟩ | ⟨hne',h4⟩
  ·exact h1.trans h3.symm
  ·rw [h2] at hb;rcases hv b hb with h5 | h5
   ·exact absurd (hs.inj i' id u' v b h4 hρ hb' h5) hne'
   ·have:=(hs.lt i' u' h4).2 b hb';omega
  ·rw [h4] at hb';rcases hv b hb' with h5 | h5
   ·exact absurd (hs.inj i id u v b h2 hρ hb h5) hne
   ·have:=(hs.lt i u h2).2 b hb;omega
  ·exact hs.inj i i' u u' b h2 h4 hb hb'
 ·intro i u hu;rcases cs i u hu with ⟨rfl,rfl⟩ | ⟨hne,hu⟩
  ·exact ⟨by simpa using hlt,fun b hb=>hv2 b hb⟩
  ·have:=hs.lt i u hu
   exact ⟨by simpa using this.1,fun b hb=>Nat.lt_of_lt_of_le (this.2 b hb) hwd.size⟩
 ·intro i hdd;by_cases e:i=id
  ·subst e;simp [hlt] at hdd;exact absurd hdd hd
  ·rw [q0t e];rw [List.getElem?_set_ne (Ne.symm e)] at hdd;exact hs.dd i hdd
 ·intro i u b hu hb;rcases cs i u hu with ⟨rfl,rfl⟩ | ⟨hne,hu⟩
  ·rcases hv b hb with h1 | h1
   ·exact .inr ⟨i,v,hρ,h1⟩
   ·exact .inl h1
  ·exact .inr ⟨i,u,hu,hb⟩
 ·intro hm i a ha hdd;by_cases e:i=id
  ·subst e;exact ⟨v',q0x⟩
  ·rw [q0t e];rw [List.getElem?_set_ne (Ne.symm e)] at ha;exact hm i a ha hdd
end
end Go.Dp
namespace Go.Dp
section
variable {P:Program} {E:Env} {w w':World} {Im Im':Nat->Prop} {ρ ρ':Nat->Option Value} {o o':List AObj} {K:Kt} {r:List SV × List (List CV)}
theorem q4t {i j s n:Nat} (hi:i<n) (hj:j<s):i*s+j<n*s:=by
 have:(i+1)*s<=n*s:=Nat.mul_le_mul_right _ hi
 rw [Nat.add_mul] at this;omega
theorem Row1.rp {Im2:Nat->Prop} {e sh:Nat} {u:Value} {ys:List PV} (h:Row1 w Im e sh u ys) (hi:∀ b,Im b->Im2 b) (hb:∀ b,kidBlk u b->Im2 b):RP w Im2 (.row sh 0 ys) u:=by
 obtain ⟨vals,hown,hshp,hrp⟩:=h;have hm:∀ b,Im b->Im2 b /\ w.heap[b]? = w.heap[b]?:=fun b h=>⟨hi b h,rfl⟩
 rcases hown.2 with ⟨rfl,hn⟩ | ⟨g,bo,cap,cu,rfl,_,hh,hnc,hcm,hcs,htk⟩
 ·rw [List.eq_nil_of_length_eq_zero hn];exact RP.nil sh 0 (by decide)
 ·have hjl:∀ (i:Nat) (x:PV) (j:Nat) (c:PV),ys[i]? = some x->x.cells[j]? = some c->vals[i*csz sh+j]? = some vals[i*csz sh+j]!:=by
   intro i x j c hx hj;have h1:j<csz sh:=by rw [<- PV.shp_len (hshp x (List.mem_of_getElem? hx))];exact (List.getElem?_eq_some_iff.1 hj).1
   have h2:=q4t (List.getElem?_eq_some_iff.1 hx).1 h1;rw [<- hown.1] at h2;simp [h2]
  refine RP.row (w:=w) (Im:=Im2) sh 0 ys ⟨g,bo,none⟩ cap (fun k=>vals[k]!) (by decide) rfl hnc hcm (fun h=>by omega) (fun _=>hb g rfl) (fun i x hx=>hshp x (List.mem_of_getElem? hx)) ?_ ?_
  ·intro i x j c hx hj
   have:=hown.cells (g:=g) (bo:=bo) rfl (i*csz sh+j) _ (hjl i x j c hx hj)
   rw [q2e] at this;simpa using this
  ·intro i x j c hx hj;exact RP.mono hm (hrp i x j c _ hx hj (hjl i x j c hx hj))
theorem Step.freeze (hs:SR w Im ρ o) {id sh ver:Nat} {e:Et} {fz:Bool} {xs:List PV} (ho:o[id]? = some (.arr e sh ver fz xs)) (hhole:∀ k,e.kd=some k->k.hole=none):∃ Im',Step w Im ρ o w Im' ρ (o.set id (.arr e.t sh ver true xs)) /\ ∀ v b,ρ id=some v->Blk v b->Im' b:=by
 have hlt:=(List.getElem?_eq_some_iff.1 ho).1
 let Im':Nat->Prop:=fun b=>Im b∨∃ v,ρ id=some v /\ Blk v b
 have him:∀ b,Im b->Im' b /\ w.heap[b]? = w.heap[b]?:=fun b hb=>⟨.inl hb,rfl⟩
 have hc:q1u ρ ρ o (o.set id (.arr e.t sh ver true xs)):=by
  intro i a ha;by_cases e1:i=id
  ·subst e1;rw [ho] at ha;injection ha with ha
   subst ha;exact ⟨.arr e.t sh ver true xs,by simp [hlt],Or.inr ⟨rfl,rfl,Nat.le_refl _,rfl,w2h rfl⟩⟩
  ·exact ⟨a,by rw [List.getElem?_set_ne (Ne.symm e1)];exact ha,by cases a <;> simp [q1f]⟩
 refine ⟨Im',⟨Wd.refl w,⟨?_,hs.inj,fun i v hv=>⟨by simpa using (hs.lt i v hv).1,(hs.lt i v hv).2⟩,?_,?_⟩,fun c y hy=>RC.compat him hc hy,fun _ _ _=>rfl,fun i v b hv hb=>.inr ⟨i,v,hv,hb⟩,him,?_,?_,⟨by simp,fun _ _ h=>h⟩⟩,fun v b hv hb=>.inr ⟨v,hv,hb⟩⟩
 ·intro i a v ha hv;by_cases e1:i=id
  ·subst e1
   have:a=.arr e.t sh ver true xs:=by simpa [hlt] using ha.symm
   subst this;obtain ⟨vals,hown,h1,h2,h3,h4⟩:=hs.ob i _ _ ho hv;refine ⟨vals,hown,h1,fun p x j c y a1 a2 a3=>?_,fun b hb=>And.intro (fun (hf:true=false)=>nomatch hf) (fun _=>Or.inr ⟨v,hv,hb⟩),fun h=>nomatch h⟩
   show RP w Im' c y
   have h5:=h2 p x j c y a1 a2 a3;unfold RPk at h5;split at h5
   ·exact RP.mono him h5
   ·rename_i k hk;by_cases hj:j=k.j
    ·subst hj;simp only [RKids,hk] at h4;obtain ⟨_,ks,hvk,hks,_⟩:=h4;obtain ⟨f,ys,u,b1,b2,b3,b4,b5⟩:=hks.kid p x a1 (by rw [hhole k hk];simp);rw [a2] at b1;rw [a3] at b4;injection b1 with b1
     injection b4 with b4
     subst b1;subst b4;have h6:=b5.rp (Im2:=Im') (fun b hb=>.inl hb) (fun b hb=>.inr ⟨v,hv,q1e hvk b3 hb⟩);rcases b2 with rfl | ⟨rfl,rfl⟩
     ·exact h6
     ·cases h6;exact RP.nil _ _ (by decide)
    ·exact RP.mono him (h5 hj)
  ·rw [List.getElem?_set_ne (Ne.symm e1)] at ha;refine RO.keep him hc (fun _ _=>rfl) (fun b hb hI=>?_) (hs.ob i a v ha hv);rcases hI with h | ⟨u,hu,hub⟩
   ·exact h
   ·exact absurd (hs.inj i id v u b hv hu hb hub) e1
 ·intro b hb;rcases hb with h | ⟨u,hu,hub⟩
  ·exact hs.im b h
  ·exact (hs.lt id u hu).2 b hub
 ·intro i hd;by_cases e1:i=id
  ·subst e1;simp [hlt] at hd
  ·rw [List.getElem?_set_ne (Ne.symm e1)] at hd;exact hs.dd i hd
 ·intro b hb;rcases hb with h | ⟨u,hu,hub⟩
  ·exact .inl h
  ·exact .inr (.inr ⟨id,u,hu,hub⟩)
 ·intro hm i a ha hd;by_cases e1:i=id
  ·subst e1;exact hm i _ ho (by simp)
  ·rw [List.getElem?_set_ne (Ne.symm e1)] at ha;exact hm i a ha hd
theorem z4o {Im2:Nat->Prop} (hs:SR w Im ρ o) (hi:∀ b,Im b->Im2 b) {id ver sh lo len:Nat} {y:Value} {v:PV} (hy:RC w Im ρ o (.loc id ver sh lo len) y) (hv:viewLoc o id ver sh lo len=some v)
  (hb:∀ u b,ρ id=some u->Blk u b->Im2 b):RP w Im2 v y:=by
 unfold viewLoc at hv;split at hv
 ·rename_i e sh' ver' fz xs ho;obtain ⟨hcnd,hv'⟩:=q0j hv;simp only [Bool.and_eq_true,beq_iff_eq,Option.isNone_iff_eq_none] at hcnd;obtain ⟨⟨rfl,rfl⟩,hkd⟩:=hcnd;injection hv' with hv'
  subst hv';simp only [RC,ho] at hy;obtain ⟨hle,u,hρ,hsl⟩:=hy.2 trivial trivial;obtain ⟨vals,hown,hshp,hrp,_⟩:=hs.ob id _ _ ho hρ;simp only [RPk,hkd] at hrp;have hm:∀ b,Im b->Im2 b /\ w.heap[b]? = w.heap[b]?:=fun b h=>⟨hi b h,rfl⟩
  have hlen:((xs.drop lo).take len).length=len:=by simp;omega
  rcases hown.2 with ⟨hmu,_⟩ | ⟨g,bo,cap,cu,hmu,_,hh,hnc,hcm,hcs,htk⟩ <;> rw [hmu] at hsl
  ·obtain ⟨rfl,rfl,rfl⟩:=hsl;simpa using RP.nil sh 0 (by decide)
  ·obtain ⟨off,rfl,hlc,hoff⟩:=hsl;have get:∀ i x,((xs.drop lo).take len)[i]? = some x->i<len /\ xs[lo+i]? = some x:=by
    intro i x hx;have h1:i<len:=by have:=(List.getElem?_eq_some_iff.1 hx).1;rwa [hlen] at this
    rw [List.getElem?_take_of_lt h1,List.getElem?_drop] at hx;exact ⟨h1,hx⟩
   have key:=RP.row (w:=w) (Im:=Im2) sh 0 ((xs.drop lo).take len) ⟨g,off,none⟩ (cap-lo) (fun k=>(vals[lo*csz sh+k]?).getD undef) (by decide) rfl (by omega) (by omega) (fun h=>by omega)
    (fun _=>hb _ g hρ (q1g (by rw [hmu];rfl))) (fun i x hx=>hshp x (List.mem_of_getElem? (get i x hx).2)) ?_ ?_
   ·rwa [hlen] at key
   all_goals
    intro i x j c hx hj;obtain ⟨h1,hx⟩:=get i x hx;have hjl:j<csz sh:=by rw [<- PV.shp_len (hshp x (List.mem_of_getElem? hx))];exact (List.getElem?_eq_some_iff.1 hj).1
    have hvl:(lo+i)*csz sh+j<vals.length:=by
     rw [hown.1];have h1:(lo+i+1)*csz sh<=xs.length*csz sh:=Nat.mul_le_mul_right _ (by have:=(List.getElem?_eq_some_iff.1 hx).1;omega);rw [Nat.add_mul (lo+i)] at h1;omega
    have e1:(lo+i)*csz sh+j=lo*csz sh+(i*csz sh+j):=by rw [Nat.add_mul,Nat.add_assoc]
    rw [e1] at hvl;have e2:vals[lo*csz sh+(i*csz sh+j)]? = some vals[lo*csz sh+(i*csz sh+j)]:=by simp [hvl]
   ·have:=hown.cells (g:=g) (bo:=bo) hmu (lo*csz sh+(i*csz sh+j)) _ e2
    rw [q2e,<- Nat.add_assoc] at this;rw [hoff (.inr (by omega))];simp only [e2,Option.getD_some];exact this
   ·simp only [e2,Option.getD_some];exact RP.mono hm (hrp (lo+i) x j c _ hx hj (by rw [e1];exact e2))
 ·cases hv
theorem w0m {v:Value} (h:v.oneCell'=true):v.cells=#[v]:=by cases v <;> first | rfl | (simp [Value.oneCell'] at h)
theorem y6p {Im2:Nat->Prop} (hs:SR w Im ρ o) (hi:∀ b,Im b->Im2 b) {id ver sh lo len:Nat} {y:Value} {v:PV} (hy:RC w Im ρ o (.loc id ver sh lo len) y) (hv:viewNest o id ver sh lo len=some v)
  (hb:∀ u b,ρ id=some u->Blk u b->Im2 b):RP w Im2 v y:=by
 unfold viewNest at hv;split at hv
 ·rename_i e sh' ver' fz xs ho;split at hv
  ·rename_i k hk;obtain ⟨hcnd,hv'⟩:=q0j hv;simp only [Bool.and_eq_true,Bool.or_eq_true,Option.isNone_iff_eq_none,beq_iff_eq] at hcnd;obtain ⟨⟨rfl,rfl⟩,hj0⟩:=hcnd;injection hv' with hv'
   simp only [RC,ho] at hy;obtain ⟨hle,u,hρ,hsl⟩:=hy.2 trivial trivial;obtain ⟨vals,hown,hshp,hrp,hbk,hkids⟩:=hs.ob id _ _ ho hρ;simp only [RKids,hk] at hkids;obtain ⟨_,ks,hvk,hks,_⟩:=hkids;obtain ⟨xs',hxs'⟩:∃ l,l=outOf k xs:=⟨_,rfl⟩;rw [<- hxs'] at hv';subst hv';have hm:∀ b,Im b->Im2 b /\ w.heap[b]? = w.heap[b]?:=fun b h=>⟨hi b h,rfl⟩
   have hxl:xs'.length=xs.length:=by rw [hxs',outOf];split <;> simp
   have old:∀ (p:Nat) (x:PV),xs'[p]? = some x->k.hole≠some p->xs[p]? = some x:=by
    intro p x hx hh;rw [hxs',outOf] at hx;split at hx
    ·exact hx
    ·rename_i i hhi
     rwa [List.getElem?_set_ne (by rintro rfl;exact hh hhi)] at hx
   have out:∀ (p:Nat) (x:PV),xs'[p]? = some x->k.hole=some p->x=.junk /\ sh=0 /\ k.j=0:=by
    intro p x hx hh;have hp:p<xs.length:=by rw [<- hxl];exact (List.getElem?_eq_some_iff.1 hx).1
    rw [hxs',outOf,hh] at hx
    simp only at hx
    rw [List.getElem?_set_self hp] at hx;injection hx with hx
    rcases hj0 with h | h
    ·rw [h] at hh;cases hh
    ·exact ⟨hx.symm,h⟩
   have shp':∀ (p:Nat) (x:PV),xs'[p]? = some x->x.shp sh=true:=by
    intro p x hx;by_cases hh:k.hole=some p
    ·obtain ⟨rfl,rfl,_⟩:=out p x hx hh;rfl
    ·exact hshp x (List.mem_of_getElem? (old p x hx hh))
   have el:∀ (p:Nat) (x:PV) (j:Nat) (c:PV),xs'[p]? = some x->x.cells[j]? = some c->∃ z,vals[p*csz sh+j]? = some z /\ RP w Im2 c z:=by
    intro p x j c hx hj;have hp:p<xs.length:=by rw [<- hxl];exact (List.getElem?_eq_some_iff.1 hx).1
    have hjl:j<csz sh:=by rw [<- PV.shp_len (shp' p x hx)];exact (List.getElem?_eq_some_iff.1 hj).1
    have hvl:p*csz sh+j<vals.length:=by rw [hown.1];exact q4t hp hjl
    have hz:vals[p*csz sh+j]? = some vals[p*csz sh+j]:=by simp [hvl]
    by_cases hh:k.hole=some p
    ·obtain ⟨rfl,rfl,_⟩:=out p x hx hh;have hc:c=.junk:=by
      cases j with
      | zero=>simp [PV.cells] at hj;exact hj.symm
      | succ j=>simp [PV.cells] at hj
     subst hc;exact ⟨_,hz,.junk _ (hks.one _ _ hz) (w0m (hks.one _ _ hz))⟩
    ·have hx0:=old p x hx hh;by_cases hjk:j=k.j
     ·subst hjk;obtain ⟨f,ys,q,b1,b2,b3,b4,b5⟩:=hks.kid p x hx0 hh;rw [hj] at b1;injection b1 with b1
      subst b1;refine ⟨q,b4,?_⟩;have h6:=b5.rp (Im2:=Im2) hi (fun b hq=>hb u b hρ (q1e hvk b3 hq));rcases b2 with rfl | ⟨rfl,rfl⟩
      ·exact h6
      ·cases h6;exact RP.nil _ _ (by decide)
     ·have h5:=hrp p x j c _ hx0 hj hz;unfold RPk at h5;rw [hk] at h5;exact ⟨_,hz,RP.mono hm (h5 hjk)⟩
   have hlen:((xs'.drop lo).take len).length=len:=by simp;omega
   rcases hown.2 with ⟨hmu,_⟩ | ⟨g,bo,cap,cu,hmu,_,hh,hnc,hcm,hcs,htk⟩ <;> rw [hmu] at hsl
   ·obtain ⟨rfl,rfl,rfl⟩:=hsl;simpa using RP.nil sh 0 (by decide)
   ·obtain ⟨off,rfl,hlc,hoff⟩:=hsl;have get:∀ i x,((xs'.drop lo).take len)[i]? = some x->i<len /\ xs'[lo+i]? = some x:=by
     intro i x hx;have h1:i<len:=by have:=(List.getElem?_eq_some_iff.1 hx).1;rwa [hlen] at this
     rw [List.getElem?_take_of_lt h1,List.getElem?_drop] at hx;exact ⟨h1,hx⟩
    have key:=RP.row (w:=w) (Im:=Im2) sh 0 ((xs'.drop lo).take len) ⟨g,off,none⟩ (cap-lo) (fun k=>(vals[lo*csz sh+k]?).getD undef) (by decide) rfl (by omega) (by omega) (fun h=>by omega)
     (fun _=>hb _ g hρ (q1g (by rw [hmu];rfl))) (fun i x hx=>shp' _ x (get i x hx).2) ?_ ?_
    ·rwa [hlen] at key
    all_goals
     intro i x j c hx hj;obtain ⟨h1,hx⟩:=get i x hx;obtain ⟨z,hz,hr⟩:=el _ x j c hx hj;have e1:(lo+i)*csz sh+j=lo*csz sh+(i*csz sh+j):=by rw [Nat.add_mul,Nat.add_assoc]
     rw [e1] at hz
    ·have:=hown.cells (g:=g) (bo:=bo) hmu (lo*csz sh+(i*csz sh+j)) z hz
     rw [q2e,<- Nat.add_assoc] at this;rw [hoff (.inr (by omega)),hz];exact this
    ·rw [hz];exact hr
  ·cases hv
 ·cases hv
theorem y0n {Im2:Nat->Prop} (hs:SR w Im ρ o) (hi:∀ b,Im b->Im2 b) {id ver sh lo len:Nat} {y:Value} {v:PV} (hy:RC w Im ρ o (.loc id ver sh lo len) y) (hv:viewL o id ver sh lo len=some v)
  (hb:∀ u b,ρ id=some u->Blk u b->Im2 b):RP w Im2 v y:=by
 unfold viewL at hv;split at hv
 ·rename_i u hu;injection hv with hv
  subst hv;exact z4o hs hi hy hu hb
 ·exact y6p hs hi hy hv hb
theorem y83 {id ver sh lo len:Nat} {v:PV} (hv:viewL o id ver sh lo len=some v):∃ e fz xs,o[id]? = some (.arr e sh ver fz xs):=by
 unfold viewL at hv;split at hv
 ·rename_i u hu;unfold viewLoc at hu;split at hu
  ·rename_i e sh' ver' fz xs ho;obtain ⟨hcnd,_⟩:=q0j hu;simp only [Bool.and_eq_true,beq_iff_eq] at hcnd;obtain ⟨⟨rfl,rfl⟩,_⟩:=hcnd;exact ⟨e,fz,xs,ho⟩
  ·cases hu
 ·unfold viewNest at hv;split at hv
  ·rename_i e sh' ver' fz xs ho;split at hv
   ·obtain ⟨hcnd,_⟩:=q0j hv;simp only [Bool.and_eq_true,beq_iff_eq] at hcnd;obtain ⟨⟨rfl,rfl⟩,_⟩:=hcnd;exact ⟨e,fz,xs,ho⟩
   ·cases hv
  ·cases hv
theorem q8j (hs:SR w Im ρ o) (id:Nat):∃ Im',Step w Im ρ o w Im' ρ (freezeO o id) /\ ∀ e sh ver fz xs,(freezeO o id)[id]? = some (.arr e sh ver fz xs)->e.kd=none->∀ v b,ρ id=some v->Blk v b->Im' b:=by
 unfold freezeO;split
 ·rename_i e sh ver fz xs ho;have hlt:=(List.getElem?_eq_some_iff.1 ho).1;have main:∀ (hh:∀ k,e.kd=some k->k.hole=none),∃ Im',Step w Im ρ o w Im' ρ (o.set id (.arr e.t sh ver true xs)) /\ ∀ e' sh' ver' fz' xs',(o.set id (AObj.arr e.t sh ver true xs))[id]? = some (.arr e' sh' ver' fz' xs')->e'.kd=none->∀ v b,ρ id=some v->Blk v b->Im' b:=by
   intro hh;obtain ⟨Im',hst,hb⟩:=Step.freeze hs ho hh;exact ⟨Im',hst,fun _ _ _ _ _ _ _ v b h1 h2=>hb v b h1 h2⟩
  cases hk:e.kd with
  | none=>
   have he:(e.t:Et)=e:=by cases e;simp at hk;subst hk;rfl
   have:=main (by simp [hk])
   rw [he] at this;exact this
  | some k=>
   cases hh:k.hole with
   | none=>
    simp only [hh,Option.isNone_none,cond_true];exact main (by intro k2 hk2;rw [hk] at hk2;injection hk2 with hk2;subst hk2;exact hh)
   | some i=>
    simp only [hh,Option.isNone_some,cond_false];refine ⟨Im,Step.refl hs,fun e' sh' ver' fz' xs' h1 h2=>?_⟩;rw [ho] at h1;injection h1 with h1
    injection h1 with h1
    subst h1;rw [hk] at h2;cases h2
 ·rename_i hno;refine ⟨Im,Step.refl hs,fun e' sh' ver' fz' xs' h1=>?_⟩;exact (hno e' sh' ver' fz' xs' h1).elim
theorem q8i (hs:SR w Im ρ o) {c:CV} {y:Value} {v:PV} {o1:List AObj} (hy:RC w Im ρ o c y) (h:freezeC o c=some (v,o1)):∃ Im',Step w Im ρ o w Im' ρ o1 /\ RP w Im' v y:=by
 cases c with
 | p u=>
  simp [freezeC] at h;obtain ⟨rfl,rfl⟩:=h;exact ⟨Im,Step.refl hs,hy⟩
 | loc id ver sh lo len=>
  simp only [freezeC] at h;obtain ⟨u,hu,he⟩:=Option.map_eq_some_iff.1 h;injection he with e1 e2
  subst e1;obtain ⟨Im',hst,hb⟩:=q8j hs id;rw [e2] at hst hb;rw [e2] at hu;exact ⟨Im',hst,z4o hst.sr (fun b h=>h) (hst.keep _ _ hy) hu (fun u b h1 h2=>by
   unfold viewLoc at hu;split at hu
   ·rename_i e sh' ver' fz xs ho;obtain ⟨hcnd,_⟩:=q0j hu;simp only [Bool.and_eq_true,Option.isNone_iff_eq_none] at hcnd;exact hb e sh' ver' fz xs ho hcnd.2 u b h1 h2
   ·cases hu)⟩
 | _=>simp [freezeC] at h
theorem y52 {cs:List CV}:∀ {o o1:List AObj} {Im:Nat->Prop} {ys:List Value} {vs:List PV},SR w Im ρ o->ys.length=cs.length->(∀ (i:Nat) (c:CV) (y:Value),cs[i]? = some c->ys[i]? = some y->RC w Im ρ o c y)->freezeCs o cs=some (vs,o1) ->
  ∃ Im',Step w Im ρ o w Im' ρ o1 /\ vs.length=cs.length /\ ∀ (i:Nat) (v:PV) (y:Value),vs[i]? = some v->ys[i]? = some y->RP w Im' v y:=by
 induction cs with
 | nil=>
  intro o o1 Im ys vs hs hl h hf;simp [freezeCs] at hf;obtain ⟨rfl,rfl⟩:=hf;exact ⟨Im,Step.refl hs,rfl,fun i v y hv=>by simp at hv⟩
 | cons c cs ih=>
  intro o o1 Im ys vs hs hl h hf;cases ys with
  | nil=>simp at hl
  | cons y ys=>
   simp only [freezeCs] at hf;obtain ⟨⟨v,o2⟩,hv,hf⟩:=bind_some hf;obtain ⟨⟨us,o3⟩,hu,hf⟩:=bind_some hf;simp at hf;obtain ⟨rfl,rfl⟩:=hf;obtain ⟨Im1,hst1,hr1⟩:=q8i hs (h 0 c y rfl rfl) hv;obtain ⟨Im2,hst2,hl2,hr2⟩:=ih hst1.sr (by simpa using hl) (fun i c' y' hc' hy'=>hst1.keep _ _ (h (i+1) c' y' (by simpa using hc') (by simpa using hy'))) hu;refine ⟨Im2,hst1.trans hst2,by simp [hl2],?_⟩;intro i v' y' hv' hy';cases i with
   | zero=>
    simp at hv' hy';subst hv';subst hy';exact RP.mono (fun b hb=>hst2.im b hb) hr1
   | succ i=>exact hr2 i v' y' (by simpa using hv') (by simpa using hy')
theorem q8k (hs:SR w Im ρ o) {x:SV} {y:Value} {v:PV} {o1:List AObj} (hy:RS w Im ρ o x y) (h:freezeS o x=some (v,o1)):∃ Im',Step w Im ρ o w Im' ρ o1 /\ RP w Im' v y:=by
 cases x with
 | c c=>exact q8i hs hy h
 | agg cs=>
  simp only [freezeS] at h;obtain ⟨⟨vs,o2⟩,hv,he⟩:=bind_some h;simp at he;obtain ⟨rfl,rfl⟩:=he;obtain ⟨ys,rfl,hl,hh,h1⟩:=hy;obtain ⟨Im',hst,hl',hr⟩:=y52 (ys:=ys.toList) hs (by simpa using hl) (fun i c y hc hy=>hh i c y hc (by simpa using hy)) hv;refine ⟨Im',hst,RP.agg vs ys (by omega) ?_ (fun i c y hc hy=>hr i c y hc (by simpa using hy))⟩;intro i c hc;have hi:i<ys.size:=by rw [hl,<- hl'];exact (List.getElem?_eq_some_iff.1 hc).1
  exact RP.one_of (hr i c ys[i] hc (by simp [hi])) (h1 i _ (by simp [hi]))
end
end Go.Dp
namespace Go.Dp
section
variable {P:Program} {E:Env} {w w':World} {Im Im':Nat->Prop} {ρ ρ':Nat->Option Value} {o o':List AObj} {K:Kt} {r:List SV × List (List CV)}
theorem w6h {c:CV} {y:Value} (hs:SR w Im ρ o) (hy:RC w Im ρ o c y) (h:okC o c=true) (hp:∀ v,c≠.p v):y.oneCell'=true /\ y.cells=#[y]:=by
 have key:y.oneCell'=true:=by
  cases c with
  | undef=>cases h
  | p v=>exact absurd rfl (hp v)
  | loc id ver sh lo len=>
   obtain ⟨e,fz,xs,ho⟩:=q54 h;simp only [RC,ho] at hy;obtain ⟨_,v,hρ,hsl⟩:=hy.2 trivial trivial;obtain ⟨vals,hown,_⟩:=hs.ob id _ _ ho hρ;rcases hown.2 with ⟨hm,_⟩ | ⟨g,bo,cap,cu,hm,_⟩ <;> rw [hm] at hsl
   ·obtain ⟨_,_,rfl⟩:=hsl;rfl
   ·obtain ⟨_,rfl,_⟩:=hsl;rfl
  | bptr id off=>
   obtain ⟨cs,ho⟩:=q88 h;simp only [RC,RB,ho] at hy;obtain ⟨b,_,rfl⟩:=hy;rfl
  | aptr id ver sh i off=>
   obtain ⟨e,fz,xs,ho⟩:=q54 h;simp only [RC,ho] at hy;obtain ⟨_,g,bo,n,cap,_,_,_,rfl⟩:=hy.2 trivial trivial;rfl
  | eptr v sh off=>obtain ⟨b,base,rfl,_⟩:=hy;rfl
  | fn f caps=>obtain ⟨vs,rfl,_⟩:=hy;rfl
  | cfn f us=>obtain ⟨vs,rfl,_⟩:=hy;rfl
  | own e sh xs=>exact hy.elim
  | nel id ver nv i=>cases h
 refine ⟨key,?_⟩;cases y <;> simp_all [Value.oneCell',Value.cells]
theorem q4d {α:Type} {K:List CV->Option α} {r:α} {sh:Nat} {v:SV} {y:Value} (hs:SR w Im ρ o) (h:cellsK o sh v K=some r) (hy:RS w Im ρ o v y) :
  ∃ cs,K cs=some r /\ cs.length=csz sh /\ y.cells.size=cs.length /\ (∀ (i:Nat) (c:CV) (z:Value),cs[i]? = some c->y.cells[i]? = some z->RC w Im ρ o c z) /\ ∀ (i:Nat) (z:Value),y.cells[i]? = some z->z.oneCell'=true:=by
 unfold cellsK at h;split at h
 ·rename_i cs;obtain ⟨hc,hk⟩:=q0j h;simp only [Bool.and_eq_true,beq_iff_eq,bne_iff_ne] at hc;obtain ⟨vs,rfl,hl,hh,h1⟩:=hy;exact ⟨cs,hk,by rw [<- hc.1];simp [csz,hc.2],by simpa [Value.cells] using hl,fun i c z a b=>hh i c z a (by simpa [Value.cells] using b),fun i z b=>h1 i z (by simpa [Value.cells] using b)⟩
 ·rename_i c;split at h
  ·rename_i v;obtain ⟨hc,hk⟩:=q0j h;have hy':RP w Im v y:=hy;have hcs:=hy'.cells;cases sh with
   | zero=>
    have h1:v.one=true:=by simpa [PV.shp] using hc
    have h2:=hy'.one h1;refine ⟨[.p v],hk,rfl,by rw [h2.2];rfl,?_,?_⟩
    ·intro i c z a b;rw [h2.2] at b;cases i with
     | zero=>simp at a b;subst a;subst b;exact hy'
     | succ i=>simp at a
    ·intro i z b;rw [h2.2] at b;cases i with
     | zero=>simp at b;subst b;exact h2.1
     | succ i=>simp at b
   | succ n=>
    cases v with
    | agg ps=>
     have hc':=hc;simp only [PV.shp,Bool.and_eq_true,beq_iff_eq] at hc';have hps:(List.range (n+1)).map (fun i=>CV.p (((PV.agg ps).cell i).getD (.bool false)))=ps.map .p:=by
      apply List.ext_getElem
      ·simp [hc'.1]
      ·intro i h1 h2;simp at h1 h2;simp [PV.cell,PV.cells,h2]
     replace hk:K ((List.range (n+1)).map fun i=>CV.p (((PV.agg ps).cell i).getD (.bool false)))=some r:=hk
     rw [hps] at hk;cases hy' with
     | agg _ vs hl ho hh=>
      refine ⟨_,hk,by simp [hc'.1,csz],by simpa [Value.cells] using hl,?_,?_⟩
      ·intro i c z a b;simp at a;obtain ⟨q,hq,rfl⟩:=a;exact hh i q z hq (by simpa [Value.cells] using b)
      ·intro i z b;have b':vs[i]? = some z:=by simpa [Value.cells] using b
       have hi:i<ps.length:=by rw [<- hl];exact (Array.getElem?_eq_some_iff.1 b').1
       exact ((hh i ps[i] z (by simp [hi]) b').one (ho i _ (by simp [hi]))).1
    | _=>simp [PV.shp] at hc
  ·rename_i hp;obtain ⟨hc,hk⟩:=q0j h;simp only [Bool.and_eq_true,beq_iff_eq] at hc;obtain ⟨rfl,hok⟩:=hc;have h2:=w6h hs hy hok hp;refine ⟨[_],hk,rfl,by rw [h2.2];rfl,?_,?_⟩
   ·intro i c' z a b;rw [h2.2] at b;cases i with
    | zero=>simp at a b;subst a;subst b;exact hy
    | succ i=>simp at a
   ·intro i z b;rw [h2.2] at b;cases i with
    | zero=>simp at b;subst b;exact h2.1
    | succ i=>simp at b
theorem q59 (h:Array Obj) (x:Obj) (b:Nat) (hb:b<h.size):(h.push x)[b]? = h[b]?:=by
 rw [Array.getElem?_push];simp;omega
theorem q98 (h:Array Obj) (x:Obj):(h.push x)[h.size]? = some x:=by simp
theorem z7d (hs:SR w Im ρ o) {T:TypeId} {y:Value} {cs:List CV} (hk:K (.s (.c (.bptr o.length 0))) (o++[.box cs])=some r) (hl:y.cells.size=cs.length)
  (hr:∀ (i:Nat) (c:CV) (z:Value),cs[i]? = some c->y.cells[i]? = some z->RC w Im ρ o c z) (h1:∀ (i:Nat) (z:Value),y.cells[i]? = some z->z.oneCell'=true) {s:Sem Value}
  (hrun:s.run P w=.ok (.pointer (some ⟨w.heap.size,0,none⟩)) { w with heap:=w.heap.push (.cells y.cells T) }):Did P w Im ρ o K r s:=by
 have hnb:¬ Im w.heap.size:=fun h=>by have:=hs.im _ h;omega
 have hro:RO { w with heap:=w.heap.push (.cells y.cells T) } Im (upd ρ o.length (some (.pointer (some ⟨w.heap.size,0,none⟩)))) (o++[.box cs]) (.pointer (some ⟨w.heap.size,0,none⟩)) (.box cs) :=
  ⟨w.heap.size,y.cells,T,rfl,q98 _ _,hl,fun i c z a b=>RC.compat (fun b hb=>⟨hb,q59 _ _ _ (hs.im b hb)⟩) (y3z hs _ _) (hr i c z a b),h1,hnb⟩
 have hst:=Step.new (w':={ w with heap:=w.heap.push (.cells y.cells T) }) hs ⟨rfl,rfl,rfl,by simp⟩ (fun b hb=>q59 _ _ _ hb) (x:=.box cs) (by simp) (fun b hb=>by simp at hb;subst hb;simp) hro;refine ⟨_,_,_,_,Im,_,hk,hrun,hst,?_⟩;simp only [RA,RS,RC,RB];simp;exact q0x
theorem y9i (hE:EnvOK P E) (hs:SR w Im ρ o) {T:TypeId} (h:z8t E T o K=some r):Did P w Im ρ o K r (Instr.alloc T true (.tuple #[])):=by
 obtain ⟨zs,hz,hk⟩:=bind_some h;obtain ⟨i,z,sh,hi,hiz,hl,_,_,hone,hrp⟩:=hE.zr T zs hz;have hrp':∀ (i:Nat) (c:CV) (y:Value),(zs.map CV.p)[i]? = some c->z.cells[i]? = some y->RC w Im ρ o c y:=by
  intro i c y a b;simp at a;obtain ⟨q,hq,rfl⟩:=a;exact hrp i q y hq b w Im
 refine z7d (y:=z) (T:=T) hs hk (by simpa using hl) hrp' ?_ ?_
 ·intro i y b;have hi':i<zs.length:=by rw [<- hl];exact (Array.getElem?_eq_some_iff.1 b).1
  exact ((hrp i zs[i] y (by simp [hi']) b w Im).one (hone _ (List.getElem_mem hi'))).1
 ·simp [Instr.alloc,zeroValue,typeInfo,hi,hiz,newVar,newRow]
theorem x4m (hE:EnvOK P E) (hs:SR w Im ρ o) {T:TypeId} {a:AV} {x:Value} (ha:RA w Im ρ o a x) (h:opBox E T a o K=some r):Did P w Im ρ o K r (Instr.box T x):=by
 unfold opBox at h;split at h
 ·rename_i v sh hv hT;rw [q2k hv] at ha;obtain ⟨cs,hk,hl,hl2,hr,h1⟩:=q4d hs h ha;exact z7d (y:=x) (T:=T) hs hk hl2 hr h1 (by simp [Instr.box,newVar,newRow])
 ·cases h
end
end Go.Dp
namespace Go.Dp
section
variable {P:Program} {E:Env} {w w':World} {Im Im':Nat->Prop} {ρ ρ':Nat->Option Value} {o o':List AObj} {K:Kt} {r:List SV × List (List CV)}
theorem q1s {α:Type} (l ns:List α) (k p:Nat) (h:k+ns.length<=l.length) :
  (l.take k++ns++l.drop (k+ns.length))[p]? = if p<k then l[p]? else if p<k+ns.length then ns[p-k]? else l[p]?:=by
 have h1:(l.take k).length=k:=by simp;omega
 by_cases h2:p<k
 ·rw [if_pos h2,List.append_assoc,List.getElem?_append_left (by omega),List.getElem?_take_of_lt h2]
 ·rw [if_neg h2];by_cases h3:p<k+ns.length
  ·rw [if_pos h3,List.append_assoc,List.getElem?_append_right (by omega),h1,List.getElem?_append_left (by omega)]
  ·rw [if_neg h3,List.append_assoc,List.getElem?_append_right (by omega),h1,List.getElem?_append_right (by omega),List.getElem?_drop]
   congr 1
   omega
theorem q4w {α:Type} (l ns:List α) (k:Nat) (h:k+ns.length<=l.length):(l.take k++ns++l.drop (k+ns.length)).length=l.length:=by simp;omega
theorem y0h {cs ns cs':List CV} {off:Nat} (h:z7u cs off ns=some cs'):off+ns.length<=cs.length /\ cs'=cs.take off++ns++cs.drop (off+ns.length):=by
 unfold z7u at h;obtain ⟨hc,h⟩:=q0j h;injection h with h
 exact ⟨of_decide_eq_true hc,h.symm⟩
theorem q64 (w:World) (g:Nat) (cs:Array Value):Wd w (w.setRow g cs):=⟨rfl,rfl,rfl,by simp [World.setRow]⟩
theorem setRow_size (w:World) (g:Nat) (cs:Array Value):(w.setRow g cs).heap.size=w.heap.size:=by simp [World.setRow]
theorem z0r (hE:EnvOK P E) {T:TypeId} {sh:Nat} (hT:E.sh T=some sh) {g off:Nat} {e:TypeId} {cur:Array Value} {y:Value} (hg:w.heap[g]? = some (.cells cur e (0,0))) (hy:y.cells.size=csz sh) (hf:off+csz sh<=cur.size)
  (h1:∀ (i:Nat) (z:Value),y.cells[i]? = some z->z.oneCell'=true) :
  (storeVar T ⟨g,off,none⟩ y).run P w=.ok () (w.setRow g (cur.toList.take off++y.cells.toList++cur.toList.drop (off+y.cells.toList.length)).toArray):=by
 have:=run_storeCells_at P g off e y.cells.toList 0 cur w hg (by simp;omega) (fun v hv=>by
  obtain ⟨i,hi,rfl⟩:=List.getElem_of_mem hv;exact h1 i _ (by simp at hi;simp [hi]))
 simp only [Nat.add_zero] at this;simp [storeVar,y1z hE hT,hy,this]
theorem z1g {α:Type} (l n:List α) (b k m:Nat) (h:b+k<=l.length):(l.take (b+k)++n++l.drop (b+(k+m))).drop b=(l.drop b).take k++n++(l.drop b).drop (k+m):=by
 rw [List.append_assoc,List.drop_append_of_le_length (by simp;omega),List.drop_take,Nat.add_sub_cancel_left,List.drop_drop,<- List.append_assoc]
theorem z1y {α:Type} (l ns:List α) (k m:Nat) (h:k+ns.length<=m) (hm:m<=l.length) :
  (l.take k++ns++l.drop (k+ns.length)).take m=(l.take m).take k++ns++(l.take m).drop (k+ns.length):=by
 apply List.ext_getElem?;intro p;have hl:(l.take m).length=m:=by simp;omega
 rw [q1s _ _ _ _ (by omega)];by_cases hp:p<m
 ·rw [List.getElem?_take_of_lt hp,q1s _ _ _ _ (by omega),List.getElem?_take_of_lt hp]
 ·rw [List.getElem?_eq_none (by simp;omega),if_neg (by omega),if_neg (by omega),List.getElem?_eq_none (by omega)]
theorem z7o {y v z:PV} {vsh off sh:Nat} (h:putPart y vsh off v sh=some z) (hy:y.shp vsh=true) (hv:v.shp sh=true) :
  z.shp vsh=true /\ off+csz sh<=csz vsh /\ ∀ (j:Nat) (c:PV),z.cells[j]? = some c->(off<=j /\ j<off+csz sh /\ v.cells[j-off]? = some c)∨((j<off∨off+csz sh<=j) /\ y.cells[j]? = some c):=by
 unfold putPart at h;cases h0:(off==0&&vsh==sh) <;> rw [h0] at h <;> simp only [cond_true,cond_false] at h
 ·cases sh with
  | succ n=>cases h
  | zero=>
   obtain ⟨hc,h⟩:=q0j h;injection h with h
   subst h;simp only [Bool.and_eq_true,decide_eq_true_eq,bne_iff_ne] at hc;cases vsh with
   | zero=>simp at hc
   | succ m=>
    cases y with
    | agg cs=>
     simp only [PV.shp,Bool.and_eq_true,beq_iff_eq,List.all_eq_true] at hy;have e0:∀ l:List PV,(PV.agg l).cells=l:=fun _=>rfl
     simp only [e0] at hc ⊢;have hv1:v.one=true:=hc.2;refine ⟨?_,by simp [csz];omega,?_⟩
     ·simp only [PV.shp,Bool.and_eq_true,beq_iff_eq,List.all_eq_true,List.length_set];refine ⟨hy.1,fun q hq=>?_⟩;rcases List.mem_or_eq_of_mem_set hq with h1 | h1
      ·exact hy.2 q h1
      ·rw [h1];exact hv1
     ·intro j c hj;by_cases e:j=off
      ·subst e;left;rw [List.getElem?_set_self hc.1.1] at hj;injection hj with hj
       subst hj;exact ⟨Nat.le_refl _,by simp [csz],by rw [PV.cells_of_one hv1];simp⟩
      ·right;rw [List.getElem?_set_ne (Ne.symm e)] at hj
       exact ⟨by simp [csz];omega,hj⟩
    | _=>simp [PV.shp] at hy
 ·injection h with h
  subst h;simp only [Bool.and_eq_true,beq_iff_eq] at h0;obtain ⟨rfl,rfl⟩:=h0;refine ⟨hv,by omega,fun j c hj=>.inl ⟨Nat.zero_le _,?_,by simpa using hj⟩⟩;rw [Nat.zero_add,<- PV.shp_len hv];exact (List.getElem?_eq_some_iff.1 hj).1
theorem y9o (hE:EnvOK P E) (hs:SR w Im ρ o) {T:TypeId} {a b:AV} {x y:Value} (ha:RA w Im ρ o a x) (hb:RA w Im ρ o b y) (h:opStore E T a b o K=some r):Did P w Im ρ o K r (do Instr.storeAt T x y;pure undef):=by
 unfold opStore at h;split at h
 ·rename_i id off sh v hc hT hv;rw [q0s hc] at ha;rw [q2k hv] at hb;split at h
  ·rename_i cs ho;obtain ⟨ns,h,hnl,hyl,hyr,hy1⟩:=q4d hs h hb;obtain ⟨cs',hcs,hk⟩:=bind_some h;obtain ⟨hle,rfl⟩:=y0h hcs;simp only [RA,RS,RC,RB,ho] at ha;obtain ⟨g,hρ,rfl⟩:=ha;obtain ⟨g',vs,e,hg,hh,hl,hrc,h1,hni⟩:=hs.ob id _ _ ho hρ;obtain rfl:g=g':=by simpa using hg
   have hlt:=(Array.getElem?_eq_some_iff.1 hh).1;have hrun:=z0r hE hT (off:=off) hh (by omega) (by omega) hy1;obtain ⟨NV,hNV⟩:∃ NV,NV=(vs.toList.take off++y.cells.toList++vs.toList.drop (off+y.cells.toList.length)).toArray:=⟨_,rfl⟩;rw [<- hNV] at hrun;have hid:upd ρ id (some (.pointer (some ⟨g,0,none⟩)))=ρ:=by funext i;unfold upd;split <;> simp_all
   have hst:=Step.turn (w':=w.setRow g NV) (x':=.box (cs.take off++ns++cs.drop (off+ns.length))) (v':=.pointer (some ⟨g,0,none⟩)) hs (q64 w g NV) ho hρ (by simp) rfl
    (fun b hb hne=>setRow_other w g b NV (fun e=>hne (by rw [e];rfl))) (fun b hb=>by simp at hb;subst hb;exact hni) (fun b hb=>.inl hb) (fun b hb=>by simp at hb;subst hb;rw [setRow_size];exact hlt) ?_
   ·exact ⟨_,_,undef,_,Im,_,hk,by simp [Instr.storeAt,Instr.sureAddr,hrun],hst,trivial⟩
   ·have hcomp:q1u ρ (upd ρ id (some (.pointer (some ⟨g,0,none⟩)))) o (o.set id (.box (cs.take off++ns++cs.drop (off+ns.length)))):=by
     intro i q hq;by_cases e1:i=id
     ·subst e1;rw [ho] at hq;injection hq with hq
      subst hq;exact ⟨_,by rw [List.getElem?_set_self (List.getElem?_eq_some_iff.1 ho).1],by rw [hid];rfl⟩
     ·exact ⟨q,by rw [List.getElem?_set_ne (Ne.symm e1)];exact hq,by rw [hid];cases q <;> simp [q1f]⟩
    have him:∀ b,Im b->Im b /\ (w.setRow g NV).heap[b]? = w.heap[b]?:=fun b hb=>⟨hb,setRow_other w g b NV (fun e=>hni (e ▸ hb))⟩
    have hsz:off+y.cells.toList.length<=vs.toList.length:=by simp;omega
    have hyn:y.cells.toList.length=ns.length:=by simp;omega
    refine ⟨g,NV,e,rfl,setRow_heap w g vs NV e _ hh,?_,?_,?_,hni⟩
    ·rw [q4w _ _ _ hle,hNV,List.size_toArray,q4w _ _ _ hsz,Array.length_toList,hl]
    ·intro i c z hc hz;rw [hNV,List.getElem?_toArray,q1s _ _ _ _ hsz] at hz;rw [q1s _ _ _ _ hle] at hc;rw [hyn] at hz;split at hc
     ·rename_i h2;rw [if_pos h2] at hz;exact RC.compat him hcomp (hrc i c z hc (by simpa using hz))
     ·rename_i h2;rw [if_neg h2] at hz;split at hc
      ·rename_i h3;rw [if_pos h3] at hz;exact RC.compat him hcomp (hyr _ c z hc (by simpa using hz))
      ·rename_i h3;rw [if_neg h3] at hz;exact RC.compat him hcomp (hrc i c z hc (by simpa using hz))
    ·intro i z hz;rw [hNV,List.getElem?_toArray,q1s _ _ _ _ hsz] at hz;split at hz
     ·exact h1 i z (by simpa using hz)
     ·split at hz
      ·exact hy1 _ z (by simpa using hz)
      ·exact h1 i z (by simpa using hz)
  ·cases h
 ·rename_i id ver vsh i off sh sv hc hT hv;rw [q0s hc] at ha;rw [q2k hv] at hb;obtain ⟨⟨v,o1⟩,hfz,h⟩:=bind_some h;obtain ⟨Im1,hst1,hrv⟩:=q8k hs hb hfz;have ha1:=hst1.keepA _ _ ha;have hs1:=hst1.sr
  simp only at h
  split at h
  ·rename_i e sh' ver' xs ho;obtain ⟨hcnd,h⟩:=q0j h;obtain ⟨z0,hz0,h⟩:=bind_some h;obtain ⟨z,hz,hk⟩:=bind_some h;simp only [Bool.and_eq_true,beq_iff_eq] at hcnd;obtain ⟨⟨⟨rfl,rfl⟩,hvs⟩,hstay⟩:=hcnd;simp only [RA,RS,RC,ho] at ha1;obtain ⟨hi,g,bo,n,cap,v0,hρ,hmv,rfl⟩:=ha1.2 trivial trivial;obtain ⟨vals,hown,hshp,hrp,hbk,hkids⟩:=hs1.ob id _ _ ho hρ;have hgv:Blk v0 g:=q1g (by rw [hmv];rfl);have hniv:∀ b,Blk v0 b->¬ Im1 b:=fun b hb=>(hbk b hb).1 rfl
   have hni:¬ Im1 g:=hniv g hgv;rcases hown.2 with ⟨hbad,_⟩ | ⟨g',bo,cap',cu,heq,_,hh,hnc,hcm,hcs,htk⟩
   ·rw [hmv] at hbad;cases hbad
   rw [hmv] at heq;injection heq with e1 e2 e3
   injection e1 with e1
   injection e1 with e1 e4
   subst e1;subst e2;subst e3;subst e4;have hcp:0<cap:=by omega
   have hcs:=hcs hcp;have hlt:=(Array.getElem?_eq_some_iff.1 hh).1;have hz0s:=hshp z0 (List.mem_of_getElem? hz0);obtain ⟨hzs,hoff,hzc⟩:=z7o hz hz0s hvs;have hyc:=hrv.cells;have hyl:y.cells.size=csz sh:=by rw [hyc.1,PV.shp_len hvs]
   have hy1:∀ (i:Nat) (z:Value),y.cells[i]? = some z->z.oneCell'=true:=by
    intro i z hz;have hil:i<v.cells.length:=by rw [<- hyc.1];exact (Array.getElem?_eq_some_iff.1 hz).1
    exact ((hyc.2 i v.cells[i] z (by simp [hil]) hz).one (PV.shp_one hvs i _ (by simp [hil]))).1
   have hmul:(i+1)*csz vsh<=xs.length*csz vsh:=Nat.mul_le_mul_right _ hi;have hmul2:xs.length*csz vsh<=cap*csz vsh:=Nat.mul_le_mul_right _ hnc;rw [Nat.add_mul] at hmul;have hrun:=z0r hE hT (off:=bo+i*csz vsh+off) hh hyl (by omega) hy1;have hyn:y.cells.toList.length=csz sh:=by simp [hyl]
   obtain ⟨NV,hNV⟩:∃ NV,NV=(cu.toList.take (bo+i*csz vsh+off)++y.cells.toList++cu.toList.drop (bo+i*csz vsh+off+y.cells.toList.length)).toArray:=⟨_,rfl⟩;rw [<- hNV] at hrun;have hcul:xs.length*csz vsh<=(cu.toList.drop bo).length:=by simp;omega
   have hspl:i*csz vsh+off+y.cells.toList.length<=xs.length*csz vsh:=by omega
   have hid:upd ρ id (some v0)=ρ:=by funext i;unfold upd;split <;> simp_all
   have hcomp:q1u ρ (upd ρ id (some v0)) o1 (o1.set id (.arr e vsh ver false (xs.set i z))):=by
    intro q a hq;by_cases e1:q=id
    ·subst e1;rw [ho] at hq;injection hq with hq
     subst hq;exact ⟨_,by rw [List.getElem?_set_self (List.getElem?_eq_some_iff.1 ho).1],by rw [hid];exact Or.inr ⟨rfl,rfl,by simp,rfl,q6a _ rfl⟩⟩
    ·exact ⟨a,by rw [List.getElem?_set_ne (Ne.symm e1)];exact hq,by rw [hid];cases a <;> simp [q1f]⟩
   have him:∀ b,Im1 b->Im1 b /\ (w.setRow g NV).heap[b]? = w.heap[b]?:=fun b hb=>⟨hb,setRow_other w g b NV (fun e=>hni (e ▸ hb))⟩
   have hst:=Step.turn (w':=w.setRow g NV) (x':=.arr e vsh ver false (xs.set i z)) (v':=v0) hs1 (q64 w g NV) ho hρ (by simp) (Or.inr ⟨rfl,rfl,by simp,rfl,q6a _ rfl⟩)
    (fun b hb hne=>setRow_other w g b NV (fun e=>hne (by rw [e];exact hgv))) hniv (fun b hb=>.inl hb) (fun b hb=>by rw [setRow_size];exact (hs1.lt id v0 hρ).2 b hb) ?_
   ·exact ⟨_,_,undef,_,Im1,_,hk,by simp [Instr.storeAt,Instr.sureAddr,hrun],hst1.trans hst,trivial⟩
   ·refine ⟨vals.take (i*csz vsh+off)++y.cells.toList++vals.drop (i*csz vsh+off+y.cells.toList.length),⟨?_,.inr ⟨g,bo,cap,NV,by rw [hmv];simp,Nat.zero_le _,setRow_heap w g cu NV e.t _ hh,by simpa using hnc,hcm,fun _=>?_,?_⟩⟩,?_,?_,?_,?_⟩
    ·rw [q4w _ _ _ (by rw [hown.1];exact hspl),hown.1];simp
    ·rw [hNV,List.size_toArray,q4w _ _ _ (by simp at hcul ⊢;omega)];simpa using hcs
    ·rw [hNV];simp only [List.length_set,Nat.add_assoc bo];rw [z1g _ _ _ _ _ (by simp at hcul ⊢;omega)];rw [z1y _ _ _ _ hspl hcul,htk]
    ·intro q hq;rcases List.mem_or_eq_of_mem_set hq with h1 | h1
     ·exact hshp q h1
     ·rw [h1];exact hzs
    ·intro i' x' j c u hx' hj hu;rw [q1s _ _ _ _ (by rw [hown.1];exact hspl)] at hu;rw [hyn] at hu;by_cases e1:i'=i
     ·subst e1;rw [List.getElem?_set_self hi] at hx';injection hx' with hx'
      subst hx';rcases hzc j c hj with ⟨h1,h2,h3⟩ | ⟨h1,h3⟩
      ·rw [if_neg (by omega),if_pos (by omega)] at hu;have e2:i'*csz vsh+j-(i'*csz vsh+off)=j-off:=by omega
       rw [e2] at hu;have hrpu:=RP.mono him (hyc.2 _ c u h3 (by simpa using hu));unfold RPk;split
       ·exact hrpu
       ·exact fun _=>hrpu
      ·have hu':vals[i'*csz vsh+j]? = some u:=by
        rcases h1 with h1 | h1
        ·rwa [if_pos (by omega)] at hu
        ·rwa [if_neg (by omega),if_neg (by omega)] at hu
       exact (hrp i' z0 j c u hz0 h3 hu').keep him
     ·rw [List.getElem?_set_ne (Ne.symm e1)] at hx';have hjl:j<csz vsh:=by rw [<- PV.shp_len (hshp x' (List.mem_of_getElem? hx'))];exact (List.getElem?_eq_some_iff.1 hj).1
      have hu':vals[i'*csz vsh+j]? = some u:=by
       rcases Nat.lt_or_gt_of_ne e1 with h1 | h1
       ·have:(i'+1)*csz vsh<=i*csz vsh:=Nat.mul_le_mul_right _ h1
        rw [Nat.add_mul] at this
        rwa [if_pos (by omega)] at hu
       ·have:(i+1)*csz vsh<=i'*csz vsh:=Nat.mul_le_mul_right _ h1
        rw [Nat.add_mul] at this
        rwa [if_neg (by omega),if_neg (by omega)] at hu
      exact (hrp i' x' j c u hx' hj hu').keep him
    ·intro b hb;exact ⟨fun _=>hniv b hb,fun hf=>nomatch hf⟩
    ·unfold RKids;split
     ·rename_i hk;simp only [RKids,hk] at hkids;exact fun _=>hkids trivial
     ·rename_i k hk;simp only [RKids,hk] at hkids;obtain ⟨_,ks,hv0,hks,hdis⟩:=hkids;simp only [stays,hk,Bool.and_eq_true,beq_iff_eq,bne_iff_ne] at hstay;obtain ⟨rfl,hoffj⟩:=hstay;have hkh:∀ (q:Nat) (u:Value) (b:Nat),ks[q]? = some u->kidBlk u b->(w.setRow g NV).heap[b]? = w.heap[b]?:=fun q u b h1 h2=>setRow_other w g b NV (fun e=>hdis q u b h1 h2 (by rw [e,hmv];rfl))
      refine ⟨rfl,ks,hv0,?_,hdis⟩;refine ⟨by simpa using hks.len,hks.jlt,fun q x hx hh0=>?_,hks.out,hks.inj,?_⟩
      ·have key:∃ x0,xs[q]? = some x0 /\ x0.cells[k.j]? = x.cells[k.j]?:=by
        by_cases e1:q=i
        ·subst e1;rw [List.getElem?_set_self hi] at hx;injection hx with hx
         subst hx;refine ⟨z0,hz0,?_⟩;have hzl:=PV.shp_len hzs;have hz0l:=PV.shp_len hz0s;have hkj:=hks.jlt;have hc1:z.cells[k.j]? = some z.cells[k.j]:=by simp [hzl,hkj]
         rcases hzc k.j _ hc1 with ⟨h1,h2,_⟩ | ⟨_,h3⟩
         ·simp [csz] at h2;omega
         ·rw [h3,hc1]
        ·rw [List.getElem?_set_ne (Ne.symm e1)] at hx;exact ⟨x,hx,rfl⟩
       obtain ⟨x0,hx0,hxc⟩:=key;obtain ⟨f,ys,u,b1,b2,b3,b4,b5⟩:=hks.kid q x0 hx0 hh0;refine ⟨f,ys,u,hxc ▸ b1,b2,b3,?_,b5.keep him fun b hb=>hkh q u b b3 hb⟩;rw [q1s _ _ _ _ (by rw [hown.1];exact hspl),hyn];have hkj:=hks.jlt;have c0:csz 0=1:=rfl;have hne:q*csz vsh+k.j≠i*csz vsh+off:=by
        rcases Nat.lt_trichotomy q i with h3 | h3 | h3
        ·have:(q+1)*csz vsh<=i*csz vsh:=Nat.mul_le_mul_right _ h3
         rw [Nat.add_mul] at this;omega
        ·subst h3;omega
        ·have:(i+1)*csz vsh<=q*csz vsh:=Nat.mul_le_mul_right _ h3
         rw [Nat.add_mul] at this;omega
       split
       ·exact b4
       ·rw [if_neg (by omega)];exact b4
      ·intro q y hy;rw [q1s _ _ _ _ (by rw [hown.1];exact hspl)] at hy;split at hy
       ·exact hks.one q y hy
       ·split at hy
        ·exact hy1 _ y (by simpa using hy)
        ·exact hks.one q y hy
  ·cases h
 ·cases h
end
end Go.Dp
namespace Go.Dp
section
variable {P:Program} {E:Env} {w w':World} {Im Im':Nat->Prop} {ρ ρ':Nat->Option Value} {o o':List AObj} {K:Kt} {r:List SV × List (List CV)}
theorem x1r (off:Nat):∀ (l:List Value) (k:Nat) (arr:Array Value),((l.zipIdx k).foldl (fun cs (c,j)=>cs.setIfInBounds (off+j) c) arr).size=arr.size /\
  ∀ p,((l.zipIdx k).foldl (fun cs (c,j)=>cs.setIfInBounds (off+j) c) arr)[p]? = if off+k<=p /\ p<off+k+l.length /\ p<arr.size then l[p-(off+k)]? else arr[p]?
 | [],k,arr=>⟨rfl,fun p=>by rw [if_neg (by simp;omega)];rfl⟩
 | v::l,k,arr=>by
  have ih:=x1r off l (k+1) (arr.setIfInBounds (off+k) v);refine ⟨by simpa using ih.1,fun p=>?_⟩;simp only [List.zipIdx_cons,List.foldl_cons];rw [ih.2 p];simp only [Array.size_setIfInBounds,List.length_cons];by_cases h1:p=off+k
  ·subst h1;rw [if_neg (by omega)];by_cases h2:off+k<arr.size
   ·rw [if_pos (by omega)];simp [h2]
   ·rw [if_neg (by omega)];simp [h2]
  ·rw [Array.getElem?_setIfInBounds_ne (Ne.symm h1)];by_cases h2:off+(k+1)<=p /\ p<off+(k+1)+l.length /\ p<arr.size
   ·rw [if_pos h2,if_pos (by omega),show p-(off+k)=p-(off+(k+1))+1 by omega,List.getElem?_cons_succ]
   ·rw [if_neg h2,if_neg (by omega)]
theorem x17 {α β:Type} {f:α->Option β}:∀ {l:List α} {r:List β},l.mapM f=some r->∀ (i:Nat) (a:α),l[i]? = some a->∃ b,r[i]? = some b /\ f a=some b
 | [],r,h,i,a,ha=>by simp at ha
 | x::l,r,h,i,a,ha=>by
  simp only [List.mapM_cons,Option.bind_eq_bind,Option.pure_def,Option.bind_eq_some_iff] at h;obtain ⟨b,hb,bs,hbs,hr⟩:=h;injection hr with hr
  subst hr;cases i with
  | zero=>simp at ha;subst ha;exact ⟨b,rfl,hb⟩
  | succ i=>exact x17 hbs i a (by simpa using ha)
theorem x16 {α β:Type} {f:α->Option β}:∀ {l:List α},(∀ x∈l,∃ y,f x=some y)->∃ r,l.mapM f=some r
 | [],_=>⟨[],rfl⟩
 | x::l,h=>by
  obtain ⟨y,hy⟩:=h x (by simp);obtain ⟨r,hr⟩:=x16 (l:=l) fun z hz=>h z (by simp [hz])
  exact ⟨y::r,by simp [hy,hr]⟩
def y9q (w:World) (Im:Nat->Prop) (ρ:Nat->Option Value) (o:List AObj) (cs:List CV) (vs:Array Value):Prop :=
 vs.size=cs.length /\ (∀ (i:Nat) (c:CV) (y:Value),cs[i]? = some c->vs[i]? = some y->RC w Im ρ o c y) /\ ∀ (i:Nat) (y:Value),vs[i]? = some y->y.oneCell'=true
theorem z4r (hE:EnvOK P E) (hs:SR w Im ρ o) {T:TypeId} {t:List AV} {ev:Operand->Value} {place:Nat->Option (Nat × Nat)} (hp:∀ i off sh,E.pl T i=some (off,sh)->place i=some (off,csz sh)) {K:List CV->R}:∀ {ps:List (Nat × Operand)} {cs:List CV} {vs:Array Value},(∀ q∈ps,RA w Im ρ o (aval t q.2) (ev q.2))->y9q w Im ρ o cs vs->buildIn E T t o ps cs K=some r ->
  ∃ cs' vs',K cs'=some r /\ Instr.fill place vs (ps.map fun q=>(q.1,ev q.2))=some vs' /\ y9q w Im ρ o cs' vs':=by
 intro ps
 induction ps with
 | nil=>intro cs vs _ hc h;exact ⟨cs,vs,h,rfl,hc⟩
 | cons q ps ih=>
  intro cs vs hra hc h;obtain ⟨i,x⟩:=q;simp only [buildIn] at h;split at h
  ·rename_i off sh v hfl hsv;have hx:RA w Im ρ o (aval t x) (ev x):=hra (i,x) (by simp);rw [q2k hsv] at hx;obtain ⟨ns,h,hnl,hyl,hyr,hy1⟩:=q4d hs h hx;obtain ⟨cs',hcs,h⟩:=bind_some h;obtain ⟨hle,rfl⟩:=y0h hcs;have hpl:=hp i off sh hfl;obtain ⟨NV,hNV⟩:∃ NV,NV=(ev x).cells.zipIdx.foldl (fun cs (c,j)=>cs.setIfInBounds (off+j) c) vs:=⟨_,rfl⟩;have hNV':NV=((ev x).cells.toList.zipIdx).foldl (fun cs (c,j)=>cs.setIfInBounds (off+j) c) vs:=by rw [hNV,<- Array.foldl_toList,Array.toList_zipIdx]
   have hfold:=x1r off (ev x).cells.toList 0 vs;rw [<- hNV'] at hfold;have hcells:y9q w Im ρ o (cs.take off++ns++cs.drop (off+ns.length)) NV:=by
    refine ⟨by rw [hfold.1,q4w _ _ _ hle];exact hc.1,?_,?_⟩
    ·intro p c y hpc hpy;rw [hfold.2 p] at hpy;rw [q1s _ _ _ _ hle] at hpc;simp only [Nat.add_zero,Array.length_toList] at hpy;have hvs:=hc.1;by_cases h2:p<off
     ·rw [if_pos h2] at hpc;rw [if_neg (by omega)] at hpy;exact hc.2.1 p c y hpc hpy
     ·rw [if_neg h2] at hpc;by_cases h3:p<off+ns.length
      ·rw [if_pos h3] at hpc;rw [if_pos (by omega)] at hpy;exact hyr _ c y hpc (by simpa using hpy)
      ·rw [if_neg h3] at hpc;rw [if_neg (by omega)] at hpy;exact hc.2.1 p c y hpc hpy
    ·intro p y hpy;rw [hfold.2 p] at hpy;split at hpy
     ·exact hy1 _ y (by simpa using hpy)
     ·exact hc.2.2 p y hpy
   obtain ⟨cs'',vs'',hk,hf,hcc⟩:=ih (fun q hq=>hra q (by simp [hq])) hcells h;refine ⟨cs'',vs'',hk,?_,hcc⟩;simp only [List.map_cons,Instr.fill,hpl];have hcl:=hc.1;have hn:¬ ((ev x).cells.size≠csz sh∨off+(ev x).cells.size>vs.size):=by omega
   rw [if_neg (by simpa using hn),<- hNV];exact hf
  ·cases h
theorem y9j (hE:EnvOK P E) (hs:SR w Im ρ o) {T:TypeId} {t:List AV} {ev:Operand->Value} {ps:Array (Nat × Operand)} (hra:∀ q∈ps.toList,RA w Im ρ o (aval t q.2) (ev q.2)) (h:opBuild E T t ps.toList o K=some r) :
  DidS P w Im ρ o K r (Instr.build T (ps.map fun (i,x)=>(i,ev x))):=by
 unfold opBuild at h;split at h
 ·rename_i zs n hz hT;obtain ⟨it,z,sh,hi,hiz,hl,_,_,hone,hrp⟩:=hE.zr T zs hz;obtain ⟨d,i2,hu,hi2,hsz,hcase⟩:=hE.shn T n hT;have hc0:y9q w Im ρ o (zs.map CV.p) z.cells:=by
   refine ⟨by simpa using hl,?_,?_⟩
   ·intro i c y a b;simp at a;obtain ⟨q,hq,rfl⟩:=a;exact hrp i q y hq b w Im
   ·intro i y b;have hi':i<zs.length:=by rw [<- hl];exact (Array.getElem?_eq_some_iff.1 b).1
    exact ((hrp i zs[i] y (by simp [hi']) b w Im).one (hone _ (List.getElem_mem hi'))).1
  rcases hcase with ⟨fs,rfl,hinfo⟩ | ⟨m,e,ie,rfl,hie,hie1⟩
  ·have hp:∃ places,fs.toList.mapM (fun f=>(P.info? f.type).map fun i=>(f.offset,i.size))=some places:=by
    refine x16 fun f hf=>?_
    obtain ⟨j,hj⟩:=hinfo f hf;exact ⟨_,by rw [hj];rfl⟩
   obtain ⟨places,hp⟩:=hp;obtain ⟨cs',vs',hk,hf,hcc⟩:=z4r (place:=(places.toArray[·]?)) hE hs (fun i off sh hfl=>by
    unfold Env.pl at hfl;split at hfl
    ·rename_i q hq;injection hfl with hfl
     subst hfl;obtain ⟨fs',fd,inf,hu',hfd,hoff,hinf,hsz,_⟩:=hE.fl T i off sh hq;rw [hu] at hu';injection hu' with hu'
     injection hu' with hu'
     subst hu';obtain ⟨pl,hpl,hpe⟩:=x17 hp i fd (by simpa using hfd);simp only [hinf,Option.map_some,Option.some.injEq] at hpe;subst hpe;simp only [List.getElem?_toArray,hpl,hoff,hsz]
    ·obtain ⟨hlt,_⟩:=q0j hfl;have hlt:=of_decide_eq_true hlt;obtain ⟨m,hm⟩:∃ m,E.ar T=m+1:=⟨E.ar T-1,by omega⟩;obtain ⟨e,inf,hu',_⟩:=hE.ar T m hm;rw [hu] at hu';cases hu') hra hc0 h
   refine DidS.same hk ?_ (q5z hcc.1 hcc.2.1 hcc.2.2);refine run_build w T _ vs' ?_;unfold Program.built;simp only [hi,hu,hiz,hp];rw [<- hf];simp
  ·obtain ⟨cs',vs',hk,hf,hcc⟩:=z4r (place:=fun i=>some (i*ie.size,ie.size)) hE hs (fun i off sh hfl=>by
    unfold Env.pl at hfl;split at hfl
    ·rename_i q hq;injection hfl with hfl
     subst hfl;obtain ⟨fs',fd,inf,hu',_⟩:=hE.fl T i off sh hq;rw [hu] at hu';cases hu'
    ·obtain ⟨_,hfl⟩:=q0j hfl;injection hfl with hfl
     injection hfl with h1 h2
     subst h1;subst h2;rw [hie1,Nat.mul_one]
     rfl) hra hc0 h
   refine DidS.same hk ?_ (q5z hcc.1 hcc.2.1 hcc.2.2);refine run_build w T _ vs' ?_;unfold Program.built;simp only [hi,hu,hiz,hie];rw [<- hf];simp
 ·cases h
end
end Go.Dp
namespace Go.Dp
section
variable {P:Program} {E:Env} {w w':World} {Im Im':Nat->Prop} {ρ ρ':Nat->Option Value} {o o':List AObj} {K:Kt} {r:List SV × List (List CV)}
theorem q2w {base:Nat} {e s n:Nat} {v:Value} {xs:List Value} (h:w.ownsAt base e s v n xs):∀ b,Blk v b->b<w.heap.size:=by
 intro b hb;rcases h.2 with ⟨rfl,_⟩ | ⟨g,bo,cap,cur,rfl,_,hh,_⟩
 ·exact hb.elim
 ·simp at hb;subst hb;exact (Array.getElem?_eq_some_iff.1 hh).1
theorem q4h {base:Nat} {e s n:Nat} {v:Value} {xs:List Value} (h:w.ownsAt base e s v n xs):RSl v s 0 n v:=by
 rcases h.2 with ⟨rfl,rfl⟩ | ⟨g,bo,cap,cur,rfl,_⟩
 · exact ⟨rfl,rfl,rfl⟩
 · exact ⟨bo,rfl,Nat.zero_le _,fun _=>by simp⟩
theorem q1b {base:Nat} {e s n:Nat} {v:Value} {xs:List Value} (h:w.ownsAt base e s v n xs):mainV v=v /\ ∀ b,Blk v b↔kidBlk v b:=by
 rcases h.2 with ⟨rfl,rfl⟩ | ⟨g,bo,cap,cur,rfl,_⟩
 · exact ⟨rfl,fun b=>Iff.rfl⟩
 · exact ⟨rfl,fun b=>Iff.rfl⟩
theorem y4q (hs:SR w Im ρ o) {e:Et} {sh:Nat} {xs:List PV} {v V:Value} {vals:List Value} {s:Sem Value} (hwd:Wd w w') (hh:∀ b,b<w.heap.size->w'.heap[b]? = w.heap[b]?) (hV:mainV V=v) (hown:w'.ownsAt 0 e.t (csz sh) v xs.length vals)
  (hb:∀ b,Blk V b->w.heap.size<=b /\ b<w'.heap.size) (hsh:∀ x∈xs,x.shp sh=true) (hr:∀ (i:Nat) (x:PV) (j:Nat) (c:PV) (y:Value),xs[i]? = some x->x.cells[j]? = some c->vals[i*csz sh+j]? = some y->RPk w Im e j c y)
  (hkids:RKids w' Im e sh false xs vals V)
  (hrun:s.run P w=.ok v w') (hk:K (.s (.c (.loc o.length 0 sh 0 xs.length))) (o++[.arr e sh 0 false xs])=some r):Did P w Im ρ o K r s:=by
 have him:∀ b,Im b->Im b /\ w'.heap[b]? = w.heap[b]?:=fun b h=>⟨h,hh b (hs.im b h)⟩
 have hst:=Step.new (x:=.arr e sh 0 false xs) (v:=V) hs hwd hh (by simp) hb ⟨vals,by rw [hV];exact hown,hsh,fun i x j c y h1 h2 h3=>(hr i x j c y h1 h2 h3).keep him,fun b h=>⟨fun _ hI=>by have:=hs.im b hI;have:=(hb b h).1;omega,fun h=>nomatch h⟩,hkids⟩;refine ⟨_,_,_,_,Im,_,hk,hrun,hst,?_⟩;simp only [RA,RS,RC];simp;exact ⟨V,q0x,by rw [hV];exact q4h hown⟩
theorem q5q (hs:SR w Im ρ o) {e sh:Nat} {xs:List PV} {v:Value} {vals:List Value} {s:Sem Value} (hwd:Wd w w') (hh:∀ b,b<w.heap.size->w'.heap[b]? = w.heap[b]?) (hown:w'.ownsAt 0 e (csz sh) v xs.length vals)
  (hb:∀ b,Blk v b->w.heap.size<=b) (hsh:∀ x∈xs,x.shp sh=true) (hr:∀ (i:Nat) (x:PV) (j:Nat) (c:PV) (y:Value),xs[i]? = some x->x.cells[j]? = some c->vals[i*csz sh+j]? = some y->RP w Im c y)
  (hrun:s.run P w=.ok v w') (hk:K (.s (.c (.loc o.length 0 sh 0 xs.length))) (o++[.arr e sh 0 false xs])=some r):Did P w Im ρ o K r s :=
 y4q (e:=(e:Et)) hs hwd hh (q1b hown).1 hown (fun b h=>⟨hb b h,q2w hown b h⟩) hsh hr (fun _=>(q1b hown).1) hrun hk
theorem y9c {sh:Nat} {t:List AV} {ev:Operand->Value}:∀ {ps:List (Nat × Operand)} {n:Nat} {o:List AObj} {Im:Nat->Prop} {K:List PV->List AObj->R},SR w Im ρ o->(∀ q∈ps,RA w Im ρ o (aval t q.2) (ev q.2))->q3j sh t n ps o K=some r ->
  ∃ ys o1 Im1,K ys o1=some r /\ Step w Im ρ o w Im1 ρ o1 /\ ys.length=ps.length /\ (∀ y∈ys,y.shp sh=true) /\ (ps.map fun q=>(q.1,ev q.2))=((ps.map fun q=>ev q.2).zipIdx n).map (fun x=>(x.2,x.1)) /\
   ∀ (i:Nat) (y:PV) (q:Nat × Operand),ys[i]? = some y->ps[i]? = some q->RP w Im1 y (ev q.2):=by
 intro ps
 induction ps with
 | nil=>
  intro n o Im K hs hra h;simp only [q3j] at h;exact ⟨[],o,Im,h,Step.refl hs,rfl,by simp,rfl,fun i y q hy=>by simp at hy⟩
 | cons q ps ih=>
  intro n o Im K hs hra h;obtain ⟨i,x⟩:=q;simp only [q3j] at h;obtain ⟨hi,h⟩:=q0j h;obtain ⟨v,hv,h⟩:=bind_some h;obtain ⟨⟨y,o1⟩,hf,h⟩:=bind_some h
  simp only at h
  obtain ⟨hy,h⟩:=q0j h;have hx:=hra (i,x) (by simp);simp only [q2k hv] at hx;obtain ⟨Im1,hst1,hr1⟩:=q8k hs hx hf;obtain ⟨ys,o2,Im2,hk,hst2,hl,hsh,hz,hr2⟩:=ih hst1.sr (fun q hq=>hst1.keepA _ _ (hra q (by simp [hq]))) h;simp at hi;subst hi;refine ⟨y::ys,o2,Im2,hk,hst1.trans hst2,by simp [hl],?_,?_,?_⟩
  ·intro z hz;rcases List.mem_cons.1 hz with rfl | hz
   ·exact hy
   ·exact hsh z hz
  ·simp only [List.map_cons,List.zipIdx_cons,hz]
  ·intro j z q hz hq;cases j with
   | zero=>
    simp at hz hq;subst hz;subst hq;exact RP.mono (fun b hb=>hst2.im b hb) hr1
   | succ j=>exact hr2 j z q (by simpa using hz) (by simpa using hq)
theorem z7g (hE:EnvOK P E) (hs:SR w Im ρ o) {T:TypeId} {n:Nat} {t:List AV} {ev:Operand->Value} {ps:Array (Nat × Operand)} (hra:∀ q∈ps.toList,RA w Im ρ o (aval t q.2) (ev q.2)) (h:q17 E T n t ps.toList o K=some r) :
  Did P w Im ρ o K r (Instr.buildSlice T n (ps.map fun (i,x)=>(i,ev x))):=by
 unfold q17 at h;split at h
 ·rename_i e sh by_ hT;obtain ⟨hcnd,h⟩:=q0j h;simp only [Bool.and_eq_true,beq_iff_eq,decide_eq_true_eq] at hcnd;obtain ⟨hn,hsm⟩:=hcnd;obtain ⟨ys,o1,Im1,hk,hst,hl,hsh,hz,hr⟩:=y9c hs hra h;obtain ⟨hu,⟨inf,z,hi,hsz,hby,hiz,hzs⟩,_⟩:=hE.sl T e sh by_ hT;have hp:=q3w sh;have hcell:∀ v∈ps.toList.map (fun q=>ev q.2),v.cells.size=csz sh:=by
   intro v hv;obtain ⟨i,hi',rfl⟩:=List.getElem_of_mem hv;simp only [List.length_map] at hi';have hiy:i<ys.length:=by rw [hl];exact hi'
   have:=(hr i ys[i] ps.toList[i] (by simp [hiy]) (by rw [List.getElem?_eq_getElem hi'])).cells.1
   simp only [List.getElem_map];rw [this,PV.shp_len (hsh _ (List.getElem_mem hiy))]
  obtain ⟨zc,hzc⟩:∃ zc,zc=(Array.range (n*csz sh)).map (fun k=>(if n*csz sh=0 then (#[]:Array Value) else z.cells)[k % (if n*csz sh=0 then (#[]:Array Value) else z.cells).size]!):=⟨_,rfl⟩;have hzcs:zc.size=n*csz sh:=by rw [hzc];simp
  obtain ⟨cells,hfill,hcs,hget⟩:=Great.fill_dense hp (ps.toList.map fun q=>ev q.2) 0 zc hcell (by rw [hzcs];simp [<- hn]);rw [<- hz] at hfill;have hfill':Instr.fill (fun i=>some (i*inf.size,inf.size)) zc (ps.map fun (i,x)=>(i,ev x)).toList=some cells:=by
   rw [hsz,<- hfill];simp
  have hrun:(Instr.buildSlice T n (ps.map fun (i,x)=>(i,ev x))).run P w=.ok (.slice (some ⟨w.heap.size,0,none⟩) n n) (w.alloc (.cells cells e)):=by
   have hsm':¬ n*csz sh>2 ^ 24:=by omega
   by_cases h0:n*csz sh=0
   ·rw [if_pos h0] at hzc;subst hzc;simp only [h0] at hfill';simp [Instr.buildSlice,run_underlying hu,sizeOf,typeInfo,hi,hsz,h0];simp [hsz] at hfill';simp [hfill',newRow]
   ·rw [if_neg h0] at hzc;subst hzc;exact run_buildSlice w T e n _ cells inf z hu hi hiz (by rw [hsz];exact hsm') (by rw [hsz];exact h0) (by rw [hsz] at hfill' ⊢;exact hfill')
  have hval:∀ (i j:Nat),i<n->j<csz sh->∃ q,ps.toList[i]? = some q /\ cells.toList[i*csz sh+j]? = (ev q.2).cells[j]?:=by
   intro i j hi' hj;have hip:i<ps.toList.length:=by omega
   refine ⟨ps.toList[i],by rw [List.getElem?_eq_getElem hip],?_⟩;rw [Array.getElem?_toList,hget,if_pos ⟨by simp,by simpa [hn] using q4t hi' hj⟩];have h1:(i*csz sh+j) / csz sh-0=i:=by rw [Nat.mul_comm,Nat.mul_add_div hp,Nat.div_eq_of_lt hj];rfl
   have h2:(i*csz sh+j) % csz sh=j:=by rw [Nat.mul_comm,Nat.mul_add_mod,Nat.mod_eq_of_lt hj]
   rw [h1,h2,List.getElem?_map,List.getElem?_eq_getElem hip];rfl
  have hyn:ys.length=n:=by omega
  have hd:=q5q (P:=P) (K:=K) (r:=r) (e:=e) (sh:=sh) (xs:=ys) (v:=.slice (some ⟨w.heap.size,0,none⟩) n n) (vals:=cells.toList) hst.sr (w':=w.alloc (.cells cells e)) ⟨rfl,rfl,rfl,by simp⟩ (fun b hb=>q59 _ _ _ hb) ?_ (fun b hb=>by simp at hb;omega) hsh ?_ hrun
   (by rw [hyn];exact hk)
  ·obtain ⟨v',o',y',w'',Im2,ρ2,h1,h2,h3,h4⟩:=hd;exact ⟨v',o',y',w'',Im2,ρ2,h1,h2,hst.trans h3,h4⟩
  ·refine World.ownsAt_of ⟨by simp [hcs,hzcs,hyn],.inr ⟨w.heap.size,n,cells,by rw [hyn],Nat.zero_le _,q98 _ _,by omega,?_,by rw [hcs,hzcs],?_⟩⟩
   ·have h1:n*1<=n*csz sh:=Nat.mul_le_mul_left _ hp;simp only [maxLen];omega
   ·rw [hyn,<- hzcs,<- hcs,<- Array.length_toList,List.take_length]
  ·intro i x j c y hx hj hy;have hin:i<n:=by rw [<- hyn];exact (List.getElem?_eq_some_iff.1 hx).1
   have hjl:j<csz sh:=by rw [<- PV.shp_len (hsh x (List.mem_of_getElem? hx))];exact (List.getElem?_eq_some_iff.1 hj).1
   obtain ⟨q,hq,hqc⟩:=hval i j hin hjl;rw [hqc] at hy;exact (hr i x q hx hq).cells.2 j c y hj hy
 ·cases h
theorem z86 (hE:EnvOK P E) (hs:SR w Im ρ o) {T:TypeId} {l c:AV} {xl xc:Value} (hl:RA w Im ρ o l xl) (hc:RA w Im ρ o c xc) (h:q7w E T l c o K=some r):Did P w Im ρ o K r (Instr.makeSlice T xl xc):=by
 unfold q7w at h;split at h
 ·rename_i e sh by_ hT;obtain ⟨zs,hz,h1⟩:=bind_some h;obtain ⟨n,hn,h2⟩:=bind_some h1;obtain ⟨m,hm,h3⟩:=bind_some h2;obtain ⟨hcnd,h4⟩:=q0j h3;simp only [Bool.and_eq_true,beq_iff_eq,decide_eq_true_eq] at hcnd;obtain ⟨⟨⟨rfl,h0⟩,hby⟩,hlim⟩:=hcnd;obtain ⟨kl,rfl⟩:=hl.int hn;obtain ⟨kc,rfl⟩:=hc.int hm;obtain ⟨hu,⟨inf,z,hi,hsz,hbe,hiz,hzs⟩,hsh,_⟩:=hE.sl T e sh by_ hT;obtain ⟨i2,z2,sh2,hi2,hz2,hl2,hsh2,hl3,hone,hrp⟩:=hE.zr e zs hz;rw [hi] at hi2;injection hi2 with hi2
  subst hi2;rw [hiz] at hz2;injection hz2 with hz2
  subst hz2;rw [hsh] at hsh2;injection hsh2 with hsh2
  subst hsh2;obtain ⟨x,hx⟩:∃ x,x=q5r sh zs:=⟨_,rfl⟩;simp only [<- hx] at h4;obtain ⟨hxs,hk⟩:=q0j h4;have hp:=q3w sh;have hxc:x.cells=zs:=by
   cases sh with
   | zero=>
    have hlz:zs.length=1:=hl3
    match zs,hlz with
    | [a],_=>
     simp [q5r] at hx;subst hx;exact PV.cells_of_one (hone _ (by simp))
   | succ k=>subst hx;rfl
  obtain ⟨N,rfl⟩:∃ N:Nat,n=N:=⟨n.toNat,by omega⟩;simp only [Int.toNat_natCast] at hk hby hlim;have hbytes:inf.bytes*N<=281474976710656:=by rw [hbe,Nat.mul_comm];simp only [LIM] at hby;omega
  obtain ⟨w',hrun,hown,hgr⟩:=run_make_full (P:=P) w 0 T e inf z (csz sh) hu hi hiz hsz kl kc N hbytes (by simp only [LIM] at hlim;simp only [maxLen];omega) (Nat.zero_le _);have hget:∀ (i j:Nat) (u:Value),i<N->j<csz sh->(madeCells z.cells (N*csz sh)).toList[i*csz sh+j]? = some u->z.cells[j]? = some u:=by
   intro i j u hiN hjl hu;have hfl:=q4t hiN hjl;have h2:(i*csz sh+j) % csz sh=j:=by rw [Nat.mul_comm,Nat.mul_add_mod,Nat.mod_eq_of_lt hjl]
   have hzj:j<z.cells.size:=by omega
   have:u=z.cells[j]:=by
    rw [Array.getElem?_toList] at hu;simp [madeCells,hfl,hzs,h2,hzj] at hu;rw [<- hu,getElem!_pos z.cells j hzj]
   subst this;simp [hzj]
  have hcr:∀ (i:Nat) (y:PV) (j:Nat) (c:PV) (u:Value),(List.replicate N x)[i]? = some y->y.cells[j]? = some c->(madeCells z.cells (N*csz sh)).toList[i*csz sh+j]? = some u->RP w Im c u:=by
   intro i y j c u hy hj hu;have hiN:i<N:=by simpa using (List.getElem?_eq_some_iff.1 hy).1
   obtain rfl:y=x:=by
    have:=(List.getElem?_eq_some_iff.1 hy).2
    simpa using this.symm
   rw [hxc] at hj;have hjl:j<csz sh:=by rw [<- hl3];exact (List.getElem?_eq_some_iff.1 hj).1
   exact hrp j c u hj (hget i j u hiN hjl hu) w Im
  have hk':K (.s (.c (.loc o.length 0 sh 0 (List.replicate N x).length))) (o++[.arr (newEt E T e zs) sh 0 false (List.replicate N x)])=some r:=by simpa using hk
  obtain ⟨et,het⟩:∃ et,et=newEt E T e zs:=⟨_,rfl⟩;rw [<- het] at hk';have hcase:et=(e:Et)∨∃ k,et=⟨e,some k⟩ /\ k.hole=none /\ zs[k.j]? = some (.row k.sh 2 []):=by
   unfold newEt at het;split at het
   ·exact .inl het
   ·rename_i k _;split at het
    ·rename_i s f hz;cases hcf:(f==2&&s==k.sh) <;> rw [hcf] at het
     ·exact .inl het
     ·simp only [Bool.and_eq_true,beq_iff_eq] at hcf;obtain ⟨rfl,rfl⟩:=hcf;exact .inr ⟨_,het,rfl,hz⟩
    ·exact .inl het
  rcases hcase with he | ⟨k,he,hhole,hzk⟩
  ·subst he;exact q5q (e:=e) (sh:=sh) (xs:=List.replicate N x) (vals:=(madeCells z.cells (N*csz sh)).toList) hs ⟨hgr.os,hgr.tape,hgr.output,hgr.size⟩ (fun b hb=>hgr.block b hb (by simp)) (World.ownsAt_of (by simpa using hown)) (fun b hb=>by simp at hb;omega) (fun y hy=>by rw [List.eq_of_mem_replicate hy];exact hxs) hcr hrun hk'
  ·subst he;have hjl:k.j<csz sh:=by rw [<- hl3];exact (List.getElem?_eq_some_iff.1 hzk).1
   have hown':w'.ownsAt 0 e (csz sh) (.slice (some ⟨w.heap.size,0,none⟩) N N) (List.replicate N x).length (madeCells z.cells (N*csz sh)).toList:=World.ownsAt_of (by simpa using hown);have hlt:=q2w hown';have hnils:∀ (i:Nat) (u:Value),(List.replicate N (Value.slice none 0 0))[i]? = some u->u=.slice none 0 0:=by
    intro i u hu
    have:=(List.getElem?_eq_some_iff.1 hu).2
    simpa using this.symm
   refine y4q (e:=⟨e,some k⟩) (V:=.tuple (Value.slice (some ⟨w.heap.size,0,none⟩) N N::List.replicate N (.slice none 0 0)).toArray) hs ⟨hgr.os,hgr.tape,hgr.output,hgr.size⟩ (fun b hb=>hgr.block b hb (by simp)) rfl hown' ?_ (fun y hy=>by rw [List.eq_of_mem_replicate hy];exact hxs) ?_ ?_ hrun hk'
   ·rintro b ⟨i,u,hu,hb⟩
    cases i with
    | zero=>
     simp at hu;subst hu;exact ⟨by simp at hb;omega,hlt b hb⟩
    | succ i=>
     rw [hnils i u (by simpa using hu)] at hb;exact hb.elim
   ·intro i y j c u hy hj hu;exact fun _=>hcr i y j c u hy hj hu
   ·refine ⟨rfl,_,rfl,⟨by simp,hjl,fun i y hy _=>?_,fun i u _ hu=>hnils i u hu,fun i i' u u' b hu _ hb=>?_,?_⟩,fun i u b hu hb=>?_⟩
    ·have hiN:i<N:=by simpa using (List.getElem?_eq_some_iff.1 hy).1
     obtain rfl:y=x:=by
      have:=(List.getElem?_eq_some_iff.1 hy).2
      simpa using this.symm
     have hfl:=q4t hiN hjl;have hlen:(madeCells z.cells (N*csz sh)).toList.length=N*csz sh:=by rw [hown'.1];simp
     have hu:(madeCells z.cells (N*csz sh)).toList[i*csz sh+k.j]? = some (madeCells z.cells (N*csz sh)).toList[i*csz sh+k.j]:=List.getElem?_eq_getElem (by omega);have hnil:(madeCells z.cells (N*csz sh)).toList[i*csz sh+k.j]=.slice none 0 0:=by
      have key:∀ u,RP w Im (.row k.sh 2 []) u->u=.slice none 0 0:=by
       intro u h;cases h with
       | nil=>rfl
       | row _ _ _ a cap g hf2=>exact absurd rfl hf2
      exact key _ (hrp k.j _ _ hzk (hget i k.j _ hiN hjl hu) w Im)
     rw [hnil] at hu;exact ⟨2,[],.slice none 0 0,by rw [hxc];exact hzk,.inr ⟨rfl,rfl⟩,by simp [hiN],hu,[],World.ownsAt_nil w' 0 k.e (csz k.sh),by simp,by simp⟩
    ·rw [hnils i u hu] at hb;exact hb.elim
    ·intro p u hu;have hp':p<N*csz sh:=by have:=(List.getElem?_eq_some_iff.1 hu).1;rw [hown'.1] at this;simpa using this
     have h2:p % csz sh<csz sh:=Nat.mod_lt _ hp;have hi:p / csz sh<N:=(Nat.div_lt_iff_lt_mul hp).2 hp';have e1:p=p / csz sh*csz sh+p % csz sh:=by rw [Nat.mul_comm,Nat.div_add_mod]
     rw [e1] at hu;have h3:=hget _ _ u hi h2 hu;have h4:zs[p % csz sh]? = some zs[p % csz sh]!:=by
      have:p % csz sh<zs.length:=by rw [hl3];exact h2
      simp [this]
     exact ((hrp _ _ u h4 h3 w Im).one (hone _ (List.mem_of_getElem? h4))).1
    ·rw [hnils i u hu] at hb;exact hb.elim
 ·cases h
theorem q16 {T e:TypeId} (hu:P.underlying T=some (.slice e)) {inf:TypeInfo} (hi:P.info? e=some inf) {ty:TypeId} (a b:Option Addr) (n c c':Nat) (hn:n<=c) (w:World) :
  (Builtin.append_ #[T,T] ty #[.slice a n c,.slice b 0 c']).run P w=.ok (.slice a n c) w:=by
 cases a <;> cases b <;> simp [Builtin.append_,run_underlying hu,sizeOf,typeInfo,hi,Builtin.lenOf,Builtin.firstCells,loadCells,loadCellsFrom,storeCells,hn]
def News (w:World) (Im:Nat->Prop) (sh:Nat) (ys:List PV) (y:Value):Prop :=
 (ys=[] /\ ∃ b c,y=.slice b 0 c)∨∃ (a:Addr) (c:Nat) (news:List Value),y=.slice (some a) ys.length c /\ news.length=ys.length*csz sh /\ (∀ (j:Nat) (u:Value),news[j]? = some u->w.cell? (a.add j)=some u) /\ (∀ u∈news,u.oneCell'=true) /\ (∀ x∈ys,x.shp sh=true) /\
  ∀ (i:Nat) (x:PV) (j:Nat) (c:PV) (u:Value),ys[i]? = some x->x.cells[j]? = some c->news[i*csz sh+j]? = some u->RP w Im c u
theorem News.of_row {Im2:Nat->Prop} {sh f:Nat} {xs:List PV} {y:Value} (h:RP w Im2 (.row sh f xs) y) (hi:∀ (i:Nat) (x:PV) (j:Nat) (c:PV) (u:Value),xs[i]? = some x->x.cells[j]? = some c->RP w Im2 c u->RP w Im c u):News w Im sh xs y:=by
 cases h with
 | nil=>exact .inl ⟨rfl,_,_,rfl⟩
 | row _ _ _ a cap g hf hsp hcap hm h1 him hshp hcell hrp=>
  obtain ⟨b,off,sp⟩:=a
  simp only at hsp hcell
  subst hsp;have hp:=q3w sh;have pos:∀ k,k<xs.length*csz sh->∃ (i:Nat) (x:PV) (j:Nat) (c:PV),xs[i]? = some x /\ x.cells[j]? = some c /\ k=i*csz sh+j:=by
   intro k hk;have hi:k / csz sh<xs.length:=(Nat.div_lt_iff_lt_mul hp).2 hk;have hj:k % csz sh<(xs[k / csz sh]).cells.length:=by rw [PV.shp_len (hshp (k / csz sh) _ (by simp [hi]))];exact Nat.mod_lt _ hp
   exact ⟨_,xs[k / csz sh],_,(xs[k / csz sh]).cells[k % csz sh],List.getElem?_eq_getElem hi,List.getElem?_eq_getElem hj,by rw [Nat.mul_comm,Nat.div_add_mod]⟩
  have nget:∀ (k:Nat) (u:Value),((List.range (xs.length*csz sh)).map g)[k]? = some u->k<xs.length*csz sh /\ u=g k:=by
   intro k u hu;simp only [List.getElem?_map] at hu;rcases Nat.lt_or_ge k (xs.length*csz sh) with hk | hk
   ·rw [List.getElem?_range hk] at hu;simp at hu;exact ⟨hk,hu.symm⟩
   ·rw [List.getElem?_eq_none (by simpa using hk)] at hu;simp at hu
  refine .inr ⟨_,cap,(List.range (xs.length*csz sh)).map g,rfl,by simp,?_,?_,fun x hx=>?_,?_⟩
  ·intro k u hu;obtain ⟨hk,rfl⟩:=nget k u hu;obtain ⟨i,x,j,c,hx,hj,rfl⟩:=pos k hk;rw [q2e];exact hcell i x j c hx hj
  ·intro u hu;obtain ⟨k,hk,rfl⟩:=List.mem_map.1 hu;obtain ⟨i,x,j,c,hx,hj,rfl⟩:=pos k (by simpa using hk);exact ((hrp i x j c hx hj).one (PV.shp_one (hshp i x hx) j c hj)).1
  ·obtain ⟨i,hi,rfl⟩:=List.getElem_of_mem hx;exact hshp i _ (by simp [hi])
  ·intro i x j c u hx hj hu;obtain ⟨hk,rfl⟩:=nget _ u hu;exact hi i x j c _ hx hj (hrp i x j c hx hj)
theorem y5n (hs:SR w Im ρ o) {b:CV} {y:Value} {v:PV} {sh:Nat} {ys:List PV} (hb:RC w Im ρ o b y) (hv:viewC o b=some v) (hn:y4r sh v=some ys):News w Im sh ys y:=by
 unfold y4r at hn;obtain ⟨⟨sh',f,zs⟩,hq,hn⟩:=bind_some hn;obtain rfl:=q41 hq
 ·simp only at hn hv
  obtain ⟨hc,hn⟩:=q0j hn;injection hn with hn
  subst hn;have fin:News w Im sh' zs y->News w Im sh zs y:=by
   intro h;by_cases e:sh=sh'
   ·subst e;exact h
   ·have:zs=[]:=by simpa [e] using hc
    subst this;rcases h with ⟨_,h⟩ | ⟨a,c,news,rfl,_⟩
    ·exact .inl ⟨rfl,h⟩
    ·exact .inl ⟨rfl,_,_,rfl⟩
  apply fin;cases b with
  | p u=>
   simp [viewC] at hv;subst hv;exact News.of_row hb (fun i x j c u _ _ h=>h)
  | loc id ver sh2 lo len=>
   simp only [viewC,viewLoc] at hv;split at hv
   ·rename_i e sh3 ver' fz xs ho;obtain ⟨hcnd,hv'⟩:=q0j hv;simp only [Bool.and_eq_true,beq_iff_eq,Option.isNone_iff_eq_none] at hcnd;obtain ⟨⟨rfl,rfl⟩,hkd⟩:=hcnd;injection hv' with hv'
    injection hv' with e1 e2 e3
    subst e1;subst e3;simp only [RC,ho] at hb;obtain ⟨hle,u,hρ,hsl⟩:=hb.2 trivial trivial;obtain ⟨vals,hown,hshp,hrp,_⟩:=hs.ob id _ _ ho hρ;simp only [RPk,hkd] at hrp;have hp:=q3w sh2;have hlen:((xs.drop lo).take len).length=len:=by simp;omega
    have get:∀ i x,((xs.drop lo).take len)[i]? = some x->i<len /\ xs[lo+i]? = some x:=by
     intro i x hx;have h1:i<len:=by have:=(List.getElem?_eq_some_iff.1 hx).1;rwa [hlen] at this
     rw [List.getElem?_take_of_lt h1,List.getElem?_drop] at hx;exact ⟨h1,hx⟩
    have hmul:lo*csz sh2+len*csz sh2<=vals.length:=by rw [hown.1,<- Nat.add_mul];exact Nat.mul_le_mul_right _ hle
    have nlen:((vals.drop (lo*csz sh2)).take (len*csz sh2)).length=len*csz sh2:=by simp;omega
    have nget:∀ (k:Nat) (u:Value),((vals.drop (lo*csz sh2)).take (len*csz sh2))[k]? = some u->k<len*csz sh2 /\ vals[lo*csz sh2+k]? = some u:=by
     intro k u hu;have h1:k<len*csz sh2:=by have:=(List.getElem?_eq_some_iff.1 hu).1;rwa [nlen] at this
     rw [List.getElem?_take_of_lt h1,List.getElem?_drop] at hu;exact ⟨h1,hu⟩
    rcases hown.2 with ⟨hm,hx0⟩ | ⟨g,bo,cap,cu,hm,_,hh,hnc,hcm,hcs,htk⟩ <;> rw [hm] at hsl
    ·obtain ⟨rfl,rfl,rfl⟩:=hsl;exact .inl ⟨by simp,none,0,rfl⟩
    ·obtain ⟨off,rfl,hlc,hoff⟩:=hsl;refine .inr ⟨⟨g,off,none⟩,cap-lo,(vals.drop (lo*csz sh2)).take (len*csz sh2),by rw [hlen],by rw [nlen,hlen],?_,?_,fun x hx=>hshp x (List.mem_of_mem_drop (List.mem_of_mem_take hx)),?_⟩
     ·intro k u hu;obtain ⟨hk,hu⟩:=nget k u hu;have hl0:0<len:=Nat.pos_of_ne_zero fun h=>by subst h;simp at hk
      have:=hown.cells (g:=g) (bo:=bo) hm _ u hu
      rw [q2e,<- Nat.add_assoc] at this;rw [q2e,hoff (.inr (by omega))];exact this
     ·intro u hu;obtain ⟨k,hk⟩:=List.getElem?_of_mem hu;obtain ⟨hk,hu⟩:=nget k u hk;have hi:k / csz sh2<len:=(Nat.div_lt_iff_lt_mul hp).2 hk;have hix:lo+k / csz sh2<xs.length:=by omega
      have hxs:=hshp _ (List.getElem_mem hix);have hj:k % csz sh2<(xs[lo+k / csz sh2]).cells.length:=by rw [PV.shp_len hxs];exact Nat.mod_lt _ hp
      have e1:lo*csz sh2+k=(lo+k / csz sh2)*csz sh2+k % csz sh2:=by
       have:=Nat.div_add_mod k (csz sh2)
       rw [Nat.mul_comm] at this;rw [Nat.add_mul];omega
      rw [e1] at hu;have hjg:(xs[lo+k / csz sh2]).cells[k % csz sh2]? = some (xs[lo+k / csz sh2]).cells[k % csz sh2]:=List.getElem?_eq_getElem hj;exact ((hrp _ _ _ _ u (List.getElem?_eq_getElem hix) hjg hu).one (PV.shp_one hxs _ _ hjg)).1
     ·intro i x j c u hx hj hu;obtain ⟨hi,hx⟩:=get i x hx;obtain ⟨hk,hu⟩:=nget _ u hu;exact hrp (lo+i) x j c u hx hj (by rw [Nat.add_mul,Nat.add_assoc];exact hu)
   ·cases hv
  | _=>simp [viewC] at hv
theorem x6n {e s n lo len:Nat} {v x:Value} {vals:List Value} (h:w.ownsAt 0 e s v n vals) (hx:RSl v s lo len x) (hl:lo+len<=n):w.ownsAt 0 e s x len ((vals.drop (lo*s)).take (len*s)) /\ ∀ b,Blk x b↔kidBlk v b:=by
 have hm:(lo+len)*s<=n*s:=Nat.mul_le_mul_right _ hl;rw [Nat.add_mul] at hm;rcases h.2 with ⟨rfl,rfl⟩ | ⟨g,bo,cap,cur,rfl,_,hh,hnc,hcm,hcs,htk⟩
 ·obtain ⟨_,rfl,rfl⟩:=hx;exact ⟨⟨by simp,.inl ⟨rfl,rfl⟩⟩,fun _=>Iff.rfl⟩
 ·obtain ⟨off,rfl,hlc,hoff⟩:=hx;refine ⟨⟨by rw [List.length_take,List.length_drop,h.1];omega,.inr ⟨g,off,cap-lo,cur,rfl,Nat.zero_le _,hh,by omega,by omega,fun hc=>?_,?_⟩⟩,fun _=>Iff.rfl⟩
  ·have h1:=hcs (by omega);rw [hoff (.inr hc),h1]
   have:(lo+(cap-lo))*s=cap*s:=by congr 1;omega
   rw [Nat.add_mul] at this;omega
  ·rcases Nat.eq_zero_or_pos len with h0 | h0
   ·subst h0;simp
   ·rw [hoff (.inr (by omega)),<- htk,List.drop_take,List.take_take,List.drop_drop,Nat.min_eq_left (by omega)]
theorem q97 {e s n len:Nat} {v x:Value} {vals:List Value} (h:w.ownsAt 0 e s v n vals) (hx:RSl v s 0 len x) (hl:len<=n):w.ownsAt 0 e s x len (vals.take (len*s)) /\ ∀ b,Blk x b↔kidBlk v b:=by
 have:=x6n h hx (by omega)
 rwa [Nat.zero_mul,List.drop_zero] at this
theorem y53 {s n:Nat} {vals news:List Value} {xs ys:List PV} (hv:vals.length=xs.length*s) (hsx:∀ x∈xs,x.cells.length=s) (hsy:∀ y∈ys,y.cells.length=s)
  (hr:∀ (i:Nat) (x:PV) (j:Nat) (c:PV) (u:Value),xs[i]? = some x->x.cells[j]? = some c->vals[i*s+j]? = some u->RP w Im c u)
  (hn:∀ (i:Nat) (x:PV) (j:Nat) (c:PV) (u:Value),ys[i]? = some x->x.cells[j]? = some c->news[i*s+j]? = some u->RP w Im c u) :
  ∀ (i:Nat) (x:PV) (j:Nat) (c:PV) (u:Value),(xs++ys)[i]? = some x->x.cells[j]? = some c->(vals++news)[i*s+j]? = some u->RP w Im c u:=by
 intro i x j c u hx hj hu;rcases Nat.lt_or_ge i xs.length with hi | hi
 ·rw [List.getElem?_append_left hi] at hx;have hjl:j<s:=by rw [<- hsx x (List.mem_of_getElem? hx)];exact (List.getElem?_eq_some_iff.1 hj).1
  rw [List.getElem?_append_left (by rw [hv];exact q4t hi hjl)] at hu;exact hr i x j c u hx hj hu
 ·rw [List.getElem?_append_right hi] at hx;have h1:xs.length*s<=i*s:=Nat.mul_le_mul_right _ hi;rw [List.getElem?_append_right (by omega)] at hu;refine hn (i-xs.length) x j c u hx hj ?_;rw [Nat.sub_mul,<- hv]
  rwa [show i*s-vals.length+j=i*s+j-vals.length by omega]
theorem y3m (hE:EnvOK P E) (hs:SR w Im ρ o) {T ty:TypeId} {e sh by_ id ver nv i:Nat} {x y:Value} {ys:List PV} (hT:E.sl T=some (e,sh,by_)) (ha:RC w Im ρ o (.nel id ver nv i) x) (hnews:News w Im sh ys y) (h:z0x e sh by_ id ver nv i ys o K=some r) :
  Did P w Im ρ o K r (Builtin.append_ #[T,T] ty #[x,y]):=by
 unfold z0x at h;split at h
 ·rename_i e' sh' ver' xs ho;split at h
  ·rename_i k hk;obtain ⟨hcnd,h9⟩:=q0j h;clear h;simp only [Bool.and_eq_true,beq_iff_eq,Option.isNone_iff_eq_none] at hcnd;obtain ⟨⟨⟨⟨rfl,rfl⟩,hhole⟩,rfl⟩,rfl⟩:=hcnd;obtain ⟨x0,hx0,h8⟩:=bind_some h9;clear h9;obtain ⟨zs,hzs0,h7⟩:=bind_some h8;clear h8;obtain ⟨hlim0,hkk⟩:=q0j h7;clear h7;simp only [Bool.and_eq_true,decide_eq_true_eq] at hlim0;obtain ⟨hlb,hll⟩:=hlim0;simp only [RC,ho] at ha;obtain ⟨_,ha2⟩:=ha.2 trivial k hk;obtain ⟨hix,m,ks,hρ,hksx⟩:=ha2 rfl hhole;obtain ⟨vals,hown,hshp,hrp,hbk,hkids⟩:=hs.ob id _ _ ho hρ;have hkids':=hkids;simp only [RKids,hk] at hkids;obtain ⟨_,ks',hv,hks,hdis⟩:=hkids;have hmm:mainV (.tuple (m::ks).toArray)=m:=rfl;rw [hmm] at hv hdis hown
   have:ks=ks':=by injection hv with hv;simpa using hv
   subst this;obtain ⟨f,zs',u,b1,_,b3,b4,kvals,kown,kshp,krp⟩:=hks.kid i x0 hx0 (by rw [hhole];simp);obtain rfl:x=u:=by rw [hksx] at b3;injection b3
   obtain rfl:zs'=zs:=by
    simp only [PV.atRow,PV.cell,b1,Option.bind_some,PV.asRow] at hzs0;obtain ⟨_,h⟩:=q0j hzs0;injection h
   obtain ⟨hu,⟨inf,z,hi,hsz,hby,hiz,hzs⟩,_⟩:=hE.sl T _ _ by_ hT;have hp:=q3w k.sh;have hlim:zs'.length+ys.length<=maxLen:=by simp only [maxLen];simp only [LIM] at hll;omega
   have main:∃ (v':Value) (w':World) (news:List Value),(Builtin.append_ #[T,T] ty #[x,y]).run P w=.ok v' w' /\ w'.ownsAt 0 k.e (csz k.sh) v' (zs'.length+ys.length) (kvals++news) /\ w.grownBy w' x.ownBlock /\
      (v'.ownBlock=x.ownBlock∨v'.ownBlock=some w.heap.size) /\ (∀ x∈ys,x.shp k.sh=true) /\ ∀ (i:Nat) (x:PV) (j:Nat) (c:PV) (u:Value),ys[i]? = some x->x.cells[j]? = some c->news[i*csz k.sh+j]? = some u->RP w Im c u:=by
    rcases hnews with ⟨rfl,b0,c0,rfl⟩ | ⟨ad,c,news,rfl,hnl,hnc,hn1,hnsh,hnr⟩
    ·refine ⟨x,w,[],?_,by simpa using kown,⟨rfl,rfl,rfl,Nat.le_refl _,fun _ _ _=>rfl⟩,.inl rfl,by simp,by simp⟩;rcases kown.2 with ⟨rfl,hn⟩ | ⟨g,bo,cap,cur,rfl,_,_,hnc,_⟩
     ·exact q16 hu hi none b0 0 0 c0 (Nat.le_refl _) w
     ·exact q16 hu hi _ b0 _ cap c0 hnc w
    ·obtain ⟨v',w',hrun,hown',hgr,_,hat⟩:=run_append_at (P:=P) w T ty k.e inf z (csz k.sh) by_ hu hi hiz hsz hby hzs hp x zs'.length _ kown ad ys.length c news hnl hnc hn1 hlim (by simpa [LIM] using hlb);exact ⟨v',w',news,hrun,hown',hgr,hat,hnsh,hnr⟩
   obtain ⟨v',w',news,hrun,hown',hgr,hat,hnsh,hnr⟩:=main;have hV:Value.tuple (m::ks).toArray=.tuple (m::ks).toArray:=rfl;have hxb:∀ b,x.ownBlock=some b->kidBlk x b:=by
    intro b hb;rcases kown.2 with ⟨rfl,_⟩ | ⟨g,bo,cap,cur,rfl,_⟩
    ·cases hb
    ·simp [Value.ownBlock] at hb;subst hb;rfl
   have hxB:∀ b,x.ownBlock=some b->Blk (.tuple (m::ks).toArray) b:=fun b hb=>q1e hV b3 (hxb b hb)
   have hvb:∀ b,Blk v' b->v'.ownBlock=some b:=by
    intro b hb;rcases hown'.2 with ⟨rfl,_⟩ | ⟨g,bo,cap,cur,rfl,_⟩
    ·exact hb.elim
    ·simp at hb;subst hb;rfl
   have hvc:∀ b,Blk v' b->x.ownBlock=some b∨b=w.heap.size:=by
    intro b hb;have h1:=hvb b hb;rcases hat with h2 | h2
    ·exact .inl (h2 ▸ h1)
    ·rw [h2] at h1;injection h1 with h1;exact .inr h1.symm
   have hlt:=(hs.lt id _ hρ).1;have hltb:=(hs.lt id _ hρ).2;obtain ⟨V,hVd⟩:∃ V,V=Value.tuple (m::ks.set i (.slice none 0 0)).toArray:=⟨_,rfl⟩;have hVm:mainV V=m:=by rw [hVd];rfl
   have hVb:∀ b,Blk V b->Blk (.tuple (m::ks).toArray) b /\ x.ownBlock≠some b:=by
    intro b hb;rw [hVd] at hb;obtain ⟨q,u,hq,hub⟩:=hb;cases q with
    | zero=>
     simp at hq;subst hq;exact ⟨⟨0,m,by simp,hub⟩,fun h=>hdis i x b b3 (hxb b h) hub⟩
    | succ q=>
     replace hq:(ks.set i (Value.slice none 0 0))[q]? = some u:=by simpa using hq
     by_cases e1:q=i
     ·subst e1;rw [List.getElem?_set_self (by rw [hks.len];exact hix)] at hq;injection hq with hq
      subst hq;exact hub.elim
     ·rw [List.getElem?_set_ne (Ne.symm e1)] at hq;exact ⟨q1e hV hq hub,fun h=>e1 (hks.inj q i u x b hq b3 hub (hxb b h))⟩
   have hunch:∀ b,b<w.heap.size->x.ownBlock≠some b->w'.heap[b]? = w.heap[b]?:=fun b hb hne=>hgr.block b hb fun h=>hne h.symm
   have him:∀ b,Im b->Im b /\ w'.heap[b]? = w.heap[b]?:=fun b hb=>⟨hb,hunch b (hs.im b hb) fun h=>(hbk b (hxB b h)).1 rfl hb⟩
   obtain ⟨X,hX⟩:∃ X,X=AObj.arr ⟨e'.t,some { k with nv:=k.nv+1,hole:=some i }⟩ sh' ver false xs:=⟨_,rfl⟩;obtain ⟨A,hA⟩:∃ A,A=AObj.arr k.e k.sh 0 false (zs'++ys):=⟨_,rfl⟩;rw [<- hX,<- hA] at hkk;have hoid:(o.set id X++[A])[id]? = some X:=by rw [List.getElem?_append_left (by simpa using hlt),List.getElem?_set_self hlt]
   have holen:(o.set id X++[A])[o.length]? = some A:=by rw [List.getElem?_append_right (by simp)];simp
   obtain ⟨R,hR⟩:∃ R,R=upd (upd ρ id (some V)) o.length (some v'):=⟨_,rfl⟩;have hRid:R id=some V:=by rw [hR,q0t (by omega),q0x]
   have hRlen:R o.length=some v':=by rw [hR,q0x]
   have hRne:∀ q,q≠id->q≠o.length->R q=ρ q:=fun q h1 h2=>by rw [hR,q0t h2,q0t h1]
   have hnone:ρ o.length=none:=by
    cases h:ρ o.length with
    | none=>rfl
    | some u=>have:=(hs.lt _ u h).1;omega
   have hc:q1u ρ R o (o.set id X++[A]):=by
    intro q a hq;have hql:=(List.getElem?_eq_some_iff.1 hq).1;by_cases e1:q=id
    ·subst e1;rw [ho] at hq;injection hq with hq
     subst hq;refine ⟨X,hoid,?_⟩;rw [hRid,hρ,hX];refine Or.inr ⟨rfl,rfl,Nat.le_refl _,?_,?_⟩
     ·simp [hVm,hmm]
     ·rw [hk];exact .inl (Nat.lt_succ_self _)
    ·refine ⟨a,by rw [List.getElem?_append_left (by simpa using hql),List.getElem?_set_ne (Ne.symm e1)];exact hq,?_⟩;rw [hRne q e1 (by omega)];cases a <;> simp [q1f]
   have hst:=Step.multi (w':=w') (ρ':=R) (o':=o.set id X++[A]) hs ⟨hgr.os,hgr.tape,hgr.output,hgr.size⟩ (fun q=>q=id∨q=o.length) (by simp) ?_ ?_ hc ?_ ?_ ?_ ?_ ?_ ?_ ?_ ?_ ?_
   ·refine ⟨_,_,v',w',Im,_,hkk,hrun,hst,?_⟩;simp only [RA,RS,RC,holen];rw [hA];exact ⟨Nat.le_refl _,fun _ _=>⟨by simp,v',hRlen,by rw [(q1b hown').1];exact q4h hown'⟩⟩
   ·intro q hq hql;simp only [not_or] at hq;exact ⟨by rw [List.getElem?_append_left (by simpa using hql),List.getElem?_set_ne (Ne.symm hq.1)],hRne q hq.1 hq.2⟩
   ·intro q hql hq;simp only [not_or] at hq;refine ⟨List.getElem?_eq_none (by simp;omega),?_⟩;rw [hRne q hq.1 hq.2];cases h:ρ q with
    | none=>rfl
    | some u=>have:=(hs.lt q u h).1;omega
   ·intro b hb hno;exact hunch b hb fun h=>hno id _ (.inl rfl) hρ (hxB b h)
   ·rintro q v b (rfl | rfl) hv hb
    ·rw [hρ] at hv;injection hv with hv
     subst hv;exact (hbk b hb).1 rfl
    ·rw [hnone] at hv;cases hv
   ·rintro q v b (rfl | rfl) hv hb
    ·rw [hRid] at hv;injection hv with hv
     subst hv;exact .inl ⟨q,_,.inl rfl,hρ,(hVb b hb).1⟩
    ·rw [hRlen] at hv;injection hv with hv
     subst hv;rcases hvc b hb with h1 | h1
     ·exact .inl ⟨id,_,.inl rfl,hρ,hxB b h1⟩
     ·exact .inr (by omega)
   ·rintro q v (rfl | rfl) hv
    ·rw [hRid] at hv;injection hv with hv
     subst hv;exact ⟨by simp;omega,fun b hb=>Nat.lt_of_lt_of_le (hltb b (hVb b hb).1) hgr.size⟩
    ·rw [hRlen] at hv;injection hv with hv
     subst hv;exact ⟨by simp,fun b hb=>q2w hown' b hb⟩
   ·have cross:∀ b,Blk V b->Blk v' b->False:=by
     intro b h1 h2;rcases hvc b h2 with h3 | h3
     ·exact (hVb b h1).2 h3
     ·have:=hltb b (hVb b h1).1;omega
    rintro q q' v v1 b (rfl | rfl) (rfl | rfl) h1 h2 h3 h4
    ·rfl
    ·rw [hRid] at h1;rw [hRlen] at h2;injection h1 with h1;injection h2 with h2
     subst h1;subst h2;exact (cross b h3 h4).elim
    ·rw [hRid] at h2;rw [hRlen] at h1;injection h1 with h1;injection h2 with h2
     subst h1;subst h2;exact (cross b h4 h3).elim
    ·rfl
   ·rintro q a v (rfl | rfl) ha hv
    ·rw [hoid] at ha;rw [hRid] at hv;injection ha with ha
     injection hv with hv
     subst ha;subst hv;rw [hX];refine ⟨vals,?_,hshp,fun p x j c y h1 h2 h3=>?_,fun b hb=>⟨fun _=>(hbk b (hVb b hb).1).1 rfl,fun h=>nomatch h⟩,rfl,ks.set i (.slice none 0 0),?_,⟨by simpa using hks.len,hks.jlt,?_,?_,?_,hks.one⟩,?_⟩
     ·rw [hVm];exact q4g (fun b hb=>hunch b (hltb b ⟨0,m,by simp,hb⟩) fun h=>hdis i x b b3 (hxb b h) hb) hown
     ·have h4:=hrp p x j c y h1 h2 h3;unfold RPk at h4 ⊢;rw [hk] at h4;exact fun hj=>RP.mono him (h4 hj)
     ·rw [hVm,hVd]
     ·intro p x1 hx1 hne;have hpi:p≠i:=fun h=>hne (by rw [h])
      obtain ⟨f2,ys2,u2,c1,c2,c3,c4,c5⟩:=hks.kid p x1 hx1 (by rw [hhole];simp);refine ⟨f2,ys2,u2,c1,c2,by rw [List.getElem?_set_ne (Ne.symm hpi)];exact c3,c4,c5.keep him fun b hb=>hunch b (hltb b (q1e hV c3 hb)) fun h=>hpi (hks.inj p i u2 x b c3 b3 hb (hxb b h))⟩
     ·intro p u2 hp2 hu2;injection hp2 with hp2
      subst hp2;rw [List.getElem?_set_self (by rw [hks.len];exact hix)] at hu2;injection hu2 with hu2
      exact hu2.symm
     ·have old:∀ (p:Nat) (u2:Value) (b:Nat),(ks.set i (Value.slice none 0 0))[p]? = some u2->kidBlk u2 b->ks[p]? = some u2:=by
       intro p u2 b hp2 hb;by_cases e1:p=i
       ·subst e1;rw [List.getElem?_set_self (by rw [hks.len];exact hix)] at hp2;injection hp2 with hp2
        subst hp2;exact hb.elim
       ·rwa [List.getElem?_set_ne (Ne.symm e1)] at hp2
      intro p p' u2 u3 b h1 h2 h3 h4;exact hks.inj p p' u2 u3 b (old p u2 b h1 h3) (old p' u3 b h2 h4) h3 h4
     ·intro p u2 b hp2 hb;rw [hVm];by_cases e1:p=i
      ·subst e1;rw [List.getElem?_set_self (by rw [hks.len];exact hix)] at hp2;injection hp2 with hp2
       subst hp2;exact hb.elim
      ·rw [List.getElem?_set_ne (Ne.symm e1)] at hp2;exact hdis p u2 b hp2 hb
    ·rw [holen] at ha;rw [hRlen] at hv;injection ha with ha
     injection hv with hv
     subst ha;subst hv;rw [hA];refine ⟨kvals++news,by rw [(q1b hown').1,List.length_append];exact hown',?_,?_,fun b hb=>⟨fun _ hI=>?_,fun h=>nomatch h⟩,fun _=>(q1b hown').1⟩
     ·intro x hx;rcases List.mem_append.1 hx with hx | hx
      ·exact kshp x hx
      ·exact hnsh x hx
     ·intro p x j c u hx hj hu;exact RP.mono him (y53 (n:=0) kown.1 (fun x hx=>PV.shp_len (kshp x hx)) (fun y hy=>PV.shp_len (hnsh y hy)) krp hnr p x j c u hx hj hu)
     ·rcases hvc b hb with h1 | h1
      ·exact (hbk b (hxB b h1)).1 rfl hI
      ·have:=hs.im b hI;omega
   ·rintro q (rfl | rfl) hd
    ·rw [hoid,hX] at hd;cases hd
    ·rw [holen,hA] at hd;cases hd
   ·rintro q a (rfl | rfl) _ _
    ·exact ⟨_,hRid⟩
    ·exact ⟨_,hRlen⟩
   ·rintro q (rfl | rfl) hql h0
    ·rw [hρ] at h0;cases h0
    ·omega
  ·cases h
 ·cases h
theorem y6d (hE:EnvOK P E) (hs:SR w Im ρ o) {T ty:TypeId} {a b:AV} {x y:Value} (ha:RA w Im ρ o a x) (hb:RA w Im ρ o b y) (h:opAppend E T a b o K=some r):Did P w Im ρ o K r (Builtin.append_ #[T,T] ty #[x,y]):=by
 unfold opAppend at h;split at h
 ·rename_i e sh by_ av bv hT hav hbv;rw [q0s hav] at ha;rw [q0s hbv] at hb;obtain ⟨rv,hrv,h1⟩:=bind_some h;clear h;obtain ⟨ys,hys,h⟩:=bind_some h1;clear h1;have hnews:=y5n hs hb hrv hys;obtain ⟨hu,⟨inf,z,hi,hsz,hby,hiz,hzs⟩,_⟩:=hE.sl T e sh by_ hT;have hp:=q3w sh;split at h
  ·exact y3m hE hs hT ha hnews h
  rename_i hnel;unfold y0r at h;split at h
  ·rename_i v;obtain ⟨⟨sh',f,xs⟩,hq,h⟩:=bind_some h;obtain rfl:=q41 hq
   ·simp only at h ha
    have hx:RP w Im (.row sh' f xs) x:=ha;cases hye:ys.isEmpty
    ·rw [hye] at h;simp only [cond_false] at h;obtain ⟨hcnd,hk⟩:=q0j h;simp only [Bool.and_eq_true,Bool.or_eq_true,beq_iff_eq,decide_eq_true_eq] at hcnd;obtain ⟨⟨hf,hlb⟩,hll⟩:=hcnd;have hyne:ys≠[]:=fun h=>by simp [h] at hye
     rcases hnews with ⟨h0,_⟩ | ⟨ad,c,news,rfl,hnl,hnc,hn1,hnsh,hnr⟩
     ·exact absurd h0 hyne
     have hyp:0<ys.length:=List.length_pos_iff.2 hyne;have hsmall:ys.length<=maxLen:=by simp only [maxLen];simp only [LIM] at hll;omega
     cases hx with
     | nil=>
      obtain ⟨v',w',hrun,hown,hgr,_,hat⟩:=run_append_at (P:=P) w T ty e inf z (csz sh) by_ hu hi hiz hsz hby hzs hp (.slice none 0 0) 0 [] (World.ownsAt_nil w 0 e (csz sh)) ad ys.length c news hnl hnc hn1
       (by simpa using hsmall) (by simpa [LIM] using hlb)
      simp only [Nat.zero_add,List.nil_append] at hown;refine q5q (e:=e) (sh:=sh) (xs:=ys) (vals:=news) hs ⟨hgr.os,hgr.tape,hgr.output,hgr.size⟩ (fun b hb=>hgr.block b hb (by simp [Value.ownBlock])) hown ?_ hnsh hnr hrun (by simpa using hk);intro b hb;have hbo:v'.ownBlock=some b:=by
       rcases hown.2 with ⟨rfl,_⟩ | ⟨g,bo,cap,cur,rfl,_⟩
       ·exact hb.elim
       ·simp at hb;subst hb;rfl
      rcases hat with h1 | h1
      ·rw [h1] at hbo;cases hbo
      ·rw [h1] at hbo;injection hbo with hbo;omega
     | row _ _ _ ad0 cap g hf2 hsp hcap hm h1 him hshp hcell hrp=>
      have hf1:f=1 /\ sh=sh':=by
       rcases hf with hf | hf
       ·exact absurd hf hf2
       ·exact hf
      obtain ⟨rfl,rfl⟩:=hf1;have hcl:=h1 rfl;subst hcl;have hxr:RP w Im (.row sh 1 xs) (.slice (some ad0) xs.length xs.length):=.row sh 1 xs ad0 xs.length g hf2 hsp hcap hm h1 him hshp hcell hrp;have hshx:∀ x∈xs,x.shp sh=true:=fun x hx=>by
       obtain ⟨i,hi,rfl⟩:=List.getElem_of_mem hx;exact hshp i _ (by simp [hi])
      have holds:∃ olds:List Value,olds.length=xs.length*csz sh /\ (∀ (j:Nat) (v:Value),olds[j]? = some v->w.cell? (ad0.add j)=some v) /\
        ∀ (i:Nat) (x:PV) (j:Nat) (c:PV) (u:Value),xs[i]? = some x->x.cells[j]? = some c->olds[i*csz sh+j]? = some u->RP w Im c u:=by
       rcases News.of_row (Im:=Im) hxr (fun i x j c u _ _ h=>h) with ⟨h0,_⟩ | ⟨a1,c1,olds,he,h2,h3,h4,h5,h6⟩
       ·exact ⟨[],by simp [h0],by simp,by simp⟩
       ·injection he with he1 he2 he3
        injection he1 with he1
        subst he1;exact ⟨olds,h2,h3,h6⟩
      obtain ⟨olds,hol,hoc,hor⟩:=holds;have hlim:xs.length+ys.length<=maxLen:=by simp only [maxLen];simp only [LIM] at hll;omega
      have hrun:=run_append_grow (P:=P) w T ty e inf z hu hi hiz ad0 xs.length xs.length olds (by rw [hsz];exact hol) hoc ad ys.length c news (by rw [hsz];exact hnl) hnc (by omega) (by simp only [maxLen] at hlim;omega)
       (by rw [hby];exact growslice_fits (by omega) hlb)
      have hge:=grownCap_ge w (xs.length+ys.length) xs.length e;have hcm:=grownCap_le_maxLen w (xs.length+ys.length) xs.length e hlim;refine q5q (w':=w.drew.alloc _) (e:=e) (sh:=sh) (xs:=xs++ys) (vals:=olds++news) hs ⟨rfl,rfl,rfl,by simp⟩ (fun b hb=>(heap_alloc_old w.drew _ hb)) ?_ (fun b hb=>by simp at hb;omega) ?_ ?_ hrun (by simpa using hk)
      ·refine World.ownsAt_of ⟨by rw [List.length_append,List.length_append,hol,hnl,Nat.add_mul],.inr ⟨w.heap.size,_,_,by simp,Nat.zero_le _,heap_alloc_new w.drew _,by simpa using hge,hcm,?_,?_⟩⟩
       ·simp only [Array.size_append,List.size_toArray,size_zeroCells,hzs,hol,hnl,<- Nat.add_mul]
        congr 1
        omega
       ·have:(xs++ys).length*csz sh=(olds++news).length:=by simp [hol,hnl,Nat.add_mul]
        rw [this];simp only [Array.toList_append,List.append_assoc];rw [<- List.append_assoc];exact List.take_left
      ·intro x hx;rcases List.mem_append.1 hx with hx | hx
       ·exact hshx x hx
       ·exact hnsh x hx
      ·exact y53 (s:=csz sh) (n:=0) hol (fun x hx=>PV.shp_len (hshx x hx)) (fun y hy=>PV.shp_len (hnsh y hy)) hor hnr
    ·rw [hye] at h;simp only [cond_true] at h;have hye':ys=[]:=by simpa using hye
     subst hye';have hy0:∃ b c,y=.slice b 0 c:=by
      rcases hnews with ⟨_,h⟩ | ⟨a1,c,news,rfl,_⟩
      ·exact h
      ·exact ⟨_,_,rfl⟩
     obtain ⟨b0,c0,rfl⟩:=hy0;cases hx with
     | nil=>exact Did.same hs h (q16 hu hi none b0 0 0 c0 (Nat.le_refl _) w) (by cases (f==2) <;> exact RP.nil _ _ (by decide))
     | row _ _ _ ad0 cap g hf2 hsp hcap hm h1 him hshp hcell hrp=>
      refine Did.same hs h (q16 hu hi (some ad0) b0 xs.length cap c0 hcap w) ?_
      have:(f==2)=false:=by simpa using hf2
      rw [this];exact RP.row sh' 0 xs ad0 cap g (by decide) hsp hcap hm (fun h=>by cases h) him hshp hcell hrp
  ·rename_i id ver sh' lo len;split at h
   ·rename_i e' sh'' ver' xs ho;obtain ⟨hcnd,hk⟩:=q0j h;simp only [Bool.and_eq_true,beq_iff_eq,decide_eq_true_eq] at hcnd;obtain ⟨⟨⟨⟨⟨rfl,rfl⟩,rfl⟩,rfl⟩,hlb⟩,hll⟩:=hcnd;simp only [RA,RS,RC,ho] at ha;obtain ⟨hle,v,hρ,hsl⟩:=ha.2 trivial trivial;obtain ⟨vals0,hown0,hshp0,hrp0,hbk,_⟩:=hs.ob id _ _ ho hρ
    replace hrp0:∀ (i:Nat) (x:PV) (j:Nat) (c:PV) (y:Value),xs[i]? = some x->x.cells[j]? = some c->vals0[i*csz sh+j]? = some y->RP w Im c y:=hrp0
    obtain ⟨hown2,hbx⟩:=x6n hown0 hsl hle;have hxno:∀ b,x.ownBlock=some b->Blk v b:=by
     intro b hb;refine q1g ((hbx b).1 ?_);rcases hown2.2 with ⟨rfl,_⟩ | ⟨g,bo,cap,cur,rfl,_⟩
     ·cases hb
     ·simp [Value.ownBlock] at hb;subst hb;rfl
    have hni:∀ b,Blk v b->¬ Im b:=fun b hb=>(hbk b hb).1 rfl
    have hlim:len+ys.length<=maxLen:=by simp only [maxLen];simp only [LIM] at hll;omega
    obtain ⟨xt,hxt⟩:∃ xt,xt=(xs.drop lo).take len:=⟨_,rfl⟩;obtain ⟨vt,hvt⟩:∃ vt,vt=(vals0.drop (lo*csz sh)).take (len*csz sh):=⟨_,rfl⟩;rw [<- hxt] at hk;rw [<- hvt] at hown2;have hxs:∀ x∈xt,x.shp sh=true:=fun x hx=>hshp0 x (List.mem_of_mem_drop (List.mem_of_mem_take (hxt ▸ hx)))
    have hxl:xt.length=len:=by rw [hxt];simp;omega
    have hrp2:∀ (i:Nat) (x:PV) (j:Nat) (c:PV) (u:Value),xt[i]? = some x->x.cells[j]? = some c->vt[i*csz sh+j]? = some u->RP w Im c u:=by
     intro i x j c u hx hj hu;have hil:i<len:=by have:=(List.getElem?_eq_some_iff.1 hx).1;rwa [hxl] at this
     rw [hxt,List.getElem?_take_of_lt hil,List.getElem?_drop] at hx;refine hrp0 (lo+i) x j c u hx hj ?_;rw [hvt,List.getElem?_take] at hu;split at hu
     ·rw [List.getElem?_drop] at hu;rw [Nat.add_mul,Nat.add_assoc];exact hu
     ·cases hu
    have main:∃ (v':Value) (w':World) (news:List Value),(Builtin.append_ #[T,T] ty #[x,y]).run P w=.ok v' w' /\ w'.ownsAt 0 e (csz sh) v' (len+ys.length) (vt++news) /\ w.grownBy w' x.ownBlock /\
      (v'.ownBlock=x.ownBlock∨v'.ownBlock=some w.heap.size) /\ (∀ x∈ys,x.shp sh=true) /\ ∀ (i:Nat) (x:PV) (j:Nat) (c:PV) (u:Value),ys[i]? = some x->x.cells[j]? = some c->news[i*csz sh+j]? = some u->RP w Im c u:=by
     rcases hnews with ⟨rfl,b0,c0,rfl⟩ | ⟨ad,c,news,rfl,hnl,hnc,hn1,hnsh,hnr⟩
     ·refine ⟨x,w,[],?_,by simpa using hown2,⟨rfl,rfl,rfl,Nat.le_refl _,fun _ _ _=>rfl⟩,.inl rfl,by simp,by simp⟩;rcases hown2.2 with ⟨rfl,rfl⟩ | ⟨g,bo,cap,cur,rfl,_,_,hnc,_⟩
      ·exact q16 hu hi none b0 0 0 c0 (Nat.le_refl _) w
      ·exact q16 hu hi _ b0 len cap c0 hnc w
     ·obtain ⟨v',w',hrun,hown',hgr,_,hat⟩:=run_append_at (P:=P) w T ty e inf z (csz sh) by_ hu hi hiz hsz hby hzs hp x len _ hown2 ad ys.length c news hnl hnc hn1 hlim (by simpa [LIM] using hlb);exact ⟨v',w',news,hrun,hown',hgr,hat,hnsh,hnr⟩
    obtain ⟨v',w',news,hrun,hown',hgr,hat,hnsh,hnr⟩:=main;have hbv':∀ b,Blk v' b->v'.ownBlock=some b:=by
     intro b hb;rcases hown'.2 with ⟨rfl,_⟩ | ⟨g,bo,cap,cur,rfl,_⟩
     ·exact hb.elim
     ·simp at hb;subst hb;rfl
    have hbv:∀ b,Blk v' b->Blk v b∨w.heap.size=b:=by
     intro b hb;have hb:=hbv' b hb;rcases hat with h1 | h1
     ·rw [h1] at hb;exact .inl (hxno b hb)
     ·rw [h1] at hb;injection hb with hb;exact .inr hb
    have hblock:∀ b,b<w.heap.size->¬ Blk v b->w'.heap[b]? = w.heap[b]?:=fun b hb hne=>hgr.block b hb (fun h=>hne (hxno b h.symm))
    have him:∀ b,Im b->Im b /\ w'.heap[b]? = w.heap[b]?:=fun b hb=>⟨hb,hblock b (hs.im b hb) (fun h=>hni b h hb)⟩
    have hlx:(xt++ys).length=len+ys.length:=by rw [List.length_append,hxl]
    have hst:=Step.turn (w':=w') (x':=.arr e sh (ver+1) false (xt++ys)) (v':=v') hs ⟨hgr.os,hgr.tape,hgr.output,hgr.size⟩ ho hρ (by simp) (Or.inl (Nat.lt_succ_self _)) hblock hni
     (fun b hb=>(hbv b hb).imp (fun h=>h) (fun h=>by omega)) (fun b hb=>q2w hown' b hb) ?_
    ·refine ⟨_,_,v',w',Im,_,hk,hrun,hst,?_⟩;simp only [RA,RS,RC];rw [List.getElem?_set_self (List.getElem?_eq_some_iff.1 ho).1];exact ⟨Nat.le_refl _,fun _ _=>⟨by rw [hlx];omega,v',q0x,by rw [(q1b hown').1];exact q4h hown'⟩⟩
    ·refine ⟨vt++news,by rw [hlx,(q1b hown').1];exact hown',?_,?_,fun b hb=>⟨fun _ hI=>?_,fun h=>nomatch h⟩,fun _=>(q1b hown').1⟩
     ·intro x hx;rcases List.mem_append.1 hx with hx | hx
      ·exact hxs x hx
      ·exact hnsh x hx
     ·intro i x j c u hx hj hu;exact RP.mono him (y53 (n:=0) (by rw [hown2.1,hxl]) (fun x hx=>PV.shp_len (hxs x hx)) (fun y hy=>PV.shp_len (hnsh y hy)) hrp2 hnr i x j c u hx hj hu)
     ·rcases hbv b hb with h1 | h1
      ·exact hni b h1 hI
      ·have:=hs.im b hI;omega
   ·cases h
  ·cases h
 ·cases h
theorem y4x (hE:EnvOK P E) (hs:SR w Im ρ o) {T T' ty:TypeId} {a b:AV} {x y:Value} (ha:RA w Im ρ o a x) (hb:RA w Im ρ o b y) (h:opAppendZ E T T' a b o K=some r):Did P w Im ρ o K r (Builtin.append_ #[T,T'] ty #[x,y]):=by
 unfold opAppendZ at h;split at h
 ·rename_i e sh by_ kn v hT hT' hav;obtain ⟨⟨sh',f,xs⟩,hq,h⟩:=bind_some h;obtain ⟨zs,hz,h⟩:=bind_some h;obtain ⟨n,hn,h⟩:=bind_some h;obtain ⟨hcnd,hk⟩:=q0j h;simp only [Bool.and_eq_true,beq_iff_eq,decide_eq_true_eq] at hcnd;obtain ⟨⟨⟨⟨hxs,rfl⟩,h0⟩,hby⟩,hlim⟩:=hcnd;have hx:=ha.pv hav;rw [q41 hq] at hx;obtain rfl:x=.slice none 0 0:=by
   cases hx with
   | nil=>rfl
   | row _ _ _ a cap g hf2=>exact absurd rfl hf2
  obtain ⟨kb,rfl⟩:=hb.int hn;obtain ⟨hu,⟨inf,z,hi,hsz,hbe,hiz,hzs⟩,hsh,_⟩:=hE.sl T e sh by_ hT;obtain ⟨i2,z2,sh2,hi2,hz2,hl2,hsh2,hl3,hone,hrp⟩:=hE.zr e zs hz;rw [hi] at hi2;injection hi2 with hi2
  subst hi2;rw [hiz] at hz2;injection hz2 with hz2
  subst hz2;rw [hsh] at hsh2;injection hsh2 with hsh2
  subst hsh2;obtain ⟨x,hx⟩:∃ x,x=q5r sh zs:=⟨_,rfl⟩;simp only [<- hx] at hk hxs;have hp:=q3w sh;have hxc:x.cells=zs:=by
   cases sh with
   | zero=>
    have hlz:zs.length=1:=hl3
    match zs,hlz with
    | [a],_=>
     simp [q5r] at hx;subst hx;exact PV.cells_of_one (hone _ (by simp))
   | succ k=>subst hx;rfl
  obtain ⟨N,rfl⟩:∃ N:Nat,n=N:=⟨n.toNat,by omega⟩;simp only [Int.toNat_natCast] at hk hby hlim;have hN:N<=maxLen:=by simp only [LIM] at hlim;simp only [maxLen];omega
  have hrun:=Go.Lib.run_append_nil_zeros (P:=P) w T T' ty e inf z kb kn hu (hE.ik T' kn hT') hi hiz N (by omega) (by omega) (by simp only [LIM] at hlim;omega) (by rw [hbe];simp only [LIM] at hby;omega);have hge:=grownCap_ge w N 0 e;have hcm:=grownCap_le_maxLen w N 0 e hN;refine q5q (w':=w.drew.alloc _) (e:=e) (sh:=sh) (xs:=List.replicate N x) (vals:=(Builtin.zeroCells z.cells N).toList) hs ⟨rfl,rfl,rfl,by simp⟩ (fun b hb=>(heap_alloc_old w.drew _ hb)) ?_ (fun b hb=>by simp at hb;omega) (fun y hy=>by rw [List.eq_of_mem_replicate hy];exact hxs) ?_ hrun (by simpa using hk)
  ·refine World.ownsAt_of ⟨by simp [size_zeroCells,hzs],.inr ⟨w.heap.size,_,_,by simp,Nat.zero_le _,heap_alloc_new w.drew _,by simpa using hge,hcm,?_,?_⟩⟩
   ·rw [Array.size_append,size_zeroCells,size_zeroCells,hzs,<- Nat.add_mul]
    congr 1
    omega
   ·have:(List.replicate N x).length*csz sh=(Builtin.zeroCells z.cells N).toList.length:=by simp [size_zeroCells,hzs]
    rw [this];simp only [Array.toList_append];exact List.take_left
  ·intro i y j c u hy hj hu;have hiN:i<N:=by simpa using (List.getElem?_eq_some_iff.1 hy).1
   obtain rfl:y=x:=by
    have:=(List.getElem?_eq_some_iff.1 hy).2
    simpa using this.symm
   rw [hxc] at hj;have hjl:j<csz sh:=by rw [<- hl3];exact (List.getElem?_eq_some_iff.1 hj).1
   have hfl:=q4t hiN hjl;have h2:(i*csz sh+j) % csz sh=j:=by rw [Nat.mul_comm,Nat.mul_add_mod,Nat.mod_eq_of_lt hjl]
   have hzj:j<z.cells.size:=by omega
   have:u=z.cells[j]:=by
    rw [Array.getElem?_toList] at hu;simp [Builtin.zeroCells,hzs,hfl,h2,hzj] at hu;rw [<- hu,getElem!_pos z.cells j hzj]
   subst this;exact hrp j c _ hj (by simp [hzj]) w Im
 ·cases h
theorem x26 (hs:SR w Im ρ o) {id ver lo:Nat} {e:Et} {xs ys:List PV} {news:List Value} {v:Value} {g bo n0 cap:Nat}
  (ho:o[id]? = some (.arr e 0 ver false xs)) (hρ:ρ id=some v) (hkd:e.kd=none) (hpos:0<xs.length) (hm:mainV v=.slice (some ⟨g,bo,none⟩) n0 cap) (hl:news.length=ys.length) (hle:lo+ys.length<=xs.length)
  (hsh:∀ x∈ys,x.shp 0=true) (hr:∀ (i:Nat) (x:PV) (j:Nat) (c:PV) (u:Value),ys[i]? = some x->x.cells[j]? = some c->news[i*csz 0+j]? = some u->RP w Im c u) :
  ∃ cur,w.heap[g]? = some (.cells cur e.t (0,0)) /\ bo+xs.length<=cur.size /\
   Step w Im ρ o (w.setRow g (cur.toList.take (bo+lo)++news++cur.toList.drop (bo+lo+news.length)).toArray) Im ρ (o.set id (.arr e 0 ver false (xs.take lo++ys++xs.drop (lo+ys.length)))):=by
 have c0:csz 0=1:=rfl;have hid:=(List.getElem?_eq_some_iff.1 ho).1;obtain ⟨vals,hown,hshp,hrp,hbk,hkids⟩:=hs.ob id _ _ ho hρ;have hvl:=hown.1;rw [c0,Nat.mul_one] at hvl;obtain ⟨hnc,hcm,cur,hg,hcs,htk,hn0⟩:xs.length<=cap /\ cap<=maxLen /\ ∃ cur:Array Value,w.heap[g]? = some (.cells cur e.t (0,0)) /\ cur.size=bo+cap /\ (cur.toList.drop bo).take xs.length=vals /\ n0=xs.length:=by
  rcases hown.2 with ⟨h1,_⟩ | ⟨g',bo',cap',cur,h1,_,h3,h4,h5,h6,h7⟩
  ·rw [hm] at h1;cases h1
  ·rw [hm] at h1;injection h1 with h1 h2 h8
   injection h1 with h1
   injection h1 with h1 h9
   subst h1;subst h8;subst h9;exact ⟨h4,h5,cur,h3,by rw [h6 (by omega),c0,Nat.mul_one],by rw [c0,Nat.mul_one] at h7;exact h7,h2⟩
 have hgb:kidBlk (mainV v) g:=by rw [hm];rfl
 have hbv:Blk v g:=q1g hgb;have hv1:mainV v=v:=by simp only [RKids,hkd] at hkids;exact hkids trivial
 have hbo:∀ b,Blk v b->b=g:=by
  intro b hb;rw [<- hv1,hm] at hb;simpa using hb.symm
 have hni:∀ b,Blk v b->¬ Im b:=fun b hb=>(hbk b hb).1 rfl
 obtain ⟨NC,hNC⟩:∃ NC,NC=(cur.toList.take (bo+lo)++news++cur.toList.drop (bo+lo+news.length)).toArray:=⟨_,rfl⟩;refine ⟨cur,hg,by omega,?_⟩;rw [<- hNC];have hcl:cur.toList.length=bo+cap:=by rw [Array.length_toList];exact hcs
 have hNl:NC.toList=cur.toList.take (bo+lo)++news++cur.toList.drop (bo+lo+news.length):=by rw [hNC]
 have hidρ:upd ρ id (some v)=ρ:=by
  funext i
  by_cases e1:i=id
  ·rw [e1,q0x,hρ]
  ·rw [q0t e1]
 obtain ⟨x',hx'⟩:∃ x',x'=AObj.arr e 0 ver false (xs.take lo++ys++xs.drop (lo+ys.length)):=⟨_,rfl⟩;rw [<- hx'];have hxl:(xs.take lo++ys++xs.drop (lo+ys.length)).length=xs.length:=by simp;omega
 have hcomp:q1u ρ (upd ρ id (some v)) o (o.set id x'):=by
  intro q a hq;by_cases e1:q=id
  ·subst e1;rw [ho] at hq;injection hq with hq
   subst hq;exact ⟨_,by rw [List.getElem?_set_self hid],by rw [hidρ,hx'];exact Or.inr ⟨rfl,rfl,Nat.le_of_eq hxl.symm,rfl,q6a _ rfl⟩⟩
  ·exact ⟨a,by rw [List.getElem?_set_ne (Ne.symm e1)];exact hq,by rw [hidρ];cases a <;> simp [q1f]⟩
 have him:∀ k,Im k->Im k /\ (w.setRow g NC).heap[k]? = w.heap[k]?:=fun k hk=>⟨hk,setRow_other w g k NC (fun e=>hni g hbv (e ▸ hk))⟩
 have hst:=Step.turn (w':=w.setRow g NC) (x':=x') (v':=v) hs (q64 w g NC) ho hρ (by rw [hx'];simp) (by rw [hx'];exact Or.inr ⟨rfl,rfl,Nat.le_of_eq hxl.symm,rfl,q6a _ rfl⟩)
  (fun k hk hne=>setRow_other w g k NC (fun e=>hne (by rw [e];exact hbv))) hni (fun b hb=>.inl hb) (fun k hk=>by rw [setRow_size];exact (hs.lt id v hρ).2 k hk) ?_
 ·rw [hidρ] at hst;exact hst
 ·rw [hx'];refine ⟨vals.take lo++news++vals.drop (lo+news.length),⟨?_,.inr ⟨g,bo,cap,NC,by rw [hm,hxl,hn0],Nat.zero_le _,setRow_heap w g cur NC e.t _ hg,by rw [hxl];exact hnc,hcm,fun _=>?_,?_⟩⟩,?_,?_,?_,?_⟩
  ·rw [hxl,c0,Nat.mul_one];simp;omega
  ·rw [c0,Nat.mul_one,<- Array.length_toList,hNl];simp [hcs];omega
  ·rw [hxl,c0,Nat.mul_one,hNl,<- htk,Nat.add_assoc,z1g _ _ _ _ _ (by omega),z1y _ _ _ _ (by omega) (by simp;omega)]
  ·intro x hx;rcases List.mem_append.1 hx with hx | hx
   ·rcases List.mem_append.1 hx with hx | hx
    ·exact hshp x (List.mem_of_mem_take hx)
    ·exact hsh x hx
   ·exact hshp x (List.mem_of_mem_drop hx)
  ·intro i x j c u hx hj hu;have hjl:j<csz 0:=by
    have hxs:x.shp 0=true:=by
     rcases List.mem_append.1 (List.mem_of_getElem? hx) with hx | hx
     ·rcases List.mem_append.1 hx with hx | hx
      ·exact hshp x (List.mem_of_mem_take hx)
      ·exact hsh x hx
     ·exact hshp x (List.mem_of_mem_drop hx)
    rw [<- PV.shp_len hxs];exact (List.getElem?_eq_some_iff.1 hj).1
   have hj0:j=0:=by omega
   subst hj0;rw [c0,Nat.mul_one,Nat.add_zero] at hu;rw [q1s _ _ _ _ hle] at hx;rw [q1s _ _ _ _ (by omega),hl] at hu;by_cases h1:i<lo
   ·rw [if_pos h1] at hx hu;exact (hrp i x 0 c u hx hj (by rw [c0,Nat.mul_one];exact hu)).keep him
   ·rw [if_neg h1] at hx hu;by_cases h2:i<lo+ys.length
    ·rw [if_pos h2] at hx hu;simp only [RPk,hkd];exact RP.mono him (hr _ x 0 c u hx hj (by rw [c0,Nat.mul_one];exact hu))
    ·rw [if_neg h2] at hx hu;exact (hrp i x 0 c u hx hj (by rw [c0,Nat.mul_one];exact hu)).keep him
  ·intro b hb;exact ⟨fun _=>hni b hb,fun hf=>nomatch hf⟩
  ·simp only [RKids,hkd];exact fun _=>hv1
theorem y8r {id:Nat} {x:AObj} (h:o[id]? = some x):o.set id x=o:=by
 apply List.ext_getElem?;intro i;by_cases e1:i=id
 · subst e1;rw [List.getElem?_set_self (List.getElem?_eq_some_iff.1 h).1,h]
 · rw [List.getElem?_set_ne (Ne.symm e1)]
theorem x2q (hE:EnvOK P E) (hs:SR w Im ρ o) {T T' ty:TypeId} {a b:AV} {x y:Value} (ha:RA w Im ρ o a x) (hb:RA w Im ρ o b y) (h:opCopy E T a b o K=some r):Did P w Im ρ o K r (Builtin.copy_ #[T,T'] ty #[x,y]):=by
 unfold opCopy at h;split at h
 ·rename_i e sh by_ id ver sh1 lo len bv hT hav hbv;rw [q0s hav] at ha;rw [q0s hbv] at hb;obtain ⟨rv,hrv,h1⟩:=bind_some h;clear h;obtain ⟨ys,hys,h⟩:=bind_some h1;clear h1;have hnews:=y5n hs hb hrv hys;obtain ⟨hu,⟨inf,z,hi,hsz,hby,hiz,hzs⟩,_⟩:=hE.sl T e sh by_ hT;split at h
  ·rename_i e' sh' ver' xs ho;obtain ⟨hcnd,hk⟩:=q0j h;simp only [Bool.and_eq_true,beq_iff_eq,Option.isNone_iff_eq_none] at hcnd;obtain ⟨⟨⟨⟨⟨rfl,rfl⟩,rfl⟩,hkd⟩,rfl⟩,he⟩:=hcnd;simp only [RA,RS,RC,ho] at ha;obtain ⟨_,ha⟩:=ha;obtain ⟨hle,v,hρ,hsl⟩:=ha trivial trivial;have c0:csz 0=1:=rfl;have hs1:inf.size=1:=hsz;obtain ⟨vals,hown,_⟩:=hs.ob id _ _ ho hρ;by_cases hn:min ys.length len=0
   ·rw [hn] at hk;simp only [List.take_zero,List.append_nil,List.length_nil,Nat.add_zero,List.take_append_drop] at hk;rw [y8r ho] at hk;have hrun:(Builtin.copy_ #[T,T'] ty #[x,y]).run P w=.ok (goInt (0:Nat)) w:=by
     have hx:∃ p cap,x=.slice p len cap:=by
      unfold RSl at hsl;split at hsl
      ·obtain ⟨off,h1,_⟩:=hsl;exact ⟨_,_,h1⟩
      ·obtain ⟨_,rfl,h1⟩:=hsl;exact ⟨_,_,h1⟩
      ·exact hsl.elim
     obtain ⟨p,cap,rfl⟩:=hx;have hy:∃ p2 cap2,y=.slice p2 ys.length cap2:=by
      rcases hnews with ⟨rfl,b,c,h1⟩ | ⟨ad,c,news,h1,_⟩
      ·exact ⟨_,_,h1⟩
      ·exact ⟨_,_,h1⟩
     obtain ⟨p2,cap2,rfl⟩:=hy;have hn2:Nat.min ys.length len=0:=hn;cases p <;> cases p2 <;> simp [Builtin.copy_,run_underlying hu,Builtin.lenOf,Builtin.firstCells,sizeOf,typeInfo,hi,hs1,hn2,loadCells,loadCellsFrom,storeCells]
    exact ⟨_,_,_,_,Im,ρ,hk,hrun,Step.refl hs,RP.int _ _⟩
   ·rcases hnews with ⟨rfl,_⟩ | ⟨ad,c,news,rfl,hnl,hnc,hn1,hnsh,hnr⟩
    ·simp at hn
    have hlen:0<len:=by omega
    obtain ⟨g,bo,n0,cap,hm,off,hx,hlo,hoff⟩:∃ g bo n0 cap,mainV v=.slice (some ⟨g,bo,none⟩) n0 cap /\ ∃ off,x=.slice (some ⟨g,off,none⟩) len (cap-lo) /\ lo<=cap /\ (lo=0∨0<cap-lo->off=bo+lo*csz 0):=by
     rcases hown.2 with ⟨h1,h2⟩ | ⟨g,bo,cap,cur,h1,_⟩
     ·rw [h1] at hsl
      have:=hsl.2.1
      omega
     ·rw [h1] at hsl ⊢;obtain ⟨off,h2,h3,h4⟩:=hsl;exact ⟨g,bo,_,cap,rfl,off,h2,h3,h4⟩
    have hcapn:xs.length<=cap:=by
     rcases hown.2 with ⟨h1,h2⟩ | ⟨g',bo',cap',cur,h1,_,_,h4,_⟩
     ·rw [hm] at h1;cases h1
     ·rw [hm] at h1;injection h1 with h1 h2 h3;rw [h3];exact h4
    have hoff:off=bo+lo:=by rw [hoff (.inr (by omega)),c0,Nat.mul_one]
    subst hoff;subst hx;rw [c0,Nat.mul_one] at hnl;have htl:(ys.take (min ys.length len)).length=min ys.length len:=by simp
    obtain ⟨cur,hg,hcsz,hst⟩:=x26 (ys:=ys.take (min ys.length len)) (news:=news.take (min ys.length len)) (lo:=lo) hs ho hρ hkd (by omega) hm (by simp [hnl]) (by rw [htl];omega) (fun q hq=>hnsh q (List.mem_of_mem_take hq)) (by
     intro i q j cc u hq hj hu;rw [List.getElem?_take] at hq hu;split at hq
     ·split at hu
      ·exact hnr i q j cc u hq hj hu
      ·cases hu
     ·cases hq)
    have hnt:(news.take (min ys.length len)).length=min ys.length len:=by simp [hnl]
    have hrun:=run_copy_row (P:=P) w T T' ty e g (bo+lo) len (cap-lo) ad ys.length c cur e'.t (news.take (min ys.length len)) hu (by rw [hi];simp [hs1]) hg hnt
     (fun j u hj=>hnc j u (by rw [List.getElem?_take] at hj;split at hj;exact hj;cases hj)) (by rw [hnt];omega) (fun u hu=>hn1 u (List.mem_of_mem_take hu))
    refine ⟨_,_,_,_,Im,ρ,hk,hrun,hst,?_⟩;rw [hnt];exact RP.int _ _
  ·cases h
 ·cases h
theorem y9k (hE:EnvOK P E) (hs:SR w Im ρ o) {T ty:TypeId} {a:AV} {x:Value} (ha:RA w Im ρ o a x) (h:opClear E T a o K=some r):Did P w Im ρ o K r (Builtin.clear_ #[T] ty #[x]):=by
 unfold opClear at h;split at h
 ·rename_i e sh by_ id ver sh1 lo len hT hav;rw [q0s hav] at ha;obtain ⟨zs,hz,h1⟩:=bind_some h;clear h;obtain ⟨hu,⟨inf,z,hi,hsz,hby,hiz,hzs⟩,hsh,_⟩:=hE.sl T e sh by_ hT;obtain ⟨i2,z2,sh2,hi2,hz2,hl2,hsh2,hl3,hone,hrp⟩:=hE.zr e zs hz;rw [hi] at hi2;injection hi2 with hi2
  subst hi2;rw [hiz] at hz2;injection hz2 with hz2
  subst hz2;rw [hsh] at hsh2;injection hsh2 with hsh2
  subst hsh2;split at h1
  ·rename_i e' sh' ver' xs ho;obtain ⟨hcnd,hk⟩:=q0j h1;simp only [Bool.and_eq_true,beq_iff_eq,Option.isNone_iff_eq_none] at hcnd;obtain ⟨⟨⟨⟨⟨⟨rfl,rfl⟩,rfl⟩,hkd⟩,rfl⟩,he⟩,hzsh⟩:=hcnd;simp only [RA,RS,RC,ho] at ha;obtain ⟨_,ha⟩:=ha;obtain ⟨hle,v,hρ,hsl⟩:=ha trivial trivial;have c0:csz 0=1:=rfl;obtain ⟨vals,hown,_⟩:=hs.ob id _ _ ho hρ;have hzl:zs.length=1:=hl3;obtain ⟨zp,rfl⟩:∃ zp,zs=[zp]:=by
    match zs,hzl with
    | [zp],_=>exact ⟨zp,rfl⟩
   have hzv:∃ u,z.cells=#[u]:=by
    have:z.cells.size=1:=hl2
    refine ⟨z.cells[0],?_⟩;apply Array.ext
    ·simp [this]
    ·intro i h1 h2
     have:i=0:=by simp at h2;exact h2
     subst this;rfl
   obtain ⟨u,hzu⟩:=hzv;have hzr:∀ (w:World) (Im:Nat->Prop),RP w Im zp u:=fun w Im=>hrp 0 zp u rfl (by rw [hzu];rfl) w Im
   have hu1:=(hzr w Im).one (hone zp (by simp));have hrv:∀ w,(zeroValue e).run P w=.ok z w:=fun w=>by simp [zeroValue,typeInfo,hi,hiz]
   have hzel:q5r 0 [zp]=zp:=rfl;rw [hzel] at hk;have hzc:(Builtin.zeroCells z.cells len).toList=List.replicate len u:=by
    rw [hzu];apply List.ext_getElem?;intro i;by_cases hi':i<len
    ·simp [Builtin.zeroCells,hi',Nat.mod_one]
    ·simp [Builtin.zeroCells,hi']
   by_cases hn:len=0
   ·subst hn;simp only [List.replicate_zero,List.append_nil,Nat.add_zero,List.take_append_drop] at hk;rw [y8r ho] at hk;have hrun:(Builtin.clear_ #[T] ty #[x]).run P w=.ok (.tuple #[]) w:=by
     have hx:∃ p cap,x=.slice p 0 cap:=by
      unfold RSl at hsl;split at hsl
      ·obtain ⟨off,h1,_⟩:=hsl;exact ⟨_,_,h1⟩
      ·obtain ⟨_,_,h1⟩:=hsl;exact ⟨_,_,h1⟩
      ·exact hsl.elim
     obtain ⟨p,cap,rfl⟩:=hx;cases p <;> simp [Builtin.clear_,run_underlying hu]
    exact ⟨_,_,_,_,Im,ρ,hk,hrun,Step.refl hs,⟨#[],rfl,rfl,fun i c y h=>by simp at h⟩⟩
   ·obtain ⟨g,bo,n0,cap,hm,off,hx,hlo,hoff⟩:∃ g bo n0 cap,mainV v=.slice (some ⟨g,bo,none⟩) n0 cap /\ ∃ off,x=.slice (some ⟨g,off,none⟩) len (cap-lo) /\ lo<=cap /\ (lo=0∨0<cap-lo->off=bo+lo*csz 0):=by
     rcases hown.2 with ⟨h1,h2⟩ | ⟨g,bo,cap,cur,h1,_⟩
     ·rw [h1] at hsl
      have:=hsl.2.1
      omega
     ·rw [h1] at hsl ⊢;obtain ⟨off,h2,h3,h4⟩:=hsl;exact ⟨g,bo,_,cap,rfl,off,h2,h3,h4⟩
    have hcapn:xs.length<=cap:=by
     rcases hown.2 with ⟨h1,h2⟩ | ⟨g',bo',cap',cur,h1,_,_,h4,_⟩
     ·rw [hm] at h1;cases h1
     ·rw [hm] at h1;injection h1 with h1 h2 h3;rw [h3];exact h4
    have hoff:off=bo+lo:=by rw [hoff (.inr (by omega)),c0,Nat.mul_one]
    subst hoff;subst hx;obtain ⟨cur,hg,hcsz,hst⟩:=x26 (ys:=List.replicate len zp) (news:=List.replicate len u) (lo:=lo) hs ho hρ hkd (by omega) hm (by simp) (by simpa using hle) (fun q hq=>by rw [List.eq_of_mem_replicate hq];exact hone zp (by simp)) (by
     intro i q j cc y hq hj hy;have hq':q=zp:=by have:=(List.getElem?_eq_some_iff.1 hq).2;simpa using this.symm
     subst hq';have hj0:cc=q:=by
      rw [PV.cells_of_one (hone q (by simp))] at hj;cases j with
      | zero=>simpa using hj.symm
      | succ j=>simp at hj
     subst hj0;have hy':y=u:=by have:=(List.getElem?_eq_some_iff.1 hy).2;simpa using this.symm
     subst hy';exact hzr w Im)
    have hst2:=run_storeCells_at P g (bo+lo) e'.t (List.replicate len u) 0 cur w hg (by simp;omega) (fun q hq=>by rw [List.eq_of_mem_replicate hq];exact hu1.1);have hrun:(Builtin.clear_ #[T] ty #[.slice (some ⟨g,bo+lo,none⟩) len (cap-lo)]).run P w=.ok (.tuple #[]) (w.setRow g (cur.toList.take (bo+lo)++List.replicate len u++cur.toList.drop (bo+lo+(List.replicate len u).length)).toArray):=by
     obtain ⟨m,rfl⟩:∃ m,len=m+1:=⟨len-1,by omega⟩;simp only [Nat.add_zero] at hst2;simp [Builtin.clear_,run_underlying hu,hrv,hzc,hst2]
    refine ⟨_,_,_,_,Im,ρ,hk,hrun,?_,⟨#[],rfl,rfl,fun i c y h=>by simp at h⟩⟩;simp only [List.length_replicate] at hst ⊢;exact hst
  ·cases h1
 ·cases h
end
end Go.Dp
