import GoSem.Step
import Derived.KernelRfl
import Derived.Calls
import Derived.Orders
import Derived.Laws.CopyRow
import Derived.Laws.Entries
import GoSem.Core.Sem
import GoSem.Conv.FloatToFloat
import GoSem.Conv.FloatToInt
import GoSem.Builtin.Max
import GoSem.Builtin.Min
import Derived.ChangeKeysEq
import Derived.Laws.StructEq
import Derived.Laws.Strings
import GoSem.Builtin.Len
import Derived.Laws.Slices
/- The typed machine and its soundness: what an evaluation on typed data says of the model's run. -/
set_option linter.unusedSectionVars false
set_option linter.unusedSimpArgs false
set_option linter.unusedVariables false
namespace Go.Tm
open Go
inductive Ty
 | int (k:IntKind) | flt (k:FloatKind) | bool | str | unit | err | ref (T:Nat)
 | pair (a b:Ty) | arr (n:Nat) (t:Ty) | list (t:Ty)
deriving Inhabited
def Vec:Nat→Type→Type
 | 0,_=>Unit
 | n+1,α=>α×Vec n α
namespace Vec
def rep {α:Type} (a:α):(n:Nat)→Vec n α
 | 0=>()
 | n+1=>(a,rep a n)
def getD {α:Type} : (n:Nat)→Vec n α→Nat→α→α
 | 0,_,_,z=>z
 | _+1,x,0,_=>x.1
 | n+1,x,i+1,z=>getD n x.2 i z
def set {α:Type} : (n:Nat)→Vec n α→Nat→α→Vec n α
 | 0,x,_,_=>x
 | _+1,x,0,a=>(a,x.2)
 | n+1,x,i+1,a=>(x.1,set n x.2 i a)
def toList {α:Type} : (n:Nat)→Vec n α→List α
 | 0,_=>[]
 | n+1,x=>x.1 :: toList n x.2
def ofList {α:Type} (z:α):(n:Nat)→List α→Vec n α
 | 0,_=>()
 | n+1,[]=>(z,ofList z n [])
 | n+1,a :: l=>(a,ofList z n l)
end Vec
def Ty.den:Ty→Type
 | .int _=>Int
 | .flt _=>Nat
 | .bool=>Bool
 | .str=>List UInt8
 | .unit=>Unit
 | .err=>Bool
 | .ref _=>Unit
 | .pair a b=>a.den×b.den
 | .arr n t=>Vec n t.den
 | .list t=>List t.den
def Ty.zero:(t:Ty)→t.den
 | .int _=>(0:Int)
 | .flt _=>(0:Nat)
 | .bool=>false
 | .str=>([]:List UInt8)
 | .unit=>()
 | .err=>true
 | .ref _=>()
 | .pair a b=>(a.zero,b.zero)
 | .arr n t=>Vec.rep t.zero n
 | .list t=>([]:List t.den)
def Ty.size:Ty→Nat
 | .unit=>0
 | .pair a b=>a.size+b.size
 | .arr n t=>n*t.size
 | _=>1
def Ty.isAgg:Ty→Bool
 | .unit | .pair _ _ | .arr _ _=>true
 | _=>false
def Ty.bears:Ty→Bool
 | .ref _ | .list _=>true
 | .pair a b=>a.bears||b.bears
 | .arr _ t=>t.bears
 | _=>false
def Ty.refT:Ty→Nat
 | .pair (.ref T) _=>T
 | _=>0
def intEq? : (a b:IntKind)→Option (PLift (a=b))
 | .i8,.i8 | .i16,.i16 | .i32,.i32 | .i64,.i64 | .u8,.u8 | .u16,.u16 | .u32,.u32 | .u64,.u64=>some ⟨rfl⟩
 | _,_=>none
def fltEq? : (a b:FloatKind)→Option (PLift (a=b))
 | .f32,.f32 | .f64,.f64=>some ⟨rfl⟩
 | _,_=>none
def natEq? : (a b:Nat)→Option (PLift (a=b))
 | 0,0=>some ⟨rfl⟩
 | a+1,b+1=>match natEq? a b with | some ⟨h⟩=>some ⟨h▸rfl⟩ | none=>none
 | _,_=>none
def Ty.eq? : (a b:Ty)→Option (PLift (a=b))
 | .int k,.int l=>match intEq? k l with | some ⟨h⟩=>some ⟨h▸rfl⟩ | none=>none
 | .flt k,.flt l=>match fltEq? k l with | some ⟨h⟩=>some ⟨h▸rfl⟩ | none=>none
 | .bool,.bool=>some ⟨rfl⟩
 | .str,.str=>some ⟨rfl⟩
 | .unit,.unit=>some ⟨rfl⟩
 | .err,.err=>some ⟨rfl⟩
 | .ref a,.ref b=>match natEq? a b with | some ⟨h⟩=>some ⟨h▸rfl⟩ | none=>none
 | .pair a b,.pair c d =>
  match a.eq? c with
  | some ⟨h⟩=>(match b.eq? d with | some ⟨g⟩=>some ⟨h▸g▸rfl⟩ | none=>none)
  | none=>none
 | .arr n a,.arr m b =>
  match natEq? n m with
  | some ⟨h⟩=>(match a.eq? b with | some ⟨g⟩=>some ⟨h▸g▸rfl⟩ | none=>none)
  | none=>none
 | .list a,.list b=>match a.eq? b with | some ⟨g⟩=>some ⟨g▸rfl⟩ | none=>none
 | _,_=>none
def Ty.same (a b:Ty):Bool:=(a.eq? b).isSome
def tysEq? : (a b:List Ty)→Option (PLift (a=b))
 | [],[]=>some ⟨rfl⟩
 | a :: r,b :: s =>
  match a.eq? b,tysEq? r s with
  | some ⟨h⟩,some ⟨g⟩=>some ⟨h▸g▸rfl⟩
  | _,_=>none
 | _,_=>none
def tup:List Ty→Type
 | []=>Unit
 | t :: r=>t.den×tup r
structure FSig where
 dom:List Ty
 cod:Ty
def nan (k:FloatKind):Nat:=match k with | .f32=>0x7fc00000 | .f64=>0x7ff8000000000000
def isNan (k:FloatKind) (b:Nat):Bool:=k.format.order b b==none
def canon (k:FloatKind) (b:Nat):Nat:=bif isNan k b then nan k else b
def orNan (k:FloatKind) (r:Option Nat):Nat:=match r with | some b=>canon k b | none=>nan k
def fAdd (k:FloatKind) (a b:Nat):Nat:=orNan k (k.format.add a b)
def fSub (k:FloatKind) (a b:Nat):Nat:=orNan k (k.format.sub a b)
def fMul (k:FloatKind) (a b:Nat):Nat:=orNan k (k.format.mul a b)
def fDiv (k:FloatKind) (a b:Nat):Nat:=orNan k (k.format.div a b)
def fNeg (k:FloatKind) (a:Nat):Nat:=canon k (Op.negFloat k a)
def fEq (k:FloatKind) (a b:Nat):Bool:=k.format.order a b==some .eq
def fLt (k:FloatKind) (a b:Nat):Bool:=k.format.order a b==some .lt
def fLe (k:FloatKind) (a b:Nat):Bool:=k.format.order a b==some .lt||k.format.order a b==some .eq
def fMax (k:FloatKind) (x y:Nat):Nat :=
 match k.format.order x y with
 | none=>nan k
 | some .lt=>y
 | some .gt=>x
 | some .eq=>bif (k.decode x).neg then y else x
def fMin (k:FloatKind) (x y:Nat):Nat :=
 match k.format.order x y with
 | none=>nan k
 | some .lt=>x
 | some .gt=>y
 | some .eq=>bif (k.decode x).neg then x else y
def fOfInt (k:FloatKind) (n:Int):Nat:=canon k (k.nearest n)
def fConv (s d:FloatKind) (b:Nat):Option Nat :=
 match s.decode b with
 | .nan _ _=>some (nan d)
 | .infinity g=>some (canon d (d.encode (.infinity g)))
 | .number g m e=>bif (d.decode (d.encode (.number g m e))).isInfinity then none else some (canon d (d.encode (.number g m e)))
def fToInt (s:FloatKind) (b:Nat) (k:IntKind):Option Int :=
 match (s.decode b).toInt .zero with
 | some n=>bif decide (k.min≤n)&&decide (n≤k.max) then some n else none
 | none=>none
def iAdd (k:IntKind) (a b:Int):Int:=k.wrap (a+b)
def iSub (k:IntKind) (a b:Int):Int:=k.wrap (a-b)
def iMul (k:IntKind) (a b:Int):Int:=k.wrap (a*b)
def iQuo (k:IntKind) (a b:Int):Int:=k.wrap (a.tdiv b)
def iRem (_k:IntKind) (a b:Int):Int:=a.tmod b
def iAnd (k:IntKind) (a b:Int):Int:=k.wrap ((BitVec.ofInt k.bits a &&& BitVec.ofInt k.bits b).toNat:Int)
def iOr (k:IntKind) (a b:Int):Int:=k.wrap ((BitVec.ofInt k.bits a ||| BitVec.ofInt k.bits b).toNat:Int)
def iXor (k:IntKind) (a b:Int):Int:=k.wrap ((BitVec.ofInt k.bits a ^^^ BitVec.ofInt k.bits b).toNat:Int)
def iAndNot (k:IntKind) (a b:Int):Int:=k.wrap ((BitVec.ofInt k.bits a &&& ~~~(BitVec.ofInt k.bits b)).toNat:Int)
def iShl (k:IntKind) (a b:Int):Int:=k.wrap (a*2^(min b.toNat k.bits))
def iShr (k:IntKind) (a b:Int):Int:=a.fdiv (2^(min b.toNat k.bits))
def iWrap (k:IntKind) (a:Int):Int:=k.wrap a
def iEq (a b:Int):Bool:=a==b
def iLt (a b:Int):Bool:=decide (a<b)
def iLe (a b:Int):Bool:=decide (a≤b)
def iMax (x y:Int):Int:=if y>x then y else x
def iMin (x y:Int):Int:=if y<x then y else x
def inB (i:Int) (n:Nat):Bool:=decide (0≤i)&&decide (i<(n:Int))
def inS (l h:Int) (n:Nat):Bool:=decide (0≤l)&&decide (l≤h)&&decide (h≤(n:Int))
def sEq (a b:List UInt8):Bool:=a==b
def sLt (a b:List UInt8):Bool:=Op.bytesLess a b
def lenI {α:Type} (l:List α):Int:=(l.length:Int)
def room (n bytes:Nat):Bool:=decide (n*max bytes 1≤140737488355328)
def byteI (b:UInt8):Int:=(b.toNat:Int)
def toByte (n:Int):UInt8:=UInt8.ofNat n.toNat
def strAt (s:List UInt8) (i:Int):Int:=byteI (s.getD i.toNat 0)
def strCat (a b:List UInt8):List UInt8:=a++b
def strRoom (a b:List UInt8):Bool:=decide (a.length+b.length≤4611686018427387904)
def bytesOf (s:List UInt8):List Int:=s.map byteI
def ofBytes (l:List Int):List UInt8:=l.map toByte
def bEq (a b:Bool):Bool:=a==b
def subL {α:Type} (xs:List α) (l h:Int):List α:=(xs.drop l.toNat).take (h.toNat-l.toNat)
def dropL {α:Type} (xs:List α) (l:Int):List α:=xs.drop l.toNat
def takeL {α:Type} (xs:List α) (h:Int):List α:=xs.take h.toNat
def Ty.eqV:(t:Ty)→t.den→t.den→Option Bool
 | .int _,a,b=>some (iEq a b)
 | .flt k,a,b=>some (fEq k a b)
 | .bool,a,b=>some (bEq a b)
 | .str,a,b=>some (sEq a b)
 | .unit,_,_=>some true
 | .pair s t,x,y =>
  match s.eqV x.1 y.1 with
  | some c=>(match t.eqV x.2 y.2 with | some d=>some (c&&d) | none=>none)
  | none=>none
 | .arr n t,x,y=>go t.eqV n x y
 | _,_,_=>none
where
 go {α:Type} (f:α→α→Option Bool):(n:Nat)→Vec n α→Vec n α→Option Bool
 | 0,_,_=>some true
 | n+1,x,y =>
  match f x.1 y.1 with
  | some c=>(match go f n x.2 y.2 with | some d=>some (c&&d) | none=>none)
  | none=>none
inductive PS
 | fst | snd | idx (i:Nat)
inductive AV:Type
 | undef
 | val (t:Ty) (x:t.den)
 | nilS
 | rows (b:Nat) (t:Ty)
 | view (b:Nat) (p:List PS) (t:Ty) (off len:Nat)
 | ptr (b:Nat) (p:List PS) (t:Ty)
 | aptr (b:Nat) (p:List PS) (t:Ty) (off n:Nat)
 | iptr (t:Ty) (x:t.den)
 | unit
 | pair (a b:AV)
 | tuple (vs:List AV)
 | fn (f:FuncId) (first caps:List AV)
 | fun (s:FSig) (g:tup s.dom→Option s.cod.den)
deriving Inhabited
inductive Blk
 | box (t:Ty) (v:AV)
 | row (t:Ty) (xs:List t.den)
abbrev Heap:=List (Nat×Option Blk)
def look:Heap→Nat→Option Blk
 | [],_=>none
 | (b,x) :: r,c=>bif Nat.beq b c then x else look r c
structure Tmps where
 n:Nat
 f:Nat→AV
def Tmps.length (l:Tmps):Nat:=l.n
def getT (l:Tmps) (i:Nat):AV:=bif Nat.ble (i+1) l.n then l.f i else .undef
def setT (l:Tmps) (d:Nat) (v:AV):Tmps:=bif Nat.ble (d+1) l.n then ⟨l.n,fun i=>bif Nat.beq d i then v else l.f i⟩ else l
structure St where
 tmps:Tmps
 heap:Heap
 next:Nat
 dirty:List Nat
def getL:List AV→Nat→AV
 | [],_ => .undef
 | v :: _,0=>v
 | _ :: r,n+1=>getL r n
def memN:List Nat→Nat→Bool
 | [],_=>false
 | a :: r,b=>Nat.beq a b||memN r b
def disjN (a b:List Nat):Bool:=a.all fun x => !memN b x
def nodupN:List Nat→Bool
 | []=>true
 | a :: r => !memN r a&&nodupN r
inductive RM (α:Type):Type 1
 | ret (a:α)
 | fail
 | get (b:Nat) (f:Blk→RM α)
 | opt (β:Type) (o:Option β) (f:β→RM α)
 | br (c:Bool) (x y:RM α)
 | all (β:Type) (f:β→RM α)
open Classical in
noncomputable def allSame {β A:Type} (g:β→Option A):Option A :=
 if h : ∃ a,∀ b,g b=some a then some (Classical.choose h) else none
noncomputable def RM.run {α A:Type} (H:Heap):RM α→List Nat→(α→List Nat→Option A)→Option A
 | .ret a,rs,k=>k a rs
 | .fail,_,_=>none
 | .get b f,rs,k=>match look H b with | some x=>(f x).run H (b :: rs) k | none=>none
 | .opt _ o f,rs,k=>o.bind fun y=>(f y).run H rs k
 | .br c x y,rs,k=>cond c (x.run H rs k) (y.run H rs k)
 | .all _ f,rs,k=>allSame fun b=>(f b).run H rs k
noncomputable def RM.runD {α A:Type} (H:Heap):RM α→List Nat→(α→List Nat→Option A)→Option A
 | .ret a,rs,k=>k a rs
 | .fail,_,_=>none
 | .get b f,rs,k=>match look H b with | some x=>(f x).runD H (b :: rs) k | none=>none
 | .opt _ o f,rs,k=>o.bind fun y=>(f y).runD H rs k
 | .br c x y,rs,k=>cond c (x.runD H rs k) (y.runD H rs k)
 | .all _ _,_,_=>none
def getPath {α:Type} : (t:Ty)→t.den→List PS→((u:Ty)→u.den→RM α)→RM α
 | t,x,[],k=>k t x
 | .pair a _,x,.fst :: p,k=>getPath a x.1 p k
 | .pair _ b,x,.snd :: p,k=>getPath b x.2 p k
 | .arr n t,x,.idx i :: p,k=>getPath t (Vec.getD n x i t.zero) p k
 | .list t,xs,.idx i :: p,k=>getPath t (List.getD xs i t.zero) p k
 | _,_,_,_ => .fail
def setPath {α:Type} : (t:Ty)→t.den→List PS→(u:Ty)→u.den→(t.den→RM α)→RM α
 | t,_,[],u,y,k=>match u.eq? t with | some ⟨h⟩=>k (h▸y) | none => .fail
 | .pair a _,x,.fst :: p,u,y,k=>setPath a x.1 p u y fun z=>k (z,x.2)
 | .pair _ b,x,.snd :: p,u,y,k=>setPath b x.2 p u y fun z=>k (x.1,z)
 | .arr n t,x,.idx i :: p,u,y,k=>setPath t (Vec.getD n x i t.zero) p u y fun z=>k (Vec.set n x i z)
 | .list t,xs,.idx i :: p,u,y,k=>setPath t (List.getD xs i t.zero) p u y fun z=>k (List.set xs i z)
 | _,_,_,_,_,_ => .fail
def fitsB:Ty→AV→Bool
 | t,.val u _=>u.same t
 | .list _,.nilS=>true
 | .list t,.rows _ u=>u.same t
 | .list t,.view _ _ u _ _=>u.same t
 | .unit,.unit=>true
 | .pair a b,.pair v w=>fitsB a v&&fitsB b w
 | .ref _,.ptr _ _ _=>true
 | .ref _,.iptr _ _=>true
 | .ref _,.fn _ _ _=>true
 | .ref _,.fun _ _=>true
 | _,_=>false
def refFst:AV→Bool
 | .val (.pair (.ref _) _) _=>true
 | .pair (.val (.ref _) _) _=>true
 | _=>false
def sndP:List PS→Bool
 | .snd :: _=>true
 | _=>false
def getAV {α:Type} : AV→List PS→(AV→RM α)→RM α
 | v,[],k=>k v
 | .val t x,p,k=>getPath t x p fun u y=>k (.val u y)
 | .pair a _,.fst :: p,k=>getAV a p k
 | .pair _ b,.snd :: p,k=>getAV b p k
 | _,_,_ => .fail
def setAV {α:Type} : AV→List PS→AV→(AV→RM α)→RM α
 | _,[],v,k=>k v
 | .val t x,p,.val u y,k=>setPath t x p u y fun z=>k (.val t z)
 | .val (.pair a b) x,.fst :: p,v,k=>setAV (.val a x.1) p v fun z=>k (.pair z (.val b x.2))
 | .val (.pair a b) x,.snd :: p,v,k=>setAV (.val b x.2) p v fun z=>k (.pair (.val a x.1) z)
 | .pair a b,.fst :: p,v,k=>setAV a p v fun z=>k (.pair z b)
 | .pair a b,.snd :: p,v,k=>setAV b p v fun z=>k (.pair a z)
 | _,_,_,_ => .fail
def castR {α:Type} : (t:Ty)→AV→(t.den→List Nat→RM α)→RM α
 | t,.val u x,k=>match u.eq? t with | some ⟨h⟩=>k (h▸x) [] | none => .fail
 | .list _,.nilS,k=>k [] []
 | .list t,.rows b _,k => .get b fun
  | .row u xs=>(match u.eq? t with | some ⟨h⟩=>k (h▸xs) [b] | none => .fail)
  | _ => .fail
 | .list t,.view b p _ off len,k => .get b fun
  | .row u xs=>getPath (.list u) xs p fun
   | .list w,ys=>(match w.eq? t with | some ⟨h⟩=>k (h▸((ys.drop off).take len)) [b] | none => .fail)
   | .arr n w,ys=>(match w.eq? t with | some ⟨h⟩=>k (h▸(((Vec.toList n ys).drop off).take len)) [b] | none => .fail)
   | _,_ => .fail
  | .box _ v=>getAV v p fun
   | .val (.arr n w) ys=>(match w.eq? t with | some ⟨h⟩=>k (h▸(((Vec.toList n ys).drop off).take len)) [b] | none => .fail)
   | _ => .fail
 | .unit,.unit,k=>k () []
 | .pair a b,.pair v w,k=>castR a v fun x r=>castR b w fun y s=>k (x,y) (r++s)
 | _,_,_ => .fail
def zeroAV:Ty→AV
 | .list _ => .nilS
 | .pair a b=>bif (Ty.pair a b).bears then .pair (zeroAV a) (zeroAV b) else .val (.pair a b) (Ty.pair a b).zero
 | t => .val t t.zero
def partPath:Ty→Nat→List PS
 | .pair _ _,0=>[.fst]
 | .pair _ b,n+1 => .snd :: partPath b n
 | .arr _ _,i=>[.idx i]
 | _,_=>[]
def partTy:Ty→Nat→Option Ty
 | .pair a _,0=>some a
 | .pair _ b,n+1=>partTy b n
 | .arr n t,i=>bif Nat.ble (i+1) n then some t else none
 | _,_=>none
def fieldTy:Ty→Nat→Option Ty
 | .arr _ _,_=>none
 | t,n=>partTy t n
def constV:Value→AV
 | .int k n => .val (.int k) n
 | .float k b => .val (.flt k) (canon k b)
 | .bool b => .val .bool b
 | .string s => .val .str s.data.toList
 | .slice none 0 0 => .nilS
 | .nilIface => .val .err true
 | .pointer none => .val (.ref 0) ()
 | _ => .undef
def rd (l:Tmps):Operand→AV
 | .tmp t=>getT l t
 | .const v=>constV v
 | .func f => .fn f [] []
 | .global _ => .undef
inductive Sh
 | val (t:Ty) | rows (t:Ty) | pair (a b:Sh) | ro (t:Ty)
def Sh.ty:Sh→Ty
 | .val t=>t
 | .rows t => .list t
 | .pair a b => .pair a.ty b.ty
 | .ro _ => .ref 0
def Sh.den:Sh→Type
 | .val t=>t.den
 | .rows t=>List t.den
 | .pair a b=>a.den×b.den
 | .ro t=>t.den
def Sh.ref:Sh→Bool
 | .val (.pair (.ref _) _)=>true
 | .pair (.val (.ref _)) _=>true
 | _=>false
inductive PK
 | v (t:Ty) | ro (t:Ty) | io (s:Sh) | mv (s:Sh) | tk (s:Sh) | fn (s:FSig)
def PK.den:PK→Type
 | .v t | .ro t=>t.den
 | .io s | .mv s | .tk s=>s.den
 | .fn s=>tup s.dom→Option s.cod.den
def domOf:List PK→Type
 | []=>Unit
 | p :: r=>p.den×domOf r
def outOf:List PK→Type
 | []=>Unit
 | .io s :: r=>s.den×outOf r
 | .mv s :: r=>s.den×outOf r
 | _ :: r=>outOf r
inductive RK
 | v (s:Sh) | p (s:Sh)
def RK.sh:RK→Sh
 | .v s | .p s=>s
def resOf:List RK→Type
 | []=>Unit
 | r :: l=>r.sh.den×resOf l
structure Sig where
 params:List PK
 res:List RK
 leak:Bool:=false
def Sh.flat:Sh→Bool
 | .val t => !t.bears
 | .rows t => !t.bears
 | .pair a b=>a.flat&&b.flat
 | .ro _=>false
def PK.flat:PK→Bool
 | .io s | .mv s=>s.flat
 | _=>true
def Sig.flat (s:Sig):Bool:=s.leak||(s.params.all PK.flat&&s.res.all fun r=>r.sh.flat)
def Sig.dom (s:Sig):Type:=domOf s.params
def Sig.cod (s:Sig):Type:=resOf s.res×outOf s.params
structure Entry where
 sig:Sig
 F:sig.dom→Option sig.cod
structure PrimD where
 dom:List Ty
 cod:Ty
 F:tup dom→Nat→cod.den
structure EatD where
 s:Sh
 c:Ty
 F:s.den→Option c.den
 Z:Option c.den:=none
structure Env where
 P:Program
 tys:TypeId→Option Ty
 fns:FuncId→Option Entry
 eqs:List TypeId:=[]
 prims:FuncId→Option PrimD:=fun _=>none
 G:List (Nat×Obj):=[]
 eats:FuncId→Option EatD:=fun _=>none
def Env.bytes (E:Env) (t:TypeId):Nat:=E.P.bytesOf t
def lookT:List (Nat×Ty)→Nat→Option Ty
 | [],_=>none
 | (i,t) :: r,j=>bif Nat.beq i j then some t else lookT r j
def lookF:List (Nat×Entry)→Nat→Option Entry
 | [],_=>none
 | (i,t) :: r,j=>bif Nat.beq i j then some t else lookF r j
def lookP:List (Nat×PrimD)→Nat→Option PrimD
 | [],_=>none
 | (i,t) :: r,j=>bif Nat.beq i j then some t else lookP r j
def lookE:List (Nat×EatD)→Nat→Option EatD
 | [],_=>none
 | (i,t) :: r,j=>bif Nat.beq i j then some t else lookE r j
def isU8:Ty→Bool
 | .int .u8=>true
 | _=>false
def vwU8 (t:Ty):AV→Bool
 | .view _ _ _ _ _=>isU8 t
 | _=>false
def takeSh {α:Type} : (s:Sh)→AV→(s.den→List Nat→RM α)→RM α
 | .val t,v,k=>castR t v k
 | .rows t,v,k=>bif vwU8 t v then .fail else castR (.list t) v fun xs bs=>match v with | .val _ _ => .fail | _=>k xs bs
 | .pair a b,.pair v w,k=>takeSh a v fun x r=>takeSh b w fun y s=>k (x,y) (r++s)
 | .pair a b,.val (.pair c d) x,k=>takeSh a (.val c x.1) fun y r=>takeSh b (.val d x.2) fun z s=>k (y,z) (r++s)
 | .ro t,.iptr u x,k=>match u.eq? t with | some ⟨h⟩=>k (h▸x) [] | none => .fail
 | _,_,_ => .fail
def putSh:(s:Sh)→s.den→Nat→AV×Heap×Nat
 | .val t,x,n=>(.val t x,[],n)
 | .rows t,xs,n=>(.rows n t,[(n,some (.row t xs))],n+1)
 | .pair a b,x,n =>
  match putSh a x.1 n with
  | (v,h,m)=>(match putSh b x.2 m with | (w,g,l)=>(.pair v w,h++g,l))
 | .ro t,x,n=>(.iptr t x,[],n)
def kills (l:List Nat):Heap:=l.map fun b=>(b,none)
def backSh:(s:Sh)→s.den→AV→Option Heap
 | .val _,_,_=>some []
 | .ro _,_,_=>none
 | .rows t,xs,.rows b u=>bif u.same t then some [(b,some (.row t xs))] else none
 | .rows _,_,.nilS=>some []
 | .pair a b,x,.pair v w=>match backSh a x.1 v,backSh b x.2 w with | some h,some g=>some (h++g) | _,_=>none
 | _,_,_=>none
def splitP:(ps:List PK)→(dom:List Ty)→Option ((r:List PK)×(tup dom→domOf r→domOf ps))
 | ps,[]=>some ⟨ps,fun _ d=>d⟩
 | .v t :: ps,u :: dom =>
  match u.eq? t,splitP ps dom with
  | some ⟨h⟩,some ⟨r,f⟩=>some ⟨r,fun x d=>(h▸x.1,f x.2 d)⟩
  | _,_=>none
 | _,_=>none
def roR {α:Type} (t:Ty):AV→(t.den→List Nat→RM α)→RM α
 | .iptr u x,k=>match u.eq? t with | some ⟨h⟩=>k (h▸x) [] | none => .fail
 | .ptr b p _,k => .get b fun
  | .box _ v=>getAV v p fun w=>castR t w fun x r=>k x (b :: r)
  | .row u xs=>getPath (.list u) xs p fun w x=>match w.eq? t with | some ⟨h⟩=>k (h▸x) [b] | none => .fail
 | _,_ => .fail
def capsR {α:Type} : (ps:List PK)→List AV→(domOf ps→List Nat→RM α)→RM α
 | [],[],k=>k () []
 | .v t :: ps,v :: vs,k=>castR t v fun x r=>capsR ps vs fun y s=>k (x,y) (r++s)
 | .ro t :: ps,v :: vs,k=>roR t v fun x r=>capsR ps vs fun y s=>k (x,y) (r++s)
 | _,_,_ => .fail
def fnR {α:Type} (E:Env) (s:FSig):AV→((tup s.dom→Option s.cod.den)→List Nat→RM α)→RM α
 | .fun ⟨d,c⟩ g,k =>
  match s with
  | ⟨d',c'⟩=>match tysEq? d d',c.eq? c' with | some ⟨h⟩,some ⟨e⟩=>k (h▸e▸g) [] | _,_ => .fail
 | .fn f [] caps,k =>
  match E.fns f with
  | some ⟨⟨ps,[.v (.val c)],_⟩,F⟩ =>
   bif c.bears then .fail else
   match splitP ps s.dom,c.eq? s.cod with
   | some ⟨r,j⟩,some ⟨h⟩=>capsR r caps fun d rs=>k (fun x=>(F (j x d)).map fun y=>h▸y.1.1) rs
   | _,_ => .fail
  | _ => .fail
 | _,_ => .fail
def argsR {α:Type} (E:Env):(ps:List PK)→List AV→(domOf ps→List Nat→List Nat→RM α)→RM α
 | [],[],k=>k () [] []
 | .v t :: ps,v :: vs,k=>castR t v fun x r=>argsR E ps vs fun y ts rs=>k (x,y) ts (r++rs)
 | .ro t :: ps,v :: vs,k=>roR t v fun x r=>argsR E ps vs fun y ts rs=>k (x,y) ts (r++rs)
 | .io s :: ps,.ptr b [] _ :: vs,k => .get b fun
  | .box t c=>bif s.ty.same t then takeSh s c fun x r=>argsR E ps vs fun y ts rs=>k (x,y) (b :: r++ts) rs else .fail
  | _ => .fail
 | .mv s :: ps,v :: vs,k=>takeSh s v fun x r=>argsR E ps vs fun y ts rs=>k (x,y) (r++ts) rs
 | .tk s :: ps,v :: vs,k=>takeSh s v fun x r=>argsR E ps vs fun y ts rs=>k (x,y) (r++ts) rs
 | .fn s :: ps,v :: vs,k=>fnR E s v fun g r=>argsR E ps vs fun y ts rs=>k (g,y) ts (r++rs)
 | _,_,_ => .fail
def backs:(ps:List PK)→List AV→outOf ps→Nat→Option (Heap×Nat)
 | [],_,_,n=>some ([],n)
 | .io s :: ps,.ptr b [] _ :: vs,y,n =>
  match putSh s y.1 n with
  | (c,h,m)=>(match backs ps vs y.2 m with | some (g,l)=>some ((b,some (.box s.ty c)) :: h++g,l) | none=>none)
 | .mv s :: ps,v :: vs,y,n =>
  match backSh s y.1 v,backs ps vs y.2 n with | some h,some (g,l)=>some (h++g,l) | _,_=>none
 | .v _ :: ps,_ :: vs,y,n=>backs ps vs y n
 | .ro _ :: ps,_ :: vs,y,n=>backs ps vs y n
 | .tk _ :: ps,_ :: vs,y,n=>backs ps vs y n
 | .fn _ :: ps,_ :: vs,y,n=>backs ps vs y n
 | _,_,_,_=>none
def putRes:(rs:List RK)→resOf rs→Nat→List AV×Heap×Nat
 | [],_,n=>([],[],n)
 | .v s :: rs,y,n =>
  match putSh s y.1 n with
  | (v,h,m)=>(match putRes rs y.2 m with | (vs,g,l)=>(v :: vs,h++g,l))
 | .p s :: rs,y,n =>
  match putSh s y.1 (n+1) with
  | (v,h,m)=>(match putRes rs y.2 m with | (vs,g,l)=>(.ptr n [] s.ty :: vs,(n,some (.box s.ty v)) :: h++g,l))
def single:List AV→AV
 | [v]=>v
 | vs => .tuple vs
def mvFits:List PK→List AV→Bool
 | [],[]=>true
 | .mv s :: ps,v :: vs=>fitsB s.ty v&&mvFits ps vs
 | .v _ :: ps,_ :: vs=>mvFits ps vs
 | .ro _ :: ps,_ :: vs=>mvFits ps vs
 | .tk _ :: ps,_ :: vs=>mvFits ps vs
 | .io _ :: ps,_ :: vs=>mvFits ps vs
 | .fn _ :: ps,_ :: vs=>mvFits ps vs
 | _,_=>false
def wide:Nat:=32
def spliceL {α:Type} (xs:List α) (off:Nat) (ys:List α):List α:=xs.take off++ys++xs.drop (off+ys.length)
def callW (t1 t:Ty) (res:List RK) (F:Sig.dom ⟨[.v t1,.mv (.rows t)],res,false⟩→Option (Sig.cod ⟨[.v t1,.mv (.rows t)],res,false⟩)) (a:AV) (b:Nat) (p:List PS) (u:Ty) (off len base:Nat):RM (AV×Heap) :=
 bif isU8 t||Nat.beq len 0 then .fail else
 castR t1 a fun x r1=>castR (.list t) (.view b p u off len) fun xs _ => .get b fun
  | .box bt v=>bif memN r1 b then .fail else getAV v p fun
   | .val (.arr n w) zs=>match t.eq? w with
    | some ⟨h⟩=>bif Nat.beq (off+len) n then
      .opt _ (F (x,xs,())) fun y =>
       match putRes res y.1 base with
       | (vs,g,m)=>bif Nat.ble m (base+wide) then
         .br (Nat.beq y.2.1.length len) (setAV v p (.val (.arr n w) (Vec.ofList w.zero n (spliceL (Vec.toList n zs) off (h▸y.2.1)))) fun v' =>
          bif !refFst v'||(sndP p&&refFst v) then .ret (single vs,g++[(b,some (.box bt v'))]++kills [b]) else .fail) .fail
        else .fail
     else .fail
    | none => .fail
   | _ => .fail
  | _ => .fail
def callV (e:Entry) (args:List AV) (base:Nat):Option (RM (AV×Heap)) :=
 match e,args with
 | ⟨⟨[.v t1,.mv (.rows t)],res,false⟩,F⟩,[a,.view b p u off len]=>some (callW t1 t res F a b p u off len base)
 | _,_=>none
def callR (E:Env) (e:Entry) (args:List AV) (base:Nat):RM (AV×Heap) :=
 match callV e args base with
 | some r=>r
 | none =>
 match e with
 | ⟨⟨ps,res,leak⟩,F⟩ =>
  bif !mvFits ps args then .fail else
  argsR E ps args fun x ts rs =>
   bif nodupN ts&&disjN ts rs then
    .opt _ (F x) fun y =>
     match putRes res y.1 base with
     | (vs,h,n) =>
      match backs ps args y.2 n with
      | some (g,m)=>bif Nat.ble m (base+wide) then .ret (single vs,h++g++kills (bif leak then ts++rs else ts)) else .fail
      | none => .fail
   else .fail
def binV (xt:Option Ty) (yc eqok:Bool) (op:BinOp) (x y:AV):RM AV :=
 match x,y with
 | .val (.int k) a,.val (.int l) b =>
  match op with
  | .shl => .br (iLe 0 b) (.ret (.val (.int k) (iShl k a b))) .fail
  | .shr => .br (iLe 0 b) (.ret (.val (.int k) (iShr k a b))) .fail
  | _ =>
   match intEq? k l with
   | none => .fail
   | some _ =>
    match op with
    | .add => .ret (.val (.int k) (iAdd k a b))
    | .sub => .ret (.val (.int k) (iSub k a b))
    | .mul => .ret (.val (.int k) (iMul k a b))
    | .quo => .br (iEq b 0) .fail (.ret (.val (.int k) (iQuo k a b)))
    | .rem => .br (iEq b 0) .fail (.ret (.val (.int k) (iRem k a b)))
    | .and => .ret (.val (.int k) (iAnd k a b))
    | .or => .ret (.val (.int k) (iOr k a b))
    | .xor => .ret (.val (.int k) (iXor k a b))
    | .andNot => .ret (.val (.int k) (iAndNot k a b))
    | .eql => .ret (.val .bool (iEq a b))
    | .neq => .ret (.val .bool (!(iEq a b)))
    | .lss => .ret (.val .bool (iLt a b))
    | .leq => .ret (.val .bool (iLe a b))
    | .gtr => .ret (.val .bool (iLt b a))
    | .geq => .ret (.val .bool (iLe b a))
    | _ => .fail
 | .val (.flt k) a,.val (.flt l) b =>
  match fltEq? k l with
  | none => .fail
  | some _ =>
   match op with
   | .add => .ret (.val (.flt k) (fAdd k a b))
   | .sub => .ret (.val (.flt k) (fSub k a b))
   | .mul => .ret (.val (.flt k) (fMul k a b))
   | .quo => .ret (.val (.flt k) (fDiv k a b))
   | .eql => .ret (.val .bool (fEq k a b))
   | .neq => .ret (.val .bool (!(fEq k a b)))
   | .lss => .ret (.val .bool (fLt k a b))
   | .leq => .ret (.val .bool (fLe k a b))
   | .gtr => .ret (.val .bool (fLt k b a))
   | .geq => .ret (.val .bool (fLe k b a))
   | _ => .fail
 | .val .str a,.val .str b =>
  match op with
  | .add => .br (strRoom a b) (.ret (.val .str (strCat a b))) .fail
  | .eql => .ret (.val .bool (sEq a b))
  | .neq => .ret (.val .bool (!(sEq a b)))
  | .lss => .ret (.val .bool (sLt a b))
  | _ => .fail
 | .val .err a,.val .err b =>
  match xt,yc,op with
  | some .err,true,.eql => .br b (.ret (.val .bool a)) .fail
  | some .err,true,.neq => .br b (.ret (.val .bool (!a))) .fail
  | _,_,_ => .fail
 | .val .bool a,.val .bool b =>
  match xt,op with
  | some .bool,.eql => .ret (.val .bool (bEq a b))
  | some .bool,.neq => .ret (.val .bool (!(bEq a b)))
  | _,_ => .fail
 | .val t a,.val u b =>
  match u.eq? t with
  | none => .fail
  | some ⟨h⟩ =>
   bif eqok&&(match xt with | some v=>v.same t | none=>false) then
   match t.eqV a (h▸b) with
   | none => .fail
   | some c =>
    match op with
    | .eql => .ret (.val .bool c)
    | .neq => .ret (.val .bool (!c))
    | _ => .fail
   else .fail
 | .val (.list t) xs,.nilS =>
  bif (match xt with | some (.list _)=>false | _=>true) then .fail else
  match op with
  | .eql => .br (List.isEmpty (α:=t.den) xs) (.all Bool fun q => .ret (.val .bool q)) (.ret (.val .bool false))
  | .neq => .br (List.isEmpty (α:=t.den) xs) (.all Bool fun q => .ret (.val .bool (!q))) (.ret (.val .bool true))
  | _ => .fail
 | .nilS,.nilS =>
  bif (match xt with | some (.list _)=>false | _=>true) then .fail else
  match op with
  | .eql => .ret (.val .bool true)
  | .neq => .ret (.val .bool false)
  | _ => .fail
 | _,_ => .fail
def unV (op:UnOp) (x:AV):RM AV :=
 match op,x with
 | .not,.val .bool b => .ret (.val .bool (!b))
 | .neg,.val (.int k) a => .ret (.val (.int k) (iSub k 0 a))
 | .neg,.val (.flt k) a => .ret (.val (.flt k) (fNeg k a))
 | _,_ => .fail
def convV (st:Option Ty) (d:Ty) (x:AV):RM (AV×Heap) :=
 match d,x with
 | .int k,.val (.int _) n => .ret (.val (.int k) (iWrap k n),[])
 | .flt k,.val (.int _) n => .ret (.val (.flt k) (fOfInt k n),[])
 | .int k,.val (.flt s) b => .opt _ (fToInt s b k) fun n => .ret (.val (.int k) n,[])
 | .flt k,.val (.flt s) b =>
  match fltEq? s k with
  | some _ => .ret (.val (.flt k) b,[])
  | none => .opt _ (fConv s k b) fun r => .ret (.val (.flt k) r,[])
 | .str,.val .str s => .ret (.val .str s,[])
 | .str,v=>match st with
  | some (.list (.int .u8))=>castR (.list (.int .u8)) v fun l _ => .ret (.val .str (ofBytes l),[])
  | _ => .fail
 | .list (.int .u8),.val .str s => .ret (.val (.list (.int .u8)) (bytesOf s),[])
 | _,_ => .fail
def foldParts {α:Type} (t:Ty):AV→List (Nat×AV)→(AV→RM α)→RM α
 | v,[],k=>k v
 | v,(i,x) :: r,k =>
  match partTy t i with
  | some u=>bif fitsB u x then setAV v (partPath t i) x fun w=>foldParts t w r k else .fail
  | none => .fail
def foldElems {α:Type} (t:Ty) (n:Nat):List t.den→List (Nat×AV)→(List t.den→List Nat→RM α)→RM α
 | l,[],k=>k l []
 | l,(i,x) :: r,k=>bif Nat.ble (i+1) n then castR t x fun y bs=>foldElems t n (l.set i y) r fun m cs=>k m (bs++cs) else .fail
def indexA (x:AV) (i:Int):RM AV :=
 match x with
 | .rows b t => .get b fun
  | .row _ xs => .br (inB i xs.length) (.ret (.ptr b [.idx i.toNat] t)) .fail
  | _ => .fail
 | .view b p t off len => .br (inB i len) (.ret (.ptr b (p++[.idx (off+i.toNat)]) t)) .fail
 | .val (.list t) xs => .br (inB i xs.length) (.ret (.iptr t (List.getD xs i.toNat t.zero))) .fail
 | .ptr b p (.arr n t) => .br (inB i n) (.ret (.ptr b (p++[.idx i.toNat]) t)) .fail
 | .iptr (.arr n t) x => .br (inB i n) (.ret (.iptr t (Vec.getD n x i.toNat t.zero))) .fail
 | _ => .fail
def indexV (x:AV) (i:Int):RM AV :=
 match x with
 | .val (.arr n t) y => .br (inB i n) (.ret (.val t (Vec.getD n y i.toNat t.zero))) .fail
 | .val .str s => .br (inB i s.length) (.ret (.val (.int .u8) (strAt s i))) .fail
 | _ => .fail
def elemOK:Option Ty→AV→Bool
 | some .str,.val .str _=>true
 | some (.list u),.val (.list t) _=>t.same u
 | some (.list _),.nilS=>true
 | some (.list u),.rows _ t=>t.same u
 | some (.list u),.view _ _ t _ _=>t.same u
 | some (.arr n u),.ptr _ _ t=>t.same (.arr n u)
 | some (.arr n u),.iptr t _=>t.same (.arr n u)
 | some (.arr n u),.val t _=>t.same (.arr n u)
 | _,_=>false
def lenV (x:AV):RM AV :=
 match x with
 | .val .str s => .ret (.val (.int .i64) (lenI s))
 | .val (.list _) xs => .ret (.val (.int .i64) (lenI xs))
 | .nilS => .ret (.val (.int .i64) (0:Int))
 | .view _ _ _ _ n => .ret (.val (.int .i64) (n:Int))
 | .rows b _ => .get b fun
  | .row _ xs => .ret (.val (.int .i64) (lenI xs))
  | _ => .fail
 | _ => .fail
def cutL {β α:Type} (xs:List β) (lo hi:Option Int) (k:List β→RM α):RM α :=
 match lo,hi with
 | none,none=>k xs
 | some l,none => .br (inS l (lenI xs) xs.length) (k (dropL xs l)) .fail
 | none,some h => .br (inS 0 h xs.length) (k (takeL xs h)) .fail
 | some l,some h => .br (inS l h xs.length) (k (subL xs l h)) .fail
def cutN {α:Type} (n:Nat) (lo hi:Option Int) (k:Nat→Nat→RM α):RM α :=
 match lo,hi with
 | none,none=>k 0 n
 | some l,none => .br (inS l (n:Int) n) (k l.toNat (n-l.toNat)) .fail
 | none,some h => .br (inS 0 h n) (k 0 h.toNat) .fail
 | some l,some h => .br (inS l h n) (k l.toNat (h.toNat-l.toNat)) .fail
def sliceV (x:AV) (lo hi:Option Int):RM AV :=
 match x with
 | .val .str s=>cutL (β:=UInt8) s lo hi fun r => .ret (.val .str r)
 | .val (.list t) xs=>cutL (β:=t.den) xs lo hi fun r => .ret (.val (.list t) r)
 | .nilS=>cutN 0 lo hi fun _ _ => .ret .nilS
 | .rows b t =>
  match lo,hi with
  | none,none => .ret (.rows b t)
  | _,_ => .get b fun
   | .row _ xs=>cutN xs.length lo hi fun l n => .ret (.view b [] t l n)
   | _ => .fail
 | .view b p t off len=>cutN len lo hi fun l n => .ret (.view b p t (off+l) n)
 | .ptr b p (.arr n t)=>cutN n lo hi fun l m => .ret (.view b p t l m)
 | .iptr (.arr n t) y=>cutL (β:=t.den) (Vec.toList n y) lo hi fun r => .ret (.val (.list t) r)
 | _ => .fail
def isConst:Operand→Bool
 | .const _=>true
 | _=>false
def oInt (ρ:Operand→AV):Option Operand→Option (Option Int)
 | none=>some none
 | some o=>match ρ o with | .val (.int _) n=>some (some n) | _=>none
def minmax (mx:Bool):AV→List AV→RM AV
 | v,[] => .ret v
 | .val (.int k) a,.val (.int l) b :: r =>
  match intEq? k l with
  | some _=>minmax mx (.val (.int k) (bif mx then iMax a b else iMin a b)) r
  | none => .fail
 | .val (.flt k) a,.val (.flt l) b :: r =>
  match fltEq? k l with
  | some _=>minmax mx (.val (.flt k) (bif mx then fMax k a b else fMin k a b)) r
  | none => .fail
 | _,_ => .fail
def pureR (r:RM AV):RM (AV×Heap):=bindR r
where bindR:RM AV→RM (AV×Heap)
 | .ret v => .ret (v,[])
 | .fail => .fail
 | .get b f => .get b fun x=>bindR (f x)
 | .opt β o f => .opt β o fun x=>bindR (f x)
 | .br c x y => .br c (bindR x) (bindR y)
 | .all β f => .all β fun x=>bindR (f x)
def srcR {α:Type} : (t:Ty)→AV→(List t.den→List Nat→RM α)→RM α
 | .int .u8,.val .str b,k=>k (bytesOf b) []
 | t,x,k=>castR (.list t) x k
def appendR (bytes:Nat) (et:Ty) (s x:AV) (base:Nat):RM (AV×Heap) :=
 let more (xs:List et.den) (ks:List Nat):RM (AV×Heap) :=
  srcR et x fun ys bs=>bif disjN ks bs then
   .br (room (xs.length+ys.length) bytes) (.ret (.rows base et,(base,some (.row et (xs++ys))) :: kills ks)) .fail else .fail
 match s with
 | .nilS=>more [] []
 | .rows b u=>castR (.list et) (.rows b u) fun xs ks=>more xs ks
 | .view b [] u off len=>castR (.list et) (.view b [] u off len) fun xs ks => .get b fun
  | .row _ ys => .br (Nat.beq (off+len) ys.length) (more xs ks) .fail
  | _ => .fail
 | _ => .fail
def elemOf (P:Program) (t:TypeId):Option TypeId :=
 match P.underlying t with
 | some (.slice e)=>some e
 | _=>none
def storeR (tt:Ty) (a x:AV):RM (AV×Heap) :=
 bif fitsB tt x then
  match a with
  | .ptr b p u =>
   bif u.same tt then
    .get b fun
     | .box t v=>setAV v p x fun w=>bif !refFst w||(sndP p&&refFst v) then .ret (.undef,[(b,some (.box t w))]) else .fail
     | .row t xs=>castR tt x fun y ks=>bif memN ks b then .fail else setPath (.list t) xs p tt y fun zs => .ret (.undef,(b,some (.row t zs)) :: kills ks)
   else .fail
  | _ => .fail
 else .fail
def loadR (tt:Ty) (a:AV):RM (AV×Heap) :=
 match a with
 | .ptr b p _ => .get b fun
  | .box _ v=>getAV v p fun w=>bif fitsB tt w then .ret (w,[]) else .fail
  | .row t xs=>getPath (.list t) xs p fun u y=>bif u.same tt then .ret (.val u y,[]) else .fail
 | .iptr u y=>bif u.same tt then .ret (.val u y,[]) else .fail
 | .aptr b p u off n =>
  match tt with
  | .arr m w=>bif Nat.beq m n then castR (.list w) (.view b p u off n) fun l _ => .ret (.val (.arr m w) (Vec.ofList w.zero m l),[]) else .fail
  | _ => .fail
 | _ => .fail
def zBld:AV→Bool
 | .pair (.val (.ref _) _) (.pair .nilS (.val .unit _))=>true
 | _=>false
def eatZ (p:EatD) (a:AV) (r:RM (AV×Heap)):RM (AV×Heap) :=
 match p.Z,a with
 | some y,.ptr b [] _ => .get b fun
  | .box t v=>bif t.same p.s.ty&&zBld v then .ret (.val p.c y,[]) else r
  | _=>r
 | _,_=>r
def exec (E:Env) (o:Op) (ρ:Operand→AV) (base:Nat):RM (AV×Heap) :=
 match o with
 | .move x | .assign x => .ret (ρ x,[])
 | .pick c a b=>match ρ c with | .val .bool x => .br x (.ret (ρ a,[])) (.ret (ρ b,[])) | _ => .fail
 | .alloc t=>match E.tys t with | some u=>bif Nat.beq u.refT 0||Nat.beq u.refT t then .ret (.ptr base [] u,[(base,some (.box u (zeroAV u)))]) else .fail | none => .fail
 | .box t x=>match E.tys t with | some u=>bif fitsB u (ρ x)&&(!refFst (ρ x)&&Nat.beq u.refT 0) then .ret (.ptr base [] u,[(base,some (.box u (ρ x)))]) else .fail | none => .fail
 | .build t ps=>match E.tys t with | some u=>bif !u.isAgg then .fail else foldParts u (zeroAV u) (ps.toList.map fun (i,x)=>(i,ρ x)) fun v => .ret (v,[]) | none => .fail
 | .buildSlice t n ps =>
  match E.tys t with
  | some (.list u)=>bif !Nat.ble (n*u.size) 16777216 then .fail else foldElems u n (List.replicate n u.zero) (ps.toList.map fun (i,x)=>(i,ρ x)) fun l ks => .ret (.rows base u,(base,some (.row u l)) :: kills ks)
  | _ => .fail
 | .load t a=>match E.tys t with | some u=>loadR u (ρ a) | none => .fail
 | .store t a x=>match E.tys t with | some u=>storeR u (ρ a) (ρ x) | none => .fail
 | .nilCheck x =>
  match ρ x with
  | .ptr b p t => .ret (.ptr b p t,[])
  | .iptr t y => .ret (.iptr t y,[])
  | .aptr b p t i n => .ret (.aptr b p t i n,[])
  | .fn f a b => .ret (.fn f a b,[])
  | .fun s g => .ret (.fun s g,[])
  | _ => .fail
 | .binOp op t x y _=>pureR (binV (E.tys t) (isConst y) (memN E.eqs t) op (ρ x) (ρ y))
 | .unOp op _ x=>pureR (unV op (ρ x))
 | .convert s d x=>match E.tys s,E.tys d with | some _,some u=>convV (E.tys s) u (ρ x) | _,_ => .fail
 | .sliceToArrayPointer t x =>
  match E.tys t,ρ x with
  | some (.arr n u),.view b p w off len=>bif w.same u && !Nat.beq n 0 then .br (Nat.ble n len) (.ret (.aptr b p u off n,[])) .fail else .fail
  | some (.arr n u),.val (.list w) xs=>(match w.eq? u with | some ⟨h⟩=>bif Nat.beq n 0 then .fail else .br (Nat.ble n xs.length) (.ret (.iptr (.arr n u) (Vec.ofList u.zero n (h▸xs)),[])) .fail | none => .fail)
  | _,_ => .fail
 | .makeFunc (.func f) a b => .ret (.fn f (a.toList.map ρ) (b.toList.map ρ),[])
 | .makeSlice t l c =>
  match E.tys t,elemOf E.P t,ρ l,ρ c with
  | some (.list u),some e,.val (.int _) n,.val (.int _) m =>
   .br (iLe 0 n&&iLe n m&&room m.toNat (E.bytes e)) (.ret (.rows base u,[(base,some (.row u (List.replicate n.toNat u.zero)))])) .fail
  | _,_,_,_ => .fail
 | .slice t x lo hi none=>match elemOK (E.tys t) (ρ x),oInt ρ lo,oInt ρ hi with | true,some l,some h=>pureR (sliceV (ρ x) l h) | _,_,_ => .fail
 | .fieldAddr s x f =>
  match E.tys s with
  | some t =>
   match fieldTy t f with
   | some w =>
    bif Nat.beq w.size 0 then .fail else
    match ρ x with
    | .ptr b p u=>bif u.same t then .ret (.ptr b (p++partPath t f) w,[]) else .fail
    | .iptr u y=>bif u.same t then getPath u y (partPath t f) fun w z => .ret (.iptr w z,[]) else .fail
    | _ => .fail
   | none => .fail
  | none => .fail
 | .field s x f =>
  match E.tys s with
  | some t =>
   match fieldTy t f with
   | some _=>bif fitsB t (ρ x) then getAV (ρ x) (partPath t f) fun v => .ret (v,[]) else .fail
   | none => .fail
  | none => .fail
 | .indexAddr t x i=>match elemOK (E.tys t) (ρ x),ρ i with | true,.val (.int _) n=>pureR (indexA (ρ x) n) | _,_ => .fail
 | .index t x i=>match elemOK (E.tys t) (ρ x),ρ i with | true,.val (.int _) n=>pureR (indexV (ρ x) n) | _,_ => .fail
 | .extract x i=>match ρ x with | .tuple vs=>bif Nat.ble (i+1) vs.length then .ret (getL vs i,[]) else .fail | _ => .fail
 | .call { callee:=.value f,args,.. } =>
  match ρ f with
  | .fn g first caps =>
   (match E.fns g with
   | some e=>callR E e (first++args.toList.map ρ++caps) base
   | none =>
    match E.prims g with
    | some p=>bif p.cod.bears then .fail else capsR (p.dom.map PK.v) (first++args.toList.map ρ++caps) fun x _ => .all Nat fun q => .ret (.val p.cod (p.F (cast' p.dom x) q),[])
    | none =>
     match E.eats g with
     | some p=>bif p.c.bears then .fail else
      match first++args.toList.map ρ++caps with
      | [a]=>eatZ p a (argsR E [.io p.s] [a] fun x ts rs=>bif nodupN ts&&disjN ts rs then .opt _ (p.F x.1) fun y => .ret (.val p.c y,kills ts) else .fail)
      | _ => .fail
     | none => .fail)
  | .fun s g=>bif s.cod.bears then .fail else capsR (s.dom.map PK.v) (args.toList.map ρ) fun x _ => .opt _ (g (cast' s.dom x)) fun y => .ret (.val s.cod y,[])
  | _ => .fail
 | .call { callee:=.builtin .len,args,argTypes } => match args.toList,argTypes.toList with | [x],[t]=>bif elemOK (E.tys t) (ρ x) then pureR (lenV (ρ x)) else .fail | _,_ => .fail
 | .call { callee:=.builtin .append,args,argTypes } =>
  match args.toList,argTypes.toList with
  | [s,x],[t,t1]=>(match E.tys t,elemOf E.P t with | some (.list u),some e=>bif elemOK (some (.list u)) (ρ s)&&elemOK (E.tys t1) (ρ x) then appendR (E.bytes e) u (ρ s) (ρ x) base else .fail | _,_ => .fail)
  | _,_ => .fail
 | .call { callee:=.builtin .copy,args,argTypes } =>
  match args.toList,argTypes.toList with
  | [d,s],t :: _ =>
   bif !elemOK (E.tys t) (ρ d) then .fail else
   match ρ d with
   | .rows b t=>castR (.list t) (ρ s) fun ys _ => .get b fun
    | .row u xs=>(match t.eq? u with | some ⟨h⟩ => .ret (.val (.int .i64) (Int.ofNat (min ys.length xs.length)),[(b,some (.row u (spliceL xs 0 (h▸(ys.take xs.length)))))]) | none => .fail)
    | _ => .fail
   | .view b [] t off len=>castR (.list t) (ρ s) fun ys _ => .get b fun
    | .row u xs=>(match t.eq? u with | some ⟨h⟩ => .br (Nat.ble (off+len) xs.length) (.ret (.val (.int .i64) (Int.ofNat (min ys.length len)),[(b,some (.row u (spliceL xs off (h▸(ys.take len)))))])) .fail | none => .fail)
    | _ => .fail
   | .view b p t off len=>castR (.list t) (ρ s) fun ys _ => .get b fun
    | .box bt v=>getAV v p fun
     | .val (.arr n w) zs=>(match t.eq? w with | some ⟨h⟩ => .br (Nat.ble (off+len) n) (setAV v p (.val (.arr n w) (Vec.ofList w.zero n (spliceL (Vec.toList n zs) off (h▸(ys.take len))))) fun v'=>bif !refFst v'||(sndP p&&refFst v) then .ret (.val (.int .i64) (Int.ofNat (min ys.length len)),[(b,some (.box bt v'))]) else .fail) .fail | none => .fail)
     | _ => .fail
    | _ => .fail
   | _ => .fail
  | _,_ => .fail
 | .call { callee:=.builtin .max,args,.. } => match args.toList.map ρ with | v :: r=>pureR (minmax true v r) | _ => .fail
 | .call { callee:=.builtin .min,args,.. } => match args.toList.map ρ with | v :: r=>pureR (minmax false v r) | _ => .fail
 | _ => .fail
where
 cast':(l:List Ty)→domOf (l.map PK.v)→tup l
  | [],_=>()
  | _ :: r,x=>(x.1,cast' r x.2)
structure Rec where
 reads:List Nat
 writes:List Nat
def opTmps (o:Op):List Nat:=o.operands.toList.filterMap fun | .tmp t=>some t | _=>none
def guardTmp (all:List Oper) (o:Oper):Option Nat :=
 match o.guard with
 | none=>none
 | some (j,_)=>(all[j]?).bind (·.dst)
def looks (all:List Oper) (o:Oper):List Nat:=(guardTmp all o).toList++opTmps o.op
def hasDst (o:Oper) (l:List Nat):Bool:=match o.dst with | some d=>memN l d | none=>false
def edgeTo (i:Nat) (o:Oper):Bool:=o.after.toList.any fun e=>Nat.beq e.on i&&Region.binds .any e
def ancs:List Oper→List Nat→List Nat
 | [],acc=>acc
 | o :: r,acc=>ancs r (acc++[o.after.toList.foldl (fun m e=>bif Region.binds .any e then m ||| (1 <<< e.on) ||| acc.getD e.on 0 else m) 0])
def indep (all:List Oper) (a b:Oper) (ra rb:Rec):Bool :=
 !hasDst a (looks all b) && !hasDst a b.dst.toList && !hasDst b (looks all a)&&disjN ra.writes (rb.reads++rb.writes)&&disjN rb.writes ra.reads
def pairsOk (all:List Oper) (b:Oper) (rb:Rec) (j:Nat):List (Oper×Rec)→Nat→Bool
 | [],_=>true
 | (a,ra) :: r,i=>(edgeTo i b||indep all a b ra rb||(ancs all []).getD j 0 >>> i%2==1)&&pairsOk all b rb j r (i+1)
def drawOk (all:List Oper):List (Oper×Rec)→List (Oper×Rec)→Nat→Bool
 | [],_,_=>true
 | (b,rb) :: r,done,j=>(b.after.toList.all fun e => !Region.binds .any e||Nat.ble (e.on+1) j)&&pairsOk all b rb j done 0&&drawOk all r (done++[(b,rb)]) (j+1)
def St.put (s:St) (d:Option Nat) (v:AV):St :=
 match d with
 | some d => { s with tmps:=setT s.tmps d v }
 | none=>s
def St.upd (s:St) (h:Heap):St:={ s with heap:=h++s.heap,dirty:=h.map (·.1)++s.dirty }
noncomputable def step {A:Type} (E:Env) (dr:Bool) (o:Oper) (i:Nat) (s:St) (k:St→Rec→Option A):Option A :=
 cond dr
  ((exec E o.op (rd s.tmps) (s.next+wide*i)).runD s.heap [] fun r rs=>k ((s.put o.dst r.1).upd r.2) ⟨rs,r.2.map (·.1)⟩)
  ((exec E o.op (rd s.tmps) (s.next+wide*i)).run s.heap [] fun r rs=>k ((s.put o.dst r.1).upd r.2) ⟨rs,r.2.map (·.1)⟩)
noncomputable def ops {A:Type} (E:Env) (dr:Bool) (all:List Oper):List Oper→Nat→St→List (Oper×Rec)→(St→List (Oper×Rec)→Option A)→Option A
 | [],_,s,rc,k=>k s rc
 | o :: r,i,s,rc,k =>
  match o.guard with
  | none=>step E dr o i s fun s' q=>ops E dr all r (i+1) s' ((o,q) :: rc) k
  | some (_,want) =>
   match guardTmp all o with
   | none=>none
   | some d =>
    match getT s.tmps d with
    | .val .bool b =>
     cond b
      (cond want
       (step E dr o i { s with tmps:=setT s.tmps d (.val .bool true) } fun s' q=>ops E dr all r (i+1) s' ((o,q) :: rc) k)
       (ops E dr all r (i+1) (St.put { s with tmps:=setT s.tmps d (.val .bool true) } o.dst (.tuple [])) ((o,⟨[],[]⟩) :: rc) k))
      (cond want
       (ops E dr all r (i+1) (St.put { s with tmps:=setT s.tmps d (.val .bool false) } o.dst (.tuple [])) ((o,⟨[],[]⟩) :: rc) k)
       (step E dr o i { s with tmps:=setT s.tmps d (.val .bool false) } fun s' q=>ops E dr all r (i+1) s' ((o,q) :: rc) k))
    | .tuple []=>ops E dr all r (i+1) (St.put s o.dst (.tuple [])) ((o,⟨[],[]⟩) :: rc) k
    | _=>none
noncomputable def region {A:Type} (E:Env) (all:List Oper) (draw:Bool) (s:St) (k:St→Option A):Option A :=
 ops E draw all all 0 s [] fun s' rc =>
  cond (!draw||drawOk all rc.reverse [] 0) (k { s' with next:=s'.next+wide*all.length }) none
inductive LK
 | sc (t:Ty) | rows (t:Ty) | mrows (t:Ty) | box (s:Sh)
def LK.den:LK→Type
 | .sc t=>t.den
 | .rows t=>List t.den
 | .mrows t=>List t.den
 | .box s=>s.den
abbrev Ann:=List (Nat×LK)
def lden:Ann→Type
 | []=>Unit
 | (_,k) :: r=>k.den×lden r
def iter {σ A:Type} (f:σ→Option (σ⊕A)):Nat→σ→Option A
 | 0,_=>none
 | n+1,s=>match f s with | some (.inl s')=>iter f n s' | some (.inr a)=>some a | none=>none
open Classical in
noncomputable def run {σ A:Type} (f:σ→Option (σ⊕A)) (s:σ):Option A :=
 if h : ∃ a n,iter f n s=some a then some (Classical.choose h) else none
noncomputable def takeLoop {A:Type} (s:St):(l:Ann)→(lden l→List Nat→List Nat→Option A)→Option A
 | [],k=>k () [] []
 | (d,.sc t) :: r,k =>
  (castR t (getT s.tmps d) fun x bs => .ret (x,bs)).run s.heap [] fun x _ =>
   match x.2 with
   | []=>takeLoop s r fun y ks xs=>k (x.1,y) ks xs
   | _=>none
 | (d,.rows t) :: r,k =>
  match getT s.tmps d with
  | .val _ _=>none
  | v=>bif vwU8 t v then none else (castR (.list t) v fun x bs => .ret (x,bs)).run s.heap [] fun x _=>takeLoop s r fun y ks xs=>k (x.1,y) (x.2++ks) xs
 | (d,.mrows t) :: r,k =>
  match getT s.tmps d with
  | .rows b _ =>
   match look s.heap b with
   | some (.row u xs)=>(match u.eq? t with | some ⟨h⟩=>takeLoop s r fun y ks bs=>k (h▸xs,y) ks (b :: bs) | none=>none)
   | _=>none
  | _=>none
 | (d,.box sh) :: r,k =>
  match getT s.tmps d with
  | .ptr b [] _ =>
   match look s.heap b with
   | some (.box t c)=>bif sh.ty.same t then (takeSh sh c fun x bs => .ret (x,bs)).run s.heap [] fun x _=>takeLoop s r fun y ks xs=>k (x.1,y) (x.2++ks) (b :: xs) else none
   | _=>none
  | _=>none
def putLoop:(l:Ann)→lden l→St→St
 | [],_,s=>s
 | (d,.sc t) :: r,x,s=>putLoop r x.2 { s with tmps:=setT s.tmps d (.val t x.1) }
 | (d,.rows t) :: r,x,s=>putLoop r x.2 { s with tmps:=setT s.tmps d (.rows s.next t),heap:=(s.next,some (.row t x.1)) :: s.heap,next:=s.next+1 }
 | (d,.mrows t) :: r,x,s =>
  match getT s.tmps d with
  | .rows b _=>putLoop r x.2 { s with heap:=(b,some (.row t x.1)) :: s.heap }
  | _=>putLoop r x.2 s
 | (d,.box sh) :: r,x,s =>
  match getT s.tmps d with
  | .ptr b [] _ =>
   match putSh sh x.1 s.next with
   | (c,h,m)=>putLoop r x.2 { s with heap:=(b,some (.box sh.ty c)) :: h++s.heap,next:=m }
  | _=>putLoop r x.2 s
inductive LA
 | unroll (n:Nat)
 | vary (a:Ann)
 | frz (ts:List Nat)
def annAt:List (Nat×LA)→Nat→Option LA
 | [],_=>none
 | (i,a) :: r,j=>bif Nat.beq i j then some a else annAt r j
def frzTs (anns:List (Nat×LA)) (i:Nat):List Nat:=match annAt anns (i+1000000) with | some (.frz ts)=>ts | _=>[]
def dsts (anns:List (Nat×LA)):Code→List Nat
 | .region i os _=>os.toList.filterMap (·.dst)++frzTs anns i
 | .seq a b=>dsts anns a++dsts anns b
 | .cond _ a b=>dsts anns a++dsts anns b
 | .block _ b=>dsts anns b
 | .loop b=>dsts anns b
 | .scope b=>dsts anns b
 | _=>[]
def firstRegion:Code→Option Nat
 | .region i _ _=>some i
 | .seq a b=>(firstRegion a).or (firstRegion b)
 | .cond _ a b=>(firstRegion a).or (firstRegion b)
 | .block _ b=>firstRegion b
 | .loop b=>firstRegion b
 | .scope b=>firstRegion b
 | _=>none
def undefs (l:Tmps) (keep:List Nat):List Nat→Tmps
 | []=>l
 | d :: r=>undefs (bif memN keep d then l else setT l d .undef) keep r
def sameN:List Nat→List Nat→Bool
 | [],[]=>true
 | a :: r,b :: s=>Nat.beq a b&&sameN r s
 | _,_=>false
def unr {A:Type} (f:St→(St→Option A)→Option A):Nat→St→Option A
 | 0,_=>none
 | n+1,s=>f s fun s'=>unr f n s'
noncomputable def frz {A:Type} : List Nat→St→(St→Option A)→Option A
 | [],s,k=>k s
 | t :: r,s,k=>match getT s.tmps t with
  | .ptr b [] _=>match look s.heap b with
   | some (.box u v)=>(castR u v fun x bs => .ret (x,bs)).run s.heap [] fun x _=>frz r { s with tmps:=setT s.tmps t (.iptr u x.1),heap:=kills (b :: x.2)++s.heap,dirty:=b :: x.2++s.dirty } k
   | _=>none
  | _=>frz r s k
noncomputable def ev (E:Env) (anns:List (Nat×LA)) {A:Type} : Code→St→(St→Option A)→(Nat→St→Option A)→(St→Option A)→Option A
 | .skip,s,kn,_,_=>kn s
 | .label _,s,kn,_,_=>kn s
 | .region i os d,s,kn,_,_=>frz (frzTs anns i) s fun s'=>region E os.toList d s' kn
 | .seq a b,s,kn,ke,kr=>ev E anns a s (fun s=>ev E anns b s kn ke kr) ke kr
 | .cond c x y,s,kn,ke,kr =>
  match rd s.tmps c with
  | .val .bool b=>cond b (ev E anns x s kn ke kr) (ev E anns y s kn ke kr)
  | _=>none
 | .block id b,s,kn,ke,kr=>ev E anns b s kn (fun i s=>bif Nat.beq i id then kn s else ke i s) kr
 | .exit id,s,_,ke,_=>ke id s
 | .ret,s,_,_,kr=>kr s
 | .loop b,s,_,ke,kr =>
  match (firstRegion b).bind (annAt anns) with
  | none=>none
  | some (.frz _)=>none
  | some (.unroll n)=>unr (fun s' kn'=>ev E anns b s' kn' ke kr) n s
  | some (.vary a) =>
   takeLoop s a fun σ0 ks xs =>
    bif nodupN (ks++xs)&&nodupN (a.map (·.1))&&(a.all fun p=>match p.2 with | .sc _ | .rows _=>memN (dsts anns b) p.1 | _=>true) then
     let sB:St:={ s with tmps:=undefs s.tmps (a.map (·.1)) (dsts anns b),heap:=kills ks++s.heap,dirty:=[] }
     let leave (s':St):St:={ s' with dirty:=s'.dirty++(ks++xs)++s.dirty }
     run (fun σ=>ev E anns b (putLoop a σ sB)
      (fun s'=>takeLoop s' a fun σ' ks' xs'=>bif sameN xs xs'&&nodupN (ks'++xs')&&(ks'.all fun d=>Nat.ble s.next d)&&(s'.dirty.all fun d=>memN xs d||Nat.ble s.next d) then some (.inl σ') else none)
      (fun i s'=>(ke i (leave s')).map .inr)
      (fun s'=>(kr (leave s')).map .inr)) σ0
    else none
 | _,_,_,_,_=>none
def argsIn:(ps:List PK)→domOf ps→Nat→List AV×Heap×Nat
 | [],_,n=>([],[],n)
 | .v t :: ps,x,n=>match argsIn ps x.2 n with | (vs,h,m)=>(.val t x.1 :: vs,h,m)
 | .ro t :: ps,x,n=>match argsIn ps x.2 n with | (vs,h,m)=>(.iptr t x.1 :: vs,h,m)
 | .io s :: ps,x,n =>
  match putSh s x.1 (n+1) with
  | (c,g,l)=>(match argsIn ps x.2 l with | (vs,h,m)=>(.ptr n [] s.ty :: vs,(n,some (.box s.ty c)) :: g++h,m))
 | .mv s :: ps,x,n =>
  match putSh s x.1 n with
  | (c,g,l)=>(match argsIn ps x.2 l with | (vs,h,m)=>(c :: vs,g++h,m))
 | .tk s :: ps,x,n =>
  match putSh s x.1 n with
  | (c,g,l)=>(match argsIn ps x.2 l with | (vs,h,m)=>(c :: vs,g++h,m))
 | .fn s :: ps,x,n=>match argsIn ps x.2 n with | (vs,h,m)=>(.fun s x.1 :: vs,h,m)
noncomputable def resVal (E:Env) (s:St):ResultVar→Option AV
 | .tmp t=>some (getT s.tmps t)
 | .cell a ty=>match E.tys ty with | some u=>(loadR u (getT s.tmps a)).run s.heap [] fun r _=>some r.1 | none=>none
noncomputable def resOut {A:Type} (E:Env) (s:St):(rs:List RK)→List ResultVar→(resOf rs→List Nat→Option A)→Option A
 | [],[],k=>k () []
 | .v sh :: rs,v :: vs,k =>
  match resVal E s v with
  | some a=>(takeSh sh a fun x bs => .ret (x,bs)).run s.heap [] fun x _=>resOut E s rs vs fun y ks=>k (x.1,y) (x.2++ks)
  | none=>none
 | .p sh :: rs,v :: vs,k =>
  match resVal E s v with
  | some (.ptr b [] _) =>
   match look s.heap b with
   | some (.box t c)=>bif sh.ty.same t then (takeSh sh c fun x bs => .ret (x,bs)).run s.heap [] fun x _=>resOut E s rs vs fun y ks=>k (x.1,y) (b :: x.2++ks) else none
   | _=>none
  | _=>none
 | _,_,_=>none
noncomputable def outsOut {A:Type} (s:St):(ps:List PK)→List AV→(outOf ps→List Nat→Option A)→Option A
 | [],[],k=>k () []
 | .io sh :: ps,.ptr b [] _ :: vs,k =>
  match look s.heap b with
  | some (.box t c)=>bif sh.ty.same t then (takeSh sh c fun x bs => .ret (x,bs)).run s.heap [] fun x _=>outsOut s ps vs fun y ks=>k (x.1,y) (b :: x.2++ks) else none
  | _=>none
 | .mv sh :: ps,v :: vs,k=>(takeSh sh v fun x bs => .ret (x,bs)).run s.heap [] fun x _=>outsOut s ps vs fun y ks=>k (x.1,y) (x.2++ks)
 | .v _ :: ps,_ :: vs,k=>outsOut s ps vs k
 | .ro _ :: ps,_ :: vs,k=>outsOut s ps vs k
 | .tk _ :: ps,_ :: vs,k=>outsOut s ps vs k
 | .fn _ :: ps,_ :: vs,k=>outsOut s ps vs k
 | _,_,_=>none
noncomputable def body (E:Env) (anns:List (Nat×LA)) (f:Func) (sig:Sig) (x:sig.dom):Option sig.cod :=
 match f.body with
 | none=>none
 | some c =>
  match argsIn sig.params x 0 with
  | (vs,h,n) =>
   let s:St:=⟨⟨vs.length+(f.ntmps-vs.length),fun i=>getL vs i⟩,h,n,[]⟩
   let fin (s':St):Option sig.cod :=
    resOut E s' sig.res f.results.toList fun r ks=>outsOut s' sig.params vs fun o js=>bif nodupN (ks++js) then some (r,o) else none
   bif sig.flat then ev E anns c s fin (fun _ _=>none) fin else none
end Go.Tm
namespace Go.Tm
open Go
def CellsAt (w:World) (c o:Nat) (vs:List Value):Prop:=∀ (j:Nat) (v:Value),vs[j]? = some v→w.cell? ⟨c,o+j,none⟩=some v
def RepVec {α:Type} (R:α→List Value→Prop):(n:Nat)→Vec n α→List Value→Prop
 | 0,_,vs=>vs=[]
 | n+1,x,vs => ∃ a b,vs=a++b∧R x.1 a∧RepVec R n x.2 b
def RepList {α:Type} (R:α→List Value→Prop):List α→List Value→Prop
 | [],vs=>vs=[]
 | x :: l,vs => ∃ a b,vs=a++b∧R x a∧RepList R l b
def Rep (w:World) (S:Nat→Prop):(t:Ty)→t.den→List Value→Prop
 | .int k,n,vs=>vs=[.int k n]
 | .flt k,b,vs => ∃ c,vs=[.float k c]∧canon k c=b
 | .bool,b,vs=>vs=[.bool b]
 | .str,s,vs=>vs=[.string ⟨List.toArray s⟩]
 | .unit,_,vs=>vs=[]
 | .err,b,vs=>(b=true∧vs=[.nilIface])∨(b=false ∧ ∃ t v,vs=[.iface t v])
 | .ref _,_,vs=>(∃ q,vs=[.pointer q])∨vs=[.nilFunc]
 | .pair a b,x,vs => ∃ c d,vs=c++d∧Rep w S a x.1 c∧Rep w S b x.2 d
 | .arr n t,x,vs=>RepVec (Rep w S t) n x vs
 | .list t,xs,vs => ∃ a cap,vs=[.slice a (List.length xs) cap]∧List.length xs≤cap ∧
   (List.length xs=0 ∨ ∃ c o cs,a=some ⟨c,o,none⟩∧S c∧CellsAt w c o cs∧RepList (Rep w S t) xs cs)
theorem CellsAt.of_block {w w':World} {c o:Nat} {vs:List Value} (h:CellsAt w c o vs) (e:w'.heap[c]? = w.heap[c]?):CellsAt w' c o vs:=by
 intro j v hj
 have:=h j v hj
 simp only [World.cell?,e] at *
 exact this
theorem RepVec.mono {α:Type} {R R':α→List Value→Prop} (h : ∀ x vs,R x vs→R' x vs) : ∀ {n:Nat} {x:Vec n α} {vs:List Value},RepVec R n x vs→RepVec R' n x vs
 | 0,_,_,hx=>hx
 | _+1,_,_,⟨a,b,e,hx,hy⟩=>⟨a,b,e,h _ _ hx,RepVec.mono h hy⟩
theorem RepList.mono {α:Type} {R R':α→List Value→Prop} (h : ∀ x vs,R x vs→R' x vs) : ∀ {x:List α} {vs:List Value},RepList R x vs→RepList R' x vs
 | [],_,hx=>hx
 | _ :: _,_,⟨a,b,e,hx,hy⟩=>⟨a,b,e,h _ _ hx,RepList.mono h hy⟩
theorem Rep.mono {w w':World} {S S':Nat→Prop} (h : ∀ c,S c→S' c∧w'.heap[c]? = w.heap[c]?) : ∀ {t:Ty} {x:t.den} {vs:List Value},Rep w S t x vs→Rep w' S' t x vs
 | .int _,_,_,hx=>hx
 | .flt _,_,_,hx=>hx
 | .bool,_,_,hx=>hx
 | .str,_,_,hx=>hx
 | .unit,_,_,hx=>hx
 | .err,_,_,hx=>hx
 | .ref _,_,_,hx=>hx
 | .pair _ _,_,_,⟨c,d,e,hx,hy⟩=>⟨c,d,e,Rep.mono h hx,Rep.mono h hy⟩
 | .arr _ _,_,_,hx=>RepVec.mono (fun _ _=>Rep.mono h) hx
 | .list t,_,_,⟨a,cap,e,hc,hx⟩=>⟨a,cap,e,hc,hx.imp id fun ⟨c,o,cs,ha,hs,hat,hr⟩=>⟨c,o,cs,ha,(h c hs).1,hat.of_block (h c hs).2,RepList.mono (fun _ _=>Rep.mono (t:=t) h) hr⟩⟩
theorem Rep.flat {w w':World} {S S':Nat→Prop} : ∀ {t:Ty} {x:t.den} {vs:List Value},t.bears=false→Rep w S t x vs→Rep w' S' t x vs
 | .int _,_,_,_,hx=>hx
 | .flt _,_,_,_,hx=>hx
 | .bool,_,_,_,hx=>hx
 | .str,_,_,_,hx=>hx
 | .unit,_,_,_,hx=>hx
 | .err,_,_,_,hx=>hx
 | .ref _,_,_,hb,_=>by simp [Ty.bears] at hb
 | .pair a b,_,_,hb,⟨c,d,e,hx,hy⟩=>by
  simp only [Ty.bears,Bool.or_eq_false_iff] at hb
  exact ⟨c,d,e,Rep.flat hb.1 hx,Rep.flat hb.2 hy⟩
 | .arr _ t,_,_,hb,hx=>RepVec.mono (fun _ _=>Rep.flat (t:=t) (by simpa [Ty.bears] using hb)) hx
 | .list t,_,_,hb,_=>by simp [Ty.bears] at hb
theorem RepVec.length {α:Type} {R:α→List Value→Prop} {k:Nat} (h : ∀ x vs,R x vs→vs.length=k) : ∀ {n:Nat} {x:Vec n α} {vs:List Value},RepVec R n x vs→vs.length=n*k
 | 0,_,_,hx=>by simp [RepVec] at hx;simp [hx]
 | n+1,_,_,⟨a,b,e,hx,hy⟩=>by
  subst e
  rw [List.length_append,h _ _ hx,RepVec.length h hy,Nat.add_mul,Nat.one_mul,Nat.add_comm]
theorem RepList.length {α:Type} {R:α→List Value→Prop} {k:Nat} (h : ∀ x vs,R x vs→vs.length=k) : ∀ {x:List α} {vs:List Value},RepList R x vs→vs.length=x.length*k
 | [],_,hx=>by simp [RepList] at hx;simp [hx]
 | _ :: _,_,⟨a,b,e,hx,hy⟩=>by
  subst e
  rw [List.length_append,h _ _ hx,RepList.length h hy,List.length_cons,Nat.add_mul,Nat.one_mul,Nat.add_comm]
theorem Rep.length {w:World} {S:Nat→Prop} : ∀ {t:Ty} {x:t.den} {vs:List Value},Rep w S t x vs→vs.length=t.size
 | .int _,_,_,hx=>by simp [Rep] at hx;simp [hx,Ty.size]
 | .flt _,_,_,hx=>by obtain ⟨c,h,_⟩:=hx;simp [h,Ty.size]
 | .bool,_,_,hx=>by simp [Rep] at hx;simp [hx,Ty.size]
 | .str,_,_,hx=>by simp [Rep] at hx;simp [hx,Ty.size]
 | .unit,_,_,hx=>by simp [Rep] at hx;simp [hx,Ty.size]
 | .err,_,_,hx=>by rcases hx with ⟨_,h⟩ | ⟨_,t,v,h⟩ <;> simp [h,Ty.size]
 | .ref _,_,_,hx=>by rcases hx with ⟨q,h⟩ | h <;> simp [h,Ty.size]
 | .pair a b,_,_,⟨c,d,e,hx,hy⟩=>by
  subst e
  rw [List.length_append,Rep.length hx,Rep.length hy];rfl
 | .arr n t,_,_,hx=>by rw [RepVec.length (fun _ _=>Rep.length (t:=t)) hx];rfl
 | .list t,_,_,⟨a,cap,e,_,_⟩=>by simp [e,Ty.size]
theorem RepVec.all {α:Type} {R:α→List Value→Prop} {p:Value→Prop} (h : ∀ x vs,R x vs → ∀ v∈vs,p v) : ∀ {n:Nat} {x:Vec n α} {vs:List Value},RepVec R n x vs → ∀ v∈vs,p v
 | 0,_,_,hx=>by simp [RepVec] at hx;simp [hx]
 | _+1,_,_,⟨a,b,e,hx,hy⟩=>by
  subst e
  intro v hv
  rcases List.mem_append.1 hv with hv | hv
  ·exact h _ _ hx v hv
  ·exact RepVec.all h hy v hv
theorem RepList.all {α:Type} {R:α→List Value→Prop} {p:Value→Prop} (h : ∀ x vs,R x vs → ∀ v∈vs,p v) : ∀ {x:List α} {vs:List Value},RepList R x vs → ∀ v∈vs,p v
 | [],_,hx=>by simp [RepList] at hx;simp [hx]
 | _ :: _,_,⟨a,b,e,hx,hy⟩=>by
  subst e
  intro v hv
  rcases List.mem_append.1 hv with hv | hv
  ·exact h _ _ hx v hv
  ·exact RepList.all h hy v hv
theorem Rep.one {w:World} {S:Nat→Prop} : ∀ {t:Ty} {x:t.den} {vs:List Value},Rep w S t x vs → ∀ v∈vs,v.oneCell'=true
 | .int _,_,_,hx=>by simp [Rep] at hx;simp [hx,Value.oneCell']
 | .flt _,_,_,hx=>by obtain ⟨c,h,_⟩:=hx;simp [h,Value.oneCell']
 | .bool,_,_,hx=>by simp [Rep] at hx;simp [hx,Value.oneCell']
 | .str,_,_,hx=>by simp [Rep] at hx;simp [hx,Value.oneCell']
 | .unit,_,_,hx=>by simp [Rep] at hx;simp [hx]
 | .err,_,_,hx=>by rcases hx with ⟨_,h⟩ | ⟨_,t,v,h⟩ <;> simp [h,Value.oneCell']
 | .ref _,_,_,hx=>by rcases hx with ⟨q,h⟩ | h <;> simp [h,Value.oneCell']
 | .pair a b,_,_,⟨c,d,e,hx,hy⟩=>by
  subst e
  intro v hv
  rcases List.mem_append.1 hv with hv | hv
  ·exact Rep.one hx v hv
  ·exact Rep.one hy v hv
 | .arr n t,_,_,hx=>RepVec.all (fun _ _=>Rep.one (t:=t)) hx
 | .list t,_,_,⟨a,cap,e,_,_⟩=>by simp [e,Value.oneCell']
def ValOf (agg:Bool) (cs:List Value) (x:Value):Prop:=if agg then x = .agg cs.toArray else cs=[x]
def VRep (w:World) (S:Nat→Prop) (t:Ty) (y:t.den) (x:Value):Prop:=∃ cs,Rep w S t y cs∧ValOf t.isAgg cs x
theorem ValOf.cells {agg:Bool} {cs:List Value} {x:Value} (h:ValOf agg cs x) (h1 : ∀ v∈cs,v.oneCell'=true):x.cells.toList=cs:=by
 unfold ValOf at h
 cases agg with
 | true=>simp at h;subst h;simp [Value.cells]
 | false =>
  simp at h;subst h
  have:=h1 x (by simp)
  cases x <;> simp_all [Value.cells,Value.oneCell']
inductive Kind
 | box (t:Ty)
 | row (t:Ty) (n room:Nat)
 | nilrow (t:Ty)
structure Inf where
 c:Nat
 d:Nat
 kind:Kind
inductive TyOff:Ty→List PS→Nat→Ty→Prop
 | here (t:Ty):TyOff t [] 0 t
 | fst {a b:Ty} {p:List PS} {o:Nat} {u:Ty} : TyOff a p o u→TyOff (.pair a b) (.fst :: p) o u
 | snd {a b:Ty} {p:List PS} {o:Nat} {u:Ty} : TyOff b p o u→TyOff (.pair a b) (.snd :: p) (a.size+o) u
 | idx {n i:Nat} {t:Ty} {p:List PS} {o:Nat} {u:Ty} : i<n→TyOff t p o u→TyOff (.arr n t) (.idx i :: p) (i*t.size+o) u
inductive KOff:Kind→List PS→Nat→Ty→Prop
 | box {t:Ty} {p:List PS} {o:Nat} {u:Ty} : TyOff t p o u→KOff (.box t) p o u
 | row {t:Ty} {n room i:Nat} {p:List PS} {o:Nat} {u:Ty} : i<n→TyOff t p o u→KOff (.row t n room) (.idx i :: p) (i*t.size+o) u
theorem TyOff.append {t u v:Ty} {p q:List PS} {o r:Nat} (h:TyOff t p o u) (g:TyOff u q r v):TyOff t (p++q) (o+r) v:=by
 induction h with
 | here=>simpa using g
 | fst _ ih=>exact .fst (ih g)
 | snd _ ih=>rw [Nat.add_assoc];exact .snd (ih g)
 | idx hi _ ih=>rw [Nat.add_assoc];exact .idx hi (ih g)
theorem KOff.append {k:Kind} {u v:Ty} {p q:List PS} {o r:Nat} (h:KOff k p o u) (g:TyOff u q r v):KOff k (p++q) (o+r) v:=by
 cases h with
 | box h=>exact .box (h.append g)
 | row hi h=>rw [Nat.add_assoc];exact .row hi (h.append g)
theorem TyOff.inside {t u:Ty} {p:List PS} {o:Nat} (h:TyOff t p o u):o+u.size≤t.size:=by
 induction h with
 | here=>simp
 | fst _ ih=>simp only [Ty.size];omega
 | snd _ ih=>simp only [Ty.size];omega
 | @idx n i t p o u hi _ ih =>
  simp only [Ty.size]
  have:(i+1)*t.size≤n*t.size:=Nat.mul_le_mul_right _ hi
  rw [Nat.add_mul,Nat.one_mul] at this
  omega
def RepTup (w:World) (S:Nat→Prop):(l:List Ty)→tup l→List Value→Prop
 | [],_,vs=>vs=[]
 | t :: r,x,vs => ∃ v us,vs=v :: us∧VRep w S t x.1 v∧RepTup w S r x.2 us
def Same (w w':World):Prop:=w'.os=w.os∧w'.output=w.output∧w.heap.size≤w'.heap.size
def Comes' (P:Program) (R:Value→World→Prop):Result Next→Prop
 | .ok (.value x) w'=>R x w'
 | .ok .skip w'=>R undef w'
 | .ok (.enter f args) w'=>Calls P f args w' fun e w'' => ∃ x,e = .returned x∧R x w''
 | _=>False
def Runs (P:Program) (f:FuncId) (args:Array Value) (w:World) (R:Value→World→Prop):Prop:=Comes' P R ((callFunc f args).run P w)
def FnOK (P:Program) (w:World) (S:Nat→Prop) (s:FSig) (g:tup s.dom→Option s.cod.den) (v:Value):Prop :=
 s.cod.bears=false ∧
 ∃ f first caps,v = .func (.func f) first caps ∧
  ∀ w',(∀ c,S c→w'.heap[c]? = w.heap[c]?)→w.heap.size≤w'.heap.size →
   ∀ (x:tup s.dom) (args:List Value) (y:s.cod.den),RepTup w' (fun c=>c<w'.heap.size) s.dom x args→g x=some y →
    Runs P f (first++args.toArray++caps) w' fun v w''=>VRep w'' (fun _=>False) s.cod y v ∧
     Same w' w'' ∧ ∀ c,c<w'.heap.size→w''.heap[c]? = w'.heap[c]?
def AV.agg:AV→Bool
 | .val t _=>t.isAgg
 | .unit | .pair _ _=>true
 | _=>false
mutual
def AVC (P:Program) (ι:Nat→Inf) (K:Nat→Prop) (w:World) (S:Nat→Prop):AV→List Value→Prop
 | .undef,cs => ∃ x,cs=[x]
 | .val t y,cs=>Rep w S t y cs
 | .nilS,cs=>cs=[.slice none 0 0]
 | .rows b t,cs=>K b∧(((ι b).kind = .nilrow t ∧ ∃ a,cs=[.slice a 0 0]) ∨
   ∃ n room cap,(ι b).kind = .row t n room∧cs=[.slice (some ⟨(ι b).c,(ι b).d,none⟩) n cap]∧n≤cap∧cap*t.size=room∧0<cap)
 | .view b p t off len,cs=>K b∧((len=0∧(∃ a,cs=[.slice a 0 0])∧((p=[] ∧ ∃ n room,(ι b).kind = .row t n room∧off≤n)∨(p=[]∧(ι b).kind = .nilrow t) ∨ ∃ o n,KOff (ι b).kind p o (.arr n t)∧off≤n)) ∨
   (∃ n room cap,p=[]∧(ι b).kind = .row t n room∧cs=[.slice (some ⟨(ι b).c,(ι b).d+off*t.size,none⟩) len cap]∧len≤cap∧off+len≤n∧(off+cap)*t.size≤room∧0<cap) ∨
   ∃ o n cap,KOff (ι b).kind p o (.arr n t)∧cs=[.slice (some ⟨(ι b).c,(ι b).d+(o+off*t.size),none⟩) len cap]∧len≤cap∧off+len≤n∧off+cap≤n∧0<cap)
 | .ptr b p t,cs=>K b ∧ ∃ o,KOff (ι b).kind p o t∧cs=[.pointer (some ⟨(ι b).c,(ι b).d+o,none⟩)]
 | .aptr b p t off n,cs=>K b ∧ ∃ a,cs=[.pointer (some a)]∧((a=⟨(ι b).c,(ι b).d+off*t.size,none⟩∧p=[] ∧ ∃ m room,(ι b).kind = .row t m room∧off+n≤m) ∨
   ∃ o m,KOff (ι b).kind p o (.arr m t)∧off+n≤m∧a=⟨(ι b).c,(ι b).d+(o+off*t.size),none⟩)
 | .iptr t y,cs => ∃ c o vs,cs=[.pointer (some ⟨c,o,none⟩)]∧S c∧CellsAt w c o vs∧Rep w S t y vs
 | .unit,cs=>cs=[]
 | .pair a b,cs => ∃ c d,cs=c++d∧AVC P ι K w S a c∧AVC P ι K w S b d
 | .tuple vs,cs => ∃ xs,cs=[.tuple (List.toArray xs)]∧AVCs P ι K w S vs xs
 | .fn f first caps,cs => ∃ xs ys,cs=[.func (.func f) (List.toArray xs) (List.toArray ys)]∧AVCs P ι K w S first xs∧AVCs P ι K w S caps ys
 | .fun s g,cs => ∃ v,cs=[v]∧FnOK P w S s g v
def AVCs (P:Program) (ι:Nat→Inf) (K:Nat→Prop) (w:World) (S:Nat→Prop):List AV→List Value→Prop
 | [],xs=>xs=[]
 | v :: r,xs => ∃ x ys cs,xs=x :: ys∧AVC P ι K w S v cs∧ValOf v.agg cs x∧AVCs P ι K w S r ys
end
def AVR (P:Program) (ι:Nat→Inf) (K:Nat→Prop) (w:World) (S:Nat→Prop) (v:AV) (x:Value):Prop:=∃ cs,AVC P ι K w S v cs∧ValOf v.agg cs x
theorem FnOK.mono {P:Program} {w w':World} {S S':Nat→Prop} (h : ∀ c,S c→S' c∧w'.heap[c]? = w.heap[c]?) (hs:w.heap.size≤w'.heap.size) {s:FSig} {g:tup s.dom→Option s.cod.den} {v:Value}
  (hf:FnOK P w S s g v):FnOK P w' S' s g v:=by
 obtain ⟨hb,f,first,caps,e,hc⟩:=hf
 exact ⟨hb,f,first,caps,e,fun w'' hw hsz=>hc w'' (fun c hc'=>(hw c (h c hc').1).trans (h c hc').2) (Nat.le_trans hs hsz)⟩
section
variable {P : Program} {ι ι' : Nat → Inf} {K K' : Nat → Prop} {w w' : World} {S S' : Nat → Prop}
 (hK : ∀ b,K b→K' b∧ι' b=ι b) (h : ∀ c,S c→S' c∧w'.heap[c]? = w.heap[c]?) (hs:w.heap.size≤w'.heap.size)
include hK h hs
mutual
theorem AVC.mono : ∀ {v:AV} {cs:List Value},AVC P ι K w S v cs→AVC P ι' K' w' S' v cs
 | .undef,_,hx=>by simp only [AVC] at hx ⊢;exact hx
 | .val _ _,_,hx=>by simp only [AVC] at hx ⊢;exact hx.mono h
 | .nilS,_,hx=>by simp only [AVC] at hx ⊢;exact hx
 | .rows b _,_,hx=>by simp only [AVC] at hx ⊢;rw [(hK b hx.1).2];exact ⟨(hK b hx.1).1,hx.2⟩
 | .view b _ _ _ _,_,hx=>by simp only [AVC] at hx ⊢;rw [(hK b hx.1).2];exact ⟨(hK b hx.1).1,hx.2⟩
 | .ptr b _ _,_,hx=>by simp only [AVC] at hx ⊢;rw [(hK b hx.1).2];exact ⟨(hK b hx.1).1,hx.2⟩
 | .aptr b _ _ _ _,_,hx=>by simp only [AVC] at hx ⊢;rw [(hK b hx.1).2];exact ⟨(hK b hx.1).1,hx.2⟩
 | .iptr _ _,_,hx=>by
  simp only [AVC] at hx ⊢
  obtain ⟨c,o,vs,e,hc,hat,hr⟩:=hx
  exact ⟨c,o,vs,e,(h c hc).1,hat.of_block (h c hc).2,hr.mono h⟩
 | .unit,_,hx=>by simp only [AVC] at hx ⊢;exact hx
 | .pair a b,_,hx=>by
  simp only [AVC] at hx ⊢
  obtain ⟨c,d,e,ha,hb⟩:=hx
  exact ⟨c,d,e,AVC.mono ha,AVC.mono hb⟩
 | .tuple vs,_,hx=>by
  simp only [AVC] at hx ⊢
  obtain ⟨xs,e,hv⟩:=hx
  exact ⟨xs,e,AVCs.mono hv⟩
 | .fn f first caps,_,hx=>by
  simp only [AVC] at hx ⊢
  obtain ⟨xs,ys,e,h1,h2⟩:=hx
  exact ⟨xs,ys,e,AVCs.mono h1,AVCs.mono h2⟩
 | .fun s g,_,hx=>by
  simp only [AVC] at hx ⊢
  obtain ⟨v,e,hf⟩:=hx
  exact ⟨v,e,hf.mono h hs⟩
theorem AVCs.mono : ∀ {vs:List AV} {xs:List Value},AVCs P ι K w S vs xs→AVCs P ι' K' w' S' vs xs
 | [],_,hx=>by simp only [AVCs] at hx ⊢;exact hx
 | v :: r,_,hx=>by
  simp only [AVCs] at hx ⊢
  obtain ⟨x,ys,cs,e,hc,hv,hr⟩:=hx
  exact ⟨x,ys,cs,e,AVC.mono hc,hv,AVCs.mono hr⟩
end
theorem AVR.mono {v:AV} {x:Value} : AVR P ι K w S v x→AVR P ι' K' w' S' v x:=fun ⟨cs,hc,hv⟩=>⟨cs,AVC.mono hK h hs hc,hv⟩
end
end Go.Tm
namespace Go.Tm
open Go
def zc:Ty→List Value
 | .int k=>[.int k 0]
 | .flt k=>[.float k 0]
 | .bool=>[.bool false]
 | .str=>[.string ⟨#[]⟩]
 | .unit=>[]
 | .err=>[.nilIface]
 | .ref _=>[.pointer none]
 | .pair a b=>zc a++zc b
 | .arr n t=>(List.replicate n (zc t)).flatten
 | .list _=>[.slice none 0 0]
def valB:Value→Value→Bool
 | .int k a,.int l b=>decide (k=l)&&decide (a=b)
 | .float k a,.float l b=>decide (k=l)&&decide (a=b)
 | .bool a,.bool b=>decide (a=b)
 | .string a,.string b=>decide (a.data=b.data)
 | .nilIface,.nilIface=>true
 | .pointer none,.pointer none=>true
 | .slice none 0 0,.slice none 0 0=>true
 | _,_=>false
theorem qaoz : ∀ {a b:Value},valB a b=true→a=b:=by
 intro a b h
 unfold valB at h
 split at h <;> simp_all
 rename_i a b;cases a;cases b;simp_all
def valsB:List Value→List Value→Bool
 | [],[]=>true
 | a :: r,b :: s=>valB a b&&valsB r s
 | _,_=>false
theorem qaak : ∀ {a b:List Value},valsB a b=true→a=b
 | [],[],_=>rfl
 | a :: r,b :: s,h=>by simp only [valsB,Bool.and_eq_true] at h;rw [qaoz h.1,qaak h.2]
 | [],_ :: _,h=>by simp [valsB] at h
 | _ :: _,[],h=>by simp [valsB] at h
def zeroB (agg:Bool) (cs:List Value) (z:Value):Bool :=
 match agg,z with
 | true,.agg xs=>valsB xs.toList cs
 | false,z=>valsB [z] cs
 | _,_=>false
theorem qank {agg:Bool} {cs:List Value} {z:Value} (h:zeroB agg cs z=true):ValOf agg cs z:=by
 unfold zeroB at h
 split at h
 ·simp [ValOf,← qaak h]
 ·simp [ValOf,← qaak h]
 ·simp at h
def baseOK (P:Program) (t:Ty) (i:TypeId):Bool :=
 match P.info? i with
 | some f=>Nat.beq f.size t.size&&(match f.zero with | some z=>zeroB t.isAgg (zc t) z | none=>false)
 | none=>false
mutual
def okTy (P:Program):Ty→TypeId→Bool
 | .int k,i=>baseOK P (.int k) i&&(match P.underlying i with | some (.int l)=>decide (l=k) | _=>false)
 | .flt k,i=>baseOK P (.flt k) i&&(match P.underlying i with | some (.float l)=>decide (l=k) | _=>false)
 | .bool,i=>baseOK P .bool i&&(match P.underlying i with | some .bool=>true | _=>false)
 | .str,i=>baseOK P .str i&&(match P.underlying i with | some .string=>true | _=>false)
 | .unit,i=>baseOK P .unit i&&(match P.underlying i with | some (.struct fs)=>fs.toList.isEmpty | _=>false)
 | .err,i=>baseOK P .err i&&(match P.underlying i with | some (.interface _)=>true | _=>false)
 | .ref T,i=>baseOK P (.ref T) i&&(match P.underlying i with | some (.pointer _)=>true | _=>false)
 | .pair a b,i=>baseOK P (.pair a b) i&&(match P.underlying i with
  | some (.struct fs)=>(match fs.toList with | f :: r=>Nat.beq f.offset 0&&okTy P a f.type&&okRest P b r a.size | []=>false)
  | _=>false)
 | .arr n t,i=>baseOK P (.arr n t) i&&(match P.underlying i with | some (.array m e)=>Nat.beq m n&&okTy P t e | _=>false)
 | .list t,i=>baseOK P (.list t) i&&(match P.underlying i with | some (.slice e)=>okTy P t e | _=>false)
def okRest (P:Program):Ty→List Field→Nat→Bool
 | .unit,[],_=>true
 | .pair a b,f :: r,o=>Nat.beq f.offset o&&okTy P a f.type&&okRest P b r (o+a.size)
 | _,_,_=>false
end
theorem qah3 {P:Program} {t:Ty} {i:TypeId} (h:okTy P t i=true):baseOK P t i=true:=by
 cases t <;> (simp only [okTy,Bool.and_eq_true] at h;exact h.1)
theorem info_of {P:Program} {t:Ty} {i:TypeId} (h:okTy P t i=true) : ∃ f,P.info? i=some f∧f.size=t.size:=by
 have hb:=qah3 h
 unfold baseOK at hb
 split at hb
 ·rename_i f hf;simp only [Bool.and_eq_true] at hb;exact ⟨f,hf,Nat.eq_of_beq_eq_true hb.1⟩
 ·simp at hb
theorem qado {P:Program} {t:Ty} {i:TypeId} (h:okTy P t i=true) : ∃ f z,P.info? i=some f∧f.zero=some z∧ValOf t.isAgg (zc t) z:=by
 have hb:=qah3 h
 unfold baseOK at hb
 split at hb
 ·rename_i f hf
  simp only [Bool.and_eq_true] at hb
  obtain ⟨_,hz⟩:=hb
  split at hz
  ·rename_i z hz';exact ⟨f,z,hf,hz',qank hz⟩
  ·simp at hz
 ·simp at hb
theorem qajw {P:Program} {t:Ty} {i:TypeId} (h:okTy P t i=true) : ∃ d,P.underlying i=some d∧(match d with | .struct _ | .array _ _=>true | _=>false)=t.isAgg:=by
 cases t <;> simp only [okTy,Bool.and_eq_true] at h <;> obtain ⟨_,h⟩:=h <;> split at h <;> first | (simp at h;done) | (rename_i hu;exact ⟨_,hu,rfl⟩)
section
variable {P : Program} {t : Ty} {i : TypeId} (h : okTy P t i = true) (w : World)
include h
theorem qaw:(sizeOf i).run P w = .ok t.size w:=by
 obtain ⟨f,hf,hs⟩:=info_of h
 simp [sizeOf,typeInfo,hf,hs]
theorem qrs:(isAgg i).run P w = .ok t.isAgg w:=by
 obtain ⟨d,hd,ha⟩:=qajw h
 unfold isAgg
 rw [Sem.run_bind,run_underlying hd]
 rw [← ha]
 cases d <;> rfl
theorem qaab : ∃ z,(zeroValue i).run P w = .ok z w∧ValOf t.isAgg (zc t) z:=by
 obtain ⟨f,z,hf,hz,hv⟩:=qado h
 exact ⟨z,by simp [zeroValue,typeInfo,hf,hz],hv⟩
theorem quh {c o:Nat} {cs:List Value} (hc:CellsAt w c o cs) (hl:cs.length=t.size) : ∃ x,(loadVar i ⟨c,o,none⟩).run P w = .ok x w∧ValOf t.isAgg cs x:=by
 have hadd : ∀ j,(⟨c,o,none⟩:Addr).add j=⟨c,o+j,none⟩:=by intro j;unfold Addr.add;split <;> simp_all
 unfold loadVar
 rw [Sem.run_bind,qrs h]
 cases ha:t.isAgg with
 | true =>
  have hld:(loadCells ⟨c,o,none⟩ cs.length).run P w = .ok cs.toArray w:=run_loadCells_list (P:=P) w ⟨c,o,none⟩ cs fun j v hj=>by rw [hadd];exact hc j v hj
  refine ⟨.agg cs.toArray,?_,by simp [ValOf]⟩
  simp [qaw h,← hl,hld]
 | false =>
  have h1:t.size=1:=by cases t <;> simp_all [Ty.isAgg,Ty.size]
  obtain ⟨x,hx⟩ : ∃ x,cs=[x]:=by
   match cs,hl.trans h1 with
   | [x],_=>exact ⟨x,rfl⟩
  subst hx
  have:=hc 0 x rfl
  refine ⟨x,?_,by simp [ValOf]⟩
  simp at this
  simp [this]
end
theorem CellsAt.of_cells {w:World} {c o:Nat} {cells:Array Value} {e:TypeId} {fz:Nat×Nat} {vs:List Value} (hb:w.heap[c]? = some (.cells cells e fz)) (h : ∀ (j:Nat) (v:Value),vs[j]? = some v→cells[o+j]? = some v):CellsAt w c o vs:=by
 intro j v hj
 simp [World.cell?,hb,h j v hj]
def over (cur:List Value) (o:Nat) (vs:List Value):List Value:=cur.take o++vs++cur.drop (o+vs.length)
theorem qs1 {P:Program} {t:Ty} {i:TypeId} (h:okTy P t i=true) {w:World} {c o:Nat} {e:TypeId} {cur:Array Value} {cs:List Value} {x:Value}
  (hb:w.heap[c]? = some (.cells cur e (0,0))) (hl:o+t.size≤cur.size) (hn:cs.length=t.size) (h1 : ∀ v∈cs,v.oneCell'=true) (hx:ValOf t.isAgg cs x) :
  (storeVar i ⟨c,o,none⟩ x).run P w = .ok () (w.setRow c (over cur.toList o cs).toArray):=by
 have hcells:=hx.cells h1
 have hsz:x.cells.size=t.size:=by rw [← Array.length_toList,hcells,hn]
 have hst:=run_storeCells_at P c o e cs 0 cur w hb (by omega) h1
 simp only [storeVar,Sem.run_bind,qaw h,Result.andThen_ok,Sem.run_ite,hsz,ne_eq,not_true_eq_false,if_false,hcells]
 simpa [over] using hst
theorem qex {cur:List Value} {o:Nat} {vs:List Value} (h:o+vs.length≤cur.length) (j:Nat):(over cur o vs)[j]? = if j<o then cur[j]? else if j<o+vs.length then vs[j-o]? else cur[j]?:=by
 unfold over
 have h1:(cur.take o).length=o:=by simp;omega
 by_cases hj:j<o
 ·rw [if_pos hj,List.append_assoc,List.getElem?_append_left (by omega),List.getElem?_take_of_lt hj]
 ·rw [if_neg hj,List.append_assoc,List.getElem?_append_right (by omega),h1]
  by_cases hk:j<o+vs.length
  ·rw [if_pos hk,List.getElem?_append_left (by omega)]
  ·rw [if_neg hk,List.getElem?_append_right (by omega),List.getElem?_drop]
   congr 1;omega
theorem qar {cur:List Value} {o:Nat} {vs:List Value} (h:o+vs.length≤cur.length):(over cur o vs).length=cur.length:=by
 simp [over];omega
theorem setRow_same {w:World} {c:Nat} {cur:Array Value} {e:TypeId} {fz:Nat×Nat} (hb:w.heap[c]? = some (.cells cur e fz)) (cs:Array Value):(w.setRow c cs).heap[c]? = some (.cells cs e fz):=by
 have hlt:c<w.heap.size:=(Array.getElem?_eq_some_iff.1 hb).1
 have hv:w.heap[c] = .cells cur e fz:=(Array.getElem?_eq_some_iff.1 hb).2
 simp [World.setRow,Array.getElem?_modify,hb]
theorem setRow_other {w:World} {c d:Nat} (cs:Array Value) (h:d≠c):(w.setRow c cs).heap[d]? = w.heap[d]?:=by
 simp only [World.setRow,Array.getElem?_modify]
 rw [if_neg (fun e=>h e.symm)]
theorem setRow_size {w:World} {c:Nat} (cs:Array Value):(w.setRow c cs).heap.size=w.heap.size:=by simp [World.setRow]
theorem qab4 {α:Type} {R:α→List Value→Prop} {z:α} {zs:List Value} (h:R z zs) : ∀ n,RepVec R n (Vec.rep z n) (List.replicate n zs).flatten
 | 0=>rfl
 | n+1=>⟨zs,_,by simp [List.replicate_succ],h,qab4 h n⟩
theorem qj0 {w:World} {S:Nat→Prop} : ∀ t:Ty,Rep w S t t.zero (zc t)
 | .int _=>rfl
 | .flt k=>⟨0,rfl,by cases k <;> (simp only [Ty.zero];decide +kernel)⟩
 | .bool=>rfl
 | .str=>rfl
 | .unit=>rfl
 | .err => .inl ⟨rfl,rfl⟩
 | .ref _ => .inl ⟨none,rfl⟩
 | .pair a b=>⟨_,_,rfl,qj0 a,qj0 b⟩
 | .arr n t=>qab4 (qj0 t) n
 | .list t=>⟨none,0,rfl,Nat.le_refl _,.inl rfl⟩
end Go.Tm
namespace Go.Tm
open Go
structure Fr where
 w0:World
 S0:Nat→Prop
 O0:Nat→Prop
 W0:Nat→Nat→Prop
def Inf.has (i:Inf) (j:Nat):Prop:=match i.kind with | .row _ _ room=>i.d≤j∧j<i.d+room | _=>True
theorem Inf.has_row {i:Inf} {t:Ty} {n room:Nat} (h:i.kind = .row t n room) (j:Nat):i.has j↔i.d≤j∧j<i.d+room:=by unfold Inf.has;rw [h]
theorem Inf.has_box {i:Inf} {t:Ty} (h:i.kind = .box t) (j:Nat):i.has j:=by unfold Inf.has;rw [h];trivial
def Stay (W:Nat→Nat→Prop) (w w':World):Prop:=∀ (c:Nat) (cs:Array Value) (e:TypeId) (z:Nat×Nat),w.heap[c]? = some (.cells cs e z) → ∃ (cs':Array Value) (z':Nat×Nat),w'.heap[c]? = some (.cells cs' e z')∧cs'.size=cs.size ∧ ∀ j:Nat,¬ W c j→cs'[j]? = cs[j]?
theorem Stay.refl (W:Nat→Nat→Prop) (w:World):Stay W w w:=fun _ cs _ z h=>⟨cs,z,h,rfl,fun _ _=>rfl⟩
theorem Stay.on {W:Nat→Nat→Prop} {w w1 w2:World} (h:Stay W w w1) (g : ∀ c,c<w1.heap.size→w2.heap[c]? = w1.heap[c]?):Stay W w w2:=fun c cs e z hc =>
 let ⟨cs',z',h1,h2⟩:=h c cs e z hc
 ⟨cs',z',(g c (Array.getElem?_eq_some_iff.1 h1).1).trans h1,h2⟩
theorem Stay.keep {W:Nat→Nat→Prop} {w w2:World} (g : ∀ c,c<w.heap.size→w2.heap[c]? = w.heap[c]?):Stay W w w2:=(Stay.refl W w).on g
theorem Stay.trans {W:Nat→Nat→Prop} {w w1 w2:World} (h:Stay W w w1) {V:Nat→Nat→Prop} (g:Stay V w1 w2) (hv : ∀ c j,c<w.heap.size→V c j→W c j):Stay W w w2:=fun c cs e z hc =>
 let ⟨_,_,h1,h2,h3⟩:=h c cs e z hc
 let ⟨cs2,z2,g1,g2,g3⟩:=g c _ e _ h1
 ⟨cs2,z2,g1,g2.trans h2,fun j hj=>(g3 j fun hv'=>hj (hv c j (Array.getElem?_eq_some_iff.1 hc).1 hv')).trans (h3 j hj)⟩
def Kind.real:Kind→Bool
 | .nilrow _=>false
 | _=>true
def Own (ι:Nat→Inf) (H:Heap) (c:Nat):Prop:=∃ b x,look H b=some x∧(ι b).kind.real=true∧(ι b).c=c
def Reg (F:Fr) (ι:Nat→Inf) (H:Heap) (w:World) (c:Nat):Prop:=(F.S0 c∨F.O0 c∨F.w0.heap.size≤c)∧c<w.heap.size∧¬ Own ι H c
def SelfC (c:Nat) (e:TypeId) (t:Ty) (r:Bool) (cs:List Value):Prop:=(∀ x∈cs,x.oneCell'=true)∧(r=true→cs[0]? = some (.pointer none)∨cs[0]? = some (.pointer (some ⟨c,0,none⟩)))∧(t.refT≠0→e=t.refT)
def RowE (P:Program) (t:Ty) (e:TypeId):Prop:=t = .int .u8→okTy P t e=true
def BlkR (P:Program) (ι:Nat→Inf) (K:Nat→Prop) (w:World) (S:Nat→Prop) (i:Inf):Blk→Prop
 | .box t v=>i.kind = .box t∧i.d=0 ∧ ∃ cs e,w.heap[i.c]? = some (.cells cs e (0,0))∧AVC P ι K w S v cs.toList∧cs.toList.length=t.size∧SelfC i.c e t (refFst v) cs.toList∧fitsB t v=true
 | .row t xs=>(i.kind = .nilrow t∧List.length xs=0) ∨ ∃ room cs e vs,i.kind = .row t (List.length xs) room∧w.heap[i.c]? = some (.cells cs e (0,0))∧(i.d+room≤cs.size∧RowE P t e) ∧
   List.length xs*t.size≤room∧RepList (Rep w S t) xs vs ∧ ∀ (j:Nat) (v:Value),vs[j]? = some v→cs[i.d+j]? = some v
structure Inv (P:Program) (F:Fr) (ι:Nat→Inf) (K:Nat→Prop) (H:Heap) (w:World):Prop where
 same:Same F.w0 w
 lent : ∀ c,F.S0 c→c<F.w0.heap.size∧¬ F.O0 c
 keep : ∀ c,c<F.w0.heap.size→¬ F.O0 c→w.heap[c]? = F.w0.heap[c]?
 known : ∀ b x,look H b=some x→K b
 blks : ∀ b x,look H b=some x→BlkR P ι K w (Reg F ι H w) (ι b) x
 mine : ∀ b x,look H b=some x→(ι b).kind.real=true→F.O0 (ι b).c∨F.w0.heap.size≤(ι b).c
 inj : ∀ b b' x x',look H b=some x→look H b'=some x'→(ι b).kind.real=true→(ι b').kind.real=true→(ι b).c=(ι b').c→b=b'
 stay:Stay F.W0 F.w0 w
 cover : ∀ b x,look H b=some x→(ι b).kind.real=true→(ι b).c<F.w0.heap.size → ∀ j,(ι b).has j→F.W0 (ι b).c j
def Slots (P:Program) (F:Fr) (ι:Nat→Inf) (K:Nat→Prop) (H:Heap) (w:World) (l:Tmps) (a:Array Value):Prop :=
 l.length=a.size ∧ ∀ t,AVR P ι K w (Reg F ι H w) (getT l t) (a.getD t undef)
theorem BlkR.mono {P:Program} {ι ι':Nat→Inf} {K K':Nat→Prop} {w w':World} {S S':Nat→Prop} (hK : ∀ b,K b→K' b∧ι' b=ι b) (h : ∀ c,S c→S' c∧w'.heap[c]? = w.heap[c]?)
  (hs:w.heap.size≤w'.heap.size) {i:Inf} (hi:i.kind.real=true→w'.heap[i.c]? = w.heap[i.c]?) : ∀ {x:Blk},BlkR P ι K w S i x→BlkR P ι' K' w' S' i x
 | .box t v,⟨hk,hd,cs,e,hb,hv,hl,h1,hf⟩=>⟨hk,hd,cs,e,(hi (by rw [hk];rfl)).trans hb,hv.mono hK h hs,hl,h1,hf⟩
 | .row t xs,hx=>hx.imp id fun ⟨room,cs,e,vs,hk,hb,h1,h2,h3,h4⟩=>⟨room,cs,e,vs,hk,(hi (by rw [hk];rfl)).trans hb,h1,h2,RepList.mono (fun _ _=>Rep.mono h) h3,h4⟩
theorem Inv.exists {P:Program} {F:Fr} {ι:Nat→Inf} {K:Nat→Prop} {H:Heap} {w:World} (h:Inv P F ι K H w) {b:Nat} {x:Blk} (hb:look H b=some x) (hr:(ι b).kind.real=true):(ι b).c<w.heap.size:=by
 have:=h.blks b x hb
 cases x with
 | box t v=>obtain ⟨_,_,cs,e,hc,_⟩:=this;exact (Array.getElem?_eq_some_iff.1 hc).1
 | row t xs =>
  rcases this with ⟨hk,_⟩ | ⟨room,cs,e,vs,hk,hc,_⟩
  ·rw [hk] at hr;simp [Kind.real] at hr
  ·exact (Array.getElem?_eq_some_iff.1 hc).1
theorem Inv.cells {P:Program} {F:Fr} {ι:Nat→Inf} {K:Nat→Prop} {H:Heap} {w:World} (h:Inv P F ι K H w) {b:Nat} {x:Blk} (hb:look H b=some x) (hr:(ι b).kind.real=true) : ∃ cs e,w.heap[(ι b).c]? = some (.cells cs e (0,0)):=by
 have:=h.blks b x hb
 cases x with
 | box t v=>obtain ⟨_,_,cs,e,hc,_⟩:=this;exact ⟨cs,e,hc⟩
 | row t xs =>
  rcases this with ⟨hk,_⟩ | ⟨room,cs,e,vs,hk,hc,_⟩
  ·rw [hk] at hr;simp [Kind.real] at hr
  ·exact ⟨cs,e,hc⟩
structure Stp (F:Fr) (ι ι':Nat→Inf) (K K':Nat→Prop) (H H':Heap) (w w':World):Prop where
 known : ∀ b,K b→K' b∧ι' b=ι b
 reg : ∀ c,Reg F ι H w c→Reg F ι' H' w' c∧w'.heap[c]? = w.heap[c]?
 size:w.heap.size≤w'.heap.size
theorem Stp.refl (F:Fr) (ι:Nat→Inf) (K:Nat→Prop) (H:Heap) (w:World):Stp F ι ι K K H H w w:=⟨fun _ h=>⟨h,rfl⟩,fun _ h=>⟨h,rfl⟩,Nat.le_refl _⟩
theorem Stp.trans {F:Fr} {ι ι' ι'':Nat→Inf} {K K' K'':Nat→Prop} {H H' H'':Heap} {w w' w'':World} (h:Stp F ι ι' K K' H H' w w') (g:Stp F ι' ι'' K' K'' H' H'' w' w''):Stp F ι ι'' K K'' H H'' w w'' :=
 ⟨fun b hb=>⟨(g.known b (h.known b hb).1).1,(g.known b (h.known b hb).1).2.trans (h.known b hb).2⟩,
 fun c hc=>⟨(g.reg c (h.reg c hc).1).1,(g.reg c (h.reg c hc).1).2.trans (h.reg c hc).2⟩,Nat.le_trans h.size g.size⟩
theorem Stp.avr {P:Program} {F:Fr} {ι ι':Nat→Inf} {K K':Nat→Prop} {H H':Heap} {w w':World} (h:Stp F ι ι' K K' H H' w w') {v:AV} {x:Value} (hv:AVR P ι K w (Reg F ι H w) v x):AVR P ι' K' w' (Reg F ι' H' w') v x :=
 hv.mono h.known h.reg h.size
theorem Stp.slots {P:Program} {F:Fr} {ι ι':Nat→Inf} {K K':Nat→Prop} {H H':Heap} {w w':World} (h:Stp F ι ι' K K' H H' w w') {l:Tmps} {a:Array Value} (hv:Slots P F ι K H w l a):Slots P F ι' K' H' w' l a :=
 ⟨hv.1,fun t=>h.avr (hv.2 t)⟩
theorem qrr {F:Fr} {ι ι':Nat→Inf} {H H':Heap} {w w':World} (hs:w.heap.size≤w'.heap.size)
  (hw : ∀ c,c<w.heap.size→¬ Own ι H c→w'.heap[c]? = w.heap[c]?)
  (ho : ∀ c,Own ι' H' c→Own ι H c∨w.heap.size≤c) : ∀ c,Reg F ι H w c→Reg F ι' H' w' c∧w'.heap[c]? = w.heap[c]?:=by
 intro c ⟨h1,h2,h3⟩
 refine ⟨⟨h1,Nat.lt_of_lt_of_le h2 hs,fun h => ?_⟩,hw c h2 h3⟩
 rcases ho c h with h | h
 ·exact h3 h
 ·omega
theorem qaj2 {a b:Nat} (h:a≠b):Nat.beq a b=false:=by
 cases hb:Nat.beq a b with
 | false=>rfl
 | true=>exact absurd (Nat.eq_of_beq_eq_true hb) h
theorem qa1 (c:Nat) (x:Option Blk) (H:Heap) (b:Nat):look ((c,x) :: H) b=if b=c then x else look H b:=by
 simp only [look]
 by_cases hc:b=c
 ·subst hc;simp
 ·simp [qaj2 (fun e=>hc e.symm),hc]
theorem qk6 (H G:Heap) (b:Nat):look (H++G) b=if b∈H.map (·.1) then look H b else look G b:=by
 induction H with
 | nil=>simp
 | cons p r ih =>
  obtain ⟨c,x⟩:=p
  rw [List.cons_append,qa1,qa1,ih]
  by_cases hc:b=c
  ·simp [hc]
  ·have:(b∈List.map (·.1) ((c,x) :: r))=(b∈List.map (·.1) r):=by simp [hc]
   simp only [hc,if_false,this]
theorem qa8 (l:List Nat) (H:Heap) (b:Nat):look (kills l++H) b=if b∈l then none else look H b:=by
 induction l with
 | nil=>simp [kills]
 | cons a r ih =>
  have:kills (a :: r)++H=(a,none) :: (kills r++H):=rfl
  rw [this,qa1,ih]
  by_cases h1:b=a <;> by_cases h2:b∈r <;> simp [h1,h2]
theorem Inv.kill {P:Program} {F:Fr} {ι:Nat→Inf} {K:Nat→Prop} {H:Heap} {w:World} (h:Inv P F ι K H w) (l:List Nat) :
  Inv P F ι K (kills l++H) w∧Stp F ι ι K K H (kills l++H) w w:=by
 have hl : ∀ b x,look (kills l++H) b=some x→look H b=some x:=by
  intro b x hb;rw [qa8] at hb;split at hb <;> simp_all
 have hs:Stp F ι ι K K H (kills l++H) w w:=⟨fun _ h=>⟨h,rfl⟩,qrr (Nat.le_refl _) (fun _ _ _=>rfl) (fun c ⟨b,x,hb,hr,hc⟩ => .inl ⟨b,x,hl b x hb,hr,hc⟩),Nat.le_refl _⟩
 refine ⟨⟨h.same,h.lent,h.keep,fun b x hb=>h.known b x (hl b x hb),fun b x hb => ?_,fun b x hb=>h.mine b x (hl b x hb),fun b b' x x' hb hb'=>h.inj b b' x x' (hl b x hb) (hl b' x' hb'),h.stay,fun b x hb=>h.cover b x (hl b x hb)⟩,hs⟩
 exact (h.blks b x (hl b x hb)).mono hs.known hs.reg hs.size (fun _=>rfl)
theorem Inv.world {P:Program} {F:Fr} {ι:Nat→Inf} {K:Nat→Prop} {H:Heap} {w w':World} (h:Inv P F ι K H w) (hh:w'.heap=w.heap) (ho:w'.os=w.os) (hp:w'.output=w.output) :
  Inv P F ι K H w'∧Stp F ι ι K K H H w w':=by
 have hreg : ∀ c,Reg F ι H w c→Reg F ι H w' c∧w'.heap[c]? = w.heap[c]?:=by
  intro c hc;unfold Reg at *;rw [hh];exact ⟨hc,rfl⟩
 have hs:Stp F ι ι K K H H w w':=⟨fun _ h=>⟨h,rfl⟩,hreg,by rw [hh];exact Nat.le_refl _⟩
 refine ⟨⟨⟨ho.trans h.same.1,hp.trans h.same.2.1,by rw [hh];exact h.same.2.2⟩,h.lent,fun c h1 h2=>by rw [hh];exact h.keep c h1 h2,h.known,fun b x hb => ?_,h.mine,h.inj,h.stay.on fun c _=>by rw [hh],h.cover⟩,hs⟩
 exact (h.blks b x hb).mono hs.known hs.reg hs.size (fun _=>by rw [hh])
def upd (ι:Nat→Inf) (b:Nat) (i:Inf):Nat→Inf:=fun c=>if c=b then i else ι c
theorem Inv.fresh {P:Program} {F:Fr} {ι:Nat→Inf} {K:Nat→Prop} {H:Heap} {w:World} (h:Inv P F ι K H w) {b:Nat} (hb:¬ K b) (o:Obj) (k:Kind) (x:Blk) (d:Nat)
  (hx : ∀ S:Nat→Prop,(∀ c,Reg F ι H w c→S c)→BlkR P (upd ι b ⟨w.heap.size,d,k⟩) (fun c=>K c∨c=b) { w with heap:=w.heap.push o } S ⟨w.heap.size,d,k⟩ x) :
  Inv P F (upd ι b ⟨w.heap.size,d,k⟩) (fun c=>K c∨c=b) ((b,some x) :: H) { w with heap:=w.heap.push o } ∧
   Stp F ι (upd ι b ⟨w.heap.size,d,k⟩) K (fun c=>K c∨c=b) H ((b,some x) :: H) w { w with heap:=w.heap.push o }:=by
 have hne : ∀ c,K c→upd ι b ⟨w.heap.size,d,k⟩ c=ι c:=fun c hc=>by
  have:c≠b:=fun e=>hb (by rw [← e];exact hc)
  simp [upd,this]
 have hsame:upd ι b ⟨w.heap.size,d,k⟩ b=⟨w.heap.size,d,k⟩:=by simp [upd]
 have hpush : ∀ c,c<w.heap.size→(w.heap.push o)[c]? = w.heap[c]?:=fun c hc=>by rw [Array.getElem?_push,if_neg (by omega)]
 have hlk : ∀ c y,look ((b,some x) :: H) c=some y→(c=b∧y=x)∨(c≠b∧look H c=some y):=by
  intro c y hc;rw [qa1] at hc;split at hc
  ·rename_i e;exact .inl ⟨e,by simpa using hc.symm⟩
  ·rename_i e;exact .inr ⟨e,hc⟩
 have hs:Stp F ι (upd ι b ⟨w.heap.size,d,k⟩) K (fun c=>K c∨c=b) H ((b,some x) :: H) w { w with heap:=w.heap.push o }:=by
  refine ⟨fun c hc=>⟨.inl hc,hne c hc⟩,qrr (by simp) (fun c hc _=>hpush c hc) ?_,by simp⟩
  rintro c ⟨b',y,hb',hr,hc⟩
  rcases hlk b' y hb' with ⟨e,_⟩ | ⟨e,hb''⟩
  ·subst e;rw [hsame] at hc;exact .inr (Nat.le_of_eq hc)
  ·rw [hne b' (h.known b' y hb'')] at hr hc
   exact .inl ⟨b',y,hb'',hr,hc⟩
 refine ⟨⟨⟨h.same.1,h.same.2.1,Nat.le_trans h.same.2.2 (by simp)⟩,h.lent,?_,?_,?_,?_,?_,h.stay.on hpush,?_⟩,hs⟩
 ·intro c h1 h2
  exact (hpush c (Nat.lt_of_lt_of_le h1 h.same.2.2)).trans (h.keep c h1 h2)
 ·intro c y hc
  rcases hlk c y hc with ⟨e,_⟩ | ⟨_,hc'⟩
  ·exact .inr e
  ·exact .inl (h.known c y hc')
 ·intro c y hc
  rcases hlk c y hc with ⟨e,ey⟩ | ⟨_,hc'⟩
  ·subst e;subst ey;rw [hsame];exact hx _ (fun c hc=>(hs.reg c hc).1)
  ·rw [hne c (h.known c y hc')]
   exact (h.blks c y hc').mono hs.known hs.reg hs.size (fun hr=>hpush _ (h.exists hc' hr))
 ·intro c y hc hr
  rcases hlk c y hc with ⟨e,_⟩ | ⟨_,hc'⟩
  ·subst e;rw [hsame];exact .inr h.same.2.2
  ·rw [hne c (h.known c y hc')] at hr ⊢;exact h.mine c y hc' hr
 ·intro c c' y y' hc hc' hr hr' e
  rcases hlk c y hc with ⟨e1,_⟩ | ⟨_,h1⟩ <;> rcases hlk c' y' hc' with ⟨e2,_⟩ | ⟨_,h2⟩
  ·exact e1.trans e2.symm
  ·subst e1;rw [hsame,hne c' (h.known c' y' h2)] at e
   rw [hne c' (h.known c' y' h2)] at hr'
   have:=h.exists h2 hr'
   simp at e;omega
  ·subst e2;rw [hsame,hne c (h.known c y h1)] at e
   rw [hne c (h.known c y h1)] at hr
   have:=h.exists h1 hr
   simp at e;omega
  ·rw [hne c (h.known c y h1)] at hr e;rw [hne c' (h.known c' y' h2)] at hr' e
   exact h.inj c c' y y' h1 h2 hr hr' e
 ·intro c y hc hr hlt
  rcases hlk c y hc with ⟨e,_⟩ | ⟨_,hc'⟩
  ·subst e;rw [hsame] at hlt;exact absurd h.same.2.2 (Nat.not_le.2 hlt)
  ·rw [hne c (h.known c y hc')] at hr hlt ⊢;exact h.cover c y hc' hr hlt
theorem Inv.write {P:Program} {F:Fr} {ι:Nat→Inf} {K:Nat→Prop} {H:Heap} {w:World} (h:Inv P F ι K H w) {b:Nat} {x:Blk} (hb:look H b=some x) (hr:(ι b).kind.real=true) (y:Blk) (cs:Array Value)
  (hcs : ∀ (old:Array Value) (e:TypeId),w.heap[(ι b).c]? = some (.cells old e (0,0))→cs.size=old.size ∧ ∀ j:Nat,¬ (ι b).has j→cs[j]? = old[j]?)
  (hy:BlkR P ι K (w.setRow (ι b).c cs) (Reg F ι H w) (ι b) y) :
  Inv P F ι K ((b,some y) :: H) (w.setRow (ι b).c cs)∧Stp F ι ι K K H ((b,some y) :: H) w (w.setRow (ι b).c cs):=by
 have hlk : ∀ c z,look ((b,some y) :: H) c=some z→(c=b∧z=y)∨(c≠b∧look H c=some z):=by
  intro c z hc;rw [qa1] at hc;split at hc
  ·rename_i e;exact .inl ⟨e,by simpa using hc.symm⟩
  ·rename_i e;exact .inr ⟨e,hc⟩
 have hany : ∀ c z,look ((b,some y) :: H) c=some z → ∃ z',look H c=some z':=by
  intro c z hc;rcases hlk c z hc with ⟨e,_⟩ | ⟨_,h2⟩
  ·subst e;exact ⟨x,hb⟩
  ·exact ⟨z,h2⟩
 have hown : ∀ c,Own ι ((b,some y) :: H) c→Own ι H c:=fun c ⟨b',z,h1,h2,h3⟩=>let ⟨z',hz'⟩:=hany b' z h1;⟨b',z',hz',h2,h3⟩
 have hoth : ∀ c,¬ Own ι H c→(w.setRow (ι b).c cs).heap[c]? = w.heap[c]?:=fun c hc=>setRow_other cs (fun e=>hc ⟨b,x,hb,hr,e.symm⟩)
 have hs:Stp F ι ι K K H ((b,some y) :: H) w (w.setRow (ι b).c cs) :=
  ⟨fun _ hc=>⟨hc,rfl⟩,qrr (by rw [setRow_size];exact Nat.le_refl _) (fun c _ hc=>hoth c hc) (fun c hc => .inl (hown c hc)),by rw [setRow_size];exact Nat.le_refl _⟩
 refine ⟨⟨⟨h.same.1,h.same.2.1,by rw [setRow_size];exact h.same.2.2⟩,h.lent,?_,?_,?_,?_,?_,?_,?_⟩,hs⟩
 ·intro c h1 h2
  rw [setRow_other cs (fun e => ?_)]
  ·exact h.keep c h1 h2
  ·rcases h.mine b x hb hr with h3 | h3
   ·exact h2 (e▸h3)
   ·omega
 ·intro c z hc;obtain ⟨z',hz'⟩:=hany c z hc;exact h.known c z' hz'
 ·intro c z hc
  rcases hlk c z hc with ⟨e,ez⟩ | ⟨hne,hc'⟩
  ·subst e;subst ez
   exact hy.mono (fun _ hk=>⟨hk,rfl⟩) (fun c hc=>⟨(hs.reg c hc).1,rfl⟩) (Nat.le_refl _) (fun _=>rfl)
  ·refine (h.blks c z hc').mono hs.known hs.reg hs.size (fun hr'=>setRow_other cs (fun e=>hne (h.inj c b z x hc' hb hr' hr e)))
 ·intro c z hc hr';obtain ⟨z',hz'⟩:=hany c z hc;exact h.mine c z' hz' hr'
 ·intro c c' z z' hc hc' h1 h2 e
  obtain ⟨u,hu⟩:=hany c z hc;obtain ⟨u',hu'⟩:=hany c' z' hc'
  exact h.inj c c' u u' hu hu' h1 h2 e
 ·refine h.stay.trans (V:=fun c j=>c=(ι b).c∧(ι b).has j) (fun c old e z hc => ?_) fun c j hlt ⟨e,hj⟩=>e▸h.cover b x hb hr (e▸hlt) j hj
  by_cases hcb:c=(ι b).c
  ·subst hcb
   obtain ⟨old',e',hz⟩:=h.cells hb hr
   rw [hc] at hz;simp only [Option.some.injEq,Obj.cells.injEq] at hz
   obtain ⟨rfl,rfl,rfl⟩:=hz
   obtain ⟨h1,h2⟩:=hcs _ _ hc
   exact ⟨cs,_,setRow_same hc cs,h1,fun j hj=>h2 j fun hh=>hj ⟨rfl,hh⟩⟩
  ·exact ⟨old,_,(setRow_other cs hcb).trans hc,rfl,fun _ _=>rfl⟩
 ·intro c z hc hr';obtain ⟨z',hz'⟩:=hany c z hc;exact h.cover c z' hz' hr'
end Go.Tm
namespace Go.Tm
open Go
theorem qav {k:FloatKind} {b:Nat} : isNan k b=true ↔ ∃ s f,k.format.read b = .nan s f:=by
 unfold isNan Ieee.Format.order
 cases h:k.format.read b <;> simp [Ieee.Datum.order]
theorem qam5 (k:FloatKind) : ∃ s f,k.format.read (nan k) = .nan s f:=by
 cases k
 ·exact ⟨false,4194304,by decide +kernel⟩
 ·exact ⟨false,2251799813685248,by decide +kernel⟩
theorem qfe (k:FloatKind):isNan k (nan k)=true:=qav.2 (qam5 k)
theorem qdm {k:FloatKind} {b:Nat} (h:isNan k b=true):canon k b=nan k:=by simp [canon,h]
theorem qao {k:FloatKind} {b:Nat} (h:isNan k b=false):canon k b=b:=by simp [canon,h]
theorem qcl (k:FloatKind) (b:Nat):isNan k (canon k b)=isNan k b:=by
 cases h:isNan k b with
 | true=>rw [qdm h];exact qfe k
 | false=>rw [qao h];exact h
theorem qza (k:FloatKind) (b:Nat):canon k (canon k b)=canon k b:=by
 cases h:isNan k b with
 | true=>rw [qdm h,qdm (qfe k)]
 | false=>rw [qao h,qao h]
theorem qpm {k:FloatKind} {β:Type} (f:Nat→Nat→Option β) (h1 : ∀ x y,isNan k x=true→f x y=none) (h2 : ∀ x y,isNan k y=true→f x y=none) (a b:Nat) :
  f (canon k a) (canon k b)=f a b:=by
 cases ha:isNan k a with
 | true=>rw [h1 _ _ ha,h1 _ _ (by rw [qcl];exact ha)]
 | false =>
  rw [qao ha]
  cases hb:isNan k b with
  | true=>rw [h2 _ _ hb,h2 _ _ (by rw [qcl];exact hb)]
  | false=>rw [qao hb]
theorem qalp {k:FloatKind} (x y:Nat) (h:isNan k x=true):k.format.add x y=none:=by
 obtain ⟨s,f,e⟩:=qav.1 h;simp [Ieee.Format.add,e,Ieee.Datum.sum]
theorem qalq {k:FloatKind} (x y:Nat) (h:isNan k y=true):k.format.add x y=none:=by
 obtain ⟨s,f,e⟩:=qav.1 h;cases hx:k.format.read x <;> simp [Ieee.Format.add,e,hx,Ieee.Datum.sum]
theorem qang {k:FloatKind} (x y:Nat) (h:isNan k x=true):k.format.sub x y=none:=by
 obtain ⟨s,f,e⟩:=qav.1 h;simp [Ieee.Format.sub,e,Ieee.Datum.sum]
theorem qanh {k:FloatKind} (x y:Nat) (h:isNan k y=true):k.format.sub x y=none:=by
 obtain ⟨s,f,e⟩:=qav.1 h;cases hx:k.format.read x <;> simp [Ieee.Format.sub,e,hx,Ieee.Datum.sum,Ieee.Datum.opposite]
theorem qamm {k:FloatKind} (x y:Nat) (h:isNan k x=true):k.format.mul x y=none:=by
 obtain ⟨s,f,e⟩:=qav.1 h;simp [Ieee.Format.mul,e,Ieee.Datum.product]
theorem qamn {k:FloatKind} (x y:Nat) (h:isNan k y=true):k.format.mul x y=none:=by
 obtain ⟨s,f,e⟩:=qav.1 h;cases hx:k.format.read x <;> simp [Ieee.Format.mul,e,hx,Ieee.Datum.product]
theorem qal2 {k:FloatKind} (x y:Nat) (h:isNan k x=true):k.format.div x y=none:=by
 obtain ⟨s,f,e⟩:=qav.1 h;simp [Ieee.Format.div,e,Ieee.Datum.quotient]
theorem qal3 {k:FloatKind} (x y:Nat) (h:isNan k y=true):k.format.div x y=none:=by
 obtain ⟨s,f,e⟩:=qav.1 h;cases hx:k.format.read x <;> simp [Ieee.Format.div,e,hx,Ieee.Datum.quotient]
theorem qvm {k:FloatKind} (x y:Nat) (h:isNan k x=true):k.format.order x y=none:=by
 obtain ⟨s,f,e⟩:=qav.1 h;simp [Ieee.Format.order,e,Ieee.Datum.order]
theorem qvn {k:FloatKind} (x y:Nat) (h:isNan k y=true):k.format.order x y=none:=by
 obtain ⟨s,f,e⟩:=qav.1 h;cases hx:k.format.read x <;> simp [Ieee.Format.order,e,hx,Ieee.Datum.order]
theorem qaju (k:FloatKind) (a b:Nat):k.format.add (canon k a) (canon k b)=k.format.add a b:=qpm _ qalp qalq a b
theorem qale (k:FloatKind) (a b:Nat):k.format.sub (canon k a) (canon k b)=k.format.sub a b:=qpm _ qang qanh a b
theorem qaks (k:FloatKind) (a b:Nat):k.format.mul (canon k a) (canon k b)=k.format.mul a b:=qpm _ qamm qamn a b
theorem qaj6 (k:FloatKind) (a b:Nat):k.format.div (canon k a) (canon k b)=k.format.div a b:=qpm _ qal2 qal3 a b
theorem qsx (k:FloatKind) (a b:Nat):k.format.order (canon k a) (canon k b)=k.format.order a b:=qpm _ qvm qvn a b
theorem qpd (k:FloatKind) (t:Nat) (q:Question) (hq:q = .nanBits k 0 0∨(∃ x y,q = .nanBits k x y)∨(∃ x,q = .nanConv k x) ∨ ∃ m x y,q = .nanMinMax k m x y):canon k (q.cut t)=nan k:=by
 refine qdm (qav.2 ?_)
 have h32 : ∀ a b,a<2→b<8388607 → ∃ s f,Ieee.Format.read Ieee.single (a*2^31+0x7f800000+1+b) = .nan s f:=by
  intro a b ha hb
  have hr:(a*2^31+0x7f800000+1+b)%Ieee.single.signWeight=0x7f800000+1+b:=by
   show (a*2^31+0x7f800000+1+b)%2147483648=_
   omega
  unfold Ieee.Format.read
  simp only [hr]
  have e1:Ieee.single.binade=8388608:=rfl
  have e2:Ieee.single.infRung=0x7f800000:=rfl
  rw [e1,e2,if_neg (by omega),if_neg (by omega),if_neg (by omega)]
  exact ⟨_,_,rfl⟩
 have h64 : ∀ a b,a<2→b<4503599627370495 → ∃ s f,Ieee.Format.read Ieee.double (a*2^63+0x7ff0000000000000+1+b) = .nan s f:=by
  intro a b ha hb
  have hr:(a*2^63+0x7ff0000000000000+1+b)%Ieee.double.signWeight=0x7ff0000000000000+1+b:=by
   show (a*2^63+0x7ff0000000000000+1+b)%9223372036854775808=_
   omega
  unfold Ieee.Format.read
  simp only [hr]
  have e1:Ieee.double.binade=4503599627370496:=rfl
  have e2:Ieee.double.infRung=0x7ff0000000000000:=rfl
  rw [e1,e2,if_neg (by omega),if_neg (by omega),if_neg (by omega)]
  exact ⟨_,_,rfl⟩
 have key : ∀ q:Question,q.cut t=(match k with | .f32=>(t%2)*2^31+0x7f800000+1+(t/2)%(2^23-1) | .f64=>(t%2)*2^63+0x7ff0000000000000+1+(t/2)%(2^52-1)) → ∃ s f,k.format.read (q.cut t) = .nan s f:=by
  intro q e
  rw [e]
  cases k
  ·exact h32 _ _ (Nat.mod_lt _ (by decide)) (Nat.mod_lt _ (by decide))
  ·exact h64 _ _ (Nat.mod_lt _ (by decide)) (Nat.mod_lt _ (by decide))
 rcases hq with rfl | ⟨x,y,rfl⟩ | ⟨x,rfl⟩ | ⟨m,x,y,rfl⟩ <;> apply key <;> cases k <;> rfl
theorem qaku (k:FloatKind) (a:Nat):canon k (Op.negFloat k (canon k a))=canon k (Op.negFloat k a):=by
 cases h:isNan k a with
 | false=>rw [qao h]
 | true =>
  rw [qdm h]
  have key : ∀ b,isNan k b=true→canon k (Op.negFloat k b)=nan k:=by
   intro b hb
   refine qdm (qav.2 ?_)
   have hx : ∀ (s b:Nat),(b ^^^ 2^s)%2^s=b%2^s:=by
    intro s b
    apply Nat.eq_of_testBit_eq
    intro i
    rw [Nat.testBit_mod_two_pow,Nat.testBit_mod_two_pow,Nat.testBit_xor,Nat.testBit_two_pow]
    by_cases hi:i<s
    ·have:¬ s=i:=by omega
     simp [hi,this]
    ·simp [hi]
   obtain ⟨s,f,e⟩:=qav.1 hb
   unfold Ieee.Format.read at e ⊢
   have hw:(Op.negFloat k b)%k.format.signWeight=b%k.format.signWeight:=hx _ b
   simp only [hw] at e ⊢
   split at e
   ·simp at e
   ·split at e
    ·simp at e
    ·split at e
     ·simp at e
     ·rename_i h1 h2 h3
      rw [if_neg h1,if_neg h2,if_neg h3]
      exact ⟨_,_,rfl⟩
  rw [key _ (qfe k),key a h]
theorem qajh (x y:Ieee.Datum):y.order x=(x.order y).map Ordering.swap:=by
 cases x <;> cases y <;> simp only [Ieee.Datum.order,Option.map_some,Option.map_none]
 ·rename_i s m i t n j
  rw [Int.min_comm j i]
  congr 1
  exact Std.OrientedCmp.eq_swap
 ·rename_i t;cases t <;> rfl
 ·rename_i s t n j;cases s <;> rfl
 ·congr 1;exact Std.OrientedCmp.eq_swap
theorem qagt (k:FloatKind) (a b:Nat):k.format.order b a=(k.format.order a b).map Ordering.swap:=qajh _ _
end Go.Tm
namespace Go.Tm
open Go
mutual
def eqTy (P:Program):Ty→TypeId→Bool
 | .int _,_=>true
 | .flt _,_=>true
 | .bool,_=>true
 | .str,_=>true
 | .unit,i => !P.stoodInHeld i
 | .pair a b,i => !P.stoodInHeld i&&(match P.underlying i with
  | some (.struct fs)=>(match fs.toList with | f :: r => !(f.name == "_")&&eqTy P a f.type&&eqFs P b r | []=>false)
  | _=>false)
 | .arr _ t,i=>(match P.underlying i with | some (.array _ e)=>eqTy P t e | _=>false)
 | _,_=>false
def eqFs (P:Program):Ty→List Field→Bool
 | .unit,[]=>true
 | .pair a b,f :: r => !(f.name == "_")&&eqTy P a f.type&&eqFs P b r
 | _,_=>false
end
def Ty.deep:Ty→Nat
 | .pair a b=>max (a.deep+1) b.deep
 | .arr _ t=>t.deep+1
 | _=>1
theorem Ty.deep_pos : ∀ t:Ty,1≤t.deep
 | .pair a b=>by simp only [Ty.deep];omega
 | .arr _ t=>by simp only [Ty.deep];omega
 | .int _ | .flt _ | .bool | .str | .unit | .err | .ref _ | .list _=>by simp [Ty.deep]
section
variable {P : Program} {w : World} {S : Nat → Prop}
theorem qm5 {t:Ty} {i:TypeId} (h:okTy P t i=true) {xs:Array Value} {pre cs post:List Value} (hx:xs.toList=pre++(cs++post)) (hl:cs.length=t.size) :
  ∃ v,(part i xs pre.length).run P w = .ok v w∧ValOf t.isAgg cs v:=by
 unfold part
 rw [Sem.run_bind,qrs h,Result.andThen_ok]
 cases ha:t.isAgg with
 | true =>
  refine ⟨.agg cs.toArray,?_,by simp [ValOf]⟩
  simp only [if_true,Sem.run_bind,qaw h,Result.andThen_ok,Sem.run_pure]
  congr 2
  apply Array.ext'
  rw [Array.toList_extract,List.extract,hx,← hl]
  simp
 | false =>
  have h1:t.size=1:=by cases t <;> simp_all [Ty.isAgg,Ty.size]
  obtain ⟨x,rfl⟩ : ∃ x,cs=[x]:=by
   match cs,hl.trans h1 with
   | [x],_=>exact ⟨x,rfl⟩
  refine ⟨x,?_,by simp [ValOf]⟩
  have:xs[pre.length]? = some x:=by
   rw [← Array.getElem?_toList,hx];simp
  simp [this]
def EqA (P:Program) (t:Ty):Prop:=∀ {i:TypeId} {d:Nat} {w:World} {S:Nat→Prop} {x y:t.den} {cs ds:List Value} {u v:Value} {c:Bool},okTy P t i=true→eqTy P t i=true→t.deep≤d→t.eqV x y=some c→Rep w S t x cs→Rep w S t y ds →
 ValOf t.isAgg cs u→ValOf t.isAgg ds v→(Op.equalIn d i u v).run P w = .ok c w
def EqB (P:Program) (b:Ty):Prop:=∀ {fs:List Field} {o d:Nat} {w:World} {S:Nat→Prop} {x y:b.den} {px cs py ds:List Value} {xs ys:Array Value} {c:Bool},okRest P b fs o=true→eqFs P b fs=true→b.deep≤d+1→b.eqV x y=some c→Rep w S b x cs→Rep w S b y ds →
 xs.toList=px++cs→ys.toList=py++ds→px.length=o→py.length=o→(Op.eqFields d xs ys fs).run P w = .ok c w
theorem qov {n d:Nat} (h:n≤d) (h1:1≤n) : ∃ e,d=e+1:=⟨d-1,by omega⟩
theorem qal8 {a b:Ty} {x y:(Ty.pair a b).den} {c:Bool} (h:(Ty.pair a b).eqV x y=some c) : ∃ p q,a.eqV x.1 y.1=some p∧b.eqV x.2 y.2=some q∧c=(p&&q):=by
 simp only [Ty.eqV] at h
 split at h
 ·rename_i p hp
  split at h
  ·rename_i q hq
   exact ⟨p,q,hp,hq,by simpa using h.symm⟩
  ·simp at h
 ·simp at h
theorem qaf1 {t:Ty} (ih:EqA P t) {e:TypeId} {d:Nat} (hok:okTy P t e=true) (heq:eqTy P t e=true) (hd:t.deep≤d) (hsz:P.cellsOf e=t.size) {xs ys:Array Value} :
  ∀ (n k:Nat) (x y:Vec n t.den) (px cs py ds:List Value) (c:Bool),Ty.eqV.go t.eqV n x y=some c→RepVec (Rep w S t) n x cs→RepVec (Rep w S t) n y ds→xs.toList=px++cs→ys.toList=py++ds→px.length=k*t.size→py.length=k*t.size →
   (Op.eqItems d e (P.cellsOf e) xs ys (List.range' k n)).run P w = .ok c w
 | 0,k,x,y,px,cs,py,ds,c,h,_,_,_,_,_,_=>by
  simp only [Ty.eqV.go,Option.some.injEq] at h
  subst h
  simp [Op.eqItems]
 | n+1,k,x,y,px,cs,py,ds,c,h,⟨c1,c2,ec,hx1,hx2⟩,⟨d1,d2,ed,hy1,hy2⟩,hxs,hys,hpx,hpy=>by
  subst ec ed
  simp only [Ty.eqV.go] at h
  split at h
  ·rename_i p hp
   split at h
   ·rename_i q hq
    obtain ⟨u,hu1,hu2⟩:=qm5 (w:=w) hok hxs hx1.length
    obtain ⟨v,hv1,hv2⟩:=qm5 (w:=w) hok hys hy1.length
    have he:=ih hok heq hd hp hx1 hy1 hu2 hv2
    rw [hpx] at hu1
    rw [hpy] at hv1
    rw [List.range'_succ]
    simp only [Op.eqItems,Sem.run_bind,hsz,hu1,hv1,he,Result.andThen_ok]
    simp only [Option.some.injEq] at h
    subst h
    cases p with
    | false=>simp
    | true =>
     simp only [Bool.not_true,Bool.false_eq_true,if_false,Bool.true_and]
     have:=qaf1 ih hok heq hd hsz n (k+1) x.2 y.2 (px++c1) c2 (py++d1) d2 q hq hx2 hy2 (by rw [hxs,List.append_assoc]) (by rw [hys,List.append_assoc]) (by rw [List.length_append,hx1.length,hpx,Nat.add_mul,Nat.one_mul]) (by rw [List.length_append,hy1.length,hpy,Nat.add_mul,Nat.one_mul])
     rw [hsz] at this
     exact this
   ·simp at h
  ·simp at h
theorem qapk : ∀ t:Ty,EqA P t∧EqB P t:=by
 intro t
 induction t with
 | int k =>
  refine ⟨?_,?_⟩
  ·intro i d w S x y cs ds u v c hok _ hd h hx hy hu hv
   obtain ⟨d,rfl⟩:=qov hd (Ty.deep_pos _)
   simp only [okTy,Bool.and_eq_true] at hok
   obtain ⟨_,hu'⟩:=hok
   split at hu'
   ·rename_i l hl
    have hx:cs=_:=hx
    have hy:ds=_:=hy
    subst hx hy
    obtain rfl:u=_:=by simpa [ValOf,Ty.isAgg] using hu.symm
    obtain rfl:v=_:=by simpa [ValOf,Ty.isAgg] using hv.symm
    exact (run_equalIn_int w d i k l _ _ hl).trans (congrArg (fun b=>Result.ok b w) (Option.some.inj h))
   ·simp at hu'
  ·intro fs o d w S x y px cs py ds xs ys c h
   cases fs <;> simp [okRest] at h
 | flt k =>
  refine ⟨?_,?_⟩
  ·intro i d w S x y cs ds u v c hok _ hd h hx hy hu hv
   obtain ⟨d,rfl⟩:=qov hd (Ty.deep_pos _)
   simp only [okTy,Bool.and_eq_true] at hok
   obtain ⟨_,hu'⟩:=hok
   split at hu'
   ·rename_i l hl
    obtain ⟨a,rfl,ha⟩:=hx
    obtain ⟨b,rfl,hb⟩:=hy
    obtain rfl:u=_:=by simpa [ValOf,Ty.isAgg] using hu.symm
    obtain rfl:v=_:=by simpa [ValOf,Ty.isAgg] using hv.symm
    simp only [Ty.eqV,fEq,Option.some.injEq] at h
    rw [← ha,← hb,qsx] at h
    rw [Op.equalIn,Sem.run_bind,run_underlying hl,Result.andThen_ok]
    simp only [if_true,Sem.run_pure,Op.floatEq,h]
   ·simp at hu'
  ·intro fs o d w S x y px cs py ds xs ys c h
   cases fs <;> simp [okRest] at h
 | bool =>
  refine ⟨?_,?_⟩
  ·intro i d w S x y cs ds u v c hok _ hd h hx hy hu hv
   obtain ⟨d,rfl⟩:=qov hd (Ty.deep_pos _)
   simp only [okTy,Bool.and_eq_true] at hok
   obtain ⟨_,hu'⟩:=hok
   split at hu'
   ·rename_i hl
    have hx:cs=_:=hx
    have hy:ds=_:=hy
    subst hx hy
    obtain rfl:u=_:=by simpa [ValOf,Ty.isAgg] using hu.symm
    obtain rfl:v=_:=by simpa [ValOf,Ty.isAgg] using hv.symm
    exact (run_equalIn_bool' w d i _ _ hl).trans (congrArg (fun b=>Result.ok b w) (Option.some.inj h))
   ·simp at hu'
  ·intro fs o d w S x y px cs py ds xs ys c h
   cases fs <;> simp [okRest] at h
 | str =>
  refine ⟨?_,?_⟩
  ·intro i d w S x y cs ds u v c hok _ hd h hx hy hu hv
   obtain ⟨d,rfl⟩:=qov hd (Ty.deep_pos _)
   simp only [okTy,Bool.and_eq_true] at hok
   obtain ⟨_,hu'⟩:=hok
   split at hu'
   ·rename_i hl
    have hx:cs=_:=hx
    have hy:ds=_:=hy
    subst hx hy
    obtain rfl:u=_:=by simpa [ValOf,Ty.isAgg] using hu.symm
    obtain rfl:v=_:=by simpa [ValOf,Ty.isAgg] using hv.symm
    rw [run_equalIn_string w d i _ _ hl]
    simp only [Ty.eqV,sEq,Option.some.injEq] at h
    rw [← h,ByteArray.toList_eq,ByteArray.toList_eq]
   ·simp at hu'
  ·intro fs o d w S x y px cs py ds xs ys c h
   cases fs <;> simp [okRest] at h
 | unit =>
  refine ⟨?_,?_⟩
  ·intro i d w S x y cs ds u v c hok heq hd h hx hy hu hv
   obtain ⟨d,rfl⟩:=qov hd (Ty.deep_pos _)
   simp only [okTy,Bool.and_eq_true] at hok
   simp only [eqTy,Bool.not_eq_true'] at heq
   obtain ⟨_,hu'⟩:=hok
   split at hu'
   ·rename_i fs hl
    obtain rfl:u = .agg cs.toArray:=by simpa [ValOf,Ty.isAgg] using hu
    obtain rfl:v = .agg ds.toArray:=by simpa [ValOf,Ty.isAgg] using hv
    have hf:P.fieldsOf i=fs:=by simp [Program.fieldsOf,hl]
    rw [run_equalIn_struct w d i _ _ (by rw [hf];exact hl) heq,hf]
    have:fs.toList=[]:=by simpa using hu'
    rw [this]
    simp only [Ty.eqV,Option.some.injEq] at h
    subst h
    simp [Op.eqFields]
   ·simp at hu'
  ·intro fs o d w S x y px cs py ds xs ys c hok heq hd h hx hy hxs hys hpx hpy
   cases fs with
   | nil =>
    simp only [Ty.eqV,Option.some.injEq] at h
    subst h
    simp [Op.eqFields]
   | cons _ _=>simp [okRest] at hok
 | err=>exact ⟨fun _ h=>by simp [eqTy] at h,fun h=>by rename_i fs _ _ _ _ _ _ _ _ _ _ _ _ _;cases fs <;> simp [okRest] at h⟩
 | ref=>exact ⟨fun _ h=>by simp [eqTy] at h,fun h=>by rename_i fs _ _ _ _ _ _ _ _ _ _ _ _ _;cases fs <;> simp [okRest] at h⟩
 | list t=>exact ⟨fun _ h=>by simp [eqTy] at h,fun h=>by rename_i fs _ _ _ _ _ _ _ _ _ _ _ _ _;cases fs <;> simp [okRest] at h⟩
 | pair a b iha ihb =>
  have hB:EqB P (.pair a b):=by
   intro fs o d w S x y px cs py ds xs ys c hok heq hd h hx hy hxs hys hpx hpy
   cases fs with
   | nil=>simp [okRest] at hok
   | cons f r =>
    simp only [okRest,Bool.and_eq_true] at hok
    obtain ⟨⟨ho,hoa⟩,hor⟩:=hok
    simp only [eqFs,Bool.and_eq_true,Bool.not_eq_true'] at heq
    obtain ⟨⟨hn,hea⟩,her⟩:=heq
    obtain ⟨p,q,hp,hq,rfl⟩:=qal8 h
    obtain ⟨c1,c2,rfl,hx1,hx2⟩:=hx
    obtain ⟨d1,d2,rfl,hy1,hy2⟩:=hy
    have hda:a.deep≤d:=by simp only [Ty.deep] at hd;omega
    have hdb:b.deep≤d+1:=by simp only [Ty.deep] at hd;omega
    obtain ⟨u,hu1,hu2⟩:=qm5 (w:=w) hoa hxs hx1.length
    obtain ⟨v,hv1,hv2⟩:=qm5 (w:=w) hoa hys hy1.length
    have he:=iha.1 hoa hea hda hp hx1 hy1 hu2 hv2
    have ho:=Nat.eq_of_beq_eq_true ho
    rw [hpx,← ho] at hu1
    rw [hpy,← ho] at hv1
    have hn':f.name ≠ "_" := by simpa using hn
    simp only [Op.eqFields,ne_eq,hn',not_false_eq_true,if_true,Sem.run_bind,hu1,hv1,he,Result.andThen_ok]
    cases p with
    | false=>simp
    | true =>
     simp only [Bool.not_true,Bool.false_eq_true,if_false,Bool.true_and]
     exact ihb.2 hor her hdb hq hx2 hy2 (by rw [hxs,List.append_assoc]) (by rw [hys,List.append_assoc]) (by rw [List.length_append,hx1.length,hpx]) (by rw [List.length_append,hy1.length,hpy])
  refine ⟨?_,hB⟩
  intro i d w S x y cs ds u v c hok heq hd h hx hy hu hv
  obtain ⟨d,rfl⟩:=qov hd (Ty.deep_pos _)
  simp only [okTy,Bool.and_eq_true] at hok
  obtain ⟨_,hok⟩:=hok
  simp only [eqTy,Bool.and_eq_true,Bool.not_eq_true'] at heq
  obtain ⟨hst,heq⟩:=heq
  split at hok
  ·rename_i fs hl
   rw [hl] at heq
   obtain rfl:u = .agg cs.toArray:=by simpa [ValOf,Ty.isAgg] using hu
   obtain rfl:v = .agg ds.toArray:=by simpa [ValOf,Ty.isAgg] using hv
   have hf:P.fieldsOf i=fs:=by simp [Program.fieldsOf,hl]
   rw [run_equalIn_struct w d i _ _ (by rw [hf];exact hl) hst,hf]
   simp only at heq
   cases hfl:fs.toList with
   | nil=>rw [hfl] at hok;simp at hok
   | cons f r =>
    rw [hfl] at hok heq
    simp only [Bool.and_eq_true] at hok
    obtain ⟨⟨h0,h1⟩,h2⟩:=hok
    refine hB (o:=0) (px:=[]) (py:=[]) ?_ ?_ hd h hx hy rfl rfl rfl rfl
    ·simp only [okRest,Bool.and_eq_true]
     exact ⟨⟨h0,h1⟩,by rw [Nat.zero_add];exact h2⟩
    ·simp only [eqFs];simpa using heq
  ·simp at hok
 | arr n t ih =>
  refine ⟨?_,?_⟩
  ·intro i d w S x y cs ds u v c hok heq hd h hx hy hu hv
   obtain ⟨d,rfl⟩:=qov hd (Ty.deep_pos _)
   simp only [okTy,Bool.and_eq_true] at hok
   obtain ⟨_,hok⟩:=hok
   simp only [eqTy] at heq
   split at hok
   ·rename_i m e hl
    rw [hl] at heq
    simp only [Bool.and_eq_true] at hok
    obtain ⟨hm,hoe⟩:=hok
    obtain rfl:=Nat.eq_of_beq_eq_true hm
    obtain rfl:u = .agg cs.toArray:=by simpa [ValOf,Ty.isAgg] using hu
    obtain rfl:v = .agg ds.toArray:=by simpa [ValOf,Ty.isAgg] using hv
    obtain ⟨inf,hinf,hsz⟩:=info_of hoe
    rw [run_equalIn_array w d _ _ hl hinf,List.range_eq_range']
    have hd':t.deep≤d:=by simp only [Ty.deep] at hd;omega
    exact qaf1 ih.1 hoe heq hd' (by simp [Program.cellsOf,hinf,hsz]) m 0 x y [] cs [] ds c h hx hy rfl rfl (by simp) (by simp)
   ·simp at hok
  ·intro fs o d w S x y px cs py ds xs ys c h
   cases fs <;> simp [okRest] at h
theorem qal9 {t:Ty} {i:TypeId} (hok:okTy P t i=true) (heq:eqTy P t i=true) (hd:t.deep≤10000) {x y:t.den} {c:Bool} (h:t.eqV x y=some c) {u v:Value} (hu : ∃ cs,Rep w S t x cs∧ValOf t.isAgg cs u) (hv : ∃ cs,Rep w S t y cs∧ValOf t.isAgg cs v) :
  (Op.equal i u v).run P w = .ok c w:=by
 obtain ⟨cs,h1,h2⟩:=hu
 obtain ⟨ds,h3,h4⟩:=hv
 exact (qapk t).1 hok heq hd h h1 h3 h2 h4
end
end Go.Tm
namespace Go.Tm
open Go
def RM.wp {α:Type} (H:Heap):RM α→List Nat→(α→List Nat→Prop)→Prop
 | .ret a,rs,Q=>Q a rs
 | .fail,_,_=>False
 | .get b f,rs,Q => ∃ x,look H b=some x∧(f x).wp H (b :: rs) Q
 | .opt _ o f,rs,Q => ∃ y,o=some y∧(f y).wp H rs Q
 | .br c x y,rs,Q=>(c=true∧x.wp H rs Q)∨(c=false∧y.wp H rs Q)
 | .all β f,rs,Q => ∀ b:β,(f b).wp H rs Q
theorem qafl {β A:Type} {g:β→Option A} {a:A} (h:allSame g=some a) : ∀ b,g b=some a:=by
 unfold allSame at h
 split at h
 ·rename_i hx
  have:=Classical.choose_spec hx
  intro b
  rw [this b];exact h
 ·simp at h
theorem RM.run_wp {α A:Type} {H:Heap} {r:A} : ∀ {m:RM α} {rs:List Nat} {k:α→List Nat→Option A},m.run H rs k=some r→m.wp H rs fun a rs'=>k a rs'=some r
 | .ret a,_,_,h=>h
 | .fail,_,_,h=>by simp [RM.run] at h
 | .get b f,rs,k,h=>by
  simp only [RM.run] at h
  split at h
  ·rename_i x hx;exact ⟨x,hx,RM.run_wp h⟩
  ·simp at h
 | .opt _ o f,rs,k,h=>by
  simp only [RM.run] at h
  cases o with
  | none=>simp at h
  | some y=>exact ⟨y,rfl,RM.run_wp h⟩
 | .br c x y,rs,k,h=>by
  simp only [RM.run] at h
  cases c with
  | true=>exact .inl ⟨rfl,RM.run_wp h⟩
  | false=>exact .inr ⟨rfl,RM.run_wp h⟩
 | .all β f,rs,k,h=>by
  simp only [RM.run] at h
  exact fun b=>RM.run_wp (qafl h b)
theorem qey {H:Heap} : ∀ {m:RM AV} {rs:List Nat} {Q:AV×Heap→List Nat→Prop},(pureR m).wp H rs Q→m.wp H rs fun v rs'=>Q (v,[]) rs'
 | .ret _,_,_,h=>h
 | .fail,_,_,h=>h
 | .get _ _,_,_,⟨x,hx,h⟩=>⟨x,hx,qey h⟩
 | .opt _ _ _,_,_,⟨y,hy,h⟩=>⟨y,hy,qey h⟩
 | .br _ _ _,_,_,.inl ⟨e,h⟩ => .inl ⟨e,qey h⟩
 | .br _ _ _,_,_,.inr ⟨e,h⟩ => .inr ⟨e,qey h⟩
 | .all _ _,_,_,h=>fun b=>qey (h b)
theorem Comes'.upon {P:Program} {o:Oper} {a:Act} {next:Act→World→Prop} {Q:Exit→Act→World→Prop} {R:Value→World→Prop} {r:Result Next} (h:Comes' P R r) (hn : ∀ x w',R x w'→next (a.put o.dst x) w') :
  o.upon P a next Q r:=by
 unfold Comes' at h
 split at h
 ·exact hn _ _ h
 ·exact hn _ _ h
 ·refine Calls.mono h fun e w' he => ?_
  obtain ⟨x,rfl,hx⟩:=he
  exact hn _ _ hx
 ·exact h.elim
theorem Comes'.mono {P:Program} {R R':Value→World→Prop} {r:Result Next} (h:Comes' P R r) (hn : ∀ x w',R x w'→R' x w'):Comes' P R' r:=by
 unfold Comes' at *
 split at h
 ·exact hn _ _ h
 ·exact hn _ _ h
 ·refine Calls.mono h fun e w' he => ?_
  obtain ⟨x,rfl,hx⟩:=he
  exact ⟨x,rfl,hn _ _ hx⟩
 ·exact h.elim
structure Now (P:Program) (F:Fr) (ι:Nat→Inf) (K:Nat→Prop) (H:Heap) (w:World) (base:Nat):Prop where
 inv:Inv P F ι K H w
 fresh : ∀ b,base≤b→b<base+wide→¬ K b
def Fin (P:Program) (F:Fr) (ι:Nat→Inf) (K:Nat→Prop) (H:Heap) (w:World) (base:Nat) (Ψ:AV×Heap→List Nat→Prop) (x:Value) (w':World):Prop :=
 ∃ v u rs ι' K',Ψ (v,u) rs∧Inv P F ι' K' (u++H) w'∧Stp F ι ι' K K' H (u++H) w w'∧AVR P ι' K' w' (Reg F ι' (u++H) w') v x ∧ ∀ b,K' b→K b∨(base≤b∧b<base+wide)
section
variable {P : Program} {F : Fr} {ι : Nat → Inf} {K : Nat → Prop} {H : Heap} {w : World} {base : Nat} {Ψ : AV × Heap → List Nat → Prop}
theorem Fin.pure (h:Now P F ι K H w base) {v:AV} {rs:List Nat} {x:Value} (hΨ:Ψ (v,[]) rs) (hv:AVR P ι K w (Reg F ι H w) v x):Fin P F ι K H w base Ψ x w :=
 ⟨v,[],rs,ι,K,hΨ,h.inv,Stp.refl ..,hv,fun _ hb => .inl hb⟩
theorem Fin.draw (h:Now P F ι K H w base) {v:AV} {rs:List Nat} {x:Value} {w':World} (hh:w'.heap=w.heap) (ho:w'.os=w.os) (hp:w'.output=w.output) (hΨ:Ψ (v,[]) rs) (hv:AVR P ι K w (Reg F ι H w) v x):Fin P F ι K H w base Ψ x w':=by
 obtain ⟨h1,h2⟩:=h.inv.world hh ho hp
 exact ⟨v,[],rs,ι,K,hΨ,h1,h2,h2.avr hv,fun _ hb => .inl hb⟩
theorem qaf {S:Nat→Prop} {t:Ty} {y:t.den} {x:Value} : AVR P ι K w S (.val t y) x↔VRep w S t y x:=by
 unfold AVR VRep;simp [AVC,AV.agg]
theorem qam {S:Nat→Prop} {k:IntKind} {n:Int} {x:Value} : VRep w S (.int k) n x↔x = .int k n:=by
 simp only [VRep,Rep,ValOf,Ty.isAgg]
 constructor
 ·rintro ⟨cs,rfl,h⟩;simpa using h.symm
 ·rintro rfl;exact ⟨_,rfl,rfl⟩
theorem qa5 {S:Nat→Prop} {b:Bool} {x:Value} : VRep w S .bool b x↔x = .bool b:=by
 simp only [VRep,Rep,ValOf,Ty.isAgg]
 constructor
 ·rintro ⟨cs,rfl,h⟩;simpa using h.symm
 ·rintro rfl;exact ⟨_,rfl,rfl⟩
theorem qbw {S:Nat→Prop} {s:List UInt8} {x:Value} : VRep w S .str s x↔x = .string ⟨s.toArray⟩:=by
 simp only [VRep,Rep,ValOf,Ty.isAgg]
 constructor
 ·rintro ⟨cs,rfl,h⟩;simpa using h.symm
 ·rintro rfl;exact ⟨_,rfl,rfl⟩
theorem qcj {S:Nat→Prop} {k:FloatKind} {b:Nat} {x:Value} : VRep w S (.flt k) b x ↔ ∃ c,x = .float k c∧canon k c=b:=by
 simp only [VRep,Rep,ValOf,Ty.isAgg]
 constructor
 ·rintro ⟨cs,⟨c,rfl,hc⟩,h⟩;exact ⟨c,by simpa using h.symm,hc⟩
 ·rintro ⟨c,rfl,hc⟩;exact ⟨_,⟨c,rfl,hc⟩,rfl⟩
theorem qaal {S:Nat→Prop} {b:Bool} {x:Value} : VRep w S .err b x↔(b=true∧x = .nilIface)∨(b=false ∧ ∃ t v,x = .iface t v):=by
 simp only [VRep,Rep,ValOf,Ty.isAgg]
 constructor
 ·rintro ⟨cs,h1,h⟩
  rcases h1 with ⟨hb,rfl⟩ | ⟨hb,t,v,rfl⟩
  ·exact .inl ⟨hb,by simpa using h.symm⟩
  ·exact .inr ⟨hb,t,v,by simpa using h.symm⟩
 ·rintro (⟨hb,rfl⟩ | ⟨hb,t,v,rfl⟩)
  ·exact ⟨_,.inl ⟨hb,rfl⟩,rfl⟩
  ·exact ⟨_,.inr ⟨hb,t,v,rfl⟩,rfl⟩
theorem qaiz (a:List UInt8):(⟨a.toArray⟩:ByteArray).toList=a:=by rw [ByteArray.toList_eq]
structure EnvOK (E:Env):Prop where
 tys : ∀ i t,E.tys i=some t→okTy E.P t i=true
 eqs : ∀ i,memN E.eqs i=true → ∀ t,E.tys i=some t→eqTy E.P t i=true∧E.P.eqGuardType E.P.depth i=false∧t.deep≤10000
theorem qkc (op:BinOp) (t:TypeId) (x y:Operand) (a b:Value) (h1:¬ (a = .nilIface∧b = .nilIface)) (h2 : ∀ p q,¬ (a = .agg p∧b = .agg q)):(eqGuard op t x y a b).run P w = .ok () w:=by
 unfold eqGuard
 cases op <;> simp <;> (split <;> simp_all)
theorem qak9 (op:BinOp) (t u:TypeId) (x y:Operand) (ρ:Operand→Value) (d:Option Tmp) (ty:TypeId) (pos:String) (af:Array Edge) (g:Option (Nat×Bool)) :
  (execOp ρ { dst:=d,op:=.binOp op t x y u,type:=ty,pos:=pos,after:=af,guard:=g }).run P w=((eqGuard op t x y (ρ x) (ρ y)).run P w).andThen fun _ w'=>((binOp op t (ρ x) (ρ y)).run P w').andThen fun v w'' => .ok (.value v) w'':=by
 simp [execOp]
theorem qas (h:Now P F ι K H w base) {t:Ty} {y:t.den} {rs:List Nat} {x:Value} (hΨ:Ψ (.val t y,[]) rs) (hv:VRep w (Reg F ι H w) t y x):Comes' P (Fin P F ι K H w base Ψ) (.ok (.value x) w) :=
 Fin.pure h hΨ (qaf.2 hv)
theorem qaf4 (h:Now P F ι K H w base) {t:Ty} {y:t.den} {rs:List Nat} {x:Value} {w':World} (hh:w'.heap=w.heap) (ho:w'.os=w.os) (hp:w'.output=w.output) (hΨ:Ψ (.val t y,[]) rs) (hv:VRep w (Reg F ι H w) t y x):Comes' P (Fin P F ι K H w base Ψ) (.ok (.value x) w') :=
 Fin.draw h hh ho hp hΨ (qaf.2 hv)
theorem qsb (h:Now P F ι K H w base) {k:FloatKind} {r:Option Nat} {rs:List Nat} {q:Question} {m:Sem Value} (hq:q.forced=false) (hn : ∀ t,canon k (q.cut t)=nan k) (hΨ:Ψ (.val (.flt k) (orNan k r),[]) rs)
  (h1 : ∀ x,r=some x→m=Pure.pure (.float k x)) (h2:r=none→m=(choose q) >>= fun x=>Pure.pure (.float k x)) :
  Comes' P (Fin P F ι K H w base Ψ) ((m.run P w).andThen fun v w' => .ok (.value v) w'):=by
 cases r with
 | some r=>rw [h1 r rfl];exact qas h hΨ (qcj.2 ⟨r,rfl,rfl⟩)
 | none =>
  rw [h2 rfl]
  simp only [Sem.run_bind,run_choose,hq,Bool.false_eq_true,if_false,Result.andThen_ok,Sem.run_pure]
  exact qaf4 h rfl rfl rfl hΨ (qcj.2 ⟨_,rfl,hn _⟩)
theorem qaas {t:TypeId} (hok:okTy P .bool t=true) (a b:Bool) (w:World):(Op.equal t (.bool a) (.bool b)).run P w = .ok (a==b) w:=by
 simp only [okTy,Bool.and_eq_true] at hok
 obtain ⟨_,hu⟩:=hok
 split at hu
 ·rename_i hd
  show (Op.equalIn (9999+1) t (.bool a) (.bool b)).run P w=_
  rw [Op.equalIn,Sem.run_bind,run_underlying hd,Result.andThen_ok]
  rfl
 ·simp at hu
theorem qaj8 (h:Now P F ι K H w base) {op:BinOp} {t:TypeId} {x:Operand} {v:Value} {va:Value} {a:Bool} {rs:List Nat} (hok:okTy P .err t=true) (hop:op = .eql∨op = .neq)
  (ha:(a=true∧va = .nilIface)∨(a=false ∧ ∃ t v,va = .iface t v)) (hwp:Ψ (.val .bool (match op with | .eql=>a | _ => !a),[]) rs) :
  Comes' P (Fin P F ι K H w base Ψ) (((eqGuard op t x (.const v) va .nilIface).run P w).andThen fun _ w'=>((binOp op t va .nilIface).run P w').andThen fun v w'' => .ok (.value v) w''):=by
 obtain ⟨ms,hd⟩ : ∃ ms,P.underlying t=some (.interface ms):=by
  simp only [okTy,Bool.and_eq_true] at hok
  obtain ⟨_,hu⟩:=hok
  split at hu
  ·exact ⟨_,by assumption⟩
  ·simp at hu
 have hg:(eqGuard op t x (.const v) va .nilIface).run P w = .ok () w:=by
  rcases ha with ⟨_,rfl⟩ | ⟨_,t',v',rfl⟩ <;> rcases hop with rfl | rfl <;> simp [eqGuard]
 have heq : ∀ d,(Op.equalIn (d+1) t va .nilIface).run P w = .ok a w:=by
  intro d
  rw [Op.equalIn,Sem.run_bind,run_underlying hd,Result.andThen_ok]
  rcases ha with ⟨rfl,rfl⟩ | ⟨rfl,t',v',rfl⟩ <;> rfl
 have heq':(Op.equal t va .nilIface).run P w = .ok a w:=heq 9999
 rw [hg,Result.andThen_ok]
 rcases hop with rfl | rfl
 ·have:binOp .eql t va .nilIface=(Op.equal t va .nilIface >>= fun b=>Pure.pure (.bool b)):=by
   rcases ha with ⟨_,rfl⟩ | ⟨_,t',v',rfl⟩ <;> rfl
  rw [this,Sem.run_bind,heq']
  exact qas h hwp (qa5.2 rfl)
 ·have:binOp .neq t va .nilIface=(Op.equal t va .nilIface >>= fun b=>Pure.pure (.bool (!b))):=by
   rcases ha with ⟨_,rfl⟩ | ⟨_,t',v',rfl⟩ <;> rfl
  rw [this,Sem.run_bind,heq']
  exact qas h hwp (qa5.2 rfl)
theorem qsa {t:TypeId} {u:Ty} (hok:okTy P (.list u) t=true) (a:Option Addr) (n cap:Nat) (w:World):(Op.equal t (.slice a n cap) (.slice none 0 0)).run P w = .ok a.isNone w:=by
 simp only [okTy,Bool.and_eq_true] at hok
 obtain ⟨_,hu⟩:=hok
 split at hu
 ·rename_i hd
  show (Op.equalIn (9999+1) t _ _).run P w=_
  rw [Op.equalIn,Sem.run_bind,run_underlying hd,Result.andThen_ok]
  cases a <;> rfl
 ·simp at hu
theorem qao1 {α:Type} {H:Heap} {c:Bool} {x:RM α} {rs:List Nat} {Q:α→List Nat→Prop} (h:(bif c then x else .fail).wp H rs Q):c=true∧x.wp H rs Q:=by
 cases c with
 | false=>exact h.elim
 | true=>exact ⟨rfl,h⟩
theorem qana {a b:Ty} (h:a.same b=true):a=b:=by
 unfold Ty.same at h
 cases hx:a.eq? b with
 | none=>rw [hx] at h;simp at h
 | some p=>exact p.down
theorem qaj7 {t:Ty} {x y:t.den} {c:Bool} (h:t.eqV x y=some c):t.isAgg=true∨(∃ k,t = .int k)∨(∃ k,t = .flt k)∨t = .bool∨t = .str:=by
 cases t <;> first | exact .inl rfl | exact .inr (.inl ⟨_,rfl⟩) | exact .inr (.inr (.inl ⟨_,rfl⟩)) | exact .inr (.inr (.inr (.inl rfl))) | exact .inr (.inr (.inr (.inr rfl))) | simp [Ty.eqV] at h
theorem qajv {E:Env} (hE:EnvOK E) (h:Now E.P F ι K H w base) {op:BinOp} {t:TypeId} {x y:Operand} {t':Ty} {a b:t'.den} {va vb:Value} {rs:List Nat} (hagg:t'.isAgg=true) (htys:E.tys t=some t') (heqs:memN E.eqs t=true) {c:Bool}
  (hc:t'.eqV a b=some c) (ha:VRep w (Reg F ι H w) t' a va) (hb:VRep w (Reg F ι H w) t' b vb) (hop:op = .eql∨op = .neq) (hΨ:Ψ (.val .bool (match op with | .eql=>c | _ => !c),[]) rs) :
  Comes' E.P (Fin E.P F ι K H w base Ψ) (((eqGuard op t x y va vb).run E.P w).andThen fun _ w'=>((binOp op t va vb).run E.P w').andThen fun v w'' => .ok (.value v) w''):=by
 obtain ⟨h1,h2,h3⟩:=hE.eqs t heqs t' htys
 have he:=qal9 (w:=w) (hE.tys t t' htys) h1 h3 hc ha hb
 obtain ⟨cs,_,hva⟩:=ha
 obtain ⟨ds,_,hvb⟩:=hb
 rw [hagg] at hva hvb
 obtain rfl:va = .agg cs.toArray:=by simpa [ValOf] using hva
 obtain rfl:vb = .agg ds.toArray:=by simpa [ValOf] using hvb
 rw [run_eqGuard_agg w op t x y _ _ h2,Result.andThen_ok]
 rcases hop with rfl | rfl
 ·have:binOp .eql t (.agg cs.toArray) (.agg ds.toArray)=(Op.equal t (.agg cs.toArray) (.agg ds.toArray) >>= fun b=>Pure.pure (.bool b)):=rfl
  rw [this,Sem.run_bind,he]
  exact qas h hΨ (qa5.2 rfl)
 ·have:binOp .neq t (.agg cs.toArray) (.agg ds.toArray)=(Op.equal t (.agg cs.toArray) (.agg ds.toArray) >>= fun b=>Pure.pure (.bool (!b))):=rfl
  rw [this,Sem.run_bind,he]
  exact qas h hΨ (qa5.2 rfl)
theorem qaiv {E:Env} (hE:EnvOK E) (hP:E.P=P) (h:Now P F ι K H w base) {op:BinOp} {t:TypeId} {x y:Operand} {a b:AV} {va vb:Value} {rs:List Nat} (hc : ∀ v,isConst y=true→vb=v→True)
  (ha:AVR P ι K w (Reg F ι H w) a va) (hb:AVR P ι K w (Reg F ι H w) b vb) (hy:isConst y=true → ∃ v,y = .const v)
  (hwp:(binV (E.tys t) (isConst y) (memN E.eqs t) op a b).wp H rs fun v rs'=>Ψ (v,[]) rs') :
  Comes' P (Fin P F ι K H w base Ψ) (((eqGuard op t x y va vb).run P w).andThen fun _ w'=>((binOp op t va vb).run P w').andThen fun v w'' => .ok (.value v) w''):=by
 subst hP
 unfold binV at hwp
 split at hwp
 ·
  rename_i k a l b
  obtain ⟨a,rfl⟩ : ∃ a':Int,a'=a:=⟨a,rfl⟩
  obtain ⟨b,rfl⟩ : ∃ b':Int,b'=b:=⟨b,rfl⟩
  obtain rfl:va = .int k a:=qam.1 (qaf.1 ha)
  obtain rfl:vb = .int l b:=qam.1 (qaf.1 hb)
  rw [qkc _ _ _ _ _ _ (by simp) (by simp),Result.andThen_ok]
  split at hwp
  ·simp only [RM.wp,iLe] at hwp
   rcases hwp with ⟨hc,hwp⟩ | ⟨_,hwp⟩
   ·have hb:¬ (b<0):=by simpa using hc
    simp only [binOp,Op.shift,hb,if_false,Sem.run_pure,Result.andThen_ok]
    exact qas h hwp (qam.2 rfl)
   ·exact hwp.elim
  ·simp only [RM.wp,iLe] at hwp
   rcases hwp with ⟨hc,hwp⟩ | ⟨_,hwp⟩
   ·have hb:¬ (b<0):=by simpa using hc
    simp only [binOp,Op.shift,hb,if_false,Sem.run_pure,Result.andThen_ok]
    exact qas h hwp (qam.2 rfl)
   ·exact hwp.elim
  ·rename_i hs1 hs2
   split at hwp
   ·exact hwp.elim
   ·rename_i e _
    obtain rfl:=e.down
    have hne : ∀ b:Int,iEq b 0=false→¬ b=0:=by intro b h e;subst e;simp [iEq] at h
    cases op <;> first | exact absurd rfl hs1 | exact absurd rfl hs2 | skip
    case quo =>
     simp only [RM.wp] at hwp
     rcases hwp with ⟨_,hwp⟩ | ⟨hc,hwp⟩
     ·exact hwp.elim
     ·simp only [binOp,Op.intDiv,hne _ hc,if_false,ne_eq,not_true_eq_false,Sem.run_pure,Result.andThen_ok]
      exact qas h hwp (qam.2 rfl)
    case rem =>
     simp only [RM.wp] at hwp
     rcases hwp with ⟨_,hwp⟩ | ⟨hc,hwp⟩
     ·exact hwp.elim
     ·simp only [binOp,Op.intDiv,hne _ hc,if_false,ne_eq,not_true_eq_false,Sem.run_pure,Result.andThen_ok]
      exact qas h hwp (qam.2 rfl)
    all_goals first
     | (simp only [RM.wp] at hwp
        simp only [binOp,Op.intArith,Op.intBits,Op.intCmp,ne_eq,not_true_eq_false,if_false,Sem.run_pure,Result.andThen_ok]
        first | exact qas h hwp (qam.2 rfl) | exact qas h hwp (qa5.2 rfl))
     | exact hwp.elim
 ·
  rename_i k a l b
  obtain ⟨a',rfl,hca⟩:=qcj.1 (qaf.1 ha)
  obtain ⟨b',rfl,hcb⟩:=qcj.1 (qaf.1 hb)
  obtain ⟨a,rfl⟩ : ∃ a'':Nat,a''=a:=⟨a,rfl⟩
  obtain ⟨b,rfl⟩ : ∃ b'':Nat,b''=b:=⟨b,rfl⟩
  subst hca
  rw [qkc _ _ _ _ _ _ (by simp) (by simp),Result.andThen_ok]
  split at hwp
  ·exact hwp.elim
  ·rename_i e _
   obtain rfl:=e.down
   subst hcb
   have hnb : ∀ t,canon k ((Question.nanBits k a' b').cut t)=nan k:=fun t=>qpd k t _ (.inr (.inl ⟨_,_,rfl⟩))
   have hfo:(Question.nanBits k a' b').forced=false:=rfl
   cases op <;> first | exact hwp.elim | skip
   case add=>exact qsb h hfo hnb (r:=k.format.add a' b') (by simpa only [RM.wp,fAdd,qaju] using hwp) (fun x hx=>by simp [binOp,Op.floatArith,hx]) (fun hx=>by simp [binOp,Op.floatArith,hx])
   case sub=>exact qsb h hfo hnb (r:=k.format.sub a' b') (by simpa only [RM.wp,fSub,qale] using hwp) (fun x hx=>by simp [binOp,Op.floatArith,hx]) (fun hx=>by simp [binOp,Op.floatArith,hx])
   case mul=>exact qsb h hfo hnb (r:=k.format.mul a' b') (by simpa only [RM.wp,fMul,qaks] using hwp) (fun x hx=>by simp [binOp,Op.floatArith,hx]) (fun hx=>by simp [binOp,Op.floatArith,hx])
   case quo=>exact qsb h hfo hnb (r:=k.format.div a' b') (by simpa only [RM.wp,fDiv,qaj6] using hwp) (fun x hx=>by simp [binOp,Op.floatArith,hx]) (fun hx=>by simp [binOp,Op.floatArith,hx])
   all_goals
    simp only [RM.wp,fEq,fLt,fLe,qsx] at hwp
    simp only [binOp,Op.floatCmp,ne_eq,not_true_eq_false,if_false,Sem.run_pure,Result.andThen_ok]
    refine qas h hwp (qa5.2 ?_)
    try rfl
   case gtr =>
    rw [qagt k a' b']
    cases k.format.order a' b' with
    | none=>rfl
    | some o=>cases o <;> rfl
   case geq =>
    rw [qagt k a' b']
    cases k.format.order a' b' with
    | none=>rfl
    | some o=>cases o <;> rfl
 ·
  rename_i a b
  obtain ⟨a,rfl⟩ : ∃ a'':List UInt8,a''=a:=⟨a,rfl⟩
  obtain ⟨b,rfl⟩ : ∃ b'':List UInt8,b''=b:=⟨b,rfl⟩
  obtain rfl:=qbw.1 (qaf.1 ha)
  obtain rfl:=qbw.1 (qaf.1 hb)
  rw [qkc _ _ _ _ _ _ (by simp) (by simp),Result.andThen_ok]
  have hl : ∀ a:List UInt8,(⟨a.toArray⟩:ByteArray).size=a.length:=fun a=>by simp [ByteArray.size]
  cases op <;> first | exact hwp.elim | skip
  case add =>
   simp only [RM.wp] at hwp
   rcases hwp with ⟨hc,hwp⟩ | ⟨_,hwp⟩
   ·have hr:a.length+b.length≤4611686018427387904:=by simpa [strRoom] using hc
    have hn:¬ (((⟨a.toArray⟩:ByteArray).size+(⟨b.toArray⟩:ByteArray).size:Nat):Int)>IntKind.i64.max:=by
     rw [hl,hl];simp [IntKind.max,IntKind.signed,IntKind.bits];omega
    simp only [binOp,Op.stringOp,hn,if_false,Sem.run_pure,Result.andThen_ok]
    refine qas h hwp (qbw.2 ?_)
    congr 1
   ·exact hwp.elim
  all_goals
   simp only [RM.wp,sEq,sLt] at hwp
   simp only [binOp,Op.stringOp,qaiz,Sem.run_pure,Result.andThen_ok]
   exact qas h hwp (qa5.2 rfl)
 ·
  rename_i a b
  obtain ⟨a,rfl⟩ : ∃ a'':Bool,a''=a:=⟨a,rfl⟩
  obtain ⟨b,rfl⟩ : ∃ b'':Bool,b''=b:=⟨b,rfl⟩
  have ha:=qaal.1 (qaf.1 ha)
  have hb:=qaal.1 (qaf.1 hb)
  split at hwp
  ·rename_i hx hyc
   have hok:=hE.tys t .err hx
   obtain ⟨v,rfl⟩:=hy hyc
   simp only [RM.wp] at hwp
   rcases hwp with ⟨rfl,hwp⟩ | ⟨_,hwp⟩
   ·obtain rfl:vb = .nilIface:=by simpa using hb
    exact qaj8 h hok (.inl rfl) ha hwp
   ·exact hwp.elim
  ·rename_i hx hyc
   have hok:=hE.tys t .err hx
   obtain ⟨v,rfl⟩:=hy hyc
   simp only [RM.wp] at hwp
   rcases hwp with ⟨rfl,hwp⟩ | ⟨_,hwp⟩
   ·obtain rfl:vb = .nilIface:=by simpa using hb
    exact qaj8 h hok (.inr rfl) ha hwp
   ·exact hwp.elim
  ·exact hwp.elim
 ·
  rename_i a b
  obtain ⟨a,rfl⟩ : ∃ a'':Bool,a''=a:=⟨a,rfl⟩
  obtain ⟨b,rfl⟩ : ∃ b'':Bool,b''=b:=⟨b,rfl⟩
  obtain rfl:=qa5.1 (qaf.1 ha)
  obtain rfl:=qa5.1 (qaf.1 hb)
  rw [qkc _ _ _ _ _ _ (by simp) (by simp),Result.andThen_ok]
  split at hwp
  ·rename_i hx
   have:binOp .eql t (.bool a) (.bool b)=(Op.equal t (.bool a) (.bool b) >>= fun b=>Pure.pure (.bool b)):=rfl
   rw [this,Sem.run_bind,qaas (hE.tys t .bool hx)]
   exact qas h hwp (qa5.2 rfl)
  ·rename_i hx
   have:binOp .neq t (.bool a) (.bool b)=(Op.equal t (.bool a) (.bool b) >>= fun b=>Pure.pure (.bool (!b))):=rfl
   rw [this,Sem.run_bind,qaas (hE.tys t .bool hx)]
   exact qas h hwp (qa5.2 rfl)
  ·exact hwp.elim
 ·
  rename_i t' a u' b h1 h2 h3 h4 h5
  split at hwp
  ·exact hwp.elim
  ·rename_i q _
   obtain rfl:=q
   obtain ⟨hx,hwp⟩:=qao1 hwp
   simp only [Bool.and_eq_true] at hx
   obtain ⟨hx1,hx2⟩:=hx
   split at hx2
   ·rename_i v hv
    obtain rfl:=qana hx2
    split at hwp
    ·exact hwp.elim
    ·rename_i c hc
     have hk:=qaj7 (x:=a) (y:=b) hc
     have hagg:v.isAgg=true:=by
      rcases hk with hk | ⟨k,hk⟩ | ⟨k,hk⟩ | hk | hk
      ·exact hk
      ·subst hk;exact (h1 _ a _ b rfl HEq.rfl rfl HEq.rfl).elim
      ·subst hk;exact (h2 _ a _ b rfl HEq.rfl rfl HEq.rfl).elim
      ·subst hk;exact (h5 a b rfl HEq.rfl rfl HEq.rfl).elim
      ·subst hk;exact (h3 a b rfl HEq.rfl rfl HEq.rfl).elim
     split at hwp
     ·exact qajv hE h hagg hv hx1 hc (qaf.1 ha) (qaf.1 hb) (.inl rfl) hwp
     ·exact qajv hE h hagg hv hx1 hc (qaf.1 ha) (qaf.1 hb) (.inr rfl) hwp
     ·exact hwp.elim
   ·simp at hx2
 ·
  rename_i t' xs
  obtain ⟨cs,⟨a,cap,rfl,hcap,hrow⟩,hv⟩:=qaf.1 ha
  obtain rfl:va = .slice a (List.length (α:=t'.den) xs) cap:=by simpa [ValOf,Ty.isAgg] using hv.symm
  obtain rfl:vb = .slice none 0 0:=by
   obtain ⟨cs,hc,hv⟩:=hb
   simp only [AVC] at hc;subst hc
   simpa [ValOf,AV.agg] using hv.symm
  rw [qkc _ _ _ _ _ _ (by simp) (by simp),Result.andThen_ok]
  cases hx:E.tys t with
  | none=>rw [hx] at hwp;exact hwp.elim
  | some u =>
   rw [hx] at hwp
   cases u <;> first | exact hwp.elim | skip
   rename_i u
   have hok:=hE.tys t _ hx
   simp only [cond_false] at hwp
   have hans : ∀ op,(op = .eql∨op = .neq)→(binOp op t (.slice a (List.length (α:=t'.den) xs) cap) (.slice none 0 0)).run E.P w = .ok (.bool (match op with | .eql=>a.isNone | _ => !a.isNone)) w:=by
    intro op ho
    rcases ho with rfl | rfl
    ·have:binOp .eql t (.slice a (List.length (α:=t'.den) xs) cap) (.slice none 0 0)=(Op.equal t (.slice a (List.length (α:=t'.den) xs) cap) (.slice none 0 0) >>= fun b=>Pure.pure (.bool b)):=rfl
     rw [this,Sem.run_bind,qsa hok];rfl
    ·have:binOp .neq t (.slice a (List.length (α:=t'.den) xs) cap) (.slice none 0 0)=(Op.equal t (.slice a (List.length (α:=t'.den) xs) cap) (.slice none 0 0) >>= fun b=>Pure.pure (.bool (!b))):=rfl
     rw [this,Sem.run_bind,qsa hok];rfl
   have hsome:List.isEmpty (α:=t'.den) xs=false→a.isNone=false:=by
    intro he
    rcases hrow with h0 | ⟨c,o,cs,rfl,_⟩
    ·have:(xs:List t'.den)=[]:=List.eq_nil_of_length_eq_zero h0
     rw [this] at he;simp at he
    ·rfl
   split at hwp
   ·rw [hans .eql (.inl rfl)]
    simp only [RM.wp] at hwp
    rcases hwp with ⟨_,hwp⟩ | ⟨he,hwp⟩
    ·exact qas h (hwp a.isNone) (qa5.2 rfl)
    ·exact qas h hwp (qa5.2 (by simp [hsome he]))
   ·rw [hans .neq (.inr rfl)]
    simp only [RM.wp] at hwp
    rcases hwp with ⟨_,hwp⟩ | ⟨he,hwp⟩
    ·exact qas h (hwp a.isNone) (qa5.2 rfl)
    ·exact qas h hwp (qa5.2 (by simp [hsome he]))
   ·exact hwp.elim
 ·
  obtain rfl:va = .slice none 0 0:=by
   obtain ⟨cs,hc,hv⟩:=ha
   simp only [AVC] at hc;subst hc
   simpa [ValOf,AV.agg] using hv.symm
  obtain rfl:vb = .slice none 0 0:=by
   obtain ⟨cs,hc,hv⟩:=hb
   simp only [AVC] at hc;subst hc
   simpa [ValOf,AV.agg] using hv.symm
  rw [qkc _ _ _ _ _ _ (by simp) (by simp),Result.andThen_ok]
  cases hx:E.tys t with
  | none=>rw [hx] at hwp;exact hwp.elim
  | some u =>
   rw [hx] at hwp
   cases u <;> first | exact hwp.elim | skip
   rename_i u
   have hok:=hE.tys t _ hx
   simp only [cond_false] at hwp
   split at hwp
   ·have:binOp .eql t (.slice none 0 0) (.slice none 0 0)=(Op.equal t (.slice none 0 0) (.slice none 0 0) >>= fun b=>Pure.pure (.bool b)):=rfl
    rw [this,Sem.run_bind,qsa hok]
    exact qas h hwp (qa5.2 rfl)
   ·have:binOp .neq t (.slice none 0 0) (.slice none 0 0)=(Op.equal t (.slice none 0 0) (.slice none 0 0) >>= fun b=>Pure.pure (.bool (!b))):=rfl
    rw [this,Sem.run_bind,qsa hok]
    exact qas h hwp (qa5.2 rfl)
   ·exact hwp.elim
 ·exact hwp.elim
end
end Go.Tm
namespace Go.Tm
open Go
section
variable {E : Env} {F : Fr} {ι : Nat → Inf} {K : Nat → Prop} {H : Heap} {w : World} {base : Nat} {Ψ : AV × Heap → List Nat → Prop} {l : Tmps} {ρ : Operand → Value} {o : Oper}
theorem qad {x y:Value} (h:ValOf false [y] x):x=y:=by simpa [ValOf] using h.symm
theorem amap {α β:Type} (f:α→β) (a:Array α):(a.toList.map f).toArray=a.map f:=by cases a;simp
theorem AVCs.get {P:Program} {S:Nat→Prop} : ∀ {vs:List AV} {xs:List Value} {i:Nat},AVCs P ι K w S vs xs→i<vs.length → ∃ y,xs[i]? = some y∧AVR P ι K w S (getL vs i) y
 | [],_,_,_,hi=>by simp at hi
 | v :: r,_,0,hx,_=>by
  simp only [AVCs] at hx
  obtain ⟨x,ys,cs,rfl,hc,hv,_⟩:=hx
  exact ⟨x,rfl,cs,hc,hv⟩
 | v :: r,_,i+1,hx,hi=>by
  simp only [AVCs] at hx
  obtain ⟨x,ys,cs,rfl,hc,hv,hr⟩:=hx
  obtain ⟨y,hy,hr'⟩:=AVCs.get (i:=i) hr (by simpa using hi)
  exact ⟨y,by simpa using hy,hr'⟩
theorem qu3 {P:Program} {S:Nat→Prop} (hs : ∀ x,AVR P ι K w S (rd l x) (ρ x)) : ∀ xs:List Operand,AVCs P ι K w S (xs.map (rd l)) (xs.map ρ)
 | []=>by simp [AVCs]
 | x :: r=>by
  obtain ⟨cs,hc,hv⟩:=hs x
  simp only [List.map_cons,AVCs]
  exact ⟨ρ x,r.map ρ,cs,rfl,hc,hv,qu3 hs r⟩
theorem qaon (h:Now E.P F ι K H w base) (hs : ∀ x,AVR E.P ι K w (Reg F ι H w) (rd l x) (ρ x)) {x:Operand} (ho:o.op = .move x) (hwp:(exec E (.move x) (rd l) base).wp H [] Ψ) :
  Comes' E.P (Fin E.P F ι K H w base Ψ) ((execOp ρ o).run E.P w):=by
 obtain ⟨dst,op,ty,pos,af,g⟩:=o
 subst ho
 exact Fin.pure h hwp (hs x)
theorem qakz (h:Now E.P F ι K H w base) (hs : ∀ x,AVR E.P ι K w (Reg F ι H w) (rd l x) (ρ x)) {x:Operand} (ho:o.op = .assign x) (hwp:(exec E (.assign x) (rd l) base).wp H [] Ψ) :
  Comes' E.P (Fin E.P F ι K H w base Ψ) ((execOp ρ o).run E.P w):=by
 obtain ⟨dst,op,ty,pos,af,g⟩:=o
 subst ho
 exact Fin.pure h hwp (hs x)
theorem qaoo (h:Now E.P F ι K H w base) (hs : ∀ x,AVR E.P ι K w (Reg F ι H w) (rd l x) (ρ x)) {c x y:Operand} (ho:o.op = .pick c x y) (hwp:(exec E (.pick c x y) (rd l) base).wp H [] Ψ) :
  Comes' E.P (Fin E.P F ι K H w base Ψ) ((execOp ρ o).run E.P w):=by
 obtain ⟨dst,op,ty,pos,af,g⟩:=o
 subst ho
 have hc:=hs c
 simp only [exec] at hwp
 split at hwp
 ·rename_i b hb
  obtain ⟨b,rfl⟩ : ∃ b':Bool,b'=b:=⟨b,rfl⟩
  rw [hb] at hc
  have hv:ρ c = .bool b:=qa5.1 (qaf.1 hc)
  have hrun:(execOp ρ { dst:=dst,op:=.pick c x y,type:=ty,pos:=pos,after:=af,guard:=g }).run E.P w = .ok (.value (if b then ρ x else ρ y)) w:=by simp [execOp,hv,asBool]
  rw [hrun]
  simp only [RM.wp] at hwp
  rcases hwp with ⟨rfl,hwp⟩ | ⟨rfl,hwp⟩
  ·exact Fin.pure h hwp (hs x)
  ·exact Fin.pure h hwp (hs y)
 ·exact hwp.elim
theorem qamq (hE:EnvOK E) (h:Now E.P F ι K H w base) (hs : ∀ x,AVR E.P ι K w (Reg F ι H w) (rd l x) (ρ x)) {op:BinOp} {t u:TypeId} {x y:Operand} (ho:o.op = .binOp op t x y u) (hwp:(exec E (.binOp op t x y u) (rd l) base).wp H [] Ψ) :
  Comes' E.P (Fin E.P F ι K H w base Ψ) ((execOp ρ o).run E.P w):=by
 obtain ⟨dst,op',ty,pos,af,g⟩:=o
 subst ho
 rw [qak9]
 exact qaiv hE rfl h (fun _ _ _=>trivial) (hs x) (hs y) (fun hc=>by cases y <;> simp_all [isConst]) (qey hwp)
theorem qaop (h:Now E.P F ι K H w base) (hs : ∀ x,AVR E.P ι K w (Reg F ι H w) (rd l x) (ρ x)) {op:UnOp} {t:TypeId} {x:Operand} (ho:o.op = .unOp op t x) (hwp:(exec E (.unOp op t x) (rd l) base).wp H [] Ψ) :
  Comes' E.P (Fin E.P F ι K H w base Ψ) ((execOp ρ o).run E.P w):=by
 obtain ⟨dst,op',ty,pos,af,g⟩:=o
 subst ho
 have hx:=hs x
 replace hwp:=qey hwp
 generalize rd l x=v at hwp hx
 have hrun : ∀ r,(Op.unary op (ρ x)).run E.P w = .ok r w→(execOp ρ { dst:=dst,op:=.unOp op t x,type:=ty,pos:=pos,after:=af,guard:=g }).run E.P w = .ok (.value r) w:=by
  intro r hr;simp [execOp,hr]
 unfold unV at hwp
 split at hwp
 ·rename_i b
  have hv:ρ x = .bool b:=qa5.1 (qaf.1 hx)
  rw [hrun (.bool !b) (by rw [hv];rfl)]
  exact qas h hwp (qa5.2 rfl)
 ·rename_i k b
  obtain ⟨b,rfl⟩ : ∃ b':Int,b'=b:=⟨b,rfl⟩
  have hv:ρ x = .int k b:=qam.1 (qaf.1 hx)
  rw [hrun (.int k (k.wrap (0-b))) (by rw [hv];rfl)]
  exact qas h hwp (qam.2 rfl)
 ·rename_i k b
  obtain ⟨c,hv,hc⟩:=qcj.1 (qaf.1 hx)
  rw [hrun (.float k (Op.negFloat k c)) (by rw [hv];rfl)]
  refine qas h hwp (qcj.2 ⟨_,rfl,?_⟩)
  have:b=canon k c:=hc.symm
  subst this
  exact (qaku k c).symm
 ·exact hwp.elim
theorem qajg (h:Now E.P F ι K H w base) (hs : ∀ x,AVR E.P ι K w (Reg F ι H w) (rd l x) (ρ x)) {x:Operand} {i:Nat} (ho:o.op = .extract x i) (hwp:(exec E (.extract x i) (rd l) base).wp H [] Ψ) :
  Comes' E.P (Fin E.P F ι K H w base Ψ) ((execOp ρ o).run E.P w):=by
 obtain ⟨dst,op',ty,pos,af,g⟩:=o
 subst ho
 have hx:=hs x
 simp only [exec] at hwp
 generalize rd l x=v at hwp hx
 split at hwp
 ·rename_i vs
  cases hb:Nat.ble (i+1) vs.length with
  | false=>rw [hb] at hwp;exact hwp.elim
  | true =>
   rw [hb] at hwp
   have hi:i<vs.length:=Nat.le_of_ble_eq_true hb
   obtain ⟨cs,hc,hv⟩:=hx
   simp only [AVC] at hc
   obtain ⟨xs,rfl,hc⟩:=hc
   have hv:ρ x = .tuple xs.toArray:=by simpa [ValOf,AV.agg] using hv.symm
   obtain ⟨y,hy,hr⟩:=hc.get hi
   have hrun:(execOp ρ { dst:=dst,op:=.extract x i,type:=ty,pos:=pos,after:=af,guard:=g }).run E.P w = .ok (.value y) w:=by simp [execOp,hv,Instr.extract,hy]
   rw [hrun]
   exact Fin.pure h hwp hr
 ·exact hwp.elim
theorem qahq (h:Now E.P F ι K H w base) (hs : ∀ x,AVR E.P ι K w (Reg F ι H w) (rd l x) (ρ x)) {f:FuncId} {a b:Array Operand} (ho:o.op = .makeFunc (.func f) a b) (hwp:(exec E (.makeFunc (.func f) a b) (rd l) base).wp H [] Ψ) :
  Comes' E.P (Fin E.P F ι K H w base Ψ) ((execOp ρ o).run E.P w):=by
 obtain ⟨dst,op',ty,pos,af,g⟩:=o
 subst ho
 have hrun:(execOp ρ { dst:=dst,op:=.makeFunc (.func f) a b,type:=ty,pos:=pos,after:=af,guard:=g }).run E.P w = .ok (.value (.func (.func f) (a.map ρ) (b.map ρ))) w:=by simp [execOp,Instr.makeFunc]
 rw [hrun]
 refine Fin.pure h hwp ⟨[.func (.func f) (a.map ρ) (b.map ρ)],?_,by simp [ValOf,AV.agg]⟩
 simp only [AVC]
 exact ⟨a.toList.map ρ,b.toList.map ρ,by rw [amap,amap],qu3 hs _,qu3 hs _⟩
theorem qahr (h:Now E.P F ι K H w base) (hs : ∀ x,AVR E.P ι K w (Reg F ι H w) (rd l x) (ρ x)) {x:Operand} (ho:o.op = .nilCheck x) (hwp:(exec E (.nilCheck x) (rd l) base).wp H [] Ψ) :
  Comes' E.P (Fin E.P F ι K H w base Ψ) ((execOp ρ o).run E.P w):=by
 obtain ⟨dst,op',ty,pos,af,g⟩:=o
 subst ho
 have hx:=hs x
 simp only [exec] at hwp
 generalize rd l x=v at hwp hx
 have hrun : ∀ y,ρ x=y→((∃ a,y = .pointer (some a)) ∨ ∃ f xs ys,y = .func (.func f) xs ys)→(execOp ρ { dst:=dst,op:=.nilCheck x,type:=ty,pos:=pos,after:=af,guard:=g }).run E.P w = .ok (.value y) w:=by
  intro y hy hyy
  rcases hyy with ⟨a,rfl⟩ | ⟨f,xs,ys,rfl⟩ <;> simp [execOp,hy]
 split at hwp
 ·obtain ⟨cs,hc,hv⟩:=hx
  have hx':=hc
  simp only [AVC] at hc
  obtain ⟨_,o,_,rfl⟩:=hc
  have hv':=qad (show ValOf false _ (ρ x) from hv)
  rw [hrun _ hv' (.inl ⟨_,rfl⟩)]
  exact Fin.pure h hwp ⟨_,hx',by simp [ValOf,AV.agg]⟩
 ·obtain ⟨cs,hc,hv⟩:=hx
  have hx':=hc
  simp only [AVC] at hc
  obtain ⟨_,_,_,rfl,_⟩:=hc
  have hv':=qad (show ValOf false _ (ρ x) from hv)
  rw [hrun _ hv' (.inl ⟨_,rfl⟩)]
  exact Fin.pure h hwp ⟨_,hx',by simp [ValOf,AV.agg]⟩
 ·obtain ⟨cs,hc,hv⟩:=hx
  have hx':=hc
  simp only [AVC] at hc
  obtain ⟨_,_,rfl,_⟩:=hc
  have hv':=qad (show ValOf false _ (ρ x) from hv)
  rw [hrun _ hv' (.inl ⟨_,rfl⟩)]
  exact Fin.pure h hwp ⟨_,hx',by simp [ValOf,AV.agg]⟩
 ·obtain ⟨cs,hc,hv⟩:=hx
  have hx':=hc
  simp only [AVC] at hc
  obtain ⟨_,_,rfl,_⟩:=hc
  have hv':=qad (show ValOf false _ (ρ x) from hv)
  rw [hrun _ hv' (.inr ⟨_,_,_,rfl⟩)]
  exact Fin.pure h hwp ⟨_,hx',by simp [ValOf,AV.agg]⟩
 ·obtain ⟨cs,hc,hv⟩:=hx
  have hx':=hc
  simp only [AVC] at hc
  obtain ⟨v,rfl,hf⟩:=hc
  obtain ⟨_,f,first,caps,rfl,_⟩:=id hf
  have hv':=qad (show ValOf false _ (ρ x) from hv)
  rw [hrun _ hv' (.inr ⟨_,_,_,rfl⟩)]
  exact Fin.pure h hwp ⟨_,hx',by simp [ValOf,AV.agg]⟩
 ·exact hwp.elim
theorem qi1 {S:Nat→Prop} {t:Ty} {xs:List t.den} {x:Value} (h:VRep w S (.list t) xs x) : ∃ a cap,x = .slice a xs.length cap∧xs.length≤cap ∧
  (xs.length=0 ∨ ∃ c o cs,a=some ⟨c,o,none⟩∧S c∧CellsAt w c o cs∧RepList (Rep w S t) xs cs):=by
 obtain ⟨cs,⟨a,cap,rfl,hc,hr⟩,hv⟩:=h
 exact ⟨a,cap,by simpa [ValOf,Ty.isAgg] using hv.symm,hc,hr⟩
end
end Go.Tm
namespace Go.Tm
open Go
def seg (cs:List Value) (o n:Nat):List Value:=(cs.drop o).take n
theorem qvs (cs:List Value) (n:Nat) (h:cs.length=n):seg cs 0 n=cs:=by simp [seg,← h]
theorem qjc {a b:List Value} {o n:Nat} (h:o+n≤a.length):seg (a++b) o n=seg a o n:=by
 unfold seg
 rw [List.drop_append_of_le_length (by omega),List.take_append_of_le_length (by simp;omega)]
theorem qim {a b:List Value} {o n k:Nat} (h:a.length=k):seg (a++b) (k+o) n=seg b o n:=by
 unfold seg
 rw [← h,List.drop_append,List.drop_of_length_le (by omega)]
 simp
theorem qmd (i k:Nat):(i+1)*k=k+i*k:=by rw [Nat.add_mul,Nat.one_mul,Nat.add_comm]
theorem qui {cs:List Value} {o n p m:Nat} (h:p+m≤n):seg (seg cs o n) p m=seg cs (o+p) m:=by
 unfold seg
 rw [List.drop_take,List.drop_drop,List.take_take,Nat.min_eq_left (by omega)]
theorem RepVec.getD {α:Type} {R:α→List Value→Prop} {k:Nat} (hR : ∀ x vs,R x vs→vs.length=k) (z:α) : ∀ {n:Nat} {x:Vec n α} {vs:List Value} {i:Nat},RepVec R n x vs→i<n→R (Vec.getD n x i z) (seg vs (i*k) k)
 | 0,_,_,_,_,hi=>by omega
 | n+1,x,_,0,⟨a,b,e,ha,_⟩,_=>by
  subst e
  rw [Nat.zero_mul,qjc (by rw [hR _ _ ha];omega),qvs _ _ (hR _ _ ha)]
  exact ha
 | n+1,x,_,i+1,⟨a,b,e,ha,hb⟩,hi=>by
  subst e
  have:=RepVec.getD hR z (i:=i) hb (by omega)
  rw [qmd,qim (hR _ _ ha)]
  exact this
theorem RepList.getD {α:Type} {R:α→List Value→Prop} {k:Nat} (hR : ∀ x vs,R x vs→vs.length=k) (z:α) : ∀ {x:List α} {vs:List Value} {i:Nat},RepList R x vs→i<x.length→R (x.getD i z) (seg vs (i*k) k)
 | [],_,_,_,hi=>by simp at hi
 | x :: l,_,0,⟨a,b,e,ha,_⟩,_=>by
  subst e
  rw [Nat.zero_mul,qjc (by rw [hR _ _ ha];omega),qvs _ _ (hR _ _ ha)]
  simpa using ha
 | x :: l,_,i+1,⟨a,b,e,ha,hb⟩,hi=>by
  subst e
  have:=RepList.getD hR z (i:=i) hb (by simpa using hi)
  rw [qmd,qim (hR _ _ ha)]
  simpa using this
theorem RepVec.toList {α:Type} {R:α→List Value→Prop} : ∀ {n:Nat} {x:Vec n α} {vs:List Value},RepVec R n x vs→RepList R (Vec.toList n x) vs
 | 0,_,_,h=>h
 | _+1,_,_,⟨a,b,e,ha,hb⟩=>⟨a,b,e,ha,RepVec.toList hb⟩
theorem RepList.ofList {α:Type} {R:α→List Value→Prop} (z:α) : ∀ {n:Nat} {x:List α} {vs:List Value},RepList R x vs→x.length=n→RepVec R n (Vec.ofList z n x) vs
 | 0,[],_,h,_=>h
 | n+1,_ :: _,_,⟨a,b,e,ha,hb⟩,hl=>⟨a,b,e,ha,RepList.ofList z hb (by simpa using hl)⟩
 | 0,_ :: _,_,_,hl=>by simp at hl
 | _+1,[],_,_,hl=>by simp at hl
theorem RepList.drop {α:Type} {R:α→List Value→Prop} {k:Nat} (hR : ∀ x vs,R x vs→vs.length=k) : ∀ {x:List α} {vs:List Value} (m:Nat),RepList R x vs→RepList R (x.drop m) (vs.drop (m*k))
 | x,vs,0,h=>by simpa using h
 | [],_,m+1,h=>by simp [RepList] at h;subst h;simp [RepList]
 | x :: l,_,m+1,⟨a,b,e,ha,hb⟩=>by
  subst e
  have:=RepList.drop hR m hb
  have hd:(a++b).drop ((m+1)*k)=b.drop (m*k):=by
   rw [qmd,← hR _ _ ha,List.drop_append,List.drop_of_length_le (by omega)]
   simp
  rw [hd]
  simpa using this
theorem RepList.take {α:Type} {R:α→List Value→Prop} {k:Nat} (hR : ∀ x vs,R x vs→vs.length=k) : ∀ {x:List α} {vs:List Value} (m:Nat),RepList R x vs→RepList R (x.take m) (vs.take (m*k))
 | x,vs,0,_=>by simp [RepList]
 | [],_,m+1,h=>by simp [RepList] at h;subst h;simp [RepList]
 | x :: l,_,m+1,⟨a,b,e,ha,hb⟩=>by
  subst e
  have:=RepList.take hR m hb
  refine ⟨a,b.take (m*k),?_,ha,this⟩
  rw [List.take_append,hR _ _ ha,List.take_of_length_le (by rw [hR _ _ ha,Nat.add_mul];omega)]
  congr 2
  rw [Nat.add_mul];omega
theorem RepList.append {α:Type} {R:α→List Value→Prop} : ∀ {x y:List α} {vs us:List Value},RepList R x vs→RepList R y us→RepList R (x++y) (vs++us)
 | [],_,_,_,h,g=>by simp [RepList] at h;subst h;simpa using g
 | _ :: _,_,_,_,⟨a,b,e,ha,hb⟩,g=>by
  subst e
  exact ⟨a,b++_,by simp,ha,RepList.append hb g⟩
theorem RepVec.set {α:Type} {R:α→List Value→Prop} {k:Nat} (hR : ∀ x vs,R x vs→vs.length=k) {y:α} {us:List Value} (hy:R y us) : ∀ {n:Nat} {x:Vec n α} {vs:List Value} {i:Nat},RepVec R n x vs→i<n→RepVec R n (Vec.set n x i y) (over vs (i*k) us)
 | 0,_,_,_,_,hi=>by omega
 | n+1,x,_,0,⟨a,b,e,ha,hb⟩,_=>by
  subst e
  refine ⟨us,b,?_,hy,hb⟩
  have:us.length=a.length:=(hR _ _ hy).trans (hR _ _ ha).symm
  simp [over,this]
 | n+1,x,_,i+1,⟨a,b,e,ha,hb⟩,hi=>by
  subst e
  have:=RepVec.set hR hy (i:=i) hb (by omega)
  refine ⟨a,_,?_,ha,this⟩
  have hal:=hR _ _ ha
  unfold over
  rw [qmd,← hal,List.take_append,List.take_of_length_le (by omega),Nat.add_sub_cancel_left,Nat.add_assoc,List.drop_append,List.drop_of_length_le (by omega)]
  simp
theorem RepList.set {α:Type} {R:α→List Value→Prop} {k:Nat} (hR : ∀ x vs,R x vs→vs.length=k) {y:α} {us:List Value} (hy:R y us) : ∀ {x:List α} {vs:List Value} {i:Nat},RepList R x vs→i<x.length→RepList R (x.set i y) (over vs (i*k) us)
 | [],_,_,_,hi=>by simp at hi
 | x :: l,_,0,⟨a,b,e,ha,hb⟩,_=>by
  subst e
  refine ⟨us,b,?_,hy,hb⟩
  have:us.length=a.length:=(hR _ _ hy).trans (hR _ _ ha).symm
  simp [over,this]
 | x :: l,_,i+1,⟨a,b,e,ha,hb⟩,hi=>by
  subst e
  have:=RepList.set hR hy (i:=i) hb (by simpa using hi)
  refine ⟨a,_,?_,ha,this⟩
  have hal:=hR _ _ ha
  unfold over
  rw [qmd,← hal,List.take_append,List.take_of_length_le (by omega),Nat.add_sub_cancel_left,Nat.add_assoc,List.drop_append,List.drop_of_length_le (by omega)]
  simp
theorem qbe {a b:Ty} (h:a.same b=true):a=b:=by
 unfold Ty.same at h
 cases hx:a.eq? b with
 | none=>rw [hx] at h;simp at h
 | some p=>exact p.down
theorem qkb {α:Type} {H:Heap} {w:World} {S:Nat→Prop} {p:List PS} {t u:Ty} {o:Nat} (ht:TyOff t p o u) : ∀ {x:t.den} {cs:List Value} {rs:List Nat} {Q:α→List Nat→Prop} {k:(u:Ty)→u.den→RM α},
  (getPath t x p k).wp H rs Q→Rep w S t x cs → ∃ y,(k u y).wp H rs Q∧Rep w S u y (seg cs o u.size):=by
 induction ht with
 | here t =>
  intro x cs rs Q k h hr
  rw [qvs _ _ hr.length]
  exact ⟨x,by cases t <;> exact h,hr⟩
 | fst ht ih =>
  intro x cs rs Q k h hr
  obtain ⟨c,d,rfl,hc,_⟩:=hr
  obtain ⟨y,hy,hr⟩:=ih (x:=x.1) h hc
  refine ⟨y,hy,?_⟩
  rw [qjc (by rw [hc.length];exact ht.inside)]
  exact hr
 | snd ht ih =>
  intro x cs rs Q k h hr
  obtain ⟨c,d,rfl,hc,hd⟩:=hr
  obtain ⟨y,hy,hr⟩:=ih (x:=x.2) h hd
  refine ⟨y,hy,?_⟩
  rw [qim hc.length]
  exact hr
 | @idx n i t p o u hi ht ih =>
  intro x cs rs Q k h hr
  have:=RepVec.getD (R:=Rep w S t) (fun _ _ h=>h.length) t.zero hr hi
  obtain ⟨y,hy,hr'⟩:=ih h this
  refine ⟨y,hy,?_⟩
  rw [qui ht.inside] at hr'
  exact hr'
theorem qby {P:Program} {ι:Nat→Inf} {K:Nat→Prop} {w:World} {S:Nat→Prop} : ∀ {t:Ty} {v:AV} {cs:List Value},fitsB t v=true→AVC P ι K w S v cs→cs.length=t.size:=by
 intro t v
 induction v using AV.rec (motive_2:=fun _=>True) generalizing t with
 | val u x=>intro cs hf h;simp only [AVC] at h;cases t <;> simp only [fitsB] at hf <;> (rw [← qbe hf];exact h.length)
 | nilS=>intro cs hf h;simp only [AVC] at h;cases t <;> simp [fitsB] at hf;simp [h,Ty.size]
 | rows b u=>intro cs hf h;simp only [AVC] at h;cases t <;> simp [fitsB] at hf;rcases h with ⟨_,⟨_,_,rfl⟩ | ⟨_,_,_,_,rfl,_⟩⟩ <;> rfl
 | view b p u off len =>
  intro cs hf h;simp only [AVC] at h;cases t <;> simp [fitsB] at hf
  rcases h with ⟨_,⟨_,⟨_,rfl⟩,_⟩ | ⟨_,_,_,_,_,rfl,_⟩ | ⟨_,_,_,_,rfl,_⟩⟩ <;> rfl
 | unit=>intro cs hf h;simp only [AVC] at h;cases t <;> simp [fitsB] at hf;simp [h,Ty.size]
 | pair a b iha ihb =>
  intro cs hf h;simp only [AVC] at h;cases t <;> simp [fitsB] at hf
  obtain ⟨c,d,rfl,hc,hd⟩:=h
  rw [List.length_append,iha hf.1 hc,ihb hf.2 hd];rfl
 | ptr b p u=>intro cs hf h;simp only [AVC] at h;cases t <;> simp [fitsB] at hf;obtain ⟨_,_,_,rfl⟩:=h;rfl
 | iptr u x=>intro cs hf h;simp only [AVC] at h;cases t <;> simp [fitsB] at hf;obtain ⟨_,_,_,rfl,_⟩:=h;rfl
 | fn f a b _ _=>intro cs hf h;simp only [AVC] at h;cases t <;> simp [fitsB] at hf;obtain ⟨_,_,rfl,_⟩:=h;rfl
 | «fun» s g=>intro cs hf h;simp only [AVC] at h;cases t <;> simp [fitsB] at hf;obtain ⟨_,rfl,_⟩:=h;rfl
 | undef=>intro cs hf h;cases t <;> simp [fitsB] at hf
 | aptr b p u off n=>intro cs hf h;cases t <;> simp [fitsB] at hf
 | tuple vs _=>intro cs hf h;cases t <;> simp [fitsB] at hf
 | nil=>trivial
 | cons _ _ _ _=>trivial
end Go.Tm
namespace Go.Tm
open Go
theorem qagu {cs us:List Value} (h:us.length=cs.length):over cs 0 us=us:=by simp [over,h]
theorem qxu {c d us:List Value} {o:Nat} (h:o+us.length≤c.length):over (c++d) o us=over c o us++d:=by
 unfold over
 rw [List.take_append_of_le_length (by omega),List.drop_append_of_le_length (by omega),List.append_assoc,List.append_assoc,List.append_assoc]
theorem qvo {c d us:List Value} {o k:Nat} (h:c.length=k):over (c++d) (k+o) us=c++over d o us:=by
 unfold over
 rw [← h,List.take_append,List.take_of_length_le (by omega),Nat.add_sub_cancel_left,Nat.add_assoc,List.drop_append,List.drop_of_length_le (by omega)]
 simp
theorem qvp {cs us:List Value} {b n o:Nat} (h:o+us.length≤n) (hb:b+n≤cs.length):over cs (b+o) us=over cs b (over (seg cs b n) o us):=by
 apply List.ext_getElem?
 intro j
 have hs:(seg cs b n).length=n:=by simp [seg];omega
 have hl:(over (seg cs b n) o us).length=n:=by rw [qar (by omega),hs]
 have e1:=qex (cur:=cs) (o:=b+o) (vs:=us) (by omega) j
 have e2:=qex (cur:=cs) (o:=b) (vs:=over (seg cs b n) o us) (by omega) j
 have e3:=qex (cur:=seg cs b n) (o:=o) (vs:=us) (by omega) (j-b)
 rw [e1,e2,hl]
 by_cases h1:j<b
 ·rw [if_pos (by omega),if_pos h1]
 ·rw [if_neg h1]
  by_cases h2:j<b+n
  ·rw [if_pos h2,e3]
   have hg:(seg cs b n)[j-b]? = cs[j]?:=by
    unfold seg
    rw [List.getElem?_take_of_lt (by omega),List.getElem?_drop]
    congr 1;omega
   by_cases h3:j<b+o
   ·rw [if_pos h3,if_pos (by omega),hg]
   ·rw [if_neg h3,if_neg (c:=j-b<o) (by omega)]
    by_cases h4:j<b+o+us.length
    ·rw [if_pos h4,if_pos (c:=j-b<o+us.length) (by omega)];congr 1;omega
    ·rw [if_neg h4,if_neg (c:=j-b<o+us.length) (by omega),hg]
  ·rw [if_neg h2,if_neg (by omega),if_neg (by omega)]
theorem qahk (k:IntKind):(intEq? k k).isSome=true:=by cases k <;> rfl
theorem qzc (k:FloatKind):(fltEq? k k).isSome=true:=by cases k <;> rfl
theorem qts : ∀ n,(natEq? n n).isSome=true
 | 0=>rfl
 | n+1=>by
  have:=qts n
  simp only [natEq?]
  split
  ·rfl
  ·simp_all
theorem qme : ∀ t:Ty,t.same t=true:=by
 intro t
 unfold Ty.same
 induction t with
 | int k=>simp only [Ty.eq?];have:=qahk k;split <;> simp_all
 | flt k=>simp only [Ty.eq?];have:=qzc k;split <;> simp_all
 | ref k=>simp only [Ty.eq?];have:=qts k;split <;> simp_all
 | pair a b iha ihb =>
  simp only [Ty.eq?]
  split
  ·split
   ·rfl
   ·simp_all
  ·simp_all
 | arr n t ih =>
  simp only [Ty.eq?]
  have:=qts n
  split
  ·split
   ·rfl
   ·simp_all
  ·simp_all
 | list t ih =>
  simp only [Ty.eq?]
  split <;> simp_all
 | _=>rfl
theorem qcf (t:Ty) (x:t.den):fitsB t (.val t x)=true:=by cases t <;> exact qme _
theorem qab7 {α:Type} {H:Heap} {w:World} {S:Nat→Prop} {p:List PS} {t u:Ty} {o:Nat} (ht:TyOff t p o u) {y:u.den} {us:List Value} (hy:Rep w S u y us) : ∀ {x:t.den} {cs:List Value} {rs:List Nat} {Q:α→List Nat→Prop} {k:t.den→RM α},
  (setPath t x p u y k).wp H rs Q→Rep w S t x cs → ∃ z,(k z).wp H rs Q∧Rep w S t z (over cs o us):=by
 induction ht with
 | here t =>
  intro x cs rs Q k h hr
  obtain ⟨⟨e⟩,he⟩ : ∃ hh,t.eq? t=some hh:=Option.isSome_iff_exists.1 (qme t)
  rw [qagu (hy.length.trans hr.length.symm)]
  cases t <;> (simp only [setPath,he] at h;exact ⟨y,h,hy⟩)
 | fst ht ih =>
  intro x cs rs Q k h hr
  obtain ⟨c,d,rfl,hc,hd⟩:=hr
  obtain ⟨z,hz,hr⟩:=ih hy (x:=x.1) h hc
  refine ⟨(z,x.2),hz,?_⟩
  have:=ht.inside
  rw [qxu (by rw [hc.length,hy.length];exact this)]
  exact ⟨_,d,rfl,hr,hd⟩
 | snd ht ih =>
  intro x cs rs Q k h hr
  obtain ⟨c,d,rfl,hc,hd⟩:=hr
  obtain ⟨z,hz,hr⟩:=ih hy (x:=x.2) h hd
  refine ⟨(x.1,z),hz,?_⟩
  rw [qvo hc.length]
  exact ⟨c,_,rfl,hc,hr⟩
 | @idx n i t p o u hi ht ih =>
  intro x cs rs Q k h hr
  have hg:=RepVec.getD (R:=Rep w S t) (fun _ _ h=>h.length) t.zero hr hi
  obtain ⟨z,hz,hr'⟩:=ih hy h hg
  refine ⟨_,hz,?_⟩
  have hins:=ht.inside
  have hlen:cs.length=n*t.size:=Rep.length (t:=.arr n t) hr
  have hle:(i+1)*t.size≤n*t.size:=Nat.mul_le_mul_right _ hi
  rw [qmd] at hle
  rw [qvp (n:=t.size) (by rw [hy.length];exact hins) (by omega)]
  exact RepVec.set (fun _ _ h=>h.length) hr' hr hi
section
variable {P : Program} {ι : Nat → Inf} {K : Nat → Prop} {w : World} {S : Nat → Prop} {α : Type} {H : Heap}
theorem qg2 {t u:Ty} {x:u.den} (h:fitsB t (.val u x)=true):u=t:=by cases t <;> exact qbe h
theorem qls {p:List PS} {t u:Ty} {o:Nat} (ht:TyOff t p o u) : ∀ {v:AV} {cs:List Value} {rs:List Nat} {Q:α→List Nat→Prop} {k:AV→RM α},
  (getAV v p k).wp H rs Q→fitsB t v=true→AVC P ι K w S v cs → ∃ v',(k v').wp H rs Q∧fitsB u v'=true∧AVC P ι K w S v' (seg cs o u.size):=by
 have hval : ∀ {p:List PS} {t u:Ty} {o:Nat},TyOff t p o u→p≠[] → ∀ {t':Ty} {x:t'.den} {cs:List Value} {rs:List Nat} {Q:α→List Nat→Prop} {k:AV→RM α},
   (getAV (.val t' x) p k).wp H rs Q→fitsB t (.val t' x)=true→AVC P ι K w S (.val t' x) cs → ∃ v',(k v').wp H rs Q∧fitsB u v'=true∧AVC P ι K w S v' (seg cs o u.size):=by
  intro p t u o ht hp t' x cs rs Q k h hf hv
  obtain rfl:=qg2 hf
  simp only [AVC] at hv
  obtain ⟨q,r,rfl⟩:=List.exists_cons_of_ne_nil hp
  obtain ⟨y,hy,hr⟩:=qkb ht (x:=x) h hv
  exact ⟨.val u y,hy,qcf u y,by simpa only [AVC] using hr⟩
 induction ht with
 | here t =>
  intro v cs rs Q k h hf hv
  rw [qvs _ _ (qby hf hv)]
  exact ⟨v,by cases v <;> exact h,hf,hv⟩
 | @fst a b p o u ht ih =>
  intro v cs rs Q k h hf hv
  cases v <;> try (exact h.elim)
  ·exact hval (.fst ht) (by simp) h hf hv
  ·simp only [fitsB,Bool.and_eq_true] at hf
   simp only [AVC] at hv
   obtain ⟨c,d,rfl,hc,hd⟩:=hv
   obtain ⟨v',h',hf',hv'⟩:=ih h hf.1 hc
   refine ⟨v',h',hf',?_⟩
   rw [qjc (by rw [qby hf.1 hc];exact ht.inside)]
   exact hv'
 | @snd a b p o u ht ih =>
  intro v cs rs Q k h hf hv
  cases v <;> try (exact h.elim)
  ·exact hval (.snd ht) (by simp) h hf hv
  ·simp only [fitsB,Bool.and_eq_true] at hf
   simp only [AVC] at hv
   obtain ⟨c,d,rfl,hc,hd⟩:=hv
   obtain ⟨v',h',hf',hv'⟩:=ih h hf.2 hd
   refine ⟨v',h',hf',?_⟩
   rw [qim (qby hf.1 hc)]
   exact hv'
 | @idx n i t p o u hi ht ih =>
  intro v cs rs Q k h hf hv
  cases v <;> try (exact h.elim)
  exact hval (.idx hi ht) (by simp) h hf hv
theorem qvt {p:List PS} {t u:Ty} {o:Nat} (ht:TyOff t p o u) {v2:AV} {us:List Value} (hf2:fitsB u v2=true) (hv2:AVC P ι K w S v2 us) : ∀ {v:AV} {cs:List Value} {rs:List Nat} {Q:α→List Nat→Prop} {k:AV→RM α},
  (setAV v p v2 k).wp H rs Q→fitsB t v=true→AVC P ι K w S v cs → ∃ z,(k z).wp H rs Q∧fitsB t z=true∧AVC P ι K w S z (over cs o us):=by
 have hval : ∀ {p:List PS} {t u:Ty} {o:Nat},fitsB u v2=true→TyOff t p o u→p≠[] → ∀ {t' u':Ty} {x:t'.den} {y:u'.den} {cs:List Value} {rs:List Nat} {Q:α→List Nat→Prop} {k:AV→RM α},v2 = .val u' y →
   (setAV (.val t' x) p (.val u' y) k).wp H rs Q→fitsB t (.val t' x)=true→AVC P ι K w S (.val t' x) cs → ∃ z,(k z).wp H rs Q∧fitsB t z=true∧AVC P ι K w S z (over cs o us):=by
  intro p t u o hf2 ht hp t' u' x y cs rs Q k hv h hf hvx
  subst hv
  obtain rfl:=qg2 hf
  obtain rfl:=qg2 hf2
  simp only [AVC] at hvx hv2
  obtain ⟨q,r,rfl⟩:=List.exists_cons_of_ne_nil hp
  have h':(setPath t' x (q :: r) u' y fun z=>k (.val t' z)).wp H rs Q:=by
   cases t' <;> cases q <;> simpa only [setAV] using h
  obtain ⟨z,hz,hr⟩:=qab7 ht hv2 h' hvx
  exact ⟨.val t' z,hz,qcf t' z,by simpa only [AVC] using hr⟩
 induction ht with
 | here t =>
  intro v cs rs Q k h hf hv
  rw [qagu ((qby hf2 hv2).trans (qby hf hv).symm)]
  exact ⟨v2,by cases v <;> cases v2 <;> first | exact h | (simp only [setAV] at h;exact h),hf2,hv2⟩
 | @fst a b p o u ht ih =>
  intro v cs rs Q k h hf hv
  have hin:=ht.inside
  cases v <;> try (cases v2 <;> exact h.elim)
  case val t' x =>
   by_cases hc : ∃ u' y,v2 = .val u' y
   ·obtain ⟨u',y,hvy⟩:=hc
    exact hval hf2 (.fst ht) (by simp) hvy (by rw [← hvy];exact h) hf hv
   ·obtain rfl:=qg2 hf
    simp only [AVC] at hv
    obtain ⟨c,d,rfl,hc',hd⟩:=hv
    have h':(setAV (.val a x.1) p v2 fun z=>k (.pair z (.val b x.2))).wp H rs Q:=by
     cases v2 <;> first | exact absurd ⟨_,_,rfl⟩ hc | simpa only [setAV] using h
    obtain ⟨z,hz,hfz,hvz⟩:=ih hf2 h' (qcf a x.1) (by simpa only [AVC] using hc')
    refine ⟨_,hz,by simp only [fitsB,hfz,qcf b x.2,Bool.and_self],?_⟩
    rw [qxu (by rw [hc'.length,qby hf2 hv2];exact hin)]
    simp only [AVC]
    exact ⟨_,d,rfl,hvz,hd⟩
  case pair v1 w1 =>
   have h':(setAV v1 p v2 fun z=>k (.pair z w1)).wp H rs Q:=by cases v2 <;> simpa only [setAV] using h
   simp only [fitsB,Bool.and_eq_true] at hf
   simp only [AVC] at hv
   obtain ⟨c,d,rfl,hc,hd⟩:=hv
   obtain ⟨z,hz,hfz,hvz⟩:=ih hf2 h' hf.1 hc
   refine ⟨_,hz,by simp only [fitsB,hfz,hf.2,Bool.and_self],?_⟩
   rw [qxu (by rw [qby hf.1 hc,qby hf2 hv2];exact hin)]
   simp only [AVC]
   exact ⟨_,d,rfl,hvz,hd⟩
 | @snd a b p o u ht ih =>
  intro v cs rs Q k h hf hv
  cases v <;> try (cases v2 <;> exact h.elim)
  case val t' x =>
   by_cases hc : ∃ u' y,v2 = .val u' y
   ·obtain ⟨u',y,hvy⟩:=hc
    exact hval hf2 (.snd ht) (by simp) hvy (by rw [← hvy];exact h) hf hv
   ·obtain rfl:=qg2 hf
    simp only [AVC] at hv
    obtain ⟨c,d,rfl,hc',hd⟩:=hv
    have h':(setAV (.val b x.2) p v2 fun z=>k (.pair (.val a x.1) z)).wp H rs Q:=by
     cases v2 <;> first | exact absurd ⟨_,_,rfl⟩ hc | simpa only [setAV] using h
    obtain ⟨z,hz,hfz,hvz⟩:=ih hf2 h' (qcf b x.2) (by simpa only [AVC] using hd)
    refine ⟨_,hz,by simp only [fitsB,hfz,qcf a x.1,Bool.and_self],?_⟩
    rw [qvo hc'.length]
    simp only [AVC]
    exact ⟨c,_,rfl,hc',hvz⟩
  case pair v1 w1 =>
   have h':(setAV w1 p v2 fun z=>k (.pair v1 z)).wp H rs Q:=by cases v2 <;> simpa only [setAV] using h
   simp only [fitsB,Bool.and_eq_true] at hf
   simp only [AVC] at hv
   obtain ⟨c,d,rfl,hc,hd⟩:=hv
   obtain ⟨z,hz,hfz,hvz⟩:=ih hf2 h' hf.2 hd
   refine ⟨_,hz,by simp only [fitsB,hfz,hf.1,Bool.and_self],?_⟩
   rw [qvo (qby hf.1 hc)]
   simp only [AVC]
   exact ⟨c,_,rfl,hc,hvz⟩
 | @idx n i t p o u hi ht ih =>
  intro v cs rs Q k h hf hv
  cases v <;> try (cases v2 <;> exact h.elim)
  case val t' x =>
   by_cases hc : ∃ u' y,v2 = .val u' y
   ·obtain ⟨u',y,hvy⟩:=hc
    exact hval hf2 (.idx hi ht) (by simp) hvy (by rw [← hvy];exact h) hf hv
   ·obtain rfl:=qg2 hf
    exfalso
    cases v2 <;> first | exact absurd ⟨_,_,rfl⟩ hc | (simp only [setAV] at h;exact h)
end
end Go.Tm
namespace Go.Tm
open Go
theorem qdi {P:Program} {ι:Nat→Inf} {K:Nat→Prop} {w:World} {S:Nat→Prop} {i:Inf} {t:Ty} {xs:List t.den} {n room:Nat} (h:BlkR P ι K w S i (.row t xs)) (hk:i.kind = .row t n room) :
  n=xs.length ∧ ∃ cs e vs,w.heap[i.c]? = some (.cells cs e (0,0))∧i.d+room≤cs.size∧xs.length*t.size≤room∧RepList (Rep w S t) xs vs∧vs.length=xs.length*t.size∧(∀ (j:Nat) (v:Value),vs[j]? = some v→cs[i.d+j]? = some v)∧CellsAt w i.c i.d vs:=by
 rcases h with ⟨hn,_⟩ | ⟨room',cs,e,vs,hr,hb,h1,h2,h3,h4⟩
 ·rw [hk] at hn;simp at hn
 ·rw [hk] at hr
  simp only [Kind.row.injEq] at hr
  obtain ⟨_,rfl,rfl⟩:=hr
  exact ⟨rfl,cs,e,vs,hb,h1.1,h2,h3,RepList.length (fun _ _ h=>h.length) h3,h4,.of_cells hb h4⟩
theorem qac9 {P:Program} {ι:Nat→Inf} {K:Nat→Prop} {w:World} {S:Nat→Prop} {i:Inf} {t:Ty} {xs:List t.den} {n room:Nat} {cs:Array Value} {e:TypeId} {fz:Nat×Nat} (h:BlkR P ι K w S i (.row t xs)) (hk:i.kind = .row t n room) (hb:w.heap[i.c]? = some (.cells cs e fz)):RowE P t e:=by
 rcases h with ⟨hn,_⟩ | ⟨room',cs',e',vs,hr,hb',h1,_⟩
 ·rw [hk] at hn;simp at hn
 ·rw [hb] at hb'
  simp only [Option.some.injEq,Obj.cells.injEq] at hb'
  obtain ⟨_,rfl,_⟩:=hb'
  exact h1.2
section
variable {P : Program} {F : Fr} {ι : Nat → Inf} {K : Nat → Prop} {H : Heap} {w : World} {α : Type}
def RegX (F:Fr) (ι:Nat→Inf) (H:Heap) (w:World) (bs:List Nat) (c:Nat):Prop:=Reg F ι H w c ∨ ∃ b∈bs,∃ x,look H b=some x∧(ι b).kind.real=true∧(ι b).c=c
theorem RegX.nil {c:Nat} (h:RegX F ι H w [] c):Reg F ι H w c:=by rcases h with h | ⟨b,hb,_⟩;exact h;simp at hb
theorem RegX.sub {bs cs:List Nat} (h : ∀ b∈bs,b∈cs) {c:Nat} (hx:RegX F ι H w bs c):RegX F ι H w cs c:=by
 rcases hx with h' | ⟨b,hb,r⟩
 ·exact .inl h'
 ·exact .inr ⟨b,h b hb,r⟩
theorem qaes (hI:Inv P F ι K H w) {b:Nat} {t:Ty} {xs:List t.den} (hb:look H b=some (.row t xs)) {n room:Nat} (hk:(ι b).kind = .row t n room) {off len cap:Nat} (hl:off+len≤n) (hc:len≤cap) (bs:List Nat) (hm:b∈bs) :
  Rep w (RegX F ι H w bs) (.list t) ((xs.drop off).take len) [.slice (some ⟨(ι b).c,(ι b).d+off*t.size,none⟩) len cap]:=by
 obtain ⟨rfl,cs,e,vs,hblk,h1,h2,h3,hvl,h4,hat⟩:=qdi (hI.blks b _ hb) hk
 have hlen:((xs.drop off).take len).length=len:=by simp;omega
 refine ⟨some ⟨(ι b).c,(ι b).d+off*t.size,none⟩,cap,by rw [hlen],by rw [hlen];exact hc,?_⟩
 by_cases h0:len=0
 ·left;rw [hlen];exact h0
 ·right
  refine ⟨_,_,(vs.drop (off*t.size)).take (len*t.size),rfl,.inr ⟨b,hm,_,hb,by rw [hk];rfl,rfl⟩,?_,?_⟩
  ·intro j v hj
   rw [List.getElem?_take] at hj
   split at hj
   ·rw [List.getElem?_drop] at hj
    have:=hat _ v hj
    rw [Nat.add_assoc];exact this
   ·simp at hj
  ·exact RepList.mono (fun _ _ h=>h.mono (fun c hc=>⟨.inl hc,rfl⟩)) (RepList.take (fun _ _ h=>h.length) len (RepList.drop (fun _ _ h=>h.length) off h3))
theorem qhz {i:Inf} {S:Nat→Prop} {t:Ty} {v:AV} (h:BlkR P ι K w S i (.box t v)):i.kind = .box t∧i.d=0 ∧ ∃ cs e,w.heap[i.c]? = some (.cells cs e (0,0))∧AVC P ι K w S v cs.toList∧cs.toList.length=t.size∧CellsAt w i.c 0 cs.toList∧fitsB t v=true:=by
 obtain ⟨hk,hd,cs,e,hb,hv,hl,h1,hf⟩:=h
 exact ⟨hk,hd,cs,e,hb,hv,hl,.of_cells hb (fun j v hj=>by simpa using hj),hf⟩
theorem CellsAt.seg {c o:Nat} {vs:List Value} (h:CellsAt w c o vs) (p n:Nat):CellsAt w c (o+p) (Tm.seg vs p n):=by
 intro j v hj
 unfold Tm.seg at hj
 rw [List.getElem?_take] at hj
 split at hj
 ·rw [List.getElem?_drop] at hj
  have:=h _ v hj
  rw [Nat.add_assoc];exact this
 ·simp at hj
theorem qaj0 {b:Nat} {x:Blk} (hb:look H b=some x) (hr:(ι b).kind.real=true) {bs:List Nat} (hm:b∈bs) {n:Nat} {t:Ty} {ys:Vec n t.den} {ws:List Value} {o:Nat} (hy:Rep w (Reg F ι H w) (.arr n t) ys ws) (hat:CellsAt w (ι b).c o ws)
  {off len cap:Nat} (hl:off+len≤n) (hc:len≤cap):Rep w (RegX F ι H w bs) (.list t) (((Vec.toList n ys).drop off).take len) [.slice (some ⟨(ι b).c,o+off*t.size,none⟩) len cap]:=by
 have hlist:RepList (Rep w (Reg F ι H w) t) (Vec.toList n ys) ws:=RepVec.toList hy
 have hn:(Vec.toList n ys).length=n:=by
  have : ∀ {β:Type} (n:Nat) (z:Vec n β),(Vec.toList n z).length=n:=by
   intro β n
   induction n with
   | zero=>intro z;rfl
   | succ n ih=>intro z;simp [Vec.toList,ih]
  exact this n ys
 have hlen:(((Vec.toList n ys).drop off).take len).length=len:=by simp [hn];omega
 refine ⟨some ⟨(ι b).c,o+off*t.size,none⟩,cap,by rw [hlen],by rw [hlen];exact hc,?_⟩
 by_cases h0:len=0
 ·left;rw [hlen];exact h0
 ·right
  refine ⟨_,_,Tm.seg ws (off*t.size) (len*t.size),rfl,.inr ⟨b,hm,_,hb,hr,rfl⟩,hat.seg _ _,?_⟩
  exact RepList.mono (fun _ _ h=>h.mono (fun c hc=>⟨.inl hc,rfl⟩)) (RepList.take (fun _ _ h=>h.length) len (RepList.drop (fun _ _ h=>h.length) off hlist))
theorem qamc {n:Nat} {t:Ty} {v:AV} (hf:fitsB (.arr n t) v=true) : ∃ y:(Ty.arr n t).den,v = .val (.arr n t) y:=by
 cases v <;> simp [fitsB] at hf
 rename_i u x
 obtain rfl:=qbe hf
 exact ⟨x,rfl⟩
theorem qyf (hI:Inv P F ι K H w) {t u:Ty} {b:Nat} {p:List PS} {off len n o:Nat} {rs:List Nat} {Q:α→List Nat→Prop} {k:(Ty.list t).den→List Nat→RM α}
  (h:(castR (.list t) (.view b p u off len) k).wp H rs Q) (hko:KOff (ι b).kind p o (.arr n u)) :
  ∃ (y:Vec n t.den) (ws:List Value) (x:Blk),u=t∧(k (((Vec.toList n y).drop off).take len) [b]).wp H (b :: rs) Q∧look H b=some x∧(ι b).kind.real=true∧Rep w (Reg F ι H w) (.arr n t) y ws∧CellsAt w (ι b).c ((ι b).d+o) ws:=by
 simp only [castR,RM.wp] at h
 obtain ⟨x,hx,h⟩:=h
 have hblk:=hI.blks b _ hx
 have hreal:(ι b).kind.real=true:=by
  cases hko':(ι b).kind <;> rw [hko'] at hko <;> first | rfl | (cases hko)
 cases x with
 | box t' v =>
  obtain ⟨hk',hd,cells,e,hb,hvv,hlen,hat,hf⟩:=qhz hblk
  rw [hk'] at hko
  cases hko with
  | box hto =>
  simp only at h
  obtain ⟨v',h',hf',hv'⟩:=qls hto h hf hvv
  obtain ⟨y,rfl⟩:=qamc hf'
  simp only at h'
  split at h'
  ·rename_i q hq;obtain rfl:=q
   simp only [AVC] at hv'
   refine ⟨y,_,_,rfl,h',hx,hreal,hv',?_⟩
   have:=hat.seg o (Ty.arr n u).size
   rw [hd];simpa using this
  ·exact h'.elim
 | row u' xs =>
  rcases hblk with ⟨hk',_⟩ | hblk
  ·rw [hk'] at hreal;simp [Kind.real] at hreal
  ·obtain ⟨room',_,_,_,hk',_⟩:=id hblk
   rw [hk'] at hko
   cases hko with
   | @row _ _ _ i p' o' _ hi hto =>
   obtain ⟨_,cells,e,vs,hb,h1,h2,h3,hvl,h4,hat⟩:=qdi (hI.blks b _ hx) hk'
   simp only [getPath] at h
   have hg:=RepList.getD (R:=Rep w (Reg F ι H w) u') (fun _ _ h=>h.length) u'.zero h3 hi
   obtain ⟨y,h',hy⟩:=qkb hto h hg
   simp only at h'
   split at h'
   ·rename_i q hq;obtain rfl:=q
    have hs:=hto.inside
    rw [qui hs] at hy
    exact ⟨y,_,_,rfl,h',hx,hreal,hy,hat.seg _ _⟩
   ·exact h'.elim
theorem qafw (hI:Inv P F ι K H w) {t u:Ty} {b:Nat} {p:List PS} {off len:Nat} {cs:List Value} {rs:List Nat} {Q:α→List Nat→Prop} {k:(Ty.list t).den→List Nat→RM α}
  (h:(castR (.list t) (.view b p u off len) k).wp H rs Q) (hv:AVC P ι K w (Reg F ι H w) (.view b p u off len) cs) :
  ∃ x bs rs',(k x bs).wp H rs' Q∧Rep w (RegX F ι H w bs) (.list t) x cs∧(∀ b∈bs,∃ y,look H b=some y)∧cs.length=(Ty.list t).size:=by
 have hrow:p=[]→(∃ t',(∃ n room,(ι b).kind = .row t' n room)∨(ι b).kind = .nilrow t') → ∃ u' xs,look H b=some (.row u' xs)∧((h:u'=t)→(k ((List.drop off (h▸xs)).take len) [b]).wp H (b :: rs) Q)∧u'=t:=by
  rintro rfl hkk
  simp only [castR,RM.wp] at h
  obtain ⟨x,hx,h⟩:=h
  cases x with
  | row u' xs =>
   simp only [getPath] at h
   split at h
   ·rename_i q hq;obtain rfl:=q
    exact ⟨u',xs,hx,fun _=>h,rfl⟩
   ·exact h.elim
  | box t' v =>
   obtain ⟨hk',_⟩:=qhz (hI.blks b _ hx)
   obtain ⟨t'',⟨n,room,hk⟩ | hk⟩:=hkk <;> (rw [hk] at hk';simp at hk')
 simp only [AVC] at hv
 obtain ⟨hK,hv⟩:=hv
 rcases hv with ⟨rfl,⟨a,rfl⟩,hvalid⟩ | ⟨n,room,cap,rfl,hk,rfl,hlc,hln,hroom⟩ | ⟨o,n,cap,hko,rfl,hlc,hln,hcn⟩
 ·
  have fin : ∀ (bs:List Nat) (y:List t.den),y.length=0→Rep w (RegX F ι H w bs) (.list t) y [.slice a 0 0]:=fun bs y hy=>⟨a,0,by rw [hy],by omega,.inl hy⟩
  have hcase:p=[]∧(∃ t',(∃ n room,(ι b).kind = .row t' n room)∨(ι b).kind = .nilrow t') ∨ ∃ o n,KOff (ι b).kind p o (.arr n u):=by
   rcases hvalid with ⟨hp,n,room,hk,_⟩ | ⟨hp,hk⟩ | ⟨o,n,hko,_⟩
   ·exact .inl ⟨hp,_,.inl ⟨n,room,hk⟩⟩
   ·exact .inl ⟨hp,_,.inr hk⟩
   ·exact .inr ⟨o,n,hko⟩
  rcases hcase with ⟨hp,hkk⟩ | ⟨o,n,hko⟩
  ·obtain ⟨u',xs,hx,hk,rfl⟩:=hrow hp hkk
   exact ⟨_,[b],_,hk rfl,fin _ _ (by simp),by simpa using ⟨_,hx⟩,rfl⟩
  ·obtain ⟨y,ws,x,rfl,hk,hx,_⟩:=qyf hI h hko
   exact ⟨_,[b],_,hk,fin _ _ (by simp),by simpa using ⟨_,hx⟩,rfl⟩
 ·obtain ⟨u',xs,hx,hkk,rfl⟩:=hrow rfl ⟨_,.inl ⟨n,room,hk⟩⟩
  have hblk:=hI.blks b _ hx
  rcases hblk with ⟨hk',_⟩ | ⟨room',_,_,_,hk',_⟩
  ·rw [hk] at hk';simp at hk'
  ·have hk2:=hk
   rw [hk'] at hk2
   simp only [Kind.row.injEq] at hk2
   obtain ⟨rfl,hlen,rfl⟩:=hk2
   exact ⟨_,[b],_,hkk rfl,qaes hI hx hk hln hlc [b] (by simp),by simpa using ⟨_,hx⟩,rfl⟩
 ·obtain ⟨y,ws,x,rfl,hk,hx,hreal,hy,hat⟩:=qyf hI h hko
  refine ⟨_,[b],_,hk,?_,by simpa using ⟨_,hx⟩,rfl⟩
  have:=qaj0 hx hreal (bs:=[b]) (by simp) hy hat hln hlc (cap:=cap)
  simpa [Nat.add_assoc] using this
theorem qh5 (hI:Inv P F ι K H w) : ∀ {t:Ty} {v:AV} {cs:List Value} {rs:List Nat} {Q:α→List Nat→Prop} {k:t.den→List Nat→RM α},
  (castR t v k).wp H rs Q→AVC P ι K w (Reg F ι H w) v cs → ∃ x bs rs',(k x bs).wp H rs' Q∧Rep w (RegX F ι H w bs) t x cs∧(∀ b∈bs,∃ y,look H b=some y)∧cs.length=t.size:=by
 intro t v
 have hval : ∀ (t u:Ty) (x:u.den) {cs:List Value} {rs:List Nat} {Q:α→List Nat→Prop} {k:t.den→List Nat→RM α},(castR t (.val u x) k).wp H rs Q→AVC P ι K w (Reg F ι H w) (.val u x) cs →
   ∃ y bs rs',(k y bs).wp H rs' Q∧Rep w (RegX F ι H w bs) t y cs∧(∀ b∈bs,∃ z,look H b=some z)∧cs.length=t.size:=by
  intro t u x cs rs Q k h hv
  simp only [AVC] at hv
  cases he:u.eq? t with
  | none=>cases t <;> (simp only [castR,he] at h;exact h.elim)
  | some p =>
   obtain ⟨rfl⟩:=p
   refine ⟨x,[],rs,by cases u <;> (simp only [castR,he] at h;exact h),hv.mono (fun c hc=>⟨.inl hc,rfl⟩),by simp,hv.length⟩
 have hrows : ∀ (t:Ty) (b:Nat) (u:Ty) {cs:List Value} {rs:List Nat} {Q:α→List Nat→Prop} {k:(Ty.list t).den→List Nat→RM α},(castR (.list t) (.rows b u) k).wp H rs Q→AVC P ι K w (Reg F ι H w) (.rows b u) cs →
   ∃ y bs rs',(k y bs).wp H rs' Q∧Rep w (RegX F ι H w bs) (.list t) y cs∧(∀ b∈bs,∃ z,look H b=some z)∧cs.length=(Ty.list t).size:=by
  intro t b u cs rs Q k h hv
  simp only [castR,RM.wp] at h
  obtain ⟨x,hx,h⟩:=h
  cases x with
  | box _ _=>exact h.elim
  | row u' xs =>
   simp only at h
   split at h
   ·rename_i p hp
    obtain rfl:=p
    refine ⟨xs,[b],_,h,?_,by simpa using ⟨_,hx⟩,?_⟩
    all_goals
     simp only [AVC] at hv
     obtain ⟨hK,hv⟩:=hv
     have hblk:=hI.blks b _ hx
     rcases hv with ⟨hk,a,rfl⟩ | ⟨n,room,cap,hk,rfl,hn,hr⟩
    ·rcases hblk with ⟨_,h0⟩ | ⟨room,_,_,_,hk',_⟩
     ·have:xs=[]:=List.eq_nil_of_length_eq_zero h0
      subst this
      exact ⟨a,0,rfl,Nat.le_refl _,.inl rfl⟩
     ·rw [hk] at hk';simp at hk'
    ·rcases hblk with ⟨hk',_⟩ | ⟨room',_,_,_,hk',_⟩
     ·rw [hk] at hk';simp at hk'
     ·have hk2:=hk
      rw [hk'] at hk2
      simp only [Kind.row.injEq] at hk2
      obtain ⟨rfl,hlen,rfl⟩:=hk2
      have:=qaes hI hx hk (off:=0) (len:=n) (cap:=cap) (by omega) hn [b] (by simp)
      simpa [← hlen] using this
    ·rfl
    ·rfl
   ·exact h.elim
 induction t generalizing v with
 | int q=>intro cs rs Q k h hv;cases v <;> first | exact hval _ _ _ h hv | exact h.elim
 | flt q=>intro cs rs Q k h hv;cases v <;> first | exact hval _ _ _ h hv | exact h.elim
 | bool=>intro cs rs Q k h hv;cases v <;> first | exact hval _ _ _ h hv | exact h.elim
 | str=>intro cs rs Q k h hv;cases v <;> first | exact hval _ _ _ h hv | exact h.elim
 | err=>intro cs rs Q k h hv;cases v <;> first | exact hval _ _ _ h hv | exact h.elim
 | ref=>intro cs rs Q k h hv;cases v <;> first | exact hval _ _ _ h hv | exact h.elim
 | arr n t ih=>intro cs rs Q k h hv;cases v <;> first | exact hval _ _ _ h hv | exact h.elim
 | unit =>
  intro cs rs Q k h hv
  cases v <;> first | exact hval _ _ _ h hv | exact h.elim | skip
  simp only [AVC] at hv
  exact ⟨(),[],rs,h,hv,by simp,by simp [hv,Ty.size]⟩
 | pair a b iha ihb =>
  intro cs rs Q k h hv
  cases v <;> first | exact hval _ _ _ h hv | exact h.elim | skip
  simp only [AVC] at hv
  obtain ⟨c,d,rfl,hc,hd⟩:=hv
  obtain ⟨x,bs,rs1,h1,hx,hb1,hl1⟩:=iha (by simpa only [castR] using h) hc
  obtain ⟨y,bs',rs2,h2,hy,hb2,hl2⟩:=ihb h1 hd
  refine ⟨(x,y),bs++bs',rs2,h2,⟨c,d,rfl,hx.mono (fun c hc=>⟨hc.sub (by simp +contextual),rfl⟩),hy.mono (fun c hc=>⟨hc.sub (by simp +contextual),rfl⟩)⟩,?_,by simp [hl1,hl2,Ty.size]⟩
  intro z hz
  rcases List.mem_append.1 hz with hz | hz
  ·exact hb1 z hz
  ·exact hb2 z hz
 | list t ih =>
  intro cs rs Q k h hv
  cases v <;> first | exact hval _ _ _ h hv | exact hrows _ _ _ h hv | exact h.elim | skip
  ·simp only [AVC] at hv
   subst hv
   exact ⟨[],[],rs,h,⟨none,0,rfl,Nat.le_refl _,.inl rfl⟩,by simp,rfl⟩
  ·rename_i b p u off len
   exact qafw hI h hv
theorem qfd (hI:Inv P F ι K H w) {t u:Ty} {b:Nat} {p:List PS} {off len:Nat} {rs:List Nat} {Q:α→List Nat→Prop} {k:(Ty.list t).den→List Nat→RM α}
  (h:(castR (.list t) (.view b p u off len) k).wp H rs Q) {a:Addr}
  (hv:(a=⟨(ι b).c,(ι b).d+off*u.size,none⟩∧p=[] ∧ ∃ m room,(ι b).kind = .row u m room∧off+len≤m) ∨ ∃ o m,KOff (ι b).kind p o (.arr m u)∧off+len≤m∧a=⟨(ι b).c,(ι b).d+(o+off*u.size),none⟩) :
  ∃ (xs:List t.den) (vs:List Value),u=t∧(k xs [b]).wp H (b :: rs) Q∧xs.length=len∧RepList (Rep w (Reg F ι H w) t) xs vs∧CellsAt w a.block a.off vs∧a=⟨(ι b).c,a.off,none⟩∧(∃ x,look H b=some x)∧(ι b).kind.real=true:=by
 rcases hv with ⟨rfl,rfl,m,room,hk,hm⟩ | ⟨o,m,hko,hm,rfl⟩
 ·simp only [castR,RM.wp] at h
  obtain ⟨x,hx,h⟩:=h
  cases x with
  | box t' v =>
   obtain ⟨hk',_⟩:=qhz (hI.blks b _ hx)
   rw [hk] at hk';simp at hk'
  | row u' xs =>
   rcases hI.blks b _ hx with ⟨hk',_⟩ | ⟨room',_,_,_,hk',_⟩
   ·rw [hk] at hk';simp at hk'
   ·have hk2:=hk'
    rw [hk] at hk2
    simp only [Kind.row.injEq] at hk2
    obtain ⟨rfl,hml,rfl⟩:=hk2
    obtain ⟨_,cs,e,vs,hblk,h1,h2,h3,hvl,h4,hat⟩:=qdi (hI.blks b _ hx) hk'
    simp only [getPath] at h
    split at h
    ·rename_i q hq;obtain rfl:=q
     refine ⟨_,Tm.seg vs (off*u.size) (len*u.size),rfl,h,by simp;omega,?_,hat.seg _ _,rfl,⟨_,hx⟩,by rw [hk];rfl⟩
     exact RepList.take (fun _ _ h=>h.length) len (RepList.drop (fun _ _ h=>h.length) off h3)
    ·exact h.elim
 ·obtain ⟨y,ws,x,rfl,hk,hx,hreal,hy,hat⟩:=qyf hI h hko
  have hn:(Vec.toList m y).length=m:=by
   have : ∀ {β:Type} (n:Nat) (z:Vec n β),(Vec.toList n z).length=n:=by
    intro β n
    induction n with
    | zero=>intro z;rfl
    | succ n ih=>intro z;simp [Vec.toList,ih]
   exact this m y
  refine ⟨_,Tm.seg ws (off*u.size) (len*u.size),rfl,hk,by simp [hn];omega,?_,by have:=hat.seg (off*u.size) (len*u.size);simpa [Nat.add_assoc] using this,rfl,⟨_,hx⟩,hreal⟩
  exact RepList.take (fun _ _ h=>h.length) len (RepList.drop (fun _ _ h=>h.length) off (RepVec.toList hy))
theorem qlp (hI:Inv P F ι K H w) {t:Ty} {v:AV} {cs:List Value} {rs:List Nat} {Q:α→List Nat→Prop} {k:(Ty.list t).den→List Nat→RM α}
  (h:(castR (.list t) v k).wp H rs Q) (hv:AVC P ι K w (Reg F ι H w) v cs) :
  ∃ (xs:List t.den) (bs:List Nat) (rs':List Nat),(k xs bs).wp H rs' Q∧(∀ b∈bs,∃ z,look H b=some z) ∧
   ∃ a cap,cs=[.slice a xs.length cap]∧xs.length≤cap∧(xs.length=0 ∨ ∃ c o vs,a=some ⟨c,o,none⟩∧RegX F ι H w bs c∧CellsAt w c o vs∧RepList (Rep w (Reg F ι H w) t) xs vs):=by
 cases v with
 | val u x =>
  simp only [AVC] at hv
  cases he:u.eq? (.list t) with
  | none=>simp only [castR,he] at h;exact h.elim
  | some p =>
   obtain ⟨rfl⟩:=p
   simp only [castR,he] at h
   obtain ⟨a,cap,rfl,hc,hx⟩:=hv
   exact ⟨x,[],rs,h,by simp,a,cap,rfl,hc,hx.imp id fun ⟨c,o,vs,ha,hr,hat,hl⟩=>⟨c,o,vs,ha,.inl hr,hat,hl⟩⟩
 | nilS =>
  simp only [AVC] at hv
  exact ⟨[],[],rs,h,by simp,none,0,hv,Nat.le_refl _,.inl rfl⟩
 | rows b u =>
  simp only [castR,RM.wp] at h
  obtain ⟨x,hx,h⟩:=h
  cases x with
  | box _ _=>exact h.elim
  | row u' xs =>
   simp only at h
   split at h
   ·rename_i p hp
    obtain rfl:=p
    refine ⟨xs,[b],_,h,by simpa using ⟨_,hx⟩,?_⟩
    simp only [AVC] at hv
    obtain ⟨hK,hv⟩:=hv
    have hblk:=hI.blks b _ hx
    rcases hv with ⟨hk,a,rfl⟩ | ⟨n,room,cap,hk,rfl,hn,hr⟩
    ·rcases hblk with ⟨_,h0⟩ | ⟨room,_,_,_,hk',_⟩
     ·exact ⟨a,0,by rw [h0],by omega,.inl h0⟩
     ·rw [hk] at hk';simp at hk'
    ·rcases hblk with ⟨hk',_⟩ | ⟨room',_,_,_,hk',_⟩
     ·rw [hk] at hk';simp at hk'
     ·have hk2:=hk
      rw [hk'] at hk2
      simp only [Kind.row.injEq] at hk2
      obtain ⟨rfl,hlen,rfl⟩:=hk2
      obtain ⟨_,cs,e,vs,hblk,h1,h2,h3,hvl,h4,hat⟩:=qdi (hI.blks b _ hx) hk'
      exact ⟨_,cap,by rw [hlen],by rw [hlen];exact hn,.inr ⟨_,_,vs,rfl,.inr ⟨b,by simp,_,hx,by rw [hk];rfl,rfl⟩,hat,h3⟩⟩
   ·exact h.elim
 | view b p u off len =>
  have h0:=h
  obtain ⟨x,bs,rs',hk,hr,hl,_⟩:=qafw hI h hv
  simp only [AVC] at hv
  obtain ⟨hK,hv⟩:=hv
  rcases hv with ⟨rfl,⟨a,rfl⟩,hvalid⟩ | ⟨n,room,cap,rfl,hkk,rfl,hlc,hln,hroom⟩ | ⟨o,n,cap,hko,rfl,hlc,hln,hcn⟩
  ·obtain ⟨a',cap,e,hc,_⟩:=hr
   simp only [List.cons.injEq,Value.slice.injEq,and_true] at e
   obtain ⟨rfl,e,rfl⟩:=e
   exact ⟨x,bs,rs',hk,hl,a,0,by rw [← e],by omega,.inl e.symm⟩
  ·obtain ⟨xs,vs,rfl,hq,hxl,hrep,hat,_,hlk,hreal⟩:=qfd hI h0 (.inl ⟨rfl,rfl,n,room,hkk,hln⟩)
   exact ⟨xs,[b],_,hq,by simpa using hlk,_,cap,by rw [hxl],by rw [hxl];exact hlc,.inr ⟨_,_,vs,rfl,.inr ⟨b,by simp,_,hlk.choose_spec,hreal,rfl⟩,hat,hrep⟩⟩
  ·obtain ⟨xs,vs,rfl,hq,hxl,hrep,hat,_,hlk,hreal⟩:=qfd hI h0 (.inr ⟨o,n,hko,hln,rfl⟩)
   exact ⟨xs,[b],_,hq,by simpa using hlk,_,cap,by rw [hxl],by rw [hxl];exact hlc,.inr ⟨_,_,vs,rfl,.inr ⟨b,by simp,_,hlk.choose_spec,hreal,rfl⟩,hat,hrep⟩⟩
 | _=>exact h.elim
theorem qsy (hI:Inv P F ι K H w) {ks bs:List Nat} (hb : ∀ b∈bs,b∈ks) {c:Nat} (h:RegX F ι H w bs c):Reg F ι (kills ks++H) w c:=by
 rcases h with h | ⟨b,hbs,x,hx,hr,rfl⟩
 ·exact ((hI.kill ks).2.reg c h).1
 ·refine ⟨?_,hI.exists hx hr,?_⟩
  ·rcases hI.mine b x hx hr with h | h
   ·exact .inr (.inl h)
   ·exact .inr (.inr h)
  ·rintro ⟨b',x',hb',hr',e⟩
   have hx':look H b'=some x':=by rw [qa8] at hb';split at hb' <;> simp_all
   have:=hI.inj b' b x' x hx' hx hr' hr e
   subst this
   rw [qa8,if_pos (hb _ hbs)] at hb'
   simp at hb'
end
end Go.Tm
namespace Go.Tm
open Go
theorem qj6 : ∀ t:Ty,(zc t).length=t.size:=fun t=>(qj0 (w:=default) (S:=fun _=>False) t).length
theorem qacx : ∀ t:Ty,∀ v∈zc t,v.oneCell'=true:=fun t=>(qj0 (w:=default) (S:=fun _=>False) t).one
section
variable {P : Program} {F : Fr} {ι : Nat → Inf} {K : Nat → Prop} {H : Heap} {w : World} {base : Nat} {Ψ : AV × Heap → List Nat → Prop}
theorem qzp {S:Nat→Prop} : ∀ t:Ty,AVC P ι K w S (zeroAV t) (zc t)∧fitsB t (zeroAV t)=true:=by
 intro t
 induction t with
 | list t _=>exact ⟨by simp [zeroAV,AVC,zc],rfl⟩
 | pair a b iha ihb =>
  simp only [zeroAV]
  cases hb:(Ty.pair a b).bears with
  | true =>
   simp only [cond_true]
   exact ⟨by simp only [AVC];exact ⟨_,_,rfl,iha.1,ihb.1⟩,by simp [fitsB,iha.2,ihb.2]⟩
  | false =>
   simp only [cond_false]
   exact ⟨by simp only [AVC];exact qj0 _,qcf _ _⟩
 | _=>exact ⟨by simp only [zeroAV,AVC];exact qj0 _,qcf _ _⟩
theorem qt2 {S:Nat→Prop} : ∀ {t:Ty} {v:AV} {cs:List Value},fitsB t v=true→AVC P ι K w S v cs → ∀ x∈cs,x.oneCell'=true:=by
 intro t v
 induction v using AV.rec (motive_2:=fun _=>True) generalizing t with
 | val u x=>intro cs hf h;simp only [AVC] at h;exact h.one
 | nilS=>intro cs hf h;simp only [AVC] at h;simp [h,Value.oneCell']
 | rows b u=>intro cs hf h;simp only [AVC] at h;rcases h with ⟨_,⟨_,_,rfl⟩ | ⟨_,_,_,_,rfl,_⟩⟩ <;> simp [Value.oneCell']
 | view b p u off len =>
  intro cs hf h;simp only [AVC] at h
  rcases h with ⟨_,⟨_,⟨_,rfl⟩,_⟩ | ⟨_,_,_,_,_,rfl,_⟩ | ⟨_,_,_,_,rfl,_⟩⟩ <;> simp [Value.oneCell']
 | unit=>intro cs hf h;simp only [AVC] at h;simp [h]
 | pair a b iha ihb =>
  intro cs hf h;simp only [AVC] at h;cases t <;> simp [fitsB] at hf
  obtain ⟨c,d,rfl,hc,hd⟩:=h
  intro x hx
  rcases List.mem_append.1 hx with hx | hx
  ·exact iha hf.1 hc x hx
  ·exact ihb hf.2 hd x hx
 | ptr b p u=>intro cs hf h;simp only [AVC] at h;obtain ⟨_,_,_,rfl⟩:=h;simp [Value.oneCell']
 | iptr u x=>intro cs hf h;simp only [AVC] at h;obtain ⟨_,_,_,rfl,_⟩:=h;simp [Value.oneCell']
 | fn f a b _ _=>intro cs hf h;simp only [AVC] at h;obtain ⟨_,_,rfl,_⟩:=h;simp [Value.oneCell']
 | «fun» s g=>intro cs hf h;simp only [AVC] at h;obtain ⟨_,rfl,_,_,_,_,rfl,_⟩:=h;simp [Value.oneCell']
 | undef=>intro cs hf h;cases t <;> simp [fitsB] at hf
 | aptr b p u off n=>intro cs hf h;cases t <;> simp [fitsB] at hf
 | tuple vs _=>intro cs hf h;cases t <;> simp [fitsB] at hf
 | nil=>trivial
 | cons _ _ _ _=>trivial
theorem qfn {t:Ty} {v:AV} (h:fitsB t v=true):v.agg=t.isAgg:=by
 cases v <;> cases t <;> simp [fitsB] at h <;> first | rfl | (simp only [AV.agg];first | rfl | (rw [qbe h]) | skip)
theorem Fin.new (h:Now P F ι K H w base) (ks:List Nat) (o:Obj) (k:Kind) (x:Blk) (d:Nat) {v:AV} {rs:List Nat} {y:Value} (hΨ:Ψ (v,(base,some x) :: kills ks) rs)
  (hx : ∀ S:Nat→Prop,(∀ c,Reg F ι (kills ks++H) w c→S c)→BlkR P (upd ι base ⟨w.heap.size,d,k⟩) (fun c=>K c∨c=base) { w with heap:=w.heap.push o } S ⟨w.heap.size,d,k⟩ x)
  (hv : ∀ S:Nat→Prop,AVR P (upd ι base ⟨w.heap.size,d,k⟩) (fun c=>K c∨c=base) { w with heap:=w.heap.push o } S v y) :
  Fin P F ι K H w base Ψ y { w with heap:=w.heap.push o }:=by
 obtain ⟨h1,s1⟩:=h.inv.kill ks
 have hb:¬ K base:=h.fresh base (Nat.le_refl _) (by unfold wide;omega)
 obtain ⟨h2,s2⟩:=h1.fresh hb o k x d hx
 exact ⟨v,(base,some x) :: kills ks,rs,_,_,hΨ,h2,s1.trans s2,hv _,fun b hb=>hb.imp id fun e=>⟨by omega,by unfold wide;omega⟩⟩
theorem qait {S:Nat→Prop} {u:Ty} {w':World} : AVR P (upd ι base ⟨w.heap.size,0,.box u⟩) (fun c=>K c∨c=base) w' S (.ptr base [] u) (.pointer (some ⟨w.heap.size,0,none⟩)):=by
 refine ⟨_,?_,rfl⟩
 unfold AVC
 exact ⟨.inr rfl,0,by simp only [upd,if_true];exact .box (.here u),by simp [upd]⟩
theorem qalg {K:Nat→Prop} {b:Nat} {i:Inf} (hb:¬ K b) : ∀ c,K c→(K c∨c=b)∧upd ι b i c=ι c:=fun c hc=>⟨.inl hc,by have:c≠b:=fun e=>hb (by rw [← e];exact hc);simp [upd,this]⟩
theorem qam0 {ks:List Nat} {S:Nat→Prop} {o:Obj} (hS : ∀ c,Reg F ι (kills ks++H) w c→S c) (h:Inv P F ι K H w) : ∀ c,Reg F ι H w c→S c∧({ w with heap:=w.heap.push o } : World).heap[c]? = w.heap[c]?:=by
 intro c hc
 refine ⟨hS c ((h.kill ks).2.reg c hc).1,?_⟩
 show (w.heap.push o)[c]? = _
 rw [Array.getElem?_push,if_neg (by have:=hc.2.1;omega)]
theorem qalo (c:Nat) (e:TypeId) (u:Ty) (hT:u.refT≠0→e=u.refT):SelfC c e u (refFst (zeroAV u)) (zc u):=by
 refine ⟨qacx u,fun h => .inl ?_,hT⟩
 cases u with
 | pair a b =>
  cases a with
  | ref=>rfl
  | pair a1 a2 =>
   exfalso
   simp only [zeroAV] at h
   cases h1:(Ty.pair (Ty.pair a1 a2) b).bears <;> cases h2:(Ty.pair a1 a2).bears <;> rw [h1] at h <;> rw [h2] at h <;> simp [refFst] at h
  | _ =>
   exfalso
   simp only [zeroAV] at h
   cases h1:(Ty.bears (Ty.pair _ b)) <;> rw [h1] at h <;> simp [refFst] at h
 | _=>simp [zeroAV,refFst] at h
theorem Fin.newBox (h:Now P F ι K H w base) {u:Ty} {v:AV} {cs:List Value} {e:TypeId} {rs:List Nat} {z:Value} (hz:z.cells.toList=cs) (hv:AVC P ι K w (Reg F ι H w) v cs) (hf:fitsB u v=true) (hself:SelfC w.heap.size e u (refFst v) cs)
  (hΨ:Ψ (.ptr base [] u,[(base,some (.box u v))]) rs):Fin P F ι K H w base Ψ (.pointer (some ⟨w.heap.size,0,none⟩)) { w with heap:=w.heap.push (.cells z.cells e) }:=by
 have hb:¬ K base:=h.fresh base (Nat.le_refl _) (by unfold wide;omega)
 refine Fin.new h [] _ (.box u) (.box u v) 0 hΨ ?_ (fun S=>qait)
 intro S hS
 have hsz:({ w with heap:=w.heap.push (.cells z.cells e) } : World).heap[w.heap.size]? = some (.cells z.cells e):=by simp
 refine ⟨rfl,rfl,z.cells,e,hsz,?_,by rw [hz];exact qby hf hv,by rw [hz];exact hself,hf⟩
 rw [hz]
 exact hv.mono (qalg hb) (qam0 (ks:=[]) hS h.inv) (by simp)
end
section
variable {E : Env} {F : Fr} {ι : Nat → Inf} {K : Nat → Prop} {H : Heap} {w : World} {base : Nat} {Ψ : AV × Heap → List Nat → Prop} {l : Tmps} {ρ : Operand → Value} {o : Oper}
theorem qamp (hE:EnvOK E) (h:Now E.P F ι K H w base) {t:TypeId} (ho:o.op = .alloc t) (hwp:(exec E (.alloc t) (rd l) base).wp H [] Ψ) :
  Comes' E.P (Fin E.P F ι K H w base Ψ) ((execOp ρ o).run E.P w):=by
 obtain ⟨dst,op,ty,pos,af,g⟩:=o
 subst ho
 simp only [exec] at hwp
 split at hwp
 ·rename_i u hu
  have hok:=hE.tys t u hu
  obtain ⟨z,hz,hv⟩:=qaab hok w
  have hrun:(execOp ρ { dst:=dst,op:=.alloc t,type:=ty,pos:=pos,after:=af,guard:=g }).run E.P w = .ok (.value (.pointer (some ⟨w.heap.size,0,none⟩))) { w with heap:=w.heap.push (.cells z.cells t) }:=by
   simp only [execOp,Instr.alloc,Sem.run_bind,hz,Result.andThen_ok,newVar,newRow,run_newObj,Sem.run_pure]
  rw [hrun]
  cases hT:(Nat.beq u.refT 0||Nat.beq u.refT t) with
  | false=>rw [hT] at hwp;exact hwp.elim
  | true =>
  rw [hT] at hwp
  refine Fin.newBox h (hv.cells (qacx u)) (qzp (P:=E.P) (ι:=ι) (K:=K) (w:=w) (S:=Reg F ι H w) u).1 (qzp (P:=E.P) (ι:=ι) (K:=K) (w:=w) (S:=Reg F ι H w) u).2 (qalo _ _ u fun hne => ?_) hwp
  rcases Bool.or_eq_true_iff.1 hT with h1 | h1
  ·exact absurd (Nat.eq_of_beq_eq_true h1) hne
  ·exact (Nat.eq_of_beq_eq_true h1).symm
 ·exact hwp.elim
theorem qapb (hE:EnvOK E) (h:Now E.P F ι K H w base) (hs : ∀ x,AVR E.P ι K w (Reg F ι H w) (rd l x) (ρ x)) {t:TypeId} {x:Operand} (ho:o.op = .box t x) (hwp:(exec E (.box t x) (rd l) base).wp H [] Ψ) :
  Comes' E.P (Fin E.P F ι K H w base Ψ) ((execOp ρ o).run E.P w):=by
 obtain ⟨dst,op,ty,pos,af,g⟩:=o
 subst ho
 simp only [exec] at hwp
 split at hwp
 ·rename_i u hu
  cases hf:fitsB u (rd l x) with
  | false=>rw [hf] at hwp;exact hwp.elim
  | true =>
   rw [hf] at hwp
   obtain ⟨cs,hc,hv⟩:=hs x
   have hrun:(execOp ρ { dst:=dst,op:=.box t x,type:=ty,pos:=pos,after:=af,guard:=g }).run E.P w = .ok (.value (.pointer (some ⟨w.heap.size,0,none⟩))) { w with heap:=w.heap.push (.cells (ρ x).cells t) }:=by
    simp only [execOp,Instr.box,Sem.run_bind,Result.andThen_ok,newVar,newRow,run_newObj,Sem.run_pure]
   rw [hrun]
   cases hr:refFst (rd l x) with
   | true=>rw [hr] at hwp;exact hwp.elim
   | false =>
    rw [hr] at hwp
    cases hT:Nat.beq u.refT 0 with
    | false=>rw [hT] at hwp;exact hwp.elim
    | true =>
     rw [hT] at hwp
     exact Fin.newBox h (hv.cells (qt2 hf hc)) hc hf ⟨qt2 hf hc,fun q=>(by rw [hr] at q;cases q),fun q=>absurd (Nat.eq_of_beq_eq_true hT) q⟩ hwp
 ·exact hwp.elim
theorem qaom (hE:EnvOK E) (h:Now E.P F ι K H w base) (hs : ∀ x,AVR E.P ι K w (Reg F ι H w) (rd l x) (ρ x)) {t:TypeId} {x:Operand} (ho:o.op = .load t x) (hwp:(exec E (.load t x) (rd l) base).wp H [] Ψ) :
  Comes' E.P (Fin E.P F ι K H w base Ψ) ((execOp ρ o).run E.P w):=by
 obtain ⟨dst,op,ty,pos,af,g⟩:=o
 subst ho
 simp only [exec] at hwp
 split at hwp
 ·rename_i u hu
  have hok:=hE.tys t u hu
  have hx:=hs x
  generalize rd l x=v at hwp hx
  have fin : ∀ {c o:Nat} {cs:List Value} {v':AV} {rs:List Nat},ρ x = .pointer (some ⟨c,o,none⟩)→CellsAt w c o cs→AVC E.P ι K w (Reg F ι H w) v' cs→fitsB u v'=true→Ψ (v',[]) rs →
    Comes' E.P (Fin E.P F ι K H w base Ψ) ((execOp ρ { dst:=dst,op:=.load t x,type:=ty,pos:=pos,after:=af,guard:=g }).run E.P w):=by
   intro c o cs v' rs hp hat hv hf hΨ
   obtain ⟨y,hy,hval⟩:=quh hok w hat (qby hf hv)
   have hrun:(execOp ρ { dst:=dst,op:=.load t x,type:=ty,pos:=pos,after:=af,guard:=g }).run E.P w = .ok (.value y) w:=by
    simp only [execOp,Instr.loadAt,Instr.sureAddr,hp,Sem.run_bind,Sem.run_pure,Result.andThen_ok,hy]
   rw [hrun]
   exact Fin.pure h hΨ ⟨cs,hv,by rw [qfn hf];exact hval⟩
  unfold loadR at hwp
  split at hwp
  ·
   rename_i b p u'
   obtain ⟨cs0,hc,hv⟩:=hx
   simp only [AVC] at hc
   obtain ⟨hK,of,hko,rfl⟩:=hc
   have hp:=qad (show ValOf false _ (ρ x) from hv)
   simp only [RM.wp] at hwp
   obtain ⟨blk,hb,hwp⟩:=hwp
   have hblk:=h.inv.blks b _ hb
   cases blk with
   | box t' v' =>
    obtain ⟨hk,hd,cells,e,hbb,hvv,hlen,hat,hf⟩:=qhz hblk
    rw [hk] at hko
    cases hko with
    | box hto =>
    simp only at hwp
    obtain ⟨v2,h2,hf2,hv2⟩:=qls hto hwp hf hvv
    cases hf3:fitsB u v2 with
    | false=>rw [hf3] at h2;exact h2.elim
    | true =>
     rw [hf3] at h2
     rw [hd] at hp
     exact fin hp (hat.seg of _) hv2 hf3 h2
   | row t' xs =>
    rcases hblk with ⟨hk',_⟩ | hblk'
    ·rw [hk'] at hko;cases hko
    ·obtain ⟨room',_,_,_,hk',_⟩:=id hblk'
     rw [hk'] at hko
     cases hko with
     | @row _ _ _ i p' o' _ hi hto =>
     obtain ⟨_,cells,e,vs,hbb,h1,h2,h3,hvl,h4,hat⟩:=qdi (h.inv.blks b _ hb) hk'
     simp only [getPath] at hwp
     have hg:=RepList.getD (R:=Rep w (Reg F ι H w) t') (fun _ _ h=>h.length) t'.zero h3 hi
     obtain ⟨y,hy,hr⟩:=qkb hto hwp hg
     cases hsm:u'.same u with
     | false=>rw [hsm] at hy;exact hy.elim
     | true =>
      rw [hsm] at hy
      obtain rfl:=qbe hsm
      rw [qui hto.inside] at hr
      have hat':=hat.seg (i*t'.size+o') u'.size
      exact fin hp hat' (by simp only [AVC];exact hr) (qcf _ _) hy
  ·rename_i u' y
   obtain ⟨cs0,hc,hv⟩:=hx
   simp only [AVC] at hc
   obtain ⟨c,of,vs,rfl,hreg,hat,hr⟩:=hc
   have hp:=qad (show ValOf false _ (ρ x) from hv)
   cases hsm:u'.same u with
   | false=>rw [hsm] at hwp;exact hwp.elim
   | true =>
    rw [hsm] at hwp
    obtain rfl:=qbe hsm
    exact fin hp hat (by simp only [AVC];exact hr) (qcf _ _) hwp
  ·rename_i b p t' off n
   split at hwp
   ·rename_i m w'
    cases hmn:Nat.beq m n with
    | false=>rw [hmn] at hwp;exact hwp.elim
    | true =>
     obtain rfl:=Nat.eq_of_beq_eq_true hmn
     rw [hmn] at hwp
     simp only [cond_true] at hwp
     obtain ⟨cs0,hc,hv⟩:=hx
     simp only [AVC] at hc
     obtain ⟨hK,a,rfl,hpos⟩:=hc
     have hp:=qad (show ValOf false _ (ρ x) from hv)
     obtain ⟨xs,vs,rfl,hq,hxl,hrep,hat,ha,_⟩:=qfd h.inv hwp hpos
     rw [ha] at hp
     have hat':CellsAt w (ι b).c a.off vs:=by have e:a.block=(ι b).c:=congrArg Addr.block ha;rw [e] at hat;exact hat
     exact fin hp hat' (by simp only [AVC];exact RepList.ofList _ hrep hxl) (qcf _ _) hq
   ·exact hwp.elim
  ·exact hwp.elim
 ·exact hwp.elim
end
end Go.Tm
namespace Go.Tm
open Go
theorem addr_add (c o n:Nat):(⟨c,o,none⟩:Addr).add n=⟨c,o+n,none⟩:=by unfold Addr.add;split <;> simp_all
theorem qf9 {P:Program} {u:Ty} {i:TypeId} (h:okTy P (.list u) i=true) : ∃ e,P.underlying i=some (.slice e)∧okTy P u e=true:=by
 simp only [okTy,Bool.and_eq_true] at h
 obtain ⟨_,h⟩:=h
 split at h
 ·rename_i e he;exact ⟨e,he,h⟩
 ·simp at h
theorem qwx {P:Program} {n:Nat} {u:Ty} {i:TypeId} (h:okTy P (.arr n u) i=true) : ∃ e,P.underlying i=some (.array n e)∧okTy P u e=true:=by
 simp only [okTy,Bool.and_eq_true] at h
 obtain ⟨_,h⟩:=h
 split at h
 ·rename_i m e he
  simp only [Bool.and_eq_true] at h
  obtain rfl:=Nat.eq_of_beq_eq_true h.1
  exact ⟨e,he,h.2⟩
 ·simp at h
theorem quy {P:Program} {i:TypeId} (h:okTy P .str i=true):P.underlying i=some .string:=by
 simp only [okTy,Bool.and_eq_true] at h
 obtain ⟨_,h⟩:=h
 split at h
 ·assumption
 ·simp at h
theorem int_of {P:Program} {k:IntKind} {i:TypeId} (h:okTy P (.int k) i=true):P.underlying i=some (.int k):=by
 simp only [okTy,Bool.and_eq_true] at h
 obtain ⟨_,h⟩:=h
 split at h
 ·rename_i hd;rw [hd];simpa using h
 ·simp at h
theorem qakb {P:Program} {k:FloatKind} {i:TypeId} (h:okTy P (.flt k) i=true):P.underlying i=some (.float k):=by
 simp only [okTy,Bool.and_eq_true] at h
 obtain ⟨_,h⟩:=h
 split at h
 ·rename_i hd;rw [hd];simpa using h
 ·simp at h
theorem qaor {P:Program} : ∀ {b:Ty} {r:List Field} {o:Nat},okRest P b r o=true → ∀ {n:Nat} {u:Ty},partTy b n=some u →
  ∃ f d,r[n]? = some f∧TyOff b (partPath b n) d u∧f.offset=o+d∧okTy P u f.type=true:=by
 intro b
 induction b with
 | pair a b iha ihb =>
  intro r o h n u hu
  cases r with
  | nil=>simp [okRest] at h
  | cons f r =>
   simp only [okRest,Bool.and_eq_true] at h
   obtain ⟨⟨h1,h2⟩,h3⟩:=h
   cases n with
   | zero =>
    simp only [partTy,Option.some.injEq] at hu
    subst hu
    exact ⟨f,0,rfl,.fst (.here _),Nat.eq_of_beq_eq_true h1,h2⟩
   | succ n =>
    simp only [partTy] at hu
    obtain ⟨g,d,hg,ht,ho,hk⟩:=ihb h3 hu
    exact ⟨g,a.size+d,by simpa using hg,.snd ht,by omega,hk⟩
 | unit=>intro r o h n u hu;cases n <;> simp [partTy] at hu
 | _=>intro r o h;cases r <;> simp [okRest] at h
theorem qaf3 {P:Program} {t:Ty} {i:TypeId} (h:okTy P t i=true) (hp:t.isAgg=true) (ha : ∀ n u,t ≠ .arr n u) {n:Nat} {u:Ty} (hu:partTy t n=some u) :
  ∃ fs f d,P.underlying i=some (.struct fs)∧fs[n]? = some f∧TyOff t (partPath t n) d u∧f.offset=d∧okTy P u f.type=true:=by
 cases t with
 | pair a b =>
  simp only [okTy,Bool.and_eq_true] at h
  obtain ⟨_,h⟩:=h
  split at h
  ·rename_i fs hfs
   split at h
   ·rename_i f r hfr
    simp only [Bool.and_eq_true] at h
    obtain ⟨⟨h1,h2⟩,h3⟩:=h
    have:okRest P (.pair a b) (f :: r) 0=true:=by simp only [okRest,Bool.and_eq_true];exact ⟨⟨h1,h2⟩,by simpa using h3⟩
    obtain ⟨g,d,hg,ht,ho,hk⟩:=qaor this hu
    exact ⟨fs,g,d,hfs,by rw [← hfr] at hg;simpa using hg,ht,by omega,hk⟩
   ·simp at h
  ·simp at h
 | arr n u=>exact absurd rfl (ha n u)
 | unit=>cases n <;> simp [partTy] at hu
 | _=>simp [Ty.isAgg] at hp
section
variable {E : Env} {F : Fr} {ι : Nat → Inf} {K : Nat → Prop} {H : Heap} {w : World} {base : Nat} {Ψ : AV × Heap → List Nat → Prop} {l : Tmps} {ρ : Operand → Value} {o : Oper}
theorem qug {P:Program} {t u:Ty} {s f:Nat} {c q:Nat} (h:okTy P t s=true) (hp:t.isAgg=true) (ha : ∀ n u,t ≠ .arr n u) (hu:partTy t f=some u) (hsz:u.size≠0) (w:World) :
  ∃ d,TyOff t (partPath t f) d u∧(Instr.fieldAt s (.pointer (some ⟨c,q,none⟩)) f).run P w = .ok (.pointer (some ⟨c,q+d,none⟩)) w:=by
 obtain ⟨fs,fd,d,hfs,hf,ht,ho,hk⟩:=qaf3 h hp ha hu
 refine ⟨d,ht,?_⟩
 simp only [Instr.fieldAt,Sem.run_bind,run_underlying hfs,Result.andThen_ok,hf,Instr.sureAddr,Sem.run_pure,fieldPlace,qaw hk,hsz,if_false,Sem.run_ite,addr_add,ho]
theorem qad8 {t u:Ty} {n:Nat} (h:fieldTy t n=some u):t.isAgg=true∧(∀ n u,t ≠ .arr n u)∧partTy t n=some u:=by
 cases t <;> simp_all [fieldTy,partTy,Ty.isAgg]
theorem qagq (hE:EnvOK E) (h:Now E.P F ι K H w base) (hs : ∀ x,AVR E.P ι K w (Reg F ι H w) (rd l x) (ρ x)) {s:TypeId} {x:Operand} {f:Nat} (ho:o.op = .fieldAddr s x f) (hwp:(exec E (.fieldAddr s x f) (rd l) base).wp H [] Ψ) :
  Comes' E.P (Fin E.P F ι K H w base Ψ) ((execOp ρ o).run E.P w):=by
 obtain ⟨dst,op,ty,pos,af,g⟩:=o
 subst ho
 have hx:=hs x
 simp only [exec] at hwp
 generalize rd l x=v at hwp hx
 have hrun : ∀ r,(Instr.fieldAt s (ρ x) f).run E.P w = .ok r w→(execOp ρ { dst:=dst,op:=.fieldAddr s x f,type:=ty,pos:=pos,after:=af,guard:=g }).run E.P w = .ok (.value r) w:=by
  intro r hr;simp [execOp,hr]
 split at hwp
 ·rename_i t ht
  have hok:=hE.tys s t ht
  split at hwp
  ·rename_i q hq
   cases hz:Nat.beq q.size 0 with
   | true=>rw [hz] at hwp;exact hwp.elim
   | false =>
    rw [hz] at hwp
    simp only [cond_false] at hwp
    obtain ⟨h1,h2,h3⟩:=qad8 hq
    have hne:q.size≠0:=fun e=>by rw [e] at hz;simp at hz
    split at hwp
    ·rename_i b p u
     cases hsm:u.same t with
     | false=>rw [hsm] at hwp;exact hwp.elim
     | true =>
      rw [hsm] at hwp
      obtain rfl:=qbe hsm
      obtain ⟨cs,hc,hv⟩:=hx
      simp only [AVC] at hc
      obtain ⟨hK,of,hko,rfl⟩:=hc
      have hp:=qad (show ValOf false _ (ρ x) from hv)
      obtain ⟨d,htd,hr⟩:=qug (c:=(ι b).c) (q:=(ι b).d+of) hok h1 h2 h3 hne w
      rw [hp] at hrun
      rw [hrun _ hr]
      refine Fin.pure h hwp ⟨[_],?_,rfl⟩
      simp only [AVC]
      exact ⟨hK,of+d,hko.append htd,by rw [Nat.add_assoc]⟩
    ·rename_i u y
     cases hsm:u.same t with
     | false=>rw [hsm] at hwp;exact hwp.elim
     | true =>
      rw [hsm] at hwp
      obtain rfl:=qbe hsm
      obtain ⟨cs,hc,hv⟩:=hx
      simp only [AVC] at hc
      obtain ⟨c,of,vs,rfl,hreg,hat,hr⟩:=hc
      have hp:=qad (show ValOf false _ (ρ x) from hv)
      obtain ⟨d,htd,hr'⟩:=qug (c:=c) (q:=of) hok h1 h2 h3 hne w
      rw [hp] at hrun
      rw [hrun _ hr']
      obtain ⟨z,hz,hrz⟩:=qkb htd hwp hr
      refine Fin.pure h hz ⟨[_],?_,rfl⟩
      simp only [AVC]
      exact ⟨c,of+d,_,rfl,hreg,hat.seg _ _,hrz⟩
    ·exact hwp.elim
  ·exact hwp.elim
 ·exact hwp.elim
theorem qzl {P:Program} {u:Ty} {i:TypeId} (h:okTy P u i=true) {cs:List Value} {o:Nat} (hl:o+u.size≤cs.length) (w:World) :
  ∃ x,(part i cs.toArray o).run P w = .ok x w∧ValOf u.isAgg (seg cs o u.size) x:=by
 unfold part
 rw [Sem.run_bind,qrs h,Result.andThen_ok]
 cases ha:u.isAgg with
 | true =>
  refine ⟨.agg (cs.toArray.extract o (o+u.size)),?_,?_⟩
  ·simp [qaw h]
  ·simp [ValOf,seg]
 | false =>
  have h1:u.size=1:=by cases u <;> simp_all [Ty.isAgg,Ty.size]
  have hlt:o<cs.length:=by omega
  refine ⟨cs[o],?_,?_⟩
  ·simp [hlt]
  ·simp only [ValOf,seg,h1,Bool.false_eq_true,if_false]
   rw [List.drop_eq_getElem_cons hlt];rfl
theorem qams (hE:EnvOK E) (h:Now E.P F ι K H w base) (hs : ∀ x,AVR E.P ι K w (Reg F ι H w) (rd l x) (ρ x)) {s:TypeId} {x:Operand} {f:Nat} (ho:o.op = .field s x f) (hwp:(exec E (.field s x f) (rd l) base).wp H [] Ψ) :
  Comes' E.P (Fin E.P F ι K H w base Ψ) ((execOp ρ o).run E.P w):=by
 obtain ⟨dst,op,ty,pos,af,g⟩:=o
 subst ho
 have hx:=hs x
 simp only [exec] at hwp
 generalize rd l x=v at hwp hx
 split at hwp
 ·rename_i t ht
  have hok:=hE.tys s t ht
  split at hwp
  ·rename_i q hq
   obtain ⟨h1,h2,h3⟩:=qad8 hq
   cases hf:fitsB t v with
   | false=>rw [hf] at hwp;exact hwp.elim
   | true =>
    rw [hf] at hwp
    simp only [cond_true] at hwp
    obtain ⟨cs,hc,hv⟩:=hx
    rw [qfn hf,h1] at hv
    have hv:ρ x = .agg cs.toArray:=by simpa [ValOf] using hv
    obtain ⟨fs,fd,d,hfs,hfd,htd,hoff,hk⟩:=qaf3 hok h1 h2 h3
    obtain ⟨v',hq',hf',hc'⟩:=qls htd hwp hf hc
    have hlen:=qby hf hc
    obtain ⟨r,hr,hval⟩:=qzl hk (cs:=cs) (o:=d) (by rw [hlen];exact htd.inside) w
    have hrun:(execOp ρ { dst:=dst,op:=.field s x f,type:=ty,pos:=pos,after:=af,guard:=g }).run E.P w = .ok (.value r) w:=by
     simp only [execOp,Instr.field,hv,Sem.run_bind,run_underlying hfs,Result.andThen_ok,hfd,asAgg,Sem.run_pure,hoff,hr]
    rw [hrun]
    exact Fin.pure h hq' ⟨_,hc',by rw [qfn hf'];exact hval⟩
  ·exact hwp.elim
 ·exact hwp.elim
theorem qzg {α:Type} (z:α) : ∀ (n:Nat) (l:List α),Vec.ofList z n (l.take n)=Vec.ofList z n l
 | 0,_=>rfl
 | n+1,[]=>rfl
 | n+1,x :: l=>by simp only [List.take_succ_cons,Vec.ofList];rw [qzg z n l]
theorem qtt (hE:EnvOK E) (h:Now E.P F ι K H w base) (hs : ∀ x,AVR E.P ι K w (Reg F ι H w) (rd l x) (ρ x)) {t:TypeId} {x:Operand} (ho:o.op = .sliceToArrayPointer t x) (hwp:(exec E (.sliceToArrayPointer t x) (rd l) base).wp H [] Ψ) :
  Comes' E.P (Fin E.P F ι K H w base Ψ) ((execOp ρ o).run E.P w):=by
 obtain ⟨dst,op,ty,pos,af,g⟩:=o
 subst ho
 have hx:=hs x
 simp only [exec] at hwp
 generalize rd l x=v at hwp hx
 have hrun : ∀ n u a len cap,E.tys t=some (.arr n u)→ρ x = .slice a len cap→n≤len→(execOp ρ { dst:=dst,op:=.sliceToArrayPointer t x,type:=ty,pos:=pos,after:=af,guard:=g }).run E.P w = .ok (.value (.pointer a)) w:=by
  intro n u a len cap ht hxv hn
  obtain ⟨e,he,_⟩:=qwx (hE.tys t _ ht)
  simp only [execOp,Instr.arrayAt,Sem.run_bind,run_underlying he,Result.andThen_ok,hxv,Sem.run_ite,Nat.not_lt.2 hn,if_false,Sem.run_pure]
 split at hwp
 ·rename_i n u b p w' off len ht
  cases hsm:(w'.same u && !Nat.beq n 0) with
  | false=>rw [hsm] at hwp;exact hwp.elim
  | true =>
   rw [hsm] at hwp
   simp only [Bool.and_eq_true,Bool.not_eq_true'] at hsm
   obtain rfl:=qbe hsm.1
   have hn0:n≠0:=fun e=>by rw [e] at hsm;simp at hsm
   simp only [cond_true,RM.wp] at hwp
   rcases hwp with ⟨hle,hwp⟩ | ⟨_,hwp⟩
   ·have hle:=Nat.le_of_ble_eq_true hle
    obtain ⟨cs,hc,hv⟩:=hx
    simp only [AVC] at hc
    obtain ⟨hK,hc⟩:=hc
    rcases hc with ⟨rfl,_⟩ | ⟨m,room,cap,rfl,hk,rfl,hlc,hln,hr⟩ | ⟨q,m,cap,hko,rfl,hlc,hln,hcm⟩
    ·omega
    ·have hp:=qad (show ValOf false _ (ρ x) from hv)
     rw [hrun _ _ _ _ _ ht hp hle]
     refine Fin.pure h hwp ⟨[_],?_,rfl⟩
     unfold AVC
     exact ⟨hK,_,rfl,.inl ⟨rfl,rfl,m,room,hk,by omega⟩⟩
    ·have hp:=qad (show ValOf false _ (ρ x) from hv)
     rw [hrun _ _ _ _ _ ht hp hle]
     refine Fin.pure h hwp ⟨[_],?_,rfl⟩
     unfold AVC
     exact ⟨hK,_,rfl,.inr ⟨q,m,hko,by omega,rfl⟩⟩
   ·exact hwp.elim
 ·rename_i n u w' xs ht
  split at hwp
  ·rename_i q hq;obtain rfl:=q
   cases hn0:Nat.beq n 0 with
   | true=>rw [hn0] at hwp;exact hwp.elim
   | false =>
    rw [hn0] at hwp
    have hn0:n≠0:=fun e=>by rw [e] at hn0;simp at hn0
    simp only [cond_false,RM.wp] at hwp
    rcases hwp with ⟨hle,hwp⟩ | ⟨_,hwp⟩
    ·have hle:=Nat.le_of_ble_eq_true hle
     obtain ⟨a,cap,hp,hcap,hx⟩:=qi1 (qaf.1 hx)
     rcases hx with h0 | ⟨c,of,cs,rfl,hreg,hat,hl⟩
     ·omega
     ·rw [hrun _ _ _ _ _ ht hp hle]
      refine Fin.pure h hwp ⟨[_],?_,rfl⟩
      unfold AVC
      refine ⟨c,of,cs.take (n*w'.size),rfl,hreg,?_,?_⟩
      ·intro j v hj
       rw [List.getElem?_take] at hj
       split at hj
       ·exact hat j v hj
       ·simp at hj
      ·have:=RepList.ofList (R:=Rep w (Reg F ι H w) w') w'.zero (n:=n) (RepList.take (fun _ _ h=>h.length) n hl) (List.length_take_of_le hle)
       exact Eq.mp (congrArg (fun z=>RepVec (Rep w (Reg F ι H w) w') n z (List.take (n*w'.size) cs)) (qzg w'.zero n xs)) this
    ·exact hwp.elim
  ·exact hwp.elim
 ·exact hwp.elim
end
end Go.Tm
namespace Go.Tm
open Go
section
variable {P : Program}
theorem qil {u:Ty} {t:TypeId} (h:okTy P (.list u) t=true) {c q len cap:Nat} {k:IntKind} {i:Int} (h0:0≤i) (h1:i<len) (w:World) :
  (Instr.indexAt t (.slice (some ⟨c,q,none⟩) len cap) (.int k i)).run P w = .ok (.pointer (some ⟨c,q+i.toNat*u.size,none⟩)) w:=by
 obtain ⟨e,he,hk⟩:=qf9 h
 simp [Instr.indexAt,asIntOf,run_underlying he,h0,h1,qaw hk,addr_add]
theorem qsz {n:Nat} {u:Ty} {t:TypeId} (h:okTy P (.arr n u) t=true) {c q:Nat} {k:IntKind} {i:Int} (h0:0≤i) (h1:i<n) (w:World) :
  (Instr.indexAt t (.pointer (some ⟨c,q,none⟩)) (.int k i)).run P w = .ok (.pointer (some ⟨c,q+i.toNat*u.size,none⟩)) w:=by
 obtain ⟨e,he,hk⟩:=qwx h
 simp [Instr.indexAt,asIntOf,run_underlying he,h0,h1,qaw hk,addr_add,Instr.sureAddr]
end
theorem qom {i:Int} {n:Nat} (h:inB i n=true):0≤i∧i<n∧i.toNat<n:=by
 simp only [inB,Bool.and_eq_true,decide_eq_true_eq] at h
 exact ⟨h.1,h.2,by omega⟩
section
variable {E : Env} {F : Fr} {ι : Nat → Inf} {K : Nat → Prop} {H : Heap} {w : World} {base : Nat} {Ψ : AV × Heap → List Nat → Prop} {l : Tmps} {ρ : Operand → Value} {o : Oper}
theorem qpe {st:Option Ty} {b:Nat} {t:Ty} (h:elemOK st (.rows b t)=true):st=some (.list t):=by
 cases st with
 | none=>simp [elemOK] at h
 | some s=>cases s <;> simp [elemOK] at h;rw [qbe h]
theorem ql5 {st:Option Ty} {b off len:Nat} {p:List PS} {t:Ty} (h:elemOK st (.view b p t off len)=true):st=some (.list t):=by
 cases st with
 | none=>simp [elemOK] at h
 | some s=>cases s <;> simp [elemOK] at h;rw [qbe h]
theorem qr9 {st:Option Ty} {t:Ty} {xs:t.list.den} (h:elemOK st (.val (.list t) xs)=true):st=some (.list t):=by
 cases st with
 | none=>simp [elemOK] at h
 | some s =>
  cases s <;> simp [elemOK] at h
  ·have:=qbe h;cases this
  ·rw [qbe h]
theorem qzt {st:Option Ty} (h:elemOK st .nilS=true) : ∃ t,st=some (.list t):=by
 cases st with
 | none=>simp [elemOK] at h
 | some s=>cases s <;> simp [elemOK] at h;exact ⟨_,rfl⟩
theorem qva {st:Option Ty} {s:Ty.str.den} (h:elemOK st (.val .str s)=true):st=some .str:=by
 cases st with
 | none=>simp [elemOK] at h
 | some s =>
  cases s <;> simp [elemOK] at h
  ·rfl
  ·have:=qbe h;cases this
theorem qaf0 {st:Option Ty} {b:Nat} {p:List PS} {t:Ty} (h:elemOK st (.ptr b p t)=true):st=some t:=by
 cases st with
 | none=>simp [elemOK] at h
 | some s=>cases s <;> simp [elemOK] at h;rw [qbe h]
theorem qad4 {st:Option Ty} {t:Ty} {y:t.den} (h:elemOK st (.iptr t y)=true):st=some t:=by
 cases st with
 | none=>simp [elemOK] at h
 | some s=>cases s <;> simp [elemOK] at h;rw [qbe h]
theorem qal7 {st:Option Ty} {n:Nat} {t:Ty} {y:(Ty.arr n t).den} (h:elemOK st (.val (.arr n t) y)=true):st=some (.arr n t):=by
 cases st with
 | none=>simp [elemOK] at h
 | some s =>
  cases s <;> simp [elemOK] at h
  rw [qbe h]
theorem qagr (hE:EnvOK E) (h:Now E.P F ι K H w base) (hs : ∀ x,AVR E.P ι K w (Reg F ι H w) (rd l x) (ρ x)) {t:TypeId} {x i:Operand} (ho:o.op = .indexAddr t x i) (hwp:(exec E (.indexAddr t x i) (rd l) base).wp H [] Ψ) :
  Comes' E.P (Fin E.P F ι K H w base Ψ) ((execOp ρ o).run E.P w):=by
 obtain ⟨dst,op,ty,pos,af,g⟩:=o
 subst ho
 have hx:=hs x
 have hi:=hs i
 simp only [exec] at hwp
 generalize rd l x=v at hwp hx
 split at hwp
 ·rename_i k n hel hn
  obtain ⟨n,rfl⟩ : ∃ n':Int,n'=n:=⟨n,rfl⟩
  rw [hn] at hi
  have hi:ρ i = .int k n:=qam.1 (qaf.1 hi)
  have hrun : ∀ r,(Instr.indexAt t (ρ x) (.int k n)).run E.P w = .ok r w→(execOp ρ { dst:=dst,op:=.indexAddr t x i,type:=ty,pos:=pos,after:=af,guard:=g }).run E.P w = .ok (.value r) w:=by
   intro r hr;simp [execOp,hi,hr]
  replace hwp:=qey hwp
  unfold indexA at hwp
  split at hwp
  ·rename_i b u
   have hok:=hE.tys t _ (qpe hel)
   obtain ⟨cs,hc,hv⟩:=hx
   simp only [AVC] at hc
   obtain ⟨hK,hc⟩:=hc
   simp only [RM.wp] at hwp
   obtain ⟨x',hx',hwp⟩:=hwp
   cases x' with
   | box _ _=>exact hwp.elim
   | row u' xs =>
    simp only [RM.wp] at hwp
    rcases hwp with ⟨hin,hwp⟩ | ⟨_,hwp⟩
    ·obtain ⟨h0,h1,h2⟩:=qom hin
     have hblk:=h.inv.blks b _ hx'
     rcases hc with ⟨hk,a,rfl⟩ | ⟨m,room,cap,hk,rfl,hm,hr⟩
     ·rcases hblk with ⟨_,h0'⟩ | ⟨room,_,_,_,hk',_⟩
      ·omega
      ·rw [hk] at hk';simp at hk'
     ·rcases hblk with ⟨hk',_⟩ | ⟨room',_,_,_,hk',_⟩
      ·rw [hk] at hk';simp at hk'
      ·have hk2:=hk
       rw [hk'] at hk2
       simp only [Kind.row.injEq] at hk2
       obtain ⟨rfl,hlen,rfl⟩:=hk2
       have hp:=qad (show ValOf false _ (ρ x) from hv)
       rw [hp] at hrun
       rw [hrun _ (qil hok h0 (by omega) w)]
       refine Fin.pure h hwp ⟨[_],?_,rfl⟩
       unfold AVC
       exact ⟨hK,n.toNat*u'.size+0,by rw [hk];exact .row (by omega) (.here _),by simp⟩
    ·exact hwp.elim
  ·rename_i b p u off len
   have hok:=hE.tys t _ (ql5 hel)
   obtain ⟨cs,hc,hv⟩:=hx
   simp only [AVC] at hc
   obtain ⟨hK,hc⟩:=hc
   simp only [RM.wp] at hwp
   rcases hwp with ⟨hin,hwp⟩ | ⟨_,hwp⟩
   ·obtain ⟨h0,h1,h2⟩:=qom hin
    rcases hc with ⟨rfl,_⟩ | ⟨m,room,cap,rfl,hk,rfl,hlc,hln,hr⟩ | ⟨q,m,cap,hko,rfl,hlc,hln,hcm⟩
    ·omega
    ·have hp:=qad (show ValOf false _ (ρ x) from hv)
     rw [hp] at hrun
     rw [hrun _ (qil hok h0 h1 w)]
     refine Fin.pure h hwp ⟨[_],?_,rfl⟩
     unfold AVC
     exact ⟨hK,(off+n.toNat)*u.size+0,by rw [hk];exact .row (by omega) (.here _),by simp [Nat.add_mul,Nat.add_assoc]⟩
    ·have hp:=qad (show ValOf false _ (ρ x) from hv)
     rw [hp] at hrun
     rw [hrun _ (qil hok h0 h1 w)]
     refine Fin.pure h hwp ⟨[_],?_,rfl⟩
     unfold AVC
     exact ⟨hK,q+((off+n.toNat)*u.size+0),hko.append (.idx (by omega) (.here _)),by simp [Nat.add_mul,Nat.add_assoc]⟩
   ·exact hwp.elim
  ·rename_i u xs
   obtain ⟨xs,rfl⟩ : ∃ xs':List u.den,xs'=xs:=⟨xs,rfl⟩
   have hok:=hE.tys t _ (qr9 hel)
   obtain ⟨a,cap,hp,hcap,hx⟩:=qi1 (qaf.1 hx)
   simp only [RM.wp] at hwp
   rcases hwp with ⟨hin,hwp⟩ | ⟨_,hwp⟩
   ·obtain ⟨h0,h1,h2⟩:=qom hin
    rcases hx with h0' | ⟨c,of,cs,rfl,hreg,hat,hl⟩
    ·omega
    ·rw [hp] at hrun
     rw [hrun _ (qil hok h0 h1 w)]
     refine Fin.pure h hwp ⟨[_],?_,rfl⟩
     unfold AVC
     exact ⟨c,of+n.toNat*u.size,_,rfl,hreg,hat.seg _ _,RepList.getD (fun _ _ h=>h.length) u.zero hl h2⟩
   ·exact hwp.elim
  ·rename_i b p m u
   have hok:=hE.tys t _ (qaf0 hel)
   obtain ⟨cs,hc,hv⟩:=hx
   simp only [AVC] at hc
   obtain ⟨hK,of,hko,rfl⟩:=hc
   simp only [RM.wp] at hwp
   rcases hwp with ⟨hin,hwp⟩ | ⟨_,hwp⟩
   ·obtain ⟨h0,h1,h2⟩:=qom hin
    have hp:=qad (show ValOf false _ (ρ x) from hv)
    rw [hp] at hrun
    rw [hrun _ (qsz hok h0 h1 w)]
    refine Fin.pure h hwp ⟨[_],?_,rfl⟩
    unfold AVC
    exact ⟨hK,of+(n.toNat*u.size+0),hko.append (.idx h2 (.here _)),by simp [Nat.add_assoc]⟩
   ·exact hwp.elim
  ·rename_i m u y
   have hok:=hE.tys t _ (qad4 hel)
   obtain ⟨cs,hc,hv⟩:=hx
   simp only [AVC] at hc
   obtain ⟨c,of,vs,rfl,hreg,hat,hr⟩:=hc
   simp only [RM.wp] at hwp
   rcases hwp with ⟨hin,hwp⟩ | ⟨_,hwp⟩
   ·obtain ⟨h0,h1,h2⟩:=qom hin
    have hp:=qad (show ValOf false _ (ρ x) from hv)
    rw [hp] at hrun
    rw [hrun _ (qsz hok h0 h1 w)]
    refine Fin.pure h hwp ⟨[_],?_,rfl⟩
    unfold AVC
    exact ⟨c,of+n.toNat*u.size,_,rfl,hreg,hat.seg _ _,RepVec.getD (fun _ _ h=>h.length) u.zero hr h2⟩
   ·exact hwp.elim
  ·exact hwp.elim
 ·exact hwp.elim
theorem qaj4 (s:List UInt8) (j:Nat) (h:j<s.length):(⟨s.toArray⟩:ByteArray)[j]? = some (s.getD j 0):=by
 have hs:j<(⟨s.toArray⟩:ByteArray).size:=by simpa [ByteArray.size] using h
 rw [getElem?_pos _ j hs]
 show some (s.toArray[j]'_)=_
 simp [List.getD,h]
theorem qamt (hE:EnvOK E) (h:Now E.P F ι K H w base) (hs : ∀ x,AVR E.P ι K w (Reg F ι H w) (rd l x) (ρ x)) {t:TypeId} {x i:Operand} (ho:o.op = .index t x i) (hwp:(exec E (.index t x i) (rd l) base).wp H [] Ψ) :
  Comes' E.P (Fin E.P F ι K H w base Ψ) ((execOp ρ o).run E.P w):=by
 obtain ⟨dst,op,ty,pos,af,g⟩:=o
 subst ho
 have hx:=hs x
 have hi:=hs i
 simp only [exec] at hwp
 generalize rd l x=v at hwp hx
 split at hwp
 ·rename_i k n hel hn
  obtain ⟨n,rfl⟩ : ∃ n':Int,n'=n:=⟨n,rfl⟩
  rw [hn] at hi
  have hi:ρ i = .int k n:=qam.1 (qaf.1 hi)
  have hrun : ∀ r,(Instr.index t (ρ x) (.int k n)).run E.P w = .ok r w→(execOp ρ { dst:=dst,op:=.index t x i,type:=ty,pos:=pos,after:=af,guard:=g }).run E.P w = .ok (.value r) w:=by
   intro r hr;simp [execOp,hi,hr]
  replace hwp:=qey hwp
  unfold indexV at hwp
  split at hwp
  ·rename_i m u y
   have hok:=hE.tys t _ (qal7 hel)
   obtain ⟨e,he,hk⟩:=qwx hok
   simp only [RM.wp] at hwp
   rcases hwp with ⟨hin,hwp⟩ | ⟨_,hwp⟩
   ·obtain ⟨h0,h1,h2⟩:=qom hin
    obtain ⟨cs,hr,hv⟩:=qaf.1 hx
    have hv:ρ x = .agg cs.toArray:=by simpa [ValOf,Ty.isAgg] using hv
    have hlen:=hr.length
    have hin':n.toNat*u.size+u.size≤cs.length:=by
     rw [hlen];simp only [Ty.size]
     calc n.toNat*u.size+u.size=(n.toNat+1)*u.size:=by rw [Nat.add_mul,Nat.one_mul]
      _≤m*u.size:=Nat.mul_le_mul_right _ h2
    obtain ⟨r,hr',hval⟩:=qzl hk hin' w
    rw [hrun r (by simp [hv,Instr.index,asIntOf,run_underlying he,h0,h1,qaw hk,hr'])]
    exact qas h hwp ⟨_,RepVec.getD (R:=Rep w (Reg F ι H w) u) (fun _ _ h=>h.length) u.zero hr h2,hval⟩
   ·exact hwp.elim
  ·rename_i s
   obtain ⟨s,rfl⟩ : ∃ s':List UInt8,s'=s:=⟨s,rfl⟩
   have hd:=quy (hE.tys t _ (qva hel))
   simp only [RM.wp] at hwp
   rcases hwp with ⟨hin,hwp⟩ | ⟨_,hwp⟩
   ·obtain ⟨h0,h1,h2⟩:=qom hin
    have hv:ρ x = .string ⟨s.toArray⟩:=qbw.1 (qaf.1 hx)
    rw [hrun (.int .u8 (strAt s n)) (by simp [hv,Instr.index,asIntOf,run_underlying hd,h0,qaj4 s n.toNat h2,strAt,byteI])]
    exact qas h hwp (qam.2 rfl)
   ·exact hwp.elim
  ·exact hwp.elim
 ·exact hwp.elim
end
end Go.Tm
namespace Go.Tm
open Go
def RI:Option Int→Option Value→Prop
 | none,none=>True
 | some n,some v => ∃ k,v = .int k n
 | _,_=>False
theorem qp2 {P:Program} {s:Bool} {len cap:Nat} {lo hi:Option Int} {vl vh:Option Value} (h1:RI lo vl) (h2:RI hi vh) (hc:len≤cap) (h0:0≤lo.getD 0) (hlh:lo.getD 0≤hi.getD len) (hn:hi.getD len≤len) (w:World) :
  (Instr.sliceBounds s len cap vl vh none).run P w = .ok ((lo.getD 0).toNat,(hi.getD len).toNat,cap) w:=by
 cases lo with
 | none =>
  cases vl with
  | some _=>exact h1.elim
  | none =>
   cases hi with
   | none =>
    cases vh with
    | some _=>exact h2.elim
    | none=>simp [Instr.sliceBounds]
   | some n =>
    cases vh with
    | none=>exact h2.elim
    | some v =>
     obtain ⟨k,rfl⟩:=h2
     simp only [Option.getD_some,Option.getD_none] at *
     cases s <;> simp [Instr.sliceBounds,run_sliceBound _ k n cap _ hlh (by omega)]
 | some m =>
  cases vl with
  | none=>exact h1.elim
  | some v =>
   obtain ⟨k',rfl⟩:=h1
   cases hi with
   | none =>
    cases vh with
    | some _=>exact h2.elim
    | none =>
     simp only [Option.getD_some,Option.getD_none] at *
     simp [Instr.sliceBounds,run_sliceBound _ k' m len _ h0 hlh]
   | some n =>
    cases vh with
    | none=>exact h2.elim
    | some v =>
     obtain ⟨k,rfl⟩:=h2
     simp only [Option.getD_some] at *
     have:(n.toNat:Int)=n:=Int.toNat_of_nonneg (by omega)
     have hb:m≤(n.toNat:Int):=by omega
     cases s <;> simp [Instr.sliceBounds,run_sliceBound _ k n cap _ (by omega:0≤n) (by omega),run_sliceBound _ k' m n.toNat _ h0 hb]
theorem qq5 {l h:Int} {n:Nat} (e:inS l h n=true):0≤l∧l≤h∧h≤n:=by
 simp only [inS,Bool.and_eq_true,decide_eq_true_eq] at e
 exact ⟨e.1.1,e.1.2,e.2⟩
section
variable {α : Type} {H : Heap} {rs : List Nat} {Q : α → List Nat → Prop}
theorem qyc {n:Nat} {lo hi:Option Int} {k:Nat→Nat→RM α} (h:(cutN n lo hi k).wp H rs Q) :
  0≤lo.getD 0∧lo.getD 0≤hi.getD n∧hi.getD n≤n∧(k (lo.getD 0).toNat ((hi.getD n).toNat-(lo.getD 0).toNat)).wp H rs Q:=by
 unfold cutN at h
 split at h
 ·simp only [Option.getD_none]
  exact ⟨by omega,by omega,by omega,by simpa using h⟩
 ·simp only [RM.wp] at h
  rcases h with ⟨e,h⟩ | ⟨_,h⟩
  ·obtain ⟨a,b,c⟩:=qq5 e
   exact ⟨a,b,by simp,by simpa using h⟩
  ·exact h.elim
 ·simp only [RM.wp] at h
  rcases h with ⟨e,h⟩ | ⟨_,h⟩
  ·obtain ⟨a,b,c⟩:=qq5 e
   exact ⟨a,b,c,by simpa using h⟩
  ·exact h.elim
 ·simp only [RM.wp] at h
  rcases h with ⟨e,h⟩ | ⟨_,h⟩
  ·obtain ⟨a,b,c⟩:=qq5 e
   exact ⟨a,b,c,by simpa using h⟩
  ·exact h.elim
theorem qacy {β:Type} {xs:List β} {lo hi:Option Int} {k:List β→RM α} (h:(cutL xs lo hi k).wp H rs Q) :
  0≤lo.getD 0∧lo.getD 0≤hi.getD xs.length∧hi.getD xs.length≤xs.length∧(k ((xs.drop (lo.getD 0).toNat).take ((hi.getD xs.length).toNat-(lo.getD 0).toNat))).wp H rs Q:=by
 unfold cutL at h
 split at h
 ·simp only [Option.getD_none]
  exact ⟨by omega,by omega,by omega,by simpa using h⟩
 ·simp only [RM.wp] at h
  rcases h with ⟨e,h⟩ | ⟨_,h⟩
  ·obtain ⟨a,b,c⟩:=qq5 e
   refine ⟨a,b,by simp,?_⟩
   simp only [Option.getD_some,Option.getD_none,Int.toNat_natCast]
   rw [List.take_of_length_le (by simp)]
   exact h
  ·exact h.elim
 ·simp only [RM.wp] at h
  rcases h with ⟨e,h⟩ | ⟨_,h⟩
  ·obtain ⟨a,b,c⟩:=qq5 e
   refine ⟨a,b,c,?_⟩
   simpa [takeL] using h
  ·exact h.elim
 ·simp only [RM.wp] at h
  rcases h with ⟨e,h⟩ | ⟨_,h⟩
  ·obtain ⟨a,b,c⟩:=qq5 e
   exact ⟨a,b,c,by simpa [subL] using h⟩
  ·exact h.elim
end
section
variable {P : Program}
def cutOf (a:Option Addr) (l h m s:Nat):Value:=.slice (if m=l then a else a.map (·.add (l*s))) (h-l) (m-l)
theorem qb2 {u:Ty} {t:TypeId} (hok:okTy P (.list u) t=true) {a:Option Addr} {len cap:Nat} {lo hi:Option Int} {vl vh:Option Value} (h1:RI lo vl) (h2:RI hi vh) (hc:len≤cap) (h0:0≤lo.getD 0) (hlh:lo.getD 0≤hi.getD len) (hn:hi.getD len≤len) (w:World) :
  (Instr.sliceAt t (.slice a len cap) vl vh none).run P w = .ok (cutOf a (lo.getD 0).toNat (hi.getD len).toNat cap u.size) w:=by
 obtain ⟨e,he,hk⟩:=qf9 hok
 simp [Instr.sliceAt,Instr.slice,run_underlying he,qp2 h1 h2 hc h0 hlh hn,qaw hk,cutOf]
theorem qs0 {u:Ty} {t:TypeId} {n:Nat} (hok:okTy P (.arr n u) t=true) {a:Addr} {lo hi:Option Int} {vl vh:Option Value} (h1:RI lo vl) (h2:RI hi vh) (h0:0≤lo.getD 0) (hlh:lo.getD 0≤hi.getD n) (hn:hi.getD n≤n) (w:World) :
  (Instr.sliceAt t (.pointer (some a)) vl vh none).run P w = .ok (cutOf (some a) (lo.getD 0).toNat (hi.getD n).toNat n u.size) w:=by
 obtain ⟨e,he,hk⟩:=qwx hok
 simp only [Instr.sliceAt,Sem.run_bind,run_underlying he,Result.andThen_ok,Instr.sureAddr,Sem.run_pure,qp2 h1 h2 (Nat.le_refl n) h0 hlh hn,qaw hk,cutOf]
 congr 2
 split <;> rfl
theorem qaj3 (s:List UInt8) (l h:Nat):(⟨s.toArray⟩:ByteArray).extract l h=⟨((s.drop l).take (h-l)).toArray⟩:=by
 apply ByteArray.ext
 simp [ByteArray.data_extract]
theorem qab5 {t:TypeId} (hok:okTy P .str t=true) {s:List UInt8} {lo hi:Option Int} {vl vh:Option Value} (h1:RI lo vl) (h2:RI hi vh) (h0:0≤lo.getD 0) (hlh:lo.getD 0≤hi.getD s.length) (hn:hi.getD s.length≤s.length) (w:World) :
  (Instr.sliceAt t (.string ⟨s.toArray⟩) vl vh none).run P w = .ok (.string ⟨((s.drop (lo.getD 0).toNat).take ((hi.getD s.length).toNat-(lo.getD 0).toNat)).toArray⟩) w:=by
 have hd:=quy hok
 have hsz:(⟨s.toArray⟩:ByteArray).size=s.length:=by simp [ByteArray.size]
 simp only [Instr.sliceAt,Instr.slice,Sem.run_bind,run_underlying hd,Result.andThen_ok,Option.isSome_none,Bool.false_eq_true,if_false,hsz,qp2 h1 h2 (Nat.le_refl s.length) h0 hlh hn,Sem.run_pure,qaj3]
end
end Go.Tm
namespace Go.Tm
open Go
section
variable {E : Env} {F : Fr} {ι : Nat → Inf} {K : Nat → Prop} {H : Heap} {w : World} {base : Nat} {Ψ : AV × Heap → List Nat → Prop} {l : Tmps} {ρ : Operand → Value} {o : Oper}
theorem qaif (hs : ∀ x,AVR E.P ι K w (Reg F ι H w) (rd l x) (ρ x)) {q:Option Operand} {r:Option Int} (h:oInt (rd l) q=some r):RI r (q.map ρ):=by
 cases q with
 | none=>simp [oInt] at h;subst h;trivial
 | some x =>
  have hx:=hs x
  simp only [oInt] at h
  split at h
  ·rename_i k n hn
   rw [hn] at hx
   simp only [Option.some.injEq] at h
   subst h
   exact ⟨k,qam.1 (qaf.1 hx)⟩
  ·simp at h
theorem qqu {l h m s:Nat} (hm:m=0) (hl:l=0) (hh:h=0) (a:Option Addr):cutOf a l h m s = .slice a 0 0:=by subst hm hl hh;simp [cutOf]
theorem qh6 {c q l h m s:Nat} : cutOf (some ⟨c,q,none⟩) l h m s = .slice (if m=l then some ⟨c,q,none⟩ else some ⟨c,q+l*s,none⟩) (h-l) (m-l):=by
 unfold cutOf;split <;> simp [addr_add]
theorem qamu (hE:EnvOK E) (h:Now E.P F ι K H w base) (hs : ∀ x,AVR E.P ι K w (Reg F ι H w) (rd l x) (ρ x)) {t:TypeId} {x:Operand} {lo hi:Option Operand} (ho:o.op = .slice t x lo hi none) (hwp:(exec E (.slice t x lo hi none) (rd l) base).wp H [] Ψ) :
  Comes' E.P (Fin E.P F ι K H w base Ψ) ((execOp ρ o).run E.P w):=by
 obtain ⟨dst,op,ty,pos,af,g⟩:=o
 subst ho
 have hx:=hs x
 simp only [exec] at hwp
 generalize rd l x=v at hwp hx
 split at hwp
 ·rename_i rl rh hel hl hh
  have hl:=qaif hs hl
  have hh:=qaif hs hh
  have hrun : ∀ r,(Instr.sliceAt t (ρ x) (lo.map ρ) (hi.map ρ) none).run E.P w = .ok r w→(execOp ρ { dst:=dst,op:=.slice t x lo hi none,type:=ty,pos:=pos,after:=af,guard:=g }).run E.P w = .ok (.value r) w:=by
   intro r hr;simp [execOp,hr]
  replace hwp:=qey hwp
  unfold sliceV at hwp
  split at hwp
  ·rename_i s
   obtain ⟨s,rfl⟩ : ∃ s':List UInt8,s'=s:=⟨s,rfl⟩
   have hok:=hE.tys t _ (qva hel)
   obtain ⟨h0,h1,h2,hq⟩:=qacy hwp
   have hv:ρ x = .string ⟨s.toArray⟩:=qbw.1 (qaf.1 hx)
   rw [hv] at hrun
   rw [hrun _ (qab5 hok hl hh h0 h1 h2 w)]
   exact qas h hq (qbw.2 rfl)
  ·rename_i u xs
   obtain ⟨xs,rfl⟩ : ∃ xs':List u.den,xs'=xs:=⟨xs,rfl⟩
   have hok:=hE.tys t _ (qr9 hel)
   obtain ⟨a,cap,hp,hcap,hx⟩:=qi1 (qaf.1 hx)
   obtain ⟨h0,h1,h2,hq⟩:=qacy hwp
   rw [hp] at hrun
   rw [hrun _ (qb2 hok hl hh hcap h0 h1 h2 w)]
   have hlen:((xs.drop (rl.getD 0).toNat).take ((rh.getD xs.length).toNat-(rl.getD 0).toNat)).length=(rh.getD xs.length).toNat-(rl.getD 0).toNat:=by simp;omega
   refine qas h hq ⟨[cutOf a (rl.getD 0).toNat (rh.getD xs.length).toNat cap u.size],?_,by simp [ValOf,Ty.isAgg]⟩
   by_cases hz:(rh.getD xs.length).toNat-(rl.getD 0).toNat=0
   ·exact ⟨_,_,by rw [hlen];rfl,by rw [hlen];omega,.inl (by rw [hlen];exact hz)⟩
   ·rcases hx with h0' | ⟨c,of,cs,rfl,hreg,hat,hr⟩
    ·omega
    ·rw [qh6,if_neg (by omega)]
     refine ⟨_,_,by rw [hlen],by rw [hlen];omega,.inr ⟨c,of+(rl.getD 0).toNat*u.size,(cs.drop ((rl.getD 0).toNat*u.size)).take (((rh.getD xs.length).toNat-(rl.getD 0).toNat)*u.size),rfl,hreg,?_,RepList.take (fun _ _ h=>h.length) _ (RepList.drop (fun _ _ h=>h.length) _ hr)⟩⟩
     exact hat.seg _ _
  ·obtain ⟨u,hu⟩:=qzt hel
   have hok:=hE.tys t _ hu
   obtain ⟨h0,h1,h2,hq⟩:=qyc hwp
   obtain ⟨cs,hc,hv⟩:=hx
   simp only [AVC] at hc;subst hc
   have hp:=qad (show ValOf false _ (ρ x) from hv)
   rw [hp] at hrun
   rw [hrun _ (qb2 hok hl hh (Nat.le_refl 0) h0 h1 h2 w),qqu rfl (by omega) (by omega)]
   exact Fin.pure h hq ⟨[_],by unfold AVC;rfl,rfl⟩
  ·rename_i b u
   have hok:=hE.tys t _ (qpe hel)
   obtain ⟨cs,hc,hv⟩:=hx
   have hc0:=hc
   simp only [AVC] at hc
   obtain ⟨hK,hc⟩:=hc
   split at hwp
   ·
    rcases hc with ⟨hk,a,rfl⟩ | ⟨n,room,cap,hk,rfl,hn,hr⟩
    ·have hp:=qad (show ValOf false _ (ρ x) from hv)
     rw [hp] at hrun
     rw [hrun _ (qb2 hok hl hh (Nat.le_refl 0) (by simp) (by simp) (by simp) w),qqu rfl (by simp) (by simp)]
     exact Fin.pure h hwp ⟨_,hc0,rfl⟩
    ·have hp:=qad (show ValOf false _ (ρ x) from hv)
     rw [hp] at hrun
     rw [hrun _ (qb2 hok hl hh hn (by simp) (by simp) (by simp) w),qh6]
     simp only [Option.getD_none,Int.toNat_natCast,Int.toNat_zero,Nat.zero_mul,Nat.add_zero,ite_self,Nat.sub_zero]
     exact Fin.pure h hwp ⟨_,hc0,rfl⟩
   ·simp only [RM.wp] at hwp
    obtain ⟨x',hx',hwp⟩:=hwp
    cases x' with
    | box _ _=>exact hwp.elim
    | row u' xs =>
     obtain ⟨h0,h1,h2,hq⟩:=qyc hwp
     have hblk:=h.inv.blks b _ hx'
     rcases hc with ⟨hk,a,rfl⟩ | ⟨n,room,cap,hk,rfl,hn,hr⟩
     ·rcases hblk with ⟨_,h0'⟩ | ⟨room,_,_,_,hk',_⟩
      ·have hp:=qad (show ValOf false _ (ρ x) from hv)
       rw [hp] at hrun
       rw [h0'] at h1 h2 hq
       rw [hrun _ (qb2 hok hl hh (Nat.le_refl 0) h0 h1 h2 w),qqu rfl (by omega) (by omega)]
       refine Fin.pure h hq ⟨[_],?_,rfl⟩
       unfold AVC
       exact ⟨hK,.inl ⟨by omega,⟨a,rfl⟩,.inr (.inl ⟨rfl,hk⟩)⟩⟩
      ·rw [hk] at hk';simp at hk'
     ·rcases hblk with ⟨hk',_⟩ | ⟨room',_,_,_,hk',_⟩
      ·rw [hk] at hk';simp at hk'
      ·have hk2:=hk
       rw [hk'] at hk2
       simp only [Kind.row.injEq] at hk2
       obtain ⟨rfl,hlen,rfl⟩:=hk2
       have hp:=qad (show ValOf false _ (ρ x) from hv)
       rw [hp] at hrun
       rw [hlen] at h1 h2 hq
       rw [hrun _ (qb2 hok hl hh hn h0 h1 h2 w),qh6]
       by_cases hz:cap=(rl.getD 0).toNat
       ·have e1:(rh.getD n).toNat-(rl.getD 0).toNat=0:=by omega
        rw [if_pos hz,e1,show cap-(rl.getD 0).toNat=0 by omega]
        rw [e1] at hq
        refine Fin.pure h hq ⟨[_],?_,rfl⟩
        unfold AVC
        exact ⟨hK,.inl ⟨rfl,⟨_,rfl⟩,.inl ⟨rfl,n,room',hk,by omega⟩⟩⟩
       ·rw [if_neg hz]
        refine Fin.pure h hq ⟨[_],?_,rfl⟩
        unfold AVC
        refine ⟨hK,.inr (.inl ⟨n,room',cap-(rl.getD 0).toNat,rfl,hk,rfl,by omega,by omega,?_⟩)⟩
        rw [show (rl.getD 0).toNat+(cap-(rl.getD 0).toNat)=cap by omega]
        exact ⟨Nat.le_of_eq hr.1,by omega⟩
  ·rename_i b p u off len
   have hok:=hE.tys t _ (ql5 hel)
   obtain ⟨cs,hc,hv⟩:=hx
   simp only [AVC] at hc
   obtain ⟨hK,hc⟩:=hc
   obtain ⟨h0,h1,h2,hq⟩:=qyc hwp
   rcases hc with ⟨rfl,⟨a,rfl⟩,hvalid⟩ | ⟨m,room,cap,rfl,hk,rfl,hlc,hln,hr⟩ | ⟨q,m,cap,hko,rfl,hlc,hln,hcm⟩
   ·have hp:=qad (show ValOf false _ (ρ x) from hv)
    rw [hp] at hrun
    have e1:(rl.getD 0).toNat=0:=by omega
    have e2:(rh.getD (0:Nat)).toNat=0:=by omega
    rw [hrun _ (qb2 hok hl hh (Nat.le_refl 0) h0 h1 h2 w),qqu rfl e1 e2]
    rw [e1,e2] at hq
    refine Fin.pure h hq ⟨[_],?_,rfl⟩
    unfold AVC
    exact ⟨hK,.inl ⟨rfl,⟨a,rfl⟩,by simpa using hvalid⟩⟩
   ·have hp:=qad (show ValOf false _ (ρ x) from hv)
    rw [hp] at hrun
    rw [hrun _ (qb2 hok hl hh hlc h0 h1 h2 w),qh6]
    by_cases hz:cap=(rl.getD 0).toNat
    ·have e1:(rh.getD len).toNat-(rl.getD 0).toNat=0:=by omega
     rw [if_pos hz,e1,show cap-(rl.getD 0).toNat=0 by omega]
     rw [e1] at hq
     refine Fin.pure h hq ⟨[_],?_,rfl⟩
     unfold AVC
     exact ⟨hK,.inl ⟨rfl,⟨_,rfl⟩,.inl ⟨rfl,m,room,hk,by omega⟩⟩⟩
    ·rw [if_neg hz]
     refine Fin.pure h hq ⟨[_],?_,rfl⟩
     unfold AVC
     refine ⟨hK,.inr (.inl ⟨m,room,cap-(rl.getD 0).toNat,rfl,hk,by rw [Nat.add_mul,Nat.add_assoc],by omega,by omega,?_⟩)⟩
     rw [show off+(rl.getD 0).toNat+(cap-(rl.getD 0).toNat)=off+cap by omega]
     exact ⟨hr.1,by omega⟩
   ·have hp:=qad (show ValOf false _ (ρ x) from hv)
    rw [hp] at hrun
    rw [hrun _ (qb2 hok hl hh hlc h0 h1 h2 w),qh6]
    by_cases hz:cap=(rl.getD 0).toNat
    ·have e1:(rh.getD len).toNat-(rl.getD 0).toNat=0:=by omega
     rw [if_pos hz,e1,show cap-(rl.getD 0).toNat=0 by omega]
     rw [e1] at hq
     refine Fin.pure h hq ⟨[_],?_,rfl⟩
     unfold AVC
     exact ⟨hK,.inl ⟨rfl,⟨_,rfl⟩,.inr (.inr ⟨q,m,hko,by omega⟩)⟩⟩
    ·rw [if_neg hz]
     refine Fin.pure h hq ⟨[_],?_,rfl⟩
     unfold AVC
     exact ⟨hK,.inr (.inr ⟨q,m,cap-(rl.getD 0).toNat,hko,by rw [Nat.add_mul,Nat.add_assoc,Nat.add_assoc],by omega,by omega,by omega⟩)⟩
  ·rename_i b p n u
   have hok:=hE.tys t _ (qaf0 hel)
   obtain ⟨cs,hc,hv⟩:=hx
   simp only [AVC] at hc
   obtain ⟨hK,of,hko,rfl⟩:=hc
   obtain ⟨h0,h1,h2,hq⟩:=qyc hwp
   have hp:=qad (show ValOf false _ (ρ x) from hv)
   rw [hp] at hrun
   rw [hrun _ (qs0 hok hl hh h0 h1 h2 w),qh6]
   by_cases hz:n=(rl.getD 0).toNat
   ·have e1:(rh.getD n).toNat-(rl.getD 0).toNat=0:=by omega
    rw [if_pos hz,e1,show n-(rl.getD 0).toNat=0 by omega]
    rw [e1] at hq
    refine Fin.pure h hq ⟨[_],?_,rfl⟩
    unfold AVC
    exact ⟨hK,.inl ⟨rfl,⟨_,rfl⟩,.inr (.inr ⟨of,n,hko,by omega⟩)⟩⟩
   ·rw [if_neg hz]
    refine Fin.pure h hq ⟨[_],?_,rfl⟩
    unfold AVC
    exact ⟨hK,.inr (.inr ⟨of,n,n-(rl.getD 0).toNat,hko,by rw [Nat.add_assoc],by omega,by omega,by omega⟩)⟩
  ·rename_i n u y
   have hok:=hE.tys t _ (qad4 hel)
   obtain ⟨cs,hc,hv⟩:=hx
   simp only [AVC] at hc
   obtain ⟨c,of,vs,rfl,hreg,hat,hr⟩:=hc
   have hn:(Vec.toList n y).length=n:=by
    have : ∀ {β:Type} (n:Nat) (z:Vec n β),(Vec.toList n z).length=n:=by
     intro β n
     induction n with
     | zero=>intro z;rfl
     | succ n ih=>intro z;simp [Vec.toList,ih]
    exact this n y
   obtain ⟨h0,h1,h2,hq⟩:=qacy hwp
   rw [hn] at h1 h2 hq
   have hp:=qad (show ValOf false _ (ρ x) from hv)
   rw [hp] at hrun
   rw [hrun _ (qs0 hok hl hh h0 h1 h2 w),qh6]
   have hlen:(((Vec.toList n y).drop (rl.getD 0).toNat).take ((rh.getD n).toNat-(rl.getD 0).toNat)).length=(rh.getD n).toNat-(rl.getD 0).toNat:=by simp [hn];omega
   refine qas h hq ⟨[_],?_,rfl⟩
   by_cases hz:(rh.getD n).toNat-(rl.getD 0).toNat=0
   ·exact ⟨_,_,by rw [hlen],by rw [hlen];omega,.inl (by rw [hlen];exact hz)⟩
   ·rw [if_neg (by omega)]
    refine ⟨_,_,by rw [hlen],by rw [hlen];omega,.inr ⟨c,of+(rl.getD 0).toNat*u.size,(vs.drop ((rl.getD 0).toNat*u.size)).take (((rh.getD n).toNat-(rl.getD 0).toNat)*u.size),rfl,hreg,hat.seg _ _,RepList.take (fun _ _ h=>h.length) _ (RepList.drop (fun _ _ h=>h.length) _ (RepVec.toList hr))⟩⟩
  ·exact hwp.elim
 ·exact hwp.elim
theorem qapc (hE:EnvOK E) (h:Now E.P F ι K H w base) (hs : ∀ x,AVR E.P ι K w (Reg F ι H w) (rd l x) (ρ x)) {as:Array Operand} {ts:Array TypeId} (ho:o.op = .call { callee:=.builtin .len,args:=as,argTypes:=ts })
  (hwp:(exec E (.call { callee:=.builtin .len,args:=as,argTypes:=ts }) (rd l) base).wp H [] Ψ) :
  Comes' E.P (Fin E.P F ι K H w base Ψ) ((execOp ρ o).run E.P w):=by
 obtain ⟨dst,op,ty,pos,af,g⟩:=o
 subst ho
 simp only [exec] at hwp
 split at hwp
 ·rename_i x t hxs hts
  obtain rfl:as = #[x]:=by cases as;simpa using hxs
  obtain rfl:ts = #[t]:=by cases ts;simpa using hts
  have hx:=hs x
  generalize rd l x=v at hwp hx
  cases hel:elemOK (E.tys t) v with
  | false=>rw [hel] at hwp;exact hwp.elim
  | true =>
   rw [hel] at hwp
   replace hwp:=qey hwp
   have hrun : ∀ n:Nat,(Builtin.len_ #[t] ty #[ρ x]).run E.P w = .ok (goInt n) w→(execOp ρ { dst:=dst,op:=.call { callee:=.builtin .len,args:=#[x],argTypes:=#[t] },type:=ty,pos:=pos,after:=af,guard:=g }).run E.P w = .ok (.value (.int .i64 n)) w:=by
    intro n hr;simp [execOp,resolve,invoke,builtin,hr];rfl
   have hsl : ∀ u a n cap,E.tys t=some (.list u)→ρ x = .slice a n cap→(Builtin.len_ #[t] ty #[ρ x]).run E.P w = .ok (goInt n) w:=by
    intro u a n cap hu hv
    obtain ⟨e,he,_⟩:=qf9 (hE.tys t _ hu)
    simp [Builtin.len_,run_underlying he,hv]
   unfold lenV at hwp
   split at hwp
   ·rename_i s
    obtain ⟨s,rfl⟩ : ∃ s':List UInt8,s'=s:=⟨s,rfl⟩
    have hd:=quy (hE.tys t _ (qva hel))
    have hv:ρ x = .string ⟨s.toArray⟩:=qbw.1 (qaf.1 hx)
    rw [hrun s.length (by simp only [Builtin.len_,hv];simp [run_underlying hd];rfl)]
    exact qas h hwp (qam.2 rfl)
   ·rename_i u xs
    obtain ⟨xs,rfl⟩ : ∃ xs':List u.den,xs'=xs:=⟨xs,rfl⟩
    obtain ⟨a,cap,hp,hcap,_⟩:=qi1 (qaf.1 hx)
    rw [hrun _ (hsl _ _ _ _ (qr9 hel) hp)]
    exact qas h hwp (qam.2 rfl)
   ·obtain ⟨u,hu⟩:=qzt hel
    obtain ⟨cs,hc,hv⟩:=hx
    simp only [AVC] at hc;subst hc
    have hp:=qad (show ValOf false _ (ρ x) from hv)
    rw [hrun 0 (hsl _ _ _ _ hu hp)]
    exact qas h hwp (qam.2 rfl)
   ·rename_i b p u off n
    obtain ⟨cs,hc,hv⟩:=hx
    simp only [AVC] at hc
    obtain ⟨hK,hc⟩:=hc
    have : ∃ a cap,cs=[.slice a n cap]:=by
     rcases hc with ⟨rfl,⟨a,rfl⟩,_⟩ | ⟨m,room,cap,_,_,rfl,_⟩ | ⟨q,m,cap,_,rfl,_⟩
     ·exact ⟨_,_,rfl⟩
     ·exact ⟨_,_,rfl⟩
     ·exact ⟨_,_,rfl⟩
    obtain ⟨a,cap,rfl⟩:=this
    have hp:=qad (show ValOf false _ (ρ x) from hv)
    rw [hrun n (hsl _ _ _ _ (ql5 hel) hp)]
    exact qas h hwp (qam.2 rfl)
   ·rename_i b u
    simp only [RM.wp] at hwp
    obtain ⟨x',hx',hwp⟩:=hwp
    cases x' with
    | box _ _=>exact hwp.elim
    | row u' xs =>
     obtain ⟨cs,hc,hv⟩:=hx
     simp only [AVC] at hc
     obtain ⟨hK,hc⟩:=hc
     have : ∃ a cap,cs=[.slice a (List.length xs) cap]:=by
      have hblk:=h.inv.blks b _ hx'
      rcases hc with ⟨hk,a,rfl⟩ | ⟨n,room,cap,hk,rfl,hn,hr⟩
      ·rcases hblk with ⟨_,h0'⟩ | ⟨room,_,_,_,hk',_⟩
       ·exact ⟨_,_,by rw [h0']⟩
       ·rw [hk] at hk';simp at hk'
      ·rcases hblk with ⟨hk',_⟩ | ⟨room',_,_,_,hk',_⟩
       ·rw [hk] at hk';simp at hk'
       ·rw [hk] at hk'
        simp only [Kind.row.injEq] at hk'
        exact ⟨_,_,by rw [hk'.2.1]⟩
     obtain ⟨a,cap,rfl⟩:=this
     have hp:=qad (show ValOf false _ (ρ x) from hv)
     rw [hrun _ (hsl _ _ _ _ (qpe hel) hp)]
     exact qas h hwp (qam.2 rfl)
   ·exact hwp.elim
 ·exact hwp.elim
end
end Go.Tm
