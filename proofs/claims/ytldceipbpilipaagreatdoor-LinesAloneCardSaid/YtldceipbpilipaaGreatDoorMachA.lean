/- The abstract machine: definitions, relations, operations. -/
import Derived.Orders
import Derived.Lib.AtoiAll
import Derived.Laws.AppendOwn
import Derived.Laws.Append
import Derived.Laws.Entries
import GoSem.Dispatch
import Derived.Laws.StructEq
import Derived.Laws.BytesString
import Derived.Laws.Slices
set_option linter.all false
namespace Go.Am
inductive D where
 |int (k:IntKind) (n:Int)
 |bool (b:Bool)
 |str (s:ByteArray)
 |nilI | nilP | nilM | nilF
 |iface (t:TypeId) (x:D)
 |list (xs:List D)
 |agg (cs:List D)
 |fn (f:FuncId)
 |err
 |num
 deriving Inhabited
inductive V where
 |d (x:D)
 |nilS
 |arr (id n:Nat)
 |sl (id tot off len:Nat)
 |emp
 |ptr (id off:Nat)
 |eptr (id n i off:Nat)
 |ro (cs:List D)
 |mp (id:Nat)
 |clo (f:FuncId) (caps:List V)
 |agg (cs:List V)
 |tup (vs:List V)
 |dead
 deriving Inhabited
inductive Obj where
 |box (cs:List V)
 |arr (sz:Nat) (xs:List D) (wm:Nat)
 |siter (s:ByteArray) (pos:Nat)
 |miter (m:Nat)
 |map (es:List (D × V)) (bs:List Nat) (ck:Nat)
 deriving Inhabited
mutual
def D.eqb:D→D→Bool
 |.int k n,y=>match y with | .int k' n'=>decide (k=k') && decide (n=n') | _=>false
 |.bool b,y=>match y with | .bool b'=>b == b' | _=>false
 |.str b,y=>match y with | .str b'=>decide (b=b') | _=>false
 |.nilI,y=>match y with | .nilI=>true | _=>false
 |.nilP,y=>match y with | .nilP=>true | _=>false
 |.nilM,y=>match y with | .nilM=>true | _=>false
 |.nilF,y=>match y with | .nilF=>true | _=>false
 |.iface t x,y=>match y with | .iface t' x'=>decide (t=t') && D.eqb x x' | _=>false
 |.list l,y=>match y with | .list l'=>eqbL l l' | _=>false
 |.agg l,y=>match y with | .agg l'=>eqbL l l' | _=>false
 |.fn f,y=>match y with | .fn f'=>decide (f=f') | _=>false
 |.err,y=>match y with | .err=>true | _=>false
 |.num,y=>match y with | .num=>true | _=>false
def eqbL:List D→List D→Bool
 |[],y=>match y with | []=>true | _=>false
 |x::xs,y=>match y with | y::ys=>D.eqb x y && eqbL xs ys | _=>false
end
mutual
theorem D.eqb_eq: ∀ (x y:D),D.eqb x y=true↔x=y
 |.int k n,y=>by cases y <;> simp[D.eqb]
 |.bool b,y=>by cases y <;> simp[D.eqb]
 |.str b,y=>by cases y <;> simp[D.eqb]
 |.nilI,y=>by cases y <;> simp[D.eqb]
 |.nilP,y=>by cases y <;> simp[D.eqb]
 |.nilM,y=>by cases y <;> simp[D.eqb]
 |.nilF,y=>by cases y <;> simp[D.eqb]
 |.iface t x,y=>by cases y <;> simp[D.eqb,D.eqb_eq x]
 |.list l,y=>by cases y <;> simp[D.eqb,eqbL_eq l]
 |.agg l,y=>by cases y <;> simp[D.eqb,eqbL_eq l]
 |.fn f,y=>by cases y <;> simp[D.eqb]
 |.err,y=>by cases y <;> simp[D.eqb]
 |.num,y=>by cases y <;> simp[D.eqb]
theorem eqbL_eq: ∀ (x y:List D),eqbL x y=true↔x=y
 |[],y=>by cases y <;> simp[eqbL]
 |x::xs,y=>by cases y <;> simp[eqbL,D.eqb_eq x,eqbL_eq xs]
end
mutual
def V.eqb:V→V→Bool
 |.d x,y=>match y with | .d x'=>D.eqb x x' | _=>false
 |.nilS,y=>match y with | .nilS=>true | _=>false
 |.arr i n,y=>match y with | .arr j m=>decide (i=j) && decide (n=m) | _=>false
 |.sl a b c d,y=>match y with | .sl a' b' c' d'=>decide (a=a') && decide (b=b') && decide (c=c') && decide (d=d') | _=>false
 |.emp,y=>match y with | .emp=>true | _=>false
 |.ptr i n,y=>match y with | .ptr j m=>decide (i=j) && decide (n=m) | _=>false
 |.eptr a b c d,y=>match y with | .eptr a' b' c' d'=>decide (a=a') && decide (b=b') && decide (c=c') && decide (d=d') | _=>false
 |.ro cs,y=>match y with | .ro cs'=>eqbL cs cs' | _=>false
 |.mp i,y=>match y with | .mp j=>decide (i=j) | _=>false
 |.clo f l,y=>match y with | .clo f' l'=>decide (f=f') && eqbV l l' | _=>false
 |.agg l,y=>match y with | .agg l'=>eqbV l l' | _=>false
 |.tup l,y=>match y with | .tup l'=>eqbV l l' | _=>false
 |.dead,y=>match y with | .dead=>true | _=>false
def eqbV:List V→List V→Bool
 |[],y=>match y with | []=>true | _=>false
 |x::xs,y=>match y with | y::ys=>V.eqb x y && eqbV xs ys | _=>false
end
mutual
theorem V.eqb_eq: ∀ (x y:V),V.eqb x y=true↔x=y
 |.d x,y=>by cases y <;> simp[V.eqb,D.eqb_eq]
 |.nilS,y=>by cases y <;> simp[V.eqb]
 |.arr _ _,y=>by cases y <;> simp[V.eqb]
 |.sl _ _ _ _,y=>by cases y <;> simp[V.eqb,and_assoc]
 |.emp,y=>by cases y <;> simp[V.eqb]
 |.ptr _ _,y=>by cases y <;> simp[V.eqb]
 |.eptr _ _ _ _,y=>by cases y <;> simp[V.eqb,and_assoc]
 |.ro _,y=>by cases y <;> simp[V.eqb,eqbL_eq]
 |.mp _,y=>by cases y <;> simp[V.eqb]
 |.clo f l,y=>by cases y <;> simp[V.eqb,eqbV_eq l]
 |.agg l,y=>by cases y <;> simp[V.eqb,eqbV_eq l]
 |.tup l,y=>by cases y <;> simp[V.eqb,eqbV_eq l]
 |.dead,y=>by cases y <;> simp[V.eqb]
theorem eqbV_eq: ∀ (x y:List V),eqbV x y=true↔x=y
 |[],y=>by cases y <;> simp[eqbV]
 |x::xs,y=>by cases y <;> simp[eqbV,V.eqb_eq x,eqbV_eq xs]
end
instance:DecidableEq D:=fun x y=>decidable_of_iff _ (D.eqb_eq x y)
instance:DecidableEq V:=fun x y=>decidable_of_iff _ (V.eqb_eq x y)
def eqbM:List (D × V)→List (D × V)→Bool
 |[],y=>match y with | []=>true | _=>false
 |(k,v)::r,y=>match y with | (k',v')::r'=>D.eqb k k' && (V.eqb v v' && eqbM r r') | _=>false
theorem eqbM_eq: ∀ (x y:List (D × V)),eqbM x y=true↔x=y
 |[],y=>by cases y <;> simp[eqbM]
 |(k,v)::r,y=>by
  cases y with
  |nil=>simp[eqbM]
  |cons p r'=>obtain⟨k',v'⟩:=p;simp[eqbM,D.eqb_eq,V.eqb_eq,eqbM_eq r,and_assoc]
def Obj.eqb:Obj→Obj→Bool
 |.box cs,y=>match y with | .box cs'=>eqbV cs cs' | _=>false
 |.arr a b c,y=>match y with | .arr a' b' c'=>decide (a=a') && eqbL b b' && decide (c=c') | _=>false
 |.siter a b,y=>match y with | .siter a' b'=>decide (a=a') && decide (b=b') | _=>false
 |.miter a,y=>match y with | .miter a'=>decide (a=a') | _=>false
 |.map es bs ck,y=>match y with | .map es' bs' ck'=>eqbM es es' && (decide (bs=bs') && decide (ck=ck')) | _=>false
theorem Obj.eqb_eq (x y:Obj):Obj.eqb x y=true↔x=y:=by
 cases x <;> cases y <;> simp[Obj.eqb,eqbV_eq,eqbL_eq,eqbM_eq,and_assoc]
instance:DecidableEq Obj:=fun x y=>decidable_of_iff _ (Obj.eqb_eq x y)
inductive Out where
 |normal
 |exit (id:Nat)
 |ret
 deriving Inhabited
def D.cells:D→List D
 |.agg cs=>cs
 |x=>[x]
def V.cells:V→List V
 |.agg cs=>cs
 |.d (.agg cs)=>cs.map .d
 |v=>[v]
def V.cellOk:V→Bool
 |.d (.agg _)=>false
 |.agg _=>false
 |.tup _=>false
 |.dead=>false
 |_=>true
def V.plain:V→Bool
 |.clo _ _=>false
 |.agg _=>false
 |.tup _=>false
 |.dead=>false
 |_=>true
def V.storable (v:V):Bool:=v.cells.all V.cellOk
def constD?:Value→Option D
 |.int k n=>some (.int k n)
 |.bool b=>some (.bool b)
 |.string s=>some (.str s)
 |.pointer none=>some .nilP
 |.map none=>some .nilM
 |.nilFunc=>some .nilF
 |.nilIface=>some .nilI
 |.slice none 0 0=>some (.list [])
 |_=>none
def constCell:Value→V
 |.int k n=> .d (.int k n)
 |.bool b=> .d (.bool b)
 |.string s=> .d (.str s)
 |.pointer none=> .d .nilP
 |.map none=> .d .nilM
 |.nilFunc=> .d .nilF
 |.nilIface=> .d .nilI
 |.slice none 0 0=> .nilS
 |.tuple vs=>if vs.isEmpty then .tup [] else .dead
 |_=> .dead
def V.asD?:V→Option D
 |.d x=>some x
 |_=>none
def mkAgg (cs:List V):V:=
 match cs.mapM V.asD? with
 |some ds=> .d (.agg ds)
 |none=> .agg cs
def constV:Value→V
 |.agg cs=>if (cs.toList.map constCell).all V.cellOk then mkAgg (cs.toList.map constCell) else .dead
 |v=>constCell v
def agg? (P:Program) (t:TypeId):Option Bool:=
 match P.underlying t with
 |some (.struct _) | some (.array _ _)=>some true
 |some _=>some false
 |none=>none
def sizeOf? (P:Program) (t:TypeId):Option Nat:=(P.info? t).map (·.size)
def zero? (P:Program) (t:TypeId):Option Value:=(P.info? t).bind (·.zero)
def elemSize (P:Program) (t:TypeId):Nat:=
 match P.underlying t with
 |some (.slice e)=>(sizeOf? P e).getD 0
 |_=>0
def cut (xs:List D) (l h:Nat):List D:=(xs.take h).drop l
def pure1 (h:List Obj):V→Option (D × List Obj)
 |.d x=>some (x,h)
 |.nilS=>some (.list [],h)
 |.emp=>some (.list [],h)
 |.arr id n=>
  match h[id]? with
  |some (.arr sz xs _)=>if n=xs.length then some (.list xs,h.set id (.arr sz xs xs.length)) else none
  |_=>none
 |.sl id tot off len=>
  match h[id]? with
  |some (.arr sz xs _)=>if tot=xs.length then some (.list (cut xs off (off+len)),h.set id (.arr sz xs xs.length)) else none
  |_=>none
 |_=>none
def pureList (h:List Obj):List V→Option (List D × List Obj)
 |[]=>some ([],h)
 |v::vs=>
  match pure1 h v with
  |some (x,h1)=>
   match pureList h1 vs with
   |some (xs,h2)=>some (x::xs,h2)
   |none=>none
  |none=>none
def pureV (h:List Obj):V→Option (D × List Obj)
 |.agg cs=>(pureList h cs).map fun (xs,h)=>(.agg xs,h)
 |v=>pure1 h v
def pureVs (h:List Obj):List V→Option (List D × List Obj)
 |[]=>some ([],h)
 |v::vs=>
  match pureV h v with
  |some (x,h1)=>
   match pureVs h1 vs with
   |some (xs,h2)=>some (x::xs,h2)
   |none=>none
  |none=>none
def cold (h:List Obj):V→Option D
 |.nilS=>some (.list [])
 |.arr id n=>
  match h[id]? with
  |some (.arr _ xs wm)=>if n=xs.length∧wm=xs.length then some (.list xs) else none
  |_=>none
 |_=>none
def coolV (h:List Obj):V→List Obj
 |.mp id=>
  match h[id]? with
  |some (.box cs)=>match pureList h cs with | some (_,h1)=>h1 | none=>h
  |_=>h
 |_=>h
def elems? (h:List Obj):V→Option (List D)
 |.d (.list xs)=>some xs
 |.nilS=>some []
 |.emp=>some []
 |.arr id n=>
  match h[id]? with
  |some (.arr _ xs _)=>if n=xs.length then some xs else none
  |_=>none
 |.sl id tot off len=>
  match h[id]? with
  |some (.arr _ xs _)=>if tot=xs.length then some (cut xs off (off+len)) else none
  |_=>none
 |.mp id=>
  match h[id]? with
  |some (.box cs)=>cs.mapM (cold h)
  |_=>none
 |_=>none
def byteD (b:UInt8):D:= .int .u8 b.toNat
/-! ### operators -/
def intBin (op:BinOp) (k:IntKind) (x y:Int):Option D:=
 match op with
 |.add=>some (.int k (k.wrap (x+y)))
 |.sub=>some (.int k (k.wrap (x - y)))
 |.mul=>some (.int k (k.wrap (x*y)))
 |.quo=>if y=0 then none else some (.int k (k.wrap (x.tdiv y)))
 |.rem=>if y=0 then none else some (.int k (x.tmod y))
 |.and=>some (.int k (k.wrap (BitVec.ofInt k.bits x &&& BitVec.ofInt k.bits y).toNat))
 |.or=>some (.int k (k.wrap (BitVec.ofInt k.bits x ||| BitVec.ofInt k.bits y).toNat))
 |.xor=>some (.int k (k.wrap (BitVec.ofInt k.bits x ^^^ BitVec.ofInt k.bits y).toNat))
 |.andNot=>some (.int k (k.wrap (BitVec.ofInt k.bits x &&& ~~~ BitVec.ofInt k.bits y).toNat))
 |.eql=>some (.bool (x == y))
 |.neq=>some (.bool (x != y))
 |.lss=>some (.bool (x<y))
 |.leq=>some (.bool (x≤y))
 |.gtr=>some (.bool (x>y))
 |.geq=>some (.bool (x≥y))
 |_=>none
def shiftBin (op:BinOp) (k:IntKind) (x y:Int):Option D:=
 if y<0 then none else
 match op with
 |.shl=>some (.int k (k.wrap (x*2 ^ (min y.toNat k.bits))))
 |.shr=>some (.int k (x.fdiv (2 ^ (min y.toNat k.bits))))
 |_=>none
def strBin (op:BinOp) (x y:ByteArray):Option D:=
 match op with
 |.add=>if x.size+y.size<2147483648 then some (.str (x++y)) else none
 |.eql=>some (.bool (x.toList == y.toList))
 |.neq=>some (.bool !(x.toList == y.toList))
 |.lss=>some (.bool (Op.bytesLess x.toList y.toList))
 |.leq=>some (.bool (Op.bytesLess x.toList y.toList || x.toList == y.toList))
 |.gtr=>some (.bool !(Op.bytesLess x.toList y.toList || x.toList == y.toList))
 |.geq=>some (.bool !(Op.bytesLess x.toList y.toList))
 |_=>none
def cellKind (P:Program) (t:TypeId):Option Nat:=
 match P.underlying t with
 |some (.int _)=>some 0
 |some .bool=>some 1
 |some .string=>some 2
 |_=>none
def flat1 (P:Program) (t:TypeId):Option (List (Nat × Nat)):=
 match P.underlying t with
 | some (.struct fs) => if !P.stoodInHeld t && fs.toList.all (fun f => f.name != "_") then fs.toList.mapM fun f => (cellKind P f.type).map fun k => (f.offset, k) else none
 |_=>none
def flatF (P:Program) (f:Field):Option (List (Nat × Nat)):=
 match cellKind P f.type with
 |some k=>some [(f.offset,k)]
 |none=>
  match flat1 P f.type,sizeOf? P f.type with
  |some l,some n=>if agg? P f.type=some true∧l.all (fun p=>decide (p.1<n))=true then some (l.map fun p=>(f.offset+p.1,p.2)) else none
  |_,_=>none
def flatFs (P:Program):List Field→Option (List (Nat × Nat))
 |[]=>some []
 |f::fs=>match flatF P f,flatFs P fs with
  |some l,some l'=>some (l++l')
  |_,_=>none
def flatStruct (P:Program) (t:TypeId):Option (List (Nat × Nat)):=
 match P.underlying t with
 | some (.struct fs) => if !P.stoodInHeld t && !P.eqGuardType P.depth t && fs.toList.all (fun f => f.name != "_") then flatFs P fs.toList else none
 |_=>none
def eqCell (k:Nat) (x y:D):Option Bool:=
 match k,x,y with
 |0,.int k a,.int k' b=>if k=k' then some (a == b) else none
 |1,.bool a,.bool b=>some (a == b)
 |2,.str a,.str b=>some (a.toList == b.toList)
 |_,_,_=>none
def eqCells:List (Nat × Nat)→List D→List D→Option Bool
 |[],_,_=>some true
 |(o,k)::r,xs,ys=>
  match xs[o]?,ys[o]? with
  |some x,some y=>
   match eqCell k x y,eqCells r xs ys with
   |some a,some b=>some (a && b)
   |_,_=>none
  |_,_=>none
def eqV (P:Program) (t:TypeId) (x y:V):Option Bool:=
 match P.underlying t,x,y with
 |some (.slice _),.nilS,.nilS=>some true
 |some (.slice _),.emp,.nilS=>some false
 |some (.slice _),.d (.list (_::_)),.nilS=>some false
 |some (.interface ms),.d .nilI,.d .nilI=>if ms.isEmpty then some true else none
 |some (.interface _),.d (.iface _ _),.d .nilI=>some false
 |some (.interface _),.d .nilI,.d (.iface _ _)=>some false
 |some (.interface _),.d .err,.d .nilI=>some false
 |some (.interface _),.d .nilI,.d .err=>some false
 |some (.pointer _),.ptr _ _,.d .nilP=>some false
 |some (.pointer _),.d .nilP,.d .nilP=>some true
 |some (.struct _),.d (.agg xs),.d (.agg ys)=>
  match flatStruct P t with
  |some l=>eqCells l xs ys
  |none=>none
 |_,_,_=>none
def binD (P:Program) (op:BinOp) (t:TypeId) (x y:V):Option D:=
 match x,y with
 |.d (.int k a),.d (.int k' b)=>
  match op with
  |.shl | .shr=>shiftBin op k a b
  |_=>if k=k' then intBin op k a b else none
 |.d (.str a),.d (.str b)=>strBin op a b
 |.d (.bool a),.d (.bool b)=>
  match P.underlying t with
  |some .bool=>
   match op with
   |.eql=>some (.bool (a == b))
   |.neq=>some (.bool !(a == b))
   |_=>none
  |_=>none
 |x,y=>
  match op with
  |.eql=>(eqV P t x y).map .bool
  |.neq=>(eqV P t x y).map fun b=> .bool !b
  |_=>none
def isLit:Operand→Bool
 |.const _=>true
 |_=>false
def isNilI:V→Bool
 |.d .nilI=>true
 |_=>false
def nilE (P:Program) (op:BinOp) (t:TypeId):Option D:=
 match P.underlying t,op with
 |some (.interface _),.eql=>some (.bool true)
 |some (.interface _),.neq=>some (.bool false)
 |_,_=>none
def binE (P:Program) (op:BinOp) (t:TypeId) (x y:Operand) (A B:V):Option D:=
 if ((isLit x || isLit y) && (isNilI A && isNilI B))=true then nilE P op t else binD P op t A B
def unD (op:UnOp) (x:V):Option D:=
 match op,x with
 |.neg,.d (.int k n)=>some (.int k (k.wrap (0 - n)))
 |.xor,.d (.int k n)=>some (.int k (k.wrap (BitVec.ofInt k.bits (if k.signed then -1 else k.max) ^^^ BitVec.ofInt k.bits n).toNat))
 |.not,.d (.bool b)=>some (.bool !b)
 |_,_=>none
def byteOf?:D→Option UInt8
 |.int .u8 n=>some (UInt8.ofNat n.toNat)
 |_=>none
def runeOf?:D→Option Int
 |.int .i32 n=>some n
 |_=>none
def encL (ns:List Int):ByteArray:=ns.foldl (fun s n=>s++Utf8.encode n) ByteArray.empty
def runesL (s:ByteArray):Nat→Nat→List Nat
 |0,_=>[]
 |b+1,i=>if i<s.size then (Utf8.decode s i).1::runesL s b (i+(Utf8.decode s i).2) else []
def runesOf (s:ByteArray):List Nat:=runesL s s.size 0
def readConvV (P:Program) (h:List Obj) (src dst:TypeId) (x:V):Option V:=
 match P.underlying src,P.underlying dst,x with
 |some _,some (.int k),.d (.int _ n)=>some (.d (.int k (k.wrap n)))
 |some .string,some .string,.d (.str s)=>some (.d (.str s))
 |some (.slice e),some .string,x=>
  match P.underlying e,elems? h x with
  |some (.int .u8),some xs=>(xs.mapM byteOf?).map fun bs=> .d (.str ⟨bs.toArray⟩)
  |some (.int .i32),some xs=>(xs.mapM runeOf?).map fun ns=> .d (.str (encL ns))
  |_,_=>none
 |_,_,_=>none
def convV (P:Program) (h:List Obj) (src dst:TypeId) (x:V):Option (V × List Obj):=
 match P.underlying src,P.underlying dst,x with
 |some .string,some (.slice e),.d (.str s)=>
  match P.underlying e,sizeOf? P e with
  |some (.int .u8),some 1=>if s.size<2147483648 then some (.arr h.length s.size,h++[.arr 1 (s.data.toList.map byteD) 0]) else none
  |some (.int .i32),some 1=>if s.size<2147483648 then some (.arr h.length (runesOf s).length,h++[.arr 1 ((runesOf s).map fun (n:Nat)=> .int .i32 n) 0]) else none
  |_,_=>none
 |some (.slice e),some (.slice _),.arr id n=>
  match P.underlying e,h[id]? with
  |some (.int .u8),some (.arr _ xs _)=>if src=dst∧n=xs.length∧0<n then some (.arr id n,h) else none
  |_,_=>none
 |_,_,x=>(readConvV P h src dst x).map fun v=>(v,h)
def allSize (n:Nat):List D→Bool
 |[]=>true
 |x::xs=>x.cells.length == n && allSize n xs
def natOf?:V→Option Nat
 |.d (.int _ n)=>if 0≤n then some n.toNat else none
 |_=>none
def bound? (d:Nat):Option V→Option Nat
 |some v=>natOf? v
 |none=>some d
def bounds? (n:Nat) (lo hi:Option V):Option (Nat × Nat):=
 match bound? n hi,bound? 0 lo with
 |some h,some l=>if l≤h∧h≤n then some (l,h) else none
 |_,_=>none
def sliceV (P:Program) (h:List Obj) (t:TypeId) (x:V) (lo hi mx:Option V):Option V:=
 match P.underlying t,x,mx with
 |some .string,.d (.str s),none=>
  match bounds? s.size lo hi with
  |some (l,u)=>some (.d (.str (s.extract l u)))
  |none=>none
 |some (.slice e),.d (.list xs),none=>
  match bounds? xs.length lo hi,sizeOf? P e with
  |some (l,u),some sz=>if l == 0 || allSize sz xs then some (.d (.list (cut xs l u))) else none
  |_,_=>none
 |some (.slice e),.nilS,none=>
  match bounds? 0 lo hi,sizeOf? P e with
  |some _,some _=>some .nilS
  |_,_=>none
 |some (.slice e),.arr id n,none=>
  match h[id]?,sizeOf? P e with
  |some (.arr sz xs wm),some sz'=>
   if n=xs.length∧wm=n∧sz=sz' then
    match bounds? n lo hi with
    |some (l,u)=>some (.d (.list (cut xs l u)))
    |none=>none
   else if n=xs.length∧sz=sz' then
    match bounds? n lo hi with
    |some (l,u)=>some (.sl id n l (u - l))
    |none=>none
   else none
  |_,_=>none
 |some (.slice e),.sl id tot off len,none=>
  match h[id]?,sizeOf? P e with
  |some (.arr sz xs _),some sz'=>
   if tot=xs.length∧sz=sz' then
    match bounds? len lo hi with
    |some (l,u)=>some (.sl id tot (off+l) (u - l))
    |none=>none
   else none
  |_,_=>none
 |some (.slice e),.emp,none=>
  match bounds? 0 lo hi,sizeOf? P e with
  |some _,some _=>some .emp
  |_,_=>none
 |_,_,_=>none
def fieldOff? (P:Program) (t:TypeId) (f:Nat):Option (Nat × TypeId):=
 match P.underlying t with
 |some (.struct fs)=>
  match fs[f]? with
  |some x=>
   match sizeOf? P x.type with
   |some (_+1)=>some (x.offset,x.type)
   |_=>none
  |none=>none
 |_=>none
def loadFrom (P:Program) (t:TypeId) (cs:List V) (off:Nat):Option V:=
 match agg? P t with
 |some true=>
  match sizeOf? P t with
  |some n=>if off+n≤cs.length then some (mkAgg ((cs.drop off).take n)) else none
  |none=>none
 |some false=>cs[off]?
 |none=>none
def loadFromD (P:Program) (t:TypeId) (cs:List D) (off:Nat):Option V:=
 match agg? P t with
 |some true=>
  match sizeOf? P t with
  |some n=>if off+n≤cs.length then some (.d (.agg ((cs.drop off).take n))) else none
  |none=>none
 |some false=>(cs[off]?).map .d
 |none=>none
def loadV (P:Program) (h:List Obj) (t:TypeId) (a:V):Option V:=
 match a with
 |.ptr id off=>
  match h[id]? with
  |some (.box cs)=>loadFrom P t cs off
  |_=>none
 |.eptr id n i off=>
  match h[id]? with
  |some (.arr _ xs _)=>
   if n=xs.length then
    match xs[i]? with
    |some x=>loadFromD P t x.cells off
    |none=>none
   else none
  |_=>none
 |.ro cs=>loadFromD P t cs 0
 |_=>none
def putCells {α:Type} (cs:List α) (off:Nat) (vs:List α):List α:=cs.take off++vs++cs.drop (off+vs.length)
def storeV (P:Program) (h:List Obj) (t:TypeId) (a v:V):Option (List Obj):=
 match a with
 |.ptr id off=>
  match h[id]? with
  |some (.box cs)=>
   match sizeOf? P t with
   |some n=>if v.cells.length=n∧off+n≤cs.length∧v.storable then some (h.set id (.box (putCells cs off v.cells))) else none
   |none=>none
  |_=>none
 |.eptr id n i off=>
  match pureV h v,sizeOf? P t with
  |some (y,h1),some m=>
   match h1[id]? with
   |some (.arr sz xs wm)=>
    match xs[i]? with
    |some x=>
     if n=xs.length∧wm≤i∧y.cells.length=m∧off+m≤sz then
      if m=sz then some (h1.set id (.arr sz (xs.set i y) wm))
      else some (h1.set id (.arr sz (xs.set i (.agg (putCells x.cells off y.cells))) wm))
     else none
    |none=>none
   |_=>none
  |_,_=>none
 |_=>none
def indexAddrV (P:Program) (h:List Obj) (t:TypeId) (x i:V):Option V:=
 match P.underlying t,i with
 |some (.slice e),.d (.int _ n)=>
  if 0≤n then
   match x with
   |.d (.list xs)=>
    match xs[n.toNat]?,sizeOf? P e with
    |some x,some sz=>if x.cells.length=sz then some (.ro x.cells) else none
    |_,_=>none
   |.arr id m=>
    match h[id]?,sizeOf? P e with
    |some (.arr sz xs _),some sz'=>if m=xs.length∧n.toNat<m∧sz=sz' then some (.eptr id m n.toNat 0) else none
    |_,_=>none
   |.sl id tot off len=>
    match h[id]?,sizeOf? P e with
    |some (.arr sz xs _),some sz'=>if tot=xs.length∧n.toNat<len∧sz=sz' then some (.eptr id tot (off+n.toNat) 0) else none
    |_,_=>none
   |.mp id=>
    match h[id]?,sizeOf? P e with
    |some (.box cs),some sz=>if n.toNat<cs.length∧sz=1 then some (.ptr id n.toNat) else none
    |_,_=>none
   |_=>none
  else none
 |some (.array len e),.d (.int _ n)=>
  if 0≤n∧n<len then
   match x,sizeOf? P e with
   |.ptr id off,some sz=>some (.ptr id (off+n.toNat*sz))
   |.ro cs,some sz=>some (.ro (cs.drop (n.toNat*sz)))
   |_,_=>none
  else none
 |_,_=>none
def fieldAddrV (P:Program) (t:TypeId) (x:V) (f:Nat):Option V:=
 match fieldOff? P t f with
 |some (o,_)=>
  match x with
  |.ptr id off=>some (.ptr id (off+o))
  |.eptr id n i off=>some (.eptr id n i (off+o))
  |.ro cs=>some (.ro (cs.drop o))
  |_=>none
 |none=>none
def fieldV (P:Program) (t:TypeId) (x:V) (f:Nat):Option V:=
 match fieldOff? P t f with
 |some (o,ft)=>
  match x with
  |.d (.agg cs)=>loadFromD P ft cs o
  |.agg cs=>loadFrom P ft cs o
  |_=>none
 |none=>none
def indexV (P:Program) (t:TypeId) (x i:V):Option V:=
 match P.underlying t,x,i with
 |some .string,.d (.str s),.d (.int _ n)=>
  if 0≤n then (s[n.toNat]?).map fun b=> .d (byteD b) else none
 |some (.array len e),x,.d (.int _ n)=>
  if 0≤n∧n<len then
   match x,sizeOf? P e with
   |.d (.agg cs),some sz=>loadFromD P e cs (n.toNat*sz)
   |.agg cs,some sz=>loadFrom P e cs (n.toNat*sz)
   |_,_=>none
  else none
 |_,_,_=>none
def fillV (place:Nat→Option (Nat × Nat)) (cs:List V):List (Nat × V)→Option (List V)
 |[]=>some cs
 |(i,v)::rest=>
  match place i with
  |some (off,size)=>if v.cells.length=size∧off+size≤cs.length∧v.storable then fillV place (putCells cs off v.cells) rest else none
  |none=>none
def buildV (P:Program) (t:TypeId) (parts:List (Nat × V)):Option V:=
 match zero? P t,P.underlying t with
 |some z,some (.struct fs)=>
  if (z.cells.toList.map constCell).all V.cellOk && fs.toList.all (fun f=>(sizeOf? P f.type).isSome) then (fillV (fun i=>(fs[i]?).bind fun f=>(sizeOf? P f.type).map fun s=>(f.offset,s)) (z.cells.toList.map constCell) parts).map mkAgg else none
 |some z,some (.array _ e)=>
  match sizeOf? P e with
  |some s=>if (z.cells.toList.map constCell).all V.cellOk then (fillV (fun i=>some (i*s,s)) (z.cells.toList.map constCell) parts).map mkAgg else none
  |none=>none
 |_,_=>none
def zeroD? (P:Program) (t:TypeId):Option D:=
 match zero? P t with
 |some (.agg cs)=>(cs.toList.mapM constD?).map .agg
 |some z=>constD? z
 |none=>none
def inOrder:List (Nat × V)→Nat→Bool
 |[],_=>true
 |(i,_)::r,k=>i == k && inOrder r (k+1)
def buildSliceV (P:Program) (h:List Obj) (t:TypeId) (len:Nat) (parts:List (Nat × V)):Option (V × List Obj):=
 match P.underlying t with
 |some (.slice e)=>
  match sizeOf? P e,zero? P e with
  |some sz,some _=>
   if 0<sz∧parts.length=len∧len*sz≤65536∧inOrder parts 0 then
    match pureVs h (parts.map (·.2)) with
    |some (xs,h1)=>if allSize sz xs then some (.arr h1.length len,h1++[.arr sz xs 0]) else none
    |none=>none
   else none
  |_,_=>none
 |_=>none
def makeSliceV (P:Program) (h:List Obj) (t:TypeId) (l c:V):Option (V × List Obj):=
 match P.underlying t,l,c with
 |some (.slice e),.d (.int _ n),.d (.int _ m)=>
  match P.info? e,zeroD? P e with
  |some i,some z=>
   if 0≤n∧n≤m∧m<2147483648∧i.bytes≤65536∧0<i.size∧z.cells.length=i.size then
    some (.arr h.length n.toNat,h++[.arr i.size (List.replicate n.toNat z) 0])
   else none
  |_,_=>none
 |_,_,_=>none
def rowsT (P:Program) (t:TypeId):Bool:=
 match P.underlying t with
 |some (.slice e)=>match P.underlying e with | some (.slice _)=>true | _=>false
 |_=>false
def makeRowsV (P:Program) (h:List Obj) (t:TypeId) (l c:V):Option (V × List Obj):=
 match P.underlying t,l,c with
 |some (.slice e),.d (.int _ n),.d (.int _ m)=>
  match P.info? e with
  |some i=>if 0≤n∧n=m∧m<2147483648∧i.bytes≤65536∧i.size=1∧i.zero.map (·.cells.toList.map constCell)=some [.nilS] then some (.mp h.length,h++[.box (List.replicate n.toNat .nilS)]) else none
  |none=>none
 |_,_,_=>none
def lenV (P:Program) (h:List Obj) (t:TypeId) (x:V):Option Nat:=
 match P.underlying t,x with
 |some .string,.d (.str s)=>some s.size
 |some (.slice _),.d (.list xs)=>some xs.length
 |some (.slice _),.nilS=>some 0
 |some (.slice _),.arr id n=>
  match h[id]? with
  |some (.arr _ xs _)=>if n=xs.length then some n else none
  |_=>none
 |some (.slice _),.emp=>some 0
 |some (.slice _),.sl id tot _ len=>
  match h[id]? with
  |some (.arr _ xs _)=>if tot=xs.length then some len else none
  |_=>none
 |some (.slice _),.mp id=>match h[id]? with | some (.box cs)=>some cs.length | _=>none
 |some (.array n _),_=>some n
 |_,_=>none
def source? (P:Program) (h:List Obj) (t:TypeId) (x:V):Option (List D):=
 match P.underlying t,x with
 |some .string,.d (.str s)=>some (s.data.toList.map byteD)
 |some (.slice _),x=>elems? h x
 |_,_=>none
def appendV (P:Program) (h:List Obj) (ts tx:TypeId) (s x:V):Option (V × List Obj):=
 match P.underlying ts with
 |some (.slice e)=>
  match P.info? e,source? P h tx x with
  |some i,some ys=>
   if i.zero.map (·.cells.size)=some i.size∧0<i.size∧i.bytes≤65536 then
    match s with
    |.nilS=>if ys.length<2147483648∧allSize i.size ys then some (.arr h.length ys.length,h++[.arr i.size ys 0]) else none
    |.arr id n=>
     match h[id]? with
     |some (.arr sz xs wm)=>
      if n=xs.length∧sz=i.size∧n+ys.length<2147483648∧allSize i.size ys then
       some (.arr id (n+ys.length),h.set id (.arr sz (xs++ys) wm))
      else none
     |_=>none
    |_=>none
   else none
  |_,_=>none
 |_=>none
def window:V→Option (Nat × Nat × Nat × Nat)
 |.arr id n=>some (id,n,0,n)
 |.sl id tot off len=>some (id,tot,off,len)
 |_=>none
def overV (h:List Obj) (id tot off:Nat) (ys:List D):Option (List Obj):=
 match h[id]? with
 |some (.arr sz xs wm)=>if tot=xs.length∧wm≤off∧off+ys.length≤xs.length∧allSize sz ys then some (h.set id (.arr sz (putCells xs off ys) wm)) else none
 |_=>none
def copyV (P:Program) (h:List Obj) (td:TypeId) (dst src:V):Option (V × List Obj):=
 match P.underlying td with
 |some (.slice e)=>
  match window dst,elems? h src,sizeOf? P e with
  |some (id,tot,off,len),some ys,some n=>
   match h[id]? with
   |some (.arr sz _ _)=>
    if sz=n∧allSize n ys then (overV h id tot off (ys.take len)).map fun h=>(.d (.int .i64 (min ys.length len:Nat)),h) else none
   |_=>none
  |_,_,_=>none
 |_=>none
def clearV (P:Program) (h:List Obj) (t:TypeId) (x:V):Option (V × List Obj):=
 match P.underlying t with
 |some (.slice e)=>
  match window x,zeroD? P e,sizeOf? P e with
  |some (id,tot,off,len),some z,some n=>
   match h[id]? with
   |some (.arr sz _ _)=>
    if sz=n∧z.cells.length=n then (overV h id tot off (List.replicate len z)).map fun h=>(.tup [],h) else none
   |_=>none
  |_,_,_=>none
 |_=>none
def min2:V→V→Option V
 |.d (.int k x),.d (.int k' y)=>if k=k' then some (.d (.int k (if y<x then y else x))) else none
 |_,_=>none
def max2:V→V→Option V
 |.d (.int k x),.d (.int k' y)=>if k=k' then some (.d (.int k (if y>x then y else x))) else none
 |_,_=>none
def foldV (f:V→V→Option V) (x:V):List V→Option V
 |[]=>some x
 |y::r=>match f x y with | some z=>foldV f z r | none=>none
def builtinV (P:Program) (h:List Obj) (b:Builtin) (ts:List TypeId) (args:List V):Option (V × List Obj):=
 match b,ts,args with
 |.len,t::_,x::_=>(lenV P h t x).map fun (n:Nat)=>(.d (.int .i64 (n:Int)),h)
 |.append,ts::tx::_,s::x::_=>appendV P (coolV h x) ts tx s x
 |.copy,td::_::_,d::x::_=>copyV P h td d x
 |.clear,t::_,x::_=>clearV P h t x
 |.min,_,x::rest=>(foldV min2 x rest).map fun v=>(v,h)
 |.max,_,x::rest=>(foldV max2 x rest).map fun v=>(v,h)
 |_,_,_=>none
def assertV (P:Program) (x:V) (asserted:TypeId) (commaOk:Bool):Option V:=
 match P.underlying asserted,x with
 |some (.interface _),_=>none
 |some _,.d .nilI=>if commaOk then (zeroD? P asserted).map fun z=> .tup [.d z,.d (.bool false)] else none
 |some _,.d (.iface t v)=>
  if t=asserted then some (if commaOk then .tup [.d v,.d (.bool true)] else .d v)
  else if commaOk then (zeroD? P asserted).map fun z=> .tup [.d z,.d (.bool false)] else none
 |_,_=>none
/-! ### ids:renaming,reaching -/
def V.ren0 (f:Nat→Option Nat):V→Option V
 |.arr id n=>(f id).map fun i=> .arr i n
 |.ptr id o=>(f id).map fun j=> .ptr j o
 |.sl id t o l=>(f id).map fun i=> .sl i t o l
 |.emp=>some .emp
 |.eptr id n i o=>(f id).map fun j=> .eptr j n i o
 |.mp id=>(f id).map fun i=> .mp i
 |.d x=>some (.d x)
 |.nilS=>some .nilS
 |.ro cs=>some (.ro cs)
 |.dead=>some .dead
 |_=>none
def V.ren1 (f:Nat→Option Nat):V→Option V
 |.clo g caps=>(caps.mapM (V.ren0 f)).map (.clo g)
 |v=>V.ren0 f v
def V.ren2 (f:Nat→Option Nat):V→Option V
 |.agg cs=>(cs.mapM (V.ren1 f)).map .agg
 |v=>V.ren1 f v
def V.ren (f:Nat→Option Nat):V→Option V
 |.tup vs=>(vs.mapM (V.ren2 f)).map .tup
 |v=>V.ren2 f v
def Obj.ren (f:Nat→Option Nat):Obj→Option Obj
 |.box cs=>(cs.mapM (V.ren1 f)).map .box
 |.miter m=>(f m).map .miter
 |o=>some o
def V.ids0:V→List Nat
 |.arr id _=>[id]
 |.sl id _ _ _=>[id]
 |.ptr id _=>[id]
 |.eptr id _ _ _=>[id]
 |.mp id=>[id]
 |_=>[]
def V.ids1:V→List Nat
 |.clo _ caps=>caps.flatMap V.ids0
 |v=>V.ids0 v
def V.ids2:V→List Nat
 |.agg cs=>cs.flatMap V.ids1
 |v=>V.ids1 v
def V.ids:V→List Nat
 |.tup vs=>vs.flatMap V.ids2
 |v=>V.ids2 v
def Obj.ids:Obj→List Nat
 |.box cs=>cs.flatMap V.ids1
 |.miter m=>[m]
 |_=>[]
def addIds (acc:List Nat):List Nat→List Nat
 |[]=>acc
 |i::r=>addIds (if acc.contains i then acc else acc++[i]) r
def idsAt (h:List Obj) (i:Nat):List Nat:=
 match h[i]? with
 |some o=>o.ids
 |none=>[]
def close (h:List Obj):Nat→Nat→List Nat→List Nat
 |0,_,acc=>acc
 |fuel+1,pos,acc=>
  match acc[pos]? with
  |none=>acc
  |some i=>close h fuel (pos+1) (addIds acc (idsAt h i))
def reach (h:List Obj) (acc:List Nat):List Nat:=close h (h.length+1) 0 acc
abbrev Slots:=List (Nat × V)
def sget:Slots→Nat→V
 |[],_=> .dead
 |(i,v)::r,t=>if i=t then v else sget r t
def keepSlots (s:Slots) (h:List Obj):List (Nat × Nat)→Slots × List Obj
 |[]=>([],h)
 |(t,sz)::r=>
  if t<1000000 then
   match sget s t,sz with
   |.nilS,sz+1=>let (s1,h1):=keepSlots s (h++[.arr (sz+1) [] 0]) r;((t,.arr h.length 0)::s1,h1)
   |v,_=>let (s1,h1):=keepSlots s h r;((t,v)::s1,h1)
  else
   match pureV h (sget s (t - 1000000)) with
   |some (x,h0)=>let (s1,h1):=keepSlots s h0 r;((t - 1000000,.d x)::s1,h1)
   |none=>keepSlots s h r
def place:List Nat→Nat→Option Nat
 |[],_=>none
 |x::xs,i=>if x=i then some 0 else (place xs i).map (·+1)
def takeObjs (h:List Obj) (f:Nat→Option Nat) (ids:List Nat):Option (List Obj):=
 ids.mapM fun i=>(h[i]?).bind (Obj.ren f)
def renSlots (f:Nat→Option Nat) (s:Slots):Option Slots:=s.mapM fun p=>(V.ren f p.2).map fun v=>(p.1,v)
def norm (k:Nat) (keep:List (Nat × Nat)) (s:Slots) (h:List Obj):Option (Slots × List Obj):=
 let p:=keepSlots s h keep
 let ids:=reach p.2 (addIds (List.range k) (p.1.flatMap fun q=>q.2.ids))
 let f:=place ids
 match renSlots f p.1,takeObjs p.2 f ids with
 |some s2,some h2=>some (s2,h2)
 |_,_=>none
/-! ### calls -/
def argV (rf:Bool) (h:List Obj):V→Option (V × List Obj)
 |.arr a b=>if rf then some (.arr a b,h) else (pureV h (.arr a b)).map fun (x,h)=>(.d x,h)
 |.sl a b c e=>if rf then some (.sl a b c e,h) else (pureV h (.sl a b c e)).map fun (x,h)=>(.d x,h)
 |.ptr a b=>some (.ptr a b,h)
 |.mp a=>some (.mp a,h)
 |.clo f caps=>some (.clo f caps,h)
 |.ro cs=>some (.ro cs,h)
 |v=>(pureV h v).map fun (x,h)=>(.d x,h)
def argVs (rf:Bool) (h:List Obj):List V→Option (List V × List Obj)
 |[]=>some ([],h)
 |v::vs=>
  match argV rf h v with
  |some (x,h1)=>
   match argVs rf h1 vs with
   |some (xs,h2)=>some (x::xs,h2)
   |none=>none
  |none=>none
def setAll {α:Type} (l:List α):List Nat→List α→List α
 |i::is,o::os=>setAll (l.set i o) is os
 |_,_=>l
def back (ids:List Nat) (n:Nat) (j:Nat):Option Nat:=
 match ids[j]? with
 |some i=>some i
 |none=>some (n+(j - ids.length))
def one:List V→V
 |[v]=>v
 |vs=> .tup vs
def callWith (rf:Bool) (run:FuncId→List V→List Obj→Option (List V × List Obj)) (f:FuncId) (args:List V) (h:List Obj):Option (V × List Obj):=
 match argVs rf h args with
 |none=>none
 |some (as,h1)=>
  let ids:=reach h1 (addIds [] (as.flatMap V.ids))
  let r:=place ids
  match as.mapM (V.ren r),takeObjs h1 r ids with
  |some as2,some hin=>
   match run f as2 hin with
   |some (rets,hout)=>
    let g:=back ids h1.length
    match rets.mapM (V.ren g),hout.mapM (Obj.ren g) with
    |some rets2,some hout2=>
     some (one rets2,setAll h1 ids hout2++hout2.drop ids.length)
    |_,_=>none
   |none=>none
  |_,_=>none
def D.flat:D→Bool
 |.int _ _ | .bool _ | .str _ | .nilI | .nilP | .nilM | .nilF=>true
 |.iface _ x=>x.flat
 |_=>false
def flatL:List D→Bool
 |[]=>true
 |x::xs=>x.flat && flatL xs
def V.flat:V→Bool
 |.d x=>x.flat
 |.nilS | .emp | .arr _ _ | .sl _ _ _ _ | .ptr _ _=>true
 |_=>false
def Obj.flat:Obj→Bool
 |.arr _ xs _=>flatL xs
 |.box cs=>cs.all V.flat
 |_=>false
def argPure:V→Bool
 |.ptr _ _ | .mp _ | .clo _ _=>false
 |_=>true
def callThaw (run:FuncId→List V→List Obj→Option (List V × List Obj)) (f:FuncId) (args:List V) (h:List Obj):Option (V × List Obj):=
 match argVs false h args with
 |none=>none
 |some (as,_)=>
  match run f as [] with
  |some (rets,hout)=>
   if args.all argPure && rets.all V.flat && hout.all Obj.flat then
    match rets.mapM (V.ren (back [] h.length)),hout.mapM (Obj.ren (back [] h.length)) with
    |some rets2,some hout2=>some (one rets2,h++hout2)
    |_,_=>none
   else none
  |none=>none
/-! ### the end of a call -/
def solid (P:Program) (h:List Obj):List V→List TypeId→List V × List Obj
 |[],_=>([],h)
 |v::vs,ts=>
  match v with
  |.nilS=>let p:=solid P (h++[.arr (elemSize P (ts.headD 0)) [] 0]) vs ts.tail;(.arr h.length 0::p.1,p.2)
  |v=>let p:=solid P h vs ts.tail;(v::p.1,p.2)
def finish (P:Program) (k:Nat) (ts:List TypeId) (vs:List V) (h:List Obj):Option (List V × List Obj):=
 let p:=solid P h vs ts
 let kept:=reach p.2 (addIds (List.range k) (p.1.flatMap V.ids))
 let f:=place kept
 match p.1.mapM (V.ren2 f),takeObjs p.2 f kept with
 |some ws,some h2=>some (ws,h2)
 |_,_=>none
/-! ### operations,code -/
def obind {α β:Type} (x:Option α) (f:α→Option β):Option β:=
 match x with
 |some a=>f a
 |none=>none
abbrev Run:=FuncId→List V→List Obj→Option (List V × List Obj)
abbrev Hints:=FuncId→Nat→List Nat
abbrev Keeps:=FuncId→Nat→Option (List (Nat × Nat))
section
variable (P:Program) (G:Nat→Option (List D))
def ev (s:Slots):Operand→V
 |.tmp t=>sget s t
 |.const v=>constV v
 |.global g=>match G g with | some cs=> .ro cs | none=> .dead
 |.func f=> .d (.fn f)
def byRef (G:Nat→Option (List D)) (f:FuncId):Bool:=(G (1000000+f)).isSome
def thaws (G:Nat→Option (List D)) (f:FuncId):Bool:=(G (3000000+f)).isSome
def keeps (G:Nat→Option (List D)) (f:FuncId):Bool:=(G (4000000+f)).isSome
def boxesKept:List Obj→List Obj→Prop
 |[],_=>True
 |.box cs::h,.box cs'::h'=>cs=cs'∧boxesKept h h'
 |.box _::_,_=>False
 |_::h,_::h'=>boxesKept h h'
 |_::h,[]=>boxesKept h []
def keptB:List Obj→List Obj→Bool
 |[],_=>true
 |.box cs::h,.box cs'::h'=>eqbV cs cs' && keptB h h'
 |.box _::_,_=>false
 |_::h,_::h'=>keptB h h'
 |_::h,[]=>keptB h []
theorem keptB_iff: ∀ (h h':List Obj),keptB h h'=true↔boxesKept h h'
 |[],_=>by simp[keptB,boxesKept]
 |x::h,[]=>by cases x <;> simp[keptB,boxesKept,keptB_iff h []]
 |x::h,y::h'=>by cases x <;> cases y <;> simp[keptB,boxesKept,keptB_iff h h',eqbV_eq]
instance (h h':List Obj):Decidable (boxesKept h h'):=decidable_of_iff _ (keptB_iff h h')
def guardKeep (h:List Obj) (x:Option (V × List Obj)):Option (V × List Obj):=
 match x with
 |some (v,h')=>if boxesKept h h' then some (v,h') else none
 |none=>none
def cools (G:Nat→Option (List D)) (f:FuncId):Bool:=(G (4500000+f)).isSome
def V.isOwn:V→Bool
 |.arr _ _ | .sl _ _ _ _ | .nilS=>true
 |_=>false
def V.fixed:V→Bool
 |.d _ | .nilS=>true
 |_=>false
def coolCells (h:List Obj):List V→List V × List Obj
 |[]=>([],h)
 |c::cs=>
  match (if c.isOwn then pure1 h c else none) with
  |some (x,h1)=>let p:=coolCells h1 cs;(.d x::p.1,p.2)
  |none=>let p:=coolCells h cs;(c::p.1,p.2)
def coolAt (h:List Obj) (id:Nat):List Obj:=
 match h[id]? with
 |some (.box cs)=>(coolCells h cs).2.set id (.box (coolCells h cs).1)
 |_=>h
def coolFrom:Nat→Nat→List Obj→List Obj
 |0,_,h=>h
 |m+1,n,h=>coolFrom m (n+1) (coolAt h n)
def coolOut (h:List Obj) (x:Option (V × List Obj)):Option (V × List Obj):=x.map fun q=>(q.1,coolFrom (q.2.length - h.length) h.length q.2)
def chills (G:Nat→Option (List D)) (f:FuncId):Bool:=(G (4700000+f)).isSome
def chillV (h:List Obj):V→Option (V × List Obj)
 |.tup vs=>(pureVs h vs).map fun p=>(.tup (p.1.map .d),p.2)
 |v=>(pureV h v).map fun p=>(.d p.1,p.2)
def chillOut (x:Option (V × List Obj)):Option (V × List Obj):=x.bind fun q=>chillV q.2 q.1
def calleeV (s:Slots) (h:List Obj) (run:Run) (f:V) (args:List V):Option (V × List Obj):=
 match f with
 |.d (.fn g)=>if thaws G g then (if keeps G g then guardKeep h (callWith (byRef G g) run g args h) else if cools G g then coolOut h (callWith (byRef G g) run g args h) else if chills G g then chillOut (callWith (byRef G g) run g args h) else callThaw run g args h) else callWith (byRef G g) run g args h
 |.clo g caps=>callWith (byRef G g) run g (args++caps) h
 |_=>none
def nilCheckV (h:List Obj):V→Option (V × List Obj)
 |.ptr id o=>some (.ptr id o,h)
 |.eptr id n i o=>some (.eptr id n i o,h)
 |.ro cs=>some (.ro cs,h)
 |_=>none
def extractV (i:Nat):V→Option V
 |.tup vs=>vs[i]?
 |_=>none
def pickV (c a b:V):Option V:=
 match c with
 |.d (.bool t)=>some (if t then a else b)
 |_=>none
def ifaceV (h:List Obj) (t:TypeId) (x:V):Option (V × List Obj):=
 match P.underlying t with
 |some (.interface _)=>none
 |some _=>(pureV h x).map fun (v,h)=>(.d (.iface t v),h)
 |none=>none
def allocV (h:List Obj) (t:TypeId):Option (V × List Obj):=
 match zero? P t with
 |some z=>if (z.cells.toList.map constCell).all V.cellOk then some (.ptr h.length 0,h++[.box (z.cells.toList.map constCell)]) else none
 |none=>none
def rangeOpV (P:Program) (h:List Obj) (t:TypeId) (x:V):Option (V × List Obj):=
 match P.underlying t,x with
 |some .string,.d (.str s)=>some (.ptr h.length 0,h++[.siter s 0])
 |some (.map _ _),.mp id=>
  match h[id]? with
  |some (.map [] _ _)=>some (.ptr h.length 0,h++[.miter id])
  |_=>none
 |_,_=>none
def iterStep (h:List Obj) (id:Nat) (s:ByteArray) (pos:Nat):V × List Obj:=
 if pos<s.size then (.tup [.d (.bool true),.d (.int .i64 pos),.d (.int .i32 (Utf8.decode s pos).1)],h.set id (.siter s (pos+(Utf8.decode s pos).2))) else (.tup [.d (.bool false)],h)
def nextV (h:List Obj) (x:V):Option (V × List Obj):=
 match x with
 |.ptr id 0=>
  match h[id]? with
  |some (.siter s pos)=>some (iterStep h id s pos)
  |_=>none
 |_=>none
def nextM (h:List Obj) (x:V):Option (V × List Obj):=
 match x with
 |.ptr id 0=>
  match h[id]? with
  |some (.miter m)=>
   match h[m]? with
   |some (.map [] _ _)=>some (.tup [.d (.bool false)],h)
   |_=>none
  |_=>none
 |_=>none
/-! ### maps -/
def findM:List (D × V)→D→Option V
 |[],_=>none
 |(k',v)::r,k=>if D.eqb k' k then some v else findM r k
def putM:List (D × V)→D→V→List (D × V)
 |[],k,v=>[(k,v)]
 |(k',v')::r,k,v=>if D.eqb k' k then (k,v)::r else (k',v')::putM r k v
def delM:List (D × V)→D→List (D × V)
 |[],_=>[]
 |(k',v')::r,k=>if D.eqb k' k then r else (k',v')::delM r k
def locM:List (D × V)→D→Option Nat
 |[],_=>none
 |(k',_)::r,k=>if D.eqb k' k then some 0 else (locM r k).map (·+1)
def valM (h:List Obj):V→Option (V × List Obj)
 |.nilS=>some (.nilS,h)
 |v=>(pureV h v).map fun p=>(.d p.1,p.2)
def keyK (P:Program) (t:TypeId):Option (Nat × TypeId × TypeId):=
 match P.underlying t with
 |some (.map k e)=>
  match P.underlying k with
  |some .string=>some (0,k,e)
  |some (.struct _)=>if (flat1 P k).isSome then some (1,k,e) else none
  |_=>none
 |_=>none
def keyE (P:Program) (q:Nat × TypeId × TypeId) (k k':D):Bool:=
 match q.1,k,k' with
 |0,.str _,.str _=>true
 |1,.agg xs,.agg ys=>match flat1 P q.2.1 with | some l=>decide (l.map (·.1)=List.range xs.length) && decide (eqCells l xs ys=some (eqbL xs ys)) | none=>false
 |_,_,_=>false
def zeroM (P:Program) (t:TypeId):Option V:=(zero? P t).bind fun z=>match constV z with | .tup _=>none | x=>some x
def lookupV (P:Program) (h:List Obj) (t:TypeId) (x i:V) (ok:Bool):Option V:=
 match keyK P t,x,i with
 |some q,.mp id,.d k=>
  match h[id]?,zeroM P q.2.2 with
  |some (.map es _ _),some z=>
   if keyE P q k k && es.all (fun p=>keyE P q k p.1) then
    match findM es k with
    |some v=>some (if ok then .tup [v,.d (.bool true)] else v)
    |none=>some (if ok then .tup [z,.d (.bool false)] else z)
   else none
  |_,_=>none
 |_,_,_=>none
def updateV (P:Program) (h:List Obj) (t:TypeId) (x i y:V):Option (V × List Obj):=
 match keyK P t,x,i,valM h y with
 |some q,.mp id,.d k,some (v,h1)=>
  match h1[id]? with
  |some (.map es bs ck)=>if keyE P q k k && es.all (fun p=>keyE P q k p.1) then some (.tup [],h1.set id (match locM es k with | some _=> .map (putM es k v) bs ck | none=> .map (putM es k v) (bs++[ck]) (ck+1))) else none
  |_=>none
 |_,_,_,_=>none
def deleteV (P:Program) (h:List Obj) (t:TypeId) (x i:V):Option (V × List Obj):=
 match keyK P t,x,i with
 |some q,.mp id,.d k=>
  match h[id]? with
  |some (.map es bs ck)=>if keyE P q k k && es.all (fun p=>keyE P q k p.1) then some (.tup [],h.set id (.map (delM es k) (match locM es k with | some i=>bs.eraseIdx i | none=>bs) ck)) else none
  |_=>none
 |_,_,_=>none
def withH (h:List Obj) (x:Option V):Option (V × List Obj):=x.map fun v=>(v,h)
def opV (run:Run) (s:Slots) (h:List Obj) (o:Oper):Option (V × List Obj):=
 match o.op with
 |.move x=>some (ev G s x,h)
 |.assign x=>some (ev G s x,h)
 |.pick c a b=>withH h (pickV (ev G s c) (ev G s a) (ev G s b))
 |.alloc t=>allocV P h t
 |.box _ x=>if (ev G s x).storable then some (.ptr h.length 0,h++[.box (ev G s x).cells]) else none
 |.build t parts=>withH h (buildV P t (parts.toList.map fun p=>(p.1,ev G s p.2)))
 |.buildSlice t len parts=>buildSliceV P h t len (parts.toList.map fun p=>(p.1,ev G s p.2))
 |.load t a=>withH h (loadV P h t (ev G s a))
 |.store t a x=>(storeV P h t (ev G s a) (ev G s x)).map fun h=>(.tup [],h)
 |.nilCheck x=>nilCheckV h (ev G s x)
 |.binOp op t x y _=>withH h ((binE P op t x y (ev G s x) (ev G s y)).map .d)
 |.unOp op _ x=>withH h ((unD op (ev G s x)).map .d)
 |.convert src dst x=>convV P h src dst (ev G s x)
 |.makeInterface t x=>ifaceV P h t (ev G s x)
 |.makeFunc (.func f) first captured=>if first.isEmpty && (captured.toList.map (ev G s)).all V.plain then some (.clo f (captured.toList.map (ev G s)),h) else none
 |.makeMap _ none=>some (.mp h.length,h++[.map [] [] 0])
 |.lookup t x i ok=>withH h (lookupV P h t (ev G s x) (ev G s i) ok)
 |.mapUpdate t m k v=>updateV P h t (ev G s m) (ev G s k) (ev G s v)
 |.makeSlice t l c=>if rowsT P t then makeRowsV P h t (ev G s l) (ev G s c) else makeSliceV P h t (ev G s l) (ev G s c)
 |.slice t x lo hi mx=>withH h (sliceV P h t (ev G s x) (lo.map (ev G s)) (hi.map (ev G s)) (mx.map (ev G s)))
 |.fieldAddr t x f=>withH h (fieldAddrV P t (ev G s x) f)
 |.field t x f=>withH h (fieldV P t (ev G s x) f)
 |.indexAddr t x i=>withH h (indexAddrV P h t (ev G s x) (ev G s i))
 |.index t x i=>withH h (indexV P t (ev G s x) (ev G s i))
 |.typeAssert x _ asserted ok=>withH h (assertV P (ev G s x) asserted ok)
 |.extract x i=>withH h (extractV i (ev G s x))
 |.range t x=>rangeOpV P h t (ev G s x)
 |.next x true=>nextV h (ev G s x)
 |.next x false=>nextM h (ev G s x)
 |.call c=>
  match c.callee with
  |.builtin .delete=>match c.argTypes.toList,c.args.toList.map (ev G s) with | [t,_],[m,k]=>deleteV P h t m k | _,_=>none
  |.builtin b=>builtinV P h b c.argTypes.toList (c.args.toList.map (ev G s))
  |.invoke _ _=>none
  |.value f=>calleeV G s h run (ev G s f) (c.args.toList.map (ev G s))
 |_=>none
def putV (s:Slots) (dst:Option Tmp) (v:V):Slots:=
 match dst with
 |some d=>(d,v)::s
 |none=>s
def wantedV (ops:List Oper) (s:Slots):Option (Nat × Bool)→Option Bool
 |none=>some true
 |some (j,want)=>
  match (ops[j]?).bind (·.dst) with
  |none=>some false
  |some d=>
   match sget s d with
   |.d (.bool b)=>some (b == want)
   |.tup []=>some false
   |_=>none
def allD:List V→Bool
 |[]=>true
 |.d _::r=>allD r
 |_=>false
def callData (run:Run) (f:FuncId) (args:List V):Option V:=
 if allD args then obind (run f args []) fun q=>if q.2.isEmpty && allD q.1 then some (one q.1) else none else none
def blindV (run:Run) (hv:List Obj) (s:Slots) (o:Oper):Option V:=
 match o.op with
 |.load t a=>loadV P hv t (ev G s a)
 |.slice t x lo hi mx=>sliceV P hv t (ev G s x) (lo.map (ev G s)) (hi.map (ev G s)) (mx.map (ev G s))
 |.indexAddr t x i=>indexAddrV P hv t (ev G s x) (ev G s i)
 |.convert src dst x=>readConvV P hv src dst (ev G s x)
 |.call c=>
  match c.callee,c.argTypes.toList,c.args.toList.map (ev G s) with
  |.builtin .len,t::_,x::_=>(lenV P hv t x).map fun (n:Nat)=> .d (.int .i64 (n:Int))
  |.value f,_,args=>match ev G s f with | .d (.fn g)=>if thaws G g then none else callData run g args | _=>none
  |_,_,_=>none
 |_=>none
def masked (hv:List Obj):V→Bool
 |.ptr id _=>match hv[id]? with | some (.siter _ _)=>true | _=>false
 |_=>false
def dataS:Slots→Slots
 |[]=>[]
 |(t,.d x)::s=>(t,.d x)::dataS s
 |(t,_)::s=>(t,.dead)::dataS s
def lone (f:FuncId):Bool:=(G (4720000+f)).isSome
def isles (s:Slots) (o:Oper):Bool:=
 match o.op with
 |.buildSlice .. =>true
 |.call c=>match c.callee with | .value f=>(match ev G s f with | .d (.fn g)=>lone G g | _=>false) | _=>false
 |_=>false
def isleV (run:Run) (s:Slots) (o:Oper):Option V:=obind (opV P G run (dataS s) [] o) fun q=>(chillV q.2 q.1).map (·.1)
def isAllocO (o:Oper):Bool:=match o.op with | .alloc .. =>true | _=>false
def bornV (hv:List Obj) (o:Oper):Option V:=
 match o.op with
 |.alloc t=>obind (allocV P hv.dropLast t) fun q=>if q.2=hv then some q.1 else none
 |_=>none
def hintV (run:Run) (hv:List Obj) (s:Slots) (o:Oper):Option V:=if isAllocO o then bornV P hv o else if isles G s o then isleV P G run s o else blindV P G run hv s o
def mild (hv:List Obj) (s:Slots) (o:Oper):Bool:=
 match o.op with
 |.call c=>
  match c.callee with
  |.value f=>match ev G s f with | .d (.fn g)=>(!byRef G g && (c.args.toList.map (ev G s)).all argPure) || (thaws G g && keeps G g) | _=>false
  |_=>true
 |.store _ a _=>masked hv (ev G s a)
 |_=>true
def view:List Obj→List Obj
 |[]=>[]
 |.box cs::h=> .box cs::view h
 |_::h=> .siter ⟨#[]⟩ 0::view h
def isStoreO (o:Oper):Bool:=match o.op with | .store .. =>true | _=>false
def isLate (hint:List Nat) (i:Nat) (o:Oper):Bool:=(isStoreO o && !hint.contains (2000+i)) || hint.contains (1000+i)
def lateStore (hint:List Nat) (i:Nat) (o:Oper):Bool:=isLate hint i o && hint.all fun j=>decide (j<i) || decide (1000≤j)
def seenG (hv:List Obj) (x:Option (V × List Obj)):Option (V × List Obj):=
 match x with
 |some (v,h')=>if boxesKept hv h' then some (v,h') else none
 |none=>none
def opsV (run:Run) (all:List Oper) (hint:List Nat) (hv:List Obj):Nat→List Oper→Slots→List Obj→Option (Slots × List Obj)
 |_,[],s,h=>some (s,h)
 |i,o::rest,s,h=>
  obind (wantedV all s o.guard) fun w=>
  if w then
   obind (if hint.contains i then withH h (hintV P G run hv s o) else if hint.isEmpty || hv.isEmpty || mild G hv s o || lateStore hint i o then opV P G run s h o else seenG hv (opV P G run s h o)) fun p=>
   opsV run all hint hv (i+1) rest (putV s o.dst p.1) p.2
  else opsV run all hint hv (i+1) rest (putV s o.dst (.tup [])) h
def freezeAll (h:List Obj):Slots→List Obj
 |[]=>h
 |(_,v)::s=>
  match pure1 h v with
  |some (_,h1)=>freezeAll h1 s
  |none=>freezeAll h s
abbrev Res:=Option (Out × Slots × List Obj)
def onNormal (x:Res) (f:Slots→List Obj→Res):Res:=
 match x with
 |some (.normal,s,h)=>f s h
 |r=>r
def iter (body:Slots→List Obj→Res):Nat→Slots→List Obj→Res
 |0,_,_=>none
 |n+1,s,h=>onNormal (body s h) (iter body n)
def branch (c:V) (x y:Res):Res:=
 match c with
 |.d (.bool t)=>if t then x else y
 |_=>none
def leave (id:Nat):Res→Res
 |some (.exit i,s,h)=>if i=id then some (.normal,s,h) else some (.exit i,s,h)
 |r=>r
def hasSlice (ops:List Oper):Bool:=ops.any fun o=>match o.op with | .slice .. =>true | _=>false
def hasStore (ops:List Oper):Bool:=ops.any fun o=>match o.op with | .store .. =>true | _=>false
def rootOf:List Oper→Tmp→Tmp
 |[],t=>t
 |o::r,t=>
  match o.op with
  |.move (.tmp x)=>if o.dst=some t then x else rootOf r t
  |_=>rootOf r t
def roots (all:List Oper):List Oper→List Tmp
 |[]=>[]
 |o::r=>
  match o.op with
  |.slice _ (.tmp t) _ _ _=>rootOf all t::roots all r
  |_=>roots all r
def hintLoads (ops:List Oper):List Nat→Bool
 |[]=>false
 |i::r=>(match ops[i]? with | some o=>(match o.op with | .load .. =>true | .alloc .. =>true | _=>false) | none=>false) || hintLoads ops r
def maskV (s:Slots):List Nat→List Obj→List Obj
 |[],l=>l
 |m::r,l=>if 3000≤m then (match sget s (m - 3000) with | .ptr id _=>(maskV s r l).set id (.siter ⟨#[]⟩ 0) | _=>maskV s r l) else maskV s r l
def maskIds:List Nat→List Obj→List Obj
 |[],l=>l
 |i::r,l=>(maskIds r l).set i (.siter ⟨#[]⟩ 0)
def maskD (s:Slots) (h:List Obj):List Nat→List Obj→List Obj
 |[],l=>l
 |m::r,l=>if 8000≤m∧m<9000 then maskIds (reach h (addIds [] (sget s (m - 8000)).ids)) (maskD s h r l) else maskD s h r l
def viewOf (ops:List Oper) (hint:List Nat) (s:Slots) (h:List Obj):List Obj:=if hintLoads ops hint then maskD s h hint (maskV s hint (view h)) else []
def coolH (s:Slots):List Nat→List Obj→List Obj
 |[],h=>h
 |m::r,h=>if 7000≤m∧m<8000 then (match sget s (m - 7000) with | .ptr id _=>coolAt (coolH s r h) id | _=>coolH s r h) else coolH s r h
def isAllocAt (ops:List Oper) (i:Nat):Bool:=match ops[i]? with | some o=>isAllocO o | none=>false
def hintAllocs (ops:List Oper):List Nat→List Nat
 |[]=>[]
 |i::r=>if isAllocAt ops i then i::hintAllocs ops r else hintAllocs ops r
def fixedBox:Obj→Bool
 |.box cs=>cs.all V.fixed
 |_=>false
def birthH (ops:List Oper) (hint:List Nat) (h:List Obj):Option (List Obj):=
 match hintAllocs ops hint with
 |[]=>some h
 |[i]=>
  match ops[i]? with
  |some o=>
   match o.op with
   |.alloc t=>obind (allocV P [] t) fun q=>match q.2 with | [b]=>if fixedBox b then some (h++[b]) else none | _=>none
   |_=>none
  |none=>none
 |_=>none
def regionV (run:Run) (rf:Bool) (hint:List Nat) (ops:List Oper) (draw:Bool) (s:Slots) (h:List Obj):Res:=
 obind (birthH P ops (if draw then hint else []) (coolH s (if draw then hint else []) (if hasSlice ops && !hasStore ops && !rf then freezeAll h ((roots ops ops).map fun t=>(t,sget s t)) else h))) fun h=>obind (opsV P G run ops (if draw then hint else []) (viewOf ops (if draw then hint else []) s h) 0 ops s h) fun p=>some (.normal,p.1,p.2)
variable (K:Keeps) (S:Hints)
def chunkL (n:Nat):Nat→List D→List (List D)
 |0,_=>[]
 |_+1,[]=>[]
 |m+1,x::xs=>(x::xs).take n::chunkL n m ((x::xs).drop n)
def chunks (G:Nat→Option (List D)) (f:FuncId):Bool:=(G (5000000+f)).isSome
def iterV (h:List Obj):V→Option (Nat × Nat × List (List D))
 |.clo g [.ptr i 0,.ptr j 0]=>
  if chunks G g then
   match h[i]?,h[j]? with
   |some (.box [.d (.list xs)]),some (.box [.d (.int .i64 n)])=>if 0<n∧n≤65536∧xs.length≤65536∧allSize 1 xs then some (i,j,chunkL n.toNat xs.length xs) else none
   |_,_=>none
  else none
 |_=>none
def loose (k:Nat) (keep:List (Nat × Nat)) (s:Slots) (h:List Obj) (i:Nat):Bool:=
 let p:=keepSlots s h keep
 !(reach p.2 (addIds (List.range k) (p.1.flatMap fun q=>q.2.ids))).contains i
def rangeV (round:List D→Slots→List Obj→Res) (k:Nat) (keep:List (Nat × Nat)):List (List D)→Slots→List Obj→Res
 |[],s,h=>some (.normal,s,h)
 |x::xs,s,h=>
  match round x s h with
  |some (.normal,_,h1)=>obind (norm k keep s h1) fun p=>rangeV round k keep xs p.1 p.2
  |some (o,_,h1)=>some (o,s,h1)
  |none=>none
def codeV (run:Run) (loopI:(Slots→List Obj→Res)→Slots→List Obj→Res) (F:FuncId):Nat→Nat→Code→Slots→List Obj→Res
 |_,_,.skip,s,h=>some (.normal,s,h)
 |_,_,.region id ops draw,s,h=>regionV P G run (byRef G F) (S F id) ops.toList draw s h
 |k,b,.seq x y,s,h=>onNormal (codeV run loopI F k b x s h) fun s1 h1=>codeV run loopI F k b y s1 h1
 |k,b,.cond c x y,s,h=>branch (ev G s c) (codeV run loopI F k b x s h) (codeV run loopI F k b y s h)
 |k,_,.block id c,s,h=>leave id (codeV run loopI F k id c s h)
 |k,b,.loop c,s,h=>
  match K F b with
  |some keep=>loopI (fun s h=>obind (norm k keep s h) fun p=>codeV run loopI F k b c p.1 p.2) s h
  |none=>loopI (fun s h=>codeV run loopI F k b c s h) s h
 |_,_,.exit id,s,h=>some (.exit id,s,h)
 |_,_,.ret,s,h=>some (.ret,s,h)
 |k,b,.rangeFunc f ps as c,s,h=>
  match K F b,ps.toList with
  |some keep,[p]=>
   obind (iterV G h (ev G s f)) fun it=>if loose k keep s h it.1 && loose k keep s h it.2.1 then
    obind (norm k keep s h) fun q=>rangeV (fun x s h=>
     match codeV run loopI F h.length b as ((p,.d (.list x))::s) h with
     |some (.normal,s1,h1)=>codeV run loopI F h.length b c s1 h1
     |_=>none) k keep it.2.2 q.1 q.2
    else none
  |_,_=>none
 |_,_,_,_,_=>none
/-! ### a range over the keys of a map:one result for each order -/
def gather {α β:Type}:List α→(α→Option (List β))→Option (List β)
 |[],_=>some []
 |x::xs,f=>match f x,gather xs f with
  |some a,some b=>some (a++b)
  |_,_=>none
def keysF (G:Nat→Option (List D)) (f:FuncId):Bool:=decide (f<10000) && (G (4100000+f)).isSome
def textsF (G:Nat→Option (List D)) (f:FuncId):Bool:=decide (f<10000) && (G (4130000+f)).isSome
def oneD:D→Bool
 |.agg _=>false
 |_=>true
def keyOk (t:Bool):D→Bool
 |.str _=>t
 |.agg [a,b,c]=> !t && (oneD a && (oneD b && oneD c))
 |_=>false
def nodupB:List Nat→Bool
 |[]=>true
 |x::xs=> !xs.contains x && nodupB xs
def keysV (h:List Obj):V→Option (Nat × Nat × List D × List Nat × Nat)
 |.clo g [.ptr i 0]=>
  if keysF G g then
   match h[i]? with
   |some (.box [.mp m])=>
    match h[m]? with
    |some (.map es bs ck)=>if (nodupB bs && bs.all (fun x=>decide (x<ck))) && (es.map (·.1)).all (keyOk (textsF G g)) then some (i,m,es.map (·.1),bs,ck) else none
    |_=>none
   |_=>none
  else none
 |_=>none
def noMit:Obj→Bool
 |.miter _=>false
 |_=>true
def sameMap (h:List Obj) (m:Nat) (ks:List D) (bs:List Nat) (ck:Nat):Bool:=
 h.all noMit && match h[m]? with
 |some (.map es bs' ck')=>eqbL (es.map (·.1)) ks && (decide (bs'=bs) && decide (ck'=ck))
 |_=>false
def rangeK (round:D→Slots→List Obj→Res) (k:Nat) (keep:List (Nat × Nat)) (m:Nat) (ks:List D) (bs:List Nat) (ck:Nat):Nat→List Nat→Slots→List Obj→Option (List (Slots × List Obj))
 |0,_,s,h=>some [(s,h)]
 |n+1,l,s,h=>gather l fun i=>
  match ks[i]? with
  |some x=>
   match round x s h with
   |some (.normal,_,h1)=>obind (norm k keep s h1) fun p=>if sameMap p.2 m ks bs ck then rangeK round k keep m ks bs ck n (l.filter (·!= i)) p.1 p.2 else none
   |_=>none
  |none=>none
def leave1 (id:Nat):Out × Slots × List Obj→Out × Slots × List Obj
 |(.exit i,s,h)=>if i=id then (.normal,s,h) else (.exit i,s,h)
 |r=>r
def codeL (run:Run) (loopI:(Slots→List Obj→Res)→Slots→List Obj→Res) (F:FuncId):Nat→Nat→Code→Slots→List Obj→Option (List (Out × Slots × List Obj))
 |k,b,.seq x y,s,h=>obind (codeL run loopI F k b x s h) fun l=>gather l fun r=>match r with | (.normal,s1,h1)=>codeL run loopI F k b y s1 h1 | r=>some [r]
 |k,_,.block id c,s,h=>(codeL run loopI F k id c s h).map fun l=>l.map (leave1 id)
 |k,b,.rangeFunc f ps as c,s,h=>
  match keysV G h (ev G s f) with
  |some (i,m,ks,bs,ck)=>
   match K F b,ps.toList with
   |some keep,[p]=>if loose k keep s h i && decide (m<k) then
     obind (norm k keep s h) fun q=>if sameMap q.2 m ks bs ck then
      (rangeK (fun x s h=>match codeV P G K S run loopI F h.length b as ((p,.d x)::s) h with
        |some (.normal,s1,h1)=>codeV P G K S run loopI F h.length b c s1 h1
        |_=>none) k keep m ks bs ck ks.length (List.range ks.length) q.1 q.2).map fun l=>l.map fun p=>(.normal,p.1,p.2) else none
     else none
   |_,_=>none
  |none=>(codeV P G K S run loopI F k b (.rangeFunc f ps as c) s h).map fun r=>[r]
 |k,b,c,s,h=>(codeV P G K S run loopI F k b c s h).map fun r=>[r]
def resV (s:Slots) (h:List Obj):List ResultVar→Option (List V)
 |[]=>some []
 |.tmp t::r=>(resV s h r).map fun vs=>sget s t::vs
 |.cell a t::r=>
  match loadV P h t (sget s a),resV s h r with
  |some v,some vs=>some (v::vs)
  |_,_=>none
def startSlots:Nat→List V→Slots
 |_,[]=>[]
 |i,v::vs=>(i,v)::startSlots (i+1) vs
def endV (fn:Func) (k:Nat) (r:Res):Option (List V × List Obj):=
 match r with
 |some (.normal,s,h) | some (.ret,s,h)=>obind (resV P s h fn.results.toList) fun vs=>finish P k fn.resultTypes.toList vs h
 |_=>none
end
/-! ### what is asked of a function's text,once -/
inductive Class where
 |still | reads | loud
 deriving DecidableEq
def classOf (P:Program) (o:Oper):Class:=match o.op with
 |.move _ | .assign _ | .pick .. | .nilCheck _ | .binOp .. | .unOp .. | .fieldAddr .. | .extract .. | .field .. | .index .. | .typeAssert .. | .build .. => .still
 |.load .. | .indexAddr .. | .slice .. => .reads
 |.convert _ dst _=>match P.underlying dst with | some (.int _)=> .still | some .string=> .reads | _=> .loud
 |.call c=>match c.callee with | .builtin .len=> .reads | .builtin .min=> .still | .builtin .max=> .still | _=> .loud
 |_=> .loud
def ancestors:List Oper→List (List Nat)→List (List Nat)
 |[],acc=>acc
 |o::r,acc=>ancestors r (acc++[o.after.toList.foldl (fun s e=>if Region.binds .any e then addIds (addIds s [e.on]) (acc.getD e.on []) else s) []])
def isLoadO (o:Oper):Bool:=match o.op with | .load .. =>true | _=>false
def makesO (o:Oper):Bool:=match o.op with | .alloc .. | .box .. | .buildSlice .. =>true | _=>false
def fitsPair (P:Program) (hint:List Nat) (ops:List Oper) (i j:Nat):Bool:=
 match ops[i]?,ops[j]? with
 |some x,some y=>
  x.apart ops.toArray y &&
  (match classOf P x,classOf P y with
   |.still,_=>true
   |_,.still=>true
   |.reads,.reads=>true
   |.reads,.loud=>hint.contains i || hint.contains j || (isLoadO x && makesO y)
   |.loud,.reads=>hint.contains j || hint.contains i
   |.loud,.loud=>hint.contains i || hint.contains j) &&
  (!hintLoads ops hint || !((isLate hint i x && hint.contains j) || (isLate hint j y && hint.contains i)))
 |_,_=>false
def drawOk (P:Program) (hint:List Nat) (ops:List Oper):Bool:=
 let anc:=ancestors ops []
 decide (ops.length≤1000) && (List.range ops.length).all fun j=>
  (anc.getD j []).all (·<j) && (List.range j).all fun i=>(anc.getD j []).contains i || fitsPair P hint ops i j
def flatC:Code→Bool
 |.seq x y=>flatC x && flatC y
 |.cond _ x y=>flatC x && flatC y
 |.block _ c=>flatC c
 |.loop c=>flatC c
 |.rangeFunc .. =>false
 |_=>true
def codeOk (P:Program) (hint:Nat→List Nat) (nt:Nat):Code→Bool
 |.region id ops draw=>ops.toList.all (fun o=>match o.dst with | some d=>d<nt | none=>true) && (!draw || drawOk P (hint id) ops.toList)
 |.seq x y=>codeOk P hint nt x && codeOk P hint nt y
 |.cond _ x y=>codeOk P hint nt x && codeOk P hint nt y
 |.block _ c=>codeOk P hint nt c
 |.loop c=>codeOk P hint nt c
 |.rangeFunc _ ps x y=>flatC x && flatC y && ps.toList.all (·<nt) && codeOk P hint nt x && codeOk P hint nt y
 |_=>true
section
variable (P:Program) (G:Nat→Option (List D)) (K:Keeps) (S:Hints)
def bodyV (run:Run) (loopI:(Slots→List Obj→Res)→Slots→List Obj→Res) (f:FuncId) (args:List V) (h:List Obj):Option (List V × List Obj):=
 match P.funcs[f]? with
 |none=>none
 |some fn=>
  match fn.body with
  |none=>none
  |some c=>
   if codeOk P (S f) fn.ntmps c && args.length ≤ fn.ntmps && !(fn.name == "runtime.NumGoroutine") then
    endV P fn h.length (codeV P G K S run loopI f h.length 0 c (startSlots 0 args) h)
   else none
def sameEnds (e:Option (List V × List Obj)) (end1:Out × Slots × List Obj→Option (List V × List Obj)):List (Out × Slots × List Obj)→Bool
 |[]=>true
 |r::rs=>decide (end1 r=e) && sameEnds e end1 rs
def endL (fn:Func) (k:Nat):Option (List (Out × Slots × List Obj))→Option (List V × List Obj)
 |some (r::rs)=>obind (endV P fn k (some r)) fun e=>if sameEnds (some e) (fun r=>endV P fn k (some r)) rs then some e else none
 |_=>none
def bodyK (run:Run) (loopI:(Slots→List Obj→Res)→Slots→List Obj→Res) (f:FuncId) (args:List V) (h:List Obj):Option (List V × List Obj):=
 match P.funcs[f]? with
 |none=>none
 |some fn=>
  match fn.body with
  |none=>none
  |some c=>
   if codeOk P (S f) fn.ntmps c && args.length ≤ fn.ntmps && !(fn.name == "runtime.NumGoroutine") then
    endL P fn h.length (codeL P G K S run loopI f h.length 0 c (startSlots 0 args) h)
   else none
def splits (G:Nat→Option (List D)) (f:FuncId):Bool:=(G (2000000+f)).isSome
def joinV (x y:Option (List V × List Obj)):Option (List V × List Obj):=if x=y then x else none
def libs (G:Nat→Option (List D)) (f:FuncId):Nat:=
 if (G (4300000+f)).isSome=true then 3+(if (G (4310000+f)).isSome then 1 else 0)+(if (G (4320000+f)).isSome then 2 else 0)+(if (G (4330000+f)).isSome then 4 else 0) else 0
def sorts (G:Nat→Option (List D)) (f:FuncId):Nat:=
 if splits G f=true then (if (G (4800000+f)).isSome=true then 1 else if (G (4900000+f)).isSome=true then 2 else if (G (4110000+f)).isSome=true then 101 else if (G (4120000+f)).isSome=true then 100 else libs G f) else 0
def intsD:List D→Option (List Int)
 |[]=>some []
 |.int .i64 n::xs=>(intsD xs).map (n:: ·)
 |_=>none
def strsD:List D→Option (List (List UInt8))
 |[]=>some []
 |.str s::xs=>(strsD xs).map (s.data.toList:: ·)
 |_=>none
def strD (l:List UInt8):D:= .str ⟨l.toArray⟩
def ins1 {α:Type} (le:α→α→Bool) (x:α):List α→List α
 |[]=>[x]
 |y::r=>if le x y then x::y::r else y::ins1 le x r
def isort {α:Type} (le:α→α→Bool):List α→List α
 |[]=>[]
 |x::l=>ins1 le x (isort le l)
def leI (x y:Int):Bool:=decide (x≤y)
def leS (x y:List UInt8):Bool:=decide (x≤y)
def digF:Nat→Nat→List UInt8
 |0,_=>[]
 |k+1,u=>if u<10 then [UInt8.ofNat (48+u)] else digF k (u / 10)++[UInt8.ofNat (48+u % 10)]
def itoaL (n:Int):List UInt8:=if n<0 then 45::digF 20 n.natAbs else digF 20 n.toNat
def cutL (c:UInt8):List UInt8→List (List UInt8)
 |[]=>[[]]
 |x::r=>if x=c then []::cutL c r else match cutL c r with | []=>[[x]] | p::ps=>(x::p)::ps
def joinL (sep:List UInt8):List (List UInt8)→List UInt8
 |[]=>[]
 |[x]=>x
 |x::r=>x++sep++joinL sep r
def libD:Nat→List D→Option (List D)
 |3,[.str s,.str p]=>match p.data.toList with | [c]=>if s.size<1000000000 then some [.list ((cutL c s.data.toList).map strD)] else none | _=>none
 |4,[.list xs,.str p]=>match strsD xs with | some l=>if (joinL p.data.toList l).length<1000000000∧l.length<1000000000 then some [strD (joinL p.data.toList l)] else none | none=>none
 |5,[.int .i64 n]=>if -9223372036854775808≤n∧n≤9223372036854775807 then some [strD (itoaL n)] else none
 |6,[.int .i64 n,.int .i64 10]=>if -9223372036854775808≤n∧n≤9223372036854775807 then some [strD (itoaL n)] else none
 |7,[.int .u64 n,.int .i64 10]=>if 0≤n∧n≤18446744073709551615 then some [strD (itoaL n)] else none
 |8,[.str s]=>if s.size≤1000000 then some (match Lib.atoiAll s.data.toList with | .ok v=>[.int .i64 v,.nilI] | .range=>[.int .i64 (Lib.atoiSat s.data.toList),.err] | _=>[.int .i64 0,.err]) else none
 |_,_=>none
def datas:List V→Option (List D)
 |[]=>some []
 |.d x::r=>(datas r).map (x:: ·)
 |_=>none
def libV (k:Nat) (args:List V) (h:List Obj):Option (List V × List Obj):=(datas args).bind fun xs=>(libD k xs).map fun ys=>(ys.map .d,h)
def sortV (k:Nat) (args:List V) (h:List Obj):Option (List V × List Obj):=
 if 3≤k then libV k args h else
 match args,h with
 |[.arr 0 n],[.arr 1 xs 0]=>
  if n=xs.length∧n≤65536 then
   if k=1 then (intsD xs).map fun zs=>([],[.arr 1 ((isort leI zs).map fun n=> .int .i64 n) 0])
   else (strsD xs).map fun zs=>([],[.arr 1 ((isort leS zs).map strD) 0])
  else none
 |_,_=>none
def sortKV (args:List V) (h:List Obj):Option (List V × List Obj):=
 match args with
 |[.clo g caps]=>
  if textsF G g then
  match keysV G h (.clo g caps) with
  |some (_,_,ks,_,_)=>(strsD ks).bind fun zs=>if zs.length≤65536 then some ([.d (.list ((isort leS zs).map strD))],h) else none
  |none=>none
  else none
 |_=>none
def bodyS (run:Run) (loopI:(Slots→List Obj→Res)→Slots→List Obj→Res) (f:FuncId) (args:List V) (h:List Obj):Option (List V × List Obj):=
 if sorts G f≠0 then (if sorts G f=101 then bodyK P G K S run loopI f args h else if sorts G f=100 then sortKV G args h else sortV (sorts G f) args h) else
 match splits G f,args with
 |true,.d (.list [])::rest=>joinV (bodyV P G K S run loopI f (.nilS::rest) h) (bodyV P G K S run loopI f (.emp::rest) h)
 |_,_=>bodyV P G K S run loopI f args h
end
end Go.Am
namespace Go.Am
def D.isCell:D→Bool
 |.agg _=>false
 |_=>true
def flat (xs:List D):List D:=xs.flatMap D.cells
inductive Rep (M:Nat→Nat→Prop) (w:World):Value→D→Prop
 |int (k:IntKind) (n:Int):Rep M w (.int k n) (.int k n)
 |bool (b:Bool):Rep M w (.bool b) (.bool b)
 |str (s:ByteArray):Rep M w (.string s) (.str s)
 |nilI:Rep M w .nilIface .nilI
 |nilP:Rep M w (.pointer none) .nilP
 |nilM:Rep M w (.map none) .nilM
 |nilF:Rep M w .nilFunc .nilF
 |fn (f:FuncId):Rep M w (.func (.func f) #[] #[]) (.fn f)
 |iface (t:TypeId) (v:Value) (x:D):Rep M w v x→Rep M w (.iface t v) (.iface t x)
 |err (t:TypeId) (v:Value):Rep M w (.iface t v) .err
 |num (n:Int):Rep M w (.int .i64 n) .num
 |nil (a:Option Addr) (c:Nat):(a=none→c=0)→Rep M w (.slice a 0 c) (.list [])
 |list (b off len cap sz:Nat) (xs:List D) (vs:Nat→Value):len=xs.length→len≤cap→(∀x∈xs,x.cells.length=sz)→
   (∀ (j:Nat) (c:D),(flat xs)[j]? =some c→w.cell? ⟨b,off+j,none⟩=some (vs j)∧ ¬ M b (off+j)∧c.isCell=true)→
   (∀ (j:Nat) (c:D),(flat xs)[j]? =some c→Rep M w (vs j) c)→Rep M w (.slice (some ⟨b,off,none⟩) len cap) (.list xs)
 |agg (cs:Array Value) (ds:List D) (vs:Nat→Value):cs.size=ds.length→(∀ (j:Nat) (c:D),ds[j]? =some c→cs[j]? =some (vs j)∧c.isCell=true)→
   (∀ (j:Nat) (c:D),ds[j]? =some c→Rep M w (vs j) c)→Rep M w (.agg cs) (.agg ds)
theorem Rep.mono {M M':Nat→Nat→Prop} {w w':World}
 (hm: ∀ (b j:Nat) (v:Value),¬ M b j→w.cell? ⟨b,j,none⟩=some v→w'.cell? ⟨b,j,none⟩=some v∧ ¬ M' b j) {v:Value} {x:D} (h:Rep M w v x):Rep M' w' v x:=by
 induction h with
 |int k n=>exact .int k n
 |bool b=>exact .bool b
 |str s=>exact .str s
 |nilI=>exact .nilI
 |nilP=>exact .nilP
 |nilM=>exact .nilM
 |nilF=>exact .nilF
 |fn f=>exact .fn f
 |iface t v x _ ih=>exact .iface t v x ih
 |err t v=>exact .err t v
 |num n=>exact .num n
 |nil a c hc=>exact .nil a c hc
 |list b off len cap sz xs vs h1 h2 h3 h4 _ ih=>
  exact .list b off len cap sz xs vs h1 h2 h3 (fun j c hj=>⟨(hm _ _ _ (h4 j c hj).2.1 (h4 j c hj).1).1,(hm _ _ _ (h4 j c hj).2.1 (h4 j c hj).1).2,(h4 j c hj).2.2⟩) ih
 |agg cs ds vs h1 h2 _ ih=>exact .agg cs ds vs h1 h2 ih
theorem Rep.one {M:Nat→Nat→Prop} {w:World} {v:Value} {x:D} (h:Rep M w v x) (hx:x.isCell=true):v.oneCell'=true:=by
 cases h <;> simp_all [Value.oneCell',D.isCell]
theorem Value.cells_one {v:Value} (h:v.oneCell'=true):v.cells= #[v]:=by
 cases v <;> simp_all [Value.oneCell',Value.cells]
theorem D.cells_one {x:D} (h:x.isCell=true):x.cells=[x]:=by
 cases x <;> simp_all [D.isCell,D.cells]
theorem Rep.cells {M:Nat→Nat→Prop} {w:World} {v:Value} {x:D} (h:Rep M w v x):
 v.cells.size=x.cells.length∧ ∀ (j:Nat) (c:D),x.cells[j]? =some c→ ∃u,v.cells[j]? =some u∧Rep M w u c∧c.isCell=true:=by
 by_cases hx:x.isCell=true
 ·rw[D.cells_one hx,Value.cells_one (h.one hx)]
  refine⟨rfl,fun j c hj=> ?_⟩
  cases j with
  |zero=>simp at hj;subst hj;exact⟨v,by simp,h,hx⟩
  |succ j=>simp at hj
 ·cases h with
  |agg cs ds vs h1 h2 h3=>exact⟨h1,fun j c hj=>⟨vs j,(h2 j c hj).1,h3 j c hj,(h2 j c hj).2⟩⟩
  |_=>simp[D.isCell]at hx
/-! ### objects -/
abbrev Place:=Option (Nat × Nat)
abbrev Places:=List Place
def Obj.mutAt:Obj→Nat→Prop
 |.arr sz _ wm,j=>wm*sz≤j
 |_,_=>True
def Obj.isArr:Obj→Bool
 |.arr .. =>true
 |_=>false
def Mut (X:Nat→Nat→Prop) (ρ:Places) (h:List Obj) (b j:Nat):Prop:=X b j∨ ∃ (id c:Nat) (o:Obj),ρ[id]? =some (some (b,c))∧h[id]? =some o∧o.mutAt j
def isSlice (v:Value):Prop:= ∃a l c,v= .slice a l c
def isPtr (v:Value):Prop:= ∃a,v= .pointer (some a)
def ArrVal (r:Place) (n:Nat) (v:Value):Prop:=
 match r with
 |some (b,cap)=>v= .slice (some ⟨b,0,none⟩) n cap
 |none=>n=0∧ ∃a,v= .slice a 0 0
def SlVal (r:Place) (sz off len:Nat) (v:Value):Prop:= ∃ (a:Option Addr) (c:Nat),v= .slice a len c∧len≤c∧(a=none→c=0)∧(0<len→ ∃b cap,r=some (b,cap)∧a=some ⟨b,off*sz,none⟩)
def RoVal (M:Nat→Nat→Prop) (w:World) (v:Value) (cs:List D):Prop:=
 ∃ (b o:Nat) (vs:Nat→Value),v= .pointer (some ⟨b,o,none⟩)∧(∀ (j:Nat) (c:D),cs[j]? =some c→w.cell? ⟨b,o+j,none⟩=some (vs j)∧ ¬ M b (o+j)∧c.isCell=true)∧
  ∀ (j:Nat) (c:D),cs[j]? =some c→Rep M w (vs j) c
def V0 (X:Nat→Nat→Prop) (ρ:Places) (h:List Obj) (w:World) (v:Value):V→Prop
 |.d x=>Rep (Mut X ρ h) w v x
 |.nilS=>v= .slice none 0 0
 |.arr id n=>isSlice v∧ ∃ (sz:Nat) (xs:List D) (wm:Nat) (r:Place),h[id]? =some (.arr sz xs wm)∧ρ[id]? =some r∧n≤xs.length∧(n=xs.length→ArrVal r n v)
 |.sl id tot off len=>isSlice v∧ ∃ (sz:Nat) (xs:List D) (wm:Nat) (r:Place),h[id]? =some (.arr sz xs wm)∧ρ[id]? =some r∧tot≤xs.length∧(tot=xs.length→off+len≤tot∧SlVal r sz off len v)
 |.emp=> ∃ (a:Addr) (c:Nat),v= .slice (some a) 0 c
 |.ptr id off=> ∃ (o:Obj) (b c:Nat),h[id]? =some o∧o.isArr=false∧ρ[id]? =some (some (b,c))∧v= .pointer (some ⟨b,off,none⟩)
 |.eptr id n i off=>isPtr v∧ ∃ (sz:Nat) (xs:List D) (wm:Nat) (r:Place),h[id]? =some (.arr sz xs wm)∧ρ[id]? =some r∧n≤xs.length∧
   (n=xs.length→ ∃ (b c:Nat),r=some (b,c)∧v= .pointer (some ⟨b,i*sz+off,none⟩))
 |.ro cs=>RoVal (Mut X ρ h) w v cs
 |.mp id=>(∃ (cs:List V) (b c:Nat),h[id]? =some (.box cs)∧ρ[id]? =some (some (b,c))∧v= .slice (some ⟨b,0,none⟩) cs.length cs.length)∨ ∃ (es:List (D × V)) (bs:List Nat) (ck b c:Nat),h[id]? =some (.map es bs ck)∧ρ[id]? =some (some (b,c))∧v= .map (some b)
 |.dead=>True
 |_=>False
def V1 (X:Nat→Nat→Prop) (ρ:Places) (h:List Obj) (w:World) (v:Value):V→Prop
 |.clo f caps=> ∃us:Array Value,v= .func (.func f) #[] us∧us.size=caps.length∧ ∀ (j:Nat) (c:V),caps[j]? =some c→ ∃u,us[j]? =some u∧V0 X ρ h w u c
 |x=>V0 X ρ h w v x
def V2 (X:Nat→Nat→Prop) (ρ:Places) (h:List Obj) (w:World) (v:Value):V→Prop
 |.agg cs=> ∃us:Array Value,v= .agg us∧us.size=cs.length∧ ∀ (j:Nat) (c:V),cs[j]? =some c→ ∃u,us[j]? =some u∧V1 X ρ h w u c∧c.cellOk=true
 |x=>V1 X ρ h w v x
def VRel (X:Nat→Nat→Prop) (ρ:Places) (h:List Obj) (w:World) (v:Value):V→Prop
 |.tup vs=> ∃us:Array Value,v= .tuple us∧us.size=vs.length∧ ∀ (j:Nat) (c:V),vs[j]? =some c→ ∃u,us[j]? =some u∧V2 X ρ h w u c
 |x=>V2 X ρ h w v x
def Unfrozen (w:World) (b n:Nat):Prop:= ∀ (cs:Array Value) (t:TypeId) (fz:Nat × Nat),w.heap[b]? =some (.cells cs t fz)→n≤fz.1∨fz.1=fz.2
theorem Unfrozen.get {w:World} {b n:Nat} (h:Unfrozen w b n) (j:Nat) (hj:j<n):w.frozen? ⟨b,j,none⟩=false:=by
 unfold World.frozen?
 split
 ·rename_i cs t lo hi e
  have:=h cs t (lo,hi) e
  simp only at this
  simp only[Bool.and_eq_false_iff,decide_eq_false_iff_not]
  omega
 ·rfl
def ObjRel (X:Nat→Nat→Prop) (ρ:Places) (h:List Obj) (w:World) (r:Place):Obj→Prop
 |.box cs=>(r=none→cs.all V.fixed=true)∧(r≠none→ ∃ (b c:Nat) (cur:Array Value) (e:TypeId) (fz:Nat × Nat),r=some (b,c)∧w.heap[b]? =some (.cells cur e fz)∧cur.size=cs.length∧Unfrozen w b cur.size∧
   (∀ (j:Nat) (x:V),cs[j]? =some x→ ∃u,cur[j]? =some u∧V1 X ρ h w u x∧x.cellOk=true))
 |.arr sz xs wm=>wm≤xs.length∧
  match r with
  |none=>xs=[]
  |some (b,cap)=> ∃ (cur:Array Value) (e:TypeId) (fz:Nat × Nat),w.heap[b]? =some (.cells cur e fz)∧cur.size=cap*sz∧xs.length≤cap∧cap≤maxLen∧0<sz∧(∀x∈xs,x.cells.length=sz)∧
   Unfrozen w b cur.size∧ ∀ (j:Nat) (x:D),(flat xs)[j]? =some x→ ∃u,cur[j]? =some u∧Rep (Mut X ρ h) w u x∧x.isCell=true
 |.siter s pos=> ∃ (b c:Nat),r=some (b,c)∧w.heap[b]? =some (.stringIter s pos)
 |.miter m=> ∃ (b c bm cm since ck:Nat) (seen:Array Nat) (es:List (D × V)) (bs:List Nat) (ck':Nat),r=some (b,c)∧w.heap[b]? =some (.mapIter (some bm) since seen ck)∧ρ[m]? =some (some (bm,cm))∧h[m]? =some (.map es bs ck')∧since≤ck
 |.map es bs ck=> ∃ (b c:Nat) (en:Array MapEntry),r=some (b,c)∧w.heap[b]? =some (.map en ck)∧en.size=es.length∧en.toList.map (·.born)=bs∧
   ∀ (j:Nat) (k:D) (x:V),es[j]? =some (k,x)→ ∃e,en[j]? =some e∧Rep (Mut X ρ h) w e.key k∧V0 X ρ h w e.val x∧(x= .nilS∨ ∃y,x= .d y)
structure HRel (X:Nat→Nat→Prop) (ρ:Places) (h:List Obj) (w:World):Prop where
 len:ρ.length=h.length
 obj: ∀ (id:Nat) (o:Obj),h[id]? =some o→ ∃r,ρ[id]? =some r∧ObjRel X ρ h w r o
 xlt: ∀b j,X b j→b<w.heap.size
 xown: ∀ (id b c j:Nat),ρ[id]? =some (some (b,c))→ ¬ X b j
 inj: ∀ (i j b c c':Nat),ρ[i]? =some (some (b,c))→ρ[j]? =some (some (b,c'))→i=j
structure Fr (X:Nat→Nat→Prop) (ρ:Places) (h:List Obj) (w:World) (ρ':Places) (h':List Obj) (w':World):Prop where
 os:w'.os=w.os
 tape:w'.tape=w.tape
 output:w'.output=w.output
 size:w.heap.size≤w'.heap.size
 block: ∀b,b<w.heap.size→(∀ (id c:Nat),ρ[id]? ≠some (some (b,c)))→w'.heap[b]? =w.heap[b]? ∧ ∀ (id c:Nat),ρ'[id]? ≠some (some (b,c))
 imm: ∀b j v,¬ Mut X ρ h b j→w.cell? ⟨b,j,none⟩=some v→w'.cell? ⟨b,j,none⟩=some v∧ ¬ Mut X ρ' h' b j
def EvoObj (o o':Obj) (r r':Place):Prop:=
 match o,o' with
 |.box cs,.box cs'=>cs'.length=cs.length∧r'=r
 |.arr sz xs _,.arr sz' xs' _=>sz'=sz∧xs.length≤xs'.length∧(xs'.length=xs.length→r'=r)
 |.siter ..,.siter .. =>r'=r
 |.miter _,.miter _=>r'=r
 |.map ..,.map .. =>r'=r
 |_,_=>False
def Evo (k:Nat) (ρ:Places) (h:List Obj) (ρ':Places) (h':List Obj):Prop:=
 ∀ (id:Nat) (o:Obj) (r:Place),id<k→h[id]? =some o→ρ[id]? =some r→ ∃o' r',h'[id]? =some o'∧ρ'[id]? =some r'∧EvoObj o o' r r'
section
variable {X:Nat→Nat→Prop} {ρ ρ' ρ'':Places} {h h' h'':List Obj} {w w' w'':World}
theorem Fr.refl (ρ:Places) (h:List Obj) (w:World):Fr X ρ h w ρ h w:=⟨rfl,rfl,rfl,Nat.le_refl _,fun _ _ hb=>⟨rfl,hb⟩,fun _ _ _ hm hc=>⟨hc,hm⟩⟩
theorem Fr.trans (a:Fr X ρ h w ρ' h' w') (b:Fr X ρ' h' w' ρ'' h'' w''):Fr X ρ h w ρ'' h'' w'' where
 os:=b.os.trans a.os
 tape:=b.tape.trans a.tape
 output:=b.output.trans a.output
 size:=Nat.le_trans a.size b.size
 block:=fun x hx hn=>by
  obtain⟨h1,h2⟩:=a.block x hx hn
  obtain⟨h3,h4⟩:=b.block x (Nat.lt_of_lt_of_le hx a.size) h2
  exact⟨h3.trans h1,h4⟩
 imm:=fun x j v hm hc=>by
  obtain⟨h1,h2⟩:=a.imm x j v hm hc
  exact b.imm x j v h2 h1
theorem EvoObj.refl (o:Obj) (r:Place):EvoObj o o r r:=by
 cases o <;> simp[EvoObj]
theorem EvoObj.trans {o o' o'':Obj} {r r' r'':Place} (a:EvoObj o o' r r') (b:EvoObj o' o'' r' r''):EvoObj o o'' r r'':=by
 cases o <;> cases o' <;> simp only[EvoObj]at a <;> cases o'' <;> simp only[EvoObj]at b ⊢
 ·exact⟨b.1.trans a.1,b.2.trans a.2⟩
 ·obtain⟨a1,a2,a3⟩:=a
  obtain⟨b1,b2,b3⟩:=b
  exact⟨b1.trans a1,Nat.le_trans a2 b2,fun e=>(b3 (by omega)).trans (a3 (by omega))⟩
 ·exact b.trans a
 ·exact b.trans a
 ·exact b.trans a
theorem Evo.refl (k:Nat) (ρ:Places) (h:List Obj):Evo k ρ h ρ h:=fun _ o r _ ho hr=>⟨o,r,ho,hr,EvoObj.refl o r⟩
theorem Evo.trans {k:Nat} (a:Evo k ρ h ρ' h') (b:Evo k ρ' h' ρ'' h''):Evo k ρ h ρ'' h'':=fun id o r hk ho hr=>by
 obtain⟨o',r',h1,h2,h3⟩:=a id o r hk ho hr
 obtain⟨o'',r'',h4,h5,h6⟩:=b id o' r' hk h1 h2
 exact⟨o'',r'',h4,h5,h3.trans h6⟩
theorem Evo.mono {k k':Nat} (a:Evo k ρ h ρ' h') (hk:k'≤k):Evo k' ρ h ρ' h':=fun id o r hi=>a id o r (Nat.lt_of_lt_of_le hi hk)
theorem lt_of_getElem? {α:Type} {l:List α} {i:Nat} {x:α} (h:l[i]? =some x):i<l.length:=by
 rcases Nat.lt_or_ge i l.length with h' | h'
 ·exact h'
 ·simp[List.getElem?_eq_none h']at h
theorem RoVal.mono {M M':Nat→Nat→Prop} (hm: ∀ (b j:Nat) (v:Value),¬ M b j→w.cell? ⟨b,j,none⟩=some v→w'.cell? ⟨b,j,none⟩=some v∧ ¬ M' b j) {v:Value} {cs:List D}
 (h:RoVal M w v cs):RoVal M' w' v cs:=by
 obtain⟨b,o,vs,h1,h2,h3⟩:=h
 exact⟨b,o,vs,h1,fun j c hj=>⟨(hm _ _ _ (h2 j c hj).2.1 (h2 j c hj).1).1,(hm _ _ _ (h2 j c hj).2.1 (h2 j c hj).1).2,(h2 j c hj).2.2⟩,fun j c hj=>(h3 j c hj).mono hm⟩
abbrev Imm (X:Nat→Nat→Prop) (ρ:Places) (h:List Obj) (w:World) (ρ':Places) (h':List Obj) (w':World):Prop:= ∀b j v,¬ Mut X ρ h b j→w.cell? ⟨b,j,none⟩=some v→w'.cell? ⟨b,j,none⟩=some v∧ ¬ Mut X ρ' h' b j
theorem V0.imono (hf:Imm X ρ h w ρ' h' w') (he:Evo h.length ρ h ρ' h') {v:Value} {x:V} (hv:V0 X ρ h w v x):V0 X ρ' h' w' v x:=by
 cases x with
 |d x=>exact Rep.mono hf hv
 |nilS=>exact hv
 |arr id n=>
  obtain⟨hs,sz,xs,wm,r,h1,h2,h3,h4⟩:=hv
  obtain⟨o',r',h5,h6,h7⟩:=he id _ r (lt_of_getElem? h1) h1 h2
  cases o' <;> simp only[EvoObj]at h7
  rename_i sz' xs' wm'
  obtain⟨e1,e2,e3⟩:=h7
  refine⟨hs,sz',xs',wm',r',h5,h6,Nat.le_trans h3 e2,fun e=> ?_⟩
  rw[e3 (by omega)]
  exact h4 (by omega)
 |sl id tot off len=>
  obtain⟨hs,sz,xs,wm,r,h1,h2,h3,h4⟩:=hv
  obtain⟨o',r',h5,h6,h7⟩:=he id _ r (lt_of_getElem? h1) h1 h2
  cases o' <;> simp only[EvoObj]at h7
  rename_i sz' xs' wm'
  obtain⟨e1,e2,e3⟩:=h7
  refine⟨hs,sz',xs',wm',r',h5,h6,Nat.le_trans h3 e2,fun e=> ?_⟩
  rw[e3 (by omega),e1]
  exact h4 (by omega)
 |emp=>exact hv
 |ptr id off=>
  obtain⟨o,b,c,h1,h2,h3,h4⟩:=hv
  obtain⟨o',r',h5,h6,h7⟩:=he id _ _ (lt_of_getElem? h1) h1 h3
  refine⟨o',b,c,h5, ?_, ?_,h4⟩
  ·cases o <;> cases o' <;> simp_all [EvoObj,Obj.isArr]
  ·cases o <;> cases o' <;> simp_all [EvoObj,Obj.isArr]
 |eptr id n i off=>
  obtain⟨hs,sz,xs,wm,r,h1,h2,h3,h4⟩:=hv
  obtain⟨o',r',h5,h6,h7⟩:=he id _ r (lt_of_getElem? h1) h1 h2
  cases o' <;> simp only[EvoObj]at h7
  rename_i sz' xs' wm'
  obtain⟨e1,e2,e3⟩:=h7
  refine⟨hs,sz',xs',wm',r',h5,h6,Nat.le_trans h3 e2,fun e=> ?_⟩
  rw[e3 (by omega),e1]
  exact h4 (by omega)
 |ro cs=>exact RoVal.mono hf hv
 |dead=>trivial
 |mp id=>
  rcases hv with ⟨cs,b,c,h1,h2,h3⟩ | ⟨es,bs,ck,b,c,h1,h2,h3⟩
  ·obtain⟨o',r',h5,h6,h7⟩:=he id _ _ (lt_of_getElem? h1) h1 h2
   cases o' <;> simp only[EvoObj]at h7
   obtain⟨e1,rfl⟩:=h7
   exact .inl ⟨_,b,c,h5,h6,by rw[e1];exact h3⟩
  ·obtain⟨o',r',h5,h6,h7⟩:=he id _ _ (lt_of_getElem? h1) h1 h2
   cases o' <;> simp only[EvoObj]at h7
   subst h7
   exact .inr ⟨_,_,_,b,c,h5,h6,h3⟩
 |clo _ _=>exact hv
 |agg _=>exact hv
 |tup _=>exact hv
theorem V1.imono (hf:Imm X ρ h w ρ' h' w') (he:Evo h.length ρ h ρ' h') {v:Value} {x:V} (hv:V1 X ρ h w v x):V1 X ρ' h' w' v x:=by
 cases x with
 |clo f caps=>
  obtain⟨us,h1,h2,h3⟩:=hv
  exact⟨us,h1,h2,fun j c hj=>let ⟨u,h4,h5⟩:=h3 j c hj;⟨u,h4,h5.imono hf he⟩⟩
 |d x=>exact V0.imono (v:=v) (x:= .d x) hf he hv
 |nilS=>exact V0.imono (v:=v) (x:= .nilS) hf he hv
 |arr a b=>exact V0.imono (v:=v) (x:= .arr a b) hf he hv
 |sl a b c d=>exact V0.imono (v:=v) (x:= .sl a b c d) hf he hv
 |emp=>exact V0.imono (v:=v) (x:= .emp) hf he hv
 |ptr a b=>exact V0.imono (v:=v) (x:= .ptr a b) hf he hv
 |eptr a b c d=>exact V0.imono (v:=v) (x:= .eptr a b c d) hf he hv
 |ro a=>exact V0.imono (v:=v) (x:= .ro a) hf he hv
 |mp a=>exact V0.imono (v:=v) (x:= .mp a) hf he hv
 |agg a=>exact V0.imono (v:=v) (x:= .agg a) hf he hv
 |tup a=>exact V0.imono (v:=v) (x:= .tup a) hf he hv
 |dead=>trivial
theorem V2.imono (hf:Imm X ρ h w ρ' h' w') (he:Evo h.length ρ h ρ' h') {v:Value} {x:V} (hv:V2 X ρ h w v x):V2 X ρ' h' w' v x:=by
 cases x with
 |agg cs=>
  obtain⟨us,h1,h2,h3⟩:=hv
  exact⟨us,h1,h2,fun j c hj=>let ⟨u,h4,h5,h6⟩:=h3 j c hj;⟨u,h4,h5.imono hf he,h6⟩⟩
 |d x=>exact V1.imono (v:=v) (x:= .d x) hf he hv
 |nilS=>exact V1.imono (v:=v) (x:= .nilS) hf he hv
 |arr a b=>exact V1.imono (v:=v) (x:= .arr a b) hf he hv
 |sl a b c d=>exact V1.imono (v:=v) (x:= .sl a b c d) hf he hv
 |emp=>exact V1.imono (v:=v) (x:= .emp) hf he hv
 |ptr a b=>exact V1.imono (v:=v) (x:= .ptr a b) hf he hv
 |eptr a b c d=>exact V1.imono (v:=v) (x:= .eptr a b c d) hf he hv
 |ro a=>exact V1.imono (v:=v) (x:= .ro a) hf he hv
 |mp a=>exact V1.imono (v:=v) (x:= .mp a) hf he hv
 |clo a b=>exact V1.imono (v:=v) (x:= .clo a b) hf he hv
 |tup a=>exact V1.imono (v:=v) (x:= .tup a) hf he hv
 |dead=>trivial
theorem VRel.imono (hf:Imm X ρ h w ρ' h' w') (he:Evo h.length ρ h ρ' h') {v:Value} {x:V} (hv:VRel X ρ h w v x):VRel X ρ' h' w' v x:=by
 cases x with
 |clo f caps=>exact V2.imono (v:=v) (x:= .clo f caps) hf he hv
 |tup vs=>
  obtain⟨us,h1,h2,h3⟩:=hv
  exact⟨us,h1,h2,fun j c hj=>let ⟨u,h4,h5⟩:=h3 j c hj;⟨u,h4,h5.imono hf he⟩⟩
 |d x=>exact V2.imono (v:=v) (x:= .d x) hf he hv
 |nilS=>exact V2.imono (v:=v) (x:= .nilS) hf he hv
 |arr a b=>exact V2.imono (v:=v) (x:= .arr a b) hf he hv
 |sl a b c d=>exact V2.imono (v:=v) (x:= .sl a b c d) hf he hv
 |emp=>exact V2.imono (v:=v) (x:= .emp) hf he hv
 |ptr a b=>exact V2.imono (v:=v) (x:= .ptr a b) hf he hv
 |eptr a b c d=>exact V2.imono (v:=v) (x:= .eptr a b c d) hf he hv
 |ro a=>exact V2.imono (v:=v) (x:= .ro a) hf he hv
 |mp a=>exact V2.imono (v:=v) (x:= .mp a) hf he hv
 |agg a=>exact V2.imono (v:=v) (x:= .agg a) hf he hv
 |dead=>trivial
theorem V0.mono (hf:Fr X ρ h w ρ' h' w') (he:Evo h.length ρ h ρ' h') {v:Value} {x:V} (hv:V0 X ρ h w v x):V0 X ρ' h' w' v x:=hv.imono hf.imm he
theorem V1.mono (hf:Fr X ρ h w ρ' h' w') (he:Evo h.length ρ h ρ' h') {v:Value} {x:V} (hv:V1 X ρ h w v x):V1 X ρ' h' w' v x:=hv.imono hf.imm he
theorem V2.mono (hf:Fr X ρ h w ρ' h' w') (he:Evo h.length ρ h ρ' h') {v:Value} {x:V} (hv:V2 X ρ h w v x):V2 X ρ' h' w' v x:=hv.imono hf.imm he
theorem VRel.mono (hf:Fr X ρ h w ρ' h' w') (he:Evo h.length ρ h ρ' h') {v:Value} {x:V} (hv:VRel X ρ h w v x):VRel X ρ' h' w' v x:=VRel.imono hf.imm he hv
theorem HRel.lt (H:HRel X ρ h w) {id b c:Nat} (hr:ρ[id]? =some (some (b,c))):b<w.heap.size:=by
 have hid:id<h.length:=by rw[← H.len];exact lt_of_getElem? hr
 obtain⟨r,h1,h2⟩:=H.obj id h[id] (by simp[hid])
 rw[hr]at h1
 cases h1
 generalize h[id]=o at h2
 have: ∃x,w.heap[b]? =some x:=by
  cases o with
  |box cs=>obtain⟨b',c',cur,e,fz,e1,e2,_⟩:=h2.2 (by simp);cases e1;exact⟨_,e2⟩
  |arr sz xs wm=>obtain⟨_,cur,e,fz,e2,_⟩:=h2;exact⟨_,e2⟩
  |siter s pos=>obtain⟨b',c',e1,e2⟩:=h2;cases e1;exact⟨_,e2⟩
  |miter m=>obtain⟨b',c',_,_,_,_,_,_,_,_,e1,e2,_⟩:=h2;cases e1;exact⟨_,e2⟩
  |map es bs ck=>obtain⟨b',c',en,e1,e2,_⟩:=h2;cases e1;exact⟨_,e2⟩
 obtain⟨x,hx⟩:=this
 exact (Array.getElem?_eq_some_iff.1 hx).1
theorem ObjRel.ikept (hf:Imm X ρ h w ρ' h' w') (he:Evo h.length ρ h ρ' h') {r:Place} {o:Obj} (ho:ObjRel X ρ h w r o)
 (hb: ∀b c,r=some (b,c)→w'.heap[b]? =w.heap[b]?):ObjRel X ρ' h' w' r o:=by
 have hu: ∀b c n,r=some (b,c)→Unfrozen w b n→Unfrozen w' b n:=fun b c n e hu cs t fz he=>hu cs t fz ((hb b c e).symm.trans he)
 cases o with
 |box cs=>
  refine⟨ho.1,fun hne=> ?_⟩
  obtain⟨b,c,cur,e,fz,h1,h2,h3,h4,h5⟩:=ho.2 hne
  exact⟨b,c,cur,e,fz,h1,(hb b c h1).trans h2,h3,hu b c _ h1 h4,fun j x hj=>let ⟨u,h6,h7,h8⟩:=h5 j x hj;⟨u,h6,h7.imono hf he,h8⟩⟩
 |arr sz xs wm=>
  refine⟨ho.1, ?_⟩
  cases r with
  |none=>exact ho.2
  |some p=>
   obtain⟨b,c⟩:=p
   obtain⟨_,cur,e,fz,h1,h2,h3,h4,h5,h6,h7,h8⟩:=ho
   exact⟨cur,e,fz,(hb b c rfl).trans h1,h2,h3,h4,h5,h6,hu b c _ rfl h7,fun j x hj=>let ⟨u,h9,h10,h11⟩:=h8 j x hj;⟨u,h9,h10.mono hf,h11⟩⟩
 |siter s pos=>
  obtain⟨b,c,h1,h2⟩:=ho
  exact⟨b,c,h1,(hb b c h1).trans h2⟩
 |miter m=>
  obtain⟨b,c,bm,cm,since,ck,seen,es,bs,ck',h1,h2,h3,h4,h5⟩:=ho
  obtain⟨o',r',e1,e2,e3⟩:=he m _ _ (lt_of_getElem? h4) h4 h3
  cases o' with
  |map es2 bs2 ck2=>cases e3;exact⟨b,c,bm,cm,since,ck,seen,es2,bs2,ck2,h1,(hb b c h1).trans h2,e2,e1,h5⟩
  |_=>exact e3.elim
 |map es bs ck=>
  obtain⟨b,c,en,h1,h2,h3,hbs,h4⟩:=ho
  exact⟨b,c,en,h1,(hb b c h1).trans h2,h3,hbs,fun j k x hj=>let ⟨e,h5,h6,h7,h8⟩:=h4 j k x hj;⟨e,h5,h6.mono hf,h7.imono hf he,h8⟩⟩
theorem ObjRel.kept (hf:Fr X ρ h w ρ' h' w') (he:Evo h.length ρ h ρ' h') {r:Place} {o:Obj} (ho:ObjRel X ρ h w r o)
 (hb: ∀b c,r=some (b,c)→w'.heap[b]? =w.heap[b]?):ObjRel X ρ' h' w' r o:=ho.ikept hf.imm he hb
end
end Go.Am
namespace Go.Am
section
variable {X:Nat→Nat→Prop} {ρ:Places} {h:List Obj} {w w':World}
theorem getElem?_push {α:Type} (l:List α) (x:α) (i:Nat) (y:α):(l++[x])[i]? =some y↔(l[i]? =some y∨(i=l.length∧x=y)):=by
 rcases Nat.lt_trichotomy i l.length with hi | hi | hi
 ·rw[List.getElem?_append_left hi]
  constructor
  ·exact .inl
  ·rintro (e | ⟨e,_⟩)
   ·exact e
   ·omega
 ·subst hi
  simp
 ·rw[List.getElem?_eq_none (by simp;omega),List.getElem?_eq_none (by omega)]
  constructor
  ·intro e;cases e
  ·rintro (e | ⟨e,_⟩)
   ·cases e
   ·omega
theorem step_push (H:HRel X ρ h w) (o:Obj) (r:Place) (hos:w'.os=w.os) (htape:w'.tape=w.tape) (hout:w'.output=w.output) (hsize:w.heap.size≤w'.heap.size)
 (hblk: ∀b,b<w.heap.size→w'.heap[b]? =w.heap[b]?) (hr: ∀b c,r=some (b,c)→w.heap.size≤b)
 (hobj:Fr X ρ h w (ρ++[r]) (h++[o]) w'→Evo h.length ρ h (ρ++[r]) (h++[o])→ObjRel X (ρ++[r]) (h++[o]) w' r o):
 HRel X (ρ++[r]) (h++[o]) w'∧Fr X ρ h w (ρ++[r]) (h++[o]) w'∧Evo h.length ρ h (ρ++[r]) (h++[o]):=by
 have hf:Fr X ρ h w (ρ++[r]) (h++[o]) w':=by
  refine⟨hos,htape,hout,hsize,fun b hb hn=>⟨hblk b hb,fun id c hid=> ?_⟩,fun b j v hm hc=> ?_⟩
  ·rcases (getElem?_push _ _ _ _).1 hid with e | ⟨_,e⟩
   ·exact hn id c e
   ·have:=hr b c e;omega
  ·have hb:b<w.heap.size:=World.block_lt_of_cell? w ⟨b,j,none⟩ hc
   refine⟨(World.cell?_of_block (a:=⟨b,j,none⟩) (hblk b hb)).trans hc, ?_⟩
   rintro (hX | ⟨id,c,o',h1,h2,h3⟩)
   ·exact hm (.inl hX)
   rcases (getElem?_push _ _ _ _).1 h1 with e | ⟨_,e⟩
   ·have hid:id<h.length:=by rw[← H.len];exact lt_of_getElem? e
    rw[List.getElem?_append_left hid]at h2
    exact hm (.inr ⟨id,c,o',e,h2,h3⟩)
   ·have:=hr b c e;omega
 have he:Evo h.length ρ h (ρ++[r]) (h++[o]):=fun id o' r' hid ho' hr'=>
  ⟨o',r',(getElem?_push _ _ _ _).2 (.inl ho'),(getElem?_push _ _ _ _).2 (.inl hr'),EvoObj.refl _ _⟩
 refine⟨⟨by simp[H.len],fun id o' ho'=> ?_,fun b j hX=>Nat.lt_of_lt_of_le (H.xlt b j hX) hsize,fun id b c j hid=> ?_,fun i j b c c' hi hj=> ?_⟩,hf,he⟩
 ·rcases (getElem?_push _ _ _ _).1 ho' with e | ⟨e1,e2⟩
  ·obtain⟨r',h1,h2⟩:=H.obj id o' e
   refine⟨r',(getElem?_push _ _ _ _).2 (.inl h1),h2.kept hf he fun b c hbc=>hblk b (H.lt (hbc ▸ h1))⟩
  ·subst e2
   exact⟨r,(getElem?_push _ _ _ _).2 (.inr ⟨by rw[e1,H.len],rfl⟩),hobj hf he⟩
 ·rcases (getElem?_push _ _ _ _).1 hid with e | ⟨_,e⟩
  ·exact H.xown id b c j e
  ·intro hX
   have h1:=H.xlt b j hX
   have h2:=hr b c e
   omega
 ·rcases (getElem?_push _ _ _ _).1 hi with e | ⟨e1,e2⟩ <;> rcases (getElem?_push _ _ _ _).1 hj with f | ⟨f1,f2⟩
  ·exact H.inj i j b c c' e f
  ·have:=hr b c' f2;have:=H.lt e;omega
  ·have:=hr b c e2;have:=H.lt f;omega
  ·omega
theorem getElem?_set' {α:Type} (l:List α) (i j:Nat) (x y:α) (hi:i<l.length):(l.set i x)[j]? =some y↔((i=j∧x=y)∨(i≠j∧l[j]? =some y)):=by
 by_cases e:i=j
 ·subst e;simp[hi]
 ·simp[e]
theorem step_set (H:HRel X ρ h w) {id:Nat} {o o':Obj} {r r':Place} (ho:h[id]? =some o) (hr:ρ[id]? =some r)
 (hos:w'.os=w.os) (htape:w'.tape=w.tape) (hout:w'.output=w.output) (hsize:w.heap.size≤w'.heap.size)
 (hblk: ∀b,b<w.heap.size→(∀c,r≠some (b,c))→w'.heap[b]? =w.heap[b]?)
 (hr':r'=r∨(∃c,r'=some (w.heap.size,c)))
 (himm: ∀j v b c,r=some (b,c)→ ¬ o.mutAt j→w.cell? ⟨b,j,none⟩=some v→w'.cell? ⟨b,j,none⟩=some v)
 (hmut:r'=r→ ∀j,¬ o.mutAt j→ ¬ o'.mutAt j) (hevo:EvoObj o o' r r')
 (hobj:Fr X ρ h w (ρ.set id r') (h.set id o') w'→Evo h.length ρ h (ρ.set id r') (h.set id o')→ObjRel X (ρ.set id r') (h.set id o') w' r' o'):
 HRel X (ρ.set id r') (h.set id o') w'∧Fr X ρ h w (ρ.set id r') (h.set id o') w'∧Evo h.length ρ h (ρ.set id r') (h.set id o'):=by
 have hid:id<h.length:=lt_of_getElem? ho
 have hid':id<ρ.length:=lt_of_getElem? hr
 have hnew: ∀b c,b<w.heap.size→r'=some (b,c)→r'=r:=fun b c hb e=>by
  rcases hr' with e' | ⟨c',e'⟩
  ·exact e'
  ·rw[e]at e';cases e';omega
 have hf:Fr X ρ h w (ρ.set id r') (h.set id o') w':=by
  refine⟨hos,htape,hout,hsize,fun b hb hn=>⟨hblk b hb fun c e=>hn id c (e ▸ hr),fun i c hi=> ?_⟩,fun b j v hm hc=> ?_⟩
  ·rcases (getElem?_set' _ _ _ _ _ hid').1 hi with ⟨_,e⟩ | ⟨_,e⟩
   ·have:=hnew b c hb e
    rw[this]at e
    exact hn id c (e ▸ hr)
   ·exact hn i c e
  ·have hb:b<w.heap.size:=World.block_lt_of_cell? w ⟨b,j,none⟩ hc
   constructor
   ·by_cases hown: ∃c,r=some (b,c)
    ·obtain⟨c,e⟩:=hown
     exact himm j v b c e (fun hmu=>hm (.inr ⟨id,c,o,e ▸ hr,ho,hmu⟩)) hc
    ·exact (World.cell?_of_block (a:=⟨b,j,none⟩) (hblk b hb fun c e=>hown ⟨c,e⟩)).trans hc
   ·rintro (hX | ⟨i,c,o'',h1,h2,h3⟩)
    ·exact hm (.inl hX)
    rcases (getElem?_set' _ _ _ _ _ hid').1 h1 with ⟨e1,e⟩ | ⟨e1,e⟩
    ·subst e1
     rw[List.getElem?_set_self hid]at h2
     cases h2
     have e':=hnew b c hb e
     refine hmut e' j (fun hmu=>hm (.inr ⟨id,c,o,by rw[← e,e',hr],ho,hmu⟩)) h3
    ·rw[List.getElem?_set_ne e1]at h2
     exact hm (.inr ⟨i,c,o'',e,h2,h3⟩)
 have he:Evo h.length ρ h (ρ.set id r') (h.set id o'):=fun i oi ri hi hoi hri=>by
  by_cases e:id=i
  ·subst e
   rw[ho]at hoi;rw[hr]at hri;cases hoi;cases hri
   exact⟨o',r',by simp[hid],by simp[hid'],hevo⟩
  ·exact⟨oi,ri,by simp[e,hoi],by simp[e,hri],EvoObj.refl _ _⟩
 refine⟨⟨by simp[H.len],fun i oi hoi=> ?_,fun b j hX=>Nat.lt_of_lt_of_le (H.xlt b j hX) hsize,fun i b c j hi=> ?_,fun i j b c c' hi hj=> ?_⟩,hf,he⟩
 ·rcases (getElem?_set' _ _ _ _ _ hid).1 hoi with ⟨e1,e2⟩ | ⟨e1,e2⟩
  ·subst e1;subst e2
   exact⟨r',by simp[hid'],hobj hf he⟩
  ·obtain⟨ri,h1,h2⟩:=H.obj i oi e2
   refine⟨ri,by simp[e1,h1],h2.kept hf he fun b c hbc=>hblk b (H.lt (hbc ▸ h1)) fun c' e=>e1 ?_⟩
   subst hbc;subst e
   exact (H.inj _ _ b _ _ hr h1)
 ·rcases (getElem?_set' _ _ _ _ _ hid').1 hi with ⟨_,e⟩ | ⟨_,e⟩
  ·rcases hr' with e' | ⟨c',e'⟩
   ·exact H.xown id b c j (by rw[hr,← e',e])
   ·intro hX
    have h1:=H.xlt b j hX
    rw[e]at e'
    cases e'
    omega
  ·exact H.xown i b c j e
 ·rcases (getElem?_set' _ _ _ _ _ hid').1 hi with ⟨e1,e2⟩ | ⟨e1,e2⟩ <;> rcases (getElem?_set' _ _ _ _ _ hid').1 hj with ⟨f1,f2⟩ | ⟨f1,f2⟩
  ·omega
  ·have hb:=H.lt f2
   have e3:=hnew b c hb e2
   exact e1 ▸ H.inj _ _ b c c' (by rw[hr,← e3,e2]) f2
  ·have hb:=H.lt e2
   have e3:=hnew b c' hb f2
   exact f1 ▸ H.inj _ _ b c c' e2 (by rw[hr,← e3,f2])
  ·exact H.inj i j b c c' e2 f2
theorem set_self {α:Type} {l:List α} {i:Nat} {x:α} (hx:l[i]? =some x):l.set i x=l:=by
 apply List.ext_getElem?
 intro j
 by_cases e:i=j
 ·subst e;rw[List.getElem?_set_self (lt_of_getElem? hx),hx]
 ·simp[e]
theorem step_freeze (H:HRel X ρ h w) {id sz:Nat} {xs:List D} {wm:Nat} (ho:h[id]? =some (.arr sz xs wm)):
 HRel X ρ (h.set id (.arr sz xs xs.length)) w∧Fr X ρ h w ρ (h.set id (.arr sz xs xs.length)) w∧Evo h.length ρ h ρ (h.set id (.arr sz xs xs.length)):=by
 obtain⟨r,hr,hrel⟩:=H.obj id _ ho
 have:=step_set (w':=w) (r':=r) (o':= .arr sz xs xs.length) H ho hr rfl rfl rfl (Nat.le_refl _) (fun _ _ _=>rfl) (.inl rfl) (fun _ _ _ _ _ _ hc=>hc)
  (fun _ j hj=>by
    have hw:=hrel.1
    simp only[Obj.mutAt,Nat.not_le]at hj ⊢
    exact Nat.lt_of_lt_of_le hj (Nat.mul_le_mul_right _ hw)) ⟨rfl,Nat.le_refl _,fun _=>rfl⟩
  (fun hf he=>by
    refine⟨Nat.le_refl _, ?_⟩
    have hr2:=hrel.2
    cases r with
    |none=>exact hr2
    |some p=>
     obtain⟨b,c⟩:=p
     obtain⟨cur,e,fz,h1,h2,h3,h4,h5,h6,h7,h8⟩:=hr2
     exact⟨cur,e,fz,h1,h2,h3,h4,h5,h6,h7,fun j x hj=>let ⟨u,h9,h10,h11⟩:=h8 j x hj;⟨u,h9,h10.mono hf.imm,h11⟩⟩)
 rw[set_self hr]at this
 exact this
theorem flat_length {xs:List D} {sz:Nat} (hs: ∀x∈xs,x.cells.length=sz):(flat xs).length=xs.length*sz:=by
 induction xs with
 |nil=>simp[flat]
 |cons x xs ih=>
  have:=ih fun y hy=>hs y (by simp[hy])
  simp only[flat,List.flatMap_cons,List.length_append,List.length_cons]at this ⊢
  rw[this,hs x (by simp),Nat.add_mul]
  omega
theorem flat_append (xs ys:List D):flat (xs++ys)=flat xs++flat ys:=by simp[flat]
theorem flat_cut {xs:List D} {l u sz:Nat} (hs: ∀x∈xs,x.cells.length=sz) (hu:u≤xs.length) (hl:l≤u) {j:Nat} {c:D} (hj:(flat (cut xs l u))[j]? =some c):
 (flat xs)[l*sz+j]? =some c:=by
 have e1:xs=(xs.take u).take l++(cut xs l u++xs.drop u):=by
  rw[cut,← List.append_assoc,List.take_append_drop,List.take_append_drop]
 have e2:(flat ((xs.take u).take l)).length=l*sz:=by
  rw[flat_length (sz:=sz) fun x hx=>hs x (List.mem_of_mem_take (List.mem_of_mem_take hx))]
  simp
  congr 1
  omega
 rw[e1,flat_append,List.getElem?_append_right (by omega),e2,Nat.add_sub_cancel_left,flat_append,List.getElem?_append_left (lt_of_getElem? hj)]
 exact hj
theorem cut_mem {xs:List D} {l u:Nat} {x:D} (hx:x∈cut xs l u):x∈xs:=List.mem_of_mem_take (List.mem_of_mem_drop hx)
theorem cut_length {xs:List D} {l u:Nat} (hu:u≤xs.length):(cut xs l u).length=u - l:=by
 simp[cut];omega
theorem cell_of_heap {w:World} {b:Nat} {cur:Array Value} {e:TypeId} {fz:Nat × Nat} (hb:w.heap[b]? =some (.cells cur e fz)) (j:Nat):w.cell? ⟨b,j,none⟩=cur[j]? :=by
 simp[World.cell?,hb]
theorem arr_reads (H:HRel X ρ h w) {id sz:Nat} {xs:List D} {wm:Nat} (ho:h[id]? =some (.arr sz xs wm)) (hw:wm=xs.length) {v:Value} (hv:V1 X ρ h w v (.arr id xs.length)):
 Rep (Mut X ρ h) w v (.list xs):=by
 obtain⟨_,sz',xs',wm',r,h1,h2,_,h4⟩:=hv
 rw[ho]at h1;cases h1
 have hav:=h4 rfl
 obtain⟨r',h5,h6⟩:=H.obj id _ ho
 rw[h2]at h5;cases h5
 have h7:=h6.2
 cases r with
 |none=>
  subst h7
  obtain⟨_,a,rfl⟩:=hav
  exact .nil a 0 fun _=>rfl
 |some p=>
  obtain⟨b,cap⟩:=p
  obtain⟨cur,e,fz,k1,k2,k3,k4,k5,k6,k7,k8⟩:=h7
  simp only[ArrVal]at hav
  subst hav
  have hlen:=flat_length k6
  refine .list b 0 xs.length cap sz xs (fun j=>cur.getD j undef) rfl k3 k6 (fun j c hj=> ?_) (fun j c hj=> ?_)
  ·obtain⟨u,k9,k10,k11⟩:=k8 j c hj
   refine⟨?_, ?_,k11⟩
   ·rw[cell_of_heap k1,Nat.zero_add,k9]
    simp[Array.getD_eq_getD_getElem?,k9]
   ·rintro (hX | ⟨i,c',o,m1,m2,m3⟩)
    ·exact H.xown id b cap _ h2 hX
    have:=H.inj _ _ b _ _ h2 m1
    subst this
    rw[ho]at m2;cases m2
    have hj':=lt_of_getElem? hj
    simp only[Obj.mutAt,hw]at m3
    rw[hlen]at hj'
    omega
  ·obtain⟨u,k9,k10,k11⟩:=k8 j c hj
   simpa[Array.getD_eq_getD_getElem?,k9]using k10
theorem sl_reads (H:HRel X ρ h w) {id sz off len:Nat} {xs:List D} {wm:Nat} (ho:h[id]? =some (.arr sz xs wm)) (hw:wm=xs.length) {v:Value} (hv:V1 X ρ h w v (.sl id xs.length off len)):
 Rep (Mut X ρ h) w v (.list (cut xs off (off+len))):=by
 obtain⟨_,sz',xs',wm',r,h1,h2,_,h4⟩:=hv
 rw[ho]at h1;cases h1
 obtain⟨hle,a,c,rfl,hc,han,hpos⟩:=h4 rfl
 rcases Nat.eq_zero_or_pos len with e | e
 ·subst e
  have:cut xs off (off+0)=[]:=by apply List.eq_nil_of_length_eq_zero;rw[cut_length (by omega)];omega
  rw[this]
  exact .nil a c han
 ·obtain⟨b,cap,rfl,rfl⟩:=hpos e
  obtain⟨r',h5,h6⟩:=H.obj id _ ho
  rw[h2]at h5;cases h5
  obtain⟨cur,e',fz,k1,k2,k3,k4,k5,k6,k7,k8⟩:=h6.2
  have hlen:=flat_length k6
  have hcs: ∀x∈cut xs off (off+len),x.cells.length=sz:=fun x hx=>k6 x (cut_mem hx)
  refine .list b (off*sz) len c sz _ (fun j=>cur.getD (off*sz+j) undef) (by rw[cut_length (by omega)];omega) hc hcs (fun j c hj=> ?_) (fun j c hj=> ?_)
  ·have hj1:=flat_cut k6 (by omega) (by omega) hj
   obtain⟨u,k9,k10,k11⟩:=k8 _ c hj1
   refine⟨?_, ?_,k11⟩
   ·rw[cell_of_heap k1,k9]
    simp[Array.getD_eq_getD_getElem?,k9]
   ·rintro (hX | ⟨i,c',o,m1,m2,m3⟩)
    ·exact H.xown id b cap _ h2 hX
    have:=H.inj _ _ b _ _ h2 m1
    subst this
    rw[ho]at m2;cases m2
    have hj':=lt_of_getElem? hj1
    simp only[Obj.mutAt,hw]at m3
    rw[hlen]at hj'
    omega
  ·have hj1:=flat_cut k6 (by omega) (by omega) hj
   obtain⟨u,k9,k10,k11⟩:=k8 _ c hj1
   simpa[Array.getD_eq_getD_getElem?,k9]using k10
end
end Go.Am
namespace Go.Am
section
variable {X:Nat→Nat→Prop} {ρ ρ' ρ'':Places} {h h' h'':List Obj} {w w' w'':World}
theorem Evo.le (H:HRel X ρ h w) (he:Evo h.length ρ h ρ' h'):h.length≤h'.length:=by
 rcases Nat.eq_zero_or_pos h.length with e | e
 ·omega
 ·have hlt:h.length - 1<h.length:=by omega
  have hlt':h.length - 1<ρ.length:=by rw[H.len];exact hlt
  obtain⟨o',r',h1,_⟩:=he (h.length - 1) (h[h.length - 1]) (ρ[h.length - 1]) hlt (by simp[hlt]) (by simp[hlt'])
  have:=lt_of_getElem? h1
  omega
structure Stp (X:Nat→Nat→Prop) (ρ:Places) (h:List Obj) (w:World) (ρ':Places) (h':List Obj) (w':World):Prop where
 rel:HRel X ρ' h' w'
 fr:Fr X ρ h w ρ' h' w'
 evo:Evo h.length ρ h ρ' h'
theorem Stp.refl (H:HRel X ρ h w):Stp X ρ h w ρ h w:=⟨H,Fr.refl _ _ _,Evo.refl _ _ _⟩
theorem Stp.trans (H:HRel X ρ h w) (a:Stp X ρ h w ρ' h' w') (b:Stp X ρ' h' w' ρ'' h'' w''):Stp X ρ h w ρ'' h'' w'':=
 ⟨b.rel,a.fr.trans b.fr,a.evo.trans (b.evo.mono (a.evo.le H))⟩
theorem Stp.v1 (a:Stp X ρ h w ρ' h' w') {v:Value} {x:V} (hv:V1 X ρ h w v x):V1 X ρ' h' w' v x:=hv.mono a.fr a.evo
theorem Stp.v2 (a:Stp X ρ h w ρ' h' w') {v:Value} {x:V} (hv:V2 X ρ h w v x):V2 X ρ' h' w' v x:=hv.mono a.fr a.evo
theorem Stp.vrel (a:Stp X ρ h w ρ' h' w') {v:Value} {x:V} (hv:VRel X ρ h w v x):VRel X ρ' h' w' v x:=hv.mono a.fr a.evo
theorem Stp.rep (a:Stp X ρ h w ρ' h' w') {v:Value} {x:D} (hv:Rep (Mut X ρ h) w v x):Rep (Mut X ρ' h') w' v x:=hv.mono a.fr.imm
theorem pure1_sound {v:Value} {V:V} {x:D} (hp:pure1 h V=some (x,h')) (H:HRel X ρ h w) (hv:V1 X ρ h w v V):Stp X ρ h w ρ h' w∧Rep (Mut X ρ h') w v x:=by
 cases V with
 |d y=>simp only[pure1,Option.some.injEq,Prod.mk.injEq]at hp;obtain⟨rfl,rfl⟩:=hp;exact⟨Stp.refl H,hv⟩
 |nilS=>
  simp only[pure1,Option.some.injEq,Prod.mk.injEq]at hp;obtain⟨rfl,rfl⟩:=hp
  refine⟨Stp.refl H, ?_⟩
  simp only[V1]at hv
  subst hv
  exact .nil none 0 fun _=>rfl
 |emp=>
  simp only[pure1,Option.some.injEq,Prod.mk.injEq]at hp;obtain⟨rfl,rfl⟩:=hp
  obtain⟨a,c,rfl⟩:=hv
  exact⟨Stp.refl H,.nil (some a) c fun e=>by cases e⟩
 |sl id tot off len=>
  simp only[pure1]at hp
  split at hp
  ·rename_i sz xs wm ho
   split at hp
   ·rename_i hn
    simp only[Option.some.injEq,Prod.mk.injEq]at hp;obtain⟨rfl,rfl⟩:=hp
    subst hn
    obtain⟨h1,h2,h3⟩:=step_freeze H ho
    refine⟨⟨h1,h2,h3⟩, ?_⟩
    exact sl_reads h1 (id:=id) (sz:=sz) (wm:=xs.length) (by rw[List.getElem?_set_self (lt_of_getElem? ho)]) rfl (hv.mono h2 h3)
   ·cases hp
  ·cases hp
 |arr id n=>
  simp only[pure1]at hp
  split at hp
  ·rename_i sz xs wm ho
   split at hp
   ·rename_i hn
    simp only[Option.some.injEq,Prod.mk.injEq]at hp;obtain⟨rfl,rfl⟩:=hp
    subst hn
    obtain⟨h1,h2,h3⟩:=step_freeze H ho
    refine⟨⟨h1,h2,h3⟩, ?_⟩
    exact arr_reads h1 (id:=id) (sz:=sz) (wm:=xs.length) (by rw[List.getElem?_set_self (lt_of_getElem? ho)]) rfl (hv.mono h2 h3)
   ·cases hp
  ·cases hp
 |_=>simp[pure1]at hp
theorem pure1_cell {V:V} {x:D} (hp:pure1 h V=some (x,h')) (hc:V.cellOk=true):x.isCell=true:=by
 cases V with
 |d y=>
  simp only[pure1,Option.some.injEq,Prod.mk.injEq]at hp;obtain⟨rfl,_⟩:=hp
  cases y <;> simp_all [V.cellOk,D.isCell]
 |nilS=>simp only[pure1,Option.some.injEq,Prod.mk.injEq]at hp;obtain⟨rfl,_⟩:=hp;rfl
 |emp=>simp only[pure1,Option.some.injEq,Prod.mk.injEq]at hp;obtain⟨rfl,_⟩:=hp;rfl
 |sl a b c d=>
  simp only[pure1]at hp
  split at hp
  ·split at hp
   ·simp only[Option.some.injEq,Prod.mk.injEq]at hp;obtain⟨rfl,_⟩:=hp;rfl
   ·cases hp
  ·cases hp
 |arr id n=>
  simp only[pure1]at hp
  split at hp
  ·split at hp
   ·simp only[Option.some.injEq,Prod.mk.injEq]at hp;obtain⟨rfl,_⟩:=hp;rfl
   ·cases hp
  ·cases hp
 |_=>simp[pure1]at hp
theorem pureList_sound: ∀ (cs:List V) (h:List Obj) (us:Nat→Value) (xs:List D) (h':List Obj),pureList h cs=some (xs,h')→HRel X ρ h w→
 (∀ (j:Nat) (c:V),cs[j]? =some c→V1 X ρ h w (us j) c)→
 Stp X ρ h w ρ h' w∧xs.length=cs.length∧(∀ (j:Nat) (x:D),xs[j]? =some x→Rep (Mut X ρ h') w (us j) x)∧((∀c∈cs,c.cellOk=true)→ ∀x∈xs,x.isCell=true)
 |[],h,us,xs,h',hp,H,_=>by
  simp only[pureList,Option.some.injEq,Prod.mk.injEq]at hp;obtain⟨rfl,rfl⟩:=hp
  exact⟨Stp.refl H,rfl,fun j x hj=>by simp at hj,fun _ x hx=>by simp at hx⟩
 |c::cs,h,us,xs,h',hp,H,hc=>by
  simp only[pureList]at hp
  split at hp
  ·rename_i x h1 hx
   split at hp
   ·rename_i ys h2 hy
    simp only[Option.some.injEq,Prod.mk.injEq]at hp;obtain⟨rfl,rfl⟩:=hp
    obtain⟨s1,r1⟩:=pure1_sound hx H (hc 0 c (by simp))
    obtain⟨s2,e2,r2,k2⟩:=pureList_sound cs h1 (fun j=>us (j+1)) ys _ hy s1.rel fun j c hj=>s1.v1 (hc (j+1) c (by simpa using hj))
    refine⟨s1.trans H s2,by simp[e2],fun j x hj=> ?_,fun hk x hx'=> ?_⟩
    ·cases j with
     |zero=>simp at hj;subst hj;exact s2.rep r1
     |succ j=>exact r2 j x (by simpa using hj)
    ·rcases List.mem_cons.1 hx' with e | e
     ·subst e;exact pure1_cell hx (hk c (by simp))
     ·exact k2 (fun c hc=>hk c (by simp[hc])) x e
   ·cases hp
  ·cases hp
theorem pureV_sound {v:Value} {V:V} {x:D} (hp:pureV h V=some (x,h')) (H:HRel X ρ h w) (hv:VRel X ρ h w v V):Stp X ρ h w ρ h' w∧Rep (Mut X ρ h') w v x:=by
 cases V with
 |agg cs=>
  simp only[pureV,Option.map_eq_some_iff,Prod.exists]at hp
  obtain⟨xs,h1,hp,e⟩:=hp
  simp only[Prod.mk.injEq]at e;obtain⟨rfl,rfl⟩:=e
  obtain⟨us,rfl,h2,h3⟩:=hv
  obtain⟨s,e1,r1,k1⟩:=pureList_sound (ρ:=ρ) (w:=w) cs h (fun j=>us.getD j undef) xs _ hp H fun j c hj=>by
   obtain⟨u,h4,h5,_⟩:=h3 j c hj
   simpa[Array.getD_eq_getD_getElem?,h4]using h5
  refine⟨s,.agg us xs (fun j=>us.getD j undef) (by omega) (fun j c hj=>⟨?_, ?_⟩) r1⟩
  ·have:=lt_of_getElem? hj
   have hlt:j<us.size:=by omega
   simp[Array.getD_eq_getD_getElem?,hlt]
  ·refine k1 (fun c hc=> ?_) c (List.mem_of_getElem? hj)
   obtain⟨i,hi⟩:=List.getElem?_of_mem hc
   exact (h3 i c hi).choose_spec.2.2
 |d y=>exact pure1_sound (V:= .d y) hp H hv
 |nilS=>exact pure1_sound (V:= .nilS) hp H hv
 |arr a b=>exact pure1_sound (V:= .arr a b) hp H hv
 |sl a b c d=>exact pure1_sound (V:= .sl a b c d) hp H hv
 |emp=>exact pure1_sound (V:= .emp) hp H hv
 |ptr a b=>simp[pureV,pure1]at hp
 |eptr a b c d=>simp[pureV,pure1]at hp
 |ro a=>simp[pureV,pure1]at hp
 |mp a=>simp[pureV,pure1]at hp
 |clo a b=>simp[pureV,pure1]at hp
 |tup a=>simp[pureV,pure1]at hp
 |dead=>simp[pureV,pure1]at hp
theorem pureVs_sound: ∀ (cs:List V) (h:List Obj) (us:Nat→Value) (xs:List D) (h':List Obj),pureVs h cs=some (xs,h')→HRel X ρ h w→
 (∀ (j:Nat) (c:V),cs[j]? =some c→VRel X ρ h w (us j) c)→
 Stp X ρ h w ρ h' w∧xs.length=cs.length∧ ∀ (j:Nat) (x:D),xs[j]? =some x→Rep (Mut X ρ h') w (us j) x
 |[],h,us,xs,h',hp,H,_=>by
  simp only[pureVs,Option.some.injEq,Prod.mk.injEq]at hp;obtain⟨rfl,rfl⟩:=hp
  exact⟨Stp.refl H,rfl,fun j x hj=>by simp at hj⟩
 |c::cs,h,us,xs,h',hp,H,hc=>by
  simp only[pureVs]at hp
  split at hp
  ·rename_i x h1 hx
   split at hp
   ·rename_i ys h2 hy
    simp only[Option.some.injEq,Prod.mk.injEq]at hp;obtain⟨rfl,rfl⟩:=hp
    obtain⟨s1,r1⟩:=pureV_sound hx H (hc 0 c (by simp))
    obtain⟨s2,e2,r2⟩:=pureVs_sound cs h1 (fun j=>us (j+1)) ys _ hy s1.rel fun j c hj=>s1.vrel (hc (j+1) c (by simpa using hj))
    refine⟨s1.trans H s2,by simp[e2],fun j x hj=> ?_⟩
    cases j with
    |zero=>simp at hj;subst hj;exact s2.rep r1
    |succ j=>exact r2 j x (by simpa using hj)
   ·cases hp
  ·cases hp
/-! ### lists of cells -/
def CellsRel (X:Nat→Nat→Prop) (ρ:Places) (h:List Obj) (w:World) (us:List Value) (cs:List V):Prop:=
 us.length=cs.length∧ ∀ (j:Nat) (c:V),cs[j]? =some c→ ∃u,us[j]? =some u∧V1 X ρ h w u c∧c.cellOk=true
theorem V1.one {v:Value} {c:V} (hv:V1 X ρ h w v c) (hc:c.cellOk=true):v.oneCell'=true:=by
 cases c with
 |d x=>
  refine Rep.one hv ?_
  cases x <;> simp_all [V.cellOk,D.isCell]
 |nilS=>simp only[V1,V0]at hv;subst hv;rfl
 |arr id n=>obtain⟨⟨a,l,c,rfl⟩,_⟩:=hv;rfl
 |sl _ _ _ _=>obtain⟨⟨a,l,c,rfl⟩,_⟩:=hv;rfl
 |emp=>obtain⟨a,c,rfl⟩:=hv;rfl
 |ptr id o=>obtain⟨_,_,_,_,_,_,rfl⟩:=hv;rfl
 |eptr a b c d=>obtain⟨⟨a,rfl⟩,_⟩:=hv;rfl
 |ro cs=>obtain⟨_,_,_,rfl,_⟩:=hv;rfl
 |mp a=>rcases hv with ⟨_,_,_,_,_,rfl⟩ | ⟨_,_,_,_,_,_,_,rfl⟩ <;> rfl
 |clo a b=>obtain⟨us,rfl,_⟩:=hv;rfl
 |_=>simp[V.cellOk]at hc
theorem VRel.v1 {v:Value} {c:V} (hv:VRel X ρ h w v c) (hc:c.cellOk=true):V1 X ρ h w v c:=by
 cases c with
 |agg cs=>simp[V.cellOk]at hc
 |tup cs=>simp[V.cellOk]at hc
 |_=>exact hv
theorem V1.v2 {v:Value} {c:V} (hv:V1 X ρ h w v c):V2 X ρ h w v c:=by
 cases c with
 |agg cs=>exact hv.elim
 |_=>exact hv
theorem V2.vrel {v:Value} {c:V} (hv:V2 X ρ h w v c):VRel X ρ h w v c:=by
 cases c with
 |tup cs=>exact hv.elim
 |_=>exact hv
theorem V1.vrel {v:Value} {c:V} (hv:V1 X ρ h w v c):VRel X ρ h w v c:=hv.v2.vrel
theorem VRel.one {v:Value} {c:V} (hv:VRel X ρ h w v c) (hc:c.cellOk=true):v.oneCell'=true:=(hv.v1 hc).one hc
theorem VRel.cells {v:Value} {c:V} (hv:VRel X ρ h w v c) (hc:c.storable=true):CellsRel X ρ h w v.cells.toList c.cells:=by
 have one: ∀c':V,c'.cells=[c']→VRel X ρ h w v c'→c'.storable=true→CellsRel X ρ h w v.cells.toList c'.cells:=by
  intro c' e hv' hc'
  simp only[V.storable,e,List.all_cons,List.all_nil,Bool.and_true]at hc'
  have h1:=hv'.one hc'
  have h2:=hv'.v1 hc'
  rw[e,Value.cells_one h1]
  refine⟨rfl,fun j c'' hj=> ?_⟩
  cases j with
  |zero=>simp at hj;subst hj;exact⟨v,by simp,h2,hc'⟩
  |succ j=>simp at hj
 cases c with
 |agg cs=>
  obtain⟨us,rfl,h2,h3⟩:=hv
  refine⟨by simpa[Value.cells,V.cells]using h2,fun j c hj=> ?_⟩
  obtain⟨u,h4,h5,h6⟩:=h3 j c (by simpa[V.cells]using hj)
  exact⟨u,by simpa[Value.cells]using h4,h5,h6⟩
 |d x=>
  by_cases hx:x.isCell=true
  ·refine one (.d x) ?_ hv hc
   cases x <;> simp_all [V.cells,D.isCell]
  ·cases x with
   |agg ds=>
    cases hv with
    |agg us _ vs h1 h2 h3=>
     refine⟨by simpa[Value.cells,V.cells]using h1,fun j c hj=> ?_⟩
     simp only[V.cells,List.getElem?_map,Option.map_eq_some_iff]at hj
     obtain⟨y,hy,rfl⟩:=hj
     exact⟨vs j,by simpa[Value.cells]using (h2 j y hy).1,h3 j y hy,by have:=(h2 j y hy).2;cases y <;> simp_all [V.cellOk,D.isCell]⟩
   |_=>simp[D.isCell]at hx
 |nilS=>exact one .nilS rfl hv hc
 |arr a b=>exact one (.arr a b) rfl hv hc
 |sl a b c d=>exact one (.sl a b c d) rfl hv hc
 |emp=>exact one .emp rfl hv hc
 |ptr a b=>exact one (.ptr a b) rfl hv hc
 |eptr a b c d=>exact one (.eptr a b c d) rfl hv hc
 |ro a=>exact one (.ro a) rfl hv hc
 |mp a=>exact one (.mp a) rfl hv hc
 |clo a b=>exact one (.clo a b) rfl hv hc
 |tup a=>simp[V.storable,V.cells,V.cellOk]at hc
 |dead=>simp[V.storable,V.cells,V.cellOk]at hc
theorem cells_length {v:Value} {c:V} (hv:VRel X ρ h w v c) (hc:c.storable=true):v.cells.size=c.cells.length:=by
 simpa using (hv.cells hc).1
end
end Go.Am
namespace Go.Am
section
variable {X:Nat→Nat→Prop} {ρ ρ' ρ'':Places} {h h' h'':List Obj} {w w' w'':World}
theorem constCell_rel (v:Value):VRel X ρ h w v (constCell v):=by
 unfold constCell
 split <;> first
  |exact Rep.int _ _
  |exact Rep.bool _
  |exact Rep.str _
  |exact Rep.nilP
  |exact Rep.nilM
  |exact Rep.nilF
  |exact Rep.nilI
  |rfl
  |skip
 ·rename_i vs
  split
  ·rename_i he
   refine⟨vs,rfl, ?_,fun j c hj=>by simp at hj⟩
   simpa using he
  ·trivial
 ·trivial
theorem mapM_asD {cs:List V} {ds:List D} (hm:cs.mapM V.asD?=some ds):cs=ds.map .d:=by
 induction cs generalizing ds with
 |nil=>simp at hm;subst hm;rfl
 |cons c cs ih=>
  simp only[List.mapM_cons,Option.bind_eq_bind,Option.bind_eq_some_iff,Option.pure_def,Option.some.injEq]at hm
  obtain⟨x,hx,ys,hy,rfl⟩:=hm
  rw[ih hy]
  cases c <;> simp[V.asD?]at hx
  subst hx;rfl
theorem cell_isCell {x:D} (hx:V.cellOk (.d x)=true):x.isCell=true:=by
 cases x <;> simp_all [V.cellOk,D.isCell]
theorem mkAgg_rel {us:Array Value} {cs:List V} (hc:CellsRel X ρ h w us.toList cs):VRel X ρ h w (.agg us) (mkAgg cs):=by
 obtain⟨h1,h2⟩:=hc
 have h2': ∀ (j:Nat) (c:V),cs[j]? =some c→ ∃u,us[j]? =some u∧V1 X ρ h w u c∧c.cellOk=true:=fun j c hj=>by
  obtain⟨u,h3,h4,h5⟩:=h2 j c hj
  exact⟨u,by simpa using h3,h4,h5⟩
 unfold mkAgg
 split
 ·rename_i ds hm
  have e:=mapM_asD hm
  subst e
  refine Rep.agg us ds (fun j=>us.getD j undef) (by simpa using h1) (fun j c hj=> ?_) (fun j c hj=> ?_)
  ·obtain⟨u,h3,h4,h5⟩:=h2' j (.d c) (by simp[hj])
   exact⟨by simp[Array.getD_eq_getD_getElem?,h3],cell_isCell h5⟩
  ·obtain⟨u,h3,h4,h5⟩:=h2' j (.d c) (by simp[hj])
   simpa[Array.getD_eq_getD_getElem?,h3]using (show Rep (Mut X ρ h) w u c from h4)
 ·exact⟨us,rfl,by simpa using h1,h2'⟩
theorem cellsRel_const (cs:List Value) (hok:(cs.map constCell).all V.cellOk=true):CellsRel X ρ h w cs (cs.map constCell):=by
 refine⟨by simp,fun j c hj=> ?_⟩
 simp only[List.getElem?_map,Option.map_eq_some_iff]at hj
 obtain⟨u,hu,rfl⟩:=hj
 have hk:(constCell u).cellOk=true:=by
  rw[List.all_eq_true]at hok
  exact hok _ (List.mem_map_of_mem (List.mem_of_getElem? hu))
 exact⟨u,hu,(constCell_rel u).v1 hk,hk⟩
theorem constV_rel (v:Value):VRel X ρ h w v (constV v):=by
 unfold constV
 split
 ·rename_i cs
  split
  ·rename_i hok
   exact mkAgg_rel (cellsRel_const cs.toList hok)
  ·trivial
 ·exact constCell_rel v
structure GRel (X:Nat→Nat→Prop) (G:Nat→Option (List D)) (ρ:Places) (h:List Obj) (w:World):Prop where
 ro: ∀g cs,G g=some cs→RoVal (Mut X ρ h) w (.pointer (some ⟨g,0,none⟩)) cs
 whole: ∀g cs,G g=some cs→g<100→(G (900+g)).isSome=true→g<w.heap.size∧(∀id c:Nat,ρ[id]? ≠some (some (g,c)))∧w.cell? ⟨g,cs.length,none⟩=none
theorem GRel.mono {G:Nat→Option (List D)} (hg:GRel X G ρ h w) (hf:Fr X ρ h w ρ' h' w'):GRel X G ρ' h' w':=⟨fun g cs e=>(hg.ro g cs e).mono hf.imm,fun g cs e h1 h2=>by
 obtain⟨k1,k2,k3⟩:=hg.whole g cs e h1 h2
 obtain⟨k4,k5⟩:=hf.block g k1 k2
 exact⟨Nat.lt_of_lt_of_le k1 hf.size,k5,(World.cell?_of_block (a:=⟨g,cs.length,none⟩) k4).trans k3⟩⟩
def SRel (X:Nat→Nat→Prop) (ρ:Places) (h:List Obj) (w:World) (tmps:Array Value) (s:Slots):Prop:= ∀t,VRel X ρ h w (tmps.getD t undef) (sget s t)
theorem SRel.mono {tmps:Array Value} {s:Slots} (hs:SRel X ρ h w tmps s) (st:Stp X ρ h w ρ' h' w'):SRel X ρ' h' w' tmps s:=fun t=>st.vrel (hs t)
theorem ev_rel {G:Nat→Option (List D)} {a:Act} {s:Slots} (hg:GRel X G ρ h w) (hs:SRel X ρ h w a.tmps s) (x:Operand):VRel X ρ h w (a.eval x) (ev G s x):=by
 cases x with
 |tmp t=>exact hs t
 |const v=>exact constV_rel v
 |global g=>
  simp only[ev,Act.eval]
  split
  ·rename_i cs e
   exact hg.ro g cs e
  ·trivial
 |func f=>exact Rep.fn f
/-! ### loads -/
theorem agg_run {P:Program} {t:TypeId} {b:Bool} (hb:agg? P t=some b):(Go.isAgg t).run P w= .ok b w:=by
 unfold agg? at hb
 cases hd:P.underlying t with
 |none=>simp[hd]at hb
 |some d=>
  simp only[Go.isAgg,Sem.run_bind,run_underlying hd,Result.andThen_ok]
  cases d <;> simp_all
theorem sizeOf_run {P:Program} {t:TypeId} {n:Nat} (hn:sizeOf? P t=some n):(sizeOf t).run P w= .ok n w:=by
 simp only[sizeOf?,Option.map_eq_some_iff]at hn
 obtain⟨i,hi,rfl⟩:=hn
 simp[sizeOf,typeInfo,hi]
def LieAt (w:World) (b o:Nat) (us:List Value):Prop:= ∀ (j:Nat) (u:Value),us[j]? =some u→w.cell? ⟨b,o+j,none⟩=some u
theorem run_loadVar_agg {P:Program} {t:TypeId} {b o n:Nat} {us:List Value} (hl:LieAt w b o us) (ha:agg? P t=some true) (hn:sizeOf? P t=some n) (hle:n≤us.length):
 (loadVar t ⟨b,o,none⟩).run P w= .ok (.agg (us.take n).toArray) w:=by
 have hr:=run_loadCells_list (P:=P) w ⟨b,o,none⟩ (us.take n) fun j v hj=>by
  rw[Addr.add_lit]
  refine hl j v ?_
  rw[List.getElem?_take]at hj
  split at hj
  ·exact hj
  ·cases hj
 rw[List.length_take,Nat.min_eq_left hle]at hr
 simp[loadVar,agg_run ha,sizeOf_run hn,hr]
theorem run_loadVar_one {P:Program} {t:TypeId} {b o:Nat} {u:Value} (hl:w.cell? ⟨b,o,none⟩=some u) (ha:agg? P t=some false):
 (loadVar t ⟨b,o,none⟩).run P w= .ok u w:=by
 simp[loadVar,agg_run ha,hl]
theorem LieAt.drop {b o k:Nat} {us:List Value} (hl:LieAt w b o us):LieAt w b (o+k) (us.drop k):=fun j u hj=>by
 rw[List.getElem?_drop]at hj
 rw[Nat.add_assoc]
 exact hl _ u hj
theorem CellsRel.drop {us:List Value} {cs:List V} (hc:CellsRel X ρ h w us cs) (k:Nat):CellsRel X ρ h w (us.drop k) (cs.drop k):=by
 refine⟨by simp[hc.1],fun j c hj=> ?_⟩
 rw[List.getElem?_drop]at hj ⊢
 exact hc.2 _ c hj
theorem CellsRel.take {us:List Value} {cs:List V} (hc:CellsRel X ρ h w us cs) (k:Nat):CellsRel X ρ h w (us.take k) (cs.take k):=by
 refine⟨by simp[hc.1],fun j c hj=> ?_⟩
 rw[List.getElem?_take]at hj ⊢
 split at hj
 ·rename_i hlt
  rw[if_pos hlt]
  exact hc.2 _ c hj
 ·cases hj
theorem loadFrom_sound {P:Program} {t:TypeId} {cs:List V} {off b o:Nat} {us:List Value} {x:V} (hx:loadFrom P t cs off=some x) (hl:LieAt w b o us) (hc:CellsRel X ρ h w us cs):
 ∃u,(loadVar t ⟨b,o+off,none⟩).run P w= .ok u w∧VRel X ρ h w u x:=by
 unfold loadFrom at hx
 split at hx
 ·rename_i ha
  split at hx
  ·rename_i n hn
   split at hx
   ·rename_i hle
    simp only[Option.some.injEq]at hx;subst hx
    refine⟨_,run_loadVar_agg hl.drop ha hn (by simp only[List.length_drop,hc.1];omega), ?_⟩
    exact mkAgg_rel (by simpa using (hc.drop off).take n)
   ·cases hx
  ·cases hx
 ·rename_i ha
  obtain⟨u,h1,h2,_⟩:=hc.2 off x hx
  exact⟨u,run_loadVar_one (hl _ _ h1) ha,h2.vrel⟩
 ·cases hx
theorem loadFromD_sound {P:Program} {t:TypeId} {M:Nat→Nat→Prop} {cs:List D} {off b o:Nat} {us:List Value} {x:V} (hx:loadFromD P t cs off=some x) (hl:LieAt w b o us)
 (hlen:us.length=cs.length) (hc: ∀ (j:Nat) (c:D),cs[j]? =some c→ ∃u,us[j]? =some u∧Rep M w u c∧c.isCell=true):
 ∃u y,(loadVar t ⟨b,o+off,none⟩).run P w= .ok u w∧x= .d y∧Rep M w u y:=by
 unfold loadFromD at hx
 split at hx
 ·rename_i ha
  split at hx
  ·rename_i n hn
   split at hx
   ·rename_i hle
    simp only[Option.some.injEq]at hx;subst hx
    refine⟨_,_,run_loadVar_agg hl.drop ha hn (by simp only[List.length_drop,hlen];omega),rfl, ?_⟩
    refine .agg _ _ (fun j=>us.getD (off+j) undef) (by simp[hlen]) (fun j c hj=> ?_) (fun j c hj=> ?_)
    all_goals
     rw[List.getElem?_take]at hj
     split at hj
     ·rename_i hlt
      rw[List.getElem?_drop]at hj
      obtain⟨u,h1,h2,h3⟩:=hc _ c hj
      first
       |exact⟨by simp[hlt,h1,List.getD],h3⟩
       |simpa[List.getD,h1]using h2
     ·cases hj
   ·cases hx
  ·cases hx
 ·rename_i ha
  simp only[Option.map_eq_some_iff]at hx
  obtain⟨y,hy,rfl⟩:=hx
  obtain⟨u,h1,h2,_⟩:=hc off y hy
  exact⟨u,y,run_loadVar_one (hl _ _ h1) ha,rfl,h2⟩
 ·cases hx
theorem flat_get {xs:List D} {sz i j:Nat} {x c:D} (hs: ∀x∈xs,x.cells.length=sz) (hi:xs[i]? =some x) (hj:x.cells[j]? =some c):(flat xs)[i*sz+j]? =some c:=by
 induction xs generalizing i with
 |nil=>simp at hi
 |cons y ys ih=>
  simp only[flat,List.flatMap_cons]
  cases i with
  |zero=>
   simp only[List.getElem?_cons_zero,Option.some.injEq]at hi;subst hi
   rw[Nat.zero_mul,Nat.zero_add,List.getElem?_append_left (lt_of_getElem? hj)]
   exact hj
  |succ i=>
   have hy:=hs y (by simp)
   rw[List.getElem?_append_right (by rw[hy,Nat.add_mul];omega),hy,show (i+1)*sz+j - sz=i*sz+j by rw[Nat.add_mul];omega]
   exact ih (fun x hx=>hs x (by simp[hx])) (by simpa using hi)
theorem loadV_sound {P:Program} {t:TypeId} {A x:V} {v:Value} (hx:loadV P h t A=some x) (H:HRel X ρ h w) (hv:VRel X ρ h w v A):
 ∃u,(Instr.loadAt t v).run P w= .ok u w∧VRel X ρ h w u x:=by
 cases A with
 |ptr id off=>
  obtain⟨o,b,c,h1,h2,h3,rfl⟩:=hv
  simp only[loadV,h1]at hx
  cases o with
  |box cs=>
   obtain⟨r,h4,h5⟩:=H.obj id _ h1
   rw[h3]at h4;cases h4
   obtain⟨b',c',cur,e,fz,e1,k1,k2,k3,k4⟩:=h5.2 (by simp)
   cases e1
   obtain⟨u,hu,hr⟩:=loadFrom_sound (ρ:=ρ) (h:=h) (w:=w) (b:=b) (o:=0) (us:=cur.toList) hx (fun j u hj=>by rw[cell_of_heap k1,Nat.zero_add];simpa using hj)
    ⟨by simpa using k2,fun j c hj=>by simpa using k4 j c hj⟩
   rw[Nat.zero_add]at hu
   exact⟨u,by simpa[Instr.loadAt,Instr.sureAddr]using hu,hr⟩
  |arr _ _ _=>simp at hx
  |siter _ _=>simp at hx
  |miter _=>simp at hx
  |map _=>simp at hx
 |eptr id n i off=>
  obtain⟨_,sz,xs,wm,r,h1,h2,_,h4⟩:=hv
  simp only[loadV,h1]at hx
  split at hx
  ·rename_i hn
   obtain⟨b,c,rfl,rfl⟩:=h4 hn
   split at hx
   ·rename_i y hy
    obtain⟨r,h5,h6⟩:=H.obj id _ h1
    rw[h2]at h5;cases h5
    obtain⟨_,cur,e,fz,k1,k2,k3,k4,k5,k6,k7,k8⟩:=h6
    have hlen:=flat_length k6
    have hyl:=k6 y (List.mem_of_getElem? hy)
    have hix:i<xs.length:=lt_of_getElem? hy
    have hle:i*sz+sz≤cur.size:=by
     rw[k2]
     have:(i+1)*sz≤c*sz:=Nat.mul_le_mul_right _ (by omega)
     rw[Nat.add_mul]at this
     omega
    obtain⟨u,z,hu,rfl,hr⟩:=loadFromD_sound (w:=w) (M:=Mut X ρ h) (b:=b) (o:=i*sz) (us:=(cur.toList.drop (i*sz)).take sz) hx
     (fun j u hj=>by
       rw[cell_of_heap k1]
       rw[List.getElem?_take]at hj
       split at hj
       ·rw[List.getElem?_drop]at hj;simpa using hj
       ·cases hj)
     (by simp only[List.length_take,List.length_drop,Array.length_toList,hyl];omega)
     (fun j c hj=>by
       obtain⟨u,m1,m2,m3⟩:=k8 _ c (flat_get k6 hy hj)
       refine⟨u, ?_,m2,m3⟩
       have:=lt_of_getElem? hj
       rw[List.getElem?_take,if_pos (by omega),List.getElem?_drop]
       simpa using m1)
    exact⟨u,by simpa[Instr.loadAt,Instr.sureAddr]using hu,hr⟩
   ·cases hx
  ·cases hx
 |ro cs=>
  obtain⟨b,o,vs,rfl,h1,h2⟩:=hv
  simp only[loadV]at hx
  obtain⟨u,z,hu,rfl,hr⟩:=loadFromD_sound (w:=w) (M:=Mut X ρ h) (b:=b) (o:=o) (us:=(List.range cs.length).map vs) hx
   (fun j u hj=>by
     simp only[List.getElem?_map,Option.map_eq_some_iff]at hj
     obtain⟨k,hk,rfl⟩:=hj
     have hk':=lt_of_getElem? hk
     simp only[List.length_range]at hk'
     rw[List.getElem?_range hk',Option.some.injEq]at hk
     subst hk
     exact (h1 j cs[j] (by simp[hk'])).1)
   (by simp)
   (fun j c hj=>⟨vs j,by simp[List.getElem?_range (lt_of_getElem? hj)],h2 j c hj,(h1 j c hj).2.2⟩)
  rw[Nat.add_zero]at hu
  exact⟨u,by simpa[Instr.loadAt,Instr.sureAddr]using hu,hr⟩
 |_=>simp[loadV]at hx
end
end Go.Am
namespace Go.Am
section
variable {X:Nat→Nat→Prop} {ρ ρ' ρ'':Places} {h h' h'':List Obj} {w w' w'':World} {P:Program}
theorem RoVal.drop {M:Nat→Nat→Prop} {b o k:Nat} {vs:Nat→Value} {cs:List D}
 (h1: ∀ (j:Nat) (c:D),cs[j]? =some c→w.cell? ⟨b,o+j,none⟩=some (vs j)∧ ¬ M b (o+j)∧c.isCell=true)
 (h2: ∀ (j:Nat) (c:D),cs[j]? =some c→Rep M w (vs j) c):RoVal M w (.pointer (some ⟨b,o+k,none⟩)) (cs.drop k):=
 ⟨b,o+k,fun j=>vs (k+j),rfl,fun j c hj=>by rw[List.getElem?_drop]at hj;rw[Nat.add_assoc];exact h1 _ c hj,fun j c hj=>by rw[List.getElem?_drop]at hj;exact h2 _ c hj⟩
theorem fieldAddrV_sound {t:TypeId} {A x:V} {f:Nat} {v:Value} (hx:fieldAddrV P t A f=some x) (hv:VRel X ρ h w v A):
 ∃u,(Instr.fieldAt t v f).run P w= .ok u w∧VRel X ρ h w u x:=by
 unfold fieldAddrV at hx
 split at hx
 ·rename_i o ft hf
  unfold fieldOff? at hf
  split at hf
  ·rename_i fs hs
   split at hf
   ·rename_i fd hfd
    split at hf
    ·rename_i n hsz
     simp only[Option.some.injEq,Prod.mk.injEq]at hf
     obtain⟨rfl,rfl⟩:=hf
     have hrun: ∀b o',(Instr.fieldAt t (.pointer (some ⟨b,o',none⟩)) f).run P w= .ok (.pointer (some ⟨b,o'+fd.offset,none⟩)) w:=fun b o'=>by
      simp[Instr.fieldAt,run_underlying hs,hfd,Instr.sureAddr,fieldPlace,sizeOf_run hsz,Addr.add_lit]
     cases A with
     |ptr id off=>
      simp only[Option.some.injEq]at hx;subst hx
      obtain⟨ob,b,c,h1,h2,h3,rfl⟩:=hv
      exact⟨_,hrun _ _,ob,b,c,h1,h2,h3,rfl⟩
     |eptr id m i off=>
      simp only[Option.some.injEq]at hx;subst hx
      obtain⟨⟨a,rfl⟩,sz,xs,wm,r,h1,h2,h3,h4⟩:=hv
      obtain⟨b,o,sp⟩:=a
      by_cases hm:m=xs.length
      ·obtain⟨b',c,rfl,e⟩:=h4 hm
       simp only[Value.pointer.injEq,Option.some.injEq,Addr.mk.injEq]at e
       obtain⟨rfl,rfl,rfl⟩:=e
       exact⟨_,hrun _ _,⟨_,rfl⟩,sz,xs,wm,_,h1,h2,h3,fun _=>⟨b,c,rfl,by rw[Nat.add_assoc]⟩⟩
      ·refine⟨.pointer (some ((Addr.mk b o sp).add fd.offset)), ?_,⟨_,rfl⟩,sz,xs,wm,r,h1,h2,h3,fun e=>absurd e hm⟩
       ·simp[Instr.fieldAt,run_underlying hs,hfd,Instr.sureAddr,fieldPlace,sizeOf_run hsz]
     |ro cs=>
      simp only[Option.some.injEq]at hx;subst hx
      obtain⟨b,o,vs,rfl,h1,h2⟩:=hv
      exact⟨_,hrun _ _,RoVal.drop h1 h2⟩
     |_=>simp at hx
    ·cases hf
   ·cases hf
  ·cases hf
 ·cases hx
theorem indexAddrV_sound {t:TypeId} {A I x:V} {v i:Value} (hx:indexAddrV P h t A I=some x) (H:HRel X ρ h w) (hv:VRel X ρ h w v A) (hi:VRel X ρ h w i I):
 ∃u,(Instr.indexAt t v i).run P w= .ok u w∧VRel X ρ h w u x:=by
 unfold indexAddrV at hx
 split at hx
 ·rename_i e k n hs
  cases hi
  split at hx
  ·rename_i hn
   obtain⟨m,rfl⟩:=Int.eq_ofNat_of_zero_le hn
   simp only[Int.toNat_natCast]at hx
   have hrun: ∀b o len cap sz,sizeOf? P e=some sz→m<len→(Instr.indexAt t (.slice (some ⟨b,o,none⟩) len cap) (.int k m)).run P w= .ok (.pointer (some ⟨b,o+m*sz,none⟩)) w:=by
    intro b o len cap sz hsz hlt
    simp[Instr.indexAt,asIntOf,run_underlying hs,sizeOf_run hsz,Addr.add_lit]
    intro hc;omega
   split at hx
   ·rename_i xs
    split at hx
    ·rename_i y sz hy hsz
     split at hx
     ·rename_i hyl
      simp only[Option.some.injEq]at hx;subst hx
      cases hv with
      |nil a c=>simp at hy
      |list b off len cap sz' xs vs e1 e2 e3 e4 e5=>
       have hm:=lt_of_getElem? hy
       have hszz:sz'=sz:=by rw[← e3 y (List.mem_of_getElem? hy),hyl]
       subst hszz
       refine⟨_,hrun b off len cap _ hsz (by omega),b,off+m*sz',fun j=>vs (m*sz'+j),rfl,fun j c hj=> ?_,fun j c hj=> ?_⟩
       ·have:=e4 _ c (flat_get e3 hy hj)
        rwa [← Nat.add_assoc]at this
       ·exact e5 _ c (flat_get e3 hy hj)
     ·cases hx
    ·cases hx
   ·rename_i id len
    split at hx
    ·rename_i sz xs wm sz' ho hsz
     split at hx
     ·rename_i hc
      obtain⟨rfl,hlt,rfl⟩:=hc
      simp only[Option.some.injEq]at hx;subst hx
      obtain⟨_,sz2,xs2,wm2,r,h1,h2,h3,h4⟩:=hv
      rw[ho]at h1;cases h1
      have hav:=h4 rfl
      obtain⟨r',h5,h6⟩:=H.obj id _ ho
      rw[h2]at h5;cases h5
      cases r with
      |none=>
       have:=h6.2
       subst this
       simp at hlt
      |some p=>
       obtain⟨b,cap⟩:=p
       simp only[ArrVal]at hav
       subst hav
       refine⟨_,hrun b 0 _ cap _ hsz hlt,⟨_,rfl⟩,sz,xs,wm,_,ho,h2,Nat.le_refl _,fun _=>⟨b,cap,rfl,by simp⟩⟩
     ·cases hx
    ·cases hx
   ·rename_i id tot off len
    split at hx
    ·rename_i sz xs wm sz' ho hsz
     split at hx
     ·rename_i hc
      obtain⟨rfl,hlt,rfl⟩:=hc
      simp only[Option.some.injEq]at hx;subst hx
      obtain⟨_,sz2,xs2,wm2,r,h1,h2,h3,h4⟩:=hv
      rw[ho]at h1;cases h1
      obtain⟨hle,a,c,rfl,hlc,_,hpos⟩:=h4 rfl
      obtain⟨b,cap,rfl,rfl⟩:=hpos (by omega)
      refine⟨_,hrun b (off*sz) _ c _ hsz hlt,⟨_,rfl⟩,sz,xs,wm,_,ho,h2,Nat.le_refl _,fun _=>⟨b,cap,rfl,by rw[Nat.add_mul];simp⟩⟩
     ·cases hx
    ·cases hx
   ·rename_i id
    split at hx
    ·rename_i cs sz ho hsz
     split at hx
     ·rename_i hc
      obtain⟨hlt,rfl⟩:=hc
      simp only[Option.some.injEq]at hx;subst hx
      rcases hv with ⟨cs',b,c,h1,h2,rfl⟩ | ⟨es,bs,ck,b,c,h1,_⟩
      case inr=>rw[ho]at h1;cases h1
      rw[ho]at h1;cases h1
      exact⟨_,hrun b 0 _ _ _ hsz hlt,.box cs,b,c,ho,rfl,h2,by simp⟩
     ·cases hx
    ·cases hx
   ·cases hx
  ·cases hx
 ·rename_i len e k n hs
  cases hi
  split at hx
  ·rename_i hn
   obtain⟨m,rfl⟩:=Int.eq_ofNat_of_zero_le hn.1
   have hlt:(m:Int)<len:=hn.2
   simp only[Int.toNat_natCast]at hx
   have hrun: ∀b o sz,sizeOf? P e=some sz→(Instr.indexAt t (.pointer (some ⟨b,o,none⟩)) (.int k m)).run P w= .ok (.pointer (some ⟨b,o+m*sz,none⟩)) w:=by
    intro b o sz hsz
    simp[Instr.indexAt,asIntOf,run_underlying hs,Instr.sureAddr,sizeOf_run hsz,Addr.add_lit]
    intro hc;omega
   split at hx
   ·rename_i id off sz hsz
    simp only[Option.some.injEq]at hx;subst hx
    obtain⟨ob,b,c,h1,h2,h3,rfl⟩:=hv
    exact⟨_,hrun b off sz hsz,ob,b,c,h1,h2,h3,rfl⟩
   ·rename_i cs sz hsz
    simp only[Option.some.injEq]at hx;subst hx
    obtain⟨b,o,vs,rfl,h1,h2⟩:=hv
    exact⟨_,hrun b o sz hsz,RoVal.drop h1 h2⟩
   ·cases hx
  ·cases hx
 ·cases hx
theorem equalIn_bool (d:Nat) {t:TypeId} (ht:P.underlying t=some .bool) (a b:Bool):(Op.equalIn (d+1) t (.bool a) (.bool b)).run P w= .ok (a == b) w:=by
 simp only[Op.equalIn,Sem.run_bind,run_underlying ht,Result.andThen_ok,Sem.run_pure]
theorem cellKind_cell {t:TypeId} {k:Nat} (hk:cellKind P t=some k):agg? P t=some false:=by
 unfold cellKind at hk
 unfold agg?
 split at hk <;> first
  |(rename_i e;rw[e])
  |cases hk
theorem eqCell_sound {M:Nat→Nat→Prop} {t:TypeId} {k d:Nat} {x y:D} {a b:Value} {r:Bool} (hk:cellKind P t=some k) (hx:eqCell k x y=some r) (ha:Rep M w a x) (hb:Rep M w b y):(Op.equalIn (d+1) t a b).run P w= .ok r w:=by
 unfold cellKind at hk
 split at hk
 ·rename_i k' e
  simp only[Option.some.injEq]at hk;subst hk
  unfold eqCell at hx
  split at hx
  ·cases ha;cases hb
   split at hx
   ·rename_i hkk
    simp only[Option.some.injEq]at hx;subst hx;subst hkk
    exact run_equalIn_int w d t _ _ _ _ e
   ·cases hx
  ·rename_i h1;cases h1
  ·rename_i h1;cases h1
  ·cases hx
 ·rename_i e
  simp only[Option.some.injEq]at hk;subst hk
  unfold eqCell at hx
  split at hx
  ·rename_i h1;cases h1
  ·cases ha;cases hb
   simp only[Option.some.injEq]at hx;subst hx
   exact run_equalIn_bool' w d t _ _ e
  ·rename_i h1;cases h1
  ·cases hx
 ·rename_i e
  simp only[Option.some.injEq]at hk;subst hk
  unfold eqCell at hx
  split at hx
  ·rename_i h1;cases h1
  ·rename_i h1;cases h1
  ·cases ha;cases hb
   simp only[Option.some.injEq]at hx;subst hx
   exact run_equalIn_string w d t _ _ e
  ·cases hx
 ·cases hk
theorem part_cell {t:TypeId} {off:Nat} {cs:Array Value} {u:Value} (ha:agg? P t=some false) (hu:cs[off]? =some u):(part t cs off).run P w= .ok u w:=by
 simp[part,agg_run ha,hu]
theorem eqCells_sound {M:Nat→Nat→Prop} {xs ys:List D} {cs ds:Array Value} {d:Nat} (hc: ∀ (j:Nat) (x:D),xs[j]? =some x→ ∃u,cs[j]? =some u∧Rep M w u x) (hd: ∀ (j:Nat) (y:D),ys[j]? =some y→ ∃u,ds[j]? =some u∧Rep M w u y):
 ∀ (fs : List Field) (l : List (Nat × Nat)) (r : Bool), (fs.mapM fun (f : Field) => (cellKind P f.type).map fun k => (f.offset, k)) = some l → (∀ f ∈ fs, f.name ≠ "_") → eqCells l xs ys = some r →
  (Op.eqFields (d+1) cs ds fs).run P w= .ok r w
 |[],l,r,hl,_,hr=>by
  simp at hl;subst hl
  simp only[eqCells,Option.some.injEq]at hr;subst hr
  simp[Op.eqFields]
 |f::fs,l,r,hl,hn,hr=>by
  simp only[List.mapM_cons,Option.bind_eq_bind,Option.bind_eq_some_iff,Option.map_eq_some_iff,Option.pure_def,Option.some.injEq]at hl
  obtain⟨p,⟨k,hk,rfl⟩,l',hl',rfl⟩:=hl
  simp only[eqCells]at hr
  split at hr
  ·rename_i x y hx hy
   split at hr
   ·rename_i a b hab hrest
    simp only[Option.some.injEq]at hr;subst hr
    obtain⟨u,hu1,hu2⟩:=hc _ x hx
    obtain⟨v,hv1,hv2⟩:=hd _ y hy
    have hcell:=cellKind_cell hk
    have ih:=eqCells_sound (d:=d) hc hd fs l' b hl' (fun g hg=>hn g (List.mem_cons_of_mem _ hg)) hrest
    have hne:=hn f (List.mem_cons_self ..)
    simp only[Op.eqFields,if_pos hne,Sem.run_bind,part_cell hcell hu1,part_cell hcell hv1,Result.andThen_ok,eqCell_sound (d:=d) hk hab hu2 hv2]
    cases a
    ·simp
    ·simpa using ih
   ·cases hr
  ·cases hr
theorem eqCells_app: ∀ {l l':List (Nat × Nat)} {xs ys:List D} {r:Bool},eqCells (l++l') xs ys=some r→ ∃a b,eqCells l xs ys=some a∧eqCells l' xs ys=some b∧r=(a && b)
 |[],l',xs,ys,r,h=>⟨true,r,rfl,h,by simp⟩
 |(o,k)::l,l',xs,ys,r,h=>by
  simp only[List.cons_append,eqCells]at h ⊢
  split at h
  ·rename_i x y hx hy
   split at h
   ·rename_i a b ha hb
    obtain⟨a',b',h1,h2,rfl⟩:=eqCells_app hb
    simp only[Option.some.injEq]at h;subst h
    exact⟨a && a',b',by rw[ha,h1],h2,by simp[Bool.and_assoc]⟩
   ·cases h
  ·cases h
theorem eqCells_shift (o n:Nat): ∀ (l:List (Nat × Nat)) (xs ys:List D),l.all (fun p=>decide (p.1<n))=true→eqCells (l.map fun p=>(o+p.1,p.2)) xs ys=eqCells l ((xs.drop o).take n) ((ys.drop o).take n)
 |[],_,_,_=>rfl
 |(p,k)::l,xs,ys,h=>by
  simp only[List.all_cons,Bool.and_eq_true,decide_eq_true_eq]at h
  simp only[List.map_cons,eqCells,eqCells_shift o n l xs ys h.2,List.getElem?_take,if_pos h.1,List.getElem?_drop]
theorem eqFlat_sound {M:Nat→Nat→Prop} {xs ys:List D} {cs ds:Array Value} {d:Nat} (hc: ∀ (j:Nat) (x:D),xs[j]? =some x→ ∃u,cs[j]? =some u∧Rep M w u x) (hd: ∀ (j:Nat) (y:D),ys[j]? =some y→ ∃u,ds[j]? =some u∧Rep M w u y):
 ∀ (fs : List Field) (l : List (Nat × Nat)) (r : Bool), flatFs P fs = some l → (∀ f ∈ fs, f.name ≠ "_") → eqCells l xs ys = some r → (Op.eqFields (d + 2) cs ds fs).run P w = .ok r w
 |[],l,r,hl,_,hr=>by
  simp only[flatFs,Option.some.injEq]at hl;subst hl
  simp only[eqCells,Option.some.injEq]at hr;subst hr
  simp[Op.eqFields]
 |f::fs,l,r,hl,hn,hr=>by
  simp only[flatFs]at hl
  split at hl
  ·rename_i l1 l2 h1 h2
   simp only[Option.some.injEq]at hl;subst hl
   obtain⟨a,b,ea,eb,rfl⟩:=eqCells_app hr
   have ih:=eqFlat_sound (d:=d) hc hd fs l2 b h2 (fun g hg=>hn g (List.mem_cons_of_mem _ hg)) eb
   have hne:=hn f (List.mem_cons_self ..)
   have key: ∃u v,(part f.type cs f.offset).run P w= .ok u w∧(part f.type ds f.offset).run P w= .ok v w∧(Op.equalIn (d+2) f.type u v).run P w= .ok a w:=by
    unfold flatF at h1
    split at h1
    ·rename_i k hk
     simp only[Option.some.injEq]at h1;subst h1
     simp only[eqCells]at ea
     split at ea
     ·rename_i x y hx hy
      split at ea
      ·rename_i a1 b1 hab hb1
       simp only[Option.some.injEq]at hb1;subst hb1
       simp only[Bool.and_true,Option.some.injEq]at ea;subst ea
       obtain⟨u,hu1,hu2⟩:=hc _ x hx
       obtain⟨v,hv1,hv2⟩:=hd _ y hy
       have hcell:=cellKind_cell hk
       exact⟨u,v,part_cell hcell hu1,part_cell hcell hv1,eqCell_sound (d:=d+1) hk hab hu2 hv2⟩
      ·cases ea
     ·cases ea
    ·split at h1
     ·rename_i l0 n hl0 hsz
      split at h1
      ·rename_i hag
       simp only[Option.some.injEq]at h1;subst h1
       rw[eqCells_shift _ _ _ _ _ hag.2]at ea
       have hp: ∀cs:Array Value,(part f.type cs f.offset).run P w= .ok (.agg (cs.extract f.offset (f.offset+n))) w:=fun cs=>by
        simp[part,agg_run hag.1,sizeOf_run hsz]
       refine⟨_,_,hp cs,hp ds, ?_⟩
       unfold flat1 at hl0
       split at hl0
       ·rename_i fs' hs
        split at hl0
        ·rename_i hc0
         simp only[Bool.and_eq_true,Bool.not_eq_true',List.all_eq_true,bne_iff_ne,ne_eq]at hc0
         have hf:P.fieldsOf f.type=fs':=by simp[Program.fieldsOf,hs]
         rw[run_equalIn_struct w _ f.type _ _ (by rw[hf];exact hs) hc0.1,hf]
         have sub: ∀ {zs:List D} {es:Array Value},(∀ (j:Nat) (x:D),zs[j]? =some x→ ∃u,es[j]? =some u∧Rep M w u x)→ ∀ (j:Nat) (x:D),((zs.drop f.offset).take n)[j]? =some x→ ∃u,(es.extract f.offset (f.offset+n))[j]? =some u∧Rep M w u x:=fun {zs es} hz j x hj=>by
          rw[List.getElem?_take]at hj
          split at hj
          ·rename_i hjn
           rw[List.getElem?_drop]at hj
           obtain⟨u,q1,q2⟩:=hz _ x hj
           refine⟨u, ?_,q2⟩
           have:=(Array.getElem?_eq_some_iff.1 q1).1
           rw[Array.getElem?_extract,if_pos (by omega)]
           exact q1
          ·cases hj
         exact eqCells_sound (d:=d) (sub hc) (sub hd) fs'.toList l0 a hl0 hc0.2 ea
        ·cases hl0
       ·cases hl0
      ·cases h1
     ·cases h1
   obtain⟨u,v,k1,k2,k3⟩:=key
   simp only[Op.eqFields,if_pos hne,Sem.run_bind,k1,k2,Result.andThen_ok,k3]
   cases a
   ·simp
   ·simpa using ih
  ·cases hl
theorem Rep.aggGet {M:Nat→Nat→Prop} {v:Value} {ds:List D} (hr:Rep M w v (.agg ds)): ∃cs:Array Value,v= .agg cs∧ ∀ (j:Nat) (c:D),ds[j]? =some c→ ∃u,cs[j]? =some u∧Rep M w u c:=by
 cases hr with
 |agg cs ds vs h1 h2 h3=>exact⟨cs,rfl,fun j c hj=>⟨vs j,(h2 j c hj).1,h3 j c hj⟩⟩
theorem eqV_sound {op:BinOp} {t:TypeId} {A B:V} {r:Bool} {v u:Value} {Xo Yo:Operand} (hx:eqV P t A B=some r) (hv:VRel X ρ h w v A) (hu:VRel X ρ h w u B) (hop:op= .eql∨op= .neq):
 (do eqGuard op t Xo Yo v u;binOp op t v u:Sem Value).run P w= .ok (.bool (if op= .eql then r else !r)) w:=by
 have fin:(eqGuard op t Xo Yo v u).run P w= .ok () w→(∀a b,v= .string a→u= .string b→False)→(∀k a k' b,v= .int k a→u= .int k' b→False)→(Op.equal t v u).run P w= .ok r w→
  (∀k a b,v≠ .complex k a b)→(∀k a,v≠ .float k a)→
  (do eqGuard op t Xo Yo v u;binOp op t v u:Sem Value).run P w= .ok (.bool (if op= .eql then r else !r)) w:=fun h1 h2 h3 h4 h5 h6=>by
  rw[Sem.run_bind,h1,Result.andThen_ok]
  rcases hop with rfl | rfl
  ·have:binOp .eql t v u=(do pure (.bool (← Op.equal t v u))):=by
    cases v <;> cases u <;> first
     |rfl
     |(exfalso;exact h3 _ _ _ _ rfl rfl)
     |(exfalso;exact h2 _ _ rfl rfl)
     |(exfalso;exact h5 _ _ _ rfl)
     |(exfalso;exact h6 _ _ rfl)
   rw[this]
   simp[h4]
  ·have:binOp .neq t v u=(do pure (.bool (!(← Op.equal t v u)))):=by
    cases v <;> cases u <;> first
     |rfl
     |(exfalso;exact h3 _ _ _ _ rfl rfl)
     |(exfalso;exact h2 _ _ rfl rfl)
     |(exfalso;exact h5 _ _ _ rfl)
     |(exfalso;exact h6 _ _ rfl)
   rw[this]
   simp[h4]
 have E: ∀v u,(∀d,(Op.equalIn (d+1) t v u).run P w= .ok r w)→(Op.equal t v u).run P w= .ok r w:=fun v u h=>h 9999
 have plain: ∀v u,((∃a l c,v= .slice a l c)∨(∃a,v= .pointer a))→(eqGuard op t Xo Yo v u).run P w= .ok () w:=fun v u hh=>by
  unfold eqGuard
  rcases hh with ⟨a,l,c,rfl⟩ | ⟨a,rfl⟩ <;> rcases hop with rfl | rfl <;> simp
 unfold eqV at hx
 split at hx
 ·rename_i e hs
  simp only[Option.some.injEq]at hx;subst hx
  have hv':v= .slice none 0 0:=hv
  have hu':u= .slice none 0 0:=hu
  subst hv';subst hu'
  exact fin (plain _ _ (.inl ⟨_,_,_,rfl⟩)) (by simp) (by simp) (E _ _ fun d=>by simp[Op.equalIn,run_underlying hs]) (by simp) (by simp)
 ·rename_i e hs
  simp only[Option.some.injEq]at hx;subst hx
  obtain⟨a,c,rfl⟩:=hv
  have hu':u= .slice none 0 0:=hu
  subst hu'
  exact fin (plain _ _ (.inl ⟨_,_,_,rfl⟩)) (by simp) (by simp) (E _ _ fun d=>by simp[Op.equalIn,run_underlying hs]) (by simp) (by simp)
 ·rename_i e y ys hs
  simp only[Option.some.injEq]at hx;subst hx
  have hu':u= .slice none 0 0:=hu
  subst hu'
  cases hv with
  |list b off len cap sz _ vs e1 e2 e3 e4 e5=>
   exact fin (plain _ _ (.inl ⟨_,_,_,rfl⟩)) (by simp) (by simp) (E _ _ fun d=>by simp[Op.equalIn,run_underlying hs]) (by simp) (by simp)
 ·rename_i ms hs
  split at hx
  ·rename_i hms
   simp only[Option.some.injEq]at hx;subst hx
   cases hv;cases hu
   refine fin ?_ (by simp) (by simp) (E _ _ fun d=>by simp[Op.equalIn,run_underlying hs]) (by simp) (by simp)
   unfold eqGuard
   have g0: ∀d,(Op.eqGuardIn (d+1) t .nilIface .nilIface).run P w= .ok false w:=fun d=>by
    simp[Op.eqGuardIn,run_underlying hs,hms]
   have g:(Op.eqGuardIn Op.maxDepth t .nilIface .nilIface).run P w= .ok false w:=g0 9999
   generalize Op.eqGuardIn Op.maxDepth t .nilIface .nilIface=q at g ⊢
   rcases hop with rfl | rfl <;> simp[g]
  ·cases hx
 ·rename_i ms t' z hs
  simp only[Option.some.injEq]at hx;subst hx
  cases hv;cases hu
  refine fin ?_ (by simp) (by simp) (E _ _ fun d=>by simp[Op.equalIn,run_underlying hs]) (by simp) (by simp)
  unfold eqGuard
  rcases hop with rfl | rfl <;> simp
 ·rename_i ms t' z hs
  simp only[Option.some.injEq]at hx;subst hx
  cases hv;cases hu
  refine fin ?_ (by simp) (by simp) (E _ _ fun d=>by simp[Op.equalIn,run_underlying hs]) (by simp) (by simp)
  unfold eqGuard
  rcases hop with rfl | rfl <;> simp
 ·rename_i ms hs
  simp only[Option.some.injEq]at hx;subst hx
  cases hv;cases hu
  refine fin ?_ (by simp) (by simp) (E _ _ fun d=>by simp[Op.equalIn,run_underlying hs]) (by simp) (by simp)
  unfold eqGuard
  rcases hop with rfl | rfl <;> simp
 ·rename_i ms hs
  simp only[Option.some.injEq]at hx;subst hx
  cases hv;cases hu
  refine fin ?_ (by simp) (by simp) (E _ _ fun d=>by simp[Op.equalIn,run_underlying hs]) (by simp) (by simp)
  unfold eqGuard
  rcases hop with rfl | rfl <;> simp
 ·rename_i e id off hs
  simp only[Option.some.injEq]at hx;subst hx
  obtain⟨o,b,c,h1,h2,h3,rfl⟩:=hv
  cases hu
  exact fin (plain _ _ (.inr ⟨_,rfl⟩)) (by simp) (by simp) (E _ _ fun d=>by simp[Op.equalIn,run_underlying hs]) (by simp) (by simp)
 ·rename_i e hs
  simp only[Option.some.injEq]at hx;subst hx
  cases hv;cases hu
  exact fin (plain _ _ (.inr ⟨_,rfl⟩)) (by simp) (by simp) (E _ _ fun d=>by simp[Op.equalIn,run_underlying hs]) (by simp) (by simp)
 ·rename_i fs xs ys hs
  split at hx
  ·rename_i l hl
   unfold flatStruct at hl
   rw[hs]at hl
   simp only at hl
   split at hl
   ·rename_i hc
    simp only[Bool.and_eq_true,Bool.not_eq_true',List.all_eq_true,bne_iff_ne,ne_eq]at hc
    obtain⟨⟨c1,c2⟩,c3⟩:=hc
    obtain⟨cs,rfl,hcs⟩:=Rep.aggGet hv
    obtain⟨ds,rfl,hds⟩:=Rep.aggGet hu
    have hf:P.fieldsOf t=fs:=by simp[Program.fieldsOf,hs]
    refine fin (run_eqGuard_agg w op t Xo Yo cs ds c2) (by simp) (by simp) ?_ (by simp) (by simp)
    show (Op.equalIn (9997+2+1) t (.agg cs) (.agg ds)).run P w=_
    rw[run_equalIn_struct w _ t cs ds (by rw[hf];exact hs) c1,hf]
    exact eqFlat_sound hcs hds fs.toList l r hl c3 hx
   ·cases hl
  ·cases hx
 ·cases hx
theorem nilE_equal {t:TypeId} {ms:Array (String × TypeId)} (hs:P.underlying t=some (.interface ms)):(Op.equal t .nilIface .nilIface).run P w= .ok true w:=by
 have h: ∀d,(Op.equalIn (d+1) t .nilIface .nilIface).run P w= .ok true w:=fun d=>by simp[Op.equalIn,run_underlying hs]
 exact h 9999
theorem nilE_sound {op:BinOp} {t:TypeId} {x:D} {v u:Value} {Xo Yo:Operand} (hl:(isLit Xo || isLit Yo)=true) (hx:nilE P op t=some x) (hv:VRel X ρ h w v (.d .nilI)) (hu:VRel X ρ h w u (.d .nilI)):
 ∃z,(do eqGuard op t Xo Yo v u;binOp op t v u:Sem Value).run P w= .ok z w∧Rep (Mut X ρ h) w z x:=by
 have e1:v= .nilIface:=by
  have h:Rep (Mut X ρ h) w v .nilI:=hv
  cases h;rfl
 have e2:u= .nilIface:=by
  have h:Rep (Mut X ρ h) w u .nilI:=hu
  cases h;rfl
 subst e1;subst e2
 unfold nilE at hx
 have hg: ∀o,o=BinOp.eql∨o=BinOp.neq→(eqGuard o t Xo Yo .nilIface .nilIface).run P w= .ok () w:=fun o ho=>by
  unfold eqGuard
  have: ∀a:Operand,isLit a=true→ ∃c,a= .const c:=fun a ha=>by cases a <;> simp[isLit]at ha;exact⟨_,rfl⟩
  rcases ho with rfl | rfl
  all_goals
   rcases Bool.or_eq_true_iff.1 hl with hl | hl
   all_goals
    obtain⟨c,rfl⟩:=this _ hl
    first
     |(cases Yo <;> simp)
     |(cases Xo <;> simp)
 split at hx
 ·rename_i ms hs
  simp only[Option.some.injEq]at hx;subst hx
  refine⟨.bool true, ?_,.bool _⟩
  rw[Sem.run_bind,hg _ (.inl rfl),Result.andThen_ok]
  have he:(Op.equal t .nilIface .nilIface).run P w= .ok true w:=nilE_equal hs
  simp[binOp,he]
 ·rename_i ms hs
  simp only[Option.some.injEq]at hx;subst hx
  refine⟨.bool false, ?_,.bool _⟩
  rw[Sem.run_bind,hg _ (.inr rfl),Result.andThen_ok]
  have he:(Op.equal t .nilIface .nilIface).run P w= .ok true w:=nilE_equal hs
  simp[binOp,he]
 ·cases hx
theorem binD_sound {op:BinOp} {t:TypeId} {A B:V} {x:D} {v u:Value} {Xo Yo:Operand} (hx:binD P op t A B=some x) (hv:VRel X ρ h w v A) (hu:VRel X ρ h w u B):
 ∃z,(do eqGuard op t Xo Yo v u;binOp op t v u:Sem Value).run P w= .ok z w∧Rep (Mut X ρ h) w z x:=by
 have hg: ∀k a k' b,(eqGuard op t Xo Yo (.int k a) (.int k' b)).run P w= .ok () w:=fun k a k' b=>by
  unfold eqGuard;cases op <;> simp
 have hgs: ∀a b,(eqGuard op t Xo Yo (.string a) (.string b)).run P w= .ok () w:=fun a b=>by
  unfold eqGuard;cases op <;> simp
 have hgb: ∀a b,(eqGuard op t Xo Yo (.bool a) (.bool b)).run P w= .ok () w:=fun a b=>by
  unfold eqGuard;cases op <;> simp
 unfold binD at hx
 split at hx
 ·rename_i k a k' b
  cases hv;cases hu
  split at hx
  ·unfold shiftBin at hx
   split at hx
   ·cases hx
   ·rename_i hb
    simp only[Option.some.injEq]at hx;subst hx
    refine⟨_, ?_,.int _ _⟩
    simp[hg,binOp,Op.shift,hb]
  ·unfold shiftBin at hx
   split at hx
   ·cases hx
   ·rename_i hb
    simp only[Option.some.injEq]at hx;subst hx
    refine⟨_, ?_,.int _ _⟩
    simp[hg,binOp,Op.shift,hb]
  ·rename_i hs1 hs2
   split at hx
   ·rename_i hk
    subst hk
    have hbin:binOp op t (.int k a) (.int k b)=(match op with
     |.add | .sub | .mul=>Op.intArith op k a b
     |.quo | .rem=>Op.intDiv op k a b
     |.and | .or | .xor | .andNot=>Op.intBits op k a b
     |_=>Op.intCmp op a b):=by
     cases op <;> first | (exfalso;exact hs1 rfl) | (exfalso;exact hs2 rfl) | simp[binOp]
    cases op <;> simp only[intBin]at hx <;> (try (exfalso;first | exact hs1 rfl | exact hs2 rfl))
    case quo=>
     split at hx
     ·cases hx
     ·rename_i h0
      simp only[Option.some.injEq]at hx;subst hx
      exact⟨_,by simp[hg,hbin,Op.intDiv,h0],.int _ _⟩
    case rem=>
     split at hx
     ·cases hx
     ·rename_i h0
      simp only[Option.some.injEq]at hx;subst hx
      exact⟨_,by simp[hg,hbin,Op.intDiv,h0],.int _ _⟩
    all_goals
     simp only[Option.some.injEq]at hx;subst hx
     first
      |exact⟨_,by rw[Sem.run_bind,hg,Result.andThen_ok,hbin];rfl,.int _ _⟩
      |exact⟨_,by rw[Sem.run_bind,hg,Result.andThen_ok,hbin];rfl,.bool _⟩
   ·cases hx
 ·rename_i a b
  cases hv;cases hu
  unfold strBin at hx
  split at hx
  ·split at hx
   ·rename_i hlt
    simp only[Option.some.injEq]at hx;subst hx
    refine⟨_, ?_,.str _⟩
    simp[hgs,binOp,Op.stringOp]
    omega
   ·cases hx
  all_goals first
   |cases hx;done
   |(simp only[Option.some.injEq]at hx;subst hx
     exact⟨_,by simp[hgs,binOp,Op.stringOp],.bool _⟩)
 ·rename_i a b
  cases hv;cases hu
  split at hx
  ·rename_i ht
   have heq:(Op.equal t (.bool a) (.bool b)).run P w= .ok (a == b) w:=by
    exact equalIn_bool 9999 ht a b
   split at hx
   ·simp only[Option.some.injEq]at hx;subst hx
    exact⟨_,by simp[hgb,binOp,heq],.bool _⟩
   ·simp only[Option.some.injEq]at hx;subst hx
    exact⟨_,by simp[hgb,binOp,heq],.bool _⟩
   ·cases hx
  ·cases hx
 ·split at hx
  ·simp only[Option.map_eq_some_iff]at hx
   obtain⟨r,hr,rfl⟩:=hx
   exact⟨_,eqV_sound hr hv hu (.inl rfl),by simpa using Rep.bool r⟩
  ·simp only[Option.map_eq_some_iff]at hx
   obtain⟨r,hr,rfl⟩:=hx
   exact⟨_,eqV_sound hr hv hu (.inr rfl),by simpa using Rep.bool (!r)⟩
  ·cases hx
theorem binE_sound {op:BinOp} {t:TypeId} {A B:V} {x:D} {v u:Value} {Xo Yo:Operand} (hx:binE P op t Xo Yo A B=some x) (hv:VRel X ρ h w v A) (hu:VRel X ρ h w u B):
 ∃z,(do eqGuard op t Xo Yo v u;binOp op t v u:Sem Value).run P w= .ok z w∧Rep (Mut X ρ h) w z x:=by
 unfold binE at hx
 split at hx
 ·rename_i hc
  simp only[Bool.and_eq_true]at hc
  obtain⟨h1,h2,h3⟩:=hc
  have e1:A= .d .nilI:=by
   unfold isNilI at h2
   split at h2
   ·rfl
   ·cases h2
  have e2:B= .d .nilI:=by
   unfold isNilI at h3
   split at h3
   ·rfl
   ·cases h3
  subst e1;subst e2
  exact nilE_sound h1 hx hv hu
 ·exact binD_sound hx hv hu
theorem unD_sound {op:UnOp} {A:V} {x:D} {v:Value} (hx:unD op A=some x) (hv:VRel X ρ h w v A):
 ∃z,(Op.unary op v).run P w= .ok z w∧Rep (Mut X ρ h) w z x:=by
 unfold unD at hx
 split at hx
 ·cases hv
  simp only[Option.some.injEq]at hx;subst hx
  exact⟨_,by simp[Op.unary,Op.intArith],.int _ _⟩
 ·cases hv
  simp only[Option.some.injEq]at hx;subst hx
  exact⟨_,rfl,.int _ _⟩
 ·cases hv
  simp only[Option.some.injEq]at hx;subst hx
  exact⟨_,by simp[Op.unary],.bool _⟩
 ·cases hx
end
end Go.Am
namespace Go.Am
section
variable {X:Nat→Nat→Prop} {ρ ρ' ρ'':Places} {h h' h'':List Obj} {w w' w'':World} {P:Program}
theorem part_agg {t:TypeId} {n off:Nat} {cs:Array Value} (ha:agg? P t=some true) (hn:sizeOf? P t=some n):
 (part t cs off).run P w= .ok (.agg (cs.extract off (off+n))) w:=by
 simp[part,agg_run ha,sizeOf_run hn]
theorem part_one {t:TypeId} {off:Nat} {cs:Array Value} {u:Value} (ha:agg? P t=some false) (hu:cs[off]? =some u):(part t cs off).run P w= .ok u w:=by
 simp[part,agg_run ha,hu]
theorem partD_sound {t:TypeId} {M:Nat→Nat→Prop} {ds:List D} {off:Nat} {cs:Array Value} {x:V} (hx:loadFromD P t ds off=some x) (hlen:cs.size=ds.length)
 (hc: ∀ (j:Nat) (c:D),ds[j]? =some c→ ∃u,cs[j]? =some u∧Rep M w u c∧c.isCell=true):
 ∃u y,(part t cs off).run P w= .ok u w∧x= .d y∧Rep M w u y:=by
 unfold loadFromD at hx
 split at hx
 ·rename_i ha
  split at hx
  ·rename_i n hn
   split at hx
   ·rename_i hle
    simp only[Option.some.injEq]at hx;subst hx
    refine⟨_,_,part_agg ha hn,rfl,.agg _ _ (fun j=>cs.getD (off+j) undef) (by simp[hlen];omega) (fun j c hj=> ?_) (fun j c hj=> ?_)⟩
    all_goals
     rw[List.getElem?_take]at hj
     split at hj
     ·rename_i hlt
      rw[List.getElem?_drop]at hj
      obtain⟨u,h1,h2,h3⟩:=hc _ c hj
      have h4:off+j<cs.size:=by have:=lt_of_getElem? hj;omega
      first
       |(refine⟨?_,h3⟩
         rw[Array.getElem?_extract,if_pos (by omega),h1]
         simp[Array.getD_eq_getD_getElem?,h1])
       |simpa[Array.getD_eq_getD_getElem?,h1]using h2
     ·cases hj
   ·cases hx
  ·cases hx
 ·rename_i ha
  simp only[Option.map_eq_some_iff]at hx
  obtain⟨y,hy,rfl⟩:=hx
  obtain⟨u,h1,h2,_⟩:=hc off y hy
  exact⟨u,y,part_one ha h1,rfl,h2⟩
 ·cases hx
theorem partV_sound {t:TypeId} {vs:List V} {off:Nat} {cs:Array Value} {x:V} (hx:loadFrom P t vs off=some x) (hc:CellsRel X ρ h w cs.toList vs):
 ∃u,(part t cs off).run P w= .ok u w∧VRel X ρ h w u x:=by
 unfold loadFrom at hx
 split at hx
 ·rename_i ha
  split at hx
  ·rename_i n hn
   split at hx
   ·rename_i hle
    simp only[Option.some.injEq]at hx;subst hx
    refine⟨_,part_agg ha hn,mkAgg_rel ?_⟩
    have:=(hc.drop off).take n
    have e:(cs.extract off (off+n)).toList=(cs.toList.drop off).take n:=by
     rw[Array.toList_extract,List.extract_eq_take_drop,Nat.add_sub_cancel_left]
    rwa [e]
   ·cases hx
  ·cases hx
 ·rename_i ha
  obtain⟨u,h1,h2,_⟩:=hc.2 off x hx
  exact⟨u,part_one ha (by simpa using h1),h2.vrel⟩
 ·cases hx
theorem Rep.aggCells {M:Nat→Nat→Prop} {v:Value} {ds:List D} (hr:Rep M w v (.agg ds)): ∃cs:Array Value,v= .agg cs∧cs.size=ds.length∧
 ∀ (j:Nat) (c:D),ds[j]? =some c→ ∃u,cs[j]? =some u∧Rep M w u c∧c.isCell=true:=by
 cases hr with
 |agg cs _ vs h1 h2 h3=>exact⟨cs,rfl,h1,fun j c hj=>⟨vs j,(h2 j c hj).1,h3 j c hj,(h2 j c hj).2⟩⟩
theorem aggV_cells {v:Value} {cs:List V} (hv:VRel X ρ h w v (.agg cs)): ∃us:Array Value,v= .agg us∧CellsRel X ρ h w us.toList cs:=by
 obtain⟨us,h1,h2,h3⟩:=hv
 exact⟨us,h1,by simpa using h2,fun j c hj=>by simpa using h3 j c hj⟩
theorem fieldV_sound {t:TypeId} {A x:V} {f:Nat} {v:Value} (hx:fieldV P t A f=some x) (hv:VRel X ρ h w v A):
 ∃u,(Instr.field t v f).run P w= .ok u w∧VRel X ρ h w u x:=by
 unfold fieldV at hx
 split at hx
 ·rename_i o ft hf
  unfold fieldOff? at hf
  split at hf
  ·rename_i fs hs
   split at hf
   ·rename_i fd hfd
    split at hf
    ·rename_i n hsz
     simp only[Option.some.injEq,Prod.mk.injEq]at hf
     obtain⟨rfl,rfl⟩:=hf
     split at hx
     ·rename_i ds
      obtain⟨cs,rfl,h1,h2⟩:=Rep.aggCells hv
      obtain⟨u,y,h3,rfl,h4⟩:=partD_sound hx h1 h2
      exact⟨u,by simp[Instr.field,run_underlying hs,hfd,asAgg,h3],h4⟩
     ·rename_i cs
      obtain⟨us,rfl,h1⟩:=aggV_cells hv
      obtain⟨u,h3,h4⟩:=partV_sound hx h1
      exact⟨u,by simp[Instr.field,run_underlying hs,hfd,asAgg,h3],h4⟩
     ·cases hx
    ·cases hf
   ·cases hf
  ·cases hf
 ·cases hx
theorem indexV_sound {t:TypeId} {A I x:V} {v i:Value} (hx:indexV P t A I=some x) (hv:VRel X ρ h w v A) (hi:VRel X ρ h w i I):
 ∃u,(Instr.index t v i).run P w= .ok u w∧VRel X ρ h w u x:=by
 unfold indexV at hx
 split at hx
 ·rename_i s k n hs
  cases hv;cases hi
  split at hx
  ·rename_i hn
   simp only[Option.map_eq_some_iff]at hx
   obtain⟨b,hb,rfl⟩:=hx
   exact⟨_,by simp[Instr.index,asIntOf,run_underlying hs,hn,hb],.int _ _⟩
  ·cases hx
 ·rename_i len e k n hs
  cases hi
  split at hx
  ·rename_i hn
   split at hx
   ·rename_i ds sz hsz
    obtain⟨cs,rfl,h1,h2⟩:=Rep.aggCells hv
    obtain⟨u,y,h3,rfl,h4⟩:=partD_sound hx h1 h2
    exact⟨u,by simp[Instr.index,asIntOf,run_underlying hs,hn,sizeOf_run hsz,h3],h4⟩
   ·rename_i cs sz hsz
    obtain⟨us,rfl,h1⟩:=aggV_cells hv
    obtain⟨u,h3,h4⟩:=partV_sound hx h1
    exact⟨u,by simp[Instr.index,asIntOf,run_underlying hs,hn,sizeOf_run hsz,h3],h4⟩
   ·cases hx
  ·cases hx
 ·cases hx
theorem extractV_sound {A x:V} {i:Nat} {v:Value} (hx:extractV i A=some x) (hv:VRel X ρ h w v A):
 ∃u,(Instr.extract v i).run P w= .ok u w∧VRel X ρ h w u x:=by
 unfold extractV at hx
 split at hx
 ·rename_i vs
  obtain⟨us,rfl,h1,h2⟩:=hv
  obtain⟨u,h3,h4⟩:=h2 i x hx
  exact⟨u,by simp[Instr.extract,h3],h4.vrel⟩
 ·cases hx
theorem pickV_sound {C A B x:V} {c a b:Value} (hx:pickV C A B=some x) (hc:VRel X ρ h w c C) (ha:VRel X ρ h w a A) (hb:VRel X ρ h w b B):
 ∃t,c= .bool t∧VRel X ρ h w (if t then a else b) x:=by
 unfold pickV at hx
 split at hx
 ·rename_i t
  cases hc
  simp only[Option.some.injEq]at hx;subst hx
  refine⟨t,rfl, ?_⟩
  cases t <;> simpa
 ·cases hx
theorem nilCheckV_sound {A x:V} {v:Value} (hx:nilCheckV h A=some (x,h')) (hv:VRel X ρ h w v A):h'=h∧(∃a,v= .pointer (some a))∧VRel X ρ h w v x:=by
 unfold nilCheckV at hx
 split at hx
 ·simp only[Option.some.injEq,Prod.mk.injEq]at hx;obtain⟨rfl,rfl⟩:=hx
  obtain⟨o,b,c,h1,h2,h3,rfl⟩:=id hv
  exact⟨rfl,⟨_,rfl⟩,hv⟩
 ·simp only[Option.some.injEq,Prod.mk.injEq]at hx;obtain⟨rfl,rfl⟩:=hx
  obtain⟨⟨a,rfl⟩,_⟩:=id hv
  exact⟨rfl,⟨_,rfl⟩,hv⟩
 ·simp only[Option.some.injEq,Prod.mk.injEq]at hx;obtain⟨rfl,rfl⟩:=hx
  obtain⟨b,o,vs,rfl,_⟩:=id hv
  exact⟨rfl,⟨_,rfl⟩,hv⟩
 ·cases hx
/-! ### lists that are read -/
def Reads (M:Nat→Nat→Prop) (w:World) (v:Value) (xs:List D):Prop:=
 ∃a cap,v= .slice a xs.length cap∧((xs=[])∨ ∃b o sz,a=some ⟨b,o,none⟩∧(∀x∈xs,x.cells.length=sz)∧
  ∀ (j:Nat) (c:D),(flat xs)[j]? =some c→ ∃u,w.cell? ⟨b,o+j,none⟩=some u∧Rep M w u c∧c.isCell=true)
theorem mapM_each {α β:Type} {f:α→Option β}: ∀ {l:List α} {r:List β},l.mapM f=some r→r.length=l.length∧ ∀ (j:Nat) (a:α),l[j]? =some a→ ∃b,r[j]? =some b∧f a=some b
 |[],r,hr=>by
  simp only[List.mapM_nil,Option.pure_def,Option.some.injEq]at hr;subst hr
  exact⟨rfl,fun j a hj=>by simp at hj⟩
 |x::l,r,hr=>by
  simp only[List.mapM_cons,Option.bind_eq_bind,Option.bind_eq_some_iff,Option.pure_def,Option.some.injEq]at hr
  obtain⟨y,hy,ys,hys,rfl⟩:=hr
  obtain⟨h1,h2⟩:=mapM_each hys
  refine⟨by simp[h1],fun j a hj=> ?_⟩
  cases j with
  |zero=>simp only[List.getElem?_cons_zero,Option.some.injEq]at hj;subst hj;exact⟨y,rfl,hy⟩
  |succ j=>simpa using h2 j a (by simpa using hj)
theorem flat_each {xs:List D} (hs: ∀x∈xs,x.cells=[x]):flat xs=xs:=by
 induction xs with
 |nil=>rfl
 |cons x xs ih=>
  show x.cells++flat xs=_
  rw[hs x (by simp),ih fun y hy=>hs y (by simp[hy])]
  rfl
theorem cold_sound {c:V} {x:D} {u:Value} (hx:cold h c=some x) (H:HRel X ρ h w) (hv:V1 X ρ h w u c):Rep (Mut X ρ h) w u x∧x.cells=[x]∧x.isCell=true:=by
 unfold cold at hx
 split at hx
 ·simp only[Option.some.injEq]at hx;subst hx
  exact⟨(pure1_sound (V:= .nilS) (x:= .list []) (h':=h) rfl H hv).2,rfl,rfl⟩
 ·rename_i id n
  split at hx
  ·rename_i sz xs wm ho
   split at hx
   ·rename_i hc
    obtain⟨rfl,rfl⟩:=hc
    simp only[Option.some.injEq]at hx;subst hx
    have hp:pure1 h (.arr id xs.length)=some (.list xs,h):=by
     simp only[pure1,ho,if_true]
     rw[set_self ho]
    exact⟨(pure1_sound hp H hv).2,rfl,rfl⟩
   ·cases hx
  ·cases hx
 ·cases hx
theorem elems_sound {A:V} {xs:List D} {v:Value} (hx:elems? h A=some xs) (H:HRel X ρ h w) (hv:VRel X ρ h w v A):Reads (Mut X ρ h) w v xs:=by
 unfold elems? at hx
 split at hx
 ·simp only[Option.some.injEq]at hx;subst hx
  cases hv with
  |nil a c=>exact⟨a,c,rfl,.inl rfl⟩
  |list b off len cap sz _ vs e1 e2 e3 e4 e5=>
   subst e1
   exact⟨_,cap,rfl,.inr ⟨b,off,sz,rfl,e3,fun j c hj=>⟨vs j,(e4 j c hj).1,e5 j c hj,(e4 j c hj).2.2⟩⟩⟩
 ·simp only[Option.some.injEq]at hx;subst hx
  exact⟨none,0,hv,.inl rfl⟩
 ·simp only[Option.some.injEq]at hx;subst hx
  obtain⟨a,c,rfl⟩:=hv
  exact⟨some a,c,rfl,.inl rfl⟩
 ·rename_i id n
  split at hx
  ·rename_i sz ys wm ho
   split at hx
   ·rename_i hn
    simp only[Option.some.injEq]at hx;subst hx
    obtain⟨_,sz2,xs2,wm2,r,h1,h2,h3,h4⟩:=hv
    rw[ho]at h1;cases h1
    have hav:=h4 hn
    obtain⟨r',h5,h6⟩:=H.obj id _ ho
    rw[h2]at h5;cases h5
    have h7:=h6.2
    cases r with
    |none=>
     subst h7
     obtain⟨rfl,a,rfl⟩:=hav
     exact⟨a,0,rfl,.inl rfl⟩
    |some p=>
     obtain⟨b,cap⟩:=p
     obtain⟨cur,e,fz,k1,k2,k3,k4,k5,k6,k7,k8⟩:=h7
     simp only[ArrVal]at hav
     subst hav;subst hn
     exact⟨_,cap,rfl,.inr ⟨b,0,sz,rfl,k6,fun j c hj=>by
      obtain⟨u,m1,m2,m3⟩:=k8 j c hj
      exact⟨u,by rw[cell_of_heap k1,Nat.zero_add,m1],m2,m3⟩⟩⟩
   ·cases hx
  ·cases hx
 ·rename_i id tot off len
  split at hx
  ·rename_i sz ys wm ho
   split at hx
   ·rename_i hn
    simp only[Option.some.injEq]at hx;subst hx
    obtain⟨_,sz2,xs2,wm2,r,h1,h2,h3,h4⟩:=hv
    rw[ho]at h1;cases h1
    obtain⟨hle,a,c,rfl,hlc,_,hpos⟩:=h4 hn
    have hcl:(cut ys off (off+len)).length=len:=by rw[cut_length (by omega)];omega
    rcases Nat.eq_zero_or_pos len with e | e
    ·subst e
     exact⟨a,c,by rw[hcl],.inl (List.eq_nil_of_length_eq_zero hcl)⟩
    ·obtain⟨b,cap,rfl,rfl⟩:=hpos e
     obtain⟨r',h5,h6⟩:=H.obj id _ ho
     rw[h2]at h5;cases h5
     obtain⟨cur,e',fz,k1,k2,k3,k4,k5,k6,k7,k8⟩:=h6.2
     exact⟨_,c,by rw[hcl],.inr ⟨b,off*sz,sz,rfl,fun x hx=>k6 x (cut_mem hx),fun j c hj=>by
      obtain⟨u,m1,m2,m3⟩:=k8 _ c (flat_cut k6 (by omega) (by omega) hj)
      exact⟨u,by rw[cell_of_heap k1,m1],m2,m3⟩⟩⟩
   ·cases hx
  ·cases hx
 ·rename_i id
  split at hx
  ·rename_i cs ho
   rcases hv with ⟨cs',b,c,h1,h2,rfl⟩ | ⟨es,bs,ck,b,c,h1,_⟩
   case inr=>rw[ho]at h1;cases h1
   rw[ho]at h1;cases h1
   obtain⟨hl,hg⟩:=mapM_each hx
   obtain⟨r,h5,h6⟩:=H.obj id _ ho
   rw[h2]at h5;cases h5
   obtain⟨b',c',cur,e,fz,k0,k1,k2,k3,k4⟩:=h6.2 (by simp)
   cases k0
   have key: ∀ (j:Nat) (x:D),xs[j]? =some x→ ∃u,cur[j]? =some u∧Rep (Mut X ρ h) w u x∧x.cells=[x]∧x.isCell=true:=fun j x hj=>by
    obtain⟨y,hy⟩: ∃y,cs[j]? =some y:=⟨cs[j]'(by have:=lt_of_getElem? hj;omega),by simp⟩
    obtain⟨x',e1,e2⟩:=hg j y hy
    rw[hj]at e1;cases e1
    obtain⟨u,m1,m2,m3⟩:=k4 j y hy
    exact⟨u,m1,cold_sound e2 H m2⟩
   have hone: ∀x∈xs,x.cells.length=1:=fun x hx=>by
    obtain⟨j,hj⟩:=List.getElem?_of_mem hx
    obtain⟨u,_,_,e2,_⟩:=key j x hj
    rw[e2];rfl
   have hflat:flat xs=xs:=flat_each fun x hx=>by
    obtain⟨j,hj⟩:=List.getElem?_of_mem hx
    obtain⟨u,_,_,e2,_⟩:=key j x hj
    exact e2
   exact⟨some ⟨b,0,none⟩,cs.length,by rw[hl],.inr ⟨b,0,1,rfl,hone,fun j c hj=>by
    rw[hflat]at hj
    obtain⟨u,m1,m2,_,m4⟩:=key j c hj
    exact⟨u,by rw[cell_of_heap k1,Nat.zero_add,m1],m2,m4⟩⟩⟩
  ·cases hx
 ·cases hx
theorem lenV_sound {t:TypeId} {A:V} {n:Nat} {v:Value} {ty:TypeId} {ts:Array TypeId} {vs:Array Value} (hx:lenV P h t A=some n) (H:HRel X ρ h w) (hv:VRel X ρ h w v A)
 (ht:ts[0]? =some t) (hvs:vs[0]? =some v):(Builtin.len_ ts ty vs).run P w= .ok (.int .i64 n) w:=by
 unfold lenV at hx
 split at hx
 ·rename_i s hs
  cases hv
  simp only[Option.some.injEq]at hx;subst hx
  simp[Builtin.len_,ht,hvs,run_underlying hs,goInt]
 ·rename_i e xs hs
  simp only[Option.some.injEq]at hx;subst hx
  cases hv with
  |nil a c=>simp[Builtin.len_,ht,hvs,run_underlying hs,goInt]
  |list b off len cap sz _ vs' e1 e2 e3 e4 e5=>simp[Builtin.len_,ht,hvs,run_underlying hs,goInt,e1]
 ·rename_i e hs
  simp only[Option.some.injEq]at hx;subst hx
  have hv':v= .slice none 0 0:=hv
  subst hv'
  simp[Builtin.len_,ht,hvs,run_underlying hs,goInt]
 ·rename_i e id m hs
  split at hx
  ·rename_i sz xs wm ho
   split at hx
   ·rename_i hn
    simp only[Option.some.injEq]at hx;subst hx
    have hr:=elems_sound (ρ:=ρ) (A:= .arr id m) (xs:=xs) (v:=v) (by simp[elems?,ho,hn]) H hv
    obtain⟨a,cap,rfl,_⟩:=hr
    simp[Builtin.len_,ht,hvs,run_underlying hs,goInt,hn]
   ·cases hx
  ·cases hx
 ·rename_i e hs
  simp only[Option.some.injEq]at hx;subst hx
  obtain⟨a,c,rfl⟩:=hv
  simp[Builtin.len_,ht,hvs,run_underlying hs,goInt]
 ·rename_i e id tot off len hs
  split at hx
  ·rename_i sz xs wm ho
   split at hx
   ·rename_i hn
    simp only[Option.some.injEq]at hx;subst hx
    obtain⟨_,sz2,xs2,wm2,r,h1,h2,h3,h4⟩:=hv
    rw[ho]at h1;cases h1
    obtain⟨hle,a,c,rfl,_⟩:=h4 hn
    simp[Builtin.len_,ht,hvs,run_underlying hs,goInt]
   ·cases hx
  ·cases hx
 ·rename_i e id hs
  split at hx
  ·rename_i cs ho
   simp only[Option.some.injEq]at hx;subst hx
   rcases hv with ⟨cs',b,c,h1,h2,rfl⟩ | ⟨es,bs,ck,b,c,h1,_⟩
   case inr=>rw[ho]at h1;cases h1
   rw[ho]at h1;cases h1
   simp[Builtin.len_,ht,hvs,run_underlying hs,goInt]
  ·cases hx
 ·rename_i k e hs
  simp only[Option.some.injEq]at hx;subst hx
  simp[Builtin.len_,ht,hvs,run_underlying hs,goInt]
 ·cases hx
theorem min2_sound {A B x:V} {v u:Value} (hx:min2 A B=some x) (hv:VRel X ρ h w v A) (hu:VRel X ρ h w u B): ∃z,(Builtin.min2 v u).run P w= .ok z w∧VRel X ρ h w z x:=by
 unfold min2 at hx
 split at hx
 ·cases hv;cases hu
  split at hx
  ·rename_i hk
   subst hk
   simp only[Option.some.injEq]at hx;subst hx
   exact⟨_,rfl,.int _ _⟩
  ·cases hx
 ·cases hx
theorem max2_sound {A B x:V} {v u:Value} (hx:max2 A B=some x) (hv:VRel X ρ h w v A) (hu:VRel X ρ h w u B): ∃z,(Builtin.max2 v u).run P w= .ok z w∧VRel X ρ h w z x:=by
 unfold max2 at hx
 split at hx
 ·cases hv;cases hu
  split at hx
  ·rename_i hk
   subst hk
   simp only[Option.some.injEq]at hx;subst hx
   exact⟨_,rfl,.int _ _⟩
  ·cases hx
 ·cases hx
theorem foldV_sound {f:V→V→Option V} {g:Value→Value→Sem Value} (hf: ∀A B x v u,f A B=some x→VRel X ρ h w v A→VRel X ρ h w u B→ ∃z,(g v u).run P w= .ok z w∧VRel X ρ h w z x):
 ∀ (r:List V) (us:List Value) (A x:V) (v:Value),foldV f A r=some x→VRel X ρ h w v A→us.length=r.length→(∀ (j:Nat) (c:V),r[j]? =some c→ ∃u,us[j]? =some u∧VRel X ρ h w u c)→
  ∃z,(us.foldlM g v).run P w= .ok z w∧VRel X ρ h w z x
 |[],us,A,x,v,hx,hv,hl,_=>by
  simp only[foldV,Option.some.injEq]at hx;subst hx
  have:us=[]:=List.eq_nil_of_length_eq_zero (by simpa using hl)
  subst this
  exact⟨v,rfl,hv⟩
 |B::r,us,A,x,v,hx,hv,hl,hc=>by
  simp only[foldV]at hx
  split at hx
  ·rename_i z hz
   cases us with
   |nil=>simp at hl
   |cons u us=>
    obtain⟨u',hu1,hu2⟩:=hc 0 B (by simp)
    simp at hu1;subst hu1
    obtain⟨z',h1,h2⟩:=hf A B z v u hz hv hu2
    obtain⟨z'',h3,h4⟩:=foldV_sound hf r us z x z' hx h2 (by simpa using hl) fun j c hj=>by simpa using hc (j+1) c (by simpa using hj)
    exact⟨z'',by simp[List.foldlM_cons,h1,h3],h4⟩
  ·cases hx
end
end Go.Am
namespace Go.Am
section
variable {X:Nat→Nat→Prop} {ρ ρ' ρ'':Places} {h h' h'':List Obj} {w w' w'':World} {P:Program}
theorem flat_one {xs:List D} (hs: ∀x∈xs,x.isCell=true):flat xs=xs:=by
 induction xs with
 |nil=>rfl
 |cons x xs ih=>
  simp only[flat,List.flatMap_cons]at ih ⊢
  rw[D.cells_one (hs x (by simp)),ih fun y hy=>hs y (by simp[hy])]
  rfl
theorem bytes_of {xs:List D} {bs:List UInt8} (hm:xs.mapM byteOf?=some bs): ∃ns:List Int,xs=ns.map (D.int .u8)∧bs=ns.map fun n=>UInt8.ofNat n.toNat:=by
 induction xs generalizing bs with
 |nil=>simp at hm;subst hm;exact⟨[],rfl,rfl⟩
 |cons x xs ih=>
  simp only[List.mapM_cons,Option.bind_eq_bind,Option.bind_eq_some_iff,Option.pure_def,Option.some.injEq]at hm
  obtain⟨b,hb,bs',hbs,rfl⟩:=hm
  obtain⟨ns,rfl,rfl⟩:=ih hbs
  unfold byteOf? at hb
  split at hb
  ·rename_i n
   simp only[Option.some.injEq]at hb;subst hb
   exact⟨n::ns,rfl,rfl⟩
  ·cases hb
theorem runes_of {xs:List D} {ns:List Int} (hm:xs.mapM runeOf?=some ns):xs=ns.map (D.int .i32):=by
 induction xs generalizing ns with
 |nil=>simp at hm;subst hm;rfl
 |cons x xs ih=>
  simp only[List.mapM_cons,Option.bind_eq_bind,Option.bind_eq_some_iff,Option.pure_def,Option.some.injEq]at hm
  obtain⟨b,hb,bs',hbs,rfl⟩:=hm
  rw[ih hbs]
  unfold runeOf? at hb
  split at hb
  ·simp only[Option.some.injEq]at hb;subst hb;rfl
  ·cases hb
theorem run_forIn_runes (f:Value→ByteArray→Sem (ForInStep ByteArray)) (hf: ∀ (n:Int) (r:ByteArray),(f (.int .i32 n) r).run P w= .ok (.yield (r++Utf8.encode n)) w):
 ∀ (ns:List Int) (s:ByteArray),(forIn (ns.map (Value.int .i32)) s f).run P w= .ok (ns.foldl (fun s n=>s++Utf8.encode n) s) w
 |[],s=>by simp[Sem.run_pure]
 |n::ns,s=>by
  rw[List.map_cons,List.forIn_cons,Sem.run_bind,hf]
  simp only[Result.andThen_ok]
  exact run_forIn_runes f hf ns _
theorem run_runesToString (a:Addr) (len cap:Nat) (ns:List Int) (h:(loadCells a len).run P w= .ok (ns.map (Value.int .i32)).toArray w):
 (Conv.runesToString (.slice (some a) len cap)).run P w= .ok (.string (encL ns)) w:=by
 unfold Conv.runesToString
 simp only[Sem.run_bind,h,Result.andThen_ok,List.forIn_toArray]
 rw[run_forIn_runes _ (by intro n r;simp[Sem.run_pure])]
 simp[Sem.run_pure,encL]
theorem foldl_push (ns:List Int) (s:ByteArray):ns.foldl (fun r n=>r.push (UInt8.ofNat n.toNat)) s=⟨(s.data.toList++ns.map fun n=>UInt8.ofNat n.toNat).toArray⟩:=by
 induction ns generalizing s with
 |nil=>simp
 |cons n ns ih=>
  rw[List.foldl_cons,ih]
  congr 2
  simp[ByteArray.push]
theorem Reads.ints {M:Nat→Nat→Prop} {v:Value} {ns:List Int} {k:IntKind} (hr:Reads M w v (ns.map (D.int k))):
 ∃a cap,v= .slice a ns.length cap∧(ns=[]∨ ∃b o,a=some ⟨b,o,none⟩∧LieAt w b o (ns.map (Value.int k))):=by
 obtain⟨a,cap,rfl,hc⟩:=hr
 refine⟨a,cap,by simp, ?_⟩
 rcases hc with e | ⟨b,o,sz,rfl,h1,h2⟩
 ·exact .inl (by simpa using e)
 ·refine .inr ⟨b,o,rfl,fun j u hj=> ?_⟩
  simp only[List.getElem?_map,Option.map_eq_some_iff]at hj
  obtain⟨n,hn,rfl⟩:=hj
  rw[flat_one (by intro x hx;simp at hx;obtain⟨n,_,rfl⟩:=hx;rfl)]at h2
  obtain⟨u,h3,h4,_⟩:=h2 j (.int k n) (by simp[hn])
  cases h4
  exact h3
theorem readConvV_sound {src dst:TypeId} {A x:V} {v:Value} (hx:readConvV P h src dst A=some x) (H:HRel X ρ h w) (hv:VRel X ρ h w v A):
 ∃u y,(convert src dst v).run P w= .ok u w∧x= .d y∧Rep (Mut X ρ h) w u y:=by
 unfold readConvV at hx
 split at hx
 ·rename_i ds k k' n hs hd
  cases hv
  simp only[Option.some.injEq]at hx;subst hx
  exact⟨_,_,by simp[convert,run_underlying hs,run_underlying hd,Conv.intToInt],rfl,.int _ _⟩
 ·rename_i s hs hd
  cases hv
  simp only[Option.some.injEq]at hx;subst hx
  exact⟨_,_,by simp[convert,run_underlying hs,run_underlying hd],rfl,.str _⟩
 ·rename_i e hs hd
  split at hx
  ·rename_i xs he hxs
   simp only[Option.map_eq_some_iff]at hx
   obtain⟨bs,hbs,rfl⟩:=hx
   obtain⟨ns,rfl,rfl⟩:=bytes_of hbs
   obtain⟨a,cap,rfl,hc⟩:=(elems_sound hxs H hv).ints
   refine⟨_,_, ?_,rfl,.str _⟩
   rw[run_convert_bytes_string w src dst e a ns.length cap hs he hd]
   rcases hc with rfl | ⟨b,o,rfl,hl⟩
   ·cases a with
    |none=>rfl
    |some a=>
     exact run_bytesToString (P:=P) w a 0 cap [] (by simpa using run_loadCells_list (P:=P) w a [] (by simp))
   ·have hld:=run_loadCells_list (P:=P) w ⟨b,o,none⟩ (ns.map (Value.int .u8)) fun j u hj=>by
     rw[Addr.add_lit];exact hl j u hj
    rw[List.length_map]at hld
    rw[run_bytesToString (P:=P) w _ ns.length cap ns hld,foldl_push]
    rfl
  ·rename_i xs he hxs
   simp only[Option.map_eq_some_iff]at hx
   obtain⟨ns,hns,rfl⟩:=hx
   rw[runes_of hns]at hxs
   obtain⟨a,cap,rfl,hc⟩:=(elems_sound hxs H hv).ints
   refine⟨_,_, ?_,rfl,.str _⟩
   have hconv:(convert src dst (.slice a ns.length cap)).run P w=(Conv.runesToString (.slice a ns.length cap)).run P w:=by
    simp[convert,run_underlying hs,run_underlying hd,run_underlying he]
   rw[hconv]
   rcases hc with rfl | ⟨b,o,rfl,hl⟩
   ·cases a with
    |none=>rfl
    |some a=>exact run_runesToString a 0 cap [] (by simpa using run_loadCells_list (P:=P) w a [] (by simp))
   ·have hld:=run_loadCells_list (P:=P) w ⟨b,o,none⟩ (ns.map (Value.int .i32)) fun j u hj=>by
     rw[Addr.add_lit];exact hl j u hj
    rw[List.length_map]at hld
    exact run_runesToString _ ns.length cap ns hld
  ·cases hx
 ·cases hx
/-! ### slices -/
theorem natOf_sound {A:V} {n:Nat} {v:Value} (hx:natOf? A=some n) (hv:VRel X ρ h w v A): ∃k,v= .int k n:=by
 unfold natOf? at hx
 split at hx
 ·rename_i k m
  cases hv
  split at hx
  ·rename_i hm
   simp only[Option.some.injEq]at hx;subst hx
   exact⟨k,by rw[Int.toNat_of_nonneg hm]⟩
  ·cases hx
 ·cases hx
theorem bounds_sound {n cap l u:Nat} {lo hi:Option V} {vlo vhi:Option Value} {isSlice:Bool} (hb:bounds? n lo hi=some (l,u)) (hcap:n≤cap)
 (hlo: ∀A,lo=some A→ ∃v,vlo=some v∧VRel X ρ h w v A) (hlo0:lo=none→vlo=none)
 (hhi: ∀A,hi=some A→ ∃v,vhi=some v∧VRel X ρ h w v A) (hhi0:hi=none→vhi=none):
 l≤u∧u≤n∧(Instr.sliceBounds isSlice n cap vlo vhi none).run P w= .ok (l,u,cap) w:=by
 unfold bounds? at hb
 split at hb
 ·rename_i u' l' hu hl
  split at hb
  ·rename_i hle
   simp only[Option.some.injEq,Prod.mk.injEq]at hb
   obtain⟨rfl,rfl⟩:=hb
   refine⟨hle.1,hle.2, ?_⟩
   have hsb: ∀ (k:IntKind) (i y:Nat) (c:BoundsCode),i≤y→(Instr.sliceBound (.int k i) y c).run P w= .ok i w:=fun k i y c hi=>run_sliceBound w k i y c (by omega) (by omega)
   have hi':(hi=none∧vhi=none∧u'=n)∨ ∃k,vhi=some (.int k u'):=by
    cases hi with
    |none=>simp only[bound?,Option.some.injEq]at hu;exact .inl ⟨rfl,hhi0 rfl,hu.symm⟩
    |some A=>
     obtain⟨v,e,hv⟩:=hhi A rfl
     obtain⟨k,rfl⟩:=natOf_sound (n:=u') hu hv
     exact .inr ⟨k,e⟩
   have lo':(lo=none∧vlo=none∧l'=0)∨ ∃k,vlo=some (.int k l'):=by
    cases lo with
    |none=>simp only[bound?,Option.some.injEq]at hl;exact .inl ⟨rfl,hlo0 rfl,hl.symm⟩
    |some A=>
     obtain⟨v,e,hv⟩:=hlo A rfl
     obtain⟨k,rfl⟩:=natOf_sound (n:=l') hl hv
     exact .inr ⟨k,e⟩
   rcases hi' with ⟨_,rfl,rfl⟩ | ⟨k,rfl⟩ <;> rcases lo' with ⟨_,rfl,rfl⟩ | ⟨k',rfl⟩
   ·simp[Instr.sliceBounds]
   ·simp[Instr.sliceBounds,hsb k' l' _ _ hle.1]
   ·simp[Instr.sliceBounds,hsb k u' cap _ (by omega)]
   ·simp[Instr.sliceBounds,hsb k u' cap _ (by omega),hsb k' l' u' _ hle.1]
  ·cases hb
 ·cases hb
theorem allSize_spec {n:Nat}: ∀ {xs:List D},allSize n xs=true→ ∀x∈xs,x.cells.length=n
 |[],_,x,hx=>by simp at hx
 |y::ys,ha,x,hx=>by
  simp only[allSize,Bool.and_eq_true,beq_iff_eq]at ha
  rcases List.mem_cons.1 hx with rfl | hx
  ·exact ha.1
  ·exact allSize_spec ha.2 x hx
theorem Rep.cut {M:Nat→Nat→Prop} {v:Value} {xs:List D} {t e:TypeId} {sz l u:Nat} {vlo vhi:Option Value} (hv:Rep M w v (.list xs)) (hs:P.underlying t=some (.slice e)) (hsz:sizeOf? P e=some sz)
 (hok:l=0∨ ∀x∈xs,x.cells.length=sz)
 (hb: ∀cap,xs.length≤cap→l≤u∧u≤xs.length∧(Instr.sliceBounds true xs.length cap vlo vhi none).run P w= .ok (l,u,cap) w):
 ∃z,(Instr.sliceAt t v vlo vhi none).run P w= .ok z w∧Rep M w z (.list (Am.cut xs l u)):=by
 have hrun: ∀a len cap,len=xs.length→xs.length≤cap→(Instr.sliceAt t (.slice a len cap) vlo vhi none).run P w=
  .ok (.slice (if cap=l then a else a.map (·.add (l*sz))) (u - l) (cap - l)) w:=fun a len cap e1 e2=>by
  obtain⟨_,_,h3⟩:=hb cap e2
  simp[Instr.sliceAt,run_underlying hs,Instr.slice,e1,h3,sizeOf_run hsz]
 cases hv with
 |nil a c han=>
  obtain⟨h1,h2,_⟩:=hb c (Nat.zero_le _)
  simp only[List.length_nil,Nat.le_zero_eq]at h2
  subst h2
  refine⟨_,hrun a 0 c rfl (Nat.zero_le _), ?_⟩
  simp only[Am.cut,List.take_nil,List.drop_nil,Nat.zero_sub]
  refine .nil _ _ fun e=> ?_
  have:a=none:=by
   split at e
   ·exact e
   ·simpa using e
  have:=han this
  omega
 |list b off len cap sz' _ vs e1 e2 e3 e4 e5=>
  obtain⟨h1,h2,_⟩:=hb cap (by omega)
  refine⟨_,hrun _ len cap e1 (by omega), ?_⟩
  by_cases hcl:cap=l
  ·have hul:u - l=0:=by omega
   have:Am.cut xs l u=[]:=List.eq_nil_of_length_eq_zero (by rw[cut_length h2,hul])
   rw[this,hul]
   exact .nil _ _ fun e=>by rw[if_pos hcl]at e;cases e
  ·rw[if_neg hcl]
   have hmul:l*sz=l*sz':=by
    rcases hok with rfl | hok
    ·simp
    ·rcases Nat.eq_zero_or_pos xs.length with hx0 | hx0
     ·have:l=0:=by omega
      simp[this]
     ·obtain⟨x,hx⟩:=List.exists_mem_of_length_pos hx0
      rw[← hok x hx,e3 x hx]
   simp only[Option.map_some,Addr.add_lit,hmul]
   refine .list b (off+l*sz') (u - l) (cap - l) sz' _ (fun j=>vs (l*sz'+j)) (cut_length h2).symm (by omega) (fun x hx=>e3 x (cut_mem hx)) (fun j c hj=> ?_) (fun j c hj=> ?_)
   ·have:=e4 _ c (flat_cut e3 h2 h1 hj)
    rwa [← Nat.add_assoc]at this
   ·exact e5 _ c (flat_cut e3 h2 h1 hj)
theorem SlVal.slice {r:Place} {t e:TypeId} {sz off len l u:Nat} {v:Value} {vlo vhi:Option Value} (hv:SlVal r sz off len v) (hs:P.underlying t=some (.slice e)) (hsz:sizeOf? P e=some sz)
 (hb: ∀cap,len≤cap→l≤u∧u≤len∧(Instr.sliceBounds true len cap vlo vhi none).run P w= .ok (l,u,cap) w):
 ∃z,(Instr.sliceAt t v vlo vhi none).run P w= .ok z w∧SlVal r sz (off+l) (u - l) z∧isSlice z:=by
 obtain⟨a,c,rfl,hlc,han,hpos⟩:=hv
 obtain⟨h1,h2,h3⟩:=hb c hlc
 refine⟨.slice (if c=l then a else a.map (·.add (l*sz))) (u - l) (c - l),by simp[Instr.sliceAt,run_underlying hs,Instr.slice,h3,sizeOf_run hsz],⟨_,_,rfl,by omega,fun e=> ?_,fun hp=> ?_⟩,⟨_,_,_,rfl⟩⟩
 ·have:a=none:=by
   split at e
   ·exact e
   ·simpa using e
  have:=han this
  omega
 ·obtain⟨b,cap,rfl,rfl⟩:=hpos (by omega)
  refine⟨b,cap,rfl, ?_⟩
  rw[if_neg (by omega),Option.map_some,Addr.add_lit,Nat.add_mul]
theorem arr_window (H:HRel X ρ h w) {id sz:Nat} {xs:List D} {wm:Nat} (ho:h[id]? =some (.arr sz xs wm)) {v:Value} (hv:V1 X ρ h w v (.arr id xs.length)): ∃r,ρ[id]? =some r∧SlVal r sz 0 xs.length v:=by
 obtain⟨_,sz',xs',wm',r,h1,h2,_,h4⟩:=hv
 rw[ho]at h1;cases h1
 have hav:=h4 rfl
 obtain⟨r',h5,h6⟩:=H.obj id _ ho
 rw[h2]at h5;cases h5
 refine⟨r,h2, ?_⟩
 have h7:=h6.2
 cases r with
 |none=>
  subst h7
  obtain⟨_,a,rfl⟩:=hav
  exact⟨a,0,rfl,Nat.le_refl _,fun _=>rfl,fun h=>absurd h (by simp)⟩
 |some p=>
  obtain⟨b,cap⟩:=p
  simp only[ArrVal]at hav
  subst hav
  obtain⟨cur,e,fz,k1,k2,k3,_⟩:=h7
  exact⟨_,cap,rfl,k3,fun e=>(by cases e),fun _=>⟨b,cap,rfl,by simp⟩⟩
theorem sliceV_sound {t:TypeId} {A x:V} {lo hi mx:Option V} {v:Value} {vlo vhi vmx:Option Value} (hx:sliceV P h t A lo hi mx=some x) (H:HRel X ρ h w) (hv:VRel X ρ h w v A)
 (hlo: ∀A,lo=some A→ ∃v,vlo=some v∧VRel X ρ h w v A) (hlo0:lo=none→vlo=none)
 (hhi: ∀A,hi=some A→ ∃v,vhi=some v∧VRel X ρ h w v A) (hhi0:hi=none→vhi=none) (hmx0:mx=none→vmx=none):
 ∃z,(Instr.sliceAt t v vlo vhi vmx).run P w= .ok z w∧VRel X ρ h w z x:=by
 unfold sliceV at hx
 split at hx
 ·rename_i s hs
  cases hv
  rw[hmx0 rfl]
  split at hx
  ·rename_i l u hb
   simp only[Option.some.injEq]at hx;subst hx
   obtain⟨h1,h2,h3⟩:=bounds_sound (P:=P) (isSlice:=false) hb (Nat.le_refl _) hlo hlo0 hhi hhi0
   exact⟨_,by simp[Instr.sliceAt,run_underlying hs,Instr.slice,h3],.str _⟩
  ·cases hx
 ·rename_i e xs hs
  rw[hmx0 rfl]
  split at hx
  ·rename_i l u sz hb hsz
   split at hx
   ·rename_i hok
    simp only[Option.some.injEq]at hx;subst hx
    refine Rep.cut hv hs hsz ?_ fun cap hc=>bounds_sound (P:=P) hb hc hlo hlo0 hhi hhi0
    simp only[Bool.or_eq_true,beq_iff_eq]at hok
    exact hok.imp id allSize_spec
   ·cases hx
  ·cases hx
 ·rename_i e hs
  rw[hmx0 rfl]
  split at hx
  ·rename_i p sz hb hsz
   obtain⟨l,u⟩:=p
   simp only[Option.some.injEq]at hx;subst hx
   have hv':v= .slice none 0 0:=hv
   subst hv'
   obtain⟨h1,h2,h3⟩:=bounds_sound (P:=P) (isSlice:=true) hb (Nat.le_refl _) hlo hlo0 hhi hhi0
   refine⟨.slice none 0 0, ?_,rfl⟩
   have hu:u=0:=by omega
   have hl:l=0:=by omega
   subst hu;subst hl
   simp[Instr.sliceAt,run_underlying hs,Instr.slice,h3,sizeOf_run hsz]
  ·cases hx
 ·rename_i e id n hs
  rw[hmx0 rfl]
  split at hx
  ·rename_i sz xs wm sz' ho hsz
   split at hx
   ·rename_i hc
    obtain⟨rfl,hw,rfl⟩:=hc
    split at hx
    ·rename_i l u hb
     simp only[Option.some.injEq]at hx;subst hx
     have hr:=arr_reads H ho hw hv
     obtain⟨r,hr1,hr2⟩:=H.obj id _ ho
     refine Rep.cut hr hs hsz ?_ fun cap hc=>bounds_sound (P:=P) hb hc hlo hlo0 hhi hhi0
     have h7:=hr2.2
     cases r with
     |none=>subst h7;exact .inr fun x hx=>by simp at hx
     |some p=>exact .inr h7.choose_spec.choose_spec.choose_spec.2.2.2.2.2.1
    ·cases hx
   ·split at hx
    ·rename_i hc
     obtain⟨rfl,rfl⟩:=hc
     split at hx
     ·rename_i l u hb
      simp only[Option.some.injEq]at hx;subst hx
      obtain⟨r,hr,hw⟩:=arr_window H ho hv
      have hbb:=fun cap hc=>bounds_sound (P:=P) (isSlice:=true) (cap:=cap) hb hc hlo hlo0 hhi hhi0
      obtain⟨h1,h2,_⟩:=hbb xs.length (Nat.le_refl _)
      obtain⟨z,k1,k2,k3⟩:=hw.slice hs hsz hbb
      rw[Nat.zero_add]at k2
      exact⟨z,k1,k3,sz,xs,_,r,ho,hr,Nat.le_refl _,fun _=>⟨by omega,k2⟩⟩
     ·cases hx
    ·cases hx
  ·cases hx
 ·rename_i e id tot off len hs
  rw[hmx0 rfl]
  split at hx
  ·rename_i sz xs wm sz' ho hsz
   split at hx
   ·rename_i hc
    obtain⟨rfl,rfl⟩:=hc
    split at hx
    ·rename_i l u hb
     simp only[Option.some.injEq]at hx;subst hx
     obtain⟨_,sz2,xs2,wm2,r,h1,h2,h3,h4⟩:=hv
     rw[ho]at h1;cases h1
     obtain⟨hle,hw⟩:=h4 rfl
     have hbb:=fun cap hc=>bounds_sound (P:=P) (isSlice:=true) (cap:=cap) hb hc hlo hlo0 hhi hhi0
     obtain⟨g1,g2,_⟩:=hbb len (Nat.le_refl _)
     obtain⟨z,k1,k2,k3⟩:=hw.slice hs hsz hbb
     exact⟨z,k1,k3,sz,xs,wm,r,ho,h2,Nat.le_refl _,fun _=>⟨by omega,k2⟩⟩
    ·cases hx
   ·cases hx
  ·cases hx
 ·rename_i e hs
  rw[hmx0 rfl]
  split at hx
  ·rename_i p sz hb hsz
   obtain⟨l,u⟩:=p
   simp only[Option.some.injEq]at hx;subst hx
   obtain⟨a,c,rfl⟩:=hv
   obtain⟨h1,h2,h3⟩:=bounds_sound (P:=P) (cap:=c) (isSlice:=true) hb (Nat.zero_le _) hlo hlo0 hhi hhi0
   have hu:u=0:=by omega
   have hl:l=0:=by omega
   subst hu;subst hl
   refine⟨.slice (if c=0 then some a else some (a.add 0)) 0 (c - 0),by simp[Instr.sliceAt,run_underlying hs,Instr.slice,h3,sizeOf_run hsz], ?_⟩
   refine⟨a,c, ?_⟩
   simp[Addr.add]
  ·cases hx
 ·cases hx
/-! ### interface values -/
theorem ifaceV_sound {t:TypeId} {A x:V} {v:Value} (hx:ifaceV P h t A=some (x,h')) (H:HRel X ρ h w) (hv:VRel X ρ h w v A):
 Stp X ρ h w ρ h' w∧ ∃u,(Instr.makeInterface t v).run P w= .ok u w∧VRel X ρ h' w u x:=by
 unfold ifaceV at hx
 split at hx
 ·cases hx
 ·rename_i d hni hs
  simp only[Option.map_eq_some_iff,Prod.exists]at hx
  obtain⟨y,h1,hp,e⟩:=hx
  simp only[Prod.mk.injEq]at e;obtain⟨rfl,rfl⟩:=e
  obtain⟨st,hr⟩:=pureV_sound hp H hv
  refine⟨st,_, ?_,.iface t v y hr⟩
  simp only[Instr.makeInterface,Sem.run_bind,run_underlying hs,Result.andThen_ok]
  rfl
 ·cases hx
theorem constD_rel {M:Nat→Nat→Prop} {z:Value} {x:D} (hx:constD? z=some x):Rep M w z x∧x.isCell=true:=by
 unfold constD? at hx
 split at hx <;> first
  |cases hx;done
  |(simp only[Option.some.injEq]at hx;subst hx;exact⟨.int _ _,rfl⟩)
  |(simp only[Option.some.injEq]at hx;subst hx;exact⟨.bool _,rfl⟩)
  |(simp only[Option.some.injEq]at hx;subst hx;exact⟨.str _,rfl⟩)
  |(simp only[Option.some.injEq]at hx;subst hx;exact⟨.nilP,rfl⟩)
  |(simp only[Option.some.injEq]at hx;subst hx;exact⟨.nilM,rfl⟩)
  |(simp only[Option.some.injEq]at hx;subst hx;exact⟨.nilF,rfl⟩)
  |(simp only[Option.some.injEq]at hx;subst hx;exact⟨.nilI,rfl⟩)
  |(simp only[Option.some.injEq]at hx;subst hx;exact⟨.nil _ _ fun _=>rfl,rfl⟩)
theorem mapM_get {α β:Type} {f:α→Option β}: ∀ {l:List α} {r:List β},l.mapM f=some r→r.length=l.length∧ ∀ (j:Nat) (b:β),r[j]? =some b→ ∃a,l[j]? =some a∧f a=some b
 |[],r,hm=>by simp at hm;subst hm;exact⟨rfl,fun j b hj=>by simp at hj⟩
 |x::l,r,hm=>by
  simp only[List.mapM_cons,Option.bind_eq_bind,Option.bind_eq_some_iff,Option.pure_def,Option.some.injEq]at hm
  obtain⟨y,hy,ys,hys,rfl⟩:=hm
  obtain⟨h1,h2⟩:=mapM_get hys
  refine⟨by simp[h1],fun j b hj=> ?_⟩
  cases j with
  |zero=>simp at hj;subst hj;exact⟨x,by simp,hy⟩
  |succ j=>simpa using h2 j b (by simpa using hj)
theorem zeroD_rel {t:TypeId} {x:D} (hx:zeroD? P t=some x): ∃z,zero? P t=some z∧ ∀ (M:Nat→Nat→Prop) (w:World),Rep M w z x:=by
 unfold zeroD? at hx
 split at hx
 ·rename_i cs hz
  simp only[Option.map_eq_some_iff]at hx
  obtain⟨ds,hds,rfl⟩:=hx
  obtain⟨h1,h2⟩:=mapM_get hds
  refine⟨_,hz,fun M w=> .agg cs ds (fun j=>cs.getD j undef) (by simpa using h1.symm) (fun j c hj=> ?_) (fun j c hj=> ?_)⟩
  ·obtain⟨a,ha,hc⟩:=h2 j c hj
   have ha':cs[j]? =some a:=by simpa using ha
   exact⟨by simp[Array.getD_eq_getD_getElem?,ha'],(constD_rel (M:=M) (w:=w) hc).2⟩
  ·obtain⟨a,ha,hc⟩:=h2 j c hj
   have ha':cs[j]? =some a:=by simpa using ha
   simpa[Array.getD_eq_getD_getElem?,ha']using (constD_rel (M:=M) (w:=w) hc).1
 ·rename_i z _ hz
  exact⟨z,hz,fun M w=>(constD_rel hx).1⟩
 ·cases hx
theorem zeroValue_run {t:TypeId} {z:Value} (hz:zero? P t=some z):(zeroValue t).run P w= .ok z w:=by
 simp only[zero?,Option.bind_eq_some_iff]at hz
 obtain⟨i,hi,hz⟩:=hz
 simp[zeroValue,typeInfo,hi,hz]
theorem assertV_sound {A x:V} {v:Value} {xT asserted:TypeId} {ok:Bool} (hx:assertV P A asserted ok=some x) (hv:VRel X ρ h w v A):
 ∃u,(Instr.typeAssert v xT asserted ok).run P w= .ok u w∧VRel X ρ h w u x:=by
 have htup: ∀ {a b:Value} {A B:D},Rep (Mut X ρ h) w a A→Rep (Mut X ρ h) w b B→VRel X ρ h w (.tuple #[a,b]) (.tup [.d A,.d B]):=fun {a b A B} ha hb=>
  ⟨_,rfl,rfl,fun j c hj=>by
    match j,hj with
    |0,hj=>simp at hj;subst hj;exact⟨a,by simp,ha⟩
    |1,hj=>simp at hj;subst hj;exact⟨b,by simp,hb⟩⟩
 unfold assertV at hx
 split at hx
 ·cases hx
 ·rename_i d hni hs
  cases hv
  cases ok with
  |false=>simp at hx
  |true=>
   simp only[if_true,Option.map_eq_some_iff]at hx
   obtain⟨zd,hz,rfl⟩:=hx
   obtain⟨z,hz1,hz2⟩:=zeroD_rel hz
   refine⟨.tuple #[z,.bool false], ?_,htup (hz2 _ _) (.bool false)⟩
   simp only[Instr.typeAssert,Sem.run_bind,run_underlying hs,Result.andThen_ok]
   cases d <;> first
    |exact (hni _ hs).elim
    |simp[zeroValue_run hz1]
 ·rename_i d t y hni hs
  cases hv with
  |iface _ v' _ hv'=>
   split at hx
   ·rename_i ht
    subst ht
    simp only[Option.some.injEq]at hx;subst hx
    cases ok with
    |true=>
     refine⟨.tuple #[v',.bool true], ?_,htup hv' (.bool true)⟩
     simp only[Instr.typeAssert,Sem.run_bind,run_underlying hs,Result.andThen_ok]
     cases d <;> first
      |exact (hni _ hs).elim
      |simp
    |false=>
     refine⟨v', ?_,hv'⟩
     simp only[Instr.typeAssert,Sem.run_bind,run_underlying hs,Result.andThen_ok]
     cases d <;> first
      |exact (hni _ hs).elim
      |simp
   ·rename_i ht
    cases ok with
    |false=>simp at hx
    |true=>
     simp only[if_true,Option.map_eq_some_iff]at hx
     obtain⟨zd,hz,rfl⟩:=hx
     obtain⟨z,hz1,hz2⟩:=zeroD_rel hz
     refine⟨.tuple #[z,.bool false], ?_,htup (hz2 _ _) (.bool false)⟩
     simp only[Instr.typeAssert,Sem.run_bind,run_underlying hs,Result.andThen_ok]
     cases d <;> first
      |exact (hni _ hs).elim
      |simp[ht,zeroValue_run hz1]
 ·cases hx
end
end Go.Am
namespace Go.Am
@[simp] theorem obind_some {α β:Type} (a:α) (f:α→Option β):obind (some a) f=f a:=rfl
@[simp] theorem obind_none {α β:Type} (f:α→Option β):obind none f=none:=rfl
@[congr] theorem obind_congr {α β:Type} {x y:Option α} {f:α→Option β} (h:x=y):obind x f=obind y f:=by rw[h]
@[simp] theorem onNormal_normal (s:Slots) (h:List Obj) (f:Slots→List Obj→Res):onNormal (some (.normal,s,h)) f=f s h:=rfl
@[simp] theorem onNormal_exit (i:Nat) (s:Slots) (h:List Obj) (f:Slots→List Obj→Res):onNormal (some (.exit i,s,h)) f=some (.exit i,s,h):=rfl
@[simp] theorem onNormal_ret (s:Slots) (h:List Obj) (f:Slots→List Obj→Res):onNormal (some (.ret,s,h)) f=some (.ret,s,h):=rfl
@[simp] theorem onNormal_none (f:Slots→List Obj→Res):onNormal none f=none:=rfl
@[congr] theorem onNormal_congr {x y:Res} {f:Slots→List Obj→Res} (h:x=y):onNormal x f=onNormal y f:=by rw[h]
@[simp] theorem branch_bool (t:Bool) (x y:Res):branch (.d (.bool t)) x y=if t then x else y:=rfl
@[congr] theorem branch_congr {c d:V} {x y:Res} (h:c=d):branch c x y=branch d x y:=by rw[h]
@[simp] theorem leave_normal (id:Nat) (s:Slots) (h:List Obj):leave id (some (.normal,s,h))=some (.normal,s,h):=rfl
@[simp] theorem leave_ret (id:Nat) (s:Slots) (h:List Obj):leave id (some (.ret,s,h))=some (.ret,s,h):=rfl
@[simp] theorem leave_none (id:Nat):leave id none=none:=rfl
@[simp] theorem leave_exit (id i:Nat) (s:Slots) (h:List Obj):leave id (some (.exit i,s,h))=if i=id then some (.normal,s,h) else some (.exit i,s,h):=rfl
end Go.Am
