/- The abstract machine: definitions, relations, operations. -/
import Derived.Orders
import Derived.Laws.AppendOwn
import Derived.Laws.Append
import Derived.Laws.Entries
import GoSem.Dispatch
import Derived.Laws.StructEq
import Derived.Laws.BytesString
import Derived.Laws.Slices
set_option linter.all false
def yaa:=@Option.some.injEq
def yab:=@Option.map_eq_some_iff
def yac:=@if_neg
def yad:=@Prod.mk.injEq
def yae:=@List.length_append
def yaf:=@List.length_cons
def yag:=@if_pos
def yah:=@List.length_map
def yai:=@Nat.zero_le
def yaj:=@Nat.le_refl
def yak:=@List.getElem?_eq_getElem
def yal:=@List.getElem?_append_right
def yam:=@List.getElem_mem
def yan:=@List.append_assoc
def yao:=@List.drop_eq_getElem_cons
def yap:=@List.append_nil
def yaq:=@List.length_take
def yar:=@List.getElem?_append_left
def yas:=@List.getD_eq_getElem?_getD
def yat:=@Int.toNat_natCast
def yau:=@List.getElem?_map
def yav:=@Array.getD_eq_getD_getElem?
def yaw:=@Bool.and_eq_true
def yax:=@List.length_drop
def yay:=@List.mem_of_getElem?
def yaz:=@List.length_nil
def yaA:=@List.take_of_length_le
def yaB:=@decide_eq_true_eq
def yaC:=@Int.eq_ofNat_of_zero_le
def yaD:=@Bool.false_eq_true
def yaE:=@List.eq_nil_of_length_eq_zero
def yaF:=@List.getElem?_cons_zero
def yaG:=@Nat.mul_le_mul_right
def yaH:=@List.mem_of_mem_take
def yaI:=@decide_eq_true
def yaJ:=@List.drop_of_length_le
def yaK:=@Nat.mod_eq_of_lt
def yaL:=@List.getElem?_eq_none
def yaM:=@Option.map_some
def yaN:=@Option.some.inj
def yaO:=@decide_eq_false
def yaP:=@Nat.add_sub_cancel_left
def yaQ:=@List.map_map
def yaR:=@List.replicate_succ
def yaS:=@decide_eq_false_iff_not
def yaT:=@Option.bind_eq_some_iff
def yaU:=@List.getElem?_take
def yaV:=@List.map_cons
def yaW:=@List.take_length
def yaX:=@Nat.zero_add
def yaY:=@Nat.add_assoc
def yaZ:=@List.mem_cons_of_mem
def ya0:=@List.map_congr_left
def ya1:=@List.getElem?_drop
def ya2:=@List.mapM_cons
def ya3:=@List.take_succ_eq_append_getElem
def ya4:=@Nat.le_trans
def ya5:=@List.flatMap_cons
def ya6:=@List.length_replicate
def ya7:=@List.map_append
def ya8:=@Nat.add_mul
def ya9:=@List.cons_append
def yba:=@Nat.sub_self
def ybb:=@List.mem_cons_self
def ybc:=@List.foldl_cons
def ybd:=@if_false
def ybe:=@Array.getElem?_eq_getElem
def ybf:=@List.take_append_drop
def ybg:=@List.length_singleton
def ybh:=@List.getElem?_set_self
def ybi:=@Array.length_toList
def ybj:=@List.getElem?_range
def ybk:=@if_true
def ybl:=@List.set_append_right
def ybm:=@not_true_eq_false
def ybn:=@List.length_filterMap_le
def ybo:=@List.getElem?_of_mem
def ybp:=@Nat.lt_of_lt_of_le
def ybq:=@Nat.eq_zero_or_pos
def ybr:=@Bool.or_eq_true
def ybs:=@List.getElem?_cons_succ
def ybt:=@Int.natCast_mul
def ybu:=@Classical.choose_spec
def ybv:=@List.drop_eq_nil_of_le
def ybw:=@List.getElem?_set_ne
def ybx:=@Nat.lt_irrefl
def yby:=@Nat.pow_le_pow_right
def ybz:=@Nat.two_pow_pos
def ybA:=@Nat.mul_le_mul
def ybB:=@Option.bind_eq_bind
def ybC:=@Nat.pow_add
def ybD:=@List.all_eq_true
def ybE:=@List.take_append_of_le_length
def ybF:=@List.mem_of_mem_drop
def ybG:=@ByteArray.size_extract
def ybH:=@Nat.div_div_eq_div_mul
def ybI:=@List.mem_cons
def ybJ:=@Nat.add_sub_cancel
def ybK:=@Bool.true_and
def ybL:=@Nat.lt_or_ge
def ybM:=@Nat.min_eq_left
def ybN:=@Array.getElem?_modify
def ybO:=@List.ext_getElem
def ybP:=@List.getElem_map
def ybQ:=@List.map_take
def ybR:=@Nat.lt_of_le_of_lt
def ybS:=@Option.pure_def
def ybT:=@List.nil_append
def ybU:=@Bool.and_eq_false_iff
def ybV:=@List.ext_getElem?
def ybW:=@Nat.mul_comm
def ybX:=@List.map_nil
def ybY:=@Bool.and_true
def ybZ:=@List.mem_append_left
def yb0:=@Nat.le_add_right
def yb1:=@Array.getElem?_append_left
def yb2:=@List.getElem?_set
def yb3:=@Nat.div_lt_iff_lt_mul
def yb4:=@Nat.add_comm
def yb5:=@ByteArray.size_append
def yb6:=@Int.natCast_pow
def yb7:=@List.eq_of_mem_replicate
def yb8:=@Int.cast_ofNat_Int
def yb9:=@Nat.mul_one
def yca:=@List.drop_length
def ycb:=@Bool.not_eq_true
def ycc:=@List.map_drop
def ycd:=@List.mem_map
def yce:=@List.map_set
def ycf:=@List.length_range
def ycg:=@List.size_toArray
def ych:=@Nat.min_eq_right
def yci:=@Nat.lt_succ_self
def ycj:=@Array.getElem?_toList
def yck:=@Bool.false_or
def ycl:=@not_not_intro
def ycm:=@List.length_filter_le
def ycn:=@Bool.and_false
def yco:=@Classical.byContradiction
def ycp:=@List.cons.injEq
def ycq:=@List.replicate_append_replicate
def ycr:=@of_decide_eq_true
def ycs:=@Prod.exists
def yct:=@Array.getElem?_map
def ycu:=@Nat.add_zero
def ycv:=@List.mem_append_right
def ycw:=@Nat.one_mul
def ycx:=@Nat.le_of_ble_eq_true
def ycy:=@List.idxOf_lt_length_of_mem
def ycz:=@ByteArray.extract_zero_size
def ycA:=@Nat.lt_trichotomy
def ycB:=@List.all_cons
def ycC:=@Nat.mod_lt
def ycD:=@Array.size_append
def ycE:=@List.getElem_take
def ycF:=@BitVec.getLsbD_ushiftRight
def ycG:=@List.mem_iff_getElem
def ycH:=@List.mem_or_eq_of_mem_set
def ycI:=@List.drop_drop
def ycJ:=@ByteArray.getElem_extract
def ycK:=@BitVec.toNat_and
def ycL:=@BitVec.toNat_xor
def ycM:=@Nat.mul_add
def ycN:=@beq_iff_eq
def ycO:=@Array.ext'
def ycP:=@Nat.pow_succ
def ycQ:=@List.getElem?_replicate
def ycR:=@Nat.div_add_mod
def ycS:=@List.take_left'
def ycT:=@List.drop_left'
def ycU:=@List.mem_append
def ycV:=@BitVec.toNat_ofNat
def ycW:=@List.set_cons_zero
def ycX:=@List.range_succ
def ycY:=@of_decide_eq_false
def ycZ:=@BitVec.getLsbD_and
def yc0:=@BitVec.eq_of_getLsbD_eq
def yc1:=@List.set_eq_take_append_cons_drop
def yc2:=@Bool.not_eq_true'
def yc3:=@Nat.or_lt_two_pow
def yc4:=@List.foldl_append
def yc5:=@List.map_id
def yc6:=@Decidable.not_not
def yc7:=@not_false_eq_true
def yc8:=@Bool.false_and
def yc9:=@List.drop_zero
def yda:=@List.getElem?_toArray
def ydb:=@List.filterMap_append
def ydc:=@decide_false
def ydd:=@List.exists_mem_of_length_pos
def yde:=@Option.bind_some
def ydf:=@List.not_mem_nil
def ydg:=@List.nodup_range
def ydh:=@Nat.mul_mod_left
def ydi:=@Int.natCast_ediv
def ydj:=@List.drop_append
def ydk:=@List.filter_cons
def ydl:=@Array.getElem?_range
def ydm:=@Array.size_replicate
def ydn:=@Bool.or_false
def ydo:=@Int.toNat_of_nonneg
def ydp:=@List.getD_cons_succ
def ydq:=@List.take_succ_cons
def ydr:=@BitVec.toNat_or
def yds:=@List.flatMap_append
def ydt:=@Array.toList_setIfInBounds
def ydu:=@List.perm_append_right_iff
def ydv:=@BitVec.toNat_ofInt
def ydw:=@Nat.and_lt_two_pow
def ydx:=@Nat.succ_mul
def ydy:=@Bool.true_or
def ydz:=@List.getElem_idxOf
def ydA:=@BitVec.getLsbD_xor
def ydB:=@UInt8.toNat_ofNat'
def ydC:=@Array.mapM_eq_mapM_toList
def ydD:=@Nat.add_mul_mod_self_left
def ydE:=@List.perm_append_left_iff
def ydF:=@List.drop_left
def ydG:=@ne_eq
def ydH:=@List.nodup_append
def ydI:=@Bool.and_self
def ydJ:=@Nat.mul_assoc
def ydK:=@Nat.pow_mul
def ydL:=@Int.le_refl
def ydM:=@decide_true
def ydN:=@List.sum_cons
def ydO:=@Option.getD_some
def ydP:=@decide_eq_decide
def ydQ:=@Nat.sub_zero
def ydR:=@BitVec.xor_zero
def ydS:=@Int.le_of_lt
def ydT:=@List.length_set
def ydU:=@Nat.div_le_self
def ydV:=@beq_false_of_ne
def ydW:=@Bool.and_assoc
def ydX:=@List.nodup_nil
def ydY:=@List.mem_range
def ydZ:=@Bool.not_false
def yd0:=@List.take_zero
def yd1:=@List.take_left
def yd2:=@and_true
namespace Go.Am
inductive D where
 |int (k:IntKind) (n:Int)
 |bool (b:Bool)
 |str (s:ByteArray)
 |nilI | nilP | nilM | nilF
 |iface (t:TypeId) (x:D)
 |list (xs:List D)
 |agg (cs:List D)
 |fn (f:FuncId)
 deriving Inhabited
inductive V where
 |d (x:D)
 |nilS
 |arr (id n:Nat)
 |sl (id tot off len:Nat)
 |emp
 |ptr (id off:Nat)
 |eptr (id n i off:Nat)
 |ro (cs:List D)
 |mp (id:Nat)
 |clo (f:FuncId) (caps:List V)
 |agg (cs:List V)
 |tup (vs:List V)
 |dead
 deriving Inhabited
inductive Obj where
 |box (cs:List V)
 |arr (sz:Nat) (xs:List D) (wm:Nat)
 |siter (s:ByteArray) (pos:Nat)
 deriving Inhabited
mutual
def D.eqb:D->D->Bool
 |.int k n,y=>match y with | .int k' n'=>decide (k=k') && decide (n=n') | _=>false
 |.bool b,y=>match y with | .bool b'=>b == b' | _=>false
 |.str b,y=>match y with | .str b'=>decide (b=b') | _=>false
 |.nilI,y=>match y with | .nilI=>true | _=>false
 |.nilP,y=>match y with | .nilP=>true | _=>false
 |.nilM,y=>match y with | .nilM=>true | _=>false
 |.nilF,y=>match y with | .nilF=>true | _=>false
 |.iface t x,y=>match y with | .iface t' x'=>decide (t=t') && D.eqb x x' | _=>false
 |.list l,y=>match y with | .list l'=>zyS l l' | _=>false
 |.agg l,y=>match y with | .agg l'=>zyS l l' | _=>false
 |.fn f,y=>match y with | .fn f'=>decide (f=f') | _=>false
def zyS:List D->List D->Bool
 |[],y=>match y with | []=>true | _=>false
 |x::xs,y=>match y with | y::ys=>D.eqb x y && zyS xs ys | _=>false
end
mutual
def D.eqb_eq: ∀ (x y:D),D.eqb x y=true↔x=y
 |.int k n,y=>by cases y <;> simp[D.eqb]
 |.bool b,y=>by cases y <;> simp[D.eqb]
 |.str b,y=>by cases y <;> simp[D.eqb]
 |.nilI,y=>by cases y <;> simp[D.eqb]
 |.nilP,y=>by cases y <;> simp[D.eqb]
 |.nilM,y=>by cases y <;> simp[D.eqb]
 |.nilF,y=>by cases y <;> simp[D.eqb]
 |.iface t x,y=>by cases y <;> simp[D.eqb,D.eqb_eq x]
 |.list l,y=>by cases y <;> simp[D.eqb,zjh l]
 |.agg l,y=>by cases y <;> simp[D.eqb,zjh l]
 |.fn f,y=>by cases y <;> simp[D.eqb]
def zjh: ∀ (x y:List D),zyS x y=true↔x=y
 |[],y=>by cases y <;> simp[zyS]
 |x::xs,y=>by cases y <;> simp[zyS,D.eqb_eq x,zjh xs]
end
mutual
def V.eqb:V->V->Bool
 |.d x,y=>match y with | .d x'=>D.eqb x x' | _=>false
 |.nilS,y=>match y with | .nilS=>true | _=>false
 |.arr i n,y=>match y with | .arr j m=>decide (i=j) && decide (n=m) | _=>false
 |.sl a b c d,y=>match y with | .sl a' b' c' d'=>decide (a=a') && decide (b=b') && decide (c=c') && decide (d=d') | _=>false
 |.emp,y=>match y with | .emp=>true | _=>false
 |.ptr i n,y=>match y with | .ptr j m=>decide (i=j) && decide (n=m) | _=>false
 |.eptr a b c d,y=>match y with | .eptr a' b' c' d'=>decide (a=a') && decide (b=b') && decide (c=c') && decide (d=d') | _=>false
 |.ro cs,y=>match y with | .ro cs'=>zyS cs cs' | _=>false
 |.mp i,y=>match y with | .mp j=>decide (i=j) | _=>false
 |.clo f l,y=>match y with | .clo f' l'=>decide (f=f') && zw8 l l' | _=>false
 |.agg l,y=>match y with | .agg l'=>zw8 l l' | _=>false
 |.tup l,y=>match y with | .tup l'=>zw8 l l' | _=>false
 |.dead,y=>match y with | .dead=>true | _=>false
def zw8:List V->List V->Bool
 |[],y=>match y with | []=>true | _=>false
 |x::xs,y=>match y with | y::ys=>V.eqb x y && zw8 xs ys | _=>false
end
mutual
def V.eqb_eq: ∀ (x y:V),V.eqb x y=true↔x=y
 |.d x,y=>by cases y <;> simp[V.eqb,D.eqb_eq]
 |.nilS,y=>by cases y <;> simp[V.eqb]
 |.arr _ _,y=>by cases y <;> simp[V.eqb]
 |.sl _ _ _ _,y=>by cases y <;> simp[V.eqb,and_assoc]
 |.emp,y=>by cases y <;> simp[V.eqb]
 |.ptr _ _,y=>by cases y <;> simp[V.eqb]
 |.eptr _ _ _ _,y=>by cases y <;> simp[V.eqb,and_assoc]
 |.ro _,y=>by cases y <;> simp[V.eqb,zjh]
 |.mp _,y=>by cases y <;> simp[V.eqb]
 |.clo f l,y=>by cases y <;> simp[V.eqb,zhv l]
 |.agg l,y=>by cases y <;> simp[V.eqb,zhv l]
 |.tup l,y=>by cases y <;> simp[V.eqb,zhv l]
 |.dead,y=>by cases y <;> simp[V.eqb]
def zhv: ∀ (x y:List V),zw8 x y=true↔x=y
 |[],y=>by cases y <;> simp[zw8]
 |x::xs,y=>by cases y <;> simp[zw8,V.eqb_eq x,zhv xs]
end
instance:DecidableEq D:=λx y=>decidable_of_iff _ (D.eqb_eq x y)
instance:DecidableEq V:=λx y=>decidable_of_iff _ (V.eqb_eq x y)
def Obj.eqb:Obj->Obj->Bool
 |.box cs,y=>match y with | .box cs'=>zw8 cs cs' | _=>false
 |.arr a b c,y=>match y with | .arr a' b' c'=>decide (a=a') && zyS b b' && decide (c=c') | _=>false
 |.siter a b,y=>match y with | .siter a' b'=>decide (a=a') && decide (b=b') | _=>false
def Obj.eqb_eq (x y:Obj):Obj.eqb x y=true↔x=y:=by
 cases x <;> cases y <;> simp[Obj.eqb,zhv,zjh,and_assoc]
instance:DecidableEq Obj:=λx y=>decidable_of_iff _ (Obj.eqb_eq x y)
inductive Out where
 |normal
 |exit (id:Nat)
 |ret
 deriving Inhabited
def D.cells:D->List D
 |.agg cs=>cs
 |x=>[x]
def V.cells:V->List V
 |.agg cs=>cs
 |.d (.agg cs)=>cs.map .d
 |v=>[v]
def V.cellOk:V->Bool
 |.d (.agg _)=>false
 |.agg _=>false
 |.tup _=>false
 |.dead=>false
 |_=>true
def V.plain:V->Bool
 |.clo _ _=>false
 |.agg _=>false
 |.tup _=>false
 |.dead=>false
 |_=>true
def V.storable (v:V):Bool:=v.cells.all V.cellOk
def constD?:Value->Option D
 |.int k n=>some (.int k n)
 |.bool b=>some (.bool b)
 |.string s=>some (.str s)
 |.pointer none=>some .nilP
 |.map none=>some .nilM
 |.nilFunc=>some .nilF
 |.nilIface=>some .nilI
 |.slice none 0 0=>some (.list [])
 |_=>none
def zaD:Value->V
 |.int k n=> .d (.int k n)
 |.bool b=> .d (.bool b)
 |.string s=> .d (.str s)
 |.pointer none=> .d .nilP
 |.map none=> .d .nilM
 |.nilFunc=> .d .nilF
 |.nilIface=> .d .nilI
 |.slice none 0 0=> .nilS
 |.tuple vs=>if vs.isEmpty then .tup [] else .dead
 |_=> .dead
def V.asD?:V->Option D
 |.d x=>some x
 |_=>none
def zcp (cs:List V):V:=
 match cs.mapM V.asD? with
 |some ds=> .d (.agg ds)
 |none=> .agg cs
def znl:Value->V
 |.agg cs=>if (cs.toList.map zaD).all V.cellOk then zcp (cs.toList.map zaD) else .dead
 |v=>zaD v
def agg? (P:Program) (t:TypeId):Option Bool:=
 match P.underlying t with
 |some (.struct _) | some (.array _ _)=>some true
 |some _=>some false
 |none=>none
def sizeOf? (P:Program) (t:TypeId):Option Nat:=(P.info? t).map (·.size)
def zero? (P:Program) (t:TypeId):Option Value:=(P.info? t).bind (·.zero)
def za3 (P:Program) (t:TypeId):Nat:=
 match P.underlying t with
 |some (.slice e)=>(sizeOf? P e).getD 0
 |_=>0
def cut (xs:List D) (l h:Nat):List D:=(xs.take h).drop l
def za6 (h:List Obj):V->Option (D × List Obj)
 |.d x=>some (x,h)
 |.nilS=>some (.list [],h)
 |.emp=>some (.list [],h)
 |.arr id n=>
  match h[id]? with
  |some (.arr sz xs _)=>if n=xs.length then some (.list xs,h.set id (.arr sz xs xs.length)) else none
  |_=>none
 |.sl id tot off len=>
  match h[id]? with
  |some (.arr sz xs _)=>if tot=xs.length then some (.list (cut xs off (off+len)),h.set id (.arr sz xs xs.length)) else none
  |_=>none
 |_=>none
def za4 (h:List Obj):List V->Option (List D × List Obj)
 |[]=>some ([],h)
 |v::vs=>
  match za6 h v with
  |some (x,h1)=>
   match za4 h1 vs with
   |some (xs,h2)=>some (x::xs,h2)
   |none=>none
  |none=>none
def zbE (h:List Obj):V->Option (D × List Obj)
 |.agg cs=>(za4 h cs).map λ(xs,h)=>(.agg xs,h)
 |v=>za6 h v
def zeu (h:List Obj):List V->Option (List D × List Obj)
 |[]=>some ([],h)
 |v::vs=>
  match zbE h v with
  |some (x,h1)=>
   match zeu h1 vs with
   |some (xs,h2)=>some (x::xs,h2)
   |none=>none
  |none=>none
def zuj (h:List Obj):V->Option D
 |.nilS=>some (.list [])
 |.arr id n=>
  match h[id]? with
  |some (.arr _ xs wm)=>if n=xs.length/\wm=xs.length then some (.list xs) else none
  |_=>none
 |_=>none
def zkP (h:List Obj):V->List Obj
 |.mp id=>
  match h[id]? with
  |some (.box cs)=>match za4 h cs with | some (_,h1)=>h1 | none=>h
  |_=>h
 |_=>h
def elems? (h:List Obj):V->Option (List D)
 |.d (.list xs)=>some xs
 |.nilS=>some []
 |.emp=>some []
 |.arr id n=>
  match h[id]? with
  |some (.arr _ xs _)=>if n=xs.length then some xs else none
  |_=>none
 |.sl id tot off len=>
  match h[id]? with
  |some (.arr _ xs _)=>if tot=xs.length then some (cut xs off (off+len)) else none
  |_=>none
 |.mp id=>
  match h[id]? with
  |some (.box cs)=>cs.mapM (zuj h)
  |_=>none
 |_=>none
def zbh (b:UInt8):D:= .int .u8 b.toNat
/-! ### operators -/
def zbq (op:BinOp) (k:IntKind) (x y:Int):Option D:=
 match op with
 |.add=>some (.int k (k.wrap (x+y)))
 |.sub=>some (.int k (k.wrap (x - y)))
 |.mul=>some (.int k (k.wrap (x*y)))
 |.quo=>if y=0 then none else some (.int k (k.wrap (x.tdiv y)))
 |.rem=>if y=0 then none else some (.int k (x.tmod y))
 |.and=>some (.int k (k.wrap (BitVec.ofInt k.bits x &&& BitVec.ofInt k.bits y).toNat))
 |.or=>some (.int k (k.wrap (BitVec.ofInt k.bits x ||| BitVec.ofInt k.bits y).toNat))
 |.xor=>some (.int k (k.wrap (BitVec.ofInt k.bits x ^^^ BitVec.ofInt k.bits y).toNat))
 |.andNot=>some (.int k (k.wrap (BitVec.ofInt k.bits x &&& ~~~ BitVec.ofInt k.bits y).toNat))
 |.eql=>some (.bool (x == y))
 |.neq=>some (.bool (x != y))
 |.lss=>some (.bool (x<y))
 |.leq=>some (.bool (x<=y))
 |.gtr=>some (.bool (x>y))
 |.geq=>some (.bool (x>=y))
 |_=>none
def zi0 (op:BinOp) (k:IntKind) (x y:Int):Option D:=
 if y<0 then none else
 match op with
 |.shl=>some (.int k (k.wrap (x*2 ^ (min y.toNat k.bits))))
 |.shr=>some (.int k (x.fdiv (2 ^ (min y.toNat k.bits))))
 |_=>none
def zuk (op:BinOp) (x y:ByteArray):Option D:=
 match op with
 |.add=>if x.size+y.size<2147483648 then some (.str (x++y)) else none
 |.eql=>some (.bool (x.toList == y.toList))
 |.neq=>some (.bool !(x.toList == y.toList))
 |.lss=>some (.bool (Op.bytesLess x.toList y.toList))
 |.leq=>some (.bool (Op.bytesLess x.toList y.toList || x.toList == y.toList))
 |.gtr=>some (.bool !(Op.bytesLess x.toList y.toList || x.toList == y.toList))
 |.geq=>some (.bool !(Op.bytesLess x.toList y.toList))
 |_=>none
def zd8 (P:Program) (t:TypeId):Option Nat:=
 match P.underlying t with
 |some (.int _)=>some 0
 |some .bool=>some 1
 |some .string=>some 2
 |_=>none
def zB0 (P:Program) (t:TypeId):Option (List (Nat × Nat)):=
 match P.underlying t with
 | some (.struct fs) => if !P.stoodInHeld t && fs.toList.all (λf => f.name != "_") then fs.toList.mapM λf => (zd8 P f.type).map λk => (f.offset, k) else none
 |_=>none
def zB1 (P:Program) (f:Field):Option (List (Nat × Nat)):=
 match zd8 P f.type with
 |some k=>some [(f.offset,k)]
 |none=>
  match zB0 P f.type,sizeOf? P f.type with
  |some l,some n=>if agg? P f.type=some true/\l.all (λp=>decide (p.1<n))=true then some (l.map λp=>(f.offset+p.1,p.2)) else none
  |_,_=>none
def znm (P:Program):List Field->Option (List (Nat × Nat))
 |[]=>some []
 |f::fs=>match zB1 P f,znm P fs with
  |some l,some l'=>some (l++l')
  |_,_=>none
def zce (P:Program) (t:TypeId):Option (List (Nat × Nat)):=
 match P.underlying t with
 | some (.struct fs) => if !P.stoodInHeld t && !P.eqGuardType P.depth t && fs.toList.all (λf => f.name != "_") then znm P fs.toList else none
 |_=>none
def zla (k:Nat) (x y:D):Option Bool:=
 match k,x,y with
 |0,.int k a,.int k' b=>if k=k' then some (a == b) else none
 |1,.bool a,.bool b=>some (a == b)
 |2,.str a,.str b=>some (a.toList == b.toList)
 |_,_,_=>none
def zb1:List (Nat × Nat)->List D->List D->Option Bool
 |[],_,_=>some true
 |(o,k)::r,xs,ys=>
  match xs[o]?,ys[o]? with
  |some x,some y=>
   match zla k x y,zb1 r xs ys with
   |some a,some b=>some (a && b)
   |_,_=>none
  |_,_=>none
def eqV (P:Program) (t:TypeId) (x y:V):Option Bool:=
 match P.underlying t,x,y with
 |some (.slice _),.nilS,.nilS=>some true
 |some (.slice _),.emp,.nilS=>some false
 |some (.slice _),.d (.list (_::_)),.nilS=>some false
 |some (.interface ms),.d .nilI,.d .nilI=>if ms.isEmpty then some true else none
 |some (.interface _),.d (.iface _ _),.d .nilI=>some false
 |some (.interface _),.d .nilI,.d (.iface _ _)=>some false
 |some (.pointer _),.ptr _ _,.d .nilP=>some false
 |some (.pointer _),.d .nilP,.d .nilP=>some true
 |some (.struct _),.d (.agg xs),.d (.agg ys)=>
  match zce P t with
  |some l=>zb1 l xs ys
  |none=>none
 |_,_,_=>none
def zEO (P:Program) (op:BinOp) (t:TypeId) (x y:V):Option D:=
 match x,y with
 |.d (.int k a),.d (.int k' b)=>
  match op with
  |.shl | .shr=>zi0 op k a b
  |_=>if k=k' then zbq op k a b else none
 |.d (.str a),.d (.str b)=>zuk op a b
 |.d (.bool a),.d (.bool b)=>
  match P.underlying t with
  |some .bool=>
   match op with
   |.eql=>some (.bool (a == b))
   |.neq=>some (.bool !(a == b))
   |_=>none
  |_=>none
 |x,y=>
  match op with
  |.eql=>(eqV P t x y).map .bool
  |.neq=>(eqV P t x y).map λb=> .bool !b
  |_=>none
def unD (op:UnOp) (x:V):Option D:=
 match op,x with
 |.neg,.d (.int k n)=>some (.int k (k.wrap (0 - n)))
 |.xor,.d (.int k n)=>some (.int k (k.wrap (BitVec.ofInt k.bits (if k.signed then -1 else k.max) ^^^ BitVec.ofInt k.bits n).toNat))
 |.not,.d (.bool b)=>some (.bool !b)
 |_,_=>none
def byteOf?:D->Option UInt8
 |.int .u8 n=>some (UInt8.ofNat n.toNat)
 |_=>none
def runeOf?:D->Option Int
 |.int .i32 n=>some n
 |_=>none
def zB2 (ns:List Int):ByteArray:=ns.foldl (λs n=>s++Utf8.encode n) ByteArray.empty
def zev (s:ByteArray):Nat->Nat->List Nat
 |0,_=>[]
 |b+1,i=>if i<s.size then (Utf8.decode s i).1::zev s b (i+(Utf8.decode s i).2) else []
def zeF (s:ByteArray):List Nat:=zev s s.size 0
def za1 (P:Program) (h:List Obj) (src dst:TypeId) (x:V):Option V:=
 match P.underlying src,P.underlying dst,x with
 |some _,some (.int k),.d (.int _ n)=>some (.d (.int k (k.wrap n)))
 |some .string,some .string,.d (.str s)=>some (.d (.str s))
 |some (.slice e),some .string,x=>
  match P.underlying e,elems? h x with
  |some (.int .u8),some xs=>(xs.mapM byteOf?).map λbs=> .d (.str ⟨bs.toArray⟩)
  |some (.int .i32),some xs=>(xs.mapM runeOf?).map λns=> .d (.str (zB2 ns))
  |_,_=>none
 |_,_,_=>none
def zhw (P:Program) (h:List Obj) (src dst:TypeId) (x:V):Option (V × List Obj):=
 match P.underlying src,P.underlying dst,x with
 |some .string,some (.slice e),.d (.str s)=>
  match P.underlying e,sizeOf? P e with
  |some (.int .u8),some 1=>if s.size<2147483648 then some (.arr h.length s.size,h++[.arr 1 (s.data.toList.map zbh) 0]) else none
  |some (.int .i32),some 1=>if s.size<2147483648 then some (.arr h.length (zeF s).length,h++[.arr 1 ((zeF s).map λ(n:Nat)=> .int .i32 n) 0]) else none
  |_,_=>none
 |some (.slice e),some (.slice _),.arr id n=>
  match P.underlying e,h[id]? with
  |some (.int .u8),some (.arr _ xs _)=>if src=dst/\n=xs.length/\0<n then some (.arr id n,h) else none
  |_,_=>none
 |_,_,x=>(za1 P h src dst x).map λv=>(v,h)
def zam (n:Nat):List D->Bool
 |[]=>true
 |x::xs=>x.cells.length == n && zam n xs
def natOf?:V->Option Nat
 |.d (.int _ n)=>if 0<=n then some n.toNat else none
 |_=>none
def bound? (d:Nat):Option V->Option Nat
 |some v=>natOf? v
 |none=>some d
def bounds? (n:Nat) (lo hi:Option V):Option (Nat × Nat):=
 match bound? n hi,bound? 0 lo with
 |some h,some l=>if l<=h/\h<=n then some (l,h) else none
 |_,_=>none
def zil (P:Program) (h:List Obj) (t:TypeId) (x:V) (lo hi mx:Option V):Option V:=
 match P.underlying t,x,mx with
 |some .string,.d (.str s),none=>
  match bounds? s.size lo hi with
  |some (l,u)=>some (.d (.str (s.extract l u)))
  |none=>none
 |some (.slice e),.d (.list xs),none=>
  match bounds? xs.length lo hi,sizeOf? P e with
  |some (l,u),some sz=>if l == 0 || zam sz xs then some (.d (.list (cut xs l u))) else none
  |_,_=>none
 |some (.slice e),.nilS,none=>
  match bounds? 0 lo hi,sizeOf? P e with
  |some _,some _=>some .nilS
  |_,_=>none
 |some (.slice e),.arr id n,none=>
  match h[id]?,sizeOf? P e with
  |some (.arr sz xs wm),some sz'=>
   if n=xs.length/\wm=n/\sz=sz' then
    match bounds? n lo hi with
    |some (l,u)=>some (.d (.list (cut xs l u)))
    |none=>none
   else if n=xs.length/\sz=sz' then
    match bounds? n lo hi with
    |some (l,u)=>some (.sl id n l (u - l))
    |none=>none
   else none
  |_,_=>none
 |some (.slice e),.sl id tot off len,none=>
  match h[id]?,sizeOf? P e with
  |some (.arr sz xs _),some sz'=>
   if tot=xs.length/\sz=sz' then
    match bounds? len lo hi with
    |some (l,u)=>some (.sl id tot (off+l) (u - l))
    |none=>none
   else none
  |_,_=>none
 |some (.slice e),.emp,none=>
  match bounds? 0 lo hi,sizeOf? P e with
  |some _,some _=>some .emp
  |_,_=>none
 |_,_,_=>none
def fieldOff? (P:Program) (t:TypeId) (f:Nat):Option (Nat × TypeId):=
 match P.underlying t with
 |some (.struct fs)=>
  match fs[f]? with
  |some x=>
   match sizeOf? P x.type with
   |some (_+1)=>some (x.offset,x.type)
   |_=>none
  |none=>none
 |_=>none
def zds (P:Program) (t:TypeId) (cs:List V) (off:Nat):Option V:=
 match agg? P t with
 |some true=>
  match sizeOf? P t with
  |some n=>if off+n<=cs.length then some (zcp ((cs.drop off).take n)) else none
  |none=>none
 |some false=>cs[off]?
 |none=>none
def zct (P:Program) (t:TypeId) (cs:List D) (off:Nat):Option V:=
 match agg? P t with
 |some true=>
  match sizeOf? P t with
  |some n=>if off+n<=cs.length then some (.d (.agg ((cs.drop off).take n))) else none
  |none=>none
 |some false=>(cs[off]?).map .d
 |none=>none
def zhx (P:Program) (h:List Obj) (t:TypeId) (a:V):Option V:=
 match a with
 |.ptr id off=>
  match h[id]? with
  |some (.box cs)=>zds P t cs off
  |_=>none
 |.eptr id n i off=>
  match h[id]? with
  |some (.arr _ xs _)=>
   if n=xs.length then
    match xs[i]? with
    |some x=>zct P t x.cells off
    |none=>none
   else none
  |_=>none
 |.ro cs=>zct P t cs 0
 |_=>none
def putCells {α:Type} (cs:List α) (off:Nat) (vs:List α):List α:=cs.take off++vs++cs.drop (off+vs.length)
def znn (P:Program) (h:List Obj) (t:TypeId) (a v:V):Option (List Obj):=
 match a with
 |.ptr id off=>
  match h[id]? with
  |some (.box cs)=>
   match sizeOf? P t with
   |some n=>if v.cells.length=n/\off+n<=cs.length/\v.storable then some (h.set id (.box (putCells cs off v.cells))) else none
   |none=>none
  |_=>none
 |.eptr id n i off=>
  match zbE h v,sizeOf? P t with
  |some (y,h1),some m=>
   match h1[id]? with
   |some (.arr sz xs wm)=>
    match xs[i]? with
    |some x=>
     if n=xs.length/\wm<=i/\y.cells.length=m/\off+m<=sz then
      if m=sz then some (h1.set id (.arr sz (xs.set i y) wm))
      else some (h1.set id (.arr sz (xs.set i (.agg (putCells x.cells off y.cells))) wm))
     else none
    |none=>none
   |_=>none
  |_,_=>none
 |_=>none
def zcf (P:Program) (h:List Obj) (t:TypeId) (x i:V):Option V:=
 match P.underlying t,i with
 |some (.slice e),.d (.int _ n)=>
  if 0<=n then
   match x with
   |.d (.list xs)=>
    match xs[n.toNat]?,sizeOf? P e with
    |some x,some sz=>if x.cells.length=sz then some (.ro x.cells) else none
    |_,_=>none
   |.arr id m=>
    match h[id]?,sizeOf? P e with
    |some (.arr sz xs _),some sz'=>if m=xs.length/\n.toNat<m/\sz=sz' then some (.eptr id m n.toNat 0) else none
    |_,_=>none
   |.sl id tot off len=>
    match h[id]?,sizeOf? P e with
    |some (.arr sz xs _),some sz'=>if tot=xs.length/\n.toNat<len/\sz=sz' then some (.eptr id tot (off+n.toNat) 0) else none
    |_,_=>none
   |.mp id=>
    match h[id]?,sizeOf? P e with
    |some (.box cs),some sz=>if n.toNat<cs.length/\sz=1 then some (.ptr id n.toNat) else none
    |_,_=>none
   |_=>none
  else none
 |some (.array len e),.d (.int _ n)=>
  if 0<=n/\n<len then
   match x,sizeOf? P e with
   |.ptr id off,some sz=>some (.ptr id (off+n.toNat*sz))
   |.ro cs,some sz=>some (.ro (cs.drop (n.toNat*sz)))
   |_,_=>none
  else none
 |_,_=>none
def zfh (P:Program) (t:TypeId) (x:V) (f:Nat):Option V:=
 match fieldOff? P t f with
 |some (o,_)=>
  match x with
  |.ptr id off=>some (.ptr id (off+o))
  |.eptr id n i off=>some (.eptr id n i (off+o))
  |.ro cs=>some (.ro (cs.drop o))
  |_=>none
 |none=>none
def zqO (P:Program) (t:TypeId) (x:V) (f:Nat):Option V:=
 match fieldOff? P t f with
 |some (o,ft)=>
  match x with
  |.d (.agg cs)=>zct P ft cs o
  |.agg cs=>zds P ft cs o
  |_=>none
 |none=>none
def zqP (P:Program) (t:TypeId) (x i:V):Option V:=
 match P.underlying t,x,i with
 |some .string,.d (.str s),.d (.int _ n)=>
  if 0<=n then (s[n.toNat]?).map λb=> .d (zbh b) else none
 |some (.array len e),x,.d (.int _ n)=>
  if 0<=n/\n<len then
   match x,sizeOf? P e with
   |.d (.agg cs),some sz=>zct P e cs (n.toNat*sz)
   |.agg cs,some sz=>zds P e cs (n.toNat*sz)
   |_,_=>none
  else none
 |_,_,_=>none
def zcq (zas:Nat->Option (Nat × Nat)) (cs:List V):List (Nat × V)->Option (List V)
 |[]=>some cs
 |(i,v)::zay=>
  match zas i with
  |some (off,size)=>if v.cells.length=size/\off+size<=cs.length/\v.storable then zcq zas (putCells cs off v.cells) zay else none
  |none=>none
def zbc (P:Program) (t:TypeId) (parts:List (Nat × V)):Option V:=
 match zero? P t,P.underlying t with
 |some z,some (.struct fs)=>
  if (z.cells.toList.map zaD).all V.cellOk && fs.toList.all (λf=>(sizeOf? P f.type).isSome) then (zcq (λi=>(fs[i]?).bind λf=>(sizeOf? P f.type).map λs=>(f.offset,s)) (z.cells.toList.map zaD) parts).map zcp else none
 |some z,some (.array _ e)=>
  match sizeOf? P e with
  |some s=>if (z.cells.toList.map zaD).all V.cellOk then (zcq (λi=>some (i*s,s)) (z.cells.toList.map zaD) parts).map zcp else none
  |none=>none
 |_,_=>none
def zeroD? (P:Program) (t:TypeId):Option D:=
 match zero? P t with
 |some (.agg cs)=>(cs.toList.mapM constD?).map .agg
 |some z=>constD? z
 |none=>none
def zhy:List (Nat × V)->Nat->Bool
 |[],_=>true
 |(i,_)::r,k=>i == k && zhy r (k+1)
def zb9 (P:Program) (h:List Obj) (t:TypeId) (len:Nat) (parts:List (Nat × V)):Option (V × List Obj):=
 match P.underlying t with
 |some (.slice e)=>
  match sizeOf? P e,zero? P e with
  |some sz,some _=>
   if 0<sz/\parts.length=len/\len*sz<=65536/\zhy parts 0 then
    match zeu h (parts.map (·.2)) with
    |some (xs,h1)=>if zam sz xs then some (.arr h1.length len,h1++[.arr sz xs 0]) else none
    |none=>none
   else none
  |_,_=>none
 |_=>none
def zdd (P:Program) (h:List Obj) (t:TypeId) (l c:V):Option (V × List Obj):=
 match P.underlying t,l,c with
 |some (.slice e),.d (.int _ n),.d (.int _ m)=>
  match P.info? e,zeroD? P e with
  |some i,some z=>
   if 0<=n/\n<=m/\m<2147483648/\i.bytes<=65536/\0<i.size/\z.cells.length=i.size then
    some (.arr h.length n.toNat,h++[.arr i.size (List.replicate n.toNat z) 0])
   else none
  |_,_=>none
 |_,_,_=>none
def zB3 (P:Program) (t:TypeId):Bool:=
 match P.underlying t with
 |some (.slice e)=>match P.underlying e with | some (.slice _)=>true | _=>false
 |_=>false
def zdO (P:Program) (h:List Obj) (t:TypeId) (l c:V):Option (V × List Obj):=
 match P.underlying t,l,c with
 |some (.slice e),.d (.int _ n),.d (.int _ m)=>
  match P.info? e with
  |some i=>if 0<=n/\n=m/\m<2147483648/\i.bytes<=65536/\i.size=1/\i.zero.map (·.cells.toList.map zaD)=some [.nilS] then some (.mp h.length,h++[.box (List.replicate n.toNat .nilS)]) else none
  |none=>none
 |_,_,_=>none
def zyT (P:Program) (h:List Obj) (t:TypeId) (x:V):Option Nat:=
 match P.underlying t,x with
 |some .string,.d (.str s)=>some s.size
 |some (.slice _),.d (.list xs)=>some xs.length
 |some (.slice _),.nilS=>some 0
 |some (.slice _),.arr id n=>
  match h[id]? with
  |some (.arr _ xs _)=>if n=xs.length then some n else none
  |_=>none
 |some (.slice _),.emp=>some 0
 |some (.slice _),.sl id tot _ len=>
  match h[id]? with
  |some (.arr _ xs _)=>if tot=xs.length then some len else none
  |_=>none
 |some (.slice _),.mp id=>match h[id]? with | some (.box cs)=>some cs.length | _=>none
 |some (.array n _),_=>some n
 |_,_=>none
def source? (P:Program) (h:List Obj) (t:TypeId) (x:V):Option (List D):=
 match P.underlying t,x with
 |some .string,.d (.str s)=>some (s.data.toList.map zbh)
 |some (.slice _),x=>elems? h x
 |_,_=>none
def zf3 (P:Program) (h:List Obj) (ts tx:TypeId) (s x:V):Option (V × List Obj):=
 match P.underlying ts with
 |some (.slice e)=>
  match P.info? e,source? P h tx x with
  |some i,some ys=>
   if i.zero.map (·.cells.size)=some i.size/\0<i.size/\i.bytes<=65536 then
    match s with
    |.nilS=>if ys.length<2147483648/\zam i.size ys then some (.arr h.length ys.length,h++[.arr i.size ys 0]) else none
    |.arr id n=>
     match h[id]? with
     |some (.arr sz xs wm)=>
      if n=xs.length/\sz=i.size/\n+ys.length<2147483648/\zam i.size ys then
       some (.arr id (n+ys.length),h.set id (.arr sz (xs++ys) wm))
      else none
     |_=>none
    |_=>none
   else none
  |_,_=>none
 |_=>none
def zno:V->Option (Nat × Nat × Nat × Nat)
 |.arr id n=>some (id,n,0,n)
 |.sl id tot off len=>some (id,tot,off,len)
 |_=>none
def zpp (h:List Obj) (id tot off:Nat) (ys:List D):Option (List Obj):=
 match h[id]? with
 |some (.arr sz xs wm)=>if tot=xs.length/\wm<=off/\off+ys.length<=xs.length/\zam sz ys then some (h.set id (.arr sz (putCells xs off ys) wm)) else none
 |_=>none
def zsb (P:Program) (h:List Obj) (td:TypeId) (dst src:V):Option (V × List Obj):=
 match P.underlying td with
 |some (.slice e)=>
  match zno dst,elems? h src,sizeOf? P e with
  |some (id,tot,off,len),some ys,some n=>
   match h[id]? with
   |some (.arr sz _ _)=>
    if sz=n/\zam n ys then (zpp h id tot off (ys.take len)).map λh=>(.d (.int .i64 (min ys.length len:Nat)),h) else none
   |_=>none
  |_,_,_=>none
 |_=>none
def zlb (P:Program) (h:List Obj) (t:TypeId) (x:V):Option (V × List Obj):=
 match P.underlying t with
 |some (.slice e)=>
  match zno x,zeroD? P e,sizeOf? P e with
  |some (id,tot,off,len),some z,some n=>
   match h[id]? with
   |some (.arr sz _ _)=>
    if sz=n/\z.cells.length=n then (zpp h id tot off (List.replicate len z)).map λh=>(.tup [],h) else none
   |_=>none
  |_,_,_=>none
 |_=>none
def min2:V->V->Option V
 |.d (.int k x),.d (.int k' y)=>if k=k' then some (.d (.int k (if y<x then y else x))) else none
 |_,_=>none
def max2:V->V->Option V
 |.d (.int k x),.d (.int k' y)=>if k=k' then some (.d (.int k (if y>x then y else x))) else none
 |_,_=>none
def zpq (f:V->V->Option V) (x:V):List V->Option V
 |[]=>some x
 |y::r=>match f x y with | some z=>zpq f z r | none=>none
def zbz (P:Program) (h:List Obj) (b:Builtin) (ts:List TypeId) (args:List V):Option (V × List Obj):=
 match b,ts,args with
 |.len,t::_,x::_=>(zyT P h t x).map λ(n:Nat)=>(.d (.int .i64 (n:Int)),h)
 |.append,ts::tx::_,s::x::_=>zf3 P (zkP h x) ts tx s x
 |.copy,td::_::_,d::x::_=>zsb P h td d x
 |.clear,t::_,x::_=>zlb P h t x
 |.min,_,x::zay=>(zpq min2 x zay).map λv=>(v,h)
 |.max,_,x::zay=>(zpq max2 x zay).map λv=>(v,h)
 |_,_,_=>none
def zmm (P:Program) (x:V) (asserted:TypeId) (commaOk:Bool):Option V:=
 match P.underlying asserted,x with
 |some (.interface _),_=>none
 |some _,.d .nilI=>if commaOk then (zeroD? P asserted).map λz=> .tup [.d z,.d (.bool false)] else none
 |some _,.d (.iface t v)=>
  if t=asserted then some (if commaOk then .tup [.d v,.d (.bool true)] else .d v)
  else if commaOk then (zeroD? P asserted).map λz=> .tup [.d z,.d (.bool false)] else none
 |_,_=>none
/-! ### ids:renaming,reaching -/
def V.ren0 (f:Nat->Option Nat):V->Option V
 |.arr id n=>(f id).map λi=> .arr i n
 |.ptr id o=>(f id).map λj=> .ptr j o
 |.sl id t o l=>(f id).map λi=> .sl i t o l
 |.emp=>some .emp
 |.eptr id n i o=>(f id).map λj=> .eptr j n i o
 |.mp id=>(f id).map λi=> .mp i
 |.d x=>some (.d x)
 |.nilS=>some .nilS
 |.ro cs=>some (.ro cs)
 |.dead=>some .dead
 |_=>none
def V.ren1 (f:Nat->Option Nat):V->Option V
 |.clo g caps=>(caps.mapM (V.ren0 f)).map (.clo g)
 |v=>V.ren0 f v
def V.ren2 (f:Nat->Option Nat):V->Option V
 |.agg cs=>(cs.mapM (V.ren1 f)).map .agg
 |v=>V.ren1 f v
def V.ren (f:Nat->Option Nat):V->Option V
 |.tup vs=>(vs.mapM (V.ren2 f)).map .tup
 |v=>V.ren2 f v
def Obj.ren (f:Nat->Option Nat):Obj->Option Obj
 |.box cs=>(cs.mapM (V.ren1 f)).map .box
 |o=>some o
def V.ids0:V->List Nat
 |.arr id _=>[id]
 |.sl id _ _ _=>[id]
 |.ptr id _=>[id]
 |.eptr id _ _ _=>[id]
 |.mp id=>[id]
 |_=>[]
def V.ids1:V->List Nat
 |.clo _ caps=>caps.flatMap V.ids0
 |v=>V.ids0 v
def V.ids2:V->List Nat
 |.agg cs=>cs.flatMap V.ids1
 |v=>V.ids1 v
def V.ids:V->List Nat
 |.tup vs=>vs.flatMap V.ids2
 |v=>V.ids2 v
def Obj.ids:Obj->List Nat
 |.box cs=>cs.flatMap V.ids1
 |_=>[]
def zaj (acc:List Nat):List Nat->List Nat
 |[]=>acc
 |i::r=>zaj (if acc.contains i then acc else acc++[i]) r
def zcu (h:List Obj) (i:Nat):List Nat:=
 match h[i]? with
 |some o=>o.ids
 |none=>[]
def zf4 (h:List Obj):Nat->Nat->List Nat->List Nat
 |0,_,acc=>acc
 |fuel+1,pos,acc=>
  match acc[pos]? with
  |none=>acc
  |some i=>zf4 h fuel (pos+1) (zaj acc (zcu h i))
def zbi (h:List Obj) (acc:List Nat):List Nat:=zf4 h (h.length+1) 0 acc
abbrev Slots:=List (Nat × V)
def zbF:Slots->Nat->V
 |[],_=> .dead
 |(i,v)::r,t=>if i=t then v else zbF r t
def zad (s:Slots) (h:List Obj):List (Nat × Nat)->Slots × List Obj
 |[]=>([],h)
 |(t,sz)::r=>
  if t<1000000 then
   match zbF s t,sz with
   |.nilS,sz+1=>let (s1,h1):=zad s (h++[.arr (sz+1) [] 0]) r;((t,.arr h.length 0)::s1,h1)
   |v,_=>let (s1,h1):=zad s h r;((t,v)::s1,h1)
  else
   match zbE h (zbF s (t - 1000000)) with
   |some (x,h0)=>let (s1,h1):=zad s h0 r;((t - 1000000,.d x)::s1,h1)
   |none=>zad s h r
def zas:List Nat->Nat->Option Nat
 |[],_=>none
 |x::xs,i=>if x=i then some 0 else (zas xs i).map (·+1)
def zaG (h:List Obj) (f:Nat->Option Nat) (ids:List Nat):Option (List Obj):=
 ids.mapM λi=>(h[i]?).bind (Obj.ren f)
def zaH (f:Nat->Option Nat) (s:Slots):Option Slots:=s.mapM λp=>(V.ren f p.2).map λv=>(p.1,v)
def zfO (k:Nat) (keep:List (Nat × Nat)) (s:Slots) (h:List Obj):Option (Slots × List Obj):=
 let p:=zad s h keep
 let ids:=zbi p.2 (zaj (List.range k) (p.1.flatMap λq=>q.2.ids))
 let f:=zas ids
 match zaH f p.1,zaG p.2 f ids with
 |some s2,some h2=>some (s2,h2)
 |_,_=>none
/-! ### calls -/
def zim (rf:Bool) (h:List Obj):V->Option (V × List Obj)
 |.arr a b=>if rf then some (.arr a b,h) else (zbE h (.arr a b)).map λ(x,h)=>(.d x,h)
 |.sl a b c e=>if rf then some (.sl a b c e,h) else (zbE h (.sl a b c e)).map λ(x,h)=>(.d x,h)
 |.ptr a b=>some (.ptr a b,h)
 |.mp a=>some (.mp a,h)
 |.clo f caps=>some (.clo f caps,h)
 |.ro cs=>some (.ro cs,h)
 |v=>(zbE h v).map λ(x,h)=>(.d x,h)
def zc8 (rf:Bool) (h:List Obj):List V->Option (List V × List Obj)
 |[]=>some ([],h)
 |v::vs=>
  match zim rf h v with
  |some (x,h1)=>
   match zc8 rf h1 vs with
   |some (xs,h2)=>some (x::xs,h2)
   |none=>none
  |none=>none
def zb0 {α:Type} (l:List α):List Nat->List α->List α
 |i::is,o::os=>zb0 (l.set i o) is os
 |_,_=>l
def zi1 (ids:List Nat) (n:Nat) (j:Nat):Option Nat:=
 match ids[j]? with
 |some i=>some i
 |none=>some (n+(j - ids.length))
def one:List V->V
 |[v]=>v
 |vs=> .tup vs
def callWith (rf:Bool) (run:FuncId->List V->List Obj->Option (List V × List Obj)) (f:FuncId) (args:List V) (h:List Obj):Option (V × List Obj):=
 match zc8 rf h args with
 |none=>none
 |some (as,h1)=>
  let ids:=zbi h1 (zaj [] (as.flatMap V.ids))
  let r:=zas ids
  match as.mapM (V.ren r),zaG h1 r ids with
  |some as2,some hin=>
   match run f as2 hin with
   |some (rets,hout)=>
    let g:=zi1 ids h1.length
    match rets.mapM (V.ren g),hout.mapM (Obj.ren g) with
    |some rets2,some hout2=>
     some (one rets2,zb0 h1 ids hout2++hout2.drop ids.length)
    |_,_=>none
   |none=>none
  |_,_=>none
def D.flat:D->Bool
 |.int _ _ | .bool _ | .str _ | .nilI | .nilP | .nilM | .nilF=>true
 |.iface _ x=>x.flat
 |_=>false
def zd9:List D->Bool
 |[]=>true
 |x::xs=>x.flat && zd9 xs
def V.flat:V->Bool
 |.d x=>x.flat
 |.nilS | .emp | .arr _ _ | .sl _ _ _ _ | .ptr _ _=>true
 |_=>false
def Obj.flat:Obj->Bool
 |.arr _ xs _=>zd9 xs
 |.box cs=>cs.all V.flat
 |_=>false
def zbj:V->Bool
 |.ptr _ _ | .mp _ | .clo _ _=>false
 |_=>true
def callThaw (run:FuncId->List V->List Obj->Option (List V × List Obj)) (f:FuncId) (args:List V) (h:List Obj):Option (V × List Obj):=
 match zc8 false h args with
 |none=>none
 |some (as,_)=>
  match run f as [] with
  |some (rets,hout)=>
   if args.all zbj && rets.all V.flat && hout.all Obj.flat then
    match rets.mapM (V.ren (zi1 [] h.length)),hout.mapM (Obj.ren (zi1 [] h.length)) with
    |some rets2,some hout2=>some (one rets2,h++hout2)
    |_,_=>none
   else none
  |none=>none
/-! ### the end of a call -/
def zji (P:Program) (h:List Obj):List V->List TypeId->List V × List Obj
 |[],_=>([],h)
 |v::vs,ts=>
  match v with
  |.nilS=>let p:=zji P (h++[.arr (za3 P (ts.headD 0)) [] 0]) vs ts.tail;(.arr h.length 0::p.1,p.2)
  |v=>let p:=zji P h vs ts.tail;(v::p.1,p.2)
def zgw (P:Program) (k:Nat) (ts:List TypeId) (vs:List V) (h:List Obj):Option (List V × List Obj):=
 let p:=zji P h vs ts
 let kept:=zbi p.2 (zaj (List.range k) (p.1.flatMap V.ids))
 let f:=zas kept
 match p.1.mapM (V.ren2 f),zaG p.2 f kept with
 |some ws,some h2=>some (ws,h2)
 |_,_=>none
/-! ### operations,code -/
def obind {α β:Type} (x:Option α) (f:α->Option β):Option β:=
 match x with
 |some a=>f a
 |none=>none
abbrev Run:=FuncId->List V->List Obj->Option (List V × List Obj)
abbrev zhz:=FuncId->Nat->List Nat
abbrev zhA:=FuncId->Nat->Option (List (Nat × Nat))
section
variable (P:Program) (G:Nat->Option (List D))
def ev (s:Slots):Operand->V
 |.tmp t=>zbF s t
 |.const v=>znl v
 |.global g=>match G g with | some cs=> .ro cs | none=> .dead
 |.func f=> .d (.fn f)
def zab (G:Nat->Option (List D)) (f:FuncId):Bool:=(G (1000000+f)).isSome
def zac (G:Nat->Option (List D)) (f:FuncId):Bool:=(G (3000000+f)).isSome
def ziN (G:Nat->Option (List D)) (f:FuncId):Bool:=(G (4000000+f)).isSome
def zaB:List Obj->List Obj->Prop
 |[],_=>True
 |.box cs::h,.box cs'::h'=>cs=cs'/\zaB h h'
 |.box _::_,_=>False
 |_::h,_::h'=>zaB h h'
 |_::h,[]=>zaB h []
def zpr:List Obj->List Obj->Bool
 |[],_=>true
 |.box cs::h,.box cs'::h'=>zw8 cs cs' && zpr h h'
 |.box _::_,_=>false
 |_::h,_::h'=>zpr h h'
 |_::h,[]=>zpr h []
def zjj: ∀ (h h':List Obj),zpr h h'=true↔zaB h h'
 |[],_=>by simp[zpr,zaB]
 |x::h,[]=>by cases x <;> simp[zpr,zaB,zjj h []]
 |x::h,y::h'=>by cases x <;> cases y <;> simp[zpr,zaB,zjj h h',zhv]
instance (h h':List Obj):Decidable (zaB h h'):=decidable_of_iff _ (zjj h h')
def zdP (h:List Obj) (x:Option (V × List Obj)):Option (V × List Obj):=
 match x with
 |some (v,h')=>if zaB h h' then some (v,h') else none
 |none=>none
def zsc (G:Nat->Option (List D)) (f:FuncId):Bool:=(G (4500000+f)).isSome
def V.isOwn:V->Bool
 |.arr _ _ | .sl _ _ _ _ | .nilS=>true
 |_=>false
def zba (h:List Obj):List V->List V × List Obj
 |[]=>([],h)
 |c::cs=>
  match (if c.isOwn then za6 h c else none) with
  |some (x,h1)=>let p:=zba h1 cs;(.d x::p.1,p.2)
  |none=>let p:=zba h cs;(c::p.1,p.2)
def zlc (h:List Obj) (id:Nat):List Obj:=
 match h[id]? with
 |some (.box cs)=>(zba h cs).2.set id (.box (zba h cs).1)
 |_=>h
def zgx:Nat->Nat->List Obj->List Obj
 |0,_,h=>h
 |m+1,n,h=>zgx m (n+1) (zlc h n)
def zps (h:List Obj) (x:Option (V × List Obj)):Option (V × List Obj):=x.map λq=>(q.1,zgx (q.2.length - h.length) h.length q.2)
def znp (G:Nat->Option (List D)) (f:FuncId):Bool:=(G (4700000+f)).isSome
def zld (h:List Obj):V->Option (V × List Obj)
 |.tup vs=>(zeu h vs).map λp=>(.tup (p.1.map .d),p.2)
 |v=>(zbE h v).map λp=>(.d p.1,p.2)
def zmn (x:Option (V × List Obj)):Option (V × List Obj):=x.bind λq=>zld q.2 q.1
def calleeV (s:Slots) (h:List Obj) (run:Run) (f:V) (args:List V):Option (V × List Obj):=
 match f with
 |.d (.fn g)=>if zac G g then (if ziN G g then zdP h (callWith (zab G g) run g args h) else if zsc G g then zps h (callWith (zab G g) run g args h) else if znp G g then zmn (callWith (zab G g) run g args h) else callThaw run g args h) else callWith (zab G g) run g args h
 |.clo g caps=>callWith (zab G g) run g (args++caps) h
 |_=>none
def zdQ (h:List Obj):V->Option (V × List Obj)
 |.ptr id o=>some (.ptr id o,h)
 |.eptr id n i o=>some (.eptr id n i o,h)
 |.ro cs=>some (.ro cs,h)
 |_=>none
def zi2 (i:Nat):V->Option V
 |.tup vs=>vs[i]?
 |_=>none
def zw9 (c a b:V):Option V:=
 match c with
 |.d (.bool t)=>some (if t then a else b)
 |_=>none
def znq (h:List Obj) (t:TypeId) (x:V):Option (V × List Obj):=
 match P.underlying t with
 |some (.interface _)=>none
 |some _=>(zbE h x).map λ(v,h)=>(.d (.iface t v),h)
 |none=>none
def zcv (h:List Obj) (t:TypeId):Option (V × List Obj):=
 match zero? P t with
 |some z=>if (z.cells.toList.map zaD).all V.cellOk then some (.ptr h.length 0,h++[.box (z.cells.toList.map zaD)]) else none
 |none=>none
def zgy (P:Program) (h:List Obj) (t:TypeId) (x:V):Option (V × List Obj):=
 match P.underlying t,x with
 |some .string,.d (.str s)=>some (.ptr h.length 0,h++[.siter s 0])
 |_,_=>none
def zgz (h:List Obj) (id:Nat) (s:ByteArray) (pos:Nat):V × List Obj:=
 if pos<s.size then (.tup [.d (.bool true),.d (.int .i64 pos),.d (.int .i32 (Utf8.decode s pos).1)],h.set id (.siter s (pos+(Utf8.decode s pos).2))) else (.tup [.d (.bool false)],h)
def zpt (h:List Obj) (x:V):Option (V × List Obj):=
 match x with
 |.ptr id 0=>
  match h[id]? with
  |some (.siter s pos)=>some (zgz h id s pos)
  |_=>none
 |_=>none
def zca (h:List Obj) (x:Option V):Option (V × List Obj):=x.map λv=>(v,h)
def opV (run:Run) (s:Slots) (h:List Obj) (o:Oper):Option (V × List Obj):=
 match o.op with
 |.move x=>some (ev G s x,h)
 |.assign x=>some (ev G s x,h)
 |.pick c a b=>zca h (zw9 (ev G s c) (ev G s a) (ev G s b))
 |.alloc t=>zcv P h t
 |.box _ x=>if (ev G s x).storable then some (.ptr h.length 0,h++[.box (ev G s x).cells]) else none
 |.build t parts=>zca h (zbc P t (parts.toList.map λp=>(p.1,ev G s p.2)))
 |.buildSlice t len parts=>zb9 P h t len (parts.toList.map λp=>(p.1,ev G s p.2))
 |.load t a=>zca h (zhx P h t (ev G s a))
 |.store t a x=>(znn P h t (ev G s a) (ev G s x)).map λh=>(.tup [],h)
 |.nilCheck x=>zdQ h (ev G s x)
 |.binOp op t x y _=>zca h ((zEO P op t (ev G s x) (ev G s y)).map .d)
 |.unOp op _ x=>zca h ((unD op (ev G s x)).map .d)
 |.convert src dst x=>zhw P h src dst (ev G s x)
 |.makeInterface t x=>znq P h t (ev G s x)
 |.makeFunc (.func f) first captured=>if first.isEmpty && (captured.toList.map (ev G s)).all V.plain then some (.clo f (captured.toList.map (ev G s)),h) else none
 |.makeSlice t l c=>if zB3 P t then zdO P h t (ev G s l) (ev G s c) else zdd P h t (ev G s l) (ev G s c)
 |.slice t x lo hi mx=>zca h (zil P h t (ev G s x) (lo.map (ev G s)) (hi.map (ev G s)) (mx.map (ev G s)))
 |.fieldAddr t x f=>zca h (zfh P t (ev G s x) f)
 |.field t x f=>zca h (zqO P t (ev G s x) f)
 |.indexAddr t x i=>zca h (zcf P h t (ev G s x) (ev G s i))
 |.index t x i=>zca h (zqP P t (ev G s x) (ev G s i))
 |.typeAssert x _ asserted ok=>zca h (zmm P (ev G s x) asserted ok)
 |.extract x i=>zca h (zi2 i (ev G s x))
 |.range t x=>zgy P h t (ev G s x)
 |.next x true=>zpt h (ev G s x)
 |.call c=>
  match c.callee with
  |.builtin b=>zbz P h b c.argTypes.toList (c.args.toList.map (ev G s))
  |.invoke _ _=>none
  |.value f=>calleeV G s h run (ev G s f) (c.args.toList.map (ev G s))
 |_=>none
def zf5 (s:Slots) (dst:Option Tmp) (v:V):Slots:=
 match dst with
 |some d=>(d,v)::s
 |none=>s
def zbk (ops:List Oper) (s:Slots):Option (Nat × Bool)->Option Bool
 |none=>some true
 |some (j,want)=>
  match (ops[j]?).bind (·.dst) with
  |none=>some false
  |some d=>
   match zbF s d with
   |.d (.bool b)=>some (b == want)
   |.tup []=>some false
   |_=>none
def zxa:List V->Bool
 |[]=>true
 |.d _::r=>zxa r
 |_=>false
def zfi (run:Run) (f:FuncId) (args:List V):Option V:=
 if zxa args then obind (run f args []) λq=>if q.2.isEmpty && zxa q.1 then some (one q.1) else none else none
def blindV (run:Run) (hv:List Obj) (s:Slots) (o:Oper):Option V:=
 match o.op with
 |.load t a=>zhx P hv t (ev G s a)
 |.slice t x lo hi mx=>zil P hv t (ev G s x) (lo.map (ev G s)) (hi.map (ev G s)) (mx.map (ev G s))
 |.indexAddr t x i=>zcf P hv t (ev G s x) (ev G s i)
 |.convert src dst x=>za1 P hv src dst (ev G s x)
 |.call c=>
  match c.callee,c.argTypes.toList,c.args.toList.map (ev G s) with
  |.builtin .len,t::_,x::_=>(zyT P hv t x).map λ(n:Nat)=> .d (.int .i64 (n:Int))
  |.value f,_,args=>match ev G s f with | .d (.fn g)=>if zac G g then none else zfi run g args | _=>none
  |_,_,_=>none
 |_=>none
def zul (hv:List Obj):V->Bool
 |.ptr id _=>match hv[id]? with | some (.siter _ _)=>true | _=>false
 |_=>false
def znj (hv:List Obj) (s:Slots) (o:Oper):Bool:=
 match o.op with
 |.call c=>
  match c.callee with
  |.value f=>match ev G s f with | .d (.fn g)=>(!zab G g && (c.args.toList.map (ev G s)).all zbj) || (zac G g && ziN G g) | _=>false
  |_=>true
 |.store _ a _=>zul hv (ev G s a)
 |_=>true
def zqQ:List Obj->List Obj
 |[]=>[]
 |.box cs::h=> .box cs::zqQ h
 |_::h=> .siter ⟨#[]⟩ 0::zqQ h
def zmo (o:Oper):Bool:=match o.op with | .store .. =>true | _=>false
def znr (hint:List Nat) (i:Nat) (o:Oper):Bool:=(zmo o && !hint.contains (2000+i)) || hint.contains (1000+i)
def za2 (hint:List Nat) (i:Nat) (o:Oper):Bool:=znr hint i o && hint.all λj=>decide (j<i) || decide (1000<=j)
def opsV (run:Run) (all:List Oper) (hint:List Nat) (hv:List Obj):Nat->List Oper->Slots->List Obj->Option (Slots × List Obj)
 |_,[],s,h=>some (s,h)
 |i,o::zay,s,h=>
  obind (zbk all s o.guard) λw=>
  if w then
   obind (if hint.contains i then zca h (blindV P G run hv s o) else if hint.isEmpty || hv.isEmpty || znj G hv s o || za2 hint i o then opV P G run s h o else none) λp=>
   opsV run all hint hv (i+1) zay (zf5 s o.dst p.1) p.2
  else opsV run all hint hv (i+1) zay (zf5 s o.dst (.tup [])) h
def zbG (h:List Obj):Slots->List Obj
 |[]=>h
 |(_,v)::s=>
  match za6 h v with
  |some (_,h1)=>zbG h1 s
  |none=>zbG h s
abbrev Res:=Option (Out × Slots × List Obj)
def onNormal (x:Res) (f:Slots->List Obj->Res):Res:=
 match x with
 |some (.normal,s,h)=>f s h
 |r=>r
def iter (body:Slots->List Obj->Res):Nat->Slots->List Obj->Res
 |0,_,_=>none
 |n+1,s,h=>onNormal (body s h) (iter body n)
def branch (c:V) (x y:Res):Res:=
 match c with
 |.d (.bool t)=>if t then x else y
 |_=>none
def leave (id:Nat):Res->Res
 |some (.exit i,s,h)=>if i=id then some (.normal,s,h) else some (.exit i,s,h)
 |r=>r
def zea (ops:List Oper):Bool:=ops.any λo=>match o.op with | .slice .. =>true | _=>false
def zeb (ops:List Oper):Bool:=ops.any λo=>match o.op with | .store .. =>true | _=>false
def zgA:List Oper->Tmp->Tmp
 |[],t=>t
 |o::r,t=>
  match o.op with
  |.move (.tmp x)=>if o.dst=some t then x else zgA r t
  |_=>zgA r t
def zjk (all:List Oper):List Oper->List Tmp
 |[]=>[]
 |o::r=>
  match o.op with
  |.slice _ (.tmp t) _ _ _=>zgA all t::zjk all r
  |_=>zjk all r
def zbH (ops:List Oper):List Nat->Bool
 |[]=>false
 |i::r=>(match ops[i]? with | some o=>(match o.op with | .load .. =>true | _=>false) | none=>false) || zbH ops r
def zns (s:Slots):List Nat->List Obj->List Obj
 |[],l=>l
 |m::r,l=>if 3000<=m then (match zbF s (m - 3000) with | .ptr id _=>(zns s r l).set id (.siter ⟨#[]⟩ 0) | _=>zns s r l) else zns s r l
def zle (ops:List Oper) (hint:List Nat) (s:Slots) (h:List Obj):List Obj:=if zbH ops hint then zns s hint (zqQ h) else []
def zjl (run:Run) (rf:Bool) (hint:List Nat) (ops:List Oper) (draw:Bool) (s:Slots) (h:List Obj):Res:=
 obind (some (if zea ops && !zeb ops && !rf then zbG h ((zjk ops ops).map λt=>(t,zbF s t)) else h)) λh=>obind (opsV P G run ops (if draw then hint else []) (zle ops (if draw then hint else []) s h) 0 ops s h) λp=>some (.normal,p.1,p.2)
variable (K:zhA) (S:zhz)
def zcg (n:Nat):Nat->List D->List (List D)
 |0,_=>[]
 |_+1,[]=>[]
 |m+1,x::xs=>(x::xs).take n::zcg n m ((x::xs).drop n)
def zdR (G:Nat->Option (List D)) (f:FuncId):Bool:=(G (5000000+f)).isSome
def zkQ (h:List Obj):V->Option (Nat × Nat × List (List D))
 |.clo g [.ptr i 0,.ptr j 0]=>
  if zdR G g then
   match h[i]?,h[j]? with
   |some (.box [.d (.list xs)]),some (.box [.d (.int .i64 n)])=>if 0<n/\n<=65536/\xs.length<=65536/\zam 1 xs then some (i,j,zcg n.toNat xs.length xs) else none
   |_,_=>none
  else none
 |_=>none
def zf6 (k:Nat) (keep:List (Nat × Nat)) (s:Slots) (h:List Obj) (i:Nat):Bool:=
 let p:=zad s h keep
 !(zbi p.2 (zaj (List.range k) (p.1.flatMap λq=>q.2.ids))).contains i
def rangeV (round:List D->Slots->List Obj->Res) (k:Nat) (keep:List (Nat × Nat)):List (List D)->Slots->List Obj->Res
 |[],s,h=>some (.normal,s,h)
 |x::xs,s,h=>
  match round x s h with
  |some (.normal,_,h1)=>obind (zfO k keep s h1) λp=>rangeV round k keep xs p.1 p.2
  |some (o,_,h1)=>some (o,s,h1)
  |none=>none
def codeV (run:Run) (loopI:(Slots->List Obj->Res)->Slots->List Obj->Res) (F:FuncId):Nat->Nat->Code->Slots->List Obj->Res
 |_,_,.skip,s,h=>some (.normal,s,h)
 |_,_,.region id ops draw,s,h=>zjl P G run (zab G F) (S F id) ops.toList draw s h
 |k,b,.seq x y,s,h=>onNormal (codeV run loopI F k b x s h) λs1 h1=>codeV run loopI F k b y s1 h1
 |k,b,.cond c x y,s,h=>branch (ev G s c) (codeV run loopI F k b x s h) (codeV run loopI F k b y s h)
 |k,_,.block id c,s,h=>leave id (codeV run loopI F k id c s h)
 |k,b,.loop c,s,h=>
  match K F b with
  |some keep=>loopI (λs h=>obind (zfO k keep s h) λp=>codeV run loopI F k b c p.1 p.2) s h
  |none=>loopI (λs h=>codeV run loopI F k b c s h) s h
 |_,_,.exit id,s,h=>some (.exit id,s,h)
 |_,_,.ret,s,h=>some (.ret,s,h)
 |k,b,.rangeFunc f ps as c,s,h=>
  match K F b,ps.toList with
  |some keep,[p]=>
   obind (zkQ G h (ev G s f)) λit=>if zf6 k keep s h it.1 && zf6 k keep s h it.2.1 then
    obind (zfO k keep s h) λq=>rangeV (λx s h=>
     match codeV run loopI F h.length b as ((p,.d (.list x))::s) h with
     |some (.normal,s1,h1)=>codeV run loopI F h.length b c s1 h1
     |_=>none) k keep it.2.2 q.1 q.2
    else none
  |_,_=>none
 |_,_,_,_,_=>none
def zsd (s:Slots) (h:List Obj):List ResultVar->Option (List V)
 |[]=>some []
 |.tmp t::r=>(zsd s h r).map λvs=>zbF s t::vs
 |.cell a t::r=>
  match zhx P h t (zbF s a),zsd s h r with
  |some v,some vs=>some (v::vs)
  |_,_=>none
def zao:Nat->List V->Slots
 |_,[]=>[]
 |i,v::vs=>(i,v)::zao (i+1) vs
def zB4 (fn:Func) (k:Nat) (r:Res):Option (List V × List Obj):=
 match r with
 |some (.normal,s,h) | some (.ret,s,h)=>obind (zsd P s h fn.results.toList) λvs=>zgw P k fn.resultTypes.toList vs h
 |_=>none
end
/-! ### what is asked of a function's text,once -/
inductive Class where
 |still | reads | loud
 deriving DecidableEq
def zdB (P:Program) (o:Oper):Class:=match o.op with
 |.move _ | .assign _ | .pick .. | .nilCheck _ | .binOp .. | .unOp .. | .fieldAddr .. | .extract .. | .field .. | .index .. | .typeAssert .. | .build .. => .still
 |.load .. | .indexAddr .. | .slice .. => .reads
 |.convert _ dst _=>match P.underlying dst with | some (.int _)=> .still | some .string=> .reads | _=> .loud
 |.call c=>match c.callee with | .builtin .len=> .reads | .builtin .min=> .still | .builtin .max=> .still | _=> .loud
 |_=> .loud
def zb2:List Oper->List (List Nat)->List (List Nat)
 |[],acc=>acc
 |o::r,acc=>zb2 r (acc++[o.after.toList.foldl (λs e=>if Region.binds .any e then zaj (zaj s [e.on]) (acc.getD e.on []) else s) []])
def zfj (P:Program) (hint:List Nat) (ops:List Oper) (i j:Nat):Bool:=
 match ops[i]?,ops[j]? with
 |some x,some y=>
  x.apart ops.toArray y &&
  (match zdB P x,zdB P y with
   |.still,_=>true
   |_,.still=>true
   |.reads,.reads=>true
   |.reads,.loud=>hint.contains i
   |.loud,.reads=>hint.contains j
   |.loud,.loud=>hint.contains i || hint.contains j) &&
  (!zbH ops hint || !((znr hint i x && hint.contains j) || (znr hint j y && hint.contains i)))
 |_,_=>false
def zfP (P:Program) (hint:List Nat) (ops:List Oper):Bool:=
 let anc:=zb2 ops []
 decide (ops.length<=1000) && (List.range ops.length).all λj=>
  (anc.getD j []).all (·<j) && (List.range j).all λi=>(anc.getD j []).contains i || zfj P hint ops i j
def ziO:Code->Bool
 |.seq x y=>ziO x && ziO y
 |.cond _ x y=>ziO x && ziO y
 |.block _ c=>ziO c
 |.loop c=>ziO c
 |.rangeFunc .. =>false
 |_=>true
def codeOk (P:Program) (hint:Nat->List Nat) (nt:Nat):Code->Bool
 |.region id ops draw=>ops.toList.all (λo=>match o.dst with | some d=>d<nt | none=>true) && (!draw || zfP P (hint id) ops.toList)
 |.seq x y=>codeOk P hint nt x && codeOk P hint nt y
 |.cond _ x y=>codeOk P hint nt x && codeOk P hint nt y
 |.block _ c=>codeOk P hint nt c
 |.loop c=>codeOk P hint nt c
 |.rangeFunc _ ps x y=>ziO x && ziO y && ps.toList.all (·<nt) && codeOk P hint nt x && codeOk P hint nt y
 |_=>true
section
variable (P:Program) (G:Nat->Option (List D)) (K:zhA) (S:zhz)
def bodyV (run:Run) (loopI:(Slots->List Obj->Res)->Slots->List Obj->Res) (f:FuncId) (args:List V) (h:List Obj):Option (List V × List Obj):=
 match P.funcs[f]? with
 |none=>none
 |some fn=>
  match fn.body with
  |none=>none
  |some c=>
   if codeOk P (S f) fn.ntmps c && args.length <= fn.ntmps && !(fn.name == "runtime.NumGoroutine") then
    zB4 P fn h.length (codeV P G K S run loopI f h.length 0 c (zao 0 args) h)
   else none
def splits (G:Nat->Option (List D)) (f:FuncId):Bool:=(G (2000000+f)).isSome
def joinV (x y:Option (List V × List Obj)):Option (List V × List Obj):=if x=y then x else none
def zcw (G:Nat->Option (List D)) (f:FuncId):Nat:=
 if splits G f=true then (if (G (4800000+f)).isSome=true then 1 else if (G (4900000+f)).isSome=true then 2 else 0) else 0
def znt:List D->Option (List Int)
 |[]=>some []
 |.int .i64 n::xs=>(znt xs).map (n:: ·)
 |_=>none
def znu:List D->Option (List (List UInt8))
 |[]=>some []
 |.str s::xs=>(znu xs).map (s.data.toList:: ·)
 |_=>none
def strD (l:List UInt8):D:= .str ⟨l.toArray⟩
def zum {α:Type} (le:α->α->Bool) (x:α):List α->List α
 |[]=>[x]
 |y::r=>if le x y then x::y::r else y::zum le x r
def zec {α:Type} (le:α->α->Bool):List α->List α
 |[]=>[]
 |x::l=>zum le x (zec le l)
def leI (x y:Int):Bool:=decide (x<=y)
def leS (x y:List UInt8):Bool:=decide (x<=y)
def znv (k:Nat) (args:List V) (h:List Obj):Option (List V × List Obj):=
 match args,h with
 |[.arr 0 n],[.arr 1 xs 0]=>
  if n=xs.length/\n<=65536 then
   if k=1 then (znt xs).map λzs=>([],[.arr 1 ((zec leI zs).map λn=> .int .i64 n) 0])
   else (znu xs).map λzs=>([],[.arr 1 ((zec leS zs).map strD) 0])
  else none
 |_,_=>none
def bodyS (run:Run) (loopI:(Slots->List Obj->Res)->Slots->List Obj->Res) (f:FuncId) (args:List V) (h:List Obj):Option (List V × List Obj):=
 if zcw G f≠0 then znv (zcw G f) args h else
 match splits G f,args with
 |true,.d (.list [])::zay=>joinV (bodyV P G K S run loopI f (.nilS::zay) h) (bodyV P G K S run loopI f (.emp::zay) h)
 |_,_=>bodyV P G K S run loopI f args h
end
end Go.Am
namespace Go.Am
def D.isCell:D->Bool
 |.agg _=>false
 |_=>true
def flat (xs:List D):List D:=xs.flatMap D.cells
inductive Rep (M:Nat->Nat->Prop) (w:World):Value->D->Prop
 |int (k:IntKind) (n:Int):Rep M w (.int k n) (.int k n)
 |bool (b:Bool):Rep M w (.bool b) (.bool b)
 |str (s:ByteArray):Rep M w (.string s) (.str s)
 |nilI:Rep M w .nilIface .nilI
 |nilP:Rep M w (.pointer none) .nilP
 |nilM:Rep M w (.map none) .nilM
 |nilF:Rep M w .nilFunc .nilF
 |fn (f:FuncId):Rep M w (.func (.func f) #[] #[]) (.fn f)
 |iface (t:TypeId) (v:Value) (x:D):Rep M w v x->Rep M w (.iface t v) (.iface t x)
 |nil (a:Option Addr) (c:Nat):(a=none->c=0)->Rep M w (.slice a 0 c) (.list [])
 |list (b off len cap sz:Nat) (xs:List D) (vs:Nat->Value):len=xs.length->len<=cap->(∀x∈xs,x.cells.length=sz)->
   (∀ (j:Nat) (c:D),(flat xs)[j]? =some c->w.cell? ⟨b,off+j,none⟩=some (vs j)/\ ¬ M b (off+j)/\c.isCell=true)->
   (∀ (j:Nat) (c:D),(flat xs)[j]? =some c->Rep M w (vs j) c)->Rep M w (.slice (some ⟨b,off,none⟩) len cap) (.list xs)
 |agg (cs:Array Value) (ds:List D) (vs:Nat->Value):cs.size=ds.length->(∀ (j:Nat) (c:D),ds[j]? =some c->cs[j]? =some (vs j)/\c.isCell=true)->
   (∀ (j:Nat) (c:D),ds[j]? =some c->Rep M w (vs j) c)->Rep M w (.agg cs) (.agg ds)
def Rep.mono {M M':Nat->Nat->Prop} {w w':World}
 (hm: ∀ (b j:Nat) (v:Value),¬ M b j->w.cell? ⟨b,j,none⟩=some v->w'.cell? ⟨b,j,none⟩=some v/\ ¬ M' b j) {v:Value} {x:D} (h:Rep M w v x):Rep M' w' v x:=by
 induction h with
 |int k n=>exact .int k n
 |bool b=>exact .bool b
 |str s=>exact .str s
 |nilI=>exact .nilI
 |nilP=>exact .nilP
 |nilM=>exact .nilM
 |nilF=>exact .nilF
 |fn f=>exact .fn f
 |iface t v x _ ih=>exact .iface t v x ih
 |nil a c hc=>exact .nil a c hc
 |list b off len cap sz xs vs h1 h2 h3 h4 _ ih=>
  exact .list b off len cap sz xs vs h1 h2 h3 (λj c hj=>⟨(hm _ _ _ (h4 j c hj).2.1 (h4 j c hj).1).1,(hm _ _ _ (h4 j c hj).2.1 (h4 j c hj).1).2,(h4 j c hj).2.2⟩) ih
 |agg cs ds vs h1 h2 _ ih=>exact .agg cs ds vs h1 h2 ih
def Rep.one {M:Nat->Nat->Prop} {w:World} {v:Value} {x:D} (h:Rep M w v x) (hx:x.isCell=true):v.oneCell'=true:=by
 cases h <;> simp_all [Value.oneCell',D.isCell]
def Value.cells_one {v:Value} (h:v.oneCell'=true):v.cells= #[v]:=by
 cases v <;> simp_all [Value.oneCell',Value.cells]
def D.cells_one {x:D} (h:x.isCell=true):x.cells=[x]:=by
 cases x <;> simp_all [D.isCell,D.cells]
def Rep.cells {M:Nat->Nat->Prop} {w:World} {v:Value} {x:D} (h:Rep M w v x):
 v.cells.size=x.cells.length/\ ∀ (j:Nat) (c:D),x.cells[j]? =some c-> ∃u,v.cells[j]? =some u/\Rep M w u c/\c.isCell=true:=by
 by_cases hx:x.isCell=true
 ·rw[D.cells_one hx,Value.cells_one (h.one hx)]
  refine⟨rfl,λj c hj=> ?_⟩
  cases j with
  |zero=>simp at hj;subst hj;exact⟨v,by simp,h,hx⟩
  |succ j=>simp at hj
 ·cases h with
  |agg cs ds vs h1 h2 h3=>exact⟨h1,λj c hj=>⟨vs j,(h2 j c hj).1,h3 j c hj,(h2 j c hj).2⟩⟩
  |_=>simp[D.isCell]at hx
/-! ### objects -/
abbrev zdi:=Option (Nat × Nat)
abbrev Places:=List zdi
def Obj.mutAt:Obj->Nat->Prop
 |.arr sz _ wm,j=>wm*sz<=j
 |_,_=>True
def Obj.isArr:Obj->Bool
 |.arr .. =>true
 |_=>false
def Mut (X:Nat->Nat->Prop) (ρ:Places) (h:List Obj) (b j:Nat):Prop:=X b j\/ ∃ (id c:Nat) (o:Obj),ρ[id]? =some (some (b,c))/\h[id]? =some o/\o.mutAt j
def zdC (v:Value):Prop:= ∃a l c,v= .slice a l c
def zFS (v:Value):Prop:= ∃a,v= .pointer (some a)
def zin (r:zdi) (n:Nat) (v:Value):Prop:=
 match r with
 |some (b,cap)=>v= .slice (some ⟨b,0,none⟩) n cap
 |none=>n=0/\ ∃a,v= .slice a 0 0
def zse (r:zdi) (sz off len:Nat) (v:Value):Prop:= ∃ (a:Option Addr) (c:Nat),v= .slice a len c/\len<=c/\(a=none->c=0)/\(0<len-> ∃b cap,r=some (b,cap)/\a=some ⟨b,off*sz,none⟩)
def zhB (M:Nat->Nat->Prop) (w:World) (v:Value) (cs:List D):Prop:=
 ∃ (b o:Nat) (vs:Nat->Value),v= .pointer (some ⟨b,o,none⟩)/\(∀ (j:Nat) (c:D),cs[j]? =some c->w.cell? ⟨b,o+j,none⟩=some (vs j)/\ ¬ M b (o+j)/\c.isCell=true)/\
  ∀ (j:Nat) (c:D),cs[j]? =some c->Rep M w (vs j) c
def V0 (X:Nat->Nat->Prop) (ρ:Places) (h:List Obj) (w:World) (v:Value):V->Prop
 |.d x=>Rep (Mut X ρ h) w v x
 |.nilS=>v= .slice none 0 0
 |.arr id n=>zdC v/\ ∃ (sz:Nat) (xs:List D) (wm:Nat) (r:zdi),h[id]? =some (.arr sz xs wm)/\ρ[id]? =some r/\n<=xs.length/\(n=xs.length->zin r n v)
 |.sl id tot off len=>zdC v/\ ∃ (sz:Nat) (xs:List D) (wm:Nat) (r:zdi),h[id]? =some (.arr sz xs wm)/\ρ[id]? =some r/\tot<=xs.length/\(tot=xs.length->off+len<=tot/\zse r sz off len v)
 |.emp=> ∃ (a:Addr) (c:Nat),v= .slice (some a) 0 c
 |.ptr id off=> ∃ (o:Obj) (b c:Nat),h[id]? =some o/\o.isArr=false/\ρ[id]? =some (some (b,c))/\v= .pointer (some ⟨b,off,none⟩)
 |.eptr id n i off=>zFS v/\ ∃ (sz:Nat) (xs:List D) (wm:Nat) (r:zdi),h[id]? =some (.arr sz xs wm)/\ρ[id]? =some r/\n<=xs.length/\
   (n=xs.length-> ∃ (b c:Nat),r=some (b,c)/\v= .pointer (some ⟨b,i*sz+off,none⟩))
 |.ro cs=>zhB (Mut X ρ h) w v cs
 |.mp id=> ∃ (cs:List V) (b c:Nat),h[id]? =some (.box cs)/\ρ[id]? =some (some (b,c))/\v= .slice (some ⟨b,0,none⟩) cs.length cs.length
 |.dead=>True
 |_=>False
def V1 (X:Nat->Nat->Prop) (ρ:Places) (h:List Obj) (w:World) (v:Value):V->Prop
 |.clo f caps=> ∃us:Array Value,v= .func (.func f) #[] us/\us.size=caps.length/\ ∀ (j:Nat) (c:V),caps[j]? =some c-> ∃u,us[j]? =some u/\V0 X ρ h w u c
 |x=>V0 X ρ h w v x
def V2 (X:Nat->Nat->Prop) (ρ:Places) (h:List Obj) (w:World) (v:Value):V->Prop
 |.agg cs=> ∃us:Array Value,v= .agg us/\us.size=cs.length/\ ∀ (j:Nat) (c:V),cs[j]? =some c-> ∃u,us[j]? =some u/\V1 X ρ h w u c/\c.cellOk=true
 |x=>V1 X ρ h w v x
def zat (X:Nat->Nat->Prop) (ρ:Places) (h:List Obj) (w:World) (v:Value):V->Prop
 |.tup vs=> ∃us:Array Value,v= .tuple us/\us.size=vs.length/\ ∀ (j:Nat) (c:V),vs[j]? =some c-> ∃u,us[j]? =some u/\V2 X ρ h w u c
 |x=>V2 X ρ h w v x
def zbA (w:World) (b n:Nat):Prop:= ∀ (cs:Array Value) (t:TypeId) (fz:Nat × Nat),w.heap[b]? =some (.cells cs t fz)->n<=fz.1\/fz.1=fz.2
def zbA.get {w:World} {b n:Nat} (h:zbA w b n) (j:Nat) (hj:j<n):w.frozen? ⟨b,j,none⟩=false:=by
 unfold World.frozen?;split
 ·rename_i cs t lo hi e
  have:=h cs t (lo,hi) e;simp only at this;simp only[ybU,yaS];omega
 ·rfl
def ObjRel (X:Nat->Nat->Prop) (ρ:Places) (h:List Obj) (w:World) (r:zdi):Obj->Prop
 |.box cs=> ∃ (b c:Nat) (cur:Array Value) (e:TypeId) (fz:Nat × Nat),r=some (b,c)/\w.heap[b]? =some (.cells cur e fz)/\cur.size=cs.length/\zbA w b cur.size/\
   ∀ (j:Nat) (x:V),cs[j]? =some x-> ∃u,cur[j]? =some u/\V1 X ρ h w u x/\x.cellOk=true
 |.arr sz xs wm=>wm<=xs.length/\
  match r with
  |none=>xs=[]
  |some (b,cap)=> ∃ (cur:Array Value) (e:TypeId) (fz:Nat × Nat),w.heap[b]? =some (.cells cur e fz)/\cur.size=cap*sz/\xs.length<=cap/\cap<=maxLen/\0<sz/\(∀x∈xs,x.cells.length=sz)/\
   zbA w b cur.size/\ ∀ (j:Nat) (x:D),(flat xs)[j]? =some x-> ∃u,cur[j]? =some u/\Rep (Mut X ρ h) w u x/\x.isCell=true
 |.siter s pos=> ∃ (b c:Nat),r=some (b,c)/\w.heap[b]? =some (.stringIter s pos)
structure HRel (X:Nat->Nat->Prop) (ρ:Places) (h:List Obj) (w:World):Prop where
 len:ρ.length=h.length
 obj: ∀ (id:Nat) (o:Obj),h[id]? =some o-> ∃r,ρ[id]? =some r/\ObjRel X ρ h w r o
 xlt: ∀b j,X b j->b<w.heap.size
 xown: ∀ (id b c j:Nat),ρ[id]? =some (some (b,c))-> ¬ X b j
 inj: ∀ (i j b c c':Nat),ρ[i]? =some (some (b,c))->ρ[j]? =some (some (b,c'))->i=j
structure Fr (X:Nat->Nat->Prop) (ρ:Places) (h:List Obj) (w:World) (ρ':Places) (h':List Obj) (w':World):Prop where
 os:w'.os=w.os
 tape:w'.tape=w.tape
 output:w'.output=w.output
 size:w.heap.size<=w'.heap.size
 block: ∀b,b<w.heap.size->(∀ (id c:Nat),ρ[id]? ≠some (some (b,c)))->w'.heap[b]? =w.heap[b]? /\ ∀ (id c:Nat),ρ'[id]? ≠some (some (b,c))
 imm: ∀b j v,¬ Mut X ρ h b j->w.cell? ⟨b,j,none⟩=some v->w'.cell? ⟨b,j,none⟩=some v/\ ¬ Mut X ρ' h' b j
def zbl (o o':Obj) (r r':zdi):Prop:=
 match o,o' with
 |.box cs,.box cs'=>cs'.length=cs.length/\r'=r
 |.arr sz xs _,.arr sz' xs' _=>sz'=sz/\xs.length<=xs'.length/\(xs'.length=xs.length->r'=r)
 |.siter ..,.siter .. =>r'=r
 |_,_=>False
def Evo (k:Nat) (ρ:Places) (h:List Obj) (ρ':Places) (h':List Obj):Prop:=
 ∀ (id:Nat) (o:Obj) (r:zdi),id<k->h[id]? =some o->ρ[id]? =some r-> ∃o' r',h'[id]? =some o'/\ρ'[id]? =some r'/\zbl o o' r r'
section
variable {X:Nat->Nat->Prop} {ρ ρ' ρ'':Places} {h h' h'':List Obj} {w w' w'':World}
def Fr.refl (ρ:Places) (h:List Obj) (w:World):Fr X ρ h w ρ h w:=⟨rfl,rfl,rfl,yaj _,λ_ _ hb=>⟨rfl,hb⟩,λ_ _ _ hm hc=>⟨hc,hm⟩⟩
def Fr.trans (a:Fr X ρ h w ρ' h' w') (b:Fr X ρ' h' w' ρ'' h'' w''):Fr X ρ h w ρ'' h'' w'' where
 os:=b.os.trans a.os
 tape:=b.tape.trans a.tape
 output:=b.output.trans a.output
 size:=ya4 a.size b.size
 block:=λx hx hn=>by
  obtain⟨h1,h2⟩:=a.block x hx hn;obtain⟨h3,h4⟩:=b.block x (ybp hx a.size) h2;exact⟨h3.trans h1,h4⟩
 imm:=λx j v hm hc=>by
  obtain⟨h1,h2⟩:=a.imm x j v hm hc;exact b.imm x j v h2 h1
def zbl.refl (o:Obj) (r:zdi):zbl o o r r:=by
 cases o <;> simp[zbl]
def zbl.trans {o o' o'':Obj} {r r' r'':zdi} (a:zbl o o' r r') (b:zbl o' o'' r' r''):zbl o o'' r r'':=by
 cases o <;> cases o' <;> simp only[zbl]at a <;> cases o'' <;> simp only[zbl]at b ⊢
 ·exact⟨b.1.trans a.1,b.2.trans a.2⟩
 ·obtain⟨a1,a2,a3⟩:=a
  obtain⟨b1,b2,b3⟩:=b;exact⟨b1.trans a1,ya4 a2 b2,λe=>(b3 (by omega)).trans (a3 (by omega))⟩
 ·exact b.trans a
def Evo.refl (k:Nat) (ρ:Places) (h:List Obj):Evo k ρ h ρ h:=λ_ o r _ ho hr=>⟨o,r,ho,hr,zbl.refl o r⟩
def Evo.trans {k:Nat} (a:Evo k ρ h ρ' h') (b:Evo k ρ' h' ρ'' h''):Evo k ρ h ρ'' h'':=λid o r hk ho hr=>by
 obtain⟨o',r',h1,h2,h3⟩:=a id o r hk ho hr;obtain⟨o'',r'',h4,h5,h6⟩:=b id o' r' hk h1 h2;exact⟨o'',r'',h4,h5,h3.trans h6⟩
def Evo.mono {k k':Nat} (a:Evo k ρ h ρ' h') (hk:k'<=k):Evo k' ρ h ρ' h':=λid o r hi=>a id o r (ybp hi hk)
def lt_of_getElem? {α:Type} {l:List α} {i:Nat} {x:α} (h:l[i]? =some x):i<l.length:=by
 rcases ybL i l.length with h' | h'
 ·exact h'
 ·simp[yaL h']at h
def zhB.mono {M M':Nat->Nat->Prop} (hm: ∀ (b j:Nat) (v:Value),¬ M b j->w.cell? ⟨b,j,none⟩=some v->w'.cell? ⟨b,j,none⟩=some v/\ ¬ M' b j) {v:Value} {cs:List D}
 (h:zhB M w v cs):zhB M' w' v cs:=by
 obtain⟨b,o,vs,h1,h2,h3⟩:=h;exact⟨b,o,vs,h1,λj c hj=>⟨(hm _ _ _ (h2 j c hj).2.1 (h2 j c hj).1).1,(hm _ _ _ (h2 j c hj).2.1 (h2 j c hj).1).2,(h2 j c hj).2.2⟩,λj c hj=>(h3 j c hj).mono hm⟩
abbrev Imm (X:Nat->Nat->Prop) (ρ:Places) (h:List Obj) (w:World) (ρ':Places) (h':List Obj) (w':World):Prop:= ∀b j v,¬ Mut X ρ h b j->w.cell? ⟨b,j,none⟩=some v->w'.cell? ⟨b,j,none⟩=some v/\ ¬ Mut X ρ' h' b j
def V0.imono (hf:Imm X ρ h w ρ' h' w') (he:Evo h.length ρ h ρ' h') {v:Value} {x:V} (hv:V0 X ρ h w v x):V0 X ρ' h' w' v x:=by
 cases x with
 |d x=>exact Rep.mono hf hv
 |nilS=>exact hv
 |arr id n=>
  obtain⟨hs,sz,xs,wm,r,h1,h2,h3,h4⟩:=hv;obtain⟨o',r',h5,h6,h7⟩:=he id _ r (lt_of_getElem? h1) h1 h2;cases o' <;> simp only[zbl]at h7;rename_i sz' xs' wm';obtain⟨e1,e2,e3⟩:=h7;refine⟨hs,sz',xs',wm',r',h5,h6,ya4 h3 e2,λe=> ?_⟩
  rw[e3 (by omega)]
  exact h4 (by omega)
 |sl id tot off len=>
  obtain⟨hs,sz,xs,wm,r,h1,h2,h3,h4⟩:=hv;obtain⟨o',r',h5,h6,h7⟩:=he id _ r (lt_of_getElem? h1) h1 h2;cases o' <;> simp only[zbl]at h7;rename_i sz' xs' wm';obtain⟨e1,e2,e3⟩:=h7;refine⟨hs,sz',xs',wm',r',h5,h6,ya4 h3 e2,λe=> ?_⟩
  rw[e3 (by omega),e1]
  exact h4 (by omega)
 |emp=>exact hv
 |ptr id off=>
  obtain⟨o,b,c,h1,h2,h3,h4⟩:=hv;obtain⟨o',r',h5,h6,h7⟩:=he id _ _ (lt_of_getElem? h1) h1 h3;refine⟨o',b,c,h5, ?_, ?_,h4⟩
  ·cases o <;> cases o' <;> simp_all [zbl,Obj.isArr]
  ·cases o <;> cases o' <;> simp_all [zbl,Obj.isArr]
 |eptr id n i off=>
  obtain⟨hs,sz,xs,wm,r,h1,h2,h3,h4⟩:=hv;obtain⟨o',r',h5,h6,h7⟩:=he id _ r (lt_of_getElem? h1) h1 h2;cases o' <;> simp only[zbl]at h7;rename_i sz' xs' wm';obtain⟨e1,e2,e3⟩:=h7;refine⟨hs,sz',xs',wm',r',h5,h6,ya4 h3 e2,λe=> ?_⟩
  rw[e3 (by omega),e1]
  exact h4 (by omega)
 |ro cs=>exact zhB.mono hf hv
 |dead=>trivial
 |mp id=>
  obtain⟨cs,b,c,h1,h2,h3⟩:=hv;obtain⟨o',r',h5,h6,h7⟩:=he id _ _ (lt_of_getElem? h1) h1 h2;cases o' <;> simp only[zbl]at h7;obtain⟨e1,rfl⟩:=h7;exact⟨_,b,c,h5,h6,by rw[e1];exact h3⟩
 |clo _ _=>exact hv
 |agg _=>exact hv
 |tup _=>exact hv
def V1.imono (hf:Imm X ρ h w ρ' h' w') (he:Evo h.length ρ h ρ' h') {v:Value} {x:V} (hv:V1 X ρ h w v x):V1 X ρ' h' w' v x:=by
 cases x with
 |clo f caps=>
  obtain⟨us,h1,h2,h3⟩:=hv;exact⟨us,h1,h2,λj c hj=>let ⟨u,h4,h5⟩:=h3 j c hj;⟨u,h4,h5.imono hf he⟩⟩
 |d x=>exact V0.imono (v:=v) (x:= .d x) hf he hv
 |nilS=>exact V0.imono (v:=v) (x:= .nilS) hf he hv
 |arr a b=>exact V0.imono (v:=v) (x:= .arr a b) hf he hv
 |sl a b c d=>exact V0.imono (v:=v) (x:= .sl a b c d) hf he hv
 |emp=>exact V0.imono (v:=v) (x:= .emp) hf he hv
 |ptr a b=>exact V0.imono (v:=v) (x:= .ptr a b) hf he hv
 |eptr a b c d=>exact V0.imono (v:=v) (x:= .eptr a b c d) hf he hv
 |ro a=>exact V0.imono (v:=v) (x:= .ro a) hf he hv
 |mp a=>exact V0.imono (v:=v) (x:= .mp a) hf he hv
 |agg a=>exact V0.imono (v:=v) (x:= .agg a) hf he hv
 |tup a=>exact V0.imono (v:=v) (x:= .tup a) hf he hv
 |dead=>trivial
def V2.imono (hf:Imm X ρ h w ρ' h' w') (he:Evo h.length ρ h ρ' h') {v:Value} {x:V} (hv:V2 X ρ h w v x):V2 X ρ' h' w' v x:=by
 cases x with
 |agg cs=>
  obtain⟨us,h1,h2,h3⟩:=hv;exact⟨us,h1,h2,λj c hj=>let ⟨u,h4,h5,h6⟩:=h3 j c hj;⟨u,h4,h5.imono hf he,h6⟩⟩
 |d x=>exact V1.imono (v:=v) (x:= .d x) hf he hv
 |nilS=>exact V1.imono (v:=v) (x:= .nilS) hf he hv
 |arr a b=>exact V1.imono (v:=v) (x:= .arr a b) hf he hv
 |sl a b c d=>exact V1.imono (v:=v) (x:= .sl a b c d) hf he hv
 |emp=>exact V1.imono (v:=v) (x:= .emp) hf he hv
 |ptr a b=>exact V1.imono (v:=v) (x:= .ptr a b) hf he hv
 |eptr a b c d=>exact V1.imono (v:=v) (x:= .eptr a b c d) hf he hv
 |ro a=>exact V1.imono (v:=v) (x:= .ro a) hf he hv
 |mp a=>exact V1.imono (v:=v) (x:= .mp a) hf he hv
 |clo a b=>exact V1.imono (v:=v) (x:= .clo a b) hf he hv
 |tup a=>exact V1.imono (v:=v) (x:= .tup a) hf he hv
 |dead=>trivial
def zat.imono (hf:Imm X ρ h w ρ' h' w') (he:Evo h.length ρ h ρ' h') {v:Value} {x:V} (hv:zat X ρ h w v x):zat X ρ' h' w' v x:=by
 cases x with
 |clo f caps=>exact V2.imono (v:=v) (x:= .clo f caps) hf he hv
 |tup vs=>
  obtain⟨us,h1,h2,h3⟩:=hv;exact⟨us,h1,h2,λj c hj=>let ⟨u,h4,h5⟩:=h3 j c hj;⟨u,h4,h5.imono hf he⟩⟩
 |d x=>exact V2.imono (v:=v) (x:= .d x) hf he hv
 |nilS=>exact V2.imono (v:=v) (x:= .nilS) hf he hv
 |arr a b=>exact V2.imono (v:=v) (x:= .arr a b) hf he hv
 |sl a b c d=>exact V2.imono (v:=v) (x:= .sl a b c d) hf he hv
 |emp=>exact V2.imono (v:=v) (x:= .emp) hf he hv
 |ptr a b=>exact V2.imono (v:=v) (x:= .ptr a b) hf he hv
 |eptr a b c d=>exact V2.imono (v:=v) (x:= .eptr a b c d) hf he hv
 |ro a=>exact V2.imono (v:=v) (x:= .ro a) hf he hv
 |mp a=>exact V2.imono (v:=v) (x:= .mp a) hf he hv
 |agg a=>exact V2.imono (v:=v) (x:= .agg a) hf he hv
 |dead=>trivial
def V0.mono (hf:Fr X ρ h w ρ' h' w') (he:Evo h.length ρ h ρ' h') {v:Value} {x:V} (hv:V0 X ρ h w v x):V0 X ρ' h' w' v x:=hv.imono hf.imm he
def V1.mono (hf:Fr X ρ h w ρ' h' w') (he:Evo h.length ρ h ρ' h') {v:Value} {x:V} (hv:V1 X ρ h w v x):V1 X ρ' h' w' v x:=hv.imono hf.imm he
def V2.mono (hf:Fr X ρ h w ρ' h' w') (he:Evo h.length ρ h ρ' h') {v:Value} {x:V} (hv:V2 X ρ h w v x):V2 X ρ' h' w' v x:=hv.imono hf.imm he
def zat.mono (hf:Fr X ρ h w ρ' h' w') (he:Evo h.length ρ h ρ' h') {v:Value} {x:V} (hv:zat X ρ h w v x):zat X ρ' h' w' v x:=zat.imono hf.imm he hv
def HRel.lt (H:HRel X ρ h w) {id b c:Nat} (hr:ρ[id]? =some (some (b,c))):b<w.heap.size:=by
 have hid:id<h.length:=by rw[<- H.len];exact lt_of_getElem? hr
 obtain⟨r,h1,h2⟩:=H.obj id h[id] (by simp[hid])
 rw[hr]at h1;cases h1;generalize h[id]=o at h2;have: ∃x,w.heap[b]? =some x:=by
  cases o with
  |box cs=>obtain⟨b',c',cur,e,fz,e1,e2,_⟩:=h2;cases e1;exact⟨_,e2⟩
  |arr sz xs wm=>obtain⟨_,cur,e,fz,e2,_⟩:=h2;exact⟨_,e2⟩
  |siter s pos=>obtain⟨b',c',e1,e2⟩:=h2;cases e1;exact⟨_,e2⟩
 obtain⟨x,hx⟩:=this;exact (Array.getElem?_eq_some_iff.1 hx).1
def ObjRel.ikept (hf:Imm X ρ h w ρ' h' w') (he:Evo h.length ρ h ρ' h') {r:zdi} {o:Obj} (ho:ObjRel X ρ h w r o)
 (hb: ∀b c,r=some (b,c)->w'.heap[b]? =w.heap[b]?):ObjRel X ρ' h' w' r o:=by
 have hu: ∀b c n,r=some (b,c)->zbA w b n->zbA w' b n:=λb c n e hu cs t fz he=>hu cs t fz ((hb b c e).symm.trans he)
 cases o with
 |box cs=>
  obtain⟨b,c,cur,e,fz,h1,h2,h3,h4,h5⟩:=ho;exact⟨b,c,cur,e,fz,h1,(hb b c h1).trans h2,h3,hu b c _ h1 h4,λj x hj=>let ⟨u,h6,h7,h8⟩:=h5 j x hj;⟨u,h6,h7.imono hf he,h8⟩⟩
 |arr sz xs wm=>
  refine⟨ho.1, ?_⟩;cases r with
  |none=>exact ho.2
  |some p=>
   obtain⟨b,c⟩:=p;obtain⟨_,cur,e,fz,h1,h2,h3,h4,h5,h6,h7,h8⟩:=ho;exact⟨cur,e,fz,(hb b c rfl).trans h1,h2,h3,h4,h5,h6,hu b c _ rfl h7,λj x hj=>let ⟨u,h9,h10,h11⟩:=h8 j x hj;⟨u,h9,h10.mono hf,h11⟩⟩
 |siter s pos=>
  obtain⟨b,c,h1,h2⟩:=ho;exact⟨b,c,h1,(hb b c h1).trans h2⟩
def ObjRel.kept (hf:Fr X ρ h w ρ' h' w') (he:Evo h.length ρ h ρ' h') {r:zdi} {o:Obj} (ho:ObjRel X ρ h w r o)
 (hb: ∀b c,r=some (b,c)->w'.heap[b]? =w.heap[b]?):ObjRel X ρ' h' w' r o:=ho.ikept hf.imm he hb
end
end Go.Am
namespace Go.Am
section
variable {X:Nat->Nat->Prop} {ρ:Places} {h:List Obj} {w w':World}
def getElem?_push {α:Type} (l:List α) (x:α) (i:Nat) (y:α):(l++[x])[i]? =some y↔(l[i]? =some y\/(i=l.length/\x=y)):=by
 rcases ycA i l.length with hi | hi | hi
 ·rw[yar hi]
  constructor
  ·exact .inl
  ·rintro (e | ⟨e,_⟩)
   ·exact e
   ·omega
 ·subst hi
  simp
 ·rw[yaL (by simp;omega),yaL (by omega)]
  constructor
  ·intro e;cases e
  ·rintro (e | ⟨e,_⟩)
   ·cases e
   ·omega
def zeG (H:HRel X ρ h w) (o:Obj) (r:zdi) (hos:w'.os=w.os) (htape:w'.tape=w.tape) (hout:w'.output=w.output) (hsize:w.heap.size<=w'.heap.size)
 (hblk: ∀b,b<w.heap.size->w'.heap[b]? =w.heap[b]?) (hr: ∀b c,r=some (b,c)->w.heap.size<=b)
 (hobj:Fr X ρ h w (ρ++[r]) (h++[o]) w'->Evo h.length ρ h (ρ++[r]) (h++[o])->ObjRel X (ρ++[r]) (h++[o]) w' r o):
 HRel X (ρ++[r]) (h++[o]) w'/\Fr X ρ h w (ρ++[r]) (h++[o]) w'/\Evo h.length ρ h (ρ++[r]) (h++[o]):=by
 have hf:Fr X ρ h w (ρ++[r]) (h++[o]) w':=by
  refine⟨hos,htape,hout,hsize,λb hb hn=>⟨hblk b hb,λid c hid=> ?_⟩,λb j v hm hc=> ?_⟩
  ·rcases (getElem?_push _ _ _ _).1 hid with e | ⟨_,e⟩
   ·exact hn id c e
   ·have:=hr b c e;omega
  ·have hb:b<w.heap.size:=World.block_lt_of_cell? w ⟨b,j,none⟩ hc
   refine⟨(World.cell?_of_block (a:=⟨b,j,none⟩) (hblk b hb)).trans hc, ?_⟩
   rintro (hX | ⟨id,c,o',h1,h2,h3⟩)
   ·exact hm (.inl hX)
   rcases (getElem?_push _ _ _ _).1 h1 with e | ⟨_,e⟩
   ·have hid:id<h.length:=by rw[<- H.len];exact lt_of_getElem? e
    rw[yar hid]at h2;exact hm (.inr ⟨id,c,o',e,h2,h3⟩)
   ·have:=hr b c e;omega
 have he:Evo h.length ρ h (ρ++[r]) (h++[o]):=λid o' r' hid ho' hr'=>
  ⟨o',r',(getElem?_push _ _ _ _).2 (.inl ho'),(getElem?_push _ _ _ _).2 (.inl hr'),zbl.refl _ _⟩
 refine⟨⟨by simp[H.len],λid o' ho'=> ?_,λb j hX=>ybp (H.xlt b j hX) hsize,λid b c j hid=> ?_,λi j b c c' hi hj=> ?_⟩,hf,he⟩
 ·rcases (getElem?_push _ _ _ _).1 ho' with e | ⟨e1,e2⟩
  ·obtain⟨r',h1,h2⟩:=H.obj id o' e
   refine⟨r',(getElem?_push _ _ _ _).2 (.inl h1),h2.kept hf he λb c hbc=>hblk b (H.lt (hbc ▸ h1))⟩
  ·subst e2
   exact⟨r,(getElem?_push _ _ _ _).2 (.inr ⟨by rw[e1,H.len],rfl⟩),hobj hf he⟩
 ·rcases (getElem?_push _ _ _ _).1 hid with e | ⟨_,e⟩
  ·exact H.xown id b c j e
  ·intro hX
   have h1:=H.xlt b j hX;have h2:=hr b c e;omega
 ·rcases (getElem?_push _ _ _ _).1 hi with e | ⟨e1,e2⟩ <;> rcases (getElem?_push _ _ _ _).1 hj with f | ⟨f1,f2⟩
  ·exact H.inj i j b c c' e f
  ·have:=hr b c' f2;have:=H.lt e;omega
  ·have:=hr b c e2;have:=H.lt f;omega
  ·omega
def getElem?_set' {α:Type} (l:List α) (i j:Nat) (x y:α) (hi:i<l.length):(l.set i x)[j]? =some y↔((i=j/\x=y)\/(i≠j/\l[j]? =some y)):=by
 by_cases e:i=j
 ·subst e;simp[hi]
 ·simp[e]
def zcV (H:HRel X ρ h w) {id:Nat} {o o':Obj} {r r':zdi} (ho:h[id]? =some o) (hr:ρ[id]? =some r)
 (hos:w'.os=w.os) (htape:w'.tape=w.tape) (hout:w'.output=w.output) (hsize:w.heap.size<=w'.heap.size)
 (hblk: ∀b,b<w.heap.size->(∀c,r≠some (b,c))->w'.heap[b]? =w.heap[b]?)
 (hr':r'=r\/(∃c,r'=some (w.heap.size,c)))
 (himm: ∀j v b c,r=some (b,c)-> ¬ o.mutAt j->w.cell? ⟨b,j,none⟩=some v->w'.cell? ⟨b,j,none⟩=some v)
 (hmut:r'=r-> ∀j,¬ o.mutAt j-> ¬ o'.mutAt j) (hevo:zbl o o' r r')
 (hobj:Fr X ρ h w (ρ.set id r') (h.set id o') w'->Evo h.length ρ h (ρ.set id r') (h.set id o')->ObjRel X (ρ.set id r') (h.set id o') w' r' o'):
 HRel X (ρ.set id r') (h.set id o') w'/\Fr X ρ h w (ρ.set id r') (h.set id o') w'/\Evo h.length ρ h (ρ.set id r') (h.set id o'):=by
 have hid:id<h.length:=lt_of_getElem? ho;have hid':id<ρ.length:=lt_of_getElem? hr;have hnew: ∀b c,b<w.heap.size->r'=some (b,c)->r'=r:=λb c hb e=>by
  rcases hr' with e' | ⟨c',e'⟩
  ·exact e'
  ·rw[e]at e';cases e';omega
 have hf:Fr X ρ h w (ρ.set id r') (h.set id o') w':=by
  refine⟨hos,htape,hout,hsize,λb hb hn=>⟨hblk b hb λc e=>hn id c (e ▸ hr),λi c hi=> ?_⟩,λb j v hm hc=> ?_⟩
  ·rcases (getElem?_set' _ _ _ _ _ hid').1 hi with ⟨_,e⟩ | ⟨_,e⟩
   ·have:=hnew b c hb e
    rw[this]at e;exact hn id c (e ▸ hr)
   ·exact hn i c e
  ·have hb:b<w.heap.size:=World.block_lt_of_cell? w ⟨b,j,none⟩ hc
   constructor
   ·by_cases hown: ∃c,r=some (b,c)
    ·obtain⟨c,e⟩:=hown
     exact himm j v b c e (λhmu=>hm (.inr ⟨id,c,o,e ▸ hr,ho,hmu⟩)) hc
    ·exact (World.cell?_of_block (a:=⟨b,j,none⟩) (hblk b hb λc e=>hown ⟨c,e⟩)).trans hc
   ·rintro (hX | ⟨i,c,o'',h1,h2,h3⟩)
    ·exact hm (.inl hX)
    rcases (getElem?_set' _ _ _ _ _ hid').1 h1 with ⟨e1,e⟩ | ⟨e1,e⟩
    ·subst e1
     rw[ybh hid]at h2;cases h2;have e':=hnew b c hb e;refine hmut e' j (λhmu=>hm (.inr ⟨id,c,o,by rw[<- e,e',hr],ho,hmu⟩)) h3
    ·rw[ybw e1]at h2
     exact hm (.inr ⟨i,c,o'',e,h2,h3⟩)
 have he:Evo h.length ρ h (ρ.set id r') (h.set id o'):=λi oi ri hi hoi hri=>by
  by_cases e:id=i
  ·subst e
   rw[ho]at hoi;rw[hr]at hri;cases hoi;cases hri;exact⟨o',r',by simp[hid],by simp[hid'],hevo⟩
  ·exact⟨oi,ri,by simp[e,hoi],by simp[e,hri],zbl.refl _ _⟩
 refine⟨⟨by simp[H.len],λi oi hoi=> ?_,λb j hX=>ybp (H.xlt b j hX) hsize,λi b c j hi=> ?_,λi j b c c' hi hj=> ?_⟩,hf,he⟩
 ·rcases (getElem?_set' _ _ _ _ _ hid).1 hoi with ⟨e1,e2⟩ | ⟨e1,e2⟩
  ·subst e1;subst e2
   exact⟨r',by simp[hid'],hobj hf he⟩
  ·obtain⟨ri,h1,h2⟩:=H.obj i oi e2
   refine⟨ri,by simp[e1,h1],h2.kept hf he λb c hbc=>hblk b (H.lt (hbc ▸ h1)) λc' e=>e1 ?_⟩
   subst hbc;subst e;exact (H.inj _ _ b _ _ hr h1)
 ·rcases (getElem?_set' _ _ _ _ _ hid').1 hi with ⟨_,e⟩ | ⟨_,e⟩
  ·rcases hr' with e' | ⟨c',e'⟩
   ·exact H.xown id b c j (by rw[hr,<- e',e])
   ·intro hX
    have h1:=H.xlt b j hX;rw[e]at e';cases e';omega
  ·exact H.xown i b c j e
 ·rcases (getElem?_set' _ _ _ _ _ hid').1 hi with ⟨e1,e2⟩ | ⟨e1,e2⟩ <;> rcases (getElem?_set' _ _ _ _ _ hid').1 hj with ⟨f1,f2⟩ | ⟨f1,f2⟩
  ·omega
  ·have hb:=H.lt f2
   have e3:=hnew b c hb e2;exact e1 ▸ H.inj _ _ b c c' (by rw[hr,<- e3,e2]) f2
  ·have hb:=H.lt e2
   have e3:=hnew b c' hb f2;exact f1 ▸ H.inj _ _ b c c' e2 (by rw[hr,<- e3,f2])
  ·exact H.inj i j b c c' e2 f2
def zbT {α:Type} {l:List α} {i:Nat} {x:α} (hx:l[i]? =some x):l.set i x=l:=by
 apply ybV;intro j
 by_cases e:i=j
 ·subst e;rw[ybh (lt_of_getElem? hx),hx]
 ·simp[e]
def zed (H:HRel X ρ h w) {id sz:Nat} {xs:List D} {wm:Nat} (ho:h[id]? =some (.arr sz xs wm)):
 HRel X ρ (h.set id (.arr sz xs xs.length)) w/\Fr X ρ h w ρ (h.set id (.arr sz xs xs.length)) w/\Evo h.length ρ h ρ (h.set id (.arr sz xs xs.length)):=by
 obtain⟨r,hr,hrel⟩:=H.obj id _ ho;have:=zcV (w':=w) (r':=r) (o':= .arr sz xs xs.length) H ho hr rfl rfl rfl (yaj _) (λ_ _ _=>rfl) (.inl rfl) (λ_ _ _ _ _ _ hc=>hc)
  (λ_ j hj=>by
    have hw:=hrel.1;simp only[Obj.mutAt,Nat.not_le]at hj ⊢;exact ybp hj (yaG _ hw)) ⟨rfl,yaj _,λ_=>rfl⟩
  (λhf he=>by
    refine⟨yaj _, ?_⟩;have hr2:=hrel.2;cases r with
    |none=>exact hr2
    |some p=>
     obtain⟨b,c⟩:=p;obtain⟨cur,e,fz,h1,h2,h3,h4,h5,h6,h7,h8⟩:=hr2;exact⟨cur,e,fz,h1,h2,h3,h4,h5,h6,h7,λj x hj=>let ⟨u,h9,h10,h11⟩:=h8 j x hj;⟨u,h9,h10.mono hf.imm,h11⟩⟩)
 rw[zbT hr]at this;exact this
def zau {xs:List D} {sz:Nat} (hs: ∀x∈xs,x.cells.length=sz):(flat xs).length=xs.length*sz:=by
 induction xs with
 |nil=>simp[flat]
 |cons x xs ih=>
  have:=ih λy hy=>hs y (by simp[hy])
  simp only[flat,ya5,yae,yaf]at this ⊢;rw[this,hs x (by simp),ya8]
  omega
def zbI (xs ys:List D):flat (xs++ys)=flat xs++flat ys:=by simp[flat]
def zgB {xs:List D} {l u sz:Nat} (hs: ∀x∈xs,x.cells.length=sz) (hu:u<=xs.length) (hl:l<=u) {j:Nat} {c:D} (hj:(flat (cut xs l u))[j]? =some c):
 (flat xs)[l*sz+j]? =some c:=by
 have e1:xs=(xs.take u).take l++(cut xs l u++xs.drop u):=by
  rw[cut,<- yan,ybf,ybf]
 have e2:(flat ((xs.take u).take l)).length=l*sz:=by
  rw[zau (sz:=sz) λx hx=>hs x (yaH (yaH hx))]
  simp;congr 1;omega
 rw[e1,zbI,yal (by omega),e2,yaP,zbI,yar (lt_of_getElem? hj)]
 exact hj
def zpu {xs:List D} {l u:Nat} {x:D} (hx:x∈cut xs l u):x∈xs:=yaH (ybF hx)
def zdS {xs:List D} {l u:Nat} (hu:u<=xs.length):(cut xs l u).length=u - l:=by
 simp[cut];omega
def zap {w:World} {b:Nat} {cur:Array Value} {e:TypeId} {fz:Nat × Nat} (hb:w.heap[b]? =some (.cells cur e fz)) (j:Nat):w.cell? ⟨b,j,none⟩=cur[j]? :=by
 simp[World.cell?,hb]
def znw (H:HRel X ρ h w) {id sz:Nat} {xs:List D} {wm:Nat} (ho:h[id]? =some (.arr sz xs wm)) (hw:wm=xs.length) {v:Value} (hv:V1 X ρ h w v (.arr id xs.length)):
 Rep (Mut X ρ h) w v (.list xs):=by
 obtain⟨_,sz',xs',wm',r,h1,h2,_,h4⟩:=hv;rw[ho]at h1;cases h1;have hav:=h4 rfl;obtain⟨r',h5,h6⟩:=H.obj id _ ho;rw[h2]at h5;cases h5;have h7:=h6.2;cases r with
 |none=>
  subst h7;obtain⟨_,a,rfl⟩:=hav;exact .nil a 0 λ_=>rfl
 |some p=>
  obtain⟨b,cap⟩:=p;obtain⟨cur,e,fz,k1,k2,k3,k4,k5,k6,k7,k8⟩:=h7;simp only[zin]at hav;subst hav;have hlen:=zau k6;refine .list b 0 xs.length cap sz xs (λj=>cur.getD j undef) rfl k3 k6 (λj c hj=> ?_) (λj c hj=> ?_)
  ·obtain⟨u,k9,k10,k11⟩:=k8 j c hj
   refine⟨?_, ?_,k11⟩
   ·rw[zap k1,yaX,k9]
    simp[yav,k9]
   ·rintro (hX | ⟨i,c',o,m1,m2,m3⟩)
    ·exact H.xown id b cap _ h2 hX
    have:=H.inj _ _ b _ _ h2 m1;subst this;rw[ho]at m2;cases m2;have hj':=lt_of_getElem? hj;simp only[Obj.mutAt,hw]at m3;rw[hlen]at hj';omega
  ·obtain⟨u,k9,k10,k11⟩:=k8 j c hj
   simpa[yav,k9]using k10
def zxb (H:HRel X ρ h w) {id sz off len:Nat} {xs:List D} {wm:Nat} (ho:h[id]? =some (.arr sz xs wm)) (hw:wm=xs.length) {v:Value} (hv:V1 X ρ h w v (.sl id xs.length off len)):
 Rep (Mut X ρ h) w v (.list (cut xs off (off+len))):=by
 obtain⟨_,sz',xs',wm',r,h1,h2,_,h4⟩:=hv;rw[ho]at h1;cases h1;obtain⟨hle,a,c,rfl,hc,han,hpos⟩:=h4 rfl;rcases ybq len with e | e
 ·subst e
  have:cut xs off (off+0)=[]:=by apply yaE;rw[zdS (by omega)];omega
  rw[this];exact .nil a c han
 ·obtain⟨b,cap,rfl,rfl⟩:=hpos e
  obtain⟨r',h5,h6⟩:=H.obj id _ ho;rw[h2]at h5;cases h5;obtain⟨cur,e',fz,k1,k2,k3,k4,k5,k6,k7,k8⟩:=h6.2;have hlen:=zau k6;have hcs: ∀x∈cut xs off (off+len),x.cells.length=sz:=λx hx=>k6 x (zpu hx)
  refine .list b (off*sz) len c sz _ (λj=>cur.getD (off*sz+j) undef) (by rw[zdS (by omega)];omega) hc hcs (λj c hj=> ?_) (λj c hj=> ?_)
  ·have hj1:=zgB k6 (by omega) (by omega) hj
   obtain⟨u,k9,k10,k11⟩:=k8 _ c hj1;refine⟨?_, ?_,k11⟩
   ·rw[zap k1,k9]
    simp[yav,k9]
   ·rintro (hX | ⟨i,c',o,m1,m2,m3⟩)
    ·exact H.xown id b cap _ h2 hX
    have:=H.inj _ _ b _ _ h2 m1;subst this;rw[ho]at m2;cases m2;have hj':=lt_of_getElem? hj1;simp only[Obj.mutAt,hw]at m3;rw[hlen]at hj';omega
  ·have hj1:=zgB k6 (by omega) (by omega) hj
   obtain⟨u,k9,k10,k11⟩:=k8 _ c hj1;simpa[yav,k9]using k10
end
end Go.Am
namespace Go.Am
section
variable {X:Nat->Nat->Prop} {ρ ρ' ρ'':Places} {h h' h'':List Obj} {w w' w'':World}
def Evo.le (H:HRel X ρ h w) (he:Evo h.length ρ h ρ' h'):h.length<=h'.length:=by
 rcases ybq h.length with e | e
 ·omega
 ·have hlt:h.length - 1<h.length:=by omega
  have hlt':h.length - 1<ρ.length:=by rw[H.len];exact hlt
  obtain⟨o',r',h1,_⟩:=he (h.length - 1) (h[h.length - 1]) (ρ[h.length - 1]) hlt (by simp[hlt]) (by simp[hlt'])
  have:=lt_of_getElem? h1;omega
structure Stp (X:Nat->Nat->Prop) (ρ:Places) (h:List Obj) (w:World) (ρ':Places) (h':List Obj) (w':World):Prop where
 rel:HRel X ρ' h' w'
 fr:Fr X ρ h w ρ' h' w'
 evo:Evo h.length ρ h ρ' h'
def Stp.refl (H:HRel X ρ h w):Stp X ρ h w ρ h w:=⟨H,Fr.refl _ _ _,Evo.refl _ _ _⟩
def Stp.trans (H:HRel X ρ h w) (a:Stp X ρ h w ρ' h' w') (b:Stp X ρ' h' w' ρ'' h'' w''):Stp X ρ h w ρ'' h'' w'':=
 ⟨b.rel,a.fr.trans b.fr,a.evo.trans (b.evo.mono (a.evo.le H))⟩
def Stp.v1 (a:Stp X ρ h w ρ' h' w') {v:Value} {x:V} (hv:V1 X ρ h w v x):V1 X ρ' h' w' v x:=hv.mono a.fr a.evo
def Stp.v2 (a:Stp X ρ h w ρ' h' w') {v:Value} {x:V} (hv:V2 X ρ h w v x):V2 X ρ' h' w' v x:=hv.mono a.fr a.evo
def Stp.vrel (a:Stp X ρ h w ρ' h' w') {v:Value} {x:V} (hv:zat X ρ h w v x):zat X ρ' h' w' v x:=hv.mono a.fr a.evo
def Stp.rep (a:Stp X ρ h w ρ' h' w') {v:Value} {x:D} (hv:Rep (Mut X ρ h) w v x):Rep (Mut X ρ' h') w' v x:=hv.mono a.fr.imm
def zbs {v:Value} {V:V} {x:D} (hp:za6 h V=some (x,h')) (H:HRel X ρ h w) (hv:V1 X ρ h w v V):Stp X ρ h w ρ h' w/\Rep (Mut X ρ h') w v x:=by
 cases V with
 |d y=>simp only[za6,yaa,yad]at hp;obtain⟨rfl,rfl⟩:=hp;exact⟨Stp.refl H,hv⟩
 |nilS=>
  simp only[za6,yaa,yad]at hp;obtain⟨rfl,rfl⟩:=hp;refine⟨Stp.refl H, ?_⟩;simp only[V1]at hv;subst hv;exact .nil none 0 λ_=>rfl
 |emp=>
  simp only[za6,yaa,yad]at hp;obtain⟨rfl,rfl⟩:=hp;obtain⟨a,c,rfl⟩:=hv;exact⟨Stp.refl H,.nil (some a) c λe=>by cases e⟩
 |sl id tot off len=>
  simp only[za6]at hp;split at hp
  ·rename_i sz xs wm ho
   split at hp
   ·rename_i hn
    simp only[yaa,yad]at hp;obtain⟨rfl,rfl⟩:=hp;subst hn;obtain⟨h1,h2,h3⟩:=zed H ho;refine⟨⟨h1,h2,h3⟩, ?_⟩;exact zxb h1 (id:=id) (sz:=sz) (wm:=xs.length) (by rw[ybh (lt_of_getElem? ho)]) rfl (hv.mono h2 h3)
   ·cases hp
  ·cases hp
 |arr id n=>
  simp only[za6]at hp;split at hp
  ·rename_i sz xs wm ho
   split at hp
   ·rename_i hn
    simp only[yaa,yad]at hp;obtain⟨rfl,rfl⟩:=hp;subst hn;obtain⟨h1,h2,h3⟩:=zed H ho;refine⟨⟨h1,h2,h3⟩, ?_⟩;exact znw h1 (id:=id) (sz:=sz) (wm:=xs.length) (by rw[ybh (lt_of_getElem? ho)]) rfl (hv.mono h2 h3)
   ·cases hp
  ·cases hp
 |_=>simp[za6]at hp
def zlf {V:V} {x:D} (hp:za6 h V=some (x,h')) (hc:V.cellOk=true):x.isCell=true:=by
 cases V with
 |d y=>
  simp only[za6,yaa,yad]at hp;obtain⟨rfl,_⟩:=hp;cases y <;> simp_all [V.cellOk,D.isCell]
 |nilS=>simp only[za6,yaa,yad]at hp;obtain⟨rfl,_⟩:=hp;rfl
 |emp=>simp only[za6,yaa,yad]at hp;obtain⟨rfl,_⟩:=hp;rfl
 |sl a b c d=>
  simp only[za6]at hp;split at hp
  ·split at hp
   ·simp only[yaa,yad]at hp;obtain⟨rfl,_⟩:=hp;rfl
   ·cases hp
  ·cases hp
 |arr id n=>
  simp only[za6]at hp;split at hp
  ·split at hp
   ·simp only[yaa,yad]at hp;obtain⟨rfl,_⟩:=hp;rfl
   ·cases hp
  ·cases hp
 |_=>simp[za6]at hp
def zdD: ∀ (cs:List V) (h:List Obj) (us:Nat->Value) (xs:List D) (h':List Obj),za4 h cs=some (xs,h')->HRel X ρ h w->
 (∀ (j:Nat) (c:V),cs[j]? =some c->V1 X ρ h w (us j) c)->
 Stp X ρ h w ρ h' w/\xs.length=cs.length/\(∀ (j:Nat) (x:D),xs[j]? =some x->Rep (Mut X ρ h') w (us j) x)/\((∀c∈cs,c.cellOk=true)-> ∀x∈xs,x.isCell=true)
 |[],h,us,xs,h',hp,H,_=>by
  simp only[za4,yaa,yad]at hp;obtain⟨rfl,rfl⟩:=hp;exact⟨Stp.refl H,rfl,λj x hj=>by simp at hj,λ_ x hx=>by simp at hx⟩
 |c::cs,h,us,xs,h',hp,H,hc=>by
  simp only[za4]at hp;split at hp
  ·rename_i x h1 hx
   split at hp
   ·rename_i ys h2 hy
    simp only[yaa,yad]at hp;obtain⟨rfl,rfl⟩:=hp;obtain⟨s1,r1⟩:=zbs hx H (hc 0 c (by simp))
    obtain⟨s2,e2,r2,k2⟩:=zdD cs h1 (λj=>us (j+1)) ys _ hy s1.rel λj c hj=>s1.v1 (hc (j+1) c (by simpa using hj))
    refine⟨s1.trans H s2,by simp[e2],λj x hj=> ?_,λhk x hx'=> ?_⟩
    ·cases j with
     |zero=>simp at hj;subst hj;exact s2.rep r1
     |succ j=>exact r2 j x (by simpa using hj)
    ·rcases List.mem_cons.1 hx' with e | e
     ·subst e;exact zlf hx (hk c (by simp))
     ·exact k2 (λc hc=>hk c (by simp[hc])) x e
   ·cases hp
  ·cases hp
def zbJ {v:Value} {V:V} {x:D} (hp:zbE h V=some (x,h')) (H:HRel X ρ h w) (hv:zat X ρ h w v V):Stp X ρ h w ρ h' w/\Rep (Mut X ρ h') w v x:=by
 cases V with
 |agg cs=>
  simp only[zbE,yab,ycs]at hp;obtain⟨xs,h1,hp,e⟩:=hp;simp only[yad]at e;obtain⟨rfl,rfl⟩:=e;obtain⟨us,rfl,h2,h3⟩:=hv;obtain⟨s,e1,r1,k1⟩:=zdD (ρ:=ρ) (w:=w) cs h (λj=>us.getD j undef) xs _ hp H λj c hj=>by
   obtain⟨u,h4,h5,_⟩:=h3 j c hj;simpa[yav,h4]using h5
  refine⟨s,.agg us xs (λj=>us.getD j undef) (by omega) (λj c hj=>⟨?_, ?_⟩) r1⟩
  ·have:=lt_of_getElem? hj
   have hlt:j<us.size:=by omega
   simp[yav,hlt]
  ·refine k1 (λc hc=> ?_) c (yay hj)
   obtain⟨i,hi⟩:=ybo hc;exact (h3 i c hi).choose_spec.2.2
 |d y=>exact zbs (V:= .d y) hp H hv
 |nilS=>exact zbs (V:= .nilS) hp H hv
 |arr a b=>exact zbs (V:= .arr a b) hp H hv
 |sl a b c d=>exact zbs (V:= .sl a b c d) hp H hv
 |emp=>exact zbs (V:= .emp) hp H hv
 |ptr a b=>simp[zbE,za6]at hp
 |eptr a b c d=>simp[zbE,za6]at hp
 |ro a=>simp[zbE,za6]at hp
 |mp a=>simp[zbE,za6]at hp
 |clo a b=>simp[zbE,za6]at hp
 |tup a=>simp[zbE,za6]at hp
 |dead=>simp[zbE,za6]at hp
def zeH: ∀ (cs:List V) (h:List Obj) (us:Nat->Value) (xs:List D) (h':List Obj),zeu h cs=some (xs,h')->HRel X ρ h w->
 (∀ (j:Nat) (c:V),cs[j]? =some c->zat X ρ h w (us j) c)->
 Stp X ρ h w ρ h' w/\xs.length=cs.length/\ ∀ (j:Nat) (x:D),xs[j]? =some x->Rep (Mut X ρ h') w (us j) x
 |[],h,us,xs,h',hp,H,_=>by
  simp only[zeu,yaa,yad]at hp;obtain⟨rfl,rfl⟩:=hp;exact⟨Stp.refl H,rfl,λj x hj=>by simp at hj⟩
 |c::cs,h,us,xs,h',hp,H,hc=>by
  simp only[zeu]at hp;split at hp
  ·rename_i x h1 hx
   split at hp
   ·rename_i ys h2 hy
    simp only[yaa,yad]at hp;obtain⟨rfl,rfl⟩:=hp;obtain⟨s1,r1⟩:=zbJ hx H (hc 0 c (by simp))
    obtain⟨s2,e2,r2⟩:=zeH cs h1 (λj=>us (j+1)) ys _ hy s1.rel λj c hj=>s1.vrel (hc (j+1) c (by simpa using hj))
    refine⟨s1.trans H s2,by simp[e2],λj x hj=> ?_⟩
    cases j with
    |zero=>simp at hj;subst hj;exact s2.rep r1
    |succ j=>exact r2 j x (by simpa using hj)
   ·cases hp
  ·cases hp
/-! ### lists of cells -/
def zaM (X:Nat->Nat->Prop) (ρ:Places) (h:List Obj) (w:World) (us:List Value) (cs:List V):Prop:=
 us.length=cs.length/\ ∀ (j:Nat) (c:V),cs[j]? =some c-> ∃u,us[j]? =some u/\V1 X ρ h w u c/\c.cellOk=true
def V1.one {v:Value} {c:V} (hv:V1 X ρ h w v c) (hc:c.cellOk=true):v.oneCell'=true:=by
 cases c with
 |d x=>
  refine Rep.one hv ?_;cases x <;> simp_all [V.cellOk,D.isCell]
 |nilS=>simp only[V1,V0]at hv;subst hv;rfl
 |arr id n=>obtain⟨⟨a,l,c,rfl⟩,_⟩:=hv;rfl
 |sl _ _ _ _=>obtain⟨⟨a,l,c,rfl⟩,_⟩:=hv;rfl
 |emp=>obtain⟨a,c,rfl⟩:=hv;rfl
 |ptr id o=>obtain⟨_,_,_,_,_,_,rfl⟩:=hv;rfl
 |eptr a b c d=>obtain⟨⟨a,rfl⟩,_⟩:=hv;rfl
 |ro cs=>obtain⟨_,_,_,rfl,_⟩:=hv;rfl
 |mp a=>obtain⟨_,_,_,_,_,rfl⟩:=hv;rfl
 |clo a b=>obtain⟨us,rfl,_⟩:=hv;rfl
 |_=>simp[V.cellOk]at hc
def zat.v1 {v:Value} {c:V} (hv:zat X ρ h w v c) (hc:c.cellOk=true):V1 X ρ h w v c:=by
 cases c with
 |agg cs=>simp[V.cellOk]at hc
 |tup cs=>simp[V.cellOk]at hc
 |_=>exact hv
def V1.v2 {v:Value} {c:V} (hv:V1 X ρ h w v c):V2 X ρ h w v c:=by
 cases c with
 |agg cs=>exact hv.elim
 |_=>exact hv
def V2.vrel {v:Value} {c:V} (hv:V2 X ρ h w v c):zat X ρ h w v c:=by
 cases c with
 |tup cs=>exact hv.elim
 |_=>exact hv
def V1.vrel {v:Value} {c:V} (hv:V1 X ρ h w v c):zat X ρ h w v c:=hv.v2.vrel
def zat.one {v:Value} {c:V} (hv:zat X ρ h w v c) (hc:c.cellOk=true):v.oneCell'=true:=(hv.v1 hc).one hc
def zat.cells {v:Value} {c:V} (hv:zat X ρ h w v c) (hc:c.storable=true):zaM X ρ h w v.cells.toList c.cells:=by
 have one: ∀c':V,c'.cells=[c']->zat X ρ h w v c'->c'.storable=true->zaM X ρ h w v.cells.toList c'.cells:=by
  intro c' e hv' hc';simp only[V.storable,e,ycB,List.all_nil,ybY]at hc';have h1:=hv'.one hc';have h2:=hv'.v1 hc';rw[e,Value.cells_one h1];refine⟨rfl,λj c'' hj=> ?_⟩
  cases j with
  |zero=>simp at hj;subst hj;exact⟨v,by simp,h2,hc'⟩
  |succ j=>simp at hj
 cases c with
 |agg cs=>
  obtain⟨us,rfl,h2,h3⟩:=hv;refine⟨by simpa[Value.cells,V.cells]using h2,λj c hj=> ?_⟩
  obtain⟨u,h4,h5,h6⟩:=h3 j c (by simpa[V.cells]using hj)
  exact⟨u,by simpa[Value.cells]using h4,h5,h6⟩
 |d x=>
  by_cases hx:x.isCell=true
  ·refine one (.d x) ?_ hv hc
   cases x <;> simp_all [V.cells,D.isCell]
  ·cases x with
   |agg ds=>
    cases hv with
    |agg us _ vs h1 h2 h3=>
     refine⟨by simpa[Value.cells,V.cells]using h1,λj c hj=> ?_⟩
     simp only[V.cells,yau,yab]at hj;obtain⟨y,hy,rfl⟩:=hj;exact⟨vs j,by simpa[Value.cells]using (h2 j y hy).1,h3 j y hy,by have:=(h2 j y hy).2;cases y <;> simp_all [V.cellOk,D.isCell]⟩
   |_=>simp[D.isCell]at hx
 |nilS=>exact one .nilS rfl hv hc
 |arr a b=>exact one (.arr a b) rfl hv hc
 |sl a b c d=>exact one (.sl a b c d) rfl hv hc
 |emp=>exact one .emp rfl hv hc
 |ptr a b=>exact one (.ptr a b) rfl hv hc
 |eptr a b c d=>exact one (.eptr a b c d) rfl hv hc
 |ro a=>exact one (.ro a) rfl hv hc
 |mp a=>exact one (.mp a) rfl hv hc
 |clo a b=>exact one (.clo a b) rfl hv hc
 |tup a=>simp[V.storable,V.cells,V.cellOk]at hc
 |dead=>simp[V.storable,V.cells,V.cellOk]at hc
def cells_length {v:Value} {c:V} (hv:zat X ρ h w v c) (hc:c.storable=true):v.cells.size=c.cells.length:=by
 simpa using (hv.cells hc).1
end
end Go.Am
namespace Go.Am
section
variable {X:Nat->Nat->Prop} {ρ ρ' ρ'':Places} {h h' h'':List Obj} {w w' w'':World}
def zgC (v:Value):zat X ρ h w v (zaD v):=by
 unfold zaD;split <;> first
  |exact Rep.int _ _
  |exact Rep.bool _
  |exact Rep.str _
  |exact Rep.nilP
  |exact Rep.nilM
  |exact Rep.nilF
  |exact Rep.nilI
  |rfl
  |skip
 ·rename_i vs
  split
  ·rename_i he
   refine⟨vs,rfl, ?_,λj c hj=>by simp at hj⟩
   simpa using he
  ·trivial
 ·trivial
def zxc {cs:List V} {ds:List D} (hm:cs.mapM V.asD?=some ds):cs=ds.map .d:=by
 induction cs generalizing ds with
 |nil=>simp at hm;subst hm;rfl
 |cons c cs ih=>
  simp only[ya2,ybB,yaT,ybS,yaa]at hm;obtain⟨x,hx,ys,hy,rfl⟩:=hm;rw[ih hy];cases c <;> simp[V.asD?]at hx;subst hx;rfl
def zpv {x:D} (hx:V.cellOk (.d x)=true):x.isCell=true:=by
 cases x <;> simp_all [V.cellOk,D.isCell]
def zeI {us:Array Value} {cs:List V} (hc:zaM X ρ h w us.toList cs):zat X ρ h w (.agg us) (zcp cs):=by
 obtain⟨h1,h2⟩:=hc;have h2': ∀ (j:Nat) (c:V),cs[j]? =some c-> ∃u,us[j]? =some u/\V1 X ρ h w u c/\c.cellOk=true:=λj c hj=>by
  obtain⟨u,h3,h4,h5⟩:=h2 j c hj;exact⟨u,by simpa using h3,h4,h5⟩
 unfold zcp;split
 ·rename_i ds hm
  have e:=zxc hm;subst e;refine Rep.agg us ds (λj=>us.getD j undef) (by simpa using h1) (λj c hj=> ?_) (λj c hj=> ?_)
  ·obtain⟨u,h3,h4,h5⟩:=h2' j (.d c) (by simp[hj])
   exact⟨by simp[yav,h3],zpv h5⟩
  ·obtain⟨u,h3,h4,h5⟩:=h2' j (.d c) (by simp[hj])
   simpa[yav,h3]using (show Rep (Mut X ρ h) w u c from h4)
 ·exact⟨us,rfl,by simpa using h1,h2'⟩
def zb3 (cs:List Value) (hok:(cs.map zaD).all V.cellOk=true):zaM X ρ h w cs (cs.map zaD):=by
 refine⟨by simp,λj c hj=> ?_⟩
 simp only[yau,yab]at hj;obtain⟨u,hu,rfl⟩:=hj;have hk:(zaD u).cellOk=true:=by
  rw[ybD]at hok;exact hok _ (List.mem_map_of_mem (yay hu))
 exact⟨u,hu,(zgC u).v1 hk,hk⟩
def zsf (v:Value):zat X ρ h w v (znl v):=by
 unfold znl;split
 ·rename_i cs
  split
  ·rename_i hok
   exact zeI (zb3 cs.toList hok)
  ·trivial
 ·exact zgC v
def GRel (X:Nat->Nat->Prop) (G:Nat->Option (List D)) (ρ:Places) (h:List Obj) (w:World):Prop:= ∀g cs,G g=some cs->zhB (Mut X ρ h) w (.pointer (some ⟨g,0,none⟩)) cs
def GRel.mono {G:Nat->Option (List D)} (hg:GRel X G ρ h w) (hf:Fr X ρ h w ρ' h' w'):GRel X G ρ' h' w':=λg cs e=>(hg g cs e).mono hf.imm
def SRel (X:Nat->Nat->Prop) (ρ:Places) (h:List Obj) (w:World) (tmps:Array Value) (s:Slots):Prop:= ∀t,zat X ρ h w (tmps.getD t undef) (zbF s t)
def SRel.mono {tmps:Array Value} {s:Slots} (hs:SRel X ρ h w tmps s) (st:Stp X ρ h w ρ' h' w'):SRel X ρ' h' w' tmps s:=λt=>st.vrel (hs t)
def zlg {G:Nat->Option (List D)} {a:Act} {s:Slots} (hg:GRel X G ρ h w) (hs:SRel X ρ h w a.tmps s) (x:Operand):zat X ρ h w (a.eval x) (ev G s x):=by
 cases x with
 |tmp t=>exact hs t
 |const v=>exact zsf v
 |global g=>
  simp only[ev,Act.eval];split
  ·rename_i cs e
   exact hg g cs e
  ·trivial
 |func f=>exact Rep.fn f
/-! ### loads -/
def zhC {P:Program} {t:TypeId} {b:Bool} (hb:agg? P t=some b):(Go.isAgg t).run P w= .ok b w:=by
 unfold agg? at hb;cases hd:P.underlying t with
 |none=>simp[hd]at hb
 |some d=>
  simp only[Go.isAgg,Sem.run_bind,run_underlying hd,Result.andThen_ok];cases d <;> simp_all
def zaz {P:Program} {t:TypeId} {n:Nat} (hn:sizeOf? P t=some n):(sizeOf t).run P w= .ok n w:=by
 simp only[sizeOf?,yab]at hn;obtain⟨i,hi,rfl⟩:=hn;simp[sizeOf,typeInfo,hi]
def zpw (w:World) (b o:Nat) (us:List Value):Prop:= ∀ (j:Nat) (u:Value),us[j]? =some u->w.cell? ⟨b,o+j,none⟩=some u
def zeJ {P:Program} {t:TypeId} {b o n:Nat} {us:List Value} (hl:zpw w b o us) (ha:agg? P t=some true) (hn:sizeOf? P t=some n) (hle:n<=us.length):
 (loadVar t ⟨b,o,none⟩).run P w= .ok (.agg (us.take n).toArray) w:=by
 have hr:=run_loadCells_list (P:=P) w ⟨b,o,none⟩ (us.take n) λj v hj=>by
  rw[Addr.add_lit];refine hl j v ?_;rw[yaU]at hj;split at hj
  ·exact hj
  ·cases hj
 rw[yaq,ybM hle]at hr;simp[loadVar,zhC ha,zaz hn,hr]
def zeK {P:Program} {t:TypeId} {b o:Nat} {u:Value} (hl:w.cell? ⟨b,o,none⟩=some u) (ha:agg? P t=some false):
 (loadVar t ⟨b,o,none⟩).run P w= .ok u w:=by
 simp[loadVar,zhC ha,hl]
def zpw.drop {b o k:Nat} {us:List Value} (hl:zpw w b o us):zpw w b (o+k) (us.drop k):=λj u hj=>by
 rw[ya1]at hj;rw[yaY];exact hl _ u hj
def zaM.drop {us:List Value} {cs:List V} (hc:zaM X ρ h w us cs) (k:Nat):zaM X ρ h w (us.drop k) (cs.drop k):=by
 refine⟨by simp[hc.1],λj c hj=> ?_⟩
 rw[ya1]at hj ⊢;exact hc.2 _ c hj
def zaM.take {us:List Value} {cs:List V} (hc:zaM X ρ h w us cs) (k:Nat):zaM X ρ h w (us.take k) (cs.take k):=by
 refine⟨by simp[hc.1],λj c hj=> ?_⟩
 rw[yaU]at hj ⊢;split at hj
 ·rename_i hlt
  rw[yag hlt];exact hc.2 _ c hj
 ·cases hj
def zkR {P:Program} {t:TypeId} {cs:List V} {off b o:Nat} {us:List Value} {x:V} (hx:zds P t cs off=some x) (hl:zpw w b o us) (hc:zaM X ρ h w us cs):
 ∃u,(loadVar t ⟨b,o+off,none⟩).run P w= .ok u w/\zat X ρ h w u x:=by
 unfold zds at hx;split at hx
 ·rename_i ha
  split at hx
  ·rename_i n hn
   split at hx
   ·rename_i hle
    simp only[yaa]at hx;subst hx;refine⟨_,zeJ hl.drop ha hn (by simp only[yax,hc.1];omega), ?_⟩
    exact zeI (by simpa using (hc.drop off).take n)
   ·cases hx
  ·cases hx
 ·rename_i ha
  obtain⟨u,h1,h2,_⟩:=hc.2 off x hx;exact⟨u,zeK (hl _ _ h1) ha,h2.vrel⟩
 ·cases hx
def zeL {P:Program} {t:TypeId} {M:Nat->Nat->Prop} {cs:List D} {off b o:Nat} {us:List Value} {x:V} (hx:zct P t cs off=some x) (hl:zpw w b o us)
 (hlen:us.length=cs.length) (hc: ∀ (j:Nat) (c:D),cs[j]? =some c-> ∃u,us[j]? =some u/\Rep M w u c/\c.isCell=true):
 ∃u y,(loadVar t ⟨b,o+off,none⟩).run P w= .ok u w/\x= .d y/\Rep M w u y:=by
 unfold zct at hx;split at hx
 ·rename_i ha
  split at hx
  ·rename_i n hn
   split at hx
   ·rename_i hle
    simp only[yaa]at hx;subst hx;refine⟨_,_,zeJ hl.drop ha hn (by simp only[yax,hlen];omega),rfl, ?_⟩
    refine .agg _ _ (λj=>us.getD (off+j) undef) (by simp[hlen]) (λj c hj=> ?_) (λj c hj=> ?_)
    all_goals
     rw[yaU]at hj;split at hj
     ·rename_i hlt
      rw[ya1]at hj;obtain⟨u,h1,h2,h3⟩:=hc _ c hj
      first
       |exact⟨by simp[hlt,h1,List.getD],h3⟩
       |simpa[List.getD,h1]using h2
     ·cases hj
   ·cases hx
  ·cases hx
 ·rename_i ha
  simp only[yab]at hx;obtain⟨y,hy,rfl⟩:=hx;obtain⟨u,h1,h2,_⟩:=hc off y hy;exact⟨u,y,zeK (hl _ _ h1) ha,rfl,h2⟩
 ·cases hx
def zfk {xs:List D} {sz i j:Nat} {x c:D} (hs: ∀x∈xs,x.cells.length=sz) (hi:xs[i]? =some x) (hj:x.cells[j]? =some c):(flat xs)[i*sz+j]? =some c:=by
 induction xs generalizing i with
 |nil=>simp at hi
 |cons y ys ih=>
  simp only[flat,ya5];cases i with
  |zero=>
   simp only[yaF,yaa]at hi;subst hi;rw[Nat.zero_mul,yaX,yar (lt_of_getElem? hj)];exact hj
  |succ i=>
   have hy:=hs y (by simp)
   rw[yal (by rw[hy,ya8];omega),hy,show (i+1)*sz+j - sz=i*sz+j by rw[ya8];omega]
   exact ih (λx hx=>hs x (by simp[hx])) (by simpa using hi)
def zjm {P:Program} {t:TypeId} {A x:V} {v:Value} (hx:zhx P h t A=some x) (H:HRel X ρ h w) (hv:zat X ρ h w v A):
 ∃u,(Instr.loadAt t v).run P w= .ok u w/\zat X ρ h w u x:=by
 cases A with
 |ptr id off=>
  obtain⟨o,b,c,h1,h2,h3,rfl⟩:=hv;simp only[zhx,h1]at hx;cases o with
  |box cs=>
   obtain⟨r,h4,h5⟩:=H.obj id _ h1;rw[h3]at h4;cases h4;obtain⟨b',c',cur,e,fz,e1,k1,k2,k3,k4⟩:=h5;cases e1;obtain⟨u,hu,hr⟩:=zkR (ρ:=ρ) (h:=h) (w:=w) (b:=b) (o:=0) (us:=cur.toList) hx (λj u hj=>by rw[zap k1,yaX];simpa using hj)
    ⟨by simpa using k2,λj c hj=>by simpa using k4 j c hj⟩
   rw[yaX]at hu;exact⟨u,by simpa[Instr.loadAt,Instr.sureAddr]using hu,hr⟩
  |arr _ _ _=>simp at hx
  |siter _ _=>simp at hx
 |eptr id n i off=>
  obtain⟨_,sz,xs,wm,r,h1,h2,_,h4⟩:=hv;simp only[zhx,h1]at hx;split at hx
  ·rename_i hn
   obtain⟨b,c,rfl,rfl⟩:=h4 hn;split at hx
   ·rename_i y hy
    obtain⟨r,h5,h6⟩:=H.obj id _ h1;rw[h2]at h5;cases h5;obtain⟨_,cur,e,fz,k1,k2,k3,k4,k5,k6,k7,k8⟩:=h6;have hlen:=zau k6;have hyl:=k6 y (yay hy);have hix:i<xs.length:=lt_of_getElem? hy;have hle:i*sz+sz<=cur.size:=by
     rw[k2];have:(i+1)*sz<=c*sz:=yaG _ (by omega)
     rw[ya8]at this;omega
    obtain⟨u,z,hu,rfl,hr⟩:=zeL (w:=w) (M:=Mut X ρ h) (b:=b) (o:=i*sz) (us:=(cur.toList.drop (i*sz)).take sz) hx
     (λj u hj=>by
       rw[zap k1];rw[yaU]at hj;split at hj
       ·rw[ya1]at hj;simpa using hj
       ·cases hj)
     (by simp only[yaq,yax,ybi,hyl];omega)
     (λj c hj=>by
       obtain⟨u,m1,m2,m3⟩:=k8 _ c (zfk k6 hy hj);refine⟨u, ?_,m2,m3⟩;have:=lt_of_getElem? hj;rw[yaU,yag (by omega),ya1]
       simpa using m1)
    exact⟨u,by simpa[Instr.loadAt,Instr.sureAddr]using hu,hr⟩
   ·cases hx
  ·cases hx
 |ro cs=>
  obtain⟨b,o,vs,rfl,h1,h2⟩:=hv;simp only[zhx]at hx;obtain⟨u,z,hu,rfl,hr⟩:=zeL (w:=w) (M:=Mut X ρ h) (b:=b) (o:=o) (us:=(List.range cs.length).map vs) hx
   (λj u hj=>by
     simp only[yau,yab]at hj;obtain⟨k,hk,rfl⟩:=hj;have hk':=lt_of_getElem? hk;simp only[ycf]at hk';rw[ybj hk',yaa]at hk;subst hk;exact (h1 j cs[j] (by simp[hk'])).1)
   (by simp)
   (λj c hj=>⟨vs j,by simp[ybj (lt_of_getElem? hj)],h2 j c hj,(h1 j c hj).2.2⟩)
  rw[ycu]at hu;exact⟨u,by simpa[Instr.loadAt,Instr.sureAddr]using hu,hr⟩
 |_=>simp[zhx]at hx
end
end Go.Am
namespace Go.Am
section
variable {X:Nat->Nat->Prop} {ρ ρ' ρ'':Places} {h h' h'':List Obj} {w w' w'':World} {P:Program}
def zhB.drop {M:Nat->Nat->Prop} {b o k:Nat} {vs:Nat->Value} {cs:List D}
 (h1: ∀ (j:Nat) (c:D),cs[j]? =some c->w.cell? ⟨b,o+j,none⟩=some (vs j)/\ ¬ M b (o+j)/\c.isCell=true)
 (h2: ∀ (j:Nat) (c:D),cs[j]? =some c->Rep M w (vs j) c):zhB M w (.pointer (some ⟨b,o+k,none⟩)) (cs.drop k):=
 ⟨b,o+k,λj=>vs (k+j),rfl,λj c hj=>by rw[ya1]at hj;rw[yaY];exact h1 _ c hj,λj c hj=>by rw[ya1]at hj;exact h2 _ c hj⟩
def ziP {t:TypeId} {A x:V} {f:Nat} {v:Value} (hx:zfh P t A f=some x) (hv:zat X ρ h w v A):
 ∃u,(Instr.fieldAt t v f).run P w= .ok u w/\zat X ρ h w u x:=by
 unfold zfh at hx;split at hx
 ·rename_i o ft hf
  unfold fieldOff? at hf;split at hf
  ·rename_i fs hs
   split at hf
   ·rename_i fd hfd
    split at hf
    ·rename_i n hsz
     simp only[yaa,yad]at hf;obtain⟨rfl,rfl⟩:=hf;have hrun: ∀b o',(Instr.fieldAt t (.pointer (some ⟨b,o',none⟩)) f).run P w= .ok (.pointer (some ⟨b,o'+fd.offset,none⟩)) w:=λb o'=>by
      simp[Instr.fieldAt,run_underlying hs,hfd,Instr.sureAddr,fieldPlace,zaz hsz,Addr.add_lit]
     cases A with
     |ptr id off=>
      simp only[yaa]at hx;subst hx;obtain⟨ob,b,c,h1,h2,h3,rfl⟩:=hv;exact⟨_,hrun _ _,ob,b,c,h1,h2,h3,rfl⟩
     |eptr id m i off=>
      simp only[yaa]at hx;subst hx;obtain⟨⟨a,rfl⟩,sz,xs,wm,r,h1,h2,h3,h4⟩:=hv;obtain⟨b,o,sp⟩:=a
      by_cases hm:m=xs.length
      ·obtain⟨b',c,rfl,e⟩:=h4 hm
       simp only[Value.pointer.injEq,yaa,Addr.mk.injEq]at e;obtain⟨rfl,rfl,rfl⟩:=e;exact⟨_,hrun _ _,⟨_,rfl⟩,sz,xs,wm,_,h1,h2,h3,λ_=>⟨b,c,rfl,by rw[yaY]⟩⟩
      ·refine⟨.pointer (some ((Addr.mk b o sp).add fd.offset)), ?_,⟨_,rfl⟩,sz,xs,wm,r,h1,h2,h3,λe=>absurd e hm⟩
       ·simp[Instr.fieldAt,run_underlying hs,hfd,Instr.sureAddr,fieldPlace,zaz hsz]
     |ro cs=>
      simp only[yaa]at hx;subst hx;obtain⟨b,o,vs,rfl,h1,h2⟩:=hv;exact⟨_,hrun _ _,zhB.drop h1 h2⟩
     |_=>simp at hx
    ·cases hf
   ·cases hf
  ·cases hf
 ·cases hx
def ziQ {t:TypeId} {A I x:V} {v i:Value} (hx:zcf P h t A I=some x) (H:HRel X ρ h w) (hv:zat X ρ h w v A) (hi:zat X ρ h w i I):
 ∃u,(Instr.indexAt t v i).run P w= .ok u w/\zat X ρ h w u x:=by
 unfold zcf at hx;split at hx
 ·rename_i e k n hs
  cases hi;split at hx
  ·rename_i hn
   obtain⟨m,rfl⟩:=yaC hn;simp only[yat]at hx;have hrun: ∀b o len cap sz,sizeOf? P e=some sz->m<len->(Instr.indexAt t (.slice (some ⟨b,o,none⟩) len cap) (.int k m)).run P w= .ok (.pointer (some ⟨b,o+m*sz,none⟩)) w:=by
    intro b o len cap sz hsz hlt;simp[Instr.indexAt,asIntOf,run_underlying hs,zaz hsz,Addr.add_lit];intro hc;omega
   split at hx
   ·rename_i xs
    split at hx
    ·rename_i y sz hy hsz
     split at hx
     ·rename_i hyl
      simp only[yaa]at hx;subst hx;cases hv with
      |nil a c=>simp at hy
      |list b off len cap sz' xs vs e1 e2 e3 e4 e5=>
       have hm:=lt_of_getElem? hy;have hszz:sz'=sz:=by rw[<- e3 y (yay hy),hyl]
       subst hszz;refine⟨_,hrun b off len cap _ hsz (by omega),b,off+m*sz',λj=>vs (m*sz'+j),rfl,λj c hj=> ?_,λj c hj=> ?_⟩
       ·have:=e4 _ c (zfk e3 hy hj)
        rwa [<- yaY]at this
       ·exact e5 _ c (zfk e3 hy hj)
     ·cases hx
    ·cases hx
   ·rename_i id len
    split at hx
    ·rename_i sz xs wm sz' ho hsz
     split at hx
     ·rename_i hc
      obtain⟨rfl,hlt,rfl⟩:=hc;simp only[yaa]at hx;subst hx;obtain⟨_,sz2,xs2,wm2,r,h1,h2,h3,h4⟩:=hv;rw[ho]at h1;cases h1;have hav:=h4 rfl;obtain⟨r',h5,h6⟩:=H.obj id _ ho;rw[h2]at h5;cases h5;cases r with
      |none=>
       have:=h6.2;subst this;simp at hlt
      |some p=>
       obtain⟨b,cap⟩:=p;simp only[zin]at hav;subst hav;refine⟨_,hrun b 0 _ cap _ hsz hlt,⟨_,rfl⟩,sz,xs,wm,_,ho,h2,yaj _,λ_=>⟨b,cap,rfl,by simp⟩⟩
     ·cases hx
    ·cases hx
   ·rename_i id tot off len
    split at hx
    ·rename_i sz xs wm sz' ho hsz
     split at hx
     ·rename_i hc
      obtain⟨rfl,hlt,rfl⟩:=hc;simp only[yaa]at hx;subst hx;obtain⟨_,sz2,xs2,wm2,r,h1,h2,h3,h4⟩:=hv;rw[ho]at h1;cases h1;obtain⟨hle,a,c,rfl,hlc,_,hpos⟩:=h4 rfl;obtain⟨b,cap,rfl,rfl⟩:=hpos (by omega)
      refine⟨_,hrun b (off*sz) _ c _ hsz hlt,⟨_,rfl⟩,sz,xs,wm,_,ho,h2,yaj _,λ_=>⟨b,cap,rfl,by rw[ya8];simp⟩⟩
     ·cases hx
    ·cases hx
   ·rename_i id
    split at hx
    ·rename_i cs sz ho hsz
     split at hx
     ·rename_i hc
      obtain⟨hlt,rfl⟩:=hc;simp only[yaa]at hx;subst hx;obtain⟨cs',b,c,h1,h2,rfl⟩:=hv;rw[ho]at h1;cases h1;exact⟨_,hrun b 0 _ _ _ hsz hlt,.box cs,b,c,ho,rfl,h2,by simp⟩
     ·cases hx
    ·cases hx
   ·cases hx
  ·cases hx
 ·rename_i len e k n hs
  cases hi;split at hx
  ·rename_i hn
   obtain⟨m,rfl⟩:=yaC hn.1;have hlt:(m:Int)<len:=hn.2;simp only[yat]at hx;have hrun: ∀b o sz,sizeOf? P e=some sz->(Instr.indexAt t (.pointer (some ⟨b,o,none⟩)) (.int k m)).run P w= .ok (.pointer (some ⟨b,o+m*sz,none⟩)) w:=by
    intro b o sz hsz;simp[Instr.indexAt,asIntOf,run_underlying hs,Instr.sureAddr,zaz hsz,Addr.add_lit];intro hc;omega
   split at hx
   ·rename_i id off sz hsz
    simp only[yaa]at hx;subst hx;obtain⟨ob,b,c,h1,h2,h3,rfl⟩:=hv;exact⟨_,hrun b off sz hsz,ob,b,c,h1,h2,h3,rfl⟩
   ·rename_i cs sz hsz
    simp only[yaa]at hx;subst hx;obtain⟨b,o,vs,rfl,h1,h2⟩:=hv;exact⟨_,hrun b o sz hsz,zhB.drop h1 h2⟩
   ·cases hx
  ·cases hx
 ·cases hx
def znx (d:Nat) {t:TypeId} (ht:P.underlying t=some .bool) (a b:Bool):(Op.equalIn (d+1) t (.bool a) (.bool b)).run P w= .ok (a == b) w:=by
 simp only[Op.equalIn,Sem.run_bind,run_underlying ht,Result.andThen_ok,Sem.run_pure]
def zgD {t:TypeId} {k:Nat} (hk:zd8 P t=some k):agg? P t=some false:=by
 unfold zd8 at hk;unfold agg?;split at hk <;> first
  |(rename_i e;rw[e])
  |cases hk
def zio {M:Nat->Nat->Prop} {t:TypeId} {k d:Nat} {x y:D} {a b:Value} {r:Bool} (hk:zd8 P t=some k) (hx:zla k x y=some r) (ha:Rep M w a x) (hb:Rep M w b y):(Op.equalIn (d+1) t a b).run P w= .ok r w:=by
 unfold zd8 at hk;split at hk
 ·rename_i k' e
  simp only[yaa]at hk;subst hk;unfold zla at hx;split at hx
  ·cases ha;cases hb
   split at hx
   ·rename_i hkk
    simp only[yaa]at hx;subst hx;subst hkk;exact run_equalIn_int w d t _ _ _ _ e
   ·cases hx
  ·rename_i h1;cases h1
  ·rename_i h1;cases h1
  ·cases hx
 ·rename_i e
  simp only[yaa]at hk;subst hk;unfold zla at hx;split at hx
  ·rename_i h1;cases h1
  ·cases ha;cases hb
   simp only[yaa]at hx;subst hx;exact run_equalIn_bool' w d t _ _ e
  ·rename_i h1;cases h1
  ·cases hx
 ·rename_i e
  simp only[yaa]at hk;subst hk;unfold zla at hx;split at hx
  ·rename_i h1;cases h1
  ·rename_i h1;cases h1
  ·cases ha;cases hb
   simp only[yaa]at hx;subst hx;exact run_equalIn_string w d t _ _ e
  ·cases hx
 ·cases hk
def zgE {t:TypeId} {off:Nat} {cs:Array Value} {u:Value} (ha:agg? P t=some false) (hu:cs[off]? =some u):(part t cs off).run P w= .ok u w:=by
 simp[part,zhC ha,hu]
def zgF {M:Nat->Nat->Prop} {xs ys:List D} {cs ds:Array Value} {d:Nat} (hc: ∀ (j:Nat) (x:D),xs[j]? =some x-> ∃u,cs[j]? =some u/\Rep M w u x) (hd: ∀ (j:Nat) (y:D),ys[j]? =some y-> ∃u,ds[j]? =some u/\Rep M w u y):
 ∀ (fs : List Field) (l : List (Nat × Nat)) (r : Bool), (fs.mapM λ(f : Field) => (zd8 P f.type).map λk => (f.offset, k)) = some l -> (∀ f ∈ fs, f.name ≠ "_") -> zb1 l xs ys = some r ->
  (Op.eqFields (d+1) cs ds fs).run P w= .ok r w
 |[],l,r,hl,_,hr=>by
  simp at hl;subst hl;simp only[zb1,yaa]at hr;subst hr;simp[Op.eqFields]
 |f::fs,l,r,hl,hn,hr=>by
  simp only[ya2,ybB,yaT,yab,ybS,yaa]at hl;obtain⟨p,⟨k,hk,rfl⟩,l',hl',rfl⟩:=hl;simp only[zb1]at hr;split at hr
  ·rename_i x y hx hy
   split at hr
   ·rename_i a b hab hrest
    simp only[yaa]at hr;subst hr;obtain⟨u,hu1,hu2⟩:=hc _ x hx;obtain⟨v,hv1,hv2⟩:=hd _ y hy;have hcell:=zgD hk;have ih:=zgF (d:=d) hc hd fs l' b hl' (λg hg=>hn g (yaZ _ hg)) hrest
    have hne:=hn f (ybb ..);simp only[Op.eqFields,yag hne,Sem.run_bind,zgE hcell hu1,zgE hcell hv1,Result.andThen_ok,zio (d:=d) hk hab hu2 hv2];cases a
    ·simp
    ·simpa using ih
   ·cases hr
  ·cases hr
def zjn: ∀ {l l':List (Nat × Nat)} {xs ys:List D} {r:Bool},zb1 (l++l') xs ys=some r-> ∃a b,zb1 l xs ys=some a/\zb1 l' xs ys=some b/\r=(a && b)
 |[],l',xs,ys,r,h=>⟨true,r,rfl,h,by simp⟩
 |(o,k)::l,l',xs,ys,r,h=>by
  simp only[ya9,zb1]at h ⊢;split at h
  ·rename_i x y hx hy
   split at h
   ·rename_i a b ha hb
    obtain⟨a',b',h1,h2,rfl⟩:=zjn hb;simp only[yaa]at h;subst h;exact⟨a && a',b',by rw[ha,h1],h2,by simp[ydW]⟩
   ·cases h
  ·cases h
def zgG (o n:Nat): ∀ (l:List (Nat × Nat)) (xs ys:List D),l.all (λp=>decide (p.1<n))=true->zb1 (l.map λp=>(o+p.1,p.2)) xs ys=zb1 l ((xs.drop o).take n) ((ys.drop o).take n)
 |[],_,_,_=>rfl
 |(p,k)::l,xs,ys,h=>by
  simp only[ycB,yaw,yaB]at h;simp only[yaV,zb1,zgG o n l xs ys h.2,yaU,yag h.1,ya1]
def ziq {M:Nat->Nat->Prop} {xs ys:List D} {cs ds:Array Value} {d:Nat} (hc: ∀ (j:Nat) (x:D),xs[j]? =some x-> ∃u,cs[j]? =some u/\Rep M w u x) (hd: ∀ (j:Nat) (y:D),ys[j]? =some y-> ∃u,ds[j]? =some u/\Rep M w u y):
 ∀ (fs : List Field) (l : List (Nat × Nat)) (r : Bool), znm P fs = some l -> (∀ f ∈ fs, f.name ≠ "_") -> zb1 l xs ys = some r -> (Op.eqFields (d + 2) cs ds fs).run P w = .ok r w
 |[],l,r,hl,_,hr=>by
  simp only[znm,yaa]at hl;subst hl;simp only[zb1,yaa]at hr;subst hr;simp[Op.eqFields]
 |f::fs,l,r,hl,hn,hr=>by
  simp only[znm]at hl;split at hl
  ·rename_i l1 l2 h1 h2
   simp only[yaa]at hl;subst hl;obtain⟨a,b,ea,eb,rfl⟩:=zjn hr;have ih:=ziq (d:=d) hc hd fs l2 b h2 (λg hg=>hn g (yaZ _ hg)) eb
   have hne:=hn f (ybb ..);have key: ∃u v,(part f.type cs f.offset).run P w= .ok u w/\(part f.type ds f.offset).run P w= .ok v w/\(Op.equalIn (d+2) f.type u v).run P w= .ok a w:=by
    unfold zB1 at h1;split at h1
    ·rename_i k hk
     simp only[yaa]at h1;subst h1;simp only[zb1]at ea;split at ea
     ·rename_i x y hx hy
      split at ea
      ·rename_i a1 b1 hab hb1
       simp only[yaa]at hb1;subst hb1;simp only[ybY,yaa]at ea;subst ea;obtain⟨u,hu1,hu2⟩:=hc _ x hx;obtain⟨v,hv1,hv2⟩:=hd _ y hy;have hcell:=zgD hk;exact⟨u,v,zgE hcell hu1,zgE hcell hv1,zio (d:=d+1) hk hab hu2 hv2⟩
      ·cases ea
     ·cases ea
    ·split at h1
     ·rename_i l0 n hl0 hsz
      split at h1
      ·rename_i hag
       simp only[yaa]at h1;subst h1;rw[zgG _ _ _ _ _ hag.2]at ea;have hp: ∀cs:Array Value,(part f.type cs f.offset).run P w= .ok (.agg (cs.extract f.offset (f.offset+n))) w:=λcs=>by
        simp[part,zhC hag.1,zaz hsz]
       refine⟨_,_,hp cs,hp ds, ?_⟩;unfold zB0 at hl0;split at hl0
       ·rename_i fs' hs
        split at hl0
        ·rename_i hc0
         simp only[yaw,yc2,ybD,bne_iff_ne,ydG]at hc0;have hf:P.fieldsOf f.type=fs':=by simp[Program.fieldsOf,hs]
         rw[run_equalIn_struct w _ f.type _ _ (by rw[hf];exact hs) hc0.1,hf]
         have sub: ∀ {zs:List D} {es:Array Value},(∀ (j:Nat) (x:D),zs[j]? =some x-> ∃u,es[j]? =some u/\Rep M w u x)-> ∀ (j:Nat) (x:D),((zs.drop f.offset).take n)[j]? =some x-> ∃u,(es.extract f.offset (f.offset+n))[j]? =some u/\Rep M w u x:=λ{zs es} hz j x hj=>by
          rw[yaU]at hj;split at hj
          ·rename_i hjn
           rw[ya1]at hj;obtain⟨u,q1,q2⟩:=hz _ x hj;refine⟨u, ?_,q2⟩;have:=(Array.getElem?_eq_some_iff.1 q1).1;rw[Array.getElem?_extract,yag (by omega)]
           exact q1
          ·cases hj
         exact zgF (d:=d) (sub hc) (sub hd) fs'.toList l0 a hl0 hc0.2 ea
        ·cases hl0
       ·cases hl0
      ·cases h1
     ·cases h1
   obtain⟨u,v,k1,k2,k3⟩:=key;simp only[Op.eqFields,yag hne,Sem.run_bind,k1,k2,Result.andThen_ok,k3];cases a
   ·simp
   ·simpa using ih
  ·cases hl
def Rep.aggGet {M:Nat->Nat->Prop} {v:Value} {ds:List D} (hr:Rep M w v (.agg ds)): ∃cs:Array Value,v= .agg cs/\ ∀ (j:Nat) (c:D),ds[j]? =some c-> ∃u,cs[j]? =some u/\Rep M w u c:=by
 cases hr with
 |agg cs ds vs h1 h2 h3=>exact⟨cs,rfl,λj c hj=>⟨vs j,(h2 j c hj).1,h3 j c hj⟩⟩
def zny {op:BinOp} {t:TypeId} {A B:V} {r:Bool} {v u:Value} {Xo Yo:Operand} (hx:eqV P t A B=some r) (hv:zat X ρ h w v A) (hu:zat X ρ h w u B) (hop:op= .eql\/op= .neq):
 (do eqGuard op t Xo Yo v u;binOp op t v u:Sem Value).run P w= .ok (.bool (if op= .eql then r else !r)) w:=by
 have fin:(eqGuard op t Xo Yo v u).run P w= .ok () w->(∀a b,v= .string a->u= .string b->False)->(∀k a k' b,v= .int k a->u= .int k' b->False)->(Op.equal t v u).run P w= .ok r w->
  (∀k a b,v≠ .complex k a b)->(∀k a,v≠ .float k a)->
  (do eqGuard op t Xo Yo v u;binOp op t v u:Sem Value).run P w= .ok (.bool (if op= .eql then r else !r)) w:=λh1 h2 h3 h4 h5 h6=>by
  rw[Sem.run_bind,h1,Result.andThen_ok];rcases hop with rfl | rfl
  ·have:binOp .eql t v u=(do pure (.bool (<- Op.equal t v u))):=by
    cases v <;> cases u <;> first
     |rfl
     |(exfalso;exact h3 _ _ _ _ rfl rfl)
     |(exfalso;exact h2 _ _ rfl rfl)
     |(exfalso;exact h5 _ _ _ rfl)
     |(exfalso;exact h6 _ _ rfl)
   rw[this];simp[h4]
  ·have:binOp .neq t v u=(do pure (.bool (!(<- Op.equal t v u)))):=by
    cases v <;> cases u <;> first
     |rfl
     |(exfalso;exact h3 _ _ _ _ rfl rfl)
     |(exfalso;exact h2 _ _ rfl rfl)
     |(exfalso;exact h5 _ _ _ rfl)
     |(exfalso;exact h6 _ _ rfl)
   rw[this];simp[h4]
 have E: ∀v u,(∀d,(Op.equalIn (d+1) t v u).run P w= .ok r w)->(Op.equal t v u).run P w= .ok r w:=λv u h=>h 9999
 have plain: ∀v u,((∃a l c,v= .slice a l c)\/(∃a,v= .pointer a))->(eqGuard op t Xo Yo v u).run P w= .ok () w:=λv u hh=>by
  unfold eqGuard;rcases hh with ⟨a,l,c,rfl⟩ | ⟨a,rfl⟩ <;> rcases hop with rfl | rfl <;> simp
 unfold eqV at hx;split at hx
 ·rename_i e hs
  simp only[yaa]at hx;subst hx;have hv':v= .slice none 0 0:=hv;have hu':u= .slice none 0 0:=hu;subst hv';subst hu';exact fin (plain _ _ (.inl ⟨_,_,_,rfl⟩)) (by simp) (by simp) (E _ _ λd=>by simp[Op.equalIn,run_underlying hs]) (by simp) (by simp)
 ·rename_i e hs
  simp only[yaa]at hx;subst hx;obtain⟨a,c,rfl⟩:=hv;have hu':u= .slice none 0 0:=hu;subst hu';exact fin (plain _ _ (.inl ⟨_,_,_,rfl⟩)) (by simp) (by simp) (E _ _ λd=>by simp[Op.equalIn,run_underlying hs]) (by simp) (by simp)
 ·rename_i e y ys hs
  simp only[yaa]at hx;subst hx;have hu':u= .slice none 0 0:=hu;subst hu';cases hv with
  |list b off len cap sz _ vs e1 e2 e3 e4 e5=>
   exact fin (plain _ _ (.inl ⟨_,_,_,rfl⟩)) (by simp) (by simp) (E _ _ λd=>by simp[Op.equalIn,run_underlying hs]) (by simp) (by simp)
 ·rename_i ms hs
  split at hx
  ·rename_i hms
   simp only[yaa]at hx;subst hx;cases hv;cases hu;refine fin ?_ (by simp) (by simp) (E _ _ λd=>by simp[Op.equalIn,run_underlying hs]) (by simp) (by simp)
   unfold eqGuard;have g0: ∀d,(Op.eqGuardIn (d+1) t .nilIface .nilIface).run P w= .ok false w:=λd=>by
    simp[Op.eqGuardIn,run_underlying hs,hms]
   have g:(Op.eqGuardIn Op.maxDepth t .nilIface .nilIface).run P w= .ok false w:=g0 9999;generalize Op.eqGuardIn Op.maxDepth t .nilIface .nilIface=q at g ⊢;rcases hop with rfl | rfl <;> simp[g]
  ·cases hx
 ·rename_i ms t' z hs
  simp only[yaa]at hx;subst hx;cases hv;cases hu;refine fin ?_ (by simp) (by simp) (E _ _ λd=>by simp[Op.equalIn,run_underlying hs]) (by simp) (by simp)
  unfold eqGuard;rcases hop with rfl | rfl <;> simp
 ·rename_i ms t' z hs
  simp only[yaa]at hx;subst hx;cases hv;cases hu;refine fin ?_ (by simp) (by simp) (E _ _ λd=>by simp[Op.equalIn,run_underlying hs]) (by simp) (by simp)
  unfold eqGuard;rcases hop with rfl | rfl <;> simp
 ·rename_i e id off hs
  simp only[yaa]at hx;subst hx;obtain⟨o,b,c,h1,h2,h3,rfl⟩:=hv;cases hu;exact fin (plain _ _ (.inr ⟨_,rfl⟩)) (by simp) (by simp) (E _ _ λd=>by simp[Op.equalIn,run_underlying hs]) (by simp) (by simp)
 ·rename_i e hs
  simp only[yaa]at hx;subst hx;cases hv;cases hu;exact fin (plain _ _ (.inr ⟨_,rfl⟩)) (by simp) (by simp) (E _ _ λd=>by simp[Op.equalIn,run_underlying hs]) (by simp) (by simp)
 ·rename_i fs xs ys hs
  split at hx
  ·rename_i l hl
   unfold zce at hl;rw[hs]at hl;simp only at hl;split at hl
   ·rename_i hc
    simp only[yaw,yc2,ybD,bne_iff_ne,ydG]at hc;obtain⟨⟨c1,c2⟩,c3⟩:=hc;obtain⟨cs,rfl,hcs⟩:=Rep.aggGet hv;obtain⟨ds,rfl,hds⟩:=Rep.aggGet hu;have hf:P.fieldsOf t=fs:=by simp[Program.fieldsOf,hs]
    refine fin (run_eqGuard_agg w op t Xo Yo cs ds c2) (by simp) (by simp) ?_ (by simp) (by simp)
    show (Op.equalIn (9997+2+1) t (.agg cs) (.agg ds)).run P w=_
    rw[run_equalIn_struct w _ t cs ds (by rw[hf];exact hs) c1,hf]
    exact ziq hcs hds fs.toList l r hl c3 hx
   ·cases hl
  ·cases hx
 ·cases hx
def zsg {op:BinOp} {t:TypeId} {A B:V} {x:D} {v u:Value} {Xo Yo:Operand} (hx:zEO P op t A B=some x) (hv:zat X ρ h w v A) (hu:zat X ρ h w u B):
 ∃z,(do eqGuard op t Xo Yo v u;binOp op t v u:Sem Value).run P w= .ok z w/\Rep (Mut X ρ h) w z x:=by
 have hg: ∀k a k' b,(eqGuard op t Xo Yo (.int k a) (.int k' b)).run P w= .ok () w:=λk a k' b=>by
  unfold eqGuard;cases op <;> simp
 have hgs: ∀a b,(eqGuard op t Xo Yo (.string a) (.string b)).run P w= .ok () w:=λa b=>by
  unfold eqGuard;cases op <;> simp
 have hgb: ∀a b,(eqGuard op t Xo Yo (.bool a) (.bool b)).run P w= .ok () w:=λa b=>by
  unfold eqGuard;cases op <;> simp
 unfold zEO at hx;split at hx
 ·rename_i k a k' b
  cases hv;cases hu;split at hx
  ·unfold zi0 at hx
   split at hx
   ·cases hx
   ·rename_i hb
    simp only[yaa]at hx;subst hx;refine⟨_, ?_,.int _ _⟩;simp[hg,binOp,Op.shift,hb]
  ·unfold zi0 at hx
   split at hx
   ·cases hx
   ·rename_i hb
    simp only[yaa]at hx;subst hx;refine⟨_, ?_,.int _ _⟩;simp[hg,binOp,Op.shift,hb]
  ·rename_i hs1 hs2
   split at hx
   ·rename_i hk
    subst hk;have hbin:binOp op t (.int k a) (.int k b)=(match op with
     |.add | .sub | .mul=>Op.intArith op k a b
     |.quo | .rem=>Op.intDiv op k a b
     |.and | .or | .xor | .andNot=>Op.intBits op k a b
     |_=>Op.intCmp op a b):=by
     cases op <;> first | (exfalso;exact hs1 rfl) | (exfalso;exact hs2 rfl) | simp[binOp]
    cases op <;> simp only[zbq]at hx <;> (try (exfalso;first | exact hs1 rfl | exact hs2 rfl))
    case quo=>
     split at hx
     ·cases hx
     ·rename_i h0
      simp only[yaa]at hx;subst hx;exact⟨_,by simp[hg,hbin,Op.intDiv,h0],.int _ _⟩
    case rem=>
     split at hx
     ·cases hx
     ·rename_i h0
      simp only[yaa]at hx;subst hx;exact⟨_,by simp[hg,hbin,Op.intDiv,h0],.int _ _⟩
    all_goals
     simp only[yaa]at hx;subst hx
     first
      |exact⟨_,by rw[Sem.run_bind,hg,Result.andThen_ok,hbin];rfl,.int _ _⟩
      |exact⟨_,by rw[Sem.run_bind,hg,Result.andThen_ok,hbin];rfl,.bool _⟩
   ·cases hx
 ·rename_i a b
  cases hv;cases hu;unfold zuk at hx;split at hx
  ·split at hx
   ·rename_i hlt
    simp only[yaa]at hx;subst hx;refine⟨_, ?_,.str _⟩;simp[hgs,binOp,Op.stringOp];omega
   ·cases hx
  all_goals first
   |cases hx;done
   |(simp only[yaa]at hx;subst hx
     exact⟨_,by simp[hgs,binOp,Op.stringOp],.bool _⟩)
 ·rename_i a b
  cases hv;cases hu;split at hx
  ·rename_i ht
   have heq:(Op.equal t (.bool a) (.bool b)).run P w= .ok (a == b) w:=by
    exact znx 9999 ht a b
   split at hx
   ·simp only[yaa]at hx;subst hx
    exact⟨_,by simp[hgb,binOp,heq],.bool _⟩
   ·simp only[yaa]at hx;subst hx
    exact⟨_,by simp[hgb,binOp,heq],.bool _⟩
   ·cases hx
  ·cases hx
 ·split at hx
  ·simp only[yab]at hx
   obtain⟨r,hr,rfl⟩:=hx;exact⟨_,zny hr hv hu (.inl rfl),by simpa using Rep.bool r⟩
  ·simp only[yab]at hx
   obtain⟨r,hr,rfl⟩:=hx;exact⟨_,zny hr hv hu (.inr rfl),by simpa using Rep.bool (!r)⟩
  ·cases hx
def zun {op:UnOp} {A:V} {x:D} {v:Value} (hx:unD op A=some x) (hv:zat X ρ h w v A):
 ∃z,(Op.unary op v).run P w= .ok z w/\Rep (Mut X ρ h) w z x:=by
 unfold unD at hx;split at hx
 ·cases hv
  simp only[yaa]at hx;subst hx;exact⟨_,by simp[Op.unary,Op.intArith],.int _ _⟩
 ·cases hv
  simp only[yaa]at hx;subst hx;exact⟨_,rfl,.int _ _⟩
 ·cases hv
  simp only[yaa]at hx;subst hx;exact⟨_,by simp[Op.unary],.bool _⟩
 ·cases hx
end
end Go.Am
namespace Go.Am
section
variable {X:Nat->Nat->Prop} {ρ ρ' ρ'':Places} {h h' h'':List Obj} {w w' w'':World} {P:Program}
def zqR {t:TypeId} {n off:Nat} {cs:Array Value} (ha:agg? P t=some true) (hn:sizeOf? P t=some n):
 (part t cs off).run P w= .ok (.agg (cs.extract off (off+n))) w:=by
 simp[part,zhC ha,zaz hn]
def zqS {t:TypeId} {off:Nat} {cs:Array Value} {u:Value} (ha:agg? P t=some false) (hu:cs[off]? =some u):(part t cs off).run P w= .ok u w:=by
 simp[part,zhC ha,hu]
def zjo {t:TypeId} {M:Nat->Nat->Prop} {ds:List D} {off:Nat} {cs:Array Value} {x:V} (hx:zct P t ds off=some x) (hlen:cs.size=ds.length)
 (hc: ∀ (j:Nat) (c:D),ds[j]? =some c-> ∃u,cs[j]? =some u/\Rep M w u c/\c.isCell=true):
 ∃u y,(part t cs off).run P w= .ok u w/\x= .d y/\Rep M w u y:=by
 unfold zct at hx;split at hx
 ·rename_i ha
  split at hx
  ·rename_i n hn
   split at hx
   ·rename_i hle
    simp only[yaa]at hx;subst hx;refine⟨_,_,zqR ha hn,rfl,.agg _ _ (λj=>cs.getD (off+j) undef) (by simp[hlen];omega) (λj c hj=> ?_) (λj c hj=> ?_)⟩
    all_goals
     rw[yaU]at hj;split at hj
     ·rename_i hlt
      rw[ya1]at hj;obtain⟨u,h1,h2,h3⟩:=hc _ c hj;have h4:off+j<cs.size:=by have:=lt_of_getElem? hj;omega
      first
       |(refine⟨?_,h3⟩
         rw[Array.getElem?_extract,yag (by omega),h1]
         simp[yav,h1])
       |simpa[yav,h1]using h2
     ·cases hj
   ·cases hx
  ·cases hx
 ·rename_i ha
  simp only[yab]at hx;obtain⟨y,hy,rfl⟩:=hx;obtain⟨u,h1,h2,_⟩:=hc off y hy;exact⟨u,y,zqS ha h1,rfl,h2⟩
 ·cases hx
def zjp {t:TypeId} {vs:List V} {off:Nat} {cs:Array Value} {x:V} (hx:zds P t vs off=some x) (hc:zaM X ρ h w cs.toList vs):
 ∃u,(part t cs off).run P w= .ok u w/\zat X ρ h w u x:=by
 unfold zds at hx;split at hx
 ·rename_i ha
  split at hx
  ·rename_i n hn
   split at hx
   ·rename_i hle
    simp only[yaa]at hx;subst hx;refine⟨_,zqR ha hn,zeI ?_⟩;have:=(hc.drop off).take n;have e:(cs.extract off (off+n)).toList=(cs.toList.drop off).take n:=by
     rw[Array.toList_extract,List.extract_eq_take_drop,yaP]
    rwa [e]
   ·cases hx
  ·cases hx
 ·rename_i ha
  obtain⟨u,h1,h2,_⟩:=hc.2 off x hx;exact⟨u,zqS ha (by simpa using h1),h2.vrel⟩
 ·cases hx
def Rep.aggCells {M:Nat->Nat->Prop} {v:Value} {ds:List D} (hr:Rep M w v (.agg ds)): ∃cs:Array Value,v= .agg cs/\cs.size=ds.length/\
 ∀ (j:Nat) (c:D),ds[j]? =some c-> ∃u,cs[j]? =some u/\Rep M w u c/\c.isCell=true:=by
 cases hr with
 |agg cs _ vs h1 h2 h3=>exact⟨cs,rfl,h1,λj c hj=>⟨vs j,(h2 j c hj).1,h3 j c hj,(h2 j c hj).2⟩⟩
def zlh {v:Value} {cs:List V} (hv:zat X ρ h w v (.agg cs)): ∃us:Array Value,v= .agg us/\zaM X ρ h w us.toList cs:=by
 obtain⟨us,h1,h2,h3⟩:=hv;exact⟨us,h1,by simpa using h2,λj c hj=>by simpa using h3 j c hj⟩
def znz {t:TypeId} {A x:V} {f:Nat} {v:Value} (hx:zqO P t A f=some x) (hv:zat X ρ h w v A):
 ∃u,(Instr.field t v f).run P w= .ok u w/\zat X ρ h w u x:=by
 unfold zqO at hx;split at hx
 ·rename_i o ft hf
  unfold fieldOff? at hf;split at hf
  ·rename_i fs hs
   split at hf
   ·rename_i fd hfd
    split at hf
    ·rename_i n hsz
     simp only[yaa,yad]at hf;obtain⟨rfl,rfl⟩:=hf;split at hx
     ·rename_i ds
      obtain⟨cs,rfl,h1,h2⟩:=Rep.aggCells hv;obtain⟨u,y,h3,rfl,h4⟩:=zjo hx h1 h2;exact⟨u,by simp[Instr.field,run_underlying hs,hfd,asAgg,h3],h4⟩
     ·rename_i cs
      obtain⟨us,rfl,h1⟩:=zlh hv;obtain⟨u,h3,h4⟩:=zjp hx h1;exact⟨u,by simp[Instr.field,run_underlying hs,hfd,asAgg,h3],h4⟩
     ·cases hx
    ·cases hf
   ·cases hf
  ·cases hf
 ·cases hx
def znA {t:TypeId} {A I x:V} {v i:Value} (hx:zqP P t A I=some x) (hv:zat X ρ h w v A) (hi:zat X ρ h w i I):
 ∃u,(Instr.index t v i).run P w= .ok u w/\zat X ρ h w u x:=by
 unfold zqP at hx;split at hx
 ·rename_i s k n hs
  cases hv;cases hi;split at hx
  ·rename_i hn
   simp only[yab]at hx;obtain⟨b,hb,rfl⟩:=hx;exact⟨_,by simp[Instr.index,asIntOf,run_underlying hs,hn,hb],.int _ _⟩
  ·cases hx
 ·rename_i len e k n hs
  cases hi;split at hx
  ·rename_i hn
   split at hx
   ·rename_i ds sz hsz
    obtain⟨cs,rfl,h1,h2⟩:=Rep.aggCells hv;obtain⟨u,y,h3,rfl,h4⟩:=zjo hx h1 h2;exact⟨u,by simp[Instr.index,asIntOf,run_underlying hs,hn,zaz hsz,h3],h4⟩
   ·rename_i cs sz hsz
    obtain⟨us,rfl,h1⟩:=zlh hv;obtain⟨u,h3,h4⟩:=zjp hx h1;exact⟨u,by simp[Instr.index,asIntOf,run_underlying hs,hn,zaz hsz,h3],h4⟩
   ·cases hx
  ·cases hx
 ·cases hx
def zkS {A x:V} {i:Nat} {v:Value} (hx:zi2 i A=some x) (hv:zat X ρ h w v A):
 ∃u,(Instr.extract v i).run P w= .ok u w/\zat X ρ h w u x:=by
 unfold zi2 at hx;split at hx
 ·rename_i vs
  obtain⟨us,rfl,h1,h2⟩:=hv;obtain⟨u,h3,h4⟩:=h2 i x hx;exact⟨u,by simp[Instr.extract,h3],h4.vrel⟩
 ·cases hx
def zpx {C A B x:V} {c a b:Value} (hx:zw9 C A B=some x) (hc:zat X ρ h w c C) (ha:zat X ρ h w a A) (hb:zat X ρ h w b B):
 ∃t,c= .bool t/\zat X ρ h w (if t then a else b) x:=by
 unfold zw9 at hx;split at hx
 ·rename_i t
  cases hc;simp only[yaa]at hx;subst hx;refine⟨t,rfl, ?_⟩;cases t <;> simpa
 ·cases hx
def zjq {A x:V} {v:Value} (hx:zdQ h A=some (x,h')) (hv:zat X ρ h w v A):h'=h/\(∃a,v= .pointer (some a))/\zat X ρ h w v x:=by
 unfold zdQ at hx;split at hx
 ·simp only[yaa,yad]at hx;obtain⟨rfl,rfl⟩:=hx
  obtain⟨o,b,c,h1,h2,h3,rfl⟩:=id hv;exact⟨rfl,⟨_,rfl⟩,hv⟩
 ·simp only[yaa,yad]at hx;obtain⟨rfl,rfl⟩:=hx
  obtain⟨⟨a,rfl⟩,_⟩:=id hv;exact⟨rfl,⟨_,rfl⟩,hv⟩
 ·simp only[yaa,yad]at hx;obtain⟨rfl,rfl⟩:=hx
  obtain⟨b,o,vs,rfl,_⟩:=id hv;exact⟨rfl,⟨_,rfl⟩,hv⟩
 ·cases hx
/-! ### lists that are read -/
def zzM (M:Nat->Nat->Prop) (w:World) (v:Value) (xs:List D):Prop:=
 ∃a cap,v= .slice a xs.length cap/\((xs=[])\/ ∃b o sz,a=some ⟨b,o,none⟩/\(∀x∈xs,x.cells.length=sz)/\
  ∀ (j:Nat) (c:D),(flat xs)[j]? =some c-> ∃u,w.cell? ⟨b,o+j,none⟩=some u/\Rep M w u c/\c.isCell=true)
def znB {α β:Type} {f:α->Option β}: ∀ {l:List α} {r:List β},l.mapM f=some r->r.length=l.length/\ ∀ (j:Nat) (a:α),l[j]? =some a-> ∃b,r[j]? =some b/\f a=some b
 |[],r,hr=>by
  simp only[List.mapM_nil,ybS,yaa]at hr;subst hr;exact⟨rfl,λj a hj=>by simp at hj⟩
 |x::l,r,hr=>by
  simp only[ya2,ybB,yaT,ybS,yaa]at hr;obtain⟨y,hy,ys,hys,rfl⟩:=hr;obtain⟨h1,h2⟩:=znB hys;refine⟨by simp[h1],λj a hj=> ?_⟩
  cases j with
  |zero=>simp only[yaF,yaa]at hj;subst hj;exact⟨y,rfl,hy⟩
  |succ j=>simpa using h2 j a (by simpa using hj)
def zuo {xs:List D} (hs: ∀x∈xs,x.cells=[x]):flat xs=xs:=by
 induction xs with
 |nil=>rfl
 |cons x xs ih=>
  show x.cells++flat xs=_
  rw[hs x (by simp),ih λy hy=>hs y (by simp[hy])]
  rfl
def zsh {c:V} {x:D} {u:Value} (hx:zuj h c=some x) (H:HRel X ρ h w) (hv:V1 X ρ h w u c):Rep (Mut X ρ h) w u x/\x.cells=[x]/\x.isCell=true:=by
 unfold zuj at hx;split at hx
 ·simp only[yaa]at hx;subst hx
  exact⟨(zbs (V:= .nilS) (x:= .list []) (h':=h) rfl H hv).2,rfl,rfl⟩
 ·rename_i id n
  split at hx
  ·rename_i sz xs wm ho
   split at hx
   ·rename_i hc
    obtain⟨rfl,rfl⟩:=hc;simp only[yaa]at hx;subst hx;have hp:za6 h (.arr id xs.length)=some (.list xs,h):=by
     simp only[za6,ho,ybk];rw[zbT ho]
    exact⟨(zbs hp H hv).2,rfl,rfl⟩
   ·cases hx
  ·cases hx
 ·cases hx
def zdj {A:V} {xs:List D} {v:Value} (hx:elems? h A=some xs) (H:HRel X ρ h w) (hv:zat X ρ h w v A):zzM (Mut X ρ h) w v xs:=by
 unfold elems? at hx;split at hx
 ·simp only[yaa]at hx;subst hx
  cases hv with
  |nil a c=>exact⟨a,c,rfl,.inl rfl⟩
  |list b off len cap sz _ vs e1 e2 e3 e4 e5=>
   subst e1;exact⟨_,cap,rfl,.inr ⟨b,off,sz,rfl,e3,λj c hj=>⟨vs j,(e4 j c hj).1,e5 j c hj,(e4 j c hj).2.2⟩⟩⟩
 ·simp only[yaa]at hx;subst hx
  exact⟨none,0,hv,.inl rfl⟩
 ·simp only[yaa]at hx;subst hx
  obtain⟨a,c,rfl⟩:=hv;exact⟨some a,c,rfl,.inl rfl⟩
 ·rename_i id n
  split at hx
  ·rename_i sz ys wm ho
   split at hx
   ·rename_i hn
    simp only[yaa]at hx;subst hx;obtain⟨_,sz2,xs2,wm2,r,h1,h2,h3,h4⟩:=hv;rw[ho]at h1;cases h1;have hav:=h4 hn;obtain⟨r',h5,h6⟩:=H.obj id _ ho;rw[h2]at h5;cases h5;have h7:=h6.2;cases r with
    |none=>
     subst h7;obtain⟨rfl,a,rfl⟩:=hav;exact⟨a,0,rfl,.inl rfl⟩
    |some p=>
     obtain⟨b,cap⟩:=p;obtain⟨cur,e,fz,k1,k2,k3,k4,k5,k6,k7,k8⟩:=h7;simp only[zin]at hav;subst hav;subst hn;exact⟨_,cap,rfl,.inr ⟨b,0,sz,rfl,k6,λj c hj=>by
      obtain⟨u,m1,m2,m3⟩:=k8 j c hj;exact⟨u,by rw[zap k1,yaX,m1],m2,m3⟩⟩⟩
   ·cases hx
  ·cases hx
 ·rename_i id tot off len
  split at hx
  ·rename_i sz ys wm ho
   split at hx
   ·rename_i hn
    simp only[yaa]at hx;subst hx;obtain⟨_,sz2,xs2,wm2,r,h1,h2,h3,h4⟩:=hv;rw[ho]at h1;cases h1;obtain⟨hle,a,c,rfl,hlc,_,hpos⟩:=h4 hn;have hcl:(cut ys off (off+len)).length=len:=by rw[zdS (by omega)];omega
    rcases ybq len with e | e
    ·subst e
     exact⟨a,c,by rw[hcl],.inl (yaE hcl)⟩
    ·obtain⟨b,cap,rfl,rfl⟩:=hpos e
     obtain⟨r',h5,h6⟩:=H.obj id _ ho;rw[h2]at h5;cases h5;obtain⟨cur,e',fz,k1,k2,k3,k4,k5,k6,k7,k8⟩:=h6.2;exact⟨_,c,by rw[hcl],.inr ⟨b,off*sz,sz,rfl,λx hx=>k6 x (zpu hx),λj c hj=>by
      obtain⟨u,m1,m2,m3⟩:=k8 _ c (zgB k6 (by omega) (by omega) hj)
      exact⟨u,by rw[zap k1,m1],m2,m3⟩⟩⟩
   ·cases hx
  ·cases hx
 ·rename_i id
  split at hx
  ·rename_i cs ho
   obtain⟨cs',b,c,h1,h2,rfl⟩:=hv;rw[ho]at h1;cases h1;obtain⟨hl,hg⟩:=znB hx;obtain⟨r,h5,h6⟩:=H.obj id _ ho;rw[h2]at h5;cases h5;obtain⟨b',c',cur,e,fz,k0,k1,k2,k3,k4⟩:=h6;cases k0;have key: ∀ (j:Nat) (x:D),xs[j]? =some x-> ∃u,cur[j]? =some u/\Rep (Mut X ρ h) w u x/\x.cells=[x]/\x.isCell=true:=λj x hj=>by
    obtain⟨y,hy⟩: ∃y,cs[j]? =some y:=⟨cs[j]'(by have:=lt_of_getElem? hj;omega),by simp⟩
    obtain⟨x',e1,e2⟩:=hg j y hy;rw[hj]at e1;cases e1;obtain⟨u,m1,m2,m3⟩:=k4 j y hy;exact⟨u,m1,zsh e2 H m2⟩
   have hone: ∀x∈xs,x.cells.length=1:=λx hx=>by
    obtain⟨j,hj⟩:=ybo hx;obtain⟨u,_,_,e2,_⟩:=key j x hj;rw[e2];rfl
   have hflat:flat xs=xs:=zuo λx hx=>by
    obtain⟨j,hj⟩:=ybo hx;obtain⟨u,_,_,e2,_⟩:=key j x hj;exact e2
   exact⟨some ⟨b,0,none⟩,cs.length,by rw[hl],.inr ⟨b,0,1,rfl,hone,λj c hj=>by
    rw[hflat]at hj;obtain⟨u,m1,m2,_,m4⟩:=key j c hj;exact⟨u,by rw[zap k1,yaX,m1],m2,m4⟩⟩⟩
  ·cases hx
 ·cases hx
def zsi {t:TypeId} {A:V} {n:Nat} {v:Value} {ty:TypeId} {ts:Array TypeId} {vs:Array Value} (hx:zyT P h t A=some n) (H:HRel X ρ h w) (hv:zat X ρ h w v A)
 (ht:ts[0]? =some t) (hvs:vs[0]? =some v):(Builtin.len_ ts ty vs).run P w= .ok (.int .i64 n) w:=by
 unfold zyT at hx;split at hx
 ·rename_i s hs
  cases hv;simp only[yaa]at hx;subst hx;simp[Builtin.len_,ht,hvs,run_underlying hs,goInt]
 ·rename_i e xs hs
  simp only[yaa]at hx;subst hx;cases hv with
  |nil a c=>simp[Builtin.len_,ht,hvs,run_underlying hs,goInt]
  |list b off len cap sz _ vs' e1 e2 e3 e4 e5=>simp[Builtin.len_,ht,hvs,run_underlying hs,goInt,e1]
 ·rename_i e hs
  simp only[yaa]at hx;subst hx;have hv':v= .slice none 0 0:=hv;subst hv';simp[Builtin.len_,ht,hvs,run_underlying hs,goInt]
 ·rename_i e id m hs
  split at hx
  ·rename_i sz xs wm ho
   split at hx
   ·rename_i hn
    simp only[yaa]at hx;subst hx;have hr:=zdj (ρ:=ρ) (A:= .arr id m) (xs:=xs) (v:=v) (by simp[elems?,ho,hn]) H hv
    obtain⟨a,cap,rfl,_⟩:=hr;simp[Builtin.len_,ht,hvs,run_underlying hs,goInt,hn]
   ·cases hx
  ·cases hx
 ·rename_i e hs
  simp only[yaa]at hx;subst hx;obtain⟨a,c,rfl⟩:=hv;simp[Builtin.len_,ht,hvs,run_underlying hs,goInt]
 ·rename_i e id tot off len hs
  split at hx
  ·rename_i sz xs wm ho
   split at hx
   ·rename_i hn
    simp only[yaa]at hx;subst hx;obtain⟨_,sz2,xs2,wm2,r,h1,h2,h3,h4⟩:=hv;rw[ho]at h1;cases h1;obtain⟨hle,a,c,rfl,_⟩:=h4 hn;simp[Builtin.len_,ht,hvs,run_underlying hs,goInt]
   ·cases hx
  ·cases hx
 ·rename_i e id hs
  split at hx
  ·rename_i cs ho
   simp only[yaa]at hx;subst hx;obtain⟨cs',b,c,h1,h2,rfl⟩:=hv;rw[ho]at h1;cases h1;simp[Builtin.len_,ht,hvs,run_underlying hs,goInt]
  ·cases hx
 ·rename_i k e hs
  simp only[yaa]at hx;subst hx;simp[Builtin.len_,ht,hvs,run_underlying hs,goInt]
 ·cases hx
def zsj {A B x:V} {v u:Value} (hx:min2 A B=some x) (hv:zat X ρ h w v A) (hu:zat X ρ h w u B): ∃z,(Builtin.min2 v u).run P w= .ok z w/\zat X ρ h w z x:=by
 unfold min2 at hx;split at hx
 ·cases hv;cases hu
  split at hx
  ·rename_i hk
   subst hk;simp only[yaa]at hx;subst hx;exact⟨_,rfl,.int _ _⟩
  ·cases hx
 ·cases hx
def zsk {A B x:V} {v u:Value} (hx:max2 A B=some x) (hv:zat X ρ h w v A) (hu:zat X ρ h w u B): ∃z,(Builtin.max2 v u).run P w= .ok z w/\zat X ρ h w z x:=by
 unfold max2 at hx;split at hx
 ·cases hv;cases hu
  split at hx
  ·rename_i hk
   subst hk;simp only[yaa]at hx;subst hx;exact⟨_,rfl,.int _ _⟩
  ·cases hx
 ·cases hx
def zf7 {f:V->V->Option V} {g:Value->Value->Sem Value} (hf: ∀A B x v u,f A B=some x->zat X ρ h w v A->zat X ρ h w u B-> ∃z,(g v u).run P w= .ok z w/\zat X ρ h w z x):
 ∀ (r:List V) (us:List Value) (A x:V) (v:Value),zpq f A r=some x->zat X ρ h w v A->us.length=r.length->(∀ (j:Nat) (c:V),r[j]? =some c-> ∃u,us[j]? =some u/\zat X ρ h w u c)->
  ∃z,(us.foldlM g v).run P w= .ok z w/\zat X ρ h w z x
 |[],us,A,x,v,hx,hv,hl,_=>by
  simp only[zpq,yaa]at hx;subst hx;have:us=[]:=yaE (by simpa using hl)
  subst this;exact⟨v,rfl,hv⟩
 |B::r,us,A,x,v,hx,hv,hl,hc=>by
  simp only[zpq]at hx;split at hx
  ·rename_i z hz
   cases us with
   |nil=>simp at hl
   |cons u us=>
    obtain⟨u',hu1,hu2⟩:=hc 0 B (by simp)
    simp at hu1;subst hu1;obtain⟨z',h1,h2⟩:=hf A B z v u hz hv hu2;obtain⟨z'',h3,h4⟩:=zf7 hf r us z x z' hx h2 (by simpa using hl) λj c hj=>by simpa using hc (j+1) c (by simpa using hj)
    exact⟨z'',by simp[List.foldlM_cons,h1,h3],h4⟩
  ·cases hx
end
end Go.Am
namespace Go.Am
section
variable {X:Nat->Nat->Prop} {ρ ρ' ρ'':Places} {h h' h'':List Obj} {w w' w'':World} {P:Program}
def zmp {xs:List D} (hs: ∀x∈xs,x.isCell=true):flat xs=xs:=by
 induction xs with
 |nil=>rfl
 |cons x xs ih=>
  simp only[flat,ya5]at ih ⊢;rw[D.cells_one (hs x (by simp)),ih λy hy=>hs y (by simp[hy])]
  rfl
def zxd {xs:List D} {bs:List UInt8} (hm:xs.mapM byteOf?=some bs): ∃ns:List Int,xs=ns.map (D.int .u8)/\bs=ns.map λn=>UInt8.ofNat n.toNat:=by
 induction xs generalizing bs with
 |nil=>simp at hm;subst hm;exact⟨[],rfl,rfl⟩
 |cons x xs ih=>
  simp only[ya2,ybB,yaT,ybS,yaa]at hm;obtain⟨b,hb,bs',hbs,rfl⟩:=hm;obtain⟨ns,rfl,rfl⟩:=ih hbs;unfold byteOf? at hb;split at hb
  ·rename_i n
   simp only[yaa]at hb;subst hb;exact⟨n::ns,rfl,rfl⟩
  ·cases hb
def zxe {xs:List D} {ns:List Int} (hm:xs.mapM runeOf?=some ns):xs=ns.map (D.int .i32):=by
 induction xs generalizing ns with
 |nil=>simp at hm;subst hm;rfl
 |cons x xs ih=>
  simp only[ya2,ybB,yaT,ybS,yaa]at hm;obtain⟨b,hb,bs',hbs,rfl⟩:=hm;rw[ih hbs];unfold runeOf? at hb;split at hb
  ·simp only[yaa]at hb;subst hb;rfl
  ·cases hb
def zeM (f:Value->ByteArray->Sem (ForInStep ByteArray)) (hf: ∀ (n:Int) (r:ByteArray),(f (.int .i32 n) r).run P w= .ok (.yield (r++Utf8.encode n)) w):
 ∀ (ns:List Int) (s:ByteArray),(forIn (ns.map (Value.int .i32)) s f).run P w= .ok (ns.foldl (λs n=>s++Utf8.encode n) s) w
 |[],s=>by simp[Sem.run_pure]
 |n::ns,s=>by
  rw[yaV,List.forIn_cons,Sem.run_bind,hf];simp only[Result.andThen_ok];exact zeM f hf ns _
def zdT (a:Addr) (len cap:Nat) (ns:List Int) (h:(loadCells a len).run P w= .ok (ns.map (Value.int .i32)).toArray w):
 (Conv.runesToString (.slice (some a) len cap)).run P w= .ok (.string (zB2 ns)) w:=by
 unfold Conv.runesToString;simp only[Sem.run_bind,h,Result.andThen_ok,List.forIn_toArray];rw[zeM _ (by intro n r;simp[Sem.run_pure])]
 simp[Sem.run_pure,zB2]
def zsl (ns:List Int) (s:ByteArray):ns.foldl (λr n=>r.push (UInt8.ofNat n.toNat)) s=⟨(s.data.toList++ns.map λn=>UInt8.ofNat n.toNat).toArray⟩:=by
 induction ns generalizing s with
 |nil=>simp
 |cons n ns ih=>
  rw[ybc,ih];congr 2;simp[ByteArray.push]
def zzM.ints {M:Nat->Nat->Prop} {v:Value} {ns:List Int} {k:IntKind} (hr:zzM M w v (ns.map (D.int k))):
 ∃a cap,v= .slice a ns.length cap/\(ns=[]\/ ∃b o,a=some ⟨b,o,none⟩/\zpw w b o (ns.map (Value.int k))):=by
 obtain⟨a,cap,rfl,hc⟩:=hr;refine⟨a,cap,by simp, ?_⟩
 rcases hc with e | ⟨b,o,sz,rfl,h1,h2⟩
 ·exact .inl (by simpa using e)
 ·refine .inr ⟨b,o,rfl,λj u hj=> ?_⟩
  simp only[yau,yab]at hj;obtain⟨n,hn,rfl⟩:=hj;rw[zmp (by intro x hx;simp at hx;obtain⟨n,_,rfl⟩:=hx;rfl)]at h2
  obtain⟨u,h3,h4,_⟩:=h2 j (.int k n) (by simp[hn])
  cases h4;exact h3
def zjr {src dst:TypeId} {A x:V} {v:Value} (hx:za1 P h src dst A=some x) (H:HRel X ρ h w) (hv:zat X ρ h w v A):
 ∃u y,(convert src dst v).run P w= .ok u w/\x= .d y/\Rep (Mut X ρ h) w u y:=by
 unfold za1 at hx;split at hx
 ·rename_i ds k k' n hs hd
  cases hv;simp only[yaa]at hx;subst hx;exact⟨_,_,by simp[convert,run_underlying hs,run_underlying hd,Conv.intToInt],rfl,.int _ _⟩
 ·rename_i s hs hd
  cases hv;simp only[yaa]at hx;subst hx;exact⟨_,_,by simp[convert,run_underlying hs,run_underlying hd],rfl,.str _⟩
 ·rename_i e hs hd
  split at hx
  ·rename_i xs he hxs
   simp only[yab]at hx;obtain⟨bs,hbs,rfl⟩:=hx;obtain⟨ns,rfl,rfl⟩:=zxd hbs;obtain⟨a,cap,rfl,hc⟩:=(zdj hxs H hv).ints;refine⟨_,_, ?_,rfl,.str _⟩;rw[run_convert_bytes_string w src dst e a ns.length cap hs he hd];rcases hc with rfl | ⟨b,o,rfl,hl⟩
   ·cases a with
    |none=>rfl
    |some a=>
     exact run_bytesToString (P:=P) w a 0 cap [] (by simpa using run_loadCells_list (P:=P) w a [] (by simp))
   ·have hld:=run_loadCells_list (P:=P) w ⟨b,o,none⟩ (ns.map (Value.int .u8)) λj u hj=>by
     rw[Addr.add_lit];exact hl j u hj
    rw[yah]at hld;rw[run_bytesToString (P:=P) w _ ns.length cap ns hld,zsl];rfl
  ·rename_i xs he hxs
   simp only[yab]at hx;obtain⟨ns,hns,rfl⟩:=hx;rw[zxe hns]at hxs;obtain⟨a,cap,rfl,hc⟩:=(zdj hxs H hv).ints;refine⟨_,_, ?_,rfl,.str _⟩;have hconv:(convert src dst (.slice a ns.length cap)).run P w=(Conv.runesToString (.slice a ns.length cap)).run P w:=by
    simp[convert,run_underlying hs,run_underlying hd,run_underlying he]
   rw[hconv];rcases hc with rfl | ⟨b,o,rfl,hl⟩
   ·cases a with
    |none=>rfl
    |some a=>exact zdT a 0 cap [] (by simpa using run_loadCells_list (P:=P) w a [] (by simp))
   ·have hld:=run_loadCells_list (P:=P) w ⟨b,o,none⟩ (ns.map (Value.int .i32)) λj u hj=>by
     rw[Addr.add_lit];exact hl j u hj
    rw[yah]at hld;exact zdT _ ns.length cap ns hld
  ·cases hx
 ·cases hx
/-! ### slices -/
def zjs {A:V} {n:Nat} {v:Value} (hx:natOf? A=some n) (hv:zat X ρ h w v A): ∃k,v= .int k n:=by
 unfold natOf? at hx;split at hx
 ·rename_i k m
  cases hv;split at hx
  ·rename_i hm
   simp only[yaa]at hx;subst hx;exact⟨k,by rw[ydo hm]⟩
  ·cases hx
 ·cases hx
def zbK {n cap l u:Nat} {lo hi:Option V} {vlo vhi:Option Value} {zdC:Bool} (hb:bounds? n lo hi=some (l,u)) (hcap:n<=cap)
 (hlo: ∀A,lo=some A-> ∃v,vlo=some v/\zat X ρ h w v A) (hlo0:lo=none->vlo=none)
 (hhi: ∀A,hi=some A-> ∃v,vhi=some v/\zat X ρ h w v A) (hhi0:hi=none->vhi=none):
 l<=u/\u<=n/\(Instr.sliceBounds zdC n cap vlo vhi none).run P w= .ok (l,u,cap) w:=by
 unfold bounds? at hb;split at hb
 ·rename_i u' l' hu hl
  split at hb
  ·rename_i hle
   simp only[yaa,yad]at hb;obtain⟨rfl,rfl⟩:=hb;refine⟨hle.1,hle.2, ?_⟩;have hsb: ∀ (k:IntKind) (i y:Nat) (c:BoundsCode),i<=y->(Instr.sliceBound (.int k i) y c).run P w= .ok i w:=λk i y c hi=>run_sliceBound w k i y c (by omega) (by omega)
   have hi':(hi=none/\vhi=none/\u'=n)\/ ∃k,vhi=some (.int k u'):=by
    cases hi with
    |none=>simp only[bound?,yaa]at hu;exact .inl ⟨rfl,hhi0 rfl,hu.symm⟩
    |some A=>
     obtain⟨v,e,hv⟩:=hhi A rfl;obtain⟨k,rfl⟩:=zjs (n:=u') hu hv;exact .inr ⟨k,e⟩
   have lo':(lo=none/\vlo=none/\l'=0)\/ ∃k,vlo=some (.int k l'):=by
    cases lo with
    |none=>simp only[bound?,yaa]at hl;exact .inl ⟨rfl,hlo0 rfl,hl.symm⟩
    |some A=>
     obtain⟨v,e,hv⟩:=hlo A rfl;obtain⟨k,rfl⟩:=zjs (n:=l') hl hv;exact .inr ⟨k,e⟩
   rcases hi' with ⟨_,rfl,rfl⟩ | ⟨k,rfl⟩ <;> rcases lo' with ⟨_,rfl,rfl⟩ | ⟨k',rfl⟩
   ·simp[Instr.sliceBounds]
   ·simp[Instr.sliceBounds,hsb k' l' _ _ hle.1]
   ·simp[Instr.sliceBounds,hsb k u' cap _ (by omega)]
   ·simp[Instr.sliceBounds,hsb k u' cap _ (by omega),hsb k' l' u' _ hle.1]
  ·cases hb
 ·cases hb
def zbL {n:Nat}: ∀ {xs:List D},zam n xs=true-> ∀x∈xs,x.cells.length=n
 |[],_,x,hx=>by simp at hx
 |y::ys,ha,x,hx=>by
  simp only[zam,yaw,ycN]at ha;rcases List.mem_cons.1 hx with rfl | hx
  ·exact ha.1
  ·exact zbL ha.2 x hx
def Rep.cut {M:Nat->Nat->Prop} {v:Value} {xs:List D} {t e:TypeId} {sz l u:Nat} {vlo vhi:Option Value} (hv:Rep M w v (.list xs)) (hs:P.underlying t=some (.slice e)) (hsz:sizeOf? P e=some sz)
 (hok:l=0\/ ∀x∈xs,x.cells.length=sz)
 (hb: ∀cap,xs.length<=cap->l<=u/\u<=xs.length/\(Instr.sliceBounds true xs.length cap vlo vhi none).run P w= .ok (l,u,cap) w):
 ∃z,(Instr.sliceAt t v vlo vhi none).run P w= .ok z w/\Rep M w z (.list (Am.cut xs l u)):=by
 have hrun: ∀a len cap,len=xs.length->xs.length<=cap->(Instr.sliceAt t (.slice a len cap) vlo vhi none).run P w=
  .ok (.slice (if cap=l then a else a.map (·.add (l*sz))) (u - l) (cap - l)) w:=λa len cap e1 e2=>by
  obtain⟨_,_,h3⟩:=hb cap e2;simp[Instr.sliceAt,run_underlying hs,Instr.slice,e1,h3,zaz hsz]
 cases hv with
 |nil a c han=>
  obtain⟨h1,h2,_⟩:=hb c (yai _);simp only[yaz,Nat.le_zero_eq]at h2;subst h2;refine⟨_,hrun a 0 c rfl (yai _), ?_⟩;simp only[Am.cut,List.take_nil,List.drop_nil,Nat.zero_sub];refine .nil _ _ λe=> ?_
  have:a=none:=by
   split at e
   ·exact e
   ·simpa using e
  have:=han this;omega
 |list b off len cap sz' _ vs e1 e2 e3 e4 e5=>
  obtain⟨h1,h2,_⟩:=hb cap (by omega)
  refine⟨_,hrun _ len cap e1 (by omega), ?_⟩
  by_cases hcl:cap=l
  ·have hul:u - l=0:=by omega
   have:Am.cut xs l u=[]:=yaE (by rw[zdS h2,hul])
   rw[this,hul];exact .nil _ _ λe=>by rw[yag hcl]at e;cases e
  ·rw[yac hcl]
   have hmul:l*sz=l*sz':=by
    rcases hok with rfl | hok
    ·simp
    ·rcases ybq xs.length with hx0 | hx0
     ·have:l=0:=by omega
      simp[this]
     ·obtain⟨x,hx⟩:=ydd hx0
      rw[<- hok x hx,e3 x hx]
   simp only[yaM,Addr.add_lit,hmul];refine .list b (off+l*sz') (u - l) (cap - l) sz' _ (λj=>vs (l*sz'+j)) (zdS h2).symm (by omega) (λx hx=>e3 x (zpu hx)) (λj c hj=> ?_) (λj c hj=> ?_)
   ·have:=e4 _ c (zgB e3 h2 h1 hj)
    rwa [<- yaY]at this
   ·exact e5 _ c (zgB e3 h2 h1 hj)
def zse.slice {r:zdi} {t e:TypeId} {sz off len l u:Nat} {v:Value} {vlo vhi:Option Value} (hv:zse r sz off len v) (hs:P.underlying t=some (.slice e)) (hsz:sizeOf? P e=some sz)
 (hb: ∀cap,len<=cap->l<=u/\u<=len/\(Instr.sliceBounds true len cap vlo vhi none).run P w= .ok (l,u,cap) w):
 ∃z,(Instr.sliceAt t v vlo vhi none).run P w= .ok z w/\zse r sz (off+l) (u - l) z/\zdC z:=by
 obtain⟨a,c,rfl,hlc,han,hpos⟩:=hv;obtain⟨h1,h2,h3⟩:=hb c hlc;refine⟨.slice (if c=l then a else a.map (·.add (l*sz))) (u - l) (c - l),by simp[Instr.sliceAt,run_underlying hs,Instr.slice,h3,zaz hsz],⟨_,_,rfl,by omega,λe=> ?_,λhp=> ?_⟩,⟨_,_,_,rfl⟩⟩
 ·have:a=none:=by
   split at e
   ·exact e
   ·simpa using e
  have:=han this;omega
 ·obtain⟨b,cap,rfl,rfl⟩:=hpos (by omega)
  refine⟨b,cap,rfl, ?_⟩;rw[yac (by omega),yaM,Addr.add_lit,ya8]
def zhD (H:HRel X ρ h w) {id sz:Nat} {xs:List D} {wm:Nat} (ho:h[id]? =some (.arr sz xs wm)) {v:Value} (hv:V1 X ρ h w v (.arr id xs.length)): ∃r,ρ[id]? =some r/\zse r sz 0 xs.length v:=by
 obtain⟨_,sz',xs',wm',r,h1,h2,_,h4⟩:=hv;rw[ho]at h1;cases h1;have hav:=h4 rfl;obtain⟨r',h5,h6⟩:=H.obj id _ ho;rw[h2]at h5;cases h5;refine⟨r,h2, ?_⟩;have h7:=h6.2;cases r with
 |none=>
  subst h7;obtain⟨_,a,rfl⟩:=hav;exact⟨a,0,rfl,yaj _,λ_=>rfl,λh=>absurd h (by simp)⟩
 |some p=>
  obtain⟨b,cap⟩:=p;simp only[zin]at hav;subst hav;obtain⟨cur,e,fz,k1,k2,k3,_⟩:=h7;exact⟨_,cap,rfl,k3,λe=>(by cases e),λ_=>⟨b,cap,rfl,by simp⟩⟩
def znC {t:TypeId} {A x:V} {lo hi mx:Option V} {v:Value} {vlo vhi vmx:Option Value} (hx:zil P h t A lo hi mx=some x) (H:HRel X ρ h w) (hv:zat X ρ h w v A)
 (hlo: ∀A,lo=some A-> ∃v,vlo=some v/\zat X ρ h w v A) (hlo0:lo=none->vlo=none)
 (hhi: ∀A,hi=some A-> ∃v,vhi=some v/\zat X ρ h w v A) (hhi0:hi=none->vhi=none) (hmx0:mx=none->vmx=none):
 ∃z,(Instr.sliceAt t v vlo vhi vmx).run P w= .ok z w/\zat X ρ h w z x:=by
 unfold zil at hx;split at hx
 ·rename_i s hs
  cases hv;rw[hmx0 rfl];split at hx
  ·rename_i l u hb
   simp only[yaa]at hx;subst hx;obtain⟨h1,h2,h3⟩:=zbK (P:=P) (zdC:=false) hb (yaj _) hlo hlo0 hhi hhi0;exact⟨_,by simp[Instr.sliceAt,run_underlying hs,Instr.slice,h3],.str _⟩
  ·cases hx
 ·rename_i e xs hs
  rw[hmx0 rfl];split at hx
  ·rename_i l u sz hb hsz
   split at hx
   ·rename_i hok
    simp only[yaa]at hx;subst hx;refine Rep.cut hv hs hsz ?_ λcap hc=>zbK (P:=P) hb hc hlo hlo0 hhi hhi0
    simp only[ybr,ycN]at hok;exact hok.imp id zbL
   ·cases hx
  ·cases hx
 ·rename_i e hs
  rw[hmx0 rfl];split at hx
  ·rename_i p sz hb hsz
   obtain⟨l,u⟩:=p;simp only[yaa]at hx;subst hx;have hv':v= .slice none 0 0:=hv;subst hv';obtain⟨h1,h2,h3⟩:=zbK (P:=P) (zdC:=true) hb (yaj _) hlo hlo0 hhi hhi0;refine⟨.slice none 0 0, ?_,rfl⟩;have hu:u=0:=by omega
   have hl:l=0:=by omega
   subst hu;subst hl;simp[Instr.sliceAt,run_underlying hs,Instr.slice,h3,zaz hsz]
  ·cases hx
 ·rename_i e id n hs
  rw[hmx0 rfl];split at hx
  ·rename_i sz xs wm sz' ho hsz
   split at hx
   ·rename_i hc
    obtain⟨rfl,hw,rfl⟩:=hc;split at hx
    ·rename_i l u hb
     simp only[yaa]at hx;subst hx;have hr:=znw H ho hw hv;obtain⟨r,hr1,hr2⟩:=H.obj id _ ho;refine Rep.cut hr hs hsz ?_ λcap hc=>zbK (P:=P) hb hc hlo hlo0 hhi hhi0
     have h7:=hr2.2;cases r with
     |none=>subst h7;exact .inr λx hx=>by simp at hx
     |some p=>exact .inr h7.choose_spec.choose_spec.choose_spec.2.2.2.2.2.1
    ·cases hx
   ·split at hx
    ·rename_i hc
     obtain⟨rfl,rfl⟩:=hc;split at hx
     ·rename_i l u hb
      simp only[yaa]at hx;subst hx;obtain⟨r,hr,hw⟩:=zhD H ho hv;have hbb:=λcap hc=>zbK (P:=P) (zdC:=true) (cap:=cap) hb hc hlo hlo0 hhi hhi0
      obtain⟨h1,h2,_⟩:=hbb xs.length (yaj _);obtain⟨z,k1,k2,k3⟩:=hw.slice hs hsz hbb;rw[yaX]at k2;exact⟨z,k1,k3,sz,xs,_,r,ho,hr,yaj _,λ_=>⟨by omega,k2⟩⟩
     ·cases hx
    ·cases hx
  ·cases hx
 ·rename_i e id tot off len hs
  rw[hmx0 rfl];split at hx
  ·rename_i sz xs wm sz' ho hsz
   split at hx
   ·rename_i hc
    obtain⟨rfl,rfl⟩:=hc;split at hx
    ·rename_i l u hb
     simp only[yaa]at hx;subst hx;obtain⟨_,sz2,xs2,wm2,r,h1,h2,h3,h4⟩:=hv;rw[ho]at h1;cases h1;obtain⟨hle,hw⟩:=h4 rfl;have hbb:=λcap hc=>zbK (P:=P) (zdC:=true) (cap:=cap) hb hc hlo hlo0 hhi hhi0
     obtain⟨g1,g2,_⟩:=hbb len (yaj _);obtain⟨z,k1,k2,k3⟩:=hw.slice hs hsz hbb;exact⟨z,k1,k3,sz,xs,wm,r,ho,h2,yaj _,λ_=>⟨by omega,k2⟩⟩
    ·cases hx
   ·cases hx
  ·cases hx
 ·rename_i e hs
  rw[hmx0 rfl];split at hx
  ·rename_i p sz hb hsz
   obtain⟨l,u⟩:=p;simp only[yaa]at hx;subst hx;obtain⟨a,c,rfl⟩:=hv;obtain⟨h1,h2,h3⟩:=zbK (P:=P) (cap:=c) (zdC:=true) hb (yai _) hlo hlo0 hhi hhi0;have hu:u=0:=by omega
   have hl:l=0:=by omega
   subst hu;subst hl;refine⟨.slice (if c=0 then some a else some (a.add 0)) 0 (c - 0),by simp[Instr.sliceAt,run_underlying hs,Instr.slice,h3,zaz hsz], ?_⟩
   refine⟨a,c, ?_⟩;simp[Addr.add]
  ·cases hx
 ·cases hx
/-! ### interface values -/
def znD {t:TypeId} {A x:V} {v:Value} (hx:znq P h t A=some (x,h')) (H:HRel X ρ h w) (hv:zat X ρ h w v A):
 Stp X ρ h w ρ h' w/\ ∃u,(Instr.makeInterface t v).run P w= .ok u w/\zat X ρ h' w u x:=by
 unfold znq at hx;split at hx
 ·cases hx
 ·rename_i d hni hs
  simp only[yab,ycs]at hx;obtain⟨y,h1,hp,e⟩:=hx;simp only[yad]at e;obtain⟨rfl,rfl⟩:=e;obtain⟨st,hr⟩:=zbJ hp H hv;refine⟨st,_, ?_,.iface t v y hr⟩;simp only[Instr.makeInterface,Sem.run_bind,run_underlying hs,Result.andThen_ok];rfl
 ·cases hx
def zhE {M:Nat->Nat->Prop} {z:Value} {x:D} (hx:constD? z=some x):Rep M w z x/\x.isCell=true:=by
 unfold constD? at hx;split at hx <;> first
  |cases hx;done
  |(simp only[yaa]at hx;subst hx;exact⟨.int _ _,rfl⟩)
  |(simp only[yaa]at hx;subst hx;exact⟨.bool _,rfl⟩)
  |(simp only[yaa]at hx;subst hx;exact⟨.str _,rfl⟩)
  |(simp only[yaa]at hx;subst hx;exact⟨.nilP,rfl⟩)
  |(simp only[yaa]at hx;subst hx;exact⟨.nilM,rfl⟩)
  |(simp only[yaa]at hx;subst hx;exact⟨.nilF,rfl⟩)
  |(simp only[yaa]at hx;subst hx;exact⟨.nilI,rfl⟩)
  |(simp only[yaa]at hx;subst hx;exact⟨.nil _ _ λ_=>rfl,rfl⟩)
def zaY {α β:Type} {f:α->Option β}: ∀ {l:List α} {r:List β},l.mapM f=some r->r.length=l.length/\ ∀ (j:Nat) (b:β),r[j]? =some b-> ∃a,l[j]? =some a/\f a=some b
 |[],r,hm=>by simp at hm;subst hm;exact⟨rfl,λj b hj=>by simp at hj⟩
 |x::l,r,hm=>by
  simp only[ya2,ybB,yaT,ybS,yaa]at hm;obtain⟨y,hy,ys,hys,rfl⟩:=hm;obtain⟨h1,h2⟩:=zaY hys;refine⟨by simp[h1],λj b hj=> ?_⟩
  cases j with
  |zero=>simp at hj;subst hj;exact⟨x,by simp,hy⟩
  |succ j=>simpa using h2 j b (by simpa using hj)
def zgH {t:TypeId} {x:D} (hx:zeroD? P t=some x): ∃z,zero? P t=some z/\ ∀ (M:Nat->Nat->Prop) (w:World),Rep M w z x:=by
 unfold zeroD? at hx;split at hx
 ·rename_i cs hz
  simp only[yab]at hx;obtain⟨ds,hds,rfl⟩:=hx;obtain⟨h1,h2⟩:=zaY hds;refine⟨_,hz,λM w=> .agg cs ds (λj=>cs.getD j undef) (by simpa using h1.symm) (λj c hj=> ?_) (λj c hj=> ?_)⟩
  ·obtain⟨a,ha,hc⟩:=h2 j c hj
   have ha':cs[j]? =some a:=by simpa using ha
   exact⟨by simp[yav,ha'],(zhE (M:=M) (w:=w) hc).2⟩
  ·obtain⟨a,ha,hc⟩:=h2 j c hj
   have ha':cs[j]? =some a:=by simpa using ha
   simpa[yav,ha']using (zhE (M:=M) (w:=w) hc).1
 ·rename_i z _ hz
  exact⟨z,hz,λM w=>(zhE hx).1⟩
 ·cases hx
def zbt {t:TypeId} {z:Value} (hz:zero? P t=some z):(zeroValue t).run P w= .ok z w:=by
 simp only[zero?,yaT]at hz;obtain⟨i,hi,hz⟩:=hz;simp[zeroValue,typeInfo,hi,hz]
def zmq {A x:V} {v:Value} {xT asserted:TypeId} {ok:Bool} (hx:zmm P A asserted ok=some x) (hv:zat X ρ h w v A):
 ∃u,(Instr.typeAssert v xT asserted ok).run P w= .ok u w/\zat X ρ h w u x:=by
 have htup: ∀ {a b:Value} {A B:D},Rep (Mut X ρ h) w a A->Rep (Mut X ρ h) w b B->zat X ρ h w (.tuple #[a,b]) (.tup [.d A,.d B]):=λ{a b A B} ha hb=>
  ⟨_,rfl,rfl,λj c hj=>by
    match j,hj with
    |0,hj=>simp at hj;subst hj;exact⟨a,by simp,ha⟩
    |1,hj=>simp at hj;subst hj;exact⟨b,by simp,hb⟩⟩
 unfold zmm at hx;split at hx
 ·cases hx
 ·rename_i d hni hs
  cases hv;cases ok with
  |false=>simp at hx
  |true=>
   simp only[ybk,yab]at hx;obtain⟨zd,hz,rfl⟩:=hx;obtain⟨z,hz1,hz2⟩:=zgH hz;refine⟨.tuple #[z,.bool false], ?_,htup (hz2 _ _) (.bool false)⟩;simp only[Instr.typeAssert,Sem.run_bind,run_underlying hs,Result.andThen_ok];cases d <;> first
    |exact (hni _ hs).elim
    |simp[zbt hz1]
 ·rename_i d t y hni hs
  cases hv with
  |iface _ v' _ hv'=>
   split at hx
   ·rename_i ht
    subst ht;simp only[yaa]at hx;subst hx;cases ok with
    |true=>
     refine⟨.tuple #[v',.bool true], ?_,htup hv' (.bool true)⟩;simp only[Instr.typeAssert,Sem.run_bind,run_underlying hs,Result.andThen_ok];cases d <;> first
      |exact (hni _ hs).elim
      |simp
    |false=>
     refine⟨v', ?_,hv'⟩;simp only[Instr.typeAssert,Sem.run_bind,run_underlying hs,Result.andThen_ok];cases d <;> first
      |exact (hni _ hs).elim
      |simp
   ·rename_i ht
    cases ok with
    |false=>simp at hx
    |true=>
     simp only[ybk,yab]at hx;obtain⟨zd,hz,rfl⟩:=hx;obtain⟨z,hz1,hz2⟩:=zgH hz;refine⟨.tuple #[z,.bool false], ?_,htup (hz2 _ _) (.bool false)⟩;simp only[Instr.typeAssert,Sem.run_bind,run_underlying hs,Result.andThen_ok];cases d <;> first
      |exact (hni _ hs).elim
      |simp[ht,zbt hz1]
 ·cases hx
end
end Go.Am
namespace Go.Am
@[simp] def zA4 {α β:Type} (a:α) (f:α->Option β):obind (some a) f=f a:=rfl
@[simp] def zA5 {α β:Type} (f:α->Option β):obind none f=none:=rfl
@[congr] def zzN {α β:Type} {x y:Option α} {f:α->Option β} (h:x=y):obind x f=obind y f:=by rw[h]
@[simp] def zup (s:Slots) (h:List Obj) (f:Slots->List Obj->Res):onNormal (some (.normal,s,h)) f=f s h:=rfl
@[simp] def zxf (i:Nat) (s:Slots) (h:List Obj) (f:Slots->List Obj->Res):onNormal (some (.exit i,s,h)) f=some (.exit i,s,h):=rfl
@[simp] def zyU (s:Slots) (h:List Obj) (f:Slots->List Obj->Res):onNormal (some (.ret,s,h)) f=some (.ret,s,h):=rfl
@[simp] def zxg (f:Slots->List Obj->Res):onNormal none f=none:=rfl
@[congr] def zwX {x y:Res} {f:Slots->List Obj->Res} (h:x=y):onNormal x f=onNormal y f:=by rw[h]
@[simp] def zzO (t:Bool) (x y:Res):branch (.d (.bool t)) x y=if t then x else y:=rfl
@[congr] def zyV {c d:V} {x y:Res} (h:c=d):branch c x y=branch d x y:=by rw[h]
@[simp] def zyW (id:Nat) (s:Slots) (h:List Obj):leave id (some (.normal,s,h))=some (.normal,s,h):=rfl
@[simp] def zB5 (id:Nat) (s:Slots) (h:List Obj):leave id (some (.ret,s,h))=some (.ret,s,h):=rfl
@[simp] def zA6 (id:Nat):leave id none=none:=rfl
@[simp] def zA7 (id i:Nat) (s:Slots) (h:List Obj):leave id (some (.exit i,s,h))=if i=id then some (.normal,s,h) else some (.exit i,s,h):=rfl
end Go.Am
