/- Lines are read alike. -/
import Derived.Test.YtldceipbpilipaaGreatDoorLinE
import Derived.Test.YtldceipbpilipaaGreatDoorEv25
set_option linter.all false
namespace Go.Am.Ab
open Go.Proofs
set_option maxHeartbeats 4000000
set_option maxRecDepth 4000
theorem rnum_ok {a:List UInt8} {low:Int} (h:numOk a low=true):rnum a low=numV a:=by unfold rnum;rw[if_pos h]
theorem num_nat {b:List UInt8} (h:numOk b 0=true):IntKind.u64.wrap (numV b)=numV b:=by
 obtain⟨v,h1,h2,h3,h4,h5⟩:=num_some h
 rw[h4,wrap_mod_u64];omega
def Ac.fit (a:Ac):Prop:=(a.keeps=[]∨a.e.row=[])∧a.keeps.length<1000000∧a.e.row.length<1000000
theorem fit0 (k n keep age:Int):(⟨k,n,keep,age,[],Ev.nil⟩:Ac).fit:=⟨.inl rfl,Nat.le_of_ble_eq_true rfl,Nat.le_of_ble_eq_true rfl⟩
theorem fitK {r:List (List UInt8)} (h:r.length<1000000):(⟨11,0,0,0,r,Ev.nil⟩:Ac).fit:=⟨.inr rfl,h,Nat.le_of_ble_eq_true rfl⟩
theorem evC_row {w:List UInt8} {r:List (List UInt8)} {e:Ev} (h:evC w r=some e):e.row.length≤r.length:=by
 by_cases c1:w=wPut
 ·subst c1
  rw[evC_put]at h
  split at h
  ·cases h;exact Nat.le_refl _
  ·cases h
 by_cases c2:w=wRem
 ·subst c2
  by_cases hr:r.length=1
  ·obtain⟨a,rfl⟩:=List.length_eq_one_iff.1 hr
   rw[evC_rem1]at h
   split at h
   ·cases h;exact Nat.zero_le _
   ·cases h
  ·rw[evC_rem0 hr]at h;cases h
 by_cases c3:w=wWid
 ·subst c3
  by_cases hr:r.length=2
  ·obtain⟨a,b,rfl⟩: ∃a b,r=[a,b]:=by
    match r,hr with
    |[a,b],_=>exact⟨a,b,rfl⟩
   rw[evC_wid2]at h
   split at h
   ·cases h;exact Nat.zero_le _
   ·cases h
  ·rw[evC_wid0 hr]at h;cases h
 rw[evC_none c1 c2 c3]at h;cases h
theorem evOf_row {ws:List (List UInt8)} {e:Ev} (h:evOf ws=some e):e.row.length≤ws.length:=by
 cases ws with
 |nil=>cases h
 |cons w r=>have:=evC_row (show evC w r=some e from h);simp;omega
def AcSame (ws:List (List UInt8)):Prop:=
 (∃a:Ac,a.fit∧R 61 [W ws] []=some ([.agg (a.v 0),.d (.bool true)],a.h)∧R 69 [W ws] []=some ([.agg (a.v 0),.d (.bool true)],a.h))∨
 ((∃a:Ac,a.fit∧R 61 [W ws] []=some ([.agg (a.v 0),.d (.bool false)],a.h))∧(∃a:Ac,a.fit∧R 69 [W ws] []=some ([.agg (a.v 0),.d (.bool false)],a.h)))
theorem same_none {ws:List (List UInt8)} (h1:R 61 [W ws] []=some ([.agg acN,.d (.bool false)],[])) (h2:R 69 [W ws] []=some ([.agg acN,.d (.bool false)],[])):AcSame ws:=
 .inr ⟨⟨⟨0,0,0,0,[],Ev.nil⟩,fit0 _ _ _ _,h1⟩,⟨⟨0,0,0,0,[],Ev.nil⟩,fit0 _ _ _ _,h2⟩⟩
theorem take_min (r:List (List UInt8)) (n:Nat):(r.take n).length=min r.length n:=by rw[List.length_take,Nat.min_comm]
theorem keepO_take (r:List (List UInt8)) (n:Nat):keepO r (min r.length n)=keepO (r.take n) (r.take n).length:=by
 rw[take_min]
 cases h:min r.length n with
 |zero=>rfl
 |succ m=>
  simp only[keepO]
  rw[List.take_take,Nat.min_eq_left (by omega)]
theorem acts {ws:List (List UInt8)} (hne:ws≠[]) (hl: ∀w∈ws,w.length<1000000) (hn:ws.length<1000000):AcSame ws:=by
 obtain⟨w,r,rfl⟩: ∃w r,ws=w::r:=by cases ws with | nil=>exact absurd rfl hne | cons w r=>exact⟨w,r,rfl⟩
 have hlr: ∀x∈r,x.length<1000000:=fun x hx=>hl x (List.mem_cons_of_mem _ hx)
 have hnr:r.length<1000000:=by simp at hn;omega
 by_cases hc:w=wDeliver∨w=wAgain∨w=wTick∨w=wFuse∨w=wFail
 ·by_cases hr:r.length=1
  ·obtain⟨a,rfl⟩:=List.length_eq_one_iff.1 hr
   have h1:=act_cnt1 (a:=a) hc (hlr a (by simp))
   have h2:=ract_cnt1 (a:=a) hc (hlr a (by simp))
   cases ho:okN a with
   |true=>
    rw[rnum_ok ho]at h2
    rw[ho]at h1 h2
    exact .inl ⟨⟨cntK w,numV a,0,0,[],Ev.nil⟩,fit0 _ _ _ _,h1,h2⟩
   |false=>
    rw[ho]at h1 h2
    exact .inr ⟨⟨⟨cntK w,numV a,0,0,[],Ev.nil⟩,fit0 _ _ _ _,h1⟩,⟨⟨cntK w,rnum a (-999999999),0,0,[],Ev.nil⟩,fit0 _ _ _ _,h2⟩⟩
  ·exact same_none (act_cnt0 hc hr) (ract_cnt0 hc hr)
 by_cases hp:w=wFlush∨w=wReady∨w=wDone∨w=wSweep
 ·have h1:=act_pln (r:=r) hp
  have h2:=ract_pln (r:=r) hp
  by_cases hr:r.length=0
  ·rw[decide_eq_true hr]at h1 h2
   exact .inl ⟨⟨plnK w,0,0,0,[],Ev.nil⟩,fit0 _ _ _ _,h1,h2⟩
  ·rw[decide_eq_false hr]at h1 h2
   exact .inr ⟨⟨⟨plnK w,0,0,0,[],Ev.nil⟩,fit0 _ _ _ _,h1⟩,⟨⟨plnK w,0,0,0,[],Ev.nil⟩,fit0 _ _ _ _,h2⟩⟩
 simp only[not_or]at hc hp
 by_cases he:w=wExpire
 ·subst he
  by_cases hr:r.length=2
  ·obtain⟨a,b,rfl⟩: ∃a b,r=[a,b]:=by
    match r,hr with
    |[a,b],_=>exact⟨a,b,rfl⟩
   have h1:=act_exp2 (hlr a (by simp)) (hlr b (by simp))
   have h2:=ract_exp2 (hlr a (by simp)) (hlr b (by simp))
   cases ho:(okN a && numOk b 0) with
   |true=>
    rw[ho]at h1 h2
    rw[Bool.and_eq_true]at ho
    rw[rnum_ok ho.1,rnum_ok ho.2,num_nat ho.2]at h2
    rw[num_nat ho.2]at h1
    exact .inl ⟨⟨7,0,numV a,numV b,[],Ev.nil⟩,fit0 _ _ _ _,h1,h2⟩
   |false=>
    rw[ho]at h1 h2
    exact .inr ⟨⟨⟨7,0,numV a,IntKind.u64.wrap (numV b),[],Ev.nil⟩,fit0 _ _ _ _,h1⟩,⟨⟨7,0,rnum a (-999999999),IntKind.u64.wrap (rnum b 0),[],Ev.nil⟩,fit0 _ _ _ _,h2⟩⟩
  ·exact same_none (act_exp0 hr) (ract_exp0 hr)
 by_cases hk:w=wCrash
 ·subst hk
  have h1:=act_crash hlr hnr
  have h2:=ract_crash hlr hnr
  rw[keepO_take,← take_min]at h2
  cases ho:r.all okN with
  |true=>
   have ho2:(r.take 69).all okN=true:=List.all_eq_true.2 fun x hx=>List.all_eq_true.1 ho x (List.mem_of_mem_take hx)
   rw[ho,if_pos rfl]at h1
   rw[if_pos ho2]at h2
   by_cases h64:r.length≤64
   ·rw[decide_eq_true h64]at h1 h2
    rw[List.take_of_length_le (by omega)]at h2
    exact .inl ⟨⟨11,0,0,0,r,Ev.nil⟩,fitK hnr,by rw[h1];simp only[Ac.h,Ev.h,Ev.nil,List.length_nil,rowO,List.append_nil];rfl,by rw[h2];simp only[Ac.h,Ev.h,Ev.nil,List.length_nil,rowO,List.append_nil];rfl⟩
   ·rw[decide_eq_false h64]at h1 h2
    exact .inr ⟨⟨⟨11,0,0,0,r,Ev.nil⟩,fitK hnr,by rw[h1];simp only[Ac.h,Ev.h,Ev.nil,List.length_nil,rowO,List.append_nil];rfl⟩,⟨⟨11,0,0,0,r.take 69,Ev.nil⟩,fitK (by rw[List.length_take];omega),by rw[h2];simp only[Ac.h,Ev.h,Ev.nil,List.length_nil,rowO,List.append_nil];rfl⟩⟩
  |false=>
   rw[ho,if_neg (by decide)]at h1
   refine .inr ⟨⟨⟨0,0,0,0,[],Ev.nil⟩,fit0 _ _ _ _,h1⟩, ?_⟩
   cases ho2:(r.take 69).all okN with
   |true=>
    rw[ho2,if_pos rfl]at h2
    have h64: ¬ r.length≤64:=fun h=>by
     rw[List.take_of_length_le (by omega),ho]at ho2;cases ho2
    rw[decide_eq_false h64]at h2
    exact⟨⟨11,0,0,0,r.take 69,Ev.nil⟩,fitK (by rw[List.length_take];omega),by rw[h2];simp only[Ac.h,Ev.h,Ev.nil,List.length_nil,rowO,List.append_nil];rfl⟩
   |false=>
    rw[ho2,if_neg (by decide)]at h2
    exact⟨⟨0,0,0,0,[],Ev.nil⟩,fit0 _ _ _ _,h2⟩
 by_cases ho:w=wOdd
 ·subst ho
  by_cases hr:r=[]
  ·subst hr
   exact same_none act_odd0 ract_odd0
  ·obtain⟨e1,e2⟩:=event_runs hr hlr
   have h2:=ract_odd hr hlr hnr
   cases hev:evOf r with
   |some e=>
    simp only[hev]at h2
    have h1:=act_odd hr (e1 e hev)
    exact .inl ⟨⟨12,0,0,0,[],e⟩,⟨.inl rfl,Nat.le_of_ble_eq_true rfl,by have:=evOf_row hev;show e.row.length<1000000;omega⟩,h1,h2⟩
   |none=>
    simp only[hev]at h2
    obtain⟨e,he1,he2⟩:=e2 hev
    have h0:e.h=[]:=by unfold Ev.h;rw[he1];rfl
    have h1:=act_odd (ok:=false) hr (by rw[h0];exact he2)
    exact .inr ⟨⟨⟨12,0,0,0,[],e⟩,⟨.inl rfl,Nat.le_of_ble_eq_true rfl,by show e.row.length<1000000;rw[he1];exact Nat.le_of_ble_eq_true rfl⟩,h1⟩,⟨⟨12,0,0,0,[],Ev.nil⟩,fit0 _ _ _ _,h2⟩⟩
 exact same_none (act_none hc.1 hc.2.1 hc.2.2.1 hc.2.2.2.1 hc.2.2.2.2 hp.1 hp.2.1 hp.2.2.1 hp.2.2.2 he hk ho) (ract_none hc.1 hc.2.1 hc.2.2.1 hc.2.2.2.1 hc.2.2.2.2 hp.1 hp.2.1 hp.2.2.1 hp.2.2.2 he hk ho)
end Go.Am.Ab
namespace Go.Am.Ab
open Go.Proofs
set_option maxHeartbeats 4000000
set_option maxRecDepth 4000
theorem split_W {l:List UInt8} (hl:l.length<1000000):R 58 [S l,S [32]] []=some ([W (cutL 32 l)],[]):=split_runs (by omega)
end Go.Am.Ab
namespace Go.Am.Ab
open Go.Proofs
set_option maxHeartbeats 4000000
set_option maxRecDepth 4000
abbrev evL (o:Int) (Y:List D) (k n:Int) (s name:ByteArray) (kind:Int):List D:=[.int .u64 0,.int .u8 o,.list Y,.int .u8 k,.int .i64 n,.str s,.str name,.int .u8 kind]
end Go.Am.Ab
namespace Go.Am.Ab
open Go.Proofs
set_option maxHeartbeats 8000000
set_option maxRecDepth 6000
def Sh (sz:Nat) (Y:List D) (v:V) (h:List Obj):Prop:=(Y=[]∧v= .nilS∧h=[])∨(∃m,Y.length=m+1∧v= .arr 0 (m+1)∧h=[.arr sz Y 0])
theorem sh_row (r:List (List UInt8)):Sh 3 (r.map cl) (rowW 0 r.length) (rowO r r.length):=by
 cases h:r.length with
 |zero=>rw[List.length_eq_zero_iff.1 h];exact .inl ⟨rfl,rfl,rfl⟩
 |succ m=>exact .inr ⟨m,by simp[h],rfl,by simp only[rowO];rw[List.take_of_length_le (by omega)]⟩
theorem sh_keep (r:List (List UInt8)):Sh 1 (r.map kpD) (rowW 0 r.length) (keepO r r.length):=by
 cases h:r.length with
 |zero=>rw[List.length_eq_zero_iff.1 h];exact .inl ⟨rfl,rfl,rfl⟩
 |succ m=>exact .inr ⟨m,by simp[h],rfl,by simp only[keepO];rw[List.take_of_length_le (by omega)]⟩
def Sh2 (Z Y:List D) (u v:V) (h:List Obj):Prop:=(Z=[]∧u= .nilS∧Sh 3 Y v h)∨(Y=[]∧v= .nilS∧Sh 1 Z u h)
theorem sh_ac {a:Ac} (hf:a.fit):Sh2 (a.keeps.map kpD) (a.e.row.map cl) (rowW 0 a.keeps.length) (rowW 0 a.e.row.length) a.h:=by
 rcases hf.1 with hf | hf
 ·refine .inl ⟨by rw[hf];rfl,by rw[hf];rfl, ?_⟩
  unfold Ac.h;rw[hf];exact sh_row _
 ·refine .inr ⟨by rw[hf];rfl,by rw[hf];rfl, ?_⟩
  unfold Ac.h Ev.h;rw[hf];simp only[List.length_nil,rowO,List.append_nil];exact sh_keep _
theorem cut_mem: ∀ (l:List UInt8), ∀w∈cutL 32 l,w.length≤l.length
 |[],w,h=>by simp[cutL]at h;simp[h]
 |x::l,w,h=>by
  have ih:=cut_mem l
  unfold cutL at h
  split at h
  ·rcases List.mem_cons.1 h with rfl | h
   ·simp
   ·have:=ih w h;simp;omega
  ·split at h
   ·rcases List.mem_cons.1 h with rfl | h
    ·simp
    ·cases h
   ·rename_i p ps hp
    rcases List.mem_cons.1 h with rfl | h
    ·have:=ih p (by rw[hp];simp);simp;omega
    ·have:=ih w (by rw[hp];exact List.mem_cons_of_mem _ h);simp;omega
end Go.Am.Ab
