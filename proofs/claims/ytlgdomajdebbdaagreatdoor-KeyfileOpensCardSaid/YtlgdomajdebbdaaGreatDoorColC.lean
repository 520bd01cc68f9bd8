/- Columns: their parts, read. -/
import Derived.Test.YtlgdomajdebbdaaGreatDoorColA
import Derived.Test.YtlgdomajdebbdaaGreatDoorParsing
import Derived.Test.YtlgdomajdebbdaaGreatDoorColB
import Derived.Test.YtlgdomajdebbdaaGreatDoorReadB
set_option linter.all false
namespace Go.Am.Ab
open Go.Proofs
set_option maxHeartbeats 4000000
set_option maxRecDepth 4000
abbrev uc (l:List Nat):List D:=l.map λ(n:Nat)=>D.int .u64 (n:Int)
def Is (q r:Option (List V × List Obj)):Prop:=r=q
def zaK {q:Option (List V × List Obj)} (h:q≠none): ¬ Is q none:=λg=>h g.symm
def zan (b:List UInt8) (n:Nat):List Nat × Nat:=if b.length≠(n+7) / 8 then ([],40) else if num b<2 ^ n then (ups 1 (num b) n,0) else ([],40)
def zhB (b:List UInt8) (n:Nat) (hn:n<=256) (hb:b.length<1000000):R 190 [B b,.d (.int .i64 n),.d (.int .i64 1)] []=some ([.arr 0 (zan b n).1.length,E (zan b n).2],[.arr 1 (uc (zan b n).1) 0]):=by
 unfold zan
 by_cases h1:b.length≠(n+7) / 8
 ·rw[if_pos h1]
  exact zp8 b n 1 (by omega) hn (by omega) (by rw[Nat.mul_one];exact h1)
 ·rw[if_neg h1]
  by_cases h2:num b<2 ^ n
  ·rw[if_pos h2]
   have:=zkd b n 1 hn (by omega) (by rw[Nat.mul_one];omega) (by rw[Nat.mul_one];exact h2)
   rw[show ((ups 1 (num b) n,0):List Nat × Nat).1.length=n from zdq _ _ _]
   exact this
  ·rw[if_neg h2]
   exact ziH b n 1 hn (by omega) (by rw[Nat.mul_one];omega) (by rw[Nat.mul_one];exact h2)
def mkS (l:List UInt8):ByteArray:=⟨l.toArray⟩
def zbe:List Int->List UInt8->PR (List ByteArray)
 |[],b=> .ok [] b
 |k::r,b=>if k<0\/64<k then .err 40 else if (b.length:Int)<k then .err 30 else (zbe r (b.drop k.toNat)).map (mkS (b.take k.toNat):: ·)
def zjD (n:Int) (b:List UInt8):PR (List ByteArray):=
 if (get b).2.2≠0 then .err (get b).2.2 else
 if (b.drop (get b).2.1).length<(get b).1 then .err 30 else
 if (zaV ((b.drop (get b).2.1).take (get b).1) n).2≠0 then .err (zaV ((b.drop (get b).2.1).take (get b).1) n).2 else
 zbe (zaV ((b.drop (get b).2.1).take (get b).1) n).1 ((b.drop (get b).2.1).drop (get b).1)
def znk:PR (List ByteArray)->Option (List V × List Obj)
 |.err e=>some ([.arr 0 0,.arr 1 0,E e],[.arr 1 [] 0,.arr 1 [] 0])
 |.ok l r=>some ([.arr 0 l.length,B r,E 0],[.arr 1 (l.map D.str) 0])
def zsB (p:PR (List ByteArray)):znk p≠none:=by cases p <;> simp[znk]
@[simp] def zmO (b:UInt8):byteOf? (zb8 b)=some b:=by
 simp[byteOf?,zb8]
def zaP: ∀l:List UInt8,(bytes l).mapM byteOf?=some l
 |[]=>rfl
 |x::r=>by
  have:=zaP r;simp only[bytes]at this ⊢;rw[List.map_cons,List.mapM_cons,zmO,this];rfl
end Go.Am.Ab
namespace Go.Am.Ab
open Go.Proofs
set_option maxHeartbeats 4000000
set_option maxRecDepth 4000
def zdw (b:List UInt8) (n:Int):(zaV b n).1.length<=256:=by
 unfold zaV;split
 ·simp
 ·rename_i h
  cases b with
  |nil=>simp
  |cons c r=>
   simp only;split
   ·simp
   ·unfold zuc
    split
    ·simp
    ·rename_i l r2 hp
     split
     ·simp
     ·split
      ·have:=(zhX hp).1
       simp only;omega
      ·simp
def zCN (sz:List Int) (b0:List UInt8) (x:Nat × List ByteArray × List UInt8):Prop:=x.1<=sz.length/\x.2.1.length=x.1/\x.2.2.length<=b0.length/\zbe sz b0=(zbe (sz.drop x.1) x.2.2).map (x.2.1++ ·)
def zpo (b0:List UInt8) (n:Int) (hn:zah n) (hb0:b0.length<1000000):Is (znk (zjD n b0)) (R 254 [B b0,.d (.int .i64 n)] []):=by
 have hg:=zfa b0 (by omega)
 have hgu:=zcL b0;have hgl:=zbq b0;unfold zjD;obtain⟨g1,hg1⟩: ∃g,g=(get b0).1:=⟨_,rfl⟩;obtain⟨g2,hg2⟩: ∃g,g=(get b0).2.1:=⟨_,rfl⟩;obtain⟨g3,hg3⟩: ∃g,g=(get b0).2.2:=⟨_,rfl⟩;rw[<- hg1,<- hg2,<- hg3]at hg;rw[<- hg2]at hgu;rw[<- hg1]at hgl;rw[<- hg1,<- hg2,<- hg3]
 by_cases e0:g3≠0
 ·rw[if_pos e0]
  have e0': ¬ (g3:Int)=0:=by omega
  simp only[znk];refine ra zAP rfl (zaK (by simp)) ?_
  simp -dsimp -implicitDefEqProofs (disch:=first|omega|assumption) [hg,e0,e0']
  simp[Is,E]
 rw[if_neg e0];have e0':g3=0:=by omega
 subst e0';obtain⟨b1,hb1⟩: ∃b1,b1=b0.drop g2:=⟨_,rfl⟩;have hb1':List.drop g2 (bytes b0)=bytes b1:=by rw[hb1,bytes,bytes,List.map_drop]
 have hb1l:b1.length<1000000:=by rw[hb1,List.length_drop];omega
 rw[<- hb1];have hdl:b1.length=b0.length - g2:=by rw[hb1,List.length_drop]
 have hw1:IntKind.u64.wrap (b1.length:Int)=b1.length:=zae (by omega) (by omega)
 by_cases e1:b1.length<g1
 ·rw[if_pos e1]
  have e1':(b1.length:Int)<g1:=by omega
  simp only[znk];refine ra zAP rfl (zaK (by simp)) ?_
  simp -dsimp -implicitDefEqProofs (disch:=first|omega|assumption) [hg,hgu,hb1',hw1,e1,e1']
  simp[Is,E]
 rw[if_neg e1];have e1': ¬ (b1.length:Int)<g1:=by omega
 have e1b:g1<=b1.length:=by omega
 obtain⟨bt,hbt⟩: ∃bt,bt=b1.take g1:=⟨_,rfl⟩;obtain⟨bd,hbd⟩: ∃bd,bd=b1.drop g1:=⟨_,rfl⟩;have hbt':List.take g1 (bytes b1)=bytes bt:=by rw[hbt,bytes,bytes,List.map_take]
 have hbd':List.drop g1 (bytes b1)=bytes bd:=by rw[hbd,bytes,bytes,List.map_drop]
 have hbtl:bt.length<1000000:=by rw[hbt,List.length_take];omega
 have hbdl:bd.length<1000000:=by rw[hbd,List.length_drop];omega
 rw[<- hbt,<- hbd];have hrd:=zjd bt n hbtl hn;have hrl:=zdw bt n;obtain⟨q,hq⟩: ∃q,q=(zaV bt n).2:=⟨_,rfl⟩;obtain⟨sz,hsz⟩: ∃sz,sz=(zaV bt n).1:=⟨_,rfl⟩;rw[<- hq,<- hsz]at hrd;rw[<- hsz]at hrl;rw[<- hq,<- hsz];clear hg1 hg2 hg3 hb1 hbt hbd hq hsz
 by_cases e2:q≠0
 ·rw[if_pos e2]
  have e2': ¬ (q:Int)=0:=by omega
  simp only[znk];refine ra zAP rfl (zaK (by simp)) ?_
  simp -dsimp -implicitDefEqProofs (disch:=first|omega|assumption) [hg,hgu,hb1',hw1,e1,e1',e1b,hbt',hrd,e2,e2']
  simp[Is,E]
 rw[if_neg e2];have e2':q=0:=by omega
 subst e2';refine ra zAP rfl (zaK (zsB _)) ?_;simp -dsimp -implicitDefEqProofs (disch:=first|omega|assumption) [hg,hgu,hb1',hw1,e1,e1',e1b,hbt',hrd,hbd']
 generalize hT0:Is (znk (zbe sz bd))=T0;have fin: ∀p,zbe sz bd=p-> ∀r,r=znk p->T0 r:=λp hp r hr=>by rw[<- hT0];show r=_;rw[hr,hp]
 generalize hz:zac _ _ _ _ _ _=z;revert z;refine zaa (σ:=Nat × List ByteArray × List UInt8) (λx=>[(0,B x.2.2),(11,.arr 0 x.1),(45,.arr 1 sz.length),(46,.d (.int .i64 sz.length)),(47,.d (.int .i64 x.1))]) (λx=>[.arr 1 (x.2.1.map D.str) 0,.arr 1 (cs sz) 0]) (zCN sz bd) (λx=>sz.length - x.1) (0,[],bd) ?_ ?_ ?_
 ·exact⟨Nat.zero_le _,rfl,Nat.le_refl _,by rw[List.drop_zero];exact (PR.map_id (λa=>rfl) _).symm⟩
 ·simp -dsimp -implicitDefEqProofs (disch:=first|omega|assumption) [B,E]
 intro T' f hT' ⟨i,l,b⟩ ⟨hi,hl,hbl,hp⟩ ih;simp only at hi hl hbl hp ih
 by_cases h1:i<sz.length
 ·have gi:=get_at h1
  have hdr:sz.drop i=at' sz i::sz.drop (i+1):=by rw[<- gi];exact List.drop_eq_getElem_cons h1
  rw[hdr,zbe]at hp;obtain⟨k,hk⟩: ∃k,k=at' sz i:=⟨_,rfl⟩;rw[<- hk]at hp gi
  by_cases c1:k<0
  ·rw[if_pos (.inl c1)]at hp
   subst hT';simp -dsimp -implicitDefEqProofs (disch:=first|omega|assumption) [h1,gi,c1]
   exact fin _ hp _ (by simp[znk,E])
  by_cases c2:64<k
  ·rw[if_pos (.inr c2)]at hp
   subst hT';simp -dsimp -implicitDefEqProofs (disch:=first|omega|assumption) [h1,gi,c1,c2]
   exact fin _ hp _ (by simp[znk,E])
  rw[if_neg (by omega)]at hp
  by_cases c3:(b.length:Int)<k
  ·rw[if_pos c3]at hp
   subst hT';simp -dsimp -implicitDefEqProofs (disch:=first|omega|assumption) [h1,gi,c1,c2,c3]
   exact fin _ hp _ (by simp[znk,E])
  rw[if_neg c3,PR.map_map]at hp;obtain⟨m,rfl⟩: ∃m:Nat,k=m:=⟨k.toNat,by omega⟩
  rw[Int.toNat_natCast]at hp;have c4:m<=b.length:=by omega
  obtain⟨bt,hbt⟩: ∃bt,bt=b.take m:=⟨_,rfl⟩;obtain⟨bd',hbd2⟩: ∃bd,bd=b.drop m:=⟨_,rfl⟩;have hbt2:List.take m (bytes b)=bytes bt:=by rw[hbt,bytes,bytes,List.map_take]
  have hbd3:List.drop m (bytes b)=bytes bd':=by rw[hbd2,bytes,bytes,List.map_drop]
  have hbdl2:bd'.length<=b.length:=by rw[hbd2,List.length_drop];omega
  have hM:=zaP bt;rw[<- hbt,<- hbd2]at hp;simp -dsimp -implicitDefEqProofs (disch:=first|omega|assumption) [h1,gi,c1,c2,c3,c4,hbt2,hbd3,hM]
  refine ih (i+1,l++[mkS bt],bd') _ _ ⟨h1,by simp[hl],by simp only;omega, ?_⟩ (by simp only;omega) ?_
  ·rw[hp];simp
  ·simp -dsimp -implicitDefEqProofs (disch:=first|omega|assumption) [B,hl,mkS]
 ·obtain rfl:i=sz.length:=by omega
  rw[List.drop_length,zbe,PR.map_ok,List.append_nil]at hp;subst hT';simp -dsimp -implicitDefEqProofs (disch:=first|omega|assumption)
  exact fin _ hp _ (by simp[znk,E,B,hl])
end Go.Am.Ab
namespace Go.Am.Ab
open Go.Proofs
set_option maxHeartbeats 4000000
set_option maxRecDepth 4000
def pick (u:List ByteArray) (k:Int):ByteArray:=u.getD k.toNat noS
def zb7 (n:Nat) (b:List UInt8):List ByteArray × Nat:=
 match b with
 |[]=>([],30)
 |c::r=>
  if c.toNat=0 then
   match zjD n r with
   |.err e=>([],e)
   |.ok l zaB=>if zaB≠[] then (l,32) else (l,0)
  else if (get r).2.2≠0 then ([],(get r).2.2)
  else if 1<c.toNat\/n<(get r).1 then ([],40)
  else match zjD (get r).1 (r.drop (get r).2.1) with
   |.err e=>([],e)
   |.ok u zaB=>
    if (zaV zaB n).2≠0 then ([],(zaV zaB n).2)
    else if ∀k∈(zaV zaB n).1,0<=k/\k<u.length then ((zaV zaB n).1.map (pick u),0) else ([],40)
def zkz: ∀ {l:List Int} {b:List UInt8} {e:Nat},zbe l b= .err e->e≠0
 |[],b,e,h=>by simp[zbe]at h
 |k::r,b,e,h=>by
  unfold zbe at h;split at h
  ·simp at h;omega
  ·split at h
   ·simp at h;omega
   ·cases hp:zbe r (b.drop k.toNat) with
    |err e'=>rw[hp]at h;simp at h;have:=zkz hp;omega
    |ok l r=>rw[hp]at h;simp at h
def zh3 {n:Int} {b:List UInt8} {e:Nat} (h:zjD n b= .err e):e≠0:=by
 unfold zjD at h;split at h
 ·simp at h;omega
 ·split at h
  ·simp at h;omega
  ·split at h
   ·simp at h;omega
   ·exact zkz h
def zje: ∀ {l:List Int} {b zaB:List UInt8} {t:List ByteArray},zbe l b= .ok t zaB->zaB.length<=b.length
 |[],b,_,_,h=>by simp[zbe]at h;simp[h.2]
 |k::r,b,zaB,t,h=>by
  unfold zbe at h;split at h
  ·simp at h
  ·split at h
   ·simp at h
   ·cases hp:zbe r (b.drop k.toNat) with
    |err e'=>rw[hp]at h;simp at h
    |ok l r2=>
     rw[hp]at h;simp at h;have:=zje hp;rw[<- h.2];simp only[List.length_drop]at this;omega
def zsC {n:Int} {b zaB:List UInt8} {t:List ByteArray} (h:zjD n b= .ok t zaB):zaB.length<=b.length:=by
 unfold zjD at h;split at h
 ·simp at h
 ·split at h
  ·simp at h
  ·split at h
   ·simp at h
   ·have:=zje h
    simp only[List.length_drop]at this;omega
def UwR (p:List ByteArray × Nat):Option (List V × List Obj):=some ([.arr 0 p.1.length,E p.2],[.arr 1 (p.1.map D.str) 0])
def zc3 (p:List ByteArray × Nat):UwR p≠none:=by simp[UwR]
def zmP (b:List UInt8) (n:Nat) (hn:n<=256) (hb:b.length<1000000):Is (UwR (zb7 n b)) (R 228 [B b,.d (.int .i64 n)] []):=by
 have hni:zah (n:Int):=by unfold zah;omega
 cases b with
 |nil=>
  refine ra ztg rfl (zaK (zc3 _)) ?_;simp -dsimp -implicitDefEqProofs (disch:=first|omega|assumption)
  simp[Is,UwR,zb7,E]
 |cons c r=>
 simp only[List.length_cons]at hb;have hl0: ¬ ((r.length:Int)+1=0):=by omega
 unfold zb7;simp only
 by_cases c0:c.toNat=0
 ·rw[if_pos c0]
  have h:=zpo r n hni (by omega)
  unfold Is at h;cases hp:zjD (n:Int) r with
  |err e=>
   rw[hp,znk]at h;have he:=zh3 hp;have he': ¬ (e:Int)=0:=by omega
   refine ra ztg rfl (zaK (zc3 _)) ?_;simp -dsimp -implicitDefEqProofs (disch:=first|omega|assumption) [hl0,c0,h,he,he']
   simp[Is,UwR,E]
  |ok l zaB=>
   rw[hp,znk]at h
   by_cases hr:zaB=[]
   ·subst hr
    refine ra ztg rfl (zaK (zc3 _)) ?_;simp -dsimp -implicitDefEqProofs (disch:=first|omega|assumption) [hl0,c0,h]
    simp[Is,UwR,E]
   ·have hr':0<zaB.length:=List.length_pos_iff.2 hr
    refine ra ztg rfl (zaK (zc3 _)) ?_;simp -dsimp -implicitDefEqProofs (disch:=first|omega|assumption) [hl0,c0,h,hr']
    simp[Is,UwR,E,hr]
 rw[if_neg c0];have c0': ¬ (c.toNat:Int)=0:=by omega
 have hg:=zfa r (by omega)
 have hgu:=zcL r;have hgl:=zbq r;obtain⟨g1,hg1⟩: ∃g,g=(get r).1:=⟨_,rfl⟩;obtain⟨g2,hg2⟩: ∃g,g=(get r).2.1:=⟨_,rfl⟩;obtain⟨g3,hg3⟩: ∃g,g=(get r).2.2:=⟨_,rfl⟩;rw[<- hg1,<- hg2,<- hg3]at hg;rw[<- hg2]at hgu;rw[<- hg1]at hgl;rw[<- hg1,<- hg2,<- hg3]
 by_cases e0:g3≠0
 ·rw[if_pos e0]
  have e0': ¬ (g3:Int)=0:=by omega
  refine ra ztg rfl (zaK (zc3 _)) ?_;simp -dsimp -implicitDefEqProofs (disch:=first|omega|assumption) [hl0,c0,c0',hg,e0,e0']
  simp[Is,UwR,E]
 rw[if_neg e0];have e0':g3=0:=by omega
 subst e0';have hw:IntKind.u64.wrap (n:Int)=n:=zae (by omega) (by omega)
 by_cases e1:1<c.toNat
 ·rw[if_pos (.inl e1)]
  have e1':(1:Int)<c.toNat:=by omega
  refine ra ztg rfl (zaK (zc3 _)) ?_;simp -dsimp -implicitDefEqProofs (disch:=first|omega|assumption) [hl0,c0,c0',hg,e1,e1',hw]
  simp[Is,UwR,E]
 have e1': ¬ (1:Int)<c.toNat:=by omega
 by_cases e2:n<g1
 ·rw[if_pos (.inr e2)]
  have e2':(n:Int)<g1:=by omega
  refine ra ztg rfl (zaK (zc3 _)) ?_;simp -dsimp -implicitDefEqProofs (disch:=first|omega|assumption) [hl0,c0,c0',hg,e1,e1',hw,e2,e2']
  simp[Is,UwR,E]
 rw[if_neg (by omega)]
 have e2': ¬ (n:Int)<g1:=by omega
 have hwi:IntKind.i64.wrap (g1:Int)=g1:=wI (by omega) (by omega)
 obtain⟨r1,hr1⟩: ∃r1,r1=r.drop g2:=⟨_,rfl⟩;have hr1':List.drop g2 (bytes r)=bytes r1:=by rw[hr1,bytes,bytes,List.map_drop]
 have x1:((1:Int)+g2).toNat=g2+1:=by omega
 have hr1l:r1.length<1000000:=by rw[hr1,List.length_drop];omega
 rw[<- hr1];have h:=zpo r1 g1 (by unfold zah;omega) hr1l
 unfold Is at h;clear hg1 hg2 hg3 hr1;cases hp:zjD (g1:Int) r1 with
 |err e=>
  rw[hp,znk]at h;have he:=zh3 hp;have he': ¬ (e:Int)=0:=by omega
  refine ra ztg rfl (zaK (zc3 _)) ?_;simp -dsimp -implicitDefEqProofs (disch:=first|omega|assumption) [hl0,c0,c0',hg,e1,e1',hw,e2,e2',hwi,x1,hr1',h,he,he',hgu]
  simp[Is,UwR,E]
 |ok u zaB=>
  rw[hp,znk]at h;simp only;have hrest:=zsC hp;have hrd:=zjd zaB n (by omega) hni
  have hrl:=zdw zaB n;obtain⟨q,hq⟩: ∃q,q=(zaV zaB n).2:=⟨_,rfl⟩;obtain⟨pl,hpl⟩: ∃pl,pl=(zaV zaB n).1:=⟨_,rfl⟩;rw[<- hq,<- hpl]at hrd;rw[<- hpl]at hrl;rw[<- hq,<- hpl]
  by_cases e3:q≠0
  ·rw[if_pos e3]
   have e3': ¬ (q:Int)=0:=by omega
   refine ra ztg rfl (zaK (zc3 _)) ?_;simp -dsimp -implicitDefEqProofs (disch:=first|omega|assumption) [hl0,c0,c0',hg,e1,e1',hw,e2,e2',hwi,x1,hr1',h,hgu,hrd,e3,e3']
   simp[Is,UwR,E]
  rw[if_neg e3];have e3':q=0:=by omega
  subst e3';refine ra ztg rfl (zaK (zc3 _)) ?_;simp -dsimp -implicitDefEqProofs (disch:=first|omega|assumption) [hl0,c0,c0',hg,e1,e1',hw,e2,e2',hwi,x1,hr1',h,hgu,hrd]
  generalize hT0:Is _=T0;have fin: ∀r,r=UwR (if ∀k∈pl,0<=k/\k<u.length then (pl.map (pick u),0) else ([],40))->T0 r:=λr hr=>by rw[<- hT0];exact hr
  generalize hz:zac _ _ _ _ _ _=z;revert z;refine zaa (σ:=Nat) (λi=>[(12,.arr 0 u.length),(15,.arr 1 i),(85,.arr 2 pl.length),(86,.d (.int .i64 pl.length)),(87,.d (.int .i64 i))]) (λi=>[.arr 1 (u.map D.str) 0,.arr 1 (zdQ (λk=> .str (pick u k)) pl i) 0,.arr 1 (cs pl) 0]) (λi=>i<=pl.length/\ ∀j,j<i->0<=at' pl j/\at' pl j<u.length) (λi=>pl.length - i) 0 ?_ ?_ ?_
  ·exact⟨Nat.zero_le _,λj hj=>by omega⟩
  ·simp -dsimp -implicitDefEqProofs (disch:=first|omega|assumption) [zaF]
  intro T' f hT' i ⟨hi,hok⟩ ih
  by_cases h1:i<pl.length
  ·have gi:=get_at h1
   have hsu:=zaG (g:=λk=>D.str (pick u k)) h1
   have hln:=zai (g:=λk=>D.str (pick u k)) hi
   rw[gi]at hsu;obtain⟨k,hk⟩: ∃k,k=at' pl i:=⟨_,rfl⟩;rw[<- hk]at gi hsu;have bad: ¬ (0<=k/\k<u.length)-> ¬ ∀k∈pl,0<=k/\k<(u.length:Int):=λa b=>a (b k (by rw[hk,<- get_at h1];exact List.getElem_mem _))
   by_cases k1:k<0
   ·subst hT'
    simp -dsimp -implicitDefEqProofs (disch:=first|omega|assumption) [h1,gi,k1]
    exact fin _ (by rw[if_neg (bad (by omega))];simp[UwR,E])
   by_cases k2:(u.length:Int)<=k
   ·subst hT'
    simp -dsimp -implicitDefEqProofs (disch:=first|omega|assumption) [h1,gi,k1,k2]
    exact fin _ (by rw[if_neg (bad (by omega))];simp[UwR,E])
   obtain⟨m,hm⟩: ∃m:Nat,k=m:=⟨k.toNat,by omega⟩
   have hmu:m<u.length:=by omega
   have hpk:pick u k=u[m]:=by rw[hm];simp[pick,hmu]
   have hstep: ∀j,j<i+1->0<=at' pl j/\at' pl j<u.length:=λj hj=>by
    by_cases e:j=i
    ·subst e;rw[<- hk];omega
    ·exact hok j (by omega)
   rw[hpk]at hsu;rw[hm]at gi k1 k2;simp -dsimp -implicitDefEqProofs (disch:=first|omega|assumption) [h1,gi,k1,k2,hmu,hln]
   refine ih (i+1) _ _ ⟨h1,hstep⟩ (by omega) ?_
   rw[hsu];simp -dsimp -implicitDefEqProofs (disch:=first|omega|assumption) [hln]
  ·obtain rfl:i=pl.length:=by omega
   have hall: ∀k∈pl,0<=k/\k<(u.length:Int):=by
    intro k hk;obtain⟨j,hj,rfl⟩:=List.mem_iff_getElem.1 hk;rw[get_at hj];exact hok j hj
   have hpe:=zbk (g:=λk=>D.str (pick u k)) (Nat.le_refl pl.length)
   subst hT';rw[hpe];simp -dsimp -implicitDefEqProofs (disch:=first|omega|assumption)
   refine fin _ ?_;rw[if_pos hall];simp[UwR,E]
end Go.Am.Ab
namespace Go.Am.Ab
open Go.Proofs
set_option maxHeartbeats 4000000
set_option maxRecDepth 4000
def zaH (k n:Nat) (b:List UInt8):List Val × Nat:=
 if k=1 then ((zaV b n).1.map .whole,(zaV b n).2)
 else if k=2 then ((zan b n).1.map λ(x:Nat)=> .truth (decide ((x:Int)=1)),(zan b n).2)
 else ((zb7 n b).1.map .text,(zb7 n b).2)
def VsR (p:List Val × Nat):Option (List V × List Obj):=some ([.arr 0 p.1.length,E p.2],[.arr 1 (vs p.1) 0])
def zdl (p:List Val × Nat):VsR p≠none:=by simp[VsR]
def zqG (n:Nat) (b:List UInt8):(zb7 n b).1.length<=256:=by
 have hC: ∀ (n:Int) (b zaB:List UInt8) (l:List ByteArray),zjD n b= .ok l zaB->l.length<=256:=by
  intro n b zaB l h;have key: ∀ (sz:List Int) (b zaB:List UInt8) (l:List ByteArray),zbe sz b= .ok l zaB->l.length=sz.length:=by
   intro sz
   induction sz with
   |nil=>intro b zaB l h;simp[zbe]at h;simp[<- h.1]
   |cons k r ih=>
    intro b zaB l h;unfold zbe at h;split at h
    ·simp at h
    ·split at h
     ·simp at h
     ·cases hp:zbe r (b.drop k.toNat) with
      |err e'=>rw[hp]at h;simp at h
      |ok l2 r2=>
       rw[hp]at h;simp at h;rw[<- h.1];simp[ih _ _ _ hp]
  unfold zjD at h;split at h
  ·simp at h
  ·split at h
   ·simp at h
   ·split at h
    ·simp at h
    ·rw[key _ _ _ _ h];exact zdw _ _
 unfold zb7;split
 ·simp
 ·split
  ·split
   ·simp
   ·rename_i hp
    have:=hC _ _ _ _ hp;split <;> exact this
  ·split
   ·simp
   ·split
    ·simp
    ·split
     ·simp
     ·split
      ·simp
      ·split
       ·simp only[List.length_map];exact zdw _ _
       ·simp
def zmQ (b:List UInt8) (n:Nat) (hn:n<=256) (hb:b.length<1000000):Is (VsR (zaH 1 n b)) (R 191 [.d (.int .u8 1),B b,.d (.int .i64 n)] []):=by
 have h:=zjd b n hb (by unfold zah;omega)
 have hl:=zdw b n;rw[show zaH 1 n b=((zaV b n).1.map .whole,(zaV b n).2) from rfl]
 obtain⟨l,hle⟩: ∃l,l=(zaV b n).1:=⟨_,rfl⟩;obtain⟨e,hee⟩: ∃e,e=(zaV b n).2:=⟨_,rfl⟩;rw[<- hle,<- hee]at h;rw[<- hle]at hl;rw[<- hle,<- hee];clear hle hee;refine ra zCF rfl (zaK (zdl _)) ?_;simp -dsimp -implicitDefEqProofs (disch:=first|omega|assumption) [h]
 generalize hT0:Is _=T0;have fin: ∀r,r=VsR (l.map .whole,e)->T0 r:=λr hr=>by rw[<- hT0];exact hr
 generalize hz:zac _ _ _ _ _ _=z;revert z;refine zaa (σ:=Nat) (λi=>[(8,.arr 0 i),(10,E e),(30,.arr 1 l.length),(31,.d (.int .i64 l.length)),(32,.d (.int .i64 i))]) (λi=>[.arr 1 (zdQ (λx=> .iface 2 (.int .i64 x)) l i) 0,.arr 1 (cs l) 0]) (λi=>i<=l.length) (λi=>l.length - i) 0 ?_ ?_ ?_
 ·exact Nat.zero_le _
 ·simp -dsimp -implicitDefEqProofs (disch:=first|omega|assumption) [zaF,E]
 intro T' f hT' i hi ih
 by_cases h1:i<l.length
 ·have hsu:=zaG (g:=λx=> .iface 2 (.int .i64 x)) h1
  have hln:=zai (g:=λx=> .iface 2 (.int .i64 x)) hi
  simp -dsimp -implicitDefEqProofs (disch:=first|omega|assumption) [h1,hln]
  refine ih (i+1) _ _ h1 (by omega) ?_
  rw[hsu];simp -dsimp -implicitDefEqProofs (disch:=first|omega|assumption) [hln,E]
 ·obtain rfl:i=l.length:=by omega
  have hpe:=zbk (g:=λx=> .iface 2 (.int .i64 x)) (Nat.le_refl l.length)
  subst hT';rw[hpe];simp -dsimp -implicitDefEqProofs (disch:=first|omega|assumption)
  refine fin _ ?_;simp[VsR,E,Val.d]
def zmR (b:List UInt8) (n:Nat) (hn:n<=256) (hb:b.length<1000000):Is (VsR (zaH 2 n b)) (R 191 [.d (.int .u8 2),B b,.d (.int .i64 n)] []):=by
 have h:=zhB b n hn hb;have hl:(zan b n).1.length<=256:=by
  unfold zan;split
  ·simp
  ·split <;> simp[zdq];omega
 rw[show zaH 2 n b=((zan b n).1.map λ(x:Nat)=> .truth (decide ((x:Int)=1)),(zan b n).2) from rfl]
 obtain⟨l,hle⟩: ∃l,l=(zan b n).1:=⟨_,rfl⟩;obtain⟨e,hee⟩: ∃e,e=(zan b n).2:=⟨_,rfl⟩;rw[<- hle,<- hee]at h;rw[<- hle]at hl;rw[<- hle,<- hee];clear hle hee;refine ra zCF rfl (zaK (zdl _)) ?_;simp -dsimp -implicitDefEqProofs (disch:=first|omega|assumption) [h]
 generalize hT0:Is _=T0;have fin: ∀r,r=VsR (l.map (λ(x:Nat)=> .truth (decide ((x:Int)=1))),e)->T0 r:=λr hr=>by rw[<- hT0];exact hr
 generalize hz:zac _ _ _ _ _ _=z;revert z;refine zaa (σ:=Nat) (λi=>[(8,.arr 0 i),(14,E e),(52,.arr 1 l.length),(53,.d (.int .i64 l.length)),(54,.d (.int .i64 i))]) (λi=>[.arr 1 (zdQ (λ(x:Nat)=> .iface 4 (.bool (decide ((x:Int)=1)))) l i) 0,.arr 1 (uc l) 0]) (λi=>i<=l.length) (λi=>l.length - i) 0 ?_ ?_ ?_
 ·exact Nat.zero_le _
 ·simp -dsimp -implicitDefEqProofs (disch:=first|omega|assumption) [zaF,E]
 intro T' f hT' i hi ih
 by_cases h1:i<l.length
 ·have hsu:=zaG (g:=λ(x:Nat)=> .iface 4 (.bool (decide ((x:Int)=1)))) h1
  have hln:=zai (g:=λ(x:Nat)=> .iface 4 (.bool (decide ((x:Int)=1)))) hi
  simp -dsimp -implicitDefEqProofs (disch:=first|omega|assumption) [h1,hln]
  refine ih (i+1) _ _ h1 (by omega) ?_
  rw[hsu];simp -dsimp -implicitDefEqProofs (disch:=first|omega|assumption) [hln,E]
 ·obtain rfl:i=l.length:=by omega
  have hpe:=zbk (g:=λ(x:Nat)=> .iface 4 (.bool (decide ((x:Int)=1)))) (Nat.le_refl l.length)
  subst hT';rw[hpe];simp -dsimp -implicitDefEqProofs (disch:=first|omega|assumption)
  refine fin _ ?_;simp[VsR,E,Val.d]
def zmS (b:List UInt8) (n:Nat) (hn:n<=256) (hb:b.length<1000000):Is (VsR (zaH 3 n b)) (R 191 [.d (.int .u8 3),B b,.d (.int .i64 n)] []):=by
 have h:=zmP b n hn hb;have hl:=zqG n b;rw[show zaH 3 n b=((zb7 n b).1.map .text,(zb7 n b).2) from rfl]
 obtain⟨l,hle⟩: ∃l,l=(zb7 n b).1:=⟨_,rfl⟩;obtain⟨e,hee⟩: ∃e,e=(zb7 n b).2:=⟨_,rfl⟩;unfold Is UwR at h;rw[<- hle,<- hee]at h;rw[<- hle]at hl;rw[<- hle,<- hee];clear hle hee;refine ra zCF rfl (zaK (zdl _)) ?_;simp -dsimp -implicitDefEqProofs (disch:=first|omega|assumption) [h]
 generalize hT0:Is _=T0;have fin: ∀r,r=VsR (l.map .text,e)->T0 r:=λr hr=>by rw[<- hT0];exact hr
 generalize hz:zac _ _ _ _ _ _=z;revert z;refine zaa (σ:=Nat) (λi=>[(8,.arr 0 i),(18,E e),(73,.arr 1 l.length),(74,.d (.int .i64 l.length)),(75,.d (.int .i64 i))]) (λi=>[.arr 1 (zdQ (λx=> .iface 9 (.str x)) l i) 0,.arr 1 (ss l) 0]) (λi=>i<=l.length) (λi=>l.length - i) 0 ?_ ?_ ?_
 ·exact Nat.zero_le _
 ·simp -dsimp -implicitDefEqProofs (disch:=first|omega|assumption) [zaF,E]
 intro T' f hT' i hi ih
 by_cases h1:i<l.length
 ·have hsu:=zaG (g:=λx=> .iface 9 (.str x)) h1
  have hln:=zai (g:=λx=> .iface 9 (.str x)) hi
  simp -dsimp -implicitDefEqProofs (disch:=first|omega|assumption) [h1,hln]
  refine ih (i+1) _ _ h1 (by omega) ?_
  rw[hsu];simp -dsimp -implicitDefEqProofs (disch:=first|omega|assumption) [hln,E]
 ·obtain rfl:i=l.length:=by omega
  have hpe:=zbk (g:=λx=> .iface 9 (.str x)) (Nat.le_refl l.length)
  subst hT';rw[hpe];simp -dsimp -implicitDefEqProofs (disch:=first|omega|assumption)
  refine fin _ ?_;simp[VsR,E,Val.d]
end Go.Am.Ab
