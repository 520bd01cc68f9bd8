/- Columns: their parts, read. -/
import Derived.Test.YtibdiacpdmhmnaaGreatDoorParsing
import Derived.Test.YtibdiacpdmhmnaaGreatDoorColA
import Derived.Test.YtibdiacpdmhmnaaGreatDoorReadB
import Derived.Test.YtibdiacpdmhmnaaGreatDoorColB
set_option linter.all false
namespace Go.Am.Ab
open Go.Proofs
set_option maxHeartbeats 4000000
set_option maxRecDepth 4000
abbrev uc (l:List Nat):List D:=l.map λ(n:Nat)=>D.int .u64 (n:Int)
def Is (q r:Option (List V × List Obj)):Prop:=r=q
def zbQ {q:Option (List V × List Obj)} (h:q≠none): ¬ Is q none:=λg=>h g.symm
def zaW (b:List UInt8) (n:Nat):List Nat × Nat:=if b.length≠(n+7) / 8 then ([],40) else if num b<2 ^ n then (ups 1 (num b) n,0) else ([],40)
def zhP (b:List UInt8) (n:Nat) (hn:n<=256) (hb:b.length<1000000):R 178 [B b,.d (.int .i64 n),.d (.int .i64 1)] []=some ([.arr 0 (zaW b n).1.length,E (zaW b n).2],[.arr 1 (uc (zaW b n).1) 0]):=by
 unfold zaW
 by_cases h1:b.length≠(n+7) / 8
 ·rw[yah h1]
  exact zqY b n 1 (by omega) hn (by omega) (by rw[ycb];exact h1)
 ·rw[yae h1]
  by_cases h2:num b<2 ^ n
  ·rw[yah h2]
   have:=zkz b n 1 hn (by omega) (by rw[ycb];omega) (by rw[ycb];exact h2)
   rw[show ((ups 1 (num b) n,0):List Nat × Nat).1.length=n from ze5 _ _ _]
   exact this
  ·rw[yae h2]
   exact ziU b n 1 hn (by omega) (by rw[ycb];omega) (by rw[ycb];exact h2)
def mkS (l:List UInt8):ByteArray:=⟨l.toArray⟩
def zbm:List Int->List UInt8->PR (List ByteArray)
 |[],b=> .ok [] b
 |k::r,b=>if k<0\/64<k then .err 40 else if (b.length:Int)<k then .err 30 else (zbm r (b.drop k.toNat)).map (mkS (b.take k.toNat):: ·)
def zlV (n:Int) (b:List UInt8):PR (List ByteArray):=
 if (get b).2.2≠0 then .err (get b).2.2 else
 if (b.drop (get b).2.1).length<(get b).1 then .err 30 else
 if (zcC ((b.drop (get b).2.1).take (get b).1) n).2≠0 then .err (zcC ((b.drop (get b).2.1).take (get b).1) n).2 else
 zbm (zcC ((b.drop (get b).2.1).take (get b).1) n).1 ((b.drop (get b).2.1).drop (get b).1)
def znJ:PR (List ByteArray)->Option (List V × List Obj)
 |.err e=>some ([.arr 0 0,.arr 1 0,E e],[.arr 1 [] 0,.arr 1 [] 0])
 |.ok l r=>some ([.arr 0 l.length,B r,E 0],[.arr 1 (l.map D.str) 0])
def zto (p:PR (List ByteArray)):znJ p≠none:=by cases p <;> simp[znJ]
@[simp] def zna (b:UInt8):byteOf? (zbb b)=some b:=by
 simp[byteOf?,zbb]
def zbg: ∀l:List UInt8,(bytes l).mapM byteOf?=some l
 |[]=>rfl
 |x::r=>by
  have:=zbg r;simp only[bytes]at this ⊢;rw[yaW,yaU,zna,this];rfl
end Go.Am.Ab
namespace Go.Am.Ab
open Go.Proofs
set_option maxHeartbeats 4000000
set_option maxRecDepth 4000
def zeU (b:List UInt8) (n:Int):(zcC b n).1.length<=256:=by
 unfold zcC;split
 ·simp
 ·rename_i h
  cases b with
  |nil=>simp
  |cons c r=>
   simp only;split
   ·simp
   ·unfold zCi
    split
    ·simp
    ·rename_i l r2 hp
     split
     ·simp
     ·split
      ·have:=(zlv hp).1
       simp only;omega
      ·simp
def zEC (sz:List Int) (b0:List UInt8) (x:Nat × List ByteArray × List UInt8):Prop:=x.1<=sz.length/\x.2.1.length=x.1/\x.2.2.length<=b0.length/\zbm sz b0=(zbm (sz.drop x.1) x.2.2).map (x.2.1++ ·)
def zpQ (b0:List UInt8) (n:Int) (hn:zal n) (hb0:b0.length<1000000):Is (znJ (zlV n b0)) (R 214 [B b0,.d (.int .i64 n)] []):=by
 have hg:=ze6 b0 (by omega)
 have hgu:=ze9 b0;have hgl:=zdq b0;unfold zlV;obtain⟨g1,hg1⟩: ∃g,g=(get b0).1:=⟨_,rfl⟩;obtain⟨g2,hg2⟩: ∃g,g=(get b0).2.1:=⟨_,rfl⟩;obtain⟨g3,hg3⟩: ∃g,g=(get b0).2.2:=⟨_,rfl⟩;rw[<- hg1,<- hg2,<- hg3]at hg;rw[<- hg2]at hgu;rw[<- hg1]at hgl;rw[<- hg1,<- hg2,<- hg3]
 by_cases e0:g3≠0
 ·rw[yah e0]
  have e0': ¬ (g3:Int)=0:=by omega
  simp only[znJ];refine ra zCg rfl (zbQ (by simp)) ?_
  simp -dsimp -implicitDefEqProofs (disch:=first|omega|assumption) [hg,e0,e0']
  simp[Is,E]
 rw[yae e0];have e0':g3=0:=by omega
 subst e0';obtain⟨b1,hb1⟩: ∃b1,b1=b0.drop g2:=⟨_,rfl⟩;have hb1':List.drop g2 (bytes b0)=bytes b1:=by rw[hb1,bytes,bytes,yb5]
 have hb1l:b1.length<1000000:=by rw[hb1,yay];omega
 rw[<- hb1];have hdl:b1.length=b0.length - g2:=by rw[hb1,yay]
 have hw1:IntKind.u64.wrap (b1.length:Int)=b1.length:=zai (by omega) (by omega)
 by_cases e1:b1.length<g1
 ·rw[yah e1]
  have e1':(b1.length:Int)<g1:=by omega
  simp only[znJ];refine ra zCg rfl (zbQ (by simp)) ?_
  simp -dsimp -implicitDefEqProofs (disch:=first|omega|assumption) [hg,hgu,hb1',hw1,e1,e1']
  simp[Is,E]
 rw[yae e1];have e1': ¬ (b1.length:Int)<g1:=by omega
 have e1b:g1<=b1.length:=by omega
 obtain⟨bt,hbt⟩: ∃bt,bt=b1.take g1:=⟨_,rfl⟩;obtain⟨bd,hbd⟩: ∃bd,bd=b1.drop g1:=⟨_,rfl⟩;have hbt':List.take g1 (bytes b1)=bytes bt:=by rw[hbt,bytes,bytes,ybE]
 have hbd':List.drop g1 (bytes b1)=bytes bd:=by rw[hbd,bytes,bytes,yb5]
 have hbtl:bt.length<1000000:=by rw[hbt,yao];omega
 have hbdl:bd.length<1000000:=by rw[hbd,yay];omega
 rw[<- hbt,<- hbd];have hrd:=zjf bt n hbtl hn;have hrl:=zeU bt n;obtain⟨q,hq⟩: ∃q,q=(zcC bt n).2:=⟨_,rfl⟩;obtain⟨sz,hsz⟩: ∃sz,sz=(zcC bt n).1:=⟨_,rfl⟩;rw[<- hq,<- hsz]at hrd;rw[<- hsz]at hrl;rw[<- hq,<- hsz];clear hg1 hg2 hg3 hb1 hbt hbd hq hsz
 by_cases e2:q≠0
 ·rw[yah e2]
  have e2': ¬ (q:Int)=0:=by omega
  simp only[znJ];refine ra zCg rfl (zbQ (by simp)) ?_
  simp -dsimp -implicitDefEqProofs (disch:=first|omega|assumption) [hg,hgu,hb1',hw1,e1,e1',e1b,hbt',hrd,e2,e2']
  simp[Is,E]
 rw[yae e2];have e2':q=0:=by omega
 subst e2';refine ra zCg rfl (zbQ (zto _)) ?_;simp -dsimp -implicitDefEqProofs (disch:=first|omega|assumption) [hg,hgu,hb1',hw1,e1,e1',e1b,hbt',hrd,hbd']
 generalize hT0:Is (znJ (zbm sz bd))=T0;have fin: ∀p,zbm sz bd=p-> ∀r,r=znJ p->T0 r:=λp hp r hr=>by rw[<- hT0];show r=_;rw[hr,hp]
 generalize hz:zad _ _ _ _ _ _=z;revert z;refine zaa (σ:=Nat × List ByteArray × List UInt8) (λx=>[(0,B x.2.2),(11,.arr 0 x.1),(45,.arr 1 sz.length),(46,.d (.int .i64 sz.length)),(47,.d (.int .i64 x.1))]) (λx=>[.arr 1 (x.2.1.map D.str) 0,.arr 1 (cs sz) 0]) (zEC sz bd) (λx=>sz.length - x.1) (0,[],bd) ?_ ?_ ?_
 ·exact⟨yai _,rfl,yab _,by rw[ycv];exact (PR.map_id (λa=>rfl) _).symm⟩
 ·simp -dsimp -implicitDefEqProofs (disch:=first|omega|assumption) [B,E]
 intro T' f hT' ⟨i,l,b⟩ ⟨hi,hl,hbl,hp⟩ ih;simp only at hi hl hbl hp ih
 by_cases h1:i<sz.length
 ·have gi:=get_at h1
  have hdr:sz.drop i=at' sz i::sz.drop (i+1):=by rw[<- gi];exact yaA h1
  rw[hdr,zbm]at hp;obtain⟨k,hk⟩: ∃k,k=at' sz i:=⟨_,rfl⟩;rw[<- hk]at hp gi
  by_cases c1:k<0
  ·rw[yah (.inl c1)]at hp
   subst hT';simp -dsimp -implicitDefEqProofs (disch:=first|omega|assumption) [h1,gi,c1]
   exact fin _ hp _ (by simp[znJ,E])
  by_cases c2:64<k
  ·rw[yah (.inr c2)]at hp
   subst hT';simp -dsimp -implicitDefEqProofs (disch:=first|omega|assumption) [h1,gi,c1,c2]
   exact fin _ hp _ (by simp[znJ,E])
  rw[yae (by omega)]at hp
  by_cases c3:(b.length:Int)<k
  ·rw[yah c3]at hp
   subst hT';simp -dsimp -implicitDefEqProofs (disch:=first|omega|assumption) [h1,gi,c1,c2,c3]
   exact fin _ hp _ (by simp[znJ,E])
  rw[yae c3,PR.map_map]at hp;obtain⟨m,rfl⟩: ∃m:Nat,k=m:=⟨k.toNat,by omega⟩
  rw[yaB]at hp;have c4:m<=b.length:=by omega
  obtain⟨bt,hbt⟩: ∃bt,bt=b.take m:=⟨_,rfl⟩;obtain⟨bd',hbd2⟩: ∃bd,bd=b.drop m:=⟨_,rfl⟩;have hbt2:List.take m (bytes b)=bytes bt:=by rw[hbt,bytes,bytes,ybE]
  have hbd3:List.drop m (bytes b)=bytes bd':=by rw[hbd2,bytes,bytes,yb5]
  have hbdl2:bd'.length<=b.length:=by rw[hbd2,yay];omega
  have hM:=zbg bt;rw[<- hbt,<- hbd2]at hp;simp -dsimp -implicitDefEqProofs (disch:=first|omega|assumption) [h1,gi,c1,c2,c3,c4,hbt2,hbd3,hM]
  refine ih (i+1,l++[mkS bt],bd') _ _ ⟨h1,by simp[hl],by simp only;omega, ?_⟩ (by simp only;omega) ?_
  ·rw[hp];simp
  ·simp -dsimp -implicitDefEqProofs (disch:=first|omega|assumption) [B,hl,mkS]
 ·obtain rfl:i=sz.length:=by omega
  rw[yb2,zbm,PR.map_ok,yau]at hp;subst hT';simp -dsimp -implicitDefEqProofs (disch:=first|omega|assumption)
  exact fin _ hp _ (by simp[znJ,E,B,hl])
end Go.Am.Ab
namespace Go.Am.Ab
open Go.Proofs
set_option maxHeartbeats 4000000
set_option maxRecDepth 4000
def pick (u:List ByteArray) (k:Int):ByteArray:=u.getD k.toNat noS
def zdi (n:Nat) (b:List UInt8):List ByteArray × Nat:=
 match b with
 |[]=>([],30)
 |c::r=>
  if c.toNat=0 then
   match zlV n r with
   |.err e=>([],e)
   |.ok l zaF=>if zaF≠[] then (l,32) else (l,0)
  else if (get r).2.2≠0 then ([],(get r).2.2)
  else if 1<c.toNat\/n<(get r).1 then ([],40)
  else match zlV (get r).1 (r.drop (get r).2.1) with
   |.err e=>([],e)
   |.ok u zaF=>
    if (zcC zaF n).2≠0 then ([],(zcC zaF n).2)
    else if ∀k∈(zcC zaF n).1,0<=k/\k<u.length then ((zcC zaF n).1.map (pick u),0) else ([],40)
def zkQ: ∀ {l:List Int} {b:List UInt8} {e:Nat},zbm l b= .err e->e≠0
 |[],b,e,h=>by simp[zbm]at h
 |k::r,b,e,h=>by
  unfold zbm at h;split at h
  ·simp at h;omega
  ·split at h
   ·simp at h;omega
   ·cases hp:zbm r (b.drop k.toNat) with
    |err e'=>rw[hp]at h;simp at h;have:=zkQ hp;omega
    |ok l r=>rw[hp]at h;simp at h
def zh8 {n:Int} {b:List UInt8} {e:Nat} (h:zlV n b= .err e):e≠0:=by
 unfold zlV at h;split at h
 ·simp at h;omega
 ·split at h
  ·simp at h;omega
  ·split at h
   ·simp at h;omega
   ·exact zkQ h
def zjl: ∀ {l:List Int} {b zaF:List UInt8} {t:List ByteArray},zbm l b= .ok t zaF->zaF.length<=b.length
 |[],b,_,_,h=>by simp[zbm]at h;simp[h.2]
 |k::r,b,zaF,t,h=>by
  unfold zbm at h;split at h
  ·simp at h
  ·split at h
   ·simp at h
   ·cases hp:zbm r (b.drop k.toNat) with
    |err e'=>rw[hp]at h;simp at h
    |ok l r2=>
     rw[hp]at h;simp at h;have:=zjl hp;rw[<- h.2];simp only[yay]at this;omega
def ztp {n:Int} {b zaF:List UInt8} {t:List ByteArray} (h:zlV n b= .ok t zaF):zaF.length<=b.length:=by
 unfold zlV at h;split at h
 ·simp at h
 ·split at h
  ·simp at h
  ·split at h
   ·simp at h
   ·have:=zjl h
    simp only[yay]at this;omega
def UwR (p:List ByteArray × Nat):Option (List V × List Obj):=some ([.arr 0 p.1.length,E p.2],[.arr 1 (p.1.map D.str) 0])
def zcK (p:List ByteArray × Nat):UwR p≠none:=by simp[UwR]
def znb (b:List UInt8) (n:Nat) (hn:n<=256) (hb:b.length<1000000):Is (UwR (zdi n b)) (R 196 [B b,.d (.int .i64 n)] []):=by
 have hni:zal (n:Int):=by unfold zal;omega
 cases b with
 |nil=>
  refine ra zua rfl (zbQ (zcK _)) ?_;simp -dsimp -implicitDefEqProofs (disch:=first|omega|assumption)
  simp[Is,UwR,zdi,E]
 |cons c r=>
 simp only[yag]at hb;have hl0: ¬ ((r.length:Int)+1=0):=by omega
 unfold zdi;simp only
 by_cases c0:c.toNat=0
 ·rw[yah c0]
  have h:=zpQ r n hni (by omega)
  unfold Is at h;cases hp:zlV (n:Int) r with
  |err e=>
   rw[hp,znJ]at h;have he:=zh8 hp;have he': ¬ (e:Int)=0:=by omega
   refine ra zua rfl (zbQ (zcK _)) ?_;simp -dsimp -implicitDefEqProofs (disch:=first|omega|assumption) [hl0,c0,h,he,he']
   simp[Is,UwR,E]
  |ok l zaF=>
   rw[hp,znJ]at h
   by_cases hr:zaF=[]
   ·subst hr
    refine ra zua rfl (zbQ (zcK _)) ?_;simp -dsimp -implicitDefEqProofs (disch:=first|omega|assumption) [hl0,c0,h]
    simp[Is,UwR,E]
   ·have hr':0<zaF.length:=List.length_pos_iff.2 hr
    refine ra zua rfl (zbQ (zcK _)) ?_;simp -dsimp -implicitDefEqProofs (disch:=first|omega|assumption) [hl0,c0,h,hr']
    simp[Is,UwR,E,hr]
 rw[yae c0];have c0': ¬ (c.toNat:Int)=0:=by omega
 have hg:=ze6 r (by omega)
 have hgu:=ze9 r;have hgl:=zdq r;obtain⟨g1,hg1⟩: ∃g,g=(get r).1:=⟨_,rfl⟩;obtain⟨g2,hg2⟩: ∃g,g=(get r).2.1:=⟨_,rfl⟩;obtain⟨g3,hg3⟩: ∃g,g=(get r).2.2:=⟨_,rfl⟩;rw[<- hg1,<- hg2,<- hg3]at hg;rw[<- hg2]at hgu;rw[<- hg1]at hgl;rw[<- hg1,<- hg2,<- hg3]
 by_cases e0:g3≠0
 ·rw[yah e0]
  have e0': ¬ (g3:Int)=0:=by omega
  refine ra zua rfl (zbQ (zcK _)) ?_;simp -dsimp -implicitDefEqProofs (disch:=first|omega|assumption) [hl0,c0,c0',hg,e0,e0']
  simp[Is,UwR,E]
 rw[yae e0];have e0':g3=0:=by omega
 subst e0';have hw:IntKind.u64.wrap (n:Int)=n:=zai (by omega) (by omega)
 by_cases e1:1<c.toNat
 ·rw[yah (.inl e1)]
  have e1':(1:Int)<c.toNat:=by omega
  refine ra zua rfl (zbQ (zcK _)) ?_;simp -dsimp -implicitDefEqProofs (disch:=first|omega|assumption) [hl0,c0,c0',hg,e1,e1',hw]
  simp[Is,UwR,E]
 have e1': ¬ (1:Int)<c.toNat:=by omega
 by_cases e2:n<g1
 ·rw[yah (.inr e2)]
  have e2':(n:Int)<g1:=by omega
  refine ra zua rfl (zbQ (zcK _)) ?_;simp -dsimp -implicitDefEqProofs (disch:=first|omega|assumption) [hl0,c0,c0',hg,e1,e1',hw,e2,e2']
  simp[Is,UwR,E]
 rw[yae (by omega)]
 have e2': ¬ (n:Int)<g1:=by omega
 have hwi:IntKind.i64.wrap (g1:Int)=g1:=wI (by omega) (by omega)
 obtain⟨r1,hr1⟩: ∃r1,r1=r.drop g2:=⟨_,rfl⟩;have hr1':List.drop g2 (bytes r)=bytes r1:=by rw[hr1,bytes,bytes,yb5]
 have x1:((1:Int)+g2).toNat=g2+1:=by omega
 have hr1l:r1.length<1000000:=by rw[hr1,yay];omega
 rw[<- hr1];have h:=zpQ r1 g1 (by unfold zal;omega) hr1l
 unfold Is at h;clear hg1 hg2 hg3 hr1;cases hp:zlV (g1:Int) r1 with
 |err e=>
  rw[hp,znJ]at h;have he:=zh8 hp;have he': ¬ (e:Int)=0:=by omega
  refine ra zua rfl (zbQ (zcK _)) ?_;simp -dsimp -implicitDefEqProofs (disch:=first|omega|assumption) [hl0,c0,c0',hg,e1,e1',hw,e2,e2',hwi,x1,hr1',h,he,he',hgu]
  simp[Is,UwR,E]
 |ok u zaF=>
  rw[hp,znJ]at h;simp only;have hrest:=ztp hp;have hrd:=zjf zaF n (by omega) hni
  have hrl:=zeU zaF n;obtain⟨q,hq⟩: ∃q,q=(zcC zaF n).2:=⟨_,rfl⟩;obtain⟨pl,hpl⟩: ∃pl,pl=(zcC zaF n).1:=⟨_,rfl⟩;rw[<- hq,<- hpl]at hrd;rw[<- hpl]at hrl;rw[<- hq,<- hpl]
  by_cases e3:q≠0
  ·rw[yah e3]
   have e3': ¬ (q:Int)=0:=by omega
   refine ra zua rfl (zbQ (zcK _)) ?_;simp -dsimp -implicitDefEqProofs (disch:=first|omega|assumption) [hl0,c0,c0',hg,e1,e1',hw,e2,e2',hwi,x1,hr1',h,hgu,hrd,e3,e3']
   simp[Is,UwR,E]
  rw[yae e3];have e3':q=0:=by omega
  subst e3';refine ra zua rfl (zbQ (zcK _)) ?_;simp -dsimp -implicitDefEqProofs (disch:=first|omega|assumption) [hl0,c0,c0',hg,e1,e1',hw,e2,e2',hwi,x1,hr1',h,hgu,hrd]
  generalize hT0:Is _=T0;have fin: ∀r,r=UwR (if ∀k∈pl,0<=k/\k<u.length then (pl.map (pick u),0) else ([],40))->T0 r:=λr hr=>by rw[<- hT0];exact hr
  generalize hz:zad _ _ _ _ _ _=z;revert z;refine zaa (σ:=Nat) (λi=>[(12,.arr 0 u.length),(15,.arr 1 i),(85,.arr 2 pl.length),(86,.d (.int .i64 pl.length)),(87,.d (.int .i64 i))]) (λi=>[.arr 1 (u.map D.str) 0,.arr 1 (zdg (λk=> .str (pick u k)) pl i) 0,.arr 1 (cs pl) 0]) (λi=>i<=pl.length/\ ∀j,j<i->0<=at' pl j/\at' pl j<u.length) (λi=>pl.length - i) 0 ?_ ?_ ?_
  ·exact⟨yai _,λj hj=>by omega⟩
  ·simp -dsimp -implicitDefEqProofs (disch:=first|omega|assumption) [zaG]
  intro T' f hT' i ⟨hi,hok⟩ ih
  by_cases h1:i<pl.length
  ·have gi:=get_at h1
   have hsu:=zaH (g:=λk=>D.str (pick u k)) h1
   have hln:=zak (g:=λk=>D.str (pick u k)) hi
   rw[gi]at hsu;obtain⟨k,hk⟩: ∃k,k=at' pl i:=⟨_,rfl⟩;rw[<- hk]at gi hsu;have bad: ¬ (0<=k/\k<u.length)-> ¬ ∀k∈pl,0<=k/\k<(u.length:Int):=λa b=>a (b k (by rw[hk,<- get_at h1];exact yal _))
   by_cases k1:k<0
   ·subst hT'
    simp -dsimp -implicitDefEqProofs (disch:=first|omega|assumption) [h1,gi,k1]
    exact fin _ (by rw[yae (bad (by omega))];simp[UwR,E])
   by_cases k2:(u.length:Int)<=k
   ·subst hT'
    simp -dsimp -implicitDefEqProofs (disch:=first|omega|assumption) [h1,gi,k1,k2]
    exact fin _ (by rw[yae (bad (by omega))];simp[UwR,E])
   obtain⟨m,hm⟩: ∃m:Nat,k=m:=⟨k.toNat,by omega⟩
   have hmu:m<u.length:=by omega
   have hpk:pick u k=u[m]:=by rw[hm];simp[pick,hmu]
   have hstep: ∀j,j<i+1->0<=at' pl j/\at' pl j<u.length:=λj hj=>by
    by_cases e:j=i
    ·subst e;rw[<- hk];omega
    ·exact hok j (by omega)
   rw[hpk]at hsu;rw[hm]at gi k1 k2;simp -dsimp -implicitDefEqProofs (disch:=first|omega|assumption) [h1,gi,k1,k2,hmu,hln]
   refine ih (i+1) _ _ ⟨h1,hstep⟩ (by omega) ?_
   rw[hsu];simp -dsimp -implicitDefEqProofs (disch:=first|omega|assumption) [hln]
  ·obtain rfl:i=pl.length:=by omega
   have hall: ∀k∈pl,0<=k/\k<(u.length:Int):=by
    intro k hk;obtain⟨j,hj,rfl⟩:=List.mem_iff_getElem.1 hk;rw[get_at hj];exact hok j hj
   have hpe:=za8 (g:=λk=>D.str (pick u k)) (yab pl.length)
   subst hT';rw[hpe];simp -dsimp -implicitDefEqProofs (disch:=first|omega|assumption)
   refine fin _ ?_;rw[yah hall];simp[UwR,E]
end Go.Am.Ab
namespace Go.Am.Ab
open Go.Proofs
set_option maxHeartbeats 4000000
set_option maxRecDepth 4000
def zaU (k n:Nat) (b:List UInt8):List Val × Nat:=
 if k=1 then ((zcC b n).1.map .whole,(zcC b n).2)
 else if k=2 then ((zaW b n).1.map λ(x:Nat)=> .truth (decide ((x:Int)=1)),(zaW b n).2)
 else ((zdi n b).1.map .text,(zdi n b).2)
def VsR (p:List Val × Nat):Option (List V × List Obj):=some ([.arr 0 p.1.length,E p.2],[.arr 1 (vs p.1) 0])
def zc4 (p:List Val × Nat):VsR p≠none:=by simp[VsR]
def zru (n:Nat) (b:List UInt8):(zdi n b).1.length<=256:=by
 have hC: ∀ (n:Int) (b zaF:List UInt8) (l:List ByteArray),zlV n b= .ok l zaF->l.length<=256:=by
  intro n b zaF l h;have key: ∀ (sz:List Int) (b zaF:List UInt8) (l:List ByteArray),zbm sz b= .ok l zaF->l.length=sz.length:=by
   intro sz
   induction sz with
   |nil=>intro b zaF l h;simp[zbm]at h;simp[<- h.1]
   |cons k r ih=>
    intro b zaF l h;unfold zbm at h;split at h
    ·simp at h
    ·split at h
     ·simp at h
     ·cases hp:zbm r (b.drop k.toNat) with
      |err e'=>rw[hp]at h;simp at h
      |ok l2 r2=>
       rw[hp]at h;simp at h;rw[<- h.1];simp[ih _ _ _ hp]
  unfold zlV at h;split at h
  ·simp at h
  ·split at h
   ·simp at h
   ·split at h
    ·simp at h
    ·rw[key _ _ _ _ h];exact zeU _ _
 unfold zdi;split
 ·simp
 ·split
  ·split
   ·simp
   ·rename_i hp
    have:=hC _ _ _ _ hp;split <;> exact this
  ·split
   ·simp
   ·split
    ·simp
    ·split
     ·simp
     ·split
      ·simp
      ·split
       ·simp only[yam];exact zeU _ _
       ·simp
def znc (b:List UInt8) (n:Nat) (hn:n<=256) (hb:b.length<1000000):Is (VsR (zaU 1 n b)) (R 179 [.d (.int .u8 1),B b,.d (.int .i64 n)] []):=by
 have h:=zjf b n hb (by unfold zal;omega)
 have hl:=zeU b n;rw[show zaU 1 n b=((zcC b n).1.map .whole,(zcC b n).2) from rfl]
 obtain⟨l,hle⟩: ∃l,l=(zcC b n).1:=⟨_,rfl⟩;obtain⟨e,hee⟩: ∃e,e=(zcC b n).2:=⟨_,rfl⟩;rw[<- hle,<- hee]at h;rw[<- hle]at hl;rw[<- hle,<- hee];clear hle hee;refine ra zEt rfl (zbQ (zc4 _)) ?_;simp -dsimp -implicitDefEqProofs (disch:=first|omega|assumption) [h]
 generalize hT0:Is _=T0;have fin: ∀r,r=VsR (l.map .whole,e)->T0 r:=λr hr=>by rw[<- hT0];exact hr
 generalize hz:zad _ _ _ _ _ _=z;revert z;refine zaa (σ:=Nat) (λi=>[(8,.arr 0 i),(10,E e),(30,.arr 1 l.length),(31,.d (.int .i64 l.length)),(32,.d (.int .i64 i))]) (λi=>[.arr 1 (zdg (λx=> .iface 2 (.int .i64 x)) l i) 0,.arr 1 (cs l) 0]) (λi=>i<=l.length) (λi=>l.length - i) 0 ?_ ?_ ?_
 ·exact yai _
 ·simp -dsimp -implicitDefEqProofs (disch:=first|omega|assumption) [zaG,E]
 intro T' f hT' i hi ih
 by_cases h1:i<l.length
 ·have hsu:=zaH (g:=λx=> .iface 2 (.int .i64 x)) h1
  have hln:=zak (g:=λx=> .iface 2 (.int .i64 x)) hi
  simp -dsimp -implicitDefEqProofs (disch:=first|omega|assumption) [h1,hln]
  refine ih (i+1) _ _ h1 (by omega) ?_
  rw[hsu];simp -dsimp -implicitDefEqProofs (disch:=first|omega|assumption) [hln,E]
 ·obtain rfl:i=l.length:=by omega
  have hpe:=za8 (g:=λx=> .iface 2 (.int .i64 x)) (yab l.length)
  subst hT';rw[hpe];simp -dsimp -implicitDefEqProofs (disch:=first|omega|assumption)
  refine fin _ ?_;simp[VsR,E,Val.d]
def znd (b:List UInt8) (n:Nat) (hn:n<=256) (hb:b.length<1000000):Is (VsR (zaU 2 n b)) (R 179 [.d (.int .u8 2),B b,.d (.int .i64 n)] []):=by
 have h:=zhP b n hn hb;have hl:(zaW b n).1.length<=256:=by
  unfold zaW;split
  ·simp
  ·split <;> simp[ze5];omega
 rw[show zaU 2 n b=((zaW b n).1.map λ(x:Nat)=> .truth (decide ((x:Int)=1)),(zaW b n).2) from rfl]
 obtain⟨l,hle⟩: ∃l,l=(zaW b n).1:=⟨_,rfl⟩;obtain⟨e,hee⟩: ∃e,e=(zaW b n).2:=⟨_,rfl⟩;rw[<- hle,<- hee]at h;rw[<- hle]at hl;rw[<- hle,<- hee];clear hle hee;refine ra zEt rfl (zbQ (zc4 _)) ?_;simp -dsimp -implicitDefEqProofs (disch:=first|omega|assumption) [h]
 generalize hT0:Is _=T0;have fin: ∀r,r=VsR (l.map (λ(x:Nat)=> .truth (decide ((x:Int)=1))),e)->T0 r:=λr hr=>by rw[<- hT0];exact hr
 generalize hz:zad _ _ _ _ _ _=z;revert z;refine zaa (σ:=Nat) (λi=>[(8,.arr 0 i),(14,E e),(52,.arr 1 l.length),(53,.d (.int .i64 l.length)),(54,.d (.int .i64 i))]) (λi=>[.arr 1 (zdg (λ(x:Nat)=> .iface 4 (.bool (decide ((x:Int)=1)))) l i) 0,.arr 1 (uc l) 0]) (λi=>i<=l.length) (λi=>l.length - i) 0 ?_ ?_ ?_
 ·exact yai _
 ·simp -dsimp -implicitDefEqProofs (disch:=first|omega|assumption) [zaG,E]
 intro T' f hT' i hi ih
 by_cases h1:i<l.length
 ·have hsu:=zaH (g:=λ(x:Nat)=> .iface 4 (.bool (decide ((x:Int)=1)))) h1
  have hln:=zak (g:=λ(x:Nat)=> .iface 4 (.bool (decide ((x:Int)=1)))) hi
  simp -dsimp -implicitDefEqProofs (disch:=first|omega|assumption) [h1,hln]
  refine ih (i+1) _ _ h1 (by omega) ?_
  rw[hsu];simp -dsimp -implicitDefEqProofs (disch:=first|omega|assumption) [hln,E]
 ·obtain rfl:i=l.length:=by omega
  have hpe:=za8 (g:=λ(x:Nat)=> .iface 4 (.bool (decide ((x:Int)=1)))) (yab l.length)
  subst hT';rw[hpe];simp -dsimp -implicitDefEqProofs (disch:=first|omega|assumption)
  refine fin _ ?_;simp[VsR,E,Val.d]
def zne (b:List UInt8) (n:Nat) (hn:n<=256) (hb:b.length<1000000):Is (VsR (zaU 3 n b)) (R 179 [.d (.int .u8 3),B b,.d (.int .i64 n)] []):=by
 have h:=znb b n hn hb;have hl:=zru n b;rw[show zaU 3 n b=((zdi n b).1.map .text,(zdi n b).2) from rfl]
 obtain⟨l,hle⟩: ∃l,l=(zdi n b).1:=⟨_,rfl⟩;obtain⟨e,hee⟩: ∃e,e=(zdi n b).2:=⟨_,rfl⟩;unfold Is UwR at h;rw[<- hle,<- hee]at h;rw[<- hle]at hl;rw[<- hle,<- hee];clear hle hee;refine ra zEt rfl (zbQ (zc4 _)) ?_;simp -dsimp -implicitDefEqProofs (disch:=first|omega|assumption) [h]
 generalize hT0:Is _=T0;have fin: ∀r,r=VsR (l.map .text,e)->T0 r:=λr hr=>by rw[<- hT0];exact hr
 generalize hz:zad _ _ _ _ _ _=z;revert z;refine zaa (σ:=Nat) (λi=>[(8,.arr 0 i),(18,E e),(73,.arr 1 l.length),(74,.d (.int .i64 l.length)),(75,.d (.int .i64 i))]) (λi=>[.arr 1 (zdg (λx=> .iface 9 (.str x)) l i) 0,.arr 1 (ss l) 0]) (λi=>i<=l.length) (λi=>l.length - i) 0 ?_ ?_ ?_
 ·exact yai _
 ·simp -dsimp -implicitDefEqProofs (disch:=first|omega|assumption) [zaG,E]
 intro T' f hT' i hi ih
 by_cases h1:i<l.length
 ·have hsu:=zaH (g:=λx=> .iface 9 (.str x)) h1
  have hln:=zak (g:=λx=> .iface 9 (.str x)) hi
  simp -dsimp -implicitDefEqProofs (disch:=first|omega|assumption) [h1,hln]
  refine ih (i+1) _ _ h1 (by omega) ?_
  rw[hsu];simp -dsimp -implicitDefEqProofs (disch:=first|omega|assumption) [hln,E]
 ·obtain rfl:i=l.length:=by omega
  have hpe:=za8 (g:=λx=> .iface 9 (.str x)) (yab l.length)
  subst hT';rw[hpe];simp -dsimp -implicitDefEqProofs (disch:=first|omega|assumption)
  refine fin _ ?_;simp[VsR,E,Val.d]
end Go.Am.Ab
