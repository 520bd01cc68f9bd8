/- Columns of the document, read: parts. -/
import Derived.Test.YtlgdomajdebbdaaGreatDoorVars
import Derived.Test.YtlgdomajdebbdaaGreatDoorColC
import Derived.Test.YtlgdomajdebbdaaGreatDoorRefRead
set_option linter.all false
namespace Go.Am.Ab
open Go.Proofs
set_option maxHeartbeats 4000000
set_option maxRecDepth 4000
def zhP (n:Int) (b:List UInt8):Option (List Int × List UInt8 × Nat):=
 if (get b).2.2≠0 then none else
 if (b.drop (get b).2.1).length<(get b).1 then none else
 some ((zaV ((b.drop (get b).2.1).take (get b).1) n).1,(b.drop (get b).2.1).drop (get b).1,(zaV ((b.drop (get b).2.1).take (get b).1) n).2)
def zm5:Option (List Int × List UInt8 × Nat)->Option (List V × List Obj)
 |none=>some ([.arr 0 0,.arr 1 0,.d (.bool false)],[.arr 1 [] 0,.arr 1 [] 0])
 |some (l,r,e)=>some ([.arr 0 l.length,B r,.d (.bool (decide (e=0)))],[.arr 1 (cs l) l.length])
def zm6 (b0:List UInt8) (n:Int) (hn:zah n) (hb0:b0.length<1000000):R 193 [B b0,.d (.int .i64 n)] []=zm5 (zhP n b0):=by
 have hg:=zeL b0 (by omega)
 rw[ziJ]at hg;have hgu:=zcL b0;have hgl:=zbq b0;unfold zhP;obtain⟨g1,hg1⟩: ∃g,g=(get b0).1:=⟨_,rfl⟩;obtain⟨g2,hg2⟩: ∃g,g=(get b0).2.1:=⟨_,rfl⟩;obtain⟨g3,hg3⟩: ∃g,g=(get b0).2.2:=⟨_,rfl⟩;rw[<- hg1,<- hg2,<- hg3]at hg;rw[<- hg2]at hgu;rw[<- hg1]at hgl;rw[<- hg1,<- hg2,<- hg3]
 by_cases e0:g3≠0
 ·rw[if_pos e0]
  have e0': ¬ (g3:Int)=0:=by omega
  simp only[zm5];refine rg zCG rfl ?_;intro T hT;simp -dsimp -implicitDefEqProofs (disch:=first|omega|assumption) [hg,e0,e0']
  simpa -dsimp -implicitDefEqProofs (disch:=first|omega|assumption) using hT
 rw[if_neg e0];have e0':g3=0:=by omega
 subst e0';obtain⟨b1,hb1⟩: ∃b1,b1=b0.drop g2:=⟨_,rfl⟩;rw[<- hb1];have hdl:b1.length=b0.length - g2:=by rw[hb1,List.length_drop]
 have hdi:(b0.length:Int) - g2=b1.length:=by omega
 have hw1:IntKind.u64.wrap (b1.length:Int)=b1.length:=zae (by omega) (by omega)
 by_cases e1:b1.length<g1
 ·rw[if_pos e1]
  have e1':(b1.length:Int)<g1:=by omega
  simp only[zm5];refine rg zCG rfl ?_;intro T hT;simp -dsimp -implicitDefEqProofs (disch:=first|omega|assumption) [hg,hdi,hw1,e1,e1']
  simpa -dsimp -implicitDefEqProofs (disch:=first|omega|assumption) using hT
 rw[if_neg e1];have e1': ¬ (b1.length:Int)<g1:=by omega
 have hwg:IntKind.i64.wrap (g1:Int)=g1:=wI (by omega) (by omega)
 obtain⟨bt,hbt⟩: ∃bt,bt=b1.take g1:=⟨_,rfl⟩;obtain⟨bd,hbd⟩: ∃bd,bd=b1.drop g1:=⟨_,rfl⟩;have x1:((g2:Int)+g1).toNat=g2+g1:=by omega
 have hbt':List.drop g2 (List.take (g2+g1) (bytes b0))=bytes bt:=by
  rw[List.drop_take,Nat.add_sub_cancel_left,hbt,hb1,bytes,bytes,List.map_take,List.map_drop]
 have hbd':List.drop (g2+g1) (bytes b0)=bytes bd:=by
  rw[hbd,hb1,List.drop_drop,bytes,bytes,List.map_drop]
 have hle:g2+g1<=b0.length:=by omega
 have hbtl:bt.length<1000000:=by rw[hbt,List.length_take];omega
 rw[<- hbt,<- hbd];have hrd:=zha bt n hbtl hn;obtain⟨q,hq⟩: ∃q,q=(zaV bt n).2:=⟨_,rfl⟩;obtain⟨sz,hsz⟩: ∃sz,sz=(zaV bt n).1:=⟨_,rfl⟩;rw[<- hq,<- hsz]at hrd;rw[<- hq,<- hsz];clear hg1 hg2 hg3 hb1 hbt hbd hq hsz;simp only[zm5];refine rg zCG rfl ?_;intro T hT;simp -dsimp -implicitDefEqProofs (disch:=first|omega|assumption) [hg,hdi,hw1,e1,e1',hwg,x1,hbt',hbd',hle,hrd]
 simpa -dsimp -implicitDefEqProofs (disch:=first|omega|assumption) using hT
def zbS:List Int->List UInt8->Option (List ByteArray × List UInt8)
 |[],b=>some ([],b)
 |k::r,b=>if k<0\/(b.length:Int)<k then none else (zbS r (b.drop k.toNat)).map λp=>(mkS (b.take k.toNat)::p.1,p.2)
def zhb:Option (List ByteArray × List UInt8)->Option (List V × List Obj)
 |none=>some ([.arr 0 0,.arr 1 0,.d (.bool false)],[.arr 1 [] 0,.arr 1 [] 0])
 |some (l,r)=>some ([.arr 0 l.length,B r,.d (.bool true)],[.arr 1 (l.map D.str) 0])
def zsP (p:Option (List ByteArray × List UInt8)):zhb p≠none:=by
 cases p with
 |none=>simp[zhb]
 |some q=>obtain⟨l,r⟩:=q;simp[zhb]
def zCO (sz:List Int) (b0:List UInt8) (x:Nat × List ByteArray × List UInt8):Prop:=x.1<=sz.length/\x.2.1.length=x.1/\x.2.2.length<=b0.length/\zbS sz b0=(zbS (sz.drop x.1) x.2.2).map λp=>(x.2.1++p.1,p.2)
def zgv (bd:List UInt8) (sz:List Int) (hb0:bd.length<1000000) (hrl:sz.length<=256):Is (zhb (zbS sz bd)) (R 194 [B bd,.d (ints sz)] []):=by
 refine ra zEC rfl (zaK (zsP _)) ?_;simp -dsimp -implicitDefEqProofs (disch:=first|omega|assumption)
 generalize hT0:Is (zhb (zbS sz bd))=T0;have fin: ∀p,zbS sz bd=p-> ∀r,r=zhb p->T0 r:=λp hp r hr=>by rw[<- hT0];show r=_;rw[hr,hp]
 generalize hz:zac _ _ _ _ _ _=z;revert z;refine zaa (σ:=Nat × List ByteArray × List UInt8) (λx=>[(0,B x.2.2),(1,.d (ints sz)),(7,.arr 0 x.1),(8,.d (.int .i64 x.1))]) (λx=>[.arr 1 (x.2.1.map D.str) 0]) (zCO sz bd) (λx=>sz.length - x.1) (0,[],bd) ?_ ?_ ?_
 ·refine⟨Nat.zero_le _,rfl,Nat.le_refl _, ?_⟩
  rw[List.drop_zero];cases zbS sz bd <;> rfl
 ·simp -dsimp -implicitDefEqProofs (disch:=first|omega|assumption) [B]
 intro T' f hT' ⟨i,l,b⟩ ⟨hi,hl,hbl,hp⟩ ih;simp only at hi hl hbl hp ih
 by_cases h1:i<sz.length
 ·have gi:=get_at h1
  have hdr:sz.drop i=at' sz i::sz.drop (i+1):=by rw[<- gi];exact List.drop_eq_getElem_cons h1
  rw[hdr,zbS]at hp;obtain⟨k,hk⟩: ∃k,k=at' sz i:=⟨_,rfl⟩;rw[<- hk]at hp gi
  by_cases c1:k<0
  ·rw[if_pos (.inl c1)]at hp
   subst hT';simp -dsimp -implicitDefEqProofs (disch:=first|omega|assumption) [h1,gi,c1]
   exact fin _ hp _ (by simp[zhb])
  by_cases c3:(b.length:Int)<k
  ·rw[if_pos (.inr c3)]at hp
   subst hT';simp -dsimp -implicitDefEqProofs (disch:=first|omega|assumption) [h1,gi,c1,c3]
   exact fin _ hp _ (by simp[zhb])
  rw[if_neg (by omega),Option.map_map]at hp
  obtain⟨m,rfl⟩: ∃m:Nat,k=m:=⟨k.toNat,by omega⟩
  rw[Int.toNat_natCast]at hp;have c4:m<=b.length:=by omega
  obtain⟨bt,hbt⟩: ∃bt,bt=b.take m:=⟨_,rfl⟩;obtain⟨bd',hbd2⟩: ∃bd,bd=b.drop m:=⟨_,rfl⟩;have hbt2:List.take m (bytes b)=bytes bt:=by rw[hbt,bytes,bytes,List.map_take]
  have hbd3:List.drop m (bytes b)=bytes bd':=by rw[hbd2,bytes,bytes,List.map_drop]
  have hbdl2:bd'.length<=b.length:=by rw[hbd2,List.length_drop];omega
  have hM:=zaP bt;rw[<- hbt,<- hbd2]at hp;simp -dsimp -implicitDefEqProofs (disch:=first|omega|assumption) [h1,gi,c1,c3,c4,hbt2,hbd3,hM]
  refine ih (i+1,l++[mkS bt],bd') _ _ ⟨h1,by simp[hl],by simp only;omega, ?_⟩ (by simp only;omega) ?_
  ·rw[hp]
   cases zbS (sz.drop (i+1)) bd' <;> simp
  ·simp -dsimp -implicitDefEqProofs (disch:=first|omega|assumption) [B,hl,mkS]
 ·obtain rfl:i=sz.length:=by omega
  rw[List.drop_length,zbS,Option.map_some,List.append_nil]at hp;subst hT';simp -dsimp -implicitDefEqProofs (disch:=first|omega|assumption)
  exact fin _ hp _ (by simp[zhb,B,hl])
end Go.Am.Ab
namespace Go.Am.Ab
open Go.Proofs
set_option maxHeartbeats 4000000
set_option maxRecDepth 4000
def zgw (list:Bool) (n:Nat) (many:Nat) (b:List UInt8):List ByteArray × Bool:=
 match zhP many b with
 |none=>([],false)
 |some (sizes,zaB,e)=>
  if e≠0 then ([],false) else
  match zbS sizes zaB with
  |none=>([],false)
  |some (u,rest2)=>
   if list=false then (u,true) else
   if ∀k∈(zaV rest2 n).1,0<=k/\k<u.length then ((zaV rest2 n).1.map (pick u),decide ((zaV rest2 n).2=0)) else ([],false)
def zcs (n:Nat) (b:List UInt8):List ByteArray × Bool:=
 match b with
 |[]=>([],false)
 |c::r=>
  if 1<c.toNat then ([],false) else
  if c.toNat=1 then
   if (get r).2.2≠0 then ([],false) else
   if n<(get r).1 then ([],false) else zgw true n (get r).1 (r.drop (get r).2.1)
  else zgw false n n r
def RwR (p:List ByteArray × Bool):Option (List V × List Obj):=some ([.arr 0 p.1.length,.d (.bool p.2)],[.arr 1 (p.1.map D.str) 0])
def zcm (p:List ByteArray × Bool):RwR p≠none:=by simp[RwR]
def zjr: ∀ {l:List Int} {b zaB:List UInt8} {t:List ByteArray},zbS l b=some (t,zaB)->zaB.length<=b.length
 |[],b,_,_,h=>by simp[zbS]at h;simp[h.2]
 |k::r,b,zaB,t,h=>by
  unfold zbS at h;split at h
  ·simp at h
  ·cases hp:zbS r (b.drop k.toNat) with
   |none=>rw[hp]at h;simp at h
   |some q=>
    obtain⟨l,r2⟩:=q;rw[hp]at h;simp at h;have:=zjr hp;rw[<- h.2];simp only[List.length_drop]at this;omega
def zkF {n:Int} {b zaB:List UInt8} {l:List Int} {e:Nat} (h:zhP n b=some (l,zaB,e)):zaB.length<=b.length/\l.length<=256:=by
 unfold zhP at h;split at h
 ·cases h
 ·split at h
  ·cases h
  ·simp only[Option.some.injEq,Prod.mk.injEq]at h
   refine⟨?_, ?_⟩
   ·rw[<- h.2.1];simp only[List.length_drop];omega
   ·rw[<- h.1];exact zdw _ _
def zoi (b:List UInt8) (n:Nat) (hn:n<=256) (hb:b.length<1000000):Is (RwR (zcs n b)) (R 135 [B b,.d (.int .i64 n)] []):=by
 have hni:zah (n:Int):=by unfold zah;omega
 have hwn:IntKind.u64.wrap (n:Int)=n:=zae (by omega) (by omega)
 have hwi:IntKind.i64.wrap (n:Int)=n:=wI (by omega) (by omega)
 cases b with
 |nil=>
  refine ra zrb rfl (zaK (zcm _)) ?_;simp -dsimp -implicitDefEqProofs (disch:=first|omega|assumption)
  simp[Is,RwR,zcs]
 |cons c r=>
 simp only[List.length_cons]at hb;have hl0: ¬ ((r.length:Int)+1=0):=by omega
 unfold zcs;simp only
 by_cases c1:1<c.toNat
 ·rw[if_pos c1]
  have c1':(1:Int)<c.toNat:=by omega
  refine ra zrb rfl (zaK (zcm _)) ?_;simp -dsimp -implicitDefEqProofs (disch:=first|omega|assumption) [hl0,c1,c1']
  simp[Is,RwR]
 rw[if_neg c1];have c1': ¬ (1:Int)<c.toNat:=by omega
 by_cases c2:c.toNat=1
 ·rw[if_pos c2]
  have c2':(c.toNat:Int)=1:=by omega
  have hg:=zeL r (by omega)
  rw[ziJ]at hg;have hgu:=zcL r;have hgl:=zbq r;obtain⟨g1,hg1⟩: ∃g,g=(get r).1:=⟨_,rfl⟩;obtain⟨g2,hg2⟩: ∃g,g=(get r).2.1:=⟨_,rfl⟩;obtain⟨g3,hg3⟩: ∃g,g=(get r).2.2:=⟨_,rfl⟩;rw[<- hg1,<- hg2,<- hg3]at hg;rw[<- hg2]at hgu;rw[<- hg1]at hgl;rw[<- hg1,<- hg2,<- hg3]
  by_cases e0:g3≠0
  ·rw[if_pos e0]
   have e0': ¬ (g3:Int)=0:=by omega
   refine ra zrb rfl (zaK (zcm _)) ?_;simp -dsimp -implicitDefEqProofs (disch:=first|omega|assumption) [hl0,c1,c1',c2,c2',hwn,hg,e0,e0']
   simp[Is,RwR]
  rw[if_neg e0];have e0':g3=0:=by omega
  subst e0'
  by_cases e2:n<g1
  ·rw[if_pos e2]
   have e2':(n:Int)<g1:=by omega
   refine ra zrb rfl (zaK (zcm _)) ?_;simp -dsimp -implicitDefEqProofs (disch:=first|omega|assumption) [hl0,c1,c1',c2,c2',hwn,hg,e2,e2']
   simp[Is,RwR]
  rw[if_neg e2];have e2': ¬ (n:Int)<g1:=by omega
  have hwg:IntKind.i64.wrap (g1:Int)=g1:=wI (by omega) (by omega)
  obtain⟨r1,hr1⟩: ∃r1,r1=r.drop g2:=⟨_,rfl⟩;have hr1':List.drop g2 (bytes r)=bytes r1:=by rw[hr1,bytes,bytes,List.map_drop]
  have hr1l:r1.length<1000000:=by rw[hr1,List.length_drop];omega
  rw[<- hr1];have h:=zm6 r1 g1 (by unfold zah;omega) hr1l
  unfold zgw;clear hg1 hg2 hg3 hr1;cases hp:zhP (g1:Int) r1 with
  |none=>
   rw[hp,zm5]at h;refine ra zrb rfl (zaK (zcm _)) ?_;simp -dsimp -implicitDefEqProofs (disch:=first|omega|assumption) [hl0,c1,c1',c2,c2',hwn,hg,hgu,e2,e2',hwg,hr1',h]
   simp[Is,RwR]
  |some q=>
   obtain⟨sizes,zaB,e⟩:=q;obtain⟨hrest,hsl⟩:=zkF hp;rw[hp,zm5]at h;simp only
   by_cases e3:e≠0
   ·rw[if_pos e3]
    rw[decide_eq_false e3]at h;refine ra zrb rfl (zaK (zcm _)) ?_;simp -dsimp -implicitDefEqProofs (disch:=first|omega|assumption) [hl0,c1,c1',c2,c2',hwn,hg,hgu,e2,e2',hwg,hr1',h]
    simp[Is,RwR]
   rw[if_neg e3];have e3':e=0:=by omega
   rw[decide_eq_true e3']at h;have hst:=zgv zaB sizes (by omega) hsl
   unfold Is at hst;cases hq:zbS sizes zaB with
   |none=>
    rw[hq,zhb]at hst;refine ra zrb rfl (zaK (zcm _)) ?_;simp -dsimp -implicitDefEqProofs (disch:=first|omega|assumption) [hl0,c1,c1',c2,c2',hwn,hg,hgu,e2,e2',hwg,hr1',h,hst]
    simp[Is,RwR]
   |some q=>
    obtain⟨u,rest2⟩:=q;have hrest2:=zjr hq;rw[hq,zhb]at hst;simp only[Bool.true_eq_false,if_false];have hrd:=zha rest2 n (by omega) hni
    have hrl:=zdw rest2 n;obtain⟨qe,hqe⟩: ∃q,q=(zaV rest2 n).2:=⟨_,rfl⟩;obtain⟨pl,hpl⟩: ∃pl,pl=(zaV rest2 n).1:=⟨_,rfl⟩;rw[<- hqe,<- hpl]at hrd;rw[<- hpl]at hrl;rw[<- hqe,<- hpl];generalize hA:(if ∀k∈pl,0<=k/\k<(u.length:Int) then (pl.map (pick u),decide (qe=0)) else ([],false))=A
    refine ra zrb rfl (zaK (zcm _)) ?_;simp -dsimp -implicitDefEqProofs (disch:=first|omega|assumption) [hl0,c1,c1',c2,c2',hwn,hg,hgu,e2,e2',hwg,hr1',h,hst,hrd]
    generalize hT0:Is _=T0;have fin: ∀r,r=RwR A->T0 r:=λr hr=>by rw[<- hT0];exact hr
    generalize hz:zac _ _ _ _ _ _=z;revert z;refine zaa (σ:=Nat) (λi=>[(13,.arr 0 u.length),(14,.arr 1 pl.length),(15,E qe),(16,.arr 2 i),(17,.d (.int .i64 i))]) (λi=>[.arr 1 (u.map D.str) 0,.arr 1 (cs pl) pl.length,.arr 1 (zdQ (λk=> .str (pick u k)) pl i) 0]) (λi=>i<=pl.length/\ ∀j,j<i->0<=at' pl j/\at' pl j<u.length) (λi=>pl.length - i) 0 ?_ ?_ ?_
    ·exact⟨Nat.zero_le _,λj hj=>by omega⟩
    ·simp -dsimp -implicitDefEqProofs (disch:=first|omega|assumption) [zaF,E]
    intro T' f hT' i ⟨hi,hok⟩ ih
    by_cases h1:i<pl.length
    ·have gi:=get_at h1
     have hsu:=zaG (g:=λk=>D.str (pick u k)) h1
     have hln:=zai (g:=λk=>D.str (pick u k)) hi
     rw[gi]at hsu;obtain⟨k,hk⟩: ∃k,k=at' pl i:=⟨_,rfl⟩;rw[<- hk]at gi hsu;have bad: ¬ (0<=k/\k<u.length)-> ¬ ∀k∈pl,0<=k/\k<(u.length:Int):=λa b=>a (b k (by rw[hk,<- get_at h1];exact List.getElem_mem _))
     by_cases k1:k<0
     ·rw[if_neg (bad (by omega))]at hA
      subst hT';simp -dsimp -implicitDefEqProofs (disch:=first|omega|assumption) [h1,gi,k1]
      exact fin _ (by rw[<- hA];simp[RwR])
     by_cases k2:(u.length:Int)<=k
     ·rw[if_neg (bad (by omega))]at hA
      subst hT';simp -dsimp -implicitDefEqProofs (disch:=first|omega|assumption) [h1,gi,k1,k2]
      exact fin _ (by rw[<- hA];simp[RwR])
     obtain⟨m,hm⟩: ∃m:Nat,k=m:=⟨k.toNat,by omega⟩
     have hmu:m<u.length:=by omega
     have hpk:pick u k=u[m]:=by rw[hm];simp[pick,hmu]
     have hstep: ∀j,j<i+1->0<=at' pl j/\at' pl j<u.length:=λj hj=>by
      by_cases e:j=i
      ·subst e;rw[<- hk];omega
      ·exact hok j (by omega)
     rw[hpk]at hsu;rw[hm]at gi k1 k2;simp -dsimp -implicitDefEqProofs (disch:=first|omega|assumption) [h1,gi,k1,k2,hmu,hln]
     refine ih (i+1) _ _ ⟨h1,hstep⟩ (by omega) ?_
     rw[hsu];simp -dsimp -implicitDefEqProofs (disch:=first|omega|assumption) [hln,E]
    ·obtain rfl:i=pl.length:=by omega
     have hall: ∀k∈pl,0<=k/\k<(u.length:Int):=by
      intro k hk;obtain⟨j,hj,rfl⟩:=List.mem_iff_getElem.1 hk;rw[get_at hj];exact hok j hj
     have hpe:=zbk (g:=λk=>D.str (pick u k)) (Nat.le_refl pl.length)
     rw[if_pos hall]at hA;subst hT';rw[hpe];simp -dsimp -implicitDefEqProofs (disch:=first|omega|assumption)
     refine fin _ ?_;rw[<- hA];simp[RwR]
 ·rw[if_neg c2]
  have c2': ¬ (c.toNat:Int)=1:=by omega
  have h:=zm6 r n hni (by omega)
  unfold zgw;cases hp:zhP (n:Int) r with
  |none=>
   rw[hp,zm5]at h;refine ra zrb rfl (zaK (zcm _)) ?_;simp -dsimp -implicitDefEqProofs (disch:=first|omega|assumption) [hl0,c1,c1',c2,c2',hwn,hwi,h]
   simp[Is,RwR]
  |some q=>
   obtain⟨sizes,zaB,e⟩:=q;obtain⟨hrest,hsl⟩:=zkF hp;rw[hp,zm5]at h;simp only
   by_cases e3:e≠0
   ·rw[if_pos e3]
    rw[decide_eq_false e3]at h;refine ra zrb rfl (zaK (zcm _)) ?_;simp -dsimp -implicitDefEqProofs (disch:=first|omega|assumption) [hl0,c1,c1',c2,c2',hwn,hwi,h]
    simp[Is,RwR]
   rw[if_neg e3];have e3':e=0:=by omega
   rw[decide_eq_true e3']at h;have hst:=zgv zaB sizes (by omega) hsl
   unfold Is at hst;cases hq:zbS sizes zaB with
   |none=>
    rw[hq,zhb]at hst;refine ra zrb rfl (zaK (zcm _)) ?_;simp -dsimp -implicitDefEqProofs (disch:=first|omega|assumption) [hl0,c1,c1',c2,c2',hwn,hwi,h,hst]
    simp[Is,RwR]
   |some q=>
    obtain⟨u,rest2⟩:=q;rw[hq,zhb]at hst;simp only[if_true];refine ra zrb rfl (zaK (zcm _)) ?_;simp -dsimp -implicitDefEqProofs (disch:=first|omega|assumption) [hl0,c1,c1',c2,c2',hwn,hwi,h,hst]
    simp[Is,RwR]
end Go.Am.Ab
