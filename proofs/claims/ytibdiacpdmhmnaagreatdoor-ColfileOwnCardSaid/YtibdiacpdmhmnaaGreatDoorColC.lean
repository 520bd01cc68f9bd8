/- Columns: their parts, read. -/
import Derived.Test.YtibdiacpdmhmnaaGreatDoorColA
import Derived.Test.YtibdiacpdmhmnaaGreatDoorParsing
import Derived.Test.YtibdiacpdmhmnaaGreatDoorColB
import Derived.Test.YtibdiacpdmhmnaaGreatDoorReadB
set_option linter.all false
namespace Go.Am.Ab
open Go.Proofs
set_option maxHeartbeats 4000000
set_option maxRecDepth 4000
abbrev uc (l:List Nat):List D:=l.map λ(n:Nat)=>D.int .u64 (n:Int)
def Is (q r:Option (List V × List Obj)):Prop:=r=q
def zbP {q:Option (List V × List Obj)} (h:q≠none): ¬ Is q none:=λg=>h g.symm
def zaK (b:List UInt8) (n:Nat):List Nat × Nat:=if b.length≠(n+7) / 8 then ([],40) else if num b<2 ^ n then (ups 1 (num b) n,0) else ([],40)
def zix (b:List UInt8) (n:Nat) (hn:n<=256) (hb:b.length<1000000):R 178 [B b,.d (.int .i64 n),.d (.int .i64 1)] []=some ([.arr 0 (zaK b n).1.length,E (zaK b n).2],[.arr 1 (uc (zaK b n).1) 0]):=by
 unfold zaK
 by_cases h1:b.length≠(n+7) / 8
 ·rw[yai h1]
  exact zsm b n 1 (by omega) hn (by omega) (by rw[ybU];exact h1)
 ·rw[yaf h1]
  by_cases h2:num b<2 ^ n
  ·rw[yai h2]
   have:=zlp b n 1 hn (by omega) (by rw[ybU];omega) (by rw[ybU];exact h2)
   rw[show ((ups 1 (num b) n,0):List Nat × Nat).1.length=n from zfm _ _ _]
   exact this
  ·rw[yaf h2]
   exact zjO b n 1 hn (by omega) (by rw[ybU];omega) (by rw[ybU];exact h2)
def mkS (l:List UInt8):ByteArray:=⟨l.toArray⟩
def za4:List Int->List UInt8->PR (List ByteArray)
 |[],b=> .ok [] b
 |k::r,b=>if k<0\/64<k then .err 40 else if (b.length:Int)<k then .err 30 else (za4 r (b.drop k.toNat)).map (mkS (b.take k.toNat):: ·)
def zlM (n:Int) (b:List UInt8):PR (List ByteArray):=
 if (get b).2.2≠0 then .err (get b).2.2 else
 if (b.drop (get b).2.1).length<(get b).1 then .err 30 else
 if (zbO ((b.drop (get b).2.1).take (get b).1) n).2≠0 then .err (zbO ((b.drop (get b).2.1).take (get b).1) n).2 else
 za4 (zbO ((b.drop (get b).2.1).take (get b).1) n).1 ((b.drop (get b).2.1).drop (get b).1)
def zoS:PR (List ByteArray)->Option (List V × List Obj)
 |.err e=>some ([.arr 0 0,.arr 1 0,E e],[.arr 1 [] 0,.arr 1 [] 0])
 |.ok l r=>some ([.arr 0 l.length,B r,E 0],[.arr 1 (l.map D.str) 0])
def zu7 (p:PR (List ByteArray)):zoS p≠none:=by cases p <;> simp[zoS]
@[simp] def zoi (b:UInt8):byteOf? (zbT b)=some b:=by
 simp[byteOf?,zbT]
def zfx: ∀l:List UInt8,(bytes l).mapM byteOf?=some l
 |[]=>rfl
 |x::r=>by
  have:=zfx r;simp only[bytes]at this ⊢;rw[ya1,yaI,zoi,this];rfl
end Go.Am.Ab
namespace Go.Am.Ab
open Go.Proofs
set_option maxHeartbeats 4000000
set_option maxRecDepth 4000
def ze3 (b:List UInt8) (n:Int):(zbO b n).1.length<=256:=by
 unfold zbO;split
 ·simp
 ·rename_i h
  cases b with
  |nil=>simp
  |cons c r=>
   simp only;split
   ·simp
   ·unfold zzK
    split
    ·simp
    ·rename_i l r2 hp
     split
     ·simp
     ·split
      ·have:=(zmw hp).1
       simp only;omega
      ·simp
def zGH (sz:List Int) (b0:List UInt8) (x:Nat × List ByteArray × List UInt8):Prop:=x.1<=sz.length/\x.2.1.length=x.1/\x.2.2.length<=b0.length/\za4 sz b0=(za4 (sz.drop x.1) x.2.2).map (x.2.1++ ·)
def zq8 (b0:List UInt8) (n:Int) (hn:zaf n) (hb0:b0.length<1000000):Is (zoS (zlM n b0)) (R 214 [B b0,.d (.int .i64 n)] []):=by
 have hg:=zfn b0 (by omega)
 have hgu:=zft b0;have hgl:=zdr b0;unfold zlM;obtain⟨g1,hg1⟩: ∃g,g=(get b0).1:=⟨_,rfl⟩;obtain⟨g2,hg2⟩: ∃g,g=(get b0).2.1:=⟨_,rfl⟩;obtain⟨g3,hg3⟩: ∃g,g=(get b0).2.2:=⟨_,rfl⟩;rw[<- hg1,<- hg2,<- hg3]at hg;rw[<- hg2]at hgu;rw[<- hg1]at hgl;rw[<- hg1,<- hg2,<- hg3]
 by_cases e0:g3≠0
 ·rw[yai e0]
  have e0': ¬ (g3:Int)=0:=by omega
  simp only[zoS];refine ra zEy rfl (zbP (by simp)) ?_
  simp -dsimp -implicitDefEqProofs (disch:=first|omega|assumption) [hg,e0,e0']
  simp[Is,E]
 rw[yaf e0];have e0':g3=0:=by omega
 subst e0';obtain⟨b1,hb1⟩: ∃b1,b1=b0.drop g2:=⟨_,rfl⟩;have hb1':List.drop g2 (bytes b0)=bytes b1:=by rw[hb1,bytes,bytes,ycm]
 have hb1l:b1.length<1000000:=by rw[hb1,yay];omega
 rw[<- hb1];have hdl:b1.length=b0.length - g2:=by rw[hb1,yay]
 have hw1:IntKind.u64.wrap (b1.length:Int)=b1.length:=zan (by omega) (by omega)
 by_cases e1:b1.length<g1
 ·rw[yai e1]
  have e1':(b1.length:Int)<g1:=by omega
  simp only[zoS];refine ra zEy rfl (zbP (by simp)) ?_
  simp -dsimp -implicitDefEqProofs (disch:=first|omega|assumption) [hg,hgu,hb1',hw1,e1,e1']
  simp[Is,E]
 rw[yaf e1];have e1': ¬ (b1.length:Int)<g1:=by omega
 have e1b:g1<=b1.length:=by omega
 obtain⟨bt,hbt⟩: ∃bt,bt=b1.take g1:=⟨_,rfl⟩;obtain⟨bd,hbd⟩: ∃bd,bd=b1.drop g1:=⟨_,rfl⟩;have hbt':List.take g1 (bytes b1)=bytes bt:=by rw[hbt,bytes,bytes,ybZ]
 have hbd':List.drop g1 (bytes b1)=bytes bd:=by rw[hbd,bytes,bytes,ycm]
 have hbtl:bt.length<1000000:=by rw[hbt,yat];omega
 have hbdl:bd.length<1000000:=by rw[hbd,yay];omega
 rw[<- hbt,<- hbd];have hrd:=zkb bt n hbtl hn;have hrl:=ze3 bt n;obtain⟨q,hq⟩: ∃q,q=(zbO bt n).2:=⟨_,rfl⟩;obtain⟨sz,hsz⟩: ∃sz,sz=(zbO bt n).1:=⟨_,rfl⟩;rw[<- hq,<- hsz]at hrd;rw[<- hsz]at hrl;rw[<- hq,<- hsz];clear hg1 hg2 hg3 hb1 hbt hbd hq hsz
 by_cases e2:q≠0
 ·rw[yai e2]
  have e2': ¬ (q:Int)=0:=by omega
  simp only[zoS];refine ra zEy rfl (zbP (by simp)) ?_
  simp -dsimp -implicitDefEqProofs (disch:=first|omega|assumption) [hg,hgu,hb1',hw1,e1,e1',e1b,hbt',hrd,e2,e2']
  simp[Is,E]
 rw[yaf e2];have e2':q=0:=by omega
 subst e2';refine ra zEy rfl (zbP (zu7 _)) ?_;simp -dsimp -implicitDefEqProofs (disch:=first|omega|assumption) [hg,hgu,hb1',hw1,e1,e1',e1b,hbt',hrd,hbd']
 generalize hT0:Is (zoS (za4 sz bd))=T0;have fin: ∀p,za4 sz bd=p-> ∀r,r=zoS p->T0 r:=λp hp r hr=>by rw[<- hT0];show r=_;rw[hr,hp]
 generalize hz:zak _ _ _ _ _ _=z;revert z;refine zaa (σ:=Nat × List ByteArray × List UInt8) (λx=>[(0,B x.2.2),(11,.arr 0 x.1),(45,.arr 1 sz.length),(46,.d (.int .i64 sz.length)),(47,.d (.int .i64 x.1))]) (λx=>[.arr 1 (x.2.1.map D.str) 0,.arr 1 (cs sz) 0]) (zGH sz bd) (λx=>sz.length - x.1) (0,[],bd) ?_ ?_ ?_
 ·exact⟨yaj _,rfl,yag _,by rw[yc8];exact (PR.map_id (λa=>rfl) _).symm⟩
 ·simp -dsimp -implicitDefEqProofs (disch:=first|omega|assumption) [B,E]
 intro T' f hT' ⟨i,l,b⟩ ⟨hi,hl,hbl,hp⟩ ih;simp only at hi hl hbl hp ih
 by_cases h1:i<sz.length
 ·have gi:=get_at h1
  have hdr:sz.drop i=at' sz i::sz.drop (i+1):=by rw[<- gi];exact yaG h1
  rw[hdr,za4]at hp;obtain⟨k,hk⟩: ∃k,k=at' sz i:=⟨_,rfl⟩;rw[<- hk]at hp gi
  by_cases c1:k<0
  ·rw[yai (.inl c1)]at hp
   subst hT';simp -dsimp -implicitDefEqProofs (disch:=first|omega|assumption) [h1,gi,c1]
   exact fin _ hp _ (by simp[zoS,E])
  by_cases c2:64<k
  ·rw[yai (.inr c2)]at hp
   subst hT';simp -dsimp -implicitDefEqProofs (disch:=first|omega|assumption) [h1,gi,c1,c2]
   exact fin _ hp _ (by simp[zoS,E])
  rw[yaf (by omega)]at hp
  by_cases c3:(b.length:Int)<k
  ·rw[yai c3]at hp
   subst hT';simp -dsimp -implicitDefEqProofs (disch:=first|omega|assumption) [h1,gi,c1,c2,c3]
   exact fin _ hp _ (by simp[zoS,E])
  rw[yaf c3,PR.map_map]at hp;obtain⟨m,rfl⟩: ∃m:Nat,k=m:=⟨k.toNat,by omega⟩
  rw[yaz]at hp;have c4:m<=b.length:=by omega
  obtain⟨bt,hbt⟩: ∃bt,bt=b.take m:=⟨_,rfl⟩;obtain⟨bd',hbd2⟩: ∃bd,bd=b.drop m:=⟨_,rfl⟩;have hbt2:List.take m (bytes b)=bytes bt:=by rw[hbt,bytes,bytes,ybZ]
  have hbd3:List.drop m (bytes b)=bytes bd':=by rw[hbd2,bytes,bytes,ycm]
  have hbdl2:bd'.length<=b.length:=by rw[hbd2,yay];omega
  have hM:=zfx bt;rw[<- hbt,<- hbd2]at hp;simp -dsimp -implicitDefEqProofs (disch:=first|omega|assumption) [h1,gi,c1,c2,c3,c4,hbt2,hbd3,hM]
  refine ih (i+1,l++[mkS bt],bd') _ _ ⟨h1,by simp[hl],by simp only;omega, ?_⟩ (by simp only;omega) ?_
  ·rw[hp];simp
  ·simp -dsimp -implicitDefEqProofs (disch:=first|omega|assumption) [B,hl,mkS]
 ·obtain rfl:i=sz.length:=by omega
  rw[yb9,za4,PR.map_ok,yaq]at hp;subst hT';simp -dsimp -implicitDefEqProofs (disch:=first|omega|assumption)
  exact fin _ hp _ (by simp[zoS,E,B,hl])
end Go.Am.Ab
namespace Go.Am.Ab
open Go.Proofs
set_option maxHeartbeats 4000000
set_option maxRecDepth 4000
def pick (u:List ByteArray) (k:Int):ByteArray:=u.getD k.toNat noS
def zcG (n:Nat) (b:List UInt8):List ByteArray × Nat:=
 match b with
 |[]=>([],30)
 |c::r=>
  if c.toNat=0 then
   match zlM n r with
   |.err e=>([],e)
   |.ok l zav=>if zav≠[] then (l,32) else (l,0)
  else if (get r).2.2≠0 then ([],(get r).2.2)
  else if 1<c.toNat\/n<(get r).1 then ([],40)
  else match zlM (get r).1 (r.drop (get r).2.1) with
   |.err e=>([],e)
   |.ok u zav=>
    if (zbO zav n).2≠0 then ([],(zbO zav n).2)
    else if ∀k∈(zbO zav n).1,0<=k/\k<u.length then ((zbO zav n).1.map (pick u),0) else ([],40)
def zlN: ∀ {l:List Int} {b:List UInt8} {e:Nat},za4 l b= .err e->e≠0
 |[],b,e,h=>by simp[za4]at h
 |k::r,b,e,h=>by
  unfold za4 at h;split at h
  ·simp at h;omega
  ·split at h
   ·simp at h;omega
   ·cases hp:za4 r (b.drop k.toNat) with
    |err e'=>rw[hp]at h;simp at h;have:=zlN hp;omega
    |ok l r=>rw[hp]at h;simp at h
def ziT {n:Int} {b:List UInt8} {e:Nat} (h:zlM n b= .err e):e≠0:=by
 unfold zlM at h;split at h
 ·simp at h;omega
 ·split at h
  ·simp at h;omega
  ·split at h
   ·simp at h;omega
   ·exact zlN h
def zkc: ∀ {l:List Int} {b zav:List UInt8} {t:List ByteArray},za4 l b= .ok t zav->zav.length<=b.length
 |[],b,_,_,h=>by simp[za4]at h;simp[h.2]
 |k::r,b,zav,t,h=>by
  unfold za4 at h;split at h
  ·simp at h
  ·split at h
   ·simp at h
   ·cases hp:za4 r (b.drop k.toNat) with
    |err e'=>rw[hp]at h;simp at h
    |ok l r2=>
     rw[hp]at h;simp at h;have:=zkc hp;rw[<- h.2];simp only[yay]at this;omega
def zu8 {n:Int} {b zav:List UInt8} {t:List ByteArray} (h:zlM n b= .ok t zav):zav.length<=b.length:=by
 unfold zlM at h;split at h
 ·simp at h
 ·split at h
  ·simp at h
  ·split at h
   ·simp at h
   ·have:=zkc h
    simp only[yay]at this;omega
def UwR (p:List ByteArray × Nat):Option (List V × List Obj):=some ([.arr 0 p.1.length,E p.2],[.arr 1 (p.1.map D.str) 0])
def zcV (p:List ByteArray × Nat):UwR p≠none:=by simp[UwR]
def zoj (b:List UInt8) (n:Nat) (hn:n<=256) (hb:b.length<1000000):Is (UwR (zcG n b)) (R 196 [B b,.d (.int .i64 n)] []):=by
 have hni:zaf (n:Int):=by unfold zaf;omega
 cases b with
 |nil=>
  refine ra zwb rfl (zbP (zcV _)) ?_;simp -dsimp -implicitDefEqProofs (disch:=first|omega|assumption)
  simp[Is,UwR,zcG,E]
 |cons c r=>
 simp only[yad]at hb;have hl0: ¬ ((r.length:Int)+1=0):=by omega
 unfold zcG;simp only
 by_cases c0:c.toNat=0
 ·rw[yai c0]
  have h:=zq8 r n hni (by omega)
  unfold Is at h;cases hp:zlM (n:Int) r with
  |err e=>
   rw[hp,zoS]at h;have he:=ziT hp;have he': ¬ (e:Int)=0:=by omega
   refine ra zwb rfl (zbP (zcV _)) ?_;simp -dsimp -implicitDefEqProofs (disch:=first|omega|assumption) [hl0,c0,h,he,he']
   simp[Is,UwR,E]
  |ok l zav=>
   rw[hp,zoS]at h
   by_cases hr:zav=[]
   ·subst hr
    refine ra zwb rfl (zbP (zcV _)) ?_;simp -dsimp -implicitDefEqProofs (disch:=first|omega|assumption) [hl0,c0,h]
    simp[Is,UwR,E]
   ·have hr':0<zav.length:=List.length_pos_iff.2 hr
    refine ra zwb rfl (zbP (zcV _)) ?_;simp -dsimp -implicitDefEqProofs (disch:=first|omega|assumption) [hl0,c0,h,hr']
    simp[Is,UwR,E,hr]
 rw[yaf c0];have c0': ¬ (c.toNat:Int)=0:=by omega
 have hg:=zfn r (by omega)
 have hgu:=zft r;have hgl:=zdr r;obtain⟨g1,hg1⟩: ∃g,g=(get r).1:=⟨_,rfl⟩;obtain⟨g2,hg2⟩: ∃g,g=(get r).2.1:=⟨_,rfl⟩;obtain⟨g3,hg3⟩: ∃g,g=(get r).2.2:=⟨_,rfl⟩;rw[<- hg1,<- hg2,<- hg3]at hg;rw[<- hg2]at hgu;rw[<- hg1]at hgl;rw[<- hg1,<- hg2,<- hg3]
 by_cases e0:g3≠0
 ·rw[yai e0]
  have e0': ¬ (g3:Int)=0:=by omega
  refine ra zwb rfl (zbP (zcV _)) ?_;simp -dsimp -implicitDefEqProofs (disch:=first|omega|assumption) [hl0,c0,c0',hg,e0,e0']
  simp[Is,UwR,E]
 rw[yaf e0];have e0':g3=0:=by omega
 subst e0';have hw:IntKind.u64.wrap (n:Int)=n:=zan (by omega) (by omega)
 by_cases e1:1<c.toNat
 ·rw[yai (.inl e1)]
  have e1':(1:Int)<c.toNat:=by omega
  refine ra zwb rfl (zbP (zcV _)) ?_;simp -dsimp -implicitDefEqProofs (disch:=first|omega|assumption) [hl0,c0,c0',hg,e1,e1',hw]
  simp[Is,UwR,E]
 have e1': ¬ (1:Int)<c.toNat:=by omega
 by_cases e2:n<g1
 ·rw[yai (.inr e2)]
  have e2':(n:Int)<g1:=by omega
  refine ra zwb rfl (zbP (zcV _)) ?_;simp -dsimp -implicitDefEqProofs (disch:=first|omega|assumption) [hl0,c0,c0',hg,e1,e1',hw,e2,e2']
  simp[Is,UwR,E]
 rw[yaf (by omega)]
 have e2': ¬ (n:Int)<g1:=by omega
 have hwi:IntKind.i64.wrap (g1:Int)=g1:=wI (by omega) (by omega)
 obtain⟨r1,hr1⟩: ∃r1,r1=r.drop g2:=⟨_,rfl⟩;have hr1':List.drop g2 (bytes r)=bytes r1:=by rw[hr1,bytes,bytes,ycm]
 have x1:((1:Int)+g2).toNat=g2+1:=by omega
 have hr1l:r1.length<1000000:=by rw[hr1,yay];omega
 rw[<- hr1];have h:=zq8 r1 g1 (by unfold zaf;omega) hr1l
 unfold Is at h;clear hg1 hg2 hg3 hr1;cases hp:zlM (g1:Int) r1 with
 |err e=>
  rw[hp,zoS]at h;have he:=ziT hp;have he': ¬ (e:Int)=0:=by omega
  refine ra zwb rfl (zbP (zcV _)) ?_;simp -dsimp -implicitDefEqProofs (disch:=first|omega|assumption) [hl0,c0,c0',hg,e1,e1',hw,e2,e2',hwi,x1,hr1',h,he,he',hgu]
  simp[Is,UwR,E]
 |ok u zav=>
  rw[hp,zoS]at h;simp only;have hrest:=zu8 hp;have hrd:=zkb zav n (by omega) hni
  have hrl:=ze3 zav n;obtain⟨q,hq⟩: ∃q,q=(zbO zav n).2:=⟨_,rfl⟩;obtain⟨pl,hpl⟩: ∃pl,pl=(zbO zav n).1:=⟨_,rfl⟩;rw[<- hq,<- hpl]at hrd;rw[<- hpl]at hrl;rw[<- hq,<- hpl]
  by_cases e3:q≠0
  ·rw[yai e3]
   have e3': ¬ (q:Int)=0:=by omega
   refine ra zwb rfl (zbP (zcV _)) ?_;simp -dsimp -implicitDefEqProofs (disch:=first|omega|assumption) [hl0,c0,c0',hg,e1,e1',hw,e2,e2',hwi,x1,hr1',h,hgu,hrd,e3,e3']
   simp[Is,UwR,E]
  rw[yaf e3];have e3':q=0:=by omega
  subst e3';refine ra zwb rfl (zbP (zcV _)) ?_;simp -dsimp -implicitDefEqProofs (disch:=first|omega|assumption) [hl0,c0,c0',hg,e1,e1',hw,e2,e2',hwi,x1,hr1',h,hgu,hrd]
  generalize hT0:Is _=T0;have fin: ∀r,r=UwR (if ∀k∈pl,0<=k/\k<u.length then (pl.map (pick u),0) else ([],40))->T0 r:=λr hr=>by rw[<- hT0];exact hr
  generalize hz:zak _ _ _ _ _ _=z;revert z;refine zaa (σ:=Nat) (λi=>[(12,.arr 0 u.length),(15,.arr 1 i),(85,.arr 2 pl.length),(86,.d (.int .i64 pl.length)),(87,.d (.int .i64 i))]) (λi=>[.arr 1 (u.map D.str) 0,.arr 1 (zey (λk=> .str (pick u k)) pl i) 0,.arr 1 (cs pl) 0]) (λi=>i<=pl.length/\ ∀j,j<i->0<=at' pl j/\at' pl j<u.length) (λi=>pl.length - i) 0 ?_ ?_ ?_
  ·exact⟨yaj _,λj hj=>by omega⟩
  ·simp -dsimp -implicitDefEqProofs (disch:=first|omega|assumption) [zaR]
  intro T' f hT' i ⟨hi,hok⟩ ih
  by_cases h1:i<pl.length
  ·have gi:=get_at h1
   have hsu:=zaS (g:=λk=>D.str (pick u k)) h1
   have hln:=zam (g:=λk=>D.str (pick u k)) hi
   rw[gi]at hsu;obtain⟨k,hk⟩: ∃k,k=at' pl i:=⟨_,rfl⟩;rw[<- hk]at gi hsu;have bad: ¬ (0<=k/\k<u.length)-> ¬ ∀k∈pl,0<=k/\k<(u.length:Int):=λa b=>a (b k (by rw[hk,<- get_at h1];exact yar _))
   by_cases k1:k<0
   ·subst hT'
    simp -dsimp -implicitDefEqProofs (disch:=first|omega|assumption) [h1,gi,k1]
    exact fin _ (by rw[yaf (bad (by omega))];simp[UwR,E])
   by_cases k2:(u.length:Int)<=k
   ·subst hT'
    simp -dsimp -implicitDefEqProofs (disch:=first|omega|assumption) [h1,gi,k1,k2]
    exact fin _ (by rw[yaf (bad (by omega))];simp[UwR,E])
   obtain⟨m,hm⟩: ∃m:Nat,k=m:=⟨k.toNat,by omega⟩
   have hmu:m<u.length:=by omega
   have hpk:pick u k=u[m]:=by rw[hm];simp[pick,hmu]
   have hstep: ∀j,j<i+1->0<=at' pl j/\at' pl j<u.length:=λj hj=>by
    by_cases e:j=i
    ·subst e;rw[<- hk];omega
    ·exact hok j (by omega)
   rw[hpk]at hsu;rw[hm]at gi k1 k2;simp -dsimp -implicitDefEqProofs (disch:=first|omega|assumption) [h1,gi,k1,k2,hmu,hln]
   refine ih (i+1) _ _ ⟨h1,hstep⟩ (by omega) ?_
   rw[hsu];simp -dsimp -implicitDefEqProofs (disch:=first|omega|assumption) [hln]
  ·obtain rfl:i=pl.length:=by omega
   have hall: ∀k∈pl,0<=k/\k<(u.length:Int):=by
    intro k hk;obtain⟨j,hj,rfl⟩:=List.mem_iff_getElem.1 hk;rw[get_at hj];exact hok j hj
   have hpe:=zbw (g:=λk=>D.str (pick u k)) (yag pl.length)
   subst hT';rw[hpe];simp -dsimp -implicitDefEqProofs (disch:=first|omega|assumption)
   refine fin _ ?_;rw[yai hall];simp[UwR,E]
end Go.Am.Ab
namespace Go.Am.Ab
open Go.Proofs
set_option maxHeartbeats 4000000
set_option maxRecDepth 4000
def zaF (k n:Nat) (b:List UInt8):List Val × Nat:=
 if k=1 then ((zbO b n).1.map .whole,(zbO b n).2)
 else if k=2 then ((zaK b n).1.map λ(x:Nat)=> .truth (decide ((x:Int)=1)),(zaK b n).2)
 else ((zcG n b).1.map .text,(zcG n b).2)
def VsR (p:List Val × Nat):Option (List V × List Obj):=some ([.arr 0 p.1.length,E p.2],[.arr 1 (vs p.1) 0])
def zc4 (p:List Val × Nat):VsR p≠none:=by simp[VsR]
def zsX (n:Nat) (b:List UInt8):(zcG n b).1.length<=256:=by
 have hC: ∀ (n:Int) (b zav:List UInt8) (l:List ByteArray),zlM n b= .ok l zav->l.length<=256:=by
  intro n b zav l h;have key: ∀ (sz:List Int) (b zav:List UInt8) (l:List ByteArray),za4 sz b= .ok l zav->l.length=sz.length:=by
   intro sz
   induction sz with
   |nil=>intro b zav l h;simp[za4]at h;simp[<- h.1]
   |cons k r ih=>
    intro b zav l h;unfold za4 at h;split at h
    ·simp at h
    ·split at h
     ·simp at h
     ·cases hp:za4 r (b.drop k.toNat) with
      |err e'=>rw[hp]at h;simp at h
      |ok l2 r2=>
       rw[hp]at h;simp at h;rw[<- h.1];simp[ih _ _ _ hp]
  unfold zlM at h;split at h
  ·simp at h
  ·split at h
   ·simp at h
   ·split at h
    ·simp at h
    ·rw[key _ _ _ _ h];exact ze3 _ _
 unfold zcG;split
 ·simp
 ·split
  ·split
   ·simp
   ·rename_i hp
    have:=hC _ _ _ _ hp;split <;> exact this
  ·split
   ·simp
   ·split
    ·simp
    ·split
     ·simp
     ·split
      ·simp
      ·split
       ·simp only[yak];exact ze3 _ _
       ·simp
def zok (b:List UInt8) (n:Nat) (hn:n<=256) (hb:b.length<1000000):Is (VsR (zaF 1 n b)) (R 179 [.d (.int .u8 1),B b,.d (.int .i64 n)] []):=by
 have h:=zkb b n hb (by unfold zaf;omega)
 have hl:=ze3 b n;rw[show zaF 1 n b=((zbO b n).1.map .whole,(zbO b n).2) from rfl]
 obtain⟨l,hle⟩: ∃l,l=(zbO b n).1:=⟨_,rfl⟩;obtain⟨e,hee⟩: ∃e,e=(zbO b n).2:=⟨_,rfl⟩;rw[<- hle,<- hee]at h;rw[<- hle]at hl;rw[<- hle,<- hee];clear hle hee;refine ra zGE rfl (zbP (zc4 _)) ?_;simp -dsimp -implicitDefEqProofs (disch:=first|omega|assumption) [h]
 generalize hT0:Is _=T0;have fin: ∀r,r=VsR (l.map .whole,e)->T0 r:=λr hr=>by rw[<- hT0];exact hr
 generalize hz:zak _ _ _ _ _ _=z;revert z;refine zaa (σ:=Nat) (λi=>[(8,.arr 0 i),(10,E e),(30,.arr 1 l.length),(31,.d (.int .i64 l.length)),(32,.d (.int .i64 i))]) (λi=>[.arr 1 (zey (λx=> .iface 2 (.int .i64 x)) l i) 0,.arr 1 (cs l) 0]) (λi=>i<=l.length) (λi=>l.length - i) 0 ?_ ?_ ?_
 ·exact yaj _
 ·simp -dsimp -implicitDefEqProofs (disch:=first|omega|assumption) [zaR,E]
 intro T' f hT' i hi ih
 by_cases h1:i<l.length
 ·have hsu:=zaS (g:=λx=> .iface 2 (.int .i64 x)) h1
  have hln:=zam (g:=λx=> .iface 2 (.int .i64 x)) hi
  simp -dsimp -implicitDefEqProofs (disch:=first|omega|assumption) [h1,hln]
  refine ih (i+1) _ _ h1 (by omega) ?_
  rw[hsu];simp -dsimp -implicitDefEqProofs (disch:=first|omega|assumption) [hln,E]
 ·obtain rfl:i=l.length:=by omega
  have hpe:=zbw (g:=λx=> .iface 2 (.int .i64 x)) (yag l.length)
  subst hT';rw[hpe];simp -dsimp -implicitDefEqProofs (disch:=first|omega|assumption)
  refine fin _ ?_;simp[VsR,E,Val.d]
def zol (b:List UInt8) (n:Nat) (hn:n<=256) (hb:b.length<1000000):Is (VsR (zaF 2 n b)) (R 179 [.d (.int .u8 2),B b,.d (.int .i64 n)] []):=by
 have h:=zix b n hn hb;have hl:(zaK b n).1.length<=256:=by
  unfold zaK;split
  ·simp
  ·split <;> simp[zfm];omega
 rw[show zaF 2 n b=((zaK b n).1.map λ(x:Nat)=> .truth (decide ((x:Int)=1)),(zaK b n).2) from rfl]
 obtain⟨l,hle⟩: ∃l,l=(zaK b n).1:=⟨_,rfl⟩;obtain⟨e,hee⟩: ∃e,e=(zaK b n).2:=⟨_,rfl⟩;rw[<- hle,<- hee]at h;rw[<- hle]at hl;rw[<- hle,<- hee];clear hle hee;refine ra zGE rfl (zbP (zc4 _)) ?_;simp -dsimp -implicitDefEqProofs (disch:=first|omega|assumption) [h]
 generalize hT0:Is _=T0;have fin: ∀r,r=VsR (l.map (λ(x:Nat)=> .truth (decide ((x:Int)=1))),e)->T0 r:=λr hr=>by rw[<- hT0];exact hr
 generalize hz:zak _ _ _ _ _ _=z;revert z;refine zaa (σ:=Nat) (λi=>[(8,.arr 0 i),(14,E e),(52,.arr 1 l.length),(53,.d (.int .i64 l.length)),(54,.d (.int .i64 i))]) (λi=>[.arr 1 (zey (λ(x:Nat)=> .iface 4 (.bool (decide ((x:Int)=1)))) l i) 0,.arr 1 (uc l) 0]) (λi=>i<=l.length) (λi=>l.length - i) 0 ?_ ?_ ?_
 ·exact yaj _
 ·simp -dsimp -implicitDefEqProofs (disch:=first|omega|assumption) [zaR,E]
 intro T' f hT' i hi ih
 by_cases h1:i<l.length
 ·have hsu:=zaS (g:=λ(x:Nat)=> .iface 4 (.bool (decide ((x:Int)=1)))) h1
  have hln:=zam (g:=λ(x:Nat)=> .iface 4 (.bool (decide ((x:Int)=1)))) hi
  simp -dsimp -implicitDefEqProofs (disch:=first|omega|assumption) [h1,hln]
  refine ih (i+1) _ _ h1 (by omega) ?_
  rw[hsu];simp -dsimp -implicitDefEqProofs (disch:=first|omega|assumption) [hln,E]
 ·obtain rfl:i=l.length:=by omega
  have hpe:=zbw (g:=λ(x:Nat)=> .iface 4 (.bool (decide ((x:Int)=1)))) (yag l.length)
  subst hT';rw[hpe];simp -dsimp -implicitDefEqProofs (disch:=first|omega|assumption)
  refine fin _ ?_;simp[VsR,E,Val.d]
def zom (b:List UInt8) (n:Nat) (hn:n<=256) (hb:b.length<1000000):Is (VsR (zaF 3 n b)) (R 179 [.d (.int .u8 3),B b,.d (.int .i64 n)] []):=by
 have h:=zoj b n hn hb;have hl:=zsX n b;rw[show zaF 3 n b=((zcG n b).1.map .text,(zcG n b).2) from rfl]
 obtain⟨l,hle⟩: ∃l,l=(zcG n b).1:=⟨_,rfl⟩;obtain⟨e,hee⟩: ∃e,e=(zcG n b).2:=⟨_,rfl⟩;unfold Is UwR at h;rw[<- hle,<- hee]at h;rw[<- hle]at hl;rw[<- hle,<- hee];clear hle hee;refine ra zGE rfl (zbP (zc4 _)) ?_;simp -dsimp -implicitDefEqProofs (disch:=first|omega|assumption) [h]
 generalize hT0:Is _=T0;have fin: ∀r,r=VsR (l.map .text,e)->T0 r:=λr hr=>by rw[<- hT0];exact hr
 generalize hz:zak _ _ _ _ _ _=z;revert z;refine zaa (σ:=Nat) (λi=>[(8,.arr 0 i),(18,E e),(73,.arr 1 l.length),(74,.d (.int .i64 l.length)),(75,.d (.int .i64 i))]) (λi=>[.arr 1 (zey (λx=> .iface 9 (.str x)) l i) 0,.arr 1 (ss l) 0]) (λi=>i<=l.length) (λi=>l.length - i) 0 ?_ ?_ ?_
 ·exact yaj _
 ·simp -dsimp -implicitDefEqProofs (disch:=first|omega|assumption) [zaR,E]
 intro T' f hT' i hi ih
 by_cases h1:i<l.length
 ·have hsu:=zaS (g:=λx=> .iface 9 (.str x)) h1
  have hln:=zam (g:=λx=> .iface 9 (.str x)) hi
  simp -dsimp -implicitDefEqProofs (disch:=first|omega|assumption) [h1,hln]
  refine ih (i+1) _ _ h1 (by omega) ?_
  rw[hsu];simp -dsimp -implicitDefEqProofs (disch:=first|omega|assumption) [hln,E]
 ·obtain rfl:i=l.length:=by omega
  have hpe:=zbw (g:=λx=> .iface 9 (.str x)) (yag l.length)
  subst hT';rw[hpe];simp -dsimp -implicitDefEqProofs (disch:=first|omega|assumption)
  refine fin _ ?_;simp[VsR,E,Val.d]
end Go.Am.Ab
