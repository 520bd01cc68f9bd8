/- Columns: their parts, read. -/
import Derived.Test.YtibdiacpdmhmnaaGreatDoorColA
import Derived.Test.YtibdiacpdmhmnaaGreatDoorParsing
import Derived.Test.YtibdiacpdmhmnaaGreatDoorColB
import Derived.Test.YtibdiacpdmhmnaaGreatDoorReadB
set_option linter.all false
namespace Go.Am.Ab
open Go.Proofs
set_option maxHeartbeats 4000000
set_option maxRecDepth 4000
abbrev uc (l:List Nat):List D:=l.map λ(n:Nat)=>D.int .u64 (n:Int)
def Is (q r:Option (List V × List Obj)):Prop:=r=q
def zbP {q:Option (List V × List Obj)} (h:q≠none): ¬ Is q none:=λg=>h g.symm
def zaL (b:List UInt8) (n:Nat):List Nat × Nat:=if b.length≠(n+7) / 8 then ([],40) else if num b<2 ^ n then (ups 1 (num b) n,0) else ([],40)
def ziK (b:List UInt8) (n:Nat) (hn:n<=256) (hb:b.length<1000000):R 178 [B b,.d (.int .i64 n),.d (.int .i64 1)] []=some ([.arr 0 (zaL b n).1.length,E (zaL b n).2],[.arr 1 (uc (zaL b n).1) 0]):=by
 unfold zaL
 by_cases h1:b.length≠(n+7) / 8
 ·rw[yag h1]
  exact zsX b n 1 (by omega) hn (by omega) (by rw[yb9];exact h1)
 ·rw[yac h1]
  by_cases h2:num b<2 ^ n
  ·rw[yag h2]
   have:=zlI b n 1 hn (by omega) (by rw[yb9];omega) (by rw[yb9];exact h2)
   rw[show ((ups 1 (num b) n,0):List Nat × Nat).1.length=n from zfq _ _ _]
   exact this
  ·rw[yac h2]
   exact zjZ b n 1 hn (by omega) (by rw[yb9];omega) (by rw[yb9];exact h2)
def mkS (l:List UInt8):ByteArray:=⟨l.toArray⟩
def za7:List Int->List UInt8->PR (List ByteArray)
 |[],b=> .ok [] b
 |k::r,b=>if k<0\/64<k then .err 40 else if (b.length:Int)<k then .err 30 else (za7 r (b.drop k.toNat)).map (mkS (b.take k.toNat):: ·)
def zl2 (n:Int) (b:List UInt8):PR (List ByteArray):=
 if (get b).2.2≠0 then .err (get b).2.2 else
 if (b.drop (get b).2.1).length<(get b).1 then .err 30 else
 if (zbO ((b.drop (get b).2.1).take (get b).1) n).2≠0 then .err (zbO ((b.drop (get b).2.1).take (get b).1) n).2 else
 za7 (zbO ((b.drop (get b).2.1).take (get b).1) n).1 ((b.drop (get b).2.1).drop (get b).1)
def zpn:PR (List ByteArray)->Option (List V × List Obj)
 |.err e=>some ([.arr 0 0,.arr 1 0,E e],[.arr 1 [] 0,.arr 1 [] 0])
 |.ok l r=>some ([.arr 0 l.length,B r,E 0],[.arr 1 (l.map D.str) 0])
def zvP (p:PR (List ByteArray)):zpn p≠none:=by cases p <;> simp[zpn]
@[simp] def zoJ (b:UInt8):byteOf? (zbh b)=some b:=by
 simp[byteOf?,zbh]
def zfC: ∀l:List UInt8,(bytes l).mapM byteOf?=some l
 |[]=>rfl
 |x::r=>by
  have:=zfC r;simp only[bytes]at this ⊢;rw[yaV,ya2,zoJ,this];rfl
end Go.Am.Ab
namespace Go.Am.Ab
open Go.Proofs
set_option maxHeartbeats 4000000
set_option maxRecDepth 4000
def ze8 (b:List UInt8) (n:Int):(zbO b n).1.length<=256:=by
 unfold zbO;split
 ·simp
 ·rename_i h
  cases b with
  |nil=>simp
  |cons c r=>
   simp only;split
   ·simp
   ·unfold zAC
    split
    ·simp
    ·rename_i l r2 hp
     split
     ·simp
     ·split
      ·have:=(zmQ hp).1
       simp only;omega
      ·simp
def zIf (sz:List Int) (b0:List UInt8) (x:Nat × List ByteArray × List UInt8):Prop:=x.1<=sz.length/\x.2.1.length=x.1/\x.2.2.length<=b0.length/\za7 sz b0=(za7 (sz.drop x.1) x.2.2).map (x.2.1++ ·)
def zrH (b0:List UInt8) (n:Int) (hn:zah n) (hb0:b0.length<1000000):Is (zpn (zl2 n b0)) (R 214 [B b0,.d (.int .i64 n)] []):=by
 have hg:=zfo b0 (by omega)
 have hgu:=zfw b0;have hgl:=zdu b0;unfold zl2;obtain⟨g1,hg1⟩: ∃g,g=(get b0).1:=⟨_,rfl⟩;obtain⟨g2,hg2⟩: ∃g,g=(get b0).2.1:=⟨_,rfl⟩;obtain⟨g3,hg3⟩: ∃g,g=(get b0).2.2:=⟨_,rfl⟩;rw[<- hg1,<- hg2,<- hg3]at hg;rw[<- hg2]at hgu;rw[<- hg1]at hgl;rw[<- hg1,<- hg2,<- hg3]
 by_cases e0:g3≠0
 ·rw[yag e0]
  have e0': ¬ (g3:Int)=0:=by omega
  simp only[zpn];refine ra zFM rfl (zbP (by simp)) ?_
  simp -dsimp -implicitDefEqProofs (disch:=omega) [hg,e0,e0']
  simp[Is,E]
 rw[yac e0];have e0':g3=0:=by omega
 subst e0';obtain⟨b1,hb1⟩: ∃b1,b1=b0.drop g2:=⟨_,rfl⟩;have hb1':List.drop g2 (bytes b0)=bytes b1:=by rw[hb1,bytes,bytes,ycc]
 have hb1l:b1.length<1000000:=by rw[hb1,yax];omega
 rw[<- hb1];have hdl:b1.length=b0.length - g2:=by rw[hb1,yax]
 have hw1:IntKind.u64.wrap (b1.length:Int)=b1.length:=zal (by omega) (by omega)
 by_cases e1:b1.length<g1
 ·rw[yag e1]
  have e1':(b1.length:Int)<g1:=by omega
  simp only[zpn];refine ra zFM rfl (zbP (by simp)) ?_
  simp -dsimp -implicitDefEqProofs (disch:=omega) [hg,hgu,hb1',hw1,e1,e1']
  simp[Is,E]
 rw[yac e1];have e1': ¬ (b1.length:Int)<g1:=by omega
 have e1b:g1<=b1.length:=by omega
 obtain⟨bt,hbt⟩: ∃bt,bt=b1.take g1:=⟨_,rfl⟩;obtain⟨bd,hbd⟩: ∃bd,bd=b1.drop g1:=⟨_,rfl⟩;have hbt':List.take g1 (bytes b1)=bytes bt:=by rw[hbt,bytes,bytes,ybQ]
 have hbd':List.drop g1 (bytes b1)=bytes bd:=by rw[hbd,bytes,bytes,ycc]
 have hbtl:bt.length<1000000:=by rw[hbt,yaq];omega
 have hbdl:bd.length<1000000:=by rw[hbd,yax];omega
 rw[<- hbt,<- hbd];have hrd:=zkp bt n hbtl hn;have hrl:=ze8 bt n;obtain⟨q,hq⟩: ∃q,q=(zbO bt n).2:=⟨_,rfl⟩;obtain⟨sz,hsz⟩: ∃sz,sz=(zbO bt n).1:=⟨_,rfl⟩;rw[<- hq,<- hsz]at hrd;rw[<- hsz]at hrl;rw[<- hq,<- hsz];clear hg1 hg2 hg3 hb1 hbt hbd hq hsz
 by_cases e2:q≠0
 ·rw[yag e2]
  have e2': ¬ (q:Int)=0:=by omega
  simp only[zpn];refine ra zFM rfl (zbP (by simp)) ?_
  simp -dsimp -implicitDefEqProofs (disch:=omega) [hg,hgu,hb1',hw1,e1,e1',e1b,hbt',hrd,e2,e2']
  simp[Is,E]
 rw[yac e2];have e2':q=0:=by omega
 subst e2';refine ra zFM rfl (zbP (zvP _)) ?_;simp -dsimp -implicitDefEqProofs (disch:=omega) [hg,hgu,hb1',hw1,e1,e1',e1b,hbt',hrd,hbd']
 generalize hT0:Is (zpn (za7 sz bd))=T0;have fin: ∀p,za7 sz bd=p-> ∀r,r=zpn p->T0 r:=λp hp r hr=>by rw[<- hT0];show r=_;rw[hr,hp]
 generalize hz:zaf _ _ _ _ _ _=z;revert z;refine zaa (σ:=Nat × List ByteArray × List UInt8) (λx=>[(0,B x.2.2),(11,.arr 0 x.1),(45,.arr 1 sz.length),(46,.d (.int .i64 sz.length)),(47,.d (.int .i64 x.1))]) (λx=>[.arr 1 (x.2.1.map D.str) 0,.arr 1 (cs sz) 0]) (zIf sz bd) (λx=>sz.length - x.1) (0,[],bd) ?_ ?_ ?_
 ·exact⟨yai _,rfl,yaj _,by rw[yc9];exact (PR.map_id (λa=>rfl) _).symm⟩
 ·simp -dsimp -implicitDefEqProofs (disch:=omega) [B,E]
 intro T' f hT' ⟨i,l,b⟩ ⟨hi,hl,hbl,hp⟩ ih;simp only at hi hl hbl hp ih
 by_cases h1:i<sz.length
 ·have gi:=get_at h1
  have hdr:sz.drop i=at' sz i::sz.drop (i+1):=by rw[<- gi];exact yao h1
  rw[hdr,za7]at hp;obtain⟨k,hk⟩: ∃k,k=at' sz i:=⟨_,rfl⟩;rw[<- hk]at hp gi
  by_cases c1:k<0
  ·rw[yag (.inl c1)]at hp
   subst hT';simp -dsimp -implicitDefEqProofs (disch:=omega) [h1,gi,c1]
   exact fin _ hp _ (by simp[zpn,E])
  by_cases c2:64<k
  ·rw[yag (.inr c2)]at hp
   subst hT';simp -dsimp -implicitDefEqProofs (disch:=omega) [h1,gi,c1,c2]
   exact fin _ hp _ (by simp[zpn,E])
  rw[yac (by omega)]at hp
  by_cases c3:(b.length:Int)<k
  ·rw[yag c3]at hp
   subst hT';simp -dsimp -implicitDefEqProofs (disch:=omega) [h1,gi,c1,c2,c3]
   exact fin _ hp _ (by simp[zpn,E])
  rw[yac c3,PR.map_map]at hp;obtain⟨m,rfl⟩: ∃m:Nat,k=m:=⟨k.toNat,by omega⟩
  rw[yat]at hp;have c4:m<=b.length:=by omega
  obtain⟨bt,hbt⟩: ∃bt,bt=b.take m:=⟨_,rfl⟩;obtain⟨bd',hbd2⟩: ∃bd,bd=b.drop m:=⟨_,rfl⟩;have hbt2:List.take m (bytes b)=bytes bt:=by rw[hbt,bytes,bytes,ybQ]
  have hbd3:List.drop m (bytes b)=bytes bd':=by rw[hbd2,bytes,bytes,ycc]
  have hbdl2:bd'.length<=b.length:=by rw[hbd2,yax];omega
  have hM:=zfC bt;rw[<- hbt,<- hbd2]at hp;simp -dsimp -implicitDefEqProofs (disch:=omega) [h1,gi,c1,c2,c3,c4,hbt2,hbd3,hM]
  refine ih (i+1,l++[mkS bt],bd') _ _ ⟨h1,by simp[hl],by simp only;omega, ?_⟩ (by simp only;omega) ?_
  ·rw[hp];simp
  ·simp -dsimp -implicitDefEqProofs (disch:=omega) [B,hl,mkS]
 ·obtain rfl:i=sz.length:=by omega
  rw[yca,za7,PR.map_ok,yap]at hp;subst hT';simp -dsimp -implicitDefEqProofs (disch:=omega)
  exact fin _ hp _ (by simp[zpn,E,B,hl])
end Go.Am.Ab
namespace Go.Am.Ab
open Go.Proofs
set_option maxHeartbeats 4000000
set_option maxRecDepth 4000
def pick (u:List ByteArray) (k:Int):ByteArray:=u.getD k.toNat noS
def zcH (n:Nat) (b:List UInt8):List ByteArray × Nat:=
 match b with
 |[]=>([],30)
 |c::r=>
  if c.toNat=0 then
   match zl2 n r with
   |.err e=>([],e)
   |.ok l zay=>if zay≠[] then (l,32) else (l,0)
  else if (get r).2.2≠0 then ([],(get r).2.2)
  else if 1<c.toNat\/n<(get r).1 then ([],40)
  else match zl2 (get r).1 (r.drop (get r).2.1) with
   |.err e=>([],e)
   |.ok u zay=>
    if (zbO zay n).2≠0 then ([],(zbO zay n).2)
    else if ∀k∈(zbO zay n).1,0<=k/\k<u.length then ((zbO zay n).1.map (pick u),0) else ([],40)
def zl3: ∀ {l:List Int} {b:List UInt8} {e:Nat},za7 l b= .err e->e≠0
 |[],b,e,h=>by simp[za7]at h
 |k::r,b,e,h=>by
  unfold za7 at h;split at h
  ·simp at h;omega
  ·split at h
   ·simp at h;omega
   ·cases hp:za7 r (b.drop k.toNat) with
    |err e'=>rw[hp]at h;simp at h;have:=zl3 hp;omega
    |ok l r=>rw[hp]at h;simp at h
def zjd {n:Int} {b:List UInt8} {e:Nat} (h:zl2 n b= .err e):e≠0:=by
 unfold zl2 at h;split at h
 ·simp at h;omega
 ·split at h
  ·simp at h;omega
  ·split at h
   ·simp at h;omega
   ·exact zl3 h
def zkq: ∀ {l:List Int} {b zay:List UInt8} {t:List ByteArray},za7 l b= .ok t zay->zay.length<=b.length
 |[],b,_,_,h=>by simp[za7]at h;simp[h.2]
 |k::r,b,zay,t,h=>by
  unfold za7 at h;split at h
  ·simp at h
  ·split at h
   ·simp at h
   ·cases hp:za7 r (b.drop k.toNat) with
    |err e'=>rw[hp]at h;simp at h
    |ok l r2=>
     rw[hp]at h;simp at h;have:=zkq hp;rw[<- h.2];simp only[yax]at this;omega
def zvQ {n:Int} {b zay:List UInt8} {t:List ByteArray} (h:zl2 n b= .ok t zay):zay.length<=b.length:=by
 unfold zl2 at h;split at h
 ·simp at h
 ·split at h
  ·simp at h
  ·split at h
   ·simp at h
   ·have:=zkq h
    simp only[yax]at this;omega
def UwR (p:List ByteArray × Nat):Option (List V × List Obj):=some ([.arr 0 p.1.length,E p.2],[.arr 1 (p.1.map D.str) 0])
def zcX (p:List ByteArray × Nat):UwR p≠none:=by simp[UwR]
def zoK (b:List UInt8) (n:Nat) (hn:n<=256) (hb:b.length<1000000):Is (UwR (zcH n b)) (R 196 [B b,.d (.int .i64 n)] []):=by
 have hni:zah (n:Int):=by unfold zah;omega
 cases b with
 |nil=>
  refine ra zw2 rfl (zbP (zcX _)) ?_;simp -dsimp -implicitDefEqProofs (disch:=omega)
  simp[Is,UwR,zcH,E]
 |cons c r=>
 simp only[yaf]at hb;have hl0: ¬ ((r.length:Int)+1=0):=by omega
 unfold zcH;simp only
 by_cases c0:c.toNat=0
 ·rw[yag c0]
  have h:=zrH r n hni (by omega)
  unfold Is at h;cases hp:zl2 (n:Int) r with
  |err e=>
   rw[hp,zpn]at h;have he:=zjd hp;have he': ¬ (e:Int)=0:=by omega
   refine ra zw2 rfl (zbP (zcX _)) ?_;simp -dsimp -implicitDefEqProofs (disch:=omega) [hl0,c0,h,he,he']
   simp[Is,UwR,E]
  |ok l zay=>
   rw[hp,zpn]at h
   by_cases hr:zay=[]
   ·subst hr
    refine ra zw2 rfl (zbP (zcX _)) ?_;simp -dsimp -implicitDefEqProofs (disch:=omega) [hl0,c0,h]
    simp[Is,UwR,E]
   ·have hr':0<zay.length:=List.length_pos_iff.2 hr
    refine ra zw2 rfl (zbP (zcX _)) ?_;simp -dsimp -implicitDefEqProofs (disch:=omega) [hl0,c0,h,hr']
    simp[Is,UwR,E,hr]
 rw[yac c0];have c0': ¬ (c.toNat:Int)=0:=by omega
 have hg:=zfo r (by omega)
 have hgu:=zfw r;have hgl:=zdu r;obtain⟨g1,hg1⟩: ∃g,g=(get r).1:=⟨_,rfl⟩;obtain⟨g2,hg2⟩: ∃g,g=(get r).2.1:=⟨_,rfl⟩;obtain⟨g3,hg3⟩: ∃g,g=(get r).2.2:=⟨_,rfl⟩;rw[<- hg1,<- hg2,<- hg3]at hg;rw[<- hg2]at hgu;rw[<- hg1]at hgl;rw[<- hg1,<- hg2,<- hg3]
 by_cases e0:g3≠0
 ·rw[yag e0]
  have e0': ¬ (g3:Int)=0:=by omega
  refine ra zw2 rfl (zbP (zcX _)) ?_;simp -dsimp -implicitDefEqProofs (disch:=omega) [hl0,c0,c0',hg,e0,e0']
  simp[Is,UwR,E]
 rw[yac e0];have e0':g3=0:=by omega
 subst e0';have hw:IntKind.u64.wrap (n:Int)=n:=zal (by omega) (by omega)
 by_cases e1:1<c.toNat
 ·rw[yag (.inl e1)]
  have e1':(1:Int)<c.toNat:=by omega
  refine ra zw2 rfl (zbP (zcX _)) ?_;simp -dsimp -implicitDefEqProofs (disch:=omega) [hl0,c0,c0',hg,e1,e1',hw]
  simp[Is,UwR,E]
 have e1': ¬ (1:Int)<c.toNat:=by omega
 by_cases e2:n<g1
 ·rw[yag (.inr e2)]
  have e2':(n:Int)<g1:=by omega
  refine ra zw2 rfl (zbP (zcX _)) ?_;simp -dsimp -implicitDefEqProofs (disch:=omega) [hl0,c0,c0',hg,e1,e1',hw,e2,e2']
  simp[Is,UwR,E]
 rw[yac (by omega)]
 have e2': ¬ (n:Int)<g1:=by omega
 have hwi:IntKind.i64.wrap (g1:Int)=g1:=wI (by omega) (by omega)
 obtain⟨r1,hr1⟩: ∃r1,r1=r.drop g2:=⟨_,rfl⟩;have hr1':List.drop g2 (bytes r)=bytes r1:=by rw[hr1,bytes,bytes,ycc]
 have x1:((1:Int)+g2).toNat=g2+1:=by omega
 have hr1l:r1.length<1000000:=by rw[hr1,yax];omega
 rw[<- hr1];have h:=zrH r1 g1 (by unfold zah;omega) hr1l
 unfold Is at h;clear hg1 hg2 hg3 hr1;cases hp:zl2 (g1:Int) r1 with
 |err e=>
  rw[hp,zpn]at h;have he:=zjd hp;have he': ¬ (e:Int)=0:=by omega
  refine ra zw2 rfl (zbP (zcX _)) ?_;simp -dsimp -implicitDefEqProofs (disch:=omega) [hl0,c0,c0',hg,e1,e1',hw,e2,e2',hwi,x1,hr1',h,he,he',hgu]
  simp[Is,UwR,E]
 |ok u zay=>
  rw[hp,zpn]at h;simp only;have hrest:=zvQ hp;have hrd:=zkp zay n (by omega) hni
  have hrl:=ze8 zay n;obtain⟨q,hq⟩: ∃q,q=(zbO zay n).2:=⟨_,rfl⟩;obtain⟨pl,hpl⟩: ∃pl,pl=(zbO zay n).1:=⟨_,rfl⟩;rw[<- hq,<- hpl]at hrd;rw[<- hpl]at hrl;rw[<- hq,<- hpl]
  by_cases e3:q≠0
  ·rw[yag e3]
   have e3': ¬ (q:Int)=0:=by omega
   refine ra zw2 rfl (zbP (zcX _)) ?_;simp -dsimp -implicitDefEqProofs (disch:=omega) [hl0,c0,c0',hg,e1,e1',hw,e2,e2',hwi,x1,hr1',h,hgu,hrd,e3,e3']
   simp[Is,UwR,E]
  rw[yac e3];have e3':q=0:=by omega
  subst e3';refine ra zw2 rfl (zbP (zcX _)) ?_;simp -dsimp -implicitDefEqProofs (disch:=omega) [hl0,c0,c0',hg,e1,e1',hw,e2,e2',hwi,x1,hr1',h,hgu,hrd]
  generalize hT0:Is _=T0;have fin: ∀r,r=UwR (if ∀k∈pl,0<=k/\k<u.length then (pl.map (pick u),0) else ([],40))->T0 r:=λr hr=>by rw[<- hT0];exact hr
  generalize hz:zaf _ _ _ _ _ _=z;revert z;refine zaa (σ:=Nat) (λi=>[(12,.arr 0 u.length),(15,.arr 1 i),(85,.arr 2 pl.length),(86,.d (.int .i64 pl.length)),(87,.d (.int .i64 i))]) (λi=>[.arr 1 (u.map D.str) 0,.arr 1 (zeo (λk=> .str (pick u k)) pl i) 0,.arr 1 (cs pl) 0]) (λi=>i<=pl.length/\ ∀j,j<i->0<=at' pl j/\at' pl j<u.length) (λi=>pl.length - i) 0 ?_ ?_ ?_
  ·exact⟨yai _,λj hj=>by omega⟩
  ·simp -dsimp -implicitDefEqProofs (disch:=omega) [zaO]
  intro T' f hT' i ⟨hi,hok⟩ ih
  by_cases h1:i<pl.length
  ·have gi:=get_at h1
   have hsu:=zaP (g:=λk=>D.str (pick u k)) h1
   have hln:=zak (g:=λk=>D.str (pick u k)) hi
   rw[gi]at hsu;obtain⟨k,hk⟩: ∃k,k=at' pl i:=⟨_,rfl⟩;rw[<- hk]at gi hsu;have bad: ¬ (0<=k/\k<u.length)-> ¬ ∀k∈pl,0<=k/\k<(u.length:Int):=λa b=>a (b k (by rw[hk,<- get_at h1];exact yam _))
   by_cases k1:k<0
   ·subst hT'
    simp -dsimp -implicitDefEqProofs (disch:=omega) [h1,gi,k1]
    exact fin _ (by rw[yac (bad (by omega))];simp[UwR,E])
   by_cases k2:(u.length:Int)<=k
   ·subst hT'
    simp -dsimp -implicitDefEqProofs (disch:=omega) [h1,gi,k1,k2]
    exact fin _ (by rw[yac (bad (by omega))];simp[UwR,E])
   obtain⟨m,hm⟩: ∃m:Nat,k=m:=⟨k.toNat,by omega⟩
   have hmu:m<u.length:=by omega
   have hpk:pick u k=u[m]:=by rw[hm];simp[pick,hmu]
   have hstep: ∀j,j<i+1->0<=at' pl j/\at' pl j<u.length:=λj hj=>by
    by_cases e:j=i
    ·subst e;rw[<- hk];omega
    ·exact hok j (by omega)
   rw[hpk]at hsu;rw[hm]at gi k1 k2;simp -dsimp -implicitDefEqProofs (disch:=omega) [h1,gi,k1,k2,hmu,hln]
   refine ih (i+1) _ _ ⟨h1,hstep⟩ (by omega) ?_
   rw[hsu];simp -dsimp -implicitDefEqProofs (disch:=omega) [hln]
  ·obtain rfl:i=pl.length:=by omega
   have hall: ∀k∈pl,0<=k/\k<(u.length:Int):=by
    intro k hk;obtain⟨j,hj,rfl⟩:=List.mem_iff_getElem.1 hk;rw[get_at hj];exact hok j hj
   have hpe:=zbg (g:=λk=>D.str (pick u k)) (yaj pl.length)
   subst hT';rw[hpe];simp -dsimp -implicitDefEqProofs (disch:=omega)
   refine fin _ ?_;rw[yag hall];simp[UwR,E]
end Go.Am.Ab
namespace Go.Am.Ab
open Go.Proofs
set_option maxHeartbeats 4000000
set_option maxRecDepth 4000
def zaE (k n:Nat) (b:List UInt8):List Val × Nat:=
 if k=1 then ((zbO b n).1.map .whole,(zbO b n).2)
 else if k=2 then ((zaL b n).1.map λ(x:Nat)=> .truth (decide ((x:Int)=1)),(zaL b n).2)
 else ((zcH n b).1.map .text,(zcH n b).2)
def VsR (p:List Val × Nat):Option (List V × List Obj):=some ([.arr 0 p.1.length,E p.2],[.arr 1 (vs p.1) 0])
def zc9 (p:List Val × Nat):VsR p≠none:=by simp[VsR]
def ztC (n:Nat) (b:List UInt8):(zcH n b).1.length<=256:=by
 have hC: ∀ (n:Int) (b zay:List UInt8) (l:List ByteArray),zl2 n b= .ok l zay->l.length<=256:=by
  intro n b zay l h;have key: ∀ (sz:List Int) (b zay:List UInt8) (l:List ByteArray),za7 sz b= .ok l zay->l.length=sz.length:=by
   intro sz
   induction sz with
   |nil=>intro b zay l h;simp[za7]at h;simp[<- h.1]
   |cons k r ih=>
    intro b zay l h;unfold za7 at h;split at h
    ·simp at h
    ·split at h
     ·simp at h
     ·cases hp:za7 r (b.drop k.toNat) with
      |err e'=>rw[hp]at h;simp at h
      |ok l2 r2=>
       rw[hp]at h;simp at h;rw[<- h.1];simp[ih _ _ _ hp]
  unfold zl2 at h;split at h
  ·simp at h
  ·split at h
   ·simp at h
   ·split at h
    ·simp at h
    ·rw[key _ _ _ _ h];exact ze8 _ _
 unfold zcH;split
 ·simp
 ·split
  ·split
   ·simp
   ·rename_i hp
    have:=hC _ _ _ _ hp;split <;> exact this
  ·split
   ·simp
   ·split
    ·simp
    ·split
     ·simp
     ·split
      ·simp
      ·split
       ·simp only[yah];exact ze8 _ _
       ·simp
def zoL (b:List UInt8) (n:Nat) (hn:n<=256) (hb:b.length<1000000):Is (VsR (zaE 1 n b)) (R 179 [.d (.int .u8 1),B b,.d (.int .i64 n)] []):=by
 have h:=zkp b n hb (by unfold zah;omega)
 have hl:=ze8 b n;rw[show zaE 1 n b=((zbO b n).1.map .whole,(zbO b n).2) from rfl]
 obtain⟨l,hle⟩: ∃l,l=(zbO b n).1:=⟨_,rfl⟩;obtain⟨e,hee⟩: ∃e,e=(zbO b n).2:=⟨_,rfl⟩;rw[<- hle,<- hee]at h;rw[<- hle]at hl;rw[<- hle,<- hee];clear hle hee;refine ra zIc rfl (zbP (zc9 _)) ?_;simp -dsimp -implicitDefEqProofs (disch:=omega) [h]
 generalize hT0:Is _=T0;have fin: ∀r,r=VsR (l.map .whole,e)->T0 r:=λr hr=>by rw[<- hT0];exact hr
 generalize hz:zaf _ _ _ _ _ _=z;revert z;refine zaa (σ:=Nat) (λi=>[(8,.arr 0 i),(10,E e),(30,.arr 1 l.length),(31,.d (.int .i64 l.length)),(32,.d (.int .i64 i))]) (λi=>[.arr 1 (zeo (λx=> .iface 2 (.int .i64 x)) l i) 0,.arr 1 (cs l) 0]) (λi=>i<=l.length) (λi=>l.length - i) 0 ?_ ?_ ?_
 ·exact yai _
 ·simp -dsimp -implicitDefEqProofs (disch:=omega) [zaO,E]
 intro T' f hT' i hi ih
 by_cases h1:i<l.length
 ·have hsu:=zaP (g:=λx=> .iface 2 (.int .i64 x)) h1
  have hln:=zak (g:=λx=> .iface 2 (.int .i64 x)) hi
  simp -dsimp -implicitDefEqProofs (disch:=omega) [h1,hln]
  refine ih (i+1) _ _ h1 (by omega) ?_
  rw[hsu];simp -dsimp -implicitDefEqProofs (disch:=omega) [hln,E]
 ·obtain rfl:i=l.length:=by omega
  have hpe:=zbg (g:=λx=> .iface 2 (.int .i64 x)) (yaj l.length)
  subst hT';rw[hpe];simp -dsimp -implicitDefEqProofs (disch:=omega)
  refine fin _ ?_;simp[VsR,E,Val.d]
def zoM (b:List UInt8) (n:Nat) (hn:n<=256) (hb:b.length<1000000):Is (VsR (zaE 2 n b)) (R 179 [.d (.int .u8 2),B b,.d (.int .i64 n)] []):=by
 have h:=ziK b n hn hb;have hl:(zaL b n).1.length<=256:=by
  unfold zaL;split
  ·simp
  ·split <;> simp[zfq];omega
 rw[show zaE 2 n b=((zaL b n).1.map λ(x:Nat)=> .truth (decide ((x:Int)=1)),(zaL b n).2) from rfl]
 obtain⟨l,hle⟩: ∃l,l=(zaL b n).1:=⟨_,rfl⟩;obtain⟨e,hee⟩: ∃e,e=(zaL b n).2:=⟨_,rfl⟩;rw[<- hle,<- hee]at h;rw[<- hle]at hl;rw[<- hle,<- hee];clear hle hee;refine ra zIc rfl (zbP (zc9 _)) ?_;simp -dsimp -implicitDefEqProofs (disch:=omega) [h]
 generalize hT0:Is _=T0;have fin: ∀r,r=VsR (l.map (λ(x:Nat)=> .truth (decide ((x:Int)=1))),e)->T0 r:=λr hr=>by rw[<- hT0];exact hr
 generalize hz:zaf _ _ _ _ _ _=z;revert z;refine zaa (σ:=Nat) (λi=>[(8,.arr 0 i),(14,E e),(52,.arr 1 l.length),(53,.d (.int .i64 l.length)),(54,.d (.int .i64 i))]) (λi=>[.arr 1 (zeo (λ(x:Nat)=> .iface 4 (.bool (decide ((x:Int)=1)))) l i) 0,.arr 1 (uc l) 0]) (λi=>i<=l.length) (λi=>l.length - i) 0 ?_ ?_ ?_
 ·exact yai _
 ·simp -dsimp -implicitDefEqProofs (disch:=omega) [zaO,E]
 intro T' f hT' i hi ih
 by_cases h1:i<l.length
 ·have hsu:=zaP (g:=λ(x:Nat)=> .iface 4 (.bool (decide ((x:Int)=1)))) h1
  have hln:=zak (g:=λ(x:Nat)=> .iface 4 (.bool (decide ((x:Int)=1)))) hi
  simp -dsimp -implicitDefEqProofs (disch:=omega) [h1,hln]
  refine ih (i+1) _ _ h1 (by omega) ?_
  rw[hsu];simp -dsimp -implicitDefEqProofs (disch:=omega) [hln,E]
 ·obtain rfl:i=l.length:=by omega
  have hpe:=zbg (g:=λ(x:Nat)=> .iface 4 (.bool (decide ((x:Int)=1)))) (yaj l.length)
  subst hT';rw[hpe];simp -dsimp -implicitDefEqProofs (disch:=omega)
  refine fin _ ?_;simp[VsR,E,Val.d]
def zoN (b:List UInt8) (n:Nat) (hn:n<=256) (hb:b.length<1000000):Is (VsR (zaE 3 n b)) (R 179 [.d (.int .u8 3),B b,.d (.int .i64 n)] []):=by
 have h:=zoK b n hn hb;have hl:=ztC n b;rw[show zaE 3 n b=((zcH n b).1.map .text,(zcH n b).2) from rfl]
 obtain⟨l,hle⟩: ∃l,l=(zcH n b).1:=⟨_,rfl⟩;obtain⟨e,hee⟩: ∃e,e=(zcH n b).2:=⟨_,rfl⟩;unfold Is UwR at h;rw[<- hle,<- hee]at h;rw[<- hle]at hl;rw[<- hle,<- hee];clear hle hee;refine ra zIc rfl (zbP (zc9 _)) ?_;simp -dsimp -implicitDefEqProofs (disch:=omega) [h]
 generalize hT0:Is _=T0;have fin: ∀r,r=VsR (l.map .text,e)->T0 r:=λr hr=>by rw[<- hT0];exact hr
 generalize hz:zaf _ _ _ _ _ _=z;revert z;refine zaa (σ:=Nat) (λi=>[(8,.arr 0 i),(18,E e),(73,.arr 1 l.length),(74,.d (.int .i64 l.length)),(75,.d (.int .i64 i))]) (λi=>[.arr 1 (zeo (λx=> .iface 9 (.str x)) l i) 0,.arr 1 (ss l) 0]) (λi=>i<=l.length) (λi=>l.length - i) 0 ?_ ?_ ?_
 ·exact yai _
 ·simp -dsimp -implicitDefEqProofs (disch:=omega) [zaO,E]
 intro T' f hT' i hi ih
 by_cases h1:i<l.length
 ·have hsu:=zaP (g:=λx=> .iface 9 (.str x)) h1
  have hln:=zak (g:=λx=> .iface 9 (.str x)) hi
  simp -dsimp -implicitDefEqProofs (disch:=omega) [h1,hln]
  refine ih (i+1) _ _ h1 (by omega) ?_
  rw[hsu];simp -dsimp -implicitDefEqProofs (disch:=omega) [hln,E]
 ·obtain rfl:i=l.length:=by omega
  have hpe:=zbg (g:=λx=> .iface 9 (.str x)) (yaj l.length)
  subst hT';rw[hpe];simp -dsimp -implicitDefEqProofs (disch:=omega)
  refine fin _ ?_;simp[VsR,E,Val.d]
end Go.Am.Ab
