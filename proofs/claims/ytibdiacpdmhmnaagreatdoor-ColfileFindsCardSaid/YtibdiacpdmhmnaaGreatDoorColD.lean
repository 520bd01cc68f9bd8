/- Columns, read. -/
import Derived.Test.YtibdiacpdmhmnaaGreatDoorParsing
import Derived.Test.YtibdiacpdmhmnaaGreatDoorColB
import Derived.Test.YtibdiacpdmhmnaaGreatDoorColC
set_option linter.all false
namespace Go.Am.Ab
open Go.Proofs
set_option maxHeartbeats 4000000
set_option maxRecDepth 4000
def zmY (p:Option (D × List Am.Obj)) (t:Nat) (s:Slots) (h:List Am.Obj) (r:List (Nat × Nat)):Slots × List Am.Obj:=
 match p with
 |some (x,h0)=>let (s1,h1):=zad s h0 r;((t,.d x)::s1,h1)
 |none=>zad s h r
@[simp] def zzB (x:D) (h0 h:List Am.Obj) (t:Nat) (s:Slots) (r:List (Nat × Nat)):zmY (some (x,h0)) t s h r=zdH (zad s h0 r) (λp=>((t,.d x)::p.1,p.2)) ⟨⟩:=rfl
@[simp] def zyn {s:Slots} {h:List Am.Obj} {sz:Nat} {r:List (Nat × Nat)}:zad s h ((1000015,sz)::r)=zmY (zbE h (zbF s 15)) 15 s h r:=by
 have key: ∀t,zad s h ((t+1000000,sz)::r)=zmY (zbE h (zbF s t)) t s h r:=by
  intro t
  conv=>lhs;unfold zad
  rw[yac (by omega),ybJ]
  unfold zmY;cases zbE h (zbF s t) <;> rfl
 exact key 15
abbrev uz (l:List Int):List D:=l.map λn=>D.int .u64 n
@[simp] def zoO (x:Int): ∀n,zam 1 (List.replicate n (D.int .u64 x))=true
 |0=>rfl
 |n+1=>by simp[yaR,zoO x n]
@[simp] def zBW (l:List Int):zam 1 (l.map λn=>D.int .u64 n)=true:=zaJ l λ_=>rfl
@[simp] def zAK (l:List Nat):zam 1 (l.map λ(n:Nat)=>D.int .u64 (n:Int))=true:=zaJ l λ_=>rfl
def zoP (x:Int) (n:Nat) (hn:n<=256):R 177 [.arr 0 1,.d (.int .i64 n)] [.arr 1 [.int .u64 x] 0]=some ([.arr 1 n],[.arr 1 [.int .u64 x] 0,.arr 1 (uz (List.replicate n x)) 0]):=by
 have hm:=ziI n hn;have hw:IntKind.u64.wrap (n:Int)=n:=zal (by omega) (by omega)
 have hw1:IntKind.u64.wrap 1=1:=zal (by omega) (by omega)
 have hn0: ¬ (n:Int)<0:=by omega
 have hfit: ¬ (9223372036854775807:Int)<n:=by omega
 have hqi:IntKind.i64.wrap (n:Int)=n:=wI (by omega) (by omega)
 by_cases h0:n=0
 ·subst h0
  rw[show ((0:Nat):Int)=0 from rfl]at*
  refine rg zI4 rfl ?_;intro T hT;simp -dsimp -implicitDefEqProofs (disch:=omega) [hm,hw,hw1]
  generalize hz:zaf _ _ _ _ _ _=z;revert z;refine zaa (σ:=Unit) (λ_=>[(7,.arr 1 0),(8,.d (.int .i64 0))]) (λ_=>[.arr 1 [.int .u64 x] 0,.arr 1 [] 0]) (λ_=>True) (λ_=>0) () ?_ ?_ ?_
  ·trivial
  ·simp -dsimp -implicitDefEqProofs (disch:=omega)
  intro T' f hT' _ _ ih;subst hT';simp -dsimp -implicitDefEqProofs (disch:=omega)
  simpa -dsimp -implicitDefEqProofs (disch:=omega) using hT
 ·have h0': ¬ (n:Int)=0:=by omega
  have hmin:min 1 n=1:=by omega
  have hpos:0<n:=by omega
  have hfl: ∀j,j<=n->(zbr x n j).length=n:=λj hj=>by simp[zbr];omega
  have htk:List.take n [D.int .u64 x]=[D.int .u64 x]:=yaA (by simp;omega)
  refine rg zI4 rfl ?_;intro T hT;simp -dsimp -implicitDefEqProofs (disch:=omega) [hm,hw,hw1,hn0,hfit,hqi,h0,h0',hmin,hpos,htk]
  generalize hz:zaf _ _ _ _ _ _=z;revert z;refine zaa (σ:=Nat) (λj=>[(7,.arr 1 n),(8,.d (.int .i64 j))]) (λj=>[.arr 1 [.int .u64 x] 0,.arr 1 (uz (zbr x n j)) 0]) (λj=>0<j/\j<=n) (λj=>n - j) 1 ?_ ?_ ?_
  ·omega
  ·simp -dsimp -implicitDefEqProofs (disch:=omega) [zbr]
  intro T' f hT' j ⟨hj0,hj⟩ ih;have hfj:=hfl j hj
  by_cases h1:j<n
  ·have h1':(j:Int)<n:=by omega
   have hnj: ¬ 0=n:=by omega
   have hjle:j<=n:=hj;obtain⟨k,hk⟩: ∃k,k=min (n - j) j:=⟨_,rfl⟩;have hk':min (n - j) j=k:=hk.symm;have hk2:min j (n - j)=k:=by omega
   have hA:List.take j (List.map (λn=>D.int .u64 n) (zbr x n j))=List.replicate j (D.int .u64 x):=by
    unfold zbr;rw[ya7,ybE (by simp),yaA (by simp)];simp
   have hC:List.drop (j+k) (List.map (λn=>D.int .u64 n) (zbr x n j))=List.replicate (n - j - k) (D.int .u64 0):=by
    unfold zbr;rw[ya7,ydj,yaJ (by simp),ybT]
    simp
   have hD:List.replicate j (D.int .u64 x)++(List.replicate k (D.int .u64 x)++List.replicate (n - j - k) (D.int .u64 0))=List.map (λn=>D.int .u64 n) (zbr x n (j+k)):=by
    unfold zbr;rw[<- yan,ycq,show n - (j+k)=n - j - k by omega]
    simp
   simp -dsimp -implicitDefEqProofs (disch:=omega) [h1,h1',hfj,hnj,hjle,hA,hk',hk2,hC,hD]
   have hnjk:n - (j+k)=n - j - k:=by omega
   exact ih (j+k) _ _ (by omega) (by omega) (by simp -dsimp -implicitDefEqProofs (disch:=omega) [zbr,hnjk])
  ·have hjn:j=n:=by omega
   have hff:zbr x n n=List.replicate n x:=by simp[zbr]
   subst hT';rw[hjn,hff];simp -dsimp -implicitDefEqProofs (disch:=omega)
   simpa -dsimp -implicitDefEqProofs (disch:=omega) using hT
def zf0 (n:Nat) (b:List UInt8):PR (List Nat):=
 match b with
 |[]=> .err 30
 |c::r=>
  if 1<c.toNat then .err 40
  else if c.toNat=1 then
   if r.length<(n+7) / 8 then .err 30
   else if (zaL (r.take ((n+7) / 8)) n).2≠0 then .err (zaL (r.take ((n+7) / 8)) n).2
   else .ok (zaL (r.take ((n+7) / 8)) n).1 (r.drop ((n+7) / 8))
  else .ok (List.replicate n 1) r
def zkr:List Nat->List Val->List Val
 |[],_=>[]
 |x::t,own=>if x=1 then own.headD .null::zkr t own.tail else .null::zkr t own
def ze9 (k n:Nat) (b:List UInt8):List Val × Nat:=
 match zf0 n b with
 |.err e=>([],e)
 |.ok th r=>if (zaE k th.sum r).2≠0 then ([],(zaE k th.sum r).2) else (zkr th (zaE k th.sum r).1,0)
def zks: ∀ (th:List Nat) (own:List Val),(zkr th own).length=th.length
 |[],_=>rfl
 |x::t,own=>by
  unfold zkr;split <;> simp[zks t]
def znk (l:List Val) (n:Nat):List D:=vs l++List.replicate (n - l.length) .nilI
def zrI (n:Nat):znk [] n=List.replicate n .nilI:=by simp[znk]
def zkt {l:List Val} {n:Nat} (h:l.length<=n):(znk l n).length=n:=by simp[znk];omega
def zrJ {l:List Val} {n:Nat} (h:l.length<n):(znk l n)[l.length]? =some .nilI:=by
 rw[znk,yal (by simp),yah,yba,ycQ,yag (by omega)]
def zrK {l:List Val} {n:Nat} (h:l.length<n) (v:Val):(znk l n).set l.length v.d=znk (l++[v]) n:=by
 have e:n - l.length=(n - (l.length+1))+1:=by omega
 have hl:(vs l).length=l.length:=by simp
 rw[znk,znk,e,yaR,ybl _ _ (by omega),hl,yba,ycW,yae,ybg]
 simp
def zoQ {l:List Val} {n:Nat} (h:l.length<n):znk l n=znk (l++[.null]) n:=by
 have e:n - l.length=(n - (l.length+1))+1:=by omega
 rw[znk,znk,e,yaR,yae,ybg];simp[Val.d]
def zrL {l:List Val} {n:Nat} (h:l.length=n):znk l n=vs l:=by simp[znk,h]
def zrM {l:List Nat} {i:Nat} (h:i<l.length):(l.take (i+1)).sum=(l.take i).sum+l[i]:=by
 rw[zaN h,List.sum_append];simp
def zrN {l:List Nat} (h: ∀x∈l,x<=1):l.sum<=l.length:=by
 induction l with
 |nil=>simp
 |cons x r ih=>
  have h1:=h x (by simp)
  have h2:=ih λy hy=>h y (by simp[hy])
  simp only[ydN,yaf];omega
def zl4: ∀ {sz:List Int} {b zay:List UInt8} {l:List ByteArray},za7 sz b= .ok l zay->l.length=sz.length
 |[],b,zay,l,h=>by simp[za7]at h;simp[<- h.1]
 |k::r,b,zay,l,h=>by
  unfold za7 at h;split at h
  ·simp at h
  ·split at h
   ·simp at h
   ·cases hp:za7 r (b.drop k.toNat) with
    |err e'=>rw[hp]at h;simp at h
    |ok l2 r2=>
     rw[hp]at h;simp at h;rw[<- h.1];simp[zl4 hp]
def zje {b:List UInt8} {n:Int} (h:(zbO b n).2=0):((zbO b n).1.length:Int)=n/\ ∀x∈(zbO b n).1,zah x:=by
 unfold zbO at h ⊢;split at h
 ·simp at h
 ·rename_i hn
  rw[yac hn];cases b with
  |nil=>simp at h
  |cons c r=>
   simp only at h ⊢;split at h
   ·simp at h
   ·rename_i hc
    rw[yac hc];unfold zAC at h ⊢;cases hp:zgj c.toNat n.toNat r with
    |err e=>rw[hp]at h;simp only at h ⊢;exact absurd h (zox hp)
    |ok l r2=>
     rw[hp]at h;simp only at h ⊢;split at h
     ·simp at h
     ·rename_i h2
      rw[yac h2];split at h
      ·rename_i h3
       rw[yag h3];have:=zmQ hp;exact⟨by simp only;omega,this.2⟩
      ·simp at h
def zyo {n:Int} {b zay:List UInt8} {l:List ByteArray} (h:zl2 n b= .ok l zay):(l.length:Int)=n:=by
 unfold zl2 at h;split at h
 ·simp at h
 ·split at h
  ·simp at h
  ·split at h
   ·simp at h
   ·rename_i h3
    rw[zl4 h];exact (zje (by omega)).1
def zku {k n:Nat} {b:List UInt8} (h:(zaE k n b).2=0):(zaE k n b).1.length=n:=by
 unfold zaE at h ⊢;split
 ·rename_i h1
  rw[yag h1]at h;have:=(zje h).1;simp only[yah];omega
 ·rename_i h1
  rw[yac h1]at h;split
  ·rename_i h2
   rw[yag h2]at h;simp only[yah]at h ⊢;unfold zaL at h ⊢;split at h
   ·simp at h
   ·rename_i h3
    rw[yac h3];split at h
    ·rename_i h4
     rw[yag h4];simp
    ·simp at h
  ·rename_i h2
   rw[yac h2]at h;simp only[yah]at h ⊢;unfold zcH at h ⊢;cases b with
   |nil=>simp at h
   |cons c r=>
    simp only at h ⊢;split at h
    ·rename_i h3
     rw[yag h3];cases hp:zl2 (n:Int) r with
     |err e=>rw[hp]at h;exact absurd h (zjd hp)
     |ok l zay=>
      rw[hp]at h;simp only at h ⊢;split at h
      ·simp at h
      ·rename_i h4
       rw[yac h4];have:=zyo hp;simp only;omega
    ·rename_i h3
     rw[yac h3];split at h
     ·rename_i h4;exact absurd h h4
     ·rename_i h4
      rw[yac h4];split at h
      ·simp at h
      ·rename_i h5
       rw[yac h5];cases hp:zl2 ((get r).1:Int) (r.drop (get r).2.1) with
       |err e=>rw[hp]at h;exact absurd h (zjd hp)
       |ok u zay=>
        rw[hp]at h;simp only at h ⊢;split at h
        ·rename_i h6;exact absurd h h6
        ·rename_i h6
         rw[yac h6];split at h
         ·rename_i h7
          rw[yag h7];have:=(zje (b:=zay) (n:=n) (by omega)).1
          simp only[yah];omega
         ·simp at h
def zkv (k n:Nat) (hk:1<=k/\k<=3) (b:List UInt8) (hn:n<=256) (hb:b.length<1000000):R 179 [.d (.int .u8 k),B b,.d (.int .i64 n)] []=VsR (zaE k n b):=by
 have h:k=1\/k=2\/k=3:=by omega
 rcases h with rfl | rfl | rfl
 ·exact zoL b n hn hb
 ·exact zoM b n hn hb
 ·exact zoN b n hn hb
def zmZ (k n:Nat) (hk:1<=k/\k<=3) (b:List UInt8) (hn:n<=256) (hb:b.length<1000000):Is (VsR (ze9 k n b)) (R 152 [.d (.int .u8 k),B b,.d (.int .i64 n)] []):=by
 cases b with
 |nil=>
  refine ra zBN rfl (zbP (zc9 _)) ?_;simp -dsimp -implicitDefEqProofs (disch:=omega)
  simp[Is,VsR,ze9,zf0,E]
 |cons c r=>
 simp only[yaf]at hb;have hl0: ¬ ((r.length:Int)+1=0):=by omega
 have hrep:=zoP 1 n hn;have huz:uz (List.replicate n 1)=uc (List.replicate n 1):=by simp
 rw[huz]at hrep;unfold ze9 zf0;simp only
 by_cases c1:1<c.toNat
 ·have c1':(1:Int)<c.toNat:=by omega
  rw[yag c1];refine ra zBN rfl (zbP (zc9 _)) ?_;simp -dsimp -implicitDefEqProofs (disch:=omega) [hl0,hrep,c1,c1']
  simp[Is,VsR,E]
 rw[yac c1];have c1': ¬ (1:Int)<c.toNat:=by omega
 by_cases c2:c.toNat=1
 ·rw[yag c2]
  have c2':(c.toNat:Int)=1:=by omega
  obtain⟨sz,hsz⟩: ∃sz,sz=(n+7) / 8:=⟨_,rfl⟩;have hsz':((n:Int)+7) / 8=sz:=by omega
  rw[<- hsz]
  by_cases c3:r.length<sz
  ·rw[yag c3]
   have c3':(r.length:Int)<sz:=by omega
   refine ra zBN rfl (zbP (zc9 _)) ?_;simp -dsimp -implicitDefEqProofs (disch:=omega) [hl0,hrep,c1,c1',c2,c2',hsz',c3,c3']
   simp[Is,VsR,E]
  rw[yac c3];have c3': ¬ (r.length:Int)<sz:=by omega
  have c3b:sz<=r.length:=by omega
  obtain⟨bt,hbt⟩: ∃bt,bt=r.take sz:=⟨_,rfl⟩;obtain⟨rb,hbd⟩: ∃rb,rb=r.drop sz:=⟨_,rfl⟩;have hbt':List.take sz (bytes r)=bytes bt:=by rw[hbt,bytes,bytes,ybQ]
  have hbd':List.drop sz (bytes r)=bytes rb:=by rw[hbd,bytes,bytes,ycc]
  have hbtl:bt.length<1000000:=by rw[hbt,yaq];omega
  have hrbl:rb.length<1000000:=by rw[hbd,yax];omega
  rw[<- hbt,<- hbd];have hup:=ziK bt n hn hbtl;have hth0: ∀x∈(zaL bt n).1,x<=1:=by
   unfold zaL;split
   ·simp
   ·split
    ·intro x hx
     simp only[ups,ycd]at hx;obtain⟨j,_,rfl⟩:=hx;omega
    ·simp
  have hthl0:(zaL bt n).2=0->(zaL bt n).1.length=n:=by
   unfold zaL;split
   ·simp
   ·split
    ·simp
    ·simp
  obtain⟨th,hte⟩: ∃th,th=(zaL bt n).1:=⟨_,rfl⟩;obtain⟨e,hee⟩: ∃e,e=(zaL bt n).2:=⟨_,rfl⟩;rw[<- hte,<- hee]at hup hthl0;rw[<- hte]at hth0;rw[<- hte,<- hee];clear hte hee hbt hbd hsz
  by_cases c4:e≠0
  ·rw[yag c4]
   have c4': ¬ (e:Int)=0:=by omega
   refine ra zBN rfl (zbP (zc9 _)) ?_;simp -dsimp -implicitDefEqProofs (disch:=omega) [hl0,hrep,c1,c1',c2,c2',hsz',c3,c3',c3b,hbt',hup,c4,c4']
   simp[Is,VsR,E]
  rw[yac c4];have c4':e=0:=by omega
  subst c4';have hthl:=hthl0 rfl;have hth:=hth0;subst hthl;have hsum:=zrN hth;have hval:=zkv k th.sum hk rb (by omega) hrbl
  have hvl:(zaE k th.sum rb).2=0->(zaE k th.sum rb).1.length=th.sum:=zku;simp only;generalize hA:(if (zaE k th.sum rb).2≠0 then (([]:List Val),(zaE k th.sum rb).2) else (zkr th (zaE k th.sum rb).1,0))=A
  refine ra zBN rfl (zbP (zc9 _)) ?_;simp -dsimp -implicitDefEqProofs (disch:=omega) [hl0,hrep,c1,c1',c2,c2',hsz',c3,c3',c3b,hbt',hup,hbd']
  generalize hz:zaf _ _ _ _ _ _=z;revert z;refine zaa (σ:=Nat) (λi=>[(0,.d (.int .u8 k)),(1,B rb),(2,.d (.int .i64 th.length)),(9,.arr 0 th.length),(12,.d (.int .i64 ((th.take i).sum:Nat))),(56,.arr 0 th.length),(57,.d (.int .i64 th.length)),(58,.d (.int .i64 i))]) (λi=>[.arr 1 (uc th) 0]) (λi=>i<=th.length) (λi=>th.length - i) 0 ?_ ?_ ?_
  ·exact yai _
  ·simp -dsimp -implicitDefEqProofs (disch:=omega) [B]
  intro T' f hT' i hi ih
  by_cases h1:i<th.length
  ·have h1':i<th.length:=by omega
   have hx:=hth th[i] (yam _);have hs:=zrM h1';have hsl:(th.take i).sum<=i:=by
    have:=zrN (l:=th.take i) λx hx=>hth x (yaH hx)
    have h2:(th.take i).length<=i:=by simp;omega
    omega
   obtain⟨x,hxe⟩: ∃x,x=th[i]:=⟨_,rfl⟩;rw[<- hxe]at hx hs;have gx:=hxe.symm;have hw:IntKind.i64.wrap (x:Int)=x:=wI (by omega) (by omega)
   simp -dsimp -implicitDefEqProofs (disch:=omega) [h1,h1',gx,hw]
   refine ih (i+1) _ _ h1 (by omega) ?_
   rw[hs];simp -dsimp -implicitDefEqProofs (disch:=omega) [B]
  obtain rfl:i=th.length:=by omega
  subst hT';clear ih hi h1;rw[yaW];obtain⟨v,hv⟩: ∃v,v=zaE k th.sum rb:=⟨_,rfl⟩;rw[<- hv]at hval hvl hA
  by_cases hv0:v.2≠0
  ·have hv0': ¬ (v.2:Int)=0:=by omega
   rw[yag hv0]at hA;subst hA;unfold VsR at hval;simp -dsimp -implicitDefEqProofs (disch:=omega) [hval,hv0,hv0']
   simp[Is,VsR,E]
  rw[yac hv0]at hA;subst hA;have hv0':v.2=0:=by omega
  have hvl':=hvl hv0';unfold VsR at hval;rw[hv0']at hval;simp -dsimp -implicitDefEqProofs (disch:=omega) [hval]
  generalize hT0:Is _=T0;have fin: ∀r,r=VsR (zkr th v.1,0)->T0 r:=λr hr=>by rw[<- hT0];exact hr
  generalize hz:zaf _ _ _ _ _ _=z;revert z;refine zaa (σ:=Nat × List Val × List Val) (λx=>[(15,.d (.list (vs x.2.2))),(17,.arr 0 th.length),(79,.arr 1 th.length),(80,.d (.int .i64 th.length)),(81,.d (.int .i64 x.1))]) (λx=>[.arr 1 (znk x.2.1 th.length) 0,.arr 1 (uc th) 0]) (λx=>x.1<=th.length/\x.2.1.length=x.1/\x.2.2.length=(th.drop x.1).sum/\zkr th v.1=x.2.1++zkr (th.drop x.1) x.2.2) (λx=>th.length - x.1) (0,[],v.1) ?_ ?_ ?_
  ·exact⟨yai _,rfl,by rw[yc9];exact hvl',by rw[yc9];rfl⟩
  ·simp -dsimp -implicitDefEqProofs (disch:=omega) [zrI]
  intro T2 f2 hT2 ⟨i,dn,own⟩ ⟨hi,hdl,hol,hsc⟩ ih;simp only at hi hdl hol hsc ih
  by_cases h1:i<th.length
  ·have hdr:th.drop i=th[i]::th.drop (i+1):=yao h1
   obtain⟨x,hxe⟩: ∃x,x=th[i]:=⟨_,rfl⟩;have hx:=hth th[i] (yam _);rw[<- hxe]at hdr hx;have gx:=hxe.symm;rw[hdr,ydN]at hol;rw[hdr,zkr]at hsc;have hol2:=zkt (l:=dn) (n:=th.length) (by omega)
   have hog:=zrJ (l:=dn) (n:=th.length) (by omega)
   rw[hdl]at hog
   by_cases hx1:x=1
   ·rw[yag hx1]at hsc
    cases own with
    |nil=>simp only[yaz]at hol;omega
    |cons v0 own'=>
     have hos:=zrK (l:=dn) (n:=th.length) (by omega) v0
     rw[hdl]at hos;subst hx1;simp only[yaf]at hol;simp -dsimp -implicitDefEqProofs (disch:=omega) [h1,gx,hol2,hog,hos]
     refine ih (i+1,dn++[v0],own') _ _ ⟨h1,by simp[hdl],by simp only;omega, ?_⟩ (by simp only;omega) ?_
     ·rw[hsc];simp
     ·simp -dsimp -implicitDefEqProofs (disch:=omega)
   ·rw[yac hx1]at hsc
    have hx1': ¬ (x:Int)=1:=by omega
    have hon:=zoQ (l:=dn) (n:=th.length) (by omega)
    simp -dsimp -implicitDefEqProofs (disch:=omega) [h1,gx,hol2,hx1']
    refine ih (i+1,dn++[.null],own) _ _ ⟨h1,by simp[hdl],by simp only;omega, ?_⟩ (by simp only;omega) ?_
    ·rw[hsc];simp
    ·rw[<- hon]
     simp -dsimp -implicitDefEqProofs (disch:=omega)
  ·obtain rfl:i=th.length:=by omega
   rw[yca,zkr,yap]at hsc;have hoe:=zrL (l:=dn) (n:=th.length) hdl;subst hT2;rw[hoe];simp -dsimp -implicitDefEqProofs (disch:=omega) [hdl]
   refine fin _ ?_;rw[hsc];simp[VsR,E,hdl]
 ·rw[yac c2]
  have c2': ¬ (c.toNat:Int)=1:=by omega
  obtain⟨th,hte⟩: ∃th,th=List.replicate n 1:=⟨_,rfl⟩;have hth: ∀x∈th,x<=1:=by rw[hte];intro x hx;have:=yb7 hx;omega
  have hthl:th.length=n:=by rw[hte];simp
  rw[<- hte]at hrep ⊢;clear hte huz;subst hthl;obtain⟨rb,hrb⟩: ∃rb,rb=r:=⟨_,rfl⟩;rw[<- hrb]at hb hl0 ⊢;clear hrb;have hsum:=zrN hth;have hval:=zkv k th.sum hk rb (by omega) (by omega)
  have hvl:(zaE k th.sum rb).2=0->(zaE k th.sum rb).1.length=th.sum:=zku;simp only;generalize hA:(if (zaE k th.sum rb).2≠0 then (([]:List Val),(zaE k th.sum rb).2) else (zkr th (zaE k th.sum rb).1,0))=A
  refine ra zBN rfl (zbP (zc9 _)) ?_;simp -dsimp -implicitDefEqProofs (disch:=omega) [hl0,hrep,c1,c1',c2,c2']
  generalize hz:zaf _ _ _ _ _ _=z;revert z;refine zaa (σ:=Nat) (λi=>[(0,.d (.int .u8 k)),(1,B rb),(2,.d (.int .i64 th.length)),(9,.arr 0 th.length),(12,.d (.int .i64 ((th.take i).sum:Nat))),(56,.arr 0 th.length),(57,.d (.int .i64 th.length)),(58,.d (.int .i64 i))]) (λi=>[.arr 1 (uc th) 0]) (λi=>i<=th.length) (λi=>th.length - i) 0 ?_ ?_ ?_
  ·exact yai _
  ·simp -dsimp -implicitDefEqProofs (disch:=omega) [B]
  intro T' f hT' i hi ih
  by_cases h1:i<th.length
  ·have h1':i<th.length:=by omega
   have hx:=hth th[i] (yam _);have hs:=zrM h1';have hsl:(th.take i).sum<=i:=by
    have:=zrN (l:=th.take i) λx hx=>hth x (yaH hx)
    have h2:(th.take i).length<=i:=by simp;omega
    omega
   obtain⟨x,hxe⟩: ∃x,x=th[i]:=⟨_,rfl⟩;rw[<- hxe]at hx hs;have gx:=hxe.symm;have hw:IntKind.i64.wrap (x:Int)=x:=wI (by omega) (by omega)
   simp -dsimp -implicitDefEqProofs (disch:=omega) [h1,h1',gx,hw]
   refine ih (i+1) _ _ h1 (by omega) ?_
   rw[hs];simp -dsimp -implicitDefEqProofs (disch:=omega) [B]
  obtain rfl:i=th.length:=by omega
  subst hT';clear ih hi h1;rw[yaW];obtain⟨v,hv⟩: ∃v,v=zaE k th.sum rb:=⟨_,rfl⟩;rw[<- hv]at hval hvl hA
  by_cases hv0:v.2≠0
  ·have hv0': ¬ (v.2:Int)=0:=by omega
   rw[yag hv0]at hA;subst hA;unfold VsR at hval;simp -dsimp -implicitDefEqProofs (disch:=omega) [hval,hv0,hv0']
   simp[Is,VsR,E]
  rw[yac hv0]at hA;subst hA;have hv0':v.2=0:=by omega
  have hvl':=hvl hv0';unfold VsR at hval;rw[hv0']at hval;simp -dsimp -implicitDefEqProofs (disch:=omega) [hval]
  generalize hT0:Is _=T0;have fin: ∀r,r=VsR (zkr th v.1,0)->T0 r:=λr hr=>by rw[<- hT0];exact hr
  generalize hz:zaf _ _ _ _ _ _=z;revert z;refine zaa (σ:=Nat × List Val × List Val) (λx=>[(15,.d (.list (vs x.2.2))),(17,.arr 0 th.length),(79,.arr 1 th.length),(80,.d (.int .i64 th.length)),(81,.d (.int .i64 x.1))]) (λx=>[.arr 1 (znk x.2.1 th.length) 0,.arr 1 (uc th) 0]) (λx=>x.1<=th.length/\x.2.1.length=x.1/\x.2.2.length=(th.drop x.1).sum/\zkr th v.1=x.2.1++zkr (th.drop x.1) x.2.2) (λx=>th.length - x.1) (0,[],v.1) ?_ ?_ ?_
  ·exact⟨yai _,rfl,by rw[yc9];exact hvl',by rw[yc9];rfl⟩
  ·simp -dsimp -implicitDefEqProofs (disch:=omega) [zrI]
  intro T2 f2 hT2 ⟨i,dn,own⟩ ⟨hi,hdl,hol,hsc⟩ ih;simp only at hi hdl hol hsc ih
  by_cases h1:i<th.length
  ·have hdr:th.drop i=th[i]::th.drop (i+1):=yao h1
   obtain⟨x,hxe⟩: ∃x,x=th[i]:=⟨_,rfl⟩;have hx:=hth th[i] (yam _);rw[<- hxe]at hdr hx;have gx:=hxe.symm;rw[hdr,ydN]at hol;rw[hdr,zkr]at hsc;have hol2:=zkt (l:=dn) (n:=th.length) (by omega)
   have hog:=zrJ (l:=dn) (n:=th.length) (by omega)
   rw[hdl]at hog
   by_cases hx1:x=1
   ·rw[yag hx1]at hsc
    cases own with
    |nil=>simp only[yaz]at hol;omega
    |cons v0 own'=>
     have hos:=zrK (l:=dn) (n:=th.length) (by omega) v0
     rw[hdl]at hos;subst hx1;simp only[yaf]at hol;simp -dsimp -implicitDefEqProofs (disch:=omega) [h1,gx,hol2,hog,hos]
     refine ih (i+1,dn++[v0],own') _ _ ⟨h1,by simp[hdl],by simp only;omega, ?_⟩ (by simp only;omega) ?_
     ·rw[hsc];simp
     ·simp -dsimp -implicitDefEqProofs (disch:=omega)
   ·rw[yac hx1]at hsc
    have hx1': ¬ (x:Int)=1:=by omega
    have hon:=zoQ (l:=dn) (n:=th.length) (by omega)
    simp -dsimp -implicitDefEqProofs (disch:=omega) [h1,gx,hol2,hx1']
    refine ih (i+1,dn++[.null],own) _ _ ⟨h1,by simp[hdl],by simp only;omega, ?_⟩ (by simp only;omega) ?_
    ·rw[hsc];simp
    ·rw[<- hon]
     simp -dsimp -implicitDefEqProofs (disch:=omega)
  ·obtain rfl:i=th.length:=by omega
   rw[yca,zkr,yap]at hsc;have hoe:=zrL (l:=dn) (n:=th.length) hdl;subst hT2;rw[hoe];simp -dsimp -implicitDefEqProofs (disch:=omega) [hdl]
   refine fin _ ?_;rw[hsc];simp[VsR,E,hdl]
end Go.Am.Ab
namespace Go.Am.Ab
open Go.Proofs
set_option maxHeartbeats 4000000
def zfa {l:List Int} {t:List UInt8} (h: ∀n∈l,zah n) (hn:l.length<=256) (ht:t≠[]):(zbO (zb7 l++t) l.length).2≠0:=by
 obtain⟨⟨c,hc,e⟩,_⟩:=zou l;rw[e,ya9,ztp hc h hn ht];simp
def ziL (l:List Bool):zaL (zbM l) l.length=(l.map bit,0):=by
 have hb:=zvf l;have h:=zdJ (w:=1) (p:=l.map bit) hb;have hl:(zbB 1 (l.map bit)).length=(l.length+7) / 8:=by rw[zbx];simp
 unfold zbN at h;rw[yah,yb9,hl,yac (ybx _),yac (ybx _)]at h;unfold zaL zbM;rw[hl,yac (λk=>k rfl)]
 split at h
 ·rename_i h2
  rw[yag h2];simp only[PR.ok.injEq,yd2]at h;rw[h]
 ·cases h
def ziM (l:List Bool):(zbM l).length=(l.length+7) / 8:=by
 unfold zbM;rw[zbx];simp
def zqp (l:List Bool) {t:List UInt8} (ht:t≠[]):(zaL (zbM l++t) l.length).2≠0:=by
 have h1:=ziM l;have h2:0<t.length:=List.length_pos_iff.2 ht;unfold zaL;rw[yag (by rw[yae];omega)]
 simp
def ztD (s:ByteArray) (r:List ByteArray):ze1 (s::r) (s::r).length=s.data.toList++ze1 r r.length:=by
 simp[ze1]
def zkw: ∀ (l:List ByteArray) (t:List UInt8),(∀s∈l,s.size<=64)->za7 (zaU l) (ze1 l l.length++t)= .ok l t
 |[],t,_=>rfl
 |s::r,t,h=>by
  have hs:=h s (by simp)
  have hl:=zh1 s;have ih:=zkw r t λx hx=>h x (by simp[hx])
  rw[ztD,zaU,yaV,za7,yac (by omega),yan,yac (by rw[yae,hl];omega),yat]
  rw[show List.map (λs=>(s.size:Int)) r=zaU r from rfl]
  rw[List.drop_append_of_le_length (by omega),ybE (by omega),yaJ (by omega),yaA (by omega),ybT,ih]
  rfl
def zl5 (l:List ByteArray) (t:List UInt8) (h: ∀s∈l,s.size<=64) (hn:l.length<=256):zl2 l.length (zcB l++t)= .ok l t:=by
 have hsi:=zhd h;have hsl:(zaU l).length=l.length:=by simp[zaU]
 have hbl:=zd0 hsi (by omega)
 have hr:=zh6 hsi (by omega)
 rw[hsl]at hr;unfold zl2 zcB zbX;rw[yan,yan,zgk (by omega)]
 simp only[ydG,ybm,ybd,ydF];rw[yac (by rw[yae];omega),yd1,hr]
 simp only[ydG,ybm,ybd,ydF];exact zkw l t h
def zqq {l:List ByteArray}:(zcC l).map (pick (zhU l))=l:=by
 rw[zcC,yaQ]
 conv=>rhs;rw[<- yc5 l]
 apply ya0;intro s hs;have h:=zrr (zft.2 hs);simp only[Function.comp,pick,yat,id];rw[yas,yak h];exact zvd h
def zoR (l:List ByteArray) (t:List UInt8) (h: ∀s∈l,s.size<=64) (hn:l.length<=256):(t=[]->zcH l.length (zc7 l++t)=(l,0))/\(t≠[]->(zcH l.length (zc7 l++t)).2≠0):=by
 unfold zc7;split
 ·have hu: ∀s∈zhU l,s.size<=64:=λs hs=>h s (zft.1 hs)
  have hul:=zdI l;have hpi:=zlR hn;have hpl:(zcC l).length=l.length:=by simp[zcC]
  have hcut:=zl5 (zhU l) (zb7 (zcC l)++t) hu (by omega)
  unfold ztg;rw[yan,yan,ya9,zcH];rw[yac (by decide),zgk (by omega)]
  simp only[ydG,ybm,ybd,ydF];rw[yac (by rw[show (1:UInt8).toNat=1 from rfl];omega),hcut]
  simp only;constructor
  ·rintro rfl
   have hr:=zh6 hpi (by omega)
   rw[hpl]at hr;rw[yap,hr];simp only[ydG,ybm,ybd];rw[yag,zqq];intro k hk;obtain⟨s,hs,rfl⟩:=List.mem_map.1 hk;have:=zrr (zft.2 hs);omega
  ·intro ht
   have hr:=zfa hpi (by omega) ht
   rw[hpl]at hr;rw[yag hr];exact hr
 ·have hcut:=zl5 l t h hn
  unfold zfY;rw[ya9,zcH];rw[yag (by decide),hcut]
  simp only;constructor
  ·rintro rfl
   rw[yac (by simp)]
  ·intro ht
   rw[yag ht];simp
end Go.Am.Ab
namespace Go.Am.Ab
open Go.Proofs
set_option maxHeartbeats 4000000
def zoS (k:Nat) (v:Val):Prop:=v= .null\/(v.kind=k/\(∀n,v= .whole n->zah n)/\ ∀s,v= .text s->s.size<=64)
def zfL (k:Nat) (l:List Val):Prop:= ∀v∈l,zoS k v
def zfL.odd {k:Nat} {l:List Val} (g:zfL k l):l.any (zw3 k)=false:=by
 rw[List.any_eq_false];intro v hv;rcases g v hv with h | ⟨h,_⟩ <;> simp[zw3,h]
def zfL.long {k:Nat} {l:List Val} (g:zfL k l):l.any zoz=false:=by
 rw[List.any_eq_false];intro v hv;rcases g v hv with h | ⟨_,_,h⟩
 ·simp[zoz,h]
 ·cases v with
  |text s=>have:=h s rfl;simp[zoz];omega
  |_=>simp[zoz]
def zfL.i64 {k:Nat} {l:List Val} (g:zfL k l): ∀n,Val.whole n∈l->zah n:=by
 intro n hn;rcases g _ hn with h | ⟨_,h,_⟩
 ·cases h
 ·exact h n rfl
def zfL.tail {k:Nat} {v:Val} {l:List Val} (g:zfL k (v::l)):zfL k l:=λx hx=>g x (by simp[hx])
def own (l:List Val):List Val:=l.filter λv=>decide (v≠ .null)
def zl6: ∀ {l:List Val},zfL 1 l->(zcD l).map .whole=own l
 |[],_=>rfl
 |v::r,g=>by
  have ih:=zl6 g.tail;rcases g v (by simp) with h | ⟨h,_⟩
  ·subst h;simpa[zcD,own]using ih
  ·cases v <;> simp[Val.kind]at h
   simp only[zcD,own]at ih ⊢;simp[ih]
def zl7: ∀ {l:List Val},zfL 2 l->(zcE l).map .truth=own l
 |[],_=>rfl
 |v::r,g=>by
  have ih:=zl7 g.tail;rcases g v (by simp) with h | ⟨h,_⟩
  ·subst h;simpa[zcE,own]using ih
  ·cases v <;> simp[Val.kind]at h
   simp only[zcE,own]at ih ⊢;simp[ih]
def zoT: ∀ {l:List Val},zfL 3 l->(zdK l).map .text=own l
 |[],_=>rfl
 |v::r,g=>by
  have ih:=zoT g.tail;rcases g v (by simp) with h | ⟨h,_⟩
  ·subst h;simpa[zdK,own]using ih
  ·cases v <;> simp[Val.kind]at h
   simp only[zdK,own]at ih ⊢;simp[ih]
def zvR (b:Bool):decide (((bit b:Nat):Int)=1)=b:=by cases b <;> rfl
def zqr {k:Nat} (hk:1<=k/\k<=3) {l:List Val} (g:zfL k l) (hn:l.length<=256) (t:List UInt8):
 (t=[]->zaE k (own l).length (zmS k l++t)=(own l,0))/\(t≠[]->(zaE k (own l).length (zmS k l++t)).2≠0):=by
 have hkl:=ze3 l;have h:k=1\/k=2\/k=3:=by omega
 rcases h with rfl | rfl | rfl
 ·have hw:=zl6 g
  have hi:=ze2 g.i64;have hlen:(own l).length=(zcD l).length:=by rw[<- hw];simp
  rw[hlen];unfold zaE zmS;simp only[ybk];constructor
  ·rintro rfl
   rw[yap,zh6 hi (by omega),hw]
  ·intro ht
   exact zfa hi (by omega) ht
 ·have hw:=zl7 g
  have hlen:(own l).length=(zcE l).length:=by rw[<- hw];simp
  rw[hlen];unfold zaE zmS;rw[yac (by decide),yag rfl,yac (by decide),yag rfl]
  constructor
  ·rintro rfl
   rw[yap,ziL,<- hw];simp[zvR]
  ·intro ht
   exact zqp _ ht
 ·have hw:=zoT g
  have hs:=zhh g.long;have hlen:(own l).length=(zdK l).length:=by rw[<- hw];simp
  rw[hlen];unfold zaE zmS;rw[yac (by decide),yac (by decide),yac (by decide),yac (by decide)]
  obtain⟨h1,h2⟩:=zoR (zdK l) t hs (by omega)
  constructor
  ·intro ht
   rw[h1 ht,<- hw]
  ·exact h2
def zvS (l:List Val) (zay:List UInt8):zf0 l.length (zgl l++zay)= .ok ((zaI l).map bit) zay:=by
 have hl:=zaQ l;unfold zgl
 by_cases h:false∈zaI l
 ·have hu:=ziL (zaI l)
  have hf:=ziM (zaI l);rw[hl]at hu hf;rw[yag h,ya9,zf0];rw[yac (by decide),yag (by decide),yac (by rw[yae];omega),<- hf,yd1,hu]
  simp only[ydG,ybm,ybd,ydF]
 ·rw[yac h,List.singleton_append,zf0]
  rw[yac (by decide),yac (by decide)]
  congr 1;apply ybO
  ·simp[hl]
  ·intro i h1 h2
   rw[List.getElem_replicate,ybP];have h3:i<(zaI l).length:=by simpa using h2
   cases e:(zaI l)[i] with
   |true=>rfl
   |false=>exact absurd (e ▸ yam h3) h
def zrO: ∀l:List Val,((zaI l).map bit).sum=(own l).length
 |[]=>rfl
 |v::r=>by
  have ih:=zrO r
  by_cases h:v= .null
  ·subst h
   simpa[zaI,own,bit]using ih
  ·have hd:decide (v≠ .null)=true:=by simp[h]
   simp only[zaI,own,yaV,ydN,ydk,hd,ybk,yaf]at ih ⊢;rw[ih];simp[bit];omega
def zrP: ∀l:List Val,zkr ((zaI l).map bit) (own l)=l
 |[]=>rfl
 |v::r=>by
  have ih:=zrP r
  by_cases h:v= .null
  ·subst h
   simpa[zaI,own,bit,zkr]using ih
  ·have hd:decide (v≠ .null)=true:=by simp[h]
   simp only[zaI,own,yaV,ydk,hd,ybk,zkr]at ih ⊢;rw[yag (by decide)]
   simp only[List.headD_cons,List.tail_cons,ih]
def zvT {k:Nat} (hk:1<=k/\k<=3) {l:List Val} (g:zfL k l) (hn:l.length<=256) (t:List UInt8):
 (t=[]->ze9 k l.length (zez k l++t)=(l,0))/\(t≠[]->(ze9 k l.length (zez k l++t)).2≠0):=by
 obtain⟨h1,h2⟩:=zqr hk g hn t;unfold ze9 zez;rw[yan,zvS];simp only;rw[zrO];constructor
 ·intro ht
  rw[h1 ht];simp only[ydG,ybm,ybd];rw[zrP]
 ·intro ht
  rw[yag (h2 ht)];exact h2 ht
def zyp (l:List UInt8):(mkS l).size=l.length:=rfl
def zkx: ∀ {sz:List Int} {b zay:List UInt8} {l:List ByteArray},za7 sz b= .ok l zay-> ∀s∈l,s.size<=64
 |[],b,zay,l,h=>by
  unfold za7 at h;cases h;intro s hs;cases hs
 |k::r,b,zay,l,h=>by
  unfold za7 at h;split at h
  ·simp at h
  ·split at h
   ·simp at h
   ·rename_i h1 h2
    cases hp:za7 r (b.drop k.toNat) with
    |err e'=>rw[hp]at h;simp at h
    |ok l2 r2=>
     rw[hp]at h;simp at h;intro s hs;rw[<- h.1]at hs;rcases List.mem_cons.1 hs with rfl | hs
     ·rw[zyp,yaq];omega
     ·exact zkx hp s hs
def zoU {n:Int} {b zay:List UInt8} {l:List ByteArray} (h:zl2 n b= .ok l zay): ∀s∈l,s.size<=64:=by
 unfold zl2 at h;split at h
 ·simp at h
 ·split at h
  ·simp at h
  ·split at h
   ·simp at h
   ·exact zkx h
def zvU {u:List ByteArray} (h: ∀s∈u,s.size<=64) (k:Int):(pick u k).size<=64:=by
 unfold pick;rw[yas];cases e:u[k.toNat]? with
 |none=>simp[ByteArray.size]
 |some s=>exact h s (yay e)
def zqs (n:Nat) (b:List UInt8): ∀s∈(zcH n b).1,s.size<=64:=by
 unfold zcH;split
 ·simp
 ·split
  ·split
   ·simp
   ·rename_i hp
    have:=zoU hp;split <;> exact this
  ·split
   ·simp
   ·split
    ·simp
    ·split
     ·simp
     ·rename_i hp
      have:=zoU hp;split
      ·simp
      ·split
       ·intro s hs
        obtain⟨k,_,rfl⟩:=List.mem_map.1 hs;exact zvU this k
       ·simp
def zoV {k n:Nat} (hk:1<=k/\k<=3) {b:List UInt8} (h:(zaE k n b).2=0):zfL k (zaE k n b).1:=by
 have hc:k=1\/k=2\/k=3:=by omega
 intro v hv;right;rcases hc with rfl | rfl | rfl
 ·have h':(zbO b n).2=0:=h
  obtain⟨x,hx,rfl⟩:=List.mem_map.1 (show v∈(zbO b n).1.map .whole from hv)
  have:=(zje h').2 x hx;exact⟨rfl,λm e=>(by cases e;exact this),λs e=>by cases e⟩
 ·obtain⟨x,hx,rfl⟩:=List.mem_map.1 (show v∈(zaL b n).1.map (λ(x:Nat)=>Val.truth (decide ((x:Int)=1))) from hv)
  exact⟨rfl,λm e=>(by cases e),λs e=>by cases e⟩
 ·obtain⟨x,hx,rfl⟩:=List.mem_map.1 (show v∈(zcH n b).1.map .text from hv)
  have:=zqs n b x hx;exact⟨rfl,λm e=>(by cases e),λs e=>by cases e;exact this⟩
def zm0 {v:Val}: ∀ {th:List Nat} {o:List Val},v∈zkr th o->v= .null\/v∈o
 |[],o,h=>by simp[zkr]at h
 |x::t,o,h=>by
  unfold zkr at h;split at h
  ·rcases List.mem_cons.1 h with h | h
   ·cases o with
    |nil=>exact .inl h
    |cons y r=>exact .inr (by rw[h];simp)
   ·rcases zm0 h with h | h
    ·exact .inl h
    ·exact .inr (List.mem_of_mem_tail h)
  ·rcases List.mem_cons.1 h with h | h
   ·exact .inl h
   ·exact zm0 h
def ztE {n:Nat} {b r:List UInt8} {th:List Nat} (h:zf0 n b= .ok th r):th.length=n:=by
 unfold zf0 at h;split at h
 ·cases h
 ·split at h
  ·cases h
  ·split at h
   ·split at h
    ·cases h
    ·split at h
     ·cases h
     ·rename_i c r0 h1 h2 h3 h4
      simp only[PR.ok.injEq]at h;rw[<- h.1];have h5:(zaL (r0.take ((n+7) / 8)) n).2=0:=by omega
      unfold zaL at h5 ⊢;split at h5
      ·simp at h5
      ·rename_i h6
       rw[yac h6];split at h5
       ·rename_i h7;rw[yag h7];simp
       ·simp at h5
   ·simp only[PR.ok.injEq]at h
    rw[<- h.1];simp
def zl8 {k n:Nat} (hk:1<=k/\k<=3) {b:List UInt8} (h:(ze9 k n b).2=0):zfL k (ze9 k n b).1/\(ze9 k n b).1.length=n:=by
 unfold ze9 at h ⊢;cases hp:zf0 n b with
 |err e=>
  rw[hp]at h;exfalso;simp only at h;subst h;unfold zf0 at hp;split at hp
  ·cases hp
  ·split at hp
   ·cases hp
   ·split at hp
    ·split at hp
     ·cases hp
     ·split at hp
      ·rename_i h4
       simp only[PR.err.injEq]at hp;exact h4 hp
      ·cases hp
    ·cases hp
 |ok th r=>
  rw[hp]at h;simp only at h ⊢;split at h
  ·rename_i h1;exact absurd h h1
  ·rename_i h1
   rw[yac h1];have g:=zoV hk (b:=r) (n:=th.sum) (by omega)
   refine⟨λv hv=> ?_, ?_⟩
   ·rcases zm0 hv with h | h
    ·exact .inl h
    ·exact g v h
   ·simp only
    rw[zks,ztE hp]
def zbQ (k:Nat) (b:List UInt8) (n:Int):List Val × Nat:=
 if ¬ (1<=k/\k<=3) then ([],10) else if n<0\/256<n then ([],1)
 else if (ze9 k n.toNat b).2≠0 then ([],(ze9 k n.toNat b).2)
 else if zez k (ze9 k n.toNat b).1=b then ((ze9 k n.toNat b).1,0) else ([],40)
def zyq {k:Nat} (hk:1<=k/\k<=3) {l:List Val} (g:zfL k l) (hn:l.length<=256):zbQ k (zez k l) l.length=(l,0):=by
 have h:=(zvT hk g hn []).1 rfl;rw[yap]at h;unfold zbQ;rw[yac (λc=>c hk),yac (by omega),yat,h]
 simp
end Go.Am.Ab
namespace Go.Am.Ab
open Go.Proofs
set_option maxHeartbeats 4000000
set_option maxRecDepth 4000
def zrQ (k:Nat) (hk:1<=k/\k<=3) (l:List Val) (g:zfL k l) (hn:l.length<=256):R 45 [.d (.int .u8 k),.d (.list (vs l))] []=some ([.arr 0 (zez k l).length,E 0],[.arr 1 (bytes (zez k l)) 0]):=by
 have hc:k=1\/k=2\/k=3:=by omega
 rcases hc with rfl | rfl | rfl
 ·exact ztr l hn g.odd g.i64
 ·exact zts l hn g.odd
 ·exact ztt l hn g.odd g.long
def zm1 {k:Nat} {l:List Val} (hk:1<=k/\k<=3) (g:zfL k l) (hn:l.length<=256):(zez k l).length<=200000:=by
 have hkl:=ze3 l;have htl:=zaQ l;have h1:=zdg (l:=zaI l) (by omega)
 have h2:=zdg (l:=zcE l) (by omega)
 have h3:=zd0 (ze2 g.i64) (by omega)
 have h4:=zl0 (zhh g.long) (by omega)
 unfold zez zgl zmS;rw[yae];split <;> split <;> (try split) <;> simp only[yaf,yaz] <;> omega
def zhl (k:Nat) (hk256:k<256) (b:List UInt8) (n:Int) (hn:zah n) (hb:b.length<1000000):
 R 110 [.d (.int .u8 k),B b,.d (.int .i64 n)] []=some ([.arr 0 (zbQ k b n).1.length,E (zbQ k b n).2],[.arr 1 (vs (zbQ k b n).1) (zbQ k b n).1.length]):=by
 have hr:=zfs k hk256;unfold zbQ
 by_cases hk:1<=k/\k<=3
 case neg=>
  rw[yaO hk]at hr;rw[yag hk];refine rg zBM rfl ?_;intro T hT;simp -dsimp -implicitDefEqProofs (disch:=omega) [hr]
  simpa -dsimp -implicitDefEqProofs (disch:=omega) [E]using hT
 rw[yaI hk]at hr;rw[yac (λc=>c hk)]
 by_cases h1:n<0
 ·rw[yag (.inl h1)]
  refine rg zBM rfl ?_;intro T hT;simp -dsimp -implicitDefEqProofs (disch:=omega) [hr,h1]
  simpa -dsimp -implicitDefEqProofs (disch:=omega) [E]using hT
 by_cases h2:256<n
 ·rw[yag (.inr h2)]
  refine rg zBM rfl ?_;intro T hT;simp -dsimp -implicitDefEqProofs (disch:=omega) [hr,h1,h2]
  simpa -dsimp -implicitDefEqProofs (disch:=omega) [E]using hT
 rw[yac (by omega)]
 obtain⟨m,rfl⟩: ∃m:Nat,n=m:=⟨n.toNat,by omega⟩
 rw[yat];have h:=zmZ k m hk b (by omega) hb
 have hg:=zl8 (n:=m) hk (b:=b);unfold Is VsR at h;obtain⟨v,hv⟩: ∃v,v=ze9 k m b:=⟨_,rfl⟩;rw[<- hv]at h hg ⊢
 by_cases h3:v.2≠0
 ·have h3': ¬ (v.2:Int)=0:=by omega
  rw[yag h3];refine rg zBM rfl ?_;intro T hT;simp -dsimp -implicitDefEqProofs (disch:=omega) [hr,h1,h2,h,h3,h3']
  simpa -dsimp -implicitDefEqProofs (disch:=omega) [E]using hT
 rw[yac h3];have h3':v.2=0:=by omega
 obtain⟨g,gl⟩:=hg h3';rw[h3']at h;have hw:=zrQ k hk v.1 g (by omega)
 have hcl:=zm1 hk g (by omega)
 have heq:=zfz (zez k v.1) b (by omega)
 by_cases h4:zez k v.1=b
 ·rw[yag h4]
  rw[yaI h4]at heq;refine rg zBM rfl ?_;intro T hT;simp -dsimp -implicitDefEqProofs (disch:=omega) [hr,h1,h2,h,hw,heq]
  simpa -dsimp -implicitDefEqProofs (disch:=omega) [E]using hT
 ·rw[yac h4]
  rw[yaO h4]at heq;refine rg zBM rfl ?_;intro T hT;simp -dsimp -implicitDefEqProofs (disch:=omega) [hr,h1,h2,h,hw,heq]
  simpa -dsimp -implicitDefEqProofs (disch:=omega) [E]using hT
end Go.Am.Ab
