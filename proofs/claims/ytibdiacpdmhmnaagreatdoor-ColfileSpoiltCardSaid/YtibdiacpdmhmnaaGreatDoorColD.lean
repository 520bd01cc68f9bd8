/- Columns, read. -/
import Derived.Test.YtibdiacpdmhmnaaGreatDoorParsing
import Derived.Test.YtibdiacpdmhmnaaGreatDoorColB
import Derived.Test.YtibdiacpdmhmnaaGreatDoorColC
set_option linter.all false
namespace Go.Am.Ab
open Go.Proofs
set_option maxHeartbeats 4000000
set_option maxRecDepth 4000
def znG (p:Option (D × List Am.Obj)) (t:Nat) (s:Slots) (h:List Am.Obj) (r:List (Nat × Nat)):Slots × List Am.Obj:=
 match p with
 |some (x,h0)=>let (s1,h1):=zaf s h0 r;((t,.d x)::s1,h1)
 |none=>zaf s h r
@[simp] def zzf (x:D) (h0 h:List Am.Obj) (t:Nat) (s:Slots) (r:List (Nat × Nat)):znG (some (x,h0)) t s h r=zdP (zaf s h0 r) (λp=>((t,.d x)::p.1,p.2)) ⟨⟩:=rfl
@[simp] def zyl {s:Slots} {h:List Am.Obj} {sz:Nat} {r:List (Nat × Nat)}:zaf s h ((1000015,sz)::r)=znG (zbV h (zbS s 15)) 15 s h r:=by
 have key: ∀t,zaf s h ((t+1000000,sz)::r)=znG (zbV h (zbS s t)) t s h r:=by
  intro t
  conv=>lhs;unfold zaf
  rw[yag (by omega),ybN]
  unfold znG;cases zbV h (zbS s t) <;> rfl
 exact key 15
abbrev uz (l:List Int):List D:=l.map λn=>D.int .u64 n
@[simp] def zpv (x:Int): ∀n,zaq 1 (List.replicate n (D.int .u64 x))=true
 |0=>rfl
 |n+1=>by simp[yaS,zpv x n]
@[simp] def zBs (l:List Int):zaq 1 (l.map λn=>D.int .u64 n)=true:=zaS l λ_=>rfl
@[simp] def zAp (l:List Nat):zaq 1 (l.map λ(n:Nat)=>D.int .u64 (n:Int))=true:=zaS l λ_=>rfl
def zpw (x:Int) (n:Nat) (hn:n<=256):R 177 [.arr 0 1,.d (.int .i64 n)] [.arr 1 [.int .u64 x] 0]=some ([.arr 1 n],[.arr 1 [.int .u64 x] 0,.arr 1 (uz (List.replicate n x)) 0]):=by
 have hm:=ziR n hn;have hw:IntKind.u64.wrap (n:Int)=n:=zak (by omega) (by omega)
 have hw1:IntKind.u64.wrap 1=1:=zak (by omega) (by omega)
 have hn0: ¬ (n:Int)<0:=by omega
 have hfit: ¬ (9223372036854775807:Int)<n:=by omega
 have hqi:IntKind.i64.wrap (n:Int)=n:=wI (by omega) (by omega)
 by_cases h0:n=0
 ·subst h0
  rw[show ((0:Nat):Int)=0 from rfl]at*
  refine rg zIm rfl ?_;intro T hT;simp -dsimp -implicitDefEqProofs (disch:=first|omega|assumption) [hm,hw,hw1]
  generalize hz:zaj _ _ _ _ _ _=z;revert z;refine zaa (σ:=Unit) (λ_=>[(7,.arr 1 0),(8,.d (.int .i64 0))]) (λ_=>[.arr 1 [.int .u64 x] 0,.arr 1 [] 0]) (λ_=>True) (λ_=>0) () ?_ ?_ ?_
  ·trivial
  ·simp -dsimp -implicitDefEqProofs (disch:=first|omega|assumption)
  intro T' f hT' _ _ ih;subst hT';simp -dsimp -implicitDefEqProofs (disch:=first|omega|assumption)
  simpa -dsimp -implicitDefEqProofs (disch:=first|omega|assumption) using hT
 ·have h0': ¬ (n:Int)=0:=by omega
  have hmin:min 1 n=1:=by omega
  have hpos:0<n:=by omega
  have hfl: ∀j,j<=n->(zbB x n j).length=n:=λj hj=>by simp[zbB];omega
  have htk:List.take n [D.int .u64 x]=[D.int .u64 x]:=yar (by simp;omega)
  refine rg zIm rfl ?_;intro T hT;simp -dsimp -implicitDefEqProofs (disch:=first|omega|assumption) [hm,hw,hw1,hn0,hfit,hqi,h0,h0',hmin,hpos,htk]
  generalize hz:zaj _ _ _ _ _ _=z;revert z;refine zaa (σ:=Nat) (λj=>[(7,.arr 1 n),(8,.d (.int .i64 j))]) (λj=>[.arr 1 [.int .u64 x] 0,.arr 1 (uz (zbB x n j)) 0]) (λj=>0<j/\j<=n) (λj=>n - j) 1 ?_ ?_ ?_
  ·omega
  ·simp -dsimp -implicitDefEqProofs (disch:=first|omega|assumption) [zbB]
  intro T' f hT' j ⟨hj0,hj⟩ ih;have hfj:=hfl j hj
  by_cases h1:j<n
  ·have h1':(j:Int)<n:=by omega
   have hnj: ¬ 0=n:=by omega
   have hjle:j<=n:=hj;obtain⟨k,hk⟩: ∃k,k=min (n - j) j:=⟨_,rfl⟩;have hk':min (n - j) j=k:=hk.symm;have hk2:min j (n - j)=k:=by omega
   have hA:List.take j (List.map (λn=>D.int .u64 n) (zbB x n j))=List.replicate j (D.int .u64 x):=by
    unfold zbB;rw[ybf,ybJ (by simp),yar (by simp)];simp
   have hC:List.drop (j+k) (List.map (λn=>D.int .u64 n) (zbB x n j))=List.replicate (n - j - k) (D.int .u64 0):=by
    unfold zbB;rw[ybf,ydn,ybj (by simp),ybH]
    simp
   have hD:List.replicate j (D.int .u64 x)++(List.replicate k (D.int .u64 x)++List.replicate (n - j - k) (D.int .u64 0))=List.map (λn=>D.int .u64 n) (zbB x n (j+k)):=by
    unfold zbB;rw[<- yal,ycq,show n - (j+k)=n - j - k by omega]
    simp
   simp -dsimp -implicitDefEqProofs (disch:=first|omega|assumption) [h1,h1',hfj,hnj,hjle,hA,hk',hk2,hC,hD]
   have hnjk:n - (j+k)=n - j - k:=by omega
   exact ih (j+k) _ _ (by omega) (by omega) (by simp -dsimp -implicitDefEqProofs (disch:=first|omega|assumption) [zbB,hnjk])
  ·have hjn:j=n:=by omega
   have hff:zbB x n n=List.replicate n x:=by simp[zbB]
   subst hT';rw[hjn,hff];simp -dsimp -implicitDefEqProofs (disch:=first|omega|assumption)
   simpa -dsimp -implicitDefEqProofs (disch:=first|omega|assumption) using hT
def zgg (n:Nat) (b:List UInt8):PR (List Nat):=
 match b with
 |[]=> .err 30
 |c::r=>
  if 1<c.toNat then .err 40
  else if c.toNat=1 then
   if r.length<(n+7) / 8 then .err 30
   else if (zaV (r.take ((n+7) / 8)) n).2≠0 then .err (zaV (r.take ((n+7) / 8)) n).2
   else .ok (zaV (r.take ((n+7) / 8)) n).1 (r.drop ((n+7) / 8))
  else .ok (List.replicate n 1) r
def zkQ:List Nat->List Val->List Val
 |[],_=>[]
 |x::t,own=>if x=1 then own.headD .null::zkQ t own.tail else .null::zkQ t own
def zfk (k n:Nat) (b:List UInt8):List Val × Nat:=
 match zgg n b with
 |.err e=>([],e)
 |.ok th r=>if (zaM k th.sum r).2≠0 then ([],(zaM k th.sum r).2) else (zkQ th (zaM k th.sum r).1,0)
def zkR: ∀ (th:List Nat) (own:List Val),(zkQ th own).length=th.length
 |[],_=>rfl
 |x::t,own=>by
  unfold zkQ;split <;> simp[zkR t]
def znV (l:List Val) (n:Nat):List D:=vs l++List.replicate (n - l.length) .nilI
def zso (n:Nat):znV [] n=List.replicate n .nilI:=by simp[znV]
def zkS {l:List Val} {n:Nat} (h:l.length<=n):(znV l n).length=n:=by simp[znV];omega
def zsp {l:List Val} {n:Nat} (h:l.length<n):(znV l n)[l.length]? =some .nilI:=by
 rw[znV,yak (by simp),yah,ybb,ycV,yaj (by omega)]
def zsq {l:List Val} {n:Nat} (h:l.length<n) (v:Val):(znV l n).set l.length v.d=znV (l++[v]) n:=by
 have e:n - l.length=(n - (l.length+1))+1:=by omega
 have hl:(vs l).length=l.length:=by simp
 rw[znV,znV,e,yaS,ybn _ _ (by omega),hl,ybb,yc2,yab,ya5]
 simp
def zpx {l:List Val} {n:Nat} (h:l.length<n):znV l n=znV (l++[.null]) n:=by
 have e:n - l.length=(n - (l.length+1))+1:=by omega
 rw[znV,znV,e,yaS,yab,ya5];simp[Val.d]
def zsr {l:List Val} {n:Nat} (h:l.length=n):znV l n=vs l:=by simp[znV,h]
def zss {l:List Nat} {i:Nat} (h:i<l.length):(l.take (i+1)).sum=(l.take i).sum+l[i]:=by
 rw[zao h,List.sum_append];simp
def zsu {l:List Nat} (h: ∀x∈l,x<=1):l.sum<=l.length:=by
 induction l with
 |nil=>simp
 |cons x r ih=>
  have h1:=h x (by simp)
  have h2:=ih λy hy=>h y (by simp[hy])
  simp only[ydT,yad];omega
def zmE: ∀ {sz:List Int} {b zaF:List UInt8} {l:List ByteArray},zbk sz b= .ok l zaF->l.length=sz.length
 |[],b,zaF,l,h=>by simp[zbk]at h;simp[<- h.1]
 |k::r,b,zaF,l,h=>by
  unfold zbk at h;split at h
  ·simp at h
  ·split at h
   ·simp at h
   ·cases hp:zbk r (b.drop k.toNat) with
    |err e'=>rw[hp]at h;simp at h
    |ok l2 r2=>
     rw[hp]at h;simp at h;rw[<- h.1];simp[zmE hp]
def zju {b:List UInt8} {n:Int} (h:(zb5 b n).2=0):((zb5 b n).1.length:Int)=n/\ ∀x∈(zb5 b n).1,zai x:=by
 unfold zb5 at h ⊢;split at h
 ·simp at h
 ·rename_i hn
  rw[yag hn];cases b with
  |nil=>simp at h
  |cons c r=>
   simp only at h ⊢;split at h
   ·simp at h
   ·rename_i hc
    rw[yag hc];unfold zz2 at h ⊢;cases hp:zgB c.toNat n.toNat r with
    |err e=>rw[hp]at h;simp only at h ⊢;exact absurd h (zoY hp)
    |ok l r2=>
     rw[hp]at h;simp only at h ⊢;split at h
     ·simp at h
     ·rename_i h2
      rw[yag h2];split at h
      ·rename_i h3
       rw[yaj h3];have:=znq hp;exact⟨by simp only;omega,this.2⟩
      ·simp at h
def zym {n:Int} {b zaF:List UInt8} {l:List ByteArray} (h:zmA n b= .ok l zaF):(l.length:Int)=n:=by
 unfold zmA at h;split at h
 ·simp at h
 ·split at h
  ·simp at h
  ·split at h
   ·simp at h
   ·rename_i h3
    rw[zmE h];exact (zju (by omega)).1
def zkT {k n:Nat} {b:List UInt8} (h:(zaM k n b).2=0):(zaM k n b).1.length=n:=by
 unfold zaM at h ⊢;split
 ·rename_i h1
  rw[yaj h1]at h;have:=(zju h).1;simp only[yah];omega
 ·rename_i h1
  rw[yag h1]at h;split
  ·rename_i h2
   rw[yaj h2]at h;simp only[yah]at h ⊢;unfold zaV at h ⊢;split at h
   ·simp at h
   ·rename_i h3
    rw[yag h3];split at h
    ·rename_i h4
     rw[yaj h4];simp
    ·simp at h
  ·rename_i h2
   rw[yag h2]at h;simp only[yah]at h ⊢;unfold zcP at h ⊢;cases b with
   |nil=>simp at h
   |cons c r=>
    simp only at h ⊢;split at h
    ·rename_i h3
     rw[yaj h3];cases hp:zmA (n:Int) r with
     |err e=>rw[hp]at h;exact absurd h (zjr hp)
     |ok l zaF=>
      rw[hp]at h;simp only at h ⊢;split at h
      ·simp at h
      ·rename_i h4
       rw[yag h4];have:=zym hp;simp only;omega
    ·rename_i h3
     rw[yag h3];split at h
     ·rename_i h4;exact absurd h h4
     ·rename_i h4
      rw[yag h4];split at h
      ·simp at h
      ·rename_i h5
       rw[yag h5];cases hp:zmA ((get r).1:Int) (r.drop (get r).2.1) with
       |err e=>rw[hp]at h;exact absurd h (zjr hp)
       |ok u zaF=>
        rw[hp]at h;simp only at h ⊢;split at h
        ·rename_i h6;exact absurd h h6
        ·rename_i h6
         rw[yag h6];split at h
         ·rename_i h7
          rw[yaj h7];have:=(zju (b:=zaF) (n:=n) (by omega)).1
          simp only[yah];omega
         ·simp at h
def zkU (k n:Nat) (hk:1<=k/\k<=3) (b:List UInt8) (hn:n<=256) (hb:b.length<1000000):R 179 [.d (.int .u8 k),B b,.d (.int .i64 n)] []=VsR (zaM k n b):=by
 have h:k=1\/k=2\/k=3:=by omega
 rcases h with rfl | rfl | rfl
 ·exact zpl b n hn hb
 ·exact zpm b n hn hb
 ·exact zpn b n hn hb
def znH (k n:Nat) (hk:1<=k/\k<=3) (b:List UInt8) (hn:n<=256) (hb:b.length<1000000):Is (VsR (zfk k n b)) (R 152 [.d (.int .u8 k),B b,.d (.int .i64 n)] []):=by
 cases b with
 |nil=>
  refine ra zBl rfl (zb7 (zdm _)) ?_;simp -dsimp -implicitDefEqProofs (disch:=first|omega|assumption)
  simp[Is,VsR,zfk,zgg,E]
 |cons c r=>
 simp only[yad]at hb;have hl0: ¬ ((r.length:Int)+1=0):=by omega
 have hrep:=zpw 1 n hn;have huz:uz (List.replicate n 1)=uc (List.replicate n 1):=by simp
 rw[huz]at hrep;unfold zfk zgg;simp only
 by_cases c1:1<c.toNat
 ·have c1':(1:Int)<c.toNat:=by omega
  rw[yaj c1];refine ra zBl rfl (zb7 (zdm _)) ?_;simp -dsimp -implicitDefEqProofs (disch:=first|omega|assumption) [hl0,hrep,c1,c1']
  simp[Is,VsR,E]
 rw[yag c1];have c1': ¬ (1:Int)<c.toNat:=by omega
 by_cases c2:c.toNat=1
 ·rw[yaj c2]
  have c2':(c.toNat:Int)=1:=by omega
  obtain⟨sz,hsz⟩: ∃sz,sz=(n+7) / 8:=⟨_,rfl⟩;have hsz':((n:Int)+7) / 8=sz:=by omega
  rw[<- hsz]
  by_cases c3:r.length<sz
  ·rw[yaj c3]
   have c3':(r.length:Int)<sz:=by omega
   refine ra zBl rfl (zb7 (zdm _)) ?_;simp -dsimp -implicitDefEqProofs (disch:=first|omega|assumption) [hl0,hrep,c1,c1',c2,c2',hsz',c3,c3']
   simp[Is,VsR,E]
  rw[yag c3];have c3': ¬ (r.length:Int)<sz:=by omega
  have c3b:sz<=r.length:=by omega
  obtain⟨bt,hbt⟩: ∃bt,bt=r.take sz:=⟨_,rfl⟩;obtain⟨rb,hbd⟩: ∃rb,rb=r.drop sz:=⟨_,rfl⟩;have hbt':List.take sz (bytes r)=bytes bt:=by rw[hbt,bytes,bytes,ybO]
  have hbd':List.drop sz (bytes r)=bytes rb:=by rw[hbd,bytes,bytes,ycd]
  have hbtl:bt.length<1000000:=by rw[hbt,yan];omega
  have hrbl:rb.length<1000000:=by rw[hbd,yaw];omega
  rw[<- hbt,<- hbd];have hup:=ziW bt n hn hbtl;have hth0: ∀x∈(zaV bt n).1,x<=1:=by
   unfold zaV;split
   ·simp
   ·split
    ·intro x hx
     simp only[ups,ycf]at hx;obtain⟨j,_,rfl⟩:=hx;omega
    ·simp
  have hthl0:(zaV bt n).2=0->(zaV bt n).1.length=n:=by
   unfold zaV;split
   ·simp
   ·split
    ·simp
    ·simp
  obtain⟨th,hte⟩: ∃th,th=(zaV bt n).1:=⟨_,rfl⟩;obtain⟨e,hee⟩: ∃e,e=(zaV bt n).2:=⟨_,rfl⟩;rw[<- hte,<- hee]at hup hthl0;rw[<- hte]at hth0;rw[<- hte,<- hee];clear hte hee hbt hbd hsz
  by_cases c4:e≠0
  ·rw[yaj c4]
   have c4': ¬ (e:Int)=0:=by omega
   refine ra zBl rfl (zb7 (zdm _)) ?_;simp -dsimp -implicitDefEqProofs (disch:=first|omega|assumption) [hl0,hrep,c1,c1',c2,c2',hsz',c3,c3',c3b,hbt',hup,c4,c4']
   simp[Is,VsR,E]
  rw[yag c4];have c4':e=0:=by omega
  subst c4';have hthl:=hthl0 rfl;have hth:=hth0;subst hthl;have hsum:=zsu hth;have hval:=zkU k th.sum hk rb (by omega) hrbl
  have hvl:(zaM k th.sum rb).2=0->(zaM k th.sum rb).1.length=th.sum:=zkT;simp only;generalize hA:(if (zaM k th.sum rb).2≠0 then (([]:List Val),(zaM k th.sum rb).2) else (zkQ th (zaM k th.sum rb).1,0))=A
  refine ra zBl rfl (zb7 (zdm _)) ?_;simp -dsimp -implicitDefEqProofs (disch:=first|omega|assumption) [hl0,hrep,c1,c1',c2,c2',hsz',c3,c3',c3b,hbt',hup,hbd']
  generalize hz:zaj _ _ _ _ _ _=z;revert z;refine zaa (σ:=Nat) (λi=>[(0,.d (.int .u8 k)),(1,B rb),(2,.d (.int .i64 th.length)),(9,.arr 0 th.length),(12,.d (.int .i64 ((th.take i).sum:Nat))),(56,.arr 0 th.length),(57,.d (.int .i64 th.length)),(58,.d (.int .i64 i))]) (λi=>[.arr 1 (uc th) 0]) (λi=>i<=th.length) (λi=>th.length - i) 0 ?_ ?_ ?_
  ·exact yai _
  ·simp -dsimp -implicitDefEqProofs (disch:=first|omega|assumption) [B]
  intro T' f hT' i hi ih
  by_cases h1:i<th.length
  ·have h1':i<th.length:=by omega
   have hx:=hth th[i] (yam _);have hs:=zss h1';have hsl:(th.take i).sum<=i:=by
    have:=zsu (l:=th.take i) λx hx=>hth x (yaD hx)
    have h2:(th.take i).length<=i:=by simp;omega
    omega
   obtain⟨x,hxe⟩: ∃x,x=th[i]:=⟨_,rfl⟩;rw[<- hxe]at hx hs;have gx:=hxe.symm;have hw:IntKind.i64.wrap (x:Int)=x:=wI (by omega) (by omega)
   simp -dsimp -implicitDefEqProofs (disch:=first|omega|assumption) [h1,h1',gx,hw]
   refine ih (i+1) _ _ h1 (by omega) ?_
   rw[hs];simp -dsimp -implicitDefEqProofs (disch:=first|omega|assumption) [B]
  obtain rfl:i=th.length:=by omega
  subst hT';clear ih hi h1;rw[yaQ];obtain⟨v,hv⟩: ∃v,v=zaM k th.sum rb:=⟨_,rfl⟩;rw[<- hv]at hval hvl hA
  by_cases hv0:v.2≠0
  ·have hv0': ¬ (v.2:Int)=0:=by omega
   rw[yaj hv0]at hA;subst hA;unfold VsR at hval;simp -dsimp -implicitDefEqProofs (disch:=first|omega|assumption) [hval,hv0,hv0']
   simp[Is,VsR,E]
  rw[yag hv0]at hA;subst hA;have hv0':v.2=0:=by omega
  have hvl':=hvl hv0';unfold VsR at hval;rw[hv0']at hval;simp -dsimp -implicitDefEqProofs (disch:=first|omega|assumption) [hval]
  generalize hT0:Is _=T0;have fin: ∀r,r=VsR (zkQ th v.1,0)->T0 r:=λr hr=>by rw[<- hT0];exact hr
  generalize hz:zaj _ _ _ _ _ _=z;revert z;refine zaa (σ:=Nat × List Val × List Val) (λx=>[(15,.d (.list (vs x.2.2))),(17,.arr 0 th.length),(79,.arr 1 th.length),(80,.d (.int .i64 th.length)),(81,.d (.int .i64 x.1))]) (λx=>[.arr 1 (znV x.2.1 th.length) 0,.arr 1 (uc th) 0]) (λx=>x.1<=th.length/\x.2.1.length=x.1/\x.2.2.length=(th.drop x.1).sum/\zkQ th v.1=x.2.1++zkQ (th.drop x.1) x.2.2) (λx=>th.length - x.1) (0,[],v.1) ?_ ?_ ?_
  ·exact⟨yai _,rfl,by rw[ycv];exact hvl',by rw[ycv];rfl⟩
  ·simp -dsimp -implicitDefEqProofs (disch:=first|omega|assumption) [zso]
  intro T2 f2 hT2 ⟨i,dn,own⟩ ⟨hi,hdl,hol,hsc⟩ ih;simp only at hi hdl hol hsc ih
  by_cases h1:i<th.length
  ·have hdr:th.drop i=th[i]::th.drop (i+1):=yaC h1
   obtain⟨x,hxe⟩: ∃x,x=th[i]:=⟨_,rfl⟩;have hx:=hth th[i] (yam _);rw[<- hxe]at hdr hx;have gx:=hxe.symm;rw[hdr,ydT]at hol;rw[hdr,zkQ]at hsc;have hol2:=zkS (l:=dn) (n:=th.length) (by omega)
   have hog:=zsp (l:=dn) (n:=th.length) (by omega)
   rw[hdl]at hog
   by_cases hx1:x=1
   ·rw[yaj hx1]at hsc
    cases own with
    |nil=>simp only[yat]at hol;omega
    |cons v0 own'=>
     have hos:=zsq (l:=dn) (n:=th.length) (by omega) v0
     rw[hdl]at hos;subst hx1;simp only[yad]at hol;simp -dsimp -implicitDefEqProofs (disch:=first|omega|assumption) [h1,gx,hol2,hog,hos]
     refine ih (i+1,dn++[v0],own') _ _ ⟨h1,by simp[hdl],by simp only;omega, ?_⟩ (by simp only;omega) ?_
     ·rw[hsc];simp
     ·simp -dsimp -implicitDefEqProofs (disch:=first|omega|assumption)
   ·rw[yag hx1]at hsc
    have hx1': ¬ (x:Int)=1:=by omega
    have hon:=zpx (l:=dn) (n:=th.length) (by omega)
    simp -dsimp -implicitDefEqProofs (disch:=first|omega|assumption) [h1,gx,hol2,hx1']
    refine ih (i+1,dn++[.null],own) _ _ ⟨h1,by simp[hdl],by simp only;omega, ?_⟩ (by simp only;omega) ?_
    ·rw[hsc];simp
    ·rw[<- hon]
     simp -dsimp -implicitDefEqProofs (disch:=first|omega|assumption)
  ·obtain rfl:i=th.length:=by omega
   rw[yb9,zkQ,yaq]at hsc;have hoe:=zsr (l:=dn) (n:=th.length) hdl;subst hT2;rw[hoe];simp -dsimp -implicitDefEqProofs (disch:=first|omega|assumption) [hdl]
   refine fin _ ?_;rw[hsc];simp[VsR,E,hdl]
 ·rw[yag c2]
  have c2': ¬ (c.toNat:Int)=1:=by omega
  obtain⟨th,hte⟩: ∃th,th=List.replicate n 1:=⟨_,rfl⟩;have hth: ∀x∈th,x<=1:=by rw[hte];intro x hx;have:=yb6 hx;omega
  have hthl:th.length=n:=by rw[hte];simp
  rw[<- hte]at hrep ⊢;clear hte huz;subst hthl;obtain⟨rb,hrb⟩: ∃rb,rb=r:=⟨_,rfl⟩;rw[<- hrb]at hb hl0 ⊢;clear hrb;have hsum:=zsu hth;have hval:=zkU k th.sum hk rb (by omega) (by omega)
  have hvl:(zaM k th.sum rb).2=0->(zaM k th.sum rb).1.length=th.sum:=zkT;simp only;generalize hA:(if (zaM k th.sum rb).2≠0 then (([]:List Val),(zaM k th.sum rb).2) else (zkQ th (zaM k th.sum rb).1,0))=A
  refine ra zBl rfl (zb7 (zdm _)) ?_;simp -dsimp -implicitDefEqProofs (disch:=first|omega|assumption) [hl0,hrep,c1,c1',c2,c2']
  generalize hz:zaj _ _ _ _ _ _=z;revert z;refine zaa (σ:=Nat) (λi=>[(0,.d (.int .u8 k)),(1,B rb),(2,.d (.int .i64 th.length)),(9,.arr 0 th.length),(12,.d (.int .i64 ((th.take i).sum:Nat))),(56,.arr 0 th.length),(57,.d (.int .i64 th.length)),(58,.d (.int .i64 i))]) (λi=>[.arr 1 (uc th) 0]) (λi=>i<=th.length) (λi=>th.length - i) 0 ?_ ?_ ?_
  ·exact yai _
  ·simp -dsimp -implicitDefEqProofs (disch:=first|omega|assumption) [B]
  intro T' f hT' i hi ih
  by_cases h1:i<th.length
  ·have h1':i<th.length:=by omega
   have hx:=hth th[i] (yam _);have hs:=zss h1';have hsl:(th.take i).sum<=i:=by
    have:=zsu (l:=th.take i) λx hx=>hth x (yaD hx)
    have h2:(th.take i).length<=i:=by simp;omega
    omega
   obtain⟨x,hxe⟩: ∃x,x=th[i]:=⟨_,rfl⟩;rw[<- hxe]at hx hs;have gx:=hxe.symm;have hw:IntKind.i64.wrap (x:Int)=x:=wI (by omega) (by omega)
   simp -dsimp -implicitDefEqProofs (disch:=first|omega|assumption) [h1,h1',gx,hw]
   refine ih (i+1) _ _ h1 (by omega) ?_
   rw[hs];simp -dsimp -implicitDefEqProofs (disch:=first|omega|assumption) [B]
  obtain rfl:i=th.length:=by omega
  subst hT';clear ih hi h1;rw[yaQ];obtain⟨v,hv⟩: ∃v,v=zaM k th.sum rb:=⟨_,rfl⟩;rw[<- hv]at hval hvl hA
  by_cases hv0:v.2≠0
  ·have hv0': ¬ (v.2:Int)=0:=by omega
   rw[yaj hv0]at hA;subst hA;unfold VsR at hval;simp -dsimp -implicitDefEqProofs (disch:=first|omega|assumption) [hval,hv0,hv0']
   simp[Is,VsR,E]
  rw[yag hv0]at hA;subst hA;have hv0':v.2=0:=by omega
  have hvl':=hvl hv0';unfold VsR at hval;rw[hv0']at hval;simp -dsimp -implicitDefEqProofs (disch:=first|omega|assumption) [hval]
  generalize hT0:Is _=T0;have fin: ∀r,r=VsR (zkQ th v.1,0)->T0 r:=λr hr=>by rw[<- hT0];exact hr
  generalize hz:zaj _ _ _ _ _ _=z;revert z;refine zaa (σ:=Nat × List Val × List Val) (λx=>[(15,.d (.list (vs x.2.2))),(17,.arr 0 th.length),(79,.arr 1 th.length),(80,.d (.int .i64 th.length)),(81,.d (.int .i64 x.1))]) (λx=>[.arr 1 (znV x.2.1 th.length) 0,.arr 1 (uc th) 0]) (λx=>x.1<=th.length/\x.2.1.length=x.1/\x.2.2.length=(th.drop x.1).sum/\zkQ th v.1=x.2.1++zkQ (th.drop x.1) x.2.2) (λx=>th.length - x.1) (0,[],v.1) ?_ ?_ ?_
  ·exact⟨yai _,rfl,by rw[ycv];exact hvl',by rw[ycv];rfl⟩
  ·simp -dsimp -implicitDefEqProofs (disch:=first|omega|assumption) [zso]
  intro T2 f2 hT2 ⟨i,dn,own⟩ ⟨hi,hdl,hol,hsc⟩ ih;simp only at hi hdl hol hsc ih
  by_cases h1:i<th.length
  ·have hdr:th.drop i=th[i]::th.drop (i+1):=yaC h1
   obtain⟨x,hxe⟩: ∃x,x=th[i]:=⟨_,rfl⟩;have hx:=hth th[i] (yam _);rw[<- hxe]at hdr hx;have gx:=hxe.symm;rw[hdr,ydT]at hol;rw[hdr,zkQ]at hsc;have hol2:=zkS (l:=dn) (n:=th.length) (by omega)
   have hog:=zsp (l:=dn) (n:=th.length) (by omega)
   rw[hdl]at hog
   by_cases hx1:x=1
   ·rw[yaj hx1]at hsc
    cases own with
    |nil=>simp only[yat]at hol;omega
    |cons v0 own'=>
     have hos:=zsq (l:=dn) (n:=th.length) (by omega) v0
     rw[hdl]at hos;subst hx1;simp only[yad]at hol;simp -dsimp -implicitDefEqProofs (disch:=first|omega|assumption) [h1,gx,hol2,hog,hos]
     refine ih (i+1,dn++[v0],own') _ _ ⟨h1,by simp[hdl],by simp only;omega, ?_⟩ (by simp only;omega) ?_
     ·rw[hsc];simp
     ·simp -dsimp -implicitDefEqProofs (disch:=first|omega|assumption)
   ·rw[yag hx1]at hsc
    have hx1': ¬ (x:Int)=1:=by omega
    have hon:=zpx (l:=dn) (n:=th.length) (by omega)
    simp -dsimp -implicitDefEqProofs (disch:=first|omega|assumption) [h1,gx,hol2,hx1']
    refine ih (i+1,dn++[.null],own) _ _ ⟨h1,by simp[hdl],by simp only;omega, ?_⟩ (by simp only;omega) ?_
    ·rw[hsc];simp
    ·rw[<- hon]
     simp -dsimp -implicitDefEqProofs (disch:=first|omega|assumption)
  ·obtain rfl:i=th.length:=by omega
   rw[yb9,zkQ,yaq]at hsc;have hoe:=zsr (l:=dn) (n:=th.length) hdl;subst hT2;rw[hoe];simp -dsimp -implicitDefEqProofs (disch:=first|omega|assumption) [hdl]
   refine fin _ ?_;rw[hsc];simp[VsR,E,hdl]
end Go.Am.Ab
namespace Go.Am.Ab
open Go.Proofs
set_option maxHeartbeats 4000000
def zfl {l:List Int} {t:List UInt8} (h: ∀n∈l,zai n) (hn:l.length<=256) (ht:t≠[]):(zb5 (zbp l++t) l.length).2≠0:=by
 obtain⟨⟨c,hc,e⟩,_⟩:=zoV l;rw[e,yaV,ztN hc h hn ht];simp
def ziZ (l:List Bool):zaV (za5 l) l.length=(l.map bit,0):=by
 have hb:=zsb l;have h:=zdR (w:=1) (p:=l.map bit) hb;have hl:(za8 1 (l.map bit)).length=(l.length+7) / 8:=by rw[zbJ];simp
 unfold zb4 at h;rw[yah,yb7,hl,yag (ybG _),yag (ybG _)]at h;unfold zaV za5;rw[hl,yag (λk=>k rfl)]
 split at h
 ·rename_i h2
  rw[yaj h2];simp only[PR.ok.injEq,yd7]at h;rw[h]
 ·cases h
def zi0 (l:List Bool):(za5 l).length=(l.length+7) / 8:=by
 unfold za5;rw[zbJ];simp
def zq1 (l:List Bool) {t:List UInt8} (ht:t≠[]):(zaV (za5 l++t) l.length).2≠0:=by
 have h1:=zi0 l;have h2:0<t.length:=List.length_pos_iff.2 ht;unfold zaV;rw[yaj (by rw[yab];omega)]
 simp
def zuh (s:ByteArray) (r:List ByteArray):zeD (s::r) (s::r).length=s.data.toList++zeD r r.length:=by
 simp[zeD]
def zkV: ∀ (l:List ByteArray) (t:List UInt8),(∀s∈l,s.size<=64)->zbk (zaR l) (zeD l l.length++t)= .ok l t
 |[],t,_=>rfl
 |s::r,t,h=>by
  have hs:=h s (by simp)
  have hl:=zgD s;have ih:=zkV r t λx hx=>h x (by simp[hx])
  rw[zuh,zaR,yaO,zbk,yag (by omega),yal,yag (by rw[yab,hl];omega),yaB]
  rw[show List.map (λs=>(s.size:Int)) r=zaR r from rfl]
  rw[List.drop_append_of_le_length (by omega),ybJ (by omega),ybj (by omega),yar (by omega),ybH,ih]
  rfl
def zmF (l:List ByteArray) (t:List UInt8) (h: ∀s∈l,s.size<=64) (hn:l.length<=256):zmA l.length (zbC l++t)= .ok l t:=by
 have hsi:=zfN h;have hsl:(zaR l).length=l.length:=by simp[zaR]
 have hbl:=zcO hsi (by omega)
 have hr:=zh9 hsi (by omega)
 rw[hsl]at hr;unfold zmA zbC zbg;rw[yal,yal,zgC (by omega)]
 simp only[ydh,yba,yaY,ydM];rw[yag (by rw[yab];omega),yd5,hr]
 simp only[ydh,yba,yaY,ydM];exact zkV l t h
def zq2 {l:List ByteArray}:(zbq l).map (pick (zeL l))=l:=by
 rw[zbq,yaL]
 conv=>rhs;rw[<- ycR l]
 apply yaX;intro s hs;have h:=zmx (zdE.2 hs);simp only[Function.comp,pick,yaB,id];rw[yay,yao h];exact znw h
def zpy (l:List ByteArray) (t:List UInt8) (h: ∀s∈l,s.size<=64) (hn:l.length<=256):(t=[]->zcP l.length (zcV l++t)=(l,0))/\(t≠[]->(zcP l.length (zcV l++t)).2≠0):=by
 unfold zcV;split
 ·have hu: ∀s∈zeL l,s.size<=64:=λs hs=>h s (zdE.1 hs)
  have hul:=zc4 l;have hpi:=zij hn;have hpl:(zbq l).length=l.length:=by simp[zbq]
  have hcut:=zmF (zeL l) (zbp (zbq l)++t) hu (by omega)
  unfold znx;rw[yal,yal,yaV,zcP];rw[yag (by decide),zgC (by omega)]
  simp only[ydh,yba,yaY,ydM];rw[yag (by rw[show (1:UInt8).toNat=1 from rfl];omega),hcut]
  simp only;constructor
  ·rintro rfl
   have hr:=zh9 hpi (by omega)
   rw[hpl]at hr;rw[yaq,hr];simp only[ydh,yba,yaY];rw[yaj,zq2];intro k hk;obtain⟨s,hs,rfl⟩:=List.mem_map.1 hk;have:=zmx (zdE.2 hs);omega
  ·intro ht
   have hr:=zfl hpi (by omega) ht
   rw[hpl]at hr;rw[yaj hr];exact hr
 ·have hcut:=zmF l t h hn
  unfold zeb;rw[yaV,zcP];rw[yaj (by decide),hcut]
  simp only;constructor
  ·rintro rfl
   rw[yag (by simp)]
  ·intro ht
   rw[yaj ht];simp
end Go.Am.Ab
namespace Go.Am.Ab
open Go.Proofs
set_option maxHeartbeats 4000000
def zq3 (k:Nat) (v:Val):Prop:=v= .null\/(v.kind=k/\(∀n,v= .whole n->zai n)/\ ∀s,v= .text s->s.size<=64)
def zgh (k:Nat) (l:List Val):Prop:= ∀v∈l,zq3 k v
def zgh.odd {k:Nat} {l:List Val} (g:zgh k l):l.any (zw1 k)=false:=by
 rw[ydb];intro v hv;rcases g v hv with h | ⟨h,_⟩ <;> simp[zw1,h]
def zgh.long {k:Nat} {l:List Val} (g:zgh k l):l.any zkC=false:=by
 rw[ydb];intro v hv;rcases g v hv with h | ⟨_,_,h⟩
 ·simp[zkC,h]
 ·cases v with
  |text s=>have:=h s rfl;simp[zkC];omega
  |_=>simp[zkC]
def zgh.i64 {k:Nat} {l:List Val} (g:zgh k l): ∀n,Val.whole n∈l->zai n:=by
 intro n hn;rcases g _ hn with h | ⟨_,h,_⟩
 ·cases h
 ·exact h n rfl
def zgh.tail {k:Nat} {v:Val} {l:List Val} (g:zgh k (v::l)):zgh k l:=λx hx=>g x (by simp[hx])
def own (l:List Val):List Val:=l.filter λv=>decide (v≠ .null)
def zmG: ∀ {l:List Val},zgh 1 l->(zbD l).map .whole=own l
 |[],_=>rfl
 |v::r,g=>by
  have ih:=zmG g.tail;rcases g v (by simp) with h | ⟨h,_⟩
  ·subst h;simpa[zbD,own]using ih
  ·cases v <;> simp[Val.kind]at h
   simp only[zbD,own]at ih ⊢;simp[ih]
def zmH: ∀ {l:List Val},zgh 2 l->(zbE l).map .truth=own l
 |[],_=>rfl
 |v::r,g=>by
  have ih:=zmH g.tail;rcases g v (by simp) with h | ⟨h,_⟩
  ·subst h;simpa[zbE,own]using ih
  ·cases v <;> simp[Val.kind]at h
   simp only[zbE,own]at ih ⊢;simp[ih]
def zpz: ∀ {l:List Val},zgh 3 l->(zcZ l).map .text=own l
 |[],_=>rfl
 |v::r,g=>by
  have ih:=zpz g.tail;rcases g v (by simp) with h | ⟨h,_⟩
  ·subst h;simpa[zcZ,own]using ih
  ·cases v <;> simp[Val.kind]at h
   simp only[zcZ,own]at ih ⊢;simp[ih]
def zwi (b:Bool):decide (((bit b:Nat):Int)=1)=b:=by cases b <;> rfl
def zq4 {k:Nat} (hk:1<=k/\k<=3) {l:List Val} (g:zgh k l) (hn:l.length<=256) (t:List UInt8):
 (t=[]->zaM k (own l).length (zny k l++t)=(own l,0))/\(t≠[]->(zaM k (own l).length (zny k l++t)).2≠0):=by
 have hkl:=zdb l;have h:k=1\/k=2\/k=3:=by omega
 rcases h with rfl | rfl | rfl
 ·have hw:=zmG g
  have hi:=zfi g.i64;have hlen:(own l).length=(zbD l).length:=by rw[<- hw];simp
  rw[hlen];unfold zaM zny;simp only[ya6];constructor
  ·rintro rfl
   rw[yaq,zh9 hi (by omega),hw]
  ·intro ht
   exact zfl hi (by omega) ht
 ·have hw:=zmH g
  have hlen:(own l).length=(zbE l).length:=by rw[<- hw];simp
  rw[hlen];unfold zaM zny;rw[yag (by decide),yaj rfl,yag (by decide),yaj rfl]
  constructor
  ·rintro rfl
   rw[yaq,ziZ,<- hw];simp[zwi]
  ·intro ht
   exact zq1 _ ht
 ·have hw:=zpz g
  have hs:=zfO g.long;have hlen:(own l).length=(zcZ l).length:=by rw[<- hw];simp
  rw[hlen];unfold zaM zny;rw[yag (by decide),yag (by decide),yag (by decide),yag (by decide)]
  obtain⟨h1,h2⟩:=zpy (zcZ l) t hs (by omega)
  constructor
  ·intro ht
   rw[h1 ht,<- hw]
  ·exact h2
def zwj (l:List Val) (zaF:List UInt8):zgg l.length (zdl l++zaF)= .ok ((zap l).map bit) zaF:=by
 have hl:=zaz l;unfold zdl
 by_cases h:false∈zap l
 ·have hu:=ziZ (zap l)
  have hf:=zi0 (zap l);rw[hl]at hu hf;rw[yaj h,yaV,zgg];rw[yag (by decide),yaj (by decide),yag (by rw[yab];omega),<- hf,yd5,hu]
  simp only[ydh,yba,yaY,ydM]
 ·rw[yag h,List.singleton_append,zgg]
  rw[yag (by decide),yag (by decide)]
  congr 1;apply ycP
  ·simp[hl]
  ·intro i h1 h2
   rw[List.getElem_replicate,ybo];have h3:i<(zap l).length:=by simpa using h2
   cases e:(zap l)[i] with
   |true=>rfl
   |false=>exact absurd (e ▸ yam h3) h
def zsv: ∀l:List Val,((zap l).map bit).sum=(own l).length
 |[]=>rfl
 |v::r=>by
  have ih:=zsv r
  by_cases h:v= .null
  ·subst h
   simpa[zap,own,bit]using ih
  ·have hd:decide (v≠ .null)=true:=by simp[h]
   simp only[zap,own,yaO,ydT,yb1,hd,ya6,yad]at ih ⊢;rw[ih];simp[bit];omega
def zsw: ∀l:List Val,zkQ ((zap l).map bit) (own l)=l
 |[]=>rfl
 |v::r=>by
  have ih:=zsw r
  by_cases h:v= .null
  ·subst h
   simpa[zap,own,bit,zkQ]using ih
  ·have hd:decide (v≠ .null)=true:=by simp[h]
   simp only[zap,own,yaO,yb1,hd,ya6,zkQ]at ih ⊢;rw[yaj (by decide)]
   simp only[List.headD_cons,List.tail_cons,ih]
def zwk {k:Nat} (hk:1<=k/\k<=3) {l:List Val} (g:zgh k l) (hn:l.length<=256) (t:List UInt8):
 (t=[]->zfk k l.length (zdh k l++t)=(l,0))/\(t≠[]->(zfk k l.length (zdh k l++t)).2≠0):=by
 obtain⟨h1,h2⟩:=zq4 hk g hn t;unfold zfk zdh;rw[yal,zwj];simp only;rw[zsv];constructor
 ·intro ht
  rw[h1 ht];simp only[ydh,yba,yaY];rw[zsw]
 ·intro ht
  rw[yaj (h2 ht)];exact h2 ht
def zyn (l:List UInt8):(mkS l).size=l.length:=rfl
def zkW: ∀ {sz:List Int} {b zaF:List UInt8} {l:List ByteArray},zbk sz b= .ok l zaF-> ∀s∈l,s.size<=64
 |[],b,zaF,l,h=>by
  unfold zbk at h;cases h;intro s hs;cases hs
 |k::r,b,zaF,l,h=>by
  unfold zbk at h;split at h
  ·simp at h
  ·split at h
   ·simp at h
   ·rename_i h1 h2
    cases hp:zbk r (b.drop k.toNat) with
    |err e'=>rw[hp]at h;simp at h
    |ok l2 r2=>
     rw[hp]at h;simp at h;intro s hs;rw[<- h.1]at hs;rcases List.mem_cons.1 hs with rfl | hs
     ·rw[zyn,yan];omega
     ·exact zkW hp s hs
def zpA {n:Int} {b zaF:List UInt8} {l:List ByteArray} (h:zmA n b= .ok l zaF): ∀s∈l,s.size<=64:=by
 unfold zmA at h;split at h
 ·simp at h
 ·split at h
  ·simp at h
  ·split at h
   ·simp at h
   ·exact zkW h
def zwl {u:List ByteArray} (h: ∀s∈u,s.size<=64) (k:Int):(pick u k).size<=64:=by
 unfold pick;rw[yay];cases e:u[k.toNat]? with
 |none=>simp[ByteArray.size]
 |some s=>exact h s (yaE e)
def zq5 (n:Nat) (b:List UInt8): ∀s∈(zcP n b).1,s.size<=64:=by
 unfold zcP;split
 ·simp
 ·split
  ·split
   ·simp
   ·rename_i hp
    have:=zpA hp;split <;> exact this
  ·split
   ·simp
   ·split
    ·simp
    ·split
     ·simp
     ·rename_i hp
      have:=zpA hp;split
      ·simp
      ·split
       ·intro s hs
        obtain⟨k,_,rfl⟩:=List.mem_map.1 hs;exact zwl this k
       ·simp
def zpB {k n:Nat} (hk:1<=k/\k<=3) {b:List UInt8} (h:(zaM k n b).2=0):zgh k (zaM k n b).1:=by
 have hc:k=1\/k=2\/k=3:=by omega
 intro v hv;right;rcases hc with rfl | rfl | rfl
 ·have h':(zb5 b n).2=0:=h
  obtain⟨x,hx,rfl⟩:=List.mem_map.1 (show v∈(zb5 b n).1.map .whole from hv)
  have:=(zju h').2 x hx;exact⟨rfl,λm e=>(by cases e;exact this),λs e=>by cases e⟩
 ·obtain⟨x,hx,rfl⟩:=List.mem_map.1 (show v∈(zaV b n).1.map (λ(x:Nat)=>Val.truth (decide ((x:Int)=1))) from hv)
  exact⟨rfl,λm e=>(by cases e),λs e=>by cases e⟩
 ·obtain⟨x,hx,rfl⟩:=List.mem_map.1 (show v∈(zcP n b).1.map .text from hv)
  have:=zq5 n b x hx;exact⟨rfl,λm e=>(by cases e),λs e=>by cases e;exact this⟩
def znI {v:Val}: ∀ {th:List Nat} {o:List Val},v∈zkQ th o->v= .null\/v∈o
 |[],o,h=>by simp[zkQ]at h
 |x::t,o,h=>by
  unfold zkQ at h;split at h
  ·rcases List.mem_cons.1 h with h | h
   ·cases o with
    |nil=>exact .inl h
    |cons y r=>exact .inr (by rw[h];simp)
   ·rcases znI h with h | h
    ·exact .inl h
    ·exact .inr (List.mem_of_mem_tail h)
  ·rcases List.mem_cons.1 h with h | h
   ·exact .inl h
   ·exact znI h
def zui {n:Nat} {b r:List UInt8} {th:List Nat} (h:zgg n b= .ok th r):th.length=n:=by
 unfold zgg at h;split at h
 ·cases h
 ·split at h
  ·cases h
  ·split at h
   ·split at h
    ·cases h
    ·split at h
     ·cases h
     ·rename_i c r0 h1 h2 h3 h4
      simp only[PR.ok.injEq]at h;rw[<- h.1];have h5:(zaV (r0.take ((n+7) / 8)) n).2=0:=by omega
      unfold zaV at h5 ⊢;split at h5
      ·simp at h5
      ·rename_i h6
       rw[yag h6];split at h5
       ·rename_i h7;rw[yaj h7];simp
       ·simp at h5
   ·simp only[PR.ok.injEq]at h
    rw[<- h.1];simp
def zmI {k n:Nat} (hk:1<=k/\k<=3) {b:List UInt8} (h:(zfk k n b).2=0):zgh k (zfk k n b).1/\(zfk k n b).1.length=n:=by
 unfold zfk at h ⊢;cases hp:zgg n b with
 |err e=>
  rw[hp]at h;exfalso;simp only at h;subst h;unfold zgg at hp;split at hp
  ·cases hp
  ·split at hp
   ·cases hp
   ·split at hp
    ·split at hp
     ·cases hp
     ·split at hp
      ·rename_i h4
       simp only[PR.err.injEq]at hp;exact h4 hp
      ·cases hp
    ·cases hp
 |ok th r=>
  rw[hp]at h;simp only at h ⊢;split at h
  ·rename_i h1;exact absurd h h1
  ·rename_i h1
   rw[yag h1];have g:=zpB hk (b:=r) (n:=th.sum) (by omega)
   refine⟨λv hv=> ?_, ?_⟩
   ·rcases znI hv with h | h
    ·exact .inl h
    ·exact g v h
   ·simp only
    rw[zkR,zui hp]
def zb8 (k:Nat) (b:List UInt8) (n:Int):List Val × Nat:=
 if ¬ (1<=k/\k<=3) then ([],10) else if n<0\/256<n then ([],1)
 else if (zfk k n.toNat b).2≠0 then ([],(zfk k n.toNat b).2)
 else if zdh k (zfk k n.toNat b).1=b then ((zfk k n.toNat b).1,0) else ([],40)
def zyo {k:Nat} (hk:1<=k/\k<=3) {l:List Val} (g:zgh k l) (hn:l.length<=256):zb8 k (zdh k l) l.length=(l,0):=by
 have h:=(zwk hk g hn []).1 rfl;rw[yaq]at h;unfold zb8;rw[yag (λc=>c hk),yag (by omega),yaB,h]
 simp
end Go.Am.Ab
namespace Go.Am.Ab
open Go.Proofs
set_option maxHeartbeats 4000000
set_option maxRecDepth 4000
def zsx (k:Nat) (hk:1<=k/\k<=3) (l:List Val) (g:zgh k l) (hn:l.length<=256):R 45 [.d (.int .u8 k),.d (.list (vs l))] []=some ([.arr 0 (zdh k l).length,E 0],[.arr 1 (bytes (zdh k l)) 0]):=by
 have hc:k=1\/k=2\/k=3:=by omega
 rcases hc with rfl | rfl | rfl
 ·exact zt8 l hn g.odd g.i64
 ·exact zt9 l hn g.odd
 ·exact zua l hn g.odd g.long
def zjv {k:Nat} {l:List Val} (hk:1<=k/\k<=3) (g:zgh k l) (hn:l.length<=256):(zdh k l).length<=200000:=by
 have hkl:=zdb l;have htl:=zaz l;have h1:=zbO (l:=zap l) (by omega)
 have h2:=zbO (l:=zbE l) (by omega)
 have h3:=zcO (zfi g.i64) (by omega)
 have h4:=zmz (zfO g.long) (by omega)
 unfold zdh zdl zny;rw[yab];split <;> split <;> (try split) <;> simp only[yad,yat] <;> omega
def zht (k:Nat) (hk256:k<256) (b:List UInt8) (n:Int) (hn:zai n) (hb:b.length<1000000):
 R 110 [.d (.int .u8 k),B b,.d (.int .i64 n)] []=some ([.arr 0 (zb8 k b n).1.length,E (zb8 k b n).2],[.arr 1 (vs (zb8 k b n).1) (zb8 k b n).1.length]):=by
 have hr:=zfJ k hk256;unfold zb8
 by_cases hk:1<=k/\k<=3
 case neg=>
  rw[yaM hk]at hr;rw[yaj hk];refine rg zBj rfl ?_;intro T hT;simp -dsimp -implicitDefEqProofs (disch:=first|omega|assumption) [hr]
  simpa -dsimp -implicitDefEqProofs (disch:=first|omega|assumption) [E]using hT
 rw[yaK hk]at hr;rw[yag (λc=>c hk)]
 by_cases h1:n<0
 ·rw[yaj (.inl h1)]
  refine rg zBj rfl ?_;intro T hT;simp -dsimp -implicitDefEqProofs (disch:=first|omega|assumption) [hr,h1]
  simpa -dsimp -implicitDefEqProofs (disch:=first|omega|assumption) [E]using hT
 by_cases h2:256<n
 ·rw[yaj (.inr h2)]
  refine rg zBj rfl ?_;intro T hT;simp -dsimp -implicitDefEqProofs (disch:=first|omega|assumption) [hr,h1,h2]
  simpa -dsimp -implicitDefEqProofs (disch:=first|omega|assumption) [E]using hT
 rw[yag (by omega)]
 obtain⟨m,rfl⟩: ∃m:Nat,n=m:=⟨n.toNat,by omega⟩
 rw[yaB];have h:=znH k m hk b (by omega) hb
 have hg:=zmI (n:=m) hk (b:=b);unfold Is VsR at h;obtain⟨v,hv⟩: ∃v,v=zfk k m b:=⟨_,rfl⟩;rw[<- hv]at h hg ⊢
 by_cases h3:v.2≠0
 ·have h3': ¬ (v.2:Int)=0:=by omega
  rw[yaj h3];refine rg zBj rfl ?_;intro T hT;simp -dsimp -implicitDefEqProofs (disch:=first|omega|assumption) [hr,h1,h2,h,h3,h3']
  simpa -dsimp -implicitDefEqProofs (disch:=first|omega|assumption) [E]using hT
 rw[yag h3];have h3':v.2=0:=by omega
 obtain⟨g,gl⟩:=hg h3';rw[h3']at h;have hw:=zsx k hk v.1 g (by omega)
 have hcl:=zjv hk g (by omega)
 have heq:=zfI (zdh k v.1) b (by omega)
 by_cases h4:zdh k v.1=b
 ·rw[yaj h4]
  rw[yaK h4]at heq;refine rg zBj rfl ?_;intro T hT;simp -dsimp -implicitDefEqProofs (disch:=first|omega|assumption) [hr,h1,h2,h,hw,heq]
  simpa -dsimp -implicitDefEqProofs (disch:=first|omega|assumption) [E]using hT
 ·rw[yag h4]
  rw[yaM h4]at heq;refine rg zBj rfl ?_;intro T hT;simp -dsimp -implicitDefEqProofs (disch:=first|omega|assumption) [hr,h1,h2,h,hw,heq]
  simpa -dsimp -implicitDefEqProofs (disch:=first|omega|assumption) [E]using hT
end Go.Am.Ab
