/- Columns, read. -/
import Derived.Test.YtibdiacpdmhmnaaGreatDoorParsing
import Derived.Test.YtibdiacpdmhmnaaGreatDoorColB
import Derived.Test.YtibdiacpdmhmnaaGreatDoorColC
set_option linter.all false
namespace Go.Am.Ab
open Go.Proofs
set_option maxHeartbeats 4000000
set_option maxRecDepth 4000
def zlI (p:Option (D × List Am.Obj)) (t:Nat) (s:Slots) (h:List Am.Obj) (r:List (Nat × Nat)):Slots × List Am.Obj:=
 match p with
 |some (x,h0)=>let (s1,h1):=zah s h0 r;((t,.d x)::s1,h1)
 |none=>zah s h r
@[simp] def zwb (x:D) (h0 h:List Am.Obj) (t:Nat) (s:Slots) (r:List (Nat × Nat)):zlI (some (x,h0)) t s h r=zdz (zah s h0 r) (λp=>((t,.d x)::p.1,p.2)) ⟨⟩:=rfl
@[simp] def zvr {s:Slots} {h:List Am.Obj} {sz:Nat} {r:List (Nat × Nat)}:zah s h ((1000015,sz)::r)=zlI (zbG h (zar s 15)) 15 s h r:=by
 have key: ∀t,zah s h ((t+1000000,sz)::r)=zlI (zbG h (zar s t)) t s h r:=by
  intro t
  conv=>lhs;unfold zah
  rw[yae (by omega),yaK]
  unfold zlI;cases zbG h (zar s t) <;> rfl
 exact key 15
abbrev uz (l:List Int):List D:=l.map λn=>D.int .u64 n
@[simp] def znm (x:Int): ∀n,zao 1 (List.replicate n (D.int .u64 x))=true
 |0=>rfl
 |n+1=>by simp[yaN,znm x n]
@[simp] def zyc (l:List Int):zao 1 (l.map λn=>D.int .u64 n)=true:=zaO l λ_=>rfl
@[simp] def zxg (l:List Nat):zao 1 (l.map λ(n:Nat)=>D.int .u64 (n:Int))=true:=zaO l λ_=>rfl
def znn (x:Int) (n:Nat) (hn:n<=256):R 177 [.arr 0 1,.d (.int .i64 n)] [.arr 1 [.int .u64 x] 0]=some ([.arr 1 n],[.arr 1 [.int .u64 x] 0,.arr 1 (uz (List.replicate n x)) 0]):=by
 have hm:=zhK n hn;have hw:IntKind.u64.wrap (n:Int)=n:=zai (by omega) (by omega)
 have hw1:IntKind.u64.wrap 1=1:=zai (by omega) (by omega)
 have hn0: ¬ (n:Int)<0:=by omega
 have hfit: ¬ (9223372036854775807:Int)<n:=by omega
 have hqi:IntKind.i64.wrap (n:Int)=n:=wI (by omega) (by omega)
 by_cases h0:n=0
 ·subst h0
  rw[show ((0:Nat):Int)=0 from rfl]at*
  refine rg zFi rfl ?_;intro T hT;simp -dsimp -implicitDefEqProofs (disch:=first|omega|assumption) [hm,hw,hw1]
  generalize hz:zad _ _ _ _ _ _=z;revert z;refine zaa (σ:=Unit) (λ_=>[(7,.arr 1 0),(8,.d (.int .i64 0))]) (λ_=>[.arr 1 [.int .u64 x] 0,.arr 1 [] 0]) (λ_=>True) (λ_=>0) () ?_ ?_ ?_
  ·trivial
  ·simp -dsimp -implicitDefEqProofs (disch:=first|omega|assumption)
  intro T' f hT' _ _ ih;subst hT';simp -dsimp -implicitDefEqProofs (disch:=first|omega|assumption)
  simpa -dsimp -implicitDefEqProofs (disch:=first|omega|assumption) using hT
 ·have h0': ¬ (n:Int)=0:=by omega
  have hmin:min 1 n=1:=by omega
  have hpos:0<n:=by omega
  have hfl: ∀j,j<=n->(zbw x n j).length=n:=λj hj=>by simp[zbw];omega
  have htk:List.take n [D.int .u64 x]=[D.int .u64 x]:=yaw (by simp;omega)
  refine rg zFi rfl ?_;intro T hT;simp -dsimp -implicitDefEqProofs (disch:=first|omega|assumption) [hm,hw,hw1,hn0,hfit,hqi,h0,h0',hmin,hpos,htk]
  generalize hz:zad _ _ _ _ _ _=z;revert z;refine zaa (σ:=Nat) (λj=>[(7,.arr 1 n),(8,.d (.int .i64 j))]) (λj=>[.arr 1 [.int .u64 x] 0,.arr 1 (uz (zbw x n j)) 0]) (λj=>0<j/\j<=n) (λj=>n - j) 1 ?_ ?_ ?_
  ·omega
  ·simp -dsimp -implicitDefEqProofs (disch:=first|omega|assumption) [zbw]
  intro T' f hT' j ⟨hj0,hj⟩ ih;have hfj:=hfl j hj
  by_cases h1:j<n
  ·have h1':(j:Int)<n:=by omega
   have hnj: ¬ 0=n:=by omega
   have hjle:j<=n:=hj;obtain⟨k,hk⟩: ∃k,k=min (n - j) j:=⟨_,rfl⟩;have hk':min (n - j) j=k:=hk.symm;have hk2:min j (n - j)=k:=by omega
   have hA:List.take j (List.map (λn=>D.int .u64 n) (zbw x n j))=List.replicate j (D.int .u64 x):=by
    unfold zbw;rw[ya7,yb4 (by simp),yaw (by simp)];simp
   have hC:List.drop (j+k) (List.map (λn=>D.int .u64 n) (zbw x n j))=List.replicate (n - j - k) (D.int .u64 0):=by
    unfold zbw;rw[ya7,ydc,ybj (by simp),ybZ]
    simp
   have hD:List.replicate j (D.int .u64 x)++(List.replicate k (D.int .u64 x)++List.replicate (n - j - k) (D.int .u64 0))=List.map (λn=>D.int .u64 n) (zbw x n (j+k)):=by
    unfold zbw;rw[<- yaq,ycq,show n - (j+k)=n - j - k by omega]
    simp
   simp -dsimp -implicitDefEqProofs (disch:=first|omega|assumption) [h1,h1',hfj,hnj,hjle,hA,hk',hk2,hC,hD]
   have hnjk:n - (j+k)=n - j - k:=by omega
   exact ih (j+k) _ _ (by omega) (by omega) (by simp -dsimp -implicitDefEqProofs (disch:=first|omega|assumption) [zbw,hnjk])
  ·have hjn:j=n:=by omega
   have hff:zbw x n n=List.replicate n x:=by simp[zbw]
   subst hT';rw[hjn,hff];simp -dsimp -implicitDefEqProofs (disch:=first|omega|assumption)
   simpa -dsimp -implicitDefEqProofs (disch:=first|omega|assumption) using hT
def zjv (n:Nat) (b:List UInt8):PR (List Nat):=
 match b with
 |[]=> .err 30
 |c::r=>
  if 1<c.toNat then .err 40
  else if c.toNat=1 then
   if r.length<(n+7) / 8 then .err 30
   else if (zaW (r.take ((n+7) / 8)) n).2≠0 then .err (zaW (r.take ((n+7) / 8)) n).2
   else .ok (zaW (r.take ((n+7) / 8)) n).1 (r.drop ((n+7) / 8))
  else .ok (List.replicate n 1) r
def zkS:List Nat->List Val->List Val
 |[],_=>[]
 |x::t,own=>if x=1 then own.headD .null::zkS t own.tail else .null::zkS t own
def zgE (k n:Nat) (b:List UInt8):List Val × Nat:=
 match zjv n b with
 |.err e=>([],e)
 |.ok th r=>if (zaU k th.sum r).2≠0 then ([],(zaU k th.sum r).2) else (zkS th (zaU k th.sum r).1,0)
def zjw: ∀ (th:List Nat) (own:List Val),(zkS th own).length=th.length
 |[],_=>rfl
 |x::t,own=>by
  unfold zkS;split <;> simp[zjw t]
def zlW (l:List Val) (n:Nat):List D:=vs l++List.replicate (n - l.length) .nilI
def zpZ (n:Nat):zlW [] n=List.replicate n .nilI:=by simp[zlW]
def zjx {l:List Val} {n:Nat} (h:l.length<=n):(zlW l n).length=n:=by simp[zlW];omega
def zp0 {l:List Val} {n:Nat} (h:l.length<n):(zlW l n)[l.length]? =some .nilI:=by
 rw[zlW,yaj (by simp),yam,ya2,ycV,yah (by omega)]
def zp1 {l:List Val} {n:Nat} (h:l.length<n) (v:Val):(zlW l n).set l.length v.d=zlW (l++[v]) n:=by
 have e:n - l.length=(n - (l.length+1))+1:=by omega
 have hl:(vs l).length=l.length:=by simp
 rw[zlW,zlW,e,yaN,ybg _ _ (by omega),hl,ya2,ycj,yaf,ya3]
 simp
def zno {l:List Val} {n:Nat} (h:l.length<n):zlW l n=zlW (l++[.null]) n:=by
 have e:n - l.length=(n - (l.length+1))+1:=by omega
 rw[zlW,zlW,e,yaN,yaf,ya3];simp[Val.d]
def zp2 {l:List Val} {n:Nat} (h:l.length=n):zlW l n=vs l:=by simp[zlW,h]
def zp3 {l:List Nat} {i:Nat} (h:i<l.length):(l.take (i+1)).sum=(l.take i).sum+l[i]:=by
 rw[zap h,List.sum_append];simp
def zp4 {l:List Nat} (h: ∀x∈l,x<=1):l.sum<=l.length:=by
 induction l with
 |nil=>simp
 |cons x r ih=>
  have h1:=h x (by simp)
  have h2:=ih λy hy=>h y (by simp[hy])
  simp only[List.sum_cons,yag];omega
def zkT: ∀ {sz:List Int} {b zaF:List UInt8} {l:List ByteArray},zbm sz b= .ok l zaF->l.length=sz.length
 |[],b,zaF,l,h=>by simp[zbm]at h;simp[<- h.1]
 |k::r,b,zaF,l,h=>by
  unfold zbm at h;split at h
  ·simp at h
  ·split at h
   ·simp at h
   ·cases hp:zbm r (b.drop k.toNat) with
    |err e'=>rw[hp]at h;simp at h
    |ok l2 r2=>
     rw[hp]at h;simp at h;rw[<- h.1];simp[zkT hp]
def zic {b:List UInt8} {n:Int} (h:(zcC b n).2=0):((zcC b n).1.length:Int)=n/\ ∀x∈(zcC b n).1,zal x:=by
 unfold zcC at h ⊢;split at h
 ·simp at h
 ·rename_i hn
  rw[yae hn];cases b with
  |nil=>simp at h
  |cons c r=>
   simp only at h ⊢;split at h
   ·simp at h
   ·rename_i hc
    rw[yae hc];unfold zCi at h ⊢;cases hp:zha c.toNat n.toNat r with
    |err e=>rw[hp]at h;simp only at h ⊢;exact absurd h (zmQ hp)
    |ok l r2=>
     rw[hp]at h;simp only at h ⊢;split at h
     ·simp at h
     ·rename_i h2
      rw[yae h2];split at h
      ·rename_i h3
       rw[yah h3];have:=zlv hp;exact⟨by simp only;omega,this.2⟩
      ·simp at h
def zvs {n:Int} {b zaF:List UInt8} {l:List ByteArray} (h:zlV n b= .ok l zaF):(l.length:Int)=n:=by
 unfold zlV at h;split at h
 ·simp at h
 ·split at h
  ·simp at h
  ·split at h
   ·simp at h
   ·rename_i h3
    rw[zkT h];exact (zic (by omega)).1
def zjy {k n:Nat} {b:List UInt8} (h:(zaU k n b).2=0):(zaU k n b).1.length=n:=by
 unfold zaU at h ⊢;split
 ·rename_i h1
  rw[yah h1]at h;have:=(zic h).1;simp only[yam];omega
 ·rename_i h1
  rw[yae h1]at h;split
  ·rename_i h2
   rw[yah h2]at h;simp only[yam]at h ⊢;unfold zaW at h ⊢;split at h
   ·simp at h
   ·rename_i h3
    rw[yae h3];split at h
    ·rename_i h4
     rw[yah h4];simp
    ·simp at h
  ·rename_i h2
   rw[yae h2]at h;simp only[yam]at h ⊢;unfold zdi at h ⊢;cases b with
   |nil=>simp at h
   |cons c r=>
    simp only at h ⊢;split at h
    ·rename_i h3
     rw[yah h3];cases hp:zlV (n:Int) r with
     |err e=>rw[hp]at h;exact absurd h (zh8 hp)
     |ok l zaF=>
      rw[hp]at h;simp only at h ⊢;split at h
      ·simp at h
      ·rename_i h4
       rw[yae h4];have:=zvs hp;simp only;omega
    ·rename_i h3
     rw[yae h3];split at h
     ·rename_i h4;exact absurd h h4
     ·rename_i h4
      rw[yae h4];split at h
      ·simp at h
      ·rename_i h5
       rw[yae h5];cases hp:zlV ((get r).1:Int) (r.drop (get r).2.1) with
       |err e=>rw[hp]at h;exact absurd h (zh8 hp)
       |ok u zaF=>
        rw[hp]at h;simp only at h ⊢;split at h
        ·rename_i h6;exact absurd h h6
        ·rename_i h6
         rw[yae h6];split at h
         ·rename_i h7
          rw[yah h7];have:=(zic (b:=zaF) (n:=n) (by omega)).1
          simp only[yam];omega
         ·simp at h
def zjz (k n:Nat) (hk:1<=k/\k<=3) (b:List UInt8) (hn:n<=256) (hb:b.length<1000000):R 179 [.d (.int .u8 k),B b,.d (.int .i64 n)] []=VsR (zaU k n b):=by
 have h:k=1\/k=2\/k=3:=by omega
 rcases h with rfl | rfl | rfl
 ·exact znc b n hn hb
 ·exact znd b n hn hb
 ·exact zne b n hn hb
def zlJ (k n:Nat) (hk:1<=k/\k<=3) (b:List UInt8) (hn:n<=256) (hb:b.length<1000000):Is (VsR (zgE k n b)) (R 152 [.d (.int .u8 k),B b,.d (.int .i64 n)] []):=by
 cases b with
 |nil=>
  refine ra zx4 rfl (zbQ (zc4 _)) ?_;simp -dsimp -implicitDefEqProofs (disch:=first|omega|assumption)
  simp[Is,VsR,zgE,zjv,E]
 |cons c r=>
 simp only[yag]at hb;have hl0: ¬ ((r.length:Int)+1=0):=by omega
 have hrep:=znn 1 n hn;have huz:uz (List.replicate n 1)=uc (List.replicate n 1):=by simp
 rw[huz]at hrep;unfold zgE zjv;simp only
 by_cases c1:1<c.toNat
 ·have c1':(1:Int)<c.toNat:=by omega
  rw[yah c1];refine ra zx4 rfl (zbQ (zc4 _)) ?_;simp -dsimp -implicitDefEqProofs (disch:=first|omega|assumption) [hl0,hrep,c1,c1']
  simp[Is,VsR,E]
 rw[yae c1];have c1': ¬ (1:Int)<c.toNat:=by omega
 by_cases c2:c.toNat=1
 ·rw[yah c2]
  have c2':(c.toNat:Int)=1:=by omega
  obtain⟨sz,hsz⟩: ∃sz,sz=(n+7) / 8:=⟨_,rfl⟩;have hsz':((n:Int)+7) / 8=sz:=by omega
  rw[<- hsz]
  by_cases c3:r.length<sz
  ·rw[yah c3]
   have c3':(r.length:Int)<sz:=by omega
   refine ra zx4 rfl (zbQ (zc4 _)) ?_;simp -dsimp -implicitDefEqProofs (disch:=first|omega|assumption) [hl0,hrep,c1,c1',c2,c2',hsz',c3,c3']
   simp[Is,VsR,E]
  rw[yae c3];have c3': ¬ (r.length:Int)<sz:=by omega
  have c3b:sz<=r.length:=by omega
  obtain⟨bt,hbt⟩: ∃bt,bt=r.take sz:=⟨_,rfl⟩;obtain⟨rb,hbd⟩: ∃rb,rb=r.drop sz:=⟨_,rfl⟩;have hbt':List.take sz (bytes r)=bytes bt:=by rw[hbt,bytes,bytes,ybE]
  have hbd':List.drop sz (bytes r)=bytes rb:=by rw[hbd,bytes,bytes,yb5]
  have hbtl:bt.length<1000000:=by rw[hbt,yao];omega
  have hrbl:rb.length<1000000:=by rw[hbd,yay];omega
  rw[<- hbt,<- hbd];have hup:=zhP bt n hn hbtl;have hth0: ∀x∈(zaW bt n).1,x<=1:=by
   unfold zaW;split
   ·simp
   ·split
    ·intro x hx
     simp only[ups,ycR]at hx;obtain⟨j,_,rfl⟩:=hx;omega
    ·simp
  have hthl0:(zaW bt n).2=0->(zaW bt n).1.length=n:=by
   unfold zaW;split
   ·simp
   ·split
    ·simp
    ·simp
  obtain⟨th,hte⟩: ∃th,th=(zaW bt n).1:=⟨_,rfl⟩;obtain⟨e,hee⟩: ∃e,e=(zaW bt n).2:=⟨_,rfl⟩;rw[<- hte,<- hee]at hup hthl0;rw[<- hte]at hth0;rw[<- hte,<- hee];clear hte hee hbt hbd hsz
  by_cases c4:e≠0
  ·rw[yah c4]
   have c4': ¬ (e:Int)=0:=by omega
   refine ra zx4 rfl (zbQ (zc4 _)) ?_;simp -dsimp -implicitDefEqProofs (disch:=first|omega|assumption) [hl0,hrep,c1,c1',c2,c2',hsz',c3,c3',c3b,hbt',hup,c4,c4']
   simp[Is,VsR,E]
  rw[yae c4];have c4':e=0:=by omega
  subst c4';have hthl:=hthl0 rfl;have hth:=hth0;subst hthl;have hsum:=zp4 hth;have hval:=zjz k th.sum hk rb (by omega) hrbl
  have hvl:(zaU k th.sum rb).2=0->(zaU k th.sum rb).1.length=th.sum:=zjy;simp only;generalize hA:(if (zaU k th.sum rb).2≠0 then (([]:List Val),(zaU k th.sum rb).2) else (zkS th (zaU k th.sum rb).1,0))=A
  refine ra zx4 rfl (zbQ (zc4 _)) ?_;simp -dsimp -implicitDefEqProofs (disch:=first|omega|assumption) [hl0,hrep,c1,c1',c2,c2',hsz',c3,c3',c3b,hbt',hup,hbd']
  generalize hz:zad _ _ _ _ _ _=z;revert z;refine zaa (σ:=Nat) (λi=>[(0,.d (.int .u8 k)),(1,B rb),(2,.d (.int .i64 th.length)),(9,.arr 0 th.length),(12,.d (.int .i64 ((th.take i).sum:Nat))),(56,.arr 0 th.length),(57,.d (.int .i64 th.length)),(58,.d (.int .i64 i))]) (λi=>[.arr 1 (uc th) 0]) (λi=>i<=th.length) (λi=>th.length - i) 0 ?_ ?_ ?_
  ·exact yai _
  ·simp -dsimp -implicitDefEqProofs (disch:=first|omega|assumption) [B]
  intro T' f hT' i hi ih
  by_cases h1:i<th.length
  ·have h1':i<th.length:=by omega
   have hx:=hth th[i] (yal _);have hs:=zp3 h1';have hsl:(th.take i).sum<=i:=by
    have:=zp4 (l:=th.take i) λx hx=>hth x (yaH hx)
    have h2:(th.take i).length<=i:=by simp;omega
    omega
   obtain⟨x,hxe⟩: ∃x,x=th[i]:=⟨_,rfl⟩;rw[<- hxe]at hx hs;have gx:=hxe.symm;have hw:IntKind.i64.wrap (x:Int)=x:=wI (by omega) (by omega)
   simp -dsimp -implicitDefEqProofs (disch:=first|omega|assumption) [h1,h1',gx,hw]
   refine ih (i+1) _ _ h1 (by omega) ?_
   rw[hs];simp -dsimp -implicitDefEqProofs (disch:=first|omega|assumption) [B]
  obtain rfl:i=th.length:=by omega
  subst hT';clear ih hi h1;rw[yaR];obtain⟨v,hv⟩: ∃v,v=zaU k th.sum rb:=⟨_,rfl⟩;rw[<- hv]at hval hvl hA
  by_cases hv0:v.2≠0
  ·have hv0': ¬ (v.2:Int)=0:=by omega
   rw[yah hv0]at hA;subst hA;unfold VsR at hval;simp -dsimp -implicitDefEqProofs (disch:=first|omega|assumption) [hval,hv0,hv0']
   simp[Is,VsR,E]
  rw[yae hv0]at hA;subst hA;have hv0':v.2=0:=by omega
  have hvl':=hvl hv0';unfold VsR at hval;rw[hv0']at hval;simp -dsimp -implicitDefEqProofs (disch:=first|omega|assumption) [hval]
  generalize hT0:Is _=T0;have fin: ∀r,r=VsR (zkS th v.1,0)->T0 r:=λr hr=>by rw[<- hT0];exact hr
  generalize hz:zad _ _ _ _ _ _=z;revert z;refine zaa (σ:=Nat × List Val × List Val) (λx=>[(15,.d (.list (vs x.2.2))),(17,.arr 0 th.length),(79,.arr 1 th.length),(80,.d (.int .i64 th.length)),(81,.d (.int .i64 x.1))]) (λx=>[.arr 1 (zlW x.2.1 th.length) 0,.arr 1 (uc th) 0]) (λx=>x.1<=th.length/\x.2.1.length=x.1/\x.2.2.length=(th.drop x.1).sum/\zkS th v.1=x.2.1++zkS (th.drop x.1) x.2.2) (λx=>th.length - x.1) (0,[],v.1) ?_ ?_ ?_
  ·exact⟨yai _,rfl,by rw[ycv];exact hvl',by rw[ycv];rfl⟩
  ·simp -dsimp -implicitDefEqProofs (disch:=first|omega|assumption) [zpZ]
  intro T2 f2 hT2 ⟨i,dn,own⟩ ⟨hi,hdl,hol,hsc⟩ ih;simp only at hi hdl hol hsc ih
  by_cases h1:i<th.length
  ·have hdr:th.drop i=th[i]::th.drop (i+1):=yaA h1
   obtain⟨x,hxe⟩: ∃x,x=th[i]:=⟨_,rfl⟩;have hx:=hth th[i] (yal _);rw[<- hxe]at hdr hx;have gx:=hxe.symm;rw[hdr,List.sum_cons]at hol;rw[hdr,zkS]at hsc;have hol2:=zjx (l:=dn) (n:=th.length) (by omega)
   have hog:=zp0 (l:=dn) (n:=th.length) (by omega)
   rw[hdl]at hog
   by_cases hx1:x=1
   ·rw[yah hx1]at hsc
    cases own with
    |nil=>simp only[yat]at hol;omega
    |cons v0 own'=>
     have hos:=zp1 (l:=dn) (n:=th.length) (by omega) v0
     rw[hdl]at hos;subst hx1;simp only[yag]at hol;simp -dsimp -implicitDefEqProofs (disch:=first|omega|assumption) [h1,gx,hol2,hog,hos]
     refine ih (i+1,dn++[v0],own') _ _ ⟨h1,by simp[hdl],by simp only;omega, ?_⟩ (by simp only;omega) ?_
     ·rw[hsc];simp
     ·simp -dsimp -implicitDefEqProofs (disch:=first|omega|assumption)
   ·rw[yae hx1]at hsc
    have hx1': ¬ (x:Int)=1:=by omega
    have hon:=zno (l:=dn) (n:=th.length) (by omega)
    simp -dsimp -implicitDefEqProofs (disch:=first|omega|assumption) [h1,gx,hol2,hx1']
    refine ih (i+1,dn++[.null],own) _ _ ⟨h1,by simp[hdl],by simp only;omega, ?_⟩ (by simp only;omega) ?_
    ·rw[hsc];simp
    ·rw[<- hon]
     simp -dsimp -implicitDefEqProofs (disch:=first|omega|assumption)
  ·obtain rfl:i=th.length:=by omega
   rw[yb2,zkS,yau]at hsc;have hoe:=zp2 (l:=dn) (n:=th.length) hdl;subst hT2;rw[hoe];simp -dsimp -implicitDefEqProofs (disch:=first|omega|assumption) [hdl]
   refine fin _ ?_;rw[hsc];simp[VsR,E,hdl]
 ·rw[yae c2]
  have c2': ¬ (c.toNat:Int)=1:=by omega
  obtain⟨th,hte⟩: ∃th,th=List.replicate n 1:=⟨_,rfl⟩;have hth: ∀x∈th,x<=1:=by rw[hte];intro x hx;have:=yb1 hx;omega
  have hthl:th.length=n:=by rw[hte];simp
  rw[<- hte]at hrep ⊢;clear hte huz;subst hthl;obtain⟨rb,hrb⟩: ∃rb,rb=r:=⟨_,rfl⟩;rw[<- hrb]at hb hl0 ⊢;clear hrb;have hsum:=zp4 hth;have hval:=zjz k th.sum hk rb (by omega) (by omega)
  have hvl:(zaU k th.sum rb).2=0->(zaU k th.sum rb).1.length=th.sum:=zjy;simp only;generalize hA:(if (zaU k th.sum rb).2≠0 then (([]:List Val),(zaU k th.sum rb).2) else (zkS th (zaU k th.sum rb).1,0))=A
  refine ra zx4 rfl (zbQ (zc4 _)) ?_;simp -dsimp -implicitDefEqProofs (disch:=first|omega|assumption) [hl0,hrep,c1,c1',c2,c2']
  generalize hz:zad _ _ _ _ _ _=z;revert z;refine zaa (σ:=Nat) (λi=>[(0,.d (.int .u8 k)),(1,B rb),(2,.d (.int .i64 th.length)),(9,.arr 0 th.length),(12,.d (.int .i64 ((th.take i).sum:Nat))),(56,.arr 0 th.length),(57,.d (.int .i64 th.length)),(58,.d (.int .i64 i))]) (λi=>[.arr 1 (uc th) 0]) (λi=>i<=th.length) (λi=>th.length - i) 0 ?_ ?_ ?_
  ·exact yai _
  ·simp -dsimp -implicitDefEqProofs (disch:=first|omega|assumption) [B]
  intro T' f hT' i hi ih
  by_cases h1:i<th.length
  ·have h1':i<th.length:=by omega
   have hx:=hth th[i] (yal _);have hs:=zp3 h1';have hsl:(th.take i).sum<=i:=by
    have:=zp4 (l:=th.take i) λx hx=>hth x (yaH hx)
    have h2:(th.take i).length<=i:=by simp;omega
    omega
   obtain⟨x,hxe⟩: ∃x,x=th[i]:=⟨_,rfl⟩;rw[<- hxe]at hx hs;have gx:=hxe.symm;have hw:IntKind.i64.wrap (x:Int)=x:=wI (by omega) (by omega)
   simp -dsimp -implicitDefEqProofs (disch:=first|omega|assumption) [h1,h1',gx,hw]
   refine ih (i+1) _ _ h1 (by omega) ?_
   rw[hs];simp -dsimp -implicitDefEqProofs (disch:=first|omega|assumption) [B]
  obtain rfl:i=th.length:=by omega
  subst hT';clear ih hi h1;rw[yaR];obtain⟨v,hv⟩: ∃v,v=zaU k th.sum rb:=⟨_,rfl⟩;rw[<- hv]at hval hvl hA
  by_cases hv0:v.2≠0
  ·have hv0': ¬ (v.2:Int)=0:=by omega
   rw[yah hv0]at hA;subst hA;unfold VsR at hval;simp -dsimp -implicitDefEqProofs (disch:=first|omega|assumption) [hval,hv0,hv0']
   simp[Is,VsR,E]
  rw[yae hv0]at hA;subst hA;have hv0':v.2=0:=by omega
  have hvl':=hvl hv0';unfold VsR at hval;rw[hv0']at hval;simp -dsimp -implicitDefEqProofs (disch:=first|omega|assumption) [hval]
  generalize hT0:Is _=T0;have fin: ∀r,r=VsR (zkS th v.1,0)->T0 r:=λr hr=>by rw[<- hT0];exact hr
  generalize hz:zad _ _ _ _ _ _=z;revert z;refine zaa (σ:=Nat × List Val × List Val) (λx=>[(15,.d (.list (vs x.2.2))),(17,.arr 0 th.length),(79,.arr 1 th.length),(80,.d (.int .i64 th.length)),(81,.d (.int .i64 x.1))]) (λx=>[.arr 1 (zlW x.2.1 th.length) 0,.arr 1 (uc th) 0]) (λx=>x.1<=th.length/\x.2.1.length=x.1/\x.2.2.length=(th.drop x.1).sum/\zkS th v.1=x.2.1++zkS (th.drop x.1) x.2.2) (λx=>th.length - x.1) (0,[],v.1) ?_ ?_ ?_
  ·exact⟨yai _,rfl,by rw[ycv];exact hvl',by rw[ycv];rfl⟩
  ·simp -dsimp -implicitDefEqProofs (disch:=first|omega|assumption) [zpZ]
  intro T2 f2 hT2 ⟨i,dn,own⟩ ⟨hi,hdl,hol,hsc⟩ ih;simp only at hi hdl hol hsc ih
  by_cases h1:i<th.length
  ·have hdr:th.drop i=th[i]::th.drop (i+1):=yaA h1
   obtain⟨x,hxe⟩: ∃x,x=th[i]:=⟨_,rfl⟩;have hx:=hth th[i] (yal _);rw[<- hxe]at hdr hx;have gx:=hxe.symm;rw[hdr,List.sum_cons]at hol;rw[hdr,zkS]at hsc;have hol2:=zjx (l:=dn) (n:=th.length) (by omega)
   have hog:=zp0 (l:=dn) (n:=th.length) (by omega)
   rw[hdl]at hog
   by_cases hx1:x=1
   ·rw[yah hx1]at hsc
    cases own with
    |nil=>simp only[yat]at hol;omega
    |cons v0 own'=>
     have hos:=zp1 (l:=dn) (n:=th.length) (by omega) v0
     rw[hdl]at hos;subst hx1;simp only[yag]at hol;simp -dsimp -implicitDefEqProofs (disch:=first|omega|assumption) [h1,gx,hol2,hog,hos]
     refine ih (i+1,dn++[v0],own') _ _ ⟨h1,by simp[hdl],by simp only;omega, ?_⟩ (by simp only;omega) ?_
     ·rw[hsc];simp
     ·simp -dsimp -implicitDefEqProofs (disch:=first|omega|assumption)
   ·rw[yae hx1]at hsc
    have hx1': ¬ (x:Int)=1:=by omega
    have hon:=zno (l:=dn) (n:=th.length) (by omega)
    simp -dsimp -implicitDefEqProofs (disch:=first|omega|assumption) [h1,gx,hol2,hx1']
    refine ih (i+1,dn++[.null],own) _ _ ⟨h1,by simp[hdl],by simp only;omega, ?_⟩ (by simp only;omega) ?_
    ·rw[hsc];simp
    ·rw[<- hon]
     simp -dsimp -implicitDefEqProofs (disch:=first|omega|assumption)
  ·obtain rfl:i=th.length:=by omega
   rw[yb2,zkS,yau]at hsc;have hoe:=zp2 (l:=dn) (n:=th.length) hdl;subst hT2;rw[hoe];simp -dsimp -implicitDefEqProofs (disch:=first|omega|assumption) [hdl]
   refine fin _ ?_;rw[hsc];simp[VsR,E,hdl]
end Go.Am.Ab
namespace Go.Am.Ab
open Go.Proofs
set_option maxHeartbeats 4000000
end Go.Am.Ab
namespace Go.Am.Ab
open Go.Proofs
set_option maxHeartbeats 4000000
def zvt (k:Nat) (v:Val):Prop:=v= .null\/(v.kind=k/\(∀n,v= .whole n->zal n)/\ ∀s,v= .text s->s.size<=64)
def zj1 (k:Nat) (l:List Val):Prop:= ∀v∈l,zvt k v
def zj1.odd {k:Nat} {l:List Val} (g:zj1 k l):l.any (zuc k)=false:=by
 rw[yc4];intro v hv;rcases g v hv with h | ⟨h,_⟩ <;> simp[zuc,h]
def zj1.long {k:Nat} {l:List Val} (g:zj1 k l):l.any zjg=false:=by
 rw[yc4];intro v hv;rcases g v hv with h | ⟨_,_,h⟩
 ·simp[zjg,h]
 ·cases v with
  |text s=>have:=h s rfl;simp[zjg];omega
  |_=>simp[zjg]
def zj1.i64 {k:Nat} {l:List Val} (g:zj1 k l): ∀n,Val.whole n∈l->zal n:=by
 intro n hn;rcases g _ hn with h | ⟨_,h,_⟩
 ·cases h
 ·exact h n rfl
def zj1.tail {k:Nat} {v:Val} {l:List Val} (g:zj1 k (v::l)):zj1 k l:=λx hx=>g x (by simp[hx])
def own (l:List Val):List Val:=l.filter λv=>decide (v≠ .null)
def zvu (l:List UInt8):(mkS l).size=l.length:=rfl
def zjA: ∀ {sz:List Int} {b zaF:List UInt8} {l:List ByteArray},zbm sz b= .ok l zaF-> ∀s∈l,s.size<=64
 |[],b,zaF,l,h=>by
  unfold zbm at h;cases h;intro s hs;cases hs
 |k::r,b,zaF,l,h=>by
  unfold zbm at h;split at h
  ·simp at h
  ·split at h
   ·simp at h
   ·rename_i h1 h2
    cases hp:zbm r (b.drop k.toNat) with
    |err e'=>rw[hp]at h;simp at h
    |ok l2 r2=>
     rw[hp]at h;simp at h;intro s hs;rw[<- h.1]at hs;rcases List.mem_cons.1 hs with rfl | hs
     ·rw[zvu,yao];omega
     ·exact zjA hp s hs
def znp {n:Int} {b zaF:List UInt8} {l:List ByteArray} (h:zlV n b= .ok l zaF): ∀s∈l,s.size<=64:=by
 unfold zlV at h;split at h
 ·simp at h
 ·split at h
  ·simp at h
  ·split at h
   ·simp at h
   ·exact zjA h
def ztF {u:List ByteArray} (h: ∀s∈u,s.size<=64) (k:Int):(pick u k).size<=64:=by
 unfold pick;rw[yaD];cases e:u[k.toNat]? with
 |none=>simp[ByteArray.size]
 |some s=>exact h s (yax e)
def zoL (n:Nat) (b:List UInt8): ∀s∈(zdi n b).1,s.size<=64:=by
 unfold zdi;split
 ·simp
 ·split
  ·split
   ·simp
   ·rename_i hp
    have:=znp hp;split <;> exact this
  ·split
   ·simp
   ·split
    ·simp
    ·split
     ·simp
     ·rename_i hp
      have:=znp hp;split
      ·simp
      ·split
       ·intro s hs
        obtain⟨k,_,rfl⟩:=List.mem_map.1 hs;exact ztF this k
       ·simp
def znq {k n:Nat} (hk:1<=k/\k<=3) {b:List UInt8} (h:(zaU k n b).2=0):zj1 k (zaU k n b).1:=by
 have hc:k=1\/k=2\/k=3:=by omega
 intro v hv;right;rcases hc with rfl | rfl | rfl
 ·have h':(zcC b n).2=0:=h
  obtain⟨x,hx,rfl⟩:=List.mem_map.1 (show v∈(zcC b n).1.map .whole from hv)
  have:=(zic h').2 x hx;exact⟨rfl,λm e=>(by cases e;exact this),λs e=>by cases e⟩
 ·obtain⟨x,hx,rfl⟩:=List.mem_map.1 (show v∈(zaW b n).1.map (λ(x:Nat)=>Val.truth (decide ((x:Int)=1))) from hv)
  exact⟨rfl,λm e=>(by cases e),λs e=>by cases e⟩
 ·obtain⟨x,hx,rfl⟩:=List.mem_map.1 (show v∈(zdi n b).1.map .text from hv)
  have:=zoL n b x hx;exact⟨rfl,λm e=>(by cases e),λs e=>by cases e;exact this⟩
def zlK {v:Val}: ∀ {th:List Nat} {o:List Val},v∈zkS th o->v= .null\/v∈o
 |[],o,h=>by simp[zkS]at h
 |x::t,o,h=>by
  unfold zkS at h;split at h
  ·rcases List.mem_cons.1 h with h | h
   ·cases o with
    |nil=>exact .inl h
    |cons y r=>exact .inr (by rw[h];simp)
   ·rcases zlK h with h | h
    ·exact .inl h
    ·exact .inr (List.mem_of_mem_tail h)
  ·rcases List.mem_cons.1 h with h | h
   ·exact .inl h
   ·exact zlK h
def zrB {n:Nat} {b r:List UInt8} {th:List Nat} (h:zjv n b= .ok th r):th.length=n:=by
 unfold zjv at h;split at h
 ·cases h
 ·split at h
  ·cases h
  ·split at h
   ·split at h
    ·cases h
    ·split at h
     ·cases h
     ·rename_i c r0 h1 h2 h3 h4
      simp only[PR.ok.injEq]at h;rw[<- h.1];have h5:(zaW (r0.take ((n+7) / 8)) n).2=0:=by omega
      unfold zaW at h5 ⊢;split at h5
      ·simp at h5
      ·rename_i h6
       rw[yae h6];split at h5
       ·rename_i h7;rw[yah h7];simp
       ·simp at h5
   ·simp only[PR.ok.injEq]at h
    rw[<- h.1];simp
def zkU {k n:Nat} (hk:1<=k/\k<=3) {b:List UInt8} (h:(zgE k n b).2=0):zj1 k (zgE k n b).1/\(zgE k n b).1.length=n:=by
 unfold zgE at h ⊢;cases hp:zjv n b with
 |err e=>
  rw[hp]at h;exfalso;simp only at h;subst h;unfold zjv at hp;split at hp
  ·cases hp
  ·split at hp
   ·cases hp
   ·split at hp
    ·split at hp
     ·cases hp
     ·split at hp
      ·rename_i h4
       simp only[PR.err.injEq]at hp;exact h4 hp
      ·cases hp
    ·cases hp
 |ok th r=>
  rw[hp]at h;simp only at h ⊢;split at h
  ·rename_i h1;exact absurd h h1
  ·rename_i h1
   rw[yae h1];have g:=znq hk (b:=r) (n:=th.sum) (by omega)
   refine⟨λv hv=> ?_, ?_⟩
   ·rcases zlK hv with h | h
    ·exact .inl h
    ·exact g v h
   ·simp only
    rw[zjw,zrB hp]
def zcf (k:Nat) (b:List UInt8) (n:Int):List Val × Nat:=
 if ¬ (1<=k/\k<=3) then ([],10) else if n<0\/256<n then ([],1)
 else if (zgE k n.toNat b).2≠0 then ([],(zgE k n.toNat b).2)
 else if zeT k (zgE k n.toNat b).1=b then ((zgE k n.toNat b).1,0) else ([],40)
end Go.Am.Ab
namespace Go.Am.Ab
open Go.Proofs
set_option maxHeartbeats 4000000
set_option maxRecDepth 4000
def zp5 (k:Nat) (hk:1<=k/\k<=3) (l:List Val) (g:zj1 k l) (hn:l.length<=256):R 45 [.d (.int .u8 k),.d (.list (vs l))] []=some ([.arr 0 (zeT k l).length,E 0],[.arr 1 (bytes (zeT k l)) 0]):=by
 have hc:k=1\/k=2\/k=3:=by omega
 rcases hc with rfl | rfl | rfl
 ·exact zrr l hn g.odd g.i64
 ·exact zrs l hn g.odd
 ·exact zrt l hn g.odd g.long
def zid {k:Nat} {l:List Val} (hk:1<=k/\k<=3) (g:zj1 k l) (hn:l.length<=256):(zeT k l).length<=200000:=by
 have hkl:=zdh l;have htl:=zaN l;have h1:=zbz (l:=zav l) (by omega)
 have h2:=zbz (l:=zcn l) (by omega)
 have h3:=zcN (zjk g.i64) (by omega)
 have h4:=zkP (zh7 g.long) (by omega)
 unfold zeT zdQ zA9;rw[yaf];split <;> split <;> (try split) <;> simp only[yag,yat] <;> omega
def zgF (k:Nat) (hk256:k<256) (b:List UInt8) (n:Int) (hn:zal n) (hb:b.length<1000000):
 R 110 [.d (.int .u8 k),B b,.d (.int .i64 n)] []=some ([.arr 0 (zcf k b n).1.length,E (zcf k b n).2],[.arr 1 (vs (zcf k b n).1) (zcf k b n).1.length]):=by
 have hr:=zfb k hk256;unfold zcf
 by_cases hk:1<=k/\k<=3
 case neg=>
  rw[yaL hk]at hr;rw[yah hk];refine rg zx2 rfl ?_;intro T hT;simp -dsimp -implicitDefEqProofs (disch:=first|omega|assumption) [hr]
  simpa -dsimp -implicitDefEqProofs (disch:=first|omega|assumption) [E]using hT
 rw[yaJ hk]at hr;rw[yae (λc=>c hk)]
 by_cases h1:n<0
 ·rw[yah (.inl h1)]
  refine rg zx2 rfl ?_;intro T hT;simp -dsimp -implicitDefEqProofs (disch:=first|omega|assumption) [hr,h1]
  simpa -dsimp -implicitDefEqProofs (disch:=first|omega|assumption) [E]using hT
 by_cases h2:256<n
 ·rw[yah (.inr h2)]
  refine rg zx2 rfl ?_;intro T hT;simp -dsimp -implicitDefEqProofs (disch:=first|omega|assumption) [hr,h1,h2]
  simpa -dsimp -implicitDefEqProofs (disch:=first|omega|assumption) [E]using hT
 rw[yae (by omega)]
 obtain⟨m,rfl⟩: ∃m:Nat,n=m:=⟨n.toNat,by omega⟩
 rw[yaB];have h:=zlJ k m hk b (by omega) hb
 have hg:=zkU (n:=m) hk (b:=b);unfold Is VsR at h;obtain⟨v,hv⟩: ∃v,v=zgE k m b:=⟨_,rfl⟩;rw[<- hv]at h hg ⊢
 by_cases h3:v.2≠0
 ·have h3': ¬ (v.2:Int)=0:=by omega
  rw[yah h3];refine rg zx2 rfl ?_;intro T hT;simp -dsimp -implicitDefEqProofs (disch:=first|omega|assumption) [hr,h1,h2,h,h3,h3']
  simpa -dsimp -implicitDefEqProofs (disch:=first|omega|assumption) [E]using hT
 rw[yae h3];have h3':v.2=0:=by omega
 obtain⟨g,gl⟩:=hg h3';rw[h3']at h;have hw:=zp5 k hk v.1 g (by omega)
 have hcl:=zid hk g (by omega)
 have heq:=zfa (zeT k v.1) b (by omega)
 by_cases h4:zeT k v.1=b
 ·rw[yah h4]
  rw[yaJ h4]at heq;refine rg zx2 rfl ?_;intro T hT;simp -dsimp -implicitDefEqProofs (disch:=first|omega|assumption) [hr,h1,h2,h,hw,heq]
  simpa -dsimp -implicitDefEqProofs (disch:=first|omega|assumption) [E]using hT
 ·rw[yae h4]
  rw[yaL h4]at heq;refine rg zx2 rfl ?_;intro T hT;simp -dsimp -implicitDefEqProofs (disch:=first|omega|assumption) [hr,h1,h2,h,hw,heq]
  simpa -dsimp -implicitDefEqProofs (disch:=first|omega|assumption) [E]using hT
end Go.Am.Ab
