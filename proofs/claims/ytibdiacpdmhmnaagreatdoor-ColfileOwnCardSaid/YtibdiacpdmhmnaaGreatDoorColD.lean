/- Columns, read. -/
import Derived.Test.YtibdiacpdmhmnaaGreatDoorParsing
import Derived.Test.YtibdiacpdmhmnaaGreatDoorColB
import Derived.Test.YtibdiacpdmhmnaaGreatDoorColC
set_option linter.all false
namespace Go.Am.Ab
open Go.Proofs
set_option maxHeartbeats 4000000
set_option maxRecDepth 4000
def zmC (p:Option (D × List Am.Obj)) (t:Nat) (s:Slots) (h:List Am.Obj) (r:List (Nat × Nat)):Slots × List Am.Obj:=
 match p with
 |some (x,h0)=>let (s1,h1):=zad s h0 r;((t,.d x)::s1,h1)
 |none=>zad s h r
@[simp] def zyH (x:D) (h0 h:List Am.Obj) (t:Nat) (s:Slots) (r:List (Nat × Nat)):zmC (some (x,h0)) t s h r=zdF (zad s h0 r) (λp=>((t,.d x)::p.1,p.2)) ⟨⟩:=rfl
@[simp] def zxy {s:Slots} {h:List Am.Obj} {sz:Nat} {r:List (Nat × Nat)}:zad s h ((1000015,sz)::r)=zmC (zby h (zbE s 15)) 15 s h r:=by
 have key: ∀t,zad s h ((t+1000000,sz)::r)=zmC (zby h (zbE s t)) t s h r:=by
  intro t
  conv=>lhs;unfold zad
  rw[yaf (by omega),ybJ]
  unfold zmC;cases zby h (zbE s t) <;> rfl
 exact key 15
abbrev uz (l:List Int):List D:=l.map λn=>D.int .u64 n
@[simp] def zon (x:Int): ∀n,zao 1 (List.replicate n (D.int .u64 x))=true
 |0=>rfl
 |n+1=>by simp[yaS,zon x n]
@[simp] def zA6 (l:List Int):zao 1 (l.map λn=>D.int .u64 n)=true:=zaJ l λ_=>rfl
@[simp] def zzS (l:List Nat):zao 1 (l.map λ(n:Nat)=>D.int .u64 (n:Int))=true:=zaJ l λ_=>rfl
def zoo (x:Int) (n:Nat) (hn:n<=256):R 177 [.arr 0 1,.d (.int .i64 n)] [.arr 1 [.int .u64 x] 0]=some ([.arr 1 n],[.arr 1 [.int .u64 x] 0,.arr 1 (uz (List.replicate n x)) 0]):=by
 have hm:=zit n hn;have hw:IntKind.u64.wrap (n:Int)=n:=zan (by omega) (by omega)
 have hw1:IntKind.u64.wrap 1=1:=zan (by omega) (by omega)
 have hn0: ¬ (n:Int)<0:=by omega
 have hfit: ¬ (9223372036854775807:Int)<n:=by omega
 have hqi:IntKind.i64.wrap (n:Int)=n:=wI (by omega) (by omega)
 by_cases h0:n=0
 ·subst h0
  rw[show ((0:Nat):Int)=0 from rfl]at*
  refine rg zHo rfl ?_;intro T hT;simp -dsimp -implicitDefEqProofs (disch:=first|omega|assumption) [hm,hw,hw1]
  generalize hz:zak _ _ _ _ _ _=z;revert z;refine zaa (σ:=Unit) (λ_=>[(7,.arr 1 0),(8,.d (.int .i64 0))]) (λ_=>[.arr 1 [.int .u64 x] 0,.arr 1 [] 0]) (λ_=>True) (λ_=>0) () ?_ ?_ ?_
  ·trivial
  ·simp -dsimp -implicitDefEqProofs (disch:=first|omega|assumption)
  intro T' f hT' _ _ ih;subst hT';simp -dsimp -implicitDefEqProofs (disch:=first|omega|assumption)
  simpa -dsimp -implicitDefEqProofs (disch:=first|omega|assumption) using hT
 ·have h0': ¬ (n:Int)=0:=by omega
  have hmin:min 1 n=1:=by omega
  have hpos:0<n:=by omega
  have hfl: ∀j,j<=n->(zbr x n j).length=n:=λj hj=>by simp[zbr];omega
  have htk:List.take n [D.int .u64 x]=[D.int .u64 x]:=yaB (by simp;omega)
  refine rg zHo rfl ?_;intro T hT;simp -dsimp -implicitDefEqProofs (disch:=first|omega|assumption) [hm,hw,hw1,hn0,hfit,hqi,h0,h0',hmin,hpos,htk]
  generalize hz:zak _ _ _ _ _ _=z;revert z;refine zaa (σ:=Nat) (λj=>[(7,.arr 1 n),(8,.d (.int .i64 j))]) (λj=>[.arr 1 [.int .u64 x] 0,.arr 1 (uz (zbr x n j)) 0]) (λj=>0<j/\j<=n) (λj=>n - j) 1 ?_ ?_ ?_
  ·omega
  ·simp -dsimp -implicitDefEqProofs (disch:=first|omega|assumption) [zbr]
  intro T' f hT' j ⟨hj0,hj⟩ ih;have hfj:=hfl j hj
  by_cases h1:j<n
  ·have h1':(j:Int)<n:=by omega
   have hnj: ¬ 0=n:=by omega
   have hjle:j<=n:=hj;obtain⟨k,hk⟩: ∃k,k=min (n - j) j:=⟨_,rfl⟩;have hk':min (n - j) j=k:=hk.symm;have hk2:min j (n - j)=k:=by omega
   have hA:List.take j (List.map (λn=>D.int .u64 n) (zbr x n j))=List.replicate j (D.int .u64 x):=by
    unfold zbr;rw[ybi,ybD (by simp),yaB (by simp)];simp
   have hC:List.drop (j+k) (List.map (λn=>D.int .u64 n) (zbr x n j))=List.replicate (n - j - k) (D.int .u64 0):=by
    unfold zbr;rw[ybi,ydi,ybQ (by simp),ybC]
    simp
   have hD:List.replicate j (D.int .u64 x)++(List.replicate k (D.int .u64 x)++List.replicate (n - j - k) (D.int .u64 0))=List.map (λn=>D.int .u64 n) (zbr x n (j+k)):=by
    unfold zbr;rw[<- yam,yci,show n - (j+k)=n - j - k by omega]
    simp
   simp -dsimp -implicitDefEqProofs (disch:=first|omega|assumption) [h1,h1',hfj,hnj,hjle,hA,hk',hk2,hC,hD]
   have hnjk:n - (j+k)=n - j - k:=by omega
   exact ih (j+k) _ _ (by omega) (by omega) (by simp -dsimp -implicitDefEqProofs (disch:=first|omega|assumption) [zbr,hnjk])
  ·have hjn:j=n:=by omega
   have hff:zbr x n n=List.replicate n x:=by simp[zbr]
   subst hT';rw[hjn,hff];simp -dsimp -implicitDefEqProofs (disch:=first|omega|assumption)
   simpa -dsimp -implicitDefEqProofs (disch:=first|omega|assumption) using hT
def zfT (n:Nat) (b:List UInt8):PR (List Nat):=
 match b with
 |[]=> .err 30
 |c::r=>
  if 1<c.toNat then .err 40
  else if c.toNat=1 then
   if r.length<(n+7) / 8 then .err 30
   else if (zaK (r.take ((n+7) / 8)) n).2≠0 then .err (zaK (r.take ((n+7) / 8)) n).2
   else .ok (zaK (r.take ((n+7) / 8)) n).1 (r.drop ((n+7) / 8))
  else .ok (List.replicate n 1) r
def zkd:List Nat->List Val->List Val
 |[],_=>[]
 |x::t,own=>if x=1 then own.headD .null::zkd t own.tail else .null::zkd t own
def ze4 (k n:Nat) (b:List UInt8):List Val × Nat:=
 match zfT n b with
 |.err e=>([],e)
 |.ok th r=>if (zaF k th.sum r).2≠0 then ([],(zaF k th.sum r).2) else (zkd th (zaF k th.sum r).1,0)
def zke: ∀ (th:List Nat) (own:List Val),(zkd th own).length=th.length
 |[],_=>rfl
 |x::t,own=>by
  unfold zkd;split <;> simp[zke t]
def zmU (l:List Val) (n:Nat):List D:=vs l++List.replicate (n - l.length) .nilI
def zq9 (n:Nat):zmU [] n=List.replicate n .nilI:=by simp[zmU]
def zkf {l:List Val} {n:Nat} (h:l.length<=n):(zmU l n).length=n:=by simp[zmU];omega
def zra {l:List Val} {n:Nat} (h:l.length<n):(zmU l n)[l.length]? =some .nilI:=by
 rw[zmU,yah (by simp),yak,ya7,ycQ,yai (by omega)]
def zrb {l:List Val} {n:Nat} (h:l.length<n) (v:Val):(zmU l n).set l.length v.d=zmU (l++[v]) n:=by
 have e:n - l.length=(n - (l.length+1))+1:=by omega
 have hl:(vs l).length=l.length:=by simp
 rw[zmU,zmU,e,yaS,ybl _ _ (by omega),hl,ya7,ycV,yae,ya2]
 simp
def zop {l:List Val} {n:Nat} (h:l.length<n):zmU l n=zmU (l++[.null]) n:=by
 have e:n - l.length=(n - (l.length+1))+1:=by omega
 rw[zmU,zmU,e,yaS,yae,ya2];simp[Val.d]
def zrc {l:List Val} {n:Nat} (h:l.length=n):zmU l n=vs l:=by simp[zmU,h]
def zrd {l:List Nat} {i:Nat} (h:i<l.length):(l.take (i+1)).sum=(l.take i).sum+l[i]:=by
 rw[zaM h,List.sum_append];simp
def zre {l:List Nat} (h: ∀x∈l,x<=1):l.sum<=l.length:=by
 induction l with
 |nil=>simp
 |cons x r ih=>
  have h1:=h x (by simp)
  have h2:=ih λy hy=>h y (by simp[hy])
  simp only[ydQ,yad];omega
def zlO: ∀ {sz:List Int} {b zav:List UInt8} {l:List ByteArray},za4 sz b= .ok l zav->l.length=sz.length
 |[],b,zav,l,h=>by simp[za4]at h;simp[<- h.1]
 |k::r,b,zav,l,h=>by
  unfold za4 at h;split at h
  ·simp at h
  ·split at h
   ·simp at h
   ·cases hp:za4 r (b.drop k.toNat) with
    |err e'=>rw[hp]at h;simp at h
    |ok l2 r2=>
     rw[hp]at h;simp at h;rw[<- h.1];simp[zlO hp]
def ziU {b:List UInt8} {n:Int} (h:(zbO b n).2=0):((zbO b n).1.length:Int)=n/\ ∀x∈(zbO b n).1,zaf x:=by
 unfold zbO at h ⊢;split at h
 ·simp at h
 ·rename_i hn
  rw[yaf hn];cases b with
  |nil=>simp at h
  |cons c r=>
   simp only at h ⊢;split at h
   ·simp at h
   ·rename_i hc
    rw[yaf hc];unfold zzK at h ⊢;cases hp:zf9 c.toNat n.toNat r with
    |err e=>rw[hp]at h;simp only at h ⊢;exact absurd h (zn7 hp)
    |ok l r2=>
     rw[hp]at h;simp only at h ⊢;split at h
     ·simp at h
     ·rename_i h2
      rw[yaf h2];split at h
      ·rename_i h3
       rw[yai h3];have:=zmw hp;exact⟨by simp only;omega,this.2⟩
      ·simp at h
def zxz {n:Int} {b zav:List UInt8} {l:List ByteArray} (h:zlM n b= .ok l zav):(l.length:Int)=n:=by
 unfold zlM at h;split at h
 ·simp at h
 ·split at h
  ·simp at h
  ·split at h
   ·simp at h
   ·rename_i h3
    rw[zlO h];exact (ziU (by omega)).1
def zkg {k n:Nat} {b:List UInt8} (h:(zaF k n b).2=0):(zaF k n b).1.length=n:=by
 unfold zaF at h ⊢;split
 ·rename_i h1
  rw[yai h1]at h;have:=(ziU h).1;simp only[yak];omega
 ·rename_i h1
  rw[yaf h1]at h;split
  ·rename_i h2
   rw[yai h2]at h;simp only[yak]at h ⊢;unfold zaK at h ⊢;split at h
   ·simp at h
   ·rename_i h3
    rw[yaf h3];split at h
    ·rename_i h4
     rw[yai h4];simp
    ·simp at h
  ·rename_i h2
   rw[yaf h2]at h;simp only[yak]at h ⊢;unfold zcG at h ⊢;cases b with
   |nil=>simp at h
   |cons c r=>
    simp only at h ⊢;split at h
    ·rename_i h3
     rw[yai h3];cases hp:zlM (n:Int) r with
     |err e=>rw[hp]at h;exact absurd h (ziT hp)
     |ok l zav=>
      rw[hp]at h;simp only at h ⊢;split at h
      ·simp at h
      ·rename_i h4
       rw[yaf h4];have:=zxz hp;simp only;omega
    ·rename_i h3
     rw[yaf h3];split at h
     ·rename_i h4;exact absurd h h4
     ·rename_i h4
      rw[yaf h4];split at h
      ·simp at h
      ·rename_i h5
       rw[yaf h5];cases hp:zlM ((get r).1:Int) (r.drop (get r).2.1) with
       |err e=>rw[hp]at h;exact absurd h (ziT hp)
       |ok u zav=>
        rw[hp]at h;simp only at h ⊢;split at h
        ·rename_i h6;exact absurd h h6
        ·rename_i h6
         rw[yaf h6];split at h
         ·rename_i h7
          rw[yai h7];have:=(ziU (b:=zav) (n:=n) (by omega)).1
          simp only[yak];omega
         ·simp at h
def zkh (k n:Nat) (hk:1<=k/\k<=3) (b:List UInt8) (hn:n<=256) (hb:b.length<1000000):R 179 [.d (.int .u8 k),B b,.d (.int .i64 n)] []=VsR (zaF k n b):=by
 have h:k=1\/k=2\/k=3:=by omega
 rcases h with rfl | rfl | rfl
 ·exact zok b n hn hb
 ·exact zol b n hn hb
 ·exact zom b n hn hb
def zmD (k n:Nat) (hk:1<=k/\k<=3) (b:List UInt8) (hn:n<=256) (hb:b.length<1000000):Is (VsR (ze4 k n b)) (R 152 [.d (.int .u8 k),B b,.d (.int .i64 n)] []):=by
 cases b with
 |nil=>
  refine ra zAY rfl (zbP (zc4 _)) ?_;simp -dsimp -implicitDefEqProofs (disch:=first|omega|assumption)
  simp[Is,VsR,ze4,zfT,E]
 |cons c r=>
 simp only[yad]at hb;have hl0: ¬ ((r.length:Int)+1=0):=by omega
 have hrep:=zoo 1 n hn;have huz:uz (List.replicate n 1)=uc (List.replicate n 1):=by simp
 rw[huz]at hrep;unfold ze4 zfT;simp only
 by_cases c1:1<c.toNat
 ·have c1':(1:Int)<c.toNat:=by omega
  rw[yai c1];refine ra zAY rfl (zbP (zc4 _)) ?_;simp -dsimp -implicitDefEqProofs (disch:=first|omega|assumption) [hl0,hrep,c1,c1']
  simp[Is,VsR,E]
 rw[yaf c1];have c1': ¬ (1:Int)<c.toNat:=by omega
 by_cases c2:c.toNat=1
 ·rw[yai c2]
  have c2':(c.toNat:Int)=1:=by omega
  obtain⟨sz,hsz⟩: ∃sz,sz=(n+7) / 8:=⟨_,rfl⟩;have hsz':((n:Int)+7) / 8=sz:=by omega
  rw[<- hsz]
  by_cases c3:r.length<sz
  ·rw[yai c3]
   have c3':(r.length:Int)<sz:=by omega
   refine ra zAY rfl (zbP (zc4 _)) ?_;simp -dsimp -implicitDefEqProofs (disch:=first|omega|assumption) [hl0,hrep,c1,c1',c2,c2',hsz',c3,c3']
   simp[Is,VsR,E]
  rw[yaf c3];have c3': ¬ (r.length:Int)<sz:=by omega
  have c3b:sz<=r.length:=by omega
  obtain⟨bt,hbt⟩: ∃bt,bt=r.take sz:=⟨_,rfl⟩;obtain⟨rb,hbd⟩: ∃rb,rb=r.drop sz:=⟨_,rfl⟩;have hbt':List.take sz (bytes r)=bytes bt:=by rw[hbt,bytes,bytes,ybZ]
  have hbd':List.drop sz (bytes r)=bytes rb:=by rw[hbd,bytes,bytes,ycm]
  have hbtl:bt.length<1000000:=by rw[hbt,yat];omega
  have hrbl:rb.length<1000000:=by rw[hbd,yay];omega
  rw[<- hbt,<- hbd];have hup:=zix bt n hn hbtl;have hth0: ∀x∈(zaK bt n).1,x<=1:=by
   unfold zaK;split
   ·simp
   ·split
    ·intro x hx
     simp only[ups,ycb]at hx;obtain⟨j,_,rfl⟩:=hx;omega
    ·simp
  have hthl0:(zaK bt n).2=0->(zaK bt n).1.length=n:=by
   unfold zaK;split
   ·simp
   ·split
    ·simp
    ·simp
  obtain⟨th,hte⟩: ∃th,th=(zaK bt n).1:=⟨_,rfl⟩;obtain⟨e,hee⟩: ∃e,e=(zaK bt n).2:=⟨_,rfl⟩;rw[<- hte,<- hee]at hup hthl0;rw[<- hte]at hth0;rw[<- hte,<- hee];clear hte hee hbt hbd hsz
  by_cases c4:e≠0
  ·rw[yai c4]
   have c4': ¬ (e:Int)=0:=by omega
   refine ra zAY rfl (zbP (zc4 _)) ?_;simp -dsimp -implicitDefEqProofs (disch:=first|omega|assumption) [hl0,hrep,c1,c1',c2,c2',hsz',c3,c3',c3b,hbt',hup,c4,c4']
   simp[Is,VsR,E]
  rw[yaf c4];have c4':e=0:=by omega
  subst c4';have hthl:=hthl0 rfl;have hth:=hth0;subst hthl;have hsum:=zre hth;have hval:=zkh k th.sum hk rb (by omega) hrbl
  have hvl:(zaF k th.sum rb).2=0->(zaF k th.sum rb).1.length=th.sum:=zkg;simp only;generalize hA:(if (zaF k th.sum rb).2≠0 then (([]:List Val),(zaF k th.sum rb).2) else (zkd th (zaF k th.sum rb).1,0))=A
  refine ra zAY rfl (zbP (zc4 _)) ?_;simp -dsimp -implicitDefEqProofs (disch:=first|omega|assumption) [hl0,hrep,c1,c1',c2,c2',hsz',c3,c3',c3b,hbt',hup,hbd']
  generalize hz:zak _ _ _ _ _ _=z;revert z;refine zaa (σ:=Nat) (λi=>[(0,.d (.int .u8 k)),(1,B rb),(2,.d (.int .i64 th.length)),(9,.arr 0 th.length),(12,.d (.int .i64 ((th.take i).sum:Nat))),(56,.arr 0 th.length),(57,.d (.int .i64 th.length)),(58,.d (.int .i64 i))]) (λi=>[.arr 1 (uc th) 0]) (λi=>i<=th.length) (λi=>th.length - i) 0 ?_ ?_ ?_
  ·exact yaj _
  ·simp -dsimp -implicitDefEqProofs (disch:=first|omega|assumption) [B]
  intro T' f hT' i hi ih
  by_cases h1:i<th.length
  ·have h1':i<th.length:=by omega
   have hx:=hth th[i] (yar _);have hs:=zrd h1';have hsl:(th.take i).sum<=i:=by
    have:=zre (l:=th.take i) λx hx=>hth x (yaH hx)
    have h2:(th.take i).length<=i:=by simp;omega
    omega
   obtain⟨x,hxe⟩: ∃x,x=th[i]:=⟨_,rfl⟩;rw[<- hxe]at hx hs;have gx:=hxe.symm;have hw:IntKind.i64.wrap (x:Int)=x:=wI (by omega) (by omega)
   simp -dsimp -implicitDefEqProofs (disch:=first|omega|assumption) [h1,h1',gx,hw]
   refine ih (i+1) _ _ h1 (by omega) ?_
   rw[hs];simp -dsimp -implicitDefEqProofs (disch:=first|omega|assumption) [B]
  obtain rfl:i=th.length:=by omega
  subst hT';clear ih hi h1;rw[ybf];obtain⟨v,hv⟩: ∃v,v=zaF k th.sum rb:=⟨_,rfl⟩;rw[<- hv]at hval hvl hA
  by_cases hv0:v.2≠0
  ·have hv0': ¬ (v.2:Int)=0:=by omega
   rw[yai hv0]at hA;subst hA;unfold VsR at hval;simp -dsimp -implicitDefEqProofs (disch:=first|omega|assumption) [hval,hv0,hv0']
   simp[Is,VsR,E]
  rw[yaf hv0]at hA;subst hA;have hv0':v.2=0:=by omega
  have hvl':=hvl hv0';unfold VsR at hval;rw[hv0']at hval;simp -dsimp -implicitDefEqProofs (disch:=first|omega|assumption) [hval]
  generalize hT0:Is _=T0;have fin: ∀r,r=VsR (zkd th v.1,0)->T0 r:=λr hr=>by rw[<- hT0];exact hr
  generalize hz:zak _ _ _ _ _ _=z;revert z;refine zaa (σ:=Nat × List Val × List Val) (λx=>[(15,.d (.list (vs x.2.2))),(17,.arr 0 th.length),(79,.arr 1 th.length),(80,.d (.int .i64 th.length)),(81,.d (.int .i64 x.1))]) (λx=>[.arr 1 (zmU x.2.1 th.length) 0,.arr 1 (uc th) 0]) (λx=>x.1<=th.length/\x.2.1.length=x.1/\x.2.2.length=(th.drop x.1).sum/\zkd th v.1=x.2.1++zkd (th.drop x.1) x.2.2) (λx=>th.length - x.1) (0,[],v.1) ?_ ?_ ?_
  ·exact⟨yaj _,rfl,by rw[yc8];exact hvl',by rw[yc8];rfl⟩
  ·simp -dsimp -implicitDefEqProofs (disch:=first|omega|assumption) [zq9]
  intro T2 f2 hT2 ⟨i,dn,own⟩ ⟨hi,hdl,hol,hsc⟩ ih;simp only at hi hdl hol hsc ih
  by_cases h1:i<th.length
  ·have hdr:th.drop i=th[i]::th.drop (i+1):=yaG h1
   obtain⟨x,hxe⟩: ∃x,x=th[i]:=⟨_,rfl⟩;have hx:=hth th[i] (yar _);rw[<- hxe]at hdr hx;have gx:=hxe.symm;rw[hdr,ydQ]at hol;rw[hdr,zkd]at hsc;have hol2:=zkf (l:=dn) (n:=th.length) (by omega)
   have hog:=zra (l:=dn) (n:=th.length) (by omega)
   rw[hdl]at hog
   by_cases hx1:x=1
   ·rw[yai hx1]at hsc
    cases own with
    |nil=>simp only[yav]at hol;omega
    |cons v0 own'=>
     have hos:=zrb (l:=dn) (n:=th.length) (by omega) v0
     rw[hdl]at hos;subst hx1;simp only[yad]at hol;simp -dsimp -implicitDefEqProofs (disch:=first|omega|assumption) [h1,gx,hol2,hog,hos]
     refine ih (i+1,dn++[v0],own') _ _ ⟨h1,by simp[hdl],by simp only;omega, ?_⟩ (by simp only;omega) ?_
     ·rw[hsc];simp
     ·simp -dsimp -implicitDefEqProofs (disch:=first|omega|assumption)
   ·rw[yaf hx1]at hsc
    have hx1': ¬ (x:Int)=1:=by omega
    have hon:=zop (l:=dn) (n:=th.length) (by omega)
    simp -dsimp -implicitDefEqProofs (disch:=first|omega|assumption) [h1,gx,hol2,hx1']
    refine ih (i+1,dn++[.null],own) _ _ ⟨h1,by simp[hdl],by simp only;omega, ?_⟩ (by simp only;omega) ?_
    ·rw[hsc];simp
    ·rw[<- hon]
     simp -dsimp -implicitDefEqProofs (disch:=first|omega|assumption)
  ·obtain rfl:i=th.length:=by omega
   rw[yb9,zkd,yaq]at hsc;have hoe:=zrc (l:=dn) (n:=th.length) hdl;subst hT2;rw[hoe];simp -dsimp -implicitDefEqProofs (disch:=first|omega|assumption) [hdl]
   refine fin _ ?_;rw[hsc];simp[VsR,E,hdl]
 ·rw[yaf c2]
  have c2': ¬ (c.toNat:Int)=1:=by omega
  obtain⟨th,hte⟩: ∃th,th=List.replicate n 1:=⟨_,rfl⟩;have hth: ∀x∈th,x<=1:=by rw[hte];intro x hx;have:=yb6 hx;omega
  have hthl:th.length=n:=by rw[hte];simp
  rw[<- hte]at hrep ⊢;clear hte huz;subst hthl;obtain⟨rb,hrb⟩: ∃rb,rb=r:=⟨_,rfl⟩;rw[<- hrb]at hb hl0 ⊢;clear hrb;have hsum:=zre hth;have hval:=zkh k th.sum hk rb (by omega) (by omega)
  have hvl:(zaF k th.sum rb).2=0->(zaF k th.sum rb).1.length=th.sum:=zkg;simp only;generalize hA:(if (zaF k th.sum rb).2≠0 then (([]:List Val),(zaF k th.sum rb).2) else (zkd th (zaF k th.sum rb).1,0))=A
  refine ra zAY rfl (zbP (zc4 _)) ?_;simp -dsimp -implicitDefEqProofs (disch:=first|omega|assumption) [hl0,hrep,c1,c1',c2,c2']
  generalize hz:zak _ _ _ _ _ _=z;revert z;refine zaa (σ:=Nat) (λi=>[(0,.d (.int .u8 k)),(1,B rb),(2,.d (.int .i64 th.length)),(9,.arr 0 th.length),(12,.d (.int .i64 ((th.take i).sum:Nat))),(56,.arr 0 th.length),(57,.d (.int .i64 th.length)),(58,.d (.int .i64 i))]) (λi=>[.arr 1 (uc th) 0]) (λi=>i<=th.length) (λi=>th.length - i) 0 ?_ ?_ ?_
  ·exact yaj _
  ·simp -dsimp -implicitDefEqProofs (disch:=first|omega|assumption) [B]
  intro T' f hT' i hi ih
  by_cases h1:i<th.length
  ·have h1':i<th.length:=by omega
   have hx:=hth th[i] (yar _);have hs:=zrd h1';have hsl:(th.take i).sum<=i:=by
    have:=zre (l:=th.take i) λx hx=>hth x (yaH hx)
    have h2:(th.take i).length<=i:=by simp;omega
    omega
   obtain⟨x,hxe⟩: ∃x,x=th[i]:=⟨_,rfl⟩;rw[<- hxe]at hx hs;have gx:=hxe.symm;have hw:IntKind.i64.wrap (x:Int)=x:=wI (by omega) (by omega)
   simp -dsimp -implicitDefEqProofs (disch:=first|omega|assumption) [h1,h1',gx,hw]
   refine ih (i+1) _ _ h1 (by omega) ?_
   rw[hs];simp -dsimp -implicitDefEqProofs (disch:=first|omega|assumption) [B]
  obtain rfl:i=th.length:=by omega
  subst hT';clear ih hi h1;rw[ybf];obtain⟨v,hv⟩: ∃v,v=zaF k th.sum rb:=⟨_,rfl⟩;rw[<- hv]at hval hvl hA
  by_cases hv0:v.2≠0
  ·have hv0': ¬ (v.2:Int)=0:=by omega
   rw[yai hv0]at hA;subst hA;unfold VsR at hval;simp -dsimp -implicitDefEqProofs (disch:=first|omega|assumption) [hval,hv0,hv0']
   simp[Is,VsR,E]
  rw[yaf hv0]at hA;subst hA;have hv0':v.2=0:=by omega
  have hvl':=hvl hv0';unfold VsR at hval;rw[hv0']at hval;simp -dsimp -implicitDefEqProofs (disch:=first|omega|assumption) [hval]
  generalize hT0:Is _=T0;have fin: ∀r,r=VsR (zkd th v.1,0)->T0 r:=λr hr=>by rw[<- hT0];exact hr
  generalize hz:zak _ _ _ _ _ _=z;revert z;refine zaa (σ:=Nat × List Val × List Val) (λx=>[(15,.d (.list (vs x.2.2))),(17,.arr 0 th.length),(79,.arr 1 th.length),(80,.d (.int .i64 th.length)),(81,.d (.int .i64 x.1))]) (λx=>[.arr 1 (zmU x.2.1 th.length) 0,.arr 1 (uc th) 0]) (λx=>x.1<=th.length/\x.2.1.length=x.1/\x.2.2.length=(th.drop x.1).sum/\zkd th v.1=x.2.1++zkd (th.drop x.1) x.2.2) (λx=>th.length - x.1) (0,[],v.1) ?_ ?_ ?_
  ·exact⟨yaj _,rfl,by rw[yc8];exact hvl',by rw[yc8];rfl⟩
  ·simp -dsimp -implicitDefEqProofs (disch:=first|omega|assumption) [zq9]
  intro T2 f2 hT2 ⟨i,dn,own⟩ ⟨hi,hdl,hol,hsc⟩ ih;simp only at hi hdl hol hsc ih
  by_cases h1:i<th.length
  ·have hdr:th.drop i=th[i]::th.drop (i+1):=yaG h1
   obtain⟨x,hxe⟩: ∃x,x=th[i]:=⟨_,rfl⟩;have hx:=hth th[i] (yar _);rw[<- hxe]at hdr hx;have gx:=hxe.symm;rw[hdr,ydQ]at hol;rw[hdr,zkd]at hsc;have hol2:=zkf (l:=dn) (n:=th.length) (by omega)
   have hog:=zra (l:=dn) (n:=th.length) (by omega)
   rw[hdl]at hog
   by_cases hx1:x=1
   ·rw[yai hx1]at hsc
    cases own with
    |nil=>simp only[yav]at hol;omega
    |cons v0 own'=>
     have hos:=zrb (l:=dn) (n:=th.length) (by omega) v0
     rw[hdl]at hos;subst hx1;simp only[yad]at hol;simp -dsimp -implicitDefEqProofs (disch:=first|omega|assumption) [h1,gx,hol2,hog,hos]
     refine ih (i+1,dn++[v0],own') _ _ ⟨h1,by simp[hdl],by simp only;omega, ?_⟩ (by simp only;omega) ?_
     ·rw[hsc];simp
     ·simp -dsimp -implicitDefEqProofs (disch:=first|omega|assumption)
   ·rw[yaf hx1]at hsc
    have hx1': ¬ (x:Int)=1:=by omega
    have hon:=zop (l:=dn) (n:=th.length) (by omega)
    simp -dsimp -implicitDefEqProofs (disch:=first|omega|assumption) [h1,gx,hol2,hx1']
    refine ih (i+1,dn++[.null],own) _ _ ⟨h1,by simp[hdl],by simp only;omega, ?_⟩ (by simp only;omega) ?_
    ·rw[hsc];simp
    ·rw[<- hon]
     simp -dsimp -implicitDefEqProofs (disch:=first|omega|assumption)
  ·obtain rfl:i=th.length:=by omega
   rw[yb9,zkd,yaq]at hsc;have hoe:=zrc (l:=dn) (n:=th.length) hdl;subst hT2;rw[hoe];simp -dsimp -implicitDefEqProofs (disch:=first|omega|assumption) [hdl]
   refine fin _ ?_;rw[hsc];simp[VsR,E,hdl]
end Go.Am.Ab
namespace Go.Am.Ab
open Go.Proofs
set_option maxHeartbeats 4000000
def ze5 {l:List Int} {t:List UInt8} (h: ∀n∈l,zaf n) (hn:l.length<=256) (ht:t≠[]):(zbO (zb9 l++t) l.length).2≠0:=by
 obtain⟨⟨c,hc,e⟩,_⟩:=zn4 l;rw[e,ya4,zsJ hc h hn ht];simp
def ziy (l:List Bool):zaK (zbM l) l.length=(l.map bit,0):=by
 have hb:=zux l;have h:=zdJ (w:=1) (p:=l.map bit) hb;have hl:(zbB 1 (l.map bit)).length=(l.length+7) / 8:=by rw[zbx];simp
 unfold zbN at h;rw[yak,ybU,hl,yaf (ybv _),yaf (ybv _)]at h;unfold zaK zbM;rw[hl,yaf (λk=>k rfl)]
 split at h
 ·rename_i h2
  rw[yai h2];simp only[PR.ok.injEq,yc6]at h;rw[h]
 ·cases h
def ziz (l:List Bool):(zbM l).length=(l.length+7) / 8:=by
 unfold zbM;rw[zbx];simp
def zpN (l:List Bool) {t:List UInt8} (ht:t≠[]):(zaK (zbM l++t) l.length).2≠0:=by
 have h1:=ziz l;have h2:0<t.length:=List.length_pos_iff.2 ht;unfold zaK;rw[yai (by rw[yae];omega)]
 simp
def zsY (s:ByteArray) (r:List ByteArray):zeT (s::r) (s::r).length=s.data.toList++zeT r r.length:=by
 simp[zeT]
def zki: ∀ (l:List ByteArray) (t:List UInt8),(∀s∈l,s.size<=64)->za4 (zaT l) (zeT l l.length++t)= .ok l t
 |[],t,_=>rfl
 |s::r,t,h=>by
  have hs:=h s (by simp)
  have hl:=zhR s;have ih:=zki r t λx hx=>h x (by simp[hx])
  rw[zsY,zaT,ya1,za4,yaf (by omega),yam,yaf (by rw[yae,hl];omega),yaz]
  rw[show List.map (λs=>(s.size:Int)) r=zaT r from rfl]
  rw[List.drop_append_of_le_length (by omega),ybD (by omega),ybQ (by omega),yaB (by omega),ybC,ih]
  rfl
def zlP (l:List ByteArray) (t:List UInt8) (h: ∀s∈l,s.size<=64) (hn:l.length<=256):zlM l.length (zcC l++t)= .ok l t:=by
 have hsi:=zg1 h;have hsl:(zaT l).length=l.length:=by simp[zaT]
 have hbl:=zdZ hsi (by omega)
 have hr:=zhW hsi (by omega)
 rw[hsl]at hr;unfold zlM zcC zb0;rw[yam,yam,zga (by omega)]
 simp only[ydT,ybr,ybg,ydJ];rw[yaf (by rw[yae];omega),yd2,hr]
 simp only[ydT,ybr,ybg,ydJ];exact zki l t h
def zpO {l:List ByteArray}:(zcD l).map (pick (zhK l))=l:=by
 rw[zcD,ya3]
 conv=>rhs;rw[<- yc4 l]
 apply ya5;intro s hs;have h:=zqQ (zfq.2 hs);simp only[Function.comp,pick,yaz,id];rw[yaw,yal h];exact zuv h
def zoq (l:List ByteArray) (t:List UInt8) (h: ∀s∈l,s.size<=64) (hn:l.length<=256):(t=[]->zcG l.length (zc1 l++t)=(l,0))/\(t≠[]->(zcG l.length (zc1 l++t)).2≠0):=by
 unfold zc1;split
 ·have hu: ∀s∈zhK l,s.size<=64:=λs hs=>h s (zfq.1 hs)
  have hul:=zdI l;have hpi:=zlA hn;have hpl:(zcD l).length=l.length:=by simp[zcD]
  have hcut:=zlP (zhK l) (zb9 (zcD l)++t) hu (by omega)
  unfold zsA;rw[yam,yam,ya4,zcG];rw[yaf (by decide),zga (by omega)]
  simp only[ydT,ybr,ybg,ydJ];rw[yaf (by rw[show (1:UInt8).toNat=1 from rfl];omega),hcut]
  simp only;constructor
  ·rintro rfl
   have hr:=zhW hpi (by omega)
   rw[hpl]at hr;rw[yaq,hr];simp only[ydT,ybr,ybg];rw[yai,zpO];intro k hk;obtain⟨s,hs,rfl⟩:=List.mem_map.1 hk;have:=zqQ (zfq.2 hs);omega
  ·intro ht
   have hr:=ze5 hpi (by omega) ht
   rw[hpl]at hr;rw[yai hr];exact hr
 ·have hcut:=zlP l t h hn
  unfold zfR;rw[ya4,zcG];rw[yai (by decide),hcut]
  simp only;constructor
  ·rintro rfl
   rw[yaf (by simp)]
  ·intro ht
   rw[yai ht];simp
end Go.Am.Ab
namespace Go.Am.Ab
open Go.Proofs
set_option maxHeartbeats 4000000
def zpP (k:Nat) (v:Val):Prop:=v= .null\/(v.kind=k/\(∀n,v= .whole n->zaf n)/\ ∀s,v= .text s->s.size<=64)
def zgj (k:Nat) (l:List Val):Prop:= ∀v∈l,zpP k v
def zgj.odd {k:Nat} {l:List Val} (g:zgj k l):l.any (zwc k)=false:=by
 rw[List.any_eq_false];intro v hv;rcases g v hv with h | ⟨h,_⟩ <;> simp[zwc,h]
def zgj.long {k:Nat} {l:List Val} (g:zgj k l):l.any zn9=false:=by
 rw[List.any_eq_false];intro v hv;rcases g v hv with h | ⟨_,_,h⟩
 ·simp[zn9,h]
 ·cases v with
  |text s=>have:=h s rfl;simp[zn9];omega
  |_=>simp[zn9]
def zgj.i64 {k:Nat} {l:List Val} (g:zgj k l): ∀n,Val.whole n∈l->zaf n:=by
 intro n hn;rcases g _ hn with h | ⟨_,h,_⟩
 ·cases h
 ·exact h n rfl
def zgj.tail {k:Nat} {v:Val} {l:List Val} (g:zgj k (v::l)):zgj k l:=λx hx=>g x (by simp[hx])
def own (l:List Val):List Val:=l.filter λv=>decide (v≠ .null)
def zlQ: ∀ {l:List Val},zgj 1 l->(zcE l).map .whole=own l
 |[],_=>rfl
 |v::r,g=>by
  have ih:=zlQ g.tail;rcases g v (by simp) with h | ⟨h,_⟩
  ·subst h;simpa[zcE,own]using ih
  ·cases v <;> simp[Val.kind]at h
   simp only[zcE,own]at ih ⊢;simp[ih]
def zlR: ∀ {l:List Val},zgj 2 l->(zcF l).map .truth=own l
 |[],_=>rfl
 |v::r,g=>by
  have ih:=zlR g.tail;rcases g v (by simp) with h | ⟨h,_⟩
  ·subst h;simpa[zcF,own]using ih
  ·cases v <;> simp[Val.kind]at h
   simp only[zcF,own]at ih ⊢;simp[ih]
def zor: ∀ {l:List Val},zgj 3 l->(zdK l).map .text=own l
 |[],_=>rfl
 |v::r,g=>by
  have ih:=zor g.tail;rcases g v (by simp) with h | ⟨h,_⟩
  ·subst h;simpa[zdK,own]using ih
  ·cases v <;> simp[Val.kind]at h
   simp only[zdK,own]at ih ⊢;simp[ih]
def zu9 (b:Bool):decide (((bit b:Nat):Int)=1)=b:=by cases b <;> rfl
def zpQ {k:Nat} (hk:1<=k/\k<=3) {l:List Val} (g:zgj k l) (hn:l.length<=256) (t:List UInt8):
 (t=[]->zaF k (own l).length (zmy k l++t)=(own l,0))/\(t≠[]->(zaF k (own l).length (zmy k l++t)).2≠0):=by
 have hkl:=zeV l;have h:k=1\/k=2\/k=3:=by omega
 rcases h with rfl | rfl | rfl
 ·have hw:=zlQ g
  have hi:=zeU g.i64;have hlen:(own l).length=(zcE l).length:=by rw[<- hw];simp
  rw[hlen];unfold zaF zmy;simp only[ybm];constructor
  ·rintro rfl
   rw[yaq,zhW hi (by omega),hw]
  ·intro ht
   exact ze5 hi (by omega) ht
 ·have hw:=zlR g
  have hlen:(own l).length=(zcF l).length:=by rw[<- hw];simp
  rw[hlen];unfold zaF zmy;rw[yaf (by decide),yai rfl,yaf (by decide),yai rfl]
  constructor
  ·rintro rfl
   rw[yaq,ziy,<- hw];simp[zu9]
  ·intro ht
   exact zpN _ ht
 ·have hw:=zor g
  have hs:=zg5 g.long;have hlen:(own l).length=(zdK l).length:=by rw[<- hw];simp
  rw[hlen];unfold zaF zmy;rw[yaf (by decide),yaf (by decide),yaf (by decide),yaf (by decide)]
  obtain⟨h1,h2⟩:=zoq (zdK l) t hs (by omega)
  constructor
  ·intro ht
   rw[h1 ht,<- hw]
  ·exact h2
def zva (l:List Val) (zav:List UInt8):zfT l.length (zgb l++zav)= .ok ((zaI l).map bit) zav:=by
 have hl:=zaN l;unfold zgb
 by_cases h:false∈zaI l
 ·have hu:=ziy (zaI l)
  have hf:=ziz (zaI l);rw[hl]at hu hf;rw[yai h,ya4,zfT];rw[yaf (by decide),yai (by decide),yaf (by rw[yae];omega),<- hf,yd2,hu]
  simp only[ydT,ybr,ybg,ydJ]
 ·rw[yaf h,List.singleton_append,zfT]
  rw[yaf (by decide),yaf (by decide)]
  congr 1;apply ycL
  ·simp[hl]
  ·intro i h1 h2
   rw[List.getElem_replicate,ybE];have h3:i<(zaI l).length:=by simpa using h2
   cases e:(zaI l)[i] with
   |true=>rfl
   |false=>exact absurd (e ▸ yar h3) h
def zrf: ∀l:List Val,((zaI l).map bit).sum=(own l).length
 |[]=>rfl
 |v::r=>by
  have ih:=zrf r
  by_cases h:v= .null
  ·subst h
   simpa[zaI,own,bit]using ih
  ·have hd:decide (v≠ .null)=true:=by simp[h]
   simp only[zaI,own,ya1,ydQ,ydS,hd,ybm,yad]at ih ⊢;rw[ih];simp[bit];omega
def zrg: ∀l:List Val,zkd ((zaI l).map bit) (own l)=l
 |[]=>rfl
 |v::r=>by
  have ih:=zrg r
  by_cases h:v= .null
  ·subst h
   simpa[zaI,own,bit,zkd]using ih
  ·have hd:decide (v≠ .null)=true:=by simp[h]
   simp only[zaI,own,ya1,ydS,hd,ybm,zkd]at ih ⊢;rw[yai (by decide)]
   simp only[List.headD_cons,List.tail_cons,ih]
def zvb {k:Nat} (hk:1<=k/\k<=3) {l:List Val} (g:zgj k l) (hn:l.length<=256) (t:List UInt8):
 (t=[]->ze4 k l.length (zeu k l++t)=(l,0))/\(t≠[]->(ze4 k l.length (zeu k l++t)).2≠0):=by
 obtain⟨h1,h2⟩:=zpQ hk g hn t;unfold ze4 zeu;rw[yam,zva];simp only;rw[zrf];constructor
 ·intro ht
  rw[h1 ht];simp only[ydT,ybr,ybg];rw[zrg]
 ·intro ht
  rw[yai (h2 ht)];exact h2 ht
def zxA (l:List UInt8):(mkS l).size=l.length:=rfl
def zkj: ∀ {sz:List Int} {b zav:List UInt8} {l:List ByteArray},za4 sz b= .ok l zav-> ∀s∈l,s.size<=64
 |[],b,zav,l,h=>by
  unfold za4 at h;cases h;intro s hs;cases hs
 |k::r,b,zav,l,h=>by
  unfold za4 at h;split at h
  ·simp at h
  ·split at h
   ·simp at h
   ·rename_i h1 h2
    cases hp:za4 r (b.drop k.toNat) with
    |err e'=>rw[hp]at h;simp at h
    |ok l2 r2=>
     rw[hp]at h;simp at h;intro s hs;rw[<- h.1]at hs;rcases List.mem_cons.1 hs with rfl | hs
     ·rw[zxA,yat];omega
     ·exact zkj hp s hs
def zos {n:Int} {b zav:List UInt8} {l:List ByteArray} (h:zlM n b= .ok l zav): ∀s∈l,s.size<=64:=by
 unfold zlM at h;split at h
 ·simp at h
 ·split at h
  ·simp at h
  ·split at h
   ·simp at h
   ·exact zkj h
def zvc {u:List ByteArray} (h: ∀s∈u,s.size<=64) (k:Int):(pick u k).size<=64:=by
 unfold pick;rw[yaw];cases e:u[k.toNat]? with
 |none=>simp[ByteArray.size]
 |some s=>exact h s (yao e)
def zpR (n:Nat) (b:List UInt8): ∀s∈(zcG n b).1,s.size<=64:=by
 unfold zcG;split
 ·simp
 ·split
  ·split
   ·simp
   ·rename_i hp
    have:=zos hp;split <;> exact this
  ·split
   ·simp
   ·split
    ·simp
    ·split
     ·simp
     ·rename_i hp
      have:=zos hp;split
      ·simp
      ·split
       ·intro s hs
        obtain⟨k,_,rfl⟩:=List.mem_map.1 hs;exact zvc this k
       ·simp
def zot {k n:Nat} (hk:1<=k/\k<=3) {b:List UInt8} (h:(zaF k n b).2=0):zgj k (zaF k n b).1:=by
 have hc:k=1\/k=2\/k=3:=by omega
 intro v hv;right;rcases hc with rfl | rfl | rfl
 ·have h':(zbO b n).2=0:=h
  obtain⟨x,hx,rfl⟩:=List.mem_map.1 (show v∈(zbO b n).1.map .whole from hv)
  have:=(ziU h').2 x hx;exact⟨rfl,λm e=>(by cases e;exact this),λs e=>by cases e⟩
 ·obtain⟨x,hx,rfl⟩:=List.mem_map.1 (show v∈(zaK b n).1.map (λ(x:Nat)=>Val.truth (decide ((x:Int)=1))) from hv)
  exact⟨rfl,λm e=>(by cases e),λs e=>by cases e⟩
 ·obtain⟨x,hx,rfl⟩:=List.mem_map.1 (show v∈(zcG n b).1.map .text from hv)
  have:=zpR n b x hx;exact⟨rfl,λm e=>(by cases e),λs e=>by cases e;exact this⟩
def zmE {v:Val}: ∀ {th:List Nat} {o:List Val},v∈zkd th o->v= .null\/v∈o
 |[],o,h=>by simp[zkd]at h
 |x::t,o,h=>by
  unfold zkd at h;split at h
  ·rcases List.mem_cons.1 h with h | h
   ·cases o with
    |nil=>exact .inl h
    |cons y r=>exact .inr (by rw[h];simp)
   ·rcases zmE h with h | h
    ·exact .inl h
    ·exact .inr (List.mem_of_mem_tail h)
  ·rcases List.mem_cons.1 h with h | h
   ·exact .inl h
   ·exact zmE h
def zsZ {n:Nat} {b r:List UInt8} {th:List Nat} (h:zfT n b= .ok th r):th.length=n:=by
 unfold zfT at h;split at h
 ·cases h
 ·split at h
  ·cases h
  ·split at h
   ·split at h
    ·cases h
    ·split at h
     ·cases h
     ·rename_i c r0 h1 h2 h3 h4
      simp only[PR.ok.injEq]at h;rw[<- h.1];have h5:(zaK (r0.take ((n+7) / 8)) n).2=0:=by omega
      unfold zaK at h5 ⊢;split at h5
      ·simp at h5
      ·rename_i h6
       rw[yaf h6];split at h5
       ·rename_i h7;rw[yai h7];simp
       ·simp at h5
   ·simp only[PR.ok.injEq]at h
    rw[<- h.1];simp
def zlS {k n:Nat} (hk:1<=k/\k<=3) {b:List UInt8} (h:(ze4 k n b).2=0):zgj k (ze4 k n b).1/\(ze4 k n b).1.length=n:=by
 unfold ze4 at h ⊢;cases hp:zfT n b with
 |err e=>
  rw[hp]at h;exfalso;simp only at h;subst h;unfold zfT at hp;split at hp
  ·cases hp
  ·split at hp
   ·cases hp
   ·split at hp
    ·split at hp
     ·cases hp
     ·split at hp
      ·rename_i h4
       simp only[PR.err.injEq]at hp;exact h4 hp
      ·cases hp
    ·cases hp
 |ok th r=>
  rw[hp]at h;simp only at h ⊢;split at h
  ·rename_i h1;exact absurd h h1
  ·rename_i h1
   rw[yaf h1];have g:=zot hk (b:=r) (n:=th.sum) (by omega)
   refine⟨λv hv=> ?_, ?_⟩
   ·rcases zmE hv with h | h
    ·exact .inl h
    ·exact g v h
   ·simp only
    rw[zke,zsZ hp]
def zbQ (k:Nat) (b:List UInt8) (n:Int):List Val × Nat:=
 if ¬ (1<=k/\k<=3) then ([],10) else if n<0\/256<n then ([],1)
 else if (ze4 k n.toNat b).2≠0 then ([],(ze4 k n.toNat b).2)
 else if zeu k (ze4 k n.toNat b).1=b then ((ze4 k n.toNat b).1,0) else ([],40)
def zxB {k:Nat} (hk:1<=k/\k<=3) {l:List Val} (g:zgj k l) (hn:l.length<=256):zbQ k (zeu k l) l.length=(l,0):=by
 have h:=(zvb hk g hn []).1 rfl;rw[yaq]at h;unfold zbQ;rw[yaf (λc=>c hk),yaf (by omega),yaz,h]
 simp
end Go.Am.Ab
namespace Go.Am.Ab
open Go.Proofs
set_option maxHeartbeats 4000000
set_option maxRecDepth 4000
def zrh (k:Nat) (hk:1<=k/\k<=3) (l:List Val) (g:zgj k l) (hn:l.length<=256):R 45 [.d (.int .u8 k),.d (.list (vs l))] []=some ([.arr 0 (zeu k l).length,E 0],[.arr 1 (bytes (zeu k l)) 0]):=by
 have hc:k=1\/k=2\/k=3:=by omega
 rcases hc with rfl | rfl | rfl
 ·exact zsL l hn g.odd g.i64
 ·exact zsM l hn g.odd
 ·exact zsN l hn g.odd g.long
def zmF {k:Nat} {l:List Val} (hk:1<=k/\k<=3) (g:zgj k l) (hn:l.length<=256):(zeu k l).length<=200000:=by
 have hkl:=zeV l;have htl:=zaN l;have h1:=zc8 (l:=zaI l) (by omega)
 have h2:=zc8 (l:=zcF l) (by omega)
 have h3:=zdZ (zeU g.i64) (by omega)
 have h4:=zlJ (zg5 g.long) (by omega)
 unfold zeu zgb zmy;rw[yae];split <;> split <;> (try split) <;> simp only[yad,yav] <;> omega
def zhd (k:Nat) (hk256:k<256) (b:List UInt8) (n:Int) (hn:zaf n) (hb:b.length<1000000):
 R 110 [.d (.int .u8 k),B b,.d (.int .i64 n)] []=some ([.arr 0 (zbQ k b n).1.length,E (zbQ k b n).2],[.arr 1 (vs (zbQ k b n).1) (zbQ k b n).1.length]):=by
 have hr:=zfp k hk256;unfold zbQ
 by_cases hk:1<=k/\k<=3
 case neg=>
  rw[yaW hk]at hr;rw[yai hk];refine rg zAX rfl ?_;intro T hT;simp -dsimp -implicitDefEqProofs (disch:=first|omega|assumption) [hr]
  simpa -dsimp -implicitDefEqProofs (disch:=first|omega|assumption) [E]using hT
 rw[yaQ hk]at hr;rw[yaf (λc=>c hk)]
 by_cases h1:n<0
 ·rw[yai (.inl h1)]
  refine rg zAX rfl ?_;intro T hT;simp -dsimp -implicitDefEqProofs (disch:=first|omega|assumption) [hr,h1]
  simpa -dsimp -implicitDefEqProofs (disch:=first|omega|assumption) [E]using hT
 by_cases h2:256<n
 ·rw[yai (.inr h2)]
  refine rg zAX rfl ?_;intro T hT;simp -dsimp -implicitDefEqProofs (disch:=first|omega|assumption) [hr,h1,h2]
  simpa -dsimp -implicitDefEqProofs (disch:=first|omega|assumption) [E]using hT
 rw[yaf (by omega)]
 obtain⟨m,rfl⟩: ∃m:Nat,n=m:=⟨n.toNat,by omega⟩
 rw[yaz];have h:=zmD k m hk b (by omega) hb
 have hg:=zlS (n:=m) hk (b:=b);unfold Is VsR at h;obtain⟨v,hv⟩: ∃v,v=ze4 k m b:=⟨_,rfl⟩;rw[<- hv]at h hg ⊢
 by_cases h3:v.2≠0
 ·have h3': ¬ (v.2:Int)=0:=by omega
  rw[yai h3];refine rg zAX rfl ?_;intro T hT;simp -dsimp -implicitDefEqProofs (disch:=first|omega|assumption) [hr,h1,h2,h,h3,h3']
  simpa -dsimp -implicitDefEqProofs (disch:=first|omega|assumption) [E]using hT
 rw[yaf h3];have h3':v.2=0:=by omega
 obtain⟨g,gl⟩:=hg h3';rw[h3']at h;have hw:=zrh k hk v.1 g (by omega)
 have hcl:=zmF hk g (by omega)
 have heq:=zfw (zeu k v.1) b (by omega)
 by_cases h4:zeu k v.1=b
 ·rw[yai h4]
  rw[yaQ h4]at heq;refine rg zAX rfl ?_;intro T hT;simp -dsimp -implicitDefEqProofs (disch:=first|omega|assumption) [hr,h1,h2,h,hw,heq]
  simpa -dsimp -implicitDefEqProofs (disch:=first|omega|assumption) [E]using hT
 ·rw[yaf h4]
  rw[yaW h4]at heq;refine rg zAX rfl ?_;intro T hT;simp -dsimp -implicitDefEqProofs (disch:=first|omega|assumption) [hr,h1,h2,h,hw,heq]
  simpa -dsimp -implicitDefEqProofs (disch:=first|omega|assumption) [E]using hT
end Go.Am.Ab
