/- Columns, read. -/
import Derived.Test.YtlgdomajdebbdaaGreatDoorParsing
import Derived.Test.YtlgdomajdebbdaaGreatDoorColB
import Derived.Test.YtlgdomajdebbdaaGreatDoorColC
set_option linter.all false
namespace Go.Am.Ab
open Go.Proofs
set_option maxHeartbeats 4000000
set_option maxRecDepth 4000
def zlw (p:Option (D × List Am.Obj)) (t:Nat) (s:Slots) (h:List Am.Obj) (r:List (Nat × Nat)):Slots × List Am.Obj:=
 match p with
 |some (x,h0)=>let (s1,h1):=zaj s h0 r;((t,.d x)::s1,h1)
 |none=>zaj s h r
@[simp] def zu3 (x:D) (h0 h:List Am.Obj) (t:Nat) (s:Slots) (r:List (Nat × Nat)):zlw (some (x,h0)) t s h r=zez (zaj s h0 r) (λp=>((t,.d x)::p.1,p.2)) ⟨⟩:=rfl
@[simp] def zup {s:Slots} {h:List Am.Obj} {sz:Nat} {r:List (Nat × Nat)}:zaj s h ((1000015,sz)::r)=zlw (zcN h (zak s 15)) 15 s h r:=by
 have key: ∀t,zaj s h ((t+1000000,sz)::r)=zlw (zcN h (zak s t)) t s h r:=by
  intro t
  conv=>lhs;unfold zaj
  rw[if_neg (by omega),Nat.add_sub_cancel]
  unfold zlw;cases zcN h (zak s t) <;> rfl
 exact key 15
abbrev uz (l:List Int):List D:=l.map λn=>D.int .u64 n
@[simp] def zmW (x:Int): ∀n,zaw 1 (List.replicate n (D.int .u64 x))=true
 |0=>rfl
 |n+1=>by simp[List.replicate_succ,zmW x n]
@[simp] def zwV (l:List Int):zaw 1 (l.map λn=>D.int .u64 n)=true:=zaN l λ_=>rfl
@[simp] def zvY (l:List Nat):zaw 1 (l.map λ(n:Nat)=>D.int .u64 (n:Int))=true:=zaN l λ_=>rfl
def zmX (x:Int) (n:Nat) (hn:n<=256):R 189 [.arr 0 1,.d (.int .i64 n)] [.arr 1 [.int .u64 x] 0]=some ([.arr 1 n],[.arr 1 [.int .u64 x] 0,.arr 1 (uz (List.replicate n x)) 0]):=by
 have hm:=zhy n hn;have hw:IntKind.u64.wrap (n:Int)=n:=zae (by omega) (by omega)
 have hw1:IntKind.u64.wrap 1=1:=zae (by omega) (by omega)
 have hn0: ¬ (n:Int)<0:=by omega
 have hfit: ¬ (9223372036854775807:Int)<n:=by omega
 have hqi:IntKind.i64.wrap (n:Int)=n:=wI (by omega) (by omega)
 by_cases h0:n=0
 ·subst h0
  rw[show ((0:Nat):Int)=0 from rfl]at*
  refine rg zDp rfl ?_;intro T hT;simp -dsimp -implicitDefEqProofs (disch:=first|omega|assumption) [hm,hw,hw1]
  generalize hz:zac _ _ _ _ _ _=z;revert z;refine zaa (σ:=Unit) (λ_=>[(7,.arr 1 0),(8,.d (.int .i64 0))]) (λ_=>[.arr 1 [.int .u64 x] 0,.arr 1 [] 0]) (λ_=>True) (λ_=>0) () ?_ ?_ ?_
  ·trivial
  ·simp -dsimp -implicitDefEqProofs (disch:=first|omega|assumption)
  intro T' f hT' _ _ ih;subst hT';simp -dsimp -implicitDefEqProofs (disch:=first|omega|assumption)
  simpa -dsimp -implicitDefEqProofs (disch:=first|omega|assumption) using hT
 ·have h0': ¬ (n:Int)=0:=by omega
  have hmin:min 1 n=1:=by omega
  have hpos:0<n:=by omega
  have hfl: ∀j,j<=n->(zbC x n j).length=n:=λj hj=>by simp[zbC];omega
  have htk:List.take n [D.int .u64 x]=[D.int .u64 x]:=List.take_of_length_le (by simp;omega)
  refine rg zDp rfl ?_;intro T hT;simp -dsimp -implicitDefEqProofs (disch:=first|omega|assumption) [hm,hw,hw1,hn0,hfit,hqi,h0,h0',hmin,hpos,htk]
  generalize hz:zac _ _ _ _ _ _=z;revert z;refine zaa (σ:=Nat) (λj=>[(7,.arr 1 n),(8,.d (.int .i64 j))]) (λj=>[.arr 1 [.int .u64 x] 0,.arr 1 (uz (zbC x n j)) 0]) (λj=>0<j/\j<=n) (λj=>n - j) 1 ?_ ?_ ?_
  ·omega
  ·simp -dsimp -implicitDefEqProofs (disch:=first|omega|assumption) [zbC]
  intro T' f hT' j ⟨hj0,hj⟩ ih;have hfj:=hfl j hj
  by_cases h1:j<n
  ·have h1':(j:Int)<n:=by omega
   have hnj: ¬ 0=n:=by omega
   have hjle:j<=n:=hj;obtain⟨k,hk⟩: ∃k,k=min (n - j) j:=⟨_,rfl⟩;have hk':min (n - j) j=k:=hk.symm;have hk2:min j (n - j)=k:=by omega
   have hA:List.take j (List.map (λn=>D.int .u64 n) (zbC x n j))=List.replicate j (D.int .u64 x):=by
    unfold zbC;rw[List.map_append,List.take_append_of_le_length (by simp),List.take_of_length_le (by simp)];simp
   have hC:List.drop (j+k) (List.map (λn=>D.int .u64 n) (zbC x n j))=List.replicate (n - j - k) (D.int .u64 0):=by
    unfold zbC;rw[List.map_append,List.drop_append,List.drop_of_length_le (by simp),List.nil_append]
    simp
   have hD:List.replicate j (D.int .u64 x)++(List.replicate k (D.int .u64 x)++List.replicate (n - j - k) (D.int .u64 0))=List.map (λn=>D.int .u64 n) (zbC x n (j+k)):=by
    unfold zbC;rw[<- List.append_assoc,List.replicate_append_replicate,show n - (j+k)=n - j - k by omega]
    simp
   simp -dsimp -implicitDefEqProofs (disch:=first|omega|assumption) [h1,h1',hfj,hnj,hjle,hA,hk',hk2,hC,hD]
   have hnjk:n - (j+k)=n - j - k:=by omega
   exact ih (j+k) _ _ (by omega) (by omega) (by simp -dsimp -implicitDefEqProofs (disch:=first|omega|assumption) [zbC,hnjk])
  ·have hjn:j=n:=by omega
   have hff:zbC x n n=List.replicate n x:=by simp[zbC]
   subst hT';rw[hjn,hff];simp -dsimp -implicitDefEqProofs (disch:=first|omega|assumption)
   simpa -dsimp -implicitDefEqProofs (disch:=first|omega|assumption) using hT
def zbE (n:Nat) (b:List UInt8):PR (List Nat):=
 match b with
 |[]=> .err 30
 |c::r=>
  if 1<c.toNat then .err 40
  else if c.toNat=1 then
   if r.length<(n+7) / 8 then .err 30
   else if (zan (r.take ((n+7) / 8)) n).2≠0 then .err (zan (r.take ((n+7) / 8)) n).2
   else .ok (zan (r.take ((n+7) / 8)) n).1 (r.drop ((n+7) / 8))
  else .ok (List.replicate n 1) r
def zjh:List Nat->List Val->List Val
 |[],_=>[]
 |x::t,own=>if x=1 then own.headD .null::zjh t own.tail else .null::zjh t own
def zd5 (k n:Nat) (b:List UInt8):List Val × Nat:=
 match zbE n b with
 |.err e=>([],e)
 |.ok th r=>if (zaH k th.sum r).2≠0 then ([],(zaH k th.sum r).2) else (zjh th (zaH k th.sum r).1,0)
def zji: ∀ (th:List Nat) (own:List Val),(zjh th own).length=th.length
 |[],_=>rfl
 |x::t,own=>by
  unfold zjh;split <;> simp[zji t]
def zlH (l:List Val) (n:Nat):List D:=vs l++List.replicate (n - l.length) .nilI
def zps (n:Nat):zlH [] n=List.replicate n .nilI:=by simp[zlH]
def zjj {l:List Val} {n:Nat} (h:l.length<=n):(zlH l n).length=n:=by simp[zlH];omega
def zpt {l:List Val} {n:Nat} (h:l.length<n):(zlH l n)[l.length]? =some .nilI:=by
 rw[zlH,List.getElem?_append_right (by simp),List.length_map,Nat.sub_self,List.getElem?_replicate,if_pos (by omega)]
def zpu {l:List Val} {n:Nat} (h:l.length<n) (v:Val):(zlH l n).set l.length v.d=zlH (l++[v]) n:=by
 have e:n - l.length=(n - (l.length+1))+1:=by omega
 have hl:(vs l).length=l.length:=by simp
 rw[zlH,zlH,e,List.replicate_succ,List.set_append_right _ _ (by omega),hl,Nat.sub_self,List.set_cons_zero,List.length_append,List.length_singleton]
 simp
def zmY {l:List Val} {n:Nat} (h:l.length<n):zlH l n=zlH (l++[.null]) n:=by
 have e:n - l.length=(n - (l.length+1))+1:=by omega
 rw[zlH,zlH,e,List.replicate_succ,List.length_append,List.length_singleton];simp[Val.d]
def zpv {l:List Val} {n:Nat} (h:l.length=n):zlH l n=vs l:=by simp[zlH,h]
def zgs {l:List Nat} {i:Nat} (h:i<l.length):(l.take (i+1)).sum=(l.take i).sum+l[i]:=by
 rw[zam h,List.sum_append];simp
def ze0 {l:List Nat} (h: ∀x∈l,x<=1):l.sum<=l.length:=by
 induction l with
 |nil=>simp
 |cons x r ih=>
  have h1:=h x (by simp)
  have h2:=ih λy hy=>h y (by simp[hy])
  simp only[List.sum_cons,List.length_cons];omega
def zkA: ∀ {sz:List Int} {b zaB:List UInt8} {l:List ByteArray},zbe sz b= .ok l zaB->l.length=sz.length
 |[],b,zaB,l,h=>by simp[zbe]at h;simp[<- h.1]
 |k::r,b,zaB,l,h=>by
  unfold zbe at h;split at h
  ·simp at h
  ·split at h
   ·simp at h
   ·cases hp:zbe r (b.drop k.toNat) with
    |err e'=>rw[hp]at h;simp at h
    |ok l2 r2=>
     rw[hp]at h;simp at h;rw[<- h.1];simp[zkA hp]
def zet {b:List UInt8} {n:Int} (h:(zaV b n).2=0):((zaV b n).1.length:Int)=n/\ ∀x∈(zaV b n).1,zah x:=by
 unfold zaV at h ⊢;split at h
 ·simp at h
 ·rename_i hn
  rw[if_neg hn];cases b with
  |nil=>simp at h
  |cons c r=>
   simp only at h ⊢;split at h
   ·simp at h
   ·rename_i hc
    rw[if_neg hc];unfold zuc at h ⊢;cases hp:zen c.toNat n.toNat r with
    |err e=>rw[hp]at h;simp only at h ⊢;exact absurd h (ziY hp)
    |ok l r2=>
     rw[hp]at h;simp only at h ⊢;split at h
     ·simp at h
     ·rename_i h2
      rw[if_neg h2];split at h
      ·rename_i h3
       rw[if_pos h3];have:=zhX hp;exact⟨by simp only;omega,this.2⟩
      ·simp at h
def zuq {n:Int} {b zaB:List UInt8} {l:List ByteArray} (h:zjD n b= .ok l zaB):(l.length:Int)=n:=by
 unfold zjD at h;split at h
 ·simp at h
 ·split at h
  ·simp at h
  ·split at h
   ·simp at h
   ·rename_i h3
    rw[zkA h];exact (zet (by omega)).1
def zjk {k n:Nat} {b:List UInt8} (h:(zaH k n b).2=0):(zaH k n b).1.length=n:=by
 unfold zaH at h ⊢;split
 ·rename_i h1
  rw[if_pos h1]at h;have:=(zet h).1;simp only[List.length_map];omega
 ·rename_i h1
  rw[if_neg h1]at h;split
  ·rename_i h2
   rw[if_pos h2]at h;simp only[List.length_map]at h ⊢;unfold zan at h ⊢;split at h
   ·simp at h
   ·rename_i h3
    rw[if_neg h3];split at h
    ·rename_i h4
     rw[if_pos h4];simp
    ·simp at h
  ·rename_i h2
   rw[if_neg h2]at h;simp only[List.length_map]at h ⊢;unfold zb7 at h ⊢;cases b with
   |nil=>simp at h
   |cons c r=>
    simp only at h ⊢;split at h
    ·rename_i h3
     rw[if_pos h3];cases hp:zjD (n:Int) r with
     |err e=>rw[hp]at h;exact absurd h (zh3 hp)
     |ok l zaB=>
      rw[hp]at h;simp only at h ⊢;split at h
      ·simp at h
      ·rename_i h4
       rw[if_neg h4];have:=zuq hp;simp only;omega
    ·rename_i h3
     rw[if_neg h3];split at h
     ·rename_i h4;exact absurd h h4
     ·rename_i h4
      rw[if_neg h4];split at h
      ·simp at h
      ·rename_i h5
       rw[if_neg h5];cases hp:zjD ((get r).1:Int) (r.drop (get r).2.1) with
       |err e=>rw[hp]at h;exact absurd h (zh3 hp)
       |ok u zaB=>
        rw[hp]at h;simp only at h ⊢;split at h
        ·rename_i h6;exact absurd h h6
        ·rename_i h6
         rw[if_neg h6];split at h
         ·rename_i h7
          rw[if_pos h7];have:=(zet (b:=zaB) (n:=n) (by omega)).1
          simp only[List.length_map];omega
         ·simp at h
def zjl (k n:Nat) (hk:1<=k/\k<=3) (b:List UInt8) (hn:n<=256) (hb:b.length<1000000):R 191 [.d (.int .u8 k),B b,.d (.int .i64 n)] []=VsR (zaH k n b):=by
 have h:k=1\/k=2\/k=3:=by omega
 rcases h with rfl | rfl | rfl
 ·exact zmQ b n hn hb
 ·exact zmR b n hn hb
 ·exact zmS b n hn hb
def zlx (k n:Nat) (hk:1<=k/\k<=3) (b:List UInt8) (hn:n<=256) (hb:b.length<1000000):Is (VsR (zd5 k n b)) (R 132 [.d (.int .u8 k),B b,.d (.int .i64 n)] []):=by
 cases b with
 |nil=>
  refine ra zwL rfl (zaK (zdl _)) ?_;simp -dsimp -implicitDefEqProofs (disch:=first|omega|assumption)
  simp[Is,VsR,zd5,zbE,E]
 |cons c r=>
 simp only[List.length_cons]at hb;have hl0: ¬ ((r.length:Int)+1=0):=by omega
 have hrep:=zmX 1 n hn;have huz:uz (List.replicate n 1)=uc (List.replicate n 1):=by simp
 rw[huz]at hrep;unfold zd5 zbE;simp only
 by_cases c1:1<c.toNat
 ·have c1':(1:Int)<c.toNat:=by omega
  rw[if_pos c1];refine ra zwL rfl (zaK (zdl _)) ?_;simp -dsimp -implicitDefEqProofs (disch:=first|omega|assumption) [hl0,hrep,c1,c1']
  simp[Is,VsR,E]
 rw[if_neg c1];have c1': ¬ (1:Int)<c.toNat:=by omega
 by_cases c2:c.toNat=1
 ·rw[if_pos c2]
  have c2':(c.toNat:Int)=1:=by omega
  obtain⟨sz,hsz⟩: ∃sz,sz=(n+7) / 8:=⟨_,rfl⟩;have hsz':((n:Int)+7) / 8=sz:=by omega
  rw[<- hsz]
  by_cases c3:r.length<sz
  ·rw[if_pos c3]
   have c3':(r.length:Int)<sz:=by omega
   refine ra zwL rfl (zaK (zdl _)) ?_;simp -dsimp -implicitDefEqProofs (disch:=first|omega|assumption) [hl0,hrep,c1,c1',c2,c2',hsz',c3,c3']
   simp[Is,VsR,E]
  rw[if_neg c3];have c3': ¬ (r.length:Int)<sz:=by omega
  have c3b:sz<=r.length:=by omega
  obtain⟨bt,hbt⟩: ∃bt,bt=r.take sz:=⟨_,rfl⟩;obtain⟨rb,hbd⟩: ∃rb,rb=r.drop sz:=⟨_,rfl⟩;have hbt':List.take sz (bytes r)=bytes bt:=by rw[hbt,bytes,bytes,List.map_take]
  have hbd':List.drop sz (bytes r)=bytes rb:=by rw[hbd,bytes,bytes,List.map_drop]
  have hbtl:bt.length<1000000:=by rw[hbt,List.length_take];omega
  have hrbl:rb.length<1000000:=by rw[hbd,List.length_drop];omega
  rw[<- hbt,<- hbd];have hup:=zhB bt n hn hbtl;have hth0: ∀x∈(zan bt n).1,x<=1:=by
   unfold zan;split
   ·simp
   ·split
    ·intro x hx
     simp only[ups,List.mem_map]at hx;obtain⟨j,_,rfl⟩:=hx;omega
    ·simp
  have hthl0:(zan bt n).2=0->(zan bt n).1.length=n:=by
   unfold zan;split
   ·simp
   ·split
    ·simp
    ·simp
  obtain⟨th,hte⟩: ∃th,th=(zan bt n).1:=⟨_,rfl⟩;obtain⟨e,hee⟩: ∃e,e=(zan bt n).2:=⟨_,rfl⟩;rw[<- hte,<- hee]at hup hthl0;rw[<- hte]at hth0;rw[<- hte,<- hee];clear hte hee hbt hbd hsz
  by_cases c4:e≠0
  ·rw[if_pos c4]
   have c4': ¬ (e:Int)=0:=by omega
   refine ra zwL rfl (zaK (zdl _)) ?_;simp -dsimp -implicitDefEqProofs (disch:=first|omega|assumption) [hl0,hrep,c1,c1',c2,c2',hsz',c3,c3',c3b,hbt',hup,c4,c4']
   simp[Is,VsR,E]
  rw[if_neg c4];have c4':e=0:=by omega
  subst c4';have hthl:=hthl0 rfl;have hth:=hth0;subst hthl;have hsum:=ze0 hth;have hval:=zjl k th.sum hk rb (by omega) hrbl
  have hvl:(zaH k th.sum rb).2=0->(zaH k th.sum rb).1.length=th.sum:=zjk;simp only;generalize hA:(if (zaH k th.sum rb).2≠0 then (([]:List Val),(zaH k th.sum rb).2) else (zjh th (zaH k th.sum rb).1,0))=A
  refine ra zwL rfl (zaK (zdl _)) ?_;simp -dsimp -implicitDefEqProofs (disch:=first|omega|assumption) [hl0,hrep,c1,c1',c2,c2',hsz',c3,c3',c3b,hbt',hup,hbd']
  generalize hz:zac _ _ _ _ _ _=z;revert z;refine zaa (σ:=Nat) (λi=>[(0,.d (.int .u8 k)),(1,B rb),(2,.d (.int .i64 th.length)),(9,.arr 0 th.length),(12,.d (.int .i64 ((th.take i).sum:Nat))),(56,.arr 0 th.length),(57,.d (.int .i64 th.length)),(58,.d (.int .i64 i))]) (λi=>[.arr 1 (uc th) 0]) (λi=>i<=th.length) (λi=>th.length - i) 0 ?_ ?_ ?_
  ·exact Nat.zero_le _
  ·simp -dsimp -implicitDefEqProofs (disch:=first|omega|assumption) [B]
  intro T' f hT' i hi ih
  by_cases h1:i<th.length
  ·have h1':i<th.length:=by omega
   have hx:=hth th[i] (List.getElem_mem _);have hs:=zgs h1';have hsl:(th.take i).sum<=i:=by
    have:=ze0 (l:=th.take i) λx hx=>hth x (List.mem_of_mem_take hx)
    have h2:(th.take i).length<=i:=by simp;omega
    omega
   obtain⟨x,hxe⟩: ∃x,x=th[i]:=⟨_,rfl⟩;rw[<- hxe]at hx hs;have gx:=hxe.symm;have hw:IntKind.i64.wrap (x:Int)=x:=wI (by omega) (by omega)
   simp -dsimp -implicitDefEqProofs (disch:=first|omega|assumption) [h1,h1',gx,hw]
   refine ih (i+1) _ _ h1 (by omega) ?_
   rw[hs];simp -dsimp -implicitDefEqProofs (disch:=first|omega|assumption) [B]
  obtain rfl:i=th.length:=by omega
  subst hT';clear ih hi h1;rw[List.take_length];obtain⟨v,hv⟩: ∃v,v=zaH k th.sum rb:=⟨_,rfl⟩;rw[<- hv]at hval hvl hA
  by_cases hv0:v.2≠0
  ·have hv0': ¬ (v.2:Int)=0:=by omega
   rw[if_pos hv0]at hA;subst hA;unfold VsR at hval;simp -dsimp -implicitDefEqProofs (disch:=first|omega|assumption) [hval,hv0,hv0']
   simp[Is,VsR,E]
  rw[if_neg hv0]at hA;subst hA;have hv0':v.2=0:=by omega
  have hvl':=hvl hv0';unfold VsR at hval;rw[hv0']at hval;simp -dsimp -implicitDefEqProofs (disch:=first|omega|assumption) [hval]
  generalize hT0:Is _=T0;have fin: ∀r,r=VsR (zjh th v.1,0)->T0 r:=λr hr=>by rw[<- hT0];exact hr
  generalize hz:zac _ _ _ _ _ _=z;revert z;refine zaa (σ:=Nat × List Val × List Val) (λx=>[(15,.d (.list (vs x.2.2))),(17,.arr 0 th.length),(79,.arr 1 th.length),(80,.d (.int .i64 th.length)),(81,.d (.int .i64 x.1))]) (λx=>[.arr 1 (zlH x.2.1 th.length) 0,.arr 1 (uc th) 0]) (λx=>x.1<=th.length/\x.2.1.length=x.1/\x.2.2.length=(th.drop x.1).sum/\zjh th v.1=x.2.1++zjh (th.drop x.1) x.2.2) (λx=>th.length - x.1) (0,[],v.1) ?_ ?_ ?_
  ·exact⟨Nat.zero_le _,rfl,by rw[List.drop_zero];exact hvl',by rw[List.drop_zero];rfl⟩
  ·simp -dsimp -implicitDefEqProofs (disch:=first|omega|assumption) [zps]
  intro T2 f2 hT2 ⟨i,dn,own⟩ ⟨hi,hdl,hol,hsc⟩ ih;simp only at hi hdl hol hsc ih
  by_cases h1:i<th.length
  ·have hdr:th.drop i=th[i]::th.drop (i+1):=List.drop_eq_getElem_cons h1
   obtain⟨x,hxe⟩: ∃x,x=th[i]:=⟨_,rfl⟩;have hx:=hth th[i] (List.getElem_mem _);rw[<- hxe]at hdr hx;have gx:=hxe.symm;rw[hdr,List.sum_cons]at hol;rw[hdr,zjh]at hsc;have hol2:=zjj (l:=dn) (n:=th.length) (by omega)
   have hog:=zpt (l:=dn) (n:=th.length) (by omega)
   rw[hdl]at hog
   by_cases hx1:x=1
   ·rw[if_pos hx1]at hsc
    cases own with
    |nil=>simp only[List.length_nil]at hol;omega
    |cons v0 own'=>
     have hos:=zpu (l:=dn) (n:=th.length) (by omega) v0
     rw[hdl]at hos;subst hx1;simp only[List.length_cons]at hol;simp -dsimp -implicitDefEqProofs (disch:=first|omega|assumption) [h1,gx,hol2,hog,hos]
     refine ih (i+1,dn++[v0],own') _ _ ⟨h1,by simp[hdl],by simp only;omega, ?_⟩ (by simp only;omega) ?_
     ·rw[hsc];simp
     ·simp -dsimp -implicitDefEqProofs (disch:=first|omega|assumption)
   ·rw[if_neg hx1]at hsc
    have hx1': ¬ (x:Int)=1:=by omega
    have hon:=zmY (l:=dn) (n:=th.length) (by omega)
    simp -dsimp -implicitDefEqProofs (disch:=first|omega|assumption) [h1,gx,hol2,hx1']
    refine ih (i+1,dn++[.null],own) _ _ ⟨h1,by simp[hdl],by simp only;omega, ?_⟩ (by simp only;omega) ?_
    ·rw[hsc];simp
    ·rw[<- hon]
     simp -dsimp -implicitDefEqProofs (disch:=first|omega|assumption)
  ·obtain rfl:i=th.length:=by omega
   rw[List.drop_length,zjh,List.append_nil]at hsc;have hoe:=zpv (l:=dn) (n:=th.length) hdl;subst hT2;rw[hoe];simp -dsimp -implicitDefEqProofs (disch:=first|omega|assumption) [hdl]
   refine fin _ ?_;rw[hsc];simp[VsR,E,hdl]
 ·rw[if_neg c2]
  have c2': ¬ (c.toNat:Int)=1:=by omega
  obtain⟨th,hte⟩: ∃th,th=List.replicate n 1:=⟨_,rfl⟩;have hth: ∀x∈th,x<=1:=by rw[hte];intro x hx;have:=List.eq_of_mem_replicate hx;omega
  have hthl:th.length=n:=by rw[hte];simp
  rw[<- hte]at hrep ⊢;clear hte huz;subst hthl;obtain⟨rb,hrb⟩: ∃rb,rb=r:=⟨_,rfl⟩;rw[<- hrb]at hb hl0 ⊢;clear hrb;have hsum:=ze0 hth;have hval:=zjl k th.sum hk rb (by omega) (by omega)
  have hvl:(zaH k th.sum rb).2=0->(zaH k th.sum rb).1.length=th.sum:=zjk;simp only;generalize hA:(if (zaH k th.sum rb).2≠0 then (([]:List Val),(zaH k th.sum rb).2) else (zjh th (zaH k th.sum rb).1,0))=A
  refine ra zwL rfl (zaK (zdl _)) ?_;simp -dsimp -implicitDefEqProofs (disch:=first|omega|assumption) [hl0,hrep,c1,c1',c2,c2']
  generalize hz:zac _ _ _ _ _ _=z;revert z;refine zaa (σ:=Nat) (λi=>[(0,.d (.int .u8 k)),(1,B rb),(2,.d (.int .i64 th.length)),(9,.arr 0 th.length),(12,.d (.int .i64 ((th.take i).sum:Nat))),(56,.arr 0 th.length),(57,.d (.int .i64 th.length)),(58,.d (.int .i64 i))]) (λi=>[.arr 1 (uc th) 0]) (λi=>i<=th.length) (λi=>th.length - i) 0 ?_ ?_ ?_
  ·exact Nat.zero_le _
  ·simp -dsimp -implicitDefEqProofs (disch:=first|omega|assumption) [B]
  intro T' f hT' i hi ih
  by_cases h1:i<th.length
  ·have h1':i<th.length:=by omega
   have hx:=hth th[i] (List.getElem_mem _);have hs:=zgs h1';have hsl:(th.take i).sum<=i:=by
    have:=ze0 (l:=th.take i) λx hx=>hth x (List.mem_of_mem_take hx)
    have h2:(th.take i).length<=i:=by simp;omega
    omega
   obtain⟨x,hxe⟩: ∃x,x=th[i]:=⟨_,rfl⟩;rw[<- hxe]at hx hs;have gx:=hxe.symm;have hw:IntKind.i64.wrap (x:Int)=x:=wI (by omega) (by omega)
   simp -dsimp -implicitDefEqProofs (disch:=first|omega|assumption) [h1,h1',gx,hw]
   refine ih (i+1) _ _ h1 (by omega) ?_
   rw[hs];simp -dsimp -implicitDefEqProofs (disch:=first|omega|assumption) [B]
  obtain rfl:i=th.length:=by omega
  subst hT';clear ih hi h1;rw[List.take_length];obtain⟨v,hv⟩: ∃v,v=zaH k th.sum rb:=⟨_,rfl⟩;rw[<- hv]at hval hvl hA
  by_cases hv0:v.2≠0
  ·have hv0': ¬ (v.2:Int)=0:=by omega
   rw[if_pos hv0]at hA;subst hA;unfold VsR at hval;simp -dsimp -implicitDefEqProofs (disch:=first|omega|assumption) [hval,hv0,hv0']
   simp[Is,VsR,E]
  rw[if_neg hv0]at hA;subst hA;have hv0':v.2=0:=by omega
  have hvl':=hvl hv0';unfold VsR at hval;rw[hv0']at hval;simp -dsimp -implicitDefEqProofs (disch:=first|omega|assumption) [hval]
  generalize hT0:Is _=T0;have fin: ∀r,r=VsR (zjh th v.1,0)->T0 r:=λr hr=>by rw[<- hT0];exact hr
  generalize hz:zac _ _ _ _ _ _=z;revert z;refine zaa (σ:=Nat × List Val × List Val) (λx=>[(15,.d (.list (vs x.2.2))),(17,.arr 0 th.length),(79,.arr 1 th.length),(80,.d (.int .i64 th.length)),(81,.d (.int .i64 x.1))]) (λx=>[.arr 1 (zlH x.2.1 th.length) 0,.arr 1 (uc th) 0]) (λx=>x.1<=th.length/\x.2.1.length=x.1/\x.2.2.length=(th.drop x.1).sum/\zjh th v.1=x.2.1++zjh (th.drop x.1) x.2.2) (λx=>th.length - x.1) (0,[],v.1) ?_ ?_ ?_
  ·exact⟨Nat.zero_le _,rfl,by rw[List.drop_zero];exact hvl',by rw[List.drop_zero];rfl⟩
  ·simp -dsimp -implicitDefEqProofs (disch:=first|omega|assumption) [zps]
  intro T2 f2 hT2 ⟨i,dn,own⟩ ⟨hi,hdl,hol,hsc⟩ ih;simp only at hi hdl hol hsc ih
  by_cases h1:i<th.length
  ·have hdr:th.drop i=th[i]::th.drop (i+1):=List.drop_eq_getElem_cons h1
   obtain⟨x,hxe⟩: ∃x,x=th[i]:=⟨_,rfl⟩;have hx:=hth th[i] (List.getElem_mem _);rw[<- hxe]at hdr hx;have gx:=hxe.symm;rw[hdr,List.sum_cons]at hol;rw[hdr,zjh]at hsc;have hol2:=zjj (l:=dn) (n:=th.length) (by omega)
   have hog:=zpt (l:=dn) (n:=th.length) (by omega)
   rw[hdl]at hog
   by_cases hx1:x=1
   ·rw[if_pos hx1]at hsc
    cases own with
    |nil=>simp only[List.length_nil]at hol;omega
    |cons v0 own'=>
     have hos:=zpu (l:=dn) (n:=th.length) (by omega) v0
     rw[hdl]at hos;subst hx1;simp only[List.length_cons]at hol;simp -dsimp -implicitDefEqProofs (disch:=first|omega|assumption) [h1,gx,hol2,hog,hos]
     refine ih (i+1,dn++[v0],own') _ _ ⟨h1,by simp[hdl],by simp only;omega, ?_⟩ (by simp only;omega) ?_
     ·rw[hsc];simp
     ·simp -dsimp -implicitDefEqProofs (disch:=first|omega|assumption)
   ·rw[if_neg hx1]at hsc
    have hx1': ¬ (x:Int)=1:=by omega
    have hon:=zmY (l:=dn) (n:=th.length) (by omega)
    simp -dsimp -implicitDefEqProofs (disch:=first|omega|assumption) [h1,gx,hol2,hx1']
    refine ih (i+1,dn++[.null],own) _ _ ⟨h1,by simp[hdl],by simp only;omega, ?_⟩ (by simp only;omega) ?_
    ·rw[hsc];simp
    ·rw[<- hon]
     simp -dsimp -implicitDefEqProofs (disch:=first|omega|assumption)
  ·obtain rfl:i=th.length:=by omega
   rw[List.drop_length,zjh,List.append_nil]at hsc;have hoe:=zpv (l:=dn) (n:=th.length) hdl;subst hT2;rw[hoe];simp -dsimp -implicitDefEqProofs (disch:=first|omega|assumption) [hdl]
   refine fin _ ?_;rw[hsc];simp[VsR,E,hdl]
end Go.Am.Ab
namespace Go.Am.Ab
open Go.Proofs
set_option maxHeartbeats 4000000
def ze1 {l:List Int} {t:List UInt8} (h: ∀n∈l,zah n) (hn:l.length<=256) (ht:t≠[]):(zaV (zbx l++t) l.length).2≠0:=by
 obtain⟨⟨c,hc,e⟩,_⟩:=zmE l;rw[e,List.cons_append,zqs hc h hn ht];simp
def ze2 (l:List Bool):zan (za8 l) l.length=(l.map bit,0):=by
 have hb:=zo8 l;have h:=zdS (w:=1) (p:=l.map bit) hb;have hl:(zbd 1 (l.map bit)).length=(l.length+7) / 8:=by rw[zcM];simp
 unfold za6 at h;rw[List.length_map,Nat.mul_one,hl,if_neg (Nat.lt_irrefl _),if_neg (Nat.lt_irrefl _)]at h;unfold zan za8;rw[hl,if_neg (λk=>k rfl)]
 split at h
 ·rename_i h2
  rw[if_pos h2];simp only[PR.ok.injEq,and_true]at h;rw[h]
 ·cases h
def zhC (l:List Bool):(za8 l).length=(l.length+7) / 8:=by
 unfold za8;rw[zcM];simp
def zn7 (l:List Bool) {t:List UInt8} (ht:t≠[]):(zan (za8 l++t) l.length).2≠0:=by
 have h1:=zhC l;have h2:0<t.length:=List.length_pos_iff.2 ht;unfold zan;rw[if_pos (by rw[List.length_append];omega)]
 simp
def zkB (s:ByteArray) (r:List ByteArray):zdR (s::r) (s::r).length=s.data.toList++zdR r r.length:=by
 simp[zdR]
def zjm: ∀ (l:List ByteArray) (t:List UInt8),(∀s∈l,s.size<=64)->zbe (zaY l) (zdR l l.length++t)= .ok l t
 |[],t,_=>rfl
 |s::r,t,h=>by
  have hs:=h s (by simp)
  have hl:=zfP s;have ih:=zjm r t λx hx=>h x (by simp[hx])
  rw[zkB,zaY,List.map_cons,zbe,if_neg (by omega),List.append_assoc,if_neg (by rw[List.length_append,hl];omega),Int.toNat_natCast]
  rw[show List.map (λs=>(s.size:Int)) r=zaY r from rfl]
  rw[List.drop_append_of_le_length (by omega),List.take_append_of_le_length (by omega),List.drop_of_length_le (by omega),List.take_of_length_le (by omega),List.nil_append,ih]
  rfl
def zkC (l:List ByteArray) (t:List UInt8) (h: ∀s∈l,s.size<=64) (hn:l.length<=256):zjD l.length (zbr l++t)= .ok l t:=by
 have hsi:=zem h;have hsl:(zaY l).length=l.length:=by simp[zaY]
 have hbl:=zbY hsi (by omega)
 have hr:=zdr hsi (by omega)
 rw[hsl]at hr;unfold zjD zbr zbb;rw[List.append_assoc,List.append_assoc,zeV (by omega)]
 simp only[ne_eq,not_true_eq_false,if_false,List.drop_left];rw[if_neg (by rw[List.length_append];omega),List.take_left,hr]
 simp only[ne_eq,not_true_eq_false,if_false,List.drop_left];exact zjm l t h
def zjn {l:List ByteArray}:(za5 l).map (pick (zd0 l))=l:=by
 rw[za5,List.map_map]
 conv=>rhs;rw[<- List.map_id l]
 apply List.map_congr_left;intro s hs;have h:=ziO (zc1.2 hs);simp only[Function.comp,pick,Int.toNat_natCast,id];rw[List.getD_eq_getElem?_getD,List.getElem?_eq_getElem h];exact zlb h
def zmZ (l:List ByteArray) (t:List UInt8) (h: ∀s∈l,s.size<=64) (hn:l.length<=256):(t=[]->zb7 l.length (zc9 l++t)=(l,0))/\(t≠[]->(zb7 l.length (zc9 l++t)).2≠0):=by
 unfold zc9;split
 ·have hu: ∀s∈zd0 l,s.size<=64:=λs hs=>h s (zc1.1 hs)
  have hul:=zch l;have hpi:=zfg hn;have hpl:(za5 l).length=l.length:=by simp[za5]
  have hcut:=zkC (zd0 l) (zbx (za5 l)++t) hu (by omega)
  unfold zjP;rw[List.append_assoc,List.append_assoc,List.cons_append,zb7];rw[if_neg (by decide),zeV (by omega)]
  simp only[ne_eq,not_true_eq_false,if_false,List.drop_left];rw[if_neg (by rw[show (1:UInt8).toNat=1 from rfl];omega),hcut]
  simp only;constructor
  ·rintro rfl
   have hr:=zdr hpi (by omega)
   rw[hpl]at hr;rw[List.append_nil,hr];simp only[ne_eq,not_true_eq_false,if_false];rw[if_pos,zjn];intro k hk;obtain⟨s,hs,rfl⟩:=List.mem_map.1 hk;have:=ziO (zc1.2 hs);omega
  ·intro ht
   have hr:=ze1 hpi (by omega) ht
   rw[hpl]at hr;rw[if_pos hr];exact hr
 ·have hcut:=zkC l t h hn
  unfold zey;rw[List.cons_append,zb7];rw[if_pos (by decide),hcut]
  simp only;constructor
  ·rintro rfl
   rw[if_neg (by simp)]
  ·intro ht
   rw[if_pos ht];simp
end Go.Am.Ab
namespace Go.Am.Ab
open Go.Proofs
set_option maxHeartbeats 4000000
def zur (k:Nat) (v:Val):Prop:=v= .null\/(v.kind=k/\(∀n,v= .whole n->zah n)/\ ∀s,v= .text s->s.size<=64)
def zfs (k:Nat) (l:List Val):Prop:= ∀v∈l,zur k v
def zfs.odd {k:Nat} {l:List Val} (g:zfs k l):l.any (zeB k)=false:=by
 rw[List.any_eq_false];intro v hv;rcases g v hv with h | ⟨h,_⟩ <;> simp[zeB,h]
def zfs.long {k:Nat} {l:List Val} (g:zfs k l):l.any zi1=false:=by
 rw[List.any_eq_false];intro v hv;rcases g v hv with h | ⟨_,_,h⟩
 ·simp[zi1,h]
 ·cases v with
  |text s=>have:=h s rfl;simp[zi1];omega
  |_=>simp[zi1]
def zfs.i64 {k:Nat} {l:List Val} (g:zfs k l): ∀n,Val.whole n∈l->zah n:=by
 intro n hn;rcases g _ hn with h | ⟨_,h,_⟩
 ·cases h
 ·exact h n rfl
def zfs.tail {k:Nat} {v:Val} {l:List Val} (g:zfs k (v::l)):zfs k l:=λx hx=>g x (by simp[hx])
def own (l:List Val):List Val:=l.filter λv=>decide (v≠ .null)
def zg6: ∀ {l:List Val},zfs 1 l->(zby l).map .whole=own l
 |[],_=>rfl
 |v::r,g=>by
  have ih:=zg6 g.tail;rcases g v (by simp) with h | ⟨h,_⟩
  ·subst h;simpa[zby,own]using ih
  ·cases v <;> simp[Val.kind]at h
   simp only[zby,own]at ih ⊢;simp[ih]
def zg7: ∀ {l:List Val},zfs 2 l->(zbD l).map .truth=own l
 |[],_=>rfl
 |v::r,g=>by
  have ih:=zg7 g.tail;rcases g v (by simp) with h | ⟨h,_⟩
  ·subst h;simpa[zbD,own]using ih
  ·cases v <;> simp[Val.kind]at h
   simp only[zbD,own]at ih ⊢;simp[ih]
def zjo: ∀ {l:List Val},zfs 3 l->(zcW l).map .text=own l
 |[],_=>rfl
 |v::r,g=>by
  have ih:=zjo g.tail;rcases g v (by simp) with h | ⟨h,_⟩
  ·subst h;simpa[zcW,own]using ih
  ·cases v <;> simp[Val.kind]at h
   simp only[zcW,own]at ih ⊢;simp[ih]
def zsM (b:Bool):decide (((bit b:Nat):Int)=1)=b:=by cases b <;> rfl
def zn8 {k:Nat} (hk:1<=k/\k<=3) {l:List Val} (g:zfs k l) (hn:l.length<=256) (t:List UInt8):
 (t=[]->zaH k (own l).length (zi0 k l++t)=(own l,0))/\(t≠[]->(zaH k (own l).length (zi0 k l++t)).2≠0):=by
 have hkl:=zci l;have h:k=1\/k=2\/k=3:=by omega
 rcases h with rfl | rfl | rfl
 ·have hw:=zg6 g
  have hi:=zeX g.i64;have hlen:(own l).length=(zby l).length:=by rw[<- hw];simp
  rw[hlen];unfold zaH zi0;simp only[if_true];constructor
  ·rintro rfl
   rw[List.append_nil,zdr hi (by omega),hw]
  ·intro ht
   exact ze1 hi (by omega) ht
 ·have hw:=zg7 g
  have hlen:(own l).length=(zbD l).length:=by rw[<- hw];simp
  rw[hlen];unfold zaH zi0;rw[if_neg (by decide),if_pos rfl,if_neg (by decide),if_pos rfl]
  constructor
  ·rintro rfl
   rw[List.append_nil,ze2,<- hw];simp[zsM]
  ·intro ht
   exact zn7 _ ht
 ·have hw:=zjo g
  have hs:=zeo g.long;have hlen:(own l).length=(zcW l).length:=by rw[<- hw];simp
  rw[hlen];unfold zaH zi0;rw[if_neg (by decide),if_neg (by decide),if_neg (by decide),if_neg (by decide)]
  obtain⟨h1,h2⟩:=zmZ (zcW l) t hs (by omega)
  constructor
  ·intro ht
   rw[h1 ht,<- hw]
  ·exact h2
def zm0 (l:List Val) (zaB:List UInt8):zbE l.length (zda l++zaB)= .ok ((zao l).map bit) zaB:=by
 have hl:=zaA l;unfold zda
 by_cases h:false∈zao l
 ·have hu:=ze2 (zao l)
  have hf:=zhC (zao l);rw[hl]at hu hf;rw[if_pos h,List.cons_append,zbE];rw[if_neg (by decide),if_pos (by decide),if_neg (by rw[List.length_append];omega),<- hf,List.take_left,hu]
  simp only[ne_eq,not_true_eq_false,if_false,List.drop_left]
 ·rw[if_neg h,List.singleton_append,zbE]
  rw[if_neg (by decide),if_neg (by decide)]
  congr 1;apply List.ext_getElem
  ·simp[hl]
  ·intro i h1 h2
   rw[List.getElem_replicate,List.getElem_map];have h3:i<(zao l).length:=by simpa using h2
   cases e:(zao l)[i] with
   |true=>rfl
   |false=>exact absurd (e ▸ List.getElem_mem h3) h
def zly: ∀l:List Val,((zao l).map bit).sum=(own l).length
 |[]=>rfl
 |v::r=>by
  have ih:=zly r
  by_cases h:v= .null
  ·subst h
   simpa[zao,own,bit]using ih
  ·have hd:decide (v≠ .null)=true:=by simp[h]
   simp only[zao,own,List.map_cons,List.sum_cons,List.filter_cons,hd,if_true,List.length_cons]at ih ⊢;rw[ih];simp[bit];omega
def zpw: ∀l:List Val,zjh ((zao l).map bit) (own l)=l
 |[]=>rfl
 |v::r=>by
  have ih:=zpw r
  by_cases h:v= .null
  ·subst h
   simpa[zao,own,bit,zjh]using ih
  ·have hd:decide (v≠ .null)=true:=by simp[h]
   simp only[zao,own,List.map_cons,List.filter_cons,hd,if_true,zjh]at ih ⊢;rw[if_pos (by decide)]
   simp only[List.headD_cons,List.tail_cons,ih]
def zsN {k:Nat} (hk:1<=k/\k<=3) {l:List Val} (g:zfs k l) (hn:l.length<=256) (t:List UInt8):
 (t=[]->zd5 k l.length (zdb k l++t)=(l,0))/\(t≠[]->(zd5 k l.length (zdb k l++t)).2≠0):=by
 obtain⟨h1,h2⟩:=zn8 hk g hn t;unfold zd5 zdb;rw[List.append_assoc,zm0];simp only;rw[zly];constructor
 ·intro ht
  rw[h1 ht];simp only[ne_eq,not_true_eq_false,if_false];rw[zpw]
 ·intro ht
  rw[if_pos (h2 ht)];exact h2 ht
def zus (l:List UInt8):(mkS l).size=l.length:=rfl
def zjp: ∀ {sz:List Int} {b zaB:List UInt8} {l:List ByteArray},zbe sz b= .ok l zaB-> ∀s∈l,s.size<=64
 |[],b,zaB,l,h=>by
  unfold zbe at h;cases h;intro s hs;cases hs
 |k::r,b,zaB,l,h=>by
  unfold zbe at h;split at h
  ·simp at h
  ·split at h
   ·simp at h
   ·rename_i h1 h2
    cases hp:zbe r (b.drop k.toNat) with
    |err e'=>rw[hp]at h;simp at h
    |ok l2 r2=>
     rw[hp]at h;simp at h;intro s hs;rw[<- h.1]at hs;rcases List.mem_cons.1 hs with rfl | hs
     ·rw[zus,List.length_take];omega
     ·exact zjp hp s hs
def zm1 {n:Int} {b zaB:List UInt8} {l:List ByteArray} (h:zjD n b= .ok l zaB): ∀s∈l,s.size<=64:=by
 unfold zjD at h;split at h
 ·simp at h
 ·split at h
  ·simp at h
  ·split at h
   ·simp at h
   ·exact zjp h
def zsO {u:List ByteArray} (h: ∀s∈u,s.size<=64) (k:Int):(pick u k).size<=64:=by
 unfold pick;rw[List.getD_eq_getElem?_getD];cases e:u[k.toNat]? with
 |none=>simp[ByteArray.size]
 |some s=>exact h s (List.mem_of_getElem? e)
def zn9 (n:Nat) (b:List UInt8): ∀s∈(zb7 n b).1,s.size<=64:=by
 unfold zb7;split
 ·simp
 ·split
  ·split
   ·simp
   ·rename_i hp
    have:=zm1 hp;split <;> exact this
  ·split
   ·simp
   ·split
    ·simp
    ·split
     ·simp
     ·rename_i hp
      have:=zm1 hp;split
      ·simp
      ·split
       ·intro s hs
        obtain⟨k,_,rfl⟩:=List.mem_map.1 hs;exact zsO this k
       ·simp
def zm2 {k n:Nat} (hk:1<=k/\k<=3) {b:List UInt8} (h:(zaH k n b).2=0):zfs k (zaH k n b).1:=by
 have hc:k=1\/k=2\/k=3:=by omega
 intro v hv;right;rcases hc with rfl | rfl | rfl
 ·have h':(zaV b n).2=0:=h
  obtain⟨x,hx,rfl⟩:=List.mem_map.1 (show v∈(zaV b n).1.map .whole from hv)
  have:=(zet h').2 x hx;exact⟨rfl,λm e=>(by cases e;exact this),λs e=>by cases e⟩
 ·obtain⟨x,hx,rfl⟩:=List.mem_map.1 (show v∈(zan b n).1.map (λ(x:Nat)=>Val.truth (decide ((x:Int)=1))) from hv)
  exact⟨rfl,λm e=>(by cases e),λs e=>by cases e⟩
 ·obtain⟨x,hx,rfl⟩:=List.mem_map.1 (show v∈(zb7 n b).1.map .text from hv)
  have:=zn9 n b x hx;exact⟨rfl,λm e=>(by cases e),λs e=>by cases e;exact this⟩
def zlz {v:Val}: ∀ {th:List Nat} {o:List Val},v∈zjh th o->v= .null\/v∈o
 |[],o,h=>by simp[zjh]at h
 |x::t,o,h=>by
  unfold zjh at h;split at h
  ·rcases List.mem_cons.1 h with h | h
   ·cases o with
    |nil=>exact .inl h
    |cons y r=>exact .inr (by rw[h];simp)
   ·rcases zlz h with h | h
    ·exact .inl h
    ·exact .inr (List.mem_of_mem_tail h)
  ·rcases List.mem_cons.1 h with h | h
   ·exact .inl h
   ·exact zlz h
def zg8 {n:Nat} {b r:List UInt8} {th:List Nat} (h:zbE n b= .ok th r):th.length=n:=by
 unfold zbE at h;split at h
 ·cases h
 ·split at h
  ·cases h
  ·split at h
   ·split at h
    ·cases h
    ·split at h
     ·cases h
     ·rename_i c r0 h1 h2 h3 h4
      simp only[PR.ok.injEq]at h;rw[<- h.1];have h5:(zan (r0.take ((n+7) / 8)) n).2=0:=by omega
      unfold zan at h5 ⊢;split at h5
      ·simp at h5
      ·rename_i h6
       rw[if_neg h6];split at h5
       ·rename_i h7;rw[if_pos h7];simp
       ·simp at h5
   ·simp only[PR.ok.injEq]at h
    rw[<- h.1];simp
def zg9 {k n:Nat} (hk:1<=k/\k<=3) {b:List UInt8} (h:(zd5 k n b).2=0):zfs k (zd5 k n b).1/\(zd5 k n b).1.length=n:=by
 unfold zd5 at h ⊢;cases hp:zbE n b with
 |err e=>
  rw[hp]at h;exfalso;simp only at h;subst h;unfold zbE at hp;split at hp
  ·cases hp
  ·split at hp
   ·cases hp
   ·split at hp
    ·split at hp
     ·cases hp
     ·split at hp
      ·rename_i h4
       simp only[PR.err.injEq]at hp;exact h4 hp
      ·cases hp
    ·cases hp
 |ok th r=>
  rw[hp]at h;simp only at h ⊢;split at h
  ·rename_i h1;exact absurd h h1
  ·rename_i h1
   rw[if_neg h1];have g:=zm2 hk (b:=r) (n:=th.sum) (by omega)
   refine⟨λv hv=> ?_, ?_⟩
   ·rcases zlz hv with h | h
    ·exact .inl h
    ·exact g v h
   ·simp only
    rw[zji,zg8 hp]
def za2 (k:Nat) (b:List UInt8) (n:Int):List Val × Nat:=
 if ¬ (1<=k/\k<=3) then ([],10) else if n<0\/256<n then ([],1)
 else if (zd5 k n.toNat b).2≠0 then ([],(zd5 k n.toNat b).2)
 else if zdb k (zd5 k n.toNat b).1=b then ((zd5 k n.toNat b).1,0) else ([],40)
def zpx {k:Nat} (hk:1<=k/\k<=3) {l:List Val} (g:zfs k l) (hn:l.length<=256):za2 k (zdb k l) l.length=(l,0):=by
 have h:=(zsN hk g hn []).1 rfl;rw[List.append_nil]at h;unfold za2;rw[if_neg (λc=>c hk),if_neg (by omega),Int.toNat_natCast,h]
 simp
end Go.Am.Ab
namespace Go.Am.Ab
open Go.Proofs
set_option maxHeartbeats 4000000
set_option maxRecDepth 4000
def zgt (k:Nat) (hk:1<=k/\k<=3) (l:List Val) (g:zfs k l) (hn:l.length<=256):R 64 [.d (.int .u8 k),.d (.list (vs l))] []=some ([.arr 0 (zdb k l).length,E 0],[.arr 1 (bytes (zdb k l)) 0]):=by
 have hc:k=1\/k=2\/k=3:=by omega
 rcases hc with rfl | rfl | rfl
 ·exact zqv l hn g.odd g.i64
 ·exact zqx l hn g.odd
 ·exact zqz l hn g.odd g.long
def zgu {k:Nat} {l:List Val} (hk:1<=k/\k<=3) (g:zfs k l) (hn:l.length<=256):(zdb k l).length<=200000:=by
 have hkl:=zci l;have htl:=zaA l;have h1:=zbn (l:=zao l) (by omega)
 have h2:=zbn (l:=zbD l) (by omega)
 have h3:=zbY (zeX g.i64) (by omega)
 have h4:=zg3 (zeo g.long) (by omega)
 unfold zdb zda zi0;rw[List.length_append];split <;> split <;> (try split) <;> simp only[List.length_cons,List.length_nil] <;> omega
def zlA (k:Nat) (hk256:k<256) (b:List UInt8) (n:Int) (hn:zah n) (hb:b.length<1000000):
 R 71 [.d (.int .u8 k),B b,.d (.int .i64 n)] []=some ([.arr 0 (za2 k b n).1.length,E (za2 k b n).2],[.arr 1 (vs (za2 k b n).1) (za2 k b n).1.length]):=by
 have hr:=zbw k hk256;unfold za2
 by_cases hk:1<=k/\k<=3
 case neg=>
  rw[decide_eq_false hk]at hr;rw[if_pos hk];refine rg b71 rfl ?_;intro T hT;simp -dsimp -implicitDefEqProofs (disch:=first|omega|assumption) [hr]
  simpa -dsimp -implicitDefEqProofs (disch:=first|omega|assumption) [E]using hT
 rw[decide_eq_true hk]at hr;rw[if_neg (λc=>c hk)]
 by_cases h1:n<0
 ·rw[if_pos (.inl h1)]
  refine rg b71 rfl ?_;intro T hT;simp -dsimp -implicitDefEqProofs (disch:=first|omega|assumption) [hr,h1]
  simpa -dsimp -implicitDefEqProofs (disch:=first|omega|assumption) [E]using hT
 by_cases h2:256<n
 ·rw[if_pos (.inr h2)]
  refine rg b71 rfl ?_;intro T hT;simp -dsimp -implicitDefEqProofs (disch:=first|omega|assumption) [hr,h1,h2]
  simpa -dsimp -implicitDefEqProofs (disch:=first|omega|assumption) [E]using hT
 rw[if_neg (by omega)]
 obtain⟨m,rfl⟩: ∃m:Nat,n=m:=⟨n.toNat,by omega⟩
 rw[Int.toNat_natCast];have h:=zlx k m hk b (by omega) hb
 have hg:=zg9 (n:=m) hk (b:=b);unfold Is VsR at h;obtain⟨v,hv⟩: ∃v,v=zd5 k m b:=⟨_,rfl⟩;rw[<- hv]at h hg ⊢
 by_cases h3:v.2≠0
 ·have h3': ¬ (v.2:Int)=0:=by omega
  rw[if_pos h3];refine rg b71 rfl ?_;intro T hT;simp -dsimp -implicitDefEqProofs (disch:=first|omega|assumption) [hr,h1,h2,h,h3,h3']
  simpa -dsimp -implicitDefEqProofs (disch:=first|omega|assumption) [E]using hT
 rw[if_neg h3];have h3':v.2=0:=by omega
 obtain⟨g,gl⟩:=hg h3';rw[h3']at h;have hw:=zgt k hk v.1 g (by omega)
 have hcl:=zgu hk g (by omega)
 have heq:=zfj (zdb k v.1) b (by omega)
 by_cases h4:zdb k v.1=b
 ·rw[if_pos h4]
  rw[decide_eq_true h4]at heq;refine rg b71 rfl ?_;intro T hT;simp -dsimp -implicitDefEqProofs (disch:=first|omega|assumption) [hr,h1,h2,h,hw,heq]
  simpa -dsimp -implicitDefEqProofs (disch:=first|omega|assumption) [E]using hT
 ·rw[if_neg h4]
  rw[decide_eq_false h4]at heq;refine rg b71 rfl ?_;intro T hT;simp -dsimp -implicitDefEqProofs (disch:=first|omega|assumption) [hr,h1,h2,h,hw,heq]
  simpa -dsimp -implicitDefEqProofs (disch:=first|omega|assumption) [E]using hT
end Go.Am.Ab
