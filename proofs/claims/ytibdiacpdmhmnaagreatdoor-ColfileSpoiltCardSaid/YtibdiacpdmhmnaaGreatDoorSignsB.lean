/- The signs of texts: the program. -/
import Derived.Test.YtibdiacpdmhmnaaGreatDoorSignsA
set_option linter.all false
namespace Go.Am.Ab
open Go.Proofs
set_option maxHeartbeats 4000000
set_option maxRecDepth 4000
abbrev zr2 (x:ByteArray × Bool):List V:=[.d (.str x.1),.d (.bool x.2)]
def zo4 {s:ByteArray} {n:Nat} (h:(sgs s).all (·.2.2)=false):abv s n=(⟨#[]⟩,false):=by unfold abv;rw[yaj h]
def zo5 {s:ByteArray} {n:Nat} (h:(sgs s).all (·.2.2)=true) (h2:(sgs s).length<=n):abv s n=(s,true):=by unfold abv;rw[yag (by rw[h];decide),yaj h2]
def zr3 {s:ByteArray} {n:Nat} (h:(sgs s).all (·.2.2)=true) (h2: ¬ (sgs s).length<=n):abv s n=match zmt s (sgs s) n with | some t=>(t,true) | none=>(⟨#[]⟩,false):=by unfold abv;rw[yag (by rw[h];decide),yag h2];cases zmt s (sgs s) n <;> rfl
def zr4 (s:ByteArray): ∀ (m i:Nat), ∀x∈sgL s m i,x.1<=1114111/\(x.2.2=true->x.1<55296\/57344<=x.1)
 |0,_,x,h=>by cases h
 |m+1,i,x,h=>by
  simp only[sgL]at h;split at h
  ·rcases List.mem_cons.1 h with rfl | h
   ·refine⟨zy8 _, ?_⟩
    simp only;unfold sig sgf
    (repeat' split) <;> simp only <;> intro _ <;> omega
   ·exact zr4 s m _ x h
  ·cases h
def zvF (l:List Nat):(l.map λ(c:Nat)=>D.int .i32 c).mapM runeOf?=some (l.map λ(c:Nat)=>(c:Int)):=by
 induction l with
 |nil=>rfl
 |cons c l ih=>simp only[yaO,ya2,runeOf?,ih];rfl
def zx6 (l:List Nat) (k c:Nat) (hk:k<l.length):(l.set k c).take (k+1)=l.take k++[c]:=by
 rw[List.take_add_one,List.take_set_of_le (yaf k),ybh hk];rfl
def ztV (s:ByteArray) (hm:s.size<1000000000) (n:Nat) (hn:n<=1000) (h0:0<n):R 97 [.d (.str s),.d (.int .i64 n)] []=some (zr2 (abv s n),[]):=by
 have hcl:=zia s hm;have hct:=ztS s hm;have hfi:=zmr s hm n hn;cases hall:(sgs s).all (·.2.2) with
 |false=>
  rw[hall]at hcl;rw[zo4 hall];refine rg b97 rfl ?_;intro T hT;simp -dsimp -implicitDefEqProofs (disch:=first|omega|assumption) [hcl]
  simpa -dsimp -implicitDefEqProofs (disch:=first|omega|assumption) [zr2]using hT
 |true=>
  rw[hall]at hcl
  by_cases hlen:(sgs s).length<=n
  ·have hlen':((sgs s).length:Int)<=n:=by omega
   rw[zo5 hall hlen];refine rg b97 rfl ?_;intro T hT;simp -dsimp -implicitDefEqProofs (disch:=first|omega|assumption) [hcl,hct,hlen']
   simpa -dsimp -implicitDefEqProofs (disch:=first|omega|assumption) [zr2]using hT
  ·have hlen': ¬ ((sgs s).length:Int)<=n:=by omega
   rw[zr3 hall hlen];have hn2:n<(sgs s).length:=by omega
   have hx:(sgs s)[n]? =some (sgs s)[n]:=yao hn2;have hf:frs s n=s.extract 0 (sgs s)[n].2.1:=by unfold frs;rw[hx]
   have hpl:=ze8 s s.size 0 _ (yam hn2);have hok: ∀y∈sgs s,y.2.2=true:=λy hy=>List.all_eq_true.1 hall y hy
   have hle: ∀y∈sgs s,y.1<=1114111:=λy hy=>(zr4 s s.size 0 y hy).1
   obtain⟨p,hp⟩: ∃p,p=(sgs s)[n].2.1:=⟨_,rfl⟩;rw[<- hp]at hf hpl;have hsp:sgs s=(sgs s).take n++(sgs s)[n]::(sgs s).drop (n+1):=by
    rw[<- yaC hn2,ybm]
   have hrun:zgi (s.extract 0 p)=((sgs s).take n).map (·.1):=by
    have hsz:=zbf s 0 p (by omega)
    exact (zkw s p _ s.size 0 _ _ _ hsp (λy hy=>hok y (yaD hy)) hp (by omega)).1
   have hszp:(s.extract 0 p).size<2147483648:=by rw[zbf s 0 p (by omega)];omega
   rw[hf]at hfi;obtain⟨rr,hrr⟩: ∃rr:List Nat,rr=((sgs s).take n).map (·.1):=⟨_,rfl⟩
   rw[<- hrr]at hrun;have hrl:rr.length=n:=by rw[hrr,yah,yan];omega
   have hrg: ∀k x,(sgs s)[k]? =some x->k<n->rr[k]? =some x.1:=λk x hk hkn=>by
    rw[hrr,yaA,yaU,yaj hkn,hk];rfl
   generalize hfx:s.extract 0 p=fx at*;have hcut: ∀k x,(sgs s)[k]? =some x->((((sgs s).take k).map λy=>(y.1:Int)).foldl (λs n=>s++Utf8.encode n) ByteArray.empty)=s.extract 0 x.2.1:=λk x hk=>by
    have hk2:=lt_of_getElem? hk;have e:(sgs s)[k]=x:=by rw[yao hk2]at hk;exact ya8 hk
    have hsp2:sgs s=(sgs s).take k++x::(sgs s).drop (k+1):=by
     rw[<- e,<- yaC hk2,ybm]
    have:=(zkw s x.2.1 _ s.size 0 x _ x.2.1 hsp2 (λy hy=>hok y (yaD hy)) rfl (by omega)).2 ByteArray.empty
    rw[this,ByteArray.empty_append]
   have hlL:n<=(sgs s).length:=by omega
   generalize sgs s=L at*;refine rg b97 rfl ?_;intro T hT;simp -dsimp -implicitDefEqProofs (disch:=first|omega|assumption) [hcl,hct,hlen',hfi,hszp,hrun,hrl]
   generalize hz:zaj _ _ _ _ _ _=z;revert z;refine zaa (σ:=V × Nat) (λx=>[(6,x.1)]) (λx=>[.arr 1 (rr.map λ(c:Nat)=>D.int .i32 c) 0]) (λx=>x.2<=n/\zmt s L n=zmt s L x.2/\(x.2=n/\x.1= .arr 0 n\/x.1= .sl 0 n 0 x.2)) (λx=>x.2) (.arr 0 n,n) ?_ ?_ ?_
   ·exact⟨yaf _,rfl,.inl ⟨rfl,rfl⟩⟩
   ·simp -dsimp -implicitDefEqProofs (disch:=first|omega|assumption) [hrl]
   intro T' f hT' ⟨v,k⟩ ⟨g1,g2,g3⟩ ih;simp only at g1 g2 g3 ih;cases k with
   |zero=>
    have hv:v= .sl 0 n 0 0:=g3.resolve_left (λh=>by omega)
    subst hv;subst hT';rw[g2]at hT;simp only[zmt]at hT;simp -dsimp -implicitDefEqProofs (disch:=first|omega|assumption) [hrl]
    simpa -dsimp -implicitDefEqProofs (disch:=first|omega|assumption) [zr2]using hT
   |succ k=>
    have hk:k<L.length:=by omega
    obtain⟨x,hx⟩: ∃x,L[k]? =some x:=⟨_,yao hk⟩;have hrk:=hrg k x hx (by omega)
    have hkr:k<rr.length:=by omega
    have hrk2:rr[k]=x.1:=by rw[yao hkr]at hrk;exact ya8 hrk
    have hc:=hcut k x hx;have hxm:x∈L:=yaE hx;have hnx:=ztU x.1 (hle x hxm);have hlast:zmt s L (k+1)=if x.1<1114111 then some (s.extract 0 x.2.1++Utf8.encode (nxt x.1:Nat)) else zmt s L k:=by simp only[zmt,hx]
    have e1:((k:Int)+1 - 1)=k:=by omega
    have hen:zBz (((rr.set k (nxt x.1)).take (k+1)).map λ(c:Nat)=>(c:Int))=s.extract 0 x.2.1++Utf8.encode (nxt x.1:Nat):=by
     rw[zx6 rr k _ hkr];unfold zBz;rw[ybf,yci];have e:(rr.take k).map (λ(c:Nat)=>(c:Int))=(L.take k).map λy=>(y.1:Int):=by
      rw[hrr,<- ybO,List.take_take,yck (by omega),yaL]
      rfl
     rw[e,hc];rfl
    rw[ybO,yb0]at hen;have hmap:((((rr.map λ(c:Nat)=>D.int .i32 c).set k (.int .i32 (nxt x.1:Nat))).take (k+1)).mapM runeOf?)=some (((rr.set k (nxt x.1)).take (k+1)).map λ(c:Nat)=>(c:Int)):=by
     have e:(rr.map λ(c:Nat)=>D.int .i32 c).set k (.int .i32 (nxt x.1:Nat))=(rr.set k (nxt x.1)).map λ(c:Nat)=>D.int .i32 c:=by rw[yb0]
     rw[e,<- ybO,zvF]
    by_cases hlt:x.1<1114111
    ·rw[yaj hlt]at hlast
     rw[yaK hlt]at hnx;rw[g2,hlast]at hT;subst hT';rcases g3 with ⟨g4,rfl⟩ | rfl
     ·subst g4
      have htk:((rr.map λ(c:Nat)=>D.int .i32 c).set k (.int .i32 (nxt x.1:Nat))).take (k+1)=(rr.map λ(c:Nat)=>D.int .i32 c).set k (.int .i32 (nxt x.1:Nat)):=yar (by rw[ydx,yah];omega)
      rw[htk]at hmap;simp -dsimp -implicitDefEqProofs (disch:=first|omega|assumption) [hrl,e1,hrk2,hnx,h0,hkr,hmap,hen]
      simpa -dsimp -implicitDefEqProofs (disch:=first|omega|assumption) [zr2]using hT
     ·have g5:k<n:=by omega
      have g6:k+1<=n:=by omega
      simp -dsimp -implicitDefEqProofs (disch:=first|omega|assumption) [hrl,e1,hrk2,hnx,g5,g6,h0,hkr,hmap,hen]
      simpa -dsimp -implicitDefEqProofs (disch:=first|omega|assumption) [zr2]using hT
    ·rw[yag hlt]at hlast
     rw[yaM hlt]at hnx;rcases g3 with ⟨g4,rfl⟩ | rfl
     ·subst g4
      simp -dsimp -implicitDefEqProofs (disch:=first|omega|assumption) [hrl,e1,hrk2,hnx,h0,hkr]
      refine ih (.sl 0 (k+1) 0 k,k) _ _ ⟨by simp only;omega,by simp only;rw[hlast],.inr rfl⟩ (by simp only;omega) ?_
      simp -dsimp -implicitDefEqProofs (disch:=first|omega|assumption) [hrl]
     ·have g5:k<n:=by omega
      simp -dsimp -implicitDefEqProofs (disch:=first|omega|assumption) [hrl,e1,hrk2,hnx,g5,h0,hkr]
      refine ih (.sl 0 n 0 k,k) _ _ ⟨by simp only;omega,by simp only;rw[g2,hlast],.inr rfl⟩ (by simp only;omega) ?_
      simp -dsimp -implicitDefEqProofs (disch:=first|omega|assumption) [hrl,g5]
end Go.Am.Ab
namespace Go.Am.Ab
open Go.Proofs
set_option maxHeartbeats 4000000
set_option maxRecDepth 4000
def zns (p:Option (D × List Am.Obj)) (t:Nat) (s:Slots) (h:List Am.Obj) (r:List (Nat × Nat)):Slots × List Am.Obj:=
 match p with
 |some (x,h0)=>let (s1,h1):=zaf s h0 r;((t,.d x)::s1,h1)
 |none=>zaf s h r
@[simp] def zza (x:D) (h0 h:List Am.Obj) (t:Nat) (s:Slots) (r:List (Nat × Nat)):zns (some (x,h0)) t s h r=zdP (zaf s h0 r) (λp=>((t,.d x)::p.1,p.2)) ⟨⟩:=rfl
@[simp] def zx7 {s:Slots} {h:List Am.Obj} {sz:Nat} {r:List (Nat × Nat)}:zaf s h ((1000007,sz)::r)=zns (zbV h (zbS s 7)) 7 s h r:=by
 have key: ∀t,zaf s h ((t+1000000,sz)::r)=zns (zbV h (zbS s t)) t s h r:=by
  intro t
  conv=>lhs;unfold zaf
  rw[yag (by omega),ybN]
  unfold zns;cases zbV h (zbS s t) <;> rfl
 exact key 7
def zc3 {n:Nat} (h:n<256):zbi (UInt8.ofNat n)= .int .u8 (n:Int):=zjl (by rw[zcN h])
def zqM (c:Nat) (hv:c<55296\/(57344<=c/\c<=1114111)):R 123 [.d (.int .i64 c)] []=some ([.arr 0 (Utf8.encode (c:Nat)).size],[.arr 1 ((Utf8.encode (c:Nat)).data.toList.map zbi) 0]):=by
 rw[zms hv]
 by_cases h1:c<128
 ·have h1':(c:Int)<128:=by omega
  have w1:(c:Int) % 256=c:=by omega
  have d1:=zc3 (show c<256 by omega)
  rw[yaj h1]
  show R _ _ _=some ([.arr 0 1],[.arr 1 [zbi (UInt8.ofNat c)] 0])
  rw[d1];refine rg zE4 rfl ?_;intro T hT;simp -dsimp -implicitDefEqProofs (disch:=first|omega|assumption) [h1',zcq,w1]
  simpa -dsimp -implicitDefEqProofs (disch:=first|omega|assumption) using hT
 by_cases h2:c<2048
 ·have h1': ¬ (c:Int)<128:=by omega
  have h2':(c:Int)<2048:=by omega
  rw[yag h1,yaj h2]
  show R _ _ _=some ([.arr 0 2],[.arr 1 [zbi (UInt8.ofNat (192+c / 64)),zbi (UInt8.ofNat (128+c % 64))] 0])
  rw[zc3 (by omega),zc3 (by omega)]
  obtain⟨q,hq⟩: ∃q,q=c / 64:=⟨_,rfl⟩;obtain⟨r,hr⟩: ∃r,r=c % 64:=⟨_,rfl⟩;have t1:(c:Int) / 64=q:=by omega
  have t2:(c:Int) % 64=r:=by omega
  rw[<- hq,<- hr];have w1:((192:Int)+q) % 256=192+q:=by omega
  have w2:((128:Int)+r) % 256=128+r:=by omega
  refine rg zE4 rfl ?_;intro T hT;simp -dsimp -implicitDefEqProofs (disch:=first|omega|assumption) [h1',h2',t1,t2,zcq,w1,w2]
  simpa -dsimp -implicitDefEqProofs (disch:=first|omega|assumption) using hT
 by_cases h3:c<65536
 ·have h1': ¬ (c:Int)<128:=by omega
  have h2': ¬ (c:Int)<2048:=by omega
  have h3':(c:Int)<65536:=by omega
  rw[yag h1,yag h2,yaj h3]
  show R _ _ _=some ([.arr 0 3],[.arr 1 [zbi (UInt8.ofNat (224+c / 4096)),zbi (UInt8.ofNat (128+c / 64 % 64)),zbi (UInt8.ofNat (128+c % 64))] 0])
  rw[zc3 (by omega),zc3 (by omega),zc3 (by omega)]
  obtain⟨q,hq⟩: ∃q,q=c / 64:=⟨_,rfl⟩;obtain⟨q2,hq2⟩: ∃q,q=c / 4096:=⟨_,rfl⟩;obtain⟨r,hr⟩: ∃r,r=c % 64:=⟨_,rfl⟩;obtain⟨r2,hr2⟩: ∃r,r=c / 64 % 64:=⟨_,rfl⟩;have t1:(c:Int) / 64=q:=by omega
  have t2:(c:Int) % 64=r:=by omega
  have t3:(c:Int) / 4096=q2:=by omega
  have t4:(q:Int) % 64=r2:=by omega
  rw[<- hq2,<- hr,<- hr2];have w1:((224:Int)+q2) % 256=224+q2:=by omega
  have w2:((128:Int)+r) % 256=128+r:=by omega
  have w3:((128:Int)+r2) % 256=128+r2:=by omega
  refine rg zE4 rfl ?_;intro T hT;simp -dsimp -implicitDefEqProofs (disch:=first|omega|assumption) [h1',h2',h3',t1,t2,t3,t4,zcq,w1,w2,w3]
  simpa -dsimp -implicitDefEqProofs (disch:=first|omega|assumption) using hT
 ·have h1': ¬ (c:Int)<128:=by omega
  have h2': ¬ (c:Int)<2048:=by omega
  have h3': ¬ (c:Int)<65536:=by omega
  rw[yag h1,yag h2,yag h3]
  show R _ _ _=some ([.arr 0 4],[.arr 1 [zbi (UInt8.ofNat (240+c / 262144)),zbi (UInt8.ofNat (128+c / 4096 % 64)),zbi (UInt8.ofNat (128+c / 64 % 64)),zbi (UInt8.ofNat (128+c % 64))] 0])
  rw[zc3 (by omega),zc3 (by omega),zc3 (by omega),zc3 (by omega)]
  obtain⟨q,hq⟩: ∃q,q=c / 64:=⟨_,rfl⟩;obtain⟨q2,hq2⟩: ∃q,q=c / 4096:=⟨_,rfl⟩;obtain⟨q3,hq3⟩: ∃q,q=c / 262144:=⟨_,rfl⟩;obtain⟨r,hr⟩: ∃r,r=c % 64:=⟨_,rfl⟩;obtain⟨r2,hr2⟩: ∃r,r=c / 64 % 64:=⟨_,rfl⟩;obtain⟨r3,hr3⟩: ∃r,r=c / 4096 % 64:=⟨_,rfl⟩;have t1:(c:Int) / 64=q:=by omega
  have t2:(c:Int) % 64=r:=by omega
  have t3:(c:Int) / 4096=q2:=by omega
  have t4:(q:Int) % 64=r2:=by omega
  have t5:(c:Int) / 262144=q3:=by omega
  have t6:(q2:Int) % 64=r3:=by omega
  rw[<- hq3,<- hr,<- hr2,<- hr3];have w1:((240:Int)+q3) % 256=240+q3:=by omega
  have w2:((128:Int)+r) % 256=128+r:=by omega
  have w3:((128:Int)+r2) % 256=128+r2:=by omega
  have w4:((128:Int)+r3) % 256=128+r3:=by omega
  refine rg zE4 rfl ?_;intro T hT;simp -dsimp -implicitDefEqProofs (disch:=first|omega|assumption) [h1',h2',h3',t1,t2,t3,t4,t5,t6,zcq,w1,w2,w3,w4]
  simpa -dsimp -implicitDefEqProofs (disch:=first|omega|assumption) using hT
def zx8 (c:Nat) (hv:c<55296\/(57344<=c/\c<=1114111)):(Utf8.encode (c:Nat)).size<=4:=by
 rw[zms hv]
 (repeat' split) <;> first | exact yaf _ | exact ycA rfl
set_option maxRecDepth 40000 in
def zqN (s:ByteArray) (hm:s.size<1000000000) (n:Nat) (hn:n<=1000) (h0:0<n):R 80 [.d (.str s),.d (.int .i64 n)] []=some (zr2 (abv s n),[]):=by
 have hs:=zd7 s hm;have hL:(sgs s).length<=s.size:=zfK s s.size 0;cases hall:(sgs s).all (·.2.2) with
 |false=>
  rw[hall]at hs;rw[zo4 hall];refine rg b80 rfl ?_;intro T hT;simp -dsimp -implicitDefEqProofs (disch:=first|omega|assumption) [hs]
  simpa -dsimp -implicitDefEqProofs (disch:=first|omega|assumption) [zr2]using hT
 |true=>
  rw[hall]at hs
  by_cases hlen:(sgs s).length<=n
  ·have hlen':((sgs s).length:Int)<=n:=by omega
   rw[zo5 hall hlen];refine rg b80 rfl ?_;intro T hT;simp -dsimp -implicitDefEqProofs (disch:=first|omega|assumption) [hs,hlen']
   simpa -dsimp -implicitDefEqProofs (disch:=first|omega|assumption) [zr2]using hT
  ·have hlen': ¬ ((sgs s).length:Int)<=n:=by omega
   have h0': ¬ (n:Int)<1:=by omega
   rw[zr3 hall hlen];have hpl:=ze8 s s.size 0;have hle:=zr4 s s.size 0;have hok: ∀y∈sgs s,y.2.2=true:=λy hy=>List.all_eq_true.1 hall y hy
   have hLe: ∀y∈sgs s,y.2.1<s.size/\y.1<=1114111/\(y.1<55296\/57344<=y.1):=λy hy=>⟨hpl y hy,(hle y hy).1,(hle y hy).2 (hok y hy)⟩
   clear hpl hle hok;generalize sgs s=L at*;refine rg b80 rfl ?_;intro T hT;simp -dsimp -implicitDefEqProofs (disch:=first|omega|assumption) [hs,hlen',h0']
   generalize hz:zaj _ _ _ _ _ _=z;revert z;refine zaa (σ:=Nat) (λk=>[(0,.d (.str s)),(6,.arr 0 L.length),(7,.d (.list (zvz L))),(9,.d (.int .i64 ((k:Int) - 1)))]) (λ_=>[.arr 1 (zx2 L) 0]) (λk=>k<=n/\zmt s L n=zmt s L k) (λk=>k) n ?_ ?_ ?_
   ·exact⟨yaf _,rfl⟩
   ·simp -dsimp -implicitDefEqProofs (disch:=first|omega|assumption)
   intro T' f hT' k ⟨g1,g2⟩ ih;cases k with
   |zero=>
    subst hT';rw[g2]at hT;simp only[zmt]at hT;simp -dsimp -implicitDefEqProofs (disch:=first|omega|assumption)
    simpa -dsimp -implicitDefEqProofs (disch:=first|omega|assumption) [zr2]using hT
   |succ k=>
    have hk:k<L.length:=by omega
    obtain⟨x,hx⟩: ∃x,L[k]? =some x:=⟨_,yao hk⟩;have hxm:=hLe x (yaE hx);have hx2:L[k]=x:=by rw[yao hk]at hx;exact ya8 hx
    have hlast:zmt s L (k+1)=if x.1<1114111 then some (s.extract 0 x.2.1++Utf8.encode (nxt x.1:Nat)) else zmt s L k:=by simp only[zmt,hx]
    have e1:((k:Int)+1 - 1)=k:=by omega
    by_cases hlt:x.1<1114111
    ·have hlt':(x.1:Int)<1114111:=by omega
     rw[yaj hlt]at hlast;rw[g2,hlast]at hT;subst hT';have hpl:x.2.1<=s.size:=by omega
     have hsz:=zbf s 0 x.2.1 hpl;obtain⟨m,hm2⟩: ∃m,m=nxt x.1:=⟨_,rfl⟩;rw[<- hm2]at hT;unfold nxt at hm2;have hmv:m<55296\/(57344<=m/\m<=1114111):=by
      split at hm2 <;> omega
     have hb:=zqM m hmv;have hes:=zx8 m hmv;generalize Utf8.encode (m:Nat)=e at*;have hds:e.data.size=e.size:=rfl;have hek:ByteArray.mk e.data=e:=rfl
     by_cases h5:x.1=55295
     ·have h5':(x.1:Int)+1=55296:=by omega
      rw[yaj h5]at hm2;have hb2:R 123 [.d (.int .i64 57344)] []=some ([.arr 0 e.size],[.arr 1 (e.data.toList.map zbi) 0]):=by
       have hmi:(m:Int)=57344:=by omega
       rw[hmi]at hb;exact hb
      clear hb;simp -dsimp -implicitDefEqProofs (disch:=first|omega|assumption) [hx2,e1,hlt',h5',hpl,hsz,hb2,hes,hds,hek]
      simpa -dsimp -implicitDefEqProofs (disch:=first|omega|assumption) [zr2]using hT
     ·have h5': ¬ (x.1:Int)+1=55296:=by omega
      rw[yag h5]at hm2;have hm3:(x.1:Int)+1=m:=by omega
      have hm4: ¬ (m:Int)=55296:=by omega
      have hm5: ¬ m=55296:=by omega
      simp -dsimp -implicitDefEqProofs (disch:=first|omega|assumption) [hx2,e1,hlt',hm3,hm4,hm5,hpl,hsz,hb,hes,hds,hek]
      simpa -dsimp -implicitDefEqProofs (disch:=first|omega|assumption) [zr2]using hT
    ·have hlt': ¬ (x.1:Int)<1114111:=by omega
     rw[yag hlt]at hlast;simp -dsimp -implicitDefEqProofs (disch:=first|omega|assumption) [hx2,e1,hlt']
     refine ih k _ _ ⟨by omega,by rw[g2,hlast]⟩ (by omega) ?_
     simp -dsimp -implicitDefEqProofs (disch:=first|omega|assumption)
end Go.Am.Ab
