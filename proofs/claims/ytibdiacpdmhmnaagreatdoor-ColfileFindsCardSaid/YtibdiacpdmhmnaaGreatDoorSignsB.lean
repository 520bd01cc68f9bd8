/- The signs of texts: the program. -/
import Derived.Test.YtibdiacpdmhmnaaGreatDoorSignsA
set_option linter.all false
namespace Go.Am.Ab
open Go.Proofs
set_option maxHeartbeats 4000000
set_option maxRecDepth 4000
abbrev zrc (x:ByteArray × Bool):List V:=[.d (.str x.1),.d (.bool x.2)]
def zob {s:ByteArray} {n:Nat} (h:(sgs s).all (·.2.2)=false):abv s n=(⟨#[]⟩,false):=by unfold abv;rw[yag h]
def zoc {s:ByteArray} {n:Nat} (h:(sgs s).all (·.2.2)=true) (h2:(sgs s).length<=n):abv s n=(s,true):=by unfold abv;rw[yac (by rw[h];decide),yag h2]
def zrd {s:ByteArray} {n:Nat} (h:(sgs s).all (·.2.2)=true) (h2: ¬ (sgs s).length<=n):abv s n=match zjW s (sgs s) n with | some t=>(t,true) | none=>(⟨#[]⟩,false):=by unfold abv;rw[yac (by rw[h];decide),yac h2];cases zjW s (sgs s) n <;> rfl
def zod (s:ByteArray): ∀ (m i:Nat), ∀x∈sgL s m i,x.1<=1114111/\(x.2.2=true->x.1<55296\/57344<=x.1)
 |0,_,x,h=>by cases h
 |m+1,i,x,h=>by
  simp only[sgL]at h;split at h
  ·rcases List.mem_cons.1 h with rfl | h
   ·refine⟨zuO _, ?_⟩
    simp only;unfold sig sgf
    (repeat' split) <;> simp only <;> intro _ <;> omega
   ·exact zod s m _ x h
  ·cases h
def zuV (l:List Nat):(l.map λ(c:Nat)=>D.int .i32 c).mapM runeOf?=some (l.map λ(c:Nat)=>(c:Int)):=by
 induction l with
 |nil=>rfl
 |cons c l ih=>simp only[yaV,ya2,runeOf?,ih];rfl
def zx2 (l:List Nat) (k c:Nat) (hk:k<l.length):(l.set k c).take (k+1)=l.take k++[c]:=by
 rw[List.take_add_one,List.take_set_of_le (yaj k),ybh hk];rfl
def zsR (s:ByteArray) (hm:s.size<1000000000) (n:Nat) (hn:n<=1000) (h0:0<n):R 97 [.d (.str s),.d (.int .i64 n)] []=some (zrc (abv s n),[]):=by
 have hcl:=zhR s hm;have hct:=zlD s hm;have hfi:=zlE s hm n hn;cases hall:(sgs s).all (·.2.2) with
 |false=>
  rw[hall]at hcl;rw[zob hall];refine rg b97 rfl ?_;intro T hT;simp -dsimp -implicitDefEqProofs (disch:=omega) [hcl]
  simpa -dsimp -implicitDefEqProofs (disch:=omega) [zrc]using hT
 |true=>
  rw[hall]at hcl
  by_cases hlen:(sgs s).length<=n
  ·have hlen':((sgs s).length:Int)<=n:=by omega
   rw[zoc hall hlen];refine rg b97 rfl ?_;intro T hT;simp -dsimp -implicitDefEqProofs (disch:=omega) [hcl,hct,hlen']
   simpa -dsimp -implicitDefEqProofs (disch:=omega) [zrc]using hT
  ·have hlen': ¬ ((sgs s).length:Int)<=n:=by omega
   rw[zrd hall hlen];have hn2:n<(sgs s).length:=by omega
   have hx:(sgs s)[n]? =some (sgs s)[n]:=yak hn2;have hf:frs s n=s.extract 0 (sgs s)[n].2.1:=by unfold frs;rw[hx]
   have hpl:=zeT s s.size 0 _ (yam hn2);have hok: ∀y∈sgs s,y.2.2=true:=λy hy=>List.all_eq_true.1 hall y hy
   have hle: ∀y∈sgs s,y.1<=1114111:=λy hy=>(zod s s.size 0 y hy).1
   obtain⟨p,hp⟩: ∃p,p=(sgs s)[n].2.1:=⟨_,rfl⟩;rw[<- hp]at hf hpl;have hsp:sgs s=(sgs s).take n++(sgs s)[n]::(sgs s).drop (n+1):=by
    rw[<- yao hn2,ybf]
   have hrun:zeF (s.extract 0 p)=((sgs s).take n).map (·.1):=by
    have hsz:=za5 s 0 p (by omega)
    exact (zjV s p _ s.size 0 _ _ _ hsp (λy hy=>hok y (yaH hy)) hp (by omega)).1
   have hszp:(s.extract 0 p).size<2147483648:=by rw[za5 s 0 p (by omega)];omega
   rw[hf]at hfi;obtain⟨rr,hrr⟩: ∃rr:List Nat,rr=((sgs s).take n).map (·.1):=⟨_,rfl⟩
   rw[<- hrr]at hrun;have hrl:rr.length=n:=by rw[hrr,yah,yaq];omega
   have hrg: ∀k x,(sgs s)[k]? =some x->k<n->rr[k]? =some x.1:=λk x hk hkn=>by
    rw[hrr,yau,yaU,yag hkn,hk];rfl
   generalize hfx:s.extract 0 p=fx at*;have hcut: ∀k x,(sgs s)[k]? =some x->((((sgs s).take k).map λy=>(y.1:Int)).foldl (λs n=>s++Utf8.encode n) ByteArray.empty)=s.extract 0 x.2.1:=λk x hk=>by
    have hk2:=lt_of_getElem? hk;have e:(sgs s)[k]=x:=by rw[yak hk2]at hk;exact yaN hk
    have hsp2:sgs s=(sgs s).take k++x::(sgs s).drop (k+1):=by
     rw[<- e,<- yao hk2,ybf]
    have:=(zjV s x.2.1 _ s.size 0 x _ x.2.1 hsp2 (λy hy=>hok y (yaH hy)) rfl (by omega)).2 ByteArray.empty
    rw[this,ByteArray.empty_append]
   have hlL:n<=(sgs s).length:=by omega
   generalize sgs s=L at*;refine rg b97 rfl ?_;intro T hT;simp -dsimp -implicitDefEqProofs (disch:=omega) [hcl,hct,hlen',hfi,hszp,hrun,hrl]
   generalize hz:zaf _ _ _ _ _ _=z;revert z;refine zaa (σ:=V × Nat) (λx=>[(6,x.1)]) (λx=>[.arr 1 (rr.map λ(c:Nat)=>D.int .i32 c) 0]) (λx=>x.2<=n/\zjW s L n=zjW s L x.2/\(x.2=n/\x.1= .arr 0 n\/x.1= .sl 0 n 0 x.2)) (λx=>x.2) (.arr 0 n,n) ?_ ?_ ?_
   ·exact⟨yaj _,rfl,.inl ⟨rfl,rfl⟩⟩
   ·simp -dsimp -implicitDefEqProofs (disch:=omega) [hrl]
   intro T' f hT' ⟨v,k⟩ ⟨g1,g2,g3⟩ ih;simp only at g1 g2 g3 ih;cases k with
   |zero=>
    have hv:v= .sl 0 n 0 0:=g3.resolve_left (λh=>by omega)
    subst hv;subst hT';rw[g2]at hT;simp only[zjW]at hT;simp -dsimp -implicitDefEqProofs (disch:=omega) [hrl]
    simpa -dsimp -implicitDefEqProofs (disch:=omega) [zrc]using hT
   |succ k=>
    have hk:k<L.length:=by omega
    obtain⟨x,hx⟩: ∃x,L[k]? =some x:=⟨_,yak hk⟩;have hrk:=hrg k x hx (by omega)
    have hkr:k<rr.length:=by omega
    have hrk2:rr[k]=x.1:=by rw[yak hkr]at hrk;exact yaN hrk
    have hc:=hcut k x hx;have hxm:x∈L:=yay hx;have hnx:=zsQ x.1 (hle x hxm);have hlast:zjW s L (k+1)=if x.1<1114111 then some (s.extract 0 x.2.1++Utf8.encode (nxt x.1:Nat)) else zjW s L k:=by simp only[zjW,hx]
    have e1:((k:Int)+1 - 1)=k:=by omega
    have hen:zB2 (((rr.set k (nxt x.1)).take (k+1)).map λ(c:Nat)=>(c:Int))=s.extract 0 x.2.1++Utf8.encode (nxt x.1:Nat):=by
     rw[zx2 rr k _ hkr];unfold zB2;rw[ya7,yc4];have e:(rr.take k).map (λ(c:Nat)=>(c:Int))=(L.take k).map λy=>(y.1:Int):=by
      rw[hrr,<- ybQ,List.take_take,ybM (by omega),yaQ]
      rfl
     rw[e,hc];rfl
    rw[ybQ,yce]at hen;have hmap:((((rr.map λ(c:Nat)=>D.int .i32 c).set k (.int .i32 (nxt x.1:Nat))).take (k+1)).mapM runeOf?)=some (((rr.set k (nxt x.1)).take (k+1)).map λ(c:Nat)=>(c:Int)):=by
     have e:(rr.map λ(c:Nat)=>D.int .i32 c).set k (.int .i32 (nxt x.1:Nat))=(rr.set k (nxt x.1)).map λ(c:Nat)=>D.int .i32 c:=by rw[yce]
     rw[e,<- ybQ,zuV]
    by_cases hlt:x.1<1114111
    ·rw[yag hlt]at hlast
     rw[yaI hlt]at hnx;rw[g2,hlast]at hT;subst hT';rcases g3 with ⟨g4,rfl⟩ | rfl
     ·subst g4
      have htk:((rr.map λ(c:Nat)=>D.int .i32 c).set k (.int .i32 (nxt x.1:Nat))).take (k+1)=(rr.map λ(c:Nat)=>D.int .i32 c).set k (.int .i32 (nxt x.1:Nat)):=yaA (by rw[ydT,yah];omega)
      rw[htk]at hmap;simp -dsimp -implicitDefEqProofs (disch:=omega) [hrl,e1,hrk2,hnx,h0,hkr,hmap,hen]
      simpa -dsimp -implicitDefEqProofs (disch:=omega) [zrc]using hT
     ·have g5:k<n:=by omega
      have g6:k+1<=n:=by omega
      simp -dsimp -implicitDefEqProofs (disch:=omega) [hrl,e1,hrk2,hnx,g5,g6,h0,hkr,hmap,hen]
      simpa -dsimp -implicitDefEqProofs (disch:=omega) [zrc]using hT
    ·rw[yac hlt]at hlast
     rw[yaO hlt]at hnx;rcases g3 with ⟨g4,rfl⟩ | rfl
     ·subst g4
      simp -dsimp -implicitDefEqProofs (disch:=omega) [hrl,e1,hrk2,hnx,h0,hkr]
      refine ih (.sl 0 (k+1) 0 k,k) _ _ ⟨by simp only;omega,by simp only;rw[hlast],.inr rfl⟩ (by simp only;omega) ?_
      simp -dsimp -implicitDefEqProofs (disch:=omega) [hrl]
     ·have g5:k<n:=by omega
      simp -dsimp -implicitDefEqProofs (disch:=omega) [hrl,e1,hrk2,hnx,g5,h0,hkr]
      refine ih (.sl 0 n 0 k,k) _ _ ⟨by simp only;omega,by simp only;rw[g2,hlast],.inr rfl⟩ (by simp only;omega) ?_
      simp -dsimp -implicitDefEqProofs (disch:=omega) [hrl,g5]
end Go.Am.Ab
namespace Go.Am.Ab
open Go.Proofs
set_option maxHeartbeats 4000000
set_option maxRecDepth 4000
def zmG (p:Option (D × List Am.Obj)) (t:Nat) (s:Slots) (h:List Am.Obj) (r:List (Nat × Nat)):Slots × List Am.Obj:=
 match p with
 |some (x,h0)=>let (s1,h1):=zad s h0 r;((t,.d x)::s1,h1)
 |none=>zad s h r
@[simp] def zzr (x:D) (h0 h:List Am.Obj) (t:Nat) (s:Slots) (r:List (Nat × Nat)):zmG (some (x,h0)) t s h r=zdH (zad s h0 r) (λp=>((t,.d x)::p.1,p.2)) ⟨⟩:=rfl
@[simp] def zx3 {s:Slots} {h:List Am.Obj} {sz:Nat} {r:List (Nat × Nat)}:zad s h ((1000007,sz)::r)=zmG (zbE h (zbF s 7)) 7 s h r:=by
 have key: ∀t,zad s h ((t+1000000,sz)::r)=zmG (zbE h (zbF s t)) t s h r:=by
  intro t
  conv=>lhs;unfold zad
  rw[yac (by omega),ybJ]
  unfold zmG;cases zbE h (zbF s t) <;> rfl
 exact key 7
def zcW {n:Nat} (h:n<256):zbh (UInt8.ofNat n)= .int .u8 (n:Int):=zmF (by rw[zcA h])
def zp1 (c:Nat) (hv:c<55296\/(57344<=c/\c<=1114111)):R 123 [.d (.int .i64 c)] []=some ([.arr 0 (Utf8.encode (c:Nat)).size],[.arr 1 ((Utf8.encode (c:Nat)).data.toList.map zbh) 0]):=by
 rw[ziz hv]
 by_cases h1:c<128
 ·have h1':(c:Int)<128:=by omega
  have w1:(c:Int) % 256=c:=by omega
  have d1:=zcW (show c<256 by omega)
  rw[yag h1]
  show R _ _ _=some ([.arr 0 1],[.arr 1 [zbh (UInt8.ofNat c)] 0])
  rw[d1];refine rg zFJ rfl ?_;intro T hT;simp -dsimp -implicitDefEqProofs (disch:=omega) [h1',zcb,w1]
  simpa -dsimp -implicitDefEqProofs (disch:=omega) using hT
 by_cases h2:c<2048
 ·have h1': ¬ (c:Int)<128:=by omega
  have h2':(c:Int)<2048:=by omega
  rw[yac h1,yag h2]
  show R _ _ _=some ([.arr 0 2],[.arr 1 [zbh (UInt8.ofNat (192+c / 64)),zbh (UInt8.ofNat (128+c % 64))] 0])
  rw[zcW (by omega),zcW (by omega)]
  obtain⟨q,hq⟩: ∃q,q=c / 64:=⟨_,rfl⟩;obtain⟨r,hr⟩: ∃r,r=c % 64:=⟨_,rfl⟩;have t1:(c:Int) / 64=q:=by omega
  have t2:(c:Int) % 64=r:=by omega
  rw[<- hq,<- hr];have w1:((192:Int)+q) % 256=192+q:=by omega
  have w2:((128:Int)+r) % 256=128+r:=by omega
  refine rg zFJ rfl ?_;intro T hT;simp -dsimp -implicitDefEqProofs (disch:=omega) [h1',h2',t1,t2,zcb,w1,w2]
  simpa -dsimp -implicitDefEqProofs (disch:=omega) using hT
 by_cases h3:c<65536
 ·have h1': ¬ (c:Int)<128:=by omega
  have h2': ¬ (c:Int)<2048:=by omega
  have h3':(c:Int)<65536:=by omega
  rw[yac h1,yac h2,yag h3]
  show R _ _ _=some ([.arr 0 3],[.arr 1 [zbh (UInt8.ofNat (224+c / 4096)),zbh (UInt8.ofNat (128+c / 64 % 64)),zbh (UInt8.ofNat (128+c % 64))] 0])
  rw[zcW (by omega),zcW (by omega),zcW (by omega)]
  obtain⟨q,hq⟩: ∃q,q=c / 64:=⟨_,rfl⟩;obtain⟨q2,hq2⟩: ∃q,q=c / 4096:=⟨_,rfl⟩;obtain⟨r,hr⟩: ∃r,r=c % 64:=⟨_,rfl⟩;obtain⟨r2,hr2⟩: ∃r,r=c / 64 % 64:=⟨_,rfl⟩;have t1:(c:Int) / 64=q:=by omega
  have t2:(c:Int) % 64=r:=by omega
  have t3:(c:Int) / 4096=q2:=by omega
  have t4:(q:Int) % 64=r2:=by omega
  rw[<- hq2,<- hr,<- hr2];have w1:((224:Int)+q2) % 256=224+q2:=by omega
  have w2:((128:Int)+r) % 256=128+r:=by omega
  have w3:((128:Int)+r2) % 256=128+r2:=by omega
  refine rg zFJ rfl ?_;intro T hT;simp -dsimp -implicitDefEqProofs (disch:=omega) [h1',h2',h3',t1,t2,t3,t4,zcb,w1,w2,w3]
  simpa -dsimp -implicitDefEqProofs (disch:=omega) using hT
 ·have h1': ¬ (c:Int)<128:=by omega
  have h2': ¬ (c:Int)<2048:=by omega
  have h3': ¬ (c:Int)<65536:=by omega
  rw[yac h1,yac h2,yac h3]
  show R _ _ _=some ([.arr 0 4],[.arr 1 [zbh (UInt8.ofNat (240+c / 262144)),zbh (UInt8.ofNat (128+c / 4096 % 64)),zbh (UInt8.ofNat (128+c / 64 % 64)),zbh (UInt8.ofNat (128+c % 64))] 0])
  rw[zcW (by omega),zcW (by omega),zcW (by omega),zcW (by omega)]
  obtain⟨q,hq⟩: ∃q,q=c / 64:=⟨_,rfl⟩;obtain⟨q2,hq2⟩: ∃q,q=c / 4096:=⟨_,rfl⟩;obtain⟨q3,hq3⟩: ∃q,q=c / 262144:=⟨_,rfl⟩;obtain⟨r,hr⟩: ∃r,r=c % 64:=⟨_,rfl⟩;obtain⟨r2,hr2⟩: ∃r,r=c / 64 % 64:=⟨_,rfl⟩;obtain⟨r3,hr3⟩: ∃r,r=c / 4096 % 64:=⟨_,rfl⟩;have t1:(c:Int) / 64=q:=by omega
  have t2:(c:Int) % 64=r:=by omega
  have t3:(c:Int) / 4096=q2:=by omega
  have t4:(q:Int) % 64=r2:=by omega
  have t5:(c:Int) / 262144=q3:=by omega
  have t6:(q2:Int) % 64=r3:=by omega
  rw[<- hq3,<- hr,<- hr2,<- hr3];have w1:((240:Int)+q3) % 256=240+q3:=by omega
  have w2:((128:Int)+r) % 256=128+r:=by omega
  have w3:((128:Int)+r2) % 256=128+r2:=by omega
  have w4:((128:Int)+r3) % 256=128+r3:=by omega
  refine rg zFJ rfl ?_;intro T hT;simp -dsimp -implicitDefEqProofs (disch:=omega) [h1',h2',h3',t1,t2,t3,t4,t5,t6,zcb,w1,w2,w3,w4]
  simpa -dsimp -implicitDefEqProofs (disch:=omega) using hT
def zx4 (c:Nat) (hv:c<55296\/(57344<=c/\c<=1114111)):(Utf8.encode (c:Nat)).size<=4:=by
 rw[ziz hv]
 (repeat' split) <;> first | exact yaj _ | exact ycx rfl
set_option maxRecDepth 40000 in
def zp2 (s:ByteArray) (hm:s.size<1000000000) (n:Nat) (hn:n<=1000) (h0:0<n):R 80 [.d (.str s),.d (.int .i64 n)] []=some (zrc (abv s n),[]):=by
 have hs:=zck s hm;have hL:(sgs s).length<=s.size:=zcO s s.size 0;cases hall:(sgs s).all (·.2.2) with
 |false=>
  rw[hall]at hs;rw[zob hall];refine rg b80 rfl ?_;intro T hT;simp -dsimp -implicitDefEqProofs (disch:=omega) [hs]
  simpa -dsimp -implicitDefEqProofs (disch:=omega) [zrc]using hT
 |true=>
  rw[hall]at hs
  by_cases hlen:(sgs s).length<=n
  ·have hlen':((sgs s).length:Int)<=n:=by omega
   rw[zoc hall hlen];refine rg b80 rfl ?_;intro T hT;simp -dsimp -implicitDefEqProofs (disch:=omega) [hs,hlen']
   simpa -dsimp -implicitDefEqProofs (disch:=omega) [zrc]using hT
  ·have hlen': ¬ ((sgs s).length:Int)<=n:=by omega
   have h0': ¬ (n:Int)<1:=by omega
   rw[zrd hall hlen];have hpl:=zeT s s.size 0;have hle:=zod s s.size 0;have hok: ∀y∈sgs s,y.2.2=true:=λy hy=>List.all_eq_true.1 hall y hy
   have hLe: ∀y∈sgs s,y.2.1<s.size/\y.1<=1114111/\(y.1<55296\/57344<=y.1):=λy hy=>⟨hpl y hy,(hle y hy).1,(hle y hy).2 (hok y hy)⟩
   clear hpl hle hok;generalize sgs s=L at*;refine rg b80 rfl ?_;intro T hT;simp -dsimp -implicitDefEqProofs (disch:=omega) [hs,hlen',h0']
   generalize hz:zaf _ _ _ _ _ _=z;revert z;refine zaa (σ:=Nat) (λk=>[(0,.d (.str s)),(6,.arr 0 L.length),(7,.d (.list (zuP L))),(9,.d (.int .i64 ((k:Int) - 1)))]) (λ_=>[.arr 1 (zjS L) 0]) (λk=>k<=n/\zjW s L n=zjW s L k) (λk=>k) n ?_ ?_ ?_
   ·exact⟨yaj _,rfl⟩
   ·simp -dsimp -implicitDefEqProofs (disch:=omega)
   intro T' f hT' k ⟨g1,g2⟩ ih;cases k with
   |zero=>
    subst hT';rw[g2]at hT;simp only[zjW]at hT;simp -dsimp -implicitDefEqProofs (disch:=omega)
    simpa -dsimp -implicitDefEqProofs (disch:=omega) [zrc]using hT
   |succ k=>
    have hk:k<L.length:=by omega
    obtain⟨x,hx⟩: ∃x,L[k]? =some x:=⟨_,yak hk⟩;have hxm:=hLe x (yay hx);have hx2:L[k]=x:=by rw[yak hk]at hx;exact yaN hx
    have hlast:zjW s L (k+1)=if x.1<1114111 then some (s.extract 0 x.2.1++Utf8.encode (nxt x.1:Nat)) else zjW s L k:=by simp only[zjW,hx]
    have e1:((k:Int)+1 - 1)=k:=by omega
    by_cases hlt:x.1<1114111
    ·have hlt':(x.1:Int)<1114111:=by omega
     rw[yag hlt]at hlast;rw[g2,hlast]at hT;subst hT';have hpl:x.2.1<=s.size:=by omega
     have hsz:=za5 s 0 x.2.1 hpl;obtain⟨m,hm2⟩: ∃m,m=nxt x.1:=⟨_,rfl⟩;rw[<- hm2]at hT;unfold nxt at hm2;have hmv:m<55296\/(57344<=m/\m<=1114111):=by
      split at hm2 <;> omega
     have hb:=zp1 m hmv;have hes:=zx4 m hmv;generalize Utf8.encode (m:Nat)=e at*;have hds:e.data.size=e.size:=rfl;have hek:ByteArray.mk e.data=e:=rfl
     by_cases h5:x.1=55295
     ·have h5':(x.1:Int)+1=55296:=by omega
      rw[yag h5]at hm2;have hb2:R 123 [.d (.int .i64 57344)] []=some ([.arr 0 e.size],[.arr 1 (e.data.toList.map zbh) 0]):=by
       have hmi:(m:Int)=57344:=by omega
       rw[hmi]at hb;exact hb
      clear hb;simp -dsimp -implicitDefEqProofs (disch:=omega) [hx2,e1,hlt',h5',hpl,hsz,hb2,hes,hds,hek]
      simpa -dsimp -implicitDefEqProofs (disch:=omega) [zrc]using hT
     ·have h5': ¬ (x.1:Int)+1=55296:=by omega
      rw[yac h5]at hm2;have hm3:(x.1:Int)+1=m:=by omega
      have hm4: ¬ (m:Int)=55296:=by omega
      have hm5: ¬ m=55296:=by omega
      simp -dsimp -implicitDefEqProofs (disch:=omega) [hx2,e1,hlt',hm3,hm4,hm5,hpl,hsz,hb,hes,hds,hek]
      simpa -dsimp -implicitDefEqProofs (disch:=omega) [zrc]using hT
    ·have hlt': ¬ (x.1:Int)<1114111:=by omega
     rw[yac hlt]at hlast;simp -dsimp -implicitDefEqProofs (disch:=omega) [hx2,e1,hlt']
     refine ih k _ _ ⟨by omega,by rw[g2,hlast]⟩ (by omega) ?_
     simp -dsimp -implicitDefEqProofs (disch:=omega)
end Go.Am.Ab
