/- The signs of texts: the program. -/
import Derived.Test.YtibdiacpdmhmnaaGreatDoorSignsA
set_option linter.all false
namespace Go.Am.Ab
open Go.Proofs
set_option maxHeartbeats 4000000
set_option maxRecDepth 4000
abbrev zzE (x:ByteArray × Bool):List V:=[.d (.str x.1),.d (.bool x.2)]
def zue {s:ByteArray} {n:Nat} (h:(sgs s).all (·.2.2)=false):abv s n=(⟨#[]⟩,false):=by unfold abv;rw[yai h]
def zuf {s:ByteArray} {n:Nat} (h:(sgs s).all (·.2.2)=true) (h2:(sgs s).length<=n):abv s n=(s,true):=by unfold abv;rw[yaf (by rw[h];decide),yai h2]
def zxc {s:ByteArray} {n:Nat} (h:(sgs s).all (·.2.2)=true) (h2: ¬ (sgs s).length<=n):abv s n=match zqE s (sgs s) n with | some t=>(t,true) | none=>(⟨#[]⟩,false):=by unfold abv;rw[yaf (by rw[h];decide),yaf h2];cases zqE s (sgs s) n <;> rfl
def zug (s:ByteArray): ∀ (m i:Nat), ∀x∈sgL s m i,x.1<=1114111/\(x.2.2=true->x.1<55296\/57344<=x.1)
 |0,_,x,h=>by cases h
 |m+1,i,x,h=>by
  simp only[sgL]at h;split at h
  ·rcases List.mem_cons.1 h with rfl | h
   ·refine⟨zyv _, ?_⟩
    simp only;unfold sig sgf
    (repeat' split) <;> simp only <;> intro _ <;> omega
   ·exact zug s m _ x h
  ·cases h
def zuh (l:List Nat):(l.map λ(c:Nat)=>D.int .i32 c).mapM runeOf?=some (l.map λ(c:Nat)=>(c:Int)):=by
 induction l with
 |nil=>rfl
 |cons c l ih=>simp only[ya1,yaI,runeOf?,ih];rfl
def zxd (l:List Nat) (k c:Nat) (hk:k<l.length):(l.set k c).take (k+1)=l.take k++[c]:=by
 rw[List.take_add_one,List.take_set_of_le (yag k),yaR hk];rfl
def zsg (s:ByteArray) (hm:s.size<1000000000) (n:Nat) (hn:n<=1000) (h0:0<n):R 97 [.d (.str s),.d (.int .i64 n)] []=some (zzE (abv s n),[]):=by
 have hcl:=zhI s hm;have hct:=zsd s hm;have hfi:=zln s hm n hn;cases hall:(sgs s).all (·.2.2) with
 |false=>
  rw[hall]at hcl;rw[zue hall];refine rg b97 rfl ?_;intro T hT;simp -dsimp -implicitDefEqProofs (disch:=first|omega|assumption) [hcl]
  simpa -dsimp -implicitDefEqProofs (disch:=first|omega|assumption) [zzE]using hT
 |true=>
  rw[hall]at hcl
  by_cases hlen:(sgs s).length<=n
  ·have hlen':((sgs s).length:Int)<=n:=by omega
   rw[zuf hall hlen];refine rg b97 rfl ?_;intro T hT;simp -dsimp -implicitDefEqProofs (disch:=first|omega|assumption) [hcl,hct,hlen']
   simpa -dsimp -implicitDefEqProofs (disch:=first|omega|assumption) [zzE]using hT
  ·have hlen': ¬ ((sgs s).length:Int)<=n:=by omega
   rw[zxc hall hlen];have hn2:n<(sgs s).length:=by omega
   have hx:(sgs s)[n]? =some (sgs s)[n]:=yal hn2;have hf:frs s n=s.extract 0 (sgs s)[n].2.1:=by unfold frs;rw[hx]
   have hpl:=zjK s s.size 0 _ (yar hn2);have hok: ∀y∈sgs s,y.2.2=true:=λy hy=>List.all_eq_true.1 hall y hy
   have hle: ∀y∈sgs s,y.1<=1114111:=λy hy=>(zug s s.size 0 y hy).1
   obtain⟨p,hp⟩: ∃p,p=(sgs s)[n].2.1:=⟨_,rfl⟩;rw[<- hp]at hf hpl;have hsp:sgs s=(sgs s).take n++(sgs s)[n]::(sgs s).drop (n+1):=by
    rw[<- yaG hn2,ybk]
   have hrun:zfU (s.extract 0 p)=((sgs s).take n).map (·.1):=by
    have hsz:=zbc s 0 p (by omega)
    exact (zjM s p _ s.size 0 _ _ _ hsp (λy hy=>hok y (yaH hy)) hp (by omega)).1
   have hszp:(s.extract 0 p).size<2147483648:=by rw[zbc s 0 p (by omega)];omega
   rw[hf]at hfi;obtain⟨rr,hrr⟩: ∃rr:List Nat,rr=((sgs s).take n).map (·.1):=⟨_,rfl⟩
   rw[<- hrr]at hrun;have hrl:rr.length=n:=by rw[hrr,yak,yat];omega
   have hrg: ∀k x,(sgs s)[k]? =some x->k<n->rr[k]? =some x.1:=λk x hk hkn=>by
    rw[hrr,yax,yaU,yai hkn,hk];rfl
   generalize hfx:s.extract 0 p=fx at*;have hcut: ∀k x,(sgs s)[k]? =some x->((((sgs s).take k).map λy=>(y.1:Int)).foldl (λs n=>s++Utf8.encode n) ByteArray.empty)=s.extract 0 x.2.1:=λk x hk=>by
    have hk2:=lt_of_getElem? hk;have e:(sgs s)[k]=x:=by rw[yal hk2]at hk;exact yaV hk
    have hsp2:sgs s=(sgs s).take k++x::(sgs s).drop (k+1):=by
     rw[<- e,<- yaG hk2,ybk]
    have:=(zjM s x.2.1 _ s.size 0 x _ x.2.1 hsp2 (λy hy=>hok y (yaH hy)) rfl (by omega)).2 ByteArray.empty
    rw[this,ByteArray.empty_append]
   have hlL:n<=(sgs s).length:=by omega
   generalize sgs s=L at*;refine rg b97 rfl ?_;intro T hT;simp -dsimp -implicitDefEqProofs (disch:=first|omega|assumption) [hcl,hct,hlen',hfi,hszp,hrun,hrl]
   generalize hz:zak _ _ _ _ _ _=z;revert z;refine zaa (σ:=V × Nat) (λx=>[(6,x.1)]) (λx=>[.arr 1 (rr.map λ(c:Nat)=>D.int .i32 c) 0]) (λx=>x.2<=n/\zqE s L n=zqE s L x.2/\(x.2=n/\x.1= .arr 0 n\/x.1= .sl 0 n 0 x.2)) (λx=>x.2) (.arr 0 n,n) ?_ ?_ ?_
   ·exact⟨yag _,rfl,.inl ⟨rfl,rfl⟩⟩
   ·simp -dsimp -implicitDefEqProofs (disch:=first|omega|assumption) [hrl]
   intro T' f hT' ⟨v,k⟩ ⟨g1,g2,g3⟩ ih;simp only at g1 g2 g3 ih;cases k with
   |zero=>
    have hv:v= .sl 0 n 0 0:=g3.resolve_left (λh=>by omega)
    subst hv;subst hT';rw[g2]at hT;simp only[zqE]at hT;simp -dsimp -implicitDefEqProofs (disch:=first|omega|assumption) [hrl]
    simpa -dsimp -implicitDefEqProofs (disch:=first|omega|assumption) [zzE]using hT
   |succ k=>
    have hk:k<L.length:=by omega
    obtain⟨x,hx⟩: ∃x,L[k]? =some x:=⟨_,yal hk⟩;have hrk:=hrg k x hx (by omega)
    have hkr:k<rr.length:=by omega
    have hrk2:rr[k]=x.1:=by rw[yal hkr]at hrk;exact yaV hrk
    have hc:=hcut k x hx;have hxm:x∈L:=yao hx;have hnx:=zsf x.1 (hle x hxm);have hlast:zqE s L (k+1)=if x.1<1114111 then some (s.extract 0 x.2.1++Utf8.encode (nxt x.1:Nat)) else zqE s L k:=by simp only[zqE,hx]
    have e1:((k:Int)+1 - 1)=k:=by omega
    have hen:zBd (((rr.set k (nxt x.1)).take (k+1)).map λ(c:Nat)=>(c:Int))=s.extract 0 x.2.1++Utf8.encode (nxt x.1:Nat):=by
     rw[zxd rr k _ hkr];unfold zBd;rw[ybi,yc3];have e:(rr.take k).map (λ(c:Nat)=>(c:Int))=(L.take k).map λy=>(y.1:Int):=by
      rw[hrr,<- ybZ,List.take_take,ycp (by omega),ya3]
      rfl
     rw[e,hc];rfl
    rw[ybZ,ybY]at hen;have hmap:((((rr.map λ(c:Nat)=>D.int .i32 c).set k (.int .i32 (nxt x.1:Nat))).take (k+1)).mapM runeOf?)=some (((rr.set k (nxt x.1)).take (k+1)).map λ(c:Nat)=>(c:Int)):=by
     have e:(rr.map λ(c:Nat)=>D.int .i32 c).set k (.int .i32 (nxt x.1:Nat))=(rr.set k (nxt x.1)).map λ(c:Nat)=>D.int .i32 c:=by rw[ybY]
     rw[e,<- ybZ,zuh]
    by_cases hlt:x.1<1114111
    ·rw[yai hlt]at hlast
     rw[yaQ hlt]at hnx;rw[g2,hlast]at hT;subst hT';rcases g3 with ⟨g4,rfl⟩ | rfl
     ·subst g4
      have htk:((rr.map λ(c:Nat)=>D.int .i32 c).set k (.int .i32 (nxt x.1:Nat))).take (k+1)=(rr.map λ(c:Nat)=>D.int .i32 c).set k (.int .i32 (nxt x.1:Nat)):=yaB (by rw[ycu,yak];omega)
      rw[htk]at hmap;simp -dsimp -implicitDefEqProofs (disch:=first|omega|assumption) [hrl,e1,hrk2,hnx,h0,hkr,hmap,hen]
      simpa -dsimp -implicitDefEqProofs (disch:=first|omega|assumption) [zzE]using hT
     ·have g5:k<n:=by omega
      have g6:k+1<=n:=by omega
      simp -dsimp -implicitDefEqProofs (disch:=first|omega|assumption) [hrl,e1,hrk2,hnx,g5,g6,h0,hkr,hmap,hen]
      simpa -dsimp -implicitDefEqProofs (disch:=first|omega|assumption) [zzE]using hT
    ·rw[yaf hlt]at hlast
     rw[yaW hlt]at hnx;rcases g3 with ⟨g4,rfl⟩ | rfl
     ·subst g4
      simp -dsimp -implicitDefEqProofs (disch:=first|omega|assumption) [hrl,e1,hrk2,hnx,h0,hkr]
      refine ih (.sl 0 (k+1) 0 k,k) _ _ ⟨by simp only;omega,by simp only;rw[hlast],.inr rfl⟩ (by simp only;omega) ?_
      simp -dsimp -implicitDefEqProofs (disch:=first|omega|assumption) [hrl]
     ·have g5:k<n:=by omega
      simp -dsimp -implicitDefEqProofs (disch:=first|omega|assumption) [hrl,e1,hrk2,hnx,g5,h0,hkr]
      refine ih (.sl 0 n 0 k,k) _ _ ⟨by simp only;omega,by simp only;rw[g2,hlast],.inr rfl⟩ (by simp only;omega) ?_
      simp -dsimp -implicitDefEqProofs (disch:=first|omega|assumption) [hrl,g5]
end Go.Am.Ab
namespace Go.Am.Ab
open Go.Proofs
set_option maxHeartbeats 4000000
set_option maxRecDepth 4000
def zmo (p:Option (D × List Am.Obj)) (t:Nat) (s:Slots) (h:List Am.Obj) (r:List (Nat × Nat)):Slots × List Am.Obj:=
 match p with
 |some (x,h0)=>let (s1,h1):=zad s h0 r;((t,.d x)::s1,h1)
 |none=>zad s h r
@[simp] def zyy (x:D) (h0 h:List Am.Obj) (t:Nat) (s:Slots) (r:List (Nat × Nat)):zmo (some (x,h0)) t s h r=zdF (zad s h0 r) (λp=>((t,.d x)::p.1,p.2)) ⟨⟩:=rfl
@[simp] def zxe {s:Slots} {h:List Am.Obj} {sz:Nat} {r:List (Nat × Nat)}:zad s h ((1000007,sz)::r)=zmo (zby h (zbE s 7)) 7 s h r:=by
 have key: ∀t,zad s h ((t+1000000,sz)::r)=zmo (zby h (zbE s t)) t s h r:=by
  intro t
  conv=>lhs;unfold zad
  rw[yaf (by omega),ybJ]
  unfold zmo;cases zby h (zbE s t) <;> rfl
 exact key 7
end Go.Am.Ab
