/- The unpacking of numbers. -/
import Derived.Test.YtibdiacpdmhmnaaGreatDoorBitsA
set_option linter.all false
namespace Go.Am.Ab
open Go.Proofs
set_option maxHeartbeats 4000000
def num:List UInt8->Nat
 |[]=>0
 |c::r=>c.toNat+256*num r
def zzu: ∀b:List UInt8,num b<2 ^ (8*b.length)
 |[]=>by simp[num]
 |c::r=>by
  have:=zzu r;have:=c.toNat_lt;simp only[num,yaf,ycM,yb9,ybC];omega
def zmI: ∀ (b:List UInt8) (q:Nat) (h:q<b.length),b[q].toNat=num b / 256 ^ q % 256
 |[],_,h=>by simp at h
 |c::r,0,_=>by
  have:=c.toNat_lt;simp[num]
 |c::r,q+1,h=>by
  have:=c.toNat_lt;have e:num (c::r) / 256 ^ (q+1)=num r / 256 ^ q:=by
   rw[Nat.pow_succ',<- ybH];congr 1;simp only[num];omega
  rw[e];exact zmI r q (by simpa using h)
def zzv: ∀ (k n:Nat),n<2 ^ (8*k)->num (le k n)=n
 |0,n,h=>by simp at h;simp[le,num,h]
 |k+1,n,h=>by
  rw[le,num,zzv k (n / 256) (by rw[ycM,ybC]at h;omega),zdo (by omega)]
  omega
def zu0 {N q r room at':Nat} (hat:at'=8*q+r) (h:room+r<=8):N / 256 ^ q % 256 / 2 ^ r % 2 ^ room=N / 2 ^ at' % 2 ^ room:=by
 have e:N / 2 ^ at'=N / 256 ^ q / 2 ^ r:=by
  rw[ybH,show 256 ^ q=2 ^ (8*q) by rw[show 256=2 ^ 8 from rfl,<- ydK],<- ybC,hat]
 rw[e];generalize N / 256 ^ q=x;have e2:x % 256 / 2 ^ r=x / 2 ^ r % 2 ^ (8 - r):=by
  have:256=2 ^ r*2 ^ (8 - r):=by rw[<- ybC,show r+(8 - r)=8 by omega]
  rw[this,Nat.mod_mul_right_div_self]
 rw[e2,Nat.mod_mod_of_dvd _ (Nat.pow_dvd_pow 2 (by omega))]
def ups (w N i:Nat):List Nat:=(List.range i).map λj=>N / 2 ^ (j*w) % 2 ^ w
@[simp] def zfq (w N i:Nat):(ups w N i).length=i:=by simp[ups]
def zx5 (w N i:Nat):ups w N (i+1)=ups w N i++[N / 2 ^ (i*w) % 2 ^ w]:=by simp[ups,ycX]
def zEl {w N i n:Nat} (hw:w<=64) (h:n∈ups w N i):n<18446744073709551616:=by
 simp only[ups,ycd]at h;obtain⟨j,-,rfl⟩:=h;have:=ycC (N / 2 ^ (j*w)) (ybz w);have:2 ^ w<=2 ^ 64:=yby (by decide) hw
 omega
def cells (w N n i v:Nat):List D:=(ups w N i++v::List.replicate (n - i - 1) 0).map λ(n:Nat)=>D.int .u64 (n:Int)
def zu1 (w N n i v:Nat):(cells w N n i v)[i]? =some (.int .u64 (v:Int)):=by
 simp[cells,yal]
def zoe (w N n i v:Nat) (v':Nat):(cells w N n i v).set i (.int .u64 (v':Int))=cells w N n i v':=by
 simp[cells,List.set_append]
def cells_length (w N n i v:Nat) (h:i<n):(cells w N n i v).length=n:=by simp[cells];omega
def zay (w N n i:Nat):List D:=(ups w N i++List.replicate (n - i) 0).map λ(n:Nat)=>D.int .u64 (n:Int)
def zsV (w N n i:Nat) (h:i<n):zay w N n i=cells w N n i 0:=by
 unfold zay cells;rw[show n - i=(n - i - 1)+1 by omega,yaR];rfl
def zsW (w N n i:Nat) (h:i<n):cells w N n i (N / 2 ^ (i*w) % 2 ^ w)=zay w N n (i+1):=by
 unfold zay cells;rw[zx5,show n - (i+1)=n - i - 1 by omega];simp
def zx6 (w N n:Nat):zay w N n n=(ups w N n).map λ(n:Nat)=>D.int .u64 (n:Int):=by simp[zay]
def zsX (b:List UInt8) (n w:Nat) (hb:b.length<4611686018427387904) (h1:n<=256) (h2:w<=64) (h3:b.length≠(n*w+7) / 8):
 R 178 [.d (.list (bytes b)),.d (.int .i64 n),.d (.int .i64 w)] []=some ([.arr 0 0,.d (.int .i64 40)],[.arr 1 [] 0]):=by
 obtain⟨lw,hlw⟩: ∃lw:Nat,lw=n*w:=⟨_,rfl⟩;have hlw':lw<=256*64:=by rw[hlw];exact ybA h1 h2
 have hlwi:(n:Int)*w=lw:=by rw[hlw,ybt]
 rw[<- hlw]at h3;refine rg zIb rfl ?_;intro T hT;simp -dsimp -implicitDefEqProofs (disch:=omega) [hlwi]
 repeat' ((with_reducible refine zgV ?_ ?_) <;> intro c <;> (try simp only[yaB,yaS]at c) <;> (try simp -dsimp -implicitDefEqProofs (disch:=omega) [c,nI,wI,hlwi]))
 all_goals first
  |(exfalso;omega)
  |(simpa -dsimp -implicitDefEqProofs (disch:=omega) using hT)
def zjZ (b:List UInt8) (n w:Nat) (h1:n<=256) (h2:w<=64) (h3:b.length=(n*w+7) / 8) (h4: ¬ num b<2 ^ (n*w)):
 R 178 [.d (.list (bytes b)),.d (.int .i64 n),.d (.int .i64 w)] []=some ([.arr 0 0,.d (.int .i64 40)],[.arr 1 [] 0]):=by
 obtain⟨lw,hlw⟩: ∃lw:Nat,lw=n*w:=⟨_,rfl⟩;have hlw':lw<=256*64:=by rw[hlw];exact ybA h1 h2
 have hlwi:(n:Int)*w=lw:=by rw[hlw,ybt]
 rw[<- hlw]at h3 h4;have hl:=zzu b;obtain⟨r,hr⟩: ∃r,r=lw % 8:=⟨_,rfl⟩;have hr0:0<r:=by
  rcases ybq r with h | h
  ·exfalso;apply h4;rwa [show lw=8*b.length by omega]
  ·exact h
 obtain⟨q,hq⟩: ∃q,q=b.length - 1:=⟨_,rfl⟩;have hqb:q<b.length:=by omega
 have hlast:=zmI b q hqb;have hN:num b / 256 ^ q<256:=by
  rw[yb3 (Nat.pow_pos (by decide)),show 256*256 ^ q=2 ^ (8*b.length) by rw[ybW,<- ycP,show 256=2 ^ 8 from rfl,<- ydK];congr 1;omega]
  exact hl
 rw[yaK hN]at hlast;have hhi:b[q].toNat / 2 ^ r=num b / 2 ^ lw:=by
  rw[hlast,ybH,show 256 ^ q=2 ^ (8*q) by rw[show 256=2 ^ 8 from rfl,<- ydK],<- ybC,show 8*q+r=lw by omega]
 have hpos:0<b[q].toNat / 2 ^ r:=by rw[hhi];exact Nat.div_pos (by omega) (ybz _)
 have hpi:(0:Int)<(b[q].toNat:Int) / 2 ^ r:=by
  rw[show (b[q].toNat:Int) / 2 ^ r=((b[q].toNat / 2 ^ r:Nat):Int) by rw[ydi,yb6];rfl];omega
 have a1: ¬ (n:Int)<0:=by omega
 have a2: ¬ (256:Int)<n:=by omega
 have a3: ¬ (w:Int)<0:=by omega
 have a4: ¬ (64:Int)<w:=by omega
 have a5:(b.length:Int)=((lw:Int)+7) / 8:=by omega
 have a6:(lw:Int) % 8=r:=by omega
 have a7:((b.length:Int) - 1).toNat=q:=by omega
 have a8:(0:Int)<r:=by omega
 have a9:min r 8=r:=by omega
 have a10:(((lw:Int)+7) / 8 - 1).toNat=q:=by omega
 refine rg zIb rfl ?_;intro T hT;simp -dsimp -implicitDefEqProofs (disch:=omega) [hlwi,a1,a2,a3,a4,a6]
 simp -dsimp -implicitDefEqProofs (disch:=omega) [hlwi,a1,a2,a3,a4,a5,a6,a7,a8,a9,a10,hpi,hr0]
 simpa -dsimp -implicitDefEqProofs (disch:=omega) using hT
def zlI (b:List UInt8) (n w:Nat) (h1:n<=256) (h2:w<=64) (h3:b.length=(n*w+7) / 8) (h4:num b<2 ^ (n*w)):
 R 178 [.d (.list (bytes b)),.d (.int .i64 n),.d (.int .i64 w)] []=some ([.arr 0 n,.d (.int .i64 0)],[.arr 1 ((ups w (num b) n).map λ(n:Nat)=>D.int .u64 (n:Int)) 0]):=by
 obtain⟨lw,hlw⟩: ∃lw:Nat,lw=n*w:=⟨_,rfl⟩;have hlw':lw<=256*64:=by rw[hlw];exact ybA h1 h2
 have hlwi:(n:Int)*w=lw:=by rw[hlw,ybt]
 rw[<- hlw]at h3 h4;obtain⟨N,hN⟩: ∃N,N=num b:=⟨_,rfl⟩;rw[<- hN]at h4 ⊢;have a1: ¬ (n:Int)<0:=by omega
 have a2: ¬ (256:Int)<n:=by omega
 have a3: ¬ (w:Int)<0:=by omega
 have a4: ¬ (64:Int)<w:=by omega
 have a5:(b.length:Int)=((lw:Int)+7) / 8:=by omega
 obtain⟨r,hr⟩: ∃r,r=lw % 8:=⟨_,rfl⟩;have a6:(lw:Int) % 8=r:=by omega
 have a9:min r 8=r:=by omega
 have hn64:n<4611686018427387904:=by omega
 obtain⟨q,hq⟩: ∃q,q=b.length - 1:=⟨_,rfl⟩;have hcase:r=0\/0<r/\ ∃hqb:q<b.length,¬ (0:Int)<(b[q].toNat:Int) / 2 ^ r:=by
  rcases ybq r with h | hr0
  ·exact .inl h
  ·refine .inr ⟨hr0,by omega, ?_⟩
   have hqb:q<b.length:=by omega
   rw[show (b[q].toNat:Int) / 2 ^ r=((b[q].toNat / 2 ^ r:Nat):Int) by rw[ydi,yb6];rfl]
   have:b[q].toNat / 2 ^ r=0:=by
    apply Nat.div_eq_of_lt;rw[zmI b q hqb,<- hN];have h256:256 ^ q=2 ^ (8*q):=by rw[show 256=2 ^ 8 from rfl,<- ydK]
    have:N / 256 ^ q<2 ^ r:=by
     rw[h256,yb3 (ybz _),<- ybC,show r+8*q=lw by omega];exact h4
    exact ybR (Nat.mod_le _ _) this
   omega
 refine rg zIb rfl ?_;intro T hT;simp -dsimp -implicitDefEqProofs (disch:=omega) [hlwi,a1,a2,a3,a4,a6]
 rcases hcase with h0 | ⟨hr0,hqb,hpi⟩
 case' inl=>
  have a8: ¬ (0:Int)<r:=by omega
  simp -dsimp -implicitDefEqProofs (disch:=omega) [hlwi,a1,a2,a3,a4,a5,a6,a8,h0]
 case' inr=>
  have a8:(0:Int)<r:=by omega
  have a10:(((lw:Int)+7) / 8 - 1).toNat=q:=by omega
  simp -dsimp -implicitDefEqProofs (disch:=omega) [hlwi,a1,a2,a3,a4,a5,a6,a8,a9,a10,hpi,hr0]
 all_goals
  generalize hz:zaf _ _ _ _ _ _=z;revert z;refine zaa (σ:=Nat) (λi=>[(0,.d (.list (bytes b))),(2,.d (.int .i64 w)),(9,.arr 0 n),(56,.d (.int .i64 n)),(57,.d (.int .i64 i))]) (λi=>[.arr 1 (zay w N n i) 0]) (λi=>i<=n) (λi=>n - i) 0 ?_ ?_ ?_
  ·simp
  ·simp -dsimp -implicitDefEqProofs (disch:=omega) [zay,ups]
  intro T' f hT' i hi ih
  by_cases h1:i<n
  ·obtain⟨iw,hiw⟩: ∃iw:Nat,iw=i*w:=⟨_,rfl⟩
   have hiwi:(i:Int)*w=iw:=by rw[hiw,ybt]
   have hiwl:iw+w<=lw:=by
    have:(i+1)*w<=n*w:=yaG _ h1;rw[ya8]at this;omega
   obtain⟨X,hX⟩: ∃X,X=N / 2 ^ iw:=⟨_,rfl⟩;rw[zsV _ _ _ _ h1];have hnext:=zsW w N n i h1;rw[<- hiw,<- hX]at hnext;simp -dsimp -implicitDefEqProofs (disch:=omega) [h1]
   generalize hz:zaf _ _ _ _ _ _=z;revert z;refine zaa (σ:=Nat) (λk=>[(0,.d (.list (bytes b))),(2,.d (.int .i64 w)),(9,.arr 0 n),(10,.d (.int .i64 i)),(11,.d (.int .i64 k)),(56,.d (.int .i64 n)),(57,.d (.int .i64 i))]) (λk=>[.arr 1 (cells w N n i (X % 2 ^ k)) 0]) (λk=>k<=w) (λk=>w - k) 0 ?_ ?_ ?_
   ·simp
   ·simp[Nat.mod_one]
   intro T2 f2 hT2 k hk ih2
   by_cases h2:k<w
   ·have h2':(k:Int)<w:=by omega
    obtain⟨room,hroom⟩: ∃room,room=min (8 - (iw+k) % 8) (w - k):=⟨_,rfl⟩;obtain⟨r',hr'⟩: ∃r,r=(iw+k) % 8:=⟨_,rfl⟩;obtain⟨q',hq'⟩: ∃q,q=(iw+k) / 8:=⟨_,rfl⟩;rw[<- hr']at hroom;have hqb':q'<b.length:=by omega
    have hget:=zmI b q' hqb';rw[<- hN]at hget;have hbits:=zu0 (N:=N) (q:=q') (r:=r') (room:=room) (at':=iw+k) (by omega) (by omega)
    have q0:((iw:Int)+k) % 8=r':=by omega
    have q1:(((iw:Int)+k) / 8).toNat=q':=by omega
    have q2:(if (w:Int) - k<8 - r' then (w:Int) - k else 8 - r')=(room:Int):=by split <;> omega
    have q4:min r' 8=r':=by omega
    have q5:min k 64=k:=by omega
    have q6:min room 8=room:=by omega
    have hcl: ∀v,(cells w N n i v).length=n:=λv=>cells_length w N n i v h1
    obtain⟨d,hd⟩: ∃d,d=b[q'].toNat / 2 ^ r':=⟨_,rfl⟩;have hdi:(b[q'].toNat:Int) / 2 ^ r'=d:=by rw[hd,ydi,yb6];rfl
    have hd256:d<256:=by rw[hd];exact ybR (ydU _ _) b[q'].toNat_lt
    obtain⟨pw,hpw⟩: ∃pw,pw=2 ^ room:=⟨_,rfl⟩;have hpwi:(2:Int) ^ room=pw:=by rw[hpw,yb6];rfl
    have hpw1:1<=pw:=by rw[hpw];exact ybz _
    have hpw8:pw<=256:=by rw[hpw];exact (yby (by decide) (by omega:room<=8):2 ^ room<=2 ^ 8)
    obtain⟨mk,hmk⟩: ∃mk,mk=pw - 1:=⟨_,rfl⟩;have hmki:((pw:Int) % 256 - 1) % 256=mk:=by omega
    have hmk256:mk<256:=by omega
    have hand:d &&& mk=d % 2 ^ room:=by rw[hmk,hpw];exact zg0 d room
    have hX2:N / 2 ^ (iw+k)=X / 2 ^ k:=by rw[hX,ybH,<- ybC]
    obtain⟨v,hv⟩: ∃v,v=d % 2 ^ room:=⟨_,rfl⟩;rw[<- hget,<- hd,<- hv,hX2]at hbits;rw[<- hv]at hand;have hstep:=zrg X k room;rw[<- hbits]at hstep;have hv256:v<256:=by rw[hv];exact ybR (Nat.mod_le _ _) hd256
    obtain⟨vk,hvk⟩: ∃vk,vk=v*2 ^ k:=⟨_,rfl⟩;have hvki:(v:Int)*2 ^ k=vk:=by rw[hvk,ybt,yb6];rfl
    rw[<- hvk]at hstep;have hlow:X % 2 ^ k<2 ^ k:=ycC _ (ybz _);have hor:(X % 2 ^ k ||| vk)=X % 2 ^ (k+room):=by
     rw[zgf (i:=k) (by rw[hvk];exact ydh _ _) hlow,hstep]
    have hsum64:X % 2 ^ (k+room)<18446744073709551616:=by
     have h1:=ycC X (ybz (k+room));have h2:2 ^ (k+room)<=2 ^ 64:=yby (by decide) (by omega)
     omega
    have hx64:X % 2 ^ k<18446744073709551616:=by omega
    have hvk64:vk<18446744073709551616:=by omega
    have hvkw:IntKind.u64.wrap (IntKind.u64.wrap (v:Int)*2 ^ k)=vk:=by rw[show IntKind.u64.wrap (v:Int)=v from zal (by omega) (by omega),hvki,zal (by omega) (by omega)]
    obtain⟨x0,hx0⟩: ∃x0,x0=X % 2 ^ k:=⟨_,rfl⟩;obtain⟨x1,hx1⟩: ∃x1,x1=X % 2 ^ (k+room):=⟨_,rfl⟩;rw[<- hx0,<- hx1]at hor;rw[<- hx1]at hsum64;rw[<- hx0]at hx64 ⊢;simp -dsimp -implicitDefEqProofs (disch:=omega) [h2',hiwi,q1,q0,q2,q4,q5,q6,hqb',hcl,zu1,zoe,hdi,hpwi,hmki,hand,hvkw,hor,h1]
    have hr1:1<=room:=by omega
    have hr2:k+room<=w:=by omega
    refine ih2 (k+room) _ _ hr2 (by omega) ?_
    rw[<- hx1];simp -dsimp -implicitDefEqProofs (disch:=omega) [zoe]
   ·obtain rfl:k=w:=by omega
    have h2': ¬ (k:Int)<k:=by omega
    subst hT2;simp -dsimp -implicitDefEqProofs (disch:=omega) [h2']
    rw[hnext];exact ih (i+1) _ _ h1 (by omega) (by simp -dsimp -implicitDefEqProofs (disch:=omega))
  ·obtain rfl:i=n:=by omega
   rw[zx6];subst hT';simp -dsimp -implicitDefEqProofs (disch:=omega) [h1]
   simpa -dsimp -implicitDefEqProofs (disch:=omega) using hT
end Go.Am.Ab
namespace Go.Am.Ab
open Go.Proofs
set_option maxHeartbeats 4000000
def half (Y j:Nat):2*(Y / 2 ^ (j+1))+Y / 2 ^ j % 2=Y / 2 ^ j:=by
 rw[ycP,<- ybH];omega
end Go.Am.Ab
