/- The unpacking of numbers. -/
import Derived.Test.YtlgdomajdebbdaaGreatDoorBitsA
set_option linter.all false
namespace Go.Am.Ab
open Go.Proofs
set_option maxHeartbeats 4000000
def num:List UInt8->Nat
 |[]=>0
 |c::r=>c.toNat+256*num r
def zrL: ∀b:List UInt8,num b<2 ^ (8*b.length)
 |[]=>by simp[num]
 |c::r=>by
  have:=zrL r;have:=c.toNat_lt;simp only[num,List.length_cons,Nat.mul_add,Nat.mul_one,Nat.pow_add];omega
def zgR: ∀ (b:List UInt8) (q:Nat) (h:q<b.length),b[q].toNat=num b / 256 ^ q % 256
 |[],_,h=>by simp at h
 |c::r,0,_=>by
  have:=c.toNat_lt;simp[num]
 |c::r,q+1,h=>by
  have:=c.toNat_lt;have e:num (c::r) / 256 ^ (q+1)=num r / 256 ^ q:=by
   rw[Nat.pow_succ',<- Nat.div_div_eq_div_mul];congr 1;simp only[num];omega
  rw[e];exact zgR r q (by simpa using h)
def zuZ: ∀ (k n:Nat),n<2 ^ (8*k)->num (le k n)=n
 |0,n,h=>by simp at h;simp[le,num,h]
 |k+1,n,h=>by
  rw[le,num,zuZ k (n / 256) (by rw[Nat.mul_add,Nat.pow_add]at h;omega),zce (by omega)]
  omega
def zmm {N q r room at':Nat} (hat:at'=8*q+r) (h:room+r<=8):N / 256 ^ q % 256 / 2 ^ r % 2 ^ room=N / 2 ^ at' % 2 ^ room:=by
 have e:N / 2 ^ at'=N / 256 ^ q / 2 ^ r:=by
  rw[Nat.div_div_eq_div_mul,show 256 ^ q=2 ^ (8*q) by rw[show 256=2 ^ 8 from rfl,<- Nat.pow_mul],<- Nat.pow_add,hat]
 rw[e];generalize N / 256 ^ q=x;have e2:x % 256 / 2 ^ r=x / 2 ^ r % 2 ^ (8 - r):=by
  have:256=2 ^ r*2 ^ (8 - r):=by rw[<- Nat.pow_add,show r+(8 - r)=8 by omega]
  rw[this,Nat.mod_mul_right_div_self]
 rw[e2,Nat.mod_mod_of_dvd _ (Nat.pow_dvd_pow 2 (by omega))]
def ups (w N i:Nat):List Nat:=(List.range i).map λj=>N / 2 ^ (j*w) % 2 ^ w
@[simp] def zdq (w N i:Nat):(ups w N i).length=i:=by simp[ups]
def zoX (w N i:Nat):ups w N (i+1)=ups w N i++[N / 2 ^ (i*w) % 2 ^ w]:=by simp[ups,List.range_succ]
def zzO {w N i n:Nat} (hw:w<=64) (h:n∈ups w N i):n<18446744073709551616:=by
 simp only[ups,List.mem_map]at h;obtain⟨j,-,rfl⟩:=h;have:=Nat.mod_lt (N / 2 ^ (j*w)) (Nat.two_pow_pos w);have:2 ^ w<=2 ^ 64:=Nat.pow_le_pow_right (by decide) hw
 omega
def cells (w N n i v:Nat):List D:=(ups w N i++v::List.replicate (n - i - 1) 0).map λ(n:Nat)=>D.int .u64 (n:Int)
def zrM (w N n i v:Nat):(cells w N n i v)[i]? =some (.int .u64 (v:Int)):=by
 simp[cells,List.getElem?_append_right]
def zmn (w N n i v:Nat) (v':Nat):(cells w N n i v).set i (.int .u64 (v':Int))=cells w N n i v':=by
 simp[cells,List.set_append]
def cells_length (w N n i v:Nat) (h:i<n):(cells w N n i v).length=n:=by simp[cells];omega
def zaB (w N n i:Nat):List D:=(ups w N i++List.replicate (n - i) 0).map λ(n:Nat)=>D.int .u64 (n:Int)
def zp6 (w N n i:Nat) (h:i<n):zaB w N n i=cells w N n i 0:=by
 unfold zaB cells;rw[show n - i=(n - i - 1)+1 by omega,List.replicate_succ];rfl
def zp7 (w N n i:Nat) (h:i<n):cells w N n i (N / 2 ^ (i*w) % 2 ^ w)=zaB w N n (i+1):=by
 unfold zaB cells;rw[zoX,show n - (i+1)=n - i - 1 by omega];simp
def zt4 (w N n:Nat):zaB w N n n=(ups w N n).map λ(n:Nat)=>D.int .u64 (n:Int):=by simp[zaB]
def zp8 (b:List UInt8) (n w:Nat) (hb:b.length<4611686018427387904) (h1:n<=256) (h2:w<=64) (h3:b.length≠(n*w+7) / 8):
 R 190 [.d (.list (bytes b)),.d (.int .i64 n),.d (.int .i64 w)] []=some ([.arr 0 0,.d (.int .i64 40)],[.arr 1 [] 0]):=by
 obtain⟨lw,hlw⟩: ∃lw:Nat,lw=n*w:=⟨_,rfl⟩;have hlw':lw<=256*64:=by rw[hlw];exact Nat.mul_le_mul h1 h2
 have hlwi:(n:Int)*w=lw:=by rw[hlw,Int.natCast_mul]
 rw[<- hlw]at h3;refine rg zCE rfl ?_;intro T hT;simp -dsimp -implicitDefEqProofs (disch:=first|omega|assumption) [hlwi]
 repeat' ((with_reducible refine zeh ?_ ?_) <;> intro c <;> (try simp only[decide_eq_true_eq,decide_eq_false_iff_not]at c) <;> (try simp -dsimp -implicitDefEqProofs (disch:=first|omega|assumption) [c,nI,wI,hlwi]))
 all_goals first
  |(exfalso;omega)
  |(simpa -dsimp -implicitDefEqProofs (disch:=first|omega|assumption) using hT)
def ziH (b:List UInt8) (n w:Nat) (h1:n<=256) (h2:w<=64) (h3:b.length=(n*w+7) / 8) (h4: ¬ num b<2 ^ (n*w)):
 R 190 [.d (.list (bytes b)),.d (.int .i64 n),.d (.int .i64 w)] []=some ([.arr 0 0,.d (.int .i64 40)],[.arr 1 [] 0]):=by
 obtain⟨lw,hlw⟩: ∃lw:Nat,lw=n*w:=⟨_,rfl⟩;have hlw':lw<=256*64:=by rw[hlw];exact Nat.mul_le_mul h1 h2
 have hlwi:(n:Int)*w=lw:=by rw[hlw,Int.natCast_mul]
 rw[<- hlw]at h3 h4;have hl:=zrL b;obtain⟨r,hr⟩: ∃r,r=lw % 8:=⟨_,rfl⟩;have hr0:0<r:=by
  rcases Nat.eq_zero_or_pos r with h | h
  ·exfalso;apply h4;rwa [show lw=8*b.length by omega]
  ·exact h
 obtain⟨q,hq⟩: ∃q,q=b.length - 1:=⟨_,rfl⟩;have hqb:q<b.length:=by omega
 have hlast:=zgR b q hqb;have hN:num b / 256 ^ q<256:=by
  rw[Nat.div_lt_iff_lt_mul (Nat.pow_pos (by decide)),show 256*256 ^ q=2 ^ (8*b.length) by rw[Nat.mul_comm,<- Nat.pow_succ,show 256=2 ^ 8 from rfl,<- Nat.pow_mul];congr 1;omega]
  exact hl
 rw[Nat.mod_eq_of_lt hN]at hlast;have hhi:b[q].toNat / 2 ^ r=num b / 2 ^ lw:=by
  rw[hlast,Nat.div_div_eq_div_mul,show 256 ^ q=2 ^ (8*q) by rw[show 256=2 ^ 8 from rfl,<- Nat.pow_mul],<- Nat.pow_add,show 8*q+r=lw by omega]
 have hpos:0<b[q].toNat / 2 ^ r:=by rw[hhi];exact Nat.div_pos (by omega) (Nat.two_pow_pos _)
 have hpi:(0:Int)<(b[q].toNat:Int) / 2 ^ r:=by
  rw[show (b[q].toNat:Int) / 2 ^ r=((b[q].toNat / 2 ^ r:Nat):Int) by rw[Int.natCast_ediv,Int.natCast_pow];rfl];omega
 have a1: ¬ (n:Int)<0:=by omega
 have a2: ¬ (256:Int)<n:=by omega
 have a3: ¬ (w:Int)<0:=by omega
 have a4: ¬ (64:Int)<w:=by omega
 have a5:(b.length:Int)=((lw:Int)+7) / 8:=by omega
 have a6:(lw:Int) % 8=r:=by omega
 have a7:((b.length:Int) - 1).toNat=q:=by omega
 have a8:(0:Int)<r:=by omega
 have a9:min r 8=r:=by omega
 have a10:(((lw:Int)+7) / 8 - 1).toNat=q:=by omega
 refine rg zCE rfl ?_;intro T hT;simp -dsimp -implicitDefEqProofs (disch:=first|omega|assumption) [hlwi,a1,a2,a3,a4,a6]
 simp -dsimp -implicitDefEqProofs (disch:=first|omega|assumption) [hlwi,a1,a2,a3,a4,a5,a6,a7,a8,a9,a10,hpi,hr0]
 simpa -dsimp -implicitDefEqProofs (disch:=first|omega|assumption) using hT
def zkd (b:List UInt8) (n w:Nat) (h1:n<=256) (h2:w<=64) (h3:b.length=(n*w+7) / 8) (h4:num b<2 ^ (n*w)):
 R 190 [.d (.list (bytes b)),.d (.int .i64 n),.d (.int .i64 w)] []=some ([.arr 0 n,.d (.int .i64 0)],[.arr 1 ((ups w (num b) n).map λ(n:Nat)=>D.int .u64 (n:Int)) 0]):=by
 obtain⟨lw,hlw⟩: ∃lw:Nat,lw=n*w:=⟨_,rfl⟩;have hlw':lw<=256*64:=by rw[hlw];exact Nat.mul_le_mul h1 h2
 have hlwi:(n:Int)*w=lw:=by rw[hlw,Int.natCast_mul]
 rw[<- hlw]at h3 h4;obtain⟨N,hN⟩: ∃N,N=num b:=⟨_,rfl⟩;rw[<- hN]at h4 ⊢;have a1: ¬ (n:Int)<0:=by omega
 have a2: ¬ (256:Int)<n:=by omega
 have a3: ¬ (w:Int)<0:=by omega
 have a4: ¬ (64:Int)<w:=by omega
 have a5:(b.length:Int)=((lw:Int)+7) / 8:=by omega
 obtain⟨r,hr⟩: ∃r,r=lw % 8:=⟨_,rfl⟩;have a6:(lw:Int) % 8=r:=by omega
 have a9:min r 8=r:=by omega
 have hn64:n<4611686018427387904:=by omega
 obtain⟨q,hq⟩: ∃q,q=b.length - 1:=⟨_,rfl⟩;have hcase:r=0\/0<r/\ ∃hqb:q<b.length,¬ (0:Int)<(b[q].toNat:Int) / 2 ^ r:=by
  rcases Nat.eq_zero_or_pos r with h | hr0
  ·exact .inl h
  ·refine .inr ⟨hr0,by omega, ?_⟩
   have hqb:q<b.length:=by omega
   rw[show (b[q].toNat:Int) / 2 ^ r=((b[q].toNat / 2 ^ r:Nat):Int) by rw[Int.natCast_ediv,Int.natCast_pow];rfl]
   have:b[q].toNat / 2 ^ r=0:=by
    apply Nat.div_eq_of_lt;rw[zgR b q hqb,<- hN];have h256:256 ^ q=2 ^ (8*q):=by rw[show 256=2 ^ 8 from rfl,<- Nat.pow_mul]
    have:N / 256 ^ q<2 ^ r:=by
     rw[h256,Nat.div_lt_iff_lt_mul (Nat.two_pow_pos _),<- Nat.pow_add,show r+8*q=lw by omega];exact h4
    exact Nat.lt_of_le_of_lt (Nat.mod_le _ _) this
   omega
 refine rg zCE rfl ?_;intro T hT;simp -dsimp -implicitDefEqProofs (disch:=first|omega|assumption) [hlwi,a1,a2,a3,a4,a6]
 rcases hcase with h0 | ⟨hr0,hqb,hpi⟩
 case' inl=>
  have a8: ¬ (0:Int)<r:=by omega
  simp -dsimp -implicitDefEqProofs (disch:=first|omega|assumption) [hlwi,a1,a2,a3,a4,a5,a6,a8,h0]
 case' inr=>
  have a8:(0:Int)<r:=by omega
  have a10:(((lw:Int)+7) / 8 - 1).toNat=q:=by omega
  simp -dsimp -implicitDefEqProofs (disch:=first|omega|assumption) [hlwi,a1,a2,a3,a4,a5,a6,a8,a9,a10,hpi,hr0]
 all_goals
  generalize hz:zac _ _ _ _ _ _=z;revert z;refine zaa (σ:=Nat) (λi=>[(0,.d (.list (bytes b))),(2,.d (.int .i64 w)),(9,.arr 0 n),(56,.d (.int .i64 n)),(57,.d (.int .i64 i))]) (λi=>[.arr 1 (zaB w N n i) 0]) (λi=>i<=n) (λi=>n - i) 0 ?_ ?_ ?_
  ·simp
  ·simp -dsimp -implicitDefEqProofs (disch:=first|omega|assumption) [zaB,ups]
  intro T' f hT' i hi ih
  by_cases h1:i<n
  ·obtain⟨iw,hiw⟩: ∃iw:Nat,iw=i*w:=⟨_,rfl⟩
   have hiwi:(i:Int)*w=iw:=by rw[hiw,Int.natCast_mul]
   have hiwl:iw+w<=lw:=by
    have:(i+1)*w<=n*w:=Nat.mul_le_mul_right _ h1;rw[Nat.add_mul]at this;omega
   obtain⟨X,hX⟩: ∃X,X=N / 2 ^ iw:=⟨_,rfl⟩;rw[zp6 _ _ _ _ h1];have hnext:=zp7 w N n i h1;rw[<- hiw,<- hX]at hnext;simp -dsimp -implicitDefEqProofs (disch:=first|omega|assumption) [h1]
   generalize hz:zac _ _ _ _ _ _=z;revert z;refine zaa (σ:=Nat) (λk=>[(0,.d (.list (bytes b))),(2,.d (.int .i64 w)),(9,.arr 0 n),(10,.d (.int .i64 i)),(11,.d (.int .i64 k)),(56,.d (.int .i64 n)),(57,.d (.int .i64 i))]) (λk=>[.arr 1 (cells w N n i (X % 2 ^ k)) 0]) (λk=>k<=w) (λk=>w - k) 0 ?_ ?_ ?_
   ·simp
   ·simp[Nat.mod_one]
   intro T2 f2 hT2 k hk ih2
   by_cases h2:k<w
   ·have h2':(k:Int)<w:=by omega
    obtain⟨room,hroom⟩: ∃room,room=min (8 - (iw+k) % 8) (w - k):=⟨_,rfl⟩;obtain⟨r',hr'⟩: ∃r,r=(iw+k) % 8:=⟨_,rfl⟩;obtain⟨q',hq'⟩: ∃q,q=(iw+k) / 8:=⟨_,rfl⟩;rw[<- hr']at hroom;have hqb':q'<b.length:=by omega
    have hget:=zgR b q' hqb';rw[<- hN]at hget;have hbits:=zmm (N:=N) (q:=q') (r:=r') (room:=room) (at':=iw+k) (by omega) (by omega)
    have q0:((iw:Int)+k) % 8=r':=by omega
    have q1:(((iw:Int)+k) / 8).toNat=q':=by omega
    have q2:(if (w:Int) - k<8 - r' then (w:Int) - k else 8 - r')=(room:Int):=by split <;> omega
    have q4:min r' 8=r':=by omega
    have q5:min k 64=k:=by omega
    have q6:min room 8=room:=by omega
    have hcl: ∀v,(cells w N n i v).length=n:=λv=>cells_length w N n i v h1
    obtain⟨d,hd⟩: ∃d,d=b[q'].toNat / 2 ^ r':=⟨_,rfl⟩;have hdi:(b[q'].toNat:Int) / 2 ^ r'=d:=by rw[hd,Int.natCast_ediv,Int.natCast_pow];rfl
    have hd256:d<256:=by rw[hd];exact Nat.lt_of_le_of_lt (Nat.div_le_self _ _) b[q'].toNat_lt
    obtain⟨pw,hpw⟩: ∃pw,pw=2 ^ room:=⟨_,rfl⟩;have hpwi:(2:Int) ^ room=pw:=by rw[hpw,Int.natCast_pow];rfl
    have hpw1:1<=pw:=by rw[hpw];exact Nat.two_pow_pos _
    have hpw8:pw<=256:=by rw[hpw];exact (Nat.pow_le_pow_right (by decide) (by omega:room<=8):2 ^ room<=2 ^ 8)
    obtain⟨mk,hmk⟩: ∃mk,mk=pw - 1:=⟨_,rfl⟩;have hmki:((pw:Int) % 256 - 1) % 256=mk:=by omega
    have hmk256:mk<256:=by omega
    have hand:d &&& mk=d % 2 ^ room:=by rw[hmk,hpw];exact zdI d room
    have hX2:N / 2 ^ (iw+k)=X / 2 ^ k:=by rw[hX,Nat.div_div_eq_div_mul,<- Nat.pow_add]
    obtain⟨v,hv⟩: ∃v,v=d % 2 ^ room:=⟨_,rfl⟩;rw[<- hget,<- hd,<- hv,hX2]at hbits;rw[<- hv]at hand;have hstep:=zhW X k room;rw[<- hbits]at hstep;have hv256:v<256:=by rw[hv];exact Nat.lt_of_le_of_lt (Nat.mod_le _ _) hd256
    obtain⟨vk,hvk⟩: ∃vk,vk=v*2 ^ k:=⟨_,rfl⟩;have hvki:(v:Int)*2 ^ k=vk:=by rw[hvk,Int.natCast_mul,Int.natCast_pow];rfl
    rw[<- hvk]at hstep;have hlow:X % 2 ^ k<2 ^ k:=Nat.mod_lt _ (Nat.two_pow_pos _);have hor:(X % 2 ^ k ||| vk)=X % 2 ^ (k+room):=by
     rw[zgO (i:=k) (by rw[hvk];exact Nat.mul_mod_left _ _) hlow,hstep]
    have hsum64:X % 2 ^ (k+room)<18446744073709551616:=by
     have h1:=Nat.mod_lt X (Nat.two_pow_pos (k+room));have h2:2 ^ (k+room)<=2 ^ 64:=Nat.pow_le_pow_right (by decide) (by omega)
     omega
    have hx64:X % 2 ^ k<18446744073709551616:=by omega
    have hvk64:vk<18446744073709551616:=by omega
    have hvkw:IntKind.u64.wrap (IntKind.u64.wrap (v:Int)*2 ^ k)=vk:=by rw[show IntKind.u64.wrap (v:Int)=v from zae (by omega) (by omega),hvki,zae (by omega) (by omega)]
    obtain⟨x0,hx0⟩: ∃x0,x0=X % 2 ^ k:=⟨_,rfl⟩;obtain⟨x1,hx1⟩: ∃x1,x1=X % 2 ^ (k+room):=⟨_,rfl⟩;rw[<- hx0,<- hx1]at hor;rw[<- hx1]at hsum64;rw[<- hx0]at hx64 ⊢;simp -dsimp -implicitDefEqProofs (disch:=first|omega|assumption) [h2',hiwi,q1,q0,q2,q4,q5,q6,hqb',hcl,zrM,zmn,hdi,hpwi,hmki,hand,hvkw,hor,h1]
    have hr1:1<=room:=by omega
    have hr2:k+room<=w:=by omega
    refine ih2 (k+room) _ _ hr2 (by omega) ?_
    rw[<- hx1];simp -dsimp -implicitDefEqProofs (disch:=first|omega|assumption) [zmn]
   ·obtain rfl:k=w:=by omega
    have h2': ¬ (k:Int)<k:=by omega
    subst hT2;simp -dsimp -implicitDefEqProofs (disch:=first|omega|assumption) [h2']
    rw[hnext];exact ih (i+1) _ _ h1 (by omega) (by simp -dsimp -implicitDefEqProofs (disch:=first|omega|assumption))
  ·obtain rfl:i=n:=by omega
   rw[zt4];subst hT';simp -dsimp -implicitDefEqProofs (disch:=first|omega|assumption) [h1]
   simpa -dsimp -implicitDefEqProofs (disch:=first|omega|assumption) using hT
end Go.Am.Ab
namespace Go.Am.Ab
open Go.Proofs
set_option maxHeartbeats 4000000
def znO (b:List UInt8) (n w:Nat) (hb:b.length<4611686018427387904) (h1:n<=256) (h2:w<=64) (h3:b.length≠(n*w+7) / 8):
 R 133 [.d (.list (bytes b)),.d (.int .i64 n),.d (.int .i64 w)] []=some ([.arr 0 0,.d (.int .i64 40)],[.arr 1 [] 0]):=by
 obtain⟨lw,hlw⟩: ∃lw:Nat,lw=n*w:=⟨_,rfl⟩;have hlw':lw<=256*64:=by rw[hlw];exact Nat.mul_le_mul h1 h2
 have hlwi:(n:Int)*w=lw:=by rw[hlw,Int.natCast_mul]
 rw[<- hlw]at h3;refine rg zDk rfl ?_;intro T hT;simp -dsimp -implicitDefEqProofs (disch:=first|omega|assumption) [hlwi]
 repeat' ((with_reducible refine zeh ?_ ?_) <;> intro c <;> (try simp only[decide_eq_true_eq,decide_eq_false_iff_not]at c) <;> (try simp -dsimp -implicitDefEqProofs (disch:=first|omega|assumption) [c,nI,wI,hlwi]))
 all_goals first
  |(exfalso;omega)
  |(simpa -dsimp -implicitDefEqProofs (disch:=first|omega|assumption) using hT)
def half (Y j:Nat):2*(Y / 2 ^ (j+1))+Y / 2 ^ j % 2=Y / 2 ^ j:=by
 rw[Nat.pow_succ,<- Nat.div_div_eq_div_mul];omega
def zvG {X w j:Nat} (h:j<w):X % 2 ^ w / 2 ^ j % 2=X / 2 ^ j % 2:=by
 have:2 ^ w=2 ^ j*2 ^ (w - j):=by rw[<- Nat.pow_add,show j+(w - j)=w by omega]
 rw[this,Nat.mod_mul_right_div_self];exact Nat.mod_mod_of_dvd _ (by rw[show w - j=(w - j - 1)+1 by omega,Nat.pow_succ];exact Nat.dvd_mul_left _ _)
def zoY {N q r at':Nat} (hat:at'=8*q+r) (h:r<8):N / 256 ^ q % 256 / 2 ^ r % 2=N / 2 ^ at' % 2:=by
 have:=zmm (N:=N) (q:=q) (r:=r) (room:=1) hat (by omega)
 rwa [Nat.pow_one]at this
def zt5 {N a:Nat} (h:N / 2 ^ a % 2=0):N % 2 ^ (a+1)=N % 2 ^ a:=by
 have:=zhW N a 1;rw[Nat.pow_one,h]at this;omega
def zfL (b:List UInt8) (n w:Nat) (h1:n<=256) (h2:w<=64) (h3:b.length=(n*w+7) / 8):
 R 133 [.d (.list (bytes b)),.d (.int .i64 n),.d (.int .i64 w)] []=some (if num b<2 ^ (n*w) then ([.arr 0 n,.d (.int .i64 0)],[.arr 1 ((ups w (num b) n).map λ(n:Nat)=>D.int .u64 (n:Int)) 0]) else ([.arr 0 0,.d (.int .i64 40)],[.arr 1 [] 0])):=by
 obtain⟨lw,hlw⟩: ∃lw:Nat,lw=n*w:=⟨_,rfl⟩;have hlw':lw<=256*64:=by rw[hlw];exact Nat.mul_le_mul h1 h2
 have hlwi:(n:Int)*w=lw:=by rw[hlw,Int.natCast_mul]
 have hnum:=zrL b;rw[<- hlw]at h3 ⊢;obtain⟨N,hN⟩: ∃N,N=num b:=⟨_,rfl⟩;rw[<- hN]at hnum ⊢;have a1: ¬ (n:Int)<0:=by omega
 have a2: ¬ (256:Int)<n:=by omega
 have a3: ¬ (w:Int)<0:=by omega
 have a4: ¬ (64:Int)<w:=by omega
 have a5:(b.length:Int)=((lw:Int)+7) / 8:=by omega
 refine rg zDk rfl ?_;intro T hT;simp -dsimp -implicitDefEqProofs (disch:=first|omega|assumption) [hlwi,a1,a2,a3,a4]
 simp -dsimp -implicitDefEqProofs (disch:=first|omega|assumption) [hlwi,a5]
 generalize hz:zac _ _ _ _ _ _=z;revert z;refine zaa (σ:=Nat) (λi=>[(0,.d (.list (bytes b))),(1,.d (.int .i64 n)),(2,.d (.int .i64 w)),(8,.arr 0 i),(9,.d (.int .i64 i))]) (λi=>[.arr 1 ((ups w N i).map λ(n:Nat)=>D.int .u64 (n:Int)) 0]) (λi=>i<=n) (λi=>n - i) 0 ?_ ?_ ?_
 ·simp
 ·simp -dsimp -implicitDefEqProofs (disch:=first|omega|assumption) [ups]
 intro T' f hT' i hi ih
 by_cases h4:i<n
 ·obtain⟨iw,hiw⟩: ∃iw:Nat,iw=i*w:=⟨_,rfl⟩
  have hiwi:(i:Int)*w=iw:=by rw[hiw,Int.natCast_mul]
  have hiwl:iw+w<=lw:=by
   have:(i+1)*w<=n*w:=Nat.mul_le_mul_right _ h4;rw[Nat.add_mul]at this;omega
  obtain⟨X,hX⟩: ∃X,X=N / 2 ^ iw:=⟨_,rfl⟩;obtain⟨Y,hY⟩: ∃Y,Y=X % 2 ^ w:=⟨_,rfl⟩;have hY64:Y<18446744073709551616:=by
   have h1:=Nat.mod_lt X (Nat.two_pow_pos w);have h2:2 ^ w<=2 ^ 64:=Nat.pow_le_pow_right (by decide) (by omega)
   omega
  have hY0:Y / 2 ^ w=0:=by rw[hY];exact Nat.div_eq_of_lt (Nat.mod_lt _ (Nat.two_pow_pos w))
  have hnext:ups w N (i+1)=ups w N i++[Y]:=by rw[zoX,<- hiw,<- hX,<- hY]
  simp -dsimp -implicitDefEqProofs (disch:=first|omega|assumption) [h4]
  generalize hz:zac _ _ _ _ _ _=z;revert z;refine zaa (σ:=Nat) (λj=>[(0,.d (.list (bytes b))),(1,.d (.int .i64 n)),(2,.d (.int .i64 w)),(8,.arr 0 i),(9,.d (.int .i64 i)),(10,.d (.int .u64 ((Y / 2 ^ j:Nat):Int))),(11,.d (.int .i64 ((j:Int) - 1)))]) (λj=>[.arr 1 ((ups w N i).map λ(n:Nat)=>D.int .u64 (n:Int)) 0]) (λj=>j<=w) (λj=>j) w ?_ ?_ ?_
  ·simp
  ·simp -dsimp -implicitDefEqProofs (disch:=first|omega|assumption) [hY0]
  intro T2 f2 hT2 j hj ih2;cases j with
  |zero=>
   subst hT2;simp -dsimp -implicitDefEqProofs (disch:=first|omega|assumption)
   refine ih (i+1) _ _ h4 (by omega) ?_
   rw[hnext];simp -dsimp -implicitDefEqProofs (disch:=first|omega|assumption)
  |succ j=>
   have e0:((j+1:Nat):Int) - 1=j:=by omega
   obtain⟨y1,hy1⟩: ∃y,y=Y / 2 ^ (j+1):=⟨_,rfl⟩;obtain⟨y0,hy0⟩: ∃y,y=Y / 2 ^ j:=⟨_,rfl⟩;obtain⟨r,hr⟩: ∃r,r=(iw+j) % 8:=⟨_,rfl⟩;obtain⟨q,hq⟩: ∃q,q=(iw+j) / 8:=⟨_,rfl⟩;have hqb:q<b.length:=by omega
   have hget:=zgR b q hqb;rw[<- hN]at hget;have hbit:=zoY (N:=N) (q:=q) (r:=r) (at':=iw+j) (by omega) (by omega)
   have hX2:N / 2 ^ (iw+j)=X / 2 ^ j:=by rw[hX,Nat.div_div_eq_div_mul,<- Nat.pow_add]
   obtain⟨d,hd⟩: ∃d,d=b[q].toNat / 2 ^ r:=⟨_,rfl⟩;have hdi:(b[q].toNat:Int) / 2 ^ r=d:=by rw[hd,Int.natCast_ediv,Int.natCast_pow];rfl
   have hd256:d<256:=by rw[hd];exact Nat.lt_of_le_of_lt (Nat.div_le_self _ _) b[q].toNat_lt
   rw[<- hget,<- hd,hX2,<- zvG (w:=w) (by omega),<- hY]at hbit
   have hhalf:=half Y j;rw[<- hbit,<- hy0,<- hy1]at hhalf;have hy064:y0<18446744073709551616:=by rw[hy0];exact Nat.lt_of_le_of_lt (Nat.div_le_self _ _) hY64
   have q0:((iw:Int)+j) % 8=r:=by omega
   have q1:(((iw:Int)+j) / 8).toNat=q:=by omega
   have q4:min r 8=r:=by omega
   have hwr:IntKind.u64.wrap (r:Int)=r:=zae (by omega) (by omega)
   have hwd:IntKind.u64.wrap ((d:Int) % 2)=(d:Int) % 2:=zae (by omega) (by omega)
   have hwy:IntKind.u64.wrap (2*(y1:Int))=2*y1:=zae (by omega) (by omega)
   have hws:IntKind.u64.wrap (2*(y1:Int)+d % 2)=y0:=by rw[zae (by omega) (by omega)];omega
   rw[<- hy1];simp -dsimp -implicitDefEqProofs (disch:=first|omega|assumption) [e0,hiwi,q0,q1,q4,hwr,hdi,hwd,hwy,hws,hqb]
   refine ih2 j _ _ (by omega) (by omega) ?_
   rw[<- hy0];simp -dsimp -implicitDefEqProofs (disch:=first|omega|assumption)
 ·obtain rfl:i=n:=by omega
  subst hT';simp -dsimp -implicitDefEqProofs (disch:=first|omega|assumption) [h4,hlwi]
  generalize hz:zac _ _ _ _ _ _=z;revert z;refine zaa (σ:=Nat) (λa=>[(0,.d (.list (bytes b))),(8,.arr 0 i),(13,.d (.int .i64 a))]) (λj=>[.arr 1 ((ups w N i).map λ(n:Nat)=>D.int .u64 (n:Int)) 0]) (λa=>lw<=a/\a<=8*b.length/\N % 2 ^ a=N % 2 ^ lw) (λa=>8*b.length - a) lw ?_ ?_ ?_
  ·exact⟨Nat.le_refl _,by omega,rfl⟩
  ·simp
  intro T2 f2 hT2 a ⟨ha1,ha2,ha3⟩ ih2
  by_cases h5:a<8*b.length
  ·have h5':(a:Int)<8*b.length:=by omega
   have h5'':(a:Int)<8*(((lw:Int)+7) / 8):=by omega
   obtain⟨r,hr⟩: ∃r,r=a % 8:=⟨_,rfl⟩;obtain⟨q,hq⟩: ∃q,q=a / 8:=⟨_,rfl⟩;have hqb:q<b.length:=by omega
   have hget:=zgR b q hqb;rw[<- hN]at hget;have hbit:=zoY (N:=N) (q:=q) (r:=r) (at':=a) (by omega) (by omega)
   obtain⟨d,hd⟩: ∃d,d=b[q].toNat / 2 ^ r:=⟨_,rfl⟩;have hdi:(b[q].toNat:Int) / 2 ^ r=d:=by rw[hd,Int.natCast_ediv,Int.natCast_pow];rfl
   rw[<- hget,<- hd]at hbit;have q0:(a:Int) % 8=r:=by omega
   have q1:((a:Int) / 8).toNat=q:=by omega
   have q4:min r 8=r:=by omega
   have hwr:IntKind.u64.wrap (r:Int)=r:=zae (by omega) (by omega)
   by_cases h6:d % 2=1
   ·have h6':(d:Int) % 2=1:=by omega
    have hbig: ¬ N<2 ^ lw:=by
     intro h;have h8:2 ^ lw<=2 ^ a:=Nat.pow_le_pow_right (by decide) ha1
     rw[Nat.div_eq_of_lt (Nat.lt_of_lt_of_le h h8)]at hbit;omega
    rw[if_neg hbig]at hT;subst hT2;simp -dsimp -implicitDefEqProofs (disch:=first|omega|assumption) [h5',h5'',q0,q1,q4,hwr,hdi,h6',hqb,a5]
    simpa -dsimp -implicitDefEqProofs (disch:=first|omega|assumption) using hT
   ·have h6': ¬ (d:Int) % 2=1:=by omega
    have hz:N / 2 ^ a % 2=0:=by omega
    have hnx:=zt5 hz;simp -dsimp -implicitDefEqProofs (disch:=first|omega|assumption) [h5',h5'',q0,q1,q4,hwr,hdi,h6',hqb,a5]
    exact ih2 (a+1) _ _ ⟨by omega,h5,by rw[hnx,ha3]⟩ (by omega) (by simp -dsimp -implicitDefEqProofs (disch:=first|omega|assumption))
  ·obtain rfl:a=8*b.length:=by omega
   rw[Nat.mod_eq_of_lt hnum]at ha3;have hsm:N<2 ^ lw:=by rw[ha3];exact Nat.mod_lt _ (Nat.two_pow_pos _)
   rw[if_pos hsm]at hT;subst hT2;simp -dsimp -implicitDefEqProofs (disch:=first|omega|assumption) [a5]
   simpa -dsimp -implicitDefEqProofs (disch:=first|omega|assumption) using hT
end Go.Am.Ab
