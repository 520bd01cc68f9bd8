/- Numbers in lines. -/
import Derived.Test.YtldceipbpilipaaGreatDoorMachD
import Derived.Test.YtldceipbpilipaaGreatDoorBase
set_option linter.all false
namespace Go.Am
def vL (a:Nat) (l:List UInt8):Nat:=l.foldl (fun a c=>a*10+(c.toNat - 48)) a
def digB (c:UInt8):Bool:=decide (48≤c.toNat) && decide (c.toNat≤57)
theorem digB_iff {c:UInt8}:digB c=true↔48≤c.toNat∧c.toNat≤57:=by simp[digB]
theorem vL_ge: ∀ (l:List UInt8) (a:Nat),a≤vL a l
 |[],a=>Nat.le_refl _
 |c::l,a=>Nat.le_trans (by omega) (vL_ge l (a*10+(c.toNat - 48)))
theorem parse_ok: ∀ (l:List UInt8) (a:Nat),l.all digB=true→vL a l<18446744073709551616→Lib.parseUint10 a l= .ok (vL a l)
 |[],a,_,_=>rfl
 |c::l,a,hd,hv=>by
  simp only[List.all_cons,Bool.and_eq_true]at hd
  have hc:=digB_iff.1 hd.1
  have h1:a*10+(c.toNat - 48)≤vL (a*10+(c.toNat - 48)) l:=vL_ge _ _
  have h2:vL a (c::l)=vL (a*10+(c.toNat - 48)) l:=rfl
  rw[h2]at hv ⊢
  simp only[Lib.parseUint10]
  rw[if_pos hc,if_neg (by omega),if_neg (by omega)]
  exact parse_ok l _ hd.2 hv
theorem u8d {n:Nat} (h:n<10):(UInt8.ofNat (48+n)).toNat=48+n:=by
 rw[UInt8.toNat_ofNat'];exact Nat.mod_eq_of_lt (by omega)
theorem digF_all: ∀ (k u:Nat),(digF k u).all digB=true
 |0,_=>rfl
 |k+1,u=>by
  unfold digF
  split
  ·rename_i h
   simp only[List.all_cons,List.all_nil,Bool.and_true]
   exact digB_iff.2 (by rw[u8d h];omega)
  ·simp only[List.all_append,List.all_cons,List.all_nil,Bool.and_true,Bool.and_eq_true]
   exact⟨digF_all k _,digB_iff.2 (by rw[u8d (Nat.mod_lt _ (by omega))];omega)⟩
theorem digF_val: ∀ (k u:Nat),u<10 ^ k→vL 0 (digF k u)=u
 |0,u,h=>by simp only[Nat.pow_zero]at h;simp[digF,vL];omega
 |k+1,u,h=>by
  unfold digF
  split
  ·rename_i h1
   show 0*10+((UInt8.ofNat (48+u)).toNat - 48)=u
   rw[u8d h1];omega
  ·have ih:=digF_val k (u / 10) (by rw[Nat.pow_succ]at h;omega)
   unfold vL at ih ⊢
   rw[List.foldl_append,ih]
   simp only[List.foldl_cons,List.foldl_nil,u8d (Nat.mod_lt u (show 0<10 by omega))]
   omega
theorem digF_ne: ∀ (k u:Nat),0<k→digF k u≠[]
 |0,_,h=>by omega
 |k+1,u,_=>by unfold digF;split <;> simp
theorem dig_first {k u:Nat} {c:UInt8} {r:List UInt8} (h:digF k u=c::r):48≤c.toNat∧c.toNat≤57:=by
 have:=digF_all k u
 rw[h]at this
 simp only[List.all_cons,Bool.and_eq_true]at this
 exact digB_iff.1 this.1
theorem atoi_itoa {n:Int} (h1: -9223372036854775808≤n) (h2:n≤9223372036854775807):Lib.atoiAll (itoaL n)= .ok n:=by
 have hp:(10:Nat) ^ 20=100000000000000000000:=by decide
 unfold itoaL
 split
 ·rename_i hn
  have hv:=digF_val 20 n.natAbs (by rw[hp];omega)
  have hpar:=parse_ok (digF 20 n.natAbs) 0 (digF_all _ _) (by rw[hv];omega)
  have hne:=digF_ne 20 n.natAbs (by omega)
  simp only[Lib.atoiAll]
  rw[show (45:UInt8).toNat=45 from rfl,if_pos (by omega)]
  simp only[Lib.parseMag,if_neg hne,hpar,hv]
  rw[if_neg (by simp),if_neg (by omega)]
  simp;omega
 ·have hv:=digF_val 20 n.toNat (by rw[hp];omega)
  have hpar:=parse_ok (digF 20 n.toNat) 0 (digF_all _ _) (by rw[hv];omega)
  have hne:=digF_ne 20 n.toNat (by omega)
  cases hd:digF 20 n.toNat with
  |nil=>exact absurd hd hne
  |cons c r=>
   have hc:=dig_first hd
   rw[hd]at hpar hv
   simp only[Lib.atoiAll]
   rw[if_neg (by omega)]
   simp only[Lib.parseMag,if_neg (List.cons_ne_nil c r),hpar,hv]
   rw[if_neg (by omega),if_neg (by omega)]
   rw[if_neg (by omega)]
   simp;omega
def numV (l:List UInt8):Int:=match Lib.atoiAll l with | .ok v=>v | .range=>Lib.atoiSat l | _=>0
def numOk (l:List UInt8) (low:Int):Bool:=match Lib.atoiAll l with | .ok v=>(itoaL v == l) && (decide (low≤v) && decide (v≤999999999)) | _=>false
theorem num_itoa {n:Int} (h1: -9223372036854775808≤n) (h2:n≤9223372036854775807) (low:Int):numV (itoaL n)=n∧numOk (itoaL n) low=(decide (low≤n) && decide (n≤999999999)):=by
 unfold numV numOk
 rw[atoi_itoa h1 h2]
 simp
theorem atoi_bounds {l:List UInt8} {v:Int} (h:Lib.atoiAll l= .ok v): -9223372036854775808≤v∧v≤9223372036854775807:=by
 unfold Lib.atoiAll at h
 split at h
 ·cases h
 ·simp only at h
  split at h
  ·cases h
  ·cases h
  ·split at h
   ·cases h
   ·split at h
    ·cases h
    ·simp only[Lib.NumEnd.ok.injEq]at h
     subst h
     split <;> omega
theorem num_some {l:List UInt8} {low:Int} (h:numOk l low=true): ∃v:Int,l=itoaL v∧low≤v∧v≤999999999∧numV l=v∧ -9223372036854775808≤v:=by
 unfold numOk at h
 split at h
 ·rename_i v hv
  simp only[Bool.and_eq_true,beq_iff_eq,decide_eq_true_eq]at h
  exact⟨v,h.1.symm,h.2.1,h.2.2,by unfold numV;rw[hv],(atoi_bounds hv).1⟩
 ·cases h
end Go.Am
namespace Go.Am.Ab
open Go.Proofs
set_option maxHeartbeats 2000000
abbrev S (l:List UInt8):V:= .d (.str ⟨l.toArray⟩)
abbrev I (n:Int):V:= .d (.int .i64 n)
theorem strD_size (l:List UInt8):(⟨l.toArray⟩:ByteArray).size=l.length:=by simp[ByteArray.size]
theorem sortV_lib {k:Nat} (hk:3≤k) (args:List V) (h:List Obj):sortV k args h=libV k args h:=by
 unfold sortV;rw[if_pos hk]
theorem atoi_runs {l:List UInt8} (hl:l.length≤1000000):R 180 [S l] []=some ((match Lib.atoiAll l with | .ok v=>[I v,.d .nilI] | .range=>[I (Lib.atoiSat l),.d .err] | _=>[I 0,.d .err]),[]):=by
 refine Runs_sort 7 (by omega) so_180 ?_
 rw[sortV_lib (by omega)]
 unfold libV
 show (libD 8 [strD l]).map _=_
 unfold libD
 simp only[strD,strD_size,if_pos hl]
 cases Lib.atoiAll l <;> rfl
theorem itoa_runs {n:Int} (h1: -9223372036854775808≤n) (h2:n≤9223372036854775807):R 107 [I n] []=some ([S (itoaL n)],[]):=by
 refine Runs_sort 4 (by omega) so_107 ?_
 rw[sortV_lib (by omega)]
 unfold libV
 show (if -9223372036854775808≤n∧n≤9223372036854775807 then some [strD (itoaL n)] else none).map _=_
 rw[if_pos ⟨h1,h2⟩]
 rfl
theorem split_runs {l:List UInt8} (hl:l.length<1000000000):R 58 [S l,S [32]] []=some ([.d (.list ((cutL 32 l).map strD))],[]):=by
 refine Runs_sort 2 (by omega) so_58 ?_
 rw[sortV_lib (by omega)]
 unfold libV
 show (libD 3 [strD l,strD [32]]).map _=_
 unfold libD
 simp only[strD,strD_size,if_pos hl]
 rfl
theorem number_runs {l:List UInt8} (hl:l.length≤1000000) {low:Int}:R 104 [S l,I low] []=some ([I (numV l),.d (.bool (numOk l low))],[]):=by
 have ha:=atoi_runs hl
 unfold numV numOk
 cases hat:Lib.atoiAll l with
 |ok v=>
  rw[hat]at ha
  obtain⟨b1,b2⟩:=atoi_bounds hat
  have hi:=itoa_runs b1 b2
  cases he:(itoaL v == l) with
  |false=>
   refine run_goal (rs:=[.tmp 4,.tmp 5]) (ts:=[3,4]) Tryz.func104 rfl rfl rfl (by kernel_rfl) (by kernel_rfl) (.inl sp_104) (by simp[Tryz.f104]) ?_
   intro T hT
   simp -dsimp -implicitDefEqProofs (disch:=first|omega|assumption) [startSlots,nI,wI,ha,hi,he]
   simpa -dsimp -implicitDefEqProofs (disch:=first|omega|assumption) [nI,wI,he]using hT
  |true=>
   by_cases hb:low≤v
   ·refine run_goal (rs:=[.tmp 4,.tmp 5]) (ts:=[3,4]) Tryz.func104 rfl rfl rfl (by kernel_rfl) (by kernel_rfl) (.inl sp_104) (by simp[Tryz.f104]) ?_
    intro T hT
    simp -dsimp -implicitDefEqProofs (disch:=first|omega|assumption) [startSlots,nI,wI,ha,hi,he,hb]
    simpa -dsimp -implicitDefEqProofs (disch:=first|omega|assumption) [nI,wI,he,hb]using hT
   ·refine run_goal (rs:=[.tmp 4,.tmp 5]) (ts:=[3,4]) Tryz.func104 rfl rfl rfl (by kernel_rfl) (by kernel_rfl) (.inl sp_104) (by simp[Tryz.f104]) ?_
    intro T hT
    simp -dsimp -implicitDefEqProofs (disch:=first|omega|assumption) [startSlots,nI,wI,ha,hi,he,hb]
    simpa -dsimp -implicitDefEqProofs (disch:=first|omega|assumption) [nI,wI,he,hb]using hT
 |range=>
  rw[hat]at ha
  refine run_goal (rs:=[.tmp 4,.tmp 5]) (ts:=[3,4]) Tryz.func104 rfl rfl rfl (by kernel_rfl) (by kernel_rfl) (.inl sp_104) (by simp[Tryz.f104]) ?_
  intro T hT
  simp -dsimp -implicitDefEqProofs (disch:=first|omega|assumption) [startSlots,nI,wI,ha]
  simpa -dsimp -implicitDefEqProofs (disch:=first|omega|assumption) [nI,wI]using hT
 |_=>
  rw[hat]at ha
  refine run_goal (rs:=[.tmp 4,.tmp 5]) (ts:=[3,4]) Tryz.func104 rfl rfl rfl (by kernel_rfl) (by kernel_rfl) (.inl sp_104) (by simp[Tryz.f104]) ?_
  intro T hT
  simp -dsimp -implicitDefEqProofs (disch:=first|omega|assumption) [startSlots,nI,wI,ha]
  simpa -dsimp -implicitDefEqProofs (disch:=first|omega|assumption) [nI,wI]using hT
end Go.Am.Ab
namespace Go.Am.Ab
open Go.Proofs
set_option maxHeartbeats 2000000
theorem ba_size (a:Array UInt8):(ByteArray.mk a).size=a.size:=rfl
theorem mk_add (a b:List UInt8):(⟨a.toArray⟩:ByteArray)++⟨b.toArray⟩=⟨(a++b).toArray⟩:=by
 apply ByteArray.ext
 simp
theorem mk1_add (c:UInt8) (b:List UInt8):(⟨#[c]⟩:ByteArray)++⟨b.toArray⟩=⟨(c::b).toArray⟩:=mk_add [c] b
def digW (u:Nat):List UInt8:=if u=0 then [] else digW (u / 10)++[UInt8.ofNat (48+u % 10)]
termination_by u
decreasing_by omega
theorem digW_pos {u:Nat} (h:0<u):digW u=digW (u / 10)++[UInt8.ofNat (48+u % 10)]:=by rw[digW,if_neg (by omega)]
theorem digW_zero:digW 0=[]:=by rw[digW,if_pos rfl]
theorem digF_W: ∀ (k u:Nat),0<u→u<10 ^ (k+1)→digF (k+1) u=digW u
 |0,u,h0,h=>by
  have h1:u<10:=by simpa using h
  unfold digF
  rw[if_pos h1,digW_pos h0,Nat.div_eq_of_lt h1,digW_zero,Nat.mod_eq_of_lt h1];rfl
 |k+1,u,h0,h=>by
  unfold digF
  split
  ·rename_i h1
   rw[digW_pos h0,Nat.div_eq_of_lt h1,digW_zero,Nat.mod_eq_of_lt h1];rfl
  ·rw[digF_W k (u / 10) (by omega) (by rw[Nat.pow_succ]at h;omega),digW_pos h0]
theorem digW_len: ∀ (k u:Nat),u<10 ^ k→(digW u).length≤k
 |0,u,h=>by
  have:u=0:=by simpa using h
  subst this;rw[digW_zero];simp
 |k+1,u,h=>by
  by_cases h0:u=0
  ·subst h0;rw[digW_zero];simp
  ·rw[digW_pos (by omega)]
   have:=digW_len k (u / 10) (by rw[Nat.pow_succ]at h;omega)
   simp;omega
theorem rnumber_pos (n:Nat) (h0:0<n) (h1:n≤9223372036854775807):R 118 [I n] []=some ([S (digW n)],[]):=by
 have hl:=digW_len 20 n (by have hp:(10:Nat) ^ 20=100000000000000000000:=(by decide);omega)
 have h0': ¬ ((n:Int)=0):=by omega
 have h0'': ¬ ((n:Int)<0):=by omega
 have h0n: ¬ n=0:=by omega
 refine run_goal (rs:=[.tmp 2]) (ts:=[9]) Tryz.func118 rfl rfl rfl (by kernel_rfl) (by kernel_rfl) (.inl sp_118) (by simp[Tryz.f118]) ?_
 intro T hT
 simp -dsimp -implicitDefEqProofs (disch:=first|omega|assumption) [startSlots,nI,wI,h0',h0'',h0n]
 generalize hz:loopT _ _ _ _ _ _=z
 revert z
 refine loop_any (σ:=Nat × List UInt8) (fun x=>[(0,I n),(3,S x.2),(4,I x.1)]) (fun x=>[]) (fun x=>x.1≤n∧digW x.1++x.2=digW n) (fun x=>x.1) (n,[]) ?_ ?_ ?_
 ·simp
 ·simp
 intro T' f hT' ⟨m,s⟩ ⟨hm,hb⟩ ih
 simp only at hm hb ih
 have hbl:s.length≤(digW n).length:=by rw[← hb];simp
 have q1:(m:Int).tdiv 10=((m / 10:Nat):Int):=by rw[Int.tdiv_eq_ediv_of_nonneg (by omega)];omega
 have q2:(m:Int).tmod 10=((m % 10:Nat):Int):=by rw[Int.tmod_eq_emod_of_nonneg (by omega)];omega
 obtain⟨r,hr⟩: ∃r,r=m % 10:=⟨_,rfl⟩
 obtain⟨q,hq⟩: ∃q,q=m / 10:=⟨_,rfl⟩
 rw[← hr]at q2
 rw[← hq]at q1
 have q3: ¬ ((r:Int)<0):=by omega
 have q5:(m:Int) % 10=r:=by omega
 have q6:(m:Int) / 10=q:=by omega
 have q4:((48:Int)+r) % 256=48+r:=by omega
 have qw:IntKind.u8.wrap (48+(r:Int))=48+r:=by rw[wrap_mod_u8];omega
 obtain⟨c8,hc8⟩: ∃c8,c8=UInt8.ofNat (48+r):=⟨_,rfl⟩
 have qb:byteOf? (.int .u8 (48+(r:Int)))=some c8:=by
  show some (UInt8.ofNat ((48:Int)+r).toNat)=_
  rw[show ((48:Int)+r).toNat=48+r by omega,hc8]
 simp -dsimp -implicitDefEqProofs (disch:=first|omega|assumption) [nI,wI,q1,q2,q5,q6,q3,q4,qw,qb,ba_size,mk1_add]
 repeat' ((with_reducible refine cond_any ?_ ?_) <;> intro c <;> (try simp only[decide_eq_true_eq,decide_eq_false_iff_not]at c) <;> (try simp -dsimp -implicitDefEqProofs (disch:=first|omega|assumption) [c,nI,wI,q1,q2,q5,q6,q3,q4,qw,qb,ba_size,mk1_add]))
 ·subst hT'
  subst c
  rw[digW_zero,List.nil_append]at hb
  subst hb
  simp -dsimp -implicitDefEqProofs (disch:=first|omega|assumption) [nI,wI,h0'']
  simpa -dsimp -implicitDefEqProofs (disch:=first|omega|assumption) [nI,wI]using hT
 ·refine ih (q,c8::s) _ _ ⟨by omega, ?_⟩ (by omega) (by simp -dsimp -implicitDefEqProofs (disch:=first|omega|assumption))
  rw[← hb,digW_pos (u:=m) (by omega),hq,hc8,hr];simp
end Go.Am.Ab
namespace Go.Am.Ab
open Go.Proofs
set_option maxHeartbeats 2000000
theorem rnumber_neg (n:Nat) (h0:0<n) (h1:n≤9223372036854775808):R 118 [I (-(n:Int))] []=some ([S (45::digW n)],[]):=by
 have hl:=digW_len 20 n (by have hp:(10:Nat) ^ 20=100000000000000000000:=(by decide);omega)
 have h0': ¬ (-(n:Int)=0):=by omega
 have h0'':(-(n:Int)<0):=by omega
 have h0p:(0:Int)<n:=by omega
 have h0n: ¬ n=0:=by omega
 refine run_goal (rs:=[.tmp 2]) (ts:=[9]) Tryz.func118 rfl rfl rfl (by kernel_rfl) (by kernel_rfl) (.inl sp_118) (by simp[Tryz.f118]) ?_
 intro T hT
 simp -dsimp -implicitDefEqProofs (disch:=first|omega|assumption) [startSlots,nI,wI,h0',h0'',h0n,h0p,h0,Int.neg_neg_iff_pos]
 generalize hz:loopT _ _ _ _ _ _=z
 revert z
 refine loop_any (σ:=Nat × List UInt8) (fun x=>[(0,I (-(n:Int))),(3,S x.2),(4,I (-(x.1:Int)))]) (fun x=>[]) (fun x=>x.1≤n∧digW x.1++x.2=digW n) (fun x=>x.1) (n,[]) ?_ ?_ ?_
 ·simp
 ·simp
 intro T' f hT' ⟨m,s⟩ ⟨hm,hb⟩ ih
 simp only at hm hb ih
 have hbl:s.length≤(digW n).length:=by rw[← hb];simp
 have q1:(-(m:Int)).tdiv 10= -((m / 10:Nat):Int):=by rw[Int.neg_tdiv,Int.tdiv_eq_ediv_of_nonneg (by omega)];omega
 have q2:(-(m:Int)).tmod 10= -((m % 10:Nat):Int):=by rw[Int.neg_tmod,Int.tmod_eq_emod_of_nonneg (by omega)];omega
 obtain⟨r,hr⟩: ∃r,r=m % 10:=⟨_,rfl⟩
 obtain⟨q,hq⟩: ∃q,q=m / 10:=⟨_,rfl⟩
 rw[← hr]at q2
 rw[← hq]at q1
 have q5:(m:Int) % 10=r:=by omega
 have q6:(m:Int) / 10=q:=by omega
 have q7:(0:Int) - -(r:Int)=r:=by omega
 have q8:r<10:=by omega
 have q4:((48:Int)+r) % 256=48+r:=by omega
 have qw:IntKind.u8.wrap (48+(r:Int))=48+r:=by rw[wrap_mod_u8];omega
 obtain⟨c8,hc8⟩: ∃c8,c8=UInt8.ofNat (48+r):=⟨_,rfl⟩
 have qb:byteOf? (.int .u8 (48+(r:Int)))=some c8:=by
  show some (UInt8.ofNat ((48:Int)+r).toNat)=_
  rw[show ((48:Int)+r).toNat=48+r by omega,hc8]
 by_cases hr0:r=0
 ·have q3: ¬ (0:Int)<r:=by omega
  have q3n: ¬ 0<r:=by omega
  have qw':IntKind.u8.wrap (48+ -(r:Int))=48+r:=by rw[wrap_mod_u8];omega
  have q4':((48:Int)+ -(r:Int)) % 256=48+r:=by omega
  simp -dsimp -implicitDefEqProofs (disch:=first|omega|assumption) [nI,wI,q1,q2,q5,q6,q7,q4,q4',qw,qw',qb,q3,q3n,Int.neg_neg_iff_pos,ba_size,mk1_add]
  repeat' ((with_reducible refine cond_any ?_ ?_) <;> intro c <;> (try simp only[decide_eq_true_eq,decide_eq_false_iff_not]at c) <;> (try simp -dsimp -implicitDefEqProofs (disch:=first|omega|assumption) [c,nI,wI,q1,q2,q5,q6,q7,q4,q4',qw,qw',qb,q3,q3n,Int.neg_neg_iff_pos,ba_size,mk1_add]))
  ·subst hT'
   subst c
   rw[digW_zero,List.nil_append]at hb
   subst hb
   simp -dsimp -implicitDefEqProofs (disch:=first|omega|assumption) [nI,wI,h0'',h0p,h0,Int.neg_neg_iff_pos,ba_size,mk1_add]
   simpa -dsimp -implicitDefEqProofs (disch:=first|omega|assumption) [nI,wI]using hT
  ·refine ih (q,c8::s) _ _ ⟨by omega, ?_⟩ (by omega) (by simp -dsimp -implicitDefEqProofs (disch:=first|omega|assumption))
   rw[← hb,digW_pos (u:=m) (by omega),hq,hc8,hr];simp
 ·have q3:(0:Int)<r:=by omega
  have q3n:0<r:=by omega
  simp -dsimp -implicitDefEqProofs (disch:=first|omega|assumption) [nI,wI,q1,q2,q5,q6,q7,q4,qw,qb,q3,q3n,Int.neg_neg_iff_pos,ba_size,mk1_add]
  repeat' ((with_reducible refine cond_any ?_ ?_) <;> intro c <;> (try simp only[decide_eq_true_eq,decide_eq_false_iff_not]at c) <;> (try simp -dsimp -implicitDefEqProofs (disch:=first|omega|assumption) [c,nI,wI,q1,q2,q5,q6,q7,q4,qw,qb,q3,q3n,Int.neg_neg_iff_pos,ba_size,mk1_add]))
  ·exfalso;omega
  ·refine ih (q,c8::s) _ _ ⟨by omega, ?_⟩ (by omega) (by simp -dsimp -implicitDefEqProofs (disch:=first|omega|assumption))
   rw[← hb,digW_pos (u:=m) (by omega),hq,hc8,hr];simp
theorem rnumber_runs {n:Int} (h1: -9223372036854775808≤n) (h2:n≤9223372036854775807):R 118 [I n] []=some ([S (itoaL n)],[]):=by
 have hp:(10:Nat) ^ (19+1)=100000000000000000000:=by decide
 rcases Int.lt_trichotomy n 0 with h | h | h
 ·obtain⟨k,rfl⟩: ∃k:Nat,n= -(k:Int):=⟨n.natAbs,by omega⟩
  have e:itoaL (-(k:Int))=45::digW k:=by
   unfold itoaL
   rw[if_pos h,show (-(k:Int)).natAbs=k by omega,digF_W 19 k (by omega) (by rw[hp];omega)]
  rw[e]
  exact rnumber_neg k (by omega) (by omega)
 ·subst h
  show R 118 [I 0] []=some ([S [48]],[])
  refine run_goal (rs:=[.tmp 2]) (ts:=[9]) Tryz.func118 rfl rfl rfl (by kernel_rfl) (by kernel_rfl) (.inl sp_118) (by simp[Tryz.f118]) ?_
  intro T hT
  simp -dsimp -implicitDefEqProofs (disch:=first|omega|assumption) [startSlots,nI,wI]
  simpa -dsimp -implicitDefEqProofs (disch:=first|omega|assumption) [nI,wI]using hT
 ·obtain⟨k,rfl⟩: ∃k:Nat,n=(k:Int):=⟨n.toNat,by omega⟩
  have e:itoaL (k:Int)=digW k:=by
   unfold itoaL
   rw[if_neg (by omega),show (k:Int).toNat=k by omega,digF_W 19 k (by omega) (by rw[hp];omega)]
  rw[e]
  exact rnumber_pos k (by omega) (by omega)
end Go.Am.Ab
