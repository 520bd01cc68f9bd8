/- The statement on what bytes are read. -/
import Derived.Test.YtlgdomajdebbdaaGreatDoorRColD
import Derived.Test.YtlgdomajdebbdaaGreatDoorColE
set_option linter.all false
namespace Go.Am.Ab
open Go.Proofs
set_option maxHeartbeats 4000000
def okE (e:Nat):Prop:=e=30\/e=31\/e=32\/e=40\/e=50
def PR.fine {α:Type}:PR α->Prop
 |.err e=>okE e
 |.ok _ _=>True
def PR.fine_map {α β:Type} {f:α->β} {p:PR α} (h:p.fine):(p.map f).fine:=by cases p <;> exact h
def zuu (b:List UInt8):(get b).2.2=0\/okE (get b).2.2:=by
 unfold okE;rcases zr1 b with h | h | h
 ·exact .inl h
 ·rw[h];right;left;rfl
 ·rw[h];right;right;left;rfl
def zgz {b:List UInt8} (h:(get b).2.2≠0):okE (get b).2.2:=(zuu b).resolve_left h
def zgA (b:List UInt8):(zni b).fine:=by
 unfold zni;split
 ·trivial
 ·rename_i h;exact zgz h
def zgB (b:List UInt8):(zld b).fine:=by
 unfold zld;split
 ·trivial
 ·rename_i h;exact zgz h
def zor:okE 40:=by unfold okE;omega
def zvZ:okE 30:=by unfold okE;omega
def zCQ:okE 32:=by unfold okE;omega
def zjx (dl:Bool): ∀ (n:Nat) (a:Int) (b:List UInt8),(zfQ dl n a b).fine
 |0,_,_=>trivial
 |n+1,a,b=>by
  have h:=zgB b;unfold zfQ;split
  ·rename_i e;rw[e]at h;exact h
  ·exact PR.fine_map (zjx dl n _ _)
def zkK: ∀ (f m:Nat) (b:List UInt8),(zcr f m b).fine
 |_,0,_=>by unfold zcr;trivial
 |0,m+1,_=>by unfold zcr;exact zor
 |f+1,m+1,b=>by
  have h:=zgB b;unfold zcr;split
  ·rename_i e;rw[e]at h;exact h
  ·rename_i r e
   have h2:=zgA r;split
   ·rename_i e;rw[e]at h2;exact h2
   ·split
    ·exact zor
    ·exact PR.fine_map (zkK f _ _)
def zkL: ∀ (n:Nat) (a:Int) (b:List UInt8),(zfR n a b).fine
 |0,_,_=>trivial
 |n+1,a,b=>by
  have h:=zgA b;unfold zfR;split
  ·rename_i e;rw[e]at h;exact h
  ·split
   ·exact zor
   ·exact PR.fine_map (zkL n _ _)
def zhH (n w:Nat) (b:List UInt8):(za6 n w b).fine:=by
 unfold za6;split
 ·exact zvZ
 ·split
  ·exact zCQ
  ·split
   ·trivial
   ·exact zor
def zqT (m:Nat) (b:List UInt8):(zeT m b).fine:=by
 have h:=zgB b;unfold zeT;split
 ·trivial
 ·split
  ·rename_i e;rw[e]at h;exact h
  ·exact PR.fine_map (zkL _ _ _)
def zqU (n m:Nat) (u:List Int) (b:List UInt8):(zg1 n m u b).fine:=by
 have h:=zhH n (za9 (m - 1)) b;unfold zg1;split
 ·trivial
 ·split
  ·rename_i e;rw[e]at h;exact h
  ·split
   ·trivial
   ·exact zor
def zqV (n:Nat) (b:List UInt8):(zeA n b).fine:=by
 have h:=zgA b;unfold zeA;split
 ·rename_i e;rw[e]at h;exact h
 ·rename_i many r e
  split
  ·exact zor
  ·have h:=zqT many r
   split
   ·rename_i e;rw[e]at h;exact h
   ·exact zqU _ _ _ _
def zos (n:Nat) (b:List UInt8):(zcy n b).fine:=by
 have h:=zgB b;unfold zcy;split
 ·trivial
 ·split
  ·rename_i e;rw[e]at h;exact h
  ·rename_i r e
   have h:=zgA r;split
   ·rename_i e;rw[e]at h;exact h
   ·split
    ·exact zor
    ·exact PR.fine_map (zhH _ _ _)
def zqW (c n:Nat) (b:List UInt8):(zen c n b).fine:=by
 unfold zen;split
 ·exact zjx _ _ _ _
 ·exact zjx _ _ _ _
 ·exact zkK _ _ _
 ·exact zqV _ _
 ·exact zos _ _
def zhc {b:List UInt8} {n:Int} (h0:0<=n) (hn:n<=256) (h:(zaV b n).2≠0):okE (zaV b n).2:=by
 unfold zaV at h ⊢;rw[if_neg (by omega)]at h ⊢
 split at h
 ·exact zvZ
 ·rename_i c r
  split at h
  ·rename_i h1
   rw[if_pos h1];unfold okE;omega
  ·rename_i h1
   rw[if_neg h1];have hf:=zqW c.toNat n.toNat r;unfold zuc at h ⊢;split at h
   ·rename_i e;rw[e]at hf;simp only[e];exact hf
   ·rename_i e
    split
    ·exact zCQ
    ·split
     ·rename_i h2 h3
      rw[if_neg h2,if_pos h3]at h;exact absurd rfl h
     ·exact zor
def zhI {b:List UInt8} {n:Nat} (h:(zan b n).2≠0):okE (zan b n).2:=by
 unfold zan at h ⊢;split
 ·exact zor
 ·rename_i h1
  rw[if_neg h1]at h;split
  ·rename_i h2
   rw[if_pos h2]at h;exact absurd rfl h
  ·exact zor
def zjy: ∀ (sz:List Int) (b:List UInt8),(zbe sz b).fine
 |[],_=>trivial
 |k::r,b=>by
  unfold zbe;split
  ·exact zor
  ·split
   ·exact zvZ
   ·exact PR.fine_map (zjy r _)
def zm8 {n:Nat} (hn:n<=256) (b:List UInt8):(zjD (n:Int) b).fine:=by
 unfold zjD;split
 ·rename_i h;exact zgz h
 ·split
  ·exact zvZ
  ·split
   ·rename_i h;exact zhc (by omega) (by omega) h
   ·exact zjy _ _
def zot {n:Nat} (hn:n<=256) {b:List UInt8} (h:(zb7 n b).2≠0):okE (zb7 n b).2:=by
 unfold zb7 at h ⊢;split at h
 ·exact zvZ
 ·rename_i c r
  split at h
  ·rename_i h1
   rw[if_pos h1];have hc:=zm8 hn r;split at h
   ·rename_i e;rw[e]at hc;simp only[e];exact hc
   ·rename_i e
    split
    ·exact zCQ
    ·rename_i h2
     rw[if_neg h2]at h;exact absurd rfl h
  ·rename_i h1
   rw[if_neg h1];split at h
   ·rename_i h2
    rw[if_pos h2];exact zgz h2
   ·rename_i h2
    rw[if_neg h2];split at h
    ·rename_i h3
     rw[if_pos h3];exact zor
    ·rename_i h3
     rw[if_neg h3];have hc:=zm8 (n:=(get r).1) (by omega) (r.drop (get r).2.1)
     split at h
     ·rename_i e;rw[e]at hc;simp only[e];exact hc
     ·rename_i u zaB e
      split at h
      ·rename_i h4
       rw[if_pos h4];exact zhc (by omega) (by omega) h4
      ·rename_i h4
       rw[if_neg h4];split at h
       ·exact absurd rfl h
       ·rename_i h5
        rw[if_neg h5];exact zor
def zm9 {k n:Nat} (hn:n<=256) {b:List UInt8} (h:(zaH k n b).2≠0):okE (zaH k n b).2:=by
 unfold zaH at h ⊢;split at h
 ·rename_i h1
  rw[if_pos h1];exact zhc (by omega) (by omega) h
 ·rename_i h1
  rw[if_neg h1];split at h
  ·rename_i h2
   rw[if_pos h2];exact zhI h
  ·rename_i h2
   rw[if_neg h2];exact zot hn h
def zou (n:Nat) (b:List UInt8):(zbE n b).fine:=by
 unfold zbE;split
 ·exact zvZ
 ·split
  ·exact zor
  ·split
   ·split
    ·exact zvZ
    ·split
     ·rename_i h;exact zhI h
     ·trivial
   ·trivial
def zov {n:Nat} {b r:List UInt8} {th:List Nat} (h:zbE n b= .ok th r): ∀x∈th,x<=1:=by
 unfold zbE at h;split at h
 ·cases h
 ·split at h
  ·cases h
  ·split at h
   ·split at h
    ·cases h
    ·split at h
     ·cases h
     ·simp only[PR.ok.injEq]at h
      rw[<- h.1];exact zcA _ _
   ·simp only[PR.ok.injEq]at h
    rw[<- h.1];intro x hx;rw[(List.mem_replicate.1 hx).2];omega
def zqX {k n:Nat} (hn:n<=256) {b:List UInt8} (h:(zd5 k n b).2≠0):okE (zd5 k n b).2:=by
 unfold zd5 at h ⊢;have hf:=zou n b;cases hp:zbE n b with
 |err e=>rw[hp]at hf;exact hf
 |ok th r=>
  rw[hp]at h;simp only at h ⊢;have hl:=zg8 hp;have hs:=ze0 (zov hp);split at h
  ·rename_i h1
   rw[if_pos h1];exact zm9 (by omega) h1
  ·exact absurd rfl h
def zlC {k:Nat} {v:Val} (g:zur k v):zaq (zar v)=v/\(zar v).s.size<=64:=by
 rcases g with rfl | ⟨_,_,h⟩
 ·exact⟨rfl,by decide⟩
 ·cases v with
  |null=>exact⟨rfl,by decide⟩
  |whole n=>exact⟨rfl,Nat.zero_le 64⟩
  |truth b=>cases b <;> exact⟨rfl,by decide⟩
  |text s=>
   have hs:=h s rfl;refine⟨?_,hs⟩;have hc:chk ⟨3,0,s⟩=0:=by
    unfold chk;rw[if_neg (by simp),if_neg (by simp),if_neg (by simp only;omega)]
   exact zgo hc rfl
def zfV: ∀ (l:List ByteArray) (t:List UInt8),zbS (zaY l) (zdR l l.length++t)=some (l,t)
 |[],t=>rfl
 |s::r,t=>by
  have hl:=zfP s;have ih:=zfV r t;rw[zkB,zaY,List.map_cons,zbS,if_neg (by rw[List.append_assoc,List.length_append,hl];omega),List.append_assoc,Int.toNat_natCast]
  rw[show List.map (λs=>(s.size:Int)) r=zaY r from rfl]
  rw[List.drop_append_of_le_length (by omega),List.take_append_of_le_length (by omega),List.drop_of_length_le (by omega),List.take_of_length_le (by omega),List.nil_append,ih]
  rfl
def zjz (l:List ByteArray) (t:List UInt8) (h: ∀s∈l,s.size<=64) (hn:l.length<=256):zhP l.length (zbr l++t)=some (zaY l,zdR l l.length++t,0):=by
 have hsi:=zem h;have hsl:(zaY l).length=l.length:=by simp[zaY]
 have hbl:=zbY hsi (by omega)
 have hr:=zdr hsi (by omega)
 rw[hsl]at hr;unfold zhP zbr zbb;rw[List.append_assoc,List.append_assoc,zeV (by omega)]
 simp only[ne_eq,not_true_eq_false,if_false,List.drop_left];rw[if_neg (by rw[List.length_append];omega),List.take_left,hr]
def zna (l:List ByteArray) (h: ∀s∈l,s.size<=64) (hn:l.length<=256):zcs l.length (zc9 l)=(l,true):=by
 unfold zc9;split
 ·have hu: ∀s∈zd0 l,s.size<=64:=λs hs=>h s (zc1.1 hs)
  have hul:=zch l;have hpi:=zfg hn;have hpl:(za5 l).length=l.length:=by simp[za5]
  have hcut:=zjz (zd0 l) (zbx (za5 l)) hu (by omega)
  have hr:=zdr hpi (by omega)
  rw[hpl]at hr;have hall: ∀k∈za5 l,0<=k/\k<((zd0 l).length:Int):=by
   intro k hk;obtain⟨s,hs,rfl⟩:=List.mem_map.1 hk;have:=ziO (zc1.2 hs);omega
  unfold zjP;rw[List.append_assoc,List.cons_append,zcs];rw[if_neg (by decide),if_pos (by decide),zeV (by omega)]
  simp only[ne_eq,not_true_eq_false,if_false,List.drop_left];rw[if_neg (by omega),zgw,hcut]
  simp only[ne_eq,not_true_eq_false,if_false,zfV,Bool.true_eq_false,hr];rw[if_pos hall,zjn];rfl
 ·have hcut:=zjz l [] h hn
  have hf:=zfV l [];rw[List.append_nil]at hcut hf;unfold zey;rw[zcs];rw[if_neg (by decide),if_neg (by decide),zgw,hcut]
  rw[List.append_nil];simp only[ne_eq,not_true_eq_false,if_false,hf,if_true]
def zqY {k:Nat} (hk:1<=k/\k<=3) {l:List Val} (g:zfs k l) (hn:l.length<=256):zdy k (own l).length (zi0 k l)=some ((own l).map zar):=by
 have hkl:=zci l;have h:k=1\/k=2\/k=3:=by omega
 unfold zdy zi0;rcases h with rfl | rfl | rfl
 ·have hw:=zg6 g
  have hi:=zeX g.i64;have hlen:(own l).length=(zby l).length:=by rw[<- hw];simp
  rw[hlen];simp only[if_true];rw[zdr hi (by omega),<- hw]
  simp[zar,Function.comp]
 ·have hw:=zg7 g
  have hlen:(own l).length=(zbD l).length:=by rw[<- hw];simp
  rw[hlen,if_neg (show ¬ (2:Nat)=1 by decide),if_neg (show ¬ (2:Nat)=1 by decide),if_pos (show (2:Nat)=2 from rfl),if_pos (show (2:Nat)=2 from rfl),ze2,<- hw]
  simp only[ne_eq,not_true_eq_false,if_false,List.map_map];congr 1;apply List.map_congr_left;intro b _;cases b <;> rfl
 ·have hw:=zjo g
  have hs:=zeo g.long;have hlen:(own l).length=(zcW l).length:=by rw[<- hw];simp
  rw[hlen,if_neg (show ¬ (3:Nat)=1 by decide),if_neg (show ¬ (3:Nat)=1 by decide),if_neg (show ¬ (3:Nat)=2 by decide),if_neg (show ¬ (3:Nat)=2 by decide),zna (zcW l) hs (by omega),<- hw]
  simp[zar,Function.comp]
def znb: ∀l:List Val,zcB ((zao l).map bit) ((own l).map zar)=l.map zar
 |[]=>rfl
 |v::r=>by
  have ih:=znb r
  by_cases h:v= .null
  ·subst h
   simpa[zao,own,bit,zcB,zar]using ih
  ·have hd:decide (v≠ .null)=true:=by simp[h]
   simp only[zao,own,List.map_cons,List.filter_cons,hd,if_true,zcB]at ih ⊢;rw[if_neg (by decide)]
   simp only[List.headD_cons,List.tail_cons,ih]
def zqZ {k:Nat} (hk:1<=k/\k<=3) {l:List Val} (g:zfs k l) (hn:l.length<=256):zdz k l.length (zdb k l)=(l.map zar,true):=by
 unfold zdz
 conv=>lhs;rw[show zdb k l=zda l++zi0 k l from rfl,zm0]
 simp only;rw[zly,zqY hk g hn];simp only;rw[znb];congr 1;unfold zu4;have hv:(l.map zar).map zaq=l:=by
  rw[List.map_map]
  conv=>rhs;rw[<- List.map_id l]
  apply List.map_congr_left;intro v hv;exact (zlC (g v hv)).1
 refine decide_eq_true ⟨λc hc=> ?_,by rw[hv];rfl⟩
 obtain⟨v,hv,rfl⟩:=List.mem_map.1 hc;exact (zlC (g v hv)).2
def znc {k:Nat} (hk:1<=k/\k<=3) {c:Cel} (h:zkH k c) (hs:c.s.size<=64):zur k (zaq c):=by
 obtain⟨h1,h2⟩:=zgx hk h hs;refine zqS hk h1 h2 ?_;rcases h with h | h
 ·exact .inl h
 ·exact .inr h.1
def zuv {k n:Nat} (hk:1<=k/\k<=3) (hn:n<=256) {b:List UInt8} (h:(zdz k n b).2=true): ∃l,zfs k l/\l.length=n/\za2 k b n=(l,0)/\(zdz k n b).1=l.map zar:=by
 unfold zdz at h ⊢;cases hp:zbE n b with
 |err e=>rw[hp]at h;simp at h
 |ok th r=>
  rw[hp]at h;simp only at h ⊢;cases hv:zdy k th.sum r with
  |none=>rw[hv]at h;simp at h
  |some o=>
   rw[hv]at h;simp only at h ⊢;obtain⟨h1,h2⟩:=of_decide_eq_true h;obtain⟨_,g1,g2⟩:=zev hk hv;obtain⟨g3,g4⟩:=zfo (th:=th) ⟨g1,g2⟩;have hl:((zcB th o).map zaq).length=n:=by rw[List.length_map,zhG,zg8 hp]
   have g:zfs k ((zcB th o).map zaq):=λv hv=>by
    obtain⟨c,hc,rfl⟩:=List.mem_map.1 hv;exact znc hk (g3 c hc) (h1 c hc)
   refine⟨(zcB th o).map zaq,g,hl, ?_, ?_⟩
   ·have:=zpx hk g (by omega)
    rw[h2,hl]at this;exact this
   ·rw[List.map_map]
    conv=>lhs;rw[<- List.map_id (zcB th o)]
    apply List.map_congr_left;intro c hc;exact (zsU (zgx hk (g3 c hc) (h1 c hc)).1).symm
def zv0 {k n:Nat} (hk:1<=k/\k<=3) (hn:n<=256) {b:List UInt8} (h:(zdz k n b).2=false):okE (za2 k b n).2/\(za2 k b n).1=[]:=by
 unfold za2;rw[if_neg (λc=>c hk),if_neg (by omega),Int.toNat_natCast]
 split
 ·rename_i h1
  exact⟨zqX hn h1,rfl⟩
 ·rename_i h1
  split
  ·rename_i h2
   exfalso;obtain⟨g,hl⟩:=zg9 hk (n:=n) (b:=b) (by omega)
   have:=zqZ hk g (by omega)
   rw[hl,h2]at this;rw[this]at h;cases h
  ·exact⟨zor,rfl⟩
end Go.Am.Ab
namespace Go.Am.Ab
open Go.Proofs
set_option maxHeartbeats 8000000
set_option maxRecDepth 4000
def znd (k m:Nat) (hk:1<=k/\k<=3) (b:List UInt8) (hn:m<=256) (hb:b.length<1000000):R 81 [.d (.int .i64 k),B b,.d (.int .i64 m)] []=RdR (zdz k m b):=by
 have hc:k=1\/k=2\/k=3:=by omega
 rcases hc with e | e | e
 ·exact zon k m e b hn hb
 ·exact zoo k m e b hn hb
 ·exact zoq k m e b hn hb
end Go.Am.Ab
