/- Columns of the document, read. -/
import Derived.Test.YtlgdomajdebbdaaGreatDoorBitsB
import Derived.Test.YtlgdomajdebbdaaGreatDoorColD
import Derived.Test.YtlgdomajdebbdaaGreatDoorRefRead
import Derived.Test.YtlgdomajdebbdaaGreatDoorRColC
import Derived.Test.YtlgdomajdebbdaaGreatDoorRColB
set_option linter.all false
namespace Go.Am.Ab
open Go.Proofs
set_option maxHeartbeats 8000000
set_option maxRecDepth 4000
def zdm (b:List UInt8) (n:Nat) (hn:n<=256) (hb:b.length<1000000):R 133 [B b,.d (.int .i64 n),.d (.int .i64 1)] []=some ([.arr 0 (zan b n).1.length,E (zan b n).2],[.arr 1 (uc (zan b n).1) 0]):=by
 unfold zan
 by_cases h1:b.length≠(n+7) / 8
 ·rw[if_pos h1]
  exact znO b n 1 (by omega) hn (by omega) (by rw[Nat.mul_one];exact h1)
 ·rw[if_neg h1]
  have h:=zfL b n 1 hn (by omega) (by rw[Nat.mul_one];omega)
  rw[Nat.mul_one]at h
  by_cases h2:num b<2 ^ n
  ·rw[if_pos h2]
   rw[if_pos h2]at h;rw[show ((ups 1 (num b) n,0):List Nat × Nat).1.length=n from zdq _ _ _]
   exact h
  ·rw[if_neg h2]
   rw[if_neg h2]at h;exact h
def zm7 (k:Nat) (hk0:k=3) (l:List Cel) (hkk: ∀c∈l,c.kind=0\/c.kind=3) (hn:l.length<=256) (hlo: ∃c∈l,64<c.s.size):R 67 [.d (.int .i64 k),.d (.list (ce l))] []=zdA 5:=by
 unfold zdA;have h1': ¬ (k:Int)<1:=by omega
 have h2': ¬ (3:Int)<k:=by omega
 have hl: ∀c∈l,c.kind<256:=λc hc=>by have:=hkk c hc;omega
 have hok:l.any (zg4 k)=false:=by
  rw[List.any_eq_false];intro c hc;have:=hkk c hc;simp[zg4];omega
 refine rg b67 rfl ?_;intro T hT;simp -dsimp -implicitDefEqProofs (disch:=first|omega|assumption) [h1',h2']
 generalize hz:zac _ _ _ _ _ _=z;revert z;refine zaa (σ:=Nat) (λi=>[(0,.d (.int .i64 k)),(1,.d (.list (ce l))),(6,.d (.int .i64 i))]) (λi=>[]) (λi=>i<=l.length) (λi=>l.length - i) 0 ?_ ?_ ?_
 ·exact Nat.zero_le _
 ·simp -dsimp -implicitDefEqProofs (disch:=first|omega|assumption)
 intro T' f hT' i hi ih
 by_cases h1:i<l.length
 ·have hc:=hl l[i] (List.getElem_mem _)
  have hok1:=List.any_eq_false.1 hok _ (List.getElem_mem h1);obtain⟨⟨ck,n,s⟩,hx⟩: ∃x,x=l[i]:=⟨_,rfl⟩;have gx:=hx.symm;rw[<- hx]at hc hok1;simp only at hc;have hw:IntKind.i64.wrap (ck:Int)=ck:=wI (by omega) (by omega)
  have zk: ¬ k=0:=by omega
  by_cases z:ck=0
  ·subst z
   simp -dsimp -implicitDefEqProofs (disch:=first|omega|assumption) [h1,gx,Cel.d]
   exact ih (i+1) _ _ h1 (by omega) (by simp -dsimp -implicitDefEqProofs (disch:=first|omega|assumption))
  ·have z': ¬ (ck:Int)=0:=by omega
   have e:ck=k:=by
    simp[zg4,z]at hok1;exact hok1
   have e':(ck:Int)=k:=by omega
   simp -dsimp -implicitDefEqProofs (disch:=first|omega|assumption) [h1,gx,Cel.d,z',z,zk,hw,e',e]
   exact ih (i+1) _ _ h1 (by omega) (by simp -dsimp -implicitDefEqProofs (disch:=first|omega|assumption))
 obtain rfl:i=l.length:=by omega
 subst hT';clear ih hi h1;have h256: ¬ (256:Int)<l.length:=by omega
 simp -dsimp -implicitDefEqProofs (disch:=first|omega|assumption) [h256]
 generalize hz:zac _ _ _ _ _ _=z;revert z;refine zaa (σ:=Nat) (λi=>[(0,.d (.int .i64 k)),(1,.d (.list (ce l))),(8,.arr 0 i),(9,.arr 1 (zeY zdf l i).length),(10,.arr 2 (zeY zh4 l i).length),(11,.arr 3 (zeY zh5 l i).length),(12,.d (.bool ((l.take i).any λc=>decide (c.kind=0)))),(13,.d (.int .i64 i))]) (λi=>[.arr 1 (zdQ zhF l i) 0,.arr 1 (zeY zdf l i) 0,.arr 1 (zeY zh4 l i) 0,.arr 1 (zeY zh5 l i) 0]) (λi=>i<=l.length/\ ∀j,(hj:j<i)->(hl:j<l.length)->l[j].s.size<=64) (λi=>l.length - i) 0 ?_ ?_ ?_
 ·exact⟨Nat.zero_le _,λj hj=>by omega⟩
 ·simp -dsimp -implicitDefEqProofs (disch:=first|omega|assumption) [zaF,zgp]
 intro T2 f2 hT2 i ⟨hi,hsh⟩ ih
 by_cases h1:i<l.length
 ·have step:l[i].s.size<=64-> ∀j,(hj:j<i+1)->(hl:j<l.length)->l[j].s.size<=64:=λe j hj hl=>by
   by_cases c:j=i
   ·subst c;exact e
   ·exact hsh j (by omega) hl
  have hbs:=zaG (g:=zhF) h1;have hws:=zbL (g:=zdf) h1;have hns:=zbL (g:=zh4) h1;have hss:=zbL (g:=zh5) h1;have hln:=zai (g:=zhF) hi;have l1:=zau zdf l i;have l2:=zau zh4 l i;have l3:=zau zh5 l i;have hany:(l.take (i+1)).any (λc=>decide (c.kind=0))=((l.take i).any (λc=>decide (c.kind=0)) || decide (l[i].kind=0)):=by
   rw[zam h1,List.any_append];simp
  obtain⟨⟨ck,n,s⟩,hx⟩: ∃x,x=l[i]:=⟨_,rfl⟩;have gx:=hx.symm;rw[<- hx]at hbs hws hns hss hany step;simp only at step
  by_cases hs':(64:Int)<s.size
  ·subst hT2
   simp -dsimp -implicitDefEqProofs (disch:=first|omega|assumption) [h1,gx,Cel.d,hs',hln]
   simpa -dsimp -implicitDefEqProofs (disch:=first|omega|assumption) [E]using hT
  by_cases z:ck=0
  ·subst z
   simp only[ne_eq,not_true_eq_false,if_false,List.append_nil,decide_true,Bool.or_true]at hws hns hss hany;simp -dsimp -implicitDefEqProofs (disch:=first|omega|assumption) [h1,gx,Cel.d,hs',hln]
   refine ih (i+1) _ _ ⟨h1,step (by omega)⟩ (by omega) ?_
   rw[hbs,hws,hns,hss,hany];simp -dsimp -implicitDefEqProofs (disch:=first|omega|assumption) [hln,zhF,bit]
  ·have z': ¬ (ck:Int)=0:=by omega
   simp only[ne_eq,z,not_false_eq_true,if_true,decide_false,Bool.or_false]at hws hns hss hany;simp -dsimp -implicitDefEqProofs (disch:=first|omega|assumption) [h1,gx,Cel.d,hs',hln,z',z]
   refine ih (i+1) _ _ ⟨h1,step (by omega)⟩ (by omega) ?_
   rw[hbs,hws,hns,hss,hany];simp -dsimp -implicitDefEqProofs (disch:=first|omega|assumption) [hln,zhF,bit,zdf,zh4,zh5,z]
 ·exfalso
  obtain⟨c,hc,e⟩:=hlo;obtain⟨j,hj,rfl⟩:=List.mem_iff_getElem.1 hc;have:=hsh j (by omega) hj
  omega
def zdy (k m:Nat) (b:List UInt8):Option (List Cel):=
 if k=1 then (if (zaV b m).2≠0 then none else some ((zaV b m).1.map λx=>⟨1,x,noS⟩))
 else if k=2 then (if (zan b m).2≠0 then none else some ((zan b m).1.map λ(x:Nat)=>⟨2,(x:Int),noS⟩))
 else (if (zcs m b).2=false then none else some ((zcs m b).1.map λs=>⟨3,0,s⟩))
def zcB:List Nat->List Cel->List Cel
 |[],_=>[]
 |x::t,own=>if x=0 then Cel.none::zcB t own else own.headD Cel.none::zcB t own.tail
def zhG: ∀ (th:List Nat) (own:List Cel),(zcB th own).length=th.length
 |[],_=>rfl
 |x::t,own=>by
  unfold zcB;split <;> simp[zhG t]
end Go.Am.Ab
namespace Go.Am.Ab
open Go.Proofs
set_option maxHeartbeats 4000000
def RdR (p:List Cel × Bool):Option (List V × List Obj):=some ([.arr 0 p.1.length,.d (.bool p.2)],[.arr 3 (ce p.1) p.1.length])
def zdn (p:List Cel × Bool):RdR p≠none:=by simp[RdR]
open Classical in
noncomputable def zu4 (k:Nat) (out:List Cel) (b:List UInt8):Bool:=decide ((∀c∈out,c.s.size<=64)/\zdb k (out.map zaq)=b)
noncomputable def zdz (k n:Nat) (b:List UInt8):List Cel × Bool:=
 match zbE n b with
 |.err _=>([],false)
 |.ok th r=>
  match zdy k th.sum r with
  |none=>([],false)
  |some own=>(zcB th own,zu4 k (zcB th own) b)
def zkH (k:Nat) (c:Cel):Prop:=c=Cel.none\/(c.kind=k/\(k=1->zah c.n/\c.s=noS)/\(k=2->(c.n=0\/c.n=1)/\c.s=noS)/\(k=3->c.n=0))
def zgx {k:Nat} (hk:1<=k/\k<=3) {c:Cel} (h:zkH k c) (hs:c.s.size<=64):chk c=0/\zah c.n:=by
 rcases h with rfl | ⟨h1,h2,h3,h4⟩
 ·exact⟨rfl,by unfold zah;decide⟩
 ·have hc:k=1\/k=2\/k=3:=by omega
  rcases hc with rfl | rfl | rfl
  ·obtain⟨a,b⟩:=h2 rfl
   refine⟨?_,a⟩;unfold chk;rw[if_neg (by omega),if_neg (by simp[h1,b]),if_neg (by omega)]
  ·obtain⟨a,b⟩:=h3 rfl
   refine⟨?_,by unfold zah;omega⟩
   unfold chk;rw[if_neg (by omega),if_neg (by simp[h1,b];omega),if_neg (by omega)]
  ·have a:=h4 rfl
   refine⟨?_,by unfold zah;omega⟩
   unfold chk;rw[if_neg (by omega),if_neg (by simp[h1,a]),if_neg (by omega)]
def zCP (k:Nat) (hk:1<=k/\k<=3) (out:List Cel) (b:List UInt8) (hc: ∀c∈out,zkH k c) (h3:k≠3-> ∀c∈out,c.s.size<=64) (hn:out.length<=256):
 ∃ (w:List UInt8) (e:Nat),w.length<=1000000/\R 67 [.d (.int .i64 k),.d (.list (ce out))] []=some ([.arr 0 w.length,E e],[.arr 1 (bytes w) 0])/\(decide (e=0) && decide (w=b))=zu4 k out b:=by
 have hodd:out.any (zg4 k)=false:=by
  rw[List.any_eq_false];intro c hcc;rcases hc c hcc with rfl | ⟨h1,_⟩
  ·simp[zg4,Cel.none]
  ·simp[zg4,h1]
 by_cases hs: ∀c∈out,c.s.size<=64
 ·have hvl: ∀c∈out,chk c=0:=λc hcc=>(zgx hk (hc c hcc) (hs c hcc)).1
  have hi: ∀c∈out,zah c.n:=λc hcc=>(zgx hk (hc c hcc) (hs c hcc)).2
  have hcl:(zdb k (out.map zaq)).length<=1000000:=by
   have hkl:=zci (out.map zaq);have htl:=zaA (out.map zaq);simp only[List.length_map]at hkl htl;have h1:=zbn (l:=zao (out.map zaq)) (by omega)
   have h2:=zbn (l:=zbD (out.map zaq)) (by omega)
   have h4:=zg3 (zeo (zsn hvl)) (by omega)
   have h5:k=1->(zbx (zby (out.map zaq))).length<=5121:=λe=>by
    have hkk: ∀c∈out,c.kind=0\/c.kind=1:=λc hcc=>by
     rcases hc c hcc with rfl | ⟨h1,_⟩
     ·exact .inl rfl
     ·exact .inr (by omega)
    refine zbY (λn hn=> ?_) (by omega)
    rw[<- zll hvl hkk]at hn;obtain⟨c,hcc,rfl⟩:=List.mem_map.1 hn;exact hi c (List.mem_filter.1 hcc).1
   unfold zdb zda zi0;rw[List.length_append];split <;> split <;> (try split) <;> simp only[List.length_cons,List.length_nil] <;> omega
  refine⟨zdb k (out.map zaq),0,hcl, ?_, ?_⟩
  ·have hcs:k=1\/k=2\/k=3:=by omega
   rcases hcs with e | e | e
   ·exact zjs k e out hvl hi hn hodd
   ·exact zjt k e out hvl hi hn hodd
   ·exact zju k e out hvl hn hodd
  ·unfold zu4
   rw[decide_eq_true rfl,Bool.true_and];exact decide_eq_decide.2 ⟨λh=>⟨hs,h⟩,λh=>h.2⟩
 ·have hk3:k=3:=Classical.byContradiction λh=>hs (h3 h)
  refine⟨[],5,by simp, ?_, ?_⟩
  ·refine zm7 k hk3 out (λc hcc=> ?_) hn ?_
   ·rcases hc c hcc with rfl | ⟨h1,_⟩
    ·exact .inl rfl
    ·exact .inr (by omega)
   ·apply Classical.byContradiction
    intro h;exact hs λc hcc=>Classical.byContradiction λg=>h ⟨c,hcc,by omega⟩
  ·unfold zu4
   rw[decide_eq_false (by omega),Bool.false_and]
   exact (decide_eq_false λh=>hs h.1).symm
def zgy {c:Cel}: ∀ {th:List Nat} {own:List Cel},c∈zcB th own->c=Cel.none\/c∈own
 |[],own,h=>by simp[zcB]at h
 |x::t,own,h=>by
  unfold zcB at h;split at h
  ·rcases List.mem_cons.1 h with h | h
   ·exact .inl h
   ·exact zgy h
  ·rcases List.mem_cons.1 h with h | h
   ·cases own with
    |nil=>exact .inl h
    |cons y r=>exact .inr (by rw[h];simp)
   ·rcases zgy h with h | h
    ·exact .inl h
    ·exact .inr (List.mem_of_mem_tail h)
def zcA (b:List UInt8) (n:Nat): ∀x∈(zan b n).1,x<=1:=by
 unfold zan;split
 ·simp
 ·split
  ·intro x hx
   simp only[ups,List.mem_map]at hx;obtain⟨j,_,rfl⟩:=hx;omega
  ·simp
def zeu (b:List UInt8) (n:Nat):(zan b n).2=0->(zan b n).1.length=n:=by
 unfold zan;split
 ·simp
 ·split
  ·simp
  ·simp
def zkI: ∀ {sz:List Int} {b zaB:List UInt8} {l:List ByteArray},zbS sz b=some (l,zaB)->l.length=sz.length
 |[],b,zaB,l,h=>by simp[zbS]at h;simp[<- h.1]
 |k::r,b,zaB,l,h=>by
  unfold zbS at h;split at h
  ·simp at h
  ·cases hp:zbS r (b.drop k.toNat) with
   |none=>rw[hp]at h;simp at h
   |some q=>
    obtain⟨l2,r2⟩:=q;rw[hp]at h;simp at h;rw[<- h.1];simp[zkI hp]
def zsQ {n:Int} {b zaB:List UInt8} {l:List Int} (h:zhP n b=some (l,zaB,0)):(l.length:Int)=n:=by
 unfold zhP at h;split at h
 ·cases h
 ·split at h
  ·cases h
  ·simp only[Option.some.injEq,Prod.mk.injEq]at h
   rw[<- h.1];exact (zet h.2.2).1
def zkJ {list:Bool} {n m:Nat} {b:List UInt8} (hm:list=false->m=n) (h:(zgw list n m b).2=true):(zgw list n m b).1.length=n:=by
 unfold zgw at h ⊢;cases hp:zhP (m:Int) b with
 |none=>rw[hp]at h;simp at h
 |some q=>
  obtain⟨sizes,zaB,e⟩:=q;rw[hp]at h;simp only at h ⊢
  by_cases e0:e≠0
  ·rw[if_pos e0]at h;simp at h
  rw[if_neg e0]at h ⊢;have e0':e=0:=by omega
  subst e0';have hl:=zsQ hp;cases hq:zbS sizes zaB with
  |none=>rw[hq]at h;simp at h
  |some q=>
   obtain⟨u,rest2⟩:=q;rw[hq]at h;simp only at h ⊢;have hu:=zkI hq
   by_cases hb:list=false
   ·rw[if_pos hb]
    have:=hm hb;simp only;omega
   ·rw[if_neg hb]at h ⊢
    by_cases hk: ∀k∈(zaV rest2 n).1,0<=k/\k<(u.length:Int)
    ·rw[if_pos hk]at h ⊢
     simp only[decide_eq_true_eq]at h;have:=(zet h).1;simp only[List.length_map];omega
    ·rw[if_neg hk]at h;simp at h
def zom {n:Nat} {b:List UInt8} (h:(zcs n b).2=true):(zcs n b).1.length=n:=by
 unfold zcs at h ⊢;cases b with
 |nil=>simp at h
 |cons c r=>
  simp only at h ⊢
  by_cases c1:1<c.toNat
  ·rw[if_pos c1]at h;simp at h
  rw[if_neg c1]at h ⊢
  by_cases c2:c.toNat=1
  ·rw[if_pos c2]at h ⊢
   by_cases c3:(get r).2.2≠0
   ·rw[if_pos c3]at h;simp at h
   rw[if_neg c3]at h ⊢
   by_cases c4:n<(get r).1
   ·rw[if_pos c4]at h;simp at h
   rw[if_neg c4]at h ⊢;exact zkJ (by simp) h
  ·rw[if_neg c2]at h ⊢
   exact zkJ (λ_=>rfl) h
def zev {k m:Nat} (hk:1<=k/\k<=3) {b:List UInt8} {own:List Cel} (h:zdy k m b=some own):own.length=m/\(∀c∈own,zkH k c)/\(k≠3-> ∀c∈own,c.s.size<=64):=by
 have hc:k=1\/k=2\/k=3:=by omega
 unfold zdy at h;rcases hc with e | e | e
 ·rw[if_pos e]at h
  split at h
  ·cases h
  ·rename_i h0
   obtain⟨h1,h2⟩:=zet (b:=b) (n:=m) (by omega)
   simp only[Option.some.injEq]at h;subst h;refine⟨by simp only[List.length_map];omega,λc hc=> ?_,λ_ c hc=> ?_⟩
   ·obtain⟨x,hx,rfl⟩:=List.mem_map.1 hc
    exact .inr ⟨e.symm,λ_=>⟨h2 x hx,rfl⟩,λg=>by omega,λg=>by omega⟩
   ·obtain⟨x,hx,rfl⟩:=List.mem_map.1 hc
    show (0:Nat)<=64
    omega
 ·rw[if_neg (by omega),if_pos e]at h
  split at h
  ·cases h
  ·rename_i h0
   have h1:=zeu b m (by omega)
   have h2:=zcA b m;simp only[Option.some.injEq]at h;subst h;refine⟨by simp only[List.length_map];omega,λc hc=> ?_,λ_ c hc=> ?_⟩
   ·obtain⟨x,hx,rfl⟩:=List.mem_map.1 hc
    have:=h2 x hx;exact .inr ⟨e.symm,λg=>by omega,λ_=>⟨by simp only;omega,rfl⟩,λg=>by omega⟩
   ·obtain⟨x,hx,rfl⟩:=List.mem_map.1 hc
    show (0:Nat)<=64
    omega
 ·rw[if_neg (by omega),if_neg (by omega)]at h
  split at h
  ·cases h
  ·rename_i h0
   have h1:=zom (n:=m) (b:=b) (by simpa using h0)
   simp only[Option.some.injEq]at h;subst h;refine⟨by simp only[List.length_map];omega,λc hc=> ?_,λg=>absurd e g⟩
   obtain⟨x,hx,rfl⟩:=List.mem_map.1 hc;exact .inr ⟨e.symm,λg=>by omega,λg=>by omega,λ_=>rfl⟩
def zfo {k:Nat} {th:List Nat} {own:List Cel} (h:(∀c∈own,zkH k c)/\(k≠3-> ∀c∈own,c.s.size<=64)):(∀c∈zcB th own,zkH k c)/\(k≠3-> ∀c∈zcB th own,c.s.size<=64):=by
 refine⟨λc hc=> ?_,λg c hc=> ?_⟩
 ·rcases zgy hc with rfl | h1
  ·exact .inl rfl
  ·exact h.1 c h1
 ·rcases zgy hc with rfl | h1
  ·show (0:Nat)<=64
   omega
  ·exact h.2 g c h1
def zsR (a b:List UInt8):((⟨a.toArray⟩:ByteArray).toList == (⟨b.toArray⟩:ByteArray).toList)=decide (a=b):=by
 rw[zel];refine decide_eq_decide.2 ⟨λh=> ?_,λh=>by rw[h]⟩
 have:=congrArg (λx:ByteArray=>x.data.toList) h
 simpa using this
end Go.Am.Ab
namespace Go.Am.Ab
open Go.Proofs
set_option maxHeartbeats 16000000
set_option maxRecDepth 4000
def zjv (x:Int):D:= .agg [.int .u8 1,.int .i64 x,.str noS]
def zqQ (l:List Int):l.map zjv=ce (l.map λx:Int=>(⟨1,x,noS⟩:Cel)):=by simp[zjv,Cel.d]
@[simp] def zti (l:List Int):zaw 3 (l.map zjv)=true:=zaN l λv=>rfl
def zon (k n:Nat) (hk:k=1) (b:List UInt8) (hn:n<=256) (hb:b.length<1000000):Is (RdR (zdz k n b)) (R 81 [.d (.int .i64 k),B b,.d (.int .i64 n)] []):=by
 have hk1: ¬ (k:Int)<1:=by omega
 have hk2: ¬ (3:Int)<k:=by omega
 have hn1: ¬ (n:Int)<0:=by omega
 have hn2: ¬ (256:Int)<n:=by omega
 have hkk:(k:Int)=1:=by omega
 unfold zdz
 by_cases hbe:b=[]
 ·subst hbe
  refine ra b81 rfl (zaK (zdn _)) ?_;simp -dsimp -implicitDefEqProofs (disch:=first|omega|assumption) [hk1,hk2,hn1,hn2]
  simp[Is,RdR,zbE]
 obtain⟨c,r,hbc⟩: ∃c r,b=c::r:=by
  cases b with
  |nil=>exact absurd rfl hbe
  |cons c r=>exact⟨c,r,rfl⟩
 have hl0: ¬ (b.length:Int)=0:=by rw[hbc,List.length_cons];omega
 have hl1:0<b.length:=by rw[hbc,List.length_cons];omega
 have hg0:b[0]=c:=by simp only[hbc,List.getElem_cons_zero]
 have hd0:(bytes b).tail=bytes r:=by rw[hbc];rfl
 have hrl:r.length<1000000:=by rw[hbc,List.length_cons]at hb;omega
 have hrk:r.length+1=b.length:=by rw[hbc,List.length_cons]
 have hM:=zaP b;obtain⟨A,hA⟩: ∃A,A=zbE n b:=⟨_,rfl⟩;rw[<- hA];rw[hbc]at hA;unfold zbE at hA;simp only at hA;clear hbc
 by_cases c1:1<c.toNat
 ·have c1':(1:Int)<c.toNat:=by omega
  rw[if_pos c1]at hA;subst hA;refine ra b81 rfl (zaK (zdn _)) ?_;simp -dsimp -implicitDefEqProofs (disch:=first|omega|assumption) [hk1,hk2,hn1,hn2,hbe,hl0,hl1,hg0,c1,c1']
  simp[Is,RdR]
 rw[if_neg c1]at hA;have c1': ¬ (1:Int)<c.toNat:=by omega
 have hrep: ∀i,uc (List.replicate (i+1) 1)=uc (List.replicate i 1)++[.int .u64 1]:=λi=>by simp[List.replicate_succ']
 refine ra b81 rfl (zaK (zdn _)) ?_;simp -dsimp -implicitDefEqProofs (disch:=first|omega|assumption) [hk1,hk2,hn1,hn2,hbe,hl0,hl1,hg0,c1,c1']
 generalize hT0:Is _=T0;generalize hz:zac _ _ _ _ _ _=z;revert z;refine zaa (σ:=Nat) (λi=>[(0,.d (.int .i64 k)),(1,B b),(2,.d (.int .i64 n)),(8,.arr 0 i),(9,.d (.int .i64 i))]) (λi=>[.arr 1 (uc (List.replicate i 1)) 0]) (λi=>i<=n) (λi=>n - i) 0 ?_ ?_ ?_
 ·exact Nat.zero_le _
 ·simp -dsimp -implicitDefEqProofs (disch:=first|omega|assumption) [B]
 intro T' f hT' i hi ih
 by_cases h1:i<n
 ·have h1':(i:Int)<n:=by omega
  have hr1:=hrep i;simp -dsimp -implicitDefEqProofs (disch:=first|omega|assumption) [h1,h1']
  refine ih (i+1) _ _ h1 (by omega) ?_
  rw[hr1];simp -dsimp -implicitDefEqProofs (disch:=first|omega|assumption) [B]
 obtain rfl:i=n:=by omega
 subst hT';clear ih hi h1;rcases Decidable.em (c.toNat=1) with c2 | c2
 case' inr=>
  rw[if_neg c2]at hA;have c2': ¬ (c.toNat:Int)=1:=by omega
  subst hA;simp -dsimp -implicitDefEqProofs (disch:=first|omega|assumption) [hl0,hl1,hg0,hd0,hrk,c2,c2']
  generalize hrb:r=rb at hT0 ⊢;have hrbl:rb.length<1000000:=by rw[<- hrb];exact hrl
  have hthl:(List.replicate i 1).length=i:=List.length_replicate;have hth: ∀x∈List.replicate i 1,x<=1:=λx hx=>by rw[(List.mem_replicate.1 hx).2];omega
  generalize hte:List.replicate i 1=th at*;have huc:List.replicate i (D.int .u64 1)=uc th:=by rw[<- hte];simp
  rw[huc];subst hthl;clear hte hrb huc
 case' inl=>
  rw[if_pos c2]at hA;have c2':(c.toNat:Int)=1:=by omega
  obtain⟨sz,hsz⟩: ∃sz,sz=(i+7) / 8:=⟨_,rfl⟩;have hsz':((i:Int)+7) / 8=sz:=by omega
  rw[<- hsz]at hA
  by_cases c3:r.length<sz
  ·rw[if_pos c3]at hA
   have c3':(r.length:Int)<sz:=by omega
   subst hA;simp -dsimp -implicitDefEqProofs (disch:=first|omega|assumption) [hl0,hl1,hg0,hd0,hrk,c2,c2',hsz',c3,c3']
   rw[<- hT0];simp[Is,RdR]
  rw[if_neg c3]at hA;have c3': ¬ (r.length:Int)<sz:=by omega
  have c3b:sz<=r.length:=by omega
  obtain⟨bt,hbt⟩: ∃bt,bt=r.take sz:=⟨_,rfl⟩;obtain⟨rb,hbd⟩: ∃rb,rb=r.drop sz:=⟨_,rfl⟩;have hbt':List.take sz (bytes r)=bytes bt:=by rw[hbt,bytes,bytes,List.map_take]
  have hbd':List.drop sz (bytes r)=bytes rb:=by rw[hbd,bytes,bytes,List.map_drop]
  have hbtl:bt.length<1000000:=by rw[hbt,List.length_take];omega
  have hrbl:rb.length<1000000:=by rw[hbd,List.length_drop];omega
  rw[<- hbt,<- hbd]at hA;have hup:=zdm bt i hn hbtl;have hth:=zcA bt i;have hthl0:=zeu bt i;obtain⟨th,hte⟩: ∃th,th=(zan bt i).1:=⟨_,rfl⟩;obtain⟨e,hee⟩: ∃e,e=(zan bt i).2:=⟨_,rfl⟩;rw[<- hte,<- hee]at hup hthl0 hA;rw[<- hte]at hth;clear hte hee hbt hbd hsz
  by_cases c4:e≠0
  ·rw[if_pos c4]at hA
   have c4': ¬ (e:Int)=0:=by omega
   subst hA;simp -dsimp -implicitDefEqProofs (disch:=first|omega|assumption) [hl0,hl1,hg0,hd0,hrk,c2,c2',hsz',c3,c3',c3b,hbt',hup,c4,c4']
   rw[<- hT0];simp[Is,RdR]
  rw[if_neg c4]at hA;have c4':e=0:=by omega
  subst c4';have hthl:=hthl0 rfl;subst hthl;subst hA;simp -dsimp -implicitDefEqProofs (disch:=first|omega|assumption) [hl0,hl1,hg0,hd0,hrk,c2,c2',hsz',c3,c3',c3b,hbt',hup,hbd']
 all_goals
  have hsum:=ze0 hth;generalize hz:zac _ _ _ _ _ _=z;revert z;refine zaa (σ:=Nat) (λi=>[(0,.d (.int .i64 k)),(1,B b),(2,.d (.int .i64 th.length)),(8,.arr 0 th.length),(10,B rb),(13,.d (.int .i64 ((th.take i).sum:Nat))),(14,.d (.int .i64 i))]) (λi=>[.arr 1 (uc th) 0]) (λi=>i<=th.length) (λi=>th.length - i) 0 ?_ ?_ ?_
  ·exact Nat.zero_le _
  ·simp -dsimp -implicitDefEqProofs (disch:=first|omega|assumption) [B]
  intro T' f hT' i hi ih
  by_cases h1:i<th.length
  ·have hx:=hth th[i] (List.getElem_mem _)
   have hs:=zgs h1;have hsl:(th.take i).sum<=i:=by
    have:=ze0 (l:=th.take i) λx hx=>hth x (List.mem_of_mem_take hx)
    have h2:(th.take i).length<=i:=by simp;omega
    omega
   obtain⟨x,hxe⟩: ∃x,x=th[i]:=⟨_,rfl⟩;rw[<- hxe]at hx hs;have gx:=hxe.symm;have hw:IntKind.i64.wrap (x:Int)=x:=wI (by omega) (by omega)
   simp -dsimp -implicitDefEqProofs (disch:=first|omega|assumption) [h1,gx,hw]
   refine ih (i+1) _ _ h1 (by omega) ?_
   rw[hs];simp -dsimp -implicitDefEqProofs (disch:=first|omega|assumption) [B]
  obtain rfl:i=th.length:=by omega
  subst hT';clear ih hi h1;rw[List.take_length];simp only at hT0;have hvg: ∀own,zdy k th.sum rb=some own->_:=λown=>zev (k:=k) (m:=th.sum) (by omega) (b:=rb) (own:=own)
  have hrd:=zha rb th.sum hrbl (by unfold zah;omega)
  rw[show zdy k th.sum rb=(if (zaV rb th.sum).2≠0 then none else some ((zaV rb th.sum).1.map λx=>(⟨1,x,noS⟩:Cel))) from by unfold zdy;rw[if_pos hk]]at hT0 hvg
  obtain⟨pl,hpe⟩: ∃pl,pl=(zaV rb th.sum).1:=⟨_,rfl⟩;obtain⟨e,hee⟩: ∃e,e=(zaV rb th.sum).2:=⟨_,rfl⟩;rw[<- hpe,<- hee]at hT0 hvg hrd;clear hpe hee
  by_cases e0:e≠0
  ·rw[if_pos e0]at hT0
   have e0': ¬ (e:Int)=0:=by omega
   simp -dsimp -implicitDefEqProofs (disch:=first|omega|assumption) [hkk,hrd,e0,e0']
   rw[<- hT0];simp[Is,RdR]
  have e0':e=0:=by omega
  subst e0';rw[if_neg e0]at hT0 hvg;simp -dsimp -implicitDefEqProofs (disch:=first|omega|assumption) [hkk,hrd]
  have hpll:pl.length<=256:=by have:=(hvg _ rfl).1;rw[List.length_map]at this;omega
  generalize hz:zac _ _ _ _ _ _=z;revert z;refine zaa (σ:=Nat) (λi=>[(0,.d (.int .i64 1)),(1,B b),(2,.d (.int .i64 th.length)),(8,.arr 0 th.length),(15,.arr 1 i),(16,.arr 2 pl.length),(18,.d (.int .i64 i))]) (λi=>[.arr 1 (uc th) 0,.arr 3 (zdQ zjv pl i) 0,.arr 1 (cs pl) pl.length]) (λi=>i<=pl.length) (λi=>pl.length - i) 0 ?_ ?_ ?_
  ·exact Nat.zero_le _
  ·simp -dsimp -implicitDefEqProofs (disch:=first|omega|assumption) [B,zaF]
  intro T3 f3 hT3 i hi ih
  by_cases h1:i<pl.length
  ·have hsu:=zaG (g:=zjv) h1
   have hln:=zai (g:=zjv) hi;obtain⟨x,hxe⟩: ∃x,x=pl[i]:=⟨_,rfl⟩;have gx:=hxe.symm;rw[<- hxe]at hsu;simp -dsimp -implicitDefEqProofs (disch:=first|omega|assumption) [h1,gx,hln]
   refine ih (i+1) _ _ h1 (by omega) ?_
   rw[hsu];simp -dsimp -implicitDefEqProofs (disch:=first|omega|assumption) [hln,B,zjv]
  obtain rfl:i=pl.length:=by omega
  rw[zbk (Nat.le_refl _),zqQ];subst hT3;clear ih hi h1;obtain⟨own,hown⟩: ∃own:List Cel,own=pl.map (λx=>(⟨1,x,noS⟩:Cel)):=⟨_,rfl⟩
  have hol:own.length=pl.length:=by rw[hown,List.length_map]
  rw[<- hown]at hT0 hvg ⊢;simp -dsimp -implicitDefEqProofs (disch:=first|omega|assumption)
  clear hown;obtain⟨hol2,hog⟩:=hvg _ rfl;have hps:pl.length=th.sum:=by omega
  simp only at hT0;obtain⟨hsg,hsg3⟩:=zfo (th:=th) hog;generalize hz:zac _ _ _ _ _ _=z;revert z;refine zaa (σ:=Nat × List Cel × Nat) (λx=>[(0,.d (.int .i64 1)),(1,B b),(2,.d (.int .i64 th.length)),(8,.arr 0 th.length),(15,.arr 1 own.length),(25,.arr 2 x.2.1.length),(26,.d (.int .i64 x.2.2)),(27,.d (.int .i64 x.1))]) (λx=>[.arr 1 (uc th) 0,.arr 3 (ce own) 0,.arr 3 (ce x.2.1) 0]) (λx=>x.1<=th.length/\x.2.1.length=x.1/\x.2.2+(th.drop x.1).sum=own.length/\zcB th own=x.2.1++zcB (th.drop x.1) (own.drop x.2.2)) (λx=>th.length - x.1) (0,[],0) ?_ ?_ ?_
  ·exact⟨Nat.zero_le _,rfl,by rw[List.drop_zero];simp only;omega,by rw[List.drop_zero,List.drop_zero];rfl⟩
  ·simp -dsimp -implicitDefEqProofs (disch:=first|omega|assumption) [B,hol2,hps]
  intro T2 f2 hT2 ⟨i,dn,at0⟩ ⟨hi,hdl,hat,hsc⟩ ih;simp only at hi hdl hat hsc ih
  by_cases h1:i<th.length
  ·have hdr:th.drop i=th[i]::th.drop (i+1):=List.drop_eq_getElem_cons h1
   have hx:=hth th[i] (List.getElem_mem _);obtain⟨x,hxe⟩: ∃x,x=th[i]:=⟨_,rfl⟩;rw[<- hxe]at hdr hx;have gx:=hxe.symm;rw[hdr,List.sum_cons]at hat;rw[hdr,zcB]at hsc
   by_cases hx0:x=0
   ·rw[if_pos hx0]at hsc
    have hx0':(x:Int)=0:=by omega
    simp -dsimp -implicitDefEqProofs (disch:=first|omega|assumption) [h1,gx,hx0,hx0',hdl]
    refine ih (i+1,dn++[Cel.none],at0) _ _ ⟨h1,by simp[hdl],by simp only;omega, ?_⟩ (by simp only;omega) ?_
    ·rw[hsc];simp
    ·simp -dsimp -implicitDefEqProofs (disch:=first|omega|assumption) [hdl,Cel.none,Cel.d,B]
   ·rw[if_neg hx0]at hsc
    have hx0': ¬ (x:Int)=0:=by omega
    have ha:at0<own.length:=by omega
    have hod:own.drop at0=own[at0]::own.drop (at0+1):=List.drop_eq_getElem_cons ha;obtain⟨⟨ck,cn,cs0⟩,hce⟩: ∃c,c=own[at0]:=⟨_,rfl⟩;have gc:=hce.symm;rw[<- hce]at hod;rw[hod,List.headD_cons,List.tail_cons]at hsc;simp -dsimp -implicitDefEqProofs (disch:=first|omega|assumption) [h1,gx,hx0,hx0',hdl,ha,gc,Cel.d]
    refine ih (i+1,dn++[⟨ck,cn,cs0⟩],at0+1) _ _ ⟨h1,by simp[hdl],by simp only;omega, ?_⟩ (by simp only;omega) ?_
    ·rw[hsc];simp
    ·simp -dsimp -implicitDefEqProofs (disch:=first|omega|assumption) [hdl,Cel.d,B]
  obtain rfl:i=th.length:=by omega
  rw[List.drop_length,zcB,List.append_nil]at hsc;rw[hsc]at hsg hsg3 hT0;obtain⟨w,e,hwl,hwr,hwe⟩:=zCP k (by omega) dn b hsg hsg3 (by omega)
  have hMw:=zaP w;rw[hkk]at hwr;subst hT2;clear ih hi h1
  by_cases e0:e=0
  ·subst e0
   rw[decide_eq_true rfl,Bool.true_and]at hwe;have hwe2:(w == b)=zu4 k dn b:=by rw[<- hwe];by_cases h:w=b <;> simp[h]
   simp -dsimp -implicitDefEqProofs (disch:=first|omega|assumption) [hwr,hMw,hM,zsR,hwe,hdl]
   rw[<- hT0];simp[Is,RdR,hdl,hwe2]
  ·have e0': ¬ (e:Int)=0:=by omega
   rw[decide_eq_false e0,Bool.false_and]at hwe;simp -dsimp -implicitDefEqProofs (disch:=first|omega|assumption) [hwr,e0,e0',hdl]
   rw[<- hT0];simp[Is,RdR,hdl,<- hwe]
end Go.Am.Ab
namespace Go.Am.Ab
open Go.Proofs
set_option maxHeartbeats 16000000
set_option maxRecDepth 4000
def zjw (x:Nat):D:= .agg [.int .u8 2,.int .i64 (x:Int),.str noS]
def zqR (l:List Nat):l.map zjw=ce (l.map λx:Nat=>(⟨2,(x:Int),noS⟩:Cel)):=by simp[zjw,Cel.d]
@[simp] def ztj (l:List Nat):zaw 3 (l.map zjw)=true:=zaN l λv=>rfl
def zoo (k n:Nat) (hk:k=2) (b:List UInt8) (hn:n<=256) (hb:b.length<1000000):Is (RdR (zdz k n b)) (R 81 [.d (.int .i64 k),B b,.d (.int .i64 n)] []):=by
 have hk1: ¬ (k:Int)<1:=by omega
 have hk2: ¬ (3:Int)<k:=by omega
 have hn1: ¬ (n:Int)<0:=by omega
 have hn2: ¬ (256:Int)<n:=by omega
 have hkk:(k:Int)=2:=by omega
 have hkx: ¬ (k:Int)=1:=by omega
 unfold zdz
 by_cases hbe:b=[]
 ·subst hbe
  refine ra b81 rfl (zaK (zdn _)) ?_;simp -dsimp -implicitDefEqProofs (disch:=first|omega|assumption) [hk1,hk2,hn1,hn2]
  simp[Is,RdR,zbE]
 obtain⟨c,r,hbc⟩: ∃c r,b=c::r:=by
  cases b with
  |nil=>exact absurd rfl hbe
  |cons c r=>exact⟨c,r,rfl⟩
 have hl0: ¬ (b.length:Int)=0:=by rw[hbc,List.length_cons];omega
 have hl1:0<b.length:=by rw[hbc,List.length_cons];omega
 have hg0:b[0]=c:=by simp only[hbc,List.getElem_cons_zero]
 have hd0:(bytes b).tail=bytes r:=by rw[hbc];rfl
 have hrl:r.length<1000000:=by rw[hbc,List.length_cons]at hb;omega
 have hrk:r.length+1=b.length:=by rw[hbc,List.length_cons]
 have hM:=zaP b;obtain⟨A,hA⟩: ∃A,A=zbE n b:=⟨_,rfl⟩;rw[<- hA];rw[hbc]at hA;unfold zbE at hA;simp only at hA;clear hbc
 by_cases c1:1<c.toNat
 ·have c1':(1:Int)<c.toNat:=by omega
  rw[if_pos c1]at hA;subst hA;refine ra b81 rfl (zaK (zdn _)) ?_;simp -dsimp -implicitDefEqProofs (disch:=first|omega|assumption) [hk1,hk2,hn1,hn2,hbe,hl0,hl1,hg0,c1,c1']
  simp[Is,RdR]
 rw[if_neg c1]at hA;have c1': ¬ (1:Int)<c.toNat:=by omega
 have hrep: ∀i,uc (List.replicate (i+1) 1)=uc (List.replicate i 1)++[.int .u64 1]:=λi=>by simp[List.replicate_succ']
 refine ra b81 rfl (zaK (zdn _)) ?_;simp -dsimp -implicitDefEqProofs (disch:=first|omega|assumption) [hk1,hk2,hn1,hn2,hbe,hl0,hl1,hg0,c1,c1']
 generalize hT0:Is _=T0;generalize hz:zac _ _ _ _ _ _=z;revert z;refine zaa (σ:=Nat) (λi=>[(0,.d (.int .i64 k)),(1,B b),(2,.d (.int .i64 n)),(8,.arr 0 i),(9,.d (.int .i64 i))]) (λi=>[.arr 1 (uc (List.replicate i 1)) 0]) (λi=>i<=n) (λi=>n - i) 0 ?_ ?_ ?_
 ·exact Nat.zero_le _
 ·simp -dsimp -implicitDefEqProofs (disch:=first|omega|assumption) [B]
 intro T' f hT' i hi ih
 by_cases h1:i<n
 ·have h1':(i:Int)<n:=by omega
  have hr1:=hrep i;simp -dsimp -implicitDefEqProofs (disch:=first|omega|assumption) [h1,h1']
  refine ih (i+1) _ _ h1 (by omega) ?_
  rw[hr1];simp -dsimp -implicitDefEqProofs (disch:=first|omega|assumption) [B]
 obtain rfl:i=n:=by omega
 subst hT';clear ih hi h1;rcases Decidable.em (c.toNat=1) with c2 | c2
 case' inr=>
  rw[if_neg c2]at hA;have c2': ¬ (c.toNat:Int)=1:=by omega
  subst hA;simp -dsimp -implicitDefEqProofs (disch:=first|omega|assumption) [hl0,hl1,hg0,hd0,hrk,c2,c2']
  generalize hrb:r=rb at hT0 ⊢;have hrbl:rb.length<1000000:=by rw[<- hrb];exact hrl
  have hthl:(List.replicate i 1).length=i:=List.length_replicate;have hth: ∀x∈List.replicate i 1,x<=1:=λx hx=>by rw[(List.mem_replicate.1 hx).2];omega
  generalize hte:List.replicate i 1=th at*;have huc:List.replicate i (D.int .u64 1)=uc th:=by rw[<- hte];simp
  rw[huc];subst hthl;clear hte hrb huc
 case' inl=>
  rw[if_pos c2]at hA;have c2':(c.toNat:Int)=1:=by omega
  obtain⟨sz,hsz⟩: ∃sz,sz=(i+7) / 8:=⟨_,rfl⟩;have hsz':((i:Int)+7) / 8=sz:=by omega
  rw[<- hsz]at hA
  by_cases c3:r.length<sz
  ·rw[if_pos c3]at hA
   have c3':(r.length:Int)<sz:=by omega
   subst hA;simp -dsimp -implicitDefEqProofs (disch:=first|omega|assumption) [hl0,hl1,hg0,hd0,hrk,c2,c2',hsz',c3,c3']
   rw[<- hT0];simp[Is,RdR]
  rw[if_neg c3]at hA;have c3': ¬ (r.length:Int)<sz:=by omega
  have c3b:sz<=r.length:=by omega
  obtain⟨bt,hbt⟩: ∃bt,bt=r.take sz:=⟨_,rfl⟩;obtain⟨rb,hbd⟩: ∃rb,rb=r.drop sz:=⟨_,rfl⟩;have hbt':List.take sz (bytes r)=bytes bt:=by rw[hbt,bytes,bytes,List.map_take]
  have hbd':List.drop sz (bytes r)=bytes rb:=by rw[hbd,bytes,bytes,List.map_drop]
  have hbtl:bt.length<1000000:=by rw[hbt,List.length_take];omega
  have hrbl:rb.length<1000000:=by rw[hbd,List.length_drop];omega
  rw[<- hbt,<- hbd]at hA;have hup:=zdm bt i hn hbtl;have hth:=zcA bt i;have hthl0:=zeu bt i;obtain⟨th,hte⟩: ∃th,th=(zan bt i).1:=⟨_,rfl⟩;obtain⟨e,hee⟩: ∃e,e=(zan bt i).2:=⟨_,rfl⟩;rw[<- hte,<- hee]at hup hthl0 hA;rw[<- hte]at hth;clear hte hee hbt hbd hsz
  by_cases c4:e≠0
  ·rw[if_pos c4]at hA
   have c4': ¬ (e:Int)=0:=by omega
   subst hA;simp -dsimp -implicitDefEqProofs (disch:=first|omega|assumption) [hl0,hl1,hg0,hd0,hrk,c2,c2',hsz',c3,c3',c3b,hbt',hup,c4,c4']
   rw[<- hT0];simp[Is,RdR]
  rw[if_neg c4]at hA;have c4':e=0:=by omega
  subst c4';have hthl:=hthl0 rfl;subst hthl;subst hA;simp -dsimp -implicitDefEqProofs (disch:=first|omega|assumption) [hl0,hl1,hg0,hd0,hrk,c2,c2',hsz',c3,c3',c3b,hbt',hup,hbd']
 all_goals
  have hsum:=ze0 hth;generalize hz:zac _ _ _ _ _ _=z;revert z;refine zaa (σ:=Nat) (λi=>[(0,.d (.int .i64 k)),(1,B b),(2,.d (.int .i64 th.length)),(8,.arr 0 th.length),(10,B rb),(13,.d (.int .i64 ((th.take i).sum:Nat))),(14,.d (.int .i64 i))]) (λi=>[.arr 1 (uc th) 0]) (λi=>i<=th.length) (λi=>th.length - i) 0 ?_ ?_ ?_
  ·exact Nat.zero_le _
  ·simp -dsimp -implicitDefEqProofs (disch:=first|omega|assumption) [B]
  intro T' f hT' i hi ih
  by_cases h1:i<th.length
  ·have hx:=hth th[i] (List.getElem_mem _)
   have hs:=zgs h1;have hsl:(th.take i).sum<=i:=by
    have:=ze0 (l:=th.take i) λx hx=>hth x (List.mem_of_mem_take hx)
    have h2:(th.take i).length<=i:=by simp;omega
    omega
   obtain⟨x,hxe⟩: ∃x,x=th[i]:=⟨_,rfl⟩;rw[<- hxe]at hx hs;have gx:=hxe.symm;have hw:IntKind.i64.wrap (x:Int)=x:=wI (by omega) (by omega)
   simp -dsimp -implicitDefEqProofs (disch:=first|omega|assumption) [h1,gx,hw]
   refine ih (i+1) _ _ h1 (by omega) ?_
   rw[hs];simp -dsimp -implicitDefEqProofs (disch:=first|omega|assumption) [B]
  obtain rfl:i=th.length:=by omega
  subst hT';clear ih hi h1;rw[List.take_length];simp only at hT0;have hvg: ∀own,zdy k th.sum rb=some own->_:=λown=>zev (k:=k) (m:=th.sum) (by omega) (b:=rb) (own:=own)
  have hrd:=zdm rb th.sum (by omega) hrbl
  rw[show zdy k th.sum rb=(if (zan rb th.sum).2≠0 then none else some ((zan rb th.sum).1.map λ(x:Nat)=>(⟨2,(x:Int),noS⟩:Cel))) from by unfold zdy;rw[if_neg (by omega),if_pos hk]]at hT0 hvg
  have hbits:=zcA rb th.sum;obtain⟨pl,hpe⟩: ∃pl,pl=(zan rb th.sum).1:=⟨_,rfl⟩;obtain⟨e,hee⟩: ∃e,e=(zan rb th.sum).2:=⟨_,rfl⟩;rw[<- hpe,<- hee]at hT0 hvg hrd;rw[<- hpe]at hbits;clear hpe hee
  by_cases e0:e≠0
  ·rw[if_pos e0]at hT0
   have e0': ¬ (e:Int)=0:=by omega
   simp -dsimp -implicitDefEqProofs (disch:=first|omega|assumption) [hkx,hkk,hrd,e0,e0']
   rw[<- hT0];simp[Is,RdR]
  have e0':e=0:=by omega
  subst e0';rw[if_neg e0]at hT0 hvg;simp -dsimp -implicitDefEqProofs (disch:=first|omega|assumption) [hkx,hkk,hrd]
  have hpll:pl.length<=256:=by have:=(hvg _ rfl).1;rw[List.length_map]at this;omega
  generalize hz:zac _ _ _ _ _ _=z;revert z;refine zaa (σ:=Nat) (λi=>[(0,.d (.int .i64 2)),(1,B b),(2,.d (.int .i64 th.length)),(8,.arr 0 th.length),(15,.arr 1 i),(19,.arr 2 pl.length),(21,.d (.int .i64 i))]) (λi=>[.arr 1 (uc th) 0,.arr 3 (zdQ zjw pl i) 0,.arr 1 (uc pl) 0]) (λi=>i<=pl.length) (λi=>pl.length - i) 0 ?_ ?_ ?_
  ·exact Nat.zero_le _
  ·simp -dsimp -implicitDefEqProofs (disch:=first|omega|assumption) [B,zaF]
  intro T3 f3 hT3 i hi ih
  by_cases h1:i<pl.length
  ·have hsu:=zaG (g:=zjw) h1
   have hln:=zai (g:=zjw) hi;obtain⟨x,hxe⟩: ∃x,x=pl[i]:=⟨_,rfl⟩;have gx:=hxe.symm;rw[<- hxe]at hsu;have hxb:=hbits pl[i] (List.getElem_mem _);rw[<- hxe]at hxb;have hw:IntKind.i64.wrap (x:Int)=x:=wI (by omega) (by omega)
   simp -dsimp -implicitDefEqProofs (disch:=first|omega|assumption) [h1,gx,hln,hw]
   refine ih (i+1) _ _ h1 (by omega) ?_
   rw[hsu];simp -dsimp -implicitDefEqProofs (disch:=first|omega|assumption) [hln,B,zjw]
  obtain rfl:i=pl.length:=by omega
  rw[zbk (Nat.le_refl _),zqR];subst hT3;clear ih hi h1;obtain⟨own,hown⟩: ∃own:List Cel,own=pl.map (λ(x:Nat)=>(⟨2,(x:Int),noS⟩:Cel)):=⟨_,rfl⟩
  have hol:own.length=pl.length:=by rw[hown,List.length_map]
  rw[<- hown]at hT0 hvg ⊢;simp -dsimp -implicitDefEqProofs (disch:=first|omega|assumption)
  clear hown;obtain⟨hol2,hog⟩:=hvg _ rfl;have hps:pl.length=th.sum:=by omega
  simp only at hT0;obtain⟨hsg,hsg3⟩:=zfo (th:=th) hog;generalize hz:zac _ _ _ _ _ _=z;revert z;refine zaa (σ:=Nat × List Cel × Nat) (λx=>[(0,.d (.int .i64 2)),(1,B b),(2,.d (.int .i64 th.length)),(8,.arr 0 th.length),(15,.arr 1 own.length),(25,.arr 2 x.2.1.length),(26,.d (.int .i64 x.2.2)),(27,.d (.int .i64 x.1))]) (λx=>[.arr 1 (uc th) 0,.arr 3 (ce own) 0,.arr 3 (ce x.2.1) 0]) (λx=>x.1<=th.length/\x.2.1.length=x.1/\x.2.2+(th.drop x.1).sum=own.length/\zcB th own=x.2.1++zcB (th.drop x.1) (own.drop x.2.2)) (λx=>th.length - x.1) (0,[],0) ?_ ?_ ?_
  ·exact⟨Nat.zero_le _,rfl,by rw[List.drop_zero];simp only;omega,by rw[List.drop_zero,List.drop_zero];rfl⟩
  ·simp -dsimp -implicitDefEqProofs (disch:=first|omega|assumption) [B,hol2,hps]
  intro T2 f2 hT2 ⟨i,dn,at0⟩ ⟨hi,hdl,hat,hsc⟩ ih;simp only at hi hdl hat hsc ih
  by_cases h1:i<th.length
  ·have hdr:th.drop i=th[i]::th.drop (i+1):=List.drop_eq_getElem_cons h1
   have hx:=hth th[i] (List.getElem_mem _);obtain⟨x,hxe⟩: ∃x,x=th[i]:=⟨_,rfl⟩;rw[<- hxe]at hdr hx;have gx:=hxe.symm;rw[hdr,List.sum_cons]at hat;rw[hdr,zcB]at hsc
   by_cases hx0:x=0
   ·rw[if_pos hx0]at hsc
    have hx0':(x:Int)=0:=by omega
    simp -dsimp -implicitDefEqProofs (disch:=first|omega|assumption) [h1,gx,hx0,hx0',hdl]
    refine ih (i+1,dn++[Cel.none],at0) _ _ ⟨h1,by simp[hdl],by simp only;omega, ?_⟩ (by simp only;omega) ?_
    ·rw[hsc];simp
    ·simp -dsimp -implicitDefEqProofs (disch:=first|omega|assumption) [hdl,Cel.none,Cel.d,B]
   ·rw[if_neg hx0]at hsc
    have hx0': ¬ (x:Int)=0:=by omega
    have ha:at0<own.length:=by omega
    have hod:own.drop at0=own[at0]::own.drop (at0+1):=List.drop_eq_getElem_cons ha;obtain⟨⟨ck,cn,cs0⟩,hce⟩: ∃c,c=own[at0]:=⟨_,rfl⟩;have gc:=hce.symm;rw[<- hce]at hod;rw[hod,List.headD_cons,List.tail_cons]at hsc;simp -dsimp -implicitDefEqProofs (disch:=first|omega|assumption) [h1,gx,hx0,hx0',hdl,ha,gc,Cel.d]
    refine ih (i+1,dn++[⟨ck,cn,cs0⟩],at0+1) _ _ ⟨h1,by simp[hdl],by simp only;omega, ?_⟩ (by simp only;omega) ?_
    ·rw[hsc];simp
    ·simp -dsimp -implicitDefEqProofs (disch:=first|omega|assumption) [hdl,Cel.d,B]
  obtain rfl:i=th.length:=by omega
  rw[List.drop_length,zcB,List.append_nil]at hsc;rw[hsc]at hsg hsg3 hT0;obtain⟨w,e,hwl,hwr,hwe⟩:=zCP k (by omega) dn b hsg hsg3 (by omega)
  have hMw:=zaP w;rw[hkk]at hwr;subst hT2;clear ih hi h1
  by_cases e0:e=0
  ·subst e0
   rw[decide_eq_true rfl,Bool.true_and]at hwe;have hwe2:(w == b)=zu4 k dn b:=by rw[<- hwe];by_cases h:w=b <;> simp[h]
   simp -dsimp -implicitDefEqProofs (disch:=first|omega|assumption) [hwr,hMw,hM,zsR,hwe,hdl]
   rw[<- hT0];simp[Is,RdR,hdl,hwe2]
  ·have e0': ¬ (e:Int)=0:=by omega
   rw[decide_eq_false e0,Bool.false_and]at hwe;simp -dsimp -implicitDefEqProofs (disch:=first|omega|assumption) [hwr,e0,e0',hdl]
   rw[<- hT0];simp[Is,RdR,hdl,<- hwe]
end Go.Am.Ab
namespace Go.Am.Ab
open Go.Proofs
set_option maxHeartbeats 16000000
set_option maxRecDepth 4000
def zop (x:ByteArray):D:= .agg [.int .u8 3,.int .i64 0,.str x]
def zsS (l:List ByteArray):l.map zop=ce (l.map λs:ByteArray=>(⟨3,0,s⟩:Cel)):=by simp[zop,Cel.d]
@[simp] def zut (l:List ByteArray):zaw 3 (l.map zop)=true:=zaN l λv=>rfl
def zoq (k n:Nat) (hk:k=3) (b:List UInt8) (hn:n<=256) (hb:b.length<1000000):Is (RdR (zdz k n b)) (R 81 [.d (.int .i64 k),B b,.d (.int .i64 n)] []):=by
 have hk1: ¬ (k:Int)<1:=by omega
 have hk2: ¬ (3:Int)<k:=by omega
 have hn1: ¬ (n:Int)<0:=by omega
 have hn2: ¬ (256:Int)<n:=by omega
 have hkk: ¬ (k:Int)=1:=by omega
 have hkx: ¬ (k:Int)=2:=by omega
 unfold zdz
 by_cases hbe:b=[]
 ·subst hbe
  refine ra b81 rfl (zaK (zdn _)) ?_;simp -dsimp -implicitDefEqProofs (disch:=first|omega|assumption) [hk1,hk2,hn1,hn2]
  simp[Is,RdR,zbE]
 obtain⟨c,r,hbc⟩: ∃c r,b=c::r:=by
  cases b with
  |nil=>exact absurd rfl hbe
  |cons c r=>exact⟨c,r,rfl⟩
 have hl0: ¬ (b.length:Int)=0:=by rw[hbc,List.length_cons];omega
 have hl1:0<b.length:=by rw[hbc,List.length_cons];omega
 have hg0:b[0]=c:=by simp only[hbc,List.getElem_cons_zero]
 have hd0:(bytes b).tail=bytes r:=by rw[hbc];rfl
 have hrl:r.length<1000000:=by rw[hbc,List.length_cons]at hb;omega
 have hrk:r.length+1=b.length:=by rw[hbc,List.length_cons]
 have hM:=zaP b;obtain⟨A,hA⟩: ∃A,A=zbE n b:=⟨_,rfl⟩;rw[<- hA];rw[hbc]at hA;unfold zbE at hA;simp only at hA;clear hbc
 by_cases c1:1<c.toNat
 ·have c1':(1:Int)<c.toNat:=by omega
  rw[if_pos c1]at hA;subst hA;refine ra b81 rfl (zaK (zdn _)) ?_;simp -dsimp -implicitDefEqProofs (disch:=first|omega|assumption) [hk1,hk2,hn1,hn2,hbe,hl0,hl1,hg0,c1,c1']
  simp[Is,RdR]
 rw[if_neg c1]at hA;have c1': ¬ (1:Int)<c.toNat:=by omega
 have hrep: ∀i,uc (List.replicate (i+1) 1)=uc (List.replicate i 1)++[.int .u64 1]:=λi=>by simp[List.replicate_succ']
 refine ra b81 rfl (zaK (zdn _)) ?_;simp -dsimp -implicitDefEqProofs (disch:=first|omega|assumption) [hk1,hk2,hn1,hn2,hbe,hl0,hl1,hg0,c1,c1']
 generalize hT0:Is _=T0;generalize hz:zac _ _ _ _ _ _=z;revert z;refine zaa (σ:=Nat) (λi=>[(0,.d (.int .i64 k)),(1,B b),(2,.d (.int .i64 n)),(8,.arr 0 i),(9,.d (.int .i64 i))]) (λi=>[.arr 1 (uc (List.replicate i 1)) 0]) (λi=>i<=n) (λi=>n - i) 0 ?_ ?_ ?_
 ·exact Nat.zero_le _
 ·simp -dsimp -implicitDefEqProofs (disch:=first|omega|assumption) [B]
 intro T' f hT' i hi ih
 by_cases h1:i<n
 ·have h1':(i:Int)<n:=by omega
  have hr1:=hrep i;simp -dsimp -implicitDefEqProofs (disch:=first|omega|assumption) [h1,h1']
  refine ih (i+1) _ _ h1 (by omega) ?_
  rw[hr1];simp -dsimp -implicitDefEqProofs (disch:=first|omega|assumption) [B]
 obtain rfl:i=n:=by omega
 subst hT';clear ih hi h1;rcases Decidable.em (c.toNat=1) with c2 | c2
 case' inr=>
  rw[if_neg c2]at hA;have c2': ¬ (c.toNat:Int)=1:=by omega
  subst hA;simp -dsimp -implicitDefEqProofs (disch:=first|omega|assumption) [hl0,hl1,hg0,hd0,hrk,c2,c2']
  generalize hrb:r=rb at hT0 ⊢;have hrbl:rb.length<1000000:=by rw[<- hrb];exact hrl
  have hthl:(List.replicate i 1).length=i:=List.length_replicate;have hth: ∀x∈List.replicate i 1,x<=1:=λx hx=>by rw[(List.mem_replicate.1 hx).2];omega
  generalize hte:List.replicate i 1=th at*;have huc:List.replicate i (D.int .u64 1)=uc th:=by rw[<- hte];simp
  rw[huc];subst hthl;clear hte hrb huc
 case' inl=>
  rw[if_pos c2]at hA;have c2':(c.toNat:Int)=1:=by omega
  obtain⟨sz,hsz⟩: ∃sz,sz=(i+7) / 8:=⟨_,rfl⟩;have hsz':((i:Int)+7) / 8=sz:=by omega
  rw[<- hsz]at hA
  by_cases c3:r.length<sz
  ·rw[if_pos c3]at hA
   have c3':(r.length:Int)<sz:=by omega
   subst hA;simp -dsimp -implicitDefEqProofs (disch:=first|omega|assumption) [hl0,hl1,hg0,hd0,hrk,c2,c2',hsz',c3,c3']
   rw[<- hT0];simp[Is,RdR]
  rw[if_neg c3]at hA;have c3': ¬ (r.length:Int)<sz:=by omega
  have c3b:sz<=r.length:=by omega
  obtain⟨bt,hbt⟩: ∃bt,bt=r.take sz:=⟨_,rfl⟩;obtain⟨rb,hbd⟩: ∃rb,rb=r.drop sz:=⟨_,rfl⟩;have hbt':List.take sz (bytes r)=bytes bt:=by rw[hbt,bytes,bytes,List.map_take]
  have hbd':List.drop sz (bytes r)=bytes rb:=by rw[hbd,bytes,bytes,List.map_drop]
  have hbtl:bt.length<1000000:=by rw[hbt,List.length_take];omega
  have hrbl:rb.length<1000000:=by rw[hbd,List.length_drop];omega
  rw[<- hbt,<- hbd]at hA;have hup:=zdm bt i hn hbtl;have hth:=zcA bt i;have hthl0:=zeu bt i;obtain⟨th,hte⟩: ∃th,th=(zan bt i).1:=⟨_,rfl⟩;obtain⟨e,hee⟩: ∃e,e=(zan bt i).2:=⟨_,rfl⟩;rw[<- hte,<- hee]at hup hthl0 hA;rw[<- hte]at hth;clear hte hee hbt hbd hsz
  by_cases c4:e≠0
  ·rw[if_pos c4]at hA
   have c4': ¬ (e:Int)=0:=by omega
   subst hA;simp -dsimp -implicitDefEqProofs (disch:=first|omega|assumption) [hl0,hl1,hg0,hd0,hrk,c2,c2',hsz',c3,c3',c3b,hbt',hup,c4,c4']
   rw[<- hT0];simp[Is,RdR]
  rw[if_neg c4]at hA;have c4':e=0:=by omega
  subst c4';have hthl:=hthl0 rfl;subst hthl;subst hA;simp -dsimp -implicitDefEqProofs (disch:=first|omega|assumption) [hl0,hl1,hg0,hd0,hrk,c2,c2',hsz',c3,c3',c3b,hbt',hup,hbd']
 all_goals
  have hsum:=ze0 hth;generalize hz:zac _ _ _ _ _ _=z;revert z;refine zaa (σ:=Nat) (λi=>[(0,.d (.int .i64 k)),(1,B b),(2,.d (.int .i64 th.length)),(8,.arr 0 th.length),(10,B rb),(13,.d (.int .i64 ((th.take i).sum:Nat))),(14,.d (.int .i64 i))]) (λi=>[.arr 1 (uc th) 0]) (λi=>i<=th.length) (λi=>th.length - i) 0 ?_ ?_ ?_
  ·exact Nat.zero_le _
  ·simp -dsimp -implicitDefEqProofs (disch:=first|omega|assumption) [B]
  intro T' f hT' i hi ih
  by_cases h1:i<th.length
  ·have hx:=hth th[i] (List.getElem_mem _)
   have hs:=zgs h1;have hsl:(th.take i).sum<=i:=by
    have:=ze0 (l:=th.take i) λx hx=>hth x (List.mem_of_mem_take hx)
    have h2:(th.take i).length<=i:=by simp;omega
    omega
   obtain⟨x,hxe⟩: ∃x,x=th[i]:=⟨_,rfl⟩;rw[<- hxe]at hx hs;have gx:=hxe.symm;have hw:IntKind.i64.wrap (x:Int)=x:=wI (by omega) (by omega)
   simp -dsimp -implicitDefEqProofs (disch:=first|omega|assumption) [h1,gx,hw]
   refine ih (i+1) _ _ h1 (by omega) ?_
   rw[hs];simp -dsimp -implicitDefEqProofs (disch:=first|omega|assumption) [B]
  obtain rfl:i=th.length:=by omega
  subst hT';clear ih hi h1;rw[List.take_length];simp only at hT0;have hvg: ∀own,zdy k th.sum rb=some own->_:=λown=>zev (k:=k) (m:=th.sum) (by omega) (b:=rb) (own:=own)
  have hrd:=zoi rb th.sum (by omega) hrbl
  rw[show zdy k th.sum rb=(if (zcs th.sum rb).2=false then none else some ((zcs th.sum rb).1.map λs=>(⟨3,0,s⟩:Cel))) from by unfold zdy;rw[if_neg (by omega),if_neg (by omega)]]at hT0 hvg
  unfold Is RwR at hrd;obtain⟨pl,hpe⟩: ∃pl,pl=(zcs th.sum rb).1:=⟨_,rfl⟩;obtain⟨e,hee⟩: ∃e,e=(zcs th.sum rb).2:=⟨_,rfl⟩;rw[<- hpe,<- hee]at hT0 hvg hrd;clear hpe hee
  by_cases e0:e=false
  ·rw[if_pos e0]at hT0
   subst e0;simp -dsimp -implicitDefEqProofs (disch:=first|omega|assumption) [hkk,hkx,hrd]
   rw[<- hT0];simp[Is,RdR]
  have e0':e=true:=by simpa using e0
  subst e0';rw[if_neg e0]at hT0 hvg;simp -dsimp -implicitDefEqProofs (disch:=first|omega|assumption) [hkk,hkx,hrd]
  have hpll:pl.length<=256:=by have:=(hvg _ rfl).1;rw[List.length_map]at this;omega
  generalize hz:zac _ _ _ _ _ _=z;revert z;refine zaa (σ:=Nat) (λi=>[(0,.d (.int .i64 k)),(1,B b),(2,.d (.int .i64 th.length)),(8,.arr 0 th.length),(15,.arr 1 i),(22,.arr 2 pl.length),(24,.d (.int .i64 i))]) (λi=>[.arr 1 (uc th) 0,.arr 3 (zdQ zop pl i) 0,.arr 1 (pl.map D.str) 0]) (λi=>i<=pl.length) (λi=>pl.length - i) 0 ?_ ?_ ?_
  ·exact Nat.zero_le _
  ·simp -dsimp -implicitDefEqProofs (disch:=first|omega|assumption) [B,zaF]
  intro T3 f3 hT3 i hi ih
  by_cases h1:i<pl.length
  ·have hsu:=zaG (g:=zop) h1
   have hln:=zai (g:=zop) hi;obtain⟨x,hxe⟩: ∃x,x=pl[i]:=⟨_,rfl⟩;have gx:=hxe.symm;rw[<- hxe]at hsu;simp -dsimp -implicitDefEqProofs (disch:=first|omega|assumption) [h1,gx,hln]
   refine ih (i+1) _ _ h1 (by omega) ?_
   rw[hsu];simp -dsimp -implicitDefEqProofs (disch:=first|omega|assumption) [hln,B,zop]
  obtain rfl:i=pl.length:=by omega
  rw[zbk (Nat.le_refl _),zsS];subst hT3;clear ih hi h1;obtain⟨own,hown⟩: ∃own:List Cel,own=pl.map (λs=>(⟨3,0,s⟩:Cel)):=⟨_,rfl⟩
  have hol:own.length=pl.length:=by rw[hown,List.length_map]
  rw[<- hown]at hT0 hvg ⊢;simp -dsimp -implicitDefEqProofs (disch:=first|omega|assumption)
  clear hown;obtain⟨hol2,hog⟩:=hvg _ rfl;have hps:pl.length=th.sum:=by omega
  simp only at hT0;obtain⟨hsg,hsg3⟩:=zfo (th:=th) hog;generalize hz:zac _ _ _ _ _ _=z;revert z;refine zaa (σ:=Nat × List Cel × Nat) (λx=>[(0,.d (.int .i64 k)),(1,B b),(2,.d (.int .i64 th.length)),(8,.arr 0 th.length),(15,.arr 1 own.length),(25,.arr 2 x.2.1.length),(26,.d (.int .i64 x.2.2)),(27,.d (.int .i64 x.1))]) (λx=>[.arr 1 (uc th) 0,.arr 3 (ce own) 0,.arr 3 (ce x.2.1) 0]) (λx=>x.1<=th.length/\x.2.1.length=x.1/\x.2.2+(th.drop x.1).sum=own.length/\zcB th own=x.2.1++zcB (th.drop x.1) (own.drop x.2.2)) (λx=>th.length - x.1) (0,[],0) ?_ ?_ ?_
  ·exact⟨Nat.zero_le _,rfl,by rw[List.drop_zero];simp only;omega,by rw[List.drop_zero,List.drop_zero];rfl⟩
  ·simp -dsimp -implicitDefEqProofs (disch:=first|omega|assumption) [B,hol2,hps]
  intro T2 f2 hT2 ⟨i,dn,at0⟩ ⟨hi,hdl,hat,hsc⟩ ih;simp only at hi hdl hat hsc ih
  by_cases h1:i<th.length
  ·have hdr:th.drop i=th[i]::th.drop (i+1):=List.drop_eq_getElem_cons h1
   have hx:=hth th[i] (List.getElem_mem _);obtain⟨x,hxe⟩: ∃x,x=th[i]:=⟨_,rfl⟩;rw[<- hxe]at hdr hx;have gx:=hxe.symm;rw[hdr,List.sum_cons]at hat;rw[hdr,zcB]at hsc
   by_cases hx0:x=0
   ·rw[if_pos hx0]at hsc
    have hx0':(x:Int)=0:=by omega
    simp -dsimp -implicitDefEqProofs (disch:=first|omega|assumption) [h1,gx,hx0,hx0',hdl]
    refine ih (i+1,dn++[Cel.none],at0) _ _ ⟨h1,by simp[hdl],by simp only;omega, ?_⟩ (by simp only;omega) ?_
    ·rw[hsc];simp
    ·simp -dsimp -implicitDefEqProofs (disch:=first|omega|assumption) [hdl,Cel.none,Cel.d,B]
   ·rw[if_neg hx0]at hsc
    have hx0': ¬ (x:Int)=0:=by omega
    have ha:at0<own.length:=by omega
    have hod:own.drop at0=own[at0]::own.drop (at0+1):=List.drop_eq_getElem_cons ha;obtain⟨⟨ck,cn,cs0⟩,hce⟩: ∃c,c=own[at0]:=⟨_,rfl⟩;have gc:=hce.symm;rw[<- hce]at hod;rw[hod,List.headD_cons,List.tail_cons]at hsc;simp -dsimp -implicitDefEqProofs (disch:=first|omega|assumption) [h1,gx,hx0,hx0',hdl,ha,gc,Cel.d]
    refine ih (i+1,dn++[⟨ck,cn,cs0⟩],at0+1) _ _ ⟨h1,by simp[hdl],by simp only;omega, ?_⟩ (by simp only;omega) ?_
    ·rw[hsc];simp
    ·simp -dsimp -implicitDefEqProofs (disch:=first|omega|assumption) [hdl,Cel.d,B]
  obtain rfl:i=th.length:=by omega
  rw[List.drop_length,zcB,List.append_nil]at hsc;rw[hsc]at hsg hsg3 hT0;obtain⟨w,e,hwl,hwr,hwe⟩:=zCP k (by omega) dn b hsg hsg3 (by omega)
  have hMw:=zaP w;subst hT2;clear ih hi h1
  by_cases e0:e=0
  ·subst e0
   rw[decide_eq_true rfl,Bool.true_and]at hwe;have hwe2:(w == b)=zu4 k dn b:=by rw[<- hwe];by_cases h:w=b <;> simp[h]
   simp -dsimp -implicitDefEqProofs (disch:=first|omega|assumption) [hwr,hMw,hM,zsR,hwe,hdl]
   rw[<- hT0];simp[Is,RdR,hdl,hwe2]
  ·have e0': ¬ (e:Int)=0:=by omega
   rw[decide_eq_false e0,Bool.false_and]at hwe;simp -dsimp -implicitDefEqProofs (disch:=first|omega|assumption) [hwr,e0,e0',hdl]
   rw[<- hT0];simp[Is,RdR,hdl,<- hwe]
end Go.Am.Ab
