/- The sort of texts, second part; unlike ones. -/
import Derived.Test.YtibdiacpdmhmnaaGreatDoorCellsA
import Derived.Test.YtibdiacpdmhmnaaGreatDoorTSortA
set_option linter.all false
namespace Go.Am.Ab.Str
open Go.Proofs
set_option maxHeartbeats 4000000
def EndsAB (wd:Nat->ByteArray) (p:Nat->List Nat->Prop) (r:Option (List V × List Obj)):Prop:= ∃i f l',r=some ([.d (.int .i64 (i:Nat)),.d (.bool f)],[.arr 1 (ws wd l') 0])/\p i l'
def not_endsAB {wd:Nat->ByteArray} {p:Nat->List Nat->Prop}: ¬ EndsAB wd p none:=λ⟨_,_,_,h,_⟩=>by cases h
def PEnd (a b:Nat) (l:List Nat) (i:Nat) (l':List Nat):Prop:=a<=i/\i<b/\Turn a b l l'/\(∀p,a<=p->p<i->at' l' p<=at' l' i)/\ ∀p,i<p->p<b->at' l' i<=at' l' p
def PInv (a b:Nat) (v:Nat) (l:List Nat) (x:Nat × Nat × List Nat):Prop:=a+1<=x.1/\x.1<=x.2.1/\x.2.1<=b/\Turn a b l x.2.2/\at' x.2.2 a=v/\(∀p,a<p->p<x.1->at' x.2.2 p<=v)/\ ∀p,x.2.1<=p->p<b->v<=at' x.2.2 p
def part_fin {a b j:Nat} {v:Nat} {l m:List Nat} (hb:b<=l.length) (hj:a<=j) (h:PInv a b v l (j+1,j+1,m)):PEnd a b l j (swp m j a):=by
 obtain⟨h1,h2,h3,ht,hv,hlo,hhi⟩:=h;simp only at h1 h2 h3 ht hv hlo hhi;have hml:=ht.len;have hat: ∀k,at' (swp m j a) k=if k=a then at' m j else if k=j then at' m a else at' m k:=λk=>at_swp (by omega) (by omega) k
 have hj2:at' (swp m j a) j=v:=by
  rw[hat];split
  ·rename_i e;rw[e];exact hv
  ·rw[yah rfl];exact hv
 refine⟨hj,by omega,ht.trans (turn_swp (by omega) (by omega) (by omega)),λp p1 p2=> ?_,λp p1 p2=> ?_⟩
 ·rw[hj2,hat]
  by_cases c:p=a
  ·rw[yah c];exact hlo j (by omega) (by omega)
  ·rw[yae c,yae (by omega)];exact hlo p (by omega) (by omega)
 ·rw[hj2,hat,yae (by omega),yae (by omega)]
  exact hhi p (by omega) p2
def part_swap {a b x z:Nat} {v:Nat} {l m:List Nat} (hb:b<=l.length) (h:PInv a b v l (x,z+1,m)) (hx:v<=at' m x) (hz:at' m z<=v) (hxz:x<z):PInv a b v l (x+1,z,swp m x z):=by
 obtain⟨h1,h2,h3,ht,hv,hlo,hhi⟩:=h;simp only at h1 h2 h3 ht hv hlo hhi;have hml:=ht.len;have hat: ∀k,at' (swp m x z) k=if k=z then at' m x else if k=x then at' m z else at' m k:=λk=>at_swp (by omega) (by omega) k
 refine⟨by simp only;omega,by simp only;omega,by simp only;omega,ht.trans (turn_swp (by omega) (by omega) (by omega)), ?_, ?_, ?_⟩
 ·simp only
  rw[hat,yae (by omega),yae (by omega)];exact hv
 ·intro p p1 p2
  simp only at p2 ⊢;rw[hat,yae (by omega)]
  by_cases c:p=x
  ·rw[yah c];exact hz
  ·rw[yae c];exact hlo p p1 (by omega)
 ·intro p p1 p2
  simp only at p1 ⊢;rw[hat]
  by_cases c:p=z
  ·rw[yah c];exact hx
  ·rw[yae c,yae (by omega)];exact hhi p (by omega) p2
def part_runs {wd:Nat->ByteArray} (hwd:Mono wd) (l:List Nat) (a b c:Nat) (hac:a<=c) (hcb:c<b) (hb:b<=l.length) (hn:l.length<=256):
 EndsAB wd (PEnd a b l) (R 192 [.arr 0 l.length,.d (.int .i64 a),.d (.int .i64 b),.d (.int .i64 c)] [.arr 1 (ws wd l) 0]):=by
 have ha3:a<l.length:=by omega
 have hc3:c<l.length:=by omega
 have ga:=get_at ha3;have gc:=get_at hc3;obtain⟨w,hww⟩: ∃w,(l.set a (at' l c))[c]? =some w:=⟨_,yak (by rw[ya4];omega)⟩
 obtain⟨m,hm⟩: ∃m,m=swp l a c:=⟨_,rfl⟩;have hmu:=hm;unfold swp at hmu;obtain⟨v,hv⟩: ∃v,v=at' l c:=⟨_,rfl⟩;have ht:Turn a b l m:=by rw[hm];exact turn_swp (by omega) (by omega) (by omega)
 have hva:at' m a=v:=by rw[hm,at_swp ha3 hc3,hv];split <;> simp_all
 have hml:=ht.len;have gma:=get_at (l:=m) (i:=a) (by omega)
 have ham:a<m.length:=by omega
 have fin: ∀ (m:List Nat) (j:Nat) (f:Bool),a<=j->PInv a b v l (j+1,j+1,m)->EndsAB wd (PEnd a b l) (some ([.d (.int .i64 j),.d (.bool f)],[.arr 1 (ws wd ((m.set j (at' m a)).set a (at' m j))) 0])):=λm j f h1 h2=>⟨j,f,swp m j a,rfl,part_fin hb h1 h2⟩
 refine ra zGJ rfl not_endsAB ?_;simp -dsimp -implicitDefEqProofs (disch:=first|omega|assumption) [ha3,hc3,ga,gc,hww,ws_set,hmu.symm,-List.map_set]
 generalize hT0:EndsAB wd _=T0;generalize hz:zad _ _ _ _ _ _=z;revert z;refine zaa (σ:=Nat) (λx=>[(0,.arr 0 l.length),(1,.d (.int .i64 a)),(10,.d (.int .i64 x)),(11,.d (.int .i64 ((b:Int) - 1)))]) (λx=>[.arr 1 (ws wd m) 0]) (λx=>a+1<=x/\x<=b/\ ∀p,a<p->p<x->at' m p<=v) (λx=>b - x) (a+1) ?_ ?_ ?_
 ·exact⟨yab _,by omega,λp h1 h2=>by omega⟩
 ·simp -dsimp -implicitDefEqProofs (disch:=first|omega|assumption)
 intro T2 f2 hT2 x ⟨hx1,hx2,hx3⟩ ih2;have out: ∀s1:Slots,zar s1 0= .arr 0 l.length->zar s1 1= .d (.int .i64 a)->zar s1 10= .d (.int .i64 x)->zar s1 11= .d (.int .i64 ((b:Int) - 1))->(x=b\/v<=at' m x)->T2 (some (.exit 0,s1,[.arr 1 (ws wd m) 0])):=by
  intro s1 d0 d1 d10 d11 hx4;subst hT2;simp -dsimp -implicitDefEqProofs (disch:=first|omega|assumption) [d0,d1,d10,d11]
  generalize hz:zad _ _ _ _ _ _=z;revert z;refine zaa (σ:=Nat) (λy=>[(0,.arr 0 l.length),(1,.d (.int .i64 a)),(10,.d (.int .i64 x)),(11,.d (.int .i64 ((y:Int) - 1)))]) (λy=>[.arr 1 (ws wd m) 0]) (λy=>x<=y/\y<=b/\ ∀p,y<=p->p<b->v<=at' m p) (λy=>y) b ?_ ?_ ?_
  ·exact⟨hx2,yab _,λp h1 h2=>by omega⟩
  ·simp -dsimp -implicitDefEqProofs (disch:=first|omega|assumption) [d0,d1,d10,d11]
  intro T3 f3 hT3 y ⟨hy1,hy2,hy3⟩ ih3;have out2: ∀s2:Slots,zar s2 0= .arr 0 l.length->zar s2 1= .d (.int .i64 a)->zar s2 10= .d (.int .i64 x)->zar s2 11= .d (.int .i64 ((y:Int) - 1))->(x=y\/at' m (y - 1)<v)->T3 (some (.exit 2,s2,[.arr 1 (ws wd m) 0])):=by
   intro s2 c0 c1 c10 c11 hy4;obtain⟨z,rfl⟩: ∃z,y=z+1:=⟨y - 1,by omega⟩
   have q0:((z+1:Nat):Int) - 1=z:=by omega
   rw[q0]at c11;rw[yaK]at hy4;have hzm:z<m.length:=by omega
   have gz:=get_at hzm;subst hT3
   by_cases hxy:x=z+1
   ·subst hxy
    have q1:(z:Int)<(z:Int)+1:=by omega
    obtain⟨w2,hw2⟩: ∃w,(m.set z (at' m a))[a]? =some w:=⟨_,yak (by rw[ya4];omega)⟩
    simp -dsimp -implicitDefEqProofs (disch:=first|omega|assumption) [c0,c1,c10,c11,q1,hzm,ham,gma,gz,hml,hw2,ws_set,-List.map_set]
    rw[<- hT0];exact fin m z true (by omega) ⟨hx1,yab _,hy2,ht,hva,hx3,hy3⟩
   ·have hz4:at' m z<v:=by omega
    have hx5:v<=at' m x:=by
     rcases hx4 with h | h
     ·omega
     ·exact h
    have hne:x≠z:=by
     intro e;rw[e]at hx5;omega
    have hxz:x<z:=by omega
    have q1: ¬ (z:Int)<x:=by omega
    have hxm:x<m.length:=by omega
    have gx:=get_at hxm;obtain⟨w2,hw2⟩: ∃w,(m.set x (at' m z))[z]? =some w:=⟨_,yak (by rw[ya4];omega)⟩
    have hP:PInv a b v l (x+1,z,swp m x z):=part_swap hb ⟨hx1,by simp only;omega,hy2,ht,hva,hx3,hy3⟩ hx5 (by omega) hxz
    simp -dsimp -implicitDefEqProofs (disch:=first|omega|assumption) [c0,c1,c10,c11,q1,hzm,hxm,gx,gz,hml,hw2,ws_set,-List.map_set]
    generalize hz:zad _ _ _ _ _ _=z;revert z;refine zaa (σ:=Nat × Nat × List Nat) (λx=>[(0,.arr 0 l.length),(1,.d (.int .i64 a)),(10,.d (.int .i64 x.1)),(11,.d (.int .i64 ((x.2.1:Int) - 1)))]) (λx=>[.arr 1 (ws wd x.2.2) 0]) (PInv a b v l) (λx=>x.2.1 - x.1) (x+1,z,swp m x z) ?_ ?_ ?_
    ·exact hP
    ·unfold swp
     simp -dsimp -implicitDefEqProofs (disch:=first|omega|assumption) [c0,c1,c10,c11,-List.map_set]
    clear hP hww hmu hm ht hva hml gma ham hx1 hx2 hx3 hx4 hx5 hy1 hy2 hy3 hy4 hz4 ih2 ih3 c0 c1 c10 c11 d0 d1 d10 d11 hzm hxm gx gz hw2 hne hxz q1 hxy q0;intro T' f hT' ⟨i,j,n⟩ ⟨hi,hij,hj,ht,hva,hlo,hhi⟩ ih;simp only at hi hij hj ht hva hlo hhi ih;have hnl:=ht.len;have gna:=get_at (l:=n) (i:=a) (by omega)
    have han:a<n.length:=by omega
    simp -dsimp -implicitDefEqProofs (disch:=first|omega|assumption)
    generalize hz:zad _ _ _ _ _ _=z;revert z;refine zaa (σ:=Nat) (λx=>[(0,.arr 0 l.length),(1,.d (.int .i64 a)),(10,.d (.int .i64 x)),(11,.d (.int .i64 ((j:Int) - 1)))]) (λx=>[.arr 1 (ws wd n) 0]) (λx=>i<=x/\x<=j/\ ∀p,a<p->p<x->at' n p<=v) (λx=>j - x) i ?_ ?_ ?_
    ·exact⟨yab _,hij,hlo⟩
    ·simp -dsimp -implicitDefEqProofs (disch:=first|omega|assumption)
    intro T4 f4 hT4 x ⟨hx1,hx2,hx3⟩ ih4;have out4: ∀s1:Slots,zar s1 0= .arr 0 l.length->zar s1 1= .d (.int .i64 a)->zar s1 10= .d (.int .i64 x)->zar s1 11= .d (.int .i64 ((j:Int) - 1))->(x=j\/v<=at' n x)->T4 (some (.exit 6,s1,[.arr 1 (ws wd n) 0])):=by
     intro s1 d0 d1 d10 d11 hx4;subst hT4;simp -dsimp -implicitDefEqProofs (disch:=first|omega|assumption) [d0,d1,d10,d11]
     generalize hz:zad _ _ _ _ _ _=z;revert z;refine zaa (σ:=Nat) (λy=>[(0,.arr 0 l.length),(1,.d (.int .i64 a)),(10,.d (.int .i64 x)),(11,.d (.int .i64 ((y:Int) - 1)))]) (λy=>[.arr 1 (ws wd n) 0]) (λy=>x<=y/\y<=j/\ ∀p,y<=p->p<b->v<=at' n p) (λy=>y) j ?_ ?_ ?_
     ·exact⟨hx2,yab _,hhi⟩
     ·simp -dsimp -implicitDefEqProofs (disch:=first|omega|assumption) [d0,d1,d10,d11]
     intro T5 f5 hT5 y ⟨hy1,hy2,hy3⟩ ih5;have out5: ∀s2:Slots,zar s2 0= .arr 0 l.length->zar s2 1= .d (.int .i64 a)->zar s2 10= .d (.int .i64 x)->zar s2 11= .d (.int .i64 ((y:Int) - 1))->(x=y\/at' n (y - 1)<v)->T5 (some (.exit 8,s2,[.arr 1 (ws wd n) 0])):=by
      intro s2 c0 c1 c10 c11 hy4;obtain⟨z,rfl⟩: ∃z,y=z+1:=⟨y - 1,by omega⟩
      have q0:((z+1:Nat):Int) - 1=z:=by omega
      rw[q0]at c11;rw[yaK]at hy4;have hzn:z<n.length:=by omega
      have gz:=get_at hzn;subst hT5
      by_cases hxy:x=z+1
      ·subst hxy
       have q1:(z:Int)<(z:Int)+1:=by omega
       obtain⟨w2,hw2⟩: ∃w,(n.set z (at' n a))[a]? =some w:=⟨_,yak (by rw[ya4];omega)⟩
       subst hT';simp -dsimp -implicitDefEqProofs (disch:=first|omega|assumption) [c0,c1,c10,c11,q1,hzn,han,gna,gz,hnl,hw2,ws_set,-List.map_set]
       rw[<- hT0];exact fin n z false (by omega) ⟨by simp only;omega,yab _,by simp only;omega,ht,hva,hx3,hy3⟩
      ·have hz4:at' n z<v:=by omega
       have hx5:v<=at' n x:=by
        rcases hx4 with h | h
        ·omega
        ·exact h
       have hne:x≠z:=by
        intro e;rw[e]at hx5;omega
       have hxz:x<z:=by omega
       have q1: ¬ (z:Int)<x:=by omega
       have hxn:x<n.length:=by omega
       have gx:=get_at hxn;obtain⟨w2,hw2⟩: ∃w,(n.set x (at' n z))[z]? =some w:=⟨_,yak (by rw[ya4];omega)⟩
       have hP:PInv a b v l (x+1,z,swp n x z):=part_swap hb ⟨by simp only;omega,by simp only;omega,by simp only;omega,ht,hva,hx3,hy3⟩ hx5 (by omega) hxz
       simp -dsimp -implicitDefEqProofs (disch:=first|omega|assumption) [c0,c1,c10,c11,q1,hzn,hxn,gx,gz,hnl,hw2,ws_set,-List.map_set]
       refine ih (x+1,z,swp n x z) _ _ hP (by simp only;omega) ?_
       unfold swp;simp -dsimp -implicitDefEqProofs (disch:=first|omega|assumption) [c0,c1,c10,c11,-List.map_set]
     by_cases r1:x<y
     ·obtain⟨z,rfl⟩: ∃z,y=z+1:=⟨y - 1,by omega⟩
      have q0:((z+1:Nat):Int) - 1=z:=by omega
      have q1:(x:Int)<=z:=by omega
      have q1':x<=z:=by omega
      have hzn:z<n.length:=by omega
      have gz:=get_at hzn;rw[yaK]at out5;rw[q0]at out5
      by_cases r2:at' n z<v
      ·simp -dsimp -implicitDefEqProofs (disch:=first|omega|assumption) [q0,q1,q1',hnl,han,gna,hva,hzn,gz,r2,less_runs hwd]
       exact out5 _ (by simp) (by simp) (by simp) (by simp) (.inr r2)
      ·simp -dsimp -implicitDefEqProofs (disch:=first|omega|assumption) [q0,q1,q1',hnl,han,gna,hva,hzn,gz,r2,less_runs hwd]
       refine ih5 z _ _ ⟨by omega,by omega,λp p1 p2=> ?_⟩ (by omega) (by simp -dsimp -implicitDefEqProofs (disch:=first|omega|assumption))
       by_cases c:p=z
       ·subst c;omega
       ·exact hy3 p (by omega) p2
     ·have q1: ¬ (x:Int)<=(y:Int) - 1:=by omega
      simp -dsimp -implicitDefEqProofs (disch:=first|omega|assumption) [q1]
      exact out5 _ (by simp) (by simp) (by simp) (by simp) (.inl (by omega))
    by_cases r1:x<j
    ·have q1:(x:Int)<=(j:Int) - 1:=by omega
     have hxn:x<n.length:=by omega
     have gx:=get_at hxn
     by_cases r2:at' n x<v
     ·simp -dsimp -implicitDefEqProofs (disch:=first|omega|assumption) [q1,hnl,han,gna,hva,hxn,gx,r2,less_runs hwd]
      refine ih4 (x+1) _ _ ⟨by omega,r1,λp p1 p2=> ?_⟩ (by omega) (by simp -dsimp -implicitDefEqProofs (disch:=first|omega|assumption))
      by_cases c:p=x
      ·subst c;omega
      ·exact hx3 p p1 (by omega)
     ·simp -dsimp -implicitDefEqProofs (disch:=first|omega|assumption) [q1,hnl,han,gna,hva,hxn,gx,r2,less_runs hwd]
      exact out4 _ (by simp) (by simp) (by simp) (by simp) (.inr (by omega))
    ·have q1: ¬ (x:Int)<=(j:Int) - 1:=by omega
     simp -dsimp -implicitDefEqProofs (disch:=first|omega|assumption) [q1]
     exact out4 _ (by simp) (by simp) (by simp) (by simp) (.inl (by omega))
  by_cases r1:x<y
  ·obtain⟨z,rfl⟩: ∃z,y=z+1:=⟨y - 1,by omega⟩
   have q0:((z+1:Nat):Int) - 1=z:=by omega
   have q1:(x:Int)<=z:=by omega
   have q1':x<=z:=by omega
   have hzm:z<m.length:=by omega
   have gz:=get_at hzm;rw[yaK]at out2;rw[q0]at out2
   by_cases r2:at' m z<v
   ·simp -dsimp -implicitDefEqProofs (disch:=first|omega|assumption) [q0,q1,q1',hml,ham,gma,hva,hzm,gz,r2,less_runs hwd]
    exact out2 _ (by simp) (by simp) (by simp) (by simp) (.inr r2)
   ·simp -dsimp -implicitDefEqProofs (disch:=first|omega|assumption) [q0,q1,q1',hml,ham,gma,hva,hzm,gz,r2,less_runs hwd]
    refine ih3 z _ _ ⟨by omega,by omega,λp p1 p2=> ?_⟩ (by omega) (by simp -dsimp -implicitDefEqProofs (disch:=first|omega|assumption))
    by_cases c:p=z
    ·subst c;omega
    ·exact hy3 p (by omega) p2
  ·have q1: ¬ (x:Int)<=(y:Int) - 1:=by omega
   simp -dsimp -implicitDefEqProofs (disch:=first|omega|assumption) [q1]
   exact out2 _ (by simp) (by simp) (by simp) (by simp) (.inl (by omega))
 by_cases r1:x<b
 ·have q1:(x:Int)<=(b:Int) - 1:=by omega
  have hxm:x<m.length:=by omega
  have gx:=get_at hxm
  by_cases r2:at' m x<v
  ·simp -dsimp -implicitDefEqProofs (disch:=first|omega|assumption) [q1,hml,ham,gma,hva,hxm,gx,r2,less_runs hwd]
   refine ih2 (x+1) _ _ ⟨by omega,r1,λp p1 p2=> ?_⟩ (by omega) (by simp -dsimp -implicitDefEqProofs (disch:=first|omega|assumption))
   by_cases c:p=x
   ·subst c;omega
   ·exact hx3 p p1 (by omega)
  ·simp -dsimp -implicitDefEqProofs (disch:=first|omega|assumption) [q1,hml,ham,gma,hva,hxm,gx,r2,less_runs hwd]
   exact out _ (by simp) (by simp) (by simp) (by simp) (.inr (by omega))
 ·have q1: ¬ (x:Int)<=(b:Int) - 1:=by omega
  simp -dsimp -implicitDefEqProofs (disch:=first|omega|assumption) [q1]
  exact out _ (by simp) (by simp) (by simp) (by simp) (.inl (by omega))
end Go.Am.Ab.Str
namespace Go.Am.Ab.Str
open Go.Proofs
set_option maxHeartbeats 4000000
def EndsIf (wd:Nat->ByteArray) (p:Bool->List Nat->Prop) (r:Option (List V × List Obj)):Prop:= ∃f l',r=some ([.d (.bool f)],[.arr 1 (ws wd l') 0])/\p f l'
def not_endsIf {wd:Nat->ByteArray} {p:Bool->List Nat->Prop}: ¬ EndsIf wd p none:=λ⟨_,_,h,_⟩=>by cases h
def Above (a b:Nat) (l:List Nat):Prop:=a=0\/ ∀p,a<=p->p<b->at' l (a - 1)<=at' l p
def Above.turn {a b:Nat} {l l':List Nat} (h:Above a b l) (ht:Turn a b l l') (hb:b<=l.length):Above a b l':=by
 rcases h with h | h
 ·exact .inl h
 ·by_cases ha:a=0
  ·exact .inl ha
  ·refine .inr λp p1 p2=> ?_
   rw[ht.out (a - 1) (by omega)]
   exact ht.all hb (p:=λx=>at' l (a - 1)<=x) h p p1 p2
def partial_runs {wd:Nat->ByteArray} (hwd:Mono wd) (l:List Nat) (a b:Nat) (hab:a+13<=b) (hb:b<=l.length) (hn:l.length<=256) (hA:Above a b l):
 EndsIf wd (λf l'=>Turn a b l l'/\(f=true->Asc a b l')) (R 190 [.arr 0 l.length,.d (.int .i64 a),.d (.int .i64 b)] [.arr 1 (ws wd l) 0]):=by
 refine ra zGH rfl not_endsIf ?_;simp -dsimp -implicitDefEqProofs (disch:=first|omega|assumption)
 generalize hT0:EndsIf wd _=T0;generalize hz:zad _ _ _ _ _ _=z;revert z;refine zaa (σ:=Nat × Nat × List Nat) (λx=>[(0,.arr 0 l.length),(1,.d (.int .i64 a)),(2,.d (.int .i64 b)),(7,.d (.int .i64 x.1)),(8,.d (.int .i64 x.2.1))]) (λx=>[.arr 1 (ws wd x.2.2) 0]) (λx=>a+1<=x.1/\x.1<=b/\x.2.1<=5/\Turn a b l x.2.2/\Asc a x.1 x.2.2) (λx=>5 - x.2.1) (a+1,0,l) ?_ ?_ ?_
 ·exact⟨yab _,by simp only;omega,by simp only;omega,Turn.refl _ _ _,λi j h1 h2 h3=>by simp only at h3;omega⟩
 ·simp -dsimp -implicitDefEqProofs (disch:=first|omega|assumption)
 intro T' f hT' ⟨i,jj,m⟩ ⟨hi1,hi2,hj,ht,hs⟩ ih;simp only at hi1 hi2 hj ht hs ih;have hml:=ht.len
 by_cases hj5:jj<5
 ·have hj5':(jj:Int)<5:=by omega
  simp -dsimp -implicitDefEqProofs (disch:=first|omega|assumption) [hj5']
  generalize hz:zad _ _ _ _ _ _=z;revert z;refine zaa (σ:=Nat) (λx=>[(0,.arr 0 l.length),(1,.d (.int .i64 a)),(2,.d (.int .i64 b)),(7,.d (.int .i64 x)),(8,.d (.int .i64 jj))]) (λx=>[.arr 1 (ws wd m) 0]) (λx=>i<=x/\x<=b/\Asc a x m) (λx=>b - x) i ?_ ?_ ?_
  ·exact⟨yab _,hi2,hs⟩
  ·simp -dsimp -implicitDefEqProofs (disch:=first|omega|assumption)
  intro T2 f2 hT2 x ⟨hx1,hx2,hx3⟩ ih2
  by_cases hxb:x=b
  ·subst hxb
   subst hT2;subst hT';simp -dsimp -implicitDefEqProofs (disch:=first|omega|assumption)
   rw[<- hT0];exact⟨true,m,rfl,ht,λ_=>hx3⟩
  ·have hxb':x<b:=by omega
   obtain⟨w,hw⟩: ∃w,x=w+1:=⟨x - 1,by omega⟩
   have q0:(x:Int) - 1=w:=by omega
   have hw1:x<m.length:=by omega
   have hw0:w<m.length:=by omega
   have gw1:=get_at hw1;have gw0:=get_at hw0
   by_cases r1:at' m x<at' m w
   ·have hne: ¬ (x:Int)=b:=by omega
    have hne': ¬ (w:Int)+1=b:=by omega
    by_cases c50:b<a+50
    ·have c50':(b:Int) - a<50:=by omega
     subst hT2;subst hT';simp -dsimp -implicitDefEqProofs (disch:=first|omega|assumption) [hxb',q0,hw1,hw0,gw1,gw0,hml,r1,less_runs hwd,hne,c50']
     rw[<- hT0];exact⟨false,m,rfl,ht,λh=>by cases h⟩
    ·have c50': ¬ (b:Int) - a<50:=by omega
     obtain⟨m1,hm1⟩: ∃m1,m1=swp m x w:=⟨_,rfl⟩;have hmu:=hm1;unfold swp at hmu;have hat: ∀y,at' m1 y=if y=w then at' m x else if y=x then at' m w else at' m y:=λy=>by rw[hm1];exact at_swp hw1 hw0 y
     have ht1:Turn a b l m1:=by rw[hm1];exact ht.trans (turn_swp (by omega) (by omega) (by omega))
     have hm1l:=ht1.len;have hA1:Above a b m1:=hA.turn ht1 hb;subst hT2
     by_cases c1:a+2<=x
     ·have c1':(2:Int)<=(x:Int) - a:=by omega
      simp -dsimp -implicitDefEqProofs (disch:=first|omega|assumption) [hxb',q0,hw1,hw0,gw1,gw0,hml,r1,less_runs hwd,hne,c50',c1',ws_set,hmu.symm,-List.map_set]
      generalize hz:zad _ _ _ _ _ _=z;revert z;refine zaa (σ:=Nat × List Nat) (λy=>[(0,.arr 0 l.length),(1,.d (.int .i64 a)),(2,.d (.int .i64 b)),(7,.d (.int .i64 x)),(8,.d (.int .i64 jj)),(9,.d (.int .i64 y.1))]) (λy=>[.arr 1 (ws wd y.2) 0]) (λy=>a<=y.1/\y.1<=w/\Turn a b l y.2/\(∀p q,a<=p->p<q->q<=w->p≠y.1->q≠y.1->at' y.2 p<=at' y.2 q)/\ ∀q,y.1<q->q<=w->at' y.2 y.1<=at' y.2 q) (λy=>y.1) (w,m1) ?_ ?_ ?_
      ·refine⟨by simp only;omega,yab _,ht1,λp q p1 p2 p3 p4 p5=> ?_,λq p1 p2=>by simp only at p1;omega⟩
       simp only at p4 p5 ⊢;rw[hat,hat,yae p4,yae p5,yae (by omega),yae (by omega)]
       exact hx3 p q p1 p2 (by omega)
      ·simp -dsimp -implicitDefEqProofs (disch:=first|omega|assumption) [hmu,-List.map_set]
      intro T4 f4 hT4 ⟨j4,n4⟩ ⟨e1,e2,e3,e4,e5⟩ ih4;simp only at e1 e2 e3 e4 e5 ih4;have hn4:=e3.len;have hA4:Above a b n4:=hA.turn e3 hb;have out4: ∀s3:Slots,zar s3 0= .arr 0 l.length->zar s3 1= .d (.int .i64 a)->zar s3 2= .d (.int .i64 b)->zar s3 7= .d (.int .i64 (x:Int))->zar s3 8= .d (.int .i64 jj)->Asc a x n4->T4 (some (.exit 4,s3,[.arr 1 (ws wd n4) 0])):=by
       intro s3 k0 k1 k2 k7 k8 hA5;subst hT4
       by_cases c2:x+2<=b
       ·have c2':(2:Int)<=(b:Int) - x:=by omega
        simp -dsimp -implicitDefEqProofs (disch:=first|omega|assumption) [c2',k0,k1,k2,k7,k8]
        generalize hz:zad _ _ _ _ _ _=z;revert z;refine zaa (σ:=Nat × List Nat) (λy=>[(0,.arr 0 l.length),(1,.d (.int .i64 a)),(2,.d (.int .i64 b)),(7,.d (.int .i64 x)),(8,.d (.int .i64 jj)),(10,.d (.int .i64 y.1))]) (λy=>[.arr 1 (ws wd y.2) 0]) (λy=>x+1<=y.1/\y.1<=b/\Turn a b l y.2/\Asc a x y.2) (λy=>b - y.1) (x+1,n4) ?_ ?_ ?_
        ·exact⟨yab _,by simp only;omega,e3,hA5⟩
        ·simp -dsimp -implicitDefEqProofs (disch:=first|omega|assumption) [k0,k1,k2,k7,k8,-List.map_set]
        intro T6 f6 hT6 ⟨j6,n6⟩ ⟨e1,e2,e3,e4⟩ ih6;simp only at e1 e2 e3 e4 ih6;have hn6:=e3.len;have out6: ∀s3:Slots,zar s3 0= .arr 0 l.length->zar s3 1= .d (.int .i64 a)->zar s3 2= .d (.int .i64 b)->zar s3 7= .d (.int .i64 x)->zar s3 8= .d (.int .i64 jj)->T6 (some (.exit 6,s3,[.arr 1 (ws wd n6) 0])):=by
         intro s3 k0 k1 k2 k7 k8;subst hT6;simp -dsimp -implicitDefEqProofs (disch:=first|omega|assumption) [k0,k1,k2,k7,k8]
         exact ih (x,jj+1,n6) _ _ ⟨by simp only;omega,by simp only;omega,by simp only;omega,e3,e4⟩ (by simp only;omega) (by simp -dsimp -implicitDefEqProofs (disch:=first|omega|assumption) [k0,k1,k2,k7,k8])
        by_cases r6:j6<b
        ·obtain⟨k,rfl⟩: ∃k,j6=k+1:=⟨j6 - 1,by omega⟩
         have q0:((k+1:Nat):Int) - 1=k:=by omega
         have r6':(k:Int)+1<b:=by omega
         have hk1:k+1<n6.length:=by omega
         have hk0:k<n6.length:=by omega
         have g1:=get_at hk1;have g0:=get_at hk0
         by_cases r7:at' n6 (k+1)<at' n6 k
         ·have hat: ∀x,at' (swp n6 (k+1) k) x=if x=k then at' n6 (k+1) else if x=k+1 then at' n6 k else at' n6 x:=λx=>at_swp hk1 hk0 x
          simp -dsimp -implicitDefEqProofs (disch:=first|omega|assumption) [r6',q0,hk1,hk0,g1,g0,hn6,r7,less_runs hwd,ws_set,-List.map_set]
          refine ih6 (k+1+1,swp n6 (k+1) k) _ _ ⟨by simp only;omega,by simp only;omega,e3.trans (turn_swp (by omega) (by omega) (by omega)), ?_⟩ (by simp only;omega) ?_
          ·intro p q p1 p2 p3
           simp only;rw[hat,hat,yae (by omega),yae (by omega),yae (by omega),yae (by omega)]
           exact e4 p q p1 p2 p3
          ·unfold swp
           simp -dsimp -implicitDefEqProofs (disch:=first|omega|assumption) [-List.map_set]
         ·simp -dsimp -implicitDefEqProofs (disch:=first|omega|assumption) [r6',q0,hk1,hk0,g1,g0,hn6,r7,less_runs hwd]
          exact out6 _ (by simp) (by simp) (by simp) (by simp) (by simp)
        ·obtain rfl:j6=b:=by omega
         simp -dsimp -implicitDefEqProofs (disch:=first|omega|assumption)
         exact out6 _ (by simp) (by simp) (by simp) (by simp) (by simp)
       ·have c2': ¬ (2:Int)<=(b:Int) - x:=by omega
        simp -dsimp -implicitDefEqProofs (disch:=first|omega|assumption) [c2',k0,k1,k2,k7,k8]
        refine ih (x,jj+1,n4) _ _ ⟨by simp only;omega,by simp only;omega,by simp only;omega,e3,hA5⟩ (by simp only;omega) ?_
        simp -dsimp -implicitDefEqProofs (disch:=first|omega|assumption) [k0,k1,k2,k7,k8,-List.map_set]
      have fin4:(∀p,a<=p->p<j4->at' n4 p<=at' n4 j4)->Asc a x n4:=by
       intro hp p q p1 p2 p3
       by_cases d1:p=j4
       ·subst d1;exact e5 q p2 (by omega)
       ·by_cases d2:q=j4
        ·subst d2;exact hp p p1 p2
        ·exact e4 p q p1 p2 (by omega) d1 d2
      by_cases z0:j4=0
      ·subst z0
       simp -dsimp -implicitDefEqProofs (disch:=first|omega|assumption)
       exact out4 _ (by simp) (by simp) (by simp) (by simp) (by simp) (fin4 λp p1 p2=>by omega)
      ·obtain⟨k,rfl⟩: ∃k,j4=k+1:=⟨j4 - 1,by omega⟩
       have z1:(1:Int)<=(k:Int)+1:=by omega
       have q1:((k+1:Nat):Int) - 1=k:=by omega
       have hk1:k+1<n4.length:=by omega
       have hk0:k<n4.length:=by omega
       have g1:=get_at hk1;have g0:=get_at hk0
       by_cases r2:at' n4 (k+1)<at' n4 k
       ·have hak:a<=k:=by
         apply ydb;intro h;rcases hA4 with h' | h'
         ·omega
         ·have:=h' (k+1) e1 (by omega)
          rw[show a - 1=k by omega]at this
          omega
        have hat4: ∀x,at' (swp n4 (k+1) k) x=if x=k then at' n4 (k+1) else if x=k+1 then at' n4 k else at' n4 x:=λx=>at_swp hk1 hk0 x
        simp -dsimp -implicitDefEqProofs (disch:=first|omega|assumption) [z1,q1,hk1,hk0,g1,g0,hn4,r2,less_runs hwd,ws_set,-List.map_set]
        refine ih4 (k,swp n4 (k+1) k) _ _ ⟨hak,by simp only;omega,e3.trans (turn_swp (by omega) (by omega) (by omega)), ?_, ?_⟩ (by simp only;omega) ?_
        ·intro p q p1 p2 p3 p4 p5
         simp only at p4 p5 ⊢;rw[hat4,hat4,yae p4,yae p5]
         by_cases d1:p=k+1
         ·rw[yah d1,yae (by omega)]
          exact e4 k q (by omega) (by omega) p3 (by omega) (by omega)
         ·rw[yae d1]
          by_cases d2:q=k+1
          ·rw[yah d2]
           exact e4 p k p1 (by omega) (by omega) (by omega) (by omega)
          ·rw[yae d2]
           exact e4 p q p1 p2 p3 d1 d2
        ·intro q p1 p2
         simp only at p1 ⊢;rw[hat4,hat4,yah rfl,yae (by omega)]
         by_cases d1:q=k+1
         ·rw[yah d1];omega
         ·rw[yae d1];exact e5 q (by omega) p2
        ·unfold swp
         simp -dsimp -implicitDefEqProofs (disch:=first|omega|assumption) [-List.map_set]
       ·simp -dsimp -implicitDefEqProofs (disch:=first|omega|assumption) [z1,q1,hk1,hk0,g1,g0,hn4,r2,less_runs hwd]
        refine out4 _ (by simp) (by simp) (by simp) (by simp) (by simp) (fin4 λp p1 p2=> ?_)
        by_cases d1:p=k
        ·subst d1;omega
        ·have:=e4 p k p1 (by omega) (by omega) (by omega) (by omega)
         omega
     ·have c1': ¬ (2:Int)<=(x:Int) - a:=by omega
      have hA5:Asc a x m1:=λp q p1 p2 p3=>by omega
      by_cases c2:x+2<=b
      ·have c2':(2:Int)<=(b:Int) - x:=by omega
       simp -dsimp -implicitDefEqProofs (disch:=first|omega|assumption) [c2',hxb',q0,hw1,hw0,gw1,gw0,hml,r1,less_runs hwd,hne,c50',c1',ws_set,hmu.symm,-List.map_set]
       generalize hz:zad _ _ _ _ _ _=z;revert z;refine zaa (σ:=Nat × List Nat) (λy=>[(0,.arr 0 l.length),(1,.d (.int .i64 a)),(2,.d (.int .i64 b)),(7,.d (.int .i64 x)),(8,.d (.int .i64 jj)),(10,.d (.int .i64 y.1))]) (λy=>[.arr 1 (ws wd y.2) 0]) (λy=>x+1<=y.1/\y.1<=b/\Turn a b l y.2/\Asc a x y.2) (λy=>b - y.1) (x+1,m1) ?_ ?_ ?_
       ·exact⟨yab _,by simp only;omega,ht1,hA5⟩
       ·simp -dsimp -implicitDefEqProofs (disch:=first|omega|assumption) [hxb',q0,hw1,hw0,gw1,gw0,hml,r1,less_runs hwd,hne,c50',c1',ws_set,hmu.symm,-List.map_set]
       intro T6 f6 hT6 ⟨j6,n6⟩ ⟨e1,e2,e3,e4⟩ ih6;simp only at e1 e2 e3 e4 ih6;have hn6:=e3.len;have out6: ∀s3:Slots,zar s3 0= .arr 0 l.length->zar s3 1= .d (.int .i64 a)->zar s3 2= .d (.int .i64 b)->zar s3 7= .d (.int .i64 x)->zar s3 8= .d (.int .i64 jj)->T6 (some (.exit 6,s3,[.arr 1 (ws wd n6) 0])):=by
        intro s3 k0 k1 k2 k7 k8;subst hT6;simp -dsimp -implicitDefEqProofs (disch:=first|omega|assumption) [k0,k1,k2,k7,k8]
        exact ih (x,jj+1,n6) _ _ ⟨by simp only;omega,by simp only;omega,by simp only;omega,e3,e4⟩ (by simp only;omega) (by simp -dsimp -implicitDefEqProofs (disch:=first|omega|assumption) [k0,k1,k2,k7,k8])
       by_cases r6:j6<b
       ·obtain⟨k,rfl⟩: ∃k,j6=k+1:=⟨j6 - 1,by omega⟩
        have q0:((k+1:Nat):Int) - 1=k:=by omega
        have r6':(k:Int)+1<b:=by omega
        have hk1:k+1<n6.length:=by omega
        have hk0:k<n6.length:=by omega
        have g1:=get_at hk1;have g0:=get_at hk0
        by_cases r7:at' n6 (k+1)<at' n6 k
        ·have hat: ∀x,at' (swp n6 (k+1) k) x=if x=k then at' n6 (k+1) else if x=k+1 then at' n6 k else at' n6 x:=λx=>at_swp hk1 hk0 x
         simp -dsimp -implicitDefEqProofs (disch:=first|omega|assumption) [r6',q0,hk1,hk0,g1,g0,hn6,r7,less_runs hwd,ws_set,-List.map_set]
         refine ih6 (k+1+1,swp n6 (k+1) k) _ _ ⟨by simp only;omega,by simp only;omega,e3.trans (turn_swp (by omega) (by omega) (by omega)), ?_⟩ (by simp only;omega) ?_
         ·intro p q p1 p2 p3
          simp only;rw[hat,hat,yae (by omega),yae (by omega),yae (by omega),yae (by omega)]
          exact e4 p q p1 p2 p3
         ·unfold swp
          simp -dsimp -implicitDefEqProofs (disch:=first|omega|assumption) [-List.map_set]
        ·simp -dsimp -implicitDefEqProofs (disch:=first|omega|assumption) [r6',q0,hk1,hk0,g1,g0,hn6,r7,less_runs hwd]
         exact out6 _ (by simp) (by simp) (by simp) (by simp) (by simp)
       ·obtain rfl:j6=b:=by omega
        simp -dsimp -implicitDefEqProofs (disch:=first|omega|assumption)
        exact out6 _ (by simp) (by simp) (by simp) (by simp) (by simp)
      ·have c2': ¬ (2:Int)<=(b:Int) - x:=by omega
       simp -dsimp -implicitDefEqProofs (disch:=first|omega|assumption) [c2',hxb',q0,hw1,hw0,gw1,gw0,hml,r1,less_runs hwd,hne,c50',c1',ws_set,hmu.symm,-List.map_set]
       refine ih (x,jj+1,m1) _ _ ⟨by simp only;omega,by simp only;omega,by simp only;omega,ht1,hA5⟩ (by simp only;omega) ?_
       simp -dsimp -implicitDefEqProofs (disch:=first|omega|assumption) [hxb',q0,hw1,hw0,gw1,gw0,hml,r1,less_runs hwd,hne,c50',c1',ws_set,hmu.symm,-List.map_set]
   ·simp -dsimp -implicitDefEqProofs (disch:=first|omega|assumption) [hxb',q0,hw1,hw0,gw1,gw0,hml,r1,less_runs hwd]
    refine ih2 (x+1) _ _ ⟨by omega,hxb', ?_⟩ (by omega) (by simp -dsimp -implicitDefEqProofs (disch:=first|omega|assumption))
    intro p q p1 p2 p3
    by_cases d1:q=x
    ·rw[d1]
     by_cases d2:p=w
     ·rw[d2];omega
     ·have:=hx3 p w p1 (by omega) (by omega)
      omega
    ·exact hx3 p q p1 p2 (by omega)
 ·obtain rfl:jj=5:=by omega
  subst hT';simp -dsimp -implicitDefEqProofs (disch:=first|omega|assumption)
  rw[<- hT0];exact⟨false,m,rfl,ht,λh=>by cases h⟩
end Go.Am.Ab.Str
namespace Go.Am.Ab.Str
open Go.Proofs
set_option maxHeartbeats 4000000
def Out (a b c d:Nat) (l:List Nat):Prop:= ∀i j,a<=i->i<j->j<b->(i<c\/d<=j)->at' l i<=at' l j
def Out.turn {a b c d:Nat} {l l':List Nat} (h:Out a b c d l) (ht:Turn c d l l') (hac:a<=c) (hcd:c<=d) (hdb:d<=b) (hb:b<=l.length):Out a b c d l':=by
 intro i j h1 h2 h3 h4;rcases h4 with h4 | h4
 ·rw[ht.out i (.inl h4)]
  by_cases c1:j<c\/d<=j
  ·rw[ht.out j c1];exact h i j h1 h2 h3 (.inl h4)
  ·exact ht.all (by omega) (p:=λx=>at' l i<=x) (λk k1 k2=>h i k h1 (by omega) (by omega) (.inl h4)) j (by omega) (by omega)
 ·rw[ht.out j (.inr h4)]
  by_cases c1:i<c\/d<=i
  ·rw[ht.out i c1];exact h i j h1 h2 h3 (.inr h4)
  ·exact ht.all (by omega) (p:=λx=>x<=at' l j) (λk k1 k2=>h k j (by omega) (by omega) (by omega) (.inr h4)) i (by omega) (by omega)
def Out.asc {a b c d:Nat} {l:List Nat} (h:Out a b c d l) (hs:Asc c d l):Asc a b l:=by
 intro i j h1 h2 h3
 by_cases c1:i<c\/d<=j
 ·exact h i j h1 h2 h3 c1
 ·exact hs i j (by omega) h2 (by omega)
def Above.inner {a b c d:Nat} {l:List Nat} (h:Above a b l) (ho:Out a b c d l) (hac:a<=c) (hdb:d<=b):Above c d l:=by
 by_cases e:a=c
 ·subst e
  rcases h with h | h
  ·exact .inl h
  ·exact .inr λp p1 p2=>h p p1 (by omega)
 ·exact .inr λp p1 p2=>ho (c - 1) p (by omega) (by omega) (by omega) (.inl (by omega))
def part_left {c d mid:Nat} {m m':List Nat} (h1:c<=mid) (h2:mid<d) (hl:d<=m.length) (lo: ∀p,c<=p->p<mid->at' m p<=at' m mid) (hi: ∀p,mid<p->p<d->at' m mid<=at' m p) (ht:Turn c mid m m') (hs:Asc c mid m'):
 ∀p q,c<=p->p<q->q<d->(p<mid+1\/d<=q)->at' m' p<=at' m' q:=by
 intro p q p1 p2 p3 p4;have hm:=ht.out mid (.inr (yab _))
 by_cases c1:q<mid
 ·exact hs p q p1 p2 c1
 ·rw[ht.out q (.inr (by omega))]
  have hq:at' m mid<=at' m q:=by
   by_cases e:q=mid
   ·rw[e];exact yab _
   ·exact hi q (by omega) p3
  by_cases e:p=mid
  ·rw[e,hm];exact hq
  ·exact ya5 (ht.all (by omega) (p:=λx=>x<=at' m mid) lo p p1 (by omega)) hq
def part_right {c d mid:Nat} {m m':List Nat} (h1:c<=mid) (h2:mid<d) (hl:d<=m.length) (lo: ∀p,c<=p->p<mid->at' m p<=at' m mid) (hi: ∀p,mid<p->p<d->at' m mid<=at' m p) (ht:Turn (mid+1) d m m') (hs:Asc (mid+1) d m'):
 ∀p q,c<=p->p<q->q<d->(p<c\/mid<=q)->at' m' p<=at' m' q:=by
 intro p q p1 p2 p3 p4
 by_cases c1:mid<p
 ·exact hs p q (by omega) p2 p3
 ·rw[ht.out p (.inl (by omega))]
  have hp:at' m p<=at' m mid:=by
   by_cases e:p=mid
   ·rw[e];exact yab _
   ·exact lo p p1 (by omega)
  refine ya5 hp ?_
  by_cases e:q=mid
  ·rw[e,ht.out mid (.inl (by omega))];exact yab _
  ·exact ht.all (by omega) (p:=λx=>at' m mid<=x) (λk k1 k2=>hi k (by omega) k2) q (by omega) p3
def PS (n a b lm:Nat) (wb wp:Bool) (s:Slots):Prop:=zar s 0= .arr 0 n/\zar s 1= .d (.int .i64 a)/\zar s 2= .d (.int .i64 b)/\zar s 3= .d (.int .i64 lm)/\zar s 8= .d (.bool wb)/\zar s 9= .d (.bool wp)/\zar s 10= .d (.int .i64 ((b:Int) - a))
def Q1 (wd:Nat->ByteArray) (n a b:Nat) (wb wp:Bool) (m:List Nat) (z:Res):Prop:= ∃s m1 lm,z=some (.normal,s,[.arr 1 (ws wd m1) 0])/\PS n a b lm wb wp s/\Turn a b m m1/\lm<=100
def Q2 (wd:Nat->ByteArray) (n a b lm:Nat) (wb wp:Bool) (m:List Nat) (z:Res):Prop:= ∃ (s:Slots) (m1:List Nat) (x:Nat) (h:Int),z=some (.normal,s,[.arr 1 (ws wd m1) 0])/\PS n a b lm wb wp s/\zar s 11= .d (.int .i64 x)/\zar s 12= .d (.int .i64 h)/\Turn a b m m1/\a<=x/\x<b
def Q3 (wd:Nat->ByteArray) (n a b lm x:Nat) (wb wp c:Bool) (m:List Nat) (z:Res):Prop:= ∃s,z=some (.normal,s,[.arr 1 (ws wd m) 0])/\PS n a b lm wb wp s/\zar s 11= .d (.int .i64 x)/\zar s 68= .d (.bool c)
def Q4 (wd:Nat->ByteArray) (n a b lm x:Nat) (wb wp:Bool) (m:List Nat) (z:Res):Prop:=(∃s m1,z=some (.normal,s,[.arr 1 (ws wd m1) 0])/\PS n a b lm wb wp s/\zar s 11= .d (.int .i64 x)/\Turn a b m m1)\/ ∃s m1,z=some (.ret,s,[.arr 1 (ws wd m1) 0])/\Turn a b m m1/\Asc a b m1
def pdq_runs {wd:Nat->ByteArray} (hwd:Mono wd) (k:Nat): ∀ (l:List Nat) (a b lim:Nat),b - a=k->a<=b->b<=l.length->l.length<=256->lim<=100->Above a b l->
 Ends wd (λl'=>Turn a b l l'/\Asc a b l') (R 164 [.arr 0 l.length,.d (.int .i64 a),.d (.int .i64 b),.d (.int .i64 lim)] [.arr 1 (ws wd l) 0]):=by
 induction k using Nat.strongRecOn with
 |_ k IH=>
 intro l a b lim hk hab hb hn hlim hA;refine ra zGr rfl not_ends ?_;simp -dsimp -implicitDefEqProofs (disch:=first|omega|assumption)
 generalize hT0:Ends wd _=T0;generalize hz:zad _ _ _ _ _ _=z;revert z;refine zaa (σ:=Nat × Nat × Nat × Bool × Bool × List Nat) (λx=>[(0,.arr 0 l.length),(1,.d (.int .i64 x.1)),(2,.d (.int .i64 x.2.1)),(3,.d (.int .i64 x.2.2.1)),(8,.d (.bool x.2.2.2.1)),(9,.d (.bool x.2.2.2.2.1))]) (λx=>[.arr 1 (ws wd x.2.2.2.2.2) 0]) (λx=>a<=x.1/\x.1<=x.2.1/\x.2.1<=b/\x.2.2.1<=100/\Turn a b l x.2.2.2.2.2/\Out a b x.1 x.2.1 x.2.2.2.2.2) (λx=>x.2.1 - x.1) (a,b,lim,true,true,l) ?_ ?_ ?_
 ·exact⟨yab _,hab,yab _,hlim,Turn.refl _ _ _,λi j h1 h2 h3 h4=>by simp only at h4;omega⟩
 ·simp -dsimp -implicitDefEqProofs (disch:=first|omega|assumption)
 intro T' f hT' ⟨c,d,lm,wb,wp,m⟩ ⟨hac,hcd,hdb,hlm,ht,ho⟩ ih;simp only at hac hcd hdb hlm ht ho ih;have hml:=ht.len;have done: ∀m2,Turn c d m m2->Asc c d m2->Ends wd (λl'=>Turn a b l l'/\Asc a b l') (some ([],[.arr 1 (ws wd m2) 0])):=λm2 h1 h2=>
  ⟨m2,rfl,ht.trans (h1.wider hac hdb),(ho.turn h1 hac hcd hdb (by omega)).asc h2⟩
 by_cases h12:d<=c+12
 ·have h12':(d:Int) - c<=12:=by omega
  obtain⟨m2,g1,g2,g3⟩:=insertion_runs hwd m c d hcd (by omega) (by omega)
  rw[hml]at g1;subst hT';simp -dsimp -implicitDefEqProofs (disch:=first|omega|assumption) [h12',g1]
  rw[<- hT0];exact done m2 g2 g3
 have h12': ¬ (d:Int) - c<=12:=by omega
 by_cases hz:lm=0
 ·subst hz
  obtain⟨m2,g1,g2,g3⟩:=heapSort_runs hwd m c d (by omega) (by omega) (by omega)
  rw[hml]at g1;subst hT';simp -dsimp -implicitDefEqProofs (disch:=first|omega|assumption) [h12',g1]
  rw[<- hT0];exact done m2 g2 g3
 have hz': ¬ (lm:Int)=0:=by omega
 simp -dsimp -implicitDefEqProofs (disch:=first|omega|assumption) [-zaR]
 rw[zaR];simp -dsimp -implicitDefEqProofs (disch:=first|omega|assumption) [-zaR,h12']
 rw[zaR];simp -dsimp -implicitDefEqProofs (disch:=first|omega|assumption) [-zaR,h12',hz,hz']
 generalize hz:zbE _ _ _ _ _ _ _ _ (Code.cond _ _ _) _ _ _=z;revert z;refine zea (Q1 wd l.length c d wb wp m) ?_ ?_
 ·cases wb with
  |true=>
   simp -dsimp -implicitDefEqProofs (disch:=first|omega|assumption) [h12',hz,hz']
   exact⟨_,m,lm,rfl,⟨by simp,by simp,by simp,by simp,by simp,by simp,by simp⟩,Turn.refl _ _ _,hlm⟩
  |false=>
   obtain⟨m1,g1,g2⟩:=break_runs hwd m c d (by omega) (by omega) (by omega)
   rw[hml]at g1;obtain⟨lm,rfl⟩: ∃k,lm=k+1:=⟨lm - 1,by omega⟩
   simp -dsimp -implicitDefEqProofs (disch:=first|omega|assumption) [h12',hz,hz',g1]
   exact⟨_,m1,lm,rfl,⟨by simp,by simp,by simp,by simp,by simp,by simp,by simp⟩,g2,by omega⟩
 clear hlm hz hz'
 rintro _ ⟨s1,m1,lm1,rfl,⟨d0,d1,d2,d3,d8,d9,d10⟩,ht1,hlm⟩
 have hl1:=(ht.trans (ht1.wider hac hdb)).len;obtain⟨x,h,hx1,hx2,hh,gp⟩:=pivot_runs hwd m1 c d (by omega) (by omega) (by omega)
 rw[hl1]at gp;simp -dsimp -implicitDefEqProofs (disch:=first|omega|assumption) [-zaR,d0,d1,d2,d3,d8,d9,d10,gp]
 generalize hz:zbE _ _ _ _ _ _ _ _ (Code.cond _ _ _) _ _ _=z;revert z;refine zea (Q2 wd l.length c d lm1 wb wp m1) ?_ ?_
 ·by_cases h2:h=2
  ·obtain⟨m2,g1,g2⟩:=reverse_runs hwd m1 c d (by omega) (by omega) (by omega)
   rw[hl1]at g1;have hxx:(d:Int) - 1 - ((x:Int) - c)=((d - 1 - (x - c):Nat):Int):=by omega
   simp -dsimp -implicitDefEqProofs (disch:=first|omega|assumption) [d0,d1,d2,d3,d8,d9,d10,gp,h2,g1,hxx]
   exact⟨_,m2,d - 1 - (x - c),1,rfl,⟨by simp[d0],by simp[d1],by simp[d2],by simp[d3],by simp[d8],by simp[d9],by simp[d10]⟩,by simp,by simp,g2,by omega,by omega⟩
  ·simp -dsimp -implicitDefEqProofs (disch:=first|omega|assumption) [d0,d1,d2,d3,d8,d9,d10,gp,h2]
   exact⟨_,m1,x,h,rfl,⟨by simp[d0],by simp[d1],by simp[d2],by simp[d3],by simp[d8],by simp[d9],by simp[d10]⟩,by simp,by simp,Turn.refl _ _ _,hx1,hx2⟩
 clear d0 d1 d2 d3 d8 d9 d10 hh gp hx1 hx2
 rintro _ ⟨s2,m2,x,h,rfl,⟨d0,d1,d2,d3,d8,d9,d10⟩,d11,d12,ht2,hx1,hx2⟩
 have ht2':=ht1.trans ht2;have hl2:=(ht.trans (ht2'.wider hac hdb)).len;simp -dsimp -implicitDefEqProofs (disch:=first|omega|assumption) [-zaR,-zhG,d0,d1,d2,d3,d8,d9,d10,d11,d12]
 generalize hz:zbE _ _ _ _ _ _ _ _ (Code.region _ _ _) _ _ _=z;revert z;refine zea (Q3 wd l.length c d lm1 x wb wp (wb && wp && decide (h=1)) m2) ?_ ?_
 ·cases wb <;> cases wp
  all_goals
   simp -dsimp -implicitDefEqProofs (disch:=first|omega|assumption) [d0,d1,d2,d3,d8,d9,d10,d11,d12]
   exact⟨_,rfl,⟨by simp[d0],by simp[d1],by simp[d2],by simp[d3],by simp[d8],by simp[d9],by simp[d10]⟩,by simp[d11],by simp⟩
 clear d0 d1 d2 d3 d8 d9 d10 d11 d12
 rintro _ ⟨s3,rfl,⟨d0,d1,d2,d3,d8,d9,d10⟩,d11,d68⟩
 simp -dsimp -implicitDefEqProofs (disch:=first|omega|assumption) [-zaR,d0,d1,d2,d3,d8,d9,d10,d11,d68]
 generalize hz:zbE _ _ _ _ _ _ _ _ (Code.cond _ _ _) _ _ _=z;revert z;refine zea (Q4 wd l.length c d lm1 x wb wp m2) ?_ ?_
 ·cases hc:wb && wp && decide (h=1) with
  |false=>
   simp -dsimp -implicitDefEqProofs (disch:=first|omega|assumption) [d0,d1,d2,d3,d8,d9,d10,d11,d68,hc]
   exact .inl ⟨_,m2,rfl,⟨by simp[d0],by simp[d1],by simp[d2],by simp[d3],by simp[d8],by simp[d9],by simp[d10]⟩,by simp[d11],Turn.refl _ _ _⟩
  |true=>
   obtain⟨fl,m3,g1,g2,g3⟩:=partial_runs hwd m2 c d (by omega) (by omega) (by omega) ((hA.turn (ht.trans (ht2'.wider hac hdb)) hb).inner (ho.turn ht2' hac hcd hdb (by omega)) hac hdb)
   rw[hl2]at g1;cases fl with
   |true=>
    simp -dsimp -implicitDefEqProofs (disch:=first|omega|assumption) [d0,d1,d2,d3,d8,d9,d10,d11,d68,hc,g1]
    exact .inr ⟨_,m3,rfl,g2,g3 rfl⟩
   |false=>
    simp -dsimp -implicitDefEqProofs (disch:=first|omega|assumption) [d0,d1,d2,d3,d8,d9,d10,d11,d68,hc,g1]
    exact .inl ⟨_,m3,rfl,⟨by simp[d0],by simp[d1],by simp[d2],by simp[d3],by simp[d8],by simp[d9],by simp[d10]⟩,by simp[d11],g2⟩
 clear d0 d1 d2 d3 d8 d9 d10 d11 d68
 rintro z (⟨s4,m3,rfl,⟨d0,d1,d2,d3,d8,d9,d10⟩,d11,ht3⟩ | ⟨s4,m3,rfl,ht3,hs3⟩)
 case inr=>
  subst hT';simp -dsimp -implicitDefEqProofs (disch:=first|omega|assumption)
  rw[<- hT0];exact done m3 (ht2'.trans ht3) hs3
 have ht3':=ht2'.trans ht3;have ho3:=ho.turn ht3' hac hcd hdb (by omega)
 have hta3:=ht.trans (ht3'.wider hac hdb);have hl3:=hta3.len;have hA3:=(hA.turn hta3 hb).inner ho3 hac hdb;have hxl:x<m3.length:=by omega
 have gx:=get_at hxl
 by_cases hc0:0<c
 ·obtain⟨e,he⟩: ∃e,c=e+1:=⟨c - 1,by omega⟩
  have e0:(c:Int) - 1=e:=by omega
  have hel:e<m3.length:=by omega
  have ge:=get_at hel
  by_cases hl:at' m3 e<at' m3 x
  ·skip
   obtain⟨mid,fl,m4,g1,g2,g3,g4,g5,g6⟩:=part_runs hwd m3 c d x hx1 hx2 (by omega) (by omega)
   rw[hl3]at g1;have ht4:=ht3'.trans g4;have ho4:=ho3.turn g4 hac hcd hdb (by omega)
   have hta4:=hta3.trans (g4.wider hac hdb);have hl4:=hta4.len;have hA4:=hA3.turn g4 (by omega)
   obtain⟨q,hq⟩: ∃q,q=(d - c) / 8:=⟨_,rfl⟩;have e8:((d:Int) - c) / 8=q:=by omega
   by_cases hlr:mid - c<d - mid
   ·have hlr':(mid:Int) - c<(d:Int) - mid:=by omega
    obtain⟨m5,k1,k2,k3⟩:=IH (mid - c) (by omega) m4 c mid lm1 rfl g2 (by omega) (by omega) hlm (by
     rcases hA4 with h | h
     ·exact .inl h
     ·exact .inr λp p1 p2=>h p p1 (by omega))
    rw[hl4]at k1;simp -dsimp -implicitDefEqProofs (disch:=first|omega|assumption) [d0,d1,d2,d3,d8,d9,d10,d11,hc0,e0,hel,hxl,ge,gx,hl,hl3,less_runs hwd,g1,e8,hlr',k1]
    refine ih (mid+1,d,lm1,decide ((q:Int)<=(mid:Int) - c),fl,m5) _ _ ⟨by simp only;omega,by simp only;omega,hdb,hlm,hta4.trans (k2.wider hac (by omega)), ?_⟩ (by simp only;omega) ?_
    ·have key:=part_left g2 g3 (by omega) g5 g6 k2 k3
     exact λp q p1 p2 p3 p4=>by
      by_cases w1:p<c\/d<=q
      ·exact ho4.turn (k2.wider (yab _) (by omega)) hac hcd hdb (by omega) p q p1 p2 p3 w1
      ·exact key p q (by omega) p2 (by omega) (by simp only at p4;omega)
    ·simp -dsimp -implicitDefEqProofs (disch:=first|omega|assumption) [d0,d1,d2,d3,d8,d9,d10,d11]
   ·have hlr': ¬ (mid:Int) - c<(d:Int) - mid:=by omega
    obtain⟨m5,k1,k2,k3⟩:=IH (d - (mid+1)) (by omega) m4 (mid+1) d lm1 rfl (by omega) (by omega) (by omega) hlm (.inr λp p1 p2=>by
     rw[yaK];exact g6 p (by omega) p2)
    rw[hl4]at k1;have c1:((mid+1:Nat):Int)=(mid:Int)+1:=by omega
    rw[c1]at k1;simp -dsimp -implicitDefEqProofs (disch:=first|omega|assumption) [d0,d1,d2,d3,d8,d9,d10,d11,hc0,e0,hel,hxl,ge,gx,hl,hl3,less_runs hwd,g1,e8,hlr',k1]
    refine ih (c,mid,lm1,decide ((q:Int)<=(d:Int) - mid),fl,m5) _ _ ⟨hac,g2,by simp only;omega,hlm,hta4.trans (k2.wider (by omega) hdb), ?_⟩ (by simp only;omega) ?_
    ·have key:=part_right g2 g3 (by omega) g5 g6 k2 k3
     exact λp q p1 p2 p3 p4=>by
      by_cases w1:p<c\/d<=q
      ·exact ho4.turn (k2.wider (by omega) (yab _)) hac hcd hdb (by omega) p q p1 p2 p3 w1
      ·exact key p q (by omega) p2 (by omega) (by simp only at p4;omega)
    ·simp -dsimp -implicitDefEqProofs (disch:=first|omega|assumption) [d0,d1,d2,d3,d8,d9,d10,d11]
  ·obtain⟨i,m4,g1,g2,g3,g4,g5,g6⟩:=partEq_runs hwd m3 c d x hx1 hx2 (by omega) (by omega)
   rw[hl3]at g1;have hcd':c<d:=by omega
   simp -dsimp -implicitDefEqProofs (disch:=first|omega|assumption) [d0,d1,d2,d3,d8,d9,d10,d11,hc0,e0,hel,hxl,ge,gx,hl,hl3,less_runs hwd,g1]
   refine ih (i,d,lm1,wb,wp,m4) _ _ ⟨by simp only;omega,g3,hdb,hlm,hta3.trans (g4.wider hac hdb), ?_⟩ (by simp only;omega) ?_
   ·intro p q p1 p2 p3 p4
    simp only at p4 ⊢
    by_cases w1:p<c\/d<=q
    ·exact ho3.turn g4 hac hcd hdb (by omega) p q p1 p2 p3 w1
    ·have hp:=g5 p (by omega) (by omega)
     by_cases w2:i<=q
     ·have:=g6 q w2 (by omega)
      omega
     ·rcases hA3.turn g4 (by omega) with w3 | w3
      ·omega
      ·have:=w3 q (by omega) (by omega)
       rw[show c - 1=e by omega,g4.out e (.inl (by omega))]at this
       omega
   ·simp -dsimp -implicitDefEqProofs (disch:=first|omega|assumption) [d0,d1,d2,d3,d8,d9,d10,d11]
 ·skip
  obtain⟨mid,fl,m4,g1,g2,g3,g4,g5,g6⟩:=part_runs hwd m3 c d x hx1 hx2 (by omega) (by omega)
  rw[hl3]at g1;have ht4:=ht3'.trans g4;have ho4:=ho3.turn g4 hac hcd hdb (by omega)
  have hta4:=hta3.trans (g4.wider hac hdb);have hl4:=hta4.len;have hA4:=hA3.turn g4 (by omega)
  obtain⟨q,hq⟩: ∃q,q=(d - c) / 8:=⟨_,rfl⟩;have e8:((d:Int) - c) / 8=q:=by omega
  by_cases hlr:mid - c<d - mid
  ·have hlr':(mid:Int) - c<(d:Int) - mid:=by omega
   obtain⟨m5,k1,k2,k3⟩:=IH (mid - c) (by omega) m4 c mid lm1 rfl g2 (by omega) (by omega) hlm (by
    rcases hA4 with h | h
    ·exact .inl h
    ·exact .inr λp p1 p2=>h p p1 (by omega))
   rw[hl4]at k1;simp -dsimp -implicitDefEqProofs (disch:=first|omega|assumption) [d0,d1,d2,d3,d8,d9,d10,d11,hc0,g1,e8,hlr',k1]
   refine ih (mid+1,d,lm1,decide ((q:Int)<=(mid:Int) - c),fl,m5) _ _ ⟨by simp only;omega,by simp only;omega,hdb,hlm,hta4.trans (k2.wider hac (by omega)), ?_⟩ (by simp only;omega) ?_
   ·have key:=part_left g2 g3 (by omega) g5 g6 k2 k3
    exact λp q p1 p2 p3 p4=>by
     by_cases w1:p<c\/d<=q
     ·exact ho4.turn (k2.wider (yab _) (by omega)) hac hcd hdb (by omega) p q p1 p2 p3 w1
     ·exact key p q (by omega) p2 (by omega) (by simp only at p4;omega)
   ·simp -dsimp -implicitDefEqProofs (disch:=first|omega|assumption) [d0,d1,d2,d3,d8,d9,d10,d11]
  ·have hlr': ¬ (mid:Int) - c<(d:Int) - mid:=by omega
   obtain⟨m5,k1,k2,k3⟩:=IH (d - (mid+1)) (by omega) m4 (mid+1) d lm1 rfl (by omega) (by omega) (by omega) hlm (.inr λp p1 p2=>by
    rw[yaK];exact g6 p (by omega) p2)
   rw[hl4]at k1;have c1:((mid+1:Nat):Int)=(mid:Int)+1:=by omega
   rw[c1]at k1;simp -dsimp -implicitDefEqProofs (disch:=first|omega|assumption) [d0,d1,d2,d3,d8,d9,d10,d11,hc0,g1,e8,hlr',k1]
   refine ih (c,mid,lm1,decide ((q:Int)<=(d:Int) - mid),fl,m5) _ _ ⟨hac,g2,by simp only;omega,hlm,hta4.trans (k2.wider (by omega) hdb), ?_⟩ (by simp only;omega) ?_
   ·have key:=part_right g2 g3 (by omega) g5 g6 k2 k3
    exact λp q p1 p2 p3 p4=>by
     by_cases w1:p<c\/d<=q
     ·exact ho4.turn (k2.wider (by omega) (yab _)) hac hcd hdb (by omega) p q p1 p2 p3 w1
     ·exact key p q (by omega) p2 (by omega) (by simp only at p4;omega)
   ·simp -dsimp -implicitDefEqProofs (disch:=first|omega|assumption) [d0,d1,d2,d3,d8,d9,d10,d11]
end Go.Am.Ab.Str
namespace Go.Am.Ab.Str
open Go.Proofs
set_option maxHeartbeats 4000000
def sort_any {wd:Nat->ByteArray} (hwd:Mono wd) (l:List Nat) (hn:l.length<=256):Ends wd (λl'=>Turn 0 l.length l l'/\Asc 0 l.length l') (R 131 [.arr 0 l.length] [.arr 1 (ws wd l) 0]):=by
 have h:=zlp l.length (by omega)
 have hb:zbn l.length<=9:=(za4 (by omega)).2 (by omega)
 have hw:IntKind.u64.wrap (l.length:Int)=l.length:=zai (by omega) (by omega)
 obtain⟨l',g1,g2⟩:=pdq_runs hwd (l.length - 0) l 0 l.length (zbn l.length) rfl (yai _) (yab _) hn (by omega) (.inl rfl)
 have c0:((0:Nat):Int)=0:=rfl;rw[c0]at g1;refine⟨l', ?_,g2⟩;refine rg zGe rfl ?_;intro T hT;simp -dsimp -implicitDefEqProofs (disch:=first|omega|assumption) [h,hw,g1]
 simpa -dsimp -implicitDefEqProofs (disch:=first|omega|assumption) using hT
def ins (x:Nat):List Nat->List Nat
 |[]=>[x]
 |y::r=>if x<y then x::y::r else if x=y then y::r else y::ins x r
def uniq (l:List Nat):List Nat:=l.foldl (λu x=>ins x u) []
def Rises:List Nat->Prop
 |[]=>True
 |x::r=>(∀y∈r,x<y)/\Rises r
def ins_mem {x y:Nat}: ∀ {l:List Nat},y∈ins x l↔y=x\/y∈l
 |[]=>by simp[ins]
 |z::r=>by
  unfold ins;split
  ·simp
  ·split
   ·rename_i h;subst h;simp
   ·simp only[ybI,ins_mem (l:=r)]
    constructor
    ·rintro (h | h | h)
     ·exact .inr (.inl h)
     ·exact .inl h
     ·exact .inr (.inr h)
    ·rintro (h | h | h)
     ·exact .inr (.inl h)
     ·exact .inl h
     ·exact .inr (.inr h)
def ins_rises {x:Nat}: ∀ {l:List Nat},Rises l->Rises (ins x l)
 |[],_=>⟨by simp,trivial⟩
 |z::r,h=>by
  unfold ins;split
  ·rename_i hx
   refine⟨λy hy=> ?_,h⟩
   rcases List.mem_cons.1 hy with rfl | hy
   ·exact hx
   ·have:=h.1 y hy;omega
  ·split
   ·exact h
   ·rename_i h1 h2
    refine⟨λy hy=> ?_,ins_rises h.2⟩
    rcases ins_mem.1 hy with rfl | hy
    ·omega
    ·exact h.1 y hy
def foldl_ins {l:List Nat}: ∀ {u:List Nat},Rises u->Rises (l.foldl (λu x=>ins x u) u)/\ ∀y,y∈l.foldl (λu x=>ins x u) u↔y∈u\/y∈l:=by
 induction l with
 |nil=>intro u h;exact⟨h,by simp⟩
 |cons x r ih=>
  intro u h;obtain⟨h1,h2⟩:=ih (ins_rises (x:=x) h);refine⟨h1,λy=> ?_⟩
  rw[ybc,h2,ins_mem,ybI];constructor
  ·rintro ((h | h) | h)
   ·exact .inr (.inl h)
   ·exact .inl h
   ·exact .inr (.inr h)
  ·rintro (h | h | h)
   ·exact .inl (.inr h)
   ·exact .inl (.inl h)
   ·exact .inr h
def uniq_rises (l:List Nat):Rises (uniq l):=(foldl_ins (l:=l) (u:=[]) trivial).1
def uniq_mem {l:List Nat} {y:Nat}:y∈uniq l↔y∈l:=by
 rw[uniq,(foldl_ins (l:=l) (u:=[]) trivial).2];simp
def rises_ext: ∀ {a b:List Nat},Rises a->Rises b->(∀y,y∈a↔y∈b)->a=b
 |[],[],_,_,_=>rfl
 |[],y::r,_,_,h=>by have:=(h y).2 (by simp);simp at this
 |x::r,[],_,_,h=>by have:=(h x).1 (by simp);simp at this
 |x::r,y::s,h1,h2,h=>by
  have e:x=y:=by
   have hx:=(h x).1 (by simp)
   have hy:=(h y).2 (by simp)
   rcases List.mem_cons.1 hx with e | hx
   ·exact e
   ·rcases List.mem_cons.1 hy with e | hy
    ·exact e.symm
    ·have:=h1.1 y hy
     have:=h2.1 x hx;omega
  subst e;rw[rises_ext h1.2 h2.2 λz=> ?_]
  constructor
  ·intro hz
   rcases List.mem_cons.1 ((h z).1 (by simp[hz])) with e | hz'
   ·have:=h1.1 z hz;omega
   ·exact hz'
  ·intro hz
   rcases List.mem_cons.1 ((h z).2 (by simp[hz])) with e | hz'
   ·have:=h2.1 z hz;omega
   ·exact hz'
def rises_iff: ∀ {l:List Nat},Rises l↔ ∀i j,i<j->j<l.length->at' l i<at' l j
 |[]=>by simp[Rises]
 |x::r=>by
  unfold Rises;rw[rises_iff (l:=r)];constructor
  ·rintro ⟨h1,h2⟩ i j hij hj
   obtain⟨j,rfl⟩: ∃k,j=k+1:=⟨j - 1,by omega⟩
   have hj':j<r.length:=by simpa using hj
   cases i with
   |zero=>
    have hm:at' r j∈r:=by rw[<- get_at hj'];exact yal _
    exact h1 _ hm
   |succ i=>exact h2 i j (by omega) hj'
  ·intro h
   refine⟨λy hy=> ?_,λi j hij hj=>h (i+1) (j+1) (by omega) (by simpa using hj)⟩
   obtain⟨j,hj,rfl⟩:=List.mem_iff_getElem.1 hy;have:=h 0 (j+1) (by omega) (by simpa using hj)
   rw[get_at];exact this
def mem_at {l:List Nat} {y:Nat}:y∈l↔ ∃i,i<l.length/\at' l i=y:=by
 rw[ycI];constructor
 ·rintro ⟨i,hi,rfl⟩;exact⟨i,hi,by rw[get_at]⟩
 ·rintro ⟨i,hi,rfl⟩;exact⟨i,hi,by rw[get_at]⟩
end Go.Am.Ab.Str
namespace Go.Am.Ab
open Go.Proofs
set_option maxHeartbeats 4000000
def zeL: ∀x:List UInt8,Op.bytesLess x x=false
 |[]=>rfl
 |a::x=>by
  have:=zeL x;simp[Op.bytesLess,this]
def zpI: ∀ {x y z:List UInt8},Op.bytesLess x y=true->Op.bytesLess y z=true->Op.bytesLess x z=true
 |x,y,[],_,h=>by cases y <;> simp[Op.bytesLess]at h
 |[],_,c::z,_,_=>rfl
 |a::x,[],c::z,h,_=>by simp[Op.bytesLess]at h
 |a::x,b::y,c::z,h,g=>by
  simp only[Op.bytesLess,ybN,yaG,yar,ycP]at h g ⊢;rcases h with h | ⟨rfl,h⟩
  ·rcases g with g | ⟨rfl,g⟩
   ·exact .inl (UInt8.lt_trans h g)
   ·exact .inl h
  ·rcases g with g | ⟨rfl,g⟩
   ·exact .inl g
   ·exact .inr ⟨rfl,zpI h g⟩
def zpJ: ∀ {x y:List UInt8},Op.bytesLess x y=false->Op.bytesLess y x=false->x=y
 |[],[],_,_=>rfl
 |[],b::y,h,_=>by simp[Op.bytesLess]at h
 |a::x,[],_,h=>by simp[Op.bytesLess]at h
 |a::x,b::y,h,g=>by
  simp only[Op.bytesLess,Bool.or_eq_false_iff,yaV,ybK,beq_eq_false_iff_ne]at h g;have e:a=b:=by
   apply UInt8.toNat_inj.1;have h1:=h.1;have g1:=g.1;rw[UInt8.lt_iff_toNat_lt]at h1 g1;omega
  subst e;rw[zpJ (h.2.resolve_left λk=>k rfl) (g.2.resolve_left λk=>k rfl)]
def zm1 (a:UInt8) (y:List UInt8): ∀x:List UInt8,Op.bytesLess x (x++a::y)=true
 |[]=>rfl
 |b::x=>by
  have:=zm1 a y x;simp[Op.bytesLess,this]
def lsS (a b:ByteArray):Bool:=Op.bytesLess a.toList b.toList
def zhd (a:ByteArray):lsS a a=false:=zeL _
def zgw {a b c:ByteArray} (h:lsS a b=true) (g:lsS b c=true):lsS a c=true:=zpI h g
def zm2 {a b:ByteArray} (h:lsS a b=false) (g:a≠b):lsS b a=true:=by
 cases e:lsS b a with
 |true=>rfl
 |false=>exact absurd (zi4 (zpJ h e)) g
def zm3 (x:ByteArray):List ByteArray->List ByteArray
 |[]=>[x]
 |y::r=>if lsS x y=true then x::y::r else if x=y then y::r else y::zm3 x r
def zeM (l:List ByteArray):List ByteArray:=l.foldl (λu x=>zm3 x u) []
def zhL:List ByteArray->Prop
 |[]=>True
 |x::r=>(∀y∈r,lsS x y=true)/\zhL r
def zlB {x y:ByteArray}: ∀ {l:List ByteArray},y∈zm3 x l↔y=x\/y∈l
 |[]=>by simp[zm3]
 |z::r=>by
  unfold zm3;split
  ·simp
  ·split
   ·rename_i h;subst h;simp
   ·simp only[ybI,zlB (l:=r)]
    constructor
    ·rintro (h | h | h)
     ·exact .inr (.inl h)
     ·exact .inl h
     ·exact .inr (.inr h)
    ·rintro (h | h | h)
     ·exact .inr (.inl h)
     ·exact .inl h
     ·exact .inr (.inr h)
def zkL {x:ByteArray}: ∀ {l:List ByteArray},zhL l->zhL (zm3 x l)
 |[],_=>⟨by simp,trivial⟩
 |z::r,h=>by
  unfold zm3;split
  ·rename_i hx
   refine⟨λy hy=> ?_,h⟩
   rcases List.mem_cons.1 hy with rfl | hy
   ·exact hx
   ·exact zgw hx (h.1 y hy)
  ·split
   ·exact h
   ·rename_i h1 h2
    refine⟨λy hy=> ?_,zkL h.2⟩
    rcases zlB.1 hy with rfl | hy
    ·exact zm2 (by simpa using h1) h2
    ·exact h.1 y hy
def zkM {l:List ByteArray}: ∀ {u:List ByteArray},zhL u->zhL (l.foldl (λu x=>zm3 x u) u)/\ ∀y,y∈l.foldl (λu x=>zm3 x u) u↔y∈u\/y∈l:=by
 induction l with
 |nil=>intro u h;exact⟨h,by simp⟩
 |cons x r ih=>
  intro u h;obtain⟨h1,h2⟩:=ih (zkL (x:=x) h);refine⟨h1,λy=> ?_⟩
  rw[ybc,h2,zlB,ybI];constructor
  ·rintro ((h | h) | h)
   ·exact .inr (.inl h)
   ·exact .inl h
   ·exact .inr (.inr h)
  ·rintro (h | h | h)
   ·exact .inl (.inr h)
   ·exact .inl (.inl h)
   ·exact .inr h
def zrj (l:List ByteArray):zhL (zeM l):=(zkM (l:=l) (u:=[]) trivial).1
def zgx {l:List ByteArray} {y:ByteArray}:y∈zeM l↔y∈l:=by
 rw[zeM,(zkM (l:=l) (u:=[]) trivial).2];simp
def zhe: ∀ {l:List ByteArray},zhL l-> ∀i j,(hij:i<j)->(h:j<l.length)->lsS (l[i]'(Nat.lt_trans hij h)) l[j]=true
 |[],_,i,j,_,h=>by simp at h
 |x::r,hr,i,j,hij,hj=>by
  obtain⟨j,rfl⟩: ∃k,j=k+1:=⟨j - 1,by omega⟩
  cases i with
  |zero=>exact hr.1 _ (yal _)
  |succ i=>exact zhe hr.2 i j (by omega) (by simpa using hj)
def zhf (s:ByteArray) (k:Nat):ByteArray:=⟨(s.data.toList++List.replicate k 0).toArray⟩
def zeN (s:ByteArray) (k:Nat):(zhf s k).toList=s.toList++List.replicate k 0:=by
 rw[ByteArray.toList_eq,ByteArray.toList_eq];simp[zhf]
def zhM (s:ByteArray) {i j:Nat} (h:i<j):lsS (zhf s i) (zhf s j)=true:=by
 unfold lsS;rw[zeN,zeN];obtain⟨k,rfl⟩: ∃k,j=i+(k+1):=⟨j - i - 1,by omega⟩
 rw[<- ycq,<- yaq,yaN];exact zm1 _ _ _
def zm4 (s:ByteArray):zhf s 0=s:=by
 apply zi4;rw[zeN];simp
def zA6 (u:List ByteArray) (i:Nat):ByteArray:=if h:i<u.length then u[i] else zhf (u.getLastD noS) (i - u.length+1)
def zs5 {u:List ByteArray} (hu:zhL u) {i j:Nat} (h:i<j):lsS (zA6 u i) (zA6 u j)=true:=by
 unfold zA6
 by_cases hj:j<u.length
 ·rw[dif_pos hj,dif_pos (show i<u.length by omega)]
  exact zhe hu i j h hj
 ·rw[dif_neg hj]
  by_cases hi:i<u.length
  ·rw[dif_pos hi]
   have hlast:u.getLastD noS=u[u.length - 1]'(by omega):=by
    rw[List.getLastD_eq_getLast?,List.getLast?_eq_getElem?,yak (by omega)];rfl
   have h2:=zhM (u.getLastD noS) (i:=0) (j:=j - u.length+1) (by omega)
   rw[zm4]at h2
   by_cases e:i=u.length - 1
   ·subst e
    rw[<- hlast];exact h2
   ·refine zgw ?_ h2
    rw[hlast];exact zhe hu i _ (by omega) (by omega)
  ·rw[dif_neg hi]
   exact zhM _ (by omega)
def zw2 {wd:Nat->ByteArray} (h: ∀i j,i<j->lsS (wd i) (wd j)=true):Str.Mono wd:=by
 have lt: ∀a b,Op.bytesLess (wd a).toList (wd b).toList=decide (a<b):=by
  intro a b
  by_cases c:a<b
  ·rw[yaJ c];exact h a b c
  ·rw[yaL c]
   by_cases e:a=b
   ·subst e;exact zeL _
   ·have g:=h b a (by omega)
    cases k:Op.bytesLess (wd a).toList (wd b).toList with
    |false=>rfl
    |true=>
     have:=zgw g k;rw[zhd]at this;cases this
 refine⟨lt,λa b e=> ?_⟩
 have h1:=lt a b;have h2:=lt b a;rw[e,zeL]at h1;rw[e,zeL]at h2;have:=of_decide_eq_false h1.symm;have:=of_decide_eq_false h2.symm;omega
def Str.Mono.eq_iff {wd:Nat->ByteArray} (h:Str.Mono wd) {a b:Nat}:wd a=wd b↔a=b:=⟨λe=>h.inj a b (by rw[e]),λe=>by rw[e]⟩
def zs6 {wd:Nat->ByteArray} (h:Str.Mono wd) (x:Nat): ∀l:List Nat,zm3 (wd x) (l.map wd)=(Str.ins x l).map wd
 |[]=>rfl
 |y::r=>by
  have h1:lsS (wd x) (wd y)=decide (x<y):=h.lt x y;simp only[yaW,zm3,Str.ins,h1,yaG,h.eq_iff];split
  ·rfl
  ·split
   ·rfl
   ·rw[yaW,zs6 h x r]
def zpK {wd:Nat->ByteArray} (h:Str.Mono wd) (l:List Nat):zeM (l.map wd)=(Str.uniq l).map wd:=by
 have key: ∀ (l u:List Nat),(l.map wd).foldl (λu x=>zm3 x u) (u.map wd)=(l.foldl (λu x=>Str.ins x u) u).map wd:=by
  intro l
  induction l with
  |nil=>intro u;rfl
  |cons x r ih=>
   intro u;rw[yaW,ybc,ybc,zs6 h];exact ih _
 exact key l []
def ixS (u:List ByteArray) (s:ByteArray):Nat:=u.findIdx λt=>decide (t=s)
def zpL {u:List ByteArray} {s:ByteArray} (h:s∈u):ixS u s<u.length:=List.findIdx_lt_length_of_exists ⟨s,h,by simp⟩
def zoB {u:List ByteArray} {s:ByteArray} (h:ixS u s<u.length):u[ixS u s]=s:=by
 have:=List.findIdx_getElem (p:=λt=>decide (t=s)) (xs:=u) (w:=h)
 exact of_decide_eq_true this
def zs7 {wd:Nat->ByteArray} (h:Str.Mono wd) (x:Nat): ∀u:List Nat,ixS (u.map wd) (wd x)=u.idxOf x
 |[]=>rfl
 |y::r=>by
  have e:decide (wd y=wd x)=(y == x):=by
   by_cases c:y=x
   ·subst c;simp
   ·have:wd y≠wd x:=λg=>c (h.eq_iff.1 g)
    rw[yaL this,ydP c]
  have ih:=zs7 h x r;unfold ixS at ih ⊢;rw[yaW,List.findIdx_cons,List.idxOf_cons,ih,e]
def zw3 (l:List ByteArray): ∃ (wd:Nat->ByteArray) (r:List Nat),Str.Mono wd/\r.map wd=l:=by
 refine⟨zA6 (zeM l),l.map (ixS (zeM l)),zw2 λi j h=>zs5 (zrj l) h, ?_⟩
 rw[ya0]
 conv=>rhs;rw[<- List.map_id l]
 apply ybF;intro s hs;have hm:=zpL (zgx.2 hs);simp only[Function.comp,zA6,dif_pos hm,id];exact zoB hm
end Go.Am.Ab
namespace Go.Am.Ab.Str
open Go.Proofs
set_option maxHeartbeats 4000000
@[simp] def zm5 (s:ByteArray): ∀n,zao 1 (List.replicate n (D.str s))=true
 |0=>rfl
 |n+1=>by simp[yaN,zm5 s n]
def clone_nil {wd:Nat->ByteArray} (hwd:Mono wd):R 130 [.d (.list [])] []=some ([.arr 0 0],[.arr 1 [] 0]):=by
 refine zeE (rs:=[.tmp 2]) (ts:=[143]) Tryz.func130 rfl rfl rfl (by kernel_rfl) (by kernel_rfl) zzg (by simp[Tryz.f130]) ?_
 intro T hT a ha;rcases ha with rfl | rfl
 all_goals simp -dsimp -implicitDefEqProofs (disch:=first|omega|assumption)
 all_goals exact hT
def clone_runs {wd:Nat->ByteArray} (hwd:Mono wd) (l:List Nat) (hn:l.length<=256):R 130 [.d (.list (ws wd l))] []=some ([.arr 0 l.length],[.arr 1 (ws wd l) 0]):=by
 cases l with
 |nil=>exact clone_nil hwd
 |cons x r=>
  simp only[yag]at hn;refine ze3 (rs:=[.tmp 2]) (ts:=[143]) Tryz.func130 rfl rfl rfl (by kernel_rfl) (by kernel_rfl) (.inr (by intro zaF h;simp at h)) (by simp[Tryz.f130]) ?_
  intro T hT;simp -dsimp -implicitDefEqProofs (disch:=first|omega|assumption) [ints]
  simpa -dsimp -implicitDefEqProofs (disch:=first|omega|assumption) using hT
def Packs (wd:Nat->ByteArray) (l:List Nat) (r:Option (List V × List Obj)):Prop:=
 r=some ([.arr 0 (uniq l).length],[.arr 1 (ws wd (uniq l)) 0])\/ ∃m:List D,(uniq l).length+m.length=l.length/\r=some ([.sl 0 l.length 0 (uniq l).length],[.arr 1 (ws wd (uniq l)++m) 0])
def not_packs {wd:Nat->ByteArray} {l:List Nat}: ¬ Packs wd l none:=λh=>by
 rcases h with h | ⟨m,_,h⟩ <;> cases h
def uniq_of {l:List Nat} {m:List Nat} {k:Nat} (hk:k<=m.length) (h1: ∀i j,i<j->j<k->at' m i<at' m j) (h2: ∀y,(∃i,i<k/\at' m i=y)↔y∈l):m.take k=uniq l:=by
 have hat: ∀i,i<k->at' (m.take k) i=at' m i:=λi hi=>by
  simp only[at',yaD,yaT,yah hi]
 apply rises_ext _ (uniq_rises l) _
 ·rw[rises_iff]
  intro i j hij hj;simp only[yao]at hj;rw[hat i (by omega),hat j (by omega)]
  exact h1 i j hij (by omega)
 ·intro y
  rw[uniq_mem,<- h2 y,mem_at];constructor
  ·rintro ⟨i,hi,e⟩
   simp only[yao]at hi;exact⟨i,by omega,by rw[<- hat i (by omega)];exact e⟩
  ·rintro ⟨i,hi,e⟩
   exact⟨i,by simp only[yao];omega,by rw[hat i hi];exact e⟩
def CInv (s:List Nat) (k:Nat) (x:Nat × Nat × List Nat):Prop:=k<=x.1/\x.1<k+x.2.1/\1<=x.2.1/\k+x.2.1<=s.length/\x.2.2.length=s.length/\(∀i j,i<j->j<x.1->at' x.2.2 i<at' x.2.2 j)/\
 (∀y,(∃i,i<x.1/\at' x.2.2 i=y)↔ ∃i,i<k+x.2.1/\at' s i=y)/\at' x.2.2 (x.1 - 1)=at' s (k+x.2.1 - 1)/\ ∀p,k+x.2.1<=p+1->at' x.2.2 p=at' s p
def compact_any {wd:Nat->ByteArray} (hwd:Mono wd) (s:List Nat) (hs:Asc 0 s.length s) (hn:s.length<=256):Packs wd s (R 132 [.arr 0 s.length] [.arr 1 (ws wd s) 0]):=by
 have same:(∀i j,i<j->j<s.length->at' s i<at' s j)->uniq s=s:=by
  intro h;have:=uniq_of (l:=s) (m:=s) (yab _) h (λy=>mem_at.symm)
  rw[yaR]at this;exact this.symm
 by_cases h2:s.length<2
 ·have hu:=same λi j h1 h2=>by omega
  have e:R 132 [.arr 0 s.length] [.arr 1 (ws wd s) 0]=some ([.arr 0 s.length],[.arr 1 (ws wd s) 0]):=by
   have h2':(s.length:Int)<2:=by omega
   refine rg zE9 rfl ?_;intro T hT;simp -dsimp -implicitDefEqProofs (disch:=first|omega|assumption) [h2,h2']
   simpa -dsimp -implicitDefEqProofs (disch:=first|omega|assumption) using hT
  exact .inl (by rw[hu,e])
 have h2': ¬ (s.length:Int)<2:=by omega
 refine ra zE9 rfl not_packs ?_;simp -dsimp -implicitDefEqProofs (disch:=first|omega|assumption) [h2,h2']
 generalize hT0:Packs wd s=T0;generalize hz:zad _ _ _ _ _ _=z;revert z;refine zaa (σ:=Nat) (λx=>[(0,.arr 0 s.length),(3,.d (.int .i64 x))]) (λx=>[.arr 1 (ws wd s) 0]) (λx=>1<=x/\x<=s.length/\ ∀i j,i<j->j<x->at' s i<at' s j) (λx=>s.length - x) 1 ?_ ?_ ?_
 ·exact⟨yab _,by omega,λi j h1 h2=>by omega⟩
 ·simp -dsimp -implicitDefEqProofs (disch:=first|omega|assumption)
 intro T2 f2 hT2 x ⟨hx1,hx2,hx3⟩ ih2
 by_cases hx:x<s.length
 ·obtain⟨w,hw⟩: ∃w,x=w+1:=⟨x - 1,by omega⟩
  have q0:(x:Int) - 1=w:=by omega
  have hw0:w<s.length:=by omega
  have gx:=get_at hx;have gw:=get_at hw0
  by_cases he:at' s x=at' s w
  ·have hs0: ¬ 0=s.length:=by omega
   have hlx:s.length - x+x=s.length:=by omega
   simp -dsimp -implicitDefEqProofs (disch:=first|omega|assumption) [hwd.beq,hx,q0,gx,gw,hw0,he,hs0]
   generalize hz:zad _ _ _ _ _ _=z;revert z;refine zaa (σ:=Nat × Nat × List Nat) (λy=>[(0,.arr 0 s.length),(3,.d (.int .i64 y.1)),(4,.sl 0 s.length x (s.length - x)),(5,.d (.int .i64 y.2.1))]) (λy=>[.arr 1 (ws wd y.2.2) 0]) (CInv s x) (λy=>s.length - y.2.1) (x,1,s) ?_ ?_ ?_
   ·refine⟨yab _,by simp only;omega,yab _,by simp only;omega,rfl,hx3,λy=>⟨?_, ?_⟩, ?_,λp hp=>rfl⟩
    ·rintro ⟨i,hi,e⟩
     exact⟨i,by simp only at hi ⊢;omega,e⟩
    ·rintro ⟨i,hi,e⟩
     simp only at hi ⊢
     by_cases c:i=x
     ·exact⟨w,by omega,by rw[<- e,c,he]⟩
     ·exact⟨i,by omega,e⟩
    ·simp only
     rw[yaK,show x - 1=w by omega,he]
   ·simp -dsimp -implicitDefEqProofs (disch:=first|omega|assumption)
   intro T3 f3 hT3 ⟨k,j,m⟩ ⟨i1,i2,i3,i4,i5,i6,i7,i8,i9⟩ ih3;simp only at i1 i2 i3 i4 i5 i6 i7 i8 i9 ih3
   by_cases hj:x+j<s.length
   ·have hj':j<s.length - x:=by omega
    have hj1:(j:Int)<(s.length:Int) - x:=by omega
    have hj2:((s.length - x:Nat):Int)=(s.length:Int) - x:=by omega
    obtain⟨v,hv⟩: ∃v,j=v+1:=⟨j - 1,by omega⟩
    have q1:(j:Int) - 1=v:=by omega
    have hv1:v<s.length - x:=by omega
    have hjm:x+j<m.length:=by omega
    have hvm:x+v<m.length:=by omega
    have gj:m[x+j]=at' s (x+j):=by rw[get_at hjm];exact i9 _ (by omega)
    have gv:m[x+v]=at' s (x+v):=by rw[get_at hvm];exact i9 _ (by omega)
    have hle:=hs (x+v) (x+j) (yai _) (by omega) hj
    have hlast:at' m (k - 1)=at' s (x+v):=by rw[i8];congr 1;omega
    by_cases hd:at' s (x+j)=at' s (x+v)
    ·simp -dsimp -implicitDefEqProofs (disch:=first|omega|assumption) [hwd.beq,hj',hj1,hj2,q1,hv1,hjm,hvm,gj,gv,hd,i5]
     refine ih3 (k,j+1,m) _ _ ⟨i1,by simp only;omega,by simp only;omega,by simp only;omega,i5,i6,λy=> ?_, ?_,λp hp=>i9 p (by simp only at hp;omega)⟩ (by simp only;omega) (by simp -dsimp -implicitDefEqProofs (disch:=first|omega|assumption))
     ·rw[i7 y]
      constructor
      ·rintro ⟨i,hi,e⟩
       exact⟨i,by simp only;omega,e⟩
      ·rintro ⟨i,hi,e⟩
       simp only at hi
       by_cases c:i=x+j
       ·exact⟨x+v,by omega,by rw[<- e,c,hd]⟩
       ·exact⟨i,by omega,e⟩
     ·simp only
      rw[hlast,show x+(j+1) - 1=x+j by omega,hd]
    ·have hkm:k<m.length:=by omega
     have hks:k<s.length:=by omega
     have hat: ∀i,at' (m.set k (at' s (x+j))) i=if k=i then at' s (x+j) else at' m i:=λi=>at_set hkm
     simp -dsimp -implicitDefEqProofs (disch:=first|omega|assumption) [hwd.beq,hj',hj1,hj2,q1,hv1,hjm,hvm,gj,gv,hd,i5,hkm,hks,ws_set,-List.map_set]
     refine ih3 (k+1,j+1,m.set k (at' s (x+j))) _ _ ⟨by simp only;omega,by simp only;omega,by simp only;omega,by simp only;omega,by simp only[ya4];exact i5, ?_,λy=> ?_, ?_, ?_⟩ (by simp only;omega) (by simp -dsimp -implicitDefEqProofs (disch:=first|omega|assumption) [-List.map_set])
     ·intro p q p1 p2
      simp only at p2 ⊢;rw[hat,hat,yae (by omega)]
      by_cases c:k=q
      ·rw[yah c]
       have:at' m p<=at' m (k - 1):=by
        by_cases c2:p=k - 1
        ·rw[c2];exact yab _
        ·exact Nat.le_of_lt (i6 p (k - 1) (by omega) (by omega))
       omega
      ·rw[yae c];exact i6 p q p1 (by omega)
     ·simp only
      constructor
      ·rintro ⟨i,hi,e⟩
       rw[hat]at e
       by_cases c:k=i
       ·rw[yah c]at e;exact⟨x+j,by omega,e⟩
       ·rw[yae c]at e
        obtain⟨i',h',e'⟩:=(i7 y).1 ⟨i,by omega,e⟩
        exact⟨i',by omega,e'⟩
      ·rintro ⟨i,hi,e⟩
       by_cases c:i=x+j
       ·exact⟨k,by omega,by rw[hat,yah rfl,<- e,c]⟩
       ·obtain⟨i',h',e'⟩:=(i7 y).2 ⟨i,by omega,e⟩
        exact⟨i',by omega,by rw[hat,yae (by omega)];exact e'⟩
     ·simp only
      rw[yaK,hat,yah rfl];congr 1
     ·intro p hp
      simp only at hp ⊢;rw[hat,yae (by omega)]
      exact i9 p (by omega)
   ·have hj': ¬ j<s.length - x:=by omega
    have hj1: ¬ (j:Int)<(s.length:Int) - x:=by omega
    have hj2:((s.length - x:Nat):Int)=(s.length:Int) - x:=by omega
    have hxj:x+j=s.length:=by omega
    have hu:m.take k=uniq s:=uniq_of (by omega) i6 (λy=>by
     rw[i7 y,hxj];exact mem_at.symm)
    have hul:(uniq s).length=k:=by rw[<- hu,yao];omega
    subst hT3;subst hT2;have hkm:k<=s.length:=by omega
    have hkk:k+(s.length - k)=s.length:=by omega
    have hfin2:(List.map (λn=>D.str (wd n)) m).take k=ws wd (uniq s):=by rw[<- hu];simp
    have hdrop:(List.map (λn=>D.str (wd n)) m).drop s.length=[]:=by simp[i5]
    simp -dsimp -implicitDefEqProofs (disch:=first|omega|assumption) [hwd.beq,hj',hj1,hj2,i5,hs0,hkm,hkk,hfin2,hdrop]
    rw[<- hT0];refine .inr ⟨List.replicate (s.length - k) (.str ⟨#[]⟩),by rw[hul,yaZ];omega, ?_⟩
    rw[hul]
  ·have hlt:at' s w<at' s x:=by
    have:=hs w x (yai _) (by omega) hx
    omega
   simp -dsimp -implicitDefEqProofs (disch:=first|omega|assumption) [hwd.beq,hx,q0,gx,gw,hw0,he]
   refine ih2 (x+1) _ _ ⟨by omega,hx, ?_⟩ (by omega) (by simp -dsimp -implicitDefEqProofs (disch:=first|omega|assumption))
   intro p q p1 p2
   by_cases c:q=x
   ·rw[c]
    by_cases c2:p=w
    ·rw[c2];exact hlt
    ·have:=hx3 p w (by omega) (by omega);omega
   ·exact hx3 p q p1 (by omega)
 ·have hx':x=s.length:=by omega
  have hu:=same λi j h1 h2=>hx3 i j h1 (by omega)
  subst hT2;simp -dsimp -implicitDefEqProofs (disch:=first|omega|assumption) [hwd.beq,hx,hx']
  rw[<- hT0];exact .inl (by rw[hu])
end Go.Am.Ab.Str
namespace Go.Am.Ab.Str
open Go.Proofs
set_option maxHeartbeats 4000000
def search_runs {wd:Nat->ByteArray} (hwd:Mono wd) (l:List Nat) (n:Nat) (k:Nat) (hk:k<l.length) (hn:l.length<=256) (he:at' l k=n) (hlo: ∀p,p<k->at' l p<n) (hhi: ∀p,k<=p->p<l.length->n<=at' l p):
 R 133 [.d (.list (ws wd l)),.d (.str (wd n))] []=some ([.d (.int .i64 k),.d (.bool true)],[]):=by
 refine rg zGf rfl ?_;intro T hT;simp -dsimp -implicitDefEqProofs (disch:=first|omega|assumption)
 generalize hz:zad _ _ _ _ _ _=z;revert z;refine zaa (σ:=Nat × Nat) (λx=>[(0,.d (.list (ws wd l))),(1,.d (.str (wd n))),(6,.d (.int .i64 l.length)),(7,.d (.int .i64 x.1)),(8,.d (.int .i64 x.2))]) (λx=>[]) (λx=>x.1<=k/\k<=x.2/\x.2<=l.length) (λx=>x.2 - x.1) (0,l.length) ?_ ?_ ?_
 ·exact⟨yai _,by simp only;omega,yab _⟩
 ·simp -dsimp -implicitDefEqProofs (disch:=first|omega|assumption)
 intro T' f hT' ⟨i,j⟩ ⟨h1,h2,h3⟩ ih;simp only at h1 h2 h3 ih
 by_cases h4:i<j
 ·obtain⟨q,hq⟩: ∃q,q=(i+j) / 2:=⟨_,rfl⟩
  have e1:((i:Int)+j) / 2=q:=by omega
  have e0:IntKind.u64.wrap ((i:Int)+j)=(i:Int)+j:=zai (by omega) (by omega)
  have hql:q<l.length:=by omega
  have gq:=get_at hql
  by_cases h5:at' l q<n
  ·have:q<k:=by
    apply Nat.lt_of_not_le;intro h;have:=hhi q h hql;omega
   simp -dsimp -implicitDefEqProofs (disch:=first|omega|assumption) [hwd.beq,h4,e0,e1,hql,gq,less_runs hwd,h5]
   exact ih (q+1,j) _ _ ⟨by simp only;omega,h2,h3⟩ (by simp only;omega) (by simp -dsimp -implicitDefEqProofs (disch:=first|omega|assumption))
  ·have:k<=q:=by
    apply ydb;intro h;exact h5 (hlo q h)
   simp -dsimp -implicitDefEqProofs (disch:=first|omega|assumption) [hwd.beq,h4,e0,e1,hql,gq,less_runs hwd,h5]
   exact ih (i,q) _ _ ⟨h1,by simp only;omega,by simp only;omega⟩ (by simp only;omega) (by simp -dsimp -implicitDefEqProofs (disch:=first|omega|assumption))
 ·obtain rfl:i=k:=by omega
  have gk:=get_at hk;subst hT';simp -dsimp -implicitDefEqProofs (disch:=first|omega|assumption) [hwd.beq,h4,hk,gk,he]
  simpa -dsimp -implicitDefEqProofs (disch:=first|omega|assumption) [he]using hT
end Go.Am.Ab.Str
