/- Sets of keys. -/
import Derived.Test.YtlgdomajdebbdaaGreatDoorKeyB
set_option linter.all false
namespace Go.Am.Ab
open Go.Proofs
set_option maxHeartbeats 8000000
set_option maxRecDepth 4000
def zoA (l:List Val) (hn:l.length<=1024):R 59 [.d (.list (vs l))] []=some ([.arr 0 l.length],[.arr 1 (vs l) 0]):=by
 obtain⟨wd,r,hwd,hr⟩:=zsq l;have h:=Str.Vs.clone_runs hwd r (by rw[<- hr]at hn;simpa using hn)
 have e:vs l=Str.Vs.ws wd r:=by rw[<- hr];exact zm3 wd r
 have hl:r.length=l.length:=by rw[<- hr];simp
 rw[e,<- hl];exact h
def zq2 (k:Nat) (l:List D) (n w:Nat):R 25 [.ptr 0 0] [.box [.d (.int .u8 k),.arr 1 n],.arr 1 l w]=some ([.d (.int .u8 k)],[.box [.d (.int .u8 k),.arr 1 n],.arr 1 l w]):=by
 refine rg b25 rfl ?_;intro T hT;simp -dsimp -implicitDefEqProofs (disch:=first|omega|assumption) [range2]
 simpa -dsimp -implicitDefEqProofs (disch:=first|omega|assumption) [range2]using hT
def zsY (k:Nat) (l:List D) (w:Nat):R 26 [.ptr 0 0] [.box [.d (.int .u8 k),.arr 1 l.length],.arr 1 l w]=some ([.d (.int .i64 l.length)],[.box [.d (.int .u8 k),.arr 1 l.length],.arr 1 l w]):=by
 refine rg b26 rfl ?_;intro T hT;simp -dsimp -implicitDefEqProofs (disch:=first|omega|assumption) [range2]
 simpa -dsimp -implicitDefEqProofs (disch:=first|omega|assumption) [range2]using hT
def zq3 (k:Nat) (l:List Val) (hn:l.length<=256):R 23 [.ptr 0 0] [.box [.d (.int .u8 k),.arr 1 l.length],.arr 1 (vs l) l.length]=some ([.arr 2 l.length],[.box [.d (.int .u8 k),.arr 1 l.length],.arr 1 (vs l) l.length,.arr 1 (vs l) 0]):=by
 have h:=zoA l (by omega)
 obtain⟨vl,hvl⟩: ∃vl,vl=vs l:=⟨_,rfl⟩;have hl:vl.length=l.length:=by rw[hvl];simp
 have ha:zaw 1 vl=true:=by rw[hvl];simp
 rw[<- hvl]at h ⊢;refine rg b23 rfl ?_;intro T hT;simp -dsimp -implicitDefEqProofs (disch:=first|omega|assumption) [h,hl,range2]
 simpa -dsimp -implicitDefEqProofs (disch:=first|omega|assumption) [hl,range2]using hT
def zux (x y:Int):R 76 [.d (Val.whole y).d,.ptr 0 0] [.box [.d (.int .i64 x)]]=some ([.d (.bool (!ltV (.whole y) (.whole x)))],[.box [.d (.int .i64 x)]]):=by
 have e:(!ltV (.whole y) (.whole x))=decide (x<=y):=by
  simp only[ltV]
  by_cases h:y<x
  ·simp[h]
  ·simp[h];omega
 rw[e];simp only[Val.d];refine rg b76 rfl ?_;intro T hT;simp -dsimp -implicitDefEqProofs (disch:=first|omega|assumption)
 simpa -dsimp -implicitDefEqProofs (disch:=first|omega|assumption) using hT
def zuy (x y:ByteArray):R 77 [.d (Val.text y).d,.ptr 0 0] [.box [.d (.str x)]]=some ([.d (.bool (!ltV (.text y) (.text x)))],[.box [.d (.str x)]]):=by
 have e:(!ltV (.text y) (.text x))= !Op.bytesLess y.toList x.toList:=rfl;rw[e];simp only[Val.d];refine rg b77 rfl ?_;intro T hT;simp -dsimp -implicitDefEqProofs (disch:=first|omega|assumption)
 simpa -dsimp -implicitDefEqProofs (disch:=first|omega|assumption) using hT
def zng (F:Nat) (hF:zad G F=false) (bx:List V) (hbx:bx=bx) (l:List Val) (hn:l.length<=256) (hr:zdc l) (v:Val)
 (hge: ∀y∈l,R F [.d y.d,.ptr 0 0] [.box bx]=some ([.d (.bool (!ltV y v))],[.box bx])) (hflat:bx.flatMap V.ids1=[]) (hren: ∀f,bx.mapM (V.ren1 f)=some bx):
 R 75 [.d (.list (vs l)),.clo F [.ptr 0 0],.d v.d] [.box bx]=some ([.d (.bool (decide (v∈l)))],[.box bx]):=by
 have hget:=zfm hr;obtain⟨vd,hvd⟩: ∃d,d=v.d:=⟨_,rfl⟩;have hsame: ∀y:Val,R 63 [.d y.d,.d vd] []=some ([.d (.bool (decide (y=v)))],[]):=λy=>by rw[hvd];exact zkv y v
 rw[<- hvd];clear hvd;refine rg b75 rfl ?_;intro T hT;simp -dsimp -implicitDefEqProofs (disch:=first|omega|assumption) [hflat,hren,hF]
 generalize hz:zac _ _ _ _ _ _=z;revert z;refine zaa (σ:=Nat × Nat) (λx=>[(0,.d (.list (vs l))),(1,.clo F [.ptr 0 0]),(2,.d vd),(7,.d (.int .i64 x.1)),(8,.d (.int .i64 x.2))]) (λx=>[.box bx]) (λx=>x.1<=x.2/\x.2<=l.length/\(∀j,(h:j<l.length)->j<x.1->ltV l[j] v=true)/\ ∀j,(h:j<l.length)->x.2<=j->ltV l[j] v=false) (λx=>x.2 - x.1) (0,l.length) ?_ ?_ ?_
 ·exact⟨Nat.zero_le _,Nat.le_refl _,λj h h2=>by simp only at h2;omega,λj h h2=>by simp only at h2;omega⟩
 ·simp -dsimp -implicitDefEqProofs (disch:=first|omega|assumption) [hflat,hren]
 intro T' f hT' ⟨a,b⟩ ⟨hab,hb,h1,h2⟩ ih;simp only at hab hb h1 h2 ih
 by_cases hlt:a<b
 ·obtain⟨m,hm⟩: ∃m,m=(a+b) / 2:=⟨_,rfl⟩
  have hmi:((a:Int)+b) / 2=m:=by omega
  have hml:m<l.length:=by omega
  have hg:=hge l[m] (List.getElem_mem _);have hcl:=zmu l[m];cases hc:ltV l[m] v with
  |true=>
   rw[hc]at hg;simp -dsimp -implicitDefEqProofs (disch:=first|omega|assumption) [hlt,hmi,hml,hg,hflat,hren,hF]
   refine ih (m+1,b) _ _ ⟨by simp only;omega,hb,λj h h3=> ?_,h2⟩ (by simp only;omega) (by simp -dsimp -implicitDefEqProofs (disch:=first|omega|assumption) [hflat,hren])
   by_cases e:j=m
   ·subst e;exact hc
   ·simp only at h3
    exact zdv (hget j m (by omega) hml) hc
  |false=>
   rw[hc]at hg;simp -dsimp -implicitDefEqProofs (disch:=first|omega|assumption) [hlt,hmi,hml,hg,hflat,hren,hF]
   refine ih (a,m) _ _ ⟨by simp only;omega,by simp only;omega,h1,λj h h3=> ?_⟩ (by simp only;omega) (by simp -dsimp -implicitDefEqProofs (disch:=first|omega|assumption) [hflat,hren])
   simp only at h3
   by_cases e:j=m
   ·subst e;exact hc
   ·cases hj:ltV l[j] v with
    |false=>rfl
    |true=>
     have:=zdv (hget m j (by omega) h) hj
     rw[hc]at this;cases this
 obtain rfl:a=b:=by omega
 subst hT'
 by_cases hal:a<l.length
 ·have hs:=hsame l[a]
  have e:decide (v∈l)=decide (l[a]=v):=by
   refine decide_eq_decide.2 ⟨λhm=> ?_,λe=>by rw[<- e];exact List.getElem_mem _⟩
   obtain⟨j,hj,rfl⟩:=List.mem_iff_getElem.1 hm;have g1:=h1 j hj;have g2:=h2 a hal (Nat.le_refl _);rcases Nat.lt_trichotomy j a with c | c | c
   ·have:=g1 c
    rw[zbf]at this;cases this
   ·subst c;rfl
   ·rw[hget a j c hj]at g2;cases g2
  rw[e]at hT;have hcl:=zmu l[a];simp -dsimp -implicitDefEqProofs (disch:=first|omega|assumption) [hal,hs,hflat,hren]
  simpa -dsimp -implicitDefEqProofs (disch:=first|omega|assumption) [hflat,hren]using hT
 ·have e:decide (v∈l)=false:=by
   refine decide_eq_false λhm=> ?_
   obtain⟨j,hj,rfl⟩:=List.mem_iff_getElem.1 hm;have:=h1 j hj (by omega)
   rw[zbf]at this;cases this
  rw[e]at hT;simp -dsimp -implicitDefEqProofs (disch:=first|omega|assumption) [hal,hflat,hren]
  simpa -dsimp -implicitDefEqProofs (disch:=first|omega|assumption) [hflat,hren]using hT
end Go.Am.Ab
namespace Go.Am.Ab
open Go.Proofs
set_option maxHeartbeats 8000000
set_option maxRecDepth 4000
def zlF (k:Nat) (hk:k=1\/k=3) (l:List Val) (hall: ∀v∈l,v.kind=k) (hr:zdc l) (hn:l.length<=256) (v:Val):
 R 27 [.ptr 0 0,.d v.d] [.box [.d (.int .u8 k),.arr 1 l.length],.arr 1 (vs l) l.length]=some ([.d (.bool (decide (v∈l)))],[.box [.d (.int .u8 k),.arr 1 l.length],.arr 1 (vs l) l.length]):=by
 have hno:v.kind≠k->decide (v∈l)=false:=λh=>decide_eq_false λhm=>h (hall v hm)
 obtain⟨vl,hvl⟩: ∃vl,vl=vs l:=⟨_,rfl⟩;have hl:vl.length=l.length:=by rw[hvl];simp
 have ha:zaw 1 vl=true:=by rw[hvl];simp
 cases v with
 |null=>
  rw[hno (by simp only[Val.kind];omega),<- hvl]
  simp only[Val.d];refine rg b27 rfl ?_;intro T hT;simp -dsimp -implicitDefEqProofs (disch:=first|omega|assumption) [range2]
  simpa -dsimp -implicitDefEqProofs (disch:=first|omega|assumption) [range2]using hT
 |truth b=>
  rw[hno (by simp only[Val.kind];omega),<- hvl]
  simp only[Val.d];refine rg b27 rfl ?_;intro T hT;simp -dsimp -implicitDefEqProofs (disch:=first|omega|assumption) [range2]
  simpa -dsimp -implicitDefEqProofs (disch:=first|omega|assumption) [range2]using hT
 |whole x=>
  rcases hk with rfl | rfl
  ·have hf:=zng 76 (by simp) [.d (.int .i64 x)] rfl l hn hr (.whole x) (λy hy=>by
    have:=hall y hy;cases y <;> simp[Val.kind]at this;exact zux x _) (by simp) (λf=>by simp)
   rw[<- hvl]at hf ⊢;generalize decide (Val.whole x∈l)=q at*;simp only[Val.d]at hf ⊢;refine rg b27 rfl ?_;intro T hT;simp -dsimp -implicitDefEqProofs (disch:=first|omega|assumption) [hl,hf,range2,V.plain]
   simpa -dsimp -implicitDefEqProofs (disch:=first|omega|assumption) [hl,range2]using hT
  ·rw[hno (by simp[Val.kind]),<- hvl]
   simp only[Val.d];refine rg b27 rfl ?_;intro T hT;simp -dsimp -implicitDefEqProofs (disch:=first|omega|assumption) [range2]
   simpa -dsimp -implicitDefEqProofs (disch:=first|omega|assumption) [range2]using hT
 |text x=>
  rcases hk with rfl | rfl
  ·rw[hno (by simp[Val.kind]),<- hvl]
   simp only[Val.d];refine rg b27 rfl ?_;intro T hT;simp -dsimp -implicitDefEqProofs (disch:=first|omega|assumption) [range2]
   simpa -dsimp -implicitDefEqProofs (disch:=first|omega|assumption) [range2]using hT
  ·have hf:=zng 77 (by simp) [.d (.str x)] rfl l hn hr (.text x) (λy hy=>by
    have:=hall y hy;cases y <;> simp[Val.kind]at this;exact zuy x _) (by simp) (λf=>by simp)
   rw[<- hvl]at hf ⊢;generalize decide (Val.text x∈l)=q at*;simp only[Val.d]at hf ⊢;refine rg b27 rfl ?_;intro T hT;simp -dsimp -implicitDefEqProofs (disch:=first|omega|assumption) [hl,hf,range2,V.plain]
   simpa -dsimp -implicitDefEqProofs (disch:=first|omega|assumption) [hl,range2]using hT
def zkM: ∀ {a b:List Val},zdc a->zdc b->(∀y,y∈a↔y∈b)->a=b
 |[],[],_,_,_=>rfl
 |[],y::r,_,_,h=>by have:=(h y).2 (by simp);simp at this
 |x::r,[],_,_,h=>by have:=(h x).1 (by simp);simp at this
 |x::r,y::s,h1,h2,h=>by
  have no: ∀ {p q:Val},ltV p q=true->ltV q p=true->False:=λa b=>by
   have:=zdv a b;rw[zbf]at this;cases this
  have e:x=y:=by
   have hx:=(h x).1 (by simp)
   have hy:=(h y).2 (by simp)
   rcases List.mem_cons.1 hx with e | hx
   ·exact e
   ·rcases List.mem_cons.1 hy with e | hy
    ·exact e.symm
    ·exact (no (h1.1 y hy) (h2.1 x hx)).elim
  subst e;rw[zkM h1.2 h2.2 λz=> ?_]
  constructor
  ·intro hz
   rcases List.mem_cons.1 ((h z).1 (by simp[hz])) with e | hz'
   ·subst e;have:=h1.1 z hz;rw[zbf]at this;cases this
   ·exact hz'
  ·intro hz
   rcases List.mem_cons.1 ((h z).2 (by simp[hz])) with e | hz'
   ·subst e;have:=h2.1 z hz;rw[zbf]at this;cases this
   ·exact hz'
def zv3 {u:List Val} (h:zdc u):zdB u=u:=zkM (zku u) h λ_=>zlp
def zq4 {k:Nat} (hk:k=1\/k=3) {u:List Val} (g:zfs k u) (hall: ∀v∈u,v.kind=k) (hr:zdc u) (hn:u.length<=256):zjq (zkD k u)= .inr (k,u):=by
 have hk3:1<=k/\k<=3:=by omega
 unfold zjq;have ho:zhO (zkD k u)=some (zd7 k u.length (zdb k u)):=zsH _;rw[ho];simp only;have h3:(zd7 k u.length (zdb k u)).take 3=[75,70,49]:=rfl;have hd:(zd7 k u.length (zdb k u)).drop 3=put k++(put u.length++zdb k u):=rfl;have hl: ¬ (zd7 k u.length (zdb k u)).length<3:=by unfold zd7;simp only[List.length_cons];omega
 have g1:=zeV (n:=k) (by omega) (put u.length++zdb k u)
 have g2:=zeV (n:=u.length) (by omega) (zdb k u)
 have hb:zlB (zkD k u) (put k++(put u.length++zdb k u))=some (k,u):=by
  unfold zlB;rw[g1];simp only[ne_eq,not_true_eq_false,if_false,List.drop_left];rw[if_neg (by omega),g2]
  simp only[not_true_eq_false,if_false,List.drop_left];rw[if_neg (by omega),zpx hk3 g hn]
  simp only[not_true_eq_false,if_false];rw[if_pos (zfp.2 ⟨hk,hall⟩),zv3 hr,if_pos rfl]
 rw[if_neg (λc=>c.elim hl (λc=>c h3)),hd,hb]
def zq5 {b:List UInt8} {k:Nat} {l:List Val} (h:zjq b= .inr (k,l)):(k=1\/k=3)/\zfs k l/\(∀v∈l,v.kind=k)/\l.length<=256/\zkD k (zdB l)=b:=by
 unfold zjq at h;split at h
 ·cases h
 ·rename_i t ht
  split at h
  ·cases h
  ·split at h
   ·cases h
   ·rename_i p hp
    simp only[Sum.inr.injEq]at h;subst h;unfold zlB at hp;split at hp
    ·cases hp
    ·split at hp
     ·cases hp
     ·split at hp
      ·cases hp
      ·split at hp
       ·cases hp
       ·split at hp
        ·cases hp
        ·rename_i h5
         split at hp
         ·rename_i h6
          split at hp
          ·rename_i h7
           simp only[Option.some.injEq,Prod.mk.injEq]at hp;obtain⟨rfl,rfl⟩:=hp;have h5':=Classical.not_not.1 h5;obtain⟨g1,g2,g3,g4⟩:=zhE h5';obtain⟨a1,a2⟩:=zfp.1 h6;exact⟨a1,g1,a2,by omega,h7⟩
          ·cases hp
         ·cases hp
end Go.Am.Ab
namespace Go.Am.Ab
open Go.Proofs
set_option maxHeartbeats 8000000
set_option maxRecDepth 4000
end Go.Am.Ab
namespace Go.Am.Ab
open Go.Proofs
set_option maxHeartbeats 8000000
set_option maxRecDepth 4000
def zzW:zbx [3,5]=[0,6,10]:=by
 have h0:zdu 0 [3,5]=[6,10]:=by simp[zdu,zbv,za1,zig,zc7,u8n]
 have h1:zdu 1 [3,5]=[6,4]:=by simp[zdu,zdi,zcK,zbv,za1,zig,zc7,wI,u8n]
 have h2:zdu 2 [3,5]=[6,1,10,1]:=by simp[zdu,zcT,zgg,cnt,za1,zig,zc7,u8n]
 have h3:(zdu 3 [3,5]).length=4:=by
  have hu:uniq [3,5]=[3,5]:=by decide
  have hp:zaJ [3,5] [3,5]=[0,1]:=by decide
  have hw:zba [0,1]=1:=by decide
  simp[zdu,zgY,hu,hp,hw,zbH,zo6,za1,zig,zc7,u8n,zbd,zbz,le]
 have h4:(zdu 4 [3,5]).length=3:=by
  have hm:zk7 [3,5]=3:=by decide
  have hp:zbA [3,5]=[0,2]:=by decide
  have hw:zba [0,2]=2:=by decide
  simp[zdu,zbO,hm,hp,hw,za1,zig,zc7,u8n,zbd,zbz,le]
 obtain⟨e3,he3⟩: ∃e,e=zdu 3 [3,5]:=⟨_,rfl⟩;obtain⟨e4,he4⟩: ∃e,e=zdu 4 [3,5]:=⟨_,rfl⟩;rw[<- he3]at h3;rw[<- he4]at h4;simp[zbx,zaX,h0,h1,h2,<- he3,<- he4,h3,h4,u8n]
def exU:List Val:=[.whole 3,.whole 5]
def zu5:zdB [.whole 5,.whole 3,.whole 5]=exU:=by decide
def zsZ:zdb 1 exU=[0,0,6,10]:=by
 have hb:zbx (zby exU)=[0,6,10]:=zzW;have hh:zda exU=[0]:=by
  unfold zda;rw[if_neg (by decide)]
 rw[zdb,hh]
 show [0]++zbx (zby exU)=_
 rw[hb];rfl
def zs0:zfs 1 exU:=by
 intro v hv;simp[exU]at hv;rcases hv with rfl | rfl
 all_goals exact .inr ⟨rfl,λn e=>(by cases e;unfold zah;omega),λs e=>by cases e⟩
def zu6:zd7 1 2 [0,0,6,10]=[75,70,49,1,2,0,0,6,10]:=by
 unfold zd7;rw[zc7 (by omega),zc7 (by omega)];rfl
def zpB: ∀v∈exU,v.kind=1:=by decide
def zpC:zdc exU:=⟨by decide,by decide,trivial⟩
def zq6 (ho:R 20 [B (zbB [75,70,49,1,2,0,0,6,10])] []=KoR (.inr (1,exU))):R 14 [] []=some ([.d (.bool true)],[]):=by
 have hw:=zgt 1 (by decide) exU zs0 (by decide)
 have hx: ∀v∈[Val.whole 5,.whole 3,.whole 5],v.kind=1:=by decide
 have h1:=zhD [.whole 5,.whole 3,.whole 5] (by decide) hx (zdb 1 exU) 0 (by rw[zsZ];decide) (by rw[zu5];exact hw)
 rw[zu5,zsZ,if_neg (by simp)]at h1
 have hk2:zd7 1 exU.length [0,0,6,10]=[75,70,49,1,2,0,0,6,10]:=zu6;rw[hk2]at h1;unfold KoR at ho;have hlen:=zsY 1 (vs exU) 2;have q1:=zlF 1 (.inl rfl) exU zpB zpC (by decide) (.whole 3)
 have q2:=zlF 1 (.inl rfl) exU zpB zpC (by decide) (.text ⟨#[51]⟩)
 have q3:=zlF 1 (.inl rfl) exU zpB zpC (by decide) (.whole 4)
 rw[show decide (Val.whole 3∈exU)=true by decide]at q1
 rw[show decide (Val.text ⟨#[51]⟩∈exU)=false by decide]at q2
 rw[show decide (Val.whole 4∈exU)=false by decide]at q3
 obtain⟨cr,hcr⟩: ∃cr,cr=zAV [75,70,49,1,2,0,0,6,10]:=⟨_,rfl⟩;have hs:zbB [75,70,49,1,2,0,0,6,10]=[75,70,49,1,2,0,0,6,10]++cr:=by rw[hcr];rfl
 have hcl:cr.length=4:=by rw[hcr];rfl
 rw[hs]at h1 ho;have h1':R 15 [.d (.int .u8 1),.d (.list [.iface 2 (.int .i64 5),.iface 2 (.int .i64 3),.iface 2 (.int .i64 5)])] []=some ([.arr 0 (cr.length+9),.d (.int .i64 0)],[.arr 1 (.int .u8 75:: .int .u8 70:: .int .u8 49:: .int .u8 1:: .int .u8 2:: .int .u8 0:: .int .u8 0:: .int .u8 6:: .int .u8 10::bytes cr) 0]):=h1;have ho':R 20 [.d (.list (.int .u8 75:: .int .u8 70:: .int .u8 49:: .int .u8 1:: .int .u8 2:: .int .u8 0:: .int .u8 0:: .int .u8 6:: .int .u8 10::bytes cr))] []=some ([.ptr 0 0,.d (.int .i64 0)],[.box [.d (.int .u8 1),.arr 1 2],.arr 1 [.iface 2 (.int .i64 3),.iface 2 (.int .i64 5)] 2]):=ho;have hlen':R 26 [.ptr 0 0] [.box [.d (.int .u8 1),.arr 1 2],.arr 1 [.iface 2 (.int .i64 3),.iface 2 (.int .i64 5)] 2]=some ([.d (.int .i64 2)],[.box [.d (.int .u8 1),.arr 1 2],.arr 1 [.iface 2 (.int .i64 3),.iface 2 (.int .i64 5)] 2]):=hlen;have q1':R 27 [.ptr 0 0,.d (.iface 2 (.int .i64 3))] [.box [.d (.int .u8 1),.arr 1 2],.arr 1 [.iface 2 (.int .i64 3),.iface 2 (.int .i64 5)] 2]=some ([.d (.bool true)],[.box [.d (.int .u8 1),.arr 1 2],.arr 1 [.iface 2 (.int .i64 3),.iface 2 (.int .i64 5)] 2]):=q1;have q2':R 27 [.ptr 0 0,.d (.iface 9 (.str ⟨#[51]⟩))] [.box [.d (.int .u8 1),.arr 1 2],.arr 1 [.iface 2 (.int .i64 3),.iface 2 (.int .i64 5)] 2]=some ([.d (.bool false)],[.box [.d (.int .u8 1),.arr 1 2],.arr 1 [.iface 2 (.int .i64 3),.iface 2 (.int .i64 5)] 2]):=q2;have q3':R 27 [.ptr 0 0,.d (.iface 2 (.int .i64 4))] [.box [.d (.int .u8 1),.arr 1 2],.arr 1 [.iface 2 (.int .i64 3),.iface 2 (.int .i64 5)] 2]=some ([.d (.bool false)],[.box [.d (.int .u8 1),.arr 1 2],.arr 1 [.iface 2 (.int .i64 3),.iface 2 (.int .i64 5)] 2]):=q3;clear h1 ho hlen q1 q2 q3 hcr hs;refine rg b14 rfl ?_;intro T hT;simp -dsimp -implicitDefEqProofs (disch:=first|omega|assumption) [h1',ho',hlen',q1',q2',q3',zsT]
 simpa -dsimp -implicitDefEqProofs (disch:=first|omega|assumption) using hT
def zv4:R 14 [] []=some ([.d (.bool true)],[]):=by
 have hk:zkD 1 exU=zbB [75,70,49,1,2,0,0,6,10]:=by
  rw[zkD,zsZ]
  show zbB (zd7 1 2 [0,0,6,10])=_
  rw[zu6]
 have ho:=zkE (zbB [75,70,49,1,2,0,0,6,10]) (by rw[zbp];decide)
 have hb:=zq4 (.inl rfl) zs0 zpB zpC (by decide)
 rw[hk]at hb;rw[hb]at ho;exact zq6 ho
end Go.Am.Ab
namespace Go.Am.Ab
open Go.Proofs
set_option maxHeartbeats 8000000
set_option maxRecDepth 4000
def zs1 {b:List UInt8} {e:Nat} (h:zjq b= .inl e):e=100\/e=101\/e=102:=by
 unfold zjq at h;split at h
 ·simp only[Sum.inl.injEq]at h;omega
 ·split at h
  ·simp only[Sum.inl.injEq]at h;omega
  ·split at h
   ·simp only[Sum.inl.injEq]at h;omega
   ·cases h
def zuz (l:List Val):zdL (vs l)=true:=zc5 _ (λv=>by cases v <;> rfl) l
def zhd (b:List UInt8) (hbl:b.length<=9223372036854775807) (s:Bool):R 7 [B b,.d (.bool s)] []=some ([.d (.bool true)],[]):=by
 have al:=zv4
 by_cases h2:20000<b.length
 ·have h2':(20000:Int)<b.length:=by omega
  refine rg b7 rfl ?_;intro T hT;simp -dsimp -implicitDefEqProofs (disch:=first|omega|assumption) [al,h2']
  simpa -dsimp -implicitDefEqProofs (disch:=first|omega|assumption) using hT
 have h2': ¬ (20000:Int)<b.length:=by omega
 obtain⟨b2,hb2⟩: ∃b2,b2=if s then zbB b else b:=⟨_,rfl⟩
 have hb2l:b2.length<1000000:=by
  rw[hb2];split
  ·rw[zbp];omega
  ·omega
 have ho:=zkE b2 hb2l;have hd:=zoz b2 hb2l;have hs:=zfn b (by omega)
 cases hp:zjq b2 with
 |inl e=>
  rw[hp]at ho hd;simp only[KoR]at ho;simp only[zpA]at hd;have he:=zs1 hp;have he0: ¬ (e:Int)=0:=by omega
  have he0': ¬ e=0:=by omega
  cases s with
  |false=>
   simp only[Bool.false_eq_true,if_false]at hb2;subst hb2;refine rg b7 rfl ?_;intro T hT;simp -dsimp -implicitDefEqProofs (disch:=first|omega|assumption) [al,h2',ho,hd,he0,he0']
   simpa -dsimp -implicitDefEqProofs (disch:=first|omega|assumption) using hT
  |true=>
   simp only[if_true]at hb2;rw[<- hb2]at hs;refine rg b7 rfl ?_;intro T hT;simp -dsimp -implicitDefEqProofs (disch:=first|omega|assumption) [al,h2',hs,ho,hd,he0,he0']
   simpa -dsimp -implicitDefEqProofs (disch:=first|omega|assumption) using hT
 |inr p=>
  obtain⟨k,l⟩:=p;rw[hp]at ho hd;simp only[KoR]at ho;simp only[zpA]at hd;obtain⟨g1,g2,g3,g4,g5⟩:=zq5 hp;have hk:=zq2 k (vs l) l.length l.length;have hks:=zq3 k l g4;have hcs:=zqd l (by omega)
  have hsr:=zmv (l.map zar) (l.map zar) (by simp;omega)
  rw[decide_eq_true rfl]at hsr;have hwk:IntKind.i64.wrap (k:Int)=k:=wI (by omega) (by omega)
  obtain⟨vl,hvl⟩: ∃vl,vl=vs l:=⟨_,rfl⟩;obtain⟨cl,hcl⟩: ∃cl,cl=ce (l.map zar):=⟨_,rfl⟩;have hvll:vl.length=l.length:=by rw[hvl];simp
  have hcll:cl.length=l.length:=by rw[hcl];simp
  have hfl:zdL vl=true:=by rw[hvl];exact zuz l
  rw[<- hvl]at ho hk hks hcs;rw[<- hcl]at hd hcs hsr;cases s with
  |false=>
   simp only[Bool.false_eq_true,if_false]at hb2;subst hb2;clear hvl hcl hp g1 g2 g3 g5;refine rg b7 rfl ?_;intro T hT;simp -dsimp -implicitDefEqProofs (disch:=first|omega|assumption) [al,h2',ho,hd,hk,hks,hcs,hsr,hwk,hvll,hcll,hfl]
   simpa -dsimp -implicitDefEqProofs (disch:=first|omega|assumption) using hT
  |true=>
   simp only[if_true]at hb2;rw[<- hb2]at hs;clear hvl hcl hp g1 g2 g3 g5 hb2;refine rg b7 rfl ?_;intro T hT;simp -dsimp -implicitDefEqProofs (disch:=first|omega|assumption) [al,h2',hs,ho,hd,hk,hks,hcs,hsr,hwk,hvll,hcll,hfl]
   simpa -dsimp -implicitDefEqProofs (disch:=first|omega|assumption) using hT
end Go.Am.Ab
