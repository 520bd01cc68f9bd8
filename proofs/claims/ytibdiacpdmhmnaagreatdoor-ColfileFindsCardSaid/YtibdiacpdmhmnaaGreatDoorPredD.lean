/- What a statistic says. -/
import Derived.Test.YtibdiacpdmhmnaaGreatDoorBackA
import Derived.Test.YtibdiacpdmhmnaaGreatDoorPredC
set_option linter.all false
namespace Go.Am.Ab
open Go.Proofs
set_option maxHeartbeats 4000000
set_option maxRecDepth 4000
def zsa (a b:ByteArray):(a++b).toList=a.toList++b.toList:=by
 rw[ByteArray.toList_eq,ByteArray.toList_eq,ByteArray.toList_eq];simp
def zzJ: ∀ (x:List UInt8) {y z:List UInt8},Op.bytesLess y z=true->Op.bytesLess (x++y) (x++z)=true
 |[],_,_,h=>h
 |a::x,y,z,h=>by
  have:=zzJ x h;simp[Op.bytesLess,this]
def zIj {a b:Nat} (h:a<b) (hb:b<256):UInt8.ofNat a<UInt8.ofNat b:=by
 rw[UInt8.lt_iff_toNat_lt,ydB,ydB];omega
def zij {a b:Nat} (h:a<b) (hb:b<256) (x y:List UInt8):Op.bytesLess (UInt8.ofNat a::x) (UInt8.ofNat b::y)=true:=by
 simp[Op.bytesLess,zIj h hb]
def zt8 {a b:Nat} (h:a=b) {x y:List UInt8} (hx:Op.bytesLess x y=true):Op.bytesLess (UInt8.ofNat a::x) (UInt8.ofNat b::y)=true:=by
 subst h;simp[Op.bytesLess,hx]
def zyL {c:Nat} (hv:c<55296\/57344<=c) (h:c<1114111) (t:List UInt8):Op.bytesLess ((Utf8.encode (c:Nat)).toList++t) (Utf8.encode (nxt c:Nat)).toList=true:=by
 have hn:nxt c<55296\/(57344<=nxt c/\nxt c<=1114111):=by unfold nxt;split <;> omega
 have hlt:c<nxt c/\nxt c<=c+2049/\(nxt c≠c+1->c=55295/\nxt c=57344):=by unfold nxt;split <;> omega
 rw[ziz (c:=c) (by omega),ziz hn]
 generalize nxt c=d at*;obtain⟨h1,h2,h3⟩:=hlt;have tl: ∀l:List UInt8,(⟨l.toArray⟩:ByteArray).toList=l:=λl=>by rw[ByteArray.toList_eq]
 by_cases c1:c<128
 ·rw[yag c1,tl]
  by_cases d1:d<128
  ·rw[yag d1,tl]
   exact zij h1 (by omega) _ _
  ·rw[yac d1,yag (by omega),tl]
   exact zij (by omega) (by omega) _ _
 rw[yac c1,yac (show ¬ d<128 by omega)]
 by_cases c2:c<2048
 ·rw[yag c2,tl]
  by_cases d2:d<2048
  ·rw[yag d2,tl]
   by_cases e:c / 64=d / 64
   ·exact zt8 (by omega) (zij (by omega) (by omega) _ _)
   ·exact zij (by omega) (by omega) _ _
  ·rw[yac d2,yag (by omega),tl]
   exact zij (by omega) (by omega) _ _
 rw[yac c2,yac (show ¬ d<2048 by omega)]
 by_cases c3:c<65536
 ·rw[yag c3,tl]
  by_cases d3:d<65536
  ·rw[yag d3,tl]
   by_cases e:c / 4096=d / 4096
   ·refine zt8 (by omega) ?_
    by_cases e2:c / 64=d / 64
    ·exact zt8 (by omega) (zij (by omega) (by omega) _ _)
    ·exact zij (by omega) (by omega) _ _
   ·exact zij (by omega) (by omega) _ _
  ·rw[yac d3,tl]
   exact zij (by omega) (by omega) _ _
 rw[yac c3,yac (show ¬ d<65536 by omega),tl,tl]
 by_cases e:c / 262144=d / 262144
 ·refine zt8 (by omega) ?_
  by_cases e2:c / 4096=d / 4096
  ·refine zt8 (by omega) ?_
   by_cases e3:c / 64=d / 64
   ·exact zt8 (by omega) (zij (by omega) (by omega) _ _)
   ·exact zij (by omega) (by omega) _ _
  ·exact zij (by omega) (by omega) _ _
 ·exact zij (by omega) (by omega) _ _
def zwM (s:ByteArray): ∀ (m i:Nat), ∀x∈sgL s m i, ∃j,j<s.size/\x=((sig (rst s j)).1,j,(sig (rst s j)).2.2)
 |0,_,x,h=>by cases h
 |m+1,i,x,h=>by
  simp only[sgL]at h;split at h
  ·rename_i hi
   rcases List.mem_cons.1 h with rfl | h
   ·exact⟨i,hi,rfl⟩
   ·exact zwM s m _ x h
  ·cases h
def zwN {s:ByteArray} {x:Nat × Nat × Bool} (hx:x∈sgs s) (hok:x.2.2=true) (hlt:x.1<1114111):lsS s (s.extract 0 x.2.1++Utf8.encode (nxt x.1:Nat))=true:=by
 have hle:=zod s s.size 0 x hx;obtain⟨j,hj,rfl⟩:=zwM s s.size 0 x hx;simp only at hok hlt hle ⊢;have hr:=zaX (s:=s) (i:=j) (by omega)
 have hw:=zc0 (s:=rst s j) (by omega)
 have he:=zzq (s:=rst s j) (by omega) hok
 have h1:s=s.extract 0 j++rst s j:=by
  unfold rst;rw[zi6 s 0 j s.size (by omega) (by omega) (yaj _),ycz]
 have h2:rst s j=Utf8.encode ((sig (rst s j)).1:Nat)++(rst s j).extract (sig (rst s j)).2.1 (rst s j).size:=by
  rw[he,zi6 (rst s j) 0 _ _ (by omega) hw (yaj _),ycz]
 unfold lsS;have key:s.toList=(s.extract 0 j).toList++((Utf8.encode ((sig (rst s j)).1:Nat)).toList++((rst s j).extract (sig (rst s j)).2.1 (rst s j).size).toList):=by
  rw[<- zsa,<- h2,<- zsa,<- h1]
 rw[key,zsa];exact zzJ _ (zyL (hle.2 hok) hlt _)
def zEH {s:ByteArray} {n:Nat} (h:(abv s n).2=true):(abv s n).1=s\/lsS s (abv s n).1=true:=by
 unfold abv at h ⊢
 by_cases h1:(sgs s).all (·.2.2)=false
 ·rw[yag h1]at h;cases h
 rw[yac h1]at h ⊢
 by_cases h2:(sgs s).length<=n
 ·rw[yag h2];exact .inl rfl
 rw[yac h2]at h ⊢;have hall: ∀x∈sgs s,x.2.2=true:=by simpa using h1
 have key: ∀k t,zjW s (sgs s) k=some t->lsS s t=true:=by
  intro k
  induction k with
  |zero=>intro t h;cases h
  |succ k ih=>
   intro t ht;unfold zjW at ht;split at ht
   ·rename_i x hx
    split at ht
    ·rename_i hl
     cases ht;exact zwN (yay hx) (hall x (yay hx)) hl
    ·exact ih t ht
   ·cases ht
 cases e:zjW s (sgs s) n with
 |none=>rw[e]at h;cases h
 |some t=>exact .inr (key n t e)
def zEI (s:ByteArray) (n:Nat):frs s n=s\/lsS (frs s n) s=true:=by
 unfold frs;split
 ·rename_i x hx
  obtain⟨j,hj,rfl⟩:=zwM s s.size 0 x (yay hx);simp only;have h1:s=s.extract 0 j++rst s j:=by
   unfold rst;rw[zi6 s 0 j s.size (by omega) (by omega) (yaj _),ycz]
  have hr:=zaX (s:=s) (i:=j) (by omega)
  refine .inr ?_;unfold lsS
  conv=>arg 1;arg 2;rw[h1,zsa]
  have hl:(rst s j).toList.length=(rst s j).size:=by rw[ByteArray.toList_eq];rfl
  cases e:(rst s j).toList with
  |nil=>rw[e]at hl;simp at hl;omega
  |cons a y=>exact zj8 a y _
 ·exact .inl rfl
def loV (x:Stp1):Val:=if x.has=false then .null else match x.le with
 |.text s=>if x.cl=false then .text noS else .text (frs s 4)
 |v=>v
def hiB (x:Stp1):Bool:=if x.has=false then false else match x.le with
 |.text _=>if x.cl=false then false else (abv (zd2 x.mo) 4).2
 |_=>true
def hgV (x:Stp1):Val:=if hiB x=false then .null else match x.le with
 |.text _=> .text (abv (zd2 x.mo) 4).1
 |_=>x.mo
def bdS (x:Stp1):Bd:=⟨x.nu,x.has,hiB x,loV x,hgV x⟩
def znh (l:List Val):Bd:=bdS (l.foldl stp st0)
def zEJ (n:Nat) (x:Stp1):(bdS x).sta n=zcG n x:=by
 unfold zcG bdS Bd.sta hgV loV hiB
 by_cases h:x.has=false
 ·simp only[h,ybk];rfl
 ·have h':x.has=true:=by simpa using h
  simp only[h'];cases e:x.le with
  |text s=>
   simp only
   by_cases c:x.cl=false
   ·simp[c];rfl
   ·simp only[c]
    cases a:(abv (zd2 x.mo) 4).2 with
    |true=>simp
    |false=>simp;rfl
  |_=>simp
def zzK (l:List Val):(znh l).sta l.length=zaW l:=zEJ _ _
def inv (x:Stp1) (v:Val):Prop:=(v= .null->0<x.nu)/\(v≠ .null->x.has=true/\ltV v x.le=false/\ltV x.mo v=false)
def zyM {x:Stp1} {v:Val} (w:Val) (h:inv x v):inv (stp x w) v:=by
 obtain⟨h1,h2⟩:=h;unfold stp
 by_cases hw:w= .null
 ·rw[yag hw]
  exact⟨λe=>Nat.lt_succ_of_lt (h1 e),h2⟩
 ·rw[yac hw]
  refine⟨h1,λe=> ?_⟩
  obtain⟨a,b,c⟩:=h2 e;refine⟨rfl, ?_, ?_⟩
  ·simp only[a]
   split
   ·rename_i hc
    rcases hc with hc | hc
    ·cases hc
    ·cases e2:ltV v w with
     |false=>rfl
     |true=>rw[zcF e2 hc]at b;cases b
   ·exact b
  ·simp only[a]
   split
   ·rename_i hc
    rcases hc with hc | hc
    ·cases hc
    ·cases e2:ltV w v with
     |false=>rfl
     |true=>rw[zcF hc e2]at c;cases c
   ·exact c
def zyN (x:Stp1) (w:Val):inv (stp x w) w:=by
 unfold stp
 by_cases hw:w= .null
 ·rw[yag hw]
  exact⟨λ_=>Nat.succ_pos _,λe=>absurd hw e⟩
 ·rw[yac hw]
  refine⟨λe=>absurd e hw,λ_=>⟨rfl, ?_, ?_⟩⟩
  ·simp only
   split
   ·exact zfA _
   ·rename_i hc
    cases e:ltV w x.le with
    |false=>rfl
    |true=>exact absurd (.inr e) hc
  ·simp only
   split
   ·exact zfA _
   ·rename_i hc
    cases e:ltV x.mo w with
    |false=>rfl
    |true=>exact absurd (.inr e) hc
def zwO: ∀ (l:List Val) (x:Stp1) (v:Val),(inv x v\/v∈l)->inv (l.foldl stp x) v
 |[],x,v,h=>h.resolve_right (by simp)
 |w::l,x,v,h=>by
  refine zwO l (stp x w) v ?_;rcases h with h | h
  ·exact .inl (zyM w h)
  ·rcases List.mem_cons.1 h with rfl | h
   ·exact .inl (zyN x v)
   ·exact .inr h
structure BdIn (b:Bd) (v:Val):Prop where
 nul:v= .null->0<b.nu
 has:v≠ .null->b.has=true
 lo:v≠ .null->ltV v b.lo=false
 hg:v≠ .null->b.hi=true->ltV b.hg v=false
def zIk {a b c:Val} (h:a=b\/ltV a b=true) (g:ltV c b=false):ltV c a=false:=by
 rcases h with rfl | h
 ·exact g
 ·cases e:ltV c a with
  |false=>rfl
  |true=>rw[zcF e h]at g;cases g
def zEK {a b c:Val} (h:a=b\/ltV b a=true) (g:ltV b c=false):ltV a c=false:=by
 rcases h with rfl | h
 ·exact g
 ·cases e:ltV a c with
  |false=>rfl
  |true=>rw[zcF h e]at g;cases g
def zIl {k:Nat} {l:List Val} (g:zfL k l) {v:Val} (hv:v∈l):BdIn (znh l) v:=by
 have hok:=zer (p:=zoS k) g l.length (yaj _);rw[yaW]at hok;obtain⟨i1,i2⟩:=zwO l st0 v (.inr hv);have hgv:=g v hv;unfold znh;generalize l.foldl stp st0=x at*;have hle:=hok.le;refine⟨i1,λe=>(i2 e).1,λe=> ?_,λe hh=> ?_⟩
 ·obtain⟨a,b,c⟩:=i2 e
  show ltV v (loV x)=false
  unfold loV;rw[yac (by rw[a];decide)]
  split
  ·rename_i s hs
   rw[hs]at b;obtain⟨k1,p1,p2,k2⟩:=hle a;have hk:=(p1.resolve_left k2).1;rw[hs]at hk;obtain⟨t,rfl⟩: ∃t,v= .text t:=by
    have hkv:=(hgv.resolve_left e).1;rw[<- hk]at hkv;cases v with
    |text t=>exact⟨t,rfl⟩
    |_=>simp[Val.kind]at hkv
   split
   ·show lsS t noS=false
    unfold lsS;rw[show noS.toList=[] by rw[ByteArray.toList_eq]]
    cases t.toList <;> rfl
   ·refine zIk (b:= .text s) ?_ b
    rcases zEI s 4 with h | h
    ·exact .inl (by rw[h])
    ·exact .inr h
  ·exact b
 ·obtain⟨a,b,c⟩:=i2 e
  have hh':hiB x=true:=hh
  show ltV (hgV x) v=false
  unfold hgV;rw[yac (by rw[hh'];decide)]
  obtain⟨k1,p1,p2,k2⟩:=hle a;split
  ·rename_i s hs
   have hk:=(p1.resolve_left k2).1;rw[hs]at hk k1;obtain⟨m,hm⟩: ∃m,x.mo= .text m:=by
    have h3:3<=x.mo.kind:=k1;cases e2:x.mo with
    |text t=>exact⟨t,rfl⟩
    |_=>rw[e2]at h3;simp[Val.kind]at h3
   have hab:(abv (zd2 x.mo) 4).2=true:=by
    unfold hiB at hh';rw[yac (by rw[a];decide),hs]at hh'
    simp only at hh';split at hh'
    ·cases hh'
    ·exact hh'
   rw[hm]at c hab ⊢;refine zEK (b:= .text m) ?_ c;rcases zEH hab with h | h
   ·exact .inl (by rw[show zd2 (.text m)=m from rfl]at h ⊢;rw[h])
   ·exact .inr h
  ·exact c
def zwP {k:Nat} {v:Val} (h:zyH k v):chk (cellOf v)=0:=by
 cases v with
 |null=>rfl
 |whole n=>rfl
 |truth b=>cases b <;> rfl
 |text s=>
  have:=h.2.2 s rfl;unfold chk cellOf;rw[yac (by simp),yac (by simp),yac (by simp only;omega)]
def zIm {k:Nat} {l:List Val} (g:zfL k l):BdOk (znh l):=by
 obtain⟨v,w,h1,h2,h3,h4,h5⟩:=zr9 g;rw[<- zzK]at h1 h2 h3 h4;have e1:(znh l).lo=v:=zfB h1;have e2:(znh l).hg=w:=zfB h2;have h3':(znh l).has=true->zyH k v:=h3;have h4':(znh l).has=true->(znh l).hi=true->zyH k w:=h4;constructor
 ·cases a:(znh l).has with
  |true=>rw[e1];exact zwP (h3' a)
  |false=>
   have a':(l.foldl stp st0).has=false:=a;have:(znh l).lo= .null:=by
    show loV _=_
    unfold loV;rw[yag a']
   rw[this];rfl
 ·cases a:(znh l).hi with
  |true=>
   have b:(znh l).has=true:=by
    cases b:(znh l).has with
    |true=>rfl
    |false=>
     have b':(l.foldl stp st0).has=false:=b;have:hiB (l.foldl stp st0)=false:=by unfold hiB;rw[yag b']
     rw[show (znh l).hi=hiB (l.foldl stp st0) from rfl,this]at a;cases a
   rw[e2];exact zwP (h4' b a)
  |false=>
   have a':hiB (l.foldl stp st0)=false:=a;have:(znh l).hg= .null:=by
    show hgV _=_
    unfold hgV;rw[yag a']
   rw[this];rfl
end Go.Am.Ab
namespace Go.Am.Ab
open Go.Proofs
set_option maxHeartbeats 4000000
set_option maxRecDepth 4000
def M3.has (m:M3) (e:Nat):Prop:=(e=0/\m.n=true)\/(e=1/\m.u=true)\/(e=2/\m.y=true)
def zA2 {m k:M3} {a b:Nat} (h:m.has a) (g:k.has b):(boA m k).has (min a b):=by
 unfold M3.has boA at*;obtain⟨m1,m2,m3⟩:=m;obtain⟨k1,k2,k3⟩:=k;simp only at*;rcases h with ⟨rfl,rfl⟩ | ⟨rfl,rfl⟩ | ⟨rfl,rfl⟩ <;> rcases g with ⟨rfl,rfl⟩ | ⟨rfl,rfl⟩ | ⟨rfl,rfl⟩ <;> simp
def zA3 {m k:M3} {a b:Nat} (h:m.has a) (g:k.has b):(boO m k).has (max a b):=by
 unfold M3.has boO at*;obtain⟨m1,m2,m3⟩:=m;obtain⟨k1,k2,k3⟩:=k;simp only at*;rcases h with ⟨rfl,rfl⟩ | ⟨rfl,rfl⟩ | ⟨rfl,rfl⟩ <;> rcases g with ⟨rfl,rfl⟩ | ⟨rfl,rfl⟩ | ⟨rfl,rfl⟩ <;> simp
def zyO {m:M3} {a:Nat} (h:m.has a):m.flip.has (2 - a):=by
 unfold M3.has M3.flip at*;rcases h with ⟨rfl,h⟩ | ⟨rfl,h⟩ | ⟨rfl,h⟩ <;> simp[h]
def zkK (m:M3) (c:Bool) (h0:c=false->m.n=true) (h2:c=true->m.y=true):m.has (ltB c):=by
 cases c with
 |false=>exact .inl ⟨rfl,h0 rfl⟩
 |true=>exact .inr (.inr ⟨rfl,h2 rfl⟩)
def zwQ {op:Nat} {w x:Val} {b:Bd} (ho:op=1\/op=2\/op=3\/op=4\/op=5) (h:BdIn b x):(myL op w b).has (evL op w x):=by
 unfold myL evL
 by_cases h5:op=5
 ·rw[yag h5,yag h5]
  refine zkK _ _ (λe=> ?_) λe=> ?_
  ·exact h.has (ycY e)
  ·exact yaI (h.nul (ycr e))
 rw[yac h5,yac h5]
 by_cases hx:x= .null
 ·rw[yag hx]
  have hnu:=yaI (h.nul hx)
  (repeat' split) <;> exact .inr (.inl ⟨rfl,hnu⟩)
 rw[yac hx,yac (by rw[h.has hx];decide)]
 have hl:=h.lo hx;have hg:=h.hg hx
 by_cases h1:op=1
 ·rw[yag h1,yag h1]
  refine zkK _ _ (λe=> ?_) λe=> ?_
  ·have hne:=ycY e
   simp only
   by_cases c1:w=b.lo
   ·cases hh:b.hi with
    |false=>simp
    |true=>
     by_cases c2:b.hg=w
     ·exfalso
      have q1:=hg hh;rw[c2]at q1;rw[<- c1]at hl;exact hne (by
       by_cases e2:x=w
       ·exact e2
       ·rw[zd1 hl e2]at q1;cases q1)
     ·simp[c2]
   ·simp[c1]
  ·have he:=ycr e
   subst he;simp only[hl];cases hh:b.hi with
   |false=>rfl
   |true=>rw[hg hh];rfl
 rw[yac h1,yac h1]
 by_cases h2:op=2
 ·rw[yag h2,yag h2]
  refine zkK _ _ (λe=> ?_) λe=> ?_
  ·simp only
   cases hh:b.hi with
   |false=>rfl
   |true=>
    cases e3:ltV b.hg w with
    |false=>rfl
    |true=>
     exfalso;have q1:=hg hh
     by_cases e2:b.hg=x
     ·rw[e2,e]at e3;cases e3
     ·have:=zd1 q1 e2
      rw[zcF this e3]at e;cases e
  ·simp only
   by_cases e2:x=b.lo
   ·rw[<- e2];exact e
   ·exact zcF (zd1 hl e2) e
 rw[yac h2,yac h2]
 by_cases h3:op=3
 ·rw[yag h3,yag h3]
  refine zkK _ _ (λe=> ?_) λe=> ?_
  ·have e':ltV w x=true:=by simpa using e
   simp only;cases hh:b.hi with
   |false=>rfl
   |true=>
    simp only[Bool.not_true,yck];have q1:=hg hh
    by_cases e2:b.hg=x
    ·rw[e2];exact e'
    ·exact zcF e' (zd1 q1 e2)
  ·have e':ltV w x=false:=by simpa using e
   simp only;cases e3:ltV w b.lo with
   |false=>rfl
   |true=>
    exfalso
    by_cases e2:x=b.lo
    ·rw[<- e2,e']at e3;cases e3
    ·rw[zcF e3 (zd1 hl e2)]at e';cases e'
 rw[yac h3,yac h3];exact zkK _ _ (λ_=>rfl) λ_=>rfl
def zEL {fs:List Fld} {B:List Bd} {r:List Val} (hr: ∀j,j<fs.length->BdIn (B.getD j bd0) (atV r j)): ∀p:Prd,p.wf->ziU fs p=0->(myP fs B p).has (evP fs r p):=by
 refine Prd.indC (λks hkm ih=> ?_) (λks hkm ih=> ?_) (λk ih=> ?_) (λf j h1 h2=> ?_) (λop f j w ho h1 h2 hw0 hwk h4 hv hc=> ?_)
 ·rw[myP,yag rfl,evP,yag rfl]
  have key: ∀ (ks:List Prd) (m:M3) (n:Nat),(∀k∈ks,(myP fs B k).has (evP fs r k))->m.has n->(myA fs B ks m).has (evA fs r ks n):=by
   intro ks
   induction ks with
   |nil=>intro m n _ h;rw[myA,evA];exact h
   |cons k ks ih2=>
    intro m n hk h;rw[myA,evA];exact ih2 _ _ (λk' h'=>hk k' (by simp[h'])) (zA2 h (hk k (by simp)))
  exact key ks _ _ ih (.inr (.inr ⟨rfl,rfl⟩))
 ·rw[myP,yac (by omega),yag rfl,evP,yac (by omega),yag rfl]
  have key: ∀ (ks:List Prd) (m:M3) (n:Nat),(∀k∈ks,(myP fs B k).has (evP fs r k))->m.has n->(myO fs B ks m).has (evO fs r ks n):=by
   intro ks
   induction ks with
   |nil=>intro m n _ h;rw[myO,evO];exact h
   |cons k ks ih2=>
    intro m n hk h;rw[myO,evO];exact ih2 _ _ (λk' h'=>hk k' (by simp[h'])) (zA3 h (hk k (by simp)))
  exact key ks _ _ ih (.inl ⟨rfl,rfl⟩)
 ·rw[myP,yac (by omega),yac (by omega),yag rfl,myH,evP,yac (by omega),yac (by omega),yag rfl,evH]
  exact zyO ih
 ·rw[myP,yac (by omega),yac (by omega),yac (by omega),evP,yac (by omega),yac (by omega),yac (by omega),h1,yat]
  exact zwQ (by omega) (hr j h2)
 ·rw[myP,yac (by omega),yac (by omega),yac (by omega),evP,yac (by omega),yac (by omega),yac (by omega),h1,yat]
  exact zwQ (by omega) (hr j h2)
def zhs (n:Nat) (g:List (List Val)):List Bd:=(List.range n).map λj=>znh (col g j)
def zbS (fs:List Fld) (p:Prd):List (List (List Val))->List (List Val) × Nat
 |[]=>([],0)
 |g::gs=>if (myP fs (zhs fs.length g) p).y=true then (g.filter (λr=>decide (evP fs r p=2))++(zbS fs p gs).1,(zbS fs p gs).2+1) else zbS fs p gs
def zpf {s:Sch} (hs:SchIs s) {p:Prd} (hp:p.wf) (hc:ziU s.fields p=0) {n:Nat} (hn:1<=n): ∀ (m:Nat) (X:List (List Val)),X.length<=m->(∀r∈X,zfe s r)->(zbS s.fields p (cks n m X)).1=X.filter λr=>decide (evP s.fields r p=2)
 |0,X,h,_=>by
  have:X=[]:=yaE (by omega)
  subst this;rfl
 |m+1,[],_,_=>rfl
 |m+1,x::xs,h,hX=>by
  have hd:((x::xs).drop n).length<=m:=by rw[yax];simp only[yaf]at h ⊢;omega
  have ih:=zpf hs hp hc hn m ((x::xs).drop n) hd λr hr=>hX r (ybF hr)
  have e:cks n (m+1) (x::xs)=(x::xs).take n::cks n m ((x::xs).drop n):=rfl;rw[e];generalize hg:(x::xs).take n=g;have hgm: ∀r∈g,zfe s r:=λr hr=>hX r (yaH (hg ▸ hr))
  have hsplit:(x::xs)=g++(x::xs).drop n:=by rw[<- hg,ybf]
  conv=>rhs;rw[hsplit,List.filter_append]
  generalize (x::xs).drop n=zay at*;rw[zbS];split
  ·rw[ih]
  ·rename_i hy
   rw[ih];have:g.filter (λr=>decide (evP s.fields r p=2))=[]:=by
    rw[List.filter_eq_nil_iff];intro r hr hev;have hev2:evP s.fields r p=2:=ycr hev;have:=zEL (B:=zhs s.fields.length g) (r:=r) (fs:=s.fields) (λj hj=>by
     have e1:(zhs s.fields.length g).getD j bd0=znh (col g j):=by
      simp[zhs,yas,hj]
     rw[e1];exact zIl (zdb hgm hj) (List.mem_map_of_mem hr)) p hp hc
    rw[hev2]at this;rcases this with ⟨h,_⟩ | ⟨h,_⟩ | ⟨_,h⟩
    ·omega
    ·omega
    ·exact hy h
   rw[this];rfl
def zfg (fs:List Fld) (p:Prd): ∀gs,(zbS fs p gs).2<=gs.length
 |[]=>yaj _
 |g::gs=>by
  have:=zfg fs p gs;rw[zbS];split
  ·simp only[yaf];omega
  ·simp only[yaf];omega
end Go.Am.Ab
