/- What bytes of a list are read as: plain law. -/
import Derived.Test.YtibdiacpdmhmnaaGreatDoorRefInts
set_option linter.all false
namespace Go.Am.Ab
open Go.Proofs
set_option maxHeartbeats 4000000
inductive PR (α:Type) where
 |err (e:Nat)
 |ok (a:α) (r:List UInt8)
def PR.map {α β:Type} (f:α->β):PR α->PR β
 |.err e=> .err e
 |.ok a r=> .ok (f a) r
@[simp] def PR.map_err {α β:Type} (f:α->β) (e:Nat):(PR.err e:PR α).map f= .err e:=rfl
@[simp] def PR.map_ok {α β:Type} (f:α->β) (a:α) (r:List UInt8):(PR.ok a r).map f= .ok (f a) r:=rfl
def PR.map_map {α β γ:Type} (f:α->β) (g:β->γ) (p:PR α):(p.map f).map g=p.map (λa=>g (f a)):=by cases p <;> rfl
def PR.map_id {α:Type} {f:α->α} (h: ∀a,f a=a) (p:PR α):p.map f=p:=by
 cases p with
 |err e=>rfl
 |ok a r=>simp[h]
def zsG (b:List UInt8):PR Nat:=if (get b).2.2=0 then .ok (get b).1 (b.drop (get b).2.1) else .err (get b).2.2
def zpx (b:List UInt8):PR Int:=if (get b).2.2=0 then .ok (zag (get b).1) (b.drop (get b).2.1) else .err (get b).2.2
def zls (dl:Bool):Nat->Int->List UInt8->PR (List Int)
 |0,_,b=> .ok [] b
 |k+1,a,b=>
  match zpx b with
  |.err e=> .err e
  |.ok x r=>(zls dl k (if dl then IntKind.i64.wrap (x+a) else x) r).map ((if dl then IntKind.i64.wrap (x+a) else x):: ·)
def zgq:Nat->Nat->List UInt8->PR (List Int)
 |_,0,b=> .ok [] b
 |0,_,_=> .err 40
 |f+1,m+1,b=>
  match zpx b with
  |.err e=> .err e
  |.ok x r=>
   match zsG r with
   |.err e=> .err e
   |.ok k r2=>if k=0\/m+1<k then .err 40 else (zgq f (m+1 - k) r2).map (List.replicate k x++ ·)
def zi2:Nat->Int->List UInt8->PR (List Int)
 |0,_,b=> .ok [] b
 |k+1,a,b=>
  match zsG b with
  |.err e=> .err e
  |.ok d r=>if d=0\/9223372036854775807<a+d then .err 40 else (zi2 k (a+d) r).map ((a+d):: ·)
def zcR (n w:Nat) (b:List UInt8):PR (List Nat):=
 if b.length<(n*w+7) / 8 then .err 30 else if (n*w+7) / 8<b.length then .err 32 else if num b<2 ^ (n*w) then .ok (ups w (num b) n) [] else .err 40
def zhX (many:Nat) (b:List UInt8):PR (List Int):=
 if many=0 then .ok [] b else
 match zpx b with
 |.err e=> .err e
 |.ok x r=>(zi2 (many - 1) x r).map (x:: ·)
def zq7 (n many:Nat) (u:List Int) (b:List UInt8):PR (List Int):=
 if n=0 then .ok [] b else
 match zcR n (zbn (many - 1)) b with
 |.err e=> .err e
 |.ok p r=>if ∀q∈p,q<many then .ok (p.map (at' u)) r else .err 40
def zlt (n:Nat) (b:List UInt8):PR (List Int):=
 match zsG b with
 |.err e=> .err e
 |.ok many r=>
  if n<many\/many=0/\0<n then .err 40 else
  match zhX many r with
  |.err e=> .err e
  |.ok u r2=>zq7 n many u r2
def zfu (n:Nat) (b:List UInt8):PR (List Int):=
 if n=0 then .ok [] b else
 match zpx b with
 |.err e=> .err e
 |.ok x r=>
  match zsG r with
  |.err e=> .err e
  |.ok w r2=>
   if 64<w then .err 40 else
   (zcR n w r2).map (λp=>p.map λ(q:Nat)=>IntKind.i64.wrap (x+q))
def zha (c n:Nat) (b:List UInt8):PR (List Int):=match c with
 |0=>zls false n 0 b
 |1=>zls true n 0 b
 |2=>zgq n n b
 |3=>zlt n b
 |_=>zfu n b
def zCi (c n:Nat) (b:List UInt8):List Int × Nat:=
 match zha c n b with
 |.err e=>([],e)
 |.ok l r=>if r≠[] then ([],32) else if zhH c l=b then (l,0) else ([],40)
def zcC (b:List UInt8) (n:Int):List Int × Nat:=
 if n<0\/256<n then ([],1) else
 match b with
 |[]=>([],30)
 |c::r=>if 4<c.toNat then ([],50) else zCi c.toNat n.toNat r
def zhJ: ∀ (b:List UInt8) (i n:Nat),(zb0 i n b).2.1<=i+b.length
 |[],_,_=>by simp[zb0]
 |c::r,i,n=>by
  have:=zhJ r (i+1) (n+(c.toNat % 128)*2 ^ (7*i));rw[zb0];simp only[yag];split
  ·simp
  ·split
   ·split
    ·simp
    ·simp only;omega
   ·omega
def ze9 (b:List UInt8):(get b).2.1<=b.length:=by
 have:=zhJ b 0 0;unfold get;omega
def zi3: ∀ (b:List UInt8) (i n:Nat),(zb0 i n b).2.2=0\/(zb0 i n b)=(0,0,30)\/(zb0 i n b)=(0,0,31)
 |[],_,_=>by simp[zb0]
 |c::r,i,n=>by
  have:=zi3 r (i+1) (n+(c.toNat % 128)*2 ^ (7*i));rw[zb0];split
  ·simp
  ·split
   ·split
    ·simp
    ·simp
   ·exact this
def zwX (b:List UInt8):(get b).2.2=0\/get b=(0,0,30)\/get b=(0,0,31):=zi3 b 0 0
def zkF {n:Nat} (h:n<18446744073709551616):zal (zag n):=by
 unfold zal zag;split <;> omega
def zlu {b r:List UInt8} {x:Int} (h:zpx b= .ok x r):zal x:=by
 unfold zpx at h;split at h
 ·cases h;exact zkF (zdq b)
 ·cases h
end Go.Am.Ab
namespace Go.Am.Ab
set_option maxHeartbeats 4000000
end Go.Am.Ab
namespace Go.Am.Ab
set_option maxHeartbeats 4000000
end Go.Am.Ab
namespace Go.Am.Ab
set_option maxHeartbeats 4000000
def PR.map_inv {α β:Type} {f:α->β} {p:PR α} {b:β} {r:List UInt8} (h:p.map f= .ok b r): ∃a,p= .ok a r/\f a=b:=by
 cases p with
 |err e=>cases h
 |ok a r'=>cases h;exact⟨a,rfl,rfl⟩
def zop: ∀ (k:Nat) (dl:Bool) (a:Int) (b r:List UInt8) (l:List Int),zls dl k a b= .ok l r->l.length=k/\ ∀n∈l,zal n
 |0,dl,a,b,r,l,h=>by cases h;simp
 |k+1,dl,a,b,r,l,h=>by
  rw[zls]at h;split at h
  ·cases h
  ·rename_i x r2 hx
   obtain⟨l2,h2,rfl⟩:=PR.map_inv h;obtain⟨h3,h4⟩:=zop k dl _ _ _ _ h2;refine⟨by simp[h3],λn hn=> ?_⟩
   rcases List.mem_cons.1 hn with rfl | hn
   ·cases dl with
    |true=>exact zec _
    |false=>exact zlu hx
   ·exact h4 n hn
def zpy: ∀ (f m:Nat) (b r:List UInt8) (l:List Int),m<=f->zgq f m b= .ok l r->l.length=m/\ ∀n∈l,zal n
 |f,0,b,r,l,_,h=>by cases f <;> (cases h;simp)
 |0,m+1,b,r,l,hf,h=>by omega
 |f+1,m+1,b,r,l,hf,h=>by
  rw[zgq]at h;split at h
  ·cases h
  ·rename_i x r2 hx
   split at h
   ·cases h
   ·rename_i k r3 hk
    split at h
    ·cases h
    ·rename_i hkm
     obtain⟨l2,h2,rfl⟩:=PR.map_inv h;obtain⟨h3,h4⟩:=zpy f (m+1 - k) _ _ _ (by omega) h2
     refine⟨by simp[h3];omega,λn hn=> ?_⟩
     rcases List.mem_append.1 hn with hn | hn
     ·rw[(List.mem_replicate.1 hn).2];exact zlu hx
     ·exact h4 n hn
def zpz: ∀ (k:Nat) (a:Int) (b r:List UInt8) (l:List Int),zal a->zi2 k a b= .ok l r->l.length=k/\ ∀n∈l,zal n
 |0,a,b,r,l,_,h=>by cases h;simp
 |k+1,a,b,r,l,ha,h=>by
  rw[zi2]at h;split at h
  ·cases h
  ·rename_i d r2 hd
   split at h
   ·cases h
   ·rename_i hc
    obtain⟨l2,h2,rfl⟩:=PR.map_inv h;have had:zal (a+d):=by unfold zal at ha ⊢;omega
    obtain⟨h3,h4⟩:=zpz k _ _ _ _ had h2;refine⟨by simp[h3],λn hn=> ?_⟩
    rcases List.mem_cons.1 hn with rfl | hn
    ·exact had
    ·exact h4 n hn
def zu6 {many:Nat} {b r:List UInt8} {l:List Int} (h:zhX many b= .ok l r):l.length=many/\ ∀n∈l,zal n:=by
 unfold zhX at h;split at h
 ·cases h;simp_all
 ·rename_i h0
  split at h
  ·cases h
  ·rename_i x r2 hx
   obtain⟨l2,h2,rfl⟩:=PR.map_inv h;obtain⟨h3,h4⟩:=zpz _ _ _ _ _ (zlu hx) h2;refine⟨by simp[h3];omega,λn hn=> ?_⟩
   rcases List.mem_cons.1 hn with rfl | hn
   ·exact zlu hx
   ·exact h4 n hn
def zkG {n w:Nat} {b r:List UInt8} {p:List Nat} (h:zcR n w b= .ok p r):r=[]/\p.length=n:=by
 unfold zcR at h;split at h
 ·cases h
 ·split at h
  ·cases h
  ·split at h
   ·cases h;simp
   ·cases h
def zu7 {n:Nat} {b r:List UInt8} {l:List Int} (h:zlt n b= .ok l r):l.length=n/\ ∀n∈l,zal n:=by
 unfold zlt at h;split at h
 ·cases h
 ·rename_i many r1 hm
  split at h
  ·cases h
  ·rename_i hc
   split at h
   ·cases h
   ·rename_i u r2 hu
    obtain⟨u1,u2⟩:=zu6 hu;unfold zq7 at h;split at h
    ·cases h;simp_all
    ·split at h
     ·cases h
     ·rename_i p r3 hp
      split at h
      ·rename_i hq
       cases h;refine⟨by simp[(zkG hp).2],λx hx=> ?_⟩
       rw[ycR]at hx;obtain⟨q,hq1,rfl⟩:=hx;have:=hq q hq1;rw[<- get_at (by omega:q<u.length)]
       exact u2 _ (yal _)
      ·cases h
def zsH {n:Nat} {b r:List UInt8} {l:List Int} (h:zfu n b= .ok l r):l.length=n/\ ∀n∈l,zal n:=by
 unfold zfu at h;split at h
 ·cases h;simp_all
 ·split at h
  ·cases h
  ·split at h
   ·cases h
   ·split at h
    ·cases h
    ·obtain⟨p,h2,rfl⟩:=PR.map_inv h
     refine⟨by simp[(zkG h2).2],λx hx=> ?_⟩
     rw[ycR]at hx;obtain⟨q,_,rfl⟩:=hx;exact zec _
def zlv {c n:Nat} {b r:List UInt8} {l:List Int} (h:zha c n b= .ok l r):l.length=n/\ ∀n∈l,zal n:=by
 unfold zha at h;split at h
 ·exact zop _ _ _ _ _ _ h
 ·exact zop _ _ _ _ _ _ h
 ·exact zpy _ _ _ _ _ (yab _) h
 ·exact zu7 h
 ·exact zsH h
def zh3 {b:List UInt8} {e:Nat} (h:zsG b= .err e):e≠0:=by
 unfold zsG at h;split at h
 ·cases h
 ·cases h;assumption
def zh4 {b:List UInt8} {e:Nat} (h:zpx b= .err e):e≠0:=by
 unfold zpx at h;split at h
 ·cases h
 ·cases h;assumption
def PR.map_err_inv {α β:Type} {f:α->β} {p:PR α} {e:Nat} (h:p.map f= .err e):p= .err e:=by
 cases p with
 |err e=>cases h;rfl
 |ok a r'=>cases h
def zlw: ∀ (k:Nat) (dl:Bool) (a:Int) (b:List UInt8) (e:Nat),zls dl k a b= .err e->e≠0
 |0,dl,a,b,e,h=>by cases h
 |k+1,dl,a,b,e,h=>by
  rw[zls]at h;split at h
  ·rename_i h1;cases h;exact zh4 h1
  ·exact zlw k dl _ _ _ (PR.map_err_inv h)
def zmO: ∀ (f m:Nat) (b:List UInt8) (e:Nat),zgq f m b= .err e->e≠0
 |f,0,b,e,h=>by cases f <;> cases h
 |0,m+1,b,e,h=>by cases h;decide
 |f+1,m+1,b,e,h=>by
  rw[zgq]at h;split at h
  ·rename_i h1;cases h;exact zh4 h1
  ·split at h
   ·rename_i h1;cases h;exact zh3 h1
   ·split at h
    ·cases h;decide
    ·exact zmO f _ _ _ (PR.map_err_inv h)
def zmP: ∀ (k:Nat) (a:Int) (b:List UInt8) (e:Nat),zi2 k a b= .err e->e≠0
 |0,a,b,e,h=>by cases h
 |k+1,a,b,e,h=>by
  rw[zi2]at h;split at h
  ·rename_i h1;cases h;exact zh3 h1
  ·split at h
   ·cases h;decide
   ·exact zmP k _ _ _ (PR.map_err_inv h)
def zed {n w:Nat} {b:List UInt8} {e:Nat} (h:zcR n w b= .err e):e≠0:=by
 unfold zcR at h;split at h
 ·cases h;decide
 ·split at h
  ·cases h;decide
  ·split at h
   ·cases h
   ·cases h;decide
def zsI {many:Nat} {b:List UInt8} {e:Nat} (h:zhX many b= .err e):e≠0:=by
 unfold zhX at h;split at h
 ·cases h
 ·split at h
  ·rename_i h1;cases h;exact zh4 h1
  ·exact zmP _ _ _ _ (PR.map_err_inv h)
def zsJ {n many:Nat} {u:List Int} {b:List UInt8} {e:Nat} (h:zq7 n many u b= .err e):e≠0:=by
 unfold zq7 at h;split at h
 ·cases h
 ·split at h
  ·rename_i h1;cases h;exact zed h1
  ·split at h
   ·cases h
   ·cases h;decide
def zsK {n:Nat} {b:List UInt8} {e:Nat} (h:zlt n b= .err e):e≠0:=by
 unfold zlt at h;split at h
 ·rename_i h1;cases h;exact zh3 h1
 ·split at h
  ·cases h;decide
  ·split at h
   ·rename_i h1;cases h;exact zsI h1
   ·exact zsJ h
def zq8 {n:Nat} {b:List UInt8} {e:Nat} (h:zfu n b= .err e):e≠0:=by
 unfold zfu at h;split at h
 ·cases h
 ·split at h
  ·rename_i h1;cases h;exact zh4 h1
  ·split at h
   ·rename_i h1;cases h;exact zh3 h1
   ·split at h
    ·cases h;decide
    ·exact zed (PR.map_err_inv h)
def zmQ {c n:Nat} {b:List UInt8} {e:Nat} (h:zha c n b= .err e):e≠0:=by
 unfold zha at h;split at h
 ·exact zlw _ _ _ _ _ h
 ·exact zlw _ _ _ _ _ h
 ·exact zmO _ _ _ _ h
 ·exact zsK h
 ·exact zq8 h
end Go.Am.Ab
