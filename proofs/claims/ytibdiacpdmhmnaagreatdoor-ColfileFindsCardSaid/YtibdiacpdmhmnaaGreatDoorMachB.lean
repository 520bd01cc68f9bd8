/- The abstract machine: memory. -/
import Derived.Laws.MakeOwn
import Derived.Laws.IdiomCopy
import GoSem.Builtin.Copy
import GoSem.Builtin.Clear
import Derived.Test.YtibdiacpdmhmnaaGreatDoorMachA
set_option linter.all false
namespace Go.Am
section
variable {X:Nat->Nat->Prop} {ρ ρ' ρ'':Places} {h h' h'':List Obj} {w w' w'':World} {P:Program}
def zav {α:Type} {cs vs:List α} {off:Nat} (hle:off+vs.length<=cs.length) (i:Nat):
 (putCells cs off vs)[i]? =if off<=i/\i<off+vs.length then vs[i - off]? else cs[i]? :=by
 unfold putCells;have e1:(cs.take off).length=off:=by simp;omega
 rcases ybL i off with h1 | h1
 ·rw[yac (by omega),yan,yar (by omega),yaU,yag h1]
 ·rcases ybL i (off+vs.length) with h2 | h2
  ·rw[yag ⟨h1,h2⟩,yar (by simp;omega),yal (by omega),e1]
  ·rw[yac (by omega),yal (by simp;omega),ya1]
   congr 1;simp only[yae,e1];omega
def zaw {α:Type} {cs vs:List α} {off:Nat} (hle:off+vs.length<=cs.length):(putCells cs off vs).length=cs.length:=by
 simp[putCells];omega
def zaM.put {us us':List Value} {cs cs':List V} {off:Nat} (hc:zaM X ρ h w us cs) (hc':zaM X ρ h w us' cs') (hle:off+cs'.length<=cs.length):
 zaM X ρ h w (putCells us off us') (putCells cs off cs'):=by
 have hle':off+us'.length<=us.length:=by rw[hc.1,hc'.1];exact hle
 refine⟨by rw[zaw hle,zaw hle',hc.1],λj c hj=> ?_⟩
 rw[zav hle]at hj;rw[zav hle',hc'.1];split at hj
 ·rename_i hr
  rw[yag hr];exact hc'.2 _ c hj
 ·rename_i hr
  rw[yac hr];exact hc.2 _ c hj
def zjt (off:Nat): ∀ (vs:List Value) (k:Nat) (cs:Array Value),off+k+vs.length<=cs.size->
 ((vs.zipIdx k).foldl (λ(cs:Array Value) (p:Value × Nat)=>cs.setIfInBounds (off+p.2) p.1) cs).toList=putCells cs.toList (off+k) vs
 |[],k,cs,_=>by simp[putCells]
 |v::vs,k,cs,hle=>by
  simp only[yaf]at hle;simp only[List.zipIdx_cons,ybc];rw[zjt off vs (k+1) _ (by simp;omega)]
  apply ybV;intro i;rw[zav (by simp;omega),zav (by simp;omega)]
  simp only[yaf,ydt];rcases ycA i (off+k) with h1 | h1 | h1
  ·rw[yac (by omega),yac (by omega),ybw (by omega)]
  ·subst h1
   rw[yac (by omega),yag (by omega),ybh (by simp;omega)]
   simp
  ·by_cases h2:i<off+k+(vs.length+1)
   ·rw[yag (by omega),yag (by omega),show i - (off+k)=(i - (off+(k+1)))+1 by omega,ybs]
   ·rw[yac (by omega),yac (by omega),ybw (by omega)]
def zhF (zas:Nat->Option (Nat × Nat)): ∀ (vp:List (Nat × V)) (rp:List (Nat × Value)) (cs cs':List V) (us:Array Value),zcq zas cs vp=some cs'->zaM X ρ h w us.toList cs->
 rp.length=vp.length->(∀ (j:Nat) (p:Nat × V),vp[j]? =some p-> ∃u,rp[j]? =some (p.1,u)/\zat X ρ h w u p.2)->
 ∃us',Instr.fill zas us rp=some us'/\zaM X ρ h w us'.toList cs'
 |[],rp,cs,cs',us,hf,hc,hl,_=>by
  simp only[zcq,yaa]at hf;subst hf;have:rp=[]:=yaE (by simpa using hl)
  subst this;exact⟨us,rfl,hc⟩
 |(i,v)::vp,rp,cs,cs',us,hf,hc,hl,hp=>by
  simp only[zcq]at hf;split at hf
  ·rename_i off size hpl
   split at hf
   ·rename_i hcond
    obtain⟨h1,h2,h3⟩:=hcond;cases rp with
    |nil=>simp at hl
    |cons q rp=>
     obtain⟨u,hu1,hu2⟩:=hp 0 (i,v) (by simp)
     simp only[yaF,yaa]at hu1;subst hu1;have hcu:=hu2.cells h3;have hsz:u.cells.size=size:=by rw[cells_length hu2 h3,h1]
     have hus:off+size<=us.size:=by have:=hc.1;simp only[ybi]at this;omega
     have hput:=zjt off u.cells.toList 0 us (by simp only[ybi];omega)
     obtain⟨us',e1,e2⟩:=zhF zas vp rp _ cs' (u.cells.zipIdx.foldl (λcs (c,j)=>cs.setIfInBounds (off+j) c) us) hf
      (by
        have e3:(u.cells.zipIdx.foldl (λ(cs:Array Value) (x:Value × Nat)=>cs.setIfInBounds (off+x.2) x.1) us).toList=putCells us.toList off u.cells.toList:=by
         rw[<- Array.foldl_toList,Array.toList_zipIdx];simpa using hput
        show zaM X ρ h w (u.cells.zipIdx.foldl (λ(cs:Array Value) (x:Value × Nat)=>cs.setIfInBounds (off+x.2) x.1) us).toList _
        rw[e3];exact hc.put hcu (by omega))
      (by simpa using hl) (λj p hj=>by simpa using hp (j+1) p (by simpa using hj))
     refine⟨us', ?_,e2⟩;simp only[Instr.fill,hpl,hsz];rw[yac (by simp;omega)]
     exact e1
   ·cases hf
  ·cases hf
def zqT {α β:Type} (f:α->Sem β) (g:α->β): ∀ (l:List α),(∀x∈l,(f x).run P w= .ok (g x) w)->(l.mapM f).run P w= .ok (l.map g) w
 |[],_=>rfl
 |x::l,hf=>by
  simp[ya2,hf x (by simp),zqT f g l λy hy=>hf y (by simp[hy])]
def znE {t:TypeId} {parts:List (Nat × V)} {x:V} {rp:List (Nat × Value)} (hx:zbc P t parts=some x) (hl:rp.length=parts.length)
 (hp: ∀ (j:Nat) (p:Nat × V),parts[j]? =some p-> ∃u,rp[j]? =some (p.1,u)/\zat X ρ h w u p.2):
 ∃u,(Instr.build t rp.toArray).run P w= .ok u w/\zat X ρ h w u x:=by
 unfold zbc at hx;split at hx
 ·rename_i z fs hz hs
  split at hx
  ·rename_i hok
   simp only[yaw]at hok;simp only[yab]at hx;obtain⟨cs,hf,rfl⟩:=hx;have hc:zaM X ρ h w z.cells.toList (z.cells.toList.map zaD):=zb3 _ hok.1;have hsz: ∀f∈fs.toList, ∃n,sizeOf? P f.type=some n:=λf hf=>by
    have:=List.all_eq_true.1 hok.2 f hf;exact Option.isSome_iff_exists.1 this
   obtain⟨us',e1,e2⟩:=zhF _ _ rp _ _ z.cells hf hc hl hp;have hm:(fs.mapM λf=>do pure (f.offset,<- sizeOf f.type):Sem (Array (Nat × Nat))).run P w= .ok (fs.map λf=>(f.offset,(sizeOf? P f.type).getD 0)) w:=by
    rw[ydC,Sem.run_map,zqT _ (λf=>(f.offset,(sizeOf? P f.type).getD 0)) _ λf hf=>by
     obtain⟨n,hn⟩:=hsz f hf;simp[zaz hn,hn]]
    simp only[Result.andThen_ok];congr 1;apply ycO;simp
   have hplace: ∀l us,Instr.fill (λ(i:Nat)=>(fs[i]?).bind λ(f:Field)=>(sizeOf? P f.type).map λs=>(f.offset,s)) us l=
    Instr.fill (λ(i:Nat)=>(fs.map λ(f:Field)=>(f.offset,(sizeOf? P f.type).getD 0))[i]?) us l:=by
    have:(λ(i:Nat)=>(fs[i]?).bind λ(f:Field)=>(sizeOf? P f.type).map λs=>(f.offset,s))=(λ(i:Nat)=>(fs.map λ(f:Field)=>(f.offset,(sizeOf? P f.type).getD 0))[i]?):=by
     funext i;simp only[yct];cases hfi:fs[i]? with
     |none=>rfl
     |some f=>
      obtain⟨n,hn⟩:=hsz f (by simpa using Array.mem_of_getElem? hfi)
      simp[hn]
    intro l us;rw[this]
   rw[hplace]at e1;refine⟨.agg us', ?_,zeI e2⟩;simp only[Instr.build,Sem.run_bind,zbt hz,Result.andThen_ok,run_underlying hs,hm];rw[show Instr.fill _ z.cells rp.toArray.toList=some us' from e1]
   rfl
  ·cases hx
 ·rename_i z n e hz hs
  split at hx
  ·rename_i s hsz
   split at hx
   ·rename_i hok
    simp only[yab]at hx;obtain⟨cs,hf,rfl⟩:=hx;have hc:zaM X ρ h w z.cells.toList (z.cells.toList.map zaD):=zb3 _ hok;obtain⟨us',e1,e2⟩:=zhF _ _ rp _ _ z.cells hf hc hl hp;refine⟨.agg us', ?_,zeI e2⟩;simp only[Instr.build,Sem.run_bind,zbt hz,Result.andThen_ok,run_underlying hs,zaz hsz];rw[show Instr.fill _ z.cells rp.toArray.toList=some us' from e1]
    rfl
   ·cases hx
  ·cases hx
 ·cases hx
/-! ### new objects -/
def zeN (o:Array Value) (e:TypeId):zbA (w.alloc (.cells o e)) w.heap.size o.size:=λcs t fz he=>by
 have h1:(w.alloc (.cells o e)).heap[w.heap.size]? =some (.cells o e (0,0)):=heap_alloc_new w _;rw[h1]at he;cases he;exact .inr rfl
def zpy (H:HRel X ρ h w) {us:Array Value} {cs:List V} (e:TypeId) (hc:zaM X ρ h w us.toList cs):
 Stp X ρ h w (ρ++[some (w.heap.size,0)]) (h++[.box cs]) (w.alloc (.cells us e))/\
 zat X (ρ++[some (w.heap.size,0)]) (h++[.box cs]) (w.alloc (.cells us e)) (.pointer (some ⟨w.heap.size,0,none⟩)) (.ptr h.length 0):=by
 obtain⟨h1,h2,h3⟩:=zeG (w':=w.alloc (.cells us e)) H (.box cs) (some (w.heap.size,0)) rfl rfl rfl (by simp) (λb hb=>heap_alloc_old w _ b hb) (λb c e=>by cases e;exact yaj _)
  λhf he=>⟨w.heap.size,0,us,e,(0,0),rfl,heap_alloc_new w _,by simpa using hc.1,zeN us e,λj x hj=>by
   obtain⟨u,k1,k2,k3⟩:=hc.2 j x hj;exact⟨u,by simpa using k1,k2.mono hf he,k3⟩⟩
 refine⟨⟨h1,h2,h3⟩,.box cs,w.heap.size,0,by simp,rfl, ?_,rfl⟩
 rw[<- H.len];simp
def zpz (H:HRel X ρ h w) (hsame:w'.heap=w.heap) (hos:w'.os=w.os) (htape:w'.tape=w.tape) (hout:w'.output=w.output) {us:Array Value} {xs:List D} {sz cap:Nat} (e:TypeId)
 (hsz:0<sz) (hus:us.size=cap*sz) (hle:xs.length<=cap) (hcap:cap<=maxLen) (hx: ∀x∈xs,x.cells.length=sz)
 (hc: ∀ (j:Nat) (x:D),(flat xs)[j]? =some x-> ∃u,us[j]? =some u/\Rep (Mut X ρ h) w u x/\x.isCell=true):
 Stp X ρ h w (ρ++[some (w.heap.size,cap)]) (h++[.arr sz xs 0]) (w'.alloc (.cells us e))/\
 zat X (ρ++[some (w.heap.size,cap)]) (h++[.arr sz xs 0]) (w'.alloc (.cells us e)) (.slice (some ⟨w.heap.size,0,none⟩) xs.length cap) (.arr h.length xs.length):=by
 have hsize:w'.heap.size=w.heap.size:=by rw[hsame]
 obtain⟨h1,h2,h3⟩:=zeG (w':=w'.alloc (.cells us e)) H (.arr sz xs 0) (some (w.heap.size,cap)) hos htape hout (by simp[hsize])
  (λb hb=>by rw[heap_alloc_old w' _ b (by omega),hsame]) (λb c e=>by cases e;exact yaj _)
  λhf he=>⟨yai _,us,e,(0,0),by rw[<- hsize];exact heap_alloc_new w' _,hus,hle,hcap,hsz,hx,by rw[<- hsize];exact zeN us e,λj x hj=>by
   obtain⟨u,k1,k2,k3⟩:=hc j x hj;exact⟨u,k1,k2.mono hf.imm,k3⟩⟩
 refine⟨⟨h1,h2,h3⟩,⟨_,_,_,rfl⟩,sz,xs,0,some (w.heap.size,cap),by simp, ?_,yaj _,λ_=>rfl⟩
 rw[<- H.len];simp
def zpA (H:HRel X ρ h w) (sz:Nat):Stp X ρ h w (ρ++[none]) (h++[.arr sz [] 0]) w/\zat X (ρ++[none]) (h++[.arr sz [] 0]) w (.slice none 0 0) (.arr h.length 0):=by
 obtain⟨h1,h2,h3⟩:=zeG (w':=w) H (.arr sz [] 0) none rfl rfl rfl (yaj _) (λ_ _=>rfl) (λb c e=>by cases e) λ_ _=>⟨yai _,rfl⟩
 refine⟨⟨h1,h2,h3⟩,⟨_,_,_,rfl⟩,sz,[],0,none,by simp, ?_,yaj _,λ_=>⟨rfl,none,rfl⟩⟩
 rw[<- H.len];simp
def znF {t:TypeId} {x:V} (hx:zcv P h t=some (x,h')) (H:HRel X ρ h w):
 ∃v ρ' w',(Instr.alloc t true (.tuple #[])).run P w= .ok v w'/\Stp X ρ h w ρ' h' w'/\zat X ρ' h' w' v x:=by
 unfold zcv at hx;split at hx
 ·rename_i z hz
  split at hx
  ·rename_i hok
   simp only[yaa,yad]at hx;obtain⟨rfl,rfl⟩:=hx;obtain⟨h1,h2⟩:=zpy H t (us:=z.cells) (zb3 (ρ:=ρ) (h:=h) (w:=w) z.cells.toList hok);exact⟨_,_,_,by simp[Instr.alloc,zbt hz,newVar,newRow],h1,h2⟩
  ·cases hx
 ·cases hx
def zuq {t:TypeId} {A:V} {v:Value} (hs:A.storable=true) (H:HRel X ρ h w) (hv:zat X ρ h w v A):
 ∃u ρ' w',(Instr.box t v).run P w= .ok u w'/\Stp X ρ h w ρ' (h++[.box A.cells]) w'/\zat X ρ' (h++[.box A.cells]) w' u (.ptr h.length 0):=by
 obtain⟨h1,h2⟩:=zpy H t (us:=v.cells) (hv.cells hs);exact⟨_,_,_,by simp[Instr.box,newVar,newRow],h1,h2⟩
def zfQ {x c:D} {n j:Nat} (hj:(flat (List.replicate n x))[j]? =some c):x.cells[j % x.cells.length]? =some c:=by
 induction n generalizing j with
 |zero=>simp[flat]at hj
 |succ n ih=>
  simp only[flat,yaR,ya5]at hj;rcases ybL j x.cells.length with hlt | hge
  ·rw[yar hlt]at hj
   rw[yaK hlt];exact hj
  ·rw[yal hge]at hj
   have:=ih hj
   rwa [<- Nat.mod_eq_sub_mod hge]at this
def ziR {t:TypeId} {L C x:V} {l c:Value} (hx:zdd P h t L C=some (x,h')) (H:HRel X ρ h w) (hl:zat X ρ h w l L) (hc:zat X ρ h w c C):
 ∃v ρ' w',(Instr.makeSlice t l c).run P w= .ok v w'/\Stp X ρ h w ρ' h' w'/\zat X ρ' h' w' v x:=by
 unfold zdd at hx;split at hx
 ·rename_i e k n k' m hs
  cases hl;cases hc;split at hx
  ·rename_i i zd hi hz
   split at hx
   ·rename_i hcond
    obtain⟨c1,c2,c3,c4,c5,c6⟩:=hcond;simp only[yaa,yad]at hx;obtain⟨rfl,rfl⟩:=hx;obtain⟨z,hz1,hz2⟩:=zgH hz;have hiz:i.zero=some z:=by
     have:=hz1;simp only[zero?,hi,yde]at this;exact this
    obtain⟨n',rfl⟩:=yaC c1;obtain⟨m',rfl⟩:=yaC (Int.le_trans c1 c2);have hm:m'<2147483648:=by omega
    have hb:i.bytes*m'<=65536*2147483648:=ybA c4 (by omega)
    have hb2:(i.bytes:Int)*(m':Int)<=281474976710656:=by
     have:((i.bytes*m':Nat):Int)<=281474976710656:=by omega
     rwa [ybt]at this
    have hr:=run_make (P:=P) w t e i z hs hi hiz k k' n' m' (by omega) c2 hb2 (by omega)
    simp only[yat]at hr ⊢;have hrep:=hz2 (Mut X ρ h) w;obtain⟨q1,q2⟩:=hrep.cells;rw[c6]at q1;obtain⟨s1,s2⟩:=zpz (w':=w) H rfl rfl rfl rfl e (us:=madeCells z.cells (m'*i.size)) (xs:=List.replicate n' zd) (sz:=i.size) (cap:=m') c5 (size_madeCells _ _)
     (by simp;omega) (by simp[maxLen];omega) (λx hx=>by rw[yb7 hx];exact c6)
     (λj c hj=>by
       have hlt:=lt_of_getElem? hj;rw[zau (sz:=i.size) λx hx=>by rw[yb7 hx];exact c6]at hlt
       simp only[ya6]at hlt;have hlt':j<m'*i.size:=ybp hlt (yaG _ (by omega))
       have hcj:=zfQ hj;rw[c6]at hcj;obtain⟨u,k1,k2,k3⟩:=q2 _ c hcj;refine⟨u, ?_,k2,k3⟩;simp only[madeCells,yct];rw[ydl,yag hlt'];simp only[yaM,q1];rw[getElem!_def,k1])
    simp only[ya6]at s2;exact⟨_,_,_,hr,s1,s2⟩
   ·cases hx
  ·cases hx
 ·cases hx
def zju {t:TypeId} {L C x:V} {l c:Value} (hx:zdO P h t L C=some (x,h')) (H:HRel X ρ h w) (hl:zat X ρ h w l L) (hc:zat X ρ h w c C):
 ∃v ρ' w',(Instr.makeSlice t l c).run P w= .ok v w'/\Stp X ρ h w ρ' h' w'/\zat X ρ' h' w' v x:=by
 unfold zdO at hx;split at hx
 ·rename_i e k n k' m hs
  cases hl;cases hc;split at hx
  ·rename_i i hi
   split at hx
   ·rename_i hcond
    obtain⟨c1,rfl,c3,c4,c5,c6⟩:=hcond;simp only[yaa,yad]at hx;obtain⟨rfl,rfl⟩:=hx;simp only[yab]at c6;obtain⟨z,hiz,hzc⟩:=c6;obtain⟨n',rfl⟩:=yaC c1;have hb:i.bytes*n'<=65536*2147483648:=ybA c4 (by omega)
    have hb2:(i.bytes:Int)*(n':Int)<=281474976710656:=by
     have:((i.bytes*n':Nat):Int)<=281474976710656:=by omega
     rwa [ybt]at this
    have hr:=run_make (P:=P) w t e i z hs hi hiz k k' n' n' (by omega) (by omega) hb2 (by omega)
    simp only[yat]at hr ⊢;obtain⟨q1,q2⟩:=zb3 (X:=X) (ρ:=ρ) (h:=h) (w:=w) z.cells.toList (by rw[hzc];rfl)
    rw[hzc]at q1 q2;obtain⟨u,k1,k2,k3⟩:=q2 0 .nilS rfl;have hus:(madeCells z.cells (n'*i.size)).size=n':=by rw[size_madeCells,c5,yb9]
    have hz1:z.cells.size=1:=by simpa using q1
    have hu0:z.cells[0]? =some u:=by simpa using k1
    obtain⟨s1,s2⟩:=zpy (us:=madeCells z.cells (n'*i.size)) (cs:=List.replicate n' .nilS) H e ⟨by simpa using hus,λj c hj=>by
     have hlt:=lt_of_getElem? hj;simp only[ya6]at hlt;rw[ycQ,yag hlt]at hj;cases hj;refine⟨u, ?_,k2,k3⟩;rw[ycj];simp only[madeCells,yct];rw[ydl,yag (by rw[c5];omega)]
     simp only[yaM,hz1,Nat.mod_one];rw[getElem!_def,hu0]⟩
    obtain⟨o,b,c,e1,_,e3,e4⟩:=s2;cases e4;refine⟨_,_,_,hr,s1,List.replicate n' .nilS,_,c,by simp,e3,by simp⟩
   ·cases hx
  ·cases hx
 ·cases hx
end
end Go.Am
namespace Go.Am
section
variable {X:Nat->Nat->Prop} {ρ ρ' ρ'':Places} {h h' h'':List Obj} {w w' w'':World} {P:Program}
/-! ### literals of slices -/
def zqU (size:Nat): ∀ (rp:List (Nat × Value)) (k:Nat) (us:Array Value),(∀ (j:Nat) (p:Nat × Value),rp[j]? =some p->p.1=k+j/\p.2.cells.size=size)->(k+rp.length)*size<=us.size->
 ∃us',Instr.fill (λi=>some (i*size,size)) us rp=some us'/\us'.size=us.size/\(∀j,j<k*size->us'[j]? =us[j]?)/\
  ∀ (j i:Nat) (p:Nat × Value) (u:Value),rp[j]? =some p->p.2.cells[i]? =some u->us'[(k+j)*size+i]? =some u
 |[],k,us,_,_=>⟨us,rfl,rfl,λ_ _=>rfl,λj i p u hj=>by simp at hj⟩
 |p::rp,k,us,hp,hle=>by
  obtain⟨e1,e2⟩:=hp 0 p (by simp)
  simp only[ycu]at e1;simp only[yaf]at hle;have hle1:k*size+size<=us.size:=by
   have:(k+1)*size<=(k+(rp.length+1))*size:=yaG _ (by omega)
   rw[ya8]at this;omega
  have hput:=zjt (k*size) p.2.cells.toList 0 us (by simp only[ybi];omega)
  have hsame:(p.2.cells.zipIdx.foldl (λ(cs:Array Value) (x:Value × Nat)=>cs.setIfInBounds (k*size+x.2) x.1) us).toList=putCells us.toList (k*size) p.2.cells.toList:=by
   rw[<- Array.foldl_toList,Array.toList_zipIdx];simpa using hput
  generalize hus1:p.2.cells.zipIdx.foldl (λ(cs:Array Value) (x:Value × Nat)=>cs.setIfInBounds (k*size+x.2) x.1) us=us1 at hsame
  have hsz1:us1.size=us.size:=by
   have:=congrArg List.length hsame;rw[zaw (by simp only[ybi];omega)]at this
   simpa using this
  have hget: ∀i,us1[i]? =if k*size<=i/\i<k*size+size then p.2.cells[i - k*size]? else us[i]? :=λi=>by
   have:us1[i]? =us1.toList[i]? :=by simp
   rw[this,hsame,zav (by simp only[ybi];omega)]
   simp only[ybi,e2,ycj]
  obtain⟨us',f1,f2,f3,f4⟩:=zqU size rp (k+1) us1 (λj q hj=>by
   obtain⟨g1,g2⟩:=hp (j+1) q (by simpa using hj)
   exact⟨by omega,g2⟩) (by rw[hsz1];refine ya4 ?_ hle;exact yaG _ (by omega))
  refine⟨us', ?_,by omega,λj hj=> ?_,λj i q u hj hu=> ?_⟩
  ·obtain⟨i,v⟩:=p
   simp only at e1 e2;subst e1;simp only[Instr.fill,e2];rw[yac (by simp;omega)]
   show Instr.fill _ (v.cells.zipIdx.foldl (λ(cs:Array Value) (x:Value × Nat)=>cs.setIfInBounds (i*size+x.2) x.1) us) rp=_
   rw[hus1];exact f1
  ·rw[f3 j (by rw[ya8];omega),hget,yac (by omega)]
  ·cases j with
   |zero=>
    simp only[yaF,yaa]at hj;subst hj;have hi:i<size:=by
     rw[<- e2];exact (Array.getElem?_eq_some_iff.1 hu).1
    rw[ycu,f3 (k*size+i) (by rw[ya8];omega),hget,yag (by omega),yaP,hu]
   |succ j=>
    have:=f4 j i q u (by simpa using hj) hu
    rwa [show k+1+j=k+(j+1) by omega]at this
def zir: ∀ {parts:List (Nat × V)} {k:Nat},zhy parts k=true-> ∀ (j:Nat) (p:Nat × V),parts[j]? =some p->p.1=k+j
 |[],_,_,j,p,hj=>by simp at hj
 |(i,v)::r,k,ho,j,p,hj=>by
  simp only[zhy,yaw,ycN]at ho;cases j with
  |zero=>simp at hj;subst hj;exact ho.1
  |succ j=>
   have:=zir ho.2 j p (by simpa using hj)
   omega
def zqV {xs:List D} {sz:Nat} (hs: ∀x∈xs,x.cells.length=sz) (h0:0<sz) {j:Nat} {c:D} (hj:(flat xs)[j]? =some c):
 ∃x,xs[j / sz]? =some x/\x.cells[j % sz]? =some c:=by
 have hlt:=lt_of_getElem? hj;rw[zau hs]at hlt;have hdiv:j / sz<xs.length:=by rw[yb3 h0];exact hlt
 have hx:xs[j / sz]? =some xs[j / sz]:=by simp[hdiv]
 have hlen:=hs xs[j / sz] (by simp)
 have hmod:j % sz<xs[j / sz].cells.length:=by rw[hlen];exact ycC _ h0
 have hc:xs[j / sz].cells[j % sz]? =some xs[j / sz].cells[j % sz]:=by simp[hmod]
 refine⟨_,hx, ?_⟩;have:=zfk hs hx hc;rw[ybW,ycR]at this;rw[this]at hj;rw[hc];exact hj
def zhG {t:TypeId} {len:Nat} {parts:List (Nat × V)} {x:V} {rp:List (Nat × Value)} (hx:zb9 P h t len parts=some (x,h')) (H:HRel X ρ h w) (hl:rp.length=parts.length)
 (hp: ∀ (j:Nat) (p:Nat × V),parts[j]? =some p-> ∃u,rp[j]? =some (p.1,u)/\zat X ρ h w u p.2):
 ∃v ρ' w',(Instr.buildSlice t len rp.toArray).run P w= .ok v w'/\Stp X ρ h w ρ' h' w'/\zat X ρ' h' w' v x:=by
 unfold zb9 at hx;split at hx
 ·rename_i e hs
  split at hx
  ·rename_i sz z hsz hz
   split at hx
   ·rename_i hcond
    obtain⟨c1,c2,c3,c4⟩:=hcond;split at hx
    ·rename_i xs h1 hxs
     split at hx
     ·rename_i hall
      simp only[yaa,yad]at hx;obtain⟨rfl,rfl⟩:=hx;obtain⟨st,e1,r1⟩:=zeH (ρ:=ρ) (w:=w) (parts.map (·.2)) h (λj=>(rp.getD j default).2) xs h1 hxs H λj c hj=>by
       simp only[yau,yab]at hj;obtain⟨p,hpj,rfl⟩:=hj;obtain⟨u,hu1,hu2⟩:=hp j p hpj;simpa[List.getD,hu1]using hu2
      simp only[yah]at e1;have hcells:=zbL hall;have hxlen:xs.length=len:=by omega
      have hrp: ∀ (j:Nat) (p:Nat × Value),rp[j]? =some p-> ∃y,xs[j]? =some y/\p.1=0+j/\Rep (Mut X ρ h1) w p.2 y:=λj p hj=>by
       have hjlt:=lt_of_getElem? hj;have hj2:j<parts.length:=by omega
       have hj3:j<xs.length:=by omega
       obtain⟨u,hu1,_⟩:=hp j parts[j] (by simp[hj2])
       rw[hj]at hu1;simp only[yaa]at hu1;refine⟨xs[j],by simp[hj3], ?_, ?_⟩
       ·rw[hu1]
        exact zir c4 j parts[j] (by simp[hj2])
       ·have:=r1 j xs[j] (by simp[hj3])
        simpa[List.getD,hj]using this
      have hsize: ∀ (z:Array Value),((Array.range (len*sz)).map (z[·% z.size]!)).size=len*sz:=λz=>by simp
      obtain⟨us',f1,f2,_,f4⟩:=zqU sz rp 0 ((Array.range (len*sz)).map ((if len*sz=0 then #[] else z.cells)[·% (if len*sz=0 then #[] else z.cells).size]!)) (λj p hj=>by
       obtain⟨y,hy,hi,hr⟩:=hrp j p hj;exact⟨hi,by rw[hr.cells.1,hcells y (yay hy)]⟩) (by rw[hsize,hl,c2,yaX];exact yaj _)
      rw[hsize]at f2;obtain⟨s1,s2⟩:=zpz (w':=w) st.rel rfl rfl rfl rfl e (us:=us') (xs:=xs) (sz:=sz) (cap:=len) c1 f2 (by omega)
       (by simp only[maxLen];have:len*1<=len*sz:=Nat.mul_le_mul_left _ c1;omega) hcells
       (λj c hj=>by
         obtain⟨y,hy1,hy2⟩:=zqV hcells c1 hj;have hlt:=lt_of_getElem? hy1;have hrj:rp[j / sz]? =some rp[j / sz]:=by simp[show j / sz<rp.length by omega]
         obtain⟨y',hy',_,hr⟩:=hrp _ _ hrj;rw[hy1]at hy';cases hy';obtain⟨u,hu1,hu2,hu3⟩:=hr.cells.2 _ c hy2;refine⟨u, ?_,hu2,hu3⟩;have:=f4 _ _ _ u hrj hu1
         rwa [yaX,ybW,ycR]at this)
      rw[hxlen]at s2;refine⟨_,_,_, ?_,st.trans H s1,s2⟩;have hnot: ¬ (2 ^ 24<len*sz):=by omega
      by_cases h0:len*sz=0
      ·simp only[h0,ybk]at f1
       simp only[Instr.buildSlice,Sem.run_bind,run_underlying hs,Result.andThen_ok,zaz hsz,h0];rw[yac (by omega),yag trivial]
       simp only[Sem.run_bind,Sem.run_pure,Result.andThen_ok];rw[f1];rfl
      ·simp only[h0,ybd]at f1
       simp only[Instr.buildSlice,Sem.run_bind,run_underlying hs,Result.andThen_ok,zaz hsz];rw[yac (by omega),yac h0]
       simp only[Sem.run_bind,zbt hz,Sem.run_pure,Result.andThen_ok];rw[f1];rfl
     ·cases hx
    ·cases hx
   ·cases hx
  ·cases hx
 ·cases hx
/-! ### append -/
def zjv (s:ByteArray):flat (s.data.toList.map zbh)=s.data.toList.map zbh:=zmp λy hy=>by simp at hy;obtain⟨b,_,rfl⟩:=hy;rfl
def zis {t:TypeId} {A:V} {ys:List D} {v:Value} {size:Nat} (hx:source? P h t A=some ys) (H:HRel X ρ h w) (hv:zat X ρ h w v A) (hall: ∀y∈ys,y.cells.length=size):
 ∃news:List Value,(∃d,P.underlying t=some d/\ ∀k,d≠ .int k)/\(∀w0:World,(Builtin.lenOf v).run P w0= .ok ys.length w0)/\
  (∀w0:World,(∀a,w0.cell? a=w.cell? a)->(Builtin.firstCells size ys.length v).run P w0= .ok news.toArray w0)/\news.length=ys.length*size/\
  ∀ (j:Nat) (c:D),(flat ys)[j]? =some c-> ∃u,news[j]? =some u/\Rep (Mut X ρ h) w u c/\c.isCell=true:=by
 unfold source? at hx;split at hx
 ·rename_i s hs
  cases hv;simp only[yaa]at hx;subst hx;have hsz:(s.data.toList.map zbh).length=s.size:=by simp
  refine⟨s.data.toList.map λb=> .int .u8 b.toNat,⟨_,hs,λk=>by simp⟩,λw0=>by simp[Builtin.lenOf],λw0 _=> ?_, ?_,λj c hj=> ?_⟩
  ·simp only[Builtin.firstCells,hsz,Sem.run_pure]
   congr 1;apply ycO;simp
  ·rw[yah]
   rcases ybq s.size with e | e
   ·simp[e]
   ·obtain⟨y,hy⟩:=ydd (l:=s.data.toList.map zbh) (by rw[hsz];exact e)
    have h1:=hall y hy;simp only[ycd]at hy;obtain⟨b,_,rfl⟩:=hy;simp only[zbh,D.cells,yaf,yaz]at h1;rw[<- h1];simp
  ·rw[zjv]at hj
   simp only[yau,yab]at hj ⊢;obtain⟨b,hb,rfl⟩:=hj;exact⟨_,⟨b,hb,rfl⟩,.int _ _,rfl⟩
 ·rename_i e hs
  obtain⟨a,cap,rfl,hc⟩:=zdj hx H hv;rcases hc with rfl | ⟨b,o,sz,rfl,h1,h2⟩
  ·refine⟨[],⟨_,hs,λk=>by simp⟩,λw0=>by simp[Builtin.lenOf],λw0 _=> ?_,by simp,λj c hj=>by simp[flat]at hj⟩
   cases a with
   |none=>simp[Builtin.firstCells]
   |some a=>simpa using run_firstCells_some (P:=P) w0 size 0 a 0 cap [] (by simp) (by simp)
  ·have hflen:=zau hall
   have hval: ∀j,j<(flat ys).length-> ∃u,w.cell? ⟨b,o+j,none⟩=some u:=λj hj=>by
    obtain⟨u,hu,_⟩:=h2 j (flat ys)[j] (by simp[hj])
    exact⟨u,hu⟩
   let news:List Value:=(List.range (flat ys).length).map λj=>(w.cell? ⟨b,o+j,none⟩).getD undef
   have hn: ∀ (j:Nat) (u:Value),news[j]? =some u->w.cell? ⟨b,o+j,none⟩=some u:=λj u hj=>by
    simp only[news,yau,yab]at hj;obtain⟨i,hi,rfl⟩:=hj;have hlt:=lt_of_getElem? hi;simp only[ycf]at hlt;rw[ybj hlt,yaa]at hi;subst hi;obtain⟨u,hu⟩:=hval j hlt;simp[hu]
   refine⟨news,⟨_,hs,λk=>by simp⟩,λw0=>by simp[Builtin.lenOf],λw0 hw=> ?_,by simp[news,hflen],λj c hj=> ?_⟩
   ·exact run_firstCells_some (P:=P) w0 size ys.length ⟨b,o,none⟩ ys.length cap news (by simp[news,hflen]) λj u hj=>by
     rw[Addr.add_lit,hw];exact hn j u hj
   ·obtain⟨u,hu,h3,h4⟩:=h2 j c hj
    refine⟨u, ?_,h3,h4⟩;simp[news,ybj (lt_of_getElem? hj),hu]
 ·cases hx
end
end Go.Am
namespace Go.Am
section
variable {X:Nat->Nat->Prop} {ρ ρ' ρ'':Places} {h h' h'':List Obj} {w w' w'':World} {P:Program}
def zdk {ts tx e:TypeId} {i:TypeInfo} {ty:TypeId} {base:Option Addr} {n cap m:Nat} {v:Value} {news:List Value} (ht:P.underlying ts=some (.slice e)) (hi:P.info? e=some i)
 (hx: ∃d,P.underlying tx=some d/\ ∀k,d≠ .int k) (hlen: ∀w0:World,(Builtin.lenOf v).run P w0= .ok m w0) (hfirst:(Builtin.firstCells i.size m v).run P w= .ok news.toArray w) (hle:n+m<=cap)
 (hst: ∀a,base=some a->(storeCells (a.add (n*i.size)) news).run P w= .ok () w') (hnone:base=none->w'=w):
 (Builtin.append_ #[ts,tx] ty #[.slice base n cap,v]).run P w= .ok (.slice base (n+m) cap) w':=by
 obtain⟨d,hd,hni⟩:=hx;cases base with
 |none=>
  have:=hnone rfl;subst this;simp[Builtin.append_,run_underlying ht,run_underlying hd,sizeOf,typeInfo,hi,hlen,hle,hfirst]
 |some a=>
  have:=hst a rfl;simp[Builtin.append_,run_underlying ht,run_underlying hd,sizeOf,typeInfo,hi,hlen,hle,hfirst,this]
def zew {ts tx e:TypeId} {i:TypeInfo} {z:Value} {ty:TypeId} {base:Option Addr} {n cap m:Nat} {v:Value} {olds news:List Value} (ht:P.underlying ts=some (.slice e)) (hi:P.info? e=some i) (hz0:i.zero=some z)
 (hx: ∃d,P.underlying tx=some d/\ ∀k,d≠ .int k) (hlen: ∀w0:World,(Builtin.lenOf v).run P w0= .ok m w0) (hfirst:(Builtin.firstCells i.size m v).run P w.drew= .ok news.toArray w.drew)
 (hold:(Builtin.firstCells i.size n (.slice base n cap)).run P w.drew= .ok olds.toArray w.drew) (hgt:cap<n+m) (hbd:n+m<2147483648) (hby:i.bytes<=65536):
 (Builtin.append_ #[ts,tx] ty #[.slice base n cap,v]).run P w=
   .ok (.slice (some ⟨w.heap.size,0,none⟩) (n+m) (grownCap w (n+m) cap e)) (w.drew.alloc (.cells (olds.toArray++news.toArray++Builtin.zeroCells z.cells (grownCap w (n+m) cap e - (n+m))) e)):=by
 obtain⟨d,hd,hni⟩:=hx;have h1: ¬ (n+m<=cap):=by omega
 have h2: ¬ (9223372036854775807<((n:Int)+(m:Int))):=by omega
 have hfit:Builtin.nextslicecap (n+m) cap*i.bytes<=281474976710656:=growslice_fits hgt (by
  have:(n+m)*i.bytes<=2147483648*65536:=ybA (by omega) hby
  omega)
 have h3: ¬ (281474976710656<Builtin.nextslicecap (n+m) cap*i.bytes):=by omega
 simp[Builtin.append_,run_underlying ht,run_underlying hd,sizeOf,typeInfo,zeroValue,hi,hz0,hlen,h1,h2,h3,Question.forced,hfirst,hold,newRow,grownCap];congr 2;apply ycO;simp[yan]
def zcx (b:Nat): ∀ (vs:List Value) (o:Nat) (w:World) (cur:Array Value) (e:TypeId) (fz:Nat × Nat),w.heap[b]? =some (.cells cur e fz)->o+vs.length<=cur.size->
 ∃cur',(w.setCells b o vs).heap[b]? =some (.cells cur' e fz)/\cur'.toList=putCells cur.toList o vs
 |[],o,w,cur,e,fz,hb,_=>⟨cur,hb,by simp[putCells]⟩
 |v::vs,o,w,cur,e,fz,hb,hle=>by
  simp only[yaf]at hle;have hb1:(w.setCell ⟨b,o,none⟩ v).heap[b]? =some (.cells (cur.setIfInBounds o v) e fz):=by
   simp[World.setCell,ybN,hb]
  obtain⟨cur',e1,e2⟩:=zcx b vs (o+1) _ _ e fz hb1 (by simp;omega)
  refine⟨cur',e1, ?_⟩;rw[e2];apply ybV;intro i;rw[zav (by simp;omega),zav (by simp;omega)]
  simp only[yaf,ydt];rcases ycA i o with h1 | h1 | h1
  ·rw[yac (by omega),yac (by omega),ybw (by omega)]
  ·subst h1
   rw[yac (by omega),yag (by omega),ybh (by simp;omega)]
   simp
  ·by_cases h2:i<o+(vs.length+1)
   ·rw[yag (by omega),yag (by omega),show i - o=(i - (o+1))+1 by omega,ybs]
   ·rw[yac (by omega),yac (by omega),ybw (by omega)]
def zb4 (b:Nat): ∀ (vs:List Value) (o:Nat) (w:World) (k:Nat),k≠b->(w.setCells b o vs).heap[k]? =w.heap[k]?
 |[],_,_,_,_=>rfl
 |v::vs,o,w,k,hk=>by
  rw[World.setCells,zb4 b vs (o+1) _ k hk];simp only[World.setCell,ybN];rw[yac (by simpa using λe=>hk e.symm)]
def zcy (b:Nat): ∀ (vs:List Value) (o:Nat) (w:World),(w.setCells b o vs).heap.size=w.heap.size
 |[],_,_=>rfl
 |v::vs,o,w=>by rw[World.setCells,zcy b vs];simp
def zcz (b:Nat): ∀ (vs:List Value) (o:Nat) (w:World),(w.setCells b o vs).os=w.os/\(w.setCells b o vs).tape=w.tape/\(w.setCells b o vs).output=w.output
 |[],_,_=>⟨rfl,rfl,rfl⟩
 |v::vs,o,w=>by rw[World.setCells];exact zcz b vs (o+1) _
def zpB {b o:Nat} {vs:List Value} {cur:Array Value} {e:TypeId} {fz:Nat × Nat} (hb:w.heap[b]? =some (.cells cur e fz)) (hle:o+vs.length<=cur.size) (hu:zbA w b cur.size) (h1: ∀v∈vs,v.oneCell'=true):
 (storeCells ⟨b,o,none⟩ vs).run P w= .ok () (w.setCells b o vs):=by
 have:=run_storeCells_cells (P:=P) b o vs 0 w (λj hj=>by
  rw[zap hb,ybe (by omega)];rfl) (λj hj=>hu.get _ (by omega)) h1
 simpa using this
def zbU {b o n:Nat} {vs:List Value} (hu:zbA w b n):zbA (w.setCells b o vs) b n:=by
 have key: ∀ (vs:List Value) (o:Nat) (w:World) (cs:Array Value) (t:TypeId) (fz:Nat × Nat),(w.setCells b o vs).heap[b]? =some (.cells cs t fz)-> ∃cs0,w.heap[b]? =some (.cells cs0 t fz):=by
  intro vs
  induction vs with
  |nil=>intro o w cs t fz he;exact⟨cs,he⟩
  |cons v r ih=>
   intro o w cs t fz he;rw[World.setCells]at he;obtain⟨cs0,h0⟩:=ih _ _ _ _ _ he;simp only[World.setCell,ybN,ybk,yab]at h0;obtain⟨ob,h1,h2⟩:=h0;cases ob with
   |cells a b' c=>simp only at h2;cases h2;exact⟨_,h1⟩
   |_=>simp only at h2;cases h2
 intro cs t fz he;obtain⟨cs0,h0⟩:=key _ _ _ _ _ _ he;exact hu _ _ _ h0
def zxh (X:Nat->Nat->Prop) (ρ:Places) (h:List Obj) (w:World) (us:Array Value) (xs:List D):Prop:=
 ∀ (j:Nat) (x:D),(flat xs)[j]? =some x-> ∃u,us[j]? =some u/\Rep (Mut X ρ h) w u x/\x.isCell=true
def zli {olds news:List Value} {zay:Array Value} {xs ys:List D} {sz:Nat} (hx: ∀x∈xs,x.cells.length=sz) (hol:olds.length=xs.length*sz)
 (ho: ∀ (j:Nat) (x:D),(flat xs)[j]? =some x-> ∃u,olds[j]? =some u/\Rep (Mut X ρ h) w u x/\x.isCell=true)
 (hn: ∀ (j:Nat) (x:D),(flat ys)[j]? =some x-> ∃u,news[j]? =some u/\Rep (Mut X ρ h) w u x/\x.isCell=true):
 zxh X ρ h w (olds.toArray++news.toArray++zay) (xs++ys):=λj x hj=>by
 have hfl:=zau hx;rw[zbI]at hj;rw[Array.append_assoc];rcases ybL j (flat xs).length with hlt | hge
 ·rw[yar hlt]at hj
  obtain⟨u,h1,h2,h3⟩:=ho j x hj;refine⟨u, ?_,h2,h3⟩;rw[yb1 (by simp;omega)]
  simpa using h1
 ·rw[yal hge]at hj
  obtain⟨u,h1,h2,h3⟩:=hn _ x hj;refine⟨u, ?_,h2,h3⟩;have hl:=lt_of_getElem? h1;rw[Array.getElem?_append_right (by simp;omega),yb1 (by simp;omega)]
  simp only[ycg,hol,<- hfl];simpa using h1
def zmr {ts tx:TypeId} {S Y x:V} {ty:TypeId} {s v:Value} (hx:zf3 P h ts tx S Y=some (x,h')) (H:HRel X ρ h w) (hs:zat X ρ h w s S) (hv:zat X ρ h w v Y):
 ∃u ρ' w',(Builtin.append_ #[ts,tx] ty #[s,v]).run P w= .ok u w'/\Stp X ρ h w ρ' h' w'/\zat X ρ' h' w' u x:=by
 unfold zf3 at hx;split at hx
 ·rename_i e ht
  split at hx
  ·rename_i i ys hi hsrc
   split at hx
   ·rename_i hcond
    obtain⟨hz,hsz,hby⟩:=hcond;simp only[yab]at hz;obtain⟨z,hz,hzsz⟩:=hz;have hzc: ∀k,(Builtin.zeroCells z.cells k).size=k*i.size:=λk=>by rw[size_zeroCells,hzsz]
    split at hx
    · -- onto nil
      split at hx
      ·rename_i hc
       obtain⟨hlt,hall⟩:=hc;simp only[yaa,yad]at hx;obtain⟨rfl,rfl⟩:=hx;have hcells:=zbL hall;have hs':s= .slice none 0 0:=hs;subst hs';obtain⟨news,k1,k2,k3,k4,k5⟩:=zis hsrc H hv hcells;rcases ybq ys.length with h0 | h0
       ·have:ys=[]:=yaE h0
        subst this;obtain⟨n1,n2⟩:=zpA H i.size;exact⟨.slice none 0 0,_,w,zdk ht hi k1 k2 (k3 w λ_=>rfl) (by simp) (λa e=>by cases e) (λ_=>rfl),n1,n2⟩
       ·have hr:=zew (P:=P) (w:=w) (ty:=ty) (base:=none) (n:=0) (cap:=0) (m:=ys.length) (v:=v) (olds:=[]) (news:=news) ht hi hz k1 k2 (k3 w.drew λ_=>rfl) (by simp[Builtin.firstCells]) (by omega) (by omega) hby
        simp only[yaX]at hr;have hg:=grownCap_ge w ys.length 0 e;have hgm:=grownCap_le_maxLen w ys.length 0 e (by simp only[maxLen];omega)
        have hown:=zli (ρ:=ρ) (h:=h) (w:=w) (olds:=[]) (news:=news) (zay:=Builtin.zeroCells z.cells (grownCap w ys.length 0 e - ys.length)) (xs:=[]) (ys:=ys) (sz:=i.size) (by simp) (by simp) (λj x hj=>by simp[flat]at hj) k5
        obtain⟨n1,n2⟩:=zpz (w':=w.drew) H rfl rfl rfl rfl e (us:=([]:List Value).toArray++news.toArray++Builtin.zeroCells z.cells (grownCap w ys.length 0 e - ys.length)) (xs:=ys) (sz:=i.size) (cap:=grownCap w ys.length 0 e) hsz
         (by simp only[ycD,ycg,hzc,k4,yaz,yaX,<- ya8];congr 1;omega) hg hgm hcells hown
        exact⟨_,_,_,hr,n1,n2⟩
      ·cases hx
    ·rename_i id n
     split at hx
     ·rename_i sz xs wm ho
      split at hx
      ·rename_i hc
       obtain⟨rfl,rfl,hbd,hall⟩:=hc;simp only[yaa,yad]at hx;obtain⟨rfl,rfl⟩:=hx;have hycells:=zbL hall;obtain⟨news,k1,k2,k3,k4,k5⟩:=zis hsrc H hv hycells;obtain⟨_,sz2,xs2,wm2,r,q1,q2,_,q4⟩:=hs;rw[ho]at q1;cases q1;have hav:=q4 rfl;obtain⟨r',q5,q6⟩:=H.obj id _ ho;rw[q2]at q5;cases q5;obtain⟨hwm,q7⟩:=q6
       -- what the block holds
       obtain⟨base,cap,olds,rfl,hol,hlc,hcapm,hxc,hholds,hownold⟩: ∃ (base:Option Addr) (cap:Nat) (olds:List Value),s= .slice base xs.length cap/\olds.length=xs.length*i.size/\xs.length<=cap/\cap<=maxLen/\
        (∀x∈xs,x.cells.length=i.size)/\(Builtin.firstCells i.size xs.length (.slice base xs.length cap)).run P w.drew= .ok olds.toArray w.drew/\
        ∀ (j:Nat) (x:D),(flat xs)[j]? =some x-> ∃u,olds[j]? =some u/\Rep (Mut X ρ h) w u x/\x.isCell=true:=by
        cases r with
        |none=>
         subst q7;obtain⟨_,a,rfl⟩:=hav;refine⟨a,0,[],rfl,by simp,yaj _,yai _,by simp, ?_,λj x hj=>by simp[flat]at hj⟩
         cases a with
         |none=>simp[Builtin.firstCells]
         |some a=>simpa using run_firstCells_some (P:=P) w.drew i.size 0 a 0 0 [] (by simp) (by simp)
        |some p=>
         obtain⟨b,cap⟩:=p;obtain⟨cur,ce,fz,m1,m2,m3,m4,m5,m6,m7,m8⟩:=q7;simp only[zin]at hav;have hle:xs.length*i.size<=cur.size:=by rw[m2];exact yaG _ m3
         refine⟨_,cap,cur.toList.take (xs.length*i.size),hav,by simp;omega,m3,m4,m6, ?_,λj x hj=> ?_⟩
         ·exact run_firstCells_some (P:=P) w.drew i.size xs.length ⟨b,0,none⟩ xs.length cap _ (by simp;omega) λj u hj=>by
           rw[Addr.add_lit,World.cell?_drew,zap m1,yaX];rw[yaU]at hj;split at hj
           ·simpa using hj
           ·cases hj
         ·obtain⟨u,e1,e2,e3⟩:=m8 j x hj
          have hjl:=lt_of_getElem? hj;rw[zau m6]at hjl;exact⟨u,by rw[yaU,yag hjl];simpa using e1,e2,e3⟩
       have hxyc: ∀x∈xs++ys,x.cells.length=i.size:=λx hx=>by
        rcases List.mem_append.1 hx with hx | hx
        ·exact hxc x hx
        ·exact hycells x hx
       by_cases hroom:xs.length+ys.length<=cap
       · -- in zas
         cases r with
         |none=>
          subst q7;obtain⟨_,a,hav⟩:=hav;simp only[Value.slice.injEq]at hav;obtain⟨rfl,_,rfl⟩:=hav;simp only[yaz,yaX,Nat.le_zero_eq]at hroom;have:ys=[]:=yaE hroom;subst this;have hnews:news=[]:=yaE (by simpa using k4)
          subst hnews;refine⟨.slice base 0 0,ρ,w,zdk (n:=0) ht hi k1 k2 (k3 w λ_=>rfl) (by simp) (λa e=>rfl) (λ_=>rfl), ?_, ?_⟩
          ·rw[yap,zbT ho];exact Stp.refl H
          ·rw[yap,zbT ho]
           exact⟨⟨_,_,_,rfl⟩,_,_,_,none,ho,q2,yaj _,λ_=>⟨rfl,base,rfl⟩⟩
         |some p=>
          obtain⟨b,cap'⟩:=p;obtain⟨cur,ce,fz,m1,m2,m3,m4,m5,m6,m7,m8⟩:=q7;simp only[zin,Value.slice.injEq]at hav;obtain⟨rfl,_,rfl⟩:=hav;have hnl:xs.length*i.size+news.length<=cur.size:=by
           rw[k4,m2,<- ya8];exact yaG _ hroom
          have hone: ∀u∈news,u.oneCell'=true:=λu hu=>by
           obtain⟨j,hj⟩:=ybo hu;have hjl:=lt_of_getElem? hj;have hfl:=zau hycells;obtain⟨u',e1,e2,e3⟩:=k5 j (flat ys)[j] (by simp[show j<(flat ys).length by omega])
           rw[hj]at e1;cases e1;exact e2.one e3
          have hst:=zpB (P:=P) (o:=xs.length*i.size) (vs:=news) m1 hnl m7 hone;obtain⟨cur',c1,c2⟩:=zcx b news (xs.length*i.size) w cur ce fz m1 hnl;have hcur':cur'.size=cur.size:=by
           have:=congrArg List.length c2;rw[zaw (by simpa using hnl)]at this
           simpa using this
          have hget: ∀j,cur'[j]? =if xs.length*i.size<=j/\j<xs.length*i.size+news.length then news[j - xs.length*i.size]? else cur[j]? :=λj=>by
           have:cur'[j]? =cur'.toList[j]? :=by simp
           rw[this,c2,zav (by simpa using hnl)]
           simp
          obtain⟨t1,t2,t3⟩:=zcz b news (xs.length*i.size) w;have hstep:=zcV (w':=w.setCells b (xs.length*i.size) news) (r':=some (b,cap)) (o':= .arr i.size (xs++ys) wm) H ho q2 t1 t2 t3 (by rw[zcy];exact yaj _)
           (λk _ hk=>zb4 b news _ w k λe=>hk cap (by rw[e])) (.inl rfl)
           (λj u b' c' hbc hmu hcell=>by
             simp only[yaa,yad]at hbc;obtain⟨rfl,rfl⟩:=hbc;simp only[Obj.mutAt,Nat.not_le]at hmu;rw[zap c1,hget,yac (by have:=yaG i.size hwm;omega)]
             rwa [zap m1]at hcell)
           (λ_ j hj=>hj) ⟨rfl,by simp,λ_=>rfl⟩
           (λhf he=>⟨by simp;omega,cur',ce,fz,c1,by rw[hcur',m2],by simpa using hroom,m4,m5,hxyc,by rw[hcur'];exact zbU m7,λj x hj=>by
             have hfl:=zau m6;rw[zbI]at hj;rw[hget];rcases ybL j (flat xs).length with hlt | hge
             ·rw[yar hlt]at hj
              obtain⟨u,e1,e2,e3⟩:=m8 j x hj;exact⟨u,by rw[yac (by omega)];exact e1,e2.mono hf.imm,e3⟩
             ·rw[yal hge]at hj
              obtain⟨u,e1,e2,e3⟩:=k5 _ x hj;have:=lt_of_getElem? e1;exact⟨u,by rw[yag (by omega),<- hfl];exact e1,e2.mono hf.imm,e3⟩⟩)
          rw[zbT q2]at hstep;obtain⟨g1,g2,g3⟩:=hstep;refine⟨_,ρ,_,zdk ht hi k1 k2 (k3 w λ_=>rfl) hroom (λa e=>by cases e;rw[Addr.add_lit,yaX];exact hst) (λe=>by cases e),⟨g1,g2,g3⟩,⟨_,_,_,rfl⟩,i.size,xs++ys,wm,some (b,cap),by
           rw[ybh (lt_of_getElem? ho)],q2,by simp,λ_=>rfl⟩
       · -- it grows
         have hgt:cap<xs.length+ys.length:=by omega
         have hr:=zew (P:=P) (w:=w) (ty:=ty) (base:=base) (n:=xs.length) (cap:=cap) (m:=ys.length) (v:=v) (olds:=olds) (news:=news) ht hi hz k1 k2 (k3 w.drew λ_=>rfl) hholds hgt hbd hby
         have hg:=grownCap_ge w (xs.length+ys.length) cap e;have hgm:=grownCap_le_maxLen w (xs.length+ys.length) cap e (by simp only[maxLen];omega)
         generalize hgc:grownCap w (xs.length+ys.length) cap e=gc at hr hg hgm;have hown:=zli (ρ:=ρ) (h:=h) (w:=w) (olds:=olds) (news:=news) (zay:=Builtin.zeroCells z.cells (gc - (xs.length+ys.length))) (xs:=xs) (ys:=ys) (sz:=i.size) hxc hol hownold k5;have hus:(olds.toArray++news.toArray++Builtin.zeroCells z.cells (gc - (xs.length+ys.length))).size=gc*i.size:=by
          simp only[ycD,ycg,hzc,k4,hol,<- ya8];congr 1;omega
         generalize olds.toArray++news.toArray++Builtin.zeroCells z.cells (gc - (xs.length+ys.length))=us at hr hown hus;have hstep:=zcV (w':=w.drew.alloc (.cells us e)) (r':=some (w.heap.size,gc)) (o':= .arr i.size (xs++ys) wm) H ho q2 rfl rfl rfl (by simp)
          (λk hk _=>heap_alloc_old w.drew _ k hk) (.inr ⟨gc,rfl⟩)
          (λj u b' c' hbc _ hcell=>by
            have hb:=World.block_lt_of_cell? w ⟨b',j,none⟩ hcell;rw[World.cell?_alloc_lt w.drew _ _ hb];exact hcell)
          (λ_ j hj=>hj) ⟨rfl,by simp,λe=>by rw[yae]at e;omega⟩
          (λhf he=>⟨by simp;omega,us,e,(0,0),heap_alloc_new w.drew _,hus,by simpa using hg,hgm,hsz,hxyc,zeN (w:=w.drew) us e,λj x hj=>by
            obtain⟨u,e1,e2,e3⟩:=hown j x hj;exact⟨u,e1,e2.mono hf.imm,e3⟩⟩)
         obtain⟨g1,g2,g3⟩:=hstep;refine⟨_,_,_,hr,⟨g1,g2,g3⟩,⟨_,_,_,rfl⟩,i.size,xs++ys,wm,some (w.heap.size,gc),by
          rw[ybh (lt_of_getElem? ho)],by rw[ybh (lt_of_getElem? q2)],by simp,λ_=>by simp[zin]⟩
      ·cases hx
     ·cases hx
    ·cases hx
   ·cases hx
  ·cases hx
 ·cases hx
end
end Go.Am
namespace Go.Am
section
variable {X:Nat->Nat->Prop} {ρ ρ' ρ'':Places} {h h' h'':List Obj} {w w' w'':World} {P:Program}
def zit {t:TypeId} {b o:Nat} {v:Value} {cur:Array Value} {e:TypeId} {fz:Nat × Nat} (hn:sizeOf? P t=some v.cells.size) (hb:w.heap[b]? =some (.cells cur e fz)) (hle:o+v.cells.size<=cur.size)
 (hu:zbA w b cur.size) (h1: ∀u∈v.cells.toList,u.oneCell'=true):(Instr.storeAt t (.pointer (some ⟨b,o,none⟩)) v).run P w= .ok () (w.setCells b o v.cells.toList):=by
 have:=zpB (P:=P) (o:=o) (vs:=v.cells.toList) hb (by simpa using hle) hu h1
 simp[Instr.storeAt,Instr.sureAddr,storeVar,zaz hn,this]
def znG {t:TypeId} {A Y:V} {a v:Value} (hx:znn P h t A Y=some h') (H:HRel X ρ h w) (ha:zat X ρ h w a A) (hv:zat X ρ h w v Y):
 ∃w',(Instr.storeAt t a v).run P w= .ok () w'/\Stp X ρ h w ρ h' w':=by
 unfold znn at hx;split at hx
 ·rename_i id off
  obtain⟨ob,b,c,p1,p2,p3,rfl⟩:=ha;split at hx
  ·rename_i cs ho
   rw[ho]at p1;cases p1;split at hx
   ·rename_i n hn
    split at hx
    ·rename_i hc
     obtain⟨c1,c2,c3⟩:=hc;simp only[yaa]at hx;subst hx;obtain⟨r,q1,q2⟩:=H.obj id _ ho;rw[p3]at q1;cases q1;obtain⟨b',c',cur,e,fz,e1,m1,m2,m3,m4⟩:=q2;cases e1;have hcell:=hv.cells c3;have hsz:v.cells.size=n:=by rw[cells_length hv c3,c1]
     have hle:off+v.cells.toList.length<=cur.size:=by simp only[ybi];omega
     have hone: ∀u∈v.cells.toList,u.oneCell'=true:=λu hu=>by
      obtain⟨j,hj⟩:=ybo hu;have hjl:=lt_of_getElem? hj;have hjl':j<Y.cells.length:=by have:=hcell.1;omega
      obtain⟨u',e1,e2,e3⟩:=hcell.2 j Y.cells[j] (by simp[hjl'])
      rw[hj]at e1;cases e1;exact e2.one e3
     have hr:=zit (P:=P) (t:=t) (o:=off) (v:=v) (by rw[hsz,hn]) m1 (by omega) m3 hone
     obtain⟨cur',c4,c5⟩:=zcx b v.cells.toList off w cur e fz m1 hle;have hcur':cur'.size=cur.size:=by
      have:=congrArg List.length c5;rw[zaw (by simpa using hle)]at this
      simpa using this
     obtain⟨t1,t2,t3⟩:=zcz b v.cells.toList off w;have hstep:=zcV (w':=w.setCells b off v.cells.toList) (r':=some (b,c)) (o':= .box (putCells cs off Y.cells)) H ho p3 t1 t2 t3 (by rw[zcy];exact yaj _)
      (λk _ hk=>zb4 b _ _ w k λe=>hk c (by rw[e])) (.inl rfl)
      (λj u b' c' _ hmu _=>absurd trivial hmu) (λ_ j hj=>hj) ⟨zaw (by omega),rfl⟩
      (λhf he=>⟨b,c,cur',e,fz,rfl,c4,by rw[hcur',m2,zaw (by omega)],by rw[hcur'];exact zbU m3,λj x hj=>by
        rw[zav (by omega)]at hj
        have hg:cur'[j]? =if off<=j/\j<off+Y.cells.length then v.cells.toList[j - off]? else cur[j]? :=by
         have:cur'[j]? =cur'.toList[j]? :=by simp
         rw[this,c5,zav (by simpa using hle),hcell.1]
         simp
        rw[hg];split at hj
        ·rename_i hin
         rw[yag hin];obtain⟨u,e1,e2,e3⟩:=hcell.2 _ x hj;exact⟨u,e1,e2.mono hf he,e3⟩
        ·rename_i hin
         rw[yac hin];obtain⟨u,e1,e2,e3⟩:=m4 _ x hj;exact⟨u,e1,e2.mono hf he,e3⟩⟩)
     rw[zbT p3]at hstep;exact⟨_,hr,hstep.1,hstep.2.1,hstep.2.2⟩
    ·cases hx
   ·cases hx
  ·cases hx
 ·rename_i id n i off
  split at hx
  ·rename_i y h1 m hp hm
   obtain⟨st,hrep⟩:=zbJ hp H hv;have ha1:=st.vrel ha;have H1:=st.rel;split at hx
   ·rename_i sz xs wm ho
    split at hx
    ·rename_i x hxi
     split at hx
     ·rename_i hc
      obtain⟨rfl,c2,c3,c4⟩:=hc;obtain⟨_,sz1,xs1,wm1,r,p1,p2,_,p4⟩:=ha1;rw[ho]at p1;cases p1;obtain⟨b,cap,rfl,rfl⟩:=p4 rfl;obtain⟨r,q1,q2⟩:=H1.obj id _ ho;rw[p2]at q1;cases q1;obtain⟨hwm,cur,e,fz,m1,m2,m3,m4,m5,m6,m7,m8⟩:=q2;have hil:i<xs.length:=lt_of_getElem? hxi;have hxl:=m6 x (yay hxi);obtain⟨k1,k2⟩:=hrep.cells;have hvs:v.cells.size=m:=by omega
      have hle:i*sz+off+v.cells.toList.length<=cur.size:=by
       have h2:(i+1)*sz<=cap*sz:=yaG _ (by omega)
       rw[ya8]at h2;simp only[ybi];omega
      have hone: ∀u∈v.cells.toList,u.oneCell'=true:=λu hu=>by
       obtain⟨j,hj⟩:=ybo hu;have hjl:=lt_of_getElem? hj;simp only[ybi]at hjl;have hjl':j<y.cells.length:=by omega
       obtain⟨u',e1,e2,e3⟩:=k2 j y.cells[j] (by simp[hjl'])
       rw[ycj]at hj;rw[hj]at e1;cases e1;exact e2.one e3
      have hr:=zit (P:=P) (t:=t) (o:=i*sz+off) (v:=v) (by rw[hvs,hm]) m1 (by simpa using hle) m7 hone
      obtain⟨cur',c5,c6⟩:=zcx b v.cells.toList (i*sz+off) w cur e fz m1 hle;have hcur':cur'.size=cur.size:=by
       have:=congrArg List.length c6;rw[zaw (by simpa using hle)]at this
       simpa using this
      obtain⟨t1,t2,t3⟩:=zcz b v.cells.toList (i*sz+off) w;have hg: ∀j,cur'[j]? =if i*sz+off<=j/\j<i*sz+off+m then v.cells[j - (i*sz+off)]? else cur[j]? :=λj=>by
       have:cur'[j]? =cur'.toList[j]? :=by simp
       rw[this,c6,zav (by simpa using hle)]
       simp[hvs]
      -- the new element
      obtain⟨x',hx',hxl',hxc',hxe⟩: ∃x':D,h'=h1.set id (.arr sz (xs.set i x') wm)/\x'.cells.length=sz/\(∀ (j:Nat) (c:D),x'.cells[j]? =some c->c.isCell=true\/x.cells[j]? =some c)/\
       ∀j,j<sz->x'.cells[j]? =if off<=j/\j<off+m then y.cells[j - off]? else x.cells[j]? :=by
       split at hx
       ·rename_i hms
        simp only[yaa]at hx;subst hms;refine⟨y,hx.symm,c3,λj c hj=> .inl ?_,λj hj=> ?_⟩
        ·obtain⟨u,_,_,h5⟩:=k2 j c hj
         exact h5
        ·have:off=0:=by omega
         subst this;rw[yag (by omega),ydQ]
       ·simp only[yaa]at hx
        have hpl:off+y.cells.length<=x.cells.length:=by omega
        refine⟨_,hx.symm, ?_,λj c hj=> ?_,λj hj=> ?_⟩
        ·simp only[D.cells]at hpl ⊢
         rw[zaw hpl];exact hxl
        ·have hj':(putCells x.cells off y.cells)[j]? =some c:=hj
         rw[zav hpl]at hj';split at hj'
         ·obtain⟨u,_,_,h5⟩:=k2 _ c hj'
          exact .inl h5
         ·exact .inr hj'
        ·show (putCells x.cells off y.cells)[j]? =_
         rw[zav hpl,c3]
      subst hx';have hset: ∀z∈xs.set i x',z.cells.length=sz:=λz hz=>by
       rcases ycH hz with h2 | h2
       ·exact m6 z h2
       ·rw[h2];exact hxl'
      have hstep:=zcV (w':=w.setCells b (i*sz+off) v.cells.toList) (r':=some (b,cap)) (o':= .arr sz (xs.set i x') wm) H1 ho p2 t1 t2 t3 (by rw[zcy];exact yaj _)
       (λk _ hk=>zb4 b _ _ w k λe=>hk cap (by rw[e])) (.inl rfl)
       (λj u b' c' hbc hmu hcell=>by
         simp only[yaa,yad]at hbc;obtain⟨rfl,rfl⟩:=hbc;simp only[Obj.mutAt,Nat.not_le]at hmu;have:wm*sz<=i*sz:=yaG _ c2;rw[zap c5,hg,yac (by omega)]
         rwa [zap m1]at hcell)
       (λ_ j hj=>hj) ⟨rfl,by simp,λ_=>rfl⟩
       (λhf he=>⟨by simpa using hwm,cur',e,fz,c5,by rw[hcur',m2],by simpa using m3,m4,m5,hset,by rw[hcur'];exact zbU m7,λj z hj=>by
         obtain⟨x2,e1,e2⟩:=zqV hset m5 hj;have hjm:j % sz<sz:=ycC _ m5;have hjd:sz*(j / sz)+j % sz=j:=ycR j sz;rw[ybW]at hjd;rw[hg]
         by_cases hji:j / sz=i
         ·subst hji
          rw[ybh hil]at e1;cases e1;rw[hxe _ hjm]at e2;split at e2
          ·rename_i hin
           rw[yag (by omega),show j - (j / sz*sz+off)=j % sz - off by omega]
           obtain⟨u,f1,f2,f3⟩:=k2 _ z e2;exact⟨u,f1,f2.mono hf.imm,f3⟩
          ·rename_i hin
           rw[yac (by omega)]
           obtain⟨u,f1,f2,f3⟩:=m8 _ z (zfk m6 hxi e2);rw[hjd]at f1;exact⟨u,f1,f2.mono hf.imm,f3⟩
         ·rw[ybw (λe=>hji e.symm)]at e1
          have hne: ¬ (i*sz+off<=j/\j<i*sz+off+m):=by
           rcases ybL (j / sz) i with h2 | h2
           ·have:(j / sz+1)*sz<=i*sz:=yaG _ h2
            rw[ya8]at this;omega
           ·have:(i+1)*sz<=j / sz*sz:=yaG _ (by omega)
            rw[ya8]at this;omega
          rw[yac hne];obtain⟨u,f1,f2,f3⟩:=m8 _ z (zfk m6 e1 e2);rw[hjd]at f1;exact⟨u,f1,f2.mono hf.imm,f3⟩⟩)
      rw[zbT p2]at hstep;exact⟨_,hr,st.trans H ⟨hstep.1,hstep.2.1,hstep.2.2⟩⟩
     ·cases hx
    ·cases hx
   ·cases hx
  ·cases hx
 ·cases hx
/-! ### conversions that make memory -/
def zjw (H:HRel X ρ h w) (hos:w'.os=w.os) (htape:w'.tape=w.tape) (hout:w'.output=w.output) (hsize:w.heap.size<=w'.heap.size) (hblk: ∀b,b<w.heap.size->w'.heap[b]? =w.heap[b]?)
 {us:Array Value} {xs:List D} {sz cap:Nat} {e:TypeId} {fz:Nat × Nat} (hnew:w'.heap[w.heap.size]? =some (.cells us e fz)) (hunf:zbA w' w.heap.size us.size)
 (hsz:0<sz) (hus:us.size=cap*sz) (hle:xs.length<=cap) (hcap:cap<=maxLen) (hx: ∀x∈xs,x.cells.length=sz)
 (hc: ∀ (j:Nat) (x:D),(flat xs)[j]? =some x-> ∃u,us[j]? =some u/\Rep (Mut X ρ h) w u x/\x.isCell=true):
 Stp X ρ h w (ρ++[some (w.heap.size,cap)]) (h++[.arr sz xs 0]) w'/\
 zat X (ρ++[some (w.heap.size,cap)]) (h++[.arr sz xs 0]) w' (.slice (some ⟨w.heap.size,0,none⟩) xs.length cap) (.arr h.length xs.length):=by
 obtain⟨h1,h2,h3⟩:=zeG (w':=w') H (.arr sz xs 0) (some (w.heap.size,cap)) hos htape hout hsize hblk (λb c e=>by cases e;exact yaj _)
  λhf he=>⟨yai _,us,e,fz,hnew,hus,hle,hcap,hsz,hx,hunf,λj x hj=>by
   obtain⟨u,k1,k2,k3⟩:=hc j x hj;exact⟨u,k1,k2.mono hf.imm,k3⟩⟩
 refine⟨⟨h1,h2,h3⟩,⟨_,_,_,rfl⟩,sz,xs,0,some (w.heap.size,cap),by simp, ?_,yaj _,λ_=>rfl⟩
 rw[<- H.len];simp
def ziu (w:World) (a:Addr) (n b:Nat) (hn:n≠0) (hb:a.block≠b):(w.freeze a n).heap[b]? =w.heap[b]? :=by
 unfold World.freeze;rw[yac hn];simp only[ybN];rw[yac hb]
def zur (w:World) (a:Addr) (n:Nat) (hn:n≠0) {us:Array Value} {e:TypeId} (hb:w.heap[a.block]? =some (.cells us e (0,0))):(w.freeze a n).heap[a.block]? =some (.cells us e (a.off,a.off+n)):=by
 unfold World.freeze;rw[yac hn];simp only[ybN];rw[yag trivial,hb];rfl
def zjx (w:World) (a:Addr) (n:Nat):(w.freeze a n).os=w.os/\(w.freeze a n).tape=w.tape/\(w.freeze a n).output=w.output/\(w.freeze a n).heap.size=w.heap.size:=by
 unfold World.freeze;split
 ·exact⟨rfl,rfl,rfl,rfl⟩
 ·exact⟨rfl,rfl,rfl,by simp⟩
def zsm (w:World) (b:Nat) {us:Array Value} {e:TypeId} {fz:Nat × Nat} (hb:w.heap[b]? =some (.cells us e fz)):
 ∃fz',(w.freeze ⟨b,us.size,none⟩ 1).heap[b]? =some (.cells us e fz')/\(zbA w b us.size->zbA (w.freeze ⟨b,us.size,none⟩ 1) b us.size):=by
 obtain⟨lo,hi⟩:=fz;have hh:(w.freeze ⟨b,us.size,none⟩ 1).heap[b]? =some (.cells us e (if lo == hi then (us.size,us.size+1) else (min lo us.size,max hi (us.size+1)))):=by
  unfold World.freeze;rw[yac (by omega)]
  simp only[ybN];rw[yag trivial,hb];rfl
 refine⟨_,hh,λhu cs t fz he=> ?_⟩
 have h1:=hu _ _ _ hb;rw[hh]at he;simp only[yaa,Obj.cells.injEq]at he;obtain⟨_,_,rfl⟩:=he;simp only at h1
 by_cases c:lo=hi
 ·rw[yag (by simpa using c)]
  exact .inl (yaj _)
 ·rw[yac (by simpa using c)]
  left;simp only;omega
def zsn {src dst e:TypeId} {id n sz wm:Nat} {xs:List D} {v:Value} (he:P.underlying e=some (.int .u8)) (hs:P.underlying src=some (.slice e)) (hsd:src=dst) (ho:h[id]? =some (.arr sz xs wm)) (hn:n=xs.length) (h0:0<n) (H:HRel X ρ h w) (hv:zat X ρ h w v (.arr id n)):
 ∃u ρ' w',(convert src dst v).run P w= .ok u w'/\Stp X ρ h w ρ' h w'/\zat X ρ' h w' u (.arr id n):=by
 subst hsd hn;obtain⟨r,hr,hsl⟩:=zhD H ho hv;obtain⟨r',q1,q2⟩:=H.obj id _ ho;rw[hr]at q1;cases q1;obtain⟨b,cap,rfl⟩: ∃b cap,r=some (b,cap):=by
  cases r with
  |none=>exfalso;have:=q2.2;rw[this]at h0;simp at h0
  |some p=>exact⟨p.1,p.2,rfl⟩
 obtain⟨hwm,cur,et,fz,m1,m2,m3,m4,m5,m6,m7,m8⟩:=q2;obtain⟨fz',f1,f2⟩:=zsm w b m1;obtain⟨g1,g2,g3,g4⟩:=zjx w ⟨b,cur.size,none⟩ 1;have hstep:=zcV (w':=w.freeze ⟨b,cur.size,none⟩ 1) (r':=some (b,cap)) (o':= .arr sz xs wm) H ho hr g1 g2 g3 (by rw[g4];exact yaj _)
  (λk _ hk=>ziu w _ _ k (by omega) λe=>hk cap (by simp only at e;rw[e])) (.inl rfl)
  (λj u b' c' hbc _ hcell=>by
    simp only[yaa,yad]at hbc;obtain⟨rfl,rfl⟩:=hbc;rw[zap f1]
    rwa [zap m1]at hcell)
  (λ_ j hj=>hj) ⟨rfl,yaj _,λ_=>rfl⟩
  (λhf _=>⟨hwm,cur,et,fz',f1,m2,m3,m4,m5,m6,f2 m7,λj z hj=>by
    obtain⟨u,k1,k2,k3⟩:=m8 j z hj;exact⟨u,k1,k2.mono hf.imm,k3⟩⟩)
 rw[zbT ho,zbT hr]at hstep;refine⟨v,ρ,w.freeze ⟨b,cur.size,none⟩ 1, ?_,⟨hstep.1,hstep.2.1,hstep.2.2⟩,hv.mono hstep.2.1 hstep.2.2⟩;obtain⟨a,c,rfl,_,_,ha⟩:=hsl;obtain⟨b',cap',e1,rfl⟩:=ha h0;cases e1;have hshape:w.shape? b=some (et,cur.size):=by unfold World.shape?;rw[m1]
 simp only[convert,Sem.run_bind,run_underlying hs,Result.andThen_ok,run_underlying he,beq_self_eq_true,markStringish,run_shape,hshape,run_freeze,Sem.run_pure]
def zfR (s:ByteArray): ∀ (b i:Nat) (acc:Array Value),(Conv.runesFrom s b i acc).toList=acc.toList++(zev s b i).map λ(n:Nat)=>Value.int .i32 n
 |0,i,acc=>by simp[Conv.runesFrom,zev]
 |b+1,i,acc=>by
  simp only[Conv.runesFrom,zev];split
  ·rw[zfR s b]
   simp
  ·simp
def zgI (s:ByteArray): ∀ (b i:Nat),(zev s b i).length<=b
 |0,_=>yaj _
 |b+1,i=>by
  simp only[zev];split
  ·simp only[yaf]
   have:=zgI s b (i+(Utf8.decode s i).2);omega
  ·simp
def zpC {src dst:TypeId} {A x:V} {v:Value} (hx:zhw P h src dst A=some (x,h')) (H:HRel X ρ h w) (hv:zat X ρ h w v A):
 ∃u ρ' w',(convert src dst v).run P w= .ok u w'/\Stp X ρ h w ρ' h' w'/\zat X ρ' h' w' u x:=by
 unfold zhw at hx;split at hx
 ·rename_i e s hs hd
  cases hv;split at hx
  ·rename_i he hsz
   split at hx
   ·rename_i hlt
    simp only[yaa,yad]at hx;obtain⟨rfl,rfl⟩:=hx;have hcut: ∃cap,(Question.appendCap s.size 0 e).cut (w.tape w.drawn (.appendCap s.size 0 e))=cap/\s.size<=cap/\cap<=maxLen:=
     ⟨_,rfl,grownCap_ge w s.size 0 e,grownCap_le_maxLen w s.size 0 e (by simp only[maxLen];omega)⟩
    obtain⟨cap,hcap,hc1,hc2⟩:=hcut;generalize husd:(s.data.map λb=>Value.int .u8 b.toNat)++Array.replicate (cap - s.size) (.int .u8 0)=us
    have hus:us.size=cap*1:=by
     have:s.data.size=s.size:=rfl;rw[<- husd];simp only[ycD,Array.size_map,ydm,this];omega
    have hlen:(s.data.toList.map zbh).length=s.size:=by simp
    have hone: ∀y∈s.data.toList.map zbh,y.cells.length=1:=λy hy=>by simp at hy;obtain⟨b,_,rfl⟩:=hy;rfl
    have hcells: ∀ (j:Nat) (c:D),(flat (s.data.toList.map zbh))[j]? =some c-> ∃u,us[j]? =some u/\Rep (Mut X ρ h) w u c/\c.isCell=true:=λj c hj=>by
     rw[zjv]at hj;have hjl:=lt_of_getElem? hj;simp only[yau,yab]at hj;obtain⟨b,hb,rfl⟩:=hj;refine⟨.int .u8 b.toNat, ?_,.int _ _,rfl⟩;rw[<- husd];have hj2:j<s.data.size:=by simpa using hjl
     rw[yb1 (by simpa using hj2)]
     simp only[yct];have:s.data[j]? =some b:=by simpa using hb
     rw[this];rfl
    have hblk:(w.drew.alloc (.cells us e)).heap[w.heap.size]? =some (.cells us e (0,0)):=heap_alloc_new w.drew _;have hshape:(w.drew.alloc (.cells us e)).shape? w.heap.size=some (e,us.size):=by unfold World.shape?;rw[hblk]
    obtain⟨f1,f2,f3,f4⟩:=zjx (w.drew.alloc (.cells us e)) ⟨w.heap.size,us.size,none⟩ 1;have f5:=zur (w.drew.alloc (.cells us e)) ⟨w.heap.size,us.size,none⟩ 1 (by omega) hblk
    have hrun:(convert src dst (.string s)).run P w= .ok (.slice (some ⟨w.heap.size,0,none⟩) s.size cap) ((w.drew.alloc (.cells us e)).freeze ⟨w.heap.size,us.size,none⟩ 1):=by
     have hnf:(Question.appendCap s.size 0 e).forced=false:=rfl;simp only[convert,Sem.run_bind,run_underlying hs,run_underlying hd,Result.andThen_ok,run_underlying he,Conv.stringToBytes,run_choose,hnf,yaD,ybd,hcap,newRow,run_newObj,Sem.run_pure,
      markStringish,run_shape,husd]
     have hshape':World.shape? { heap:=w.heap.push (.cells us e),tape:=w.tape,drawn:=w.drawn+1,os:=w.os,output:=w.output } w.heap.size=some (e,us.size):=hshape;rw[hshape'];simp only[run_freeze,Result.andThen_ok];rfl
    obtain⟨n1,n2⟩:=zjw (w':=(w.drew.alloc (.cells us e)).freeze ⟨w.heap.size,us.size,none⟩ 1) H f1 f2 f3
     (by rw[f4];simp) (λb hb=>by rw[ziu _ _ _ _ (by omega) (by simp;omega)];exact heap_alloc_old w.drew _ b hb)
     (us:=us) (xs:=s.data.toList.map zbh) (sz:=1) (cap:=cap) (e:=e) (fz:=(us.size,us.size+1)) f5
     (λcs t fz he=>by
       rw[f5]at he;cases he;exact .inl (yaj _)) (by omega) hus (by omega) hc2 hone hcells
    rw[hlen]at n2;exact⟨_,_,_,hrun,n1,n2⟩
   ·cases hx
  ·rename_i he hsz
   split at hx
   ·rename_i hlt
    simp only[yaa,yad]at hx;obtain⟨rfl,rfl⟩:=hx;have hrl:(zeF s).length<=s.size:=zgI s s.size 0;have hel:Conv.runesFrom s s.size 0 #[]=((zeF s).map λ(n:Nat)=>Value.int .i32 n).toArray:=by
     apply ycO;rw[zfR];simp[zeF]
    generalize zeF s=rs at hrl hel;have hcut: ∃cap,(Question.appendCap rs.length 0 e).cut (w.tape w.drawn (.appendCap rs.length 0 e))=cap/\rs.length<=cap/\cap<=maxLen:=
     ⟨_,rfl,grownCap_ge w rs.length 0 e,grownCap_le_maxLen w rs.length 0 e (by simp only[maxLen];omega)⟩
    obtain⟨cap,hcap,hc1,hc2⟩:=hcut;generalize husd:((rs.map λ(n:Nat)=>Value.int .i32 n).toArray)++Array.replicate (cap - rs.length) (.int .i32 0)=us
    have hus:us.size=cap*1:=by
     rw[<- husd];simp only[ycD,ycg,yah,ydm];omega
    have hlen:(rs.map λ(n:Nat)=>D.int .i32 n).length=rs.length:=by simp
    have hone: ∀y∈rs.map λ(n:Nat)=>D.int .i32 n,y.cells.length=1:=λy hy=>by simp at hy;obtain⟨b,_,rfl⟩:=hy;rfl
    have hflat:flat (rs.map λ(n:Nat)=>D.int .i32 n)=rs.map λ(n:Nat)=>D.int .i32 n:=zmp λy hy=>by simp at hy;obtain⟨b,_,rfl⟩:=hy;rfl
    have hcells: ∀ (j:Nat) (c:D),(flat (rs.map λ(n:Nat)=>D.int .i32 n))[j]? =some c-> ∃u,us[j]? =some u/\Rep (Mut X ρ h) w u c/\c.isCell=true:=λj c hj=>by
     rw[hflat]at hj;have hjl:=lt_of_getElem? hj;simp only[yau,yab]at hj;obtain⟨b,hb,rfl⟩:=hj;refine⟨.int .i32 b, ?_,.int _ _,rfl⟩;rw[<- husd,yb1 (by simpa using hjl)]
     simp[hb]
    have hblk:(w.drew.alloc (.cells us e)).heap[w.heap.size]? =some (.cells us e (0,0)):=heap_alloc_new w.drew _;have hrun:(convert src dst (.string s)).run P w= .ok (.slice (some ⟨w.heap.size,0,none⟩) rs.length cap) (w.drew.alloc (.cells us e)):=by
     have hnf:(Question.appendCap rs.length 0 e).forced=false:=rfl;have hsz2:((rs.map λ(n:Nat)=>Value.int .i32 n).toArray).size=rs.length:=by simp
     simp only[convert,Sem.run_bind,run_underlying hs,run_underlying hd,Result.andThen_ok,run_underlying he,Conv.stringToRunes,hel,hsz2,run_choose,hnf,yaD,ybd,hcap,newRow,run_newObj,Sem.run_pure,husd];rfl
    obtain⟨n1,n2⟩:=zjw (w':=w.drew.alloc (.cells us e)) H rfl rfl rfl (by simp) (λb hb=>heap_alloc_old w.drew _ b hb)
     (us:=us) (xs:=rs.map λ(n:Nat)=>D.int .i32 n) (sz:=1) (cap:=cap) (e:=e) (fz:=(0,0)) hblk
     (λcs t fz he=>by
       rw[hblk]at he;cases he;exact .inr rfl) (by omega) hus (by omega) hc2 hone hcells
    rw[hlen]at n2;exact⟨_,_,_,hrun,n1,n2⟩
   ·cases hx
  ·cases hx
 ·rename_i e e2 id n hs hd
  split at hx
  ·rename_i he ho
   split at hx
   ·rename_i hc
    simp only[yaa,yad]at hx;obtain⟨rfl,rfl⟩:=hx;exact zsn he hs hc.1 ho hc.2.1 hc.2.2 H hv
   ·cases hx
  ·cases hx
 ·simp only[yab]at hx
  obtain⟨x',hx,e⟩:=hx;simp only[yad]at e;obtain⟨rfl,rfl⟩:=e;obtain⟨u,y,hr,rfl,hrep⟩:=zjr (P:=P) hx H hv;exact⟨u,ρ,w,hr,Stp.refl H,hrep⟩
end
end Go.Am
namespace Go.Am
section
variable {X:Nat->Nat->Prop} {ρ ρ' ρ'':Places} {h h' h'':List Obj} {w w' w'':World} {P:Program}
def zgJ {xs:List D} {sz n:Nat} (hx: ∀x∈xs,x.cells.length=sz) (hn:n<=xs.length):flat (xs.take n)=(flat xs).take (n*sz)/\flat (xs.drop n)=(flat xs).drop (n*sz):=by
 have e:flat xs=flat (xs.take n)++flat (xs.drop n):=by rw[<- zbI,ybf]
 have hl:(flat (xs.take n)).length=n*sz:=by
  rw[zau (sz:=sz) λx h=>hx x (yaH h),yaq,ybM hn]
 constructor
 ·rw[e,<- hl,ycS];rfl
 ·rw[e,<- hl,ycT];rfl
def zxi {xs ys:List D} {off sz:Nat} (hx: ∀x∈xs,x.cells.length=sz) (hy: ∀y∈ys,y.cells.length=sz) (hle:off+ys.length<=xs.length):flat (putCells xs off ys)=putCells (flat xs) (off*sz) (flat ys):=by
 unfold putCells;rw[zbI,zbI,(zgJ hx (show off<=xs.length by omega)).1,(zgJ hx hle).2,zau hy,ya8]
def zzP {xs ys:List D} {off:Nat} {x:D} (hx:x∈putCells xs off ys):x∈xs\/x∈ys:=by
 unfold putCells at hx;rcases List.mem_append.1 hx with h | h
 ·rcases List.mem_append.1 h with h | h
  ·exact .inl (yaH h)
  ·exact .inr h
 ·exact .inl (ybF h)
def zlj (H:HRel X ρ h w) {id sz wm off:Nat} {xs ys:List D} {r:zdi} {a:Option Addr} (ho:h[id]? =some (.arr sz xs wm)) (hr:ρ[id]? =some r) (hw:wm<=off) (hle:off+ys.length<=xs.length)
 (hy: ∀y∈ys,y.cells.length=sz) (hpos:0<ys.length-> ∃b cap,r=some (b,cap)/\a=some ⟨b,off*sz,none⟩) {vs:List Value} (hvl:vs.length=ys.length*sz)
 (hvs: ∀ (j:Nat) (c:D),(flat ys)[j]? =some c-> ∃u,vs[j]? =some u/\Rep (Mut X ρ h) w u c/\c.isCell=true):
 ∃w',(∀a',a=some a'->(storeCells a' vs).run P w= .ok () w')/\(a=none->w'=w)/\Stp X ρ h w ρ (h.set id (.arr sz (putCells xs off ys) wm)) w':=by
 rcases ybq ys.length with e | e
 ·have:ys=[]:=yaE e
  subst this;have:vs=[]:=yaE (by simpa using hvl)
  subst this;refine⟨w,λa' _=>rfl,λ_=>rfl, ?_⟩
  have:putCells xs off []=xs:=by simp[putCells]
  rw[this,zbT ho];exact Stp.refl H
 ·obtain⟨b,cap,rfl,rfl⟩:=hpos e
  obtain⟨r',q1,q2⟩:=H.obj id _ ho;rw[hr]at q1;cases q1;obtain⟨hwm,cur,et,fz,m1,m2,m3,m4,m5,m6,m7,m8⟩:=q2;have hfl:=zau hy;have hxl:=zau m6;have hend:off*sz+vs.length<=cur.size:=by
   rw[hvl,<- ya8,m2];exact yaG _ (by omega)
  have hone: ∀u∈vs,u.oneCell'=true:=λu hu=>by
   obtain⟨j,hj⟩:=ybo hu;have hjl:=lt_of_getElem? hj;obtain⟨u',e1,e2,e3⟩:=hvs j (flat ys)[j] (by simp[show j<(flat ys).length by omega])
   rw[hj]at e1;cases e1;exact e2.one e3
  have hrun:=zpB (P:=P) (o:=off*sz) (vs:=vs) m1 hend m7 hone;obtain⟨cur',c5,c6⟩:=zcx b vs (off*sz) w cur et fz m1 hend;have hcur':cur'.size=cur.size:=by
   have:=congrArg List.length c6;rw[zaw (by simpa using hend)]at this
   simpa using this
  obtain⟨t1,t2,t3⟩:=zcz b vs (off*sz) w;have hg: ∀j,cur'[j]? =if off*sz<=j/\j<off*sz+vs.length then vs[j - off*sz]? else cur[j]? :=λj=>by
   have:cur'[j]? =cur'.toList[j]? :=by simp
   rw[this,c6,zav (by simpa using hend)]
   simp
  have hset: ∀z∈putCells xs off ys,z.cells.length=sz:=λz hz=>(zzP hz).elim (m6 z) (hy z)
  have hplen:(putCells xs off ys).length=xs.length:=zaw hle;have hstep:=zcV (w':=w.setCells b (off*sz) vs) (r':=some (b,cap)) (o':= .arr sz (putCells xs off ys) wm) H ho hr t1 t2 t3 (by rw[zcy];exact yaj _)
   (λk _ hk=>zb4 b _ _ w k λe=>hk cap (by rw[e])) (.inl rfl)
   (λj u b' c' hbc hmu hcell=>by
     simp only[yaa,yad]at hbc;obtain⟨rfl,rfl⟩:=hbc;simp only[Obj.mutAt,Nat.not_le]at hmu;have:wm*sz<=off*sz:=yaG _ hw;rw[zap c5,hg,yac (by omega)]
     rwa [zap m1]at hcell)
   (λ_ j hj=>hj) ⟨rfl,by rw[hplen];exact yaj _,λ_=>rfl⟩
   (λhf he=>⟨by rw[hplen];exact hwm,cur',et,fz,c5,by rw[hcur',m2],by rw[hplen];exact m3,m4,m5,hset,by rw[hcur'];exact zbU m7,λj z hj=>by
     rw[zxi m6 hy hle,zav (by rw[hfl,hxl,<- ya8];exact yaG _ hle),hfl,<- hvl]at hj
     rw[hg];split at hj
     ·rename_i hin
      rw[yag hin];obtain⟨u,f1,f2,f3⟩:=hvs _ z hj;exact⟨u,f1,f2.mono hf.imm,f3⟩
     ·rename_i hin
      rw[yac hin];obtain⟨u,f1,f2,f3⟩:=m8 _ z hj;exact⟨u,f1,f2.mono hf.imm,f3⟩⟩)
  rw[zbT hr]at hstep;exact⟨_,λa' ha=>(by cases ha;exact hrun),λe=>(by cases e),hstep.1,hstep.2.1,hstep.2.2⟩
def ziv (H:HRel X ρ h w) {A:V} {id tot off len sz wm:Nat} {xs:List D} {v:Value} (hw:zno A=some (id,tot,off,len)) (ho:h[id]? =some (.arr sz xs wm)) (ht:tot=xs.length) (hv:zat X ρ h w v A):
 ∃r,ρ[id]? =some r/\off+len<=xs.length/\zse r sz off len v:=by
 unfold zno at hw;split at hw
 ·simp only[yaa,yad]at hw
  obtain⟨rfl,rfl,rfl,rfl⟩:=hw;subst ht;obtain⟨r,h1,h2⟩:=zhD H ho hv;exact⟨r,h1,by omega,h2⟩
 ·simp only[yaa,yad]at hw
  obtain⟨rfl,rfl,rfl,rfl⟩:=hw;obtain⟨_,sz2,xs2,wm2,r,h1,h2,h3,h4⟩:=hv;rw[ho]at h1;cases h1;obtain⟨hle,hs⟩:=h4 ht;exact⟨r,h2,by omega,hs⟩
 ·cases hw
def zpD {td:TypeId} {A B x:V} {v u:Value} {ts:Array TypeId} {ty:TypeId} {vs:Array Value} (hx:zsb P h td A B=some (x,h')) (H:HRel X ρ h w) (hv:zat X ρ h w v A) (hu:zat X ρ h w u B)
 (h0:ts[0]? =some td) (hv0:vs[0]? =some v) (hv1:vs[1]? =some u): ∃z w',(Builtin.copy_ ts ty vs).run P w= .ok z w'/\Stp X ρ h w ρ h' w'/\zat X ρ h' w' z x:=by
 unfold zsb at hx;split at hx
 ·rename_i e hs
  split at hx
  ·rename_i id tot off len ys n hwin hel hn
   split at hx
   ·rename_i sz xs wm ho
    split at hx
    ·rename_i hc
     obtain⟨rfl,hall⟩:=hc;simp only[yab,yad]at hx;obtain⟨h1,hov,rfl,rfl⟩:=hx;unfold zpp at hov;rw[ho]at hov;simp only at hov;split at hov
     ·rename_i hcc
      obtain⟨c1,c2,c3,c4⟩:=hcc;simp only[yaa]at hov;subst hov;obtain⟨r,hr,hle,a,c,rfl,hlc,han,hpos⟩:=ziv H hwin ho c1 hv;obtain⟨sa,sc,rfl,hrd⟩:=zdj hel H hu;have hsz:=zbL hall;have htk: ∀y∈ys.take len,y.cells.length=sz:=λy hy=>hsz y (yaH hy)
      have hfl:=zau htk;obtain⟨news,hn1,hn2,hn3⟩: ∃news:List Value,(Builtin.firstCells sz (min ys.length len) (.slice sa ys.length sc)).run P w= .ok news.toArray w/\news.length=(ys.take len).length*sz/\
       ∀ (j:Nat) (c:D),(flat (ys.take len))[j]? =some c-> ∃u,news[j]? =some u/\Rep (Mut X ρ h) w u c/\c.isCell=true:=by
       rcases hrd with rfl | ⟨b,o,sz',rfl,e1,e2⟩
       ·refine⟨[], ?_,by simp,λj c hj=>by simp[flat]at hj⟩
        cases sa with
        |none=>simp[Builtin.firstCells]
        |some sa=>exact run_firstCells_some (P:=P) w sz _ sa _ sc [] (by simp) (by simp)
       ·have hval: ∀j,j<(flat (ys.take len)).length-> ∃u,w.cell? ⟨b,o+j,none⟩=some u/\Rep (Mut X ρ h) w u (flat (ys.take len))[j]! /\(flat (ys.take len))[j]!.isCell=true:=λj hj=>by
         have hj2:(flat ys)[j]? =some (flat (ys.take len))[j]! :=by
          have hmin:ys.take len=ys.take (min len ys.length):=by rw[List.take_eq_take_min]
          rw[hmin,(zgJ hsz (Nat.min_le_right _ _)).1]at hj ⊢;rw[yaq]at hj;rw[getElem!_pos ((flat ys).take (min len ys.length*sz)) j (by rw[yaq];exact hj),ycE,yak]
         obtain⟨u,f1,f2,f3⟩:=e2 j _ hj2;exact⟨u,f1,f2,f3⟩
        let news:List Value:=(List.range (flat (ys.take len)).length).map λj=>(w.cell? ⟨b,o+j,none⟩).getD undef
        have hlen:(ys.take len).length=min ys.length len:=by rw[yaq,Nat.min_comm]
        refine⟨news, ?_,by simp[news,hfl],λj c hj=> ?_⟩
        ·refine run_firstCells_some (P:=P) w sz _ ⟨b,o,none⟩ _ sc news (by simp[news,hfl,hlen]) λj u hj=> ?_
         simp only[news,yau,yab]at hj;obtain⟨i,hi,rfl⟩:=hj;have hlt:=lt_of_getElem? hi;simp only[ycf]at hlt;rw[ybj hlt,yaa]at hi;subst hi;obtain⟨u,hu,_⟩:=hval j hlt;rw[Addr.add_lit,hu];rfl
        ·have hlt:=lt_of_getElem? hj
         obtain⟨u,hu,g1,g2⟩:=hval j hlt;have hcc:(flat (ys.take len))[j]! =c:=by
          rw[getElem!_pos (flat (ys.take len)) j hlt];rw[yak hlt]at hj;simpa using hj
         rw[hcc]at g1 g2;refine⟨u, ?_,g1,g2⟩;simp[news,ybj hlt,hu]
      have hlen:(ys.take len).length=min ys.length len:=by rw[yaq,Nat.min_comm]
      obtain⟨w1,k1,k2,st⟩:=zlj (P:=P) (a:=a) H ho hr c2 (by omega) htk (λhp=>hpos (by omega)) hn2 hn3
      refine⟨.int .i64 (min ys.length len:Nat),w1, ?_,st,.int _ _⟩;simp only[Builtin.copy_,h0,hv0,hv1,Sem.run_bind,run_underlying hs,Result.andThen_ok,Builtin.lenOf,Sem.run_pure,zaz hn];rw[show Nat.min ys.length len=min ys.length len from rfl,hn1]
      simp only[Result.andThen_ok];cases a with
      |none=>rw[k2 rfl];simp[goInt]
      |some a=>simp[k1 a rfl,goInt]
     ·cases hov
    ·cases hx
   ·cases hx
  ·cases hx
 ·cases hx
def znH {t:TypeId} {A x:V} {v:Value} {ts:Array TypeId} {ty:TypeId} {vs:Array Value} (hx:zlb P h t A=some (x,h')) (H:HRel X ρ h w) (hv:zat X ρ h w v A)
 (h0:ts[0]? =some t) (hv0:vs[0]? =some v): ∃z w',(Builtin.clear_ ts ty vs).run P w= .ok z w'/\Stp X ρ h w ρ h' w'/\zat X ρ h' w' z x:=by
 unfold zlb at hx;split at hx
 ·rename_i e hs
  split at hx
  ·rename_i id tot off len zd n hwin hz hn
   split at hx
   ·rename_i sz xs wm ho
    split at hx
    ·rename_i hc
     obtain⟨rfl,hzl⟩:=hc;simp only[yab,yad]at hx;obtain⟨h1,hov,rfl,rfl⟩:=hx;unfold zpp at hov;rw[ho]at hov;simp only at hov;split at hov
     ·rename_i hcc
      obtain⟨c1,c2,c3,c4⟩:=hcc;simp only[yaa]at hov;subst hov;obtain⟨r,hr,hle,a,c,rfl,hlc,han,hpos⟩:=ziv H hwin ho c1 hv;obtain⟨z,hz1,hz2⟩:=zgH hz;have hrep:=hz2 (Mut X ρ h) w;obtain⟨q1,q2⟩:=hrep.cells;rw[hzl]at q1;obtain⟨w1,k1,k2,st⟩:=zlj (P:=P) (ys:=List.replicate len zd) (a:=a) (vs:=(Builtin.zeroCells z.cells len).toList) H ho hr c2 (by simpa using c3) (λy hy=>by rw[yb7 hy];exact hzl) (λhp=>hpos (by simpa using hp))
       (by simp[Builtin.zeroCells,q1]) (λj c hj=>by
         have hlt:=lt_of_getElem? hj;rw[zau (sz:=sz) λx hx=>by rw[yb7 hx];exact hzl]at hlt
         simp only[ya6]at hlt;have hcj:=zfQ hj;rw[hzl]at hcj;obtain⟨u,k1,k2,k3⟩:=q2 _ c hcj;refine⟨u, ?_,k2,k3⟩;simp only[Builtin.zeroCells,ycj,yct,q1];rw[ydl,yag hlt];simp only[yaM];rw[getElem!_def,k1])
      refine⟨.tuple #[],w1, ?_,st,⟨#[],rfl,rfl,λj c hj=>by simp at hj⟩⟩
      simp only[Builtin.clear_,h0,hv0,Sem.run_bind,run_underlying hs,Result.andThen_ok];cases a with
      |none=>rw[k2 rfl];simp
      |some a=>
       cases len with
       |zero=>
        have:w1=w:=by
         have:=k1 a rfl;simp[Builtin.zeroCells,storeCells]at this;exact this.symm
        rw[this];simp
       |succ len=>simp[zbt hz1,k1 a rfl]
     ·cases hov
    ·cases hx
   ·cases hx
  ·cases hx
 ·cases hx
def zkT {t:TypeId} {A x:V} {v:Value} (hx:zgy P h t A=some (x,h')) (H:HRel X ρ h w) (hv:zat X ρ h w v A):
 ∃u ρ' w',(Instr.range t v).run P w= .ok u w'/\Stp X ρ h w ρ' h' w'/\zat X ρ' h' w' u x:=by
 unfold zgy at hx;split at hx
 ·rename_i s ht
  simp only[yaa,yad]at hx;obtain⟨rfl,rfl⟩:=hx;have hv':Rep (Mut X ρ h) w v (.str s):=hv;cases hv';have hget:(w.alloc (.stringIter s 0)).heap[w.heap.size]? =some (.stringIter s 0):=by
   show (w.heap.push _)[w.heap.size]? =_
   simp
  obtain⟨h1,h2,h3⟩:=zeG (w':=w.alloc (.stringIter s 0)) H (.siter s 0) (some (w.heap.size,0)) rfl rfl rfl (by simp) (λb hb=>by
   show (w.heap.push _)[b]? =_
   rw[Array.getElem?_push,yac (by omega)]) (λb c e=>by cases e;exact yaj _) λ_ _=>⟨_,_,rfl,hget⟩
  refine⟨.pointer (some ⟨w.heap.size,0,none⟩),_,_,by simp[Instr.range,run_underlying ht],⟨h1,h2,h3⟩, ?_⟩
  refine⟨.siter s 0,w.heap.size,0,by simp,rfl, ?_,rfl⟩
  rw[<- H.len];simp
 ·cases hx
def zpE {ty:TypeId} {A x:V} {v:Value} (hx:zpt h A=some (x,h')) (H:HRel X ρ h w) (hv:zat X ρ h w v A):
 ∃u ρ' w',(Instr.next v true ty).run P w= .ok u w'/\Stp X ρ h w ρ' h' w'/\zat X ρ' h' w' u x:=by
 unfold zpt at hx;split at hx
 ·rename_i id
  obtain⟨o,b,c,k1,k2,k3,rfl⟩:=hv;split at hx
  ·rename_i s pos ho
   rw[ho]at k1;cases k1;obtain⟨r,g1,g2⟩:=H.obj id _ ho;rw[k3]at g1;cases g1;obtain⟨b',c',e1,e2⟩:=g2;cases e1;have hget:(getObj b).run P w= .ok (.stringIter s pos) w:=by simp[getObj,Sem.run,e2]
   simp only[yaa]at hx;unfold zgz at hx;split at hx
   ·rename_i hlt
    simp only[yad]at hx;obtain⟨rfl,rfl⟩:=hx;obtain⟨⟨cc,wd⟩,hd⟩: ∃p,Utf8.decode s pos=p:=⟨_,rfl⟩;rw[hd];have hset:(setObj b (.stringIter s (pos+wd))).run P w= .ok () { w with heap:=w.heap.setIfInBounds b (.stringIter s (pos+wd)) }:=by simp[setObj,Sem.run,e2]
    have hbl:b<w.heap.size:=(Array.getElem?_eq_some_iff.1 e2).1;have:=zcV (w':= { w with heap:=w.heap.setIfInBounds b (.stringIter s (pos+wd)) }) (r':=some (b,c)) (o':= .siter s (pos+wd)) H ho k3 rfl rfl rfl (by simp)
     (λb2 _ hne=>by
       have:b2≠b:=λe=>hne c (by rw[e])
       simp[Array.getElem?_setIfInBounds_ne (Ne.symm this)])
     (.inl rfl) (λj v b2 c2 e hm=>absurd trivial hm) (λ_ j hm=>absurd trivial hm) rfl λ_ _=>⟨b,c,rfl,by simp[hbl]⟩
    have hρ:ρ.set id (some (b,c))=ρ:=by
     apply ybV;intro i;rw[yb2];split
     ·rename_i e
      subst e;rw[yag (lt_of_getElem? k3),k3]
     ·rfl
    rw[hρ]at this;obtain⟨h1,h2,h3⟩:=this;refine⟨.tuple #[.bool true,.int .i64 pos,.int .i32 cc],ρ,_, ?_,⟨h1,h2,h3⟩, ?_⟩
    ·simp only[Instr.next,Sem.run_bind,hget,Result.andThen_ok]
     rw[yag hlt];simp only[hd,Sem.run_bind,hset,Result.andThen_ok];rfl
    ·refine⟨#[.bool true,.int .i64 pos,.int .i32 cc],rfl,rfl,λj x hj=> ?_⟩
     match j,hj with
     |0,hj=>simp at hj;subst hj;exact⟨_,rfl,.bool _⟩
     |1,hj=>simp at hj;subst hj;exact⟨_,rfl,.int _ _⟩
     |2,hj=>simp[hd]at hj;subst hj;exact⟨_,rfl,.int _ _⟩
     |j+3,hj=>simp at hj
   ·rename_i hlt
    simp only[yad]at hx;obtain⟨rfl,rfl⟩:=hx;refine⟨.tuple #[.bool false],ρ,w, ?_,Stp.refl H, ?_⟩
    ·simp only[Instr.next,Sem.run_bind,hget,Result.andThen_ok]
     rw[yac hlt];rfl
    ·refine⟨#[.bool false],rfl,rfl,λj x hj=> ?_⟩
     match j,hj with
     |0,hj=>simp at hj;subst hj;exact⟨_,rfl,.bool _⟩
     |j+1,hj=>simp at hj
  ·cases hx
 ·cases hx
/-! ### cooling -/
def zdl: ∀ (cs:List V) (h:List Obj) (us:Nat->Value),HRel X ρ h w->(∀ (j:Nat) (c:V),cs[j]? =some c->V1 X ρ h w (us j) c/\c.cellOk=true)->
 Stp X ρ h w ρ (zba h cs).2 w/\(zba h cs).1.length=cs.length/\ ∀ (j:Nat) (c:V),(zba h cs).1[j]? =some c->V1 X ρ (zba h cs).2 w (us j) c/\c.cellOk=true
 |[],h,us,H,_=>⟨Stp.refl H,rfl,λj c hj=>by simp[zba]at hj⟩
 |c::cs,h,us,H,hc=>by
  unfold zba;split
  ·rename_i x h1 hx
   have hown:c.isOwn=true:=by
    cases e:c.isOwn with
    |true=>rfl
    |false=>rw[e]at hx;simp at hx
   rw[hown,yag rfl]at hx;obtain⟨s1,r1⟩:=zbs hx H (hc 0 c (by simp)).1
   obtain⟨s2,e2,r2⟩:=zdl cs h1 (λj=>us (j+1)) s1.rel λj c hj=>⟨s1.v1 (hc (j+1) c (by simpa using hj)).1,(hc (j+1) c (by simpa using hj)).2⟩
   refine⟨s1.trans H s2,by simp[e2],λj y hj=> ?_⟩
   cases j with
   |zero=>
    simp only[yaF,yaa]at hj;subst hj;refine⟨s2.rep r1, ?_⟩;have:=zlf hx (hc 0 c (by simp)).2
    cases x <;> simp_all [V.cellOk,D.isCell]
   |succ j=>exact r2 j y (by simpa using hj)
  ·obtain⟨s2,e2,r2⟩:=zdl cs h (λj=>us (j+1)) H λj c hj=>hc (j+1) c (by simpa using hj)
   refine⟨s2,by simp[e2],λj y hj=> ?_⟩
   cases j with
   |zero=>
    simp only[yaF,yaa]at hj;subst hj;exact⟨s2.v1 (hc 0 c (by simp)).1,(hc 0 c (by simp)).2⟩
   |succ j=>exact r2 j y (by simpa using hj)
def ziw (H:HRel X ρ h w) (id:Nat):Stp X ρ h w ρ (zlc h id) w:=by
 unfold zlc;split
 ·rename_i cs ho
  obtain⟨r,hr,b,c,cur,e,fz,rfl,k1,k2,k3,k4⟩:=H.obj id _ ho;obtain⟨s1,e1,r1⟩:=zdl cs h (λj=>cur.getD j undef) H λj y hj=>by
   obtain⟨u,m1,m2,m3⟩:=k4 j y hj;refine⟨?_,m3⟩;rw[yav,m1];exact m2
  obtain⟨o',r',q1,q2,q3⟩:=s1.evo id _ _ (lt_of_getElem? ho) ho hr;cases o' <;> simp only[zbl]at q3;rename_i cs';obtain⟨q4,rfl⟩:=q3;have:=zcV (w':=w) (r':=some (b,c)) (o':= .box (zba h cs).1) s1.rel q1 hr rfl rfl rfl (yaj _) (λ_ _ _=>rfl) (.inl rfl) (λ_ _ _ _ _ _ hc=>hc) (λ_ j hj=>absurd trivial hj) ⟨by rw[e1,q4],rfl⟩
   (λhf he=>⟨b,c,cur,e,fz,rfl,k1,by rw[k2,e1],k3,λj y hj=>by
     have hj':j<cur.size:=by have:=lt_of_getElem? hj;omega
     obtain⟨m1,m2⟩:=r1 j y hj;rw[yav,ybe hj']at m1;exact⟨cur[j],by simp[hj'],m1.mono hf he,m2⟩⟩)
  rw[zbT hr]at this;exact s1.trans H ⟨this.1,this.2.1,this.2.2⟩
 ·exact Stp.refl H
def zfS: ∀ (m n:Nat) {h:List Obj},HRel X ρ h w->Stp X ρ h w ρ (zgx m n h) w
 |0,_,_,H=>Stp.refl H
 |m+1,n,h,H=>(ziw H n).trans H (zfS m (n+1) (ziw H n).rel)
def zpF {v:Value} {A:V} (H:HRel X ρ h w) (hv:zat X ρ h w v A):Stp X ρ h w ρ (zkP h A) w:=by
 unfold zkP;split
 ·rename_i id
  split
  ·rename_i cs ho
   split
   ·rename_i xs h1 hp
    obtain⟨r,hr,b,c,cur,e,fz,rfl,k1,k2,k3,k4⟩:=H.obj id _ ho;exact (zdD cs h (λj=>cur.getD j undef) xs h1 hp H λj y hj=>by
     obtain⟨u,m1,m2,m3⟩:=k4 j y hj;rw[yav,m1];exact m2).1
   ·exact Stp.refl H
  ·exact Stp.refl H
 ·exact Stp.refl H
end
end Go.Am
namespace Go.Am
def zee: ∀ (l acc:List Nat), ∃r,zaj acc l=acc++r
 |[],acc=>⟨[],by simp[zaj]⟩
 |i::l,acc=>by
  simp only[zaj];obtain⟨r,hr⟩:=zee l (if acc.contains i then acc else acc++[i])
  rw[hr];split
  ·exact⟨r,rfl⟩
  ·exact⟨i::r,by simp⟩
def zch: ∀ (l acc:List Nat),acc.Nodup->(zaj acc l).Nodup
 |[],_,h=>h
 |i::l,acc,h=>by
  simp only[zaj];refine zch l _ ?_;split
  ·exact h
  ·rename_i hi
   rw[ydH];refine⟨h,by simp,λa ha b hb=> ?_⟩
   simp only[List.mem_singleton]at hb;subst hb;intro e;subst e;exact hi (by simpa using ha)
def zix (h:List Obj): ∀ (fuel pos:Nat) (acc:List Nat), ∃r,zf4 h fuel pos acc=acc++r
 |0,_,acc=>⟨[],by simp[zf4]⟩
 |fuel+1,pos,acc=>by
  simp only[zf4];split
  ·exact⟨[],by simp⟩
  ·rename_i i _
   obtain⟨r,hr⟩:=zee (zcu h i) acc;obtain⟨r',hr'⟩:=zix h fuel (pos+1) (zaj acc (zcu h i));exact⟨r++r',by rw[hr',hr,yan]⟩
def zjy (h:List Obj): ∀ (fuel pos:Nat) (acc:List Nat),acc.Nodup->(zf4 h fuel pos acc).Nodup
 |0,_,_,hn=>hn
 |fuel+1,pos,acc,hn=>by
  simp only[zf4];split
  ·exact hn
  ·exact zjy h fuel _ _ (zch _ _ hn)
def zef (h:List Obj) {acc:List Nat} (hn:acc.Nodup):(zbi h acc).Nodup:=zjy h _ _ _ hn
def zf8 (h:List Obj) (k:Nat) (l:List Nat): ∃r,zbi h (zaj (List.range k) l)=List.range k++r:=by
 obtain⟨r,hr⟩:=zee l (List.range k);obtain⟨r',hr'⟩:=zix h (h.length+1) 0 (zaj (List.range k) l);exact⟨r++r',by rw[zbi,hr',hr,yan]⟩
def zeO: ∀ {ids:List Nat} {i j:Nat},zas ids i=some j->ids[j]? =some i
 |[],_,_,h=>by simp[zas]at h
 |x::xs,i,j,h=>by
  simp only[zas]at h;split at h
  ·rename_i e
   simp only[yaa]at h;subst h;subst e;rfl
  ·simp only[yab]at h
   obtain⟨j',hj',rfl⟩:=h;simpa using zeO hj'
def zeg: ∀ {ids:List Nat} {i j:Nat},ids.Nodup->ids[j]? =some i->zas ids i=some j
 |[],_,_,_,h=>by simp at h
 |x::xs,i,j,hn,h=>by
  rw[List.nodup_cons]at hn;cases j with
  |zero=>simp at h;subst h;simp[zas]
  |succ j=>
   simp only[ybs]at h;have hne:x≠i:=λe=>hn.1 (e ▸ yay h)
   simp[zas,hne,zeg hn.2 h]
def zlk: ∀ {ids:List Nat} {i:Nat},zas ids i=none->i∉ids
 |[],_,_=>by simp
 |x::xs,i,h=>by
  simp only[zas]at h;split at h
  ·cases h
  ·rename_i e
   simp only[Option.map_eq_none_iff]at h;simp only[ybI,not_or];exact⟨λe'=>e e'.symm,zlk h⟩
def zhH {α:Type}: ∀ (ids:List Nat) (os l:List α),ids.Nodup->(∀i∈ids,i<l.length)->ids.length<=os.length->
 (zb0 l ids os).length=l.length/\ ∀i,(zb0 l ids os)[i]? =match zas ids i with | some j=>os[j]? | none=>l[i]?
 |[],os,l,_,_,_=>by cases os <;> exact⟨rfl,λi=>rfl⟩
 |x::ids,[],l,_,_,hl=>by simp at hl
 |x::ids,o::os,l,hn,hlt,hl=>by
  rw[List.nodup_cons]at hn;obtain⟨h1,h2⟩:=zhH ids os (l.set x o) hn.2 (λi hi=>by simpa using hlt i (by simp[hi])) (by simpa using hl)
  refine⟨by simp[zb0,h1],λi=> ?_⟩
  simp only[zb0,h2,zas]
  by_cases e:x=i
  ·subst e
   have:zas ids x=none:=by
    cases hp:zas ids x with
    |none=>rfl
    |some j=>exact absurd (yay (zeO hp)) hn.1
   simp[this,hlt x (by simp)]
  ·rw[yac e]
   cases hp:zas ids i with
   |none=>simp[e]
   |some j=>simp
/-! ### renaming ziN what stands for what -/
structure RenOk (X X':Nat->Nat->Prop) (f:Nat->Option Nat) (ρ:Places) (h:List Obj) (ρ2:Places) (h2:List Obj):Prop where
 fwd: ∀ (i j:Nat),f i=some j-> ∀ (o:Obj),h[i]? =some o-> ∃o',h2[j]? =some o'/\Obj.ren f o=some o'/\ρ2[j]? =ρ[i]?
 mu: ∀b j,Mut X' ρ2 h2 b j->Mut X ρ h b j
section
variable {X X':Nat->Nat->Prop} {f:Nat->Option Nat} {ρ ρ2:Places} {h h2:List Obj} {w:World}
def RenOk.rep (R:RenOk X X' f ρ h ρ2 h2) {v:Value} {x:D} (hr:Rep (Mut X ρ h) w v x):Rep (Mut X' ρ2 h2) w v x:=hr.mono λb j _ hm hc=>⟨hc,λh'=>hm (R.mu b j h')⟩
def zus {o o':Obj} (hr:Obj.ren f o=some o'):o'.isArr=o.isArr:=by
 cases o with
 |box cs=>simp only[Obj.ren,yab]at hr;obtain⟨cs',_,rfl⟩:=hr;rfl
 |arr _ _ _=>simp only[Obj.ren,yaa]at hr;subst hr;rfl
 |siter _ _=>simp only[Obj.ren,yaa]at hr;subst hr;rfl
def V0.ren (R:RenOk X X' f ρ h ρ2 h2) {v:Value} {x y:V} (hv:V0 X ρ h w v x) (hr:V.ren0 f x=some y):V0 X' ρ2 h2 w v y:=by
 cases x with
 |d x=>simp only[V.ren0,yaa]at hr;subst hr;exact R.rep hv
 |nilS=>simp only[V.ren0,yaa]at hr;subst hr;exact hv
 |arr id n=>
  simp only[V.ren0,yab]at hr;obtain⟨i,hi,rfl⟩:=hr;obtain⟨h1,sz,xs,wm,r,h3,h4,h5,h6⟩:=hv;obtain⟨o',e1,e2,e3⟩:=R.fwd _ _ hi _ h3;simp only[Obj.ren,yaa]at e2;subst e2;exact⟨h1,sz,xs,wm,r,e1,e3.trans h4,h5,h6⟩
 |sl id t o l=>
  simp only[V.ren0,yab]at hr;obtain⟨i,hi,rfl⟩:=hr;obtain⟨h1,sz,xs,wm,r,h3,h4,h5,h6⟩:=hv;obtain⟨o',e1,e2,e3⟩:=R.fwd _ _ hi _ h3;simp only[Obj.ren,yaa]at e2;subst e2;exact⟨h1,sz,xs,wm,r,e1,e3.trans h4,h5,h6⟩
 |emp=>simp only[V.ren0,yaa]at hr;subst hr;exact hv
 |ptr id o=>
  simp only[V.ren0,yab]at hr;obtain⟨i,hi,rfl⟩:=hr;obtain⟨ob,b,c,h1,h3,h4,h5⟩:=hv;obtain⟨o',e1,e2,e3⟩:=R.fwd _ _ hi _ h1;exact⟨o',b,c,e1,(zus e2).trans h3,e3.trans h4,h5⟩
 |eptr id n i o=>
  simp only[V.ren0,yab]at hr;obtain⟨j,hj,rfl⟩:=hr;obtain⟨h1,sz,xs,wm,r,h3,h4,h5,h6⟩:=hv;obtain⟨o',e1,e2,e3⟩:=R.fwd _ _ hj _ h3;simp only[Obj.ren,yaa]at e2;subst e2;exact⟨h1,sz,xs,wm,r,e1,e3.trans h4,h5,h6⟩
 |ro cs=>
  simp only[V.ren0,yaa]at hr;subst hr;exact zhB.mono (λb j _ hm hc=>⟨hc,λh'=>hm (R.mu b j h')⟩) hv
 |dead=>simp only[V.ren0,yaa]at hr;subst hr;trivial
 |mp id=>
  simp only[V.ren0,yab]at hr;obtain⟨i,hi,rfl⟩:=hr;obtain⟨cs,b,c,h1,h3,h4⟩:=hv;obtain⟨o',e1,e2,e3⟩:=R.fwd _ _ hi _ h1;simp only[Obj.ren,yab]at e2;obtain⟨cs',e4,rfl⟩:=e2;exact⟨cs',b,c,e1,e3.trans h3,by rw[(zaY e4).1];exact h4⟩
 |clo _ _=>simp[V.ren0]at hr
 |agg _=>simp[V.ren0]at hr
 |tup _=>simp[V.ren0]at hr
def zgK {α β:Type} {f:α->Option β} {l:List α} {r:List β} (hm:l.mapM f=some r):r.length=l.length/\ ∀ (j:Nat) (a:α),l[j]? =some a-> ∃b,r[j]? =some b/\f a=some b:=by
 obtain⟨h1,h2⟩:=zaY hm;refine⟨h1,λj a hj=> ?_⟩
 have hlt:j<r.length:=by rw[h1];exact lt_of_getElem? hj
 obtain⟨a',h3,h4⟩:=h2 j r[j] (by simp[hlt])
 rw[hj]at h3;cases h3;exact⟨_,by simp[hlt],h4⟩
def V1.ren (R:RenOk X X' f ρ h ρ2 h2) {v:Value} {x y:V} (hv:V1 X ρ h w v x) (hr:V.ren1 f x=some y):V1 X' ρ2 h2 w v y:=by
 have key:V0 X ρ h w v x->V.ren0 f x=some y->V1 X' ρ2 h2 w v y:=λa b=>by
  have:=V0.ren R a b;cases y with
  |clo _ _=>exact this.elim
  |_=>exact this
 cases x with
 |clo g caps=>
  simp only[V.ren1,yab]at hr;obtain⟨caps',hc,rfl⟩:=hr;obtain⟨us,h1,h2',h3⟩:=hv;obtain⟨e1,e2⟩:=zaY hc;refine⟨us,h1,by omega,λj c hj=> ?_⟩
  obtain⟨a,ha,hac⟩:=e2 j c hj;obtain⟨u,hu,hua⟩:=h3 j a ha;exact⟨u,hu,hua.ren R hac⟩
 |d _=>exact key hv hr
 |nilS=>exact key hv hr
 |arr _ _=>exact key hv hr
 |sl _ _ _ _=>exact key hv hr
 |emp=>exact key hv hr
 |ptr _ _=>exact key hv hr
 |eptr _ _ _ _=>exact key hv hr
 |ro _=>exact key hv hr
 |mp _=>exact key hv hr
 |agg _=>exact key hv hr
 |tup _=>exact key hv hr
 |dead=>exact key hv hr
def zpG {x y:V} (hr:V.ren0 f x=some y):y.cellOk=x.cellOk:=by
 cases x <;> simp only[V.ren0,yab,yaa,reduceCtorEq]at hr <;> first
  |(obtain⟨_,_,rfl⟩:=hr;rfl)
  |(subst hr;rfl)
def zjz {x y:V} (hr:V.ren1 f x=some y):y.cellOk=x.cellOk:=by
 cases x with
 |clo g caps=>simp only[V.ren1,yab]at hr;obtain⟨_,_,rfl⟩:=hr;rfl
 |_=>exact zpG (f:=f) hr
def V2.ren (R:RenOk X X' f ρ h ρ2 h2) {v:Value} {x y:V} (hv:V2 X ρ h w v x) (hr:V.ren2 f x=some y):V2 X' ρ2 h2 w v y:=by
 have key:V1 X ρ h w v x->V.ren1 f x=some y->V2 X' ρ2 h2 w v y:=λa b=>(V1.ren R a b).v2
 cases x with
 |agg cs=>
  simp only[V.ren2,yab]at hr;obtain⟨cs',hc,rfl⟩:=hr;obtain⟨us,h1,h2',h3⟩:=hv;obtain⟨e1,e2⟩:=zaY hc;refine⟨us,h1,by omega,λj c hj=> ?_⟩
  obtain⟨a,ha,hac⟩:=e2 j c hj;obtain⟨u,hu,hua,hok⟩:=h3 j a ha;exact⟨u,hu,hua.ren R hac,(zjz hac).trans hok⟩
 |d _=>exact key hv hr
 |nilS=>exact key hv hr
 |arr _ _=>exact key hv hr
 |sl _ _ _ _=>exact key hv hr
 |emp=>exact key hv hr
 |ptr _ _=>exact key hv hr
 |eptr _ _ _ _=>exact key hv hr
 |ro _=>exact key hv hr
 |mp _=>exact key hv hr
 |clo _ _=>exact key hv hr
 |tup _=>exact key hv hr
 |dead=>exact key hv hr
def zat.ren (R:RenOk X X' f ρ h ρ2 h2) {v:Value} {x y:V} (hv:zat X ρ h w v x) (hr:V.ren f x=some y):zat X' ρ2 h2 w v y:=by
 have key:V2 X ρ h w v x->V.ren2 f x=some y->zat X' ρ2 h2 w v y:=λa b=>(V2.ren R a b).vrel
 cases x with
 |tup vs=>
  simp only[V.ren,yab]at hr;obtain⟨vs',hc,rfl⟩:=hr;obtain⟨us,h1,h2',h3⟩:=hv;obtain⟨e1,e2⟩:=zaY hc;refine⟨us,h1,by omega,λj c hj=> ?_⟩
  obtain⟨a,ha,hac⟩:=e2 j c hj;obtain⟨u,hu,hua⟩:=h3 j a ha;exact⟨u,hu,hua.ren R hac⟩
 |d _=>exact key hv hr
 |nilS=>exact key hv hr
 |arr _ _=>exact key hv hr
 |sl _ _ _ _=>exact key hv hr
 |emp=>exact key hv hr
 |ptr _ _=>exact key hv hr
 |eptr _ _ _ _=>exact key hv hr
 |ro _=>exact key hv hr
 |mp _=>exact key hv hr
 |clo _ _=>exact key hv hr
 |agg _=>exact key hv hr
 |dead=>exact key hv hr
def ObjRel.ren (R:RenOk X X' f ρ h ρ2 h2) {r:zdi} {o o':Obj} (ho:ObjRel X ρ h w r o) (hr:Obj.ren f o=some o'):ObjRel X' ρ2 h2 w r o':=by
 cases o with
 |box cs=>
  simp only[Obj.ren,yab]at hr;obtain⟨cs',hc,rfl⟩:=hr;obtain⟨b,c,cur,e,fz,h1,h2',h3,h4,h5⟩:=ho;obtain⟨e1,e2⟩:=zaY hc;refine⟨b,c,cur,e,fz,h1,h2',by omega,h4,λj x hj=> ?_⟩
  obtain⟨a,ha,hac⟩:=e2 j x hj;obtain⟨u,hu,hua,hok⟩:=h5 j a ha;exact⟨u,hu,hua.ren R hac,(zjz hac).trans hok⟩
 |arr sz xs wm=>
  simp only[Obj.ren,yaa]at hr;subst hr;refine⟨ho.1, ?_⟩;have h2':=ho.2;cases r with
  |none=>exact h2'
  |some p=>
   obtain⟨b,cap⟩:=p;obtain⟨cur,e,fz,k1,k2,k3,k4,k5,k6,k7,k8⟩:=h2';exact⟨cur,e,fz,k1,k2,k3,k4,k5,k6,k7,λj x hj=>let ⟨u,m1,m2,m3⟩:=k8 j x hj;⟨u,m1,R.rep m2,m3⟩⟩
 |siter s pos=>simp only[Obj.ren,yaa]at hr;subst hr;exact ho
def znI {o o':Obj} (hr:Obj.ren f o=some o') (j:Nat):o'.mutAt j↔o.mutAt j:=by
 cases o with
 |box cs=>simp only[Obj.ren,yab]at hr;obtain⟨cs',_,rfl⟩:=hr;exact Iff.rfl
 |arr _ _ _=>simp only[Obj.ren,yaa]at hr;subst hr;exact Iff.rfl
 |siter _ _=>simp only[Obj.ren,yaa]at hr;subst hr;exact Iff.rfl
def zzQ {g:Nat->Option Nat} {o o1 o2 o3:Obj} {r r':zdi} (h1:Obj.ren f o=some o1) (h2:zbl o1 o2 r r') (h3:Obj.ren g o2=some o3):zbl o o3 r r':=by
 cases o with
 |box cs=>
  simp only[Obj.ren,yab]at h1;obtain⟨cs1,hc1,rfl⟩:=h1;cases o2 with
  |box cs2=>
   simp only[Obj.ren,yab]at h3;obtain⟨cs3,hc3,rfl⟩:=h3;exact⟨by rw[(zaY hc3).1,h2.1,(zaY hc1).1],h2.2⟩
  |arr _ _ _=>exact h2.elim
  |siter _ _=>exact h2.elim
 |arr _ _ _=>
  simp only[Obj.ren,yaa]at h1;subst h1;cases o2 with
  |box cs2=>exact h2.elim
  |arr _ _ _=>simp only[Obj.ren,yaa]at h3;subst h3;exact h2
  |siter _ _=>exact h2.elim
 |siter _ _=>
  simp only[Obj.ren,yaa]at h1;subst h1;cases o2 with
  |box cs2=>exact h2.elim
  |arr _ _ _=>exact h2.elim
  |siter _ _=>simp only[Obj.ren,yaa]at h3;subst h3;exact h2
/-! ### a part of the objects -/
def zax (ρ:Places) (ids:List Nat):Places:=ids.map λi=>(ρ[i]?).getD none
def zc4 (X:Nat->Nat->Prop) (ρ:Places) (h:List Obj) (ids:List Nat) (b j:Nat):Prop:=
 X b j\/ ∃ (id c:Nat) (o:Obj),id∉ids/\ρ[id]? =some (some (b,c))/\h[id]? =some o/\o.mutAt j
def zeh {ids:List Nat} (ht:zaG h f ids=some h2):h2.length=ids.length/\ ∀ (j:Nat) (o':Obj),h2[j]? =some o'-> ∃i o,ids[j]? =some i/\h[i]? =some o/\Obj.ren f o=some o':=by
 obtain⟨h1,h2'⟩:=zaY ht;refine⟨h1,λj o' hj=> ?_⟩
 obtain⟨i,hi,hb⟩:=h2' j o' hj;simp only[yaT]at hb;obtain⟨o,ho,hr⟩:=hb;exact⟨i,o,hi,ho,hr⟩
def zei (H:HRel X ρ h w) {ids:List Nat} {i j:Nat} {o:Obj} (hi:ids[j]? =some i) (ho:h[i]? =some o):(zax ρ ids)[j]? =ρ[i]? :=by
 obtain⟨r,hr,_⟩:=H.obj i o ho;simp[zax,hi,hr]
def zms (H:HRel X ρ h w) {ids:List Nat} (hn:ids.Nodup) (ht:zaG h (zas ids) ids=some h2) {Y:Nat->Nat->Prop} (hY: ∀b j,Y b j->zc4 X ρ h ids b j):
 RenOk X Y (zas ids) ρ h (zax ρ ids) h2/\HRel Y (zax ρ ids) h2 w:=by
 obtain⟨t1,t2⟩:=zeh ht;have hget: ∀ (j:Nat) (r:zdi),(zax ρ ids)[j]? =some r-> ∃i,ids[j]? =some i/\ρ[i]? =some r:=λj r hj=>by
  have hlt:j<h2.length:=by rw[t1];simpa[zax]using lt_of_getElem? hj
  obtain⟨i,o,hi,ho,_⟩:=t2 j h2[j] (by simp[hlt])
  rw[zei H hi ho]at hj;exact⟨i,hi,hj⟩
 have hmu: ∀b j,Mut Y (zax ρ ids) h2 b j->Mut X ρ h b j:=by
  rintro b j (hX | ⟨id,c,o,m1,m2,m3⟩)
  ·rcases hY b j hX with hX | ⟨id,c,o,_,m1,m2,m3⟩
   ·exact .inl hX
   ·exact .inr ⟨id,c,o,m1,m2,m3⟩
  ·obtain⟨i,o0,hi,ho0,hr⟩:=t2 id o m2
   rw[zei H hi ho0]at m1;exact .inr ⟨i,c,o0,m1,ho0,(znI hr j).1 m3⟩
 have R:RenOk X Y (zas ids) ρ h (zax ρ ids) h2:=⟨λi j hp o ho=>by
  have hi:=zeO hp;have hlt:j<h2.length:=by rw[t1];exact lt_of_getElem? hi
  obtain⟨i',o',hi',ho',hr⟩:=t2 j h2[j] (by simp[hlt])
  rw[hi]at hi';cases hi';rw[ho]at ho';cases ho';exact⟨_,by simp[hlt],hr,zei H hi ho⟩,hmu⟩
 refine⟨R,⟨by simp[zax,t1],λid o' ho'=> ?_,λb j hX=> ?_,λid b c j hid=> ?_,λi j b c c' hi hj=> ?_⟩⟩
 ·obtain⟨i,o,hi,ho,hr⟩:=t2 id o' ho'
  obtain⟨r,hr1,hr2⟩:=H.obj i o ho;exact⟨r,(zei H hi ho).trans hr1,hr2.ren R hr⟩
 ·rcases hY b j hX with hX | ⟨id,c,o,_,m1,m2,m3⟩
  ·exact H.xlt b j hX
  ·exact H.lt m1
 ·obtain⟨i,hi,hr⟩:=hget id _ hid
  intro hYb;rcases hY b j hYb with hX | ⟨id',c',o,hni,m1,m2,m3⟩
  ·exact H.xown i b c j hr hX
  ·have:=H.inj _ _ b _ _ hr m1
   subst this;exact hni (yay hi)
 ·obtain⟨i1,hi1,hr1⟩:=hget i _ hi
  obtain⟨j1,hj1,hr2⟩:=hget j _ hj;have:=H.inj _ _ b c c' hr1 hr2;subst this;have h3:=zeg hn hi1;have h4:=zeg hn hj1;rw[h3]at h4;simpa using h4
end
end Go.Am
