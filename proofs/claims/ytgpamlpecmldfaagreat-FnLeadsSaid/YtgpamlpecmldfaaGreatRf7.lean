import Derived.Test.YtgpamlpecmldfaaGreatRf6
import Derived.SizedLaws
import Derived.Carry
import Derived.ChangeOld
import Derived.ChangeShapes
import Derived.RowKit
import Derived.IntWalk
set_option linter.all false
open Bool renaming and_eq_true → Vbk, false_eq_true → Vbm
open List renaming getElem?_eq_some_iff → Vbn, mem_append_left → Vbo, mem_singleton → Vbp, getElem?_eq_getElem → Vbq, mem_append_right → Vbr, mem_cons → Vbu, getElem?_cons_zero → Vbv, length_append → Vbw, append_assoc → Vbx, getD_eq_getElem?_getD → Vby, getElem?_append_right → Vbz, mem_cons_of_mem → Vb1, getElem?_append_left → Vb2, mem_of_getElem? → Vb3, mem_append → Vb5, mem_cons_self → Vb7, replicate → Wba, length_cons → Wbb, map_cons → Wbe, all_eq_true → Wbg, length_take → Wbh, length_map → Wbm, append_nil → Wbo, getElem?_map → Wbs, map_nil → Wbu, getElem?_take → Wbw, nil_append → Wby, length_replicate → Wb1, mem_iff_getElem? → Wb8, filter_cons → Xbn, cons_append → Xb0, getElem?_replicate → Ybc, getElem?_range → Yb4
open List.cons renaming injEq → Xbh, inj → Zbd
open Nat renaming le_refl → Vb6, add_assoc → Vb8, lt_or_ge → Wbc, zero_add → Wbj, beq_eq → Wbl, add_zero → Wbv, add_sub_cancel_left → Wbx, ble_eq → Wb6
open Option renaming bind_eq_some_iff → Vbj, bind_some → Vbs, map_eq_some_iff → Vb4, map_some → Wb5, getD_some → Xbq
open Option.some renaming injEq → Vbl, inj → Wbk
open Prod.mk renaming injEq → Wbd, inj → Xb5
namespace Go.Proofs.YtgpamlpecmldfaaGreat.Rf
section
variable (w:World)
def owC (ad:Addr):Nat->List BO->List Value
 |_,[]=>[]
 |off,s::r=>(match s with | .ow _=>[(w.cell? (ad.add off)).getD undef] | _=>[])++owC ad (off+1) r
def Tax:LR->Value->List Value
 |.ow _,v=>[v]
 |.bx cs,.pointer (some ad)=>owC w ad 0 cs
 |_,_=>[]
def owL:List LR->List Value->List Value
 |s::ss,v::vs=>Tax w s v++owL ss vs
 |_,_=>[]
def owR:List (Bool×List LR)->List Value->List Value
 |(a,ss)::rs,u::us=>owL w ss (if a=true then u.cells.toList else [u])++owR rs us
 |_,_=>[]
def owB (bx:Nat->Addr):Nat->List (Bool×List (BS×BO))->List Value
 |_,[]=>[]
 |b,(ro,cs)::r=>if ro=true then owB bx (b+1) r else owC w (bx b) 0 (cs.map (·.2))++owB bx (b+1) r
end
def Pa8:LR->Value->List Addr
 |.bx _,.pointer (some ad)=>[ad]
 |_,_=>[]
def Ma7:List LR->List Value->List Addr
 |s::ss,v::vs=>Pa8 s v++Ma7 ss vs
 |_,_=>[]
def Iaq:List (Bool×List LR)->List Value->List Addr
 |(a,ss)::rs,u::us=>Ma7 ss (if a=true then u.cells.toList else [u])++Iaq rs us
 |_,_=>[]
theorem Was (s:LR)(v:Value):(Pa8 s v).length<=(match s with|.bx _=>1|_=>0):=by
 unfold Pa8;split<;>simp
theorem Qaa:∀ (ss:List LR) (vs:List Value),(Ma7 ss vs).length<=bxL ss
 |[],vs=>by simp[Ma7]
 |s::ss,[]=>by simp[Ma7]
 | s :: ss, v :: vs => by
  have h1:=Was s v;have h2:=Qaa ss vs;simp only[Ma7,Vbw];cases s<;>simp only[bxL]at *<;>omega
theorem Pa9:∀ (rs:List (Bool×List LR)) (us:List Value),(Iaq rs us).length<=lD rs
 |[],us=>by simp[Iaq]
 |(a,ss)::rs,[]=>by simp[Iaq]
 | (a, ss) :: rs, u :: us => by
  have h1:=Qaa ss (if a=true then u.cells.toList else [u]);have h2:=Pa9 rs us;simp only[Iaq,Vbw,lD];omega
def Rax:List BO->Bool
 |[]=>true
 |.ow _::_=>false
 |_::r=>Rax r
section
variable {E:Env} {F:bK} {σ ep:Nat->Option aQ} {ρ:List D} {a:Act} {w w':World} {G G':Gh} {s:Sig} {Z:Take} {gd:Bool} {nr nb y0:Nat} {hs:List Value} {adn:Addr} {ds:List D}
def Qaj (ρ:List D)(l:List Step):Prop:=∀ m y,.prim (.dep m) [.v y] 0∈l->qH m ((aI.v y).val ρ)=true
structure Aft (E:Env) (F:bK) (σ ep:Nat->Option aQ) (ρ:List D) (a:Act) (w:World) (G:Gh) (s:Sig) (Z:Take) (G':Gh) (w':World) (y0:Nat) (ds:List D):Prop where
 B:Qak E F σ ρ a w G s Z G' w'
 val:∀ i,i<ds.length->(aI.v (y0+i)).val ρ=ds.getD i .undef
 known:∀ z∈Z.deps,jK ep z.1 z.2
def UOk (tG:Nat->Prop)(ep:Nat->Option aQ)(ρ:List D)(G2:Gh)(w':World)(nr nb y0:Nat)(u:List (Nat×aQ)):Prop :=
 ∀ k c,(k,c)∈u->(∃ q m i,k=kR (nr+q)/\c=.root (.v (y0+i)) m 0 .live/\Rp G2.own w' (nr+q) [] m (G2.hdr (nr+q)) ((aI.v (y0+i)).val ρ)) \/
  (k=kB nb/\∃ ls,c=.box false ls/\Lae ep ρ G2 w' nb false ls/\tG (G2.bx nb).block)
theorem UOk.append {tG:Nat->Prop}{G2:Gh}{u v:List (Nat×aQ)}(h:UOk tG ep ρ G2 w' nr nb y0 u)(h':UOk tG ep ρ G2 w' nr nb y0 v):UOk tG ep ρ G2 w' nr nb y0 (u++v):=fun k c hc=>(Vb5.1 hc).elim (h k c) (h' k c)
def UIn (ep:Nat->Option aQ)(nr:Nat)(u:List (Nat×aQ)):Prop:=∀ k c,(k,c)∈u->(ep k).isSome/\∀ q,k=kR (nr+q)->q<cK
theorem UIn.left {u v:List (Nat×aQ)}(h:UIn ep nr (u++v)):UIn ep nr u:=fun k c hc=>h k c (Vbo _ hc)
theorem UIn.right {u v:List (Nat×aQ)}(h:UIn ep nr (u++v)):UIn ep nr v:=fun k c hc=>h k c (Vbr _ hc)
theorem Zab {own':Nat->Ow}{q:Nat}(hq:q<cK){v:Value}(hv:hs[q]?=some v):(fP gd ρ G w s Z nr nb own' hs adn).hdr (nr+q)=v:=by
 simp only[fP];rw[if_pos ⟨by omega,by omega⟩,Wbx,Vby,hv];rfl
variable (A:Aft E F σ ep ρ a w G s Z G' w' y0 ds)
include A
theorem Wat {i q off:Nat}{t:BO}{v:Value}(h:Eai G'.own w' ds i q t v)(hi:i<ds.length)(fa:Z.deps=[]\/∀ m,t=.ow m->qH m ((aI.v (y0+i)).val ρ)=true)
  (gi:gd=false\/∀ m,t≠.ow m) (hh:∀ m,t=.ow m->hs[q]?=some v) (hu:UIn ep nr (jX Z.deps (y0+i) (nr+q) t).2.1) :
  (jX Z.deps (y0+i) (nr+q) t).2.2=nr+q+t.q/\aB ep ρ (fP gd ρ G w s Z nr nb G'.own hs adn) w' (jX Z.deps (y0+i) (nr+q) t).1 v/\UOk (fun b=>¬ (b<w.heap.size/\Mal ((callG ρ G w s Z).own b)=false)) ep ρ (fP gd ρ G w s Z nr nb G'.own hs adn) w' nr nb y0 (jX Z.deps (y0+i) (nr+q) t).2.1:=by
 cases t with
 | sc =>
  refine⟨rfl,?_,by simp[UOk,jX]⟩;simp only[jX,aB];rw[A.val i hi];exact h
 | fz =>
  refine⟨rfl,?_,by simp[UOk,jX]⟩;simp only[jX,aB];simp only[Eai]at h;rw[A.val i hi];exact⟨⟨h.one,A.known⟩,fun _=>⟨A.B.rd h,fun e=>absurd e (by decide),trivial⟩⟩
 | ow m =>
  have hg:gd=false:=gi.resolve_right fun e=>e m rfl
  simp only[Eai]at h;have gm:=hu (kR (nr+q)) _ (by simp only[jX];exact Vbp.2 rfl);have zh:=Zab (gd:=gd) (ρ:=ρ) (G:=G) (w:=w) (s:=s) (Z:=Z) (nr:=nr) (nb:=nb) (adn:=adn) (own':=G'.own) (gm.2 q rfl) (hh m rfl);have tI:Z.deps=[]\/qH m (ds.getD i .undef)=true:=fa.imp id fun e=>by rw[<- A.val i hi];exact e m rfl
  have fR:=A.B.give (gd:=gd) (nr:=nr) (nb:=nb) (hs:=hs) (adn:=adn) h tI hg (gm.2 q rfl);refine⟨rfl,?_,?_⟩
  ·simp only[jX,aB]
   exact⟨zh.symm,gm.1,h.one⟩
  ·intro k c hc
   simp only[jX,Vbp,Wbd]at hc;refine .inl ⟨q,m,i,hc.1,hc.2,?_⟩;rw[zh,A.val i hi];exact fR
 | dead =>
  refine⟨rfl,?_,by simp[UOk,jX]⟩;simp only[jX,aB];exact h
theorem Aa2:∀ {cs:List BO} {i q off:Nat} {ad:Addr},Daj G'.own w' ds ad off i q cs->i+cs.length<=ds.length->(Z.deps=[]\/Qaj ρ (pF (y0+i) cs))->(gd=false\/Rax cs=true) ->
  (∀ j v,(owC w' ad off cs)[j]?=some v->hs[q+j]?=some v)->UIn ep nr (eB Z.deps (y0+i) (nr+q) cs).2.1 ->
  (eB Z.deps (y0+i) (nr+q) cs).2.2=nr+q+qC cs/\(eB Z.deps (y0+i) (nr+q) cs).1.length=cs.length/\(owC w' ad off cs).length=qC cs /\
  (∀ j l,(eB Z.deps (y0+i) (nr+q) cs).1[j]?=some l->∃ v,w'.cell? (ad.add (off+j))=some v/\w'.frozen? (ad.add (off+j))=false/\aB ep ρ (fP gd ρ G w s Z nr nb G'.own hs adn) w' l v) /\
  UOk (fun b=>¬ (b<w.heap.size/\Mal ((callG ρ G w s Z).own b)=false)) ep ρ (fP gd ρ G w s Z nr nb G'.own hs adn) w' nr nb y0 (eB Z.deps (y0+i) (nr+q) cs).2.1
 |[],i,q,off,ad,_,_,_,_,_,_=>⟨rfl,rfl,rfl,by simp[eB],by simp[UOk,eB]⟩
 | t :: cs, i, q, off, ad, h, hi, fa, gi, hh, hu => by
  obtain⟨⟨v,h1,h2,h3⟩,h4⟩:=h;simp only[Wbb]at hi;simp only[eB]at hu;have hlen:∀ t:BO,(match t with|.ow _=>[(w'.cell? (ad.add off)).getD undef]|_=>([]:List Value)).length=t.q:=fun t=>by cases t<;>rfl
  have hb:=Wat A (gd:=gd) (nr:=nr) (nb:=nb) (hs:=hs) (adn:=adn) (off:=off) h3 (by omega) (fa.imp id fun e m hm=>e m _ (by subst hm;simp only[pF];exact Vb7))
   (gi.imp id fun e m hm=>by subst hm;simp[Rax]at e) (fun m hm=>by
    subst hm;have:=hh 0 v (by simp[owC,h1]);simpa using this) hu.left
  obtain⟨h5,h6,h7⟩:=hb
  have cR:=Aa2 (cs:=cs) (i:=i+1) (q:=q+t.q) (off:=off+1) (ad:=ad) h4 (by omega) (fa.imp id fun e m y hm=>e m y (by
    cases t with
    |ow m'=>simp only[pF];exact Vb1 _ hm
    |_=>exact hm)) (gi.imp id fun e=>by cases t<;>simp[Rax]at e ⊢<;>exact e) (fun j x hj=>by
    have:=hh (t.q+j) x (by
     simp only[owC];rw[Vbz (by rw[hlen];omega),hlen,Wbx];exact hj)
    rwa[<- Vb8]at this) (by
    have:=hu.right;rw[h5]at this;rw[<- Vb8,<- Vb8];exact this)
  rw[<- Vb8,<- Vb8]at cR;obtain⟨h8,h9,da,eo,gb⟩:=cR;simp only[eB];rw[h5];refine⟨by rw[h8];simp only[qC];omega,by simp[h9],by simp only[owC,Vbw,hlen,da,qC],fun j l hj=>?_,h7.append gb⟩
  cases j with
  | zero =>
   simp only[Vbv,Vbl]at hj;subst hj;exact⟨v,h1,h2,h6⟩
  | succ j =>
   obtain⟨v',jk,ln,mz⟩:=eo j l (by simpa using hj);rw[show off+(j+1)=off+1+j by omega];exact⟨v',jk,ln,mz⟩
theorem Rao (ny:ep (kB nb)=none\/True){i q:Nat}{t:LR}{v:Value}(h:mP G'.own w' ds s.boxes.length i q t v)(hi:i+t.n<=ds.length)(fa:Z.deps=[]\/Qaj ρ (Sak (y0+i) [t]))
  (gi:gd=false\/bxL [t]=0) (hh:∀ j x,(Tax w' t v)[j]?=some x->hs[q+j]?=some x) (r5:∀ ad∈Pa8 t v,ad=adn) (hu:UIn ep nr (dE gd Z.deps nb (y0+i) (nr+q) t).2.1) :
  (dE gd Z.deps nb (y0+i) (nr+q) t).2.2=nr+q+t.q/\(Tax w' t v).length=t.q/\aB ep ρ (fP gd ρ G w s Z nr nb G'.own hs adn) w' (dE gd Z.deps nb (y0+i) (nr+q) t).1 v/\UOk (fun b=>¬ (b<w.heap.size/\Mal ((callG ρ G w s Z).own b)=false)) ep ρ (fP gd ρ G w s Z nr nb G'.own hs adn) w' nr nb y0 (dE gd Z.deps nb (y0+i) (nr+q) t).2.1:=by
 cases t with
 | sc =>
  refine⟨rfl,by cases v<;>rfl,?_,by simp[UOk,dE]⟩;simp only[LR.n]at hi;simp only[dE,aB];rw[A.val i (by omega)];exact h
 | fz =>
  refine⟨rfl,by cases v<;>rfl,?_,by simp[UOk,dE]⟩;simp only[LR.n]at hi;simp only[mP]at h;simp only[dE,aB];rw[A.val i (by omega)];exact⟨⟨h.one,A.known⟩,fun _=>⟨A.B.rd h,fun e=>absurd e (by decide),trivial⟩⟩
 | ow m =>
  simp only[LR.n]at hi;simp only[mP]at h
  cases gd with
  | true =>
   refine⟨rfl,rfl,?_,by simp[UOk,dE]⟩;simp only[dE,cond_true,aB];rw[A.val i (by omega)];exact⟨⟨h.one,A.known⟩,fun _=>⟨A.B.giveGd h rfl,fun e=>absurd e (by decide),trivial⟩⟩
  | false =>
   have gm:=hu (kR (nr+q)) _ (by simp only[dE,cond_false];exact Vbp.2 rfl);have zh:=Zab (gd:=false) (ρ:=ρ) (G:=G) (w:=w) (s:=s) (Z:=Z) (nr:=nr) (nb:=nb) (adn:=adn) (own':=G'.own) (gm.2 q rfl) (hh 0 v rfl)
   have tI:Z.deps=[]\/qH m (ds.getD i .undef)=true:=fa.imp id fun e=>by
    rw[<- A.val i (by omega)];exact e m _ (by simp only[Sak];exact Vb7)
   have fR:=A.B.give (gd:=false) (nr:=nr) (nb:=nb) (hs:=hs) (adn:=adn) h tI rfl (gm.2 q rfl);refine⟨rfl,rfl,?_,?_⟩
   ·simp only[dE,cond_false,aB]
    exact⟨zh.symm,gm.1,h.one⟩
   ·intro k c hc
    simp only[dE,cond_false,Vbp,Wbd]at hc;refine .inl ⟨q,m,i,hc.1,hc.2,?_⟩;rw[zh,A.val i (by omega)];exact fR
 | rp z =>
  refine⟨rfl,by cases v<;>rfl,?_,by simp[UOk,dE]⟩;simp only[LR.n]at hi;simp only[mP]at h;simp only[dE,aB];rw[A.val i (by omega)];refine⟨⟨h.1,A.known⟩,fun _=>?_⟩
  rcases h.2 with h1|⟨ad,row,h1,h2,h3⟩
  ·exact .inl h1
  ·exact .inr ⟨ad,row,h1,h2,A.B.rd h3⟩
 | bx cs =>
  have hg:gd=false:=gi.resolve_right fun e=>by simp[bxL]at e
  simp only[LR.n]at hi;simp only[mP]at h;obtain⟨ad,rfl,h1,h2,h3⟩:=h;have a7k:ad=adn:=r5 ad (by simp[Pa8]);simp only[dE]at hu;have hu':UIn ep nr (eB Z.deps (y0+i) (nr+q) cs).2.1:=fun k c hc=>hu k c (Vb1 _ hc)
  obtain⟨h4,h5,h6,h7,h8⟩:=Aa2 A (gd:=gd) (nb:=nb) (hs:=hs) (adn:=adn) h3 hi (fa.imp id fun e m y hm=>e m y (by simp only[Sak];exact Vbo _ hm)) (.inl hg) hh hu';have mn:=(hu (kB nb) _ Vb7).1
  have gl:(fP gd ρ G w s Z nr nb G'.own hs adn).bx nb=ad:=by
   simp only[fP,if_pos trivial];exact a7k.symm
  have w7:¬ (ad.block<w.heap.size/\Mal ((callG ρ G w s Z).own ad.block)=false):=by
   ·rintro⟨hb,gC⟩
    cases mh:(callG ρ G w s Z).own ad.block with
    |frz=>have:=(A.B.keep hb (.inl mh)).2;rw[h2,mh]at this;cases this
    |oth=>have:=(A.B.keep hb (.inr mh)).2;rw[h2,mh]at this;cases this
    |slc _ _=>rw[mh]at gC;cases gC
    | box j =>
     have:=(A.B.hF.boxes ad.block j hb mh).1;rw[h2]at this
     injection this with this
     have hgc:∃ c,Ram Z.ptrs c 0 s.boxes=some j:=by
      simp only[callG]at mh
      cases hgb:G.own ad.block with
      | box c =>
       rw[hgb]at mh;dsimp only at mh;split at mh
       ·rename_i x hx
        split at mh
        ·injection mh with mh
         exact⟨c,by rw[hx,mh]⟩
        ·cases mh
       ·cases mh
      | slc r p =>
       rw[hgb]at mh;dsimp only at mh
       rcases Fa3 (ρ:=ρ) (dr:=Z.deps.map (·.1)) (r:=r) (p:=p) Z.rts 0 with ⟨_,_,e⟩|e|e<;>rw[e]at mh<;>cases mh
      |frz=>rw[hgb]at mh;cases mh
      |oth=>rw[hgb]at mh;cases mh
     obtain⟨c,hc⟩:=hgc;obtain⟨j',nF,ll,e1,e2,-⟩:=Fa2 hc;have:=(Vbn.1 e2).1;omega
  have cu:(fP gd ρ G w s Z nr nb G'.own hs adn).own ad.block=.box nb:=by
   simp only[fP];rw[if_neg w7,h2];simp[uY]
  refine⟨?_,?_,?_,?_⟩
  ·simp only[dE];exact h4
  ·simp only[Tax];exact h6
  ·simp only[dE,aB]
   exact⟨by rw[gl];rfl,mn⟩
  ·simp only[dE]
   intro k c hc
   rcases Vbu.1 hc with hc|hc
   ·obtain⟨rfl,rfl⟩:=Xb5 hc
    refine .inr ⟨rfl,_,rfl,⟨by rw[gl];exact h1,by rw[gl,cu];rfl,fun j l hj=>?_⟩,by rw[gl];exact w7⟩;rw[gl];have:=h7 j l hj;rwa[Wbj]at this
   ·exact h8 k c hc
theorem Bay:∀ {ss:List LR} {i q:Nat} {vs:List Value},qO G'.own w' ds s.boxes.length i q ss vs->i+nZ ss<=ds.length->(Z.deps=[]\/Qaj ρ (Sak (y0+i) ss)) ->
  (gd=false\/bxL ss=0)->(∀ j x,(owL w' ss vs)[j]?=some x->hs[q+j]?=some x)->(∀ ad∈Ma7 ss vs,ad=adn)->UIn ep nr (dU gd Z.deps nb (y0+i) (nr+q) ss).2.1 ->
  (dU gd Z.deps nb (y0+i) (nr+q) ss).2.2=nr+q+qL ss/\(owL w' ss vs).length=qL ss/\aD ep ρ (fP gd ρ G w s Z nr nb G'.own hs adn) w' (dU gd Z.deps nb (y0+i) (nr+q) ss).1 vs/\UOk (fun b=>¬ (b<w.heap.size/\Mal ((callG ρ G w s Z).own b)=false)) ep ρ (fP gd ρ G w s Z nr nb G'.own hs adn) w' nr nb y0 (dU gd Z.deps nb (y0+i) (nr+q) ss).2.1
 | [], i, q, vs, h, _, _, _, _, _, _ => by
  simp only[qO]at h;subst h;exact⟨rfl,rfl,by simp[dU,aD],by simp[UOk,dU]⟩
 | t :: ss, i, q, vs, h, hi, fa, gi, hh, r5, hu => by
  obtain⟨u,us,rfl,h1,h2⟩:=h;simp only[nZ]at hi;simp only[dU]at hu
  obtain⟨h3,h4,h5,h6⟩:=Rao A (gd:=gd) (nb:=nb) (hs:=hs) (adn:=adn) (.inr trivial) h1 (by omega) (fa.imp id fun e m y hm=>e m y (by
    cases t with
    |ow m'=>simp only[Sak,Vbp]at hm ⊢;rw[hm];exact Vb7
    |bx cs=>simp only[Sak,Wbo]at hm ⊢;exact Vbo _ hm
    |_=>simp[Sak]at hm))
   (gi.imp id fun e=>by cases t<;>simp only[bxL]at e ⊢<;>omega) (fun j x hj=>hh j x (by
    simp only[owL];rw[Vb2 (Vbn.1 hj).1];exact hj))
   (fun ad hm=>r5 ad (by simp only[Ma7];exact Vbo _ hm)) hu.left
  have cR:=Bay (ss:=ss) (i:=i+t.n) (q:=q+t.q) h2 (by omega) (fa.imp id fun e m y hm=>e m y (by
    cases t with
    |ow m'=>simp only[Sak];exact Vb1 _ hm
    |bx cs=>simp only[Sak];rw[Vb8];exact Vbr _ hm
    |_=>exact hm)) (gi.imp id fun e=>by cases t<;>simp only[bxL]at e<;>omega) (fun j x hj=>by
    have:=hh (t.q+j) x (by
     simp only[owL];rw[Vbz (by rw[h4];omega),h4,Wbx];exact hj)
    rwa[<- Vb8]at this) (fun ad hm=>r5 ad (by simp only[Ma7];exact Vbr _ hm)) (by
    have:=hu.right;rw[h3]at this;rw[<- Vb8,<- Vb8];exact this)
  rw[<- Vb8,<- Vb8]at cR;obtain⟨h7,h8,h9,da⟩:=cR;simp only[dU];rw[h3];refine⟨by rw[h7];simp only[qL];omega,by simp only[owL,Vbw,h4,h8,qL],?_,h6.append da⟩;simp only[aD];exact⟨u,us,rfl,h5,h9⟩
theorem Kah:∀ {rs:List (Bool×List LR)} {i q:Nat} {us:List Value},Lac G'.own w' ds s.boxes.length i q rs us->i+bO rs<=ds.length->(Z.deps=[]\/Qaj ρ (Abb (y0+i) rs)) ->
  (gd=false\/lD rs=0)->(∀ j x,(owR w' rs us)[j]?=some x->hs[q+j]?=some x)->(∀ ad∈Iaq rs us,ad=adn)->UIn ep nr (jJ gd Z.deps nb (y0+i) (nr+q) rs).2.1 ->
  (jJ gd Z.deps nb (y0+i) (nr+q) rs).2.2=nr+q+qR rs/\(owR w' rs us).length=qR rs/\iM ep ρ (fP gd ρ G w s Z nr nb G'.own hs adn) w' (jJ gd Z.deps nb (y0+i) (nr+q) rs).1 us/\UOk (fun b=>¬ (b<w.heap.size/\Mal ((callG ρ G w s Z).own b)=false)) ep ρ (fP gd ρ G w s Z nr nb G'.own hs adn) w' nr nb y0 (jJ gd Z.deps nb (y0+i) (nr+q) rs).2.1
 | [], i, q, us, h, _, _, _, _, _, _ => by
  simp only[Lac]at h;subst h;exact⟨rfl,rfl,rfl,by simp[UOk,jJ]⟩
 | (ag, ss) :: rs, i, q, us, h, hi, fa, gi, hh, r5, hu => by
  obtain⟨u,dj,vs,rfl,h1,h2,h3⟩:=h;simp only[bO]at hi;simp only[jJ]at hu
  have ic:(if ag=true then u.cells.toList else [u])=vs:=by
   cases ag with
   | true =>
    simp only[if_true]at h2 ⊢;rw[h2];simp[Value.cells]
   |false=>simp only[Vbm,if_false]at h2 ⊢;exact h2.symm
  obtain⟨h4,h5,h6,h7⟩:=Bay A (gd:=gd) (nb:=nb) (hs:=hs) (adn:=adn) h1 (by omega) (fa.imp id fun e m y hm=>e m y (by simp only[Abb];exact Vbo _ hm))
   (gi.imp id fun e=>by simp only[lD]at e;omega) (fun j x hj=>hh j x (by
    simp only[owR,ic];rw[Vb2 (Vbn.1 hj).1];exact hj))
   (fun ad hm=>r5 ad (by simp only[Iaq,ic];exact Vbo _ hm)) hu.left
  have cR:=Kah (rs:=rs) (i:=i+nZ ss) (q:=q+qL ss) h3 (by omega) (fa.imp id fun e m y hm=>e m y (by
    simp only[Abb];rw[Vb8]
    exact Vbr _ hm)) (gi.imp id fun e=>by simp only[lD]at e;omega) (fun j x hj=>by
    have:=hh (qL ss+j) x (by
     simp only[owR,ic];rw[Vbz (by rw[h5];omega),h5,Wbx];exact hj)
    rwa[<- Vb8]at this) (fun ad hm=>r5 ad (by simp only[Iaq];exact Vbr _ hm)) (by
    have:=hu.right;rw[h4]at this;rw[<- Vb8,<- Vb8];exact this)
  rw[<- Vb8,<- Vb8]at cR;obtain⟨h8,h9,da,eo⟩:=cR;simp only[jJ];rw[h4];exact⟨by rw[h8];simp only[qR];omega,by simp only[owR,ic,Vbw,h5,h9,qR],⟨u,dj,vs,rfl,h6,h2,da⟩,h7.append eo⟩
theorem Aa0 (ny:σ (kB nb)=none):∀ {bs:List (Bool×List (BS×BO))} {b i q:Nat} {bu:List (Nat×aQ)},(∀ j x,bs[j]?=some x->s.boxes[b+j]?=some x)->(mO Z.ptrs Z.deps b (y0+i) (nr+q) bs).eval σ=some bu ->
  pI G'.own w' ds (callG ρ G w s Z).bx b i q bs->i+fA bs<=ds.length->(Z.deps=[]\/Qaj ρ (War (y0+i) bs))->(gd=false\/∀ x∈bs,x.1=false->Rax (x.2.map (·.2))=true) ->
  (∀ j x,(owB w' (callG ρ G w s Z).bx b bs)[j]?=some x->hs[q+j]?=some x)->UIn ep nr bu ->
  (∀ k c,(k,c)∈bu->(∃ q m i,k=kR (nr+q)/\c=.root (.v (y0+i)) m 0 .live/\Rp (fP gd ρ G w s Z nr nb G'.own hs adn).own w' (nr+q) [] m ((fP gd ρ G w s Z nr nb G'.own hs adn).hdr (nr+q)) ((aI.v (y0+i)).val ρ)) \/
   ∃ c0 jy ls,k=kB c0/\σ (kB c0)=some (.box false jy)/\c=.box false ls/\ls.length=jy.length /\
    ((∀ j l,jy[j]?=some l->∃ v,w.cell? ((G.bx c0).add j)=some v/\(aB σ ρ G w l v->aB ep ρ (fP gd ρ G w s Z nr nb G'.own hs adn) w' l v))->Lae ep ρ (fP gd ρ G w s Z nr nb G'.own hs adn) w' c0 false ls)) /\
  (∀ c,c∈iU false Z.ptrs b bs->∃ x,(kB c,x)∈bu)
 | [], b, i, q, bu, _, h, _, _, _, _, _, _ => by
  simp only[mO,aC,Vbl]at h;subst h;exact⟨by simp,by simp[iU]⟩
 | (ro, cs) :: bs, b, i, q, bu, hbs, h, hf, hi, fa, gi, hh, hu => by
  simp only[mO]at h
  have a10:∀ j x,bs[j]?=some x->s.boxes[b+1+j]?=some x:=fun j x hj=>by
   rw[show b+1+j=b+(j+1) by omega];exact hbs (j+1) x (by simpa using hj)
  cases ro with
  | true =>
   simp only[cond_true]at h;simp only[pI,if_true]at hf;simp only[fA,cond_true,Wbj]at hi
   obtain⟨h1,h2⟩:=Aa0 ny (bs:=bs) (b:=b+1) a10 h hf hi (fa.imp id fun e m y hm=>e m y (by simp only[War,cond_true];exact hm)) (gi.imp id fun e x hx=>e x (Vb1 _ hx))
    (fun j x hj=>hh j x (by simp only[owB,if_true];exact hj)) hu
   refine⟨h1,fun c hc=>h2 c ?_⟩;have e:(true==false)=false:=rfl;simp only[iU,e,cond_false]at hc;exact hc
  | false =>
   simp only[cond_false]at h;simp only[pI,Vbm,if_false]at hf;simp only[fA,cond_false]at hi;split at h
   case h_2=>cases h
   rename_i c off hp;simp only[aA,aR,Vbs]at h;split at h
   case h_2=>cases h
   rename_i jy pg;simp only[aA,Vbj,aC,Vbl]at h;obtain⟨rest,h1,rfl⟩:=h;have gl:(callG ρ G w s Z).bx b=(G.bx c).add off:=by simp only[callG,hp]
   rw[gl]at hf;have qT:=hbs 0 _ rfl;rw[Wbv]at qT;obtain⟨c',ll,l7,kO,e1,e2,e3,e4⟩:=A.B.bx b false cs qT;rw[hp]at e1;obtain⟨rfl,rfl⟩:c=c'/\off=ll:=by simpa using e1
   rw[pg]at e2;obtain⟨rfl,rfl⟩:false=l7/\jy=kO:=by simpa using e2
   have hu1:UIn ep nr (eB Z.deps (y0+i) (nr+q) (cs.map (·.2))).2.1:=fun k x hx=>hu k x (Vb1 _ (Vbo _ hx))
   have hu2:UIn ep nr rest:=fun k x hx=>hu k x (Vb1 _ (Vbr _ hx))
   obtain⟨h2,h3,h4,h5,h6⟩:=Aa2 A (gd:=gd) (nb:=nb) (hs:=hs) (adn:=adn) hf.1 (by simp;omega) (fa.imp id fun e m y hm=>e m y (by simp only[War,cond_false];exact Vbo _ hm))
    (gi.imp id fun e=>e _ Vb7 rfl) (fun j x hj=>hh j x (by
     simp only[owB,Vbm,if_false,gl];rw[Vb2 (Vbn.1 hj).1];exact hj)) hu1
   rw[Wbm]at h3;rw[h2]at h1
   have cR:=Aa0 ny (bs:=bs) (b:=b+1) (i:=i+cs.length) (q:=q+qC (cs.map (·.2))) a10 (by rw[<- Vb8,<- Vb8];exact h1) hf.2 (by omega)
    (fa.imp id fun e m y hm=>e m y (by simp only[War,cond_false];rw[Vb8];exact Vbr _ hm)) (gi.imp id fun e x hx=>e x (Vb1 _ hx)) (fun j x hj=>by
     have:=hh (qC (cs.map (·.2))+j) x (by
      simp only[owB,Vbm,if_false,gl];rw[Vbz (by rw[h4];omega),h4,Wbx];exact hj)
     rwa[<- Vb8]at this) hu2
   obtain⟨h7,h8⟩:=cR;refine⟨fun k x hx=>?_,fun c2 pj=>?_⟩
   ·rcases Vbu.1 hx with hx|hx
    ·obtain⟨rfl,rfl⟩:=Xb5 hx
     refine .inr ⟨c,jy,_,rfl,pg,rfl,lL (by rw[h3];exact e3),fun hold=>?_⟩;obtain⟨lR,gp,rh⟩:=A.B.hR.box pg;simp only[Vbm,if_false]at gp;have hcn:c≠nb:=fun e=>by rw[e,ny]at pg;cases pg
     have y7:(fP gd ρ G w s Z nr nb G'.own hs adn).bx c=G.bx c:=by simp only[fP,if_neg hcn]
     have nu:0<jy.length:=by have:=(e4 rfl).2;omega
     obtain⟨v0,hc0,-,-⟩:=rh 0 _ (Vbq nu);have bj:(G.bx c).block<w.heap.size:=by have:=Abh hc0;rwa[add_block]at this
     obtain⟨h9,da⟩:=A.B.boxes (gd:=gd) (nr:=nr) (nb:=nb) (hs:=hs) (adn:=adn) gp bj;refine⟨by rw[y7];exact lR,by rw[y7,h9];rfl,fun j l hj=>?_⟩;rw[y7];rw[iJ (by rw[h3];exact e3)]at hj;split at hj
     ·rename_i hr
      obtain⟨v,eo,gb,jk⟩:=h5 _ l hj;rw[add_add,Wbj,show off+(j-off)=j by omega]at eo gb;exact⟨v,eo,gb,jk⟩
     ·rename_i hr
      obtain⟨v,eo,gb,jk⟩:=rh j l hj;obtain⟨v',ln,mz⟩:=hold j l hj;rw[eo]at ln;obtain rfl:=Wbk ln
      rcases da with da|⟨j2,cs2,a07,ls2,c0,c1,e,fr,f1,f2,f3,f4,f5,f6,f7,f8,f9⟩
      ·exact⟨v,(gQ (w:=w) (w':=w') (by rw[add_block];exact da)).trans eo,(Hav (w:=w) (w':=w') (by rw[add_block];exact da)).trans gb,mz jk⟩
      ·
       have a6a:pX (0+b) Z.ptrs=some (c,off):=by rw[Wbj];exact hp
       have pH:=sM A.B.hk.wr qT a6a;have f2':pX (0+j2) Z.ptrs=some (c,a07):=by rw[Wbj];exact f2
       have qe:=sM A.B.hk.wr f1 f2';rw[pH]at qe;have uh:b=j2:=by have:=Wbk qe;omega
       subst uh;rw[hp]at f2;rw[qT]at f1;obtain⟨-,rfl⟩:c=c/\off=a07:=by simpa using f2
       obtain rfl:cs=cs2:=by simpa using f1
       rw[h3]at hr
       have cE:∀ (ww:World) (cc:Array Value),ww.heap[(G.bx c).block]?=some (.cells cc e fr)->ww.cell? ((G.bx c).add j)=cc[(G.bx c).off+j]?/\ww.frozen? ((G.bx c).add j)=(fr.1<=(G.bx c).off+j&&(G.bx c).off+j<fr.2):=by
        intro ww cc hcc;have:=Uao (n:=j) lR;refine⟨?_,?_⟩
        ·unfold World.cell?
         rw[add_block,hcc];simp[this,Sap]
        ·unfold World.frozen?
         rw[add_block,hcc];simp[Sap]
       obtain⟨g1,g2⟩:=cE w c0 f6;obtain⟨g3,g4⟩:=cE w' c1 f7;refine⟨v,?_,by rw[g4,<- g2];exact gb,mz jk⟩;rw[g3,f9 _ (by omega),<- g1];exact eo
    ·rcases Vb5.1 hx with hx|hx
     ·rcases h6 k x hx with h9|⟨h9,-⟩
      ·exact .inl h9
      ·exfalso
       have:∀ (l:List BO) (y n:Nat),∀ z∈(eB Z.deps y n l).2.1,∃ r,z.1=kR r:=by
        intro l
        induction l with
        |nil=>intro y n z hz;simp[eB]at hz
        | cons t l ih =>
         intro y n z hz;simp only[eB]at hz
         rcases Vb5.1 hz with hz|hz
         ·cases t<;>simp[jX]at hz
          exact⟨n,by rw[hz]⟩
         ·exact ih _ _ z hz
       obtain⟨r,hr⟩:=this _ _ _ _ hx;rw[h9]at hr;exact fO hr
     ·exact h7 k x hx
   ·simp only[iU]at pj
    have e:(false==false)=true:=rfl;rw[e,cond_true,hp]at pj
    rcases Vbu.1 pj with rfl|pj
    ·exact⟨_,Vb7⟩
    ·obtain⟨x,hx⟩:=h8 c2 pj
     exact⟨x,Vb1 _ (Vbr _ hx)⟩
end
theorem Ha5 {f:Nat}{vs:List SV}:∀ {l:List (Nat×Sig)} {key:Nat} {s:Sig},Ha6 f vs l=some (key,s)->(key,s)∈l/\s.fn=f
 |[],key,s,h=>by simp[Ha6]at h
 | (k, t) :: l, key, s, h => by
  simp only[Ha6]at h
  revert h
  generalize hb:(Nat.beq t.fn f&&Sam t.params vs)=b;intro h
  cases b with
  | false =>
   rw[cond_false]at h;obtain⟨h1,h2⟩:=Ha5 h;exact⟨Vb1 _ h1,h2⟩
  | true =>
   rw[cond_true]at h;obtain⟨rfl,rfl⟩:=Xb5 (Wbk h);simp only[Vbk,Wbl]at hb;exact⟨Vb7,hb.1⟩
section
variable {E:Env} {F:bK} {σ:Nat->Option aQ} {ρ:List D} {a:Act} {w:World} {G:Gh} {g:Option (aI×Bool)} {cf:Nat->List D->Option (List D)}
theorem Xa3 {l:aP}{s:SlR}(h:(yH l).eval σ=some s):∀ z∈s.deps,Mad σ z.1 z.2:=by
 unfold yH at h;split at h
 ·rename_i r
  simp only[aA,aR,Vbs]at h;split at h
  ·rename_i x m cy hk
   simp only[aC,Vbl]at h;subst h;intro z hz;simp only[Vbp]at hz;subst hz;exact⟨m,x,hk⟩
  ·simp only[aC,Vbl]at h
   subst h;simp
  ·cases h
 ·rename_i deps p nie x
  simp only[aA,Vbj]at h;obtain⟨ds,h1,h2⟩:=h;obtain⟨h3,h4,h5⟩:=jC h1;split at h2
  ·simp only[aC,Vbl]at h2
   subst h2;exact fun z hz=>(h4 z hz).2
  ·rename_i r k z cU
   simp only[aA,aR,Vbs]at h2;split at h2
   ·simp only[aC,Vbl]at h2
    subst h2;intro z' r9;simp only[Vbp]at r9;subst r9;have:=h4 z (by simp);have e:=this.1;simp only[Vbp]at e;rw[e]at this;exact this.2
   ·cases h2
  ·simp only[aC,Vbl]at h2
   subst h2;exact fun z hz=>(h4 z hz).2
 ·cases h
def rtD:RT->Nat
 |.mu _ d _ _=>d
 |_=>0
def Aar:Nat->List RT->List Nat
 |_,[]=>[]
 |ν,.mu _ _ _ _::t=>ν::Aar (ν+1) t
 |ν,_::t=>Aar (ν+1) t
theorem Paf:∀ {rts:List RT} {gx j ν:Nat},(Aar gx rts)[j]?=some ν->∃ x:RT,(rts.filter wY)[j]?=some x/\gx<=ν/\rts[ν-gx]?=some x
 |[],gx,j,ν,h=>by simp[Aar]at h
 | x :: t, gx, j, ν, h => by
  have next:∀ {j:Nat},(Aar (gx+1) t)[j]?=some ν->∃ y:RT,(t.filter wY)[j]?=some y/\gx<=ν/\(x::t)[ν-gx]?=some y:=by
   intro j h;obtain⟨y,h1,h2,h3⟩:=Paf h;refine⟨y,h1,by omega,?_⟩;rw[show ν-gx=(ν-(gx+1))+1 by omega];simpa using h3
  cases x with
  | mu r d q X =>
   simp only[Aar]at h
   cases j with
   | zero =>
    simp only[Vbv,Vbl]at h;subst h;exact⟨.mu r d q X,by simp[wY,Xbn],Vb6 _,by simp⟩
   | succ j =>
    obtain⟨y,h1,h2,h3⟩:=next (by simpa using h);exact⟨y,by simpa[wY,Xbn] using h1,h2,h3⟩
  | nil =>
   obtain⟨y,h1,h2,h3⟩:=next h;exact⟨y,by simpa[wY,Xbn] using h1,h2,h3⟩
  | own r d =>
   obtain⟨y,h1,h2,h3⟩:=next h;exact⟨y,by simpa[wY,Xbn] using h1,h2,h3⟩
theorem Pae:∀ (rts:List RT) (gx:Nat),(Aar gx rts).length=(rts.filter wY).length
 |[],gx=>rfl
 |x::t,gx=>by cases x<;>simp[Aar,wY,Pae t,Xbn]
theorem Ea7:∀ (a b:List RT) (gx:Nat),Aar gx (a++b)=Aar gx a++Aar (gx+a.length) b
 |[],b,gx=>rfl
 | x :: a, b, gx => by
  have:=Ea7 a b (gx+1);rw[show gx+1+a.length=gx+(a.length+1) by omega]at this;cases x<;>simp[Aar,this]
def Fby (σ:Nat->Option aQ)(ρ:List D)(G:Gh)(w:World):RT->Prop
 |.nil=>True
 |.own r _=>∃ x m cy,σ (kR r)=some (.root x m cy .live)
 |.mu r d q X=>∃ m cy u,σ (kR r)=some (.root X m cy .live)/\q.length+d<=m/\zO G.own w r [] (G.hdr r) (bB ρ q) u
structure Wau (σ:Nat->Option aQ) (A B:Take) (rn:List RT) (ms:List Nat) (mr:List Nat):Prop where
 rts:B.rts=A.rts++rn
 deps:∀ z∈B.deps,z∈A.deps\/Mad σ z.1 z.2
 ms:(rn.filter wY).map rtD=ms
 mr:Aar A.rts.length rn=mr
theorem Jax {A B:Take}{d:Nat}{l:aP}(h:(vI A d l).eval σ=some B):∃ rn,Wau σ A B rn [] []/\rn.length=1/\∀ x∈rn,Fby σ ρ G w x:=by
 unfold vI at h;split at h
 ·rename_i r
  simp only[aA,aR,Vbs]at h;split at h
  ·rename_i x m cy hk
   simp only[aA,aH,Vbj,aC,Vbl]at h;obtain⟨_,-,rfl⟩:=h;refine⟨[.own r d],⟨rfl,fun z hz=>.inl hz,rfl,rfl⟩,rfl,fun y hy=>?_⟩;simp only[Vbp]at hy;subst hy;exact⟨x,m,cy,hk⟩
  ·cases h
 ·simp only[aC,Vbl]at h
  subst h;refine⟨[.nil],⟨rfl,fun z hz=>.inl hz,rfl,rfl⟩,rfl,fun y hy=>?_⟩;simp only[Vbp]at hy;subst hy;trivial
 ·cases h
theorem Ja0 {A B:Take}{nie:Bool}{l:aP}(h:(sH A nie l).eval σ=some B):Wau σ A B [] [] []:=by
 unfold sH at h;simp only[aA,Vbj,aC,Vbl]at h;obtain⟨s,h1,rfl⟩:=h;exact⟨by simp,fun z hz=>(Vb5.1 hz).imp id fun hz=>Xa3 h1 z hz,rfl,rfl⟩
theorem Ua4 {A B:Take}{z:Nat}{l:aP}(h:(Gao A z l).eval σ=some B):Wau σ A B [] [] []:=by
 unfold Gao at h;split at h
 ·simp only[aA,Vbj,aC,Vbl]at h
  obtain⟨ds,h1,rfl⟩:=h;exact⟨by simp,fun z hz=>(Vb5.1 hz).imp id fun hz=>((jC h1).2.1 z hz).2,rfl,rfl⟩
 ·simp only[aC,Vbl]at h
  subst h;exact⟨by simp,fun z hz=>.inl hz,rfl,rfl⟩
 ·cases h
theorem Nau (P:Prop)(hR:P->R E.ntmps F σ ρ a w G){A B:Take}{t:LS}{l:aP}(h:(tX g A t l).eval σ=some B)(hl:P->∃ v,aB σ ρ G w l v) :
  ∃ rn,Wau σ A B rn (eO [t]) (fE A.rts.length [t])/\rn.length=t.rcnt/\(P->∀ x∈rn,Fby σ ρ G w x):=by
 unfold tX at h;split at h
 ·simp only[Naq,aA,Vbj,aC,Vbl]at h
  obtain⟨x,-,rfl⟩:=h;exact⟨[],⟨by simp,fun z hz=>.inl hz,rfl,rfl⟩,rfl,by simp⟩
 ·exact⟨[],Ja0 h,rfl,by simp⟩
 ·rename_i _ d
  unfold Jay at h;simp only[aA,Vbj]at h;obtain⟨sl,h1,h⟩:=h;split at h
  case h_2=>cases h
  rename_i r k m q ho;simp only[aA,aH,aR,Vbs,Vbj]at h;obtain⟨_,h2,h⟩:=h;split at h2
  case isFalse=>cases h2
  rename_i hb;simp only[Wb6]at hb;split at h
  case h_2=>cases h
  rename_i X m' v' p0;simp only[aC,Vbl]at h;subst h;refine⟨[.mu r d q X],⟨rfl,fun z hz=>.inl hz,rfl,rfl⟩,rfl,fun hP y hy=>?_⟩;simp only[Vbp]at hy;subst hy;obtain⟨v,hv⟩:=hl hP;have cu:=(eH (hR hP) h1 hv).own;unfold vQ at cu;rw[ho]at cu;obtain⟨h3,⟨x,h4⟩,h5,h6,h7⟩:=cu;rw[p0]at h4
  obtain⟨rfl,rfl,rfl⟩:X=x/\m'=m/\v'=k:=by
   have:=Wbk h4
   injection this with e1 e2 e3
   exact⟨e1,e2,e3⟩
  exact⟨_,_,_,p0,hb,h7⟩
 ·obtain⟨rn,h1,h2,h3⟩:=Jax (ρ:=ρ) (G:=G) (w:=w) h
  exact⟨rn,h1,h2,fun _=>h3⟩
 ·simp only[aC,Vbl]at h
  subst h;exact⟨[],⟨by simp,fun z hz=>.inl hz,rfl,rfl⟩,rfl,by simp⟩
 ·split at h
  ·rw[gZ]at h
   split at h
   ·simp only[aC,Vbl]at h
    subst h;exact⟨[],⟨by simp,fun z hz=>.inl hz,rfl,rfl⟩,rfl,by simp⟩
   ·cases h
  ·cases h
 ·exact⟨[],Ua4 h,rfl,by simp⟩
 ·cases h
theorem Wau.trans {A B C:Take}{rn qz:List RT}{ms ms' mr rv:List Nat}(h:Wau σ A B rn ms mr)(h':Wau σ B C qz ms' rv):Wau σ A C (rn++qz) (ms++ms') (mr++rv):=by
 refine⟨by rw[h'.rts,h.rts,Vbx],fun z hz=>?_,by rw[List.filter_append,List.map_append,h.ms,h'.ms],?_⟩
 ·rcases h'.deps z hz with h1|h1
  ·exact h.deps z h1
  ·exact .inr h1
 ·rw[Ea7,h.mr]
  have:=h'.mr;rw[h.rts,Vbw]at this;rw[this]
theorem uL (t:LS)(ss:List LS):eO (t::ss)=eO [t]++eO ss:=by cases t<;>rfl
theorem wQ (t:LS)(ss:List LS)(r:Nat):fE r (t::ss)=fE r [t]++fE (r+t.rcnt) ss:=by cases t<;>rfl
theorem wR:∀ (x y:List LS),eO (x++y)=eO x++eO y
 |[],y=>rfl
 |t::x,y=>by rw[Xb0,uL,uL t x,wR x y,Vbx]
theorem zX:∀ (x y:List LS) (r:Nat),fE r (x++y)=fE r x++fE (r+kI x) y
 |[],y,r=>rfl
 | t :: x, y, r => by
  rw[Xb0,wQ,wQ t x,zX x y,Vbx];simp only[kI,Vb8]
theorem zR (P:Prop)(hR:P->R E.ntmps F σ ρ a w G):∀ {ss:List LS} {ls:List aP} {A B:Take},(dN g A ss ls).eval σ=some B->(P->∃ vs,aD σ ρ G w ls vs) ->
  ∃ rn,Wau σ A B rn (eO ss) (fE A.rts.length ss)/\rn.length=kI ss/\(P->∀ x∈rn,Fby σ ρ G w x)
 | [], [], A, B, h, _ => by
  simp only[dN,aC,Vbl]at h;subst h;exact⟨[],⟨by simp,fun z hz=>.inl hz,rfl,rfl⟩,rfl,by simp⟩
 |[],_::_,A,B,h,_=>by simp[dN,bT]at h
 |_::_,[],A,B,h,_=>by simp[dN,bT]at h
 | t :: ss, l :: ls, A, B, h, hl => by
  simp only[dN,aA,Vbj]at h;obtain⟨C,h1,h2⟩:=h
  obtain⟨rn,h3,h4,h5⟩:=Nau P hR h1 (fun hP=>by
   obtain⟨vs,hv⟩:=hl hP;simp only[aD]at hv;obtain⟨u,us,-,hu,-⟩:=hv;exact⟨u,hu⟩)
  obtain⟨qz,h6,h7,h8⟩:=zR P hR h2 (fun hP=>by
   obtain⟨vs,hv⟩:=hl hP;simp only[aD]at hv;obtain⟨u,us,-,-,hu⟩:=hv;exact⟨us,hu⟩)
  have:=h3.trans h6;rw[h3.rts,Vbw,h4,<- wQ,<- uL]at this;exact⟨rn++qz,this,by simp[h4,h7,kI],fun hP x hx=>(Vb5.1 hx).elim (h5 hP x) (h8 hP x)⟩
theorem vW (P:Prop)(hR:P->R E.ntmps F σ ρ a w G):∀ {ps:List (Bool×List LS)} {vs:List SV} {A B:Take},(fK g A ps vs).eval σ=some B->(P->∃ us,tL σ ρ G w vs us) ->
  ∃ rn,Wau σ A B rn (eO (ps.flatMap (·.2))) (fE A.rts.length (ps.flatMap (·.2)))/\rn.length=jP ps/\(P->∀ x∈rn,Fby σ ρ G w x)
 | [], [], A, B, h, _ => by
  simp only[fK,aC,Vbl]at h;subst h;exact⟨[],⟨by simp,fun z hz=>.inl hz,rfl,rfl⟩,rfl,by simp⟩
 |[],_::_,A,B,h,_=>by simp[fK,bT]at h
 |_::_,[],A,B,h,_=>by simp[fK,bT]at h
 | (ag, ss) :: ps, v :: vs, A, B, h, hl => by
  simp only[fK,aA,Vbj,aV]at h;obtain⟨ls,h0,C,h1,h2⟩:=h
  obtain⟨rn,h3,h4,h5⟩:=zR P hR h1 (fun hP=>by
   obtain⟨us,u,dj,rfl,hu,-⟩:=hl hP;exact⟨_,iK h0 hu⟩)
  obtain⟨qz,h6,h7,h8⟩:=vW P hR h2 (fun hP=>by
   obtain⟨us,u,dj,rfl,-,hu⟩:=hl hP;exact⟨dj,hu⟩)
  have:=h3.trans h6;rw[h3.rts,Vbw,h4,<- zX,<- wR]at this;exact⟨rn++qz,by rw[List.flatMap_cons];exact this,by simp[h4,h7,jP],fun hP x hx=>(Vb5.1 hx).elim (h5 hP x) (h8 hP x)⟩
theorem Baa:∀ {ss:List (BS×BO)} {ls:List aP} {A B:Take},(eQ A ss ls).eval σ=some B->∃ rn,Wau σ A B rn [] []/\∀ x∈rn,Fby σ ρ G w x
 | [], ls, A, B, h => by
  simp only[eQ,aC,Vbl]at h;subst h;exact⟨[],⟨by simp,fun z hz=>.inl hz,rfl,rfl⟩,by simp⟩
 |_::_,[],A,B,h=>by simp[eQ,bT]at h
 | (t, o) :: ss, l :: ls, A, B, h => by
  simp only[eQ,aA,Vbj]at h;obtain⟨C,h1,h2⟩:=h;obtain⟨qz,h6,h8⟩:=Baa h2
  have key:∃ rn,Wau σ A C rn [] []/\∀ x∈rn,Fby σ ρ G w x:=by
   have hinv:=qW h1;clear h1
   rcases hinv with ⟨x,rfl,rfl,rfl⟩|⟨nie,rfl,h⟩|⟨d,rfl,h⟩|⟨rfl,-,rfl⟩
   ·exact⟨[],⟨by simp,fun z hz=>.inl hz,rfl,rfl⟩,by simp⟩
   ·exact⟨[],Ja0 h,by simp⟩
   ·obtain⟨rn,h3,-,h5⟩:=Jax (ρ:=ρ) (G:=G) (w:=w) h
    exact⟨rn,h3,h5⟩
   ·exact⟨[],⟨by simp,fun z hz=>.inl hz,rfl,rfl⟩,by simp⟩
  obtain⟨rn,h3,h5⟩:=key;exact⟨rn++qz,h3.trans h6,fun x hx=>(Vb5.1 hx).elim (h5 x) (h8 x)⟩
theorem tY {ptrs:List (Nat×Nat×Nat)}:∀ {bs:List (Bool×List (BS×BO))} {b:Nat} {A B:Take},(fI ptrs A b bs).eval σ=some B->∃ rn,Wau σ A B rn [] []/\∀ x∈rn,Fby σ ρ G w x
 | [], b, A, B, h => by
  simp only[fI,aC,Vbl]at h;subst h;exact⟨[],⟨by simp,fun z hz=>.inl hz,rfl,rfl⟩,by simp⟩
 | (ro, cs) :: bs, b, A, B, h => by
  simp only[fI]at h;split at h
  case h_2=>cases h
  simp only[aA,aR,Vbs]at h;split at h
  case h_2=>cases h
  simp only[aA,aH,Vbj]at h;obtain⟨_,-,C,h1,h2⟩:=h;obtain⟨rn,h3,h5⟩:=Baa (ρ:=ρ) (G:=G) (w:=w) h1;obtain⟨qz,h6,h8⟩:=tY h2;exact⟨rn++qz,h3.trans h6,fun x hx=>(Vb5.1 hx).elim (h5 x) (h8 x)⟩
theorem yM (hg:gOn ρ g=true):∀ {rts:List RT} {y nv:Nat} {ml:List Step} {mu:List (Nat×aQ)},(zY y nv rts).eval σ=some (ml,mu)->aJ cf ρ g nv ml ->
  (∀ k c,(k,c)∈mu->∃ (j r d:Nat) (q:List (aI×Nat×Nat)) (X X0:aI) (m cy:Nat) (X':aI),(rts.filter wY)[j]?=some (RT.mu r d q X)/\k=kR r/\c=.root X' m (cy+1) .live/\σ (kR r)=some (.root X0 m cy .live)/\(q.length+d=m\/qH d ((aI.v (y+j)).val ρ)=true)/\Upd (bB ρ q) (X.val ρ) ((aI.v (y+j)).val ρ) (X'.val ρ))
 | [], y, nv, ml, mu, h, _ => by
  simp only[zY,aC,Vbl,Wbd]at h;obtain⟨rfl,rfl⟩:=h;simp
 | .nil :: t, y, nv, ml, mu, h, cA => by
  have:=yM hg (rts:=t) h cA;simpa[wY,Xbn] using this
 | .own r d :: t, y, nv, ml, mu, h, cA => by
  have:=yM hg (rts:=t) h cA;simpa[wY,Xbn] using this
 | .mu r d q X :: t, y, nv, ml, mu, h, cA => by
  simp only[zY,aA,aR,Vbs]at h;split at h
  case h_2=>cases h
  rename_i X0 m cy hk;simp only[aA,Vbj,aC,Vbl,Wbd]at h;obtain⟨⟨ls,us⟩,h1,rfl,rfl⟩:=h;obtain⟨hs0,a11⟩:=aJ.append cA
  obtain⟨hfd,sa⟩:(q.length+d=m\/qH d ((aI.v y).val ρ)=true)/\bM (bif Nat.beq (q.length+d) m then [] else [Step.prim (.dep d) [.v y] 0])=0:=by
   cases hb:Nat.beq (q.length+d) m with
   |true=>exact⟨.inl (Nat.eq_of_beq_eq_true hb),rfl⟩
   | false =>
    rw[hb,cond_false]at hs0;obtain⟨ds,h1,-,-⟩:=hs0.1.1 hg;simp only[Wbe,Wbu,aT.run]at h1;split at h1
    ·rename_i hf;exact⟨.inr hf,rfl⟩
    ·cases h1
  rw[sa,Wbv]at a11;obtain⟨ke,gR⟩:=aJ.append a11;have cR:=yM hg h1 gR;intro k c hc
  rcases Vbu.1 hc with hc|hc
  ·obtain⟨rfl,rfl⟩:=Xb5 hc
   exact⟨0,r,d,q,X,X0,m,cy,_,by simp[wY,Xbn],rfl,rfl,hk,hfd,Ba7 hg q nv X (.v y) ke⟩
  ·obtain⟨j,r',d',q',X',X1,m',ux,X2,h2,h3,h4,h5,sd,h6⟩:=cR k c hc
   exact⟨j+1,r',d',q',X',X1,m',ux,X2,by simpa[wY,Xbn] using h2,h3,h4,h5,by rw[show y+(j+1)=y+1+j by omega];exact sd,by rw[show y+(j+1)=y+1+j by omega];exact h6⟩
theorem yN:∀ {rts:List RT} {y nv:Nat} {ml:List Step} {mu:List (Nat×aQ)},(zY y nv rts).eval σ=some (ml,mu)->∀ r,r∈dD rts->(∃ c,(kR r,c)∈mu)\/∃ c,(kR r,c)∈gT rts
 |[],y,nv,ml,mu,h,r,hr=>by simp[dD]at hr
 |.nil::t,y,nv,ml,mu,h,r,hr=>yN (rts:=t) h r hr
 | .own s d :: t, y, nv, ml, mu, h, r, hr => by
  simp only[dD,Vbu]at hr
  rcases hr with rfl|hr
  ·exact .inr ⟨_,by simp only[gT];exact Vb7⟩
  ·exact (yN (rts:=t) h r hr).imp id fun ⟨c,hc⟩=>⟨c,by simp only[gT];exact Vb1 _ hc⟩
 | .mu s d q X :: t, y, nv, ml, mu, h, r, hr => by
  simp only[zY,aA,aR,Vbs]at h;split at h
  case h_2=>cases h
  simp only[aA,Vbj,aC,Vbl,Wbd]at h;obtain⟨⟨ls,us⟩,h1,rfl,rfl⟩:=h;simp only[dD,Vbu]at hr
  rcases hr with rfl|hr
  ·exact .inl ⟨_,Vb7⟩
  ·exact (yN h1 r hr).imp (fun ⟨c,hc⟩=>⟨c,Vb1 _ hc⟩) id
theorem lQ:∀ {rts:List RT} {k:Nat} {c:aQ},(k,c)∈gT rts->∃ r,k=kR r/\c=.root (.c .hole) 0 0 .gone
 |[],k,c,h=>by simp[gT]at h
 |.nil::t,k,c,h=>lQ (rts:=t) h
 |.mu s d q X::t,k,c,h=>lQ (rts:=t) h
 | .own s d :: t, k, c, h => by
  simp only[gT,Vbu,Wbd]at h
  rcases h with ⟨rfl,rfl⟩|h
  ·exact⟨s,rfl,rfl⟩
  ·exact lQ h
end
theorem xQ {deps:List (Nat×Nat)}:∀ (cs:List BO) (y n:Nat),(eB deps y n cs).2.2=n+qC cs/\∀ k c,(k,c)∈(eB deps y n cs).2.1->∃ r y m,n<=r/\k=kR r/\c=.root (.v y) m 0 .live
 |[],y,n=>⟨rfl,by simp[eB]⟩
 | t :: cs, y, n => by
  have hb:(jX deps y n t).2.2=n+t.q/\∀ k c,(k,c)∈(jX deps y n t).2.1->∃ r y m,n<=r/\k=kR r/\c=.root (.v y) m 0 .live:=by
   cases t<;>refine⟨rfl,fun k c hc=>?_⟩<;>simp[jX]at hc
   exact⟨n,y,_,Vb6 _,hc.1,hc.2⟩
  obtain⟨h1,h2⟩:=hb;simp only[eB];rw[h1];obtain⟨h3,h4⟩:=xQ (deps:=deps) cs (y+1) (n+t.q);refine⟨by rw[h3];simp only[qC];omega,fun k c hc=>?_⟩
  rcases Vb5.1 hc with hc|hc
  ·exact h2 k c hc
  ·obtain⟨r,y',m,h5,h6,h7⟩:=h4 k c hc
   exact⟨r,y',m,by omega,h6,h7⟩
theorem Oai {gd:Bool}{deps:List (Nat×Nat)}{nb:Nat}(t:LR)(y n:Nat):(dE gd deps nb y n t).2.2=n+t.q/\∀ k c,(k,c)∈(dE gd deps nb y n t).2.1->(∃ r y m,n<=r/\k=kR r/\c=.root (.v y) m 0 .live)\/(k=kB nb/\∃ ls,c=.box false ls):=by
 cases t with
 | bx cs =>
  obtain⟨h3,h4⟩:=xQ (deps:=deps) cs y n;simp only[dE];refine⟨h3,fun k c hc=>?_⟩
  rcases Vbu.1 hc with hc|hc
  ·obtain⟨rfl,rfl⟩:=Xb5 hc
   exact .inr ⟨rfl,_,rfl⟩
  ·exact .inl (h4 k c hc)
 | ow m =>
  cases gd with
  |true=>exact⟨rfl,by simp[dE]⟩
  | false =>
   refine⟨rfl,fun k c hc=>?_⟩;simp[dE]at hc;exact .inl ⟨n,y,m,Vb6 _,hc.1,hc.2⟩
 |_=>exact⟨rfl,by simp[dE]⟩
theorem zV {gd:Bool}{deps:List (Nat×Nat)}{nb:Nat}:∀ (ss:List LR) (y n:Nat),(dU gd deps nb y n ss).2.2=n+qL ss/\∀ k c,(k,c)∈(dU gd deps nb y n ss).2.1->(∃ r y m,n<=r/\k=kR r/\c=.root (.v y) m 0 .live)\/(k=kB nb/\∃ ls,c=.box false ls)
 |[],y,n=>⟨rfl,by simp[dU]⟩
 | t :: ss, y, n => by
  obtain⟨h1,h2⟩:=Oai (gd:=gd) (deps:=deps) (nb:=nb) t y n;simp only[dU];rw[h1];obtain⟨h3,h4⟩:=zV (gd:=gd) (deps:=deps) (nb:=nb) ss (y+t.n) (n+t.q);refine⟨by rw[h3];simp only[qL];omega,fun k c hc=>?_⟩
  rcases Vb5.1 hc with hc|hc
  ·exact h2 k c hc
  ·exact (h4 k c hc).imp (fun ⟨r,y',m,h5,h6⟩=>⟨r,y',m,by omega,h6⟩) id
theorem Ga8 {gd:Bool}{deps:List (Nat×Nat)}{nb:Nat}:∀ (rs:List (Bool×List LR)) (y n:Nat),(jJ gd deps nb y n rs).2.2=n+qR rs/\∀ k c,(k,c)∈(jJ gd deps nb y n rs).2.1->(∃ r y m,n<=r/\k=kR r/\c=.root (.v y) m 0 .live)\/(k=kB nb/\∃ ls,c=.box false ls)
 |[],y,n=>⟨rfl,by simp[jJ]⟩
 | (ag, ss) :: rs, y, n => by
  obtain⟨h1,h2⟩:=zV (gd:=gd) (deps:=deps) (nb:=nb) ss y n;simp only[jJ];rw[h1];obtain⟨h3,h4⟩:=Ga8 (gd:=gd) (deps:=deps) (nb:=nb) rs (y+nZ ss) (n+qL ss);refine⟨by rw[h3];simp only[qR];omega,fun k c hc=>?_⟩
  rcases Vb5.1 hc with hc|hc
  ·exact h2 k c hc
  ·exact (h4 k c hc).imp (fun ⟨r,y',m,h5,h6⟩=>⟨r,y',m,by omega,h6⟩) id
theorem xP {σ:Nat->Option aQ}{ptrs:List (Nat×Nat×Nat)}{deps:List (Nat×Nat)}:∀ {bs:List (Bool×List (BS×BO))} {b y n:Nat} {bu:List (Nat×aQ)},(mO ptrs deps b y n bs).eval σ=some bu ->
  ∀ k c,(k,c)∈bu->(∃ r y m,n<=r/\k=kR r/\c=.root (.v y) m 0 .live)\/(∃ c0 jy ls,k=kB c0/\σ (kB c0)=some (.box false jy)/\c=.box false ls)
 | [], b, y, n, bu, h => by
  simp only[mO,aC,Vbl]at h;subst h;simp
 | (ro, cs) :: bs, b, y, n, bu, h => by
  simp only[mO]at h
  cases ro with
  |true=>exact xP (bs:=bs) h
  | false =>
   simp only[cond_false]at h;split at h
   case h_2=>cases h
   simp only[aA,aR,Vbs]at h;split at h
   case h_2=>cases h
   rename_i jy pg;simp only[aA,Vbj,aC,Vbl]at h;obtain⟨rest,h1,rfl⟩:=h;obtain⟨h3,h4⟩:=xQ (deps:=deps) (cs.map (·.2)) y n;rw[h3]at h1;intro k c hc
   rcases Vbu.1 hc with hc|hc
   ·obtain⟨rfl,rfl⟩:=Xb5 hc
    exact .inr ⟨_,_,_,rfl,pg,rfl⟩
   ·rcases Vb5.1 hc with hc|hc
    ·exact .inl (h4 k c hc)
    ·exact (xP h1 k c hc).imp (fun ⟨r,y',m,h5,h6⟩=>⟨r,y',m,by omega,h6⟩) id
theorem Lad {own:Nat->Ow}{w:World}{ds:List D}{gh:Nat->Value}:∀ {ms:List Nat} {i j k d:Nat},Uar own w ds gh i j ms->ms[k]?=some d->Rp own w (2*(j+k)+1) [] d (gh (j+k)) (ds.getD (i+k) .undef)
 |[],i,j,k,d,_,h=>by simp at h
 | e :: ms, i, j, 0, d, h, hk => by
  simp only[Vbv,Vbl]at hk;subst hk;exact h.1
 | e :: ms, i, j, k + 1, d, h, hk => by
  have:=Lad h.2 (k:=k) (by simpa using hk);rw[show j+(k+1)=j+1+k by omega,show i+(k+1)=i+1+k by omega];exact this
theorem iM.len {σ:Nat->Option aQ}{ρ:List D}{G:Gh}{w:World}:∀ {ts:List (Bool×List aP)} {us:List Value},iM σ ρ G w ts us->us.length=ts.length
 |[],us,h=>by simp only[iM]at h;subst h;rfl
 | (a, ls) :: r, us, h => by
  obtain⟨u,dj,vs,rfl,-,-,h3⟩:=h;simp[iM.len h3]
theorem Xaz {σ:Nat->Option aQ}{ρ:List D}{G:Gh}{w:World}{g:Option (aI×Bool)}(hg:gOn ρ g=true){rs:List (Bool×List aP)}{us:List Value}(h:iM σ ρ G w rs us):dC σ ρ G w (Bax g rs) (Eau us):=by
 unfold Bax;split
 ·rename_i x
  obtain⟨u,dj,vs,rfl,h1,h2,h3⟩:=h;simp only[iM]at h3;subst h3;simp only[Vbm,if_false]at h2;subst h2;simp only[aD,Xbh]at h1;obtain⟨u',dj,⟨rfl,rfl⟩,h4,-⟩:=h1;simp only[aB]at h4;simp only[Eau]
  cases g with
  |none=>simp only[mkS,dC,aB];exact h4
  |some z=>simp only[mkS,dC,aB];exact⟨.inl h4,fun _=>h4⟩
 ·rename_i l _
  obtain⟨u,dj,vs,rfl,h1,h2,h3⟩:=h;simp only[iM]at h3;subst h3;simp only[Vbm,if_false]at h2;subst h2;simp only[aD,Xbh]at h1;obtain⟨u',dj,⟨rfl,rfl⟩,h4,-⟩:=h1;simp only[Eau,dC];exact h4
 ·rename_i ls
  obtain⟨u,dj,vs,rfl,h1,h2,h3⟩:=h;simp only[iM]at h3;subst h3;simp only[if_true]at h2;simp only[Eau,dC];exact⟨vs,h2,h1⟩
 ·rename_i _ h1 h2 h3
  simp only[dC]
  match us,rs,h with
  |[],[],h=>exact⟨[],rfl,h⟩
  | [u], [(a, ls)], h =>
   exfalso;obtain⟨u',dj,vs,e,h4,h5,h6⟩:=h;obtain⟨rfl,rfl⟩:=Zbd e
   cases a with
   |true=>exact h3 ls rfl
   | false =>
    simp only[Vbm,if_false]at h5;subst h5;have:=h4.len
    match ls,this with
    |[l],_=>exact h2 l rfl
  |u::u'::us,r::r'::rs,h=>exact⟨_,rfl,h⟩
  |[],_::_,h=>have:=h.len;simp at this
  |[_],[],h=>have:=h.len;simp at this
  |[_],_::_::_,h=>have:=h.len;simp at this
  |_::_::_,[],h=>have:=h.len;simp at this
  |_::_::_,[_],h=>have:=h.len;simp at this
theorem uX {σ:Nat->Option aQ}{ptrs:List (Nat×Nat×Nat)}:∀ {bs:List (Bool×List (BS×BO))} {b:Nat} {xs:List aI},(iV ptrs b bs).eval σ=some xs->∀ x∈bs,x.1=false->Rax (x.2.map (·.2))=true
 |[],b,xs,h,x,hx,_=>by simp at hx
 | (ro, cs) :: bs, b, xs, h, x, hx, oB => by
  simp only[iV]at h
  cases ro with
  | true =>
   simp only[cond_true]at h
   rcases Vbu.1 hx with rfl|hx
   ·cases oB
   ·exact uX h x hx oB
  | false =>
   simp only[cond_false]at h;split at h
   case h_2=>cases h
   simp only[aA,aR,Vbs]at h;split at h
   case h_2=>cases h
   simp only[aA,Vbj,aC,Vbl]at h;obtain⟨l,h1,m,h2,-⟩:=h
   rcases Vbu.1 hx with rfl|hx
   ·clear h2
    rename_i jy _;generalize jy.drop _=ls at h1;dsimp only;clear hx oB
    induction cs generalizing ls l with
    |nil=>rfl
    | cons t cs ih =>
     obtain⟨s,o⟩:=t
     cases ls with
     |nil=>simp[kX,bT]at h1
     | cons x ls =>
      simp only[kX,aA,Vbj]at h1;obtain⟨y,h3,r,h4,-⟩:=h1;have:=ih _ _ h4
      cases o with
      |ow m=>cases s<;>simp[bT]at h3
      |_=>simpa[Rax] using this
   ·exact uX h2 x hx oB
def Waj (o:Oper)(g:Option (aI×Bool))(rs:List (Bool×List aP)):List (Nat×aQ):=match o.dst with
 |some d=>[(kT d,.slot (Dbc g (Bax g rs)) (Bax g rs))]
 |none=>[]
section
variable {E:Env} {F:bK} {σ:Nat->Option aQ} {ρ:List D} {a:Act} {w w':World} {G:Gh} {g:Option (aI×Bool)} {cf:Nat->List D->Option (List D)} {o:Oper} {s:Sig} {T Z:Take} {nb nr y0 nvm:Nat}
theorem Ca0 {rs:List (Bool×List aP)}:Waj o g rs=eG o (Dbc g (Bax g rs)) (Bax g rs):=rfl
theorem Abi (hR:R E.ntmps F σ ρ a w G)(hg:gOn ρ g=true)(hd:fQ E.ntmps o)(hf:Dai σ nb nr){vs:List SV}{us0:List Value}(ru:tL σ ρ G w vs us0)
  (hT:(fK g Take.empty s.params vs).eval σ=some T) (hZ:(fI T.ptrs T 0 s.boxes).eval σ=some Z) (hk:Laa s Z) (a05:lD s.results<=1)
  (gi:noG g=true\/(lD s.results=0/\∃ olds,(iV Z.ptrs 0 s.boxes).eval σ=some olds))
  {rs:List (Bool×List aP)} {us bu mu:List (Nat×aQ)} {w6:Nat} {ml:List Step} {ds:List D} (jz:jJ (!noG g) Z.deps nb y0 nr s.results=(rs,us,w6))
  (re:(mO Z.ptrs Z.deps 0 (y0+bO s.results+(Z.rts.filter wY).length) w6 s.boxes).eval σ=some bu) {nv1:Nat} (x7:(zY (y0+bO s.results) nv1 Z.rts).eval σ=some (ml,mu))
  (hlen:ds.length=bO s.results+(Z.rts.filter wY).length+fA s.boxes) (et:∀ j d,ds[j]?=some d->(aI.v (y0+j)).val ρ=d)
  (pS:Z.deps=[]\/Qaj ρ (Abb y0 s.results++Abc (y0+bO s.results) Z.rts++War (y0+bO s.results+(Z.rts.filter wY).length) s.boxes)) (x3:aJ cf ρ g nv1 ml)
  (oX:(Waj o g rs++(us++bu++mu++gT Z.rts)).all (fun x=>zJ E.ntmps nb nr x.1)=true)
  {v:Value} (pb:Sax s (rZ s (callG ρ G w s Z) w) (callG ρ G w s Z).bx v w' ds) :
  ∃ G2,R E.ntmps F (upds σ (Waj o g rs++(us++bu++mu++gT Z.rts))) ρ (a.put o.dst v) w' G2:=by
 obtain⟨G',dj,rfl,hF,a1z,a65,lp⟩:=pb;obtain⟨hle1,pz,xF⟩:=lH hZ;rw[<- pz]at xF;obtain⟨rn,om,rz,hn3⟩:=vW True (fun _=>hR) hT (fun _=>⟨us0,ru⟩);obtain⟨qz,hn4,hn5⟩:=tY (ρ:=ρ) (G:=G) (w:=w) hZ;have gE:=om.trans hn4;have sL:Z.rts=rn++qz:=by have:=gE.rts;simpa[Take.empty] using this
 have sA:∀ x∈Z.rts,Fby σ ρ G w x:=by
  rw[sL];exact fun x hx=>(Vb5.1 hx).elim (hn3 trivial x) (hn5 x)
 have hms:(Z.rts.filter wY).map rtD=eO (s.params.flatMap (·.2)):=by
  have:=gE.ms;rw[<- sL,Wbo]at this;exact this
 have hmr:Aar 0 Z.rts=fE 0 (s.params.flatMap (·.2)):=by
  have:=gE.mr;rw[<- sL,Wbo]at this;exact this
 have qu:∀ z∈Z.deps,Mad σ z.1 z.2:=fun z hz=>by
  rcases gE.deps z hz with h|h
  ·simp[Take.empty]at h
  ·exact h
 have B:Qak E F σ ρ a w G s Z G' w':=by
  refine⟨hR,hk,hF,fun j ro cs hj=>by have:=xF j ro cs hj;rwa[Wbj]at this,qu,fun ν r d q X tW=>?_,fun ν r d tW=>?_⟩
  ·obtain⟨m,cy,u,h1,h2,h3⟩:=sA _ (Vb3 tW)
   exact⟨m,cy,u,h1,h2,h3⟩
  ·obtain⟨x,m,cy,h1⟩:=sA _ (Vb3 tW)
   exact⟨x,m,cy,h1⟩
 generalize hU:Waj o g rs++(us++bu++mu++gT Z.rts)=U at oX ⊢
 let hs:=owR w' s.results dj++owB w' (callG ρ G w s Z).bx 0 s.boxes
 let adn:=(Iaq s.results dj).headD ⟨0,0,none⟩
 let G2:=fP (!noG g) ρ G w s Z nr nb G'.own hs adn
 have ze:∀ k c,(k,c)∈U->(k,c)∈Waj o g rs\/(k,c)∈us\/(k,c)∈bu\/(k,c)∈mu\/(k,c)∈gT Z.rts:=by
  intro k c hc;rw[<- hU]at hc
  rcases Vb5.1 hc with hc|hc
  ·exact .inl hc
  ·rcases Vb5.1 hc with hc|hc
   ·rcases Vb5.1 hc with hc|hc
    ·rcases Vb5.1 hc with hc|hc
     ·exact .inr (.inl hc)
     ·exact .inr (.inr (.inl hc))
    ·exact .inr (.inr (.inr (.inl hc)))
   ·exact .inr (.inr (.inr (.inr hc)))
 have hUdst:∀ z∈Waj o g rs,z∈U:=fun z hz=>by rw[<- hU];exact Vbo _ hz
 have a68:∀ z∈us,z∈U:=fun z hz=>by rw[<- hU];exact Vbr _ (Vbo _ (Vbo _ (Vbo _ hz)))
 have a1j:∀ z∈bu,z∈U:=fun z hz=>by rw[<- hU];exact Vbr _ (Vbo _ (Vbo _ (Vbr _ hz)))
 have a5g:∀ z∈mu,z∈U:=fun z hz=>by rw[<- hU];exact Vbr _ (Vbo _ (Vbr _ hz))
 have a63:∀ z∈gT Z.rts,z∈U:=fun z hz=>by rw[<- hU];exact Vbr _ (Vbr _ hz)
 have a2q:∀ k c,(k,c)∈U->zJ E.ntmps nb nr k=true:=fun k c hc=>by
  rw[Wbg]at oX;exact oX _ hc
 obtain⟨tR,sj⟩:=Ga8 (gd:=!noG g) (deps:=Z.deps) (nb:=nb) s.results y0 nr;rw[jz]at tR sj;dsimp only at tR sj;subst tR;have a5b:=xP re;have pT:=yM hg x7 x3;have oy:∀ r c,(kR r,c)∈U->nr<=r->σ (kR r)=none:=fun r c hc hr=>hf.nr r hr (Da0 (a2q _ _ hc))
 have yW:∀ k c,(k,c)∈Waj o g rs->∃ d,o.dst=some d/\k=kT d/\c=.slot (Dbc g (Bax g rs)) (Bax g rs):=fun k c hc=>by
  rw[Ca0]at hc;exact yX hc
 have eC:Fr σ G w (upds σ U) G2 w':=by
  refine Fr.of (fun b hb bj=>B.frz hb bj) (fun r b p il hb=>?_) (fun r c hc ij=>?_) (fun r x m k hkz b p hb=>?_) (fun r hr=>?_) (fun b hb=>?_)
  ·refine B.other (fun hr=>?_) hb
   rcases yN x7 r hr with ⟨c,hc⟩|⟨c,hc⟩
   ·exact il c (a5g _ hc)
   ·exact il c (a63 _ hc)
  ·rcases ze _ _ hc with h|h|h|h|h
   ·obtain⟨d,-,e,-⟩:=yW _ _ h
    exact absurd e.symm iQ
   ·rcases sj _ _ h with ⟨r',y,m,h1,h2,rfl⟩|⟨h1,-⟩
    ·obtain rfl:=fJ h2
     exact .inl ⟨oy r _ hc h1,_,_,_,_,rfl⟩
    ·exact absurd h1.symm fO
   ·rcases a5b _ _ h with ⟨r',y,m,h1,h2,rfl⟩|⟨c0,jy,ls,h1,-⟩
    ·obtain rfl:=fJ h2
     exact .inl ⟨oy r _ hc (by omega),_,_,_,_,rfl⟩
    ·exact absurd h1.symm fO
   ·obtain⟨j,r',d,q,X,X0,m,cy,X',h1,h2,rfl,h3,-⟩:=pT _ _ h
    obtain rfl:=fJ h2;exact .inr (.inl ⟨_,_,_,_,_,h3,rfl⟩)
   ·obtain⟨r',h1,rfl⟩:=lQ h
    exact .inr (.inr (.inl ⟨_,_,_,_,rfl,by simp,by simp⟩))
  ·have hb:G2.own b=.slc r p:=hb
   simp only[G2,fP]at hb;split at hb
   ·cases e:G.own b with
    | slc r' p' =>
     rw[e]at hb;simp only[Aan]at hb;split at hb
     ·cases hb
     ·split at hb
      ·split at hb
       ·exact hb
       ·cases hb
      ·exact hb
     ·exact hb
    |_=>rw[e]at hb;simp[Aan]at hb
   ·cases e:G'.own b with
    | slc t p' =>
     rw[e]at hb;simp only[uY]at hb;split at hb
     ·split at hb
      ·cases hb
      ·split at hb
       ·rename_i bj
        injection hb with e1 e2
        have:=hf.nr r (by omega) (by omega);rw[this]at hkz;cases hkz
       ·cases hb
     ·split at hb
      ·rename_i r' d q X a4o
       injection hb with e1 e2
       subst e1;have hm:=(List.mem_filter.1 (Vb3 a4o)).1;obtain⟨m',ux,u',h1,-⟩:=sA _ hm;rw[h1]at hkz;cases hkz
      ·cases hb
    | box β =>
     rw[e]at hb;simp only[uY]at hb;split at hb<;>cases hb
    |_=>rw[e]at hb;simp[uY]at hb
  ·show (if nr<=r/\r<nr+cK then _ else G.hdr r)=_
   rw[if_neg]
   rintro⟨h1,h2⟩
   rw[hf.nr r h1 h2]at hr;cases hr
  ·show (if b=nb then adn else G.bx b)=_
   rw[if_neg];intro e;rw[e,hf.nb]at hb;cases hb
 have mn:∀ k c,(k,c)∈U->(upds σ U k).isSome:=fun k c hc=>eP _ _ _ (.inr ⟨c,hc⟩)
 have a2b:∀ l:List (Nat×aQ),(∀ z∈l,z∈U)->UIn (upds σ U) nr l:=fun l hl k c hc=>by
  refine⟨mn k c (hl _ hc),fun q e=>?_⟩;have:=a2q _ _ (hl _ hc);rw[e]at this;have:=Da0 this;omega
 have x6:∀ i,i<ds.length->(aI.v (y0+i)).val ρ=ds.getD i .undef:=fun i hi=>by
  rw[Vby,Vbq hi,Xbq];exact et i _ (Vbq hi)
 have A:Aft E F σ (upds σ U) ρ a w G s Z G' w' y0 ds:=by
  refine⟨B,x6,fun z hz=>eC.known _ _ ?_⟩;obtain⟨m,x,hx⟩:=qu z hz;exact⟨x,m,z.2,.live,hx,fun _=>Vb6 _⟩
 have a5j:(!noG g)=false\/lD s.results=0:=by
  rcases gi with h|h
  ·exact .inl (by rw[h];rfl)
  ·exact .inr h.1
 have tj:=Kah A (gd:=!noG g) (nb:=nb) (nr:=nr) (hs:=hs) (adn:=adn) (i:=0) (q:=0) a1z (by omega) (pS.imp id fun h m y hm=>h m y (Vbo _ (Vbo _ hm)))
  a5j (fun j x hj=>by
   rw[Wbj];show (owR w' s.results dj++_)[j]?=some x
   rw[Vb2 (Vbn.1 hj).1]
   exact hj) (fun ad r5=>by
   have hl:=Pa9 s.results dj;show ad=(Iaq s.results dj).headD _
   match hb:Iaq s.results dj,r5 with
   |[x],r5=>simpa using r5
   |x::y::l,r5=>rw[hb]at hl;simp at hl;omega) (by
   rw[Wbv,Wbv,jz];exact a2b us a68)
 rw[Wbv,Wbv,jz]at tj;dsimp only at tj;obtain⟨-,ql,a4y,a2x⟩:=tj;have yy:(eO (s.params.flatMap (·.2))).length=(Z.rts.filter wY).length:=by rw[<- hms];simp
 rw[yy]at lp
 have a5i:=Aa0 A (gd:=!noG g) (nb:=nb) (nr:=nr) (hs:=hs) (adn:=adn) hf.nb (bs:=s.boxes) (b:=0) (i:=bO s.results+(Z.rts.filter wY).length) (q:=qR s.results) (bu:=bu) (by simp)
  (by rw[<- Vb8];exact re) lp (by omega) (pS.imp id fun h m y hm=>h m y (Vbr _ (by rw[Vb8];exact hm)))
  (by
   rcases gi with h|⟨-,olds,h⟩
   ·exact .inl (by rw[h];rfl)
   ·exact .inr (uX h)) (fun j x hj=>by
   show (owR w' s.results dj++owB w' (callG ρ G w s Z).bx 0 s.boxes)[qR s.results+j]?=some x
   rw[Vbz (by omega),ql,Wbx];exact hj) (a2b bu a1j)
 obtain⟨a1h,a7i⟩:=a5i;refine⟨G2,hR.upd U eC (by rw[Ba1];exact hR.tmps) (by rw[put_defers];exact hR.defers) B.frame (fun t ht=>?_) (fun b ro ls hb il=>?_) (fun b ls hb bj ho=>?_) (fun k c hc ij=>?_)⟩
 ·rw[<- hU,Ca0]at ht
  exact Fay ht
 ·
  obtain⟨h1,h2,h3⟩:=hR.box hb
  have bj:(G.bx b).block<w.heap.size:=by
   rcases Wbc (G.bx b).block w.heap.size with h|h
   ·exact h
   ·rw[hR.frame.fresh _ h]at h2
    split at h2<;>cases h2
  cases ro with
  | true =>
   simp only[if_true]at h2;obtain⟨h4,h5⟩:=B.oth (gd:=!noG g) (nr:=nr) (nb:=nb) (hs:=hs) (adn:=adn) h2 bj;exact⟨h4.trans h2.symm,h5⟩
  | false =>
   simp only[Vbm,if_false]at h2;obtain⟨h4,h5⟩:=B.boxes (gd:=!noG g) (nr:=nr) (nb:=nb) (hs:=hs) (adn:=adn) h2 bj;refine⟨h4.trans h2.symm,?_⟩
   rcases h5 with h5|⟨j,cs,off,ls2,c0,c1,e,fr,e1,e2,e3,e4,-⟩
   ·exact h5
   ·exfalso
    have hm:=uW (wr:=false) (b:=0) e1 (by rw[Wbj];exact e2);obtain⟨x,hx⟩:=a7i b hm;exact il x (a1j _ hx)
 ·
  rcases ze _ _ hb with h|h|h|h|h
  ·obtain⟨d,-,e,-⟩:=yW _ _ h
   exact absurd e.symm mK
  ·rcases a2x _ _ h with ⟨q,m,i,e,-⟩|⟨e,kO,e2,hbr,ny⟩
   ·exact absurd e fO
   ·exfalso
    have e:=Caj e;subst e;refine ny ⟨Nat.lt_of_lt_of_le bj hR.frame.size,?_⟩;have h1:=(hR.frame.boxes _ _ bj ho).1
    have h2:(callG ρ G w s Z).own ((fP (!noG g) ρ G w s Z nr b G'.own hs adn).bx b).block=.oth\/∃ j,(callG ρ G w s Z).own ((fP (!noG g) ρ G w s Z nr b G'.own hs adn).bx b).block=.box j:=by
     have wg:G.own ((fP (!noG g) ρ G w s Z nr b G'.own hs adn).bx b).block=.box b:=h1;simp only[callG,wg];split
     ·split
      ·exact .inr ⟨_,rfl⟩
      ·exact .inl rfl
     ·exact .inl rfl
    rcases h2 with h2|⟨j,h2⟩<;>rw[h2]<;>rfl
  ·rcases a1h _ _ h with ⟨q,m,i,e,-⟩|⟨c0,jy,kO,e,h1,h2,h3,-⟩
   ·exact absurd e fO
   ·obtain rfl:=Caj e
    injection h2 with e1 e2
    have hbn:G2.bx b=G.bx b:=eC.bx b (by rw[h1];rfl);rw[hbn]at bj ho ⊢;rw[hR.rng b jy h1 bj ho,e2,h3]
  ·obtain⟨j,r',d,q,X,X0,m,cy,X',h1,h2,-⟩:=pT _ _ h
   exact absurd h2 fO
  ·obtain⟨r',h1,-⟩:=lQ h
   exact absurd h1 fO
 ·rcases ze _ _ hc with h|h|h|h|h
  ·obtain⟨d,nf,rfl,rfl⟩:=yW _ _ h
   refine⟨d,rfl,fun _=>?_⟩;rw[nf,pQ _ _ _ _ _ (hd d nf) hR.tmps];exact Xaz hg a4y
  ·rcases a2x _ _ h with ⟨q,m,i,rfl,rfl,fR⟩|⟨rfl,kO,rfl,hbr,-⟩
   ·exact⟨nr+q,rfl,by rw[ij];rfl,fR⟩
   ·exact⟨nb,rfl,hbr⟩
  ·rcases a1h _ _ h with ⟨q,m,i,rfl,rfl,fR⟩|⟨c0,jy,kO,rfl,h1,rfl,h3,h4⟩
   ·exact⟨nr+q,rfl,by rw[ij];rfl,fR⟩
   ·refine⟨c0,rfl,h4 fun j l hj=>?_⟩
    obtain⟨-,-,dv⟩:=hR.box h1;obtain⟨v,ug,hv2,hv3⟩:=dv j l hj;exact⟨v,ug,fun hl=>aB.mono eC l v hl⟩
  ·obtain⟨j,r',d,q,X,X0,m,cy,X',h1,rfl,rfl,h3,hfd,h4⟩:=pT _ _ h
   refine⟨r',rfl,by rw[ij];rfl,?_⟩;show Rp G2.own w' r' [] m (G2.hdr r') (X'.val ρ)
   have zh:G2.hdr r'=G.hdr r':=eC.hdr r' (by rw[h3];rfl);rw[zh];have a7h:=(Vbn.1 h1).1;have mf:j<(Aar 0 Z.rts).length:=by rw[Pae];exact a7h
   have tW:=Vbq mf;obtain⟨x,pH,-,qe⟩:=Paf tW;rw[h1]at pH;obtain rfl:=Wbk pH;rw[Nat.sub_zero]at qe
   have hd0:(eO (s.params.flatMap (·.2)))[j]?=some d:=by
    rw[<- hms,Wbs,h1];rfl
   have fN:=Lad a65 hd0;rw[Wbj]at fN
   have hy:(aI.v (y0+bO s.results+j)).val ρ=ds.getD (bO s.results+j) .undef:=by
    rw[Vb8];exact x6 _ (by omega)
   rw[<- hy]at fN
   have zp:(rZ s (callG ρ G w s Z) w).gh j=Yam w (G.hdr r') (bB ρ q):=by
    simp only[rZ,Hay,Vby];rw[<- hmr,Vb2 (by simpa using mf),Wbs,tW];simp only[Wb5,Xbq];rw[Daa qe];rfl
   rw[zp]at fN;refine B.mu h3 hfd qe h1 (fun u' hn=>Dax hn) fN (pS.imp id fun hc=>?_) h4
   have ev:∀ (rts:List RT) (y j:Nat) (r d:Nat) (q:List (aI×Nat×Nat)) (X:aI),(rts.filter wY)[j]?=some (RT.mu r d q X)->Step.prim (.dep d) [.v (y+j)] 0∈Abc y rts:=by
    intro rts
    induction rts with
    |nil=>intro y j r d q X h;simp at h
    | cons x t ih =>
     intro y j r d q X h
     cases x with
     |nil=>exact ih y j r d q X (by simpa[wY,Xbn] using h)
     |own _ _=>exact ih y j r d q X (by simpa[wY,Xbn] using h)
     | mu r' d' q' X' =>
      simp only[Abc]
      cases j with
      | zero =>
       simp[wY,Xbn]at h;rw[h.2.1];exact Vb7
      | succ j =>
       have:=ih (y+1) j r d q X (by simpa[wY,Xbn] using h);rw[show y+1+j=y+(j+1) by omega]at this;exact Vb1 _ this
   exact hc d _ (Vbo _ (Vbr _ (ev _ _ _ _ _ _ _ h1)))
  ·obtain⟨r',rfl,rfl⟩:=lQ h
   exact⟨r',rfl,by rw[ij];rfl,trivial⟩
end
theorem Eab:∀ (cs:List BO) (y:Nat),bM (pF y cs)=0
 |[],y=>rfl
 |t::cs,y=>by cases t<;>simp only[pF,iN,Step.n,Eab cs]
theorem Fbt:∀ (ss:List LR) (y:Nat),bM (Sak y ss)=0
 |[],y=>rfl
 |t::ss,y=>by cases t<;>simp only[Sak,iN,fM,Step.n,Eab,Fbt ss]
theorem Fbr:∀ (rs:List (Bool×List LR)) (y:Nat),bM (Abb y rs)=0
 |[],y=>rfl
 |(a,ss)::rs,y=>by simp only[Abb,fM,Fbt,Fbr rs]
theorem Fbs:∀ (ts:List RT) (y:Nat),bM (Abc y ts)=0
 |[],y=>rfl
 |t::ts,y=>by cases t<;>simp only[Abc,iN,Step.n,Fbs ts]
theorem Fbu:∀ (bs:List (Bool×List (BS×BO))) (y:Nat),bM (War y bs)=0
 |[],y=>rfl
 |(ro,cs)::bs,y=>by cases ro<;>simp only[War,cond_true,cond_false,fM,Eab,Fbu bs]
theorem Uad {ρ:List D}{g:Option (aI×Bool)}{cf:Nat->List D->Option (List D)}(hg:gOn ρ g=true):∀ {l:List Step} {nv:Nat},aJ cf ρ g nv l->Qaj ρ l
 |[],nv,h=>fun m y hm=>by simp at hm
 | t :: l, nv, h => fun m y hm => by
  rcases Vbu.1 hm with e|hm
  ·subst e
   obtain⟨ds,h1,-,-⟩:=h.1.1 hg;simp only[Wbe,Wbu,aT.run]at h1;split at h1
   ·rename_i hf;exact hf
   ·cases h1
  ·exact Uad hg h.2 m y hm
theorem Oaj {deps:List (Nat×Nat)}{nb:Nat}:∀ (rs:List (Bool×List LR)) (y n:Nat),lD rs=0->(jJ true deps nb y n rs).2.1=[]
 |[],y,n,_=>rfl
 | (a, ss) :: rs, y, n, h => by
  simp only[lD]at h
  have hl:∀ (ss:List LR) (y n:Nat),bxL ss=0->(dU true deps nb y n ss).2.1=[]:=by
   intro ss
   induction ss with
   |nil=>intro y n _;rfl
   | cons t ss ih =>
    intro y n h
    cases t with
    |bx cs=>simp[bxL]at h
    |_=>simp only[dU,dE,cond_true,Wby];exact ih _ _ (by simpa[bxL] using h)
  simp only[jJ,hl ss y n (by omega),Wby];exact Oaj rs _ _ (by omega)
theorem Kai {gd:Bool}{deps:List (Nat×Nat)}{nb y n:Nat}{rs:List (Bool×List LR)}{l:aP}(h:(jJ gd deps nb y n rs).1=[(false,[l])]):(∀ g x,l≠.su g x)/\∀ x,l=.sc x->x=.v y/\1<=bO rs:=by
 match rs,h with
 |[],h=>simp[jJ]at h
 |(a,ss)::r::rs,h=>simp[jJ]at h
 | [(a, ss)], h =>
  simp only[jJ,Xbh,Wbd,and_true]at h;obtain⟨-,h⟩:=h
  match ss,h with
  |[],h=>simp[dU]at h
  |t::t'::ss,h=>simp[dU]at h
  | [t], h =>
   simp only[dU,Xbh,and_true]at h;subst h
   cases t with
   |sc=>exact⟨fun g x e=>by simp[dE]at e,fun x e=>by simp[dE]at e;exact⟨e.symm,by simp[bO,nZ,LR.n]⟩⟩
   |ow m=>cases gd<;>exact⟨fun g x e=>by simp[dE]at e,fun x e=>by simp[dE]at e⟩
   |_=>exact⟨fun g x e=>by simp[dE]at e,fun x e=>by simp[dE]at e⟩
theorem Xa0 {σ:Nat->Option aQ}{ρ:List D}{G:Gh}{w:World}{z:aI×Bool}(hg:gOn ρ (some z)=false){gd:Bool}{deps:List (Nat×Nat)}{nb y n:Nat}{rs0:List (Bool×List LR)}{rs:List (Bool×List aP)}
  (y8:(jJ gd deps nb y n rs0).1=rs) (hv:1<=bO rs0->(aI.v y).val ρ=.undef) (h:gOn ρ (Dbc (some z) (Bax (some z) rs))=true):dC σ ρ G w (Bax (some z) rs) undef:=by
 unfold Bax at h ⊢;split at h
 ·rename_i x
  obtain⟨h1,h2⟩:=(Kai y8).2 x rfl;subst h1;simp only[mkS,dC,aB];exact⟨.inr ⟨trivial,hv h2⟩,fun e=>by rw[hg]at e;cases e⟩
 ·rename_i l cU
  have xf:=(Kai y8).1;exfalso
  revert h xf
  cases l with
  |su g' x'=>exact fun _ xf=>xf g' x' rfl
  |_=>intro e _;simp only[Dbc]at e;rw[hg]at e;cases e
 ·simp only[Dbc]at h;rw[hg]at h;cases h
 ·simp only[Dbc]at h;rw[hg]at h;cases h
section
variable {P:Program} {E:Env} {F:bK} {σ:Nat->Option aQ} {ρ:List D} {a:Act} {w w':World} {G:Gh} {g:Option (aI×Bool)} {cf:Nat->List D->Option (List D)} {o:Oper} {s:Sig} {T Z:Take} {nb nr y0 nvm:Nat}
theorem Eaz (hR:R E.ntmps F σ ρ a w G){ep:Nat->Option aQ}(eC:Fr σ G w ep G w){deps:List (Nat×Nat)}(w5:∀ z∈deps,jK σ z.1 z.2):∀ {cs:List (BS×BO)} {ls:List aP} {xs:List aI} {y n:Nat},(kX cs ls).eval σ=some xs ->
  (∀ j x,xs[j]?=some x->(aI.v (y+j)).val ρ=x.val ρ)->(∀ (j:Nat) (nie:Bool) (o:BO) (l:aP),cs[j]?=some (BS.fz nie,o)->ls[j]?=some l->∃ r,(yH l).eval σ=some r/\∀ z∈r.deps,z∈deps) ->
  xs.length=cs.length/\(eB deps y n (cs.map (·.2))).2.1=[]/\(eB deps y n (cs.map (·.2))).1.length=cs.length /\
  ∀ (j:Nat) (l l0:aP) (v:Value),(eB deps y n (cs.map (·.2))).1[j]?=some l->ls[j]?=some l0->aB σ ρ G w l0 v->aB ep ρ G w l v
 | [], ls, xs, y, n, h, _, _ => by
  simp only[kX,aC,Vbl]at h;subst h;exact⟨rfl,rfl,rfl,by simp[eB]⟩
 |_::_,[],xs,y,n,h,_,_=>by simp[kX,bT]at h
 | (t, o) :: cs, l0 :: ls, xs, y, n, h, hx, hz => by
  simp only[kX,aA,Vbj,aC,Vbl]at h;obtain⟨x,h1,r,h2,rfl⟩:=h;have hx0:(aI.v y).val ρ=x.val ρ:=by have:=hx 0 x rfl;rwa[Wbv]at this
  have key:(jX deps y n o).2.1=[]/\∀ v,aB σ ρ G w l0 v->aB ep ρ G w (jX deps y n o).1 v:=by
   split at h1
   ·rename_i x'
    simp only[aC,Vbl]at h1;subst h1;refine⟨rfl,fun v hv=>?_⟩;simp only[jX,aB]at hv ⊢;rw[hx0];exact hv
   ·rename_i _ nie
    simp only[aA,Vbj,aC,Vbl]at h1;obtain⟨sl,h3,rfl⟩:=h1;refine⟨rfl,fun v hv=>?_⟩;obtain⟨sl',h4,h5⟩:=hz 0 nie .fz _ rfl rfl;rw[h3]at h4;obtain rfl:=Wbk h4;have hs:=eH hR h3 hv;have kf:v.oneCell'=true:=hv.one (by cases l0<;>first|rfl|cases h3)
    have hl:aB σ ρ G w (.sn deps .no false (.v y)) v:=by
     simp only[aB];refine⟨⟨kf,w5⟩,fun _=>⟨?_,fun e=>absurd e (by decide),trivial⟩⟩;rw[hx0];refine hs.rd.mono fun b hb=>⟨?_,rfl⟩
     rcases hb with hb|⟨r,k,p,hm,hb⟩
     ·exact .inl hb
     ·exact .inr ⟨r,k,p,h5 _ hm,hb⟩
    exact aB.mono eC _ v hl
   ·rw[gZ]at h1
    split at h1
    ·rename_i hs
     simp only[aC,Vbl]at h1;refine⟨rfl,fun v hv=>?_⟩;simp only[jX,aB];exact hv.one hs
    ·cases h1
   ·cases h1
  obtain⟨h3,h4,h5,h6⟩:=Eaz hR eC w5 (cs:=cs) (y:=y+1) (n:=(jX deps y n o).2.2) h2 (fun j x hj=>by
   have:=hx (j+1) x (by simpa using hj);rwa[show y+(j+1)=y+1+j by omega]at this) (fun j nie o' l hj hl=>hz (j+1) nie o' l (by simpa using hj) (by simpa using hl))
  refine⟨by simp[h3],by simp only[Wbe,eB,key.1,Wby];exact h4,by simp only[Wbe,eB,Wbb];rw[h5],fun j l l1 v hj hl hv=>?_⟩;simp only[Wbe,eB]at hj
  cases j with
  | zero =>
   simp only[Vbv,Vbl]at hj hl;subst hj hl;exact key.2 v hv
  |succ j=>exact h6 j l l1 v (by simpa using hj) (by simpa using hl) hv
theorem Ean:∀ {ss:List (BS×BO)} {ls:List aP} {A B:Take},(eQ A ss ls).eval σ=some B->∀ (j:Nat) (nie:Bool) (o:BO) (l:aP),ss[j]?=some (BS.fz nie,o)->ls[j]?=some l->∃ r,(yH l).eval σ=some r/\∀ z∈r.deps,z∈B.deps
 |[],ls,A,B,h,j,nie,o,l,hj,_=>by simp at hj
 |_::_,[],A,B,h,_,_,_,_,_,_=>by simp[eQ,bT]at h
 | (t, o) :: ss, l0 :: ls, A, B, h, j, nie, o', l, hj, hl => by
  simp only[eQ,aA,Vbj]at h;obtain⟨C,h1,h2⟩:=h
  cases j with
  | zero =>
   simp only[Vbv,Vbl,Wbd]at hj hl;obtain⟨rfl,rfl⟩:=hj;subst hl
   have h3:(sH A nie l0).eval σ=some C:=by
    have hinv:=qW h1;clear h1
    rcases hinv with ⟨x,e,-⟩|⟨nie',e,h⟩|⟨d,e,-⟩|⟨e,-⟩
    ·cases e
    ·injection e with e;subst e;exact h
    ·cases e
    ·cases e
   unfold sH at h3;simp only[aA,Vbj,aC,Vbl]at h3;obtain⟨sl,h4,rfl⟩:=h3;exact⟨sl,h4,fun z hz=>(qV h2).1.deps z (Vbr _ hz)⟩
  |succ j=>exact Ean h2 j nie o' l (by simpa using hj) (by simpa using hl)
theorem Eao {ptrs:List (Nat×Nat×Nat)}:∀ {bs:List (Bool×List (BS×BO))} {b:Nat} {A B:Take},(fI ptrs A b bs).eval σ=some B->∀ (i:Nat) (ro:Bool) (cs:List (BS×BO)),bs[i]?=some (ro,cs) ->
  ∃ c off l7 ls,pX (b+i) ptrs=some (c,off)/\σ (kB c)=some (.box l7 ls)/\off+cs.length<=ls.length/\∀ (j:Nat) (nie:Bool) (o:BO) (l:aP),cs[j]?=some (BS.fz nie,o)->(ls.drop off)[j]?=some l->∃ r,(yH l).eval σ=some r/\∀ z∈r.deps,z∈B.deps
 |[],b,A,B,h,i,ro,cs,hi=>by simp at hi
 | (ro0, cs0) :: bs, b, A, B, h, i, ro, cs, hi => by
  simp only[fI]at h;split at h
  case h_2=>cases h
  rename_i c off hp;simp only[aA,aR,Vbs]at h;split at h
  case h_2=>cases h
  rename_i l7 ls pg;simp only[aA,aH,Vbj]at h;obtain⟨_,h0,C,h1,h2⟩:=h;split at h0
  case isFalse=>cases h0
  rename_i hb;simp only[Vbk,Wb6]at hb
  cases i with
  | zero =>
   simp only[Vbv,Vbl,Wbd]at hi;obtain⟨rfl,rfl⟩:=hi;refine⟨c,off,l7,ls,hp,pg,hb.2,fun j nie o l hj hl=>?_⟩;obtain⟨r,h3,h4⟩:=Ean h1 j nie o l hj hl;exact⟨r,h3,fun z hz=>(lH h2).1.deps z (h4 z hz)⟩
  | succ i =>
   obtain⟨c',ll,a8a,kO,h3,h4,h5,h6⟩:=Eao h2 i ro cs (by simpa using hi);exact⟨c',ll,a8a,kO,by rw[show b+(i+1)=b+1+i by omega];exact h3,h4,h5,h6⟩
theorem Aa1 (hR:R E.ntmps F σ ρ a w G){deps:List (Nat×Nat)}(w5:∀ z∈deps,jK σ z.1 z.2){ptrs:List (Nat×Nat×Nat)}:∀ {bs:List (Bool×List (BS×BO))} {b y n:Nat} {bu:List (Nat×aQ)} {xs:List aI},
  (mO ptrs deps b y n bs).eval σ=some bu->(iV ptrs b bs).eval σ=some xs->(∀ j x,xs[j]?=some x->(aI.v (y+j)).val ρ=x.val ρ) ->
  (∀ (i:Nat) (ro:Bool) (cs:List (BS×BO)),bs[i]?=some (ro,cs)->∃ c off l7 ls,pX (b+i) ptrs=some (c,off)/\σ (kB c)=some (.box l7 ls)/\off+cs.length<=ls.length/\∀ (j:Nat) (nie:Bool) (o:BO) (l:aP),cs[j]?=some (BS.fz nie,o)->(ls.drop off)[j]?=some l->∃ r,(yH l).eval σ=some r/\∀ z∈r.deps,z∈deps) ->
  xs.length=fA bs/\∀ k c,(k,c)∈bu->∃ (c0:Nat) (jy ls:List aP),k=kB c0/\σ (kB c0)=some (.box false jy)/\c=.box false ls/\ls.length=jy.length/\∀ (ep:Nat->Option aQ),Fr σ G w ep G w->∀ (j:Nat) (l l0:aP) (v:Value),ls[j]?=some l->jy[j]?=some l0->aB σ ρ G w l0 v->aB ep ρ G w l v
 | [], b, y, n, bu, xs, h, hx, _, _ => by
  simp only[mO,aC,Vbl]at h;simp only[iV,aC,Vbl]at hx;subst h hx;exact⟨rfl,by simp⟩
 | (ro, cs) :: bs, b, y, n, bu, xs, h, hx, hv, hz => by
  have r9:∀ (i:Nat) (ro:Bool) (cs:List (BS×BO)),bs[i]?=some (ro,cs)->∃ c off l7 ls,pX (b+1+i) ptrs=some (c,off)/\σ (kB c)=some (.box l7 ls)/\off+cs.length<=ls.length/\∀ (j:Nat) (nie:Bool) (o:BO) (l:aP),cs[j]?=some (BS.fz nie,o)->(ls.drop off)[j]?=some l->∃ r,(yH l).eval σ=some r/\∀ z∈r.deps,z∈deps:=fun i ro cs hi=>by
   have:=hz (i+1) ro cs (by simpa using hi);rwa[show b+(i+1)=b+1+i by omega]at this
  simp only[mO]at h;simp only[iV]at hx
  cases ro with
  | true =>
   simp only[cond_true]at h hx;obtain⟨h1,h2⟩:=Aa1 hR w5 h hx hv r9;exact⟨by rw[h1];simp only[fA,cond_true,Wbj],h2⟩
  | false =>
   simp only[cond_false]at h hx;obtain⟨c,off,l7,jy,e1,e2,e3,e4⟩:=hz 0 false cs rfl;rw[Wbv]at e1;rw[e1]at h hx;simp only[aA,aR,Vbs]at h hx;rw[e2]at h hx
   cases l7 with
   |true=>simp[bT]at h
   | false =>
    simp only[aA,Vbj,aC,Vbl]at h hx;obtain⟨rest,h1,rfl⟩:=h;obtain⟨l1,h2,m1,h3,rfl⟩:=hx;have hold:=fun ep (eC:Fr σ G w ep G w)=>Eaz (E:=E) (F:=F) (a:=a) hR eC w5 (cs:=cs) (ls:=jy.drop off) (y:=y) (n:=n) h2 (fun j x hj=>hv j x (by rw[Vb2 (Vbn.1 hj).1];exact hj)) e4
    obtain⟨h4,h5,h6,-⟩:=hold σ (Fr.same σ G w [] (by simp))
    obtain⟨h7,h8⟩:=Aa1 hR w5 h1 h3 (fun j x hj=>by
     have:=hv (cs.length+j) x (by rw[Vbz (by omega),h4,Wbx];exact hj);rwa[<- Vb8]at this) r9
    refine⟨by rw[Vbw,h4,h7];simp only[fA,cond_false],fun k x ye=>?_⟩;rw[h5]at ye;simp only[Xb0,Wby]at ye
    rcases Vbu.1 ye with ye|ye
    ·obtain⟨rfl,rfl⟩:=Xb5 ye
     refine⟨c,jy,_,rfl,e2,rfl,lL (by rw[h6];exact e3),fun ep eC j l l0 v hj nc iS=>?_⟩;rw[iJ (by rw[h6];exact e3)]at hj;split at hj
     ·rename_i hr
      refine (hold ep eC).2.2.2 (j-off) l l0 v hj ?_ iS;rw[List.getElem?_drop,show off+(j-off)=j by omega];exact nc
     ·rw[nc]at hj
      obtain rfl:=Wbk hj;exact aB.mono eC _ v iS
    ·exact h8 k x ye
theorem Ebs (hR:R E.ntmps F σ ρ a w G)(hg:gOn ρ g=false)(hd:fQ E.ntmps o)(y5:∀ z∈Z.deps,Mad σ z.1 z.2)(sh:Z.rts=[])(zl:lD s.results=0)
  (hZ:(fI T.ptrs T 0 s.boxes).eval σ=some Z) {olds:List aI} (hold:(iV Z.ptrs 0 s.boxes).eval σ=some olds)
  {rs:List (Bool×List aP)} {us bu:List (Nat×aQ)} {w6:Nat} (jz:jJ true Z.deps nb y0 nr s.results=(rs,us,w6)) (hgn:noG g=false)
  (re:(mO Z.ptrs Z.deps 0 (y0+bO s.results) w6 s.boxes).eval σ=some bu)
  (et:∀ j d,(Wba (bO s.results+fA s.boxes-olds.length) D.undef++olds.map (·.val ρ))[j]?=some d->(aI.v (y0+j)).val ρ=d) :
  R E.ntmps F (upds σ (Waj o g rs++(us++bu))) ρ (a.put o.dst undef) w G:=by
 have zi:us=[]:=by
  have:=Oaj (deps:=Z.deps) (nb:=nb) s.results y0 nr zl;rw[jz]at this;exact this
 subst zi;rw[Wby];obtain⟨-,pz,-⟩:=lH hZ
 have w5:∀ z∈Z.deps,jK σ z.1 z.2:=fun z hz=>by
  obtain⟨m,x,hx⟩:=y5 z hz;exact⟨x,m,z.2,.live,hx,fun _=>Vb6 _⟩
 have kc:=Eao hZ;rw[<- pz]at kc
 have hlen0:olds.length=fA s.boxes:=by
  have hln:∀ {bs:List (Bool×List (BS×BO))} {b:Nat} {xs:List aI},(iV Z.ptrs b bs).eval σ=some xs->xs.length=fA bs:=by
   intro bs
   induction bs with
   |nil=>intro b xs h;simp only[iV,aC,Vbl]at h;subst h;rfl
   | cons x bs ih =>
    intro b xs h;obtain⟨ro,cs⟩:=x;simp only[iV]at h
    cases ro with
    |true=>simp only[cond_true]at h;rw[ih h];simp only[fA,cond_true,Wbj]
    | false =>
     simp only[cond_false]at h;split at h
     case h_2=>cases h
     simp only[aA,aR,Vbs]at h;split at h
     case h_2=>cases h
     simp only[aA,Vbj,aC,Vbl]at h;obtain⟨l,h1,m,h2,rfl⟩:=h
     have hc:∀ {cs:List (BS×BO)} {ls:List aP} {ys:List aI},(kX cs ls).eval σ=some ys->ys.length=cs.length:=by
      intro cs
      induction cs with
      |nil=>intro ls ys h;simp only[kX,aC,Vbl]at h;subst h;rfl
      | cons t cs ihc =>
       intro ls ys h;obtain⟨t1,t2⟩:=t
       cases ls with
       |nil=>simp[kX,bT]at h
       | cons x ls =>
        simp only[kX,aA,Vbj,aC,Vbl]at h;obtain⟨y,-,r,h4,rfl⟩:=h;simp[ihc h4]
     rw[Vbw,hc h1,ih h2];simp only[fA,cond_false]
  exact hln hold
 have pN:bO s.results+fA s.boxes-olds.length=bO s.results:=by omega
 rw[pN]at et
 obtain⟨-,lp⟩:=Aa1 hR w5 re hold (fun j x hj=>by
  rw[Vb8];refine et _ _ ?_;rw[Vbz (by simp),Wb1,Wbx,Wbs,hj]
  rfl) kc
 have yW:∀ k c,(k,c)∈Waj o g rs->∃ d,o.dst=some d/\k=kT d/\c=.slot (Dbc g (Bax g rs)) (Bax g rs):=fun k c hc=>by
  rw[Ca0]at hc;exact yX hc
 have mm:∀ k c,(k,c)∈Waj o g rs++bu->∀ r,k≠kR r:=by
  intro k c hc r
  rcases Vb5.1 hc with hc|hc
  ·obtain⟨d,-,e,-⟩:=yW _ _ hc
   rw[e];exact iQ
  ·obtain⟨c0,jy,ls,e,-⟩:=lp _ _ hc
   rw[e];exact fO
 have eC:=Fr.nonroot σ G w (Waj o g rs++bu) mm;refine hR.upd _ eC (by rw[Ba1];exact hR.tmps) (by rw[put_defers];exact hR.defers) hR.frame (fun t ht=>?_) (fun _ _ _ _ _=>⟨rfl,rfl⟩) (fun b ls hb bj ho=>?_) (fun k c hc ij=>?_)
 ·rw[Ca0]at ht
  exact Fay ht
 ·rcases Vb5.1 hb with hb|hb
  ·obtain⟨d,-,e,-⟩:=yW _ _ hb
   exact absurd e.symm mK
  ·obtain⟨c0,jy,kO,e,h1,h2,h3,-⟩:=lp _ _ hb
   obtain rfl:=Caj e
   injection h2 with e1 e2
   rw[hR.rng b jy h1 bj ho,e2,h3]
 ·rcases Vb5.1 hc with hc|hc
  ·obtain⟨d,nf,rfl,rfl⟩:=yW _ _ hc
   refine⟨d,rfl,fun fL=>?_⟩;rw[nf,pQ _ _ _ _ _ (hd d nf) hR.tmps];have y8:(jJ true Z.deps nb y0 nr s.results).1=rs:=by rw[jz]
   cases g with
   |none=>simp[gOn]at hg
   | some z =>
    refine Xa0 hg y8 (fun nu=>?_) fL
    have:=et 0 .undef (by
     rw[Vb2 (by simp;omega)];rw[Ybc,if_pos (by omega)])
    rwa[Wbv]at this
  ·obtain⟨c0,jy,ls,rfl,h1,rfl,h3,h4⟩:=lp _ _ hc
   obtain⟨h5,h6,h7⟩:=hR.box h1;refine⟨c0,rfl,h5,h6,fun j l hj=>?_⟩;have bj:j<jy.length:=by rw[<- h3];exact (Vbn.1 hj).1
   obtain⟨v,h8,h9,da⟩:=h7 j _ (Vbq bj);exact⟨v,h8,h9,h4 _ eC j l _ v hj (Vbq bj) da⟩
end
section
variable {P:Program} {E:Env} {F:bK} {σ:Nat->Option aQ} {ρ:List D} {a:Act} {w:World} {G:Gh} {g:Option (aI×Bool)} {o:Oper}
theorem Nay:∀ {vs:List SV} {us:List Value},vs.length=us.length->(∀ (i:Nat) (v:SV) (u:Value),vs[i]?=some v->us[i]?=some u->dC σ ρ G w v u)->tL σ ρ G w vs us
 |[],[],_,_=>rfl
 |[],_::_,h,_=>by simp at h
 |_::_,[],h,_=>by simp at h
 |v::vs,u::us,h,hr=>⟨u,us,rfl,hr 0 v u rfl rfl,Nay (by simpa using h) fun i v' u' hv hu=>hr (i+1) v' u' (by simpa using hv) (by simpa using hu)⟩
theorem Baf:∀ {vs uc:List SV} {us dj:List Value},tL σ ρ G w vs us->tL σ ρ G w uc dj->tL σ ρ G w (vs++uc) (us++dj)
 |[],uc,us,dj,h,h'=>by simp only[tL]at h;subst h;exact h'
 | v :: vs, uc, us, dj, h, h' => by
  obtain⟨u,us2,rfl,h1,h2⟩:=h;exact⟨u,us2++dj,rfl,h1,Baf h2 h'⟩
theorem Gar:∀ {ls:List aP} {vs:List Value},aD σ ρ G w ls vs->tL σ ρ G w (ls.map SV.one) vs
 |[],vs,h=>by simp only[aD]at h;subst h;rfl
 | l :: ls, vs, h => by
  simp only[aD]at h;obtain⟨u,us,rfl,h1,h2⟩:=h;exact⟨u,us,rfl,h1,Gar h2⟩
theorem Dba {f:Operand}{args:Array Operand}{argTypes:Array TypeId}(ho:o.op=.call { callee:=.value f,args,argTypes }){fn:Nat}{vs:List Value}(hf:a.eval f=.func (.func fn) #[] vs.toArray) :
  (execOp a.eval o).run P w=(callFunc fn (args.toList.map a.eval++vs).toArray).run P w:=by
 unfold execOp;simp only[ho,resolve,hf,Deferred.ofValue,invoke,Sem.run_bind,Sem.run_pure,Result.andThen_ok];congr 2;apply Array.ext';simp
theorem Ebq {X:(Nat->Ow)->World->Prop}{T:Nat->Ent}{n:Nat}(cA:Stable X)(hX:X F.own0 F.w0)(hc:∀ key s,(key,s)∈E.sigs->Dak P X T n key s):Aa5 P E F (kL T n):=by
 intro σ ρ a w G g o Q mv dw nv nb nr res f args argTypes hR hd hf ho h oX vz;simp only[qP,ho,aA,Vbj]at h;obtain⟨l,h1,h⟩:=h;split at h
 case h_2=>cases h
 rename_i fn fS;simp only[aA,Vbj]at h;obtain⟨vs0,h2,h⟩:=h;unfold Eb7 at h;split at h
 ·cases h
 rename_i key s a7w;obtain⟨ev,hfn⟩:=Ha5 a7w;simp only[aA,Vbj,aH]at h;obtain⟨T1,hT,Z,hZ,_,gi,h⟩:=h;split at gi
 case isFalse=>cases gi
 rename_i hb;simp only[Vbk,Bool.or_eq_true,Wb6,List.isEmpty_iff,Wbl]at hb;obtain⟨⟨ka,a05⟩,gi⟩:=hb;have hk:=Qaw ka;obtain⟨bu,re,⟨ml,mu⟩,x7,olds,hold,h⟩:=h;simp only[aC,Vbl]at h;subst h;dsimp only at oX vz ⊢;generalize jz:jJ (!noG g) Z.deps nb (nv+bM Z.lets) nr s.results=res at oX vz re ⊢;obtain⟨rs,us,w6⟩:=res;dsimp only at oX cA re x7 ⊢;refine⟨fun hg=>?_,fun hg=>?_⟩
 ·
  obtain⟨s9,x3⟩:=aJ.append vz;obtain⟨mq,pS⟩:=aJ.append s9;obtain⟨a1u,jq⟩:=aJ.append mq;obtain⟨ds,cC,hlen,et⟩:=jq.1.1 hg
  have hn:nv+bM (Z.lets++[Step.call key Z.xs (bO s.results+(Z.rts.filter wY).length+fA s.boxes) olds]++(bif Z.deps.isEmpty then [] else Abb (nv+bM Z.lets) s.results++Abc (nv+bM Z.lets+bO s.results) Z.rts++War (nv+bM Z.lets+bO s.results+(Z.rts.filter wY).length) s.boxes))=nv+bM Z.lets+(bO s.results+(Z.rts.filter wY).length+fA s.boxes):=by
   have e0:bM (bif Z.deps.isEmpty then [] else Abb (nv+bM Z.lets) s.results++Abc (nv+bM Z.lets+bO s.results) Z.rts++War (nv+bM Z.lets+bO s.results+(Z.rts.filter wY).length) s.boxes)=0:=by
    cases Z.deps.isEmpty with
    |true=>rfl
    |false=>simp only[cond_false,fM,Fbr,Fbs,Fbu]
   rw[fM,fM,e0];simp only[iN,Step.n];show nv+(bM Z.lets+(_+bM [])+0)=_
   have:bM ([]:List Step)=0:=rfl;omega
  rw[hn]at x3;have ug:=fV hR hg h1;simp only[aB]at ug;obtain⟨cvs,hcv,fW⟩:=ug;obtain⟨kg,kb⟩:=yI hR hg h2
  have zi:tL σ ρ G w (vs0++fS.map SV.one) (args.toList.map a.eval++cvs):=by
   refine Baf (Nay (by rw[kg];simp) fun i v u hv hu=>?_) (Gar fW);rw[Wbs,Vb4]at hu;obtain⟨x,hx,rfl⟩:=hu;exact kb i v x hv hx
  have fe:=Ebr hR hg a1u hk hT hZ zi
  have hXc:X (callG ρ G w s Z).own w:=cA _ _ _ _ hR.frame.size (fun b hb he=>by
   have hkp:=hR.frame.keep b hb (.inl he);exact⟨hkp.1,qM (hkp.2.trans he)⟩) hX
  have fL:=hc key s ev _ w _ _ ds fe hXc cC
  have a1w:Z.deps=[]\/Qaj ρ (Abb (nv+bM Z.lets) s.results++Abc (nv+bM Z.lets+bO s.results) Z.rts++War (nv+bM Z.lets+bO s.results+(Z.rts.filter wY).length) s.boxes):=by
   cases hde:Z.deps.isEmpty with
   |true=>exact .inl (by simpa using hde)
   | false =>
    rw[hde,cond_false]at pS;exact .inr (Uad hg pS)
  have a74:noG g=true\/(lD s.results=0/\∃ olds,(iV Z.ptrs 0 s.boxes).eval σ=some olds):=by
   cases g with
   |none=>exact .inl rfl
   |some z=>exact .inr ⟨(gi.resolve_left (by simp[noG])).2,olds,hold⟩
  have xe:∀ v w',Sax s (rZ s (callG ρ G w s Z) w) (callG ρ G w s Z).bx v w' ds->Nx E.ntmps F σ ρ (Waj o g rs++(us++bu++mu++gT Z.rts)) (a.put o.dst v) w':=by
   intro v w' pb;exact Abi hR hg hd hf zi hT hZ hk a05 a74 jz re x7 hlen et a1w x3 oX pb
  unfold Oper.wp;rw[Dba ho hcv,<- hfn]
  rcases fL with ⟨hr,cY⟩|⟨v,w',hr,pb⟩
  ·rw[hr,Oper.upon_enter]
   refine Calls.mono cY fun e w' he=>?_
   cases e with
   |returned v=>exact xe v w' he
   |panicked c=>exact he.elim
   |outgrown=>exact he.elim
  ·rw[hr,Oper.upon_value]
   exact xe v w' pb
 ·
  have hgn:noG g=false:=by
   cases g with
   |none=>simp[gOn]at hg
   |some z=>rfl
  have h5:=gi.resolve_left (by rw[hgn];simp);obtain⟨sh,zl⟩:=h5
  have a7m:mu=[]:=by
   rw[sh]at x7;simp only[zY,aC,Vbl,Wbd]at x7;exact x7.2.symm
  have a6l:gT Z.rts=[]:=by rw[sh];rfl
  have zt:(Z.rts.filter wY).length=0:=by rw[sh];rfl
  obtain⟨s9,x3⟩:=aJ.append vz;obtain⟨mq,pS⟩:=aJ.append s9;obtain⟨a1u,jq⟩:=aJ.append mq;have et:=jq.1.2 hg;rw[zt,Wbv]at et re
  have a2i:(iV Z.ptrs 0 s.boxes).eval σ=some olds:=by
   cases g with
   |none=>cases hgn
   |some z=>exact hold
  have qu:∀ z∈Z.deps,Mad σ z.1 z.2:=by
   obtain⟨rn,om,-,-⟩:=vW (E:=E) (F:=F) (ρ:=ρ) (a:=a) (w:=w) (G:=G) False (fun h=>h.elim) hT (fun h=>h.elim);obtain⟨qz,hn4,-⟩:=tY (ρ:=ρ) (G:=G) (w:=w) hZ;intro z hz
   rcases (om.trans hn4).deps z hz with h|h
   ·simp[Take.empty]at h
   ·exact h
  rw[hgn]at jz;have:=Ebs hR hg hd qu sh zl hZ a2i jz hgn re et;refine⟨G,?_⟩;show R E.ntmps F (upds σ (Waj o g rs++(us++bu++mu++gT Z.rts))) ρ _ w G
  rw[a7m,a6l,Wbo,Wbo];exact this
end
def Eb0 (P:Program)(s:Sig)(e:List D->Option (List D)):Prop :=
 ∀ vals w G ds ie,Eb5 s vals w G ds->e ds=some ie->Goes P s.fn vals.toArray w fun v w'=>Sax s (rZ s G w) G.bx v w' ie
def Waw (P:Program)(T:Nat->Ent)(ti:Nat->Option TI)(sigs:List (Nat×Sig))(key:Nat)(s:Sig):Prop :=
 (∃ (E : Env) (fn : Func) (tm : Tm Unit), E.ti = ti /\ E.sigs = sigs /\ P.funcs[s.fn]? = some fn /\ (fn.name == "runtime.NumGoroutine") = false /\ Ua7 E s fn = some tm /\ T key = .tm tm) \/ ∃ e, T key = .ext e /\ Eb0 P s e
def Lbu (P:Program)(X:(Nat->Ow)->World->Prop)(s:Sig)(e:List D->Option (List D)):Prop :=
 ∀ vals w G ds ie,Eb5 s vals w G ds->X G.own w->e ds=some ie->Goes P s.fn vals.toArray w fun v w'=>Sax s (rZ s G w) G.bx v w' ie
def Lbt (P:Program)(X:(Nat->Ow)->World->Prop)(T:Nat->Ent)(ti:Nat->Option TI)(sigs:List (Nat×Sig))(key:Nat)(s:Sig):Prop :=
 (∃ (E : Env) (fn : Func) (tm : Tm Unit), E.ti = ti /\ E.sigs = sigs /\ P.funcs[s.fn]? = some fn /\ (fn.name == "runtime.NumGoroutine") = false /\ Ua7 E s fn = some tm /\ T key = .tm tm) \/ ∃ e, T key = .ext e /\ Lbu P X s e
theorem Waw.toX {P:Program}{X:(Nat->Ow)->World->Prop}{T:Nat->Ent}{ti:Nat->Option TI}{sigs:List (Nat×Sig)}{key:Nat}{s:Sig}(h:Waw P T ti sigs key s):Lbt P X T ti sigs key s:=by
 rcases h with h|⟨e,h1,h2⟩
 ·exact .inl h
 ·exact .inr ⟨e,h1,fun vals w G ds ie hp _ he=>h2 vals w G ds ie hp he⟩
theorem Wam {P:Program}{X:(Nat->Ow)->World->Prop}{T:Nat->Ent}{ti:Nat->Option TI}{sigs:List (Nat×Sig)}(cA:Stable X)(hti:vV P ti)(hm:P.follows .mixedOrders=true)(H:∀ key s,(key,s)∈sigs->Lbt P X T ti sigs key s) :
  ∀ n key s,(key,s)∈sigs->Dak P X T n key s:=by
 intro n
 induction n with
 | zero =>
  intro key s _ vals w G ds ie _ _ h;cases h
 | succ n ih =>
  intro key s ev
  rcases H key s ev with ⟨E,fn,tm,rfl,rfl,h1,h2,h3,h4⟩|⟨e,h1,h2⟩
  ·exact Mas hti hm h1 h2 h3 h4 fun F hX=>Ebq cA hX fun key s h=>ih key s h
  ·intro vals w G ds ie fe hX cC
   simp only[kL,h1]at cC;exact h2 vals w G ds ie fe hX cC
theorem contracts {P:Program}{T:Nat->Ent}{ti:Nat->Option TI}{sigs:List (Nat×Sig)}(hti:vV P ti)(hm:P.follows .mixedOrders=true)(H:∀ key s,(key,s)∈sigs->Waw P T ti sigs key s) :
  ∀ n key s,(key,s)∈sigs->vF P T n key s :=
 fun n key s ev vals w G ds ie fe cC=>Wam (X:=fun _ _=>True) (fun _ _ _ _ _ _ _=>trivial) hti hm (fun key s h=>(H key s h).toX) n key s ev vals w G ds ie fe trivial cC
inductive Ty where
 |int (k:IntKind)
 |bool
 |str
 |sl (bytes:Nat) (row:List Ty)
mutual
def WT:Ty->D->Prop
 |.int k,d=>∃ n,d=.int k n/\k.min<=n/\n<=k.max
 |.bool,d=>∃ b,d=.bool b
 |.str,d=>∃ s,d=.str s/\s.length<=reachBytes
 |.sl bytes row,d=>∃ rs,d=.rows row.length rs/\rs.length*bytes<=reachBytes/\∀ r∈rs,WTs row r
def WTs:List Ty->List D->Prop
 |[],ds=>ds=[]
 |t::ts,ds=>∃ d ie,ds=d::ie/\WT t d/\WTs ts ie
end
def Wa6 (P:Program)(rec:TypeId->Option (List Ty)):Nat->List Field->Option (List Ty)
 |_,[]=>some []
 | off, f :: fs => match rec f.type with
  |some r=>bif Nat.beq f.offset off&&Nat.beq r.length (P.cellsOf f.type) then (Wa6 P rec (off+r.length) fs).map (r++·) else none
  |none=>none
def Jaa (P:Program):Nat->TypeId->Option (List Ty)
 |0,_=>none
 | n + 1, t => match P.underlying t with
  |some .bool=>some [.bool]
  |some (.int k)=>some [.int k]
  |some .string=>some [.str]
  | some (.slice e) => match Jaa P n e with
   |some r=>bif Nat.beq r.length (P.cellsOf e) then some [.sl (P.bytesOf e) r] else none
   |none=>none
  | some (.struct fs) => match Wa6 P (Jaa P n) 0 fs.toList with
   |some r=>bif Nat.beq r.length (P.cellsOf t) then some r else none
   |none=>none
  |_=>none
def jI (w:World):List Ty->List Value->List D->Prop
 |[],cs,ds=>cs=[]/\ds=[]
 |t::ts,cs,ds=>∃ c nF d ie,cs=c::nF/\ds=d::ie/\Rd (fun _=>True) w c d/\WT t d/\jI w ts nF ie
theorem jI.append {w:World}:∀ {ts ts':List Ty} {cs nF:List Value} {ds ie:List D},jI w ts cs ds->jI w ts' nF ie->jI w (ts++ts') (cs++nF) (ds++ie)
 | [], ts', cs, nF, ds, ie, h, h' => by
  obtain⟨rfl,rfl⟩:=h;exact h'
 | t :: ts, ts', cs, nF, ds, ie, h, h' => by
  obtain⟨c,c1,d,d1,rfl,rfl,h1,h2,h3⟩:=h;exact⟨c,c1++nF,d,d1++ie,rfl,rfl,h1,h2,h3.append h'⟩
theorem jI.len {w:World}:∀ {ts:List Ty} {cs:List Value} {ds:List D},jI w ts cs ds->cs.length=ts.length/\ds.length=ts.length
 |[],cs,ds,h=>by obtain⟨rfl,rfl⟩:=h;exact⟨rfl,rfl⟩
 | t :: ts, cs, ds, h => by
  obtain⟨c,c1,d,d1,rfl,rfl,h1,h2,h3⟩:=h;obtain⟨h4,h5⟩:=h3.len;simp[h4,h5]
theorem jI.get {w:World}:∀ {ts:List Ty} {cs:List Value} {ds:List D},jI w ts cs ds->∀ {j:Nat} {d:D},ds[j]?=some d->∃ c,cs[j]?=some c/\Rd (fun _=>True) w c d
 |[],cs,ds,h,j,d,hj=>by obtain⟨rfl,rfl⟩:=h;simp at hj
 | t :: ts, cs, ds, h, j, d, hj => by
  obtain⟨c,c1,d',d1,rfl,rfl,h1,h2,h3⟩:=h
  cases j with
  | zero =>
   simp only[Vbv,Vbl]at hj;subst hj;exact⟨c,rfl,h1⟩
  | succ j =>
   obtain⟨c',h4,h5⟩:=h3.get (j:=j) (by simpa using hj);exact⟨c',by simpa using h4,h5⟩
theorem jI.wts {w:World}:∀ {ts:List Ty} {cs:List Value} {ds:List D},jI w ts cs ds->WTs ts ds
 |[],cs,ds,h=>by obtain⟨rfl,rfl⟩:=h;simp[WTs]
 | t :: ts, cs, ds, h => by
  obtain⟨c,c1,d',d1,rfl,rfl,h1,h2,h3⟩:=h;simp only[WTs];exact⟨d',d1,rfl,h2,h3.wts⟩
theorem Hai {α β:Type}{f:α->Option β}:∀ {l:List α} {ys:List β},l.mapM f=some ys->ys.length=l.length/\∀ (i:Nat) (x:α),l[i]?=some x->∃ y,ys[i]?=some y/\f x=some y
 | [], ys, h => by
  simp at h;subst h;simp
 | x :: l, ys, h => by
  simp only[List.mapM_cons,bind,Vbj,pure,Vbl]at h;obtain⟨y,h1,ys',h2,rfl⟩:=h;obtain⟨h3,h4⟩:=Hai h2;refine⟨by simp[h3],fun i z hz=>?_⟩
  cases i with
  | zero =>
   simp only[Vbv,Vbl]at hz;subst hz;exact⟨y,rfl,h1⟩
  | succ i =>
   obtain⟨y',h5,h6⟩:=h4 i z (by simpa using hz);exact⟨y',by simpa using h5,h6⟩
theorem Yas {β:Type}{p:Nat->β->Prop}:∀ (n:Nat),(∀ i,i<n->∃ y,p i y)->∃ l:List β,l.length=n/\∀ i y,l[i]?=some y->p i y
 |0,_=>⟨[],rfl,by simp⟩
 | n + 1, h => by
  obtain⟨l,h1,h2⟩:=Yas n fun i hi=>h i (by omega)
  obtain⟨y,hy⟩:=h n (by omega);refine⟨l++[y],by simp[h1],fun i z hz=>?_⟩
  rcases Nat.lt_trichotomy i n with hi|hi|hi
  ·rw[Vb2 (by omega)]at hz
   exact h2 i z hz
  ·subst hi
   rw[Vbz (by omega),h1,Nat.sub_self]at hz;simp only[Vbv,Vbl]at hz;subst hz;exact hy
  ·have:=(Vbn.1 hz).1
   simp[h1]at this;omega
theorem zP {H:Type}{P:Program}{e:TypeId}:∀ {l:List (DataW H)} {d:DataW H},d∈l->∀ n∈d.weights P e,n∈DataW.weightsAll P e l
 |[],d,h,_,_=>by simp at h
 | x :: l, d, h, n, hn => by
  simp only[DataW.weightsAll,Vb5]
  rcases Vbu.1 h with rfl|h
  ·exact .inl hn
  ·exact .inr (zP h n hn)
theorem vG {H:Type}{P:Program}{t:TypeId}{ts:List TypeId}{d:DataW H}{ds:List (DataW H)}:DataW.weightsEach P (t::ts) (d::ds)=d.weights P t++DataW.weightsEach P ts ds:=by
 simp only[DataW.weightsEach]
theorem Gan {P:Program}{w:World}{H:Type}{cs:List Value}{f:Field->List Value->Option (DataW H×List MemPlace)}{rec:TypeId->Option (List Ty)}
  (cR:∀ (fd:Field) (r:List Ty) (l:List Value) (y:DataW H×List MemPlace),rec fd.type=some r->f fd l=some y->(∀ m∈y.1.weights P fd.type,m<=reachBytes)->∃ ds,jI w r l ds) :
  ∀ {fs:List Field} {off:Nat} {iq:List Ty} {xs:List (DataW H×List MemPlace)},Wa6 P rec off fs=some iq->fs.mapM (fun fd=>f fd ((cs.drop fd.offset).take (P.cellsOf fd.type)))=some xs ->
  (∀ m∈DataW.weightsEach P (fs.map (·.type)) (xs.map (·.1)),m<=reachBytes)->cs.length=off+iq.length->∃ ds,jI w iq (cs.drop off) ds
 | [], off, iq, xs, h, _, _, hl => by
  simp only[Wa6,Vbl]at h;subst h;refine⟨[],?_,rfl⟩;rw[List.drop_eq_nil_iff];simp only[List.length_nil]at hl;omega
 | fd :: fs, off, iq, xs, h, hm, hw, hl => by
  simp only[Wa6]at h;split at h
  case h_2=>cases h
  rename_i r hr
  cases hb:(Nat.beq fd.offset off&&Nat.beq r.length (P.cellsOf fd.type)) with
  |false=>rw[hb]at h;cases h
  | true =>
   rw[hb,cond_true,Vb4]at h;obtain⟨a2o,h1,rfl⟩:=h;simp only[Vbk,Wbl]at hb;obtain⟨rfl,fW⟩:=hb;simp only[List.mapM_cons,bind,Vbj,pure,Vbl]at hm;obtain⟨y,h2,ys,h3,rfl⟩:=hm;simp only[Wbe,vG,Vb5]at hw;obtain⟨ds,h4⟩:=cR fd r _ y hr h2 fun m hm=>hw m (.inl hm)
   rw[Vbw]at hl;obtain⟨ie,h5⟩:=Gan cR (off:=fd.offset+r.length) h1 h3 (fun m hm=>hw m (.inr hm)) (by omega);refine⟨ds++ie,?_⟩;have:=h4.append h5;rw[<- fW]at this
   have e:List.take r.length (List.drop fd.offset cs)++List.drop (fd.offset+r.length) cs=List.drop fd.offset cs:=by
    rw[<- List.drop_drop,List.take_append_drop]
   rw[e]at this;exact this
theorem Dam {P:Program}{H:Type}{enc:TypeId×Value->H}{w:World}{sp:Nat->Bool}{held:Bool}:∀ (n fuel:Nat) {t:TypeId} {cs:List Value} {x:DataW H} {ps:List MemPlace} {iq:List Ty},Jaa P n t=some iq->DataW.trod enc P w 0 sp held fuel t cs=some (x,ps) ->
  (∀ m∈x.weights P t,m<=reachBytes)->∃ ds,jI w iq cs ds
 |0,_,t,cs,x,ps,iq,h,_,_=>by simp[Jaa]at h
 |n+1,0,t,cs,x,ps,iq,_,h,_=>by simp[DataW.trod]at h
 | n + 1, fuel + 1, t, cs, x, ps, iq, ht, h, hw => by
  simp only[Jaa]at ht;unfold DataW.trod at h;split at ht
  ·
   rename_i hu;rw[hu]at h;simp only[Vbl]at ht;subst ht;split at h<;>rename_i heq<;>first|(cases heq;done)|skip
   all_goals first|(injection heq with heq;cases heq;done)|skip
   ·exact⟨_,_,[],_,[],rfl,rfl,.sc (.bool _),⟨_,rfl⟩,rfl,rfl⟩
   ·cases h
  ·
   rename_i k hu;rw[hu]at h;simp only[Vbl]at ht;subst ht;split at h<;>rename_i heq<;>first|(cases heq;done)|skip
   all_goals first|(injection heq with heq;cases heq;done)|skip
   ·rename_i k0 k' m
    injection heq with heq
    injection heq with heq
    subst heq;split at h
    ·rename_i hc
     obtain⟨rfl,mi⟩:=hc;simp only[Lit.wf,Vbk,decide_eq_true_eq]at mi;exact⟨_,_,[],_,[],rfl,rfl,.sc (.int _ _),⟨_,rfl,mi.1,mi.2⟩,rfl,rfl⟩
    ·cases h
   ·cases h
  ·
   rename_i hu;rw[hu]at h;simp only[Vbl]at ht;subst ht;split at h<;>rename_i heq<;>first|(cases heq;done)|skip
   all_goals first|(injection heq with heq;cases heq;done)|skip
   ·rename_i s0
    split at h
    ·simp only[Vbl,Wbd]at h
     obtain⟨rfl,rfl⟩:=h;refine⟨_,_,[],_,[],rfl,rfl,.sc (.str s0.data.toList),⟨_,rfl,hw _ ?_⟩,rfl,rfl⟩;simp only[DataW.weights,Vbp]
    ·cases h
   ·cases h
  ·
   rename_i e hu;split at ht
   case h_2=>cases ht
   rename_i r hr
   cases hb:Nat.beq r.length (P.cellsOf e) with
   |false=>rw[hb]at ht;cases ht
   | true =>
    rw[hb,cond_true]at ht;simp only[Vbl]at ht;subst ht;simp only[Wbl]at hb;rw[hu]at h;split at h<;>rename_i heq<;>first|(cases heq;done)|skip
    all_goals first|(injection heq with heq;cases heq;done)|skip
    ·injection heq with heq
     injection heq with heq
     subst heq;simp only[Vbl,Wbd]at h;obtain⟨rfl,rfl⟩:=h;refine⟨_,_,[],.rows r.length [],[],rfl,rfl,.rows none ⟨0,0,none⟩ 0 0 r.length [] (fun _ _=>undef) rfl (Vb6 _) (.inl rfl) (by simp) (by simp) (by simp),⟨[],rfl,by simp,by simp⟩,rfl,rfl⟩
    ·rename_i e0 ad len cap
     injection heq with heq
     injection heq with heq
     subst heq;dsimp only at h;split at h
     case isFalse=>cases h
     rename_i hc;simp only[Vbj,Vb4,Wbd]at h;obtain⟨elems,h1,rest,h2,rfl,rfl⟩:=h;obtain⟨h3,h4⟩:=Hai h1;rw[List.length_range]at h3;simp only[DataW.weights,hu,Vbu,Vb5]at hw
     have gj:∀ i,i<len->∃ ds:List D,∃ cs:List Value,(∀ j c,cs[j]?=some c->w.cell? (ad.add (i*r.length+j))=some c)/\jI w r cs ds:=by
      intro i hi;obtain⟨y,h5,h6⟩:=h4 i i (by rw[Yb4 hi]);simp only[Vbj]at h6;obtain⟨cs,h7,h8⟩:=h6;obtain⟨x,ps⟩:=y;obtain⟨ds,h9⟩:=Dam n fuel hr h8 fun m hm=>hw m (.inr (.inl (zP (List.mem_map.2 ⟨_,Vb3 h5,rfl⟩) m hm)))
      refine⟨ds,cs,fun j c hj=>?_,h9⟩;unfold World.cells? at h7;split at h7
      ·obtain⟨da,eo⟩:=Hai h7
       have lq:=(Vbn.1 hj).1;rw[da,List.length_range]at lq;obtain⟨c',gb,jk⟩:=eo j j (by rw[Yb4 lq]);rw[hj]at gb;obtain rfl:=Wbk gb;rw[add_add,<- hb]at jk;exact jk
      ·cases h7
     obtain⟨rs,h5,h6⟩:=Yas len gj
     have hex:∀ i,∃ cs:List Value,∀ ds,rs[i]?=some ds->(∀ j c,cs[j]?=some c->w.cell? (ad.add (i*r.length+j))=some c)/\jI w r cs ds:=by
      intro i
      cases hi:rs[i]? with
      |none=>exact⟨[],fun ds h=>by cases h⟩
      | some ds =>
       obtain⟨cs,h7,h8⟩:=h6 i ds hi;exact⟨cs,fun ie h=>by obtain rfl:=Wbk h;exact⟨h7,h8⟩⟩
     have yw:∃ cf:Nat->List Value,∀ i ds,rs[i]?=some ds->(∀ j c,(cf i)[j]?=some c->w.cell? (ad.add (i*r.length+j))=some c)/\jI w r (cf i) ds:=⟨fun i=>(hex i).choose,fun i=>(hex i).choose_spec⟩;obtain⟨cf,hcf⟩:=yw
     have hlen:∀ row∈rs,row.length=r.length:=fun row gj=>by
      obtain⟨i,hi⟩:=Wb8.1 gj;exact ((hcf i row hi).2.len).2
     refine⟨[.rows r.length rs],_,[],_,[],rfl,rfl,?_,⟨rs,rfl,?_,fun row gj=>?_⟩,rfl,rfl⟩
     ·refine .rows _ ad len cap r.length rs (fun i j=>((cf i)[j]?).getD undef) h5 hc.2.1 (.inr rfl) hlen (fun i row hi j d hj=>?_) (fun i row hi j d hj=>?_)
      ·obtain⟨c,h7,h8⟩:=(hcf i row hi).2.get hj
       refine⟨trivial,?_⟩;rw[(hcf i row hi).1 j c h7,h7];rfl
      ·obtain⟨c,h7,h8⟩:=(hcf i row hi).2.get hj
       rw[h7];exact h8
     ·have:=hw _ (.inl rfl)
      rw[Wbm,Wbm,h3]at this;rw[h5];exact Nat.le_trans (Nat.mul_le_mul_right _ (Nat.le_add_right ..)) this
     ·obtain⟨i,hi⟩:=Wb8.1 gj
      exact (hcf i row hi).2.wts
    ·cases h
  ·
   rename_i fs hu;split at ht
   case h_2=>cases ht
   rename_i r hr
   cases hb:Nat.beq r.length (P.cellsOf t) with
   |false=>rw[hb]at ht;cases ht
   | true =>
    rw[hb,cond_true]at ht;simp only[Vbl]at ht;subst ht;simp only[Wbl]at hb;rw[hu]at h;split at h<;>rename_i heq<;>first|(cases heq;done)|skip
    all_goals first|(injection heq with heq;cases heq;done)|skip
    ·rename_i cs0 x0 cs1 fs2
     injection heq with heq
     injection heq with heq
     subst heq;split at h
     case isFalse=>cases h
     rename_i hc;simp only[Vb4,Wbd]at h;obtain⟨xs,h1,rfl,rfl⟩:=h;simp only[DataW.weights,hu]at hw
     obtain⟨ds,h2⟩:=Gan (w:=w) (cs:=cs0) (f:=fun fd l=>DataW.trod enc P w 0 sp held fuel fd.type l) (rec:=Jaa P n)
      (fun fd r l y zy hy wj=>Dam n fuel zy (x:=y.1) (ps:=y.2) hy wj) hr h1 hw (by omega)
     exact⟨ds,by simpa using h2⟩
    ·exact ((by assumption:∀ (a5t:Array Field),some (TypeDesc.struct fs)=some (TypeDesc.struct a5t)->False) fs rfl).elim
  ·cases ht
open Go.ChangeShapes Go.RowKit
def Yao:Ty->LS
 |.sl _ _=>.fz false
 |_=>.sc
def Iba (P:Program)(t:TypeId):Bool:=match P.underlying t with
 |some (.struct _)=>true
 |_=>false
def qD (P:Program):List TypeId->Option (List (Bool×List LS)×List Ty)
 |[]=>some ([],[])
 | t :: ts => match Jaa P 12 t, qD P ts with
  |some r,some (ps,iq)=>some ((Iba P t,r.map Yao)::ps,r++iq)
  |_,_=>none
def Obo:Gh:=⟨fun _=>.frz,fun _=>undef,fun _=>⟨0,0,none⟩⟩
theorem Za6:∀ (iq:List Ty),Waz (iq.map Yao)=iq.length/\kI (iq.map Yao)=0
 |[]=>⟨rfl,rfl⟩
 | t :: iq => by
  obtain⟨h1,h2⟩:=Za6 iq;cases t<;>simp[Waz,kI,Yao,LS.cnt,LS.rcnt,h1,h2]<;>omega
theorem Fae {w:World}{ρ:List D}:∀ {iq:List Ty} {cs:List Value} {ds:List D} {i:Nat},jI w iq cs ds->(∀ j d,ds[j]?=some d->(aI.v (i+j)).val ρ=d)->tO Obo w ρ 0 i 0 (iq.map Yao) cs
 |[],cs,ds,i,h,_=>by obtain⟨rfl,rfl⟩:=h;rfl
 | t :: iq, cs, ds, i, h, hv => by
  obtain⟨c,nF,d,ie,rfl,rfl,h1,h2,h3⟩:=h;have hv0:(aI.v i).val ρ=d:=by have:=hv 0 d rfl;rwa[Wbv]at this
  have hr:(Yao t).rcnt=0:=by cases t<;>rfl
  have hc:(Yao t).cnt=1:=by cases t<;>rfl
  refine⟨c,nF,rfl,?_,?_⟩
  ·cases t with
   | int k =>
    obtain⟨n,rfl,-⟩:=h2;simp only[Yao,lF,hv0];exact h1.sc_inv rfl
   | bool =>
    obtain⟨n,rfl⟩:=h2;simp only[Yao,lF,hv0];exact h1.sc_inv rfl
   | str =>
    obtain⟨n,rfl,-⟩:=h2;simp only[Yao,lF,hv0];exact h1.sc_inv rfl
   | sl bytes row =>
    simp only[Yao,lF,hv0];exact⟨h1.mono fun b _=>⟨rfl,rfl⟩,fun e=>absurd e (by decide)⟩
  ·rw[hr,hc]
   refine Fae (i:=i+1) h3 fun j d' hj=>?_
   have:=hv (j+1) d' (by simpa using hj);rwa[show i+(j+1)=i+1+j by omega]at this
theorem Oaw {P:Program}{W:World}{base:Nat}{n:Nat}{t:TypeId}{iq:List Ty}{v:Value}(h:Jaa P n t=some iq)(hv:Value.okWide P W .any base t v):if Iba P t=true then v=.agg v.cells.toList.toArray else v.cells.toList=[v]:=by
 cases n with
 |zero=>simp[Jaa]at h
 | succ n =>
  unfold Value.okWide at hv;unfold Iba;simp only[Jaa]at h
  cases hu:P.underlying t with
  |none=>rw[hu]at h;cases h
  | some u =>
   rw[hu]at h hv
   cases u with
   | struct fs =>
    obtain⟨cs,rfl,-⟩:=hv;simp[Value.cells]
   | bool =>
    simp only[Cell.okWide,Cell.ok,hu]at hv;cases v<;>simp at hv
    simp[Value.cells]
   | int k =>
    simp only[Cell.okWide,Cell.ok,hu]at hv;cases v<;>simp at hv
    simp[Value.cells]
   | string =>
    simp only[Cell.okWide,Cell.ok,hu]at hv;cases v<;>simp at hv
    simp[Value.cells]
   | slice e =>
    simp only[Cell.okWide,Cell.ok,hu]at hv;cases v<;>simp at hv
    simp[Value.cells]
   |_=>cases h
theorem Kav {P:Program}{H:Type}{enc:TypeId×Value->H}{W:World}{sp:Nat->Bool}{held:Bool}{base:Nat}:∀ {ts:List TypeId} {vs:List Value} {ds:List (DataW H)} {ps:List MemPlace} {sps:List (Bool×List LS)} {iq:List Ty},
  qD P ts=some (sps,iq)->DataW.TrodAll enc P W 0 sp held ts vs ds ps->(∀ (j:Nat) t v,ts[j]?=some t->vs[j]?=some v->Value.okWide P W .any base t v)->(∀ m∈DataW.weightsEach P ts ds,m<=reachBytes) ->
  ∃ dd,WTs iq dd/\dd.length=iq.length/\iq.length=Ka3 sps/\jP sps=0/\∀ (ρ:List D) (i:Nat),(∀ j d,dd[j]?=some d->(aI.v (i+j)).val ρ=d)->mQ Obo W ρ 0 i 0 sps vs
 | [], vs, ds, ps, sps, iq, h, ht, _, _ => by
  simp only[qD,Vbl,Wbd]at h;obtain⟨rfl,rfl⟩:=h
  cases vs with
  |cons v vs=>cases ds<;>exact ht.elim
  |nil=>exact⟨[],rfl,rfl,rfl,rfl,fun ρ i _=>rfl⟩
 | t :: ts, vs, ds, ps, sps, iq, h, ht, hv, hw => by
  simp only[qD]at h;split at h
  case h_2=>cases h
  rename_i r sps' a2o hr hl;simp only[Vbl,Wbd]at h;obtain⟨rfl,rfl⟩:=h
  cases vs with
  |nil=>cases ds<;>exact ht.elim
  | cons v vs =>
   cases ds with
   |nil=>exact ht.elim
   | cons d ds =>
    obtain⟨p,q,⟨fuel,h1⟩,h2,rfl⟩:=ht;rw[vG]at hw;obtain⟨dd,h3⟩:=Dam 12 fuel hr h1 fun m hm=>hw m (Vbo _ hm)
    obtain⟨dd',h4,h5,h6,h7,h8⟩:=Kav hl h2 (fun j t' v' hj ja=>hv (j+1) t' v' (by simpa using hj) (by simpa using ja)) fun m hm=>hw m (Vbr _ hm)
    obtain⟨u6,pj⟩:=Za6 r;obtain⟨om,rz⟩:=h3.len;refine⟨dd++dd',?_,by simp[rz,h5],by simp only[Vbw,Ka3,u6,h6],by simp only[jP,pj,h7],fun ρ i et=>?_⟩
    ·have:∀ {a:List Ty} {x:List D},WTs a x->WTs (a++a2o) (x++dd'):=by
      intro a
      induction a with
      |nil=>intro x hx;simp only[WTs]at hx;subst hx;exact h4
      | cons t a ih =>
       intro x hx;simp only[WTs]at hx;obtain⟨y,ys,rfl,hy1,hy2⟩:=hx;simp only[Xb0,WTs];exact⟨y,_,rfl,hy1,ih hy2⟩
     exact this h3.wts
    ·refine⟨v,vs,v.cells.toList,rfl,Fae h3 fun j d' hj=>et j d' (by rw[Vb2 (Vbn.1 hj).1];exact hj),Oaw hr (hv 0 t v rfl rfl),?_⟩
     rw[u6,pj];refine h8 ρ (i+r.length) fun j d' hj=>?_
     rw[Vb8,<- rz];exact et _ _ (by rw[Vbz (by omega),Wbx];exact hj)
theorem Aa8 {P:Program}{H:Type}{enc:TypeId×Value->H}(hl:laidOutB P=true){W W':World}(hb:Below W.heap.size W W'):∀ {ts:List TypeId} {vs:List Value} {ds:List (DataW H)} {ps:List MemPlace},(ts.all fun t=>P.readableRec t&&decide (t<P.types.size))=true ->
  DataW.TrodAll enc P W 0 (fun _=>true) true ts vs ds ps->DataW.TrodAll enc P W' 0 (fun b=>decide (b<W.heap.size)) true ts vs ds ps
 |[],[],[],ps,_,h=>h
 |[],[],_::_,ps,_,h=>h.elim
 |[],_::_,_,ps,_,h=>h.elim
 |_::_,[],_,ps,_,h=>h.elim
 |_::_,_::_,[],ps,_,h=>h.elim
 | t :: ts, v :: vs, d :: ds, ps, hr, h => by
  simp only[List.all_cons,Vbk,decide_eq_true_eq]at hr;obtain⟨p,q,h1,h2,rfl⟩:=h;refine⟨p,q,Below.trod hl hr.1.1 hr.1.2 h1 hb ?_,Aa8 hl hb hr.2 h2,rfl⟩;obtain⟨m,hm⟩:=h1;exact DataW.trod_lt m _ _ _ hm
theorem Vav {P : Program} {X : (Nat -> Ow) -> World -> Prop} {T : Nat -> Ent} {key : Nat} {s : Sig} {fn : Func} {c : Code} (hc : ∀ n, Dak P X T n key s) (hfn : P.funcs[s.fn]? = some fn) (hname : (fn.name == "runtime.NumGoroutine") = false) (hbody : fn.body = some c)
  {iq:List Ty} (n9:qD P fn.params.toList=some (s.params,iq)) (gl:s.boxes=[]) (jz:s.results=[(false,[.sc])]) (hpure:∀ ds,WTs iq ds->∃ n,kL T n key ds=some [.bool true])
  {H:Type} {enc:TypeId×Value->H} {W:World} {base:Nat} {args:Array Value} {ds:List (DataW H)} {ps:List MemPlace}
  (et:∀ (j:Nat) t v,fn.params[j]?=some t->args[j]?=some v->Value.okWide P W .any base t v) (ht:DataW.TrodAll enc P W 0 (fun _=>true) true fn.params.toList args.toList ds ps)
  (hw:∀ m∈DataW.weightsEach P fn.params.toList ds,m<=reachBytes) (hX:X (fun _=>.frz) W):Calls P s.fn args W fun e W'=>e=.returned (.bool true)/\Below W.heap.size W W':=by
 obtain⟨dd,h1,h2,h3,h4,h5⟩:=Kav (base:=base) n9 ht (fun j t v hj hv=>et j t v (by simpa using hj) (by simpa using hv)) hw;obtain⟨n,hn⟩:=hpure dd h1
 have fe:Eb5 s args.toList W Obo dd:=by
  refine⟨?_,?_,?_,fun _ _=>rfl,fun b j _ e=>by cases e⟩
  ·rw[gl]
   exact h5 dd 0 fun j d hj=>by simp[aI.val,Vby,hj]
  ·rw[gl];trivial
  ·rw[h2,h3,gl];rfl
 have fL:=hc n args.toList W Obo dd _ fe hX hn;have e:args.toList.toArray=args:=by simp
 rw[e]at fL
 rcases fL with ⟨-,cY⟩|⟨v,w',hr,-⟩
 ·refine Calls.mono cY fun en W' he=>?_
  cases en with
  | returned v =>
   obtain⟨G,us,rfl,hF,eC,-⟩:=he;rw[jz]at eC;obtain⟨u,dj,vs,rfl,hl,tM,fx⟩:=eC;simp only[Lac]at fx;subst fx;simp only[Vbm,if_false]at tM;subst tM;obtain⟨u',us2,e2,k9,-⟩:=hl;obtain⟨rfl,rfl⟩:=Zbd e2;simp only[mP]at k9
   have hu:u=.bool true:=by
    have:([D.bool true].getD 0 .undef)=D.bool true:=rfl;rw[this]at k9;exact k9.bool_inv
   subst hu;exact⟨rfl,hF.os,hF.tape,hF.output,hF.size,fun k hk=>(hF.keep k hk (.inl rfl)).1⟩
  |panicked c=>exact he.elim
  |outgrown=>exact he.elim
 ·rw[nO hfn hname hbody]at hr
  cases hr
theorem Yau {P : Program} {T : Nat -> Ent} {key : Nat} {s : Sig} {fn : Func} {c : Code} (hc : ∀ n, vF P T n key s) (hfn : P.funcs[s.fn]? = some fn) (hname : (fn.name == "runtime.NumGoroutine") = false) (hbody : fn.body = some c)
  {iq:List Ty} (n9:qD P fn.params.toList=some (s.params,iq)) (gl:s.boxes=[]) (jz:s.results=[(false,[.sc])]) (hpure:∀ ds,WTs iq ds->∃ n,kL T n key ds=some [.bool true])
  {H:Type} {enc:TypeId×Value->H} {W:World} {base:Nat} {args:Array Value} {ds:List (DataW H)} {ps:List MemPlace}
  (et:∀ (j:Nat) t v,fn.params[j]?=some t->args[j]?=some v->Value.okWide P W .any base t v) (ht:DataW.TrodAll enc P W 0 (fun _=>true) true fn.params.toList args.toList ds ps)
  (hw:∀ m∈DataW.weightsEach P fn.params.toList ds,m<=reachBytes):Calls P s.fn args W fun e W'=>e=.returned (.bool true)/\Below W.heap.size W W' :=
 Vav (X:=fun _ _=>True) (fun n vals w G ds ie hp _ h=>hc n vals w G ds ie hp h) hfn hname hbody n9 gl jz hpure et ht hw trivial
open Go.ChangeShapes Go.RowKit in
theorem Vau {C : Checked} {spec : ChangeSpec} {T : Nat -> Ent} {key : Nat} {s : Sig} {fn : Func} {c : Code} {conds : List PathCond} (own : ownKnob C.prog.godebug = none) (laid : laidOutB C.prog = true) (hc : ∀ n, vF C.prog T n key s) (hfn : C.prog.funcs[s.fn]? = some fn) (hname : (fn.name == "runtime.NumGoroutine") = false) (hbody : fn.body = some c)
  {iq:List Ty} (n9:qD C.prog fn.params.toList=some (s.params,iq)) (gl:s.boxes=[]) (jz:s.results=[(false,[.sc])]) (hpure:∀ ds,WTs iq ds->∃ n,kL T n key ds=some [.bool true])
  (a1n:(fn.params.toList.all fun t=>C.prog.readableRec t&&decide (t<C.prog.types.size))=true) {rt:TypeId} (og:fn.resultTypes=#[rt]) (hrb:C.prog.underlying rt=some .bool)
  (sE:spec.vars=[]) (a2c:∀ (H:Type) (ds:List (DataW H)),ds.length=fn.params.size->spec.fn H ds={ results:=[.lit (.bool true)],args:=ds,vars:=[] }) (a13:C.prog.inits.idxOf? s.fn=none)
  (os:Os) (started:os.Started) (H:Type) (enc:TypeId×Value->H)
  (witness:∃ (w:World) (tape:Tape) (i:Input),w.os=os/\(w.forCall tape i).Shaped C.prog/\i.vars=[]/\Input.okWide C.prog (w.forCall tape i) .any w.heap.size s.fn i /\
   spec.pre6 enc C.prog fn conds false (w.forCall tape i).memory i.args/\({}:Assume).holds C.prog (lone (Frame.enter C.prog s.fn i.args .normal) [] (w.forCall tape i))) :
  ReturnsInHanded {} C os s.fn .any (spec.pre6 enc C.prog fn conds false) (spec.post enc C.prog fn false true false false):=by
 refine returnsInHanded_of_change_sized own started a13 hfn witness ?_;intro W base args ds gs before et hW _ dh _;have hW':=hW;obtain⟨p,q,hA,hV,rfl,kc,hnd⟩:=hW;rw[sE]at hV;obtain⟨rfl,rfl⟩:=trodVars_none hV
 have hvt:spec.plain.varTypes C.prog=[]:=by
  simp[ChangeSpec.plain,DataSpec.varTypes,sE]
 rw[hvt,Wbo,Wbo]at dh
 have hlen:∀ {ts:List TypeId} {vs:List Value} {ds:List (DataW H)} {ps:List MemPlace},DataW.TrodAll enc C.prog W 0 (fun _=>true) true ts vs ds ps->ds.length=ts.length:=by
  intro ts
  induction ts with
  | nil =>
   intro vs ds ps h;cases vs<;>cases ds<;>first|rfl|exact h.elim
  | cons t ts ih =>
   intro vs ds ps h;cases vs<;>cases ds<;>first|exact h.elim|skip
   obtain⟨p,q,-,h2,-⟩:=h;simp[ih h2]
 have hl:=hlen hA;refine (Yau hc hfn hname hbody n9 gl jz hpure et hA (fun m hm=>?_)).mono fun e W' ⟨he,bel⟩=>?_
 ·rw[Wbg]at dh
  simpa using dh m hm
 ·subst he
  have gk:=a2c H (ds++[]) (by simpa using hl);refine⟨_,rfl,ds,[],_,[],p,[],hW',?_,?_,?_,bel.frame _,fun h=>by cases h⟩
  ·rw[gk,og]
   exact trodAll_mk1 (shut_bool hrb _)
  ·rw[gk]
   simp only[Wbo];exact Aa8 laid bel a1n hA
  ·rw[gk,sE]
   rfl
end Go.Proofs.YtgpamlpecmldfaaGreat.Rf
namespace Go.Proofs.YtgpamlpecmldfaaGreat.Rf
def lX:List (Nat×TI)->Nat->Option TI
 |[],_=>none
 |(k,i)::r,t=>bif Nat.beq k t then some i else lX r t
theorem Sa3 {P:Program}:∀ {l:List (Nat×TI)},(∀ p∈l,Fao P p.1=some p.2)->vV P (lX l)
 |[],_=>⟨fun t i h=>by cases h⟩
 | (k, i) :: r, h => ⟨fun t j ht => by
  simp only[lX]at ht
  cases hb:Nat.beq k t with
  | true =>
   rw[hb,cond_true]at ht;simp only[Wbl]at hb;subst hb;rw[<- ht];exact h (k,i) Vb7
  | false =>
   rw[hb,cond_false]at ht;exact (Sa3 fun p hp=>h p (Vb1 _ hp)).ok t j ht⟩
def Pax:List (Nat×Ent)->Nat->Ent
 |[],_=>.none
 |(k,e)::r,t=>bif Nat.beq k t then e else Pax r t
theorem Uac {P:Program}{T:Nat->Ent}{ti:Nat->Option TI}{sigs:List (Nat×Sig)}(h:∀ p∈sigs,Waw P T ti sigs p.1 p.2):∀ key s,(key,s)∈sigs->Waw P T ti sigs key s:=fun key s hm=>h (key,s) hm
theorem Zaj {P : Program} {T : Nat -> Ent} {E : Env} {key : Nat} {s : Sig} {fn : Func} {tm : Tm Unit} (h1 : P.funcs[s.fn]? = some fn) (h2 : (fn.name == "runtime.NumGoroutine") = false) (h3 : Ua7 E s fn = some tm) (h4 : T key = .tm tm) : Waw P T E.ti E.sigs key s :=
 .inl ⟨E,fn,tm,rfl,rfl,h1,h2,h3,h4⟩
theorem fnK {P : Program} {T : Nat -> Ent} {E : Env} {key : Nat} {s : Sig} {fn : Func} {tm : Tm Unit} (h1 : P.funcs[s.fn]? = some fn) (h : (fn.name == "runtime.NumGoroutine", Ua7 E s fn, T key) = (false, some tm, .tm tm)) : Waw P T E.ti E.sigs key s :=
 Zaj h1 (congrArg (·.1) h) (congrArg (·.2.1) h) (congrArg (·.2.2) h)
theorem fc {α:Type}{p:α->Prop}{a:α}{l:List α}(h:p a)(h':∀ x∈l,p x):∀ x∈a::l,p x:=List.forall_mem_cons.2 ⟨h,h'⟩
theorem fc0 {α:Type}{p:α->Prop}:∀ x∈([]:List α),p x:=List.forall_mem_nil _
theorem Gbt {T:Nat->Ent}{key:Nat}{ds r:List D}(h:Fun T key ds=some r):∃ n,kL T n key ds=some r:=Gag.1 h
def apL (e d:Nat):Nat->List Nat
 |0=>[]
 |n+1=>(e-d*(n+1))::apL e d n
abbrev i64 (n:Int):D:=.int .i64 n
theorem wrap_i64 {n:Int}(h1:-9223372036854775808<=n)(h2:n<=9223372036854775807):IntKind.i64.wrap n=n:=IntWalk.i64_in n ⟨h1,h2⟩
section
variable {T:Nat->Ent} {β:Type}
end
theorem Gbh {a b:Int}:(aT.bin .lss).run [i64 a,i64 b]=some [.bool (decide (a<b))]:=by simp[aT.run,Ma9,zK]
theorem Gbj {a b:Int}:(aT.bin .gtr).run [i64 a,i64 b]=some [.bool (decide (a>b))]:=by simp[aT.run,Ma9,zK]
theorem Gbi {a b:Int}:(aT.bin .leq).run [i64 a,i64 b]=some [.bool (decide (a<=b))]:=by simp[aT.run,Ma9,zK]
theorem Gbk {a b:Int}:(aT.bin .geq).run [i64 a,i64 b]=some [.bool (decide (a ≥ b))]:=by simp[aT.run,Ma9,zK]
theorem Gbg {a b:Int}:(aT.bin .neq).run [i64 a,i64 b]=some [.bool (!(a==b))]:=by simp[aT.run,Ma9,zK,bne]
theorem Gbl {a b:Int}:(aT.bin .eql).run [i64 a,i64 b]=some [.bool (a==b)]:=by simp[aT.run,Ma9,zK]
theorem Gbo {a b:Int}(h1:-9223372036854775808<=a+b)(h2:a+b<=9223372036854775807):(aT.bin .add).run [i64 a,i64 b]=some [i64 (a+b)]:=by simp[aT.run,Ma9,zK,wrap_i64 h1 h2]
theorem Gbe {a b:Int}(h1:-9223372036854775808<=a-b)(h2:a-b<=9223372036854775807):(aT.bin .sub).run [i64 a,i64 b]=some [i64 (a-b)]:=by simp[aT.run,Ma9,zK,wrap_i64 h1 h2]
theorem Gbf {b:Bool}:aT.not.run [.bool b]=some [.bool (!b)]:=rfl
theorem Gbm {a b:Bool}:(aT.eqb true).run [.bool a,.bool b]=some [.bool (!(a==b))]:=rfl
section
variable {T:Nat->Ent}
end
def upto {α:Type}(z:α)(ys:List α)(i:Nat):List α:=ys.take i++Wba (ys.length-i) z
theorem Wa4 {α:Type}(z:α)(ys:List α):upto z ys 0=Wba ys.length z:=by simp[upto]
theorem Bbc {α:Type}(z:α)(ys:List α):upto z ys ys.length=ys:=by simp[upto]
theorem Bbb {α:Type}(z:α)(ys:List α){i:Nat}(h:i<=ys.length):(upto z ys i).length=ys.length:=by simp[upto];omega
theorem Bba {α:Type}(z:α)(ys:List α){i:Nat}{y:α}(h:ys[i]?=some y):(upto z ys i).set i y=upto z ys (i+1):=by
 have bj:=(Vbn.1 h).1;apply List.ext_getElem?;intro j;rw[List.getElem?_set];unfold upto;rw[Vbw,Wbh,Wb1];by_cases e:i=j
 ·subst e
  rw[if_pos rfl,if_pos (by omega),Vb2 (by simp;omega),Wbw,if_pos (by omega)];exact h.symm
 ·rw[if_neg e]
  rcases Wbc j i with hj|hj
  ·rw[Vb2 (by simp;omega),Vb2 (by simp;omega),Wbw,Wbw,if_pos hj,if_pos (by omega)]
  ·rw[Vbz (by simp;omega),Vbz (by simp;omega),Ybc,Ybc]
   simp only[Wbh];by_cases h2:j<ys.length
   ·rw[if_pos (by omega),if_pos (by omega)]
   ·rw[if_neg (by omega),if_neg (by omega)]
section
variable {T:Nat->Ent} {β:Type}
noncomputable def Er (T:Nat->Ent)(t:Tm β)(ρ:List D):Option (Kind×List D):=(Ev T t ρ).map fun o=>(o.kind,o.vals)
def Sbu (r:Kind×List D):Option (List D):=if r.1=.ret then some r.2 else none
def Sbz {α:Type}(d:D)(a b:Option α):Option α:=match d with
 |.bool true=>a
 |.bool false=>b
 |_=>none
def gdR (d:D)(w:Bool):Bool:=match d with
 |.bool b=>b==w
 |_=>false
theorem Pb2 {f:Nat}{t:Tm Unit}(h:T f=.tm t)(args:List D):Fun T f args=(Er T t args).bind Sbu:=by
 rw[Lbr h,Er];cases Ev T t args<;>rfl
theorem Ibg (k:Kind)(xs:List aI)(e:β)(ρ:List D):Er T (.leaf k xs e) ρ=some (k,xs.map (·.val ρ)):=by
 rw[Er,Ibe];rfl
noncomputable def stepT (T:Nat->Ent)(k:Tm β)(ρ:List D)(n:Nat)(a:Option (List D)):Option (Kind×List D):=a.bind fun ds=>if ds.length=n then Er T k (ρ++ds) else none
noncomputable def Pbk (T:Nat->Ent)(t e:Tm β)(ρ:List D)(c:D):Option (Kind×List D):=Sbz c (Er T t ρ) (Er T e ρ)
noncomputable def ltT (T:Nat->Ent)(p:aT)(xs:List aI)(n:Nat)(k:Tm β)(ρ:List D)(w:Bool)(c:D):Option (Kind×List D) :=
 if gdR c w=true then stepT T k ρ n (p.run (xs.map (·.val ρ))) else Er T k (ρ++Wba n .undef)
noncomputable def Hbw (T:Nat->Ent)(f:Nat)(xs:List aI)(n:Nat)(os:List aI)(k:Tm β)(ρ:List D)(w:Bool)(c:D):Option (Kind×List D) :=
 if gdR c w=true then stepT T k ρ n (Fun T f (xs.map (·.val ρ))) else Er T k (ρ++(Wba (n-os.length) .undef++os.map (·.val ρ)))
theorem Lby (p:aT)(xs:List aI)(n:Nat)(k:Tm β)(ρ:List D):Er T (.lt none p xs n k) ρ=stepT T k ρ n (p.run (xs.map (·.val ρ))):=by
 rw[Er,Lbv,stepT];simp only[gOn,if_true]
 cases p.run (xs.map (·.val ρ)) with
 |none=>rfl
 | some ds =>
  simp only[Vbs];split<;>rfl
theorem Lbx (a:aI)(w:Bool)(p:aT)(xs:List aI)(n:Nat)(k:Tm β)(ρ:List D):Er T (.lt (some (a,w)) p xs n k) ρ=ltT T p xs n k ρ w (a.val ρ):=by
 rw[Er,Lbv,ltT,stepT];have:gOn ρ (some (a,w))=gdR (a.val ρ) w:=rfl;rw[this]
 cases gdR (a.val ρ) w with
 |false=>rfl
 | true =>
  simp only[if_true]
  cases p.run (xs.map (·.val ρ)) with
  |none=>rfl
  | some ds =>
   simp only[Vbs];split<;>rfl
theorem Eb3 (f:Nat)(xs:List aI)(n:Nat)(os:List aI)(k:Tm β)(ρ:List D):Er T (.call none f xs n os k) ρ=stepT T k ρ n (Fun T f (xs.map (·.val ρ))):=by
 rw[Er,Ab2,stepT];simp only[gOn,if_true]
 cases Fun T f (xs.map (·.val ρ)) with
 |none=>rfl
 | some ds =>
  simp only[Vbs];split<;>rfl
theorem Eb2 (a:aI)(w:Bool)(f:Nat)(xs:List aI)(n:Nat)(os:List aI)(k:Tm β)(ρ:List D):Er T (.call (some (a,w)) f xs n os k) ρ=Hbw T f xs n os k ρ w (a.val ρ):=by
 rw[Er,Ab2,Hbw,stepT];have:gOn ρ (some (a,w))=gdR (a.val ρ) w:=rfl;rw[this]
 cases gdR (a.val ρ) w with
 |false=>rfl
 | true =>
  simp only[if_true]
  cases Fun T f (xs.map (·.val ρ)) with
  |none=>rfl
  | some ds =>
   simp only[Vbs];split<;>rfl
theorem Lbz (c:aI)(t e:Tm β)(ρ:List D):Er T (.ite c t e) ρ=Pbk T t e ρ (c.val ρ):=by
 rw[Er,Lbw,Pbk]
 cases c.val ρ with
 |bool b=>cases b<;>rfl
 |_=>rfl
noncomputable def oN (T:Nat->Ent)(i:Nat)(k:Tm β)(ρ:List D)(r:Option (Kind×List D)):Option (Kind×List D):=r.bind fun r=>if r.1=.yield i then Er T k (ρ++r.2) else some r
theorem Uay {i:Nat}{k:Tm β}{ρ ds:List D}:oN T i k ρ (some (.yield i,ds))=Er T k (ρ++ds):=by simp[oN]
theorem Xaa {i:Nat}{k:Tm β}{ρ ds:List D}:oN T i k ρ (some (.ret,ds))=some (.ret,ds):=by simp[oN]
theorem Ua0 {i:Nat}{k:Tm β}{ρ ds:List D}:oN T i k ρ (some (.cont,ds))=some (.cont,ds):=by simp[oN]
theorem Cbu {i j:Nat}{k:Tm β}{ρ ds:List D}(h:j≠i):oN T i k ρ (some (.yield j,ds))=some (.yield j,ds):=by simp[oN,h]
theorem Ibh (i:Nat)(t k:Tm β)(ρ:List D):Er T (.bind i t k) ρ=oN T i k ρ (Er T t ρ):=by
 rw[Er,Ibf,oN,Er]
 cases Ev T t ρ with
 |none=>rfl
 | some o =>
  simp only[Vbs,Wb5];split<;>rfl
theorem Fbc {t:Tm β}{ρ:List D}{k:Kind}{ds:List D}(h:Er T t ρ=some (k,ds)):∃ o,Ev T t ρ=some o/\o.kind=k/\o.vals=ds:=by
 unfold Er at h
 cases e:Ev T t ρ with
 |none=>rw[e]at h;cases h
 | some o =>
  rw[e,Wb5]at h;have:=Wbk h;exact⟨o,rfl,congrArg Prod.fst this,congrArg Prod.snd this⟩
theorem Vat {γ:Type}{body:Tm β}{ρ:List D}(m:γ->Nat)(inv:γ->Prop)(vs:γ->List D)(Q:Kind×List D->Prop)
  (h:∀ c,inv c->∃ r,Er T body (ρ++vs c)=some r/\(r.1=.cont/\(∃ c',inv c'/\m c'<m c/\r.2=vs c')\/r.1≠.cont/\Q r)) :
  ∀ (n:Nat) c,m c<=n->inv c->∀ xs:List aI,xs.map (·.val ρ)=vs c->∃ r,Er T (.loop xs body) ρ=some r/\Q r:=by
 have key:∀ (n:Nat) c,m c<=n->inv c->∃ o,Lp T body ρ (vs c)=some o/\Q (o.kind,o.vals):=by
  intro n
  induction n with
  | zero =>
   intro c hm hc;obtain⟨⟨k,ds⟩,h1,h2⟩:=h c hc;obtain⟨o,h3,rfl,rfl⟩:=Fbc h1
   rcases h2 with ⟨-,c',-,h5,-⟩|⟨h4,h5⟩
   ·omega
   ·exact⟨o,by rw[Ibc,h3,Vbs,if_neg h4],h5⟩
  | succ n ih =>
   intro c hm hc;obtain⟨⟨k,ds⟩,h1,h2⟩:=h c hc;obtain⟨o,h3,rfl,rfl⟩:=Fbc h1
   rcases h2 with ⟨h4,c',h5,h6,h7⟩|⟨h4,h5⟩
   ·obtain⟨o',h8,h9⟩:=ih c' (by omega) h5
    refine⟨o',?_,h9⟩;rw[Ibc,h3,Vbs,if_pos h4];show Lp T body ρ o.vals=_
    rw[show o.vals=vs c' from h7,h8]
   ·exact⟨o,by rw[Ibc,h3,Vbs,if_neg h4],h5⟩
 intro n c hm hc xs hx;obtain⟨o,h1,h2⟩:=key n c hm hc;exact⟨_,by rw[Er,Ibd,hx,h1,Wb5],h2⟩
end
def zM (ok:Nat->Bool):Nat->Bool
 |0=>true
 |n+1=>zM ok n&&ok n
theorem fZ {ok:Nat->Bool}:∀ {n:Nat},zM ok n=true↔∀ i,i<n->ok i=true
 |0=>by simp[zM]
 | n + 1 => by
  simp only[zM,Vbk,fZ (n:=n)];constructor
  ·rintro⟨h1,h2⟩ i hi
   rcases Wbc i n with h|h
   ·exact h1 i h
   ·obtain rfl:i=n:=by omega
    exact h2
  ·exact fun h=>⟨fun i hi=>h i (by omega),h n (by omega)⟩
theorem Eaf {ok:Nat->Bool}{n:Nat}:zM ok n=false↔∃ i,i<n/\ok i=false:=by
 constructor
 ·intro h
  apply Classical.byContradiction;intro hn
  have:zM ok n=true:=fZ.2 fun i hi=>by
   cases e:ok i with
   |true=>rfl
   |false=>exact absurd ⟨i,hi,e⟩ hn
  rw[this]at h;cases h
 ·rintro⟨i,hi,h⟩
  cases e:zM ok n with
  |false=>rfl
  |true=>rw[fZ.1 e i hi]at h;cases h
theorem Uam {p q:Nat->Bool}:∀ {n:Nat},zM (fun i=>p i&&q i) n=(zM p n&&zM q n)
 |0=>rfl
 | n + 1 => by
  simp only[zM,Uam (n:=n)];cases zM p n<;>cases zM q n<;>cases p n<;>cases q n<;>rfl
theorem Ka9 {p q:Nat->Bool}:∀ {n:Nat},(∀ i,i<n->p i=q i)->zM p n=zM q n
 |0,_=>rfl
 |n+1,h=>by simp only[zM,Ka9 (n:=n) fun i hi=>h i (by omega),h n (by omega)]
section
variable {T:Nat->Ent} {β:Type}
end
theorem Kbr {d:D}:aT.id.run [d]=some [d]:=rfl
def inR (x lo hi:Int):Bool:=decide (lo<=x)&&decide (x<=hi)
end Go.Proofs.YtgpamlpecmldfaaGreat.Rf
