import Derived.Test.YtgpamlpecmldfaaGreatRf6
import Derived.SizedLaws
import Derived.Carry
import Derived.ChangeOld
import Derived.ChangeShapes
import Derived.RowKit
import Derived.IntWalk
set_option linter.all false
open Bool renaming and_eq_true → Qb6, false_eq_true → Rbk
open List renaming getElem?_eq_some_iff → Qb8, mem_append_left → Qb9, getElem?_eq_getElem → Rba, mem_singleton → Rbb, mem_append_right → Rbc, append_assoc → Rbd, getElem?_cons_zero → Rbf, mem_cons → Rbg, length_append → Rbh, getD_eq_getElem?_getD → Rbi, getElem?_append_right → Rbj, mem_cons_of_mem → Rbl, getElem?_append_left → Rbm, mem_of_getElem? → Rbn, mem_append → Rbq, mem_cons_self → Rbr, replicate → Rbs, length_take → Rbv, length_cons → Rbw, map_cons → Rby, append_nil → Rb1, length_map → Rb4, all_eq_true → Rb6, map_nil → Sbc, getElem?_map → Sbd, getElem?_take → Sbe, nil_append → Sbm, mem_iff_getElem? → Sbt, length_replicate → Sbu, filter_cons → Tba, cons_append → Tbq, getElem?_replicate → Tbs, getElem?_range → Ubv
open List.cons renaming injEq → Sbz, inj → Ub2
open Nat renaming add_assoc → Rbp, le_refl → Rbt, lt_or_ge → Rbu, zero_add → Rb2, beq_eq → Rb3, add_zero → Sbg, add_sub_cancel_left → Sbi, ble_eq → Sbr
open Option renaming bind_eq_some_iff → Qb5, bind_some → Rbe, map_eq_some_iff → Rbo, map_some → Sbq, getD_some → Tbd
open Option.some renaming injEq → Qb7, inj → Rb5
open Prod.mk renaming injEq → Rbx, inj → Tbw
namespace Go.Proofs.YtgpamlpecmldfaaGreat.Rf
section
variable (w:World)
def owC (ad:Addr):Nat->List BO->List Value
 |_,[]=>[]
 |off,s::r=>(match s with | .ow _=>[(w.cell? (ad.add off)).getD undef] | _=>[])++owC ad (off+1) r
def Uaa:LR->Value->List Value
 |.ow _,v=>[v]
 |.bx cs,.pointer (some ad)=>owC w ad 0 cs
 |_,_=>[]
def owL:List LR->List Value->List Value
 |s::ss,v::vs=>Uaa w s v++owL ss vs
 |_,_=>[]
def owR:List (Bool×List LR)->List Value->List Value
 |(a,ss)::rs,u::us=>owL w ss (if a=true then u.cells.toList else [u])++owR rs us
 |_,_=>[]
def owB (bx:Nat->Addr):Nat->List (Bool×List (BS×BO))->List Value
 |_,[]=>[]
 |b,(ro,cs)::r=>if ro=true then owB bx (b+1) r else owC w (bx b) 0 (cs.map (·.2))++owB bx (b+1) r
end
def Qa9:LR->Value->List Addr
 |.bx _,.pointer (some ad)=>[ad]
 |_,_=>[]
def Oac:List LR->List Value->List Addr
 |s::ss,v::vs=>Qa9 s v++Oac ss vs
 |_,_=>[]
def Ia5:List (Bool×List LR)->List Value->List Addr
 |(a,ss)::rs,u::us=>Oac ss (if a=true then u.cells.toList else [u])++Ia5 rs us
 |_,_=>[]
theorem Wap (s:LR)(v:Value):(Qa9 s v).length<=(match s with|.bx _=>1|_=>0):=by
 unfold Qa9;split<;>simp
theorem Rab:∀ (ss:List LR) (vs:List Value),(Oac ss vs).length<=bxL ss
 |[],vs=>by simp[Oac]
 |s::ss,[]=>by simp[Oac]
 | s :: ss, v :: vs => by
  have h1:=Wap s v;have h2:=Rab ss vs;simp only[Oac,Rbh];cases s<;>simp only[bxL]at *<;>omega
theorem Raa:∀ (rs:List (Bool×List LR)) (us:List Value),(Ia5 rs us).length<=mE rs
 |[],us=>by simp[Ia5]
 |(a,ss)::rs,[]=>by simp[Ia5]
 | (a, ss) :: rs, u :: us => by
  have h1:=Rab ss (if a=true then u.cells.toList else [u]);have h2:=Raa rs us;simp only[Ia5,Rbh,mE];omega
def Sam:List BO->Bool
 |[]=>true
 |.ow _::_=>false
 |_::r=>Sam r
section
variable {E:Env} {F:bQ} {σ fj:Nat->Option aU} {ρ:List D} {a:Act} {w w':World} {G G':Gh} {s:Sig} {Z:Take} {gd:Bool} {nr nb y0:Nat} {hs:List Value} {adn:Addr} {ds:List D}
def Rai (ρ:List D)(l:List Step):Prop:=∀ m y,.prim (.dep m) [.v y] 0∈l->rJ m ((aP.v y).val ρ)=true
structure Aft (E:Env) (F:bQ) (σ fj:Nat->Option aU) (ρ:List D) (a:Act) (w:World) (G:Gh) (s:Sig) (Z:Take) (G':Gh) (w':World) (y0:Nat) (ds:List D):Prop where
 B:Raj E F σ ρ a w G s Z G' w'
 val:∀ i,i<ds.length->(aP.v (y0+i)).val ρ=ds.getD i .undef
 known:∀ z∈Z.deps,kF fj z.1 z.2
def UOk (sh:Nat->Prop)(fj:Nat->Option aU)(ρ:List D)(G2:Gh)(w':World)(nr nb y0:Nat)(u:List (Nat×aU)):Prop :=
 ∀ k c,(k,c)∈u->(∃ q m i,k=kR (nr+q)/\c=.root (.v (y0+i)) m 0 .live/\Rp G2.own w' (nr+q) [] m (G2.hdr (nr+q)) ((aP.v (y0+i)).val ρ)) \/
  (k=kB nb/\∃ ls,c=.box false ls/\Lac fj ρ G2 w' nb false ls/\sh (G2.bx nb).block)
theorem UOk.append {sh:Nat->Prop}{G2:Gh}{u v:List (Nat×aU)}(h:UOk sh fj ρ G2 w' nr nb y0 u)(h':UOk sh fj ρ G2 w' nr nb y0 v):UOk sh fj ρ G2 w' nr nb y0 (u++v):=fun k c hc=>(Rbq.1 hc).elim (h k c) (h' k c)
def UIn (fj:Nat->Option aU)(nr:Nat)(u:List (Nat×aU)):Prop:=∀ k c,(k,c)∈u->(fj k).isSome/\∀ q,k=kR (nr+q)->q<dE
theorem UIn.left {u v:List (Nat×aU)}(h:UIn fj nr (u++v)):UIn fj nr u:=fun k c hc=>h k c (Qb9 _ hc)
theorem UIn.right {u v:List (Nat×aU)}(h:UIn fj nr (u++v)):UIn fj nr v:=fun k c hc=>h k c (Rbc _ hc)
theorem Za4 {own':Nat->Ow}{q:Nat}(hq:q<dE){v:Value}(hv:hs[q]?=some v):(gF gd ρ G w s Z nr nb own' hs adn).hdr (nr+q)=v:=by
 simp only[gF];rw[if_pos ⟨by omega,by omega⟩,Sbi,Rbi,hv];rfl
variable (A:Aft E F σ fj ρ a w G s Z G' w' y0 ds)
include A
theorem Waq {i q off:Nat}{t:BO}{v:Value}(h:Fae G'.own w' ds i q t v)(hi:i<ds.length)(fh:Z.deps=[]\/∀ m,t=.ow m->rJ m ((aP.v (y0+i)).val ρ)=true)
  (gv:gd=false\/∀ m,t≠.ow m) (hh:∀ m,t=.ow m->hs[q]?=some v) (hu:UIn fj nr (kY Z.deps (y0+i) (nr+q) t).2.1) :
  (kY Z.deps (y0+i) (nr+q) t).2.2=nr+q+t.q/\aD fj ρ (gF gd ρ G w s Z nr nb G'.own hs adn) w' (kY Z.deps (y0+i) (nr+q) t).1 v/\UOk (fun b=>¬ (b<w.heap.size/\Nau ((callG ρ G w s Z).own b)=false)) fj ρ (gF gd ρ G w s Z nr nb G'.own hs adn) w' nr nb y0 (kY Z.deps (y0+i) (nr+q) t).2.1:=by
 cases t with
 | sc =>
  refine⟨rfl,?_,by simp[UOk,kY]⟩;simp only[kY,aD];rw[A.val i hi];exact h
 | fz =>
  refine⟨rfl,?_,by simp[UOk,kY]⟩;simp only[kY,aD];simp only[Fae]at h;rw[A.val i hi];exact⟨⟨h.one,A.known⟩,fun _=>⟨A.B.rd h,fun e=>absurd e (by decide),trivial⟩⟩
 | ow m =>
  have hg:gd=false:=gv.resolve_right fun e=>e m rfl
  simp only[Fae]at h;have jc:=hu (kR (nr+q)) _ (by simp only[kY];exact Rbb.2 rfl);have y8:=Za4 (gd:=gd) (ρ:=ρ) (G:=G) (w:=w) (s:=s) (Z:=Z) (nr:=nr) (nb:=nb) (adn:=adn) (own':=G'.own) (jc.2 q rfl) (hh m rfl);have sX:Z.deps=[]\/rJ m (ds.getD i .undef)=true:=fh.imp id fun e=>by rw[<- A.val i hi];exact e m rfl
  have gj:=A.B.give (gd:=gd) (nr:=nr) (nb:=nb) (hs:=hs) (adn:=adn) h sX hg (jc.2 q rfl);refine⟨rfl,?_,?_⟩
  ·simp only[kY,aD]
   exact⟨y8.symm,jc.1,h.one⟩
  ·intro k c hc
   simp only[kY,Rbb,Rbx]at hc;refine .inl ⟨q,m,i,hc.1,hc.2,?_⟩;rw[y8,A.val i hi];exact gj
 | dead =>
  refine⟨rfl,?_,by simp[UOk,kY]⟩;simp only[kY,aD];exact h
theorem Bal:∀ {cs:List BO} {i q off:Nat} {ad:Addr},Da3 G'.own w' ds ad off i q cs->i+cs.length<=ds.length->(Z.deps=[]\/Rai ρ (qB (y0+i) cs))->(gd=false\/Sam cs=true) ->
  (∀ j v,(owC w' ad off cs)[j]?=some v->hs[q+j]?=some v)->UIn fj nr (eD Z.deps (y0+i) (nr+q) cs).2.1 ->
  (eD Z.deps (y0+i) (nr+q) cs).2.2=nr+q+qC cs/\(eD Z.deps (y0+i) (nr+q) cs).1.length=cs.length/\(owC w' ad off cs).length=qC cs /\
  (∀ j l,(eD Z.deps (y0+i) (nr+q) cs).1[j]?=some l->∃ v,w'.cell? (ad.add (off+j))=some v/\w'.frozen? (ad.add (off+j))=false/\aD fj ρ (gF gd ρ G w s Z nr nb G'.own hs adn) w' l v) /\
  UOk (fun b=>¬ (b<w.heap.size/\Nau ((callG ρ G w s Z).own b)=false)) fj ρ (gF gd ρ G w s Z nr nb G'.own hs adn) w' nr nb y0 (eD Z.deps (y0+i) (nr+q) cs).2.1
 |[],i,q,off,ad,_,_,_,_,_,_=>⟨rfl,rfl,rfl,by simp[eD],by simp[UOk,eD]⟩
 | t :: cs, i, q, off, ad, h, hi, fh, gv, hh, hu => by
  obtain⟨⟨v,h1,h2,h3⟩,h4⟩:=h;simp only[Rbw]at hi;simp only[eD]at hu;have hlen:∀ t:BO,(match t with|.ow _=>[(w'.cell? (ad.add off)).getD undef]|_=>([]:List Value)).length=t.q:=fun t=>by cases t<;>rfl
  have hb:=Waq A (gd:=gd) (nr:=nr) (nb:=nb) (hs:=hs) (adn:=adn) (off:=off) h3 (by omega) (fh.imp id fun e m hm=>e m _ (by subst hm;simp only[qB];exact Rbr))
   (gv.imp id fun e m hm=>by subst hm;simp[Sam]at e) (fun m hm=>by
    subst hm;have:=hh 0 v (by simp[owC,h1]);simpa using this) hu.left
  obtain⟨h5,h6,h7⟩:=hb
  have dq:=Bal (cs:=cs) (i:=i+1) (q:=q+t.q) (off:=off+1) (ad:=ad) h4 (by omega) (fh.imp id fun e m y hm=>e m y (by
    cases t with
    |ow m'=>simp only[qB];exact Rbl _ hm
    |_=>exact hm)) (gv.imp id fun e=>by cases t<;>simp[Sam]at e ⊢<;>exact e) (fun j x hj=>by
    have:=hh (t.q+j) x (by
     simp only[owC];rw[Rbj (by rw[hlen];omega),hlen,Sbi];exact hj)
    rwa[<- Rbp]at this) (by
    have:=hu.right;rw[h5]at this;rw[<- Rbp,<- Rbp];exact this)
  rw[<- Rbp,<- Rbp]at dq;obtain⟨h8,h9,eo,fb,gq⟩:=dq;simp only[eD];rw[h5];refine⟨by rw[h8];simp only[qC];omega,by simp[h9],by simp only[owC,Rbh,hlen,eo,qC],fun j l hj=>?_,h7.append gq⟩
  cases j with
  | zero =>
   simp only[Rbf,Qb7]at hj;subst hj;exact⟨v,h1,h2,h6⟩
  | succ j =>
   obtain⟨v',jg,lq,mz⟩:=fb j l (by simpa using hj);rw[show off+(j+1)=off+1+j by omega];exact⟨v',jg,lq,mz⟩
theorem Sae (oo:fj (kB nb)=none\/True){i q:Nat}{t:LR}{v:Value}(h:nI G'.own w' ds s.boxes.length i q t v)(hi:i+t.n<=ds.length)(fh:Z.deps=[]\/Rai ρ (Sa7 (y0+i) [t]))
  (gv:gd=false\/bxL [t]=0) (hh:∀ j x,(Uaa w' t v)[j]?=some x->hs[q+j]?=some x) (rS:∀ ad∈Qa9 t v,ad=adn) (hu:UIn fj nr (dM gd Z.deps nb (y0+i) (nr+q) t).2.1) :
  (dM gd Z.deps nb (y0+i) (nr+q) t).2.2=nr+q+t.q/\(Uaa w' t v).length=t.q/\aD fj ρ (gF gd ρ G w s Z nr nb G'.own hs adn) w' (dM gd Z.deps nb (y0+i) (nr+q) t).1 v/\UOk (fun b=>¬ (b<w.heap.size/\Nau ((callG ρ G w s Z).own b)=false)) fj ρ (gF gd ρ G w s Z nr nb G'.own hs adn) w' nr nb y0 (dM gd Z.deps nb (y0+i) (nr+q) t).2.1:=by
 cases t with
 | sc =>
  refine⟨rfl,by cases v<;>rfl,?_,by simp[UOk,dM]⟩;simp only[LR.n]at hi;simp only[dM,aD];rw[A.val i (by omega)];exact h
 | fz =>
  refine⟨rfl,by cases v<;>rfl,?_,by simp[UOk,dM]⟩;simp only[LR.n]at hi;simp only[nI]at h;simp only[dM,aD];rw[A.val i (by omega)];exact⟨⟨h.one,A.known⟩,fun _=>⟨A.B.rd h,fun e=>absurd e (by decide),trivial⟩⟩
 | ow m =>
  simp only[LR.n]at hi;simp only[nI]at h
  cases gd with
  | true =>
   refine⟨rfl,rfl,?_,by simp[UOk,dM]⟩;simp only[dM,cond_true,aD];rw[A.val i (by omega)];exact⟨⟨h.one,A.known⟩,fun _=>⟨A.B.giveGd h rfl,fun e=>absurd e (by decide),trivial⟩⟩
  | false =>
   have jc:=hu (kR (nr+q)) _ (by simp only[dM,cond_false];exact Rbb.2 rfl);have y8:=Za4 (gd:=false) (ρ:=ρ) (G:=G) (w:=w) (s:=s) (Z:=Z) (nr:=nr) (nb:=nb) (adn:=adn) (own':=G'.own) (jc.2 q rfl) (hh 0 v rfl)
   have sX:Z.deps=[]\/rJ m (ds.getD i .undef)=true:=fh.imp id fun e=>by
    rw[<- A.val i (by omega)];exact e m _ (by simp only[Sa7];exact Rbr)
   have gj:=A.B.give (gd:=false) (nr:=nr) (nb:=nb) (hs:=hs) (adn:=adn) h sX rfl (jc.2 q rfl);refine⟨rfl,rfl,?_,?_⟩
   ·simp only[dM,cond_false,aD]
    exact⟨y8.symm,jc.1,h.one⟩
   ·intro k c hc
    simp only[dM,cond_false,Rbb,Rbx]at hc;refine .inl ⟨q,m,i,hc.1,hc.2,?_⟩;rw[y8,A.val i (by omega)];exact gj
 | rp z =>
  refine⟨rfl,by cases v<;>rfl,?_,by simp[UOk,dM]⟩;simp only[LR.n]at hi;simp only[nI]at h;simp only[dM,aD];rw[A.val i (by omega)];refine⟨⟨h.1,A.known⟩,fun _=>?_⟩
  rcases h.2 with h1|⟨ad,row,h1,h2,h3⟩
  ·exact .inl h1
  ·exact .inr ⟨ad,row,h1,h2,A.B.rd h3⟩
 | bx cs =>
  have hg:gd=false:=gv.resolve_right fun e=>by simp[bxL]at e
  simp only[LR.n]at hi;simp only[nI]at h;obtain⟨ad,rfl,h1,h2,h3⟩:=h;have a69:ad=adn:=rS ad (by simp[Qa9]);simp only[dM]at hu;have hu':UIn fj nr (eD Z.deps (y0+i) (nr+q) cs).2.1:=fun k c hc=>hu k c (Rbl _ hc)
  obtain⟨h4,h5,h6,h7,h8⟩:=Bal A (gd:=gd) (nb:=nb) (hs:=hs) (adn:=adn) h3 hi (fh.imp id fun e m y hm=>e m y (by simp only[Sa7];exact Qb9 _ hm)) (.inl hg) hh hu';have na:=(hu (kB nb) _ Rbr).1
  have gz:(gF gd ρ G w s Z nr nb G'.own hs adn).bx nb=ad:=by
   simp only[gF,if_pos trivial];exact a69.symm
  have xy:¬ (ad.block<w.heap.size/\Nau ((callG ρ G w s Z).own ad.block)=false):=by
   ·rintro⟨hb,im⟩
    cases mq:(callG ρ G w s Z).own ad.block with
    |frz=>have:=(A.B.keep hb (.inl mq)).2;rw[h2,mq]at this;cases this
    |oth=>have:=(A.B.keep hb (.inr mq)).2;rw[h2,mq]at this;cases this
    |slc _ _=>rw[mq]at im;cases im
    | box j =>
     have:=(A.B.hF.boxes ad.block j hb mq).1;rw[h2]at this
     injection this with this
     have hgc:∃ c,Sac Z.ptrs c 0 s.boxes=some j:=by
      simp only[callG]at mq
      cases hgb:G.own ad.block with
      | box c =>
       rw[hgb]at mq;dsimp only at mq;split at mq
       ·rename_i x hx
        split at mq
        ·injection mq with mq
         exact⟨c,by rw[hx,mq]⟩
        ·cases mq
       ·cases mq
      | slc r p =>
       rw[hgb]at mq;dsimp only at mq
       rcases Gao (ρ:=ρ) (dr:=Z.deps.map (·.1)) (r:=r) (p:=p) Z.rts 0 with ⟨_,_,e⟩|e|e<;>rw[e]at mq<;>cases mq
      |frz=>rw[hgb]at mq;cases mq
      |oth=>rw[hgb]at mq;cases mq
     obtain⟨c,hc⟩:=hgc;obtain⟨j',oX,lz,e1,e2,-⟩:=Gan hc;have:=(Qb8.1 e2).1;omega
  have cI:(gF gd ρ G w s Z nr nb G'.own hs adn).own ad.block=.box nb:=by
   simp only[gF];rw[if_neg xy,h2];simp[wD]
  refine⟨?_,?_,?_,?_⟩
  ·simp only[dM];exact h4
  ·simp only[Uaa];exact h6
  ·simp only[dM,aD]
   exact⟨by rw[gz];rfl,na⟩
  ·simp only[dM]
   intro k c hc
   rcases Rbg.1 hc with hc|hc
   ·obtain⟨rfl,rfl⟩:=Tbw hc
    refine .inr ⟨rfl,_,rfl,⟨by rw[gz];exact h1,by rw[gz,cI];rfl,fun j l hj=>?_⟩,by rw[gz];exact xy⟩;rw[gz];have:=h7 j l hj;rwa[Rb2]at this
   ·exact h8 k c hc
theorem Cag:∀ {ss:List LR} {i q:Nat} {vs:List Value},rY G'.own w' ds s.boxes.length i q ss vs->i+oQ ss<=ds.length->(Z.deps=[]\/Rai ρ (Sa7 (y0+i) ss)) ->
  (gd=false\/bxL ss=0)->(∀ j x,(owL w' ss vs)[j]?=some x->hs[q+j]?=some x)->(∀ ad∈Oac ss vs,ad=adn)->UIn fj nr (dW gd Z.deps nb (y0+i) (nr+q) ss).2.1 ->
  (dW gd Z.deps nb (y0+i) (nr+q) ss).2.2=nr+q+qL ss/\(owL w' ss vs).length=qL ss/\aH fj ρ (gF gd ρ G w s Z nr nb G'.own hs adn) w' (dW gd Z.deps nb (y0+i) (nr+q) ss).1 vs/\UOk (fun b=>¬ (b<w.heap.size/\Nau ((callG ρ G w s Z).own b)=false)) fj ρ (gF gd ρ G w s Z nr nb G'.own hs adn) w' nr nb y0 (dW gd Z.deps nb (y0+i) (nr+q) ss).2.1
 | [], i, q, vs, h, _, _, _, _, _, _ => by
  simp only[rY]at h;subst h;exact⟨rfl,rfl,by simp[dW,aH],by simp[UOk,dW]⟩
 | t :: ss, i, q, vs, h, hi, fh, gv, hh, rS, hu => by
  obtain⟨u,us,rfl,h1,h2⟩:=h;simp only[oQ]at hi;simp only[dW]at hu
  obtain⟨h3,h4,h5,h6⟩:=Sae A (gd:=gd) (nb:=nb) (hs:=hs) (adn:=adn) (.inr trivial) h1 (by omega) (fh.imp id fun e m y hm=>e m y (by
    cases t with
    |ow m'=>simp only[Sa7,Rbb]at hm ⊢;rw[hm];exact Rbr
    |bx cs=>simp only[Sa7,Rb1]at hm ⊢;exact Qb9 _ hm
    |_=>simp[Sa7]at hm))
   (gv.imp id fun e=>by cases t<;>simp only[bxL]at e ⊢<;>omega) (fun j x hj=>hh j x (by
    simp only[owL];rw[Rbm (Qb8.1 hj).1];exact hj))
   (fun ad hm=>rS ad (by simp only[Oac];exact Qb9 _ hm)) hu.left
  have dq:=Cag (ss:=ss) (i:=i+t.n) (q:=q+t.q) h2 (by omega) (fh.imp id fun e m y hm=>e m y (by
    cases t with
    |ow m'=>simp only[Sa7];exact Rbl _ hm
    |bx cs=>simp only[Sa7];rw[Rbp];exact Rbc _ hm
    |_=>exact hm)) (gv.imp id fun e=>by cases t<;>simp only[bxL]at e<;>omega) (fun j x hj=>by
    have:=hh (t.q+j) x (by
     simp only[owL];rw[Rbj (by rw[h4];omega),h4,Sbi];exact hj)
    rwa[<- Rbp]at this) (fun ad hm=>rS ad (by simp only[Oac];exact Rbc _ hm)) (by
    have:=hu.right;rw[h3]at this;rw[<- Rbp,<- Rbp];exact this)
  rw[<- Rbp,<- Rbp]at dq;obtain⟨h7,h8,h9,eo⟩:=dq;simp only[dW];rw[h3];refine⟨by rw[h7];simp only[qL];omega,by simp only[owL,Rbh,h4,h8,qL],?_,h6.append eo⟩;simp only[aH];exact⟨u,us,rfl,h5,h9⟩
theorem Kac:∀ {rs:List (Bool×List LR)} {i q:Nat} {us:List Value},Laa G'.own w' ds s.boxes.length i q rs us->i+bU rs<=ds.length->(Z.deps=[]\/Rai ρ (Ab4 (y0+i) rs)) ->
  (gd=false\/mE rs=0)->(∀ j x,(owR w' rs us)[j]?=some x->hs[q+j]?=some x)->(∀ ad∈Ia5 rs us,ad=adn)->UIn fj nr (kD gd Z.deps nb (y0+i) (nr+q) rs).2.1 ->
  (kD gd Z.deps nb (y0+i) (nr+q) rs).2.2=nr+q+qR rs/\(owR w' rs us).length=qR rs/\jG fj ρ (gF gd ρ G w s Z nr nb G'.own hs adn) w' (kD gd Z.deps nb (y0+i) (nr+q) rs).1 us/\UOk (fun b=>¬ (b<w.heap.size/\Nau ((callG ρ G w s Z).own b)=false)) fj ρ (gF gd ρ G w s Z nr nb G'.own hs adn) w' nr nb y0 (kD gd Z.deps nb (y0+i) (nr+q) rs).2.1
 | [], i, q, us, h, _, _, _, _, _, _ => by
  simp only[Laa]at h;subst h;exact⟨rfl,rfl,rfl,by simp[UOk,kD]⟩
 | (ag, ss) :: rs, i, q, us, h, hi, fh, gv, hh, rS, hu => by
  obtain⟨u,eE,vs,rfl,h1,h2,h3⟩:=h;simp only[bU]at hi;simp only[kD]at hu
  have fX:(if ag=true then u.cells.toList else [u])=vs:=by
   cases ag with
   | true =>
    simp only[if_true]at h2 ⊢;rw[h2];simp[Value.cells]
   |false=>simp only[Rbk,if_false]at h2 ⊢;exact h2.symm
  obtain⟨h4,h5,h6,h7⟩:=Cag A (gd:=gd) (nb:=nb) (hs:=hs) (adn:=adn) h1 (by omega) (fh.imp id fun e m y hm=>e m y (by simp only[Ab4];exact Qb9 _ hm))
   (gv.imp id fun e=>by simp only[mE]at e;omega) (fun j x hj=>hh j x (by
    simp only[owR,fX];rw[Rbm (Qb8.1 hj).1];exact hj))
   (fun ad hm=>rS ad (by simp only[Ia5,fX];exact Qb9 _ hm)) hu.left
  have dq:=Kac (rs:=rs) (i:=i+oQ ss) (q:=q+qL ss) h3 (by omega) (fh.imp id fun e m y hm=>e m y (by
    simp only[Ab4];rw[Rbp]
    exact Rbc _ hm)) (gv.imp id fun e=>by simp only[mE]at e;omega) (fun j x hj=>by
    have:=hh (qL ss+j) x (by
     simp only[owR,fX];rw[Rbj (by rw[h5];omega),h5,Sbi];exact hj)
    rwa[<- Rbp]at this) (fun ad hm=>rS ad (by simp only[Ia5];exact Rbc _ hm)) (by
    have:=hu.right;rw[h4]at this;rw[<- Rbp,<- Rbp];exact this)
  rw[<- Rbp,<- Rbp]at dq;obtain⟨h8,h9,eo,fb⟩:=dq;simp only[kD];rw[h4];exact⟨by rw[h8];simp only[qR];omega,by simp only[owR,fX,Rbh,h5,h9,qR],⟨u,eE,vs,rfl,h6,h2,eo⟩,h7.append fb⟩
theorem Baj (oo:σ (kB nb)=none):∀ {bs:List (Bool×List (BS×BO))} {b i q:Nat} {bu:List (Nat×aU)},(∀ j x,bs[j]?=some x->s.boxes[b+j]?=some x)->(nG Z.ptrs Z.deps b (y0+i) (nr+q) bs).eval σ=some bu ->
  qF G'.own w' ds (callG ρ G w s Z).bx b i q bs->i+fE bs<=ds.length->(Z.deps=[]\/Rai ρ (Wao (y0+i) bs))->(gd=false\/∀ x∈bs,x.1=false->Sam (x.2.map (·.2))=true) ->
  (∀ j x,(owB w' (callG ρ G w s Z).bx b bs)[j]?=some x->hs[q+j]?=some x)->UIn fj nr bu ->
  (∀ k c,(k,c)∈bu->(∃ q m i,k=kR (nr+q)/\c=.root (.v (y0+i)) m 0 .live/\Rp (gF gd ρ G w s Z nr nb G'.own hs adn).own w' (nr+q) [] m ((gF gd ρ G w s Z nr nb G'.own hs adn).hdr (nr+q)) ((aP.v (y0+i)).val ρ)) \/
   ∃ c0 kk ls,k=kB c0/\σ (kB c0)=some (.box false kk)/\c=.box false ls/\ls.length=kk.length /\
    ((∀ j l,kk[j]?=some l->∃ v,w.cell? ((G.bx c0).add j)=some v/\(aD σ ρ G w l v->aD fj ρ (gF gd ρ G w s Z nr nb G'.own hs adn) w' l v))->Lac fj ρ (gF gd ρ G w s Z nr nb G'.own hs adn) w' c0 false ls)) /\
  (∀ c,c∈jO false Z.ptrs b bs->∃ x,(kB c,x)∈bu)
 | [], b, i, q, bu, _, h, _, _, _, _, _, _ => by
  simp only[nG,aF,Qb7]at h;subst h;exact⟨by simp,by simp[jO]⟩
 | (ro, cs) :: bs, b, i, q, bu, yx, h, hf, hi, fh, gv, hh, hu => by
  simp only[nG]at h
  have a2j:∀ j x,bs[j]?=some x->s.boxes[b+1+j]?=some x:=fun j x hj=>by
   rw[show b+1+j=b+(j+1) by omega];exact yx (j+1) x (by simpa using hj)
  cases ro with
  | true =>
   simp only[cond_true]at h;simp only[qF,if_true]at hf;simp only[fE,cond_true,Rb2]at hi
   obtain⟨h1,h2⟩:=Baj oo (bs:=bs) (b:=b+1) a2j h hf hi (fh.imp id fun e m y hm=>e m y (by simp only[Wao,cond_true];exact hm)) (gv.imp id fun e x hx=>e x (Rbl _ hx))
    (fun j x hj=>hh j x (by simp only[owB,if_true];exact hj)) hu
   refine⟨h1,fun c hc=>h2 c ?_⟩;have e:(true==false)=false:=rfl;simp only[jO,e,cond_false]at hc;exact hc
  | false =>
   simp only[cond_false]at h;simp only[qF,Rbk,if_false]at hf;simp only[fE,cond_false]at hi;split at h
   case h_2=>cases h
   rename_i c off hp;simp only[aC,aW,Rbe]at h;split at h
   case h_2=>cases h
   rename_i kk pj;simp only[aC,Qb5,aF,Qb7]at h;obtain⟨rest,h1,rfl⟩:=h;have gz:(callG ρ G w s Z).bx b=(G.bx c).add off:=by simp only[callG,hp]
   rw[gz]at hf;have oz:=yx 0 _ rfl;rw[Sbg]at oz;obtain⟨c',lz,lP,lh,e1,e2,e3,e4⟩:=A.B.bx b false cs oz;rw[hp]at e1;obtain⟨rfl,rfl⟩:c=c'/\off=lz:=by simpa using e1
   rw[pj]at e2;obtain⟨rfl,rfl⟩:false=lP/\kk=lh:=by simpa using e2
   have wx:UIn fj nr (eD Z.deps (y0+i) (nr+q) (cs.map (·.2))).2.1:=fun k x hx=>hu k x (Rbl _ (Qb9 _ hx))
   have hu2:UIn fj nr rest:=fun k x hx=>hu k x (Rbl _ (Rbc _ hx))
   obtain⟨h2,h3,h4,h5,h6⟩:=Bal A (gd:=gd) (nb:=nb) (hs:=hs) (adn:=adn) hf.1 (by simp;omega) (fh.imp id fun e m y hm=>e m y (by simp only[Wao,cond_false];exact Qb9 _ hm))
    (gv.imp id fun e=>e _ Rbr rfl) (fun j x hj=>hh j x (by
     simp only[owB,Rbk,if_false,gz];rw[Rbm (Qb8.1 hj).1];exact hj)) wx
   rw[Rb4]at h3;rw[h2]at h1
   have dq:=Baj oo (bs:=bs) (b:=b+1) (i:=i+cs.length) (q:=q+qC (cs.map (·.2))) a2j (by rw[<- Rbp,<- Rbp];exact h1) hf.2 (by omega)
    (fh.imp id fun e m y hm=>e m y (by simp only[Wao,cond_false];rw[Rbp];exact Rbc _ hm)) (gv.imp id fun e x hx=>e x (Rbl _ hx)) (fun j x hj=>by
     have:=hh (qC (cs.map (·.2))+j) x (by
      simp only[owB,Rbk,if_false,gz];rw[Rbj (by rw[h4];omega),h4,Sbi];exact hj)
     rwa[<- Rbp]at this) hu2
   obtain⟨h7,h8⟩:=dq;refine⟨fun k x hx=>?_,fun c2 qT=>?_⟩
   ·rcases Rbg.1 hx with hx|hx
    ·obtain⟨rfl,rfl⟩:=Tbw hx
     refine .inr ⟨c,kk,_,rfl,pj,rfl,mJ (by rw[h3];exact e3),fun hold=>?_⟩;obtain⟨ox,gC,oY⟩:=A.B.hR.box pj;simp only[Rbk,if_false]at gC;have hcn:c≠nb:=fun e=>by rw[e,oo]at pj;cases pj
     have yr:(gF gd ρ G w s Z nr nb G'.own hs adn).bx c=G.bx c:=by simp only[gF,if_neg hcn]
     have qb:0<kk.length:=by have:=(e4 rfl).2;omega
     obtain⟨v0,hc0,-,-⟩:=oY 0 _ (Rba qb);have bh:(G.bx c).block<w.heap.size:=by have:=Bba hc0;rwa[add_block]at this
     obtain⟨h9,eo⟩:=A.B.boxes (gd:=gd) (nr:=nr) (nb:=nb) (hs:=hs) (adn:=adn) gC bh;refine⟨by rw[yr];exact ox,by rw[yr,h9];rfl,fun j l hj=>?_⟩;rw[yr];rw[jE (by rw[h3];exact e3)]at hj;split at hj
     ·rename_i hr
      obtain⟨v,fb,gq,jg⟩:=h5 _ l hj;rw[add_add,Rb2,show off+(j-off)=j by omega]at fb gq;exact⟨v,fb,gq,jg⟩
     ·rename_i hr
      obtain⟨v,fb,gq,jg⟩:=oY j l hj;obtain⟨v',lq,mz⟩:=hold j l hj;rw[fb]at lq;obtain rfl:=Rb5 lq
      rcases eo with eo|⟨j2,cs2,a16,ls2,c0,c1,e,fr,f1,f2,f3,f4,f5,f6,f7,f8,f9⟩
      ·exact⟨v,(iD (w:=w) (w':=w') (by rw[add_block];exact eo)).trans fb,(Iag (w:=w) (w':=w') (by rw[add_block];exact eo)).trans gq,mz jg⟩
      ·
       have a6s:qO (0+b) Z.ptrs=some (c,off):=by rw[Rb2];exact hp
       have qm:=uC A.B.hk.wr oz a6s;have f2':qO (0+j2) Z.ptrs=some (c,a16):=by rw[Rb2];exact f2
       have qp:=uC A.B.hk.wr f1 f2';rw[qm]at qp;have v7:b=j2:=by have:=Rb5 qp;omega
       subst v7;rw[hp]at f2;rw[oz]at f1;obtain⟨-,rfl⟩:c=c/\off=a16:=by simpa using f2
       obtain rfl:cs=cs2:=by simpa using f1
       rw[h3]at hr
       have cV:∀ (ww:World) (cc:Array Value),ww.heap[(G.bx c).block]?=some (.cells cc e fr)->ww.cell? ((G.bx c).add j)=cc[(G.bx c).off+j]?/\ww.frozen? ((G.bx c).add j)=(fr.1<=(G.bx c).off+j&&(G.bx c).off+j<fr.2):=by
        intro ww cc hcc;have:=Ua2 (n:=j) ox;refine⟨?_,?_⟩
        ·unfold World.cell?
         rw[add_block,hcc];simp[this,Tac]
        ·unfold World.frozen?
         rw[add_block,hcc];simp[Tac]
       obtain⟨g1,g2⟩:=cV w c0 f6;obtain⟨g3,g4⟩:=cV w' c1 f7;refine⟨v,?_,by rw[g4,<- g2];exact gq,mz jg⟩;rw[g3,f9 _ (by omega),<- g1];exact fb
    ·rcases Rbq.1 hx with hx|hx
     ·rcases h6 k x hx with h9|⟨h9,-⟩
      ·exact .inl h9
      ·exfalso
       have:∀ (l:List BO) (y n:Nat),∀ z∈(eD Z.deps y n l).2.1,∃ r,z.1=kR r:=by
        intro l
        induction l with
        |nil=>intro y n z hz;simp[eD]at hz
        | cons t l ih =>
         intro y n z hz;simp only[eD]at hz
         rcases Rbq.1 hz with hz|hz
         ·cases t<;>simp[kY]at hz
          exact⟨n,by rw[hz]⟩
         ·exact ih _ _ z hz
       obtain⟨r,hr⟩:=this _ _ _ _ hx;rw[h9]at hr;exact gB hr
     ·exact h7 k x hx
   ·simp only[jO]at qT
    have e:(false==false)=true:=rfl;rw[e,cond_true,hp]at qT
    rcases Rbg.1 qT with rfl|qT
    ·exact⟨_,Rbr⟩
    ·obtain⟨x,hx⟩:=h8 c2 qT
     exact⟨x,Rbl _ (Rbc _ hx)⟩
end
theorem Iao {f:Nat}{vs:List SV}:∀ {l:List (Nat×Sig)} {key:Nat} {s:Sig},Iap f vs l=some (key,s)->(key,s)∈l/\s.fn=f
 |[],key,s,h=>by simp[Iap]at h
 | (k, t) :: l, key, s, h => by
  simp only[Iap]at h
  revert h
  generalize hb:(Nat.beq t.fn f&&Sa9 t.params vs)=b;intro h
  cases b with
  | false =>
   rw[cond_false]at h;obtain⟨h1,h2⟩:=Iao h;exact⟨Rbl _ h1,h2⟩
  | true =>
   rw[cond_true]at h;obtain⟨rfl,rfl⟩:=Tbw (Rb5 h);simp only[Qb6,Rb3]at hb;exact⟨Rbr,hb.1⟩
section
variable {E:Env} {F:bQ} {σ:Nat->Option aU} {ρ:List D} {a:Act} {w:World} {G:Gh} {g:Option (aP×Bool)} {cf:Nat->List D->Option (List D)}
theorem Ya4 {l:aT}{s:SlR}(h:(zH l).eval σ=some s):∀ z∈s.deps,Nam σ z.1 z.2:=by
 unfold zH at h;split at h
 ·rename_i r
  simp only[aC,aW,Rbe]at h;split at h
  ·rename_i x m cQ hk
   simp only[aF,Qb7]at h;subst h;intro z hz;simp only[Rbb]at hz;subst hz;exact⟨m,x,hk⟩
  ·simp only[aF,Qb7]at h
   subst h;simp
  ·cases h
 ·rename_i deps p nie x
  simp only[aC,Qb5]at h;obtain⟨ds,h1,h2⟩:=h;obtain⟨h3,h4,h5⟩:=jX h1;split at h2
  ·simp only[aF,Qb7]at h2
   subst h2;exact fun z hz=>(h4 z hz).2
  ·rename_i r k z dz
   simp only[aC,aW,Rbe]at h2;split at h2
   ·simp only[aF,Qb7]at h2
    subst h2;intro z' ru;simp only[Rbb]at ru;subst ru;have:=h4 z (by simp);have e:=this.1;simp only[Rbb]at e;rw[e]at this;exact this.2
   ·cases h2
  ·simp only[aF,Qb7]at h2
   subst h2;exact fun z hz=>(h4 z hz).2
 ·cases h
def rtD:RT->Nat
 |.mu _ d _ _=>d
 |_=>0
def Bab:Nat->List RT->List Nat
 |_,[]=>[]
 |ν,.mu _ _ _ _::t=>ν::Bab (ν+1) t
 |ν,_::t=>Bab (ν+1) t
theorem Qah:∀ {rts:List RT} {ib j ν:Nat},(Bab ib rts)[j]?=some ν->∃ x:RT,(rts.filter yD)[j]?=some x/\ib<=ν/\rts[ν-ib]?=some x
 |[],ib,j,ν,h=>by simp[Bab]at h
 | x :: t, ib, j, ν, h => by
  have next:∀ {j:Nat},(Bab (ib+1) t)[j]?=some ν->∃ y:RT,(t.filter yD)[j]?=some y/\ib<=ν/\(x::t)[ν-ib]?=some y:=by
   intro j h;obtain⟨y,h1,h2,h3⟩:=Qah h;refine⟨y,h1,by omega,?_⟩;rw[show ν-ib=(ν-(ib+1))+1 by omega];simpa using h3
  cases x with
  | mu r d q X =>
   simp only[Bab]at h
   cases j with
   | zero =>
    simp only[Rbf,Qb7]at h;subst h;exact⟨.mu r d q X,by simp[yD,Tba],Rbt _,by simp⟩
   | succ j =>
    obtain⟨y,h1,h2,h3⟩:=next (by simpa using h);exact⟨y,by simpa[yD,Tba] using h1,h2,h3⟩
  | nil =>
   obtain⟨y,h1,h2,h3⟩:=next h;exact⟨y,by simpa[yD,Tba] using h1,h2,h3⟩
  | own r d =>
   obtain⟨y,h1,h2,h3⟩:=next h;exact⟨y,by simpa[yD,Tba] using h1,h2,h3⟩
theorem Qag:∀ (rts:List RT) (ib:Nat),(Bab ib rts).length=(rts.filter yD).length
 |[],ib=>rfl
 |x::t,ib=>by cases x<;>simp[Bab,yD,Qag t,Tba]
theorem Faz:∀ (a b:List RT) (ib:Nat),Bab ib (a++b)=Bab ib a++Bab (ib+a.length) b
 |[],b,ib=>rfl
 | x :: a, b, ib => by
  have:=Faz a b (ib+1);rw[show ib+1+a.length=ib+(a.length+1) by omega]at this;cases x<;>simp[Bab,this]
def Gby (σ:Nat->Option aU)(ρ:List D)(G:Gh)(w:World):RT->Prop
 |.nil=>True
 |.own r _=>∃ x m cQ,σ (kR r)=some (.root x m cQ .live)
 |.mu r d q X=>∃ m cQ u,σ (kR r)=some (.root X m cQ .live)/\q.length+d<=m/\Aaf G.own w r [] (G.hdr r) (bG ρ q) u
structure War (σ:Nat->Option aU) (A B:Take) (rn:List RT) (ms:List Nat) (mr:List Nat):Prop where
 rts:B.rts=A.rts++rn
 deps:∀ z∈B.deps,z∈A.deps\/Nam σ z.1 z.2
 ms:(rn.filter yD).map rtD=ms
 mr:Bab A.rts.length rn=mr
theorem Jav {A B:Take}{d:Nat}{l:aT}(h:(wL A d l).eval σ=some B):∃ rn,War σ A B rn [] []/\rn.length=1/\∀ x∈rn,Gby σ ρ G w x:=by
 unfold wL at h;split at h
 ·rename_i r
  simp only[aC,aW,Rbe]at h;split at h
  ·rename_i x m cQ hk
   simp only[aC,aO,Qb5,aF,Qb7]at h;obtain⟨_,-,rfl⟩:=h;refine⟨[.own r d],⟨rfl,fun z hz=>.inl hz,rfl,rfl⟩,rfl,fun y hy=>?_⟩;simp only[Rbb]at hy;subst hy;exact⟨x,m,cQ,hk⟩
  ·cases h
 ·simp only[aF,Qb7]at h
  subst h;refine⟨[.nil],⟨rfl,fun z hz=>.inl hz,rfl,rfl⟩,rfl,fun y hy=>?_⟩;simp only[Rbb]at hy;subst hy;trivial
 ·cases h
theorem Jay {A B:Take}{nie:Bool}{l:aT}(h:(tV A nie l).eval σ=some B):War σ A B [] [] []:=by
 unfold tV at h;simp only[aC,Qb5,aF,Qb7]at h;obtain⟨s,h1,rfl⟩:=h;exact⟨by simp,fun z hz=>(Rbq.1 hz).imp id fun hz=>Ya4 h1 z hz,rfl,rfl⟩
theorem Vaf {A B:Take}{z:Nat}{l:aT}(h:(Hab A z l).eval σ=some B):War σ A B [] [] []:=by
 unfold Hab at h;split at h
 ·simp only[aC,Qb5,aF,Qb7]at h
  obtain⟨ds,h1,rfl⟩:=h;exact⟨by simp,fun z hz=>(Rbq.1 hz).imp id fun hz=>((jX h1).2.1 z hz).2,rfl,rfl⟩
 ·simp only[aF,Qb7]at h
  subst h;exact⟨by simp,fun z hz=>.inl hz,rfl,rfl⟩
 ·cases h
theorem Oax (P:Prop)(hR:P->R E.ntmps F σ ρ a w G){A B:Take}{t:LS}{l:aT}(h:(uW g A t l).eval σ=some B)(hl:P->∃ v,aD σ ρ G w l v) :
  ∃ rn,War σ A B rn (eU [t]) (fI A.rts.length [t])/\rn.length=t.rcnt/\(P->∀ x∈rn,Gby σ ρ G w x):=by
 unfold uW at h;split at h
 ·simp only[Oau,aC,Qb5,aF,Qb7]at h
  obtain⟨x,-,rfl⟩:=h;exact⟨[],⟨by simp,fun z hz=>.inl hz,rfl,rfl⟩,rfl,by simp⟩
 ·exact⟨[],Jay h,rfl,by simp⟩
 ·rename_i _ d
  unfold Jaw at h;simp only[aC,Qb5]at h;obtain⟨sl,h1,h⟩:=h;split at h
  case h_2=>cases h
  rename_i r k m q ho;simp only[aC,aO,aW,Rbe,Qb5]at h;obtain⟨_,h2,h⟩:=h;split at h2
  case isFalse=>cases h2
  rename_i hb;simp only[Sbr]at hb;split at h
  case h_2=>cases h
  rename_i X m' v' rv;simp only[aF,Qb7]at h;subst h;refine⟨[.mu r d q X],⟨rfl,fun z hz=>.inl hz,rfl,rfl⟩,rfl,fun hP y hy=>?_⟩;simp only[Rbb]at hy;subst hy;obtain⟨v,hv⟩:=hl hP;have cI:=(eT (hR hP) h1 hv).own;unfold wR at cI;rw[ho]at cI;obtain⟨h3,⟨x,h4⟩,h5,h6,h7⟩:=cI;rw[rv]at h4
  obtain⟨rfl,rfl,rfl⟩:X=x/\m'=m/\v'=k:=by
   have:=Rb5 h4
   injection this with e1 e2 e3
   exact⟨e1,e2,e3⟩
  exact⟨_,_,_,rv,hb,h7⟩
 ·obtain⟨rn,h1,h2,h3⟩:=Jav (ρ:=ρ) (G:=G) (w:=w) h
  exact⟨rn,h1,h2,fun _=>h3⟩
 ·simp only[aF,Qb7]at h
  subst h;exact⟨[],⟨by simp,fun z hz=>.inl hz,rfl,rfl⟩,rfl,by simp⟩
 ·split at h
  ·rw[iR]at h
   split at h
   ·simp only[aF,Qb7]at h
    subst h;exact⟨[],⟨by simp,fun z hz=>.inl hz,rfl,rfl⟩,rfl,by simp⟩
   ·cases h
  ·cases h
 ·exact⟨[],Vaf h,rfl,by simp⟩
 ·cases h
theorem War.trans {A B C:Take}{rn rm:List RT}{ms ms' mr rq:List Nat}(h:War σ A B rn ms mr)(h':War σ B C rm ms' rq):War σ A C (rn++rm) (ms++ms') (mr++rq):=by
 refine⟨by rw[h'.rts,h.rts,Rbd],fun z hz=>?_,by rw[List.filter_append,List.map_append,h.ms,h'.ms],?_⟩
 ·rcases h'.deps z hz with h1|h1
  ·exact h.deps z h1
  ·exact .inr h1
 ·rw[Faz,h.mr]
  have:=h'.mr;rw[h.rts,Rbh]at this;rw[this]
theorem vK (t:LS)(ss:List LS):eU (t::ss)=eU [t]++eU ss:=by cases t<;>rfl
theorem xP (t:LS)(ss:List LS)(r:Nat):fI r (t::ss)=fI r [t]++fI (r+t.rcnt) ss:=by cases t<;>rfl
theorem xQ:∀ (x y:List LS),eU (x++y)=eU x++eU y
 |[],y=>rfl
 |t::x,y=>by rw[Tbq,vK,vK t x,xQ x y,Rbd]
theorem Aao:∀ (x y:List LS) (r:Nat),fI r (x++y)=fI r x++fI (r+lL x) y
 |[],y,r=>rfl
 | t :: x, y, r => by
  rw[Tbq,xP,xP t x,Aao x y,Rbd];simp only[lL,Rbp]
theorem Aai (P:Prop)(hR:P->R E.ntmps F σ ρ a w G):∀ {ss:List LS} {ls:List aT} {A B:Take},(dQ g A ss ls).eval σ=some B->(P->∃ vs,aH σ ρ G w ls vs) ->
  ∃ rn,War σ A B rn (eU ss) (fI A.rts.length ss)/\rn.length=lL ss/\(P->∀ x∈rn,Gby σ ρ G w x)
 | [], [], A, B, h, _ => by
  simp only[dQ,aF,Qb7]at h;subst h;exact⟨[],⟨by simp,fun z hz=>.inl hz,rfl,rfl⟩,rfl,by simp⟩
 |[],_::_,A,B,h,_=>by simp[dQ,cZ]at h
 |_::_,[],A,B,h,_=>by simp[dQ,cZ]at h
 | t :: ss, l :: ls, A, B, h, hl => by
  simp only[dQ,aC,Qb5]at h;obtain⟨C,h1,h2⟩:=h
  obtain⟨rn,h3,h4,h5⟩:=Oax P hR h1 (fun hP=>by
   obtain⟨vs,hv⟩:=hl hP;simp only[aH]at hv;obtain⟨u,us,-,hu,-⟩:=hv;exact⟨u,hu⟩)
  obtain⟨rm,h6,h7,h8⟩:=Aai P hR h2 (fun hP=>by
   obtain⟨vs,hv⟩:=hl hP;simp only[aH]at hv;obtain⟨u,us,-,-,hu⟩:=hv;exact⟨us,hu⟩)
  have:=h3.trans h6;rw[h3.rts,Rbh,h4,<- xP,<- vK]at this;exact⟨rn++rm,this,by simp[h4,h7,lL],fun hP x hx=>(Rbq.1 hx).elim (h5 hP x) (h8 hP x)⟩
theorem wZ (P:Prop)(hR:P->R E.ntmps F σ ρ a w G):∀ {ps:List (Bool×List LS)} {vs:List SV} {A B:Take},(fU g A ps vs).eval σ=some B->(P->∃ us,uR σ ρ G w vs us) ->
  ∃ rn,War σ A B rn (eU (ps.flatMap (·.2))) (fI A.rts.length (ps.flatMap (·.2)))/\rn.length=kM ps/\(P->∀ x∈rn,Gby σ ρ G w x)
 | [], [], A, B, h, _ => by
  simp only[fU,aF,Qb7]at h;subst h;exact⟨[],⟨by simp,fun z hz=>.inl hz,rfl,rfl⟩,rfl,by simp⟩
 |[],_::_,A,B,h,_=>by simp[fU,cZ]at h
 |_::_,[],A,B,h,_=>by simp[fU,cZ]at h
 | (ag, ss) :: ps, v :: vs, A, B, h, hl => by
  simp only[fU,aC,Qb5,bA]at h;obtain⟨ls,h0,C,h1,h2⟩:=h
  obtain⟨rn,h3,h4,h5⟩:=Aai P hR h1 (fun hP=>by
   obtain⟨us,u,eE,rfl,hu,-⟩:=hl hP;exact⟨_,jF h0 hu⟩)
  obtain⟨rm,h6,h7,h8⟩:=wZ P hR h2 (fun hP=>by
   obtain⟨us,u,eE,rfl,-,hu⟩:=hl hP;exact⟨eE,hu⟩)
  have:=h3.trans h6;rw[h3.rts,Rbh,h4,<- Aao,<- xQ]at this;exact⟨rn++rm,by rw[List.flatMap_cons];exact this,by simp[h4,h7,kM],fun hP x hx=>(Rbq.1 hx).elim (h5 hP x) (h8 hP x)⟩
theorem Bas:∀ {ss:List (BS×BO)} {ls:List aT} {A B:Take},(fA A ss ls).eval σ=some B->∃ rn,War σ A B rn [] []/\∀ x∈rn,Gby σ ρ G w x
 | [], ls, A, B, h => by
  simp only[fA,aF,Qb7]at h;subst h;exact⟨[],⟨by simp,fun z hz=>.inl hz,rfl,rfl⟩,by simp⟩
 |_::_,[],A,B,h=>by simp[fA,cZ]at h
 | (t, o) :: ss, l :: ls, A, B, h => by
  simp only[fA,aC,Qb5]at h;obtain⟨C,h1,h2⟩:=h;obtain⟨rm,h6,h8⟩:=Bas h2
  have key:∃ rn,War σ A C rn [] []/\∀ x∈rn,Gby σ ρ G w x:=by
   have hinv:=sG h1;clear h1
   rcases hinv with ⟨x,rfl,rfl,rfl⟩|⟨nie,rfl,h⟩|⟨d,rfl,h⟩|⟨rfl,-,rfl⟩
   ·exact⟨[],⟨by simp,fun z hz=>.inl hz,rfl,rfl⟩,by simp⟩
   ·exact⟨[],Jay h,by simp⟩
   ·obtain⟨rn,h3,-,h5⟩:=Jav (ρ:=ρ) (G:=G) (w:=w) h
    exact⟨rn,h3,h5⟩
   ·exact⟨[],⟨by simp,fun z hz=>.inl hz,rfl,rfl⟩,by simp⟩
  obtain⟨rn,h3,h5⟩:=key;exact⟨rn++rm,h3.trans h6,fun x hx=>(Rbq.1 hx).elim (h5 x) (h8 x)⟩
theorem uX {ptrs:List (Nat×Nat×Nat)}:∀ {bs:List (Bool×List (BS×BO))} {b:Nat} {A B:Take},(fQ ptrs A b bs).eval σ=some B->∃ rn,War σ A B rn [] []/\∀ x∈rn,Gby σ ρ G w x
 | [], b, A, B, h => by
  simp only[fQ,aF,Qb7]at h;subst h;exact⟨[],⟨by simp,fun z hz=>.inl hz,rfl,rfl⟩,by simp⟩
 | (ro, cs) :: bs, b, A, B, h => by
  simp only[fQ]at h;split at h
  case h_2=>cases h
  simp only[aC,aW,Rbe]at h;split at h
  case h_2=>cases h
  simp only[aC,aO,Qb5]at h;obtain⟨_,-,C,h1,h2⟩:=h;obtain⟨rn,h3,h5⟩:=Bas (ρ:=ρ) (G:=G) (w:=w) h1;obtain⟨rm,h6,h8⟩:=uX h2;exact⟨rn++rm,h3.trans h6,fun x hx=>(Rbq.1 hx).elim (h5 x) (h8 x)⟩
theorem zM (hg:gOn ρ g=true):∀ {rts:List RT} {y nv:Nat} {ml:List Step} {mu:List (Nat×aU)},(Aap y nv rts).eval σ=some (ml,mu)->aR cf ρ g nv ml ->
  (∀ k c,(k,c)∈mu->∃ (j r d:Nat) (q:List (aP×Nat×Nat)) (X X0:aP) (m cQ:Nat) (X':aP),(rts.filter yD)[j]?=some (RT.mu r d q X)/\k=kR r/\c=.root X' m (cQ+1) .live/\σ (kR r)=some (.root X0 m cQ .live)/\(q.length+d=m\/rJ d ((aP.v (y+j)).val ρ)=true)/\Upd (bG ρ q) (X.val ρ) ((aP.v (y+j)).val ρ) (X'.val ρ))
 | [], y, nv, ml, mu, h, _ => by
  simp only[Aap,aF,Qb7,Rbx]at h;obtain⟨rfl,rfl⟩:=h;simp
 | .nil :: t, y, nv, ml, mu, h, cT => by
  have:=zM hg (rts:=t) h cT;simpa[yD,Tba] using this
 | .own r d :: t, y, nv, ml, mu, h, cT => by
  have:=zM hg (rts:=t) h cT;simpa[yD,Tba] using this
 | .mu r d q X :: t, y, nv, ml, mu, h, cT => by
  simp only[Aap,aC,aW,Rbe]at h;split at h
  case h_2=>cases h
  rename_i X0 m cQ hk;simp only[aC,Qb5,aF,Qb7,Rbx]at h;obtain⟨⟨ls,us⟩,h1,rfl,rfl⟩:=h;obtain⟨hs0,a1u⟩:=aR.append cT
  obtain⟨hfd,hn0⟩:(q.length+d=m\/rJ d ((aP.v y).val ρ)=true)/\bT (bif Nat.beq (q.length+d) m then [] else [Step.prim (.dep d) [.v y] 0])=0:=by
   cases hb:Nat.beq (q.length+d) m with
   |true=>exact⟨.inl (Nat.eq_of_beq_eq_true hb),rfl⟩
   | false =>
    rw[hb,cond_false]at hs0;obtain⟨ds,h1,-,-⟩:=hs0.1.1 hg;simp only[Rby,Sbc,aS.run]at h1;split at h1
    ·rename_i hf;exact⟨.inr hf,rfl⟩
    ·cases h1
  rw[hn0,Sbg]at a1u;obtain⟨ky,gk⟩:=aR.append a1u;have dq:=zM hg h1 gk;intro k c hc
  rcases Rbg.1 hc with hc|hc
  ·obtain⟨rfl,rfl⟩:=Tbw hc
   exact⟨0,r,d,q,X,X0,m,cQ,_,by simp[yD,Tba],rfl,rfl,hk,hfd,Caq hg q nv X (.v y) ky⟩
  ·obtain⟨j,r',d',q',X',X1,m',v8,X2,h2,h3,h4,h5,tE,h6⟩:=dq k c hc
   exact⟨j+1,r',d',q',X',X1,m',v8,X2,by simpa[yD,Tba] using h2,h3,h4,h5,by rw[show y+(j+1)=y+1+j by omega];exact tE,by rw[show y+(j+1)=y+1+j by omega];exact h6⟩
theorem zN:∀ {rts:List RT} {y nv:Nat} {ml:List Step} {mu:List (Nat×aU)},(Aap y nv rts).eval σ=some (ml,mu)->∀ r,r∈dL rts->(∃ c,(kR r,c)∈mu)\/∃ c,(kR r,c)∈iE rts
 |[],y,nv,ml,mu,h,r,hr=>by simp[dL]at hr
 |.nil::t,y,nv,ml,mu,h,r,hr=>zN (rts:=t) h r hr
 | .own s d :: t, y, nv, ml, mu, h, r, hr => by
  simp only[dL,Rbg]at hr
  rcases hr with rfl|hr
  ·exact .inr ⟨_,by simp only[iE];exact Rbr⟩
  ·exact (zN (rts:=t) h r hr).imp id fun ⟨c,hc⟩=>⟨c,by simp only[iE];exact Rbl _ hc⟩
 | .mu s d q X :: t, y, nv, ml, mu, h, r, hr => by
  simp only[Aap,aC,aW,Rbe]at h;split at h
  case h_2=>cases h
  simp only[aC,Qb5,aF,Qb7,Rbx]at h;obtain⟨⟨ls,us⟩,h1,rfl,rfl⟩:=h;simp only[dL,Rbg]at hr
  rcases hr with rfl|hr
  ·exact .inl ⟨_,Rbr⟩
  ·exact (zN h1 r hr).imp (fun ⟨c,hc⟩=>⟨c,Rbl _ hc⟩) id
theorem mP:∀ {rts:List RT} {k:Nat} {c:aU},(k,c)∈iE rts->∃ r,k=kR r/\c=.root (.c .hole) 0 0 .gone
 |[],k,c,h=>by simp[iE]at h
 |.nil::t,k,c,h=>mP (rts:=t) h
 |.mu s d q X::t,k,c,h=>mP (rts:=t) h
 | .own s d :: t, k, c, h => by
  simp only[iE,Rbg,Rbx]at h
  rcases h with ⟨rfl,rfl⟩|h
  ·exact⟨s,rfl,rfl⟩
  ·exact mP h
end
theorem yQ {deps:List (Nat×Nat)}:∀ (cs:List BO) (y n:Nat),(eD deps y n cs).2.2=n+qC cs/\∀ k c,(k,c)∈(eD deps y n cs).2.1->∃ r y m,n<=r/\k=kR r/\c=.root (.v y) m 0 .live
 |[],y,n=>⟨rfl,by simp[eD]⟩
 | t :: cs, y, n => by
  have hb:(kY deps y n t).2.2=n+t.q/\∀ k c,(k,c)∈(kY deps y n t).2.1->∃ r y m,n<=r/\k=kR r/\c=.root (.v y) m 0 .live:=by
   cases t<;>refine⟨rfl,fun k c hc=>?_⟩<;>simp[kY]at hc
   exact⟨n,y,_,Rbt _,hc.1,hc.2⟩
  obtain⟨h1,h2⟩:=hb;simp only[eD];rw[h1];obtain⟨h3,h4⟩:=yQ (deps:=deps) cs (y+1) (n+t.q);refine⟨by rw[h3];simp only[qC];omega,fun k c hc=>?_⟩
  rcases Rbq.1 hc with hc|hc
  ·exact h2 k c hc
  ·obtain⟨r,y',m,h5,h6,h7⟩:=h4 k c hc
   exact⟨r,y',m,by omega,h6,h7⟩
theorem Pak {gd:Bool}{deps:List (Nat×Nat)}{nb:Nat}(t:LR)(y n:Nat):(dM gd deps nb y n t).2.2=n+t.q/\∀ k c,(k,c)∈(dM gd deps nb y n t).2.1->(∃ r y m,n<=r/\k=kR r/\c=.root (.v y) m 0 .live)\/(k=kB nb/\∃ ls,c=.box false ls):=by
 cases t with
 | bx cs =>
  obtain⟨h3,h4⟩:=yQ (deps:=deps) cs y n;simp only[dM];refine⟨h3,fun k c hc=>?_⟩
  rcases Rbg.1 hc with hc|hc
  ·obtain⟨rfl,rfl⟩:=Tbw hc
   exact .inr ⟨rfl,_,rfl⟩
  ·exact .inl (h4 k c hc)
 | ow m =>
  cases gd with
  |true=>exact⟨rfl,by simp[dM]⟩
  | false =>
   refine⟨rfl,fun k c hc=>?_⟩;simp[dM]at hc;exact .inl ⟨n,y,m,Rbt _,hc.1,hc.2⟩
 |_=>exact⟨rfl,by simp[dM]⟩
theorem Aal {gd:Bool}{deps:List (Nat×Nat)}{nb:Nat}:∀ (ss:List LR) (y n:Nat),(dW gd deps nb y n ss).2.2=n+qL ss/\∀ k c,(k,c)∈(dW gd deps nb y n ss).2.1->(∃ r y m,n<=r/\k=kR r/\c=.root (.v y) m 0 .live)\/(k=kB nb/\∃ ls,c=.box false ls)
 |[],y,n=>⟨rfl,by simp[dW]⟩
 | t :: ss, y, n => by
  obtain⟨h1,h2⟩:=Pak (gd:=gd) (deps:=deps) (nb:=nb) t y n;simp only[dW];rw[h1];obtain⟨h3,h4⟩:=Aal (gd:=gd) (deps:=deps) (nb:=nb) ss (y+t.n) (n+t.q);refine⟨by rw[h3];simp only[qL];omega,fun k c hc=>?_⟩
  rcases Rbq.1 hc with hc|hc
  ·exact h2 k c hc
  ·exact (h4 k c hc).imp (fun ⟨r,y',m,h5,h6⟩=>⟨r,y',m,by omega,h6⟩) id
theorem Har {gd:Bool}{deps:List (Nat×Nat)}{nb:Nat}:∀ (rs:List (Bool×List LR)) (y n:Nat),(kD gd deps nb y n rs).2.2=n+qR rs/\∀ k c,(k,c)∈(kD gd deps nb y n rs).2.1->(∃ r y m,n<=r/\k=kR r/\c=.root (.v y) m 0 .live)\/(k=kB nb/\∃ ls,c=.box false ls)
 |[],y,n=>⟨rfl,by simp[kD]⟩
 | (ag, ss) :: rs, y, n => by
  obtain⟨h1,h2⟩:=Aal (gd:=gd) (deps:=deps) (nb:=nb) ss y n;simp only[kD];rw[h1];obtain⟨h3,h4⟩:=Har (gd:=gd) (deps:=deps) (nb:=nb) rs (y+oQ ss) (n+qL ss);refine⟨by rw[h3];simp only[qR];omega,fun k c hc=>?_⟩
  rcases Rbq.1 hc with hc|hc
  ·exact h2 k c hc
  ·exact (h4 k c hc).imp (fun ⟨r,y',m,h5,h6⟩=>⟨r,y',m,by omega,h6⟩) id
theorem yP {σ:Nat->Option aU}{ptrs:List (Nat×Nat×Nat)}{deps:List (Nat×Nat)}:∀ {bs:List (Bool×List (BS×BO))} {b y n:Nat} {bu:List (Nat×aU)},(nG ptrs deps b y n bs).eval σ=some bu ->
  ∀ k c,(k,c)∈bu->(∃ r y m,n<=r/\k=kR r/\c=.root (.v y) m 0 .live)\/(∃ c0 kk ls,k=kB c0/\σ (kB c0)=some (.box false kk)/\c=.box false ls)
 | [], b, y, n, bu, h => by
  simp only[nG,aF,Qb7]at h;subst h;simp
 | (ro, cs) :: bs, b, y, n, bu, h => by
  simp only[nG]at h
  cases ro with
  |true=>exact yP (bs:=bs) h
  | false =>
   simp only[cond_false]at h;split at h
   case h_2=>cases h
   simp only[aC,aW,Rbe]at h;split at h
   case h_2=>cases h
   rename_i kk pj;simp only[aC,Qb5,aF,Qb7]at h;obtain⟨rest,h1,rfl⟩:=h;obtain⟨h3,h4⟩:=yQ (deps:=deps) (cs.map (·.2)) y n;rw[h3]at h1;intro k c hc
   rcases Rbg.1 hc with hc|hc
   ·obtain⟨rfl,rfl⟩:=Tbw hc
    exact .inr ⟨_,_,_,rfl,pj,rfl⟩
   ·rcases Rbq.1 hc with hc|hc
    ·exact .inl (h4 k c hc)
    ·exact (yP h1 k c hc).imp (fun ⟨r,y',m,h5,h6⟩=>⟨r,y',m,by omega,h6⟩) id
theorem Lab {own:Nat->Ow}{w:World}{ds:List D}{gh:Nat->Value}:∀ {ms:List Nat} {i j k d:Nat},Ua5 own w ds gh i j ms->ms[k]?=some d->Rp own w (2*(j+k)+1) [] d (gh (j+k)) (ds.getD (i+k) .undef)
 |[],i,j,k,d,_,h=>by simp at h
 | e :: ms, i, j, 0, d, h, hk => by
  simp only[Rbf,Qb7]at hk;subst hk;exact h.1
 | e :: ms, i, j, k + 1, d, h, hk => by
  have:=Lab h.2 (k:=k) (by simpa using hk);rw[show j+(k+1)=j+1+k by omega,show i+(k+1)=i+1+k by omega];exact this
theorem jG.len {σ:Nat->Option aU}{ρ:List D}{G:Gh}{w:World}:∀ {ts:List (Bool×List aT)} {us:List Value},jG σ ρ G w ts us->us.length=ts.length
 |[],us,h=>by simp only[jG]at h;subst h;rfl
 | (a, ls) :: r, us, h => by
  obtain⟨u,eE,vs,rfl,-,-,h3⟩:=h;simp[jG.len h3]
theorem Ya1 {σ:Nat->Option aU}{ρ:List D}{G:Gh}{w:World}{g:Option (aP×Bool)}(hg:gOn ρ g=true){rs:List (Bool×List aT)}{us:List Value}(h:jG σ ρ G w rs us):dI σ ρ G w (Caf g rs) (Faq us):=by
 unfold Caf;split
 ·rename_i x
  obtain⟨u,eE,vs,rfl,h1,h2,h3⟩:=h;simp only[jG]at h3;subst h3;simp only[Rbk,if_false]at h2;subst h2;simp only[aH,Sbz]at h1;obtain⟨u',eE,⟨rfl,rfl⟩,h4,-⟩:=h1;simp only[aD]at h4;simp only[Faq]
  cases g with
  |none=>simp only[mkS,dI,aD];exact h4
  |some z=>simp only[mkS,dI,aD];exact⟨.inl h4,fun _=>h4⟩
 ·rename_i l _
  obtain⟨u,eE,vs,rfl,h1,h2,h3⟩:=h;simp only[jG]at h3;subst h3;simp only[Rbk,if_false]at h2;subst h2;simp only[aH,Sbz]at h1;obtain⟨u',eE,⟨rfl,rfl⟩,h4,-⟩:=h1;simp only[Faq,dI];exact h4
 ·rename_i ls
  obtain⟨u,eE,vs,rfl,h1,h2,h3⟩:=h;simp only[jG]at h3;subst h3;simp only[if_true]at h2;simp only[Faq,dI];exact⟨vs,h2,h1⟩
 ·rename_i _ h1 h2 h3
  simp only[dI]
  match us,rs,h with
  |[],[],h=>exact⟨[],rfl,h⟩
  | [u], [(a, ls)], h =>
   exfalso;obtain⟨u',eE,vs,e,h4,h5,h6⟩:=h;obtain⟨rfl,rfl⟩:=Ub2 e
   cases a with
   |true=>exact h3 ls rfl
   | false =>
    simp only[Rbk,if_false]at h5;subst h5;have:=h4.len
    match ls,this with
    |[l],_=>exact h2 l rfl
  |u::u'::us,r::r'::rs,h=>exact⟨_,rfl,h⟩
  |[],_::_,h=>have:=h.len;simp at this
  |[_],[],h=>have:=h.len;simp at this
  |[_],_::_::_,h=>have:=h.len;simp at this
  |_::_::_,[],h=>have:=h.len;simp at this
  |_::_::_,[_],h=>have:=h.len;simp at this
theorem wC {σ:Nat->Option aU}{ptrs:List (Nat×Nat×Nat)}:∀ {bs:List (Bool×List (BS×BO))} {b:Nat} {xs:List aP},(jP ptrs b bs).eval σ=some xs->∀ x∈bs,x.1=false->Sam (x.2.map (·.2))=true
 |[],b,xs,h,x,hx,_=>by simp at hx
 | (ro, cs) :: bs, b, xs, h, x, hx, xr => by
  simp only[jP]at h
  cases ro with
  | true =>
   simp only[cond_true]at h
   rcases Rbg.1 hx with rfl|hx
   ·cases xr
   ·exact wC h x hx xr
  | false =>
   simp only[cond_false]at h;split at h
   case h_2=>cases h
   simp only[aC,aW,Rbe]at h;split at h
   case h_2=>cases h
   simp only[aC,Qb5,aF,Qb7]at h;obtain⟨l,h1,m,h2,-⟩:=h
   rcases Rbg.1 hx with rfl|hx
   ·clear h2
    rename_i kk _;generalize kk.drop _=ls at h1;dsimp only;clear hx xr
    induction cs generalizing ls l with
    |nil=>rfl
    | cons t cs ih =>
     obtain⟨s,o⟩:=t
     cases ls with
     |nil=>simp[lU,cZ]at h1
     | cons x ls =>
      simp only[lU,aC,Qb5]at h1;obtain⟨y,h3,r,h4,-⟩:=h1;have:=ih _ _ h4
      cases o with
      |ow m=>cases s<;>simp[cZ]at h3
      |_=>simpa[Sam] using this
   ·exact wC h2 x hx xr
def Waj (o:Oper)(g:Option (aP×Bool))(rs:List (Bool×List aT)):List (Nat×aU):=match o.dst with
 |some d=>[(kT d,.slot (Ebk g (Caf g rs)) (Caf g rs))]
 |none=>[]
section
variable {E:Env} {F:bQ} {σ:Nat->Option aU} {ρ:List D} {a:Act} {w w':World} {G:Gh} {g:Option (aP×Bool)} {cf:Nat->List D->Option (List D)} {o:Oper} {s:Sig} {T Z:Take} {nb nr y0 nvm:Nat}
theorem Dan {rs:List (Bool×List aT)}:Waj o g rs=eO o (Ebk g (Caf g rs)) (Caf g rs):=rfl
theorem Bbb (hR:R E.ntmps F σ ρ a w G)(hg:gOn ρ g=true)(hd:gG E.ntmps o)(hf:Da2 σ nb nr){vs:List SV}{us0:List Value}(oc:uR σ ρ G w vs us0)
  (hT:(fU g Take.empty s.params vs).eval σ=some T) (hZ:(fQ T.ptrs T 0 s.boxes).eval σ=some Z) (hk:Ka8 s Z) (a2p:mE s.results<=1)
  (gv:noG g=true\/(mE s.results=0/\∃ olds,(jP Z.ptrs 0 s.boxes).eval σ=some olds))
  {rs:List (Bool×List aT)} {us bu mu:List (Nat×aU)} {xe:Nat} {ml:List Step} {ds:List D} (kg:kD (!noG g) Z.deps nb y0 nr s.results=(rs,us,xe))
  (pH:(nG Z.ptrs Z.deps 0 (y0+bU s.results+(Z.rts.filter yD).length) xe s.boxes).eval σ=some bu) {nv1:Nat} (xu:(Aap (y0+bU s.results) nv1 Z.rts).eval σ=some (ml,mu))
  (hlen:ds.length=bU s.results+(Z.rts.filter yD).length+fE s.boxes) (fk:∀ j d,ds[j]?=some d->(aP.v (y0+j)).val ρ=d)
  (qg:Z.deps=[]\/Rai ρ (Ab4 y0 s.results++Ab5 (y0+bU s.results) Z.rts++Wao (y0+bU s.results+(Z.rts.filter yD).length) s.boxes)) (tI:aR cf ρ g nv1 ml)
  (pD:(Waj o g rs++(us++bu++mu++iE Z.rts)).all (fun x=>Aad E.ntmps nb nr x.1)=true)
  {v:Value} (pg:Taf s (tL s (callG ρ G w s Z) w) (callG ρ G w s Z).bx v w' ds) :
  ∃ G2,R E.ntmps F (upds σ (Waj o g rs++(us++bu++mu++iE Z.rts))) ρ (a.put o.dst v) w' G2:=by
 obtain⟨G',eE,rfl,hF,a18,a4z,ln⟩:=pg;obtain⟨hle1,qd,wA⟩:=mG hZ;rw[<- qd]at wA;obtain⟨rn,uq,hn2,hn3⟩:=wZ True (fun _=>hR) hT (fun _=>⟨us0,oc⟩);obtain⟨rm,hn4,hn5⟩:=uX (ρ:=ρ) (G:=G) (w:=w) hZ;have ij:=uq.trans hn4;have sA:Z.rts=rn++rm:=by have:=ij.rts;simpa[Take.empty] using this
 have tU:∀ x∈Z.rts,Gby σ ρ G w x:=by
  rw[sA];exact fun x hx=>(Rbq.1 hx).elim (hn3 trivial x) (hn5 x)
 have hms:(Z.rts.filter yD).map rtD=eU (s.params.flatMap (·.2)):=by
  have:=ij.ms;rw[<- sA,Rb1]at this;exact this
 have hmr:Bab 0 Z.rts=fI 0 (s.params.flatMap (·.2)):=by
  have:=ij.mr;rw[<- sA,Rb1]at this;exact this
 have qS:∀ z∈Z.deps,Nam σ z.1 z.2:=fun z hz=>by
  rcases ij.deps z hz with h|h
  ·simp[Take.empty]at h
  ·exact h
 have B:Raj E F σ ρ a w G s Z G' w':=by
  refine⟨hR,hk,hF,fun j ro cs hj=>by have:=wA j ro cs hj;rwa[Rb2]at this,qS,fun ν r d q X uo=>?_,fun ν r d uo=>?_⟩
  ·obtain⟨m,cQ,u,h1,h2,h3⟩:=tU _ (Rbn uo)
   exact⟨m,cQ,u,h1,h2,h3⟩
  ·obtain⟨x,m,cQ,h1⟩:=tU _ (Rbn uo)
   exact⟨x,m,cQ,h1⟩
 generalize hU:Waj o g rs++(us++bu++mu++iE Z.rts)=U at pD ⊢
 let hs:=owR w' s.results eE++owB w' (callG ρ G w s Z).bx 0 s.boxes
 let adn:=(Ia5 s.results eE).headD ⟨0,0,none⟩
 let G2:=gF (!noG g) ρ G w s Z nr nb G'.own hs adn
 have yj:∀ k c,(k,c)∈U->(k,c)∈Waj o g rs\/(k,c)∈us\/(k,c)∈bu\/(k,c)∈mu\/(k,c)∈iE Z.rts:=by
  intro k c hc;rw[<- hU]at hc
  rcases Rbq.1 hc with hc|hc
  ·exact .inl hc
  ·rcases Rbq.1 hc with hc|hc
   ·rcases Rbq.1 hc with hc|hc
    ·rcases Rbq.1 hc with hc|hc
     ·exact .inr (.inl hc)
     ·exact .inr (.inr (.inl hc))
    ·exact .inr (.inr (.inr (.inl hc)))
   ·exact .inr (.inr (.inr (.inr hc)))
 have hUdst:∀ z∈Waj o g rs,z∈U:=fun z hz=>by rw[<- hU];exact Qb9 _ hz
 have a7v:∀ z∈us,z∈U:=fun z hz=>by rw[<- hU];exact Rbc _ (Qb9 _ (Qb9 _ (Qb9 _ hz)))
 have a2i:∀ z∈bu,z∈U:=fun z hz=>by rw[<- hU];exact Rbc _ (Qb9 _ (Qb9 _ (Rbc _ hz)))
 have a71:∀ z∈mu,z∈U:=fun z hz=>by rw[<- hU];exact Rbc _ (Qb9 _ (Rbc _ hz))
 have a34:∀ z∈iE Z.rts,z∈U:=fun z hz=>by rw[<- hU];exact Rbc _ (Rbc _ hz)
 have a2r:∀ k c,(k,c)∈U->Aad E.ntmps nb nr k=true:=fun k c hc=>by
  rw[Rb6]at pD;exact pD _ hc
 obtain⟨sf,sB⟩:=Har (gd:=!noG g) (deps:=Z.deps) (nb:=nb) s.results y0 nr;rw[kg]at sf sB;dsimp only at sf sB;subst sf;have a5y:=yP pH;have qk:=zM hg xu tI;have pd:∀ r c,(kR r,c)∈U->nr<=r->σ (kR r)=none:=fun r c hc hr=>hf.nr r hr (Eau (a2r _ _ hc))
 have yt:∀ k c,(k,c)∈Waj o g rs->∃ d,o.dst=some d/\k=kT d/\c=.slot (Ebk g (Caf g rs)) (Caf g rs):=fun k c hc=>by
  rw[Dan]at hc;exact zU hc
 have fq:Fr σ G w (upds σ U) G2 w':=by
  refine Fr.of (fun b hb bh=>B.frz hb bh) (fun r b p iw hb=>?_) (fun r c hc gl=>?_) (fun r x m k hkz b p hb=>?_) (fun r hr=>?_) (fun b hb=>?_)
  ·refine B.other (fun hr=>?_) hb
   rcases zN xu r hr with ⟨c,hc⟩|⟨c,hc⟩
   ·exact iw c (a71 _ hc)
   ·exact iw c (a34 _ hc)
  ·rcases yj _ _ hc with h|h|h|h|h
   ·obtain⟨d,-,e,-⟩:=yt _ _ h
    exact absurd e.symm jL
   ·rcases sB _ _ h with ⟨r',y,m,h1,h2,rfl⟩|⟨h1,-⟩
    ·obtain rfl:=fT h2
     exact .inl ⟨pd r _ hc h1,_,_,_,_,rfl⟩
    ·exact absurd h1.symm gB
   ·rcases a5y _ _ h with ⟨r',y,m,h1,h2,rfl⟩|⟨c0,kk,ls,h1,-⟩
    ·obtain rfl:=fT h2
     exact .inl ⟨pd r _ hc (by omega),_,_,_,_,rfl⟩
    ·exact absurd h1.symm gB
   ·obtain⟨j,r',d,q,X,X0,m,cQ,X',h1,h2,rfl,h3,-⟩:=qk _ _ h
    obtain rfl:=fT h2;exact .inr (.inl ⟨_,_,_,_,_,h3,rfl⟩)
   ·obtain⟨r',h1,rfl⟩:=mP h
    exact .inr (.inr (.inl ⟨_,_,_,_,rfl,by simp,by simp⟩))
  ·have hb:G2.own b=.slc r p:=hb
   simp only[G2,gF]at hb;split at hb
   ·cases e:G.own b with
    | slc r' p' =>
     rw[e]at hb;simp only[Aa9]at hb;split at hb
     ·cases hb
     ·split at hb
      ·split at hb
       ·exact hb
       ·cases hb
      ·exact hb
     ·exact hb
    |_=>rw[e]at hb;simp[Aa9]at hb
   ·cases e:G'.own b with
    | slc t p' =>
     rw[e]at hb;simp only[wD]at hb;split at hb
     ·split at hb
      ·cases hb
      ·split at hb
       ·rename_i bh
        injection hb with e1 e2
        have:=hf.nr r (by omega) (by omega);rw[this]at hkz;cases hkz
       ·cases hb
     ·split at hb
      ·rename_i r' d q X a30
       injection hb with e1 e2
       subst e1;have hm:=(List.mem_filter.1 (Rbn a30)).1;obtain⟨m',v8,u',h1,-⟩:=tU _ hm;rw[h1]at hkz;cases hkz
      ·cases hb
    | box β =>
     rw[e]at hb;simp only[wD]at hb;split at hb<;>cases hb
    |_=>rw[e]at hb;simp[wD]at hb
  ·show (if nr<=r/\r<nr+dE then _ else G.hdr r)=_
   rw[if_neg]
   rintro⟨h1,h2⟩
   rw[hf.nr r h1 h2]at hr;cases hr
  ·show (if b=nb then adn else G.bx b)=_
   rw[if_neg];intro e;rw[e,hf.nb]at hb;cases hb
 have na:∀ k c,(k,c)∈U->(upds σ U k).isSome:=fun k c hc=>eZ _ _ _ (.inr ⟨c,hc⟩)
 have a13:∀ l:List (Nat×aU),(∀ z∈l,z∈U)->UIn (upds σ U) nr l:=fun l hl k c hc=>by
  refine⟨na k c (hl _ hc),fun q e=>?_⟩;have:=a2r _ _ (hl _ hc);rw[e]at this;have:=Eau this;omega
 have yf:∀ i,i<ds.length->(aP.v (y0+i)).val ρ=ds.getD i .undef:=fun i hi=>by
  rw[Rbi,Rba hi,Tbd];exact fk i _ (Rba hi)
 have A:Aft E F σ (upds σ U) ρ a w G s Z G' w' y0 ds:=by
  refine⟨B,yf,fun z hz=>fq.known _ _ ?_⟩;obtain⟨m,x,hx⟩:=qS z hz;exact⟨x,m,z.2,.live,hx,fun _=>Rbt _⟩
 have a42:(!noG g)=false\/mE s.results=0:=by
  rcases gv with h|h
  ·exact .inl (by rw[h];rfl)
  ·exact .inr h.1
 have tG:=Kac A (gd:=!noG g) (nb:=nb) (nr:=nr) (hs:=hs) (adn:=adn) (i:=0) (q:=0) a18 (by omega) (qg.imp id fun h m y hm=>h m y (Qb9 _ (Qb9 _ hm)))
  a42 (fun j x hj=>by
   rw[Rb2];show (owR w' s.results eE++_)[j]?=some x
   rw[Rbm (Qb8.1 hj).1]
   exact hj) (fun ad rS=>by
   have hl:=Raa s.results eE;show ad=(Ia5 s.results eE).headD _
   match hb:Ia5 s.results eE,rS with
   |[x],rS=>simpa using rS
   |x::y::l,rS=>rw[hb]at hl;simp at hl;omega) (by
   rw[Sbg,Sbg,kg];exact a13 us a7v)
 rw[Sbg,Sbg,kg]at tG;dsimp only at tG;obtain⟨-,ou,a4v,a29⟩:=tG;have yk:(eU (s.params.flatMap (·.2))).length=(Z.rts.filter yD).length:=by rw[<- hms];simp
 rw[yk]at ln
 have a5h:=Baj A (gd:=!noG g) (nb:=nb) (nr:=nr) (hs:=hs) (adn:=adn) hf.nb (bs:=s.boxes) (b:=0) (i:=bU s.results+(Z.rts.filter yD).length) (q:=qR s.results) (bu:=bu) (by simp)
  (by rw[<- Rbp];exact pH) ln (by omega) (qg.imp id fun h m y hm=>h m y (Rbc _ (by rw[Rbp];exact hm)))
  (by
   rcases gv with h|⟨-,olds,h⟩
   ·exact .inl (by rw[h];rfl)
   ·exact .inr (wC h)) (fun j x hj=>by
   show (owR w' s.results eE++owB w' (callG ρ G w s Z).bx 0 s.boxes)[qR s.results+j]?=some x
   rw[Rbj (by omega),ou,Sbi];exact hj) (a13 bu a2i)
 obtain⟨a2o,a6x⟩:=a5h;refine⟨G2,hR.upd U fq (by rw[Caj];exact hR.tmps) (by rw[put_defers];exact hR.defers) B.frame (fun t ht=>?_) (fun b ro ls hb iw=>?_) (fun b ls hb bh ho=>?_) (fun k c hc gl=>?_)⟩
 ·rw[<- hU,Dan]at ht
  exact Gak ht
 ·
  obtain⟨h1,h2,h3⟩:=hR.box hb
  have bh:(G.bx b).block<w.heap.size:=by
   rcases Rbu (G.bx b).block w.heap.size with h|h
   ·exact h
   ·rw[hR.frame.fresh _ h]at h2
    split at h2<;>cases h2
  cases ro with
  | true =>
   simp only[if_true]at h2;obtain⟨h4,h5⟩:=B.oth (gd:=!noG g) (nr:=nr) (nb:=nb) (hs:=hs) (adn:=adn) h2 bh;exact⟨h4.trans h2.symm,h5⟩
  | false =>
   simp only[Rbk,if_false]at h2;obtain⟨h4,h5⟩:=B.boxes (gd:=!noG g) (nr:=nr) (nb:=nb) (hs:=hs) (adn:=adn) h2 bh;refine⟨h4.trans h2.symm,?_⟩
   rcases h5 with h5|⟨j,cs,off,ls2,c0,c1,e,fr,e1,e2,e3,e4,-⟩
   ·exact h5
   ·exfalso
    have hm:=wB (wr:=false) (b:=0) e1 (by rw[Rb2];exact e2);obtain⟨x,hx⟩:=a6x b hm;exact iw x (a2i _ hx)
 ·
  rcases yj _ _ hb with h|h|h|h|h
  ·obtain⟨d,-,e,-⟩:=yt _ _ h
   exact absurd e.symm nC
  ·rcases a29 _ _ h with ⟨q,m,i,e,-⟩|⟨e,lh,e2,hbr,oo⟩
   ·exact absurd e gB
   ·exfalso
    have e:=Ca6 e;subst e;refine oo ⟨Nat.lt_of_lt_of_le bh hR.frame.size,?_⟩;have h1:=(hR.frame.boxes _ _ bh ho).1
    have h2:(callG ρ G w s Z).own ((gF (!noG g) ρ G w s Z nr b G'.own hs adn).bx b).block=.oth\/∃ j,(callG ρ G w s Z).own ((gF (!noG g) ρ G w s Z nr b G'.own hs adn).bx b).block=.box j:=by
     have tw:G.own ((gF (!noG g) ρ G w s Z nr b G'.own hs adn).bx b).block=.box b:=h1;simp only[callG,tw];split
     ·split
      ·exact .inr ⟨_,rfl⟩
      ·exact .inl rfl
     ·exact .inl rfl
    rcases h2 with h2|⟨j,h2⟩<;>rw[h2]<;>rfl
  ·rcases a2o _ _ h with ⟨q,m,i,e,-⟩|⟨c0,kk,lh,e,h1,h2,h3,-⟩
   ·exact absurd e gB
   ·obtain rfl:=Ca6 e
    injection h2 with e1 e2
    have hbn:G2.bx b=G.bx b:=fq.bx b (by rw[h1];rfl);rw[hbn]at bh ho ⊢;rw[hR.rng b kk h1 bh ho,e2,h3]
  ·obtain⟨j,r',d,q,X,X0,m,cQ,X',h1,h2,-⟩:=qk _ _ h
   exact absurd h2 gB
  ·obtain⟨r',h1,-⟩:=mP h
   exact absurd h1 gB
 ·rcases yj _ _ hc with h|h|h|h|h
  ·obtain⟨d,np,rfl,rfl⟩:=yt _ _ h
   refine⟨d,rfl,fun _=>?_⟩;rw[np,qK _ _ _ _ _ (hd d np) hR.tmps];exact Ya1 hg a4v
  ·rcases a29 _ _ h with ⟨q,m,i,rfl,rfl,gj⟩|⟨rfl,lh,rfl,hbr,-⟩
   ·exact⟨nr+q,rfl,by rw[gl];rfl,gj⟩
   ·exact⟨nb,rfl,hbr⟩
  ·rcases a2o _ _ h with ⟨q,m,i,rfl,rfl,gj⟩|⟨c0,kk,lh,rfl,h1,rfl,h3,h4⟩
   ·exact⟨nr+q,rfl,by rw[gl];rfl,gj⟩
   ·refine⟨c0,rfl,h4 fun j l hj=>?_⟩
    obtain⟨-,-,eM⟩:=hR.box h1;obtain⟨v,uu,hv2,hv3⟩:=eM j l hj;exact⟨v,uu,fun hl=>aD.mono fq l v hl⟩
  ·obtain⟨j,r',d,q,X,X0,m,cQ,X',h1,rfl,rfl,h3,hfd,h4⟩:=qk _ _ h
   refine⟨r',rfl,by rw[gl];rfl,?_⟩;show Rp G2.own w' r' [] m (G2.hdr r') (X'.val ρ)
   have y8:G2.hdr r'=G.hdr r':=fq.hdr r' (by rw[h3];rfl);rw[y8];have a7z:=(Qb8.1 h1).1;have mf:j<(Bab 0 Z.rts).length:=by rw[Qag];exact a7z
   have uo:=Rba mf;obtain⟨x,qm,-,qp⟩:=Qah uo;rw[h1]at qm;obtain rfl:=Rb5 qm;rw[Nat.sub_zero]at qp
   have hd0:(eU (s.params.flatMap (·.2)))[j]?=some d:=by
    rw[<- hms,Sbd,h1];rfl
   have ja:=Lab a4z hd0;rw[Rb2]at ja
   have hy:(aP.v (y0+bU s.results+j)).val ρ=ds.getD (bU s.results+j) .undef:=by
    rw[Rbp];exact yf _ (by omega)
   rw[<- hy]at ja
   have y4:(tL s (callG ρ G w s Z) w).gh j=Zai w (G.hdr r') (bG ρ q):=by
    simp only[tL,Iai,Rbi];rw[<- hmr,Rbm (by simpa using mf),Sbd,uo];simp only[Sbq,Tbd];rw[Dax qp];rfl
   rw[y4]at ja;refine B.mu h3 hfd qp h1 (fun u' hn=>Eai hn) ja (qg.imp id fun hc=>?_) h4
   have fm:∀ (rts:List RT) (y j:Nat) (r d:Nat) (q:List (aP×Nat×Nat)) (X:aP),(rts.filter yD)[j]?=some (RT.mu r d q X)->Step.prim (.dep d) [.v (y+j)] 0∈Ab5 y rts:=by
    intro rts
    induction rts with
    |nil=>intro y j r d q X h;simp at h
    | cons x t ih =>
     intro y j r d q X h
     cases x with
     |nil=>exact ih y j r d q X (by simpa[yD,Tba] using h)
     |own _ _=>exact ih y j r d q X (by simpa[yD,Tba] using h)
     | mu r' d' q' X' =>
      simp only[Ab5]
      cases j with
      | zero =>
       simp[yD,Tba]at h;rw[h.2.1];exact Rbr
      | succ j =>
       have:=ih (y+1) j r d q X (by simpa[yD,Tba] using h);rw[show y+1+j=y+(j+1) by omega]at this;exact Rbl _ this
   exact hc d _ (Qb9 _ (Rbc _ (fm _ _ _ _ _ _ _ h1)))
  ·obtain⟨r',rfl,rfl⟩:=mP h
   exact⟨r',rfl,by rw[gl];rfl,trivial⟩
end
theorem Ea6:∀ (cs:List BO) (y:Nat),bT (qB y cs)=0
 |[],y=>rfl
 |t::cs,y=>by cases t<;>simp only[qB,jH,Step.n,Ea6 cs]
theorem Gbs:∀ (ss:List LR) (y:Nat),bT (Sa7 y ss)=0
 |[],y=>rfl
 |t::ss,y=>by cases t<;>simp only[Sa7,jH,fV,Step.n,Ea6,Gbs ss]
theorem Gbq:∀ (rs:List (Bool×List LR)) (y:Nat),bT (Ab4 y rs)=0
 |[],y=>rfl
 |(a,ss)::rs,y=>by simp only[Ab4,fV,Gbs,Gbq rs]
theorem Gbr:∀ (ts:List RT) (y:Nat),bT (Ab5 y ts)=0
 |[],y=>rfl
 |t::ts,y=>by cases t<;>simp only[Ab5,jH,Step.n,Gbr ts]
theorem Gbt:∀ (bs:List (Bool×List (BS×BO))) (y:Nat),bT (Wao y bs)=0
 |[],y=>rfl
 |(ro,cs)::bs,y=>by cases ro<;>simp only[Wao,cond_true,cond_false,fV,Ea6,Gbt bs]
theorem Uan {ρ:List D}{g:Option (aP×Bool)}{cf:Nat->List D->Option (List D)}(hg:gOn ρ g=true):∀ {l:List Step} {nv:Nat},aR cf ρ g nv l->Rai ρ l
 |[],nv,h=>fun m y hm=>by simp at hm
 | t :: l, nv, h => fun m y hm => by
  rcases Rbg.1 hm with e|hm
  ·subst e
   obtain⟨ds,h1,-,-⟩:=h.1.1 hg;simp only[Rby,Sbc,aS.run]at h1;split at h1
   ·rename_i hf;exact hf
   ·cases h1
  ·exact Uan hg h.2 m y hm
theorem Pal {deps:List (Nat×Nat)}{nb:Nat}:∀ (rs:List (Bool×List LR)) (y n:Nat),mE rs=0->(kD true deps nb y n rs).2.1=[]
 |[],y,n,_=>rfl
 | (a, ss) :: rs, y, n, h => by
  simp only[mE]at h
  have hl:∀ (ss:List LR) (y n:Nat),bxL ss=0->(dW true deps nb y n ss).2.1=[]:=by
   intro ss
   induction ss with
   |nil=>intro y n _;rfl
   | cons t ss ih =>
    intro y n h
    cases t with
    |bx cs=>simp[bxL]at h
    |_=>simp only[dW,dM,cond_true,Sbm];exact ih _ _ (by simpa[bxL] using h)
  simp only[kD,hl ss y n (by omega),Sbm];exact Pal rs _ _ (by omega)
theorem Kad {gd:Bool}{deps:List (Nat×Nat)}{nb y n:Nat}{rs:List (Bool×List LR)}{l:aT}(h:(kD gd deps nb y n rs).1=[(false,[l])]):(∀ g x,l≠.su g x)/\∀ x,l=.sc x->x=.v y/\1<=bU rs:=by
 match rs,h with
 |[],h=>simp[kD]at h
 |(a,ss)::r::rs,h=>simp[kD]at h
 | [(a, ss)], h =>
  simp only[kD,Sbz,Rbx,and_true]at h;obtain⟨-,h⟩:=h
  match ss,h with
  |[],h=>simp[dW]at h
  |t::t'::ss,h=>simp[dW]at h
  | [t], h =>
   simp only[dW,Sbz,and_true]at h;subst h
   cases t with
   |sc=>exact⟨fun g x e=>by simp[dM]at e,fun x e=>by simp[dM]at e;exact⟨e.symm,by simp[bU,oQ,LR.n]⟩⟩
   |ow m=>cases gd<;>exact⟨fun g x e=>by simp[dM]at e,fun x e=>by simp[dM]at e⟩
   |_=>exact⟨fun g x e=>by simp[dM]at e,fun x e=>by simp[dM]at e⟩
theorem Ya2 {σ:Nat->Option aU}{ρ:List D}{G:Gh}{w:World}{z:aP×Bool}(hg:gOn ρ (some z)=false){gd:Bool}{deps:List (Nat×Nat)}{nb y n:Nat}{rs0:List (Bool×List LR)}{rs:List (Bool×List aT)}
  (hrs:(kD gd deps nb y n rs0).1=rs) (hv:1<=bU rs0->(aP.v y).val ρ=.undef) (h:gOn ρ (Ebk (some z) (Caf (some z) rs))=true):dI σ ρ G w (Caf (some z) rs) undef:=by
 unfold Caf at h ⊢;split at h
 ·rename_i x
  obtain⟨h1,h2⟩:=(Kad hrs).2 x rfl;subst h1;simp only[mkS,dI,aD];exact⟨.inr ⟨trivial,hv h2⟩,fun e=>by rw[hg]at e;cases e⟩
 ·rename_i l dz
  have xx:=(Kad hrs).1;exfalso
  revert h xx
  cases l with
  |su g' x'=>exact fun _ xx=>xx g' x' rfl
  |_=>intro e _;simp only[Ebk]at e;rw[hg]at e;cases e
 ·simp only[Ebk]at h;rw[hg]at h;cases h
 ·simp only[Ebk]at h;rw[hg]at h;cases h
section
variable {P:Program} {E:Env} {F:bQ} {σ:Nat->Option aU} {ρ:List D} {a:Act} {w w':World} {G:Gh} {g:Option (aP×Bool)} {cf:Nat->List D->Option (List D)} {o:Oper} {s:Sig} {T Z:Take} {nb nr y0 nvm:Nat}
theorem Fau (hR:R E.ntmps F σ ρ a w G){fj:Nat->Option aU}(fq:Fr σ G w fj G w){deps:List (Nat×Nat)}(wz:∀ z∈deps,kF σ z.1 z.2):∀ {cs:List (BS×BO)} {ls:List aT} {xs:List aP} {y n:Nat},(lU cs ls).eval σ=some xs ->
  (∀ j x,xs[j]?=some x->(aP.v (y+j)).val ρ=x.val ρ)->(∀ (j:Nat) (nie:Bool) (o:BO) (l:aT),cs[j]?=some (BS.fz nie,o)->ls[j]?=some l->∃ r,(zH l).eval σ=some r/\∀ z∈r.deps,z∈deps) ->
  xs.length=cs.length/\(eD deps y n (cs.map (·.2))).2.1=[]/\(eD deps y n (cs.map (·.2))).1.length=cs.length /\
  ∀ (j:Nat) (l l0:aT) (v:Value),(eD deps y n (cs.map (·.2))).1[j]?=some l->ls[j]?=some l0->aD σ ρ G w l0 v->aD fj ρ G w l v
 | [], ls, xs, y, n, h, _, _ => by
  simp only[lU,aF,Qb7]at h;subst h;exact⟨rfl,rfl,rfl,by simp[eD]⟩
 |_::_,[],xs,y,n,h,_,_=>by simp[lU,cZ]at h
 | (t, o) :: cs, l0 :: ls, xs, y, n, h, hx, hz => by
  simp only[lU,aC,Qb5,aF,Qb7]at h;obtain⟨x,h1,r,h2,rfl⟩:=h;have hx0:(aP.v y).val ρ=x.val ρ:=by have:=hx 0 x rfl;rwa[Sbg]at this
  have key:(kY deps y n o).2.1=[]/\∀ v,aD σ ρ G w l0 v->aD fj ρ G w (kY deps y n o).1 v:=by
   split at h1
   ·rename_i x'
    simp only[aF,Qb7]at h1;subst h1;refine⟨rfl,fun v hv=>?_⟩;simp only[kY,aD]at hv ⊢;rw[hx0];exact hv
   ·rename_i _ nie
    simp only[aC,Qb5,aF,Qb7]at h1;obtain⟨sl,h3,rfl⟩:=h1;refine⟨rfl,fun v hv=>?_⟩;obtain⟨sl',h4,h5⟩:=hz 0 nie .fz _ rfl rfl;rw[h3]at h4;obtain rfl:=Rb5 h4;have hs:=eT hR h3 hv;have kr:v.oneCell'=true:=hv.one (by cases l0<;>first|rfl|cases h3)
    have hl:aD σ ρ G w (.sn deps .no false (.v y)) v:=by
     simp only[aD];refine⟨⟨kr,wz⟩,fun _=>⟨?_,fun e=>absurd e (by decide),trivial⟩⟩;rw[hx0];refine hs.rd.mono fun b hb=>⟨?_,rfl⟩
     rcases hb with hb|⟨r,k,p,hm,hb⟩
     ·exact .inl hb
     ·exact .inr ⟨r,k,p,h5 _ hm,hb⟩
    exact aD.mono fq _ v hl
   ·rw[iR]at h1
    split at h1
    ·rename_i hs
     simp only[aF,Qb7]at h1;refine⟨rfl,fun v hv=>?_⟩;simp only[kY,aD];exact hv.one hs
    ·cases h1
   ·cases h1
  obtain⟨h3,h4,h5,h6⟩:=Fau hR fq wz (cs:=cs) (y:=y+1) (n:=(kY deps y n o).2.2) h2 (fun j x hj=>by
   have:=hx (j+1) x (by simpa using hj);rwa[show y+(j+1)=y+1+j by omega]at this) (fun j nie o' l hj hl=>hz (j+1) nie o' l (by simpa using hj) (by simpa using hl))
  refine⟨by simp[h3],by simp only[Rby,eD,key.1,Sbm];exact h4,by simp only[Rby,eD,Rbw];rw[h5],fun j l l1 v hj hl hv=>?_⟩;simp only[Rby,eD]at hj
  cases j with
  | zero =>
   simp only[Rbf,Qb7]at hj hl;subst hj hl;exact key.2 v hv
  |succ j=>exact h6 j l l1 v (by simpa using hj) (by simpa using hl) hv
theorem Faj:∀ {ss:List (BS×BO)} {ls:List aT} {A B:Take},(fA A ss ls).eval σ=some B->∀ (j:Nat) (nie:Bool) (o:BO) (l:aT),ss[j]?=some (BS.fz nie,o)->ls[j]?=some l->∃ r,(zH l).eval σ=some r/\∀ z∈r.deps,z∈B.deps
 |[],ls,A,B,h,j,nie,o,l,hj,_=>by simp at hj
 |_::_,[],A,B,h,_,_,_,_,_,_=>by simp[fA,cZ]at h
 | (t, o) :: ss, l0 :: ls, A, B, h, j, nie, o', l, hj, hl => by
  simp only[fA,aC,Qb5]at h;obtain⟨C,h1,h2⟩:=h
  cases j with
  | zero =>
   simp only[Rbf,Qb7,Rbx]at hj hl;obtain⟨rfl,rfl⟩:=hj;subst hl
   have h3:(tV A nie l0).eval σ=some C:=by
    have hinv:=sG h1;clear h1
    rcases hinv with ⟨x,e,-⟩|⟨nie',e,h⟩|⟨d,e,-⟩|⟨e,-⟩
    ·cases e
    ·injection e with e;subst e;exact h
    ·cases e
    ·cases e
   unfold tV at h3;simp only[aC,Qb5,aF,Qb7]at h3;obtain⟨sl,h4,rfl⟩:=h3;exact⟨sl,h4,fun z hz=>(sF h2).1.deps z (Rbc _ hz)⟩
  |succ j=>exact Faj h2 j nie o' l (by simpa using hj) (by simpa using hl)
theorem Fak {ptrs:List (Nat×Nat×Nat)}:∀ {bs:List (Bool×List (BS×BO))} {b:Nat} {A B:Take},(fQ ptrs A b bs).eval σ=some B->∀ (i:Nat) (ro:Bool) (cs:List (BS×BO)),bs[i]?=some (ro,cs) ->
  ∃ c off lP ls,qO (b+i) ptrs=some (c,off)/\σ (kB c)=some (.box lP ls)/\off+cs.length<=ls.length/\∀ (j:Nat) (nie:Bool) (o:BO) (l:aT),cs[j]?=some (BS.fz nie,o)->(ls.drop off)[j]?=some l->∃ r,(zH l).eval σ=some r/\∀ z∈r.deps,z∈B.deps
 |[],b,A,B,h,i,ro,cs,hi=>by simp at hi
 | (ro0, cs0) :: bs, b, A, B, h, i, ro, cs, hi => by
  simp only[fQ]at h;split at h
  case h_2=>cases h
  rename_i c off hp;simp only[aC,aW,Rbe]at h;split at h
  case h_2=>cases h
  rename_i lP ls pj;simp only[aC,aO,Qb5]at h;obtain⟨_,h0,C,h1,h2⟩:=h;split at h0
  case isFalse=>cases h0
  rename_i hb;simp only[Qb6,Sbr]at hb
  cases i with
  | zero =>
   simp only[Rbf,Qb7,Rbx]at hi;obtain⟨rfl,rfl⟩:=hi;refine⟨c,off,lP,ls,hp,pj,hb.2,fun j nie o l hj hl=>?_⟩;obtain⟨r,h3,h4⟩:=Faj h1 j nie o l hj hl;exact⟨r,h3,fun z hz=>(mG h2).1.deps z (h4 z hz)⟩
  | succ i =>
   obtain⟨c',lz,a4q,lh,h3,h4,h5,h6⟩:=Fak h2 i ro cs (by simpa using hi);exact⟨c',lz,a4q,lh,by rw[show b+(i+1)=b+1+i by omega];exact h3,h4,h5,h6⟩
theorem Bak (hR:R E.ntmps F σ ρ a w G){deps:List (Nat×Nat)}(wz:∀ z∈deps,kF σ z.1 z.2){ptrs:List (Nat×Nat×Nat)}:∀ {bs:List (Bool×List (BS×BO))} {b y n:Nat} {bu:List (Nat×aU)} {xs:List aP},
  (nG ptrs deps b y n bs).eval σ=some bu->(jP ptrs b bs).eval σ=some xs->(∀ j x,xs[j]?=some x->(aP.v (y+j)).val ρ=x.val ρ) ->
  (∀ (i:Nat) (ro:Bool) (cs:List (BS×BO)),bs[i]?=some (ro,cs)->∃ c off lP ls,qO (b+i) ptrs=some (c,off)/\σ (kB c)=some (.box lP ls)/\off+cs.length<=ls.length/\∀ (j:Nat) (nie:Bool) (o:BO) (l:aT),cs[j]?=some (BS.fz nie,o)->(ls.drop off)[j]?=some l->∃ r,(zH l).eval σ=some r/\∀ z∈r.deps,z∈deps) ->
  xs.length=fE bs/\∀ k c,(k,c)∈bu->∃ (c0:Nat) (kk ls:List aT),k=kB c0/\σ (kB c0)=some (.box false kk)/\c=.box false ls/\ls.length=kk.length/\∀ (fj:Nat->Option aU),Fr σ G w fj G w->∀ (j:Nat) (l l0:aT) (v:Value),ls[j]?=some l->kk[j]?=some l0->aD σ ρ G w l0 v->aD fj ρ G w l v
 | [], b, y, n, bu, xs, h, hx, _, _ => by
  simp only[nG,aF,Qb7]at h;simp only[jP,aF,Qb7]at hx;subst h hx;exact⟨rfl,by simp⟩
 | (ro, cs) :: bs, b, y, n, bu, xs, h, hx, hv, hz => by
  have ru:∀ (i:Nat) (ro:Bool) (cs:List (BS×BO)),bs[i]?=some (ro,cs)->∃ c off lP ls,qO (b+1+i) ptrs=some (c,off)/\σ (kB c)=some (.box lP ls)/\off+cs.length<=ls.length/\∀ (j:Nat) (nie:Bool) (o:BO) (l:aT),cs[j]?=some (BS.fz nie,o)->(ls.drop off)[j]?=some l->∃ r,(zH l).eval σ=some r/\∀ z∈r.deps,z∈deps:=fun i ro cs hi=>by
   have:=hz (i+1) ro cs (by simpa using hi);rwa[show b+(i+1)=b+1+i by omega]at this
  simp only[nG]at h;simp only[jP]at hx
  cases ro with
  | true =>
   simp only[cond_true]at h hx;obtain⟨h1,h2⟩:=Bak hR wz h hx hv ru;exact⟨by rw[h1];simp only[fE,cond_true,Rb2],h2⟩
  | false =>
   simp only[cond_false]at h hx;obtain⟨c,off,lP,kk,e1,e2,e3,e4⟩:=hz 0 false cs rfl;rw[Sbg]at e1;rw[e1]at h hx;simp only[aC,aW,Rbe]at h hx;rw[e2]at h hx
   cases lP with
   |true=>simp[cZ]at h
   | false =>
    simp only[aC,Qb5,aF,Qb7]at h hx;obtain⟨rest,h1,rfl⟩:=h;obtain⟨l1,h2,m1,h3,rfl⟩:=hx;have hold:=fun fj (fq:Fr σ G w fj G w)=>Fau (E:=E) (F:=F) (a:=a) hR fq wz (cs:=cs) (ls:=kk.drop off) (y:=y) (n:=n) h2 (fun j x hj=>hv j x (by rw[Rbm (Qb8.1 hj).1];exact hj)) e4
    obtain⟨h4,h5,h6,-⟩:=hold σ (Fr.same σ G w [] (by simp))
    obtain⟨h7,h8⟩:=Bak hR wz h1 h3 (fun j x hj=>by
     have:=hv (cs.length+j) x (by rw[Rbj (by omega),h4,Sbi];exact hj);rwa[<- Rbp]at this) ru
    refine⟨by rw[Rbh,h4,h7];simp only[fE,cond_false],fun k x ze=>?_⟩;rw[h5]at ze;simp only[Tbq,Sbm]at ze
    rcases Rbg.1 ze with ze|ze
    ·obtain⟨rfl,rfl⟩:=Tbw ze
     refine⟨c,kk,_,rfl,e2,rfl,mJ (by rw[h6];exact e3),fun fj fq j l l0 v hj k7 je=>?_⟩;rw[jE (by rw[h6];exact e3)]at hj;split at hj
     ·rename_i hr
      refine (hold fj fq).2.2.2 (j-off) l l0 v hj ?_ je;rw[List.getElem?_drop,show off+(j-off)=j by omega];exact k7
     ·rw[k7]at hj
      obtain rfl:=Rb5 hj;exact aD.mono fq _ v je
    ·exact h8 k x ze
theorem Fbr (hR:R E.ntmps F σ ρ a w G)(hg:gOn ρ g=false)(hd:gG E.ntmps o)(zE:∀ z∈Z.deps,Nam σ z.1 z.2)(tP:Z.rts=[])(yg:mE s.results=0)
  (hZ:(fQ T.ptrs T 0 s.boxes).eval σ=some Z) {olds:List aP} (hold:(jP Z.ptrs 0 s.boxes).eval σ=some olds)
  {rs:List (Bool×List aT)} {us bu:List (Nat×aU)} {xe:Nat} (kg:kD true Z.deps nb y0 nr s.results=(rs,us,xe)) (za:noG g=false)
  (pH:(nG Z.ptrs Z.deps 0 (y0+bU s.results) xe s.boxes).eval σ=some bu)
  (fk:∀ j d,(Rbs (bU s.results+fE s.boxes-olds.length) D.undef++olds.map (·.val ρ))[j]?=some d->(aP.v (y0+j)).val ρ=d) :
  R E.ntmps F (upds σ (Waj o g rs++(us++bu))) ρ (a.put o.dst undef) w G:=by
 have hus:us=[]:=by
  have:=Pal (deps:=Z.deps) (nb:=nb) s.results y0 nr yg;rw[kg]at this;exact this
 subst hus;rw[Sbm];obtain⟨-,qd,-⟩:=mG hZ
 have wz:∀ z∈Z.deps,kF σ z.1 z.2:=fun z hz=>by
  obtain⟨m,x,hx⟩:=zE z hz;exact⟨x,m,z.2,.live,hx,fun _=>Rbt _⟩
 have jr:=Fak hZ;rw[<- qd]at jr
 have hlen0:olds.length=fE s.boxes:=by
  have hln:∀ {bs:List (Bool×List (BS×BO))} {b:Nat} {xs:List aP},(jP Z.ptrs b bs).eval σ=some xs->xs.length=fE bs:=by
   intro bs
   induction bs with
   |nil=>intro b xs h;simp only[jP,aF,Qb7]at h;subst h;rfl
   | cons x bs ih =>
    intro b xs h;obtain⟨ro,cs⟩:=x;simp only[jP]at h
    cases ro with
    |true=>simp only[cond_true]at h;rw[ih h];simp only[fE,cond_true,Rb2]
    | false =>
     simp only[cond_false]at h;split at h
     case h_2=>cases h
     simp only[aC,aW,Rbe]at h;split at h
     case h_2=>cases h
     simp only[aC,Qb5,aF,Qb7]at h;obtain⟨l,h1,m,h2,rfl⟩:=h
     have hc:∀ {cs:List (BS×BO)} {ls:List aT} {ys:List aP},(lU cs ls).eval σ=some ys->ys.length=cs.length:=by
      intro cs
      induction cs with
      |nil=>intro ls ys h;simp only[lU,aF,Qb7]at h;subst h;rfl
      | cons t cs ihc =>
       intro ls ys h;obtain⟨t1,t2⟩:=t
       cases ls with
       |nil=>simp[lU,cZ]at h
       | cons x ls =>
        simp only[lU,aC,Qb5,aF,Qb7]at h;obtain⟨y,-,r,h4,rfl⟩:=h;simp[ihc h4]
     rw[Rbh,hc h1,ih h2];simp only[fE,cond_false]
  exact hln hold
 have lp:bU s.results+fE s.boxes-olds.length=bU s.results:=by omega
 rw[lp]at fk
 obtain⟨-,ln⟩:=Bak hR wz pH hold (fun j x hj=>by
  rw[Rbp];refine fk _ _ ?_;rw[Rbj (by simp),Sbu,Sbi,Sbd,hj]
  rfl) jr
 have yt:∀ k c,(k,c)∈Waj o g rs->∃ d,o.dst=some d/\k=kT d/\c=.slot (Ebk g (Caf g rs)) (Caf g rs):=fun k c hc=>by
  rw[Dan]at hc;exact zU hc
 have mi:∀ k c,(k,c)∈Waj o g rs++bu->∀ r,k≠kR r:=by
  intro k c hc r
  rcases Rbq.1 hc with hc|hc
  ·obtain⟨d,-,e,-⟩:=yt _ _ hc
   rw[e];exact jL
  ·obtain⟨c0,kk,ls,e,-⟩:=ln _ _ hc
   rw[e];exact gB
 have fq:=Fr.nonroot σ G w (Waj o g rs++bu) mi;refine hR.upd _ fq (by rw[Caj];exact hR.tmps) (by rw[put_defers];exact hR.defers) hR.frame (fun t ht=>?_) (fun _ _ _ _ _=>⟨rfl,rfl⟩) (fun b ls hb bh ho=>?_) (fun k c hc gl=>?_)
 ·rw[Dan]at ht
  exact Gak ht
 ·rcases Rbq.1 hb with hb|hb
  ·obtain⟨d,-,e,-⟩:=yt _ _ hb
   exact absurd e.symm nC
  ·obtain⟨c0,kk,lh,e,h1,h2,h3,-⟩:=ln _ _ hb
   obtain rfl:=Ca6 e
   injection h2 with e1 e2
   rw[hR.rng b kk h1 bh ho,e2,h3]
 ·rcases Rbq.1 hc with hc|hc
  ·obtain⟨d,np,rfl,rfl⟩:=yt _ _ hc
   refine⟨d,rfl,fun gg=>?_⟩;rw[np,qK _ _ _ _ _ (hd d np) hR.tmps];have hrs:(kD true Z.deps nb y0 nr s.results).1=rs:=by rw[kg]
   cases g with
   |none=>simp[gOn]at hg
   | some z =>
    refine Ya2 hg hrs (fun qb=>?_) gg
    have:=fk 0 .undef (by
     rw[Rbm (by simp;omega)];rw[Tbs,if_pos (by omega)])
    rwa[Sbg]at this
  ·obtain⟨c0,kk,ls,rfl,h1,rfl,h3,h4⟩:=ln _ _ hc
   obtain⟨h5,h6,h7⟩:=hR.box h1;refine⟨c0,rfl,h5,h6,fun j l hj=>?_⟩;have bh:j<kk.length:=by rw[<- h3];exact (Qb8.1 hj).1
   obtain⟨v,h8,h9,eo⟩:=h7 j _ (Rba bh);exact⟨v,h8,h9,h4 _ fq j l _ v hj (Rba bh) eo⟩
end
section
variable {P:Program} {E:Env} {F:bQ} {σ:Nat->Option aU} {ρ:List D} {a:Act} {w:World} {G:Gh} {g:Option (aP×Bool)} {o:Oper}
theorem Oa1:∀ {vs:List SV} {us:List Value},vs.length=us.length->(∀ (i:Nat) (v:SV) (u:Value),vs[i]?=some v->us[i]?=some u->dI σ ρ G w v u)->uR σ ρ G w vs us
 |[],[],_,_=>rfl
 |[],_::_,h,_=>by simp at h
 |_::_,[],h,_=>by simp at h
 |v::vs,u::us,h,hr=>⟨u,us,rfl,hr 0 v u rfl rfl,Oa1 (by simpa using h) fun i v' u' hv hu=>hr (i+1) v' u' (by simpa using hv) (by simpa using hu)⟩
theorem Bay:∀ {vs u6:List SV} {us eE:List Value},uR σ ρ G w vs us->uR σ ρ G w u6 eE->uR σ ρ G w (vs++u6) (us++eE)
 |[],u6,us,eE,h,h'=>by simp only[uR]at h;subst h;exact h'
 | v :: vs, u6, us, eE, h, h' => by
  obtain⟨u,us2,rfl,h1,h2⟩:=h;exact⟨u,us2++eE,rfl,h1,Bay h2 h'⟩
theorem Haf:∀ {ls:List aT} {vs:List Value},aH σ ρ G w ls vs->uR σ ρ G w (ls.map SV.one) vs
 |[],vs,h=>by simp only[aH]at h;subst h;rfl
 | l :: ls, vs, h => by
  simp only[aH]at h;obtain⟨u,us,rfl,h1,h2⟩:=h;exact⟨u,us,rfl,h1,Haf h2⟩
theorem Ebi {f:Operand}{args:Array Operand}{argTypes:Array TypeId}(ho:o.op=.call { callee:=.value f,args,argTypes }){fn:Nat}{vs:List Value}(hf:a.eval f=.func (.func fn) #[] vs.toArray) :
  (execOp a.eval o).run P w=(callFunc fn (args.toList.map a.eval++vs).toArray).run P w:=by
 unfold execOp;simp only[ho,resolve,hf,Deferred.ofValue,invoke,Sem.run_bind,Sem.run_pure,Result.andThen_ok];congr 2;apply Array.ext';simp
theorem Fbp {X:(Nat->Ow)->World->Prop}{T:Nat->Ent}{n:Nat}(cT:Stable X)(hX:X F.own0 F.w0)(hc:∀ key s,(key,s)∈E.sigs->Da4 P X T n key s):Bao P E F (lK T n):=by
 intro σ ρ a w G g o Q mv eR nv nb nr res f args argTypes hR hd hf ho h pD ve;simp only[sH,ho,aC,Qb5]at h;obtain⟨l,h1,h⟩:=h;split at h
 case h_2=>cases h
 rename_i fn gi;simp only[aC,Qb5]at h;obtain⟨vs0,h2,h⟩:=h;unfold Fb8 at h;split at h
 ·cases h
 rename_i key s a6c;obtain⟨fm,hfn⟩:=Iao a6c;simp only[aC,Qb5,aO]at h;obtain⟨T1,hT,Z,hZ,_,gv,h⟩:=h;split at gv
 case isFalse=>cases gv
 rename_i hb;simp only[Qb6,Bool.or_eq_true,Sbr,List.isEmpty_iff,Rb3]at hb;obtain⟨⟨sa,a2p⟩,gv⟩:=hb;have hk:=Rau sa;obtain⟨bu,pH,⟨ml,mu⟩,xu,olds,hold,h⟩:=h;simp only[aF,Qb7]at h;subst h;dsimp only at pD ve ⊢;generalize kg:kD (!noG g) Z.deps nb (nv+bT Z.lets) nr s.results=res at pD ve pH ⊢;obtain⟨rs,us,xe⟩:=res;dsimp only at pD cT pH xu ⊢;refine⟨fun hg=>?_,fun hg=>?_⟩
 ·
  obtain⟨sj,tI⟩:=aR.append ve;obtain⟨mT,qg⟩:=aR.append sj;obtain⟨a1z,jy⟩:=aR.append mT;obtain⟨ds,cP,hlen,fk⟩:=jy.1.1 hg
  have hn:nv+bT (Z.lets++[Step.call key Z.xs (bU s.results+(Z.rts.filter yD).length+fE s.boxes) olds]++(bif Z.deps.isEmpty then [] else Ab4 (nv+bT Z.lets) s.results++Ab5 (nv+bT Z.lets+bU s.results) Z.rts++Wao (nv+bT Z.lets+bU s.results+(Z.rts.filter yD).length) s.boxes))=nv+bT Z.lets+(bU s.results+(Z.rts.filter yD).length+fE s.boxes):=by
   have e0:bT (bif Z.deps.isEmpty then [] else Ab4 (nv+bT Z.lets) s.results++Ab5 (nv+bT Z.lets+bU s.results) Z.rts++Wao (nv+bT Z.lets+bU s.results+(Z.rts.filter yD).length) s.boxes)=0:=by
    cases Z.deps.isEmpty with
    |true=>rfl
    |false=>simp only[cond_false,fV,Gbq,Gbr,Gbt]
   rw[fV,fV,e0];simp only[jH,Step.n];show nv+(bT Z.lets+(_+bT [])+0)=_
   have:bT ([]:List Step)=0:=rfl;omega
  rw[hn]at tI;have uu:=gJ hR hg h1;simp only[aD]at uu;obtain⟨cvs,hcv,fw⟩:=uu;obtain⟨iz,ka⟩:=zI hR hg h2
  have hus:uR σ ρ G w (vs0++gi.map SV.one) (args.toList.map a.eval++cvs):=by
   refine Bay (Oa1 (by rw[iz];simp) fun i v u hv hu=>?_) (Haf fw);rw[Sbd,Rbo]at hu;obtain⟨x,hx,rfl⟩:=hu;exact ka i v x hv hx
  have fL:=Fbq hR hg a1z hk hT hZ hus
  have hXc:X (callG ρ G w s Z).own w:=cT _ _ _ _ hR.frame.size (fun b hb he=>by
   have hkp:=hR.frame.keep b hb (.inl he);exact⟨hkp.1,rW (hkp.2.trans he)⟩) hX
  have gg:=hc key s fm _ w _ _ ds fL hXc cP
  have a10:Z.deps=[]\/Rai ρ (Ab4 (nv+bT Z.lets) s.results++Ab5 (nv+bT Z.lets+bU s.results) Z.rts++Wao (nv+bT Z.lets+bU s.results+(Z.rts.filter yD).length) s.boxes):=by
   cases hde:Z.deps.isEmpty with
   |true=>exact .inl (by simpa using hde)
   | false =>
    rw[hde,cond_false]at qg;exact .inr (Uan hg qg)
  have a4x:noG g=true\/(mE s.results=0/\∃ olds,(jP Z.ptrs 0 s.boxes).eval σ=some olds):=by
   cases g with
   |none=>exact .inl rfl
   |some z=>exact .inr ⟨(gv.resolve_left (by simp[noG])).2,olds,hold⟩
  have xF:∀ v w',Taf s (tL s (callG ρ G w s Z) w) (callG ρ G w s Z).bx v w' ds->Nx E.ntmps F σ ρ (Waj o g rs++(us++bu++mu++iE Z.rts)) (a.put o.dst v) w':=by
   intro v w' pg;exact Bbb hR hg hd hf hus hT hZ hk a2p a4x kg pH xu hlen fk a10 tI pD pg
  unfold Oper.wp;rw[Ebi ho hcv,<- hfn]
  rcases gg with ⟨hr,eh⟩|⟨v,w',hr,pg⟩
  ·rw[hr,Oper.upon_enter]
   refine Calls.mono eh fun e w' he=>?_
   cases e with
   |returned v=>exact xF v w' he
   |panicked c=>exact he.elim
   |outgrown=>exact he.elim
  ·rw[hr,Oper.upon_value]
   exact xF v w' pg
 ·
  have za:noG g=false:=by
   cases g with
   |none=>simp[gOn]at hg
   |some z=>rfl
  have h5:=gv.resolve_left (by rw[za];simp);obtain⟨tP,yg⟩:=h5
  have a6g:mu=[]:=by
   rw[tP]at xu;simp only[Aap,aF,Qb7,Rbx]at xu;exact xu.2.symm
  have a5b:iE Z.rts=[]:=by rw[tP];rfl
  have zx:(Z.rts.filter yD).length=0:=by rw[tP];rfl
  obtain⟨sj,tI⟩:=aR.append ve;obtain⟨mT,qg⟩:=aR.append sj;obtain⟨a1z,jy⟩:=aR.append mT;have fk:=jy.1.2 hg;rw[zx,Sbg]at fk pH
  have a11:(jP Z.ptrs 0 s.boxes).eval σ=some olds:=by
   cases g with
   |none=>cases za
   |some z=>exact hold
  have qS:∀ z∈Z.deps,Nam σ z.1 z.2:=by
   obtain⟨rn,uq,-,-⟩:=wZ (E:=E) (F:=F) (ρ:=ρ) (a:=a) (w:=w) (G:=G) False (fun h=>h.elim) hT (fun h=>h.elim);obtain⟨rm,hn4,-⟩:=uX (ρ:=ρ) (G:=G) (w:=w) hZ;intro z hz
   rcases (uq.trans hn4).deps z hz with h|h
   ·simp[Take.empty]at h
   ·exact h
  rw[za]at kg;have:=Fbr hR hg hd qS tP yg hZ a11 kg za pH fk;refine⟨G,?_⟩;show R E.ntmps F (upds σ (Waj o g rs++(us++bu++mu++iE Z.rts))) ρ _ w G
  rw[a6g,a5b,Rb1,Rb1];exact this
end
def Fb1 (P:Program)(s:Sig)(e:List D->Option (List D)):Prop :=
 ∀ vals w G ds ir,Fb6 s vals w G ds->e ds=some ir->Goes P s.fn vals.toArray w fun v w'=>Taf s (tL s G w) G.bx v w' ir
def Ran (P:Program)(T:Nat->Ent)(ti:Nat->Option TI)(sigs:List (Nat×Sig))(key:Nat)(s:Sig):Prop :=
 (∃ (E : Env) (fn : Func) (tm : Tm Unit), E.ti = ti /\ E.sigs = sigs /\ P.funcs[s.fn]? = some fn /\ (fn.name == "runtime.NumGoroutine") = false /\ Vai E s fn = some tm /\ T key = .tm tm) \/ ∃ e, T key = .ext e /\ Fb1 P s e
def Nbb (P:Program)(X:(Nat->Ow)->World->Prop)(s:Sig)(e:List D->Option (List D)):Prop :=
 ∀ vals w G ds ir,Fb6 s vals w G ds->X G.own w->e ds=some ir->Goes P s.fn vals.toArray w fun v w'=>Taf s (tL s G w) G.bx v w' ir
def Nba (P:Program)(X:(Nat->Ow)->World->Prop)(T:Nat->Ent)(ti:Nat->Option TI)(sigs:List (Nat×Sig))(key:Nat)(s:Sig):Prop :=
 (∃ (E : Env) (fn : Func) (tm : Tm Unit), E.ti = ti /\ E.sigs = sigs /\ P.funcs[s.fn]? = some fn /\ (fn.name == "runtime.NumGoroutine") = false /\ Vai E s fn = some tm /\ T key = .tm tm) \/ ∃ e, T key = .ext e /\ Nbb P X s e
theorem Ran.toX {P:Program}{X:(Nat->Ow)->World->Prop}{T:Nat->Ent}{ti:Nat->Option TI}{sigs:List (Nat×Sig)}{key:Nat}{s:Sig}(h:Ran P T ti sigs key s):Nba P X T ti sigs key s:=by
 rcases h with h|⟨e,h1,h2⟩
 ·exact .inl h
 ·exact .inr ⟨e,h1,fun vals w G ds ir hp _ he=>h2 vals w G ds ir hp he⟩
theorem Wak {P:Program}{X:(Nat->Ow)->World->Prop}{T:Nat->Ent}{ti:Nat->Option TI}{sigs:List (Nat×Sig)}(cT:Stable X)(hti:wU P ti)(hm:P.follows .mixedOrders=true)(H:∀ key s,(key,s)∈sigs->Nba P X T ti sigs key s) :
  ∀ n key s,(key,s)∈sigs->Da4 P X T n key s:=by
 intro n
 induction n with
 | zero =>
  intro key s _ vals w G ds ir _ _ h;cases h
 | succ n ih =>
  intro key s fm
  rcases H key s fm with ⟨E,fn,tm,rfl,rfl,h1,h2,h3,h4⟩|⟨e,h1,h2⟩
  ·exact Na0 hti hm h1 h2 h3 h4 fun F hX=>Fbp cT hX fun key s h=>ih key s h
  ·intro vals w G ds ir fL hX cP
   simp only[lK,h1]at cP;exact h2 vals w G ds ir fL hX cP
theorem contracts {P:Program}{T:Nat->Ent}{ti:Nat->Option TI}{sigs:List (Nat×Sig)}(hti:wU P ti)(hm:P.follows .mixedOrders=true)(H:∀ key s,(key,s)∈sigs->Ran P T ti sigs key s) :
  ∀ n key s,(key,s)∈sigs->qG P T n key s :=
 fun n key s fm vals w G ds ir fL cP=>Wak (X:=fun _ _=>True) (fun _ _ _ _ _ _ _=>trivial) hti hm (fun key s h=>(H key s h).toX) n key s fm vals w G ds ir fL trivial cP
inductive Ty where
 |int (k:IntKind)
 |bool
 |str
 |sl (bytes:Nat) (row:List Ty)
mutual
def WT:Ty->D->Prop
 |.int k,d=>∃ n,d=.int k n/\k.min<=n/\n<=k.max
 |.bool,d=>∃ b,d=.bool b
 |.str,d=>∃ s,d=.str s/\s.length<=reachBytes
 |.sl bytes row,d=>∃ rs,d=.rows row.length rs/\rs.length*bytes<=reachBytes/\∀ r∈rs,WTs row r
def WTs:List Ty->List D->Prop
 |[],ds=>ds=[]
 |t::ts,ds=>∃ d ir,ds=d::ir/\WT t d/\WTs ts ir
end
def Wa3 (P:Program)(rec:TypeId->Option (List Ty)):Nat->List Field->Option (List Ty)
 |_,[]=>some []
 | off, f :: fs => match rec f.type with
  |some r=>bif Nat.beq f.offset off&&Nat.beq r.length (P.cellsOf f.type) then (Wa3 P rec (off+r.length) fs).map (r++·) else none
  |none=>none
def Jaf (P:Program):Nat->TypeId->Option (List Ty)
 |0,_=>none
 | n + 1, t => match P.underlying t with
  |some .bool=>some [.bool]
  |some (.int k)=>some [.int k]
  |some .string=>some [.str]
  | some (.slice e) => match Jaf P n e with
   |some r=>bif Nat.beq r.length (P.cellsOf e) then some [.sl (P.bytesOf e) r] else none
   |none=>none
  | some (.struct fs) => match Wa3 P (Jaf P n) 0 fs.toList with
   |some r=>bif Nat.beq r.length (P.cellsOf t) then some r else none
   |none=>none
  |_=>none
def jZ (w:World):List Ty->List Value->List D->Prop
 |[],cs,ds=>cs=[]/\ds=[]
 |t::ts,cs,ds=>∃ c oX d ir,cs=c::oX/\ds=d::ir/\Rd (fun _=>True) w c d/\WT t d/\jZ w ts oX ir
theorem jZ.append {w:World}:∀ {ts ts':List Ty} {cs oX:List Value} {ds ir:List D},jZ w ts cs ds->jZ w ts' oX ir->jZ w (ts++ts') (cs++oX) (ds++ir)
 | [], ts', cs, oX, ds, ir, h, h' => by
  obtain⟨rfl,rfl⟩:=h;exact h'
 | t :: ts, ts', cs, oX, ds, ir, h, h' => by
  obtain⟨c,c1,d,d1,rfl,rfl,h1,h2,h3⟩:=h;exact⟨c,c1++oX,d,d1++ir,rfl,rfl,h1,h2,h3.append h'⟩
theorem jZ.len {w:World}:∀ {ts:List Ty} {cs:List Value} {ds:List D},jZ w ts cs ds->cs.length=ts.length/\ds.length=ts.length
 |[],cs,ds,h=>by obtain⟨rfl,rfl⟩:=h;exact⟨rfl,rfl⟩
 | t :: ts, cs, ds, h => by
  obtain⟨c,c1,d,d1,rfl,rfl,h1,h2,h3⟩:=h;obtain⟨h4,h5⟩:=h3.len;simp[h4,h5]
theorem jZ.get {w:World}:∀ {ts:List Ty} {cs:List Value} {ds:List D},jZ w ts cs ds->∀ {j:Nat} {d:D},ds[j]?=some d->∃ c,cs[j]?=some c/\Rd (fun _=>True) w c d
 |[],cs,ds,h,j,d,hj=>by obtain⟨rfl,rfl⟩:=h;simp at hj
 | t :: ts, cs, ds, h, j, d, hj => by
  obtain⟨c,c1,d',d1,rfl,rfl,h1,h2,h3⟩:=h
  cases j with
  | zero =>
   simp only[Rbf,Qb7]at hj;subst hj;exact⟨c,rfl,h1⟩
  | succ j =>
   obtain⟨c',h4,h5⟩:=h3.get (j:=j) (by simpa using hj);exact⟨c',by simpa using h4,h5⟩
theorem jZ.wts {w:World}:∀ {ts:List Ty} {cs:List Value} {ds:List D},jZ w ts cs ds->WTs ts ds
 |[],cs,ds,h=>by obtain⟨rfl,rfl⟩:=h;simp[WTs]
 | t :: ts, cs, ds, h => by
  obtain⟨c,c1,d',d1,rfl,rfl,h1,h2,h3⟩:=h;simp only[WTs];exact⟨d',d1,rfl,h2,h3.wts⟩
theorem Haz {α β:Type}{f:α->Option β}:∀ {l:List α} {ys:List β},l.mapM f=some ys->ys.length=l.length/\∀ (i:Nat) (x:α),l[i]?=some x->∃ y,ys[i]?=some y/\f x=some y
 | [], ys, h => by
  simp at h;subst h;simp
 | x :: l, ys, h => by
  simp only[List.mapM_cons,bind,Qb5,pure,Qb7]at h;obtain⟨y,h1,ys',h2,rfl⟩:=h;obtain⟨h3,h4⟩:=Haz h2;refine⟨by simp[h3],fun i z hz=>?_⟩
  cases i with
  | zero =>
   simp only[Rbf,Qb7]at hz;subst hz;exact⟨y,rfl,h1⟩
  | succ i =>
   obtain⟨y',h5,h6⟩:=h4 i z (by simpa using hz);exact⟨y',by simpa using h5,h6⟩
theorem Zao {β:Type}{p:Nat->β->Prop}:∀ (n:Nat),(∀ i,i<n->∃ y,p i y)->∃ l:List β,l.length=n/\∀ i y,l[i]?=some y->p i y
 |0,_=>⟨[],rfl,by simp⟩
 | n + 1, h => by
  obtain⟨l,h1,h2⟩:=Zao n fun i hi=>h i (by omega)
  obtain⟨y,hy⟩:=h n (by omega);refine⟨l++[y],by simp[h1],fun i z hz=>?_⟩
  rcases Nat.lt_trichotomy i n with hi|hi|hi
  ·rw[Rbm (by omega)]at hz
   exact h2 i z hz
  ·subst hi
   rw[Rbj (by omega),h1,Nat.sub_self]at hz;simp only[Rbf,Qb7]at hz;subst hz;exact hy
  ·have:=(Qb8.1 hz).1
   simp[h1]at this;omega
theorem Aag {H:Type}{P:Program}{e:TypeId}:∀ {l:List (DataW H)} {d:DataW H},d∈l->∀ n∈d.weights P e,n∈DataW.weightsAll P e l
 |[],d,h,_,_=>by simp at h
 | x :: l, d, h, n, hn => by
  simp only[DataW.weightsAll,Rbq]
  rcases Rbg.1 h with rfl|h
  ·exact .inl hn
  ·exact .inr (Aag h n hn)
theorem wJ {H:Type}{P:Program}{t:TypeId}{ts:List TypeId}{d:DataW H}{ds:List (DataW H)}:DataW.weightsEach P (t::ts) (d::ds)=d.weights P t++DataW.weightsEach P ts ds:=by
 simp only[DataW.weightsEach]
theorem Haa {P:Program}{w:World}{H:Type}{cs:List Value}{f:Field->List Value->Option (DataW H×List MemPlace)}{rec:TypeId->Option (List Ty)}
  (dq:∀ (fd:Field) (r:List Ty) (l:List Value) (y:DataW H×List MemPlace),rec fd.type=some r->f fd l=some y->(∀ m∈y.1.weights P fd.type,m<=reachBytes)->∃ ds,jZ w r l ds) :
  ∀ {fs:List Field} {off:Nat} {ie:List Ty} {xs:List (DataW H×List MemPlace)},Wa3 P rec off fs=some ie->fs.mapM (fun fd=>f fd ((cs.drop fd.offset).take (P.cellsOf fd.type)))=some xs ->
  (∀ m∈DataW.weightsEach P (fs.map (·.type)) (xs.map (·.1)),m<=reachBytes)->cs.length=off+ie.length->∃ ds,jZ w ie (cs.drop off) ds
 | [], off, ie, xs, h, _, _, hl => by
  simp only[Wa3,Qb7]at h;subst h;refine⟨[],?_,rfl⟩;rw[List.drop_eq_nil_iff];simp only[List.length_nil]at hl;omega
 | fd :: fs, off, ie, xs, h, hm, hw, hl => by
  simp only[Wa3]at h;split at h
  case h_2=>cases h
  rename_i r hr
  cases hb:(Nat.beq fd.offset off&&Nat.beq r.length (P.cellsOf fd.type)) with
  |false=>rw[hb]at h;cases h
  | true =>
   rw[hb,cond_true,Rbo]at h;obtain⟨a1q,h1,rfl⟩:=h;simp only[Qb6,Rb3]at hb;obtain⟨rfl,fw⟩:=hb;simp only[List.mapM_cons,bind,Qb5,pure,Qb7]at hm;obtain⟨y,h2,ys,h3,rfl⟩:=hm;simp only[Rby,wJ,Rbq]at hw;obtain⟨ds,h4⟩:=dq fd r _ y hr h2 fun m hm=>hw m (.inl hm)
   rw[Rbh]at hl;obtain⟨ir,h5⟩:=Haa dq (off:=fd.offset+r.length) h1 h3 (fun m hm=>hw m (.inr hm)) (by omega);refine⟨ds++ir,?_⟩;have:=h4.append h5;rw[<- fw]at this
   have e:List.take r.length (List.drop fd.offset cs)++List.drop (fd.offset+r.length) cs=List.drop fd.offset cs:=by
    rw[<- List.drop_drop,List.take_append_drop]
   rw[e]at this;exact this
theorem Da6 {P:Program}{H:Type}{enc:TypeId×Value->H}{w:World}{sp:Nat->Bool}{held:Bool}:∀ (n fuel:Nat) {t:TypeId} {cs:List Value} {x:DataW H} {ps:List MemPlace} {ie:List Ty},Jaf P n t=some ie->DataW.trod enc P w 0 sp held fuel t cs=some (x,ps) ->
  (∀ m∈x.weights P t,m<=reachBytes)->∃ ds,jZ w ie cs ds
 |0,_,t,cs,x,ps,ie,h,_,_=>by simp[Jaf]at h
 |n+1,0,t,cs,x,ps,ie,_,h,_=>by simp[DataW.trod]at h
 | n + 1, fuel + 1, t, cs, x, ps, ie, ht, h, hw => by
  simp only[Jaf]at ht;unfold DataW.trod at h;split at ht
  ·
   rename_i hu;rw[hu]at h;simp only[Qb7]at ht;subst ht;split at h<;>rename_i heq<;>first|(cases heq;done)|skip
   all_goals first|(injection heq with heq;cases heq;done)|skip
   ·exact⟨_,_,[],_,[],rfl,rfl,.sc (.bool _),⟨_,rfl⟩,rfl,rfl⟩
   ·cases h
  ·
   rename_i k hu;rw[hu]at h;simp only[Qb7]at ht;subst ht;split at h<;>rename_i heq<;>first|(cases heq;done)|skip
   all_goals first|(injection heq with heq;cases heq;done)|skip
   ·rename_i k0 k' m
    injection heq with heq
    injection heq with heq
    subst heq;split at h
    ·rename_i hc
     obtain⟨rfl,mm⟩:=hc;simp only[Lit.wf,Qb6,decide_eq_true_eq]at mm;exact⟨_,_,[],_,[],rfl,rfl,.sc (.int _ _),⟨_,rfl,mm.1,mm.2⟩,rfl,rfl⟩
    ·cases h
   ·cases h
  ·
   rename_i hu;rw[hu]at h;simp only[Qb7]at ht;subst ht;split at h<;>rename_i heq<;>first|(cases heq;done)|skip
   all_goals first|(injection heq with heq;cases heq;done)|skip
   ·rename_i s0
    split at h
    ·simp only[Qb7,Rbx]at h
     obtain⟨rfl,rfl⟩:=h;refine⟨_,_,[],_,[],rfl,rfl,.sc (.str s0.data.toList),⟨_,rfl,hw _ ?_⟩,rfl,rfl⟩;simp only[DataW.weights,Rbb]
    ·cases h
   ·cases h
  ·
   rename_i e hu;split at ht
   case h_2=>cases ht
   rename_i r hr
   cases hb:Nat.beq r.length (P.cellsOf e) with
   |false=>rw[hb]at ht;cases ht
   | true =>
    rw[hb,cond_true]at ht;simp only[Qb7]at ht;subst ht;simp only[Rb3]at hb;rw[hu]at h;split at h<;>rename_i heq<;>first|(cases heq;done)|skip
    all_goals first|(injection heq with heq;cases heq;done)|skip
    ·injection heq with heq
     injection heq with heq
     subst heq;simp only[Qb7,Rbx]at h;obtain⟨rfl,rfl⟩:=h;refine⟨_,_,[],.rows r.length [],[],rfl,rfl,.rows none ⟨0,0,none⟩ 0 0 r.length [] (fun _ _=>undef) rfl (Rbt _) (.inl rfl) (by simp) (by simp) (by simp),⟨[],rfl,by simp,by simp⟩,rfl,rfl⟩
    ·rename_i e0 ad len cap
     injection heq with heq
     injection heq with heq
     subst heq;dsimp only at h;split at h
     case isFalse=>cases h
     rename_i hc;simp only[Qb5,Rbo,Rbx]at h;obtain⟨elems,h1,rest,h2,rfl,rfl⟩:=h;obtain⟨h3,h4⟩:=Haz h1;rw[List.length_range]at h3;simp only[DataW.weights,hu,Rbg,Rbq]at hw
     have gr:∀ i,i<len->∃ ds:List D,∃ cs:List Value,(∀ j c,cs[j]?=some c->w.cell? (ad.add (i*r.length+j))=some c)/\jZ w r cs ds:=by
      intro i hi;obtain⟨y,h5,h6⟩:=h4 i i (by rw[Ubv hi]);simp only[Qb5]at h6;obtain⟨cs,h7,h8⟩:=h6;obtain⟨x,ps⟩:=y;obtain⟨ds,h9⟩:=Da6 n fuel hr h8 fun m hm=>hw m (.inr (.inl (Aag (List.mem_map.2 ⟨_,Rbn h5,rfl⟩) m hm)))
      refine⟨ds,cs,fun j c hj=>?_,h9⟩;unfold World.cells? at h7;split at h7
      ·obtain⟨eo,fb⟩:=Haz h7
       have nu:=(Qb8.1 hj).1;rw[eo,List.length_range]at nu;obtain⟨c',gq,jg⟩:=fb j j (by rw[Ubv nu]);rw[hj]at gq;obtain rfl:=Rb5 gq;rw[add_add,<- hb]at jg;exact jg
      ·cases h7
     obtain⟨rs,h5,h6⟩:=Zao len gr
     have hex:∀ i,∃ cs:List Value,∀ ds,rs[i]?=some ds->(∀ j c,cs[j]?=some c->w.cell? (ad.add (i*r.length+j))=some c)/\jZ w r cs ds:=by
      intro i
      cases hi:rs[i]? with
      |none=>exact⟨[],fun ds h=>by cases h⟩
      | some ds =>
       obtain⟨cs,h7,h8⟩:=h6 i ds hi;exact⟨cs,fun ir h=>by obtain rfl:=Rb5 h;exact⟨h7,h8⟩⟩
     have hch:∃ cf:Nat->List Value,∀ i ds,rs[i]?=some ds->(∀ j c,(cf i)[j]?=some c->w.cell? (ad.add (i*r.length+j))=some c)/\jZ w r (cf i) ds:=⟨fun i=>(hex i).choose,fun i=>(hex i).choose_spec⟩;obtain⟨cf,hcf⟩:=hch
     have hlen:∀ row∈rs,row.length=r.length:=fun row gr=>by
      obtain⟨i,hi⟩:=Sbt.1 gr;exact ((hcf i row hi).2.len).2
     refine⟨[.rows r.length rs],_,[],_,[],rfl,rfl,?_,⟨rs,rfl,?_,fun row gr=>?_⟩,rfl,rfl⟩
     ·refine .rows _ ad len cap r.length rs (fun i j=>((cf i)[j]?).getD undef) h5 hc.2.1 (.inr rfl) hlen (fun i row hi j d hj=>?_) (fun i row hi j d hj=>?_)
      ·obtain⟨c,h7,h8⟩:=(hcf i row hi).2.get hj
       refine⟨trivial,?_⟩;rw[(hcf i row hi).1 j c h7,h7];rfl
      ·obtain⟨c,h7,h8⟩:=(hcf i row hi).2.get hj
       rw[h7];exact h8
     ·have:=hw _ (.inl rfl)
      rw[Rb4,Rb4,h3]at this;rw[h5];exact Nat.le_trans (Nat.mul_le_mul_right _ (Nat.le_add_right ..)) this
     ·obtain⟨i,hi⟩:=Sbt.1 gr
      exact (hcf i row hi).2.wts
    ·cases h
  ·
   rename_i fs hu;split at ht
   case h_2=>cases ht
   rename_i r hr
   cases hb:Nat.beq r.length (P.cellsOf t) with
   |false=>rw[hb]at ht;cases ht
   | true =>
    rw[hb,cond_true]at ht;simp only[Qb7]at ht;subst ht;simp only[Rb3]at hb;rw[hu]at h;split at h<;>rename_i heq<;>first|(cases heq;done)|skip
    all_goals first|(injection heq with heq;cases heq;done)|skip
    ·rename_i cs0 x0 cs1 fs2
     injection heq with heq
     injection heq with heq
     subst heq;split at h
     case isFalse=>cases h
     rename_i hc;simp only[Rbo,Rbx]at h;obtain⟨xs,h1,rfl,rfl⟩:=h;simp only[DataW.weights,hu]at hw
     obtain⟨ds,h2⟩:=Haa (w:=w) (cs:=cs0) (f:=fun fd l=>DataW.trod enc P w 0 sp held fuel fd.type l) (rec:=Jaf P n)
      (fun fd r l y hr' hy xj=>Da6 n fuel hr' (x:=y.1) (ps:=y.2) hy xj) hr h1 hw (by omega)
     exact⟨ds,by simpa using h2⟩
    ·exact ((by assumption:∀ (a6b:Array Field),some (TypeDesc.struct fs)=some (TypeDesc.struct a6b)->False) fs rfl).elim
  ·cases ht
open Go.ChangeShapes Go.RowKit
def Zal:Ty->LS
 |.sl _ _=>.fz false
 |_=>.sc
def Ibz (P:Program)(t:TypeId):Bool:=match P.underlying t with
 |some (.struct _)=>true
 |_=>false
def qZ (P:Program):List TypeId->Option (List (Bool×List LS)×List Ty)
 |[]=>some ([],[])
 | t :: ts => match Jaf P 12 t, qZ P ts with
  |some r,some (ps,ie)=>some ((Ibz P t,r.map Zal)::ps,r++ie)
  |_,_=>none
def Nbq:Gh:=⟨fun _=>.frz,fun _=>undef,fun _=>⟨0,0,none⟩⟩
theorem Abz:∀ (ie:List Ty),Wau (ie.map Zal)=ie.length/\lL (ie.map Zal)=0
 |[]=>⟨rfl,rfl⟩
 | t :: ie => by
  obtain⟨h1,h2⟩:=Abz ie;cases t<;>simp[Wau,lL,Zal,LS.cnt,LS.rcnt,h1,h2]<;>omega
theorem Fa7 {w:World}{ρ:List D}:∀ {ie:List Ty} {cs:List Value} {ds:List D} {i:Nat},jZ w ie cs ds->(∀ j d,ds[j]?=some d->(aP.v (i+j)).val ρ=d)->uS Nbq w ρ 0 i 0 (ie.map Zal) cs
 |[],cs,ds,i,h,_=>by obtain⟨rfl,rfl⟩:=h;rfl
 | t :: ie, cs, ds, i, h, hv => by
  obtain⟨c,oX,d,ir,rfl,rfl,h1,h2,h3⟩:=h;have hv0:(aP.v i).val ρ=d:=by have:=hv 0 d rfl;rwa[Sbg]at this
  have hr:(Zal t).rcnt=0:=by cases t<;>rfl
  have hc:(Zal t).cnt=1:=by cases t<;>rfl
  refine⟨c,oX,rfl,?_,?_⟩
  ·cases t with
   | int k =>
    obtain⟨n,rfl,-⟩:=h2;simp only[Zal,mF,hv0];exact h1.sc_inv rfl
   | bool =>
    obtain⟨n,rfl⟩:=h2;simp only[Zal,mF,hv0];exact h1.sc_inv rfl
   | str =>
    obtain⟨n,rfl,-⟩:=h2;simp only[Zal,mF,hv0];exact h1.sc_inv rfl
   | sl bytes row =>
    simp only[Zal,mF,hv0];exact⟨h1.mono fun b _=>⟨rfl,rfl⟩,fun e=>absurd e (by decide)⟩
  ·rw[hr,hc]
   refine Fa7 (i:=i+1) h3 fun j d' hj=>?_
   have:=hv (j+1) d' (by simpa using hj);rwa[show i+(j+1)=i+1+j by omega]at this
theorem Paz {P:Program}{W:World}{base:Nat}{n:Nat}{t:TypeId}{ie:List Ty}{v:Value}(h:Jaf P n t=some ie)(hv:Value.okWide P W .any base t v):if Ibz P t=true then v=.agg v.cells.toList.toArray else v.cells.toList=[v]:=by
 cases n with
 |zero=>simp[Jaf]at h
 | succ n =>
  unfold Value.okWide at hv;unfold Ibz;simp only[Jaf]at h
  cases hu:P.underlying t with
  |none=>rw[hu]at h;cases h
  | some u =>
   rw[hu]at h hv
   cases u with
   | struct fs =>
    obtain⟨cs,rfl,-⟩:=hv;simp[Value.cells]
   | bool =>
    simp only[Cell.okWide,Cell.ok,hu]at hv;cases v<;>simp at hv
    simp[Value.cells]
   | int k =>
    simp only[Cell.okWide,Cell.ok,hu]at hv;cases v<;>simp at hv
    simp[Value.cells]
   | string =>
    simp only[Cell.okWide,Cell.ok,hu]at hv;cases v<;>simp at hv
    simp[Value.cells]
   | slice e =>
    simp only[Cell.okWide,Cell.ok,hu]at hv;cases v<;>simp at hv
    simp[Value.cells]
   |_=>cases h
theorem Kar {P:Program}{H:Type}{enc:TypeId×Value->H}{W:World}{sp:Nat->Bool}{held:Bool}{base:Nat}:∀ {ts:List TypeId} {vs:List Value} {ds:List (DataW H)} {ps:List MemPlace} {sps:List (Bool×List LS)} {ie:List Ty},
  qZ P ts=some (sps,ie)->DataW.TrodAll enc P W 0 sp held ts vs ds ps->(∀ (j:Nat) t v,ts[j]?=some t->vs[j]?=some v->Value.okWide P W .any base t v)->(∀ m∈DataW.weightsEach P ts ds,m<=reachBytes) ->
  ∃ dd,WTs ie dd/\dd.length=ie.length/\ie.length=Ka1 sps/\kM sps=0/\∀ (ρ:List D) (i:Nat),(∀ j d,dd[j]?=some d->(aP.v (i+j)).val ρ=d)->nJ Nbq W ρ 0 i 0 sps vs
 | [], vs, ds, ps, sps, ie, h, ht, _, _ => by
  simp only[qZ,Qb7,Rbx]at h;obtain⟨rfl,rfl⟩:=h
  cases vs with
  |cons v vs=>cases ds<;>exact ht.elim
  |nil=>exact⟨[],rfl,rfl,rfl,rfl,fun ρ i _=>rfl⟩
 | t :: ts, vs, ds, ps, sps, ie, h, ht, hv, hw => by
  simp only[qZ]at h;split at h
  case h_2=>cases h
  rename_i r sps' a1q hr hl;simp only[Qb7,Rbx]at h;obtain⟨rfl,rfl⟩:=h
  cases vs with
  |nil=>cases ds<;>exact ht.elim
  | cons v vs =>
   cases ds with
   |nil=>exact ht.elim
   | cons d ds =>
    obtain⟨p,q,⟨fuel,h1⟩,h2,rfl⟩:=ht;rw[wJ]at hw;obtain⟨dd,h3⟩:=Da6 12 fuel hr h1 fun m hm=>hw m (Qb9 _ hm)
    obtain⟨dd',h4,h5,h6,h7,h8⟩:=Kar hl h2 (fun j t' v' hj jd=>hv (j+1) t' v' (by simpa using hj) (by simpa using jd)) fun m hm=>hw m (Rbc _ hm)
    obtain⟨xw,qT⟩:=Abz r;obtain⟨uq,hn2⟩:=h3.len;refine⟨dd++dd',?_,by simp[hn2,h5],by simp only[Rbh,Ka1,xw,h6],by simp only[kM,qT,h7],fun ρ i fk=>?_⟩
    ·have:∀ {a:List Ty} {x:List D},WTs a x->WTs (a++a1q) (x++dd'):=by
      intro a
      induction a with
      |nil=>intro x hx;simp only[WTs]at hx;subst hx;exact h4
      | cons t a ih =>
       intro x hx;simp only[WTs]at hx;obtain⟨y,ys,rfl,hy1,hy2⟩:=hx;simp only[Tbq,WTs];exact⟨y,_,rfl,hy1,ih hy2⟩
     exact this h3.wts
    ·refine⟨v,vs,v.cells.toList,rfl,Fa7 h3 fun j d' hj=>fk j d' (by rw[Rbm (Qb8.1 hj).1];exact hj),Paz hr (hv 0 t v rfl rfl),?_⟩
     rw[xw,qT];refine h8 ρ (i+r.length) fun j d' hj=>?_
     rw[Rbp,<- hn2];exact fk _ _ (by rw[Rbj (by omega),Sbi];exact hj)
theorem Baq {P:Program}{H:Type}{enc:TypeId×Value->H}(hl:laidOutB P=true){W W':World}(hb:Below W.heap.size W W'):∀ {ts:List TypeId} {vs:List Value} {ds:List (DataW H)} {ps:List MemPlace},(ts.all fun t=>P.readableRec t&&decide (t<P.types.size))=true ->
  DataW.TrodAll enc P W 0 (fun _=>true) true ts vs ds ps->DataW.TrodAll enc P W' 0 (fun b=>decide (b<W.heap.size)) true ts vs ds ps
 |[],[],[],ps,_,h=>h
 |[],[],_::_,ps,_,h=>h.elim
 |[],_::_,_,ps,_,h=>h.elim
 |_::_,[],_,ps,_,h=>h.elim
 |_::_,_::_,[],ps,_,h=>h.elim
 | t :: ts, v :: vs, d :: ds, ps, hr, h => by
  simp only[List.all_cons,Qb6,decide_eq_true_eq]at hr;obtain⟨p,q,h1,h2,rfl⟩:=h;refine⟨p,q,Below.trod hl hr.1.1 hr.1.2 h1 hb ?_,Baq hl hb hr.2 h2,rfl⟩;obtain⟨m,hm⟩:=h1;exact DataW.trod_lt m _ _ _ hm
theorem Va1 {P : Program} {X : (Nat -> Ow) -> World -> Prop} {T : Nat -> Ent} {key : Nat} {s : Sig} {fn : Func} {c : Code} (hc : ∀ n, Da4 P X T n key s) (hfn : P.funcs[s.fn]? = some fn) (hname : (fn.name == "runtime.NumGoroutine") = false) (hbody : fn.body = some c)
  {ie:List Ty} (oi:qZ P fn.params.toList=some (s.params,ie)) (gz:s.boxes=[]) (kg:s.results=[(false,[.sc])]) (hpure:∀ ds,WTs ie ds->∃ n,lK T n key ds=some [.bool true])
  {H:Type} {enc:TypeId×Value->H} {W:World} {base:Nat} {args:Array Value} {ds:List (DataW H)} {ps:List MemPlace}
  (fk:∀ (j:Nat) t v,fn.params[j]?=some t->args[j]?=some v->Value.okWide P W .any base t v) (ht:DataW.TrodAll enc P W 0 (fun _=>true) true fn.params.toList args.toList ds ps)
  (hw:∀ m∈DataW.weightsEach P fn.params.toList ds,m<=reachBytes) (hX:X (fun _=>.frz) W):Calls P s.fn args W fun e W'=>e=.returned (.bool true)/\Below W.heap.size W W':=by
 obtain⟨dd,h1,h2,h3,h4,h5⟩:=Kar (base:=base) oi ht (fun j t v hj hv=>fk j t v (by simpa using hj) (by simpa using hv)) hw;obtain⟨n,hn⟩:=hpure dd h1
 have fL:Fb6 s args.toList W Nbq dd:=by
  refine⟨?_,?_,?_,fun _ _=>rfl,fun b j _ e=>by cases e⟩
  ·rw[gz]
   exact h5 dd 0 fun j d hj=>by simp[aP.val,Rbi,hj]
  ·rw[gz];trivial
  ·rw[h2,h3,gz];rfl
 have gg:=hc n args.toList W Nbq dd _ fL hX hn;have e:args.toList.toArray=args:=by simp
 rw[e]at gg
 rcases gg with ⟨-,eh⟩|⟨v,w',hr,-⟩
 ·refine Calls.mono eh fun en W' he=>?_
  cases en with
  | returned v =>
   obtain⟨G,us,rfl,hF,fq,-⟩:=he;rw[kg]at fq;obtain⟨u,eE,vs,rfl,hl,tW,fx⟩:=fq;simp only[Laa]at fx;subst fx;simp only[Rbk,if_false]at tW;subst tW;obtain⟨u',us2,e2,kz,-⟩:=hl;obtain⟨rfl,rfl⟩:=Ub2 e2;simp only[nI]at kz
   have hu:u=.bool true:=by
    have:([D.bool true].getD 0 .undef)=D.bool true:=rfl;rw[this]at kz;exact kz.bool_inv
   subst hu;exact⟨rfl,hF.os,hF.tape,hF.output,hF.size,fun k hk=>(hF.keep k hk (.inl rfl)).1⟩
  |panicked c=>exact he.elim
  |outgrown=>exact he.elim
 ·rw[oG hfn hname hbody]at hr
  cases hr
theorem Zaq {P : Program} {T : Nat -> Ent} {key : Nat} {s : Sig} {fn : Func} {c : Code} (hc : ∀ n, qG P T n key s) (hfn : P.funcs[s.fn]? = some fn) (hname : (fn.name == "runtime.NumGoroutine") = false) (hbody : fn.body = some c)
  {ie:List Ty} (oi:qZ P fn.params.toList=some (s.params,ie)) (gz:s.boxes=[]) (kg:s.results=[(false,[.sc])]) (hpure:∀ ds,WTs ie ds->∃ n,lK T n key ds=some [.bool true])
  {H:Type} {enc:TypeId×Value->H} {W:World} {base:Nat} {args:Array Value} {ds:List (DataW H)} {ps:List MemPlace}
  (fk:∀ (j:Nat) t v,fn.params[j]?=some t->args[j]?=some v->Value.okWide P W .any base t v) (ht:DataW.TrodAll enc P W 0 (fun _=>true) true fn.params.toList args.toList ds ps)
  (hw:∀ m∈DataW.weightsEach P fn.params.toList ds,m<=reachBytes):Calls P s.fn args W fun e W'=>e=.returned (.bool true)/\Below W.heap.size W W' :=
 Va1 (X:=fun _ _=>True) (fun n vals w G ds ir hp _ h=>hc n vals w G ds ir hp h) hfn hname hbody oi gz kg hpure fk ht hw trivial
open Go.ChangeShapes Go.RowKit in
theorem Kas {C : Checked} {spec : ChangeSpec} {T : Nat -> Ent} {key : Nat} {s : Sig} {fn : Func} {c : Code} {conds : List PathCond} (own : ownKnob C.prog.godebug = none) (laid : laidOutB C.prog = true) (hc : ∀ n, qG C.prog T n key s) (hfn : C.prog.funcs[s.fn]? = some fn) (hname : (fn.name == "runtime.NumGoroutine") = false) (hbody : fn.body = some c)
  {ie:List Ty} (oi:qZ C.prog fn.params.toList=some (s.params,ie)) (gz:s.boxes=[]) (kg:s.results=[(false,[.sc])]) (hpure:∀ ds,WTs ie ds->∃ n,lK T n key ds=some [.bool true])
  (a2z:(fn.params.toList.all fun t=>C.prog.readableRec t&&decide (t<C.prog.types.size))=true) {rt:TypeId} (oA:fn.resultTypes=#[rt]) (hrb:C.prog.underlying rt=some .bool)
  (s7:spec.vars=[]) (a2t:∀ (H:Type) (ds:List (DataW H)),ds.length=fn.params.size->spec.fn H ds={ results:=[.lit (.bool true)],args:=ds,vars:=[] }) (a1x:C.prog.inits.idxOf? s.fn=none)
  (os:Os) (started:os.Started) (H:Type) (enc:TypeId×Value->H)
  (witness:∃ (w:World) (tape:Tape) (i:Input),w.os=os/\(w.forCall tape i).Shaped C.prog/\i.vars=[]/\Input.okWide C.prog (w.forCall tape i) .any w.heap.size s.fn i /\
   spec.pre6 enc C.prog fn conds false (w.forCall tape i).memory i.args/\({}:Assume).holds C.prog (lone (Frame.enter C.prog s.fn i.args .normal) [] (w.forCall tape i))) :
  ReturnsInHanded {} C os s.fn .any (spec.pre6 enc C.prog fn conds false) (spec.post enc C.prog fn false true false false):=by
 refine returnsInHanded_of_change_sized own started a1x hfn witness ?_;intro W base args ds gs before fk hW _ ej _;have hW':=hW;obtain⟨p,q,hA,hV,rfl,jr,hnd⟩:=hW;rw[s7]at hV;obtain⟨rfl,rfl⟩:=trodVars_none hV
 have hvt:spec.plain.varTypes C.prog=[]:=by
  simp[ChangeSpec.plain,DataSpec.varTypes,s7]
 rw[hvt,Rb1,Rb1]at ej
 have hlen:∀ {ts:List TypeId} {vs:List Value} {ds:List (DataW H)} {ps:List MemPlace},DataW.TrodAll enc C.prog W 0 (fun _=>true) true ts vs ds ps->ds.length=ts.length:=by
  intro ts
  induction ts with
  | nil =>
   intro vs ds ps h;cases vs<;>cases ds<;>first|rfl|exact h.elim
  | cons t ts ih =>
   intro vs ds ps h;cases vs<;>cases ds<;>first|exact h.elim|skip
   obtain⟨p,q,-,h2,-⟩:=h;simp[ih h2]
 have hl:=hlen hA;refine (Zaq hc hfn hname hbody oi gz kg hpure fk hA (fun m hm=>?_)).mono fun e W' ⟨he,bel⟩=>?_
 ·rw[Rb6]at ej
  simpa using ej m hm
 ·subst he
  have fN:=a2t H (ds++[]) (by simpa using hl);refine⟨_,rfl,ds,[],_,[],p,[],hW',?_,?_,?_,bel.frame _,fun h=>by cases h⟩
  ·rw[fN,oA]
   exact trodAll_mk1 (shut_bool hrb _)
  ·rw[fN]
   simp only[Rb1];exact Baq laid bel a2z hA
  ·rw[fN,s7]
   rfl
end Go.Proofs.YtgpamlpecmldfaaGreat.Rf
namespace Go.Proofs.YtgpamlpecmldfaaGreat.Rf
def lX:List (Nat×TI)->Nat->Option TI
 |[],_=>none
 |(k,i)::r,t=>bif Nat.beq k t then some i else lX r t
theorem Mam {P:Program}:∀ {l:List (Nat×TI)},(∀ p∈l,nL P p.1=some p.2)->wU P (lX l)
 |[],_=>⟨fun t i h=>by cases h⟩
 | (k, i) :: r, h => ⟨fun t j ht => by
  simp only[lX]at ht
  cases hb:Nat.beq k t with
  | true =>
   rw[hb,cond_true]at ht;simp only[Rb3]at hb;subst hb;rw[<- ht];exact h (k,i) Rbr
  | false =>
   rw[hb,cond_false]at ht;exact (Mam fun p hp=>h p (Rbl _ hp)).ok t j ht⟩
def Daj:List (Nat×Ent)->Nat->Ent
 |[],_=>.none
 |(k,e)::r,t=>bif Nat.beq k t then e else Daj r t
theorem Gaw {P:Program}{T:Nat->Ent}{ti:Nat->Option TI}{sigs:List (Nat×Sig)}(h:∀ p∈sigs,Ran P T ti sigs p.1 p.2):∀ key s,(key,s)∈sigs->Ran P T ti sigs key s:=fun key s hm=>h (key,s) hm
theorem Saw {P : Program} {T : Nat -> Ent} {E : Env} {key : Nat} {s : Sig} {fn : Func} {tm : Tm Unit} (h1 : P.funcs[s.fn]? = some fn) (h2 : (fn.name == "runtime.NumGoroutine") = false) (h3 : Vai E s fn = some tm) (h4 : T key = .tm tm) : Ran P T E.ti E.sigs key s :=
 .inl ⟨E,fn,tm,rfl,rfl,h1,h2,h3,h4⟩
theorem fnK {P : Program} {T : Nat -> Ent} {E : Env} {key : Nat} {s : Sig} {fn : Func} {tm : Tm Unit} (h1 : P.funcs[s.fn]? = some fn) (h : (fn.name == "runtime.NumGoroutine", Vai E s fn, T key) = (false, some tm, .tm tm)) : Ran P T E.ti E.sigs key s :=
 Saw h1 (congrArg (·.1) h) (congrArg (·.2.1) h) (congrArg (·.2.2) h)
theorem fc {α:Type}{p:α->Prop}{a:α}{l:List α}(h:p a)(h':∀ x∈l,p x):∀ x∈a::l,p x:=List.forall_mem_cons.2 ⟨h,h'⟩
theorem fc0 {α:Type}{p:α->Prop}:∀ x∈([]:List α),p x:=List.forall_mem_nil _
theorem Ya7 {T:Nat->Ent}{key:Nat}{ds r:List D}(h:Fun T key ds=some r):∃ n,lK T n key ds=some r:=Ga2.1 h
def apL (e d:Nat):Nat->List Nat
 |0=>[]
 |n+1=>(e-d*(n+1))::apL e d n
abbrev i64 (n:Int):D:=.int .i64 n
theorem wrap_i64 {n:Int}(h1:-9223372036854775808<=n)(h2:n<=9223372036854775807):IntKind.i64.wrap n=n:=IntWalk.i64_in n ⟨h1,h2⟩
section
variable {T:Nat->Ent} {β:Type}
end
theorem Hbm {a b:Int}:(aS.bin .lss).run [i64 a,i64 b]=some [.bool (decide (a<b))]:=by simp[aS.run,Rad,Ca7]
theorem Hbo {a b:Int}:(aS.bin .gtr).run [i64 a,i64 b]=some [.bool (decide (a>b))]:=by simp[aS.run,Rad,Ca7]
theorem Hbn {a b:Int}:(aS.bin .leq).run [i64 a,i64 b]=some [.bool (decide (a<=b))]:=by simp[aS.run,Rad,Ca7]
theorem Hbp {a b:Int}:(aS.bin .geq).run [i64 a,i64 b]=some [.bool (decide (a ≥ b))]:=by simp[aS.run,Rad,Ca7]
theorem Hbl {a b:Int}:(aS.bin .neq).run [i64 a,i64 b]=some [.bool (!(a==b))]:=by simp[aS.run,Rad,Ca7,bne]
theorem Hbq {a b:Int}:(aS.bin .eql).run [i64 a,i64 b]=some [.bool (a==b)]:=by simp[aS.run,Rad,Ca7]
theorem Hbt {a b:Int}(h1:-9223372036854775808<=a+b)(h2:a+b<=9223372036854775807):(aS.bin .add).run [i64 a,i64 b]=some [i64 (a+b)]:=by simp[aS.run,Rad,Ca7,wrap_i64 h1 h2]
theorem Hbj {a b:Int}(h1:-9223372036854775808<=a-b)(h2:a-b<=9223372036854775807):(aS.bin .sub).run [i64 a,i64 b]=some [i64 (a-b)]:=by simp[aS.run,Rad,Ca7,wrap_i64 h1 h2]
theorem Hbk {b:Bool}:aS.not.run [.bool b]=some [.bool (!b)]:=rfl
theorem Hbr {a b:Bool}:(aS.eqb true).run [.bool a,.bool b]=some [.bool (!(a==b))]:=rfl
section
variable {T:Nat->Ent}
end
def upto {α:Type}(z:α)(ys:List α)(i:Nat):List α:=ys.take i++Rbs (ys.length-i) z
theorem Ga8 {α:Type}(z:α)(ys:List α):upto z ys 0=Rbs ys.length z:=by simp[upto]
theorem Lah {α:Type}(z:α)(ys:List α):upto z ys ys.length=ys:=by simp[upto]
theorem Lag {α:Type}(z:α)(ys:List α){i:Nat}(h:i<=ys.length):(upto z ys i).length=ys.length:=by simp[upto];omega
theorem Laf {α:Type}(z:α)(ys:List α){i:Nat}{y:α}(h:ys[i]?=some y):(upto z ys i).set i y=upto z ys (i+1):=by
 have bh:=(Qb8.1 h).1;apply List.ext_getElem?;intro j;rw[List.getElem?_set];unfold upto;rw[Rbh,Rbv,Sbu];by_cases e:i=j
 ·subst e
  rw[if_pos rfl,if_pos (by omega),Rbm (by simp;omega),Sbe,if_pos (by omega)];exact h.symm
 ·rw[if_neg e]
  rcases Rbu j i with hj|hj
  ·rw[Rbm (by simp;omega),Rbm (by simp;omega),Sbe,Sbe,if_pos hj,if_pos (by omega)]
  ·rw[Rbj (by simp;omega),Rbj (by simp;omega),Tbs,Tbs]
   simp only[Rbv];by_cases h2:j<ys.length
   ·rw[if_pos (by omega),if_pos (by omega)]
   ·rw[if_neg (by omega),if_neg (by omega)]
section
variable {T:Nat->Ent} {β:Type}
noncomputable def Er (T:Nat->Ent)(t:Tm β)(ρ:List D):Option (Kind×List D):=(Ev T t ρ).map fun o=>(o.kind,o.vals)
def Qbh (r:Kind×List D):Option (List D):=if r.1=.ret then some r.2 else none
def Qbl {α:Type}(d:D)(a b:Option α):Option α:=match d with
 |.bool true=>a
 |.bool false=>b
 |_=>none
def gdR (d:D)(w:Bool):Bool:=match d with
 |.bool b=>b==w
 |_=>false
theorem Qbc {f:Nat}{t:Tm Unit}(h:T f=.tm t)(args:List D):Fun T f args=(Er T t args).bind Qbh:=by
 rw[Mb8 h,Er];cases Ev T t args<;>rfl
theorem Ib5 (k:Kind)(xs:List aP)(e:β)(ρ:List D):Er T (.leaf k xs e) ρ=some (k,xs.map (·.val ρ)):=by
 rw[Er,Ib3];rfl
noncomputable def stepT (T:Nat->Ent)(k:Tm β)(ρ:List D)(n:Nat)(a:Option (List D)):Option (Kind×List D):=a.bind fun ds=>if ds.length=n then Er T k (ρ++ds) else none
noncomputable def Pbx (T:Nat->Ent)(t e:Tm β)(ρ:List D)(c:D):Option (Kind×List D):=Qbl c (Er T t ρ) (Er T e ρ)
noncomputable def ltT (T:Nat->Ent)(p:aS)(xs:List aP)(n:Nat)(k:Tm β)(ρ:List D)(w:Bool)(c:D):Option (Kind×List D) :=
 if gdR c w=true then stepT T k ρ n (p.run (xs.map (·.val ρ))) else Er T k (ρ++Rbs n .undef)
noncomputable def Ibt (T:Nat->Ent)(f:Nat)(xs:List aP)(n:Nat)(os:List aP)(k:Tm β)(ρ:List D)(w:Bool)(c:D):Option (Kind×List D) :=
 if gdR c w=true then stepT T k ρ n (Fun T f (xs.map (·.val ρ))) else Er T k (ρ++(Rbs (n-os.length) .undef++os.map (·.val ρ)))
theorem Nbf (p:aS)(xs:List aP)(n:Nat)(k:Tm β)(ρ:List D):Er T (.lt none p xs n k) ρ=stepT T k ρ n (p.run (xs.map (·.val ρ))):=by
 rw[Er,Nbc,stepT];simp only[gOn,if_true]
 cases p.run (xs.map (·.val ρ)) with
 |none=>rfl
 | some ds =>
  simp only[Rbe];split<;>rfl
theorem Nbe (a:aP)(w:Bool)(p:aS)(xs:List aP)(n:Nat)(k:Tm β)(ρ:List D):Er T (.lt (some (a,w)) p xs n k) ρ=ltT T p xs n k ρ w (a.val ρ):=by
 rw[Er,Nbc,ltT,stepT];have:gOn ρ (some (a,w))=gdR (a.val ρ) w:=rfl;rw[this]
 cases gdR (a.val ρ) w with
 |false=>rfl
 | true =>
  simp only[if_true]
  cases p.run (xs.map (·.val ρ)) with
  |none=>rfl
  | some ds =>
   simp only[Rbe];split<;>rfl
theorem Fb4 (f:Nat)(xs:List aP)(n:Nat)(os:List aP)(k:Tm β)(ρ:List D):Er T (.call none f xs n os k) ρ=stepT T k ρ n (Fun T f (xs.map (·.val ρ))):=by
 rw[Er,Bbm,stepT];simp only[gOn,if_true]
 cases Fun T f (xs.map (·.val ρ)) with
 |none=>rfl
 | some ds =>
  simp only[Rbe];split<;>rfl
theorem Fb3 (a:aP)(w:Bool)(f:Nat)(xs:List aP)(n:Nat)(os:List aP)(k:Tm β)(ρ:List D):Er T (.call (some (a,w)) f xs n os k) ρ=Ibt T f xs n os k ρ w (a.val ρ):=by
 rw[Er,Bbm,Ibt,stepT];have:gOn ρ (some (a,w))=gdR (a.val ρ) w:=rfl;rw[this]
 cases gdR (a.val ρ) w with
 |false=>rfl
 | true =>
  simp only[if_true]
  cases Fun T f (xs.map (·.val ρ)) with
  |none=>rfl
  | some ds =>
   simp only[Rbe];split<;>rfl
theorem Nbg (c:aP)(t e:Tm β)(ρ:List D):Er T (.ite c t e) ρ=Pbx T t e ρ (c.val ρ):=by
 rw[Er,Nbd,Pbx]
 cases c.val ρ with
 |bool b=>cases b<;>rfl
 |_=>rfl
noncomputable def pO (T:Nat->Ent)(i:Nat)(k:Tm β)(ρ:List D)(r:Option (Kind×List D)):Option (Kind×List D):=r.bind fun r=>if r.1=.yield i then Er T k (ρ++r.2) else some r
theorem Ua9 {i:Nat}{k:Tm β}{ρ ds:List D}:pO T i k ρ (some (.yield i,ds))=Er T k (ρ++ds):=by simp[pO]
theorem Xae {i:Nat}{k:Tm β}{ρ ds:List D}:pO T i k ρ (some (.ret,ds))=some (.ret,ds):=by simp[pO]
theorem Vab {i:Nat}{k:Tm β}{ρ ds:List D}:pO T i k ρ (some (.cont,ds))=some (.cont,ds):=by simp[pO]
theorem Eba {i j:Nat}{k:Tm β}{ρ ds:List D}(h:j≠i):pO T i k ρ (some (.yield j,ds))=some (.yield j,ds):=by simp[pO,h]
theorem Ib6 (i:Nat)(t k:Tm β)(ρ:List D):Er T (.bind i t k) ρ=pO T i k ρ (Er T t ρ):=by
 rw[Er,Ib4,pO,Er]
 cases Ev T t ρ with
 |none=>rfl
 | some o =>
  simp only[Rbe,Sbq];split<;>rfl
theorem Gbg {t:Tm β}{ρ:List D}{k:Kind}{ds:List D}(h:Er T t ρ=some (k,ds)):∃ o,Ev T t ρ=some o/\o.kind=k/\o.vals=ds:=by
 unfold Er at h
 cases e:Ev T t ρ with
 |none=>rw[e]at h;cases h
 | some o =>
  rw[e,Sbq]at h;have:=Rb5 h;exact⟨o,rfl,congrArg Prod.fst this,congrArg Prod.snd this⟩
theorem Pa3 {γ:Type}{body:Tm β}{ρ:List D}(m:γ->Nat)(inv:γ->Prop)(vs:γ->List D)(Q:Kind×List D->Prop)
  (h:∀ c,inv c->∃ r,Er T body (ρ++vs c)=some r/\(r.1=.cont/\(∃ c',inv c'/\m c'<m c/\r.2=vs c')\/r.1≠.cont/\Q r)) :
  ∀ (n:Nat) c,m c<=n->inv c->∀ xs:List aP,xs.map (·.val ρ)=vs c->∃ r,Er T (.loop xs body) ρ=some r/\Q r:=by
 have key:∀ (n:Nat) c,m c<=n->inv c->∃ o,Lp T body ρ (vs c)=some o/\Q (o.kind,o.vals):=by
  intro n
  induction n with
  | zero =>
   intro c hm hc;obtain⟨⟨k,ds⟩,h1,h2⟩:=h c hc;obtain⟨o,h3,rfl,rfl⟩:=Gbg h1
   rcases h2 with ⟨-,c',-,h5,-⟩|⟨h4,h5⟩
   ·omega
   ·exact⟨o,by rw[Ib1,h3,Rbe,if_neg h4],h5⟩
  | succ n ih =>
   intro c hm hc;obtain⟨⟨k,ds⟩,h1,h2⟩:=h c hc;obtain⟨o,h3,rfl,rfl⟩:=Gbg h1
   rcases h2 with ⟨h4,c',h5,h6,h7⟩|⟨h4,h5⟩
   ·obtain⟨o',h8,h9⟩:=ih c' (by omega) h5
    refine⟨o',?_,h9⟩;rw[Ib1,h3,Rbe,if_pos h4];show Lp T body ρ o.vals=_
    rw[show o.vals=vs c' from h7,h8]
   ·exact⟨o,by rw[Ib1,h3,Rbe,if_neg h4],h5⟩
 intro n c hm hc xs hx;obtain⟨o,h1,h2⟩:=key n c hm hc;exact⟨_,by rw[Er,Ib2,hx,h1,Sbq],h2⟩
end
def wV (ok:Nat->Bool):Nat->Bool
 |0=>true
 |n+1=>wV ok n&&ok n
theorem jB {ok:Nat->Bool}:∀ {n:Nat},wV ok n=true↔∀ i,i<n->ok i=true
 |0=>by simp[wV]
 | n + 1 => by
  simp only[wV,Qb6,jB (n:=n)];constructor
  ·rintro⟨h1,h2⟩ i hi
   rcases Rbu i n with h|h
   ·exact h1 i h
   ·obtain rfl:i=n:=by omega
    exact h2
  ·exact fun h=>⟨fun i hi=>h i (by omega),h n (by omega)⟩
theorem Faa {ok:Nat->Bool}{n:Nat}:wV ok n=false↔∃ i,i<n/\ok i=false:=by
 constructor
 ·intro h
  apply Classical.byContradiction;intro hn
  have:wV ok n=true:=jB.2 fun i hi=>by
   cases e:ok i with
   |true=>rfl
   |false=>exact absurd ⟨i,hi,e⟩ hn
  rw[this]at h;cases h
 ·rintro⟨i,hi,h⟩
  cases e:wV ok n with
  |false=>rfl
  |true=>rw[jB.1 e i hi]at h;cases h
theorem Oaf {p q:Nat->Bool}:∀ {n:Nat},wV (fun i=>p i&&q i) n=(wV p n&&wV q n)
 |0=>rfl
 | n + 1 => by
  simp only[wV,Oaf (n:=n)];cases wV p n<;>cases wV q n<;>cases p n<;>cases q n<;>rfl
theorem Fab {p q:Nat->Bool}:∀ {n:Nat},(∀ i,i<n->p i=q i)->wV p n=wV q n
 |0,_=>rfl
 |n+1,h=>by simp only[wV,Fab (n:=n) fun i hi=>h i (by omega),h n (by omega)]
section
variable {T:Nat->Ent} {β:Type}
end
theorem Mbb {d:D}:aS.id.run [d]=some [d]:=rfl
def inR (x lo hi:Int):Bool:=decide (lo<=x)&&decide (x<=hi)
end Go.Proofs.YtgpamlpecmldfaaGreat.Rf
