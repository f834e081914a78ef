/- Terms for the program's functions, and that they are right: part 7 of 10. -/
import Derived.Test.YtpgnlmfmlffjcaaGreatRf6
import Derived.SizedLaws
import Derived.Carry
import Derived.ChangeOld
import Derived.ChangeShapes
import Derived.RowKit
import Derived.IntWalk
open Bool renaming and_eq_true → Sbu, false_eq_true → Sbv
open List renaming length_cons → Sbw, length_append → Sby, mem_append_left → Sbz, getElem?_eq_getElem → Sb0, replicate → Sb1, mem_append_right → Sb2, append_assoc → Sb3, getD_eq_getElem?_getD → Sb4, length_map → Sb5, getElem?_cons_zero → Sb8, mem_singleton → Sb9, mem_cons_of_mem → Tba, append_nil → Tbb, length_take → Tbc, mem_cons_self → Tbe, getElem?_append_right → Tbf, mem_of_getElem? → Tbg, getElem?_append_left → Tbj, map_cons → Tbn, getElem?_map → Tbo, all_eq_true → Tbp, length_replicate → Tbq, map_nil → Tbw, nil_append → Tb2, mem_cons → Tb7, getElem?_take → Ubg, filter_cons → Ubq, getElem?_replicate → Uby, cons_append → Ub3, mem_append → Vbs, getElem?_range → Wbn
open Nat renaming le_refl → Sb7, lt_or_ge → Tbi, add_assoc → Tbl, add_zero → Tbs, zero_add → Tbt, beq_eq → Tbv, add_sub_cancel_left → Tb4, ble_eq → Ubf
open Option renaming bind_eq_some_iff → Sbt, bind_some → Sb6, map_eq_some_iff → Tbd, map_some → Ubd, getD_some → Ub1
set_option linter.unusedSimpArgs false
set_option linter.unusedVariables false
set_option linter.unnecessarySimpa false
set_option linter.unusedSectionVars false
namespace Go.Proofs.YtpgnlmfmlffjcaaGreat.Rf
set_option linter.unusedVariables false
set_option linter.unusedSimpArgs false
section
variable (w:World)
def owC (ad:Addr):Nat->List BO->List Value
 |_,[]=>[]
 |off,s::r=>(match s with | .ow _=>[(w.cell? (ad.add off)).getD undef] | _=>[])++owC ad (off+1) r
def Abr:LR->Value->List Value
 |.ow _,v=>[v]
 |.bx cs,.pointer (some ad)=>owC w ad 0 cs
 |_,_=>[]
def owL:List LR->List Value->List Value
 |s::ss,v::vs=>Abr w s v++owL ss vs
 |_,_=>[]
def owR:List (Bool×List LR)->List Value->List Value
 |(a,ss)::rs,u::us=>owL w ss (if a=true then u.cells.toList else [u])++owR rs us
 |_,_=>[]
def owB (bx:Nat->Addr):Nat->List (Bool×List (BS×BO))->List Value
 |_,[]=>[]
 |b,(ro,cs)::r=>if ro=true then owB bx (b+1) r else owC w (bx b) 0 (cs.map (·.2))++owB bx (b+1) r
end
def Van:LR->Value->List Addr
 |.bx _,.pointer (some ad)=>[ad]
 |_,_=>[]
def Raq:List LR->List Value->List Addr
 |s::ss,v::vs=>Van s v++Raq ss vs
 |_,_=>[]
def Ma3:List (Bool×List LR)->List Value->List Addr
 |(a,ss)::rs,u::us=>Raq ss (if a=true then u.cells.toList else [u])++Ma3 rs us
 |_,_=>[]
theorem Cbx (s:LR)(v:Value):(Van s v).length<=(match s with|.bx _=>1|_=>0):=by
 unfold Van
 split<;>simp
theorem Vap:∀ (ss:List LR) (vs:List Value),(Raq ss vs).length<=bxL ss
 |[],vs=>by simp[Raq]
 |s::ss,[]=>by simp[Raq]
 | s :: ss, v :: vs => by
  have h1:=Cbx s v
  have h2:=Vap ss vs
  simp only[Raq,Sby]
  cases s<;>simp only[bxL]at *<;>omega
theorem Vao:∀ (rs:List (Bool×List LR)) (us:List Value),(Ma3 rs us).length<=oL rs
 |[],us=>by simp[Ma3]
 |(a,ss)::rs,[]=>by simp[Ma3]
 | (a, ss) :: rs, u :: us => by
  have h1:=Vap ss (if a=true then u.cells.toList else [u])
  have h2:=Vao rs us
  simp only[Ma3,Sby,oL]
  omega
def Wa2:List BO->Bool
 |[]=>true
 |.ow _::_=>false
 |_::r=>Wa2 r
section
variable {E:Env} {F:cB} {σ σ':Nat->Option aW} {ρ:List D} {a:Act} {w w':World} {G G':Gh} {s:Sig} {Z:Take} {gd:Bool} {nr nb y0:Nat} {hs:List Value} {adn:Addr} {ds:List D}
def Vat (ρ:List D)(l:List Step):Prop:=∀ m y,.prim (.dep m) [.v y] 0∈l->vD m ((aO.v y).val ρ)=true
structure Aft (E:Env) (F:cB) (σ σ':Nat->Option aW) (ρ:List D) (a:Act) (w:World) (G:Gh) (s:Sig) (Z:Take) (G':Gh) (w':World) (y0:Nat) (ds:List D):Prop where
 B:Vau E F σ ρ a w G s Z G' w'
 val:∀ i,i<ds.length->(aO.v (y0+i)).val ρ=ds.getD i .undef
 known:∀ z∈Z.deps,nS σ' z.1 z.2
def UOk (NewB:Nat->Prop)(σ':Nat->Option aW)(ρ:List D)(G2:Gh)(w':World)(nr nb y0:Nat)(u:List (Nat×aW)):Prop :=
 ∀ k c,(k,c)∈u->(∃ q m i,k=kR (nr+q)/\c=.root (.v (y0+i)) m 0 .live/\Rp G2.own w' (nr+q) [] m (G2.hdr (nr+q)) ((aO.v (y0+i)).val ρ)) \/
  (k=kB nb/\∃ ls,c=.box false ls/\Pan σ' ρ G2 w' nb false ls/\NewB (G2.bx nb).block)
theorem UOk.append {NewB:Nat->Prop}{G2:Gh}{u v:List (Nat×aW)}(h:UOk NewB σ' ρ G2 w' nr nb y0 u)(h':UOk NewB σ' ρ G2 w' nr nb y0 v):UOk NewB σ' ρ G2 w' nr nb y0 (u++v):=fun k c hc=>(List.mem_append.1 hc).elim (h k c) (h' k c)
def UIn (σ':Nat->Option aW)(nr:Nat)(u:List (Nat×aW)):Prop:=∀ k c,(k,c)∈u->(σ' k).isSome/\∀ q,k=kR (nr+q)->q<dO
theorem UIn.left {u v:List (Nat×aW)}(h:UIn σ' nr (u++v)):UIn σ' nr u:=fun k c hc=>h k c (Sbz _ hc)
theorem UIn.right {u v:List (Nat×aW)}(h:UIn σ' nr (u++v)):UIn σ' nr v:=fun k c hc=>h k c (Sb2 _ hc)
theorem Fbb {own':Nat->Ow}{q:Nat}(hq:q<dO){v:Value}(hv:hs[q]?=some v):(iI gd ρ G w s Z nr nb own' hs adn).hdr (nr+q)=v:=by
 simp only[iI]
 rw[if_pos ⟨by omega,by omega⟩,Tb4,Sb4,hv]
 rfl
variable (A:Aft E F σ σ' ρ a w G s Z G' w' y0 ds)
include A
theorem Cby {i q off:Nat}{t:BO}{v:Value}(h:Iar G'.own w' ds i q t v)(hi:i<ds.length)(hfit:Z.deps=[]\/∀ m,t=.ow m->vD m ((aO.v (y0+i)).val ρ)=true)
  (hgd:gd=false\/∀ m,t≠.ow m) (hh:∀ m,t=.ow m->hs[q]?=some v) (hu:UIn σ' nr (mY Z.deps (y0+i) (nr+q) t).2.1) :
  (mY Z.deps (y0+i) (nr+q) t).2.2=nr+q+t.q/\aD σ' ρ (iI gd ρ G w s Z nr nb G'.own hs adn) w' (mY Z.deps (y0+i) (nr+q) t).1 v/\UOk (fun b=>¬ (b<w.heap.size/\Qar ((callG ρ G w s Z).own b)=false)) σ' ρ (iI gd ρ G w s Z nr nb G'.own hs adn) w' nr nb y0 (mY Z.deps (y0+i) (nr+q) t).2.1:=by
 cases t with
 | sc =>
  refine⟨rfl,?_,by simp[UOk,mY]⟩
  simp only[mY,aD]
  rw[A.val i hi]
  exact h
 | fz =>
  refine⟨rfl,?_,by simp[UOk,mY]⟩
  simp only[mY,aD]
  simp only[Iar]at h
  rw[A.val i hi]
  exact⟨⟨h.one,A.known⟩,fun _=>⟨A.B.rd h,fun e=>absurd e (by decide),trivial⟩⟩
 | ow m =>
  have hg:gd=false:=hgd.resolve_right fun e=>e m rfl
  simp only[Iar]at h
  have hin:=hu (kR (nr+q)) _ (by simp only[mY];exact List.mem_singleton.2 rfl)
  have hhd:=Fbb (gd:=gd) (ρ:=ρ) (G:=G) (w:=w) (s:=s) (Z:=Z) (nr:=nr) (nb:=nb) (adn:=adn) (own':=G'.own) (hin.2 q rfl) (hh m rfl)
  have hfit':Z.deps=[]\/vD m (ds.getD i .undef)=true:=hfit.imp id fun e=>by rw[<- A.val i hi];exact e m rfl
  have hrp:=A.B.give (gd:=gd) (nr:=nr) (nb:=nb) (hs:=hs) (adn:=adn) h hfit' hg (hin.2 q rfl)
  refine⟨rfl,?_,?_⟩
  ·simp only[mY,aD]
   exact⟨hhd.symm,hin.1,h.one⟩
  ·intro k c hc
   simp only[mY,Sb9,Prod.mk.injEq]at hc
   refine .inl ⟨q,m,i,hc.1,hc.2,?_⟩
   rw[hhd,A.val i hi]
   exact hrp
 | dead =>
  refine⟨rfl,?_,by simp[UOk,mY]⟩
  simp only[mY,aD]
  exact h
theorem Eam:∀ {cs:List BO} {i q off:Nat} {ad:Addr},Hag G'.own w' ds ad off i q cs->i+cs.length<=ds.length->(Z.deps=[]\/Vat ρ (uA (y0+i) cs))->(gd=false\/Wa2 cs=true) ->
  (∀ j v,(owC w' ad off cs)[j]?=some v->hs[q+j]?=some v)->UIn σ' nr (fI Z.deps (y0+i) (nr+q) cs).2.1 ->
  (fI Z.deps (y0+i) (nr+q) cs).2.2=nr+q+qC cs/\(fI Z.deps (y0+i) (nr+q) cs).1.length=cs.length/\(owC w' ad off cs).length=qC cs /\
  (∀ j l,(fI Z.deps (y0+i) (nr+q) cs).1[j]?=some l->∃ v,w'.cell? (ad.add (off+j))=some v/\w'.frozen? (ad.add (off+j))=false/\aD σ' ρ (iI gd ρ G w s Z nr nb G'.own hs adn) w' l v) /\
  UOk (fun b=>¬ (b<w.heap.size/\Qar ((callG ρ G w s Z).own b)=false)) σ' ρ (iI gd ρ G w s Z nr nb G'.own hs adn) w' nr nb y0 (fI Z.deps (y0+i) (nr+q) cs).2.1
 |[],i,q,off,ad,_,_,_,_,_,_=>⟨rfl,rfl,rfl,by simp[fI],by simp[UOk,fI]⟩
 | t :: cs, i, q, off, ad, h, hi, hfit, hgd, hh, hu => by
  obtain⟨⟨v,h1,h2,h3⟩,h4⟩:=h
  simp only[Sbw]at hi
  simp only[fI]at hu
  have hlen:∀ t:BO,(match t with|.ow _=>[(w'.cell? (ad.add off)).getD undef]|_=>([]:List Value)).length=t.q:=fun t=>by cases t<;>rfl
  have hb:=Cby A (gd:=gd) (nr:=nr) (nb:=nb) (hs:=hs) (adn:=adn) (off:=off) h3 (by omega) (hfit.imp id fun e m hm=>e m _ (by subst hm;simp only[uA];exact Tbe))
   (hgd.imp id fun e m hm=>by subst hm;simp[Wa2]at e) (fun m hm=>by
    subst hm
    have:=hh 0 v (by simp[owC,h1])
    simpa using this) hu.left
  obtain⟨h5,h6,h7⟩:=hb
  have hrec:=Eam (cs:=cs) (i:=i+1) (q:=q+t.q) (off:=off+1) (ad:=ad) h4 (by omega) (hfit.imp id fun e m y hm=>e m y (by
    cases t with
    |ow m'=>simp only[uA];exact Tba _ hm
    |_=>exact hm)) (hgd.imp id fun e=>by cases t<;>simp[Wa2]at e ⊢<;>exact e) (fun j x hj=>by
    have:=hh (t.q+j) x (by
     simp only[owC]
     rw[Tbf (by rw[hlen];omega),hlen,Tb4]
     exact hj)
    rwa[<- Tbl]at this) (by
    have:=hu.right
    rw[h5]at this
    rw[<- Tbl,<- Tbl]
    exact this)
  rw[<- Tbl,<- Tbl]at hrec
  obtain⟨h8,h9,h10,h11,h12⟩:=hrec
  simp only[fI]
  rw[h5]
  refine⟨by rw[h8];simp only[qC];omega,by simp[h9],by simp only[owC,Sby,hlen,h10,qC],fun j l hj=>?_,h7.append h12⟩
  cases j with
  | zero =>
   simp only[Sb8,Option.some.injEq]at hj
   subst hj
   exact⟨v,h1,h2,h6⟩
  | succ j =>
   obtain⟨v',h13,h14,h15⟩:=h11 j l (by simpa using hj)
   rw[show off+(j+1)=off+1+j by omega]
   exact⟨v',h13,h14,h15⟩
theorem Wat (hnb:σ' (kB nb)=none\/True){i q:Nat}{t:LR}{v:Value}(h:qJ G'.own w' ds s.boxes.length i q t v)(hi:i+t.n<=ds.length)(hfit:Z.deps=[]\/Vat ρ (Xau (y0+i) [t]))
  (hgd:gd=false\/bxL [t]=0) (hh:∀ j x,(Abr w' t v)[j]?=some x->hs[q+j]?=some x) (had:∀ ad∈Van t v,ad=adn) (hu:UIn σ' nr (dU gd Z.deps nb (y0+i) (nr+q) t).2.1) :
  (dU gd Z.deps nb (y0+i) (nr+q) t).2.2=nr+q+t.q/\(Abr w' t v).length=t.q/\aD σ' ρ (iI gd ρ G w s Z nr nb G'.own hs adn) w' (dU gd Z.deps nb (y0+i) (nr+q) t).1 v/\UOk (fun b=>¬ (b<w.heap.size/\Qar ((callG ρ G w s Z).own b)=false)) σ' ρ (iI gd ρ G w s Z nr nb G'.own hs adn) w' nr nb y0 (dU gd Z.deps nb (y0+i) (nr+q) t).2.1:=by
 cases t with
 | sc =>
  refine⟨rfl,by cases v<;>rfl,?_,by simp[UOk,dU]⟩
  simp only[LR.n]at hi
  simp only[dU,aD]
  rw[A.val i (by omega)]
  exact h
 | fz =>
  refine⟨rfl,by cases v<;>rfl,?_,by simp[UOk,dU]⟩
  simp only[LR.n]at hi
  simp only[qJ]at h
  simp only[dU,aD]
  rw[A.val i (by omega)]
  exact⟨⟨h.one,A.known⟩,fun _=>⟨A.B.rd h,fun e=>absurd e (by decide),trivial⟩⟩
 | ow m =>
  simp only[LR.n]at hi
  simp only[qJ]at h
  cases gd with
  | true =>
   refine⟨rfl,rfl,?_,by simp[UOk,dU]⟩
   simp only[dU,cond_true,aD]
   rw[A.val i (by omega)]
   exact⟨⟨h.one,A.known⟩,fun _=>⟨A.B.giveGd h rfl,fun e=>absurd e (by decide),trivial⟩⟩
  | false =>
   have hin:=hu (kR (nr+q)) _ (by simp only[dU,cond_false];exact List.mem_singleton.2 rfl)
   have hhd:=Fbb (gd:=false) (ρ:=ρ) (G:=G) (w:=w) (s:=s) (Z:=Z) (nr:=nr) (nb:=nb) (adn:=adn) (own':=G'.own) (hin.2 q rfl) (hh 0 v rfl)
   have hfit':Z.deps=[]\/vD m (ds.getD i .undef)=true:=hfit.imp id fun e=>by
    rw[<- A.val i (by omega)]
    exact e m _ (by simp only[Xau];exact Tbe)
   have hrp:=A.B.give (gd:=false) (nr:=nr) (nb:=nb) (hs:=hs) (adn:=adn) h hfit' rfl (hin.2 q rfl)
   refine⟨rfl,rfl,?_,?_⟩
   ·simp only[dU,cond_false,aD]
    exact⟨hhd.symm,hin.1,h.one⟩
   ·intro k c hc
    simp only[dU,cond_false,Sb9,Prod.mk.injEq]at hc
    refine .inl ⟨q,m,i,hc.1,hc.2,?_⟩
    rw[hhd,A.val i (by omega)]
    exact hrp
 | rp z =>
  refine⟨rfl,by cases v<;>rfl,?_,by simp[UOk,dU]⟩
  simp only[LR.n]at hi
  simp only[qJ]at h
  simp only[dU,aD]
  rw[A.val i (by omega)]
  refine⟨⟨h.1,A.known⟩,fun _=>?_⟩
  rcases h.2 with h1|⟨ad,row,h1,h2,h3⟩
  ·exact .inl h1
  ·exact .inr ⟨ad,row,h1,h2,A.B.rd h3⟩
 | bx cs =>
  have hg:gd=false:=hgd.resolve_right fun e=>by simp[bxL]at e
  simp only[LR.n]at hi
  simp only[qJ]at h
  obtain⟨ad,rfl,h1,h2,h3⟩:=h
  have hadn:ad=adn:=had ad (by simp[Van])
  simp only[dU]at hu
  have hu':UIn σ' nr (fI Z.deps (y0+i) (nr+q) cs).2.1:=fun k c hc=>hu k c (Tba _ hc)
  obtain⟨h4,h5,h6,h7,h8⟩:=Eam A (gd:=gd) (nb:=nb) (hs:=hs) (adn:=adn) h3 hi (hfit.imp id fun e m y hm=>e m y (by simp only[Xau];exact Sbz _ hm)) (.inl hg) hh hu'
  have hsome:=(hu (kB nb) _ Tbe).1
  have hbx:(iI gd ρ G w s Z nr nb G'.own hs adn).bx nb=ad:=by
   simp only[iI,if_pos trivial];exact hadn.symm
  have hnewb:¬ (ad.block<w.heap.size/\Qar ((callG ρ G w s Z).own ad.block)=false):=by
   ·rintro⟨hb,hsl⟩
    cases hg1:(callG ρ G w s Z).own ad.block with
    |frz=>have:=(A.B.keep hb (.inl hg1)).2;rw[h2,hg1]at this;cases this
    |oth=>have:=(A.B.keep hb (.inr hg1)).2;rw[h2,hg1]at this;cases this
    |slc _ _=>rw[hg1]at hsl;cases hsl
    | box j =>
     have:=(A.B.hF.boxes ad.block j hb hg1).1
     rw[h2]at this
     injection this with this
     have hgc:∃ c,War Z.ptrs c 0 s.boxes=some j:=by
      simp only[callG]at hg1
      cases hgb:G.own ad.block with
      | box c =>
       rw[hgb]at hg1
       dsimp only at hg1
       split at hg1
       ·rename_i x hx
        split at hg1
        ·injection hg1 with hg1
         exact⟨c,by rw[hx,hg1]⟩
        ·cases hg1
       ·cases hg1
      | slc r p =>
       rw[hgb]at hg1
       dsimp only at hg1
       rcases Ja4 (ρ:=ρ) (dr:=Z.deps.map (·.1)) (r:=r) (p:=p) Z.rts 0 with ⟨_,_,e⟩|e|e<;>rw[e]at hg1<;>cases hg1
      |frz=>rw[hgb]at hg1;cases hg1
      |oth=>rw[hgb]at hg1;cases hg1
     obtain⟨c,hc⟩:=hgc
     obtain⟨j',cs',off',e1,e2,-⟩:=Ja2 hc
     have:=(List.getElem?_eq_some_iff.1 e2).1
     omega
  have hown:(iI gd ρ G w s Z nr nb G'.own hs adn).own ad.block=.box nb:=by
   simp only[iI]
   rw[if_neg hnewb,h2]
   simp[zX]
  refine⟨?_,?_,?_,?_⟩
  ·simp only[dU];exact h4
  ·simp only[Abr];exact h6
  ·simp only[dU,aD]
   exact⟨by rw[hbx];rfl,hsome⟩
  ·simp only[dU]
   intro k c hc
   rcases List.mem_cons.1 hc with hc|hc
   ·obtain⟨rfl,rfl⟩:=Prod.mk.inj hc
    refine .inr ⟨rfl,_,rfl,⟨by rw[hbx];exact h1,by rw[hbx,hown];rfl,fun j l hj=>?_⟩,by rw[hbx];exact hnewb⟩
    rw[hbx]
    have:=h7 j l hj
    rwa[Tbt]at this
   ·exact h8 k c hc
theorem Fa4:∀ {ss:List LR} {i q:Nat} {vs:List Value},vN G'.own w' ds s.boxes.length i q ss vs->i+sP ss<=ds.length->(Z.deps=[]\/Vat ρ (Xau (y0+i) ss)) ->
  (gd=false\/bxL ss=0)->(∀ j x,(owL w' ss vs)[j]?=some x->hs[q+j]?=some x)->(∀ ad∈Raq ss vs,ad=adn)->UIn σ' nr (eY gd Z.deps nb (y0+i) (nr+q) ss).2.1 ->
  (eY gd Z.deps nb (y0+i) (nr+q) ss).2.2=nr+q+qL ss/\(owL w' ss vs).length=qL ss/\aK σ' ρ (iI gd ρ G w s Z nr nb G'.own hs adn) w' (eY gd Z.deps nb (y0+i) (nr+q) ss).1 vs/\UOk (fun b=>¬ (b<w.heap.size/\Qar ((callG ρ G w s Z).own b)=false)) σ' ρ (iI gd ρ G w s Z nr nb G'.own hs adn) w' nr nb y0 (eY gd Z.deps nb (y0+i) (nr+q) ss).2.1
 | [], i, q, vs, h, _, _, _, _, _, _ => by
  simp only[vN]at h
  subst h
  exact⟨rfl,rfl,by simp[eY,aK],by simp[UOk,eY]⟩
 | t :: ss, i, q, vs, h, hi, hfit, hgd, hh, had, hu => by
  obtain⟨u,us,rfl,h1,h2⟩:=h
  simp only[sP]at hi
  simp only[eY]at hu
  obtain⟨h3,h4,h5,h6⟩:=Wat A (gd:=gd) (nb:=nb) (hs:=hs) (adn:=adn) (.inr trivial) h1 (by omega) (hfit.imp id fun e m y hm=>e m y (by
    cases t with
    |ow m'=>simp only[Xau,Sb9]at hm ⊢;rw[hm];exact Tbe
    |bx cs=>simp only[Xau,Tbb]at hm ⊢;exact Sbz _ hm
    |_=>simp[Xau]at hm))
   (hgd.imp id fun e=>by cases t<;>simp only[bxL]at e ⊢<;>omega) (fun j x hj=>hh j x (by
    simp only[owL]
    rw[Tbj (List.getElem?_eq_some_iff.1 hj).1];exact hj))
   (fun ad hm=>had ad (by simp only[Raq];exact Sbz _ hm)) hu.left
  have hrec:=Fa4 (ss:=ss) (i:=i+t.n) (q:=q+t.q) h2 (by omega) (hfit.imp id fun e m y hm=>e m y (by
    cases t with
    |ow m'=>simp only[Xau];exact Tba _ hm
    |bx cs=>simp only[Xau];rw[Tbl];exact Sb2 _ hm
    |_=>exact hm)) (hgd.imp id fun e=>by cases t<;>simp only[bxL]at e<;>omega) (fun j x hj=>by
    have:=hh (t.q+j) x (by
     simp only[owL]
     rw[Tbf (by rw[h4];omega),h4,Tb4]
     exact hj)
    rwa[<- Tbl]at this) (fun ad hm=>had ad (by simp only[Raq];exact Sb2 _ hm)) (by
    have:=hu.right
    rw[h3]at this
    rw[<- Tbl,<- Tbl]
    exact this)
  rw[<- Tbl,<- Tbl]at hrec
  obtain⟨h7,h8,h9,h10⟩:=hrec
  simp only[eY]
  rw[h3]
  refine⟨by rw[h7];simp only[qL];omega,by simp only[owL,Sby,h4,h8,qL],?_,h6.append h10⟩
  simp only[aK]
  exact⟨u,us,rfl,h5,h9⟩
theorem Oal:∀ {rs:List (Bool×List LR)} {i q:Nat} {us:List Value},Pal G'.own w' ds s.boxes.length i q rs us->i+cZ rs<=ds.length->(Z.deps=[]\/Vat ρ (Fb5 (y0+i) rs)) ->
  (gd=false\/oL rs=0)->(∀ j x,(owR w' rs us)[j]?=some x->hs[q+j]?=some x)->(∀ ad∈Ma3 rs us,ad=adn)->UIn σ' nr (lV gd Z.deps nb (y0+i) (nr+q) rs).2.1 ->
  (lV gd Z.deps nb (y0+i) (nr+q) rs).2.2=nr+q+qR rs/\(owR w' rs us).length=qR rs/\lX σ' ρ (iI gd ρ G w s Z nr nb G'.own hs adn) w' (lV gd Z.deps nb (y0+i) (nr+q) rs).1 us/\UOk (fun b=>¬ (b<w.heap.size/\Qar ((callG ρ G w s Z).own b)=false)) σ' ρ (iI gd ρ G w s Z nr nb G'.own hs adn) w' nr nb y0 (lV gd Z.deps nb (y0+i) (nr+q) rs).2.1
 | [], i, q, us, h, _, _, _, _, _, _ => by
  simp only[Pal]at h
  subst h
  exact⟨rfl,rfl,rfl,by simp[UOk,lV]⟩
 | (ag, ss) :: rs, i, q, us, h, hi, hfit, hgd, hh, had, hu => by
  obtain⟨u,us',vs,rfl,h1,h2,h3⟩:=h
  simp only[cZ]at hi
  simp only[lV]at hu
  have hvs:(if ag=true then u.cells.toList else [u])=vs:=by
   cases ag with
   | true =>
    simp only[if_true]at h2 ⊢
    rw[h2];simp[Value.cells]
   |false=>simp only[Sbv,if_false]at h2 ⊢;exact h2.symm
  obtain⟨h4,h5,h6,h7⟩:=Fa4 A (gd:=gd) (nb:=nb) (hs:=hs) (adn:=adn) h1 (by omega) (hfit.imp id fun e m y hm=>e m y (by simp only[Fb5];exact Sbz _ hm))
   (hgd.imp id fun e=>by simp only[oL]at e;omega) (fun j x hj=>hh j x (by
    simp only[owR,hvs]
    rw[Tbj (List.getElem?_eq_some_iff.1 hj).1];exact hj))
   (fun ad hm=>had ad (by simp only[Ma3,hvs];exact Sbz _ hm)) hu.left
  have hrec:=Oal (rs:=rs) (i:=i+sP ss) (q:=q+qL ss) h3 (by omega) (hfit.imp id fun e m y hm=>e m y (by
    simp only[Fb5]
    rw[Tbl]
    exact Sb2 _ hm)) (hgd.imp id fun e=>by simp only[oL]at e;omega) (fun j x hj=>by
    have:=hh (qL ss+j) x (by
     simp only[owR,hvs]
     rw[Tbf (by rw[h5];omega),h5,Tb4]
     exact hj)
    rwa[<- Tbl]at this) (fun ad hm=>had ad (by simp only[Ma3];exact Sb2 _ hm)) (by
    have:=hu.right
    rw[h4]at this
    rw[<- Tbl,<- Tbl]
    exact this)
  rw[<- Tbl,<- Tbl]at hrec
  obtain⟨h8,h9,h10,h11⟩:=hrec
  simp only[lV]
  rw[h4]
  exact⟨by rw[h8];simp only[qR];omega,by simp only[owR,hvs,Sby,h5,h9,qR],⟨u,us',vs,rfl,h6,h2,h10⟩,h7.append h11⟩
theorem Eak (hnb:σ (kB nb)=none):∀ {bs:List (Bool×List (BS×BO))} {b i q:Nat} {bu:List (Nat×aW)},(∀ j x,bs[j]?=some x->s.boxes[b+j]?=some x)->(qI Z.ptrs Z.deps b (y0+i) (nr+q) bs).eval σ=some bu ->
  qK G'.own w' ds (callG ρ G w s Z).bx b i q bs->i+gP bs<=ds.length->(Z.deps=[]\/Vat ρ (Cbw (y0+i) bs))->(gd=false\/∀ x∈bs,x.1=false->Wa2 (x.2.map (·.2))=true) ->
  (∀ j x,(owB w' (callG ρ G w s Z).bx b bs)[j]?=some x->hs[q+j]?=some x)->UIn σ' nr bu ->
  (∀ k c,(k,c)∈bu->(∃ q m i,k=kR (nr+q)/\c=.root (.v (y0+i)) m 0 .live/\Rp (iI gd ρ G w s Z nr nb G'.own hs adn).own w' (nr+q) [] m ((iI gd ρ G w s Z nr nb G'.own hs adn).hdr (nr+q)) ((aO.v (y0+i)).val ρ)) \/
   ∃ c0 ls0 ls,k=kB c0/\σ (kB c0)=some (.box false ls0)/\c=.box false ls/\ls.length=ls0.length /\
    ((∀ j l,ls0[j]?=some l->∃ v,w.cell? ((G.bx c0).add j)=some v/\(aD σ ρ G w l v->aD σ' ρ (iI gd ρ G w s Z nr nb G'.own hs adn) w' l v))->Pan σ' ρ (iI gd ρ G w s Z nr nb G'.own hs adn) w' c0 false ls)) /\
  (∀ c,c∈kY false Z.ptrs b bs->∃ x,(kB c,x)∈bu)
 | [], b, i, q, bu, _, h, _, _, _, _, _, _ => by
  simp only[qI,aH,Option.some.injEq]at h
  subst h
  exact⟨by simp,by simp[kY]⟩
 | (ro, cs) :: bs, b, i, q, bu, hbs, h, hf, hi, hfit, hgd, hh, hu => by
  simp only[qI]at h
  have hbs':∀ j x,bs[j]?=some x->s.boxes[b+1+j]?=some x:=fun j x hj=>by
   rw[show b+1+j=b+(j+1) by omega]
   exact hbs (j+1) x (by simpa using hj)
  cases ro with
  | true =>
   simp only[cond_true]at h
   simp only[qK,if_true]at hf
   simp only[gP,cond_true,Tbt]at hi
   obtain⟨h1,h2⟩:=Eak hnb (bs:=bs) (b:=b+1) hbs' h hf hi (hfit.imp id fun e m y hm=>e m y (by simp only[Cbw,cond_true];exact hm)) (hgd.imp id fun e x hx=>e x (Tba _ hx))
    (fun j x hj=>hh j x (by simp only[owB,if_true];exact hj)) hu
   refine⟨h1,fun c hc=>h2 c ?_⟩
   have e:(true==false)=false:=rfl
   simp only[kY,e,cond_false]at hc
   exact hc
  | false =>
   simp only[cond_false]at h
   simp only[qK,Sbv,if_false]at hf
   simp only[gP,cond_false]at hi
   split at h
   case h_2=>cases h
   rename_i c off hp
   simp only[aC,aX,Sb6]at h
   split at h
   case h_2=>cases h
   rename_i ls0 hkb
   simp only[aC,Sbt,aH,Option.some.injEq]at h
   obtain⟨rest,h1,rfl⟩:=h
   have hbx:(callG ρ G w s Z).bx b=(G.bx c).add off:=by simp only[callG,hp]
   rw[hbx]at hf
   have hsb:=hbs 0 _ rfl
   rw[Tbs]at hsb
   obtain⟨c',off',ro',ls',e1,e2,e3,e4⟩:=A.B.bx b false cs hsb
   rw[hp]at e1
   obtain⟨rfl,rfl⟩:c=c'/\off=off':=by simpa using e1
   rw[hkb]at e2
   obtain⟨rfl,rfl⟩:false=ro'/\ls0=ls':=by simpa using e2
   have hu1:UIn σ' nr (fI Z.deps (y0+i) (nr+q) (cs.map (·.2))).2.1:=fun k x hx=>hu k x (Tba _ (Sbz _ hx))
   have hu2:UIn σ' nr rest:=fun k x hx=>hu k x (Tba _ (Sb2 _ hx))
   obtain⟨h2,h3,h4,h5,h6⟩:=Eam A (gd:=gd) (nb:=nb) (hs:=hs) (adn:=adn) hf.1 (by simp;omega) (hfit.imp id fun e m y hm=>e m y (by simp only[Cbw,cond_false];exact Sbz _ hm))
    (hgd.imp id fun e=>e _ Tbe rfl) (fun j x hj=>hh j x (by
     simp only[owB,Sbv,if_false,hbx]
     rw[Tbj (List.getElem?_eq_some_iff.1 hj).1];exact hj)) hu1
   rw[Sb5]at h3
   rw[h2]at h1
   have hrec:=Eak hnb (bs:=bs) (b:=b+1) (i:=i+cs.length) (q:=q+qC (cs.map (·.2))) hbs' (by rw[<- Tbl,<- Tbl];exact h1) hf.2 (by omega)
    (hfit.imp id fun e m y hm=>e m y (by simp only[Cbw,cond_false];rw[Tbl];exact Sb2 _ hm)) (hgd.imp id fun e x hx=>e x (Tba _ hx)) (fun j x hj=>by
     have:=hh (qC (cs.map (·.2))+j) x (by
      simp only[owB,Sbv,if_false,hbx]
      rw[Tbf (by rw[h4];omega),h4,Tb4]
      exact hj)
     rwa[<- Tbl]at this) hu2
   obtain⟨h7,h8⟩:=hrec
   refine⟨fun k x hx=>?_,fun c2 hc2=>?_⟩
   ·rcases List.mem_cons.1 hx with hx|hx
    ·obtain⟨rfl,rfl⟩:=Prod.mk.inj hx
     refine .inr ⟨c,ls0,_,rfl,hkb,rfl,oW (by rw[h3];exact e3),fun hold=>?_⟩
     obtain⟨hb1,hb2,hb3⟩:=A.B.hR.box hkb
     simp only[Sbv,if_false]at hb2
     have hcn:c≠nb:=fun e=>by rw[e,hnb]at hkb;cases hkb
     have hgbx:(iI gd ρ G w s Z nr nb G'.own hs adn).bx c=G.bx c:=by simp only[iI,if_neg hcn]
     have hpos:0<ls0.length:=by have:=(e4 rfl).2;omega
     obtain⟨v0,hc0,-,-⟩:=hb3 0 _ (Sb0 hpos)
     have hlt:(G.bx c).block<w.heap.size:=by have:=Ma0 hc0;rwa[add_block]at this
     obtain⟨h9,h10⟩:=A.B.boxes (gd:=gd) (nr:=nr) (nb:=nb) (hs:=hs) (adn:=adn) hb2 hlt
     refine⟨by rw[hgbx];exact hb1,by rw[hgbx,h9];rfl,fun j l hj=>?_⟩
     rw[hgbx]
     rw[kK (by rw[h3];exact e3)]at hj
     split at hj
     ·rename_i hr
      obtain⟨v,h11,h12,h13⟩:=h5 _ l hj
      rw[add_add,Tbt,show off+(j-off)=j by omega]at h11 h12
      exact⟨v,h11,h12,h13⟩
     ·rename_i hr
      obtain⟨v,h11,h12,h13⟩:=hb3 j l hj
      obtain⟨v',h14,h15⟩:=hold j l hj
      rw[h11]at h14
      obtain rfl:=Option.some.inj h14
      rcases h10 with h10|⟨j2,cs2,off2,ls2,c0,c1,e,fr,f1,f2,f3,f4,f5,f6,f7,f8,f9⟩
      ·exact⟨v,(iC (w:=w) (w':=w') (by rw[add_block];exact h10)).trans h11,(oK (w:=w) (w':=w') (by rw[add_block];exact h10)).trans h12,h15 h13⟩
      ·
       have hsb':uS (0+b) Z.ptrs=some (c,off):=by rw[Tbt];exact hp
       have hx1:=xB A.B.hk.wr hsb hsb'
       have f2':uS (0+j2) Z.ptrs=some (c,off2):=by rw[Tbt];exact f2
       have hx2:=xB A.B.hk.wr f1 f2'
       rw[hx1]at hx2
       have hjj:b=j2:=by have:=Option.some.inj hx2;omega
       subst hjj
       rw[hp]at f2
       rw[hsb]at f1
       obtain⟨-,rfl⟩:c=c/\off=off2:=by simpa using f2
       obtain rfl:cs=cs2:=by simpa using f1
       rw[h3]at hr
       have hcell:∀ (ww:World) (cc:Array Value),ww.heap[(G.bx c).block]?=some (.cells cc e fr)->ww.cell? ((G.bx c).add j)=cc[(G.bx c).off+j]?/\ww.frozen? ((G.bx c).add j)=(fr.1<=(G.bx c).off+j&&(G.bx c).off+j<fr.2):=by
        intro ww cc hcc
        have:=Bbk (n:=j) hb1
        refine⟨?_,?_⟩
        ·unfold World.cell?
         rw[add_block,hcc]
         simp[this,Xaz]
        ·unfold World.frozen?
         rw[add_block,hcc]
         simp[Xaz]
       obtain⟨g1,g2⟩:=hcell w c0 f6
       obtain⟨g3,g4⟩:=hcell w' c1 f7
       refine⟨v,?_,by rw[g4,<- g2];exact h12,h15 h13⟩
       rw[g3,f9 _ (by omega),<- g1]
       exact h11
    ·rcases List.mem_append.1 hx with hx|hx
     ·rcases h6 k x hx with h9|⟨h9,-⟩
      ·exact .inl h9
      ·exfalso
       have:∀ (l:List BO) (y n:Nat),∀ z∈(fI Z.deps y n l).2.1,∃ r,z.1=kR r:=by
        intro l
        induction l with
        |nil=>intro y n z hz;simp[fI]at hz
        | cons t l ih =>
         intro y n z hz
         simp only[fI]at hz
         rcases List.mem_append.1 hz with hz|hz
         ·cases t<;>simp[mY]at hz
          exact⟨n,by rw[hz]⟩
         ·exact ih _ _ z hz
       obtain⟨r,hr⟩:=this _ _ _ _ hx
       rw[h9]at hr
       exact iX hr
     ·exact h7 k x hx
   ·simp only[kY]at hc2
    have e:(false==false)=true:=rfl
    rw[e,cond_true,hp]at hc2
    rcases List.mem_cons.1 hc2 with rfl|hc2
    ·exact⟨_,Tbe⟩
    ·obtain⟨x,hx⟩:=h8 c2 hc2
     exact⟨x,Tba _ (Sb2 _ hx)⟩
end
end Go.Proofs.YtpgnlmfmlffjcaaGreat.Rf

namespace Go.Proofs.YtpgnlmfmlffjcaaGreat.Rf
set_option linter.unusedVariables false
set_option linter.unusedSimpArgs false
theorem Mad {f:Nat}{vs:List SV}:∀ {l:List (Nat×Sig)} {key:Nat} {s:Sig},Mae f vs l=some (key,s)->(key,s)∈l/\s.fn=f
 |[],key,s,h=>by simp[Mae]at h
 | (k, t) :: l, key, s, h => by
  simp only[Mae]at h
  revert h
  generalize hb:(Nat.beq t.fn f&&Xax t.params vs)=b
  intro h
  cases b with
  | false =>
   rw[cond_false]at h
   obtain⟨h1,h2⟩:=Mad h
   exact⟨Tba _ h1,h2⟩
  | true =>
   rw[cond_true]at h
   obtain⟨rfl,rfl⟩:=Prod.mk.inj (Option.some.inj h)
   simp only[Sbu,Tbv]at hb
   exact⟨Tbe,hb.1⟩
section
variable {E:Env} {F:cB} {σ:Nat->Option aW} {ρ:List D} {a:Act} {w:World} {G:Gh} {g:Option (aO×Bool)} {cf:Nat->List D->Option (List D)}
theorem Db9 {l:aZ}{s:SlR}(h:(Caf l).eval σ=some s):∀ z∈s.deps,Qak σ z.1 z.2:=by
 unfold Caf at h
 split at h
 ·rename_i r
  simp only[aC,aX,Sb6]at h
  split at h
  ·rename_i x m ver hk
   simp only[aH,Option.some.injEq]at h
   subst h
   intro z hz
   simp only[Sb9]at hz
   subst hz
   exact⟨m,x,hk⟩
  ·simp only[aH,Option.some.injEq]at h
   subst h
   simp
  ·cases h
 ·rename_i deps p nie x
  simp only[aC,Sbt]at h
  obtain⟨ds,h1,h2⟩:=h
  obtain⟨h3,h4,h5⟩:=lN h1
  split at h2
  ·simp only[aH,Option.some.injEq]at h2
   subst h2
   exact fun z hz=>(h4 z hz).2
  ·rename_i r k z hne
   simp only[aC,aX,Sb6]at h2
   split at h2
   ·simp only[aH,Option.some.injEq]at h2
    subst h2
    intro z' hz'
    simp only[Sb9]at hz'
    subst hz'
    have:=h4 z (by simp)
    have e:=this.1
    simp only[Sb9]at e
    rw[e]at this
    exact this.2
   ·cases h2
  ·simp only[aH,Option.some.injEq]at h2
   subst h2
   exact fun z hz=>(h4 z hz).2
 ·cases h
def rtD:RT->Nat
 |.mu _ d _ _=>d
 |_=>0
def Da8:Nat->List RT->List Nat
 |_,[]=>[]
 |ν,.mu _ _ _ _::t=>ν::Da8 (ν+1) t
 |ν,_::t=>Da8 (ν+1) t
theorem Uar:∀ {rts:List RT} {ν0 j ν:Nat},(Da8 ν0 rts)[j]?=some ν->∃ x:RT,(rts.filter Bai)[j]?=some x/\ν0<=ν/\rts[ν-ν0]?=some x
 |[],ν0,j,ν,h=>by simp[Da8]at h
 | x :: t, ν0, j, ν, h => by
  have next:∀ {j:Nat},(Da8 (ν0+1) t)[j]?=some ν->∃ y:RT,(t.filter Bai)[j]?=some y/\ν0<=ν/\(x::t)[ν-ν0]?=some y:=by
   intro j h
   obtain⟨y,h1,h2,h3⟩:=Uar h
   refine⟨y,h1,by omega,?_⟩
   rw[show ν-ν0=(ν-(ν0+1))+1 by omega]
   simpa using h3
  cases x with
  | mu r d q X =>
   simp only[Da8]at h
   cases j with
   | zero =>
    simp only[Sb8,Option.some.injEq]at h
    subst h
    exact⟨.mu r d q X,by simp[Bai,Ubq],Sb7 _,by simp⟩
   | succ j =>
    obtain⟨y,h1,h2,h3⟩:=next (by simpa using h)
    exact⟨y,by simpa[Bai,Ubq] using h1,h2,h3⟩
  | nil =>
   obtain⟨y,h1,h2,h3⟩:=next h
   exact⟨y,by simpa[Bai,Ubq] using h1,h2,h3⟩
  | own r d =>
   obtain⟨y,h1,h2,h3⟩:=next h
   exact⟨y,by simpa[Bai,Ubq] using h1,h2,h3⟩
theorem Uaq:∀ (rts:List RT) (ν0:Nat),(Da8 ν0 rts).length=(rts.filter Bai).length
 |[],ν0=>rfl
 |x::t,ν0=>by cases x<;>simp[Da8,Bai,Uaq t,Ubq]
theorem Ia9:∀ (a b:List RT) (ν0:Nat),Da8 ν0 (a++b)=Da8 ν0 a++Da8 (ν0+a.length) b
 |[],b,ν0=>rfl
 | x :: a, b, ν0 => by
  have:=Ia9 a b (ν0+1)
  rw[show ν0+1+a.length=ν0+(a.length+1) by omega]at this
  cases x<;>simp[Da8,this]
def Lb0 (σ:Nat->Option aW)(ρ:List D)(G:Gh)(w:World):RT->Prop
 |.nil=>True
 |.own r _=>∃ x m ver,σ (kR r)=some (.root x m ver .live)
 |.mu r d q X=>∃ m ver u,σ (kR r)=some (.root X m ver .live)/\q.length+d<=m/\Eas G.own w r [] (G.hdr r) (bM ρ q) u
structure Cb1 (σ:Nat->Option aW) (A B:Take) (rn:List RT) (ms:List Nat) (mr:List Nat):Prop where
 rts:B.rts=A.rts++rn
 deps:∀ z∈B.deps,z∈A.deps\/Qak σ z.1 z.2
 ms:(rn.filter Bai).map rtD=ms
 mr:Da8 A.rts.length rn=mr
theorem Na7 {A B:Take}{d:Nat}{l:aZ}(h:(Aab A d l).eval σ=some B):∃ rn,Cb1 σ A B rn [] []/\rn.length=1/\∀ x∈rn,Lb0 σ ρ G w x:=by
 unfold Aab at h
 split at h
 ·rename_i r
  simp only[aC,aX,Sb6]at h
  split at h
  ·rename_i x m ver hk
   simp only[aC,aP,Sbt,aH,Option.some.injEq]at h
   obtain⟨_,-,rfl⟩:=h
   refine⟨[.own r d],⟨rfl,fun z hz=>.inl hz,rfl,rfl⟩,rfl,fun y hy=>?_⟩
   simp only[Sb9]at hy
   subst hy
   exact⟨x,m,ver,hk⟩
  ·cases h
 ·simp only[aH,Option.some.injEq]at h
  subst h
  refine⟨[.nil],⟨rfl,fun z hz=>.inl hz,rfl,rfl⟩,rfl,fun y hy=>?_⟩
  simp only[Sb9]at hy
  subst hy
  trivial
 ·cases h
theorem Oaa {A B:Take}{nie:Bool}{l:aZ}(h:(wS A nie l).eval σ=some B):Cb1 σ A B [] [] []:=by
 unfold wS at h
 simp only[aC,Sbt,aH,Option.some.injEq]at h
 obtain⟨s,h1,rfl⟩:=h
 exact⟨by simp,fun z hz=>(List.mem_append.1 hz).imp id fun hz=>Db9 h1 z hz,rfl,rfl⟩
theorem Bbw {A B:Take}{z:Nat}{l:aZ}(h:(Kaq A z l).eval σ=some B):Cb1 σ A B [] [] []:=by
 unfold Kaq at h
 split at h
 ·simp only[aC,Sbt,aH,Option.some.injEq]at h
  obtain⟨ds,h1,rfl⟩:=h
  exact⟨by simp,fun z hz=>(List.mem_append.1 hz).imp id fun hz=>((lN h1).2.1 z hz).2,rfl,rfl⟩
 ·simp only[aH,Option.some.injEq]at h
  subst h
  exact⟨by simp,fun z hz=>.inl hz,rfl,rfl⟩
 ·cases h
theorem Sai (P:Prop)(hR:P->R E.ntmps F σ ρ a w G){A B:Take}{t:LS}{l:aZ}(h:(yM g A t l).eval σ=some B)(hl:P->∃ v,aD σ ρ G w l v) :
  ∃ rn,Cb1 σ A B rn (fZ [t]) (gW A.rts.length [t])/\rn.length=t.rcnt/\(P->∀ x∈rn,Lb0 σ ρ G w x):=by
 unfold yM at h
 split at h
 ·simp only[Saf,aC,Sbt,aH,Option.some.injEq]at h
  obtain⟨x,-,rfl⟩:=h
  exact⟨[],⟨by simp,fun z hz=>.inl hz,rfl,rfl⟩,rfl,by simp⟩
 ·exact⟨[],Oaa h,rfl,by simp⟩
 ·rename_i _ d
  unfold Na8 at h
  simp only[aC,Sbt]at h
  obtain⟨sl,h1,h⟩:=h
  split at h
  case h_2=>cases h
  rename_i r k m q ho
  simp only[aC,aP,aX,Sb6,Sbt]at h
  obtain⟨_,h2,h⟩:=h
  split at h2
  case isFalse=>cases h2
  rename_i hb
  simp only[Ubf]at hb
  split at h
  case h_2=>cases h
  rename_i X m' v' hkr
  simp only[aH,Option.some.injEq]at h
  subst h
  refine⟨[.mu r d q X],⟨rfl,fun z hz=>.inl hz,rfl,rfl⟩,rfl,fun hP y hy=>?_⟩
  simp only[Sb9]at hy
  subst hy
  obtain⟨v,hv⟩:=hl hP
  have hown:=(fV (hR hP) h1 hv).own
  unfold Aak at hown
  rw[ho]at hown
  obtain⟨h3,⟨x,h4⟩,h5,h6,h7⟩:=hown
  rw[hkr]at h4
  obtain⟨rfl,rfl,rfl⟩:X=x/\m'=m/\v'=k:=by
   have:=Option.some.inj h4
   injection this with e1 e2 e3
   exact⟨e1,e2,e3⟩
  exact⟨_,_,_,hkr,hb,h7⟩
 ·obtain⟨rn,h1,h2,h3⟩:=Na7 (ρ:=ρ) (G:=G) (w:=w) h
  exact⟨rn,h1,h2,fun _=>h3⟩
 ·simp only[aH,Option.some.injEq]at h
  subst h
  exact⟨[],⟨by simp,fun z hz=>.inl hz,rfl,rfl⟩,rfl,by simp⟩
 ·split at h
  ·rw[jW]at h
   split at h
   ·simp only[aH,Option.some.injEq]at h
    subst h
    exact⟨[],⟨by simp,fun z hz=>.inl hz,rfl,rfl⟩,rfl,by simp⟩
   ·cases h
  ·cases h
 ·exact⟨[],Bbw h,rfl,by simp⟩
 ·cases h
theorem Cb1.trans {A B C:Take}{rn rn':List RT}{ms ms' mr mr':List Nat}(h:Cb1 σ A B rn ms mr)(h':Cb1 σ B C rn' ms' mr'):Cb1 σ A C (rn++rn') (ms++ms') (mr++mr'):=by
 refine⟨by rw[h'.rts,h.rts,Sb3],fun z hz=>?_,by rw[List.filter_append,List.map_append,h.ms,h'.ms],?_⟩
 ·rcases h'.deps z hz with h1|h1
  ·exact h.deps z h1
  ·exact .inr h1
 ·rw[Ia9,h.mr]
  have:=h'.mr
  rw[h.rts,Sby]at this
  rw[this]
theorem zD (t:LS)(ss:List LS):fZ (t::ss)=fZ [t]++fZ ss:=by cases t<;>rfl
theorem Bab (t:LS)(ss:List LS)(r:Nat):gW r (t::ss)=gW r [t]++gW (r+t.rcnt) ss:=by cases t<;>rfl
theorem Bac:∀ (x y:List LS),fZ (x++y)=fZ x++fZ y
 |[],y=>rfl
 |t::x,y=>by rw[Ub3,zD,zD t x,Bac x y,Sb3]
theorem Dai:∀ (x y:List LS) (r:Nat),gW r (x++y)=gW r x++gW (r+nN x) y
 |[],y,r=>rfl
 | t :: x, y, r => by
  rw[Ub3,Bab,Bab t x,Dai x y,Sb3]
  simp only[nN,Tbl]
theorem Dac (P:Prop)(hR:P->R E.ntmps F σ ρ a w G):∀ {ss:List LS} {ls:List aZ} {A B:Take},(eG g A ss ls).eval σ=some B->(P->∃ vs,aK σ ρ G w ls vs) ->
  ∃ rn,Cb1 σ A B rn (fZ ss) (gW A.rts.length ss)/\rn.length=nN ss/\(P->∀ x∈rn,Lb0 σ ρ G w x)
 | [], [], A, B, h, _ => by
  simp only[eG,aH,Option.some.injEq]at h
  subst h
  exact⟨[],⟨by simp,fun z hz=>.inl hz,rfl,rfl⟩,rfl,by simp⟩
 |[],_::_,A,B,h,_=>by simp[eG,dI]at h
 |_::_,[],A,B,h,_=>by simp[eG,dI]at h
 | t :: ss, l :: ls, A, B, h, hl => by
  simp only[eG,aC,Sbt]at h
  obtain⟨C,h1,h2⟩:=h
  obtain⟨rn,h3,h4,h5⟩:=Sai P hR h1 (fun hP=>by
   obtain⟨vs,hv⟩:=hl hP
   simp only[aK]at hv
   obtain⟨u,us,-,hu,-⟩:=hv
   exact⟨u,hu⟩)
  obtain⟨rn',h6,h7,h8⟩:=Dac P hR h2 (fun hP=>by
   obtain⟨vs,hv⟩:=hl hP
   simp only[aK]at hv
   obtain⟨u,us,-,-,hu⟩:=hv
   exact⟨us,hu⟩)
  have:=h3.trans h6
  rw[h3.rts,Sby,h4,<- Bab,<- zD]at this
  exact⟨rn++rn',this,by simp[h4,h7,nN],fun hP x hx=>(List.mem_append.1 hx).elim (h5 hP x) (h8 hP x)⟩
theorem Aan (P:Prop)(hR:P->R E.ntmps F σ ρ a w G):∀ {ps:List (Bool×List LS)} {vs:List SV} {A B:Take},(iE g A ps vs).eval σ=some B->(P->∃ us,yI σ ρ G w vs us) ->
  ∃ rn,Cb1 σ A B rn (fZ (ps.flatMap (·.2))) (gW A.rts.length (ps.flatMap (·.2)))/\rn.length=mH ps/\(P->∀ x∈rn,Lb0 σ ρ G w x)
 | [], [], A, B, h, _ => by
  simp only[iE,aH,Option.some.injEq]at h
  subst h
  exact⟨[],⟨by simp,fun z hz=>.inl hz,rfl,rfl⟩,rfl,by simp⟩
 |[],_::_,A,B,h,_=>by simp[iE,dI]at h
 |_::_,[],A,B,h,_=>by simp[iE,dI]at h
 | (ag, ss) :: ps, v :: vs, A, B, h, hl => by
  simp only[iE,aC,Sbt,bF]at h
  obtain⟨ls,h0,C,h1,h2⟩:=h
  obtain⟨rn,h3,h4,h5⟩:=Dac P hR h1 (fun hP=>by
   obtain⟨us,u,us',rfl,hu,-⟩:=hl hP
   exact⟨_,kL h0 hu⟩)
  obtain⟨rn',h6,h7,h8⟩:=Aan P hR h2 (fun hP=>by
   obtain⟨us,u,us',rfl,-,hu⟩:=hl hP
   exact⟨us',hu⟩)
  have:=h3.trans h6
  rw[h3.rts,Sby,h4,<- Dai,<- Bac]at this
  exact⟨rn++rn',by rw[List.flatMap_cons];exact this,by simp[h4,h7,mH],fun hP x hx=>(List.mem_append.1 hx).elim (h5 hP x) (h8 hP x)⟩
theorem Fal:∀ {ss:List (BS×BO)} {ls:List aZ} {A B:Take},(gF A ss ls).eval σ=some B->∃ rn,Cb1 σ A B rn [] []/\∀ x∈rn,Lb0 σ ρ G w x
 | [], ls, A, B, h => by
  simp only[gF,aH,Option.some.injEq]at h
  subst h
  exact⟨[],⟨by simp,fun z hz=>.inl hz,rfl,rfl⟩,by simp⟩
 |_::_,[],A,B,h=>by simp[gF,dI]at h
 | (t, o) :: ss, l :: ls, A, B, h => by
  simp only[gF,aC,Sbt]at h
  obtain⟨C,h1,h2⟩:=h
  obtain⟨rn',h6,h8⟩:=Fal h2
  have key:∃ rn,Cb1 σ A C rn [] []/\∀ x∈rn,Lb0 σ ρ G w x:=by
   have hinv:=vS h1
   clear h1
   rcases hinv with ⟨x,rfl,rfl,rfl⟩|⟨nie,rfl,h⟩|⟨d,rfl,h⟩|⟨rfl,-,rfl⟩
   ·exact⟨[],⟨by simp,fun z hz=>.inl hz,rfl,rfl⟩,by simp⟩
   ·exact⟨[],Oaa h,by simp⟩
   ·obtain⟨rn,h3,-,h5⟩:=Na7 (ρ:=ρ) (G:=G) (w:=w) h
    exact⟨rn,h3,h5⟩
   ·exact⟨[],⟨by simp,fun z hz=>.inl hz,rfl,rfl⟩,by simp⟩
  obtain⟨rn,h3,h5⟩:=key
  exact⟨rn++rn',h3.trans h6,fun x hx=>(List.mem_append.1 hx).elim (h5 x) (h8 x)⟩
theorem yN {ptrs:List (Nat×Nat×Nat)}:∀ {bs:List (Bool×List (BS×BO))} {b:Nat} {A B:Take},(iA ptrs A b bs).eval σ=some B->∃ rn,Cb1 σ A B rn [] []/\∀ x∈rn,Lb0 σ ρ G w x
 | [], b, A, B, h => by
  simp only[iA,aH,Option.some.injEq]at h
  subst h
  exact⟨[],⟨by simp,fun z hz=>.inl hz,rfl,rfl⟩,by simp⟩
 | (ro, cs) :: bs, b, A, B, h => by
  simp only[iA]at h
  split at h
  case h_2=>cases h
  simp only[aC,aX,Sb6]at h
  split at h
  case h_2=>cases h
  simp only[aC,aP,Sbt]at h
  obtain⟨_,-,C,h1,h2⟩:=h
  obtain⟨rn,h3,h5⟩:=Fal (ρ:=ρ) (G:=G) (w:=w) h1
  obtain⟨rn',h6,h8⟩:=yN h2
  exact⟨rn++rn',h3.trans h6,fun x hx=>(List.mem_append.1 hx).elim (h5 x) (h8 x)⟩
theorem Cal (hg:gOn ρ g=true):∀ {rts:List RT} {y nv:Nat} {ml:List Step} {mu:List (Nat×aW)},(Daj y nv rts).eval σ=some (ml,mu)->aR cf ρ g nv ml ->
  (∀ k c,(k,c)∈mu->∃ (j r d:Nat) (q:List (aO×Nat×Nat)) (X X0:aO) (m ver:Nat) (X':aO),(rts.filter Bai)[j]?=some (RT.mu r d q X)/\k=kR r/\c=.root X' m (ver+1) .live/\σ (kR r)=some (.root X0 m ver .live)/\(q.length+d=m\/vD d ((aO.v (y+j)).val ρ)=true)/\Upd (bM ρ q) (X.val ρ) ((aO.v (y+j)).val ρ) (X'.val ρ))
 | [], y, nv, ml, mu, h, _ => by
  simp only[Daj,aH,Option.some.injEq,Prod.mk.injEq]at h
  obtain⟨rfl,rfl⟩:=h
  simp
 | .nil :: t, y, nv, ml, mu, h, hst => by
  have:=Cal hg (rts:=t) h hst
  simpa[Bai,Ubq] using this
 | .own r d :: t, y, nv, ml, mu, h, hst => by
  have:=Cal hg (rts:=t) h hst
  simpa[Bai,Ubq] using this
 | .mu r d q X :: t, y, nv, ml, mu, h, hst => by
  simp only[Daj,aC,aX,Sb6]at h
  split at h
  case h_2=>cases h
  rename_i X0 m ver hk
  simp only[aC,Sbt,aH,Option.some.injEq,Prod.mk.injEq]at h
  obtain⟨⟨ls,us⟩,h1,rfl,rfl⟩:=h
  obtain⟨hs0,hst'⟩:=aR.append hst
  obtain⟨hfd,hn0⟩:(q.length+d=m\/vD d ((aO.v y).val ρ)=true)/\bZ (bif Nat.beq (q.length+d) m then [] else [Step.prim (.dep d) [.v y] 0])=0:=by
   cases hb:Nat.beq (q.length+d) m with
   |true=>exact⟨.inl (Nat.eq_of_beq_eq_true hb),rfl⟩
   | false =>
    rw[hb,cond_false]at hs0
    obtain⟨ds,h1,-,-⟩:=hs0.1.1 hg
    simp only[Tbn,Tbw,aN.run]at h1
    split at h1
    ·rename_i hf;exact⟨.inr hf,rfl⟩
    ·cases h1
  rw[hn0,Tbs]at hst'
  obtain⟨hs1,hs2⟩:=aR.append hst'
  have hrec:=Cal hg h1 hs2
  intro k c hc
  rcases List.mem_cons.1 hc with hc|hc
  ·obtain⟨rfl,rfl⟩:=Prod.mk.inj hc
   exact⟨0,r,d,q,X,X0,m,ver,_,by simp[Bai,Ubq],rfl,rfl,hk,hfd,Gad hg q nv X (.v y) hs1⟩
  ·obtain⟨j,r',d',q',X',X1,m',ver',X2,h2,h3,h4,h5,h5',h6⟩:=hrec k c hc
   exact⟨j+1,r',d',q',X',X1,m',ver',X2,by simpa[Bai,Ubq] using h2,h3,h4,h5,by rw[show y+(j+1)=y+1+j by omega];exact h5',by rw[show y+(j+1)=y+1+j by omega];exact h6⟩
theorem Cam:∀ {rts:List RT} {y nv:Nat} {ml:List Step} {mu:List (Nat×aW)},(Daj y nv rts).eval σ=some (ml,mu)->∀ r,r∈dS rts->(∃ c,(kR r,c)∈mu)\/∃ c,(kR r,c)∈jL rts
 |[],y,nv,ml,mu,h,r,hr=>by simp[dS]at hr
 |.nil::t,y,nv,ml,mu,h,r,hr=>Cam (rts:=t) h r hr
 | .own s d :: t, y, nv, ml, mu, h, r, hr => by
  simp only[dS,Tb7]at hr
  rcases hr with rfl|hr
  ·exact .inr ⟨_,by simp only[jL];exact Tbe⟩
  ·exact (Cam (rts:=t) h r hr).imp id fun ⟨c,hc⟩=>⟨c,by simp only[jL];exact Tba _ hc⟩
 | .mu s d q X :: t, y, nv, ml, mu, h, r, hr => by
  simp only[Daj,aC,aX,Sb6]at h
  split at h
  case h_2=>cases h
  simp only[aC,Sbt,aH,Option.some.injEq,Prod.mk.injEq]at h
  obtain⟨⟨ls,us⟩,h1,rfl,rfl⟩:=h
  simp only[dS,Tb7]at hr
  rcases hr with rfl|hr
  ·exact .inl ⟨_,Tbe⟩
  ·exact (Cam h1 r hr).imp (fun ⟨c,hc⟩=>⟨c,Tba _ hc⟩) id
theorem pG:∀ {rts:List RT} {k:Nat} {c:aW},(k,c)∈jL rts->∃ r,k=kR r/\c=.root (.c .hole) 0 0 .gone
 |[],k,c,h=>by simp[jL]at h
 |.nil::t,k,c,h=>pG (rts:=t) h
 |.mu s d q X::t,k,c,h=>pG (rts:=t) h
 | .own s d :: t, k, c, h => by
  simp only[jL,Tb7,Prod.mk.injEq]at h
  rcases h with ⟨rfl,rfl⟩|h
  ·exact⟨s,rfl,rfl⟩
  ·exact pG h
end
end Go.Proofs.YtpgnlmfmlffjcaaGreat.Rf

namespace Go.Proofs.YtpgnlmfmlffjcaaGreat.Rf
set_option linter.unusedVariables false
set_option linter.unusedSimpArgs false
theorem Ba1 {deps:List (Nat×Nat)}:∀ (cs:List BO) (y n:Nat),(fI deps y n cs).2.2=n+qC cs/\∀ k c,(k,c)∈(fI deps y n cs).2.1->∃ r y m,n<=r/\k=kR r/\c=.root (.v y) m 0 .live
 |[],y,n=>⟨rfl,by simp[fI]⟩
 | t :: cs, y, n => by
  have hb:(mY deps y n t).2.2=n+t.q/\∀ k c,(k,c)∈(mY deps y n t).2.1->∃ r y m,n<=r/\k=kR r/\c=.root (.v y) m 0 .live:=by
   cases t<;>refine⟨rfl,fun k c hc=>?_⟩<;>simp[mY]at hc
   exact⟨n,y,_,Sb7 _,hc.1,hc.2⟩
  obtain⟨h1,h2⟩:=hb
  simp only[fI]
  rw[h1]
  obtain⟨h3,h4⟩:=Ba1 (deps:=deps) cs (y+1) (n+t.q)
  refine⟨by rw[h3];simp only[qC];omega,fun k c hc=>?_⟩
  rcases List.mem_append.1 hc with hc|hc
  ·exact h2 k c hc
  ·obtain⟨r,y',m,h5,h6,h7⟩:=h4 k c hc
   exact⟨r,y',m,by omega,h6,h7⟩
theorem Tax {gd:Bool}{deps:List (Nat×Nat)}{nb:Nat}(t:LR)(y n:Nat):(dU gd deps nb y n t).2.2=n+t.q/\∀ k c,(k,c)∈(dU gd deps nb y n t).2.1->(∃ r y m,n<=r/\k=kR r/\c=.root (.v y) m 0 .live)\/(k=kB nb/\∃ ls,c=.box false ls):=by
 cases t with
 | bx cs =>
  obtain⟨h3,h4⟩:=Ba1 (deps:=deps) cs y n
  simp only[dU]
  refine⟨h3,fun k c hc=>?_⟩
  rcases List.mem_cons.1 hc with hc|hc
  ·obtain⟨rfl,rfl⟩:=Prod.mk.inj hc
   exact .inr ⟨rfl,_,rfl⟩
  ·exact .inl (h4 k c hc)
 | ow m =>
  cases gd with
  |true=>exact⟨rfl,by simp[dU]⟩
  | false =>
   refine⟨rfl,fun k c hc=>?_⟩
   simp[dU]at hc
   exact .inl ⟨n,y,m,Sb7 _,hc.1,hc.2⟩
 |_=>exact⟨rfl,by simp[dU]⟩
theorem Dag {gd:Bool}{deps:List (Nat×Nat)}{nb:Nat}:∀ (ss:List LR) (y n:Nat),(eY gd deps nb y n ss).2.2=n+qL ss/\∀ k c,(k,c)∈(eY gd deps nb y n ss).2.1->(∃ r y m,n<=r/\k=kR r/\c=.root (.v y) m 0 .live)\/(k=kB nb/\∃ ls,c=.box false ls)
 |[],y,n=>⟨rfl,by simp[eY]⟩
 | t :: ss, y, n => by
  obtain⟨h1,h2⟩:=Tax (gd:=gd) (deps:=deps) (nb:=nb) t y n
  simp only[eY]
  rw[h1]
  obtain⟨h3,h4⟩:=Dag (gd:=gd) (deps:=deps) (nb:=nb) ss (y+t.n) (n+t.q)
  refine⟨by rw[h3];simp only[qL];omega,fun k c hc=>?_⟩
  rcases List.mem_append.1 hc with hc|hc
  ·exact h2 k c hc
  ·exact (h4 k c hc).imp (fun ⟨r,y',m,h5,h6⟩=>⟨r,y',m,by omega,h6⟩) id
theorem Laa {gd:Bool}{deps:List (Nat×Nat)}{nb:Nat}:∀ (rs:List (Bool×List LR)) (y n:Nat),(lV gd deps nb y n rs).2.2=n+qR rs/\∀ k c,(k,c)∈(lV gd deps nb y n rs).2.1->(∃ r y m,n<=r/\k=kR r/\c=.root (.v y) m 0 .live)\/(k=kB nb/\∃ ls,c=.box false ls)
 |[],y,n=>⟨rfl,by simp[lV]⟩
 | (ag, ss) :: rs, y, n => by
  obtain⟨h1,h2⟩:=Dag (gd:=gd) (deps:=deps) (nb:=nb) ss y n
  simp only[lV]
  rw[h1]
  obtain⟨h3,h4⟩:=Laa (gd:=gd) (deps:=deps) (nb:=nb) rs (y+sP ss) (n+qL ss)
  refine⟨by rw[h3];simp only[qR];omega,fun k c hc=>?_⟩
  rcases List.mem_append.1 hc with hc|hc
  ·exact h2 k c hc
  ·exact (h4 k c hc).imp (fun ⟨r,y',m,h5,h6⟩=>⟨r,y',m,by omega,h6⟩) id
theorem Ba0 {σ:Nat->Option aW}{ptrs:List (Nat×Nat×Nat)}{deps:List (Nat×Nat)}:∀ {bs:List (Bool×List (BS×BO))} {b y n:Nat} {bu:List (Nat×aW)},(qI ptrs deps b y n bs).eval σ=some bu ->
  ∀ k c,(k,c)∈bu->(∃ r y m,n<=r/\k=kR r/\c=.root (.v y) m 0 .live)\/(∃ c0 ls0 ls,k=kB c0/\σ (kB c0)=some (.box false ls0)/\c=.box false ls)
 | [], b, y, n, bu, h => by
  simp only[qI,aH,Option.some.injEq]at h
  subst h;simp
 | (ro, cs) :: bs, b, y, n, bu, h => by
  simp only[qI]at h
  cases ro with
  |true=>exact Ba0 (bs:=bs) h
  | false =>
   simp only[cond_false]at h
   split at h
   case h_2=>cases h
   simp only[aC,aX,Sb6]at h
   split at h
   case h_2=>cases h
   rename_i ls0 hkb
   simp only[aC,Sbt,aH,Option.some.injEq]at h
   obtain⟨rest,h1,rfl⟩:=h
   obtain⟨h3,h4⟩:=Ba1 (deps:=deps) (cs.map (·.2)) y n
   rw[h3]at h1
   intro k c hc
   rcases List.mem_cons.1 hc with hc|hc
   ·obtain⟨rfl,rfl⟩:=Prod.mk.inj hc
    exact .inr ⟨_,_,_,rfl,hkb,rfl⟩
   ·rcases List.mem_append.1 hc with hc|hc
    ·exact .inl (h4 k c hc)
    ·exact (Ba0 h1 k c hc).imp (fun ⟨r,y',m,h5,h6⟩=>⟨r,y',m,by omega,h6⟩) id
theorem Pam {own:Nat->Ow}{w:World}{ds:List D}{gh:Nat->Value}:∀ {ms:List Nat} {i j k d:Nat},Bbn own w ds gh i j ms->ms[k]?=some d->Rp own w (2*(j+k)+1) [] d (gh (j+k)) (ds.getD (i+k) .undef)
 |[],i,j,k,d,_,h=>by simp at h
 | e :: ms, i, j, 0, d, h, hk => by
  simp only[Sb8,Option.some.injEq]at hk
  subst hk
  exact h.1
 | e :: ms, i, j, k + 1, d, h, hk => by
  have:=Pam h.2 (k:=k) (by simpa using hk)
  rw[show j+(k+1)=j+1+k by omega,show i+(k+1)=i+1+k by omega]
  exact this
theorem lX.len {σ:Nat->Option aW}{ρ:List D}{G:Gh}{w:World}:∀ {ts:List (Bool×List aZ)} {us:List Value},lX σ ρ G w ts us->us.length=ts.length
 |[],us,h=>by simp only[lX]at h;subst h;rfl
 | (a, ls) :: r, us, h => by
  obtain⟨u,us',vs,rfl,-,-,h3⟩:=h
  simp[lX.len h3]
theorem Db4 {σ:Nat->Option aW}{ρ:List D}{G:Gh}{w:World}{g:Option (aO×Bool)}(hg:gOn ρ g=true){rs:List (Bool×List aZ)}{us:List Value}(h:lX σ ρ G w rs us):eB σ ρ G w (Fa3 g rs) (Ia1 us):=by
 unfold Fa3
 split
 ·rename_i x
  obtain⟨u,us',vs,rfl,h1,h2,h3⟩:=h
  simp only[lX]at h3
  subst h3
  simp only[Sbv,if_false]at h2
  subst h2
  simp only[aK,List.cons.injEq]at h1
  obtain⟨u',us',⟨rfl,rfl⟩,h4,-⟩:=h1
  simp only[aD]at h4
  simp only[Ia1]
  cases g with
  |none=>simp only[mkS,eB,aD];exact h4
  |some z=>simp only[mkS,eB,aD];exact⟨.inl h4,fun _=>h4⟩
 ·rename_i l _
  obtain⟨u,us',vs,rfl,h1,h2,h3⟩:=h
  simp only[lX]at h3
  subst h3
  simp only[Sbv,if_false]at h2
  subst h2
  simp only[aK,List.cons.injEq]at h1
  obtain⟨u',us',⟨rfl,rfl⟩,h4,-⟩:=h1
  simp only[Ia1,eB]
  exact h4
 ·rename_i ls
  obtain⟨u,us',vs,rfl,h1,h2,h3⟩:=h
  simp only[lX]at h3
  subst h3
  simp only[if_true]at h2
  simp only[Ia1,eB]
  exact⟨vs,h2,h1⟩
 ·rename_i _ h1 h2 h3
  simp only[eB]
  match us,rs,h with
  |[],[],h=>exact⟨[],rfl,h⟩
  | [u], [(a, ls)], h =>
   exfalso
   obtain⟨u',us',vs,e,h4,h5,h6⟩:=h
   obtain⟨rfl,rfl⟩:=List.cons.inj e
   cases a with
   |true=>exact h3 ls rfl
   | false =>
    simp only[Sbv,if_false]at h5
    subst h5
    have:=h4.len
    match ls,this with
    |[l],_=>exact h2 l rfl
  |u::u'::us,r::r'::rs,h=>exact⟨_,rfl,h⟩
  |[],_::_,h=>have:=h.len;simp at this
  |[_],[],h=>have:=h.len;simp at this
  |[_],_::_::_,h=>have:=h.len;simp at this
  |_::_::_,[],h=>have:=h.len;simp at this
  |_::_::_,[_],h=>have:=h.len;simp at this
theorem zV {σ:Nat->Option aW}{ptrs:List (Nat×Nat×Nat)}:∀ {bs:List (Bool×List (BS×BO))} {b:Nat} {xs:List aO},(kZ ptrs b bs).eval σ=some xs->∀ x∈bs,x.1=false->Wa2 (x.2.map (·.2))=true
 |[],b,xs,h,x,hx,_=>by simp at hx
 | (ro, cs) :: bs, b, xs, h, x, hx, hro => by
  simp only[kZ]at h
  cases ro with
  | true =>
   simp only[cond_true]at h
   rcases List.mem_cons.1 hx with rfl|hx
   ·cases hro
   ·exact zV h x hx hro
  | false =>
   simp only[cond_false]at h
   split at h
   case h_2=>cases h
   simp only[aC,aX,Sb6]at h
   split at h
   case h_2=>cases h
   simp only[aC,Sbt,aH,Option.some.injEq]at h
   obtain⟨l,h1,m,h2,-⟩:=h
   rcases List.mem_cons.1 hx with rfl|hx
   ·clear h2
    rename_i ls0 _
    generalize ls0.drop _=ls at h1
    dsimp only
    clear hx hro
    induction cs generalizing ls l with
    |nil=>rfl
    | cons t cs ih =>
     obtain⟨s,o⟩:=t
     cases ls with
     |nil=>simp[oF,dI]at h1
     | cons x ls =>
      simp only[oF,aC,Sbt]at h1
      obtain⟨y,h3,r,h4,-⟩:=h1
      have:=ih _ _ h4
      cases o with
      |ow m=>cases s<;>simp[dI]at h3
      |_=>simpa[Wa2] using this
   ·exact zV h2 x hx hro
end Go.Proofs.YtpgnlmfmlffjcaaGreat.Rf

namespace Go.Proofs.YtpgnlmfmlffjcaaGreat.Rf
set_option linter.unusedVariables false
set_option linter.unusedSimpArgs false
def Cbt (o:Oper)(g:Option (aO×Bool))(rs:List (Bool×List aZ)):List (Nat×aW):=match o.dst with
 |some d=>[(kT d,.slot (Hbg g (Fa3 g rs)) (Fa3 g rs))]
 |none=>[]
section
variable {E:Env} {F:cB} {σ:Nat->Option aW} {ρ:List D} {a:Act} {w w':World} {G:Gh} {g:Option (aO×Bool)} {cf:Nat->List D->Option (List D)} {o:Oper} {s:Sig} {T Z:Take} {nb nr y0 nvm:Nat}
theorem Gaz {rs:List (Bool×List aZ)}:Cbt o g rs=fU o (Hbg g (Fa3 g rs)) (Fa3 g rs):=rfl
theorem Gbb (hR:R E.ntmps F σ ρ a w G)(hg:gOn ρ g=true)(hd:iJ E.ntmps o)(hf:Haf σ nb nr){vs:List SV}{us0:List Value}(hu0:yI σ ρ G w vs us0)
  (hT:(iE g Take.empty s.params vs).eval σ=some T) (hZ:(iA T.ptrs T 0 s.boxes).eval σ=some Z) (hk:Pak s Z) (hbx1:oL s.results<=1)
  (hgd:noG g=true\/(oL s.results=0/\∃ olds,(kZ Z.ptrs 0 s.boxes).eval σ=some olds))
  {rs:List (Bool×List aZ)} {us bu mu:List (Nat×aW)} {nr1:Nat} {ml:List Step} {ds:List D} (hres:lV (!noG g) Z.deps nb y0 nr s.results=(rs,us,nr1))
  (hbu:(qI Z.ptrs Z.deps 0 (y0+cZ s.results+(Z.rts.filter Bai).length) nr1 s.boxes).eval σ=some bu) {nv1:Nat} (hmu:(Daj (y0+cZ s.results) nv1 Z.rts).eval σ=some (ml,mu))
  (hlen:ds.length=cZ s.results+(Z.rts.filter Bai).length+gP s.boxes) (hval:∀ j d,ds[j]?=some d->(aO.v (y0+j)).val ρ=d)
  (hchk:Z.deps=[]\/Vat ρ (Fb5 y0 s.results++Fb6 (y0+cZ s.results) Z.rts++Cbw (y0+cZ s.results+(Z.rts.filter Bai).length) s.boxes)) (hml:aR cf ρ g nv1 ml)
  (hkey:(Cbt o g rs++(us++bu++mu++jL Z.rts)).all (fun x=>Ca6 E.ntmps nb nr x.1)=true)
  {v:Value} (hpost:Ra3 s (vK s (callG ρ G w s Z) w) (callG ρ G w s Z).bx v w' ds) :
  ∃ G2,R E.ntmps F (upds σ (Cbt o g rs++(us++bu++mu++jL Z.rts))) ρ (a.put o.dst v) w' G2:=by
 obtain⟨G',us',rfl,hF,hres',hmus,hboxes⟩:=hpost
 obtain⟨hle1,hptr,hbxok⟩:=oQ hZ
 rw[<- hptr]at hbxok
 obtain⟨rn,hn1,hn2,hn3⟩:=Aan True (fun _=>hR) hT (fun _=>⟨us0,hu0⟩)
 obtain⟨rn',hn4,hn5⟩:=yN (ρ:=ρ) (G:=G) (w:=w) hZ
 have hnew:=hn1.trans hn4
 have hZrts:Z.rts=rn++rn':=by have:=hnew.rts;simpa[Take.empty] using this
 have hrtok:∀ x∈Z.rts,Lb0 σ ρ G w x:=by
  rw[hZrts]
  exact fun x hx=>(List.mem_append.1 hx).elim (hn3 trivial x) (hn5 x)
 have hms:(Z.rts.filter Bai).map rtD=fZ (s.params.flatMap (·.2)):=by
  have:=hnew.ms
  rw[<- hZrts,Tbb]at this
  exact this
 have hmr:Da8 0 Z.rts=gW 0 (s.params.flatMap (·.2)):=by
  have:=hnew.mr
  rw[<- hZrts,Tbb]at this
  exact this
 have hdeps:∀ z∈Z.deps,Qak σ z.1 z.2:=fun z hz=>by
  rcases hnew.deps z hz with h|h
  ·simp[Take.empty]at h
  ·exact h
 have B:Vau E F σ ρ a w G s Z G' w':=by
  refine⟨hR,hk,hF,fun j ro cs hj=>by have:=hbxok j ro cs hj;rwa[Tbt]at this,hdeps,fun ν r d q X hν=>?_,fun ν r d hν=>?_⟩
  ·obtain⟨m,ver,u,h1,h2,h3⟩:=hrtok _ (Tbg hν)
   exact⟨m,ver,u,h1,h2,h3⟩
  ·obtain⟨x,m,ver,h1⟩:=hrtok _ (Tbg hν)
   exact⟨x,m,ver,h1⟩
 generalize hU:Cbt o g rs++(us++bu++mu++jL Z.rts)=U at hkey ⊢
 let hs:=owR w' s.results us'++owB w' (callG ρ G w s Z).bx 0 s.boxes
 let adn:=(Ma3 s.results us').headD ⟨0,0,none⟩
 let G2:=iI (!noG g) ρ G w s Z nr nb G'.own hs adn
 have hUin:∀ k c,(k,c)∈U->(k,c)∈Cbt o g rs\/(k,c)∈us\/(k,c)∈bu\/(k,c)∈mu\/(k,c)∈jL Z.rts:=by
  intro k c hc
  rw[<- hU]at hc
  rcases List.mem_append.1 hc with hc|hc
  ·exact .inl hc
  ·rcases List.mem_append.1 hc with hc|hc
   ·rcases List.mem_append.1 hc with hc|hc
    ·rcases List.mem_append.1 hc with hc|hc
     ·exact .inr (.inl hc)
     ·exact .inr (.inr (.inl hc))
    ·exact .inr (.inr (.inr (.inl hc)))
   ·exact .inr (.inr (.inr (.inr hc)))
 have hUdst:∀ z∈Cbt o g rs,z∈U:=fun z hz=>by rw[<- hU];exact Sbz _ hz
 have hUus:∀ z∈us,z∈U:=fun z hz=>by rw[<- hU];exact Sb2 _ (Sbz _ (Sbz _ (Sbz _ hz)))
 have hUbu:∀ z∈bu,z∈U:=fun z hz=>by rw[<- hU];exact Sb2 _ (Sbz _ (Sbz _ (Sb2 _ hz)))
 have hUmu:∀ z∈mu,z∈U:=fun z hz=>by rw[<- hU];exact Sb2 _ (Sbz _ (Sb2 _ hz))
 have hUgo:∀ z∈jL Z.rts,z∈U:=fun z hz=>by rw[<- hU];exact Sb2 _ (Sb2 _ hz)
 have hkin:∀ k c,(k,c)∈U->Ca6 E.ntmps nb nr k=true:=fun k c hc=>by
  rw[Tbp]at hkey
  exact hkey _ hc
 obtain⟨hnr1,hkres⟩:=Laa (gd:=!noG g) (deps:=Z.deps) (nb:=nb) s.results y0 nr
 rw[hres]at hnr1 hkres
 dsimp only at hnr1 hkres
 subst hnr1
 have hkbu:=Ba0 hbu
 have hmurep:=Cal hg hmu hml
 have hnewroot:∀ r c,(kR r,c)∈U->nr<=r->σ (kR r)=none:=fun r c hc hr=>hf.nr r hr (Ha3 (hkin _ _ hc))
 have hdk:∀ k c,(k,c)∈Cbt o g rs->∃ d,o.dst=some d/\k=kT d/\c=.slot (Hbg g (Fa3 g rs)) (Fa3 g rs):=fun k c hc=>by
  rw[Gaz]at hc
  exact Cax hc
 have hfr:Fr σ G w (upds σ U) G2 w':=by
  refine Fr.of (fun b hb hlt=>B.frz hb hlt) (fun r b p hnot hb=>?_) (fun r c hc hc'=>?_) (fun r x m k hkz b p hb=>?_) (fun r hr=>?_) (fun b hb=>?_)
  ·refine B.other (fun hr=>?_) hb
   rcases Cam hmu r hr with ⟨c,hc⟩|⟨c,hc⟩
   ·exact hnot c (hUmu _ hc)
   ·exact hnot c (hUgo _ hc)
  ·rcases hUin _ _ hc with h|h|h|h|h
   ·obtain⟨d,-,e,-⟩:=hdk _ _ h
    exact absurd e.symm kU
   ·rcases hkres _ _ h with ⟨r',y,m,h1,h2,rfl⟩|⟨h1,-⟩
    ·obtain rfl:=iB h2
     exact .inl ⟨hnewroot r _ hc h1,_,_,_,_,rfl⟩
    ·exact absurd h1.symm iX
   ·rcases hkbu _ _ h with ⟨r',y,m,h1,h2,rfl⟩|⟨c0,ls0,ls,h1,-⟩
    ·obtain rfl:=iB h2
     exact .inl ⟨hnewroot r _ hc (by omega),_,_,_,_,rfl⟩
    ·exact absurd h1.symm iX
   ·obtain⟨j,r',d,q,X,X0,m,ver,X',h1,h2,rfl,h3,-⟩:=hmurep _ _ h
    obtain rfl:=iB h2
    exact .inr (.inl ⟨_,_,_,_,_,h3,rfl⟩)
   ·obtain⟨r',h1,rfl⟩:=pG h
    exact .inr (.inr (.inl ⟨_,_,_,_,rfl,by simp,by simp⟩))
  ·have hb:G2.own b=.slc r p:=hb
   simp only[G2,iI]at hb
   split at hb
   ·cases e:G.own b with
    | slc r' p' =>
     rw[e]at hb
     simp only[Da6]at hb
     split at hb
     ·cases hb
     ·split at hb
      ·split at hb
       ·exact hb
       ·cases hb
      ·exact hb
     ·exact hb
    |_=>rw[e]at hb;simp[Da6]at hb
   ·cases e:G'.own b with
    | slc t p' =>
     rw[e]at hb
     simp only[zX]at hb
     split at hb
     ·split at hb
      ·cases hb
      ·split at hb
       ·rename_i hlt
        injection hb with e1 e2
        have:=hf.nr r (by omega) (by omega)
        rw[this]at hkz;cases hkz
       ·cases hb
     ·split at hb
      ·rename_i r' d q X hmuj
       injection hb with e1 e2
       subst e1
       have hm:=(List.mem_filter.1 (Tbg hmuj)).1
       obtain⟨m',ver',u',h1,-⟩:=hrtok _ hm
       rw[h1]at hkz;cases hkz
      ·cases hb
    | box β =>
     rw[e]at hb
     simp only[zX]at hb
     split at hb<;>cases hb
    |_=>rw[e]at hb;simp[zX]at hb
  ·show (if nr<=r/\r<nr+dO then _ else G.hdr r)=_
   rw[if_neg]
   rintro⟨h1,h2⟩
   rw[hf.nr r h1 h2]at hr
   cases hr
  ·show (if b=nb then adn else G.bx b)=_
   rw[if_neg]
   intro e
   rw[e,hf.nb]at hb
   cases hb
 have hsome:∀ k c,(k,c)∈U->(upds σ U k).isSome:=fun k c hc=>gD _ _ _ (.inr ⟨c,hc⟩)
 have huin:∀ l:List (Nat×aW),(∀ z∈l,z∈U)->UIn (upds σ U) nr l:=fun l hl k c hc=>by
  refine⟨hsome k c (hl _ hc),fun q e=>?_⟩
  have:=hkin _ _ (hl _ hc)
  rw[e]at this
  have:=Ha3 this
  omega
 have hval':∀ i,i<ds.length->(aO.v (y0+i)).val ρ=ds.getD i .undef:=fun i hi=>by
  rw[Sb4,Sb0 hi,Ub1]
  exact hval i _ (Sb0 hi)
 have A:Aft E F σ (upds σ U) ρ a w G s Z G' w' y0 ds:=by
  refine⟨B,hval',fun z hz=>hfr.known _ _ ?_⟩
  obtain⟨m,x,hx⟩:=hdeps z hz
  exact⟨x,m,z.2,.live,hx,fun _=>Sb7 _⟩
 have hgdb:(!noG g)=false\/oL s.results=0:=by
  rcases hgd with h|h
  ·exact .inl (by rw[h];rfl)
  ·exact .inr h.1
 have hres2:=Oal A (gd:=!noG g) (nb:=nb) (nr:=nr) (hs:=hs) (adn:=adn) (i:=0) (q:=0) hres' (by omega) (hchk.imp id fun h m y hm=>h m y (Sbz _ (Sbz _ hm)))
  hgdb (fun j x hj=>by
   rw[Tbt]
   show (owR w' s.results us'++_)[j]?=some x
   rw[Tbj (List.getElem?_eq_some_iff.1 hj).1]
   exact hj) (fun ad had=>by
   have hl:=Vao s.results us'
   show ad=(Ma3 s.results us').headD _
   match hb:Ma3 s.results us',had with
   |[x],had=>simpa using had
   |x::y::l,had=>rw[hb]at hl;simp at hl;omega) (by
   rw[Tbs,Tbs,hres]
   exact huin us hUus)
 rw[Tbs,Tbs,hres]at hres2
 dsimp only at hres2
 obtain⟨-,hq1,htup,huok⟩:=hres2
 have hmslen:(fZ (s.params.flatMap (·.2))).length=(Z.rts.filter Bai).length:=by rw[<- hms];simp
 rw[hmslen]at hboxes
 have hbu2:=Eak A (gd:=!noG g) (nb:=nb) (nr:=nr) (hs:=hs) (adn:=adn) hf.nb (bs:=s.boxes) (b:=0) (i:=cZ s.results+(Z.rts.filter Bai).length) (q:=qR s.results) (bu:=bu) (by simp)
  (by rw[<- Tbl];exact hbu) hboxes (by omega) (hchk.imp id fun h m y hm=>h m y (Sb2 _ (by rw[Tbl];exact hm)))
  (by
   rcases hgd with h|⟨-,olds,h⟩
   ·exact .inl (by rw[h];rfl)
   ·exact .inr (zV h)) (fun j x hj=>by
   show (owR w' s.results us'++owB w' (callG ρ G w s Z).bx 0 s.boxes)[qR s.results+j]?=some x
   rw[Tbf (by omega),hq1,Tb4]
   exact hj) (huin bu hUbu)
 obtain⟨hbu3,hbu4⟩:=hbu2
 refine⟨G2,hR.upd U hfr (by rw[Fa7];exact hR.tmps) (by rw[put_defers];exact hR.defers) B.frame (fun t ht=>?_) (fun b ro ls hb hnot=>?_) (fun b ls hb hlt ho=>?_) (fun k c hc hc'=>?_)⟩
 ·rw[<- hU,Gaz]at ht
  exact Jaz ht
 ·
  obtain⟨h1,h2,h3⟩:=hR.box hb
  have hlt:(G.bx b).block<w.heap.size:=by
   rcases Tbi (G.bx b).block w.heap.size with h|h
   ·exact h
   ·rw[hR.frame.fresh _ h]at h2
    split at h2<;>cases h2
  cases ro with
  | true =>
   simp only[if_true]at h2
   obtain⟨h4,h5⟩:=B.oth (gd:=!noG g) (nr:=nr) (nb:=nb) (hs:=hs) (adn:=adn) h2 hlt
   exact⟨h4.trans h2.symm,h5⟩
  | false =>
   simp only[Sbv,if_false]at h2
   obtain⟨h4,h5⟩:=B.boxes (gd:=!noG g) (nr:=nr) (nb:=nb) (hs:=hs) (adn:=adn) h2 hlt
   refine⟨h4.trans h2.symm,?_⟩
   rcases h5 with h5|⟨j,cs,off,ls2,c0,c1,e,fr,e1,e2,e3,e4,-⟩
   ·exact h5
   ·exfalso
    have hm:=zU (wr:=false) (b:=0) e1 (by rw[Tbt];exact e2)
    obtain⟨x,hx⟩:=hbu4 b hm
    exact hnot x (hUbu _ hx)
 ·
  rcases hUin _ _ hb with h|h|h|h|h
  ·obtain⟨d,-,e,-⟩:=hdk _ _ h
   exact absurd e.symm rO
  ·rcases huok _ _ h with ⟨q,m,i,e,-⟩|⟨e,ls',e2,hbr,hnb⟩
   ·exact absurd e iX
   ·exfalso
    have e:=Ia6 e
    subst e
    refine hnb ⟨Nat.lt_of_lt_of_le hlt hR.frame.size,?_⟩
    have h1:=(hR.frame.boxes _ _ hlt ho).1
    have h2:(callG ρ G w s Z).own ((iI (!noG g) ρ G w s Z nr b G'.own hs adn).bx b).block=.oth\/∃ j,(callG ρ G w s Z).own ((iI (!noG g) ρ G w s Z nr b G'.own hs adn).bx b).block=.box j:=by
     have h1':G.own ((iI (!noG g) ρ G w s Z nr b G'.own hs adn).bx b).block=.box b:=h1
     simp only[callG,h1']
     split
     ·split
      ·exact .inr ⟨_,rfl⟩
      ·exact .inl rfl
     ·exact .inl rfl
    rcases h2 with h2|⟨j,h2⟩<;>rw[h2]<;>rfl
  ·rcases hbu3 _ _ h with ⟨q,m,i,e,-⟩|⟨c0,ls0,ls',e,h1,h2,h3,-⟩
   ·exact absurd e iX
   ·obtain rfl:=Ia6 e
    injection h2 with e1 e2
    have hbn:G2.bx b=G.bx b:=hfr.bx b (by rw[h1];rfl)
    rw[hbn]at hlt ho ⊢
    rw[hR.rng b ls0 h1 hlt ho,e2,h3]
  ·obtain⟨j,r',d,q,X,X0,m,ver,X',h1,h2,-⟩:=hmurep _ _ h
   exact absurd h2 iX
  ·obtain⟨r',h1,-⟩:=pG h
   exact absurd h1 iX
 ·rcases hUin _ _ hc with h|h|h|h|h
  ·obtain⟨d,hd',rfl,rfl⟩:=hdk _ _ h
   refine⟨d,rfl,fun _=>?_⟩
   rw[hd',uK _ _ _ _ _ (hd d hd') hR.tmps]
   exact Db4 hg htup
  ·rcases huok _ _ h with ⟨q,m,i,rfl,rfl,hrp⟩|⟨rfl,ls',rfl,hbr,-⟩
   ·exact⟨nr+q,rfl,by rw[hc'];rfl,hrp⟩
   ·exact⟨nb,rfl,hbr⟩
  ·rcases hbu3 _ _ h with ⟨q,m,i,rfl,rfl,hrp⟩|⟨c0,ls0,ls',rfl,h1,rfl,h3,h4⟩
   ·exact⟨nr+q,rfl,by rw[hc'];rfl,hrp⟩
   ·refine⟨c0,rfl,h4 fun j l hj=>?_⟩
    obtain⟨-,-,hcells⟩:=hR.box h1
    obtain⟨v,hv1,hv2,hv3⟩:=hcells j l hj
    exact⟨v,hv1,fun hl=>aD.mono hfr l v hl⟩
  ·obtain⟨j,r',d,q,X,X0,m,ver,X',h1,rfl,rfl,h3,hfd,h4⟩:=hmurep _ _ h
   refine⟨r',rfl,by rw[hc'];rfl,?_⟩
   show Rp G2.own w' r' [] m (G2.hdr r') (X'.val ρ)
   have hhd:G2.hdr r'=G.hdr r':=hfr.hdr r' (by rw[h3];rfl)
   rw[hhd]
   have hjlt:=(List.getElem?_eq_some_iff.1 h1).1
   have hidx:j<(Da8 0 Z.rts).length:=by rw[Uaq];exact hjlt
   have hν:=Sb0 hidx
   obtain⟨x,hx1,-,hx2⟩:=Uar hν
   rw[h1]at hx1
   obtain rfl:=Option.some.inj hx1
   rw[Nat.sub_zero]at hx2
   have hd0:(fZ (s.params.flatMap (·.2)))[j]?=some d:=by
    rw[<- hms,Tbo,h1];rfl
   have hfin:=Pam hmus hd0
   rw[Tbt]at hfin
   have hy:(aO.v (y0+cZ s.results+j)).val ρ=ds.getD (cZ s.results+j) .undef:=by
    rw[Tbl]
    exact hval' _ (by omega)
   rw[<- hy]at hfin
   have hgh:(vK s (callG ρ G w s Z) w).gh j=Ebk w (G.hdr r') (bM ρ q):=by
    simp only[vK,La4,Sb4]
    rw[<- hmr,Tbj (by simpa using hidx),Tbo,hν]
    simp only[Ubd,Ub1]
    rw[Ga8 hx2]
    rfl
   rw[hgh]at hfin
   refine B.mu h3 hfd hx2 h1 (fun u' hn=>Hau hn) hfin (hchk.imp id fun hc=>?_) h4
   have hmem:∀ (rts:List RT) (y j:Nat) (r d:Nat) (q:List (aO×Nat×Nat)) (X:aO),(rts.filter Bai)[j]?=some (RT.mu r d q X)->Step.prim (.dep d) [.v (y+j)] 0∈Fb6 y rts:=by
    intro rts
    induction rts with
    |nil=>intro y j r d q X h;simp at h
    | cons x t ih =>
     intro y j r d q X h
     cases x with
     |nil=>exact ih y j r d q X (by simpa[Bai,Ubq] using h)
     |own _ _=>exact ih y j r d q X (by simpa[Bai,Ubq] using h)
     | mu r' d' q' X' =>
      simp only[Fb6]
      cases j with
      | zero =>
       simp[Bai,Ubq]at h
       rw[h.2.1]
       exact Tbe
      | succ j =>
       have:=ih (y+1) j r d q X (by simpa[Bai,Ubq] using h)
       rw[show y+1+j=y+(j+1) by omega]at this
       exact Tba _ this
   exact hc d _ (Sbz _ (Sb2 _ (hmem _ _ _ _ _ _ _ h1)))
  ·obtain⟨r',rfl,rfl⟩:=pG h
   exact⟨r',rfl,by rw[hc'];rfl,trivial⟩
end
end Go.Proofs.YtpgnlmfmlffjcaaGreat.Rf

namespace Go.Proofs.YtpgnlmfmlffjcaaGreat.Rf
set_option linter.unusedVariables false
set_option linter.unusedSimpArgs false
theorem Ian:∀ (cs:List BO) (y:Nat),bZ (uA y cs)=0
 |[],y=>rfl
 |t::cs,y=>by cases t<;>simp only[uA,kP,Step.n,Ian cs]
theorem Lbv:∀ (ss:List LR) (y:Nat),bZ (Xau y ss)=0
 |[],y=>rfl
 |t::ss,y=>by cases t<;>simp only[Xau,kP,iF,Step.n,Ian,Lbv ss]
theorem Lbt:∀ (rs:List (Bool×List LR)) (y:Nat),bZ (Fb5 y rs)=0
 |[],y=>rfl
 |(a,ss)::rs,y=>by simp only[Fb5,iF,Lbv,Lbt rs]
theorem Lbu:∀ (ts:List RT) (y:Nat),bZ (Fb6 y ts)=0
 |[],y=>rfl
 |t::ts,y=>by cases t<;>simp only[Fb6,kP,Step.n,Lbu ts]
theorem Lbw:∀ (bs:List (Bool×List (BS×BO))) (y:Nat),bZ (Cbw y bs)=0
 |[],y=>rfl
 |(ro,cs)::bs,y=>by cases ro<;>simp only[Cbw,cond_true,cond_false,iF,Ian,Lbw bs]
theorem Ab5 {ρ:List D}{g:Option (aO×Bool)}{cf:Nat->List D->Option (List D)}(hg:gOn ρ g=true):∀ {l:List Step} {nv:Nat},aR cf ρ g nv l->Vat ρ l
 |[],nv,h=>fun m y hm=>by simp at hm
 | t :: l, nv, h => fun m y hm => by
  rcases List.mem_cons.1 hm with e|hm
  ·subst e
   obtain⟨ds,h1,-,-⟩:=h.1.1 hg
   simp only[Tbn,Tbw,aN.run]at h1
   split at h1
   ·rename_i hf;exact hf
   ·cases h1
  ·exact Ab5 hg h.2 m y hm
theorem Tay {deps:List (Nat×Nat)}{nb:Nat}:∀ (rs:List (Bool×List LR)) (y n:Nat),oL rs=0->(lV true deps nb y n rs).2.1=[]
 |[],y,n,_=>rfl
 | (a, ss) :: rs, y, n, h => by
  simp only[oL]at h
  have hl:∀ (ss:List LR) (y n:Nat),bxL ss=0->(eY true deps nb y n ss).2.1=[]:=by
   intro ss
   induction ss with
   |nil=>intro y n _;rfl
   | cons t ss ih =>
    intro y n h
    cases t with
    |bx cs=>simp[bxL]at h
    |_=>simp only[eY,dU,cond_true,Tb2];exact ih _ _ (by simpa[bxL] using h)
  simp only[lV,hl ss y n (by omega),Tb2]
  exact Tay rs _ _ (by omega)
theorem Oam {gd:Bool}{deps:List (Nat×Nat)}{nb y n:Nat}{rs:List (Bool×List LR)}{l:aZ}(h:(lV gd deps nb y n rs).1=[(false,[l])]):(∀ g x,l≠.su g x)/\∀ x,l=.sc x->x=.v y/\1<=cZ rs:=by
 match rs,h with
 |[],h=>simp[lV]at h
 |(a,ss)::r::rs,h=>simp[lV]at h
 | [(a, ss)], h =>
  simp only[lV,List.cons.injEq,Prod.mk.injEq,and_true]at h
  obtain⟨-,h⟩:=h
  match ss,h with
  |[],h=>simp[eY]at h
  |t::t'::ss,h=>simp[eY]at h
  | [t], h =>
   simp only[eY,List.cons.injEq,and_true]at h
   subst h
   cases t with
   |sc=>exact⟨fun g x e=>by simp[dU]at e,fun x e=>by simp[dU]at e;exact⟨e.symm,by simp[cZ,sP,LR.n]⟩⟩
   |ow m=>cases gd<;>exact⟨fun g x e=>by simp[dU]at e,fun x e=>by simp[dU]at e⟩
   |_=>exact⟨fun g x e=>by simp[dU]at e,fun x e=>by simp[dU]at e⟩
theorem Db5 {σ:Nat->Option aW}{ρ:List D}{G:Gh}{w:World}{z:aO×Bool}(hg:gOn ρ (some z)=false){gd:Bool}{deps:List (Nat×Nat)}{nb y n:Nat}{rs0:List (Bool×List LR)}{rs:List (Bool×List aZ)}
  (hrs:(lV gd deps nb y n rs0).1=rs) (hv:1<=cZ rs0->(aO.v y).val ρ=.undef) (h:gOn ρ (Hbg (some z) (Fa3 (some z) rs))=true):eB σ ρ G w (Fa3 (some z) rs) undef:=by
 unfold Fa3 at h ⊢
 split at h
 ·rename_i x
  obtain⟨h1,h2⟩:=(Oam hrs).2 x rfl
  subst h1
  simp only[mkS,eB,aD]
  exact⟨.inr ⟨trivial,hv h2⟩,fun e=>by rw[hg]at e;cases e⟩
 ·rename_i l hne
  have hns:=(Oam hrs).1
  exfalso
  revert h hns
  cases l with
  |su g' x'=>exact fun _ hns=>hns g' x' rfl
  |_=>intro e _;simp only[Hbg]at e;rw[hg]at e;cases e
 ·simp only[Hbg]at h;rw[hg]at h;cases h
 ·simp only[Hbg]at h;rw[hg]at h;cases h
section
variable {P:Program} {E:Env} {F:cB} {σ:Nat->Option aW} {ρ:List D} {a:Act} {w w':World} {G:Gh} {g:Option (aO×Bool)} {cf:Nat->List D->Option (List D)} {o:Oper} {s:Sig} {T Z:Take} {nb nr y0 nvm:Nat}
theorem Ia4 (hR:R E.ntmps F σ ρ a w G){σ':Nat->Option aW}(hfr:Fr σ G w σ' G w){deps:List (Nat×Nat)}(hkn:∀ z∈deps,nS σ z.1 z.2):∀ {cs:List (BS×BO)} {ls:List aZ} {xs:List aO} {y n:Nat},(oF cs ls).eval σ=some xs ->
  (∀ j x,xs[j]?=some x->(aO.v (y+j)).val ρ=x.val ρ)->(∀ (j:Nat) (nie:Bool) (o:BO) (l:aZ),cs[j]?=some (BS.fz nie,o)->ls[j]?=some l->∃ r,(Caf l).eval σ=some r/\∀ z∈r.deps,z∈deps) ->
  xs.length=cs.length/\(fI deps y n (cs.map (·.2))).2.1=[]/\(fI deps y n (cs.map (·.2))).1.length=cs.length /\
  ∀ (j:Nat) (l l0:aZ) (v:Value),(fI deps y n (cs.map (·.2))).1[j]?=some l->ls[j]?=some l0->aD σ ρ G w l0 v->aD σ' ρ G w l v
 | [], ls, xs, y, n, h, _, _ => by
  simp only[oF,aH,Option.some.injEq]at h
  subst h
  exact⟨rfl,rfl,rfl,by simp[fI]⟩
 |_::_,[],xs,y,n,h,_,_=>by simp[oF,dI]at h
 | (t, o) :: cs, l0 :: ls, xs, y, n, h, hx, hz => by
  simp only[oF,aC,Sbt,aH,Option.some.injEq]at h
  obtain⟨x,h1,r,h2,rfl⟩:=h
  have hx0:(aO.v y).val ρ=x.val ρ:=by have:=hx 0 x rfl;rwa[Tbs]at this
  have key:(mY deps y n o).2.1=[]/\∀ v,aD σ ρ G w l0 v->aD σ' ρ G w (mY deps y n o).1 v:=by
   split at h1
   ·rename_i x'
    simp only[aH,Option.some.injEq]at h1
    subst h1
    refine⟨rfl,fun v hv=>?_⟩
    simp only[mY,aD]at hv ⊢
    rw[hx0];exact hv
   ·rename_i _ nie
    simp only[aC,Sbt,aH,Option.some.injEq]at h1
    obtain⟨sl,h3,rfl⟩:=h1
    refine⟨rfl,fun v hv=>?_⟩
    obtain⟨sl',h4,h5⟩:=hz 0 nie .fz _ rfl rfl
    rw[h3]at h4
    obtain rfl:=Option.some.inj h4
    have hs:=fV hR h3 hv
    have hone:v.oneCell'=true:=hv.one (by cases l0<;>first|rfl|cases h3)
    have hl:aD σ ρ G w (.sn deps .no false (.v y)) v:=by
     simp only[aD]
     refine⟨⟨hone,hkn⟩,fun _=>⟨?_,fun e=>absurd e (by decide),trivial⟩⟩
     rw[hx0]
     refine hs.rd.mono fun b hb=>⟨?_,rfl⟩
     rcases hb with hb|⟨r,k,p,hm,hb⟩
     ·exact .inl hb
     ·exact .inr ⟨r,k,p,h5 _ hm,hb⟩
    exact aD.mono hfr _ v hl
   ·rw[jW]at h1
    split at h1
    ·rename_i hs
     simp only[aH,Option.some.injEq]at h1
     refine⟨rfl,fun v hv=>?_⟩
     simp only[mY,aD]
     exact hv.one hs
    ·cases h1
   ·cases h1
  obtain⟨h3,h4,h5,h6⟩:=Ia4 hR hfr hkn (cs:=cs) (y:=y+1) (n:=(mY deps y n o).2.2) h2 (fun j x hj=>by
   have:=hx (j+1) x (by simpa using hj)
   rwa[show y+(j+1)=y+1+j by omega]at this) (fun j nie o' l hj hl=>hz (j+1) nie o' l (by simpa using hj) (by simpa using hl))
  refine⟨by simp[h3],by simp only[Tbn,fI,key.1,Tb2];exact h4,by simp only[Tbn,fI,Sbw];rw[h5],fun j l l1 v hj hl hv=>?_⟩
  simp only[Tbn,fI]at hj
  cases j with
  | zero =>
   simp only[Sb8,Option.some.injEq]at hj hl
   subst hj hl
   exact key.2 v hv
  |succ j=>exact h6 j l l1 v (by simpa using hj) (by simpa using hl) hv
theorem Iav:∀ {ss:List (BS×BO)} {ls:List aZ} {A B:Take},(gF A ss ls).eval σ=some B->∀ (j:Nat) (nie:Bool) (o:BO) (l:aZ),ss[j]?=some (BS.fz nie,o)->ls[j]?=some l->∃ r,(Caf l).eval σ=some r/\∀ z∈r.deps,z∈B.deps
 |[],ls,A,B,h,j,nie,o,l,hj,_=>by simp at hj
 |_::_,[],A,B,h,_,_,_,_,_,_=>by simp[gF,dI]at h
 | (t, o) :: ss, l0 :: ls, A, B, h, j, nie, o', l, hj, hl => by
  simp only[gF,aC,Sbt]at h
  obtain⟨C,h1,h2⟩:=h
  cases j with
  | zero =>
   simp only[Sb8,Option.some.injEq,Prod.mk.injEq]at hj hl
   obtain⟨rfl,rfl⟩:=hj
   subst hl
   have h3:(wS A nie l0).eval σ=some C:=by
    have hinv:=vS h1
    clear h1
    rcases hinv with ⟨x,e,-⟩|⟨nie',e,h⟩|⟨d,e,-⟩|⟨e,-⟩
    ·cases e
    ·injection e with e;subst e;exact h
    ·cases e
    ·cases e
   unfold wS at h3
   simp only[aC,Sbt,aH,Option.some.injEq]at h3
   obtain⟨sl,h4,rfl⟩:=h3
   exact⟨sl,h4,fun z hz=>(vR h2).1.deps z (Sb2 _ hz)⟩
  |succ j=>exact Iav h2 j nie o' l (by simpa using hj) (by simpa using hl)
theorem Iaw {ptrs:List (Nat×Nat×Nat)}:∀ {bs:List (Bool×List (BS×BO))} {b:Nat} {A B:Take},(iA ptrs A b bs).eval σ=some B->∀ (i:Nat) (ro:Bool) (cs:List (BS×BO)),bs[i]?=some (ro,cs) ->
  ∃ c off ro' ls,uS (b+i) ptrs=some (c,off)/\σ (kB c)=some (.box ro' ls)/\off+cs.length<=ls.length/\∀ (j:Nat) (nie:Bool) (o:BO) (l:aZ),cs[j]?=some (BS.fz nie,o)->(ls.drop off)[j]?=some l->∃ r,(Caf l).eval σ=some r/\∀ z∈r.deps,z∈B.deps
 |[],b,A,B,h,i,ro,cs,hi=>by simp at hi
 | (ro0, cs0) :: bs, b, A, B, h, i, ro, cs, hi => by
  simp only[iA]at h
  split at h
  case h_2=>cases h
  rename_i c off hp
  simp only[aC,aX,Sb6]at h
  split at h
  case h_2=>cases h
  rename_i ro' ls hkb
  simp only[aC,aP,Sbt]at h
  obtain⟨_,h0,C,h1,h2⟩:=h
  split at h0
  case isFalse=>cases h0
  rename_i hb
  simp only[Sbu,Ubf]at hb
  cases i with
  | zero =>
   simp only[Sb8,Option.some.injEq,Prod.mk.injEq]at hi
   obtain⟨rfl,rfl⟩:=hi
   refine⟨c,off,ro',ls,hp,hkb,hb.2,fun j nie o l hj hl=>?_⟩
   obtain⟨r,h3,h4⟩:=Iav h1 j nie o l hj hl
   exact⟨r,h3,fun z hz=>(oQ h2).1.deps z (h4 z hz)⟩
  | succ i =>
   obtain⟨c',off',ro'',ls',h3,h4,h5,h6⟩:=Iaw h2 i ro cs (by simpa using hi)
   exact⟨c',off',ro'',ls',by rw[show b+(i+1)=b+1+i by omega];exact h3,h4,h5,h6⟩
theorem Eal (hR:R E.ntmps F σ ρ a w G){deps:List (Nat×Nat)}(hkn:∀ z∈deps,nS σ z.1 z.2){ptrs:List (Nat×Nat×Nat)}:∀ {bs:List (Bool×List (BS×BO))} {b y n:Nat} {bu:List (Nat×aW)} {xs:List aO},
  (qI ptrs deps b y n bs).eval σ=some bu->(kZ ptrs b bs).eval σ=some xs->(∀ j x,xs[j]?=some x->(aO.v (y+j)).val ρ=x.val ρ) ->
  (∀ (i:Nat) (ro:Bool) (cs:List (BS×BO)),bs[i]?=some (ro,cs)->∃ c off ro' ls,uS (b+i) ptrs=some (c,off)/\σ (kB c)=some (.box ro' ls)/\off+cs.length<=ls.length/\∀ (j:Nat) (nie:Bool) (o:BO) (l:aZ),cs[j]?=some (BS.fz nie,o)->(ls.drop off)[j]?=some l->∃ r,(Caf l).eval σ=some r/\∀ z∈r.deps,z∈deps) ->
  xs.length=gP bs/\∀ k c,(k,c)∈bu->∃ (c0:Nat) (ls0 ls:List aZ),k=kB c0/\σ (kB c0)=some (.box false ls0)/\c=.box false ls/\ls.length=ls0.length/\∀ (σ':Nat->Option aW),Fr σ G w σ' G w->∀ (j:Nat) (l l0:aZ) (v:Value),ls[j]?=some l->ls0[j]?=some l0->aD σ ρ G w l0 v->aD σ' ρ G w l v
 | [], b, y, n, bu, xs, h, hx, _, _ => by
  simp only[qI,aH,Option.some.injEq]at h
  simp only[kZ,aH,Option.some.injEq]at hx
  subst h hx
  exact⟨rfl,by simp⟩
 | (ro, cs) :: bs, b, y, n, bu, xs, h, hx, hv, hz => by
  have hz':∀ (i:Nat) (ro:Bool) (cs:List (BS×BO)),bs[i]?=some (ro,cs)->∃ c off ro' ls,uS (b+1+i) ptrs=some (c,off)/\σ (kB c)=some (.box ro' ls)/\off+cs.length<=ls.length/\∀ (j:Nat) (nie:Bool) (o:BO) (l:aZ),cs[j]?=some (BS.fz nie,o)->(ls.drop off)[j]?=some l->∃ r,(Caf l).eval σ=some r/\∀ z∈r.deps,z∈deps:=fun i ro cs hi=>by
   have:=hz (i+1) ro cs (by simpa using hi)
   rwa[show b+(i+1)=b+1+i by omega]at this
  simp only[qI]at h
  simp only[kZ]at hx
  cases ro with
  | true =>
   simp only[cond_true]at h hx
   obtain⟨h1,h2⟩:=Eal hR hkn h hx hv hz'
   exact⟨by rw[h1];simp only[gP,cond_true,Tbt],h2⟩
  | false =>
   simp only[cond_false]at h hx
   obtain⟨c,off,ro',ls0,e1,e2,e3,e4⟩:=hz 0 false cs rfl
   rw[Tbs]at e1
   rw[e1]at h hx
   simp only[aC,aX,Sb6]at h hx
   rw[e2]at h hx
   cases ro' with
   |true=>simp[dI]at h
   | false =>
    simp only[aC,Sbt,aH,Option.some.injEq]at h hx
    obtain⟨rest,h1,rfl⟩:=h
    obtain⟨l1,h2,m1,h3,rfl⟩:=hx
    have hold:=fun σ' (hfr:Fr σ G w σ' G w)=>Ia4 (E:=E) (F:=F) (a:=a) hR hfr hkn (cs:=cs) (ls:=ls0.drop off) (y:=y) (n:=n) h2 (fun j x hj=>hv j x (by rw[Tbj (List.getElem?_eq_some_iff.1 hj).1];exact hj)) e4
    obtain⟨h4,h5,h6,-⟩:=hold σ (Fr.same σ G w [] (by simp))
    obtain⟨h7,h8⟩:=Eal hR hkn h1 h3 (fun j x hj=>by
     have:=hv (cs.length+j) x (by rw[Tbf (by omega),h4,Tb4];exact hj)
     rwa[<- Tbl]at this) hz'
    refine⟨by rw[Sby,h4,h7];simp only[gP,cond_false],fun k x hkx=>?_⟩
    rw[h5]at hkx
    simp only[Ub3,Tb2]at hkx
    rcases List.mem_cons.1 hkx with hkx|hkx
    ·obtain⟨rfl,rfl⟩:=Prod.mk.inj hkx
     refine⟨c,ls0,_,rfl,e2,rfl,oW (by rw[h6];exact e3),fun σ' hfr j l l0 v hj hl0 hlv=>?_⟩
     rw[kK (by rw[h6];exact e3)]at hj
     split at hj
     ·rename_i hr
      refine (hold σ' hfr).2.2.2 (j-off) l l0 v hj ?_ hlv
      rw[List.getElem?_drop,show off+(j-off)=j by omega]
      exact hl0
     ·rw[hl0]at hj
      obtain rfl:=Option.some.inj hj
      exact aD.mono hfr _ v hlv
    ·exact h8 k x hkx
theorem Ibm (hR:R E.ntmps F σ ρ a w G)(hg:gOn ρ g=false)(hd:iJ E.ntmps o)(hZdeps:∀ z∈Z.deps,Qak σ z.1 z.2)(hrts:Z.rts=[])(hbx0:oL s.results=0)
  (hZ:(iA T.ptrs T 0 s.boxes).eval σ=some Z) {olds:List aO} (hold:(kZ Z.ptrs 0 s.boxes).eval σ=some olds)
  {rs:List (Bool×List aZ)} {us bu:List (Nat×aW)} {nr1:Nat} (hres:lV true Z.deps nb y0 nr s.results=(rs,us,nr1)) (hgn:noG g=false)
  (hbu:(qI Z.ptrs Z.deps 0 (y0+cZ s.results) nr1 s.boxes).eval σ=some bu)
  (hval:∀ j d,(Sb1 (cZ s.results+gP s.boxes-olds.length) D.undef++olds.map (·.val ρ))[j]?=some d->(aO.v (y0+j)).val ρ=d) :
  R E.ntmps F (upds σ (Cbt o g rs++(us++bu))) ρ (a.put o.dst undef) w G:=by
 have hus:us=[]:=by
  have:=Tay (deps:=Z.deps) (nb:=nb) s.results y0 nr hbx0
  rw[hres]at this
  exact this
 subst hus
 rw[Tb2]
 obtain⟨-,hptr,-⟩:=oQ hZ
 have hkn:∀ z∈Z.deps,nS σ z.1 z.2:=fun z hz=>by
  obtain⟨m,x,hx⟩:=hZdeps z hz
  exact⟨x,m,z.2,.live,hx,fun _=>Sb7 _⟩
 have hfz:=Iaw hZ
 rw[<- hptr]at hfz
 have hlen0:olds.length=gP s.boxes:=by
  have hln:∀ {bs:List (Bool×List (BS×BO))} {b:Nat} {xs:List aO},(kZ Z.ptrs b bs).eval σ=some xs->xs.length=gP bs:=by
   intro bs
   induction bs with
   |nil=>intro b xs h;simp only[kZ,aH,Option.some.injEq]at h;subst h;rfl
   | cons x bs ih =>
    intro b xs h
    obtain⟨ro,cs⟩:=x
    simp only[kZ]at h
    cases ro with
    |true=>simp only[cond_true]at h;rw[ih h];simp only[gP,cond_true,Tbt]
    | false =>
     simp only[cond_false]at h
     split at h
     case h_2=>cases h
     simp only[aC,aX,Sb6]at h
     split at h
     case h_2=>cases h
     simp only[aC,Sbt,aH,Option.some.injEq]at h
     obtain⟨l,h1,m,h2,rfl⟩:=h
     have hc:∀ {cs:List (BS×BO)} {ls:List aZ} {ys:List aO},(oF cs ls).eval σ=some ys->ys.length=cs.length:=by
      intro cs
      induction cs with
      |nil=>intro ls ys h;simp only[oF,aH,Option.some.injEq]at h;subst h;rfl
      | cons t cs ihc =>
       intro ls ys h
       obtain⟨t1,t2⟩:=t
       cases ls with
       |nil=>simp[oF,dI]at h
       | cons x ls =>
        simp only[oF,aC,Sbt,aH,Option.some.injEq]at h
        obtain⟨y,-,r,h4,rfl⟩:=h
        simp[ihc h4]
     rw[Sby,hc h1,ih h2]
     simp only[gP,cond_false]
  exact hln hold
 have hrep:cZ s.results+gP s.boxes-olds.length=cZ s.results:=by omega
 rw[hrep]at hval
 obtain⟨-,hboxes⟩:=Eal hR hkn hbu hold (fun j x hj=>by
  rw[Tbl]
  refine hval _ _ ?_
  rw[Tbf (by simp),Tbq,Tb4,Tbo,hj]
  rfl) hfz
 have hdk:∀ k c,(k,c)∈Cbt o g rs->∃ d,o.dst=some d/\k=kT d/\c=.slot (Hbg g (Fa3 g rs)) (Fa3 g rs):=fun k c hc=>by
  rw[Gaz]at hc
  exact Cax hc
 have hnr:∀ k c,(k,c)∈Cbt o g rs++bu->∀ r,k≠kR r:=by
  intro k c hc r
  rcases List.mem_append.1 hc with hc|hc
  ·obtain⟨d,-,e,-⟩:=hdk _ _ hc
   rw[e];exact kU
  ·obtain⟨c0,ls0,ls,e,-⟩:=hboxes _ _ hc
   rw[e];exact iX
 have hfr:=Fr.nonroot σ G w (Cbt o g rs++bu) hnr
 refine hR.upd _ hfr (by rw[Fa7];exact hR.tmps) (by rw[put_defers];exact hR.defers) hR.frame (fun t ht=>?_) (fun _ _ _ _ _=>⟨rfl,rfl⟩) (fun b ls hb hlt ho=>?_) (fun k c hc hc'=>?_)
 ·rw[Gaz]at ht
  exact Jaz ht
 ·rcases List.mem_append.1 hb with hb|hb
  ·obtain⟨d,-,e,-⟩:=hdk _ _ hb
   exact absurd e.symm rO
  ·obtain⟨c0,ls0,ls',e,h1,h2,h3,-⟩:=hboxes _ _ hb
   obtain rfl:=Ia6 e
   injection h2 with e1 e2
   rw[hR.rng b ls0 h1 hlt ho,e2,h3]
 ·rcases List.mem_append.1 hc with hc|hc
  ·obtain⟨d,hd',rfl,rfl⟩:=hdk _ _ hc
   refine⟨d,rfl,fun hgo=>?_⟩
   rw[hd',uK _ _ _ _ _ (hd d hd') hR.tmps]
   have hrs:(lV true Z.deps nb y0 nr s.results).1=rs:=by rw[hres]
   cases g with
   |none=>simp[gOn]at hg
   | some z =>
    refine Db5 hg hrs (fun hpos=>?_) hgo
    have:=hval 0 .undef (by
     rw[Tbj (by simp;omega)]
     rw[Uby,if_pos (by omega)])
    rwa[Tbs]at this
  ·obtain⟨c0,ls0,ls,rfl,h1,rfl,h3,h4⟩:=hboxes _ _ hc
   obtain⟨h5,h6,h7⟩:=hR.box h1
   refine⟨c0,rfl,h5,h6,fun j l hj=>?_⟩
   have hlt:j<ls0.length:=by rw[<- h3];exact (List.getElem?_eq_some_iff.1 hj).1
   obtain⟨v,h8,h9,h10⟩:=h7 j _ (Sb0 hlt)
   exact⟨v,h8,h9,h4 _ hfr j l _ v hj (Sb0 hlt) h10⟩
end
end Go.Proofs.YtpgnlmfmlffjcaaGreat.Rf

namespace Go.Proofs.YtpgnlmfmlffjcaaGreat.Rf
set_option linter.unusedVariables false
set_option linter.unusedSimpArgs false
section
variable {P:Program} {E:Env} {F:cB} {σ:Nat->Option aW} {ρ:List D} {a:Act} {w:World} {G:Gh} {g:Option (aO×Bool)} {o:Oper}
theorem Sal:∀ {vs:List SV} {us:List Value},vs.length=us.length->(∀ (i:Nat) (v:SV) (u:Value),vs[i]?=some v->us[i]?=some u->eB σ ρ G w v u)->yI σ ρ G w vs us
 |[],[],_,_=>rfl
 |[],_::_,h,_=>by simp at h
 |_::_,[],h,_=>by simp at h
 |v::vs,u::us,h,hr=>⟨u,us,rfl,hr 0 v u rfl rfl,Sal (by simpa using h) fun i v' u' hv hu=>hr (i+1) v' u' (by simpa using hv) (by simpa using hu)⟩
theorem Fao:∀ {vs vs':List SV} {us us':List Value},yI σ ρ G w vs us->yI σ ρ G w vs' us'->yI σ ρ G w (vs++vs') (us++us')
 |[],vs',us,us',h,h'=>by simp only[yI]at h;subst h;exact h'
 | v :: vs, vs', us, us', h, h' => by
  obtain⟨u,us2,rfl,h1,h2⟩:=h
  exact⟨u,us2++us',rfl,h1,Fao h2 h'⟩
theorem Kau:∀ {ls:List aZ} {vs:List Value},aK σ ρ G w ls vs->yI σ ρ G w (ls.map SV.one) vs
 |[],vs,h=>by simp only[aK]at h;subst h;rfl
 | l :: ls, vs, h => by
  simp only[aK]at h
  obtain⟨u,us,rfl,h1,h2⟩:=h
  exact⟨u,us,rfl,h1,Kau h2⟩
theorem Hbf {f:Operand}{args:Array Operand}{argTypes:Array TypeId}(ho:o.op=.call { callee:=.value f,args,argTypes }){fn:Nat}{vs:List Value}(hf:a.eval f=.func (.func fn) #[] vs.toArray) :
  (execOp a.eval o).run P w=(callFunc fn (args.toList.map a.eval++vs).toArray).run P w:=by
 unfold execOp
 simp only[ho,resolve,hf,Deferred.ofValue,invoke,Sem.run_bind,Sem.run_pure,Result.andThen_ok]
 congr 2
 apply Array.ext'
 simp
theorem Ibk {X:(Nat->Ow)->World->Prop}{T:Nat->Ent}{n:Nat}(hst:Stable X)(hX:X F.own0 F.w0)(hc:∀ key s,(key,s)∈E.sigs->Hah P X T n key s):Eap P E F (mX T n):=by
 intro σ ρ a w G g o Q mv mvs nv nb nr res f args argTypes hR hd hf ho h hkey hst0
 simp only[vT,ho,aC,Sbt]at h
 obtain⟨l,h1,h⟩:=h
 split at h
 case h_2=>cases h
 rename_i fn caps
 simp only[aC,Sbt]at h
 obtain⟨vs0,h2,h⟩:=h
 unfold Ib2 at h
 split at h
 ·cases h
 rename_i key s hsig
 obtain⟨hmem,hfn⟩:=Mad hsig
 simp only[aC,Sbt,aP]at h
 obtain⟨T1,hT,Z,hZ,_,hgd,h⟩:=h
 split at hgd
 case isFalse=>cases hgd
 rename_i hb
 simp only[Sbu,Bool.or_eq_true,Ubf,List.isEmpty_iff,Tbv]at hb
 obtain⟨⟨hok,hbx1⟩,hgd⟩:=hb
 have hk:=Va9 hok
 obtain⟨bu,hbu,⟨ml,mu⟩,hmu,olds,hold,h⟩:=h
 simp only[aH,Option.some.injEq]at h
 subst h
 dsimp only at hkey hst0 ⊢
 generalize hres:lV (!noG g) Z.deps nb (nv+bZ Z.lets) nr s.results=res at hkey hst0 hbu ⊢
 obtain⟨rs,us,nr1⟩:=res
 dsimp only at hkey hst hbu hmu ⊢
 refine⟨fun hg=>?_,fun hg=>?_⟩
 ·
  obtain⟨hst1,hml⟩:=aR.append hst0
  obtain⟨hst2,hchk⟩:=aR.append hst1
  obtain⟨hst3,hcall⟩:=aR.append hst2
  obtain⟨ds,hrun,hlen,hval⟩:=hcall.1.1 hg
  have hn:nv+bZ (Z.lets++[Step.call key Z.xs (cZ s.results+(Z.rts.filter Bai).length+gP s.boxes) olds]++(bif Z.deps.isEmpty then [] else Fb5 (nv+bZ Z.lets) s.results++Fb6 (nv+bZ Z.lets+cZ s.results) Z.rts++Cbw (nv+bZ Z.lets+cZ s.results+(Z.rts.filter Bai).length) s.boxes))=nv+bZ Z.lets+(cZ s.results+(Z.rts.filter Bai).length+gP s.boxes):=by
   have e0:bZ (bif Z.deps.isEmpty then [] else Fb5 (nv+bZ Z.lets) s.results++Fb6 (nv+bZ Z.lets+cZ s.results) Z.rts++Cbw (nv+bZ Z.lets+cZ s.results+(Z.rts.filter Bai).length) s.boxes)=0:=by
    cases Z.deps.isEmpty with
    |true=>rfl
    |false=>simp only[cond_false,iF,Lbt,Lbu,Lbw]
   rw[iF,iF,e0]
   simp only[kP,Step.n]
   show nv+(bZ Z.lets+(_+bZ [])+0)=_
   have:bZ ([]:List Step)=0:=rfl
   omega
  rw[hn]at hml
  have hv1:=iP hR hg h1
  simp only[aD]at hv1
  obtain⟨cvs,hcv,hcl⟩:=hv1
  obtain⟨hl1,hl2⟩:=Cag hR hg h2
  have hus:yI σ ρ G w (vs0++caps.map SV.one) (args.toList.map a.eval++cvs):=by
   refine Fao (Sal (by rw[hl1];simp) fun i v u hv hu=>?_) (Kau hcl)
   rw[Tbo,Tbd]at hu
   obtain⟨x,hx,rfl⟩:=hu
   exact hl2 i v x hv hx
  have hpre:=Ibl hR hg hst3 hk hT hZ hus
  have hXc:X (callG ρ G w s Z).own w:=hst _ _ _ _ hR.frame.size (fun b hb he=>by
   have hkp:=hR.frame.keep b hb (.inl he)
   exact⟨hkp.1,vJ (hkp.2.trans he)⟩) hX
  have hgo:=hc key s hmem _ w _ _ ds hpre hXc hrun
  have hchk':Z.deps=[]\/Vat ρ (Fb5 (nv+bZ Z.lets) s.results++Fb6 (nv+bZ Z.lets+cZ s.results) Z.rts++Cbw (nv+bZ Z.lets+cZ s.results+(Z.rts.filter Bai).length) s.boxes):=by
   cases hde:Z.deps.isEmpty with
   |true=>exact .inl (by simpa using hde)
   | false =>
    rw[hde,cond_false]at hchk
    exact .inr (Ab5 hg hchk)
  have hgd':noG g=true\/(oL s.results=0/\∃ olds,(kZ Z.ptrs 0 s.boxes).eval σ=some olds):=by
   cases g with
   |none=>exact .inl rfl
   |some z=>exact .inr ⟨(hgd.resolve_left (by simp[noG])).2,olds,hold⟩
  have hnx:∀ v w',Ra3 s (vK s (callG ρ G w s Z) w) (callG ρ G w s Z).bx v w' ds->Nx E.ntmps F σ ρ (Cbt o g rs++(us++bu++mu++jL Z.rts)) (a.put o.dst v) w':=by
   intro v w' hpost
   exact Gbb hR hg hd hf hus hT hZ hk hbx1 hgd' hres hbu hmu hlen hval hchk' hml hkey hpost
  unfold Oper.wp
  rw[Hbf ho hcv,<- hfn]
  rcases hgo with ⟨hr,hcalls⟩|⟨v,w',hr,hpost⟩
  ·rw[hr,Oper.upon_enter]
   refine Calls.mono hcalls fun e w' he=>?_
   cases e with
   |returned v=>exact hnx v w' he
   |panicked c=>exact he.elim
   |outgrown=>exact he.elim
  ·rw[hr,Oper.upon_value]
   exact hnx v w' hpost
 ·
  have hgn:noG g=false:=by
   cases g with
   |none=>simp[gOn]at hg
   |some z=>rfl
  have h5:=hgd.resolve_left (by rw[hgn];simp)
  obtain⟨hrts,hbx0⟩:=h5
  have hmu0:mu=[]:=by
   rw[hrts]at hmu
   simp only[Daj,aH,Option.some.injEq,Prod.mk.injEq]at hmu
   exact hmu.2.symm
  have hgo0:jL Z.rts=[]:=by rw[hrts];rfl
  have hf0:(Z.rts.filter Bai).length=0:=by rw[hrts];rfl
  obtain⟨hst1,hml⟩:=aR.append hst0
  obtain⟨hst2,hchk⟩:=aR.append hst1
  obtain⟨hst3,hcall⟩:=aR.append hst2
  have hval:=hcall.1.2 hg
  rw[hf0,Tbs]at hval hbu
  have hold':(kZ Z.ptrs 0 s.boxes).eval σ=some olds:=by
   cases g with
   |none=>cases hgn
   |some z=>exact hold
  have hdeps:∀ z∈Z.deps,Qak σ z.1 z.2:=by
   obtain⟨rn,hn1,-,-⟩:=Aan (E:=E) (F:=F) (ρ:=ρ) (a:=a) (w:=w) (G:=G) False (fun h=>h.elim) hT (fun h=>h.elim)
   obtain⟨rn',hn4,-⟩:=yN (ρ:=ρ) (G:=G) (w:=w) hZ
   intro z hz
   rcases (hn1.trans hn4).deps z hz with h|h
   ·simp[Take.empty]at h
   ·exact h
  rw[hgn]at hres
  have:=Ibm hR hg hd hdeps hrts hbx0 hZ hold' hres hgn hbu hval
  refine⟨G,?_⟩
  show R E.ntmps F (upds σ (Cbt o g rs++(us++bu++mu++jL Z.rts))) ρ _ w G
  rw[hmu0,hgo0,Tbb,Tbb]
  exact this
end
end Go.Proofs.YtpgnlmfmlffjcaaGreat.Rf

namespace Go.Proofs.YtpgnlmfmlffjcaaGreat.Rf
set_option linter.unusedVariables false
set_option linter.unusedSimpArgs false
def Cb3 (P:Program)(s:Sig)(e:List D->Option (List D)):Prop :=
 ∀ vals w G ds ds',Gbq s vals w G ds->e ds=some ds'->Goes P s.fn vals.toArray w fun v w'=>Ra3 s (vK s G w) G.bx v w' ds'
def Nae (P:Program)(T:Nat->Ent)(ti:Nat->Option TI)(sigs:List (Nat×Sig))(key:Nat)(s:Sig):Prop :=
 (∃ (E : Env) (fn : Func) (tm : Tm Unit), E.ti = ti /\ E.sigs = sigs /\ P.funcs[s.fn]? = some fn /\ (fn.name == "runtime.NumGoroutine") = false /\ Bbz E s fn = some tm /\ T key = .tm tm) \/ ∃ e, T key = .ext e /\ Cb3 P s e
def Qbk (P:Program)(X:(Nat->Ow)->World->Prop)(s:Sig)(e:List D->Option (List D)):Prop :=
 ∀ vals w G ds ds',Gbq s vals w G ds->X G.own w->e ds=some ds'->Goes P s.fn vals.toArray w fun v w'=>Ra3 s (vK s G w) G.bx v w' ds'
def Qbj (P:Program)(X:(Nat->Ow)->World->Prop)(T:Nat->Ent)(ti:Nat->Option TI)(sigs:List (Nat×Sig))(key:Nat)(s:Sig):Prop :=
 (∃ (E : Env) (fn : Func) (tm : Tm Unit), E.ti = ti /\ E.sigs = sigs /\ P.funcs[s.fn]? = some fn /\ (fn.name == "runtime.NumGoroutine") = false /\ Bbz E s fn = some tm /\ T key = .tm tm) \/ ∃ e, T key = .ext e /\ Qbk P X s e
theorem Nae.toX {P:Program}{X:(Nat->Ow)->World->Prop}{T:Nat->Ent}{ti:Nat->Option TI}{sigs:List (Nat×Sig)}{key:Nat}{s:Sig}(h:Nae P T ti sigs key s):Qbj P X T ti sigs key s:=by
 rcases h with h|⟨e,h1,h2⟩
 ·exact .inl h
 ·exact .inr ⟨e,h1,fun vals w G ds ds' hp _ he=>h2 vals w G ds ds' hp he⟩
theorem Cbv {P:Program}{X:(Nat->Ow)->World->Prop}{T:Nat->Ent}{ti:Nat->Option TI}{sigs:List (Nat×Sig)}(hst:Stable X)(hti:Aaj P ti)(hm:P.follows .mixedOrders=true)(H:∀ key s,(key,s)∈sigs->Qbj P X T ti sigs key s) :
  ∀ n key s,(key,s)∈sigs->Hah P X T n key s:=by
 intro n
 induction n with
 | zero =>
  intro key s _ vals w G ds ds' _ _ h
  cases h
 | succ n ih =>
  intro key s hmem
  rcases H key s hmem with ⟨E,fn,tm,rfl,rfl,h1,h2,h3,h4⟩|⟨e,h1,h2⟩
  ·exact Qa2 hti hm h1 h2 h3 h4 fun F hX=>Ibk hst hX fun key s h=>ih key s h
  ·intro vals w G ds ds' hpre hX hrun
   simp only[mX,h1]at hrun
   exact h2 vals w G ds ds' hpre hX hrun
theorem contracts {P:Program}{T:Nat->Ent}{ti:Nat->Option TI}{sigs:List (Nat×Sig)}(hti:Aaj P ti)(hm:P.follows .mixedOrders=true)(H:∀ key s,(key,s)∈sigs->Nae P T ti sigs key s) :
  ∀ n key s,(key,s)∈sigs->qM P T n key s :=
 fun n key s hmem vals w G ds ds' hpre hrun=>Cbv (X:=fun _ _=>True) (fun _ _ _ _ _ _ _=>trivial) hti hm (fun key s h=>(H key s h).toX) n key s hmem vals w G ds ds' hpre trivial hrun
inductive Ty where
 |int (k:IntKind)
 |bool
 |str
 |sl (bytes:Nat) (row:List Ty)
mutual
def WT:Ty->D->Prop
 |.int k,d=>∃ n,d=.int k n/\k.min<=n/\n<=k.max
 |.bool,d=>∃ b,d=.bool b
 |.str,d=>∃ s,d=.str s/\s.length<=reachBytes
 |.sl bytes row,d=>∃ rs,d=.rows row.length rs/\rs.length*bytes<=reachBytes/\∀ r∈rs,WTs row r
def WTs:List Ty->List D->Prop
 |[],ds=>ds=[]
 |t::ts,ds=>∃ d ds',ds=d::ds'/\WT t d/\WTs ts ds'
end
def Dbc (P:Program)(rec:TypeId->Option (List Ty)):Nat->List Field->Option (List Ty)
 |_,[]=>some []
 | off, f :: fs => match rec f.type with
  |some r=>bif Nat.beq f.offset off&&Nat.beq r.length (P.cellsOf f.type) then (Dbc P rec (off+r.length) fs).map (r++·) else none
  |none=>none
def Nai (P:Program):Nat->TypeId->Option (List Ty)
 |0,_=>none
 | n + 1, t => match P.underlying t with
  |some .bool=>some [.bool]
  |some (.int k)=>some [.int k]
  |some .string=>some [.str]
  | some (.slice e) => match Nai P n e with
   |some r=>bif Nat.beq r.length (P.cellsOf e) then some [.sl (P.bytesOf e) r] else none
   |none=>none
  | some (.struct fs) => match Dbc P (Nai P n) 0 fs.toList with
   |some r=>bif Nat.beq r.length (P.cellsOf t) then some r else none
   |none=>none
  |_=>none
def lU (w:World):List Ty->List Value->List D->Prop
 |[],cs,ds=>cs=[]/\ds=[]
 |t::ts,cs,ds=>∃ c cs' d ds',cs=c::cs'/\ds=d::ds'/\Rd (fun _=>True) w c d/\WT t d/\lU w ts cs' ds'
theorem lU.append {w:World}:∀ {ts ts':List Ty} {cs cs':List Value} {ds ds':List D},lU w ts cs ds->lU w ts' cs' ds'->lU w (ts++ts') (cs++cs') (ds++ds')
 | [], ts', cs, cs', ds, ds', h, h' => by
  obtain⟨rfl,rfl⟩:=h
  exact h'
 | t :: ts, ts', cs, cs', ds, ds', h, h' => by
  obtain⟨c,c1,d,d1,rfl,rfl,h1,h2,h3⟩:=h
  exact⟨c,c1++cs',d,d1++ds',rfl,rfl,h1,h2,h3.append h'⟩
theorem lU.len {w:World}:∀ {ts:List Ty} {cs:List Value} {ds:List D},lU w ts cs ds->cs.length=ts.length/\ds.length=ts.length
 |[],cs,ds,h=>by obtain⟨rfl,rfl⟩:=h;exact⟨rfl,rfl⟩
 | t :: ts, cs, ds, h => by
  obtain⟨c,c1,d,d1,rfl,rfl,h1,h2,h3⟩:=h
  obtain⟨h4,h5⟩:=h3.len
  simp[h4,h5]
theorem lU.get {w:World}:∀ {ts:List Ty} {cs:List Value} {ds:List D},lU w ts cs ds->∀ {j:Nat} {d:D},ds[j]?=some d->∃ c,cs[j]?=some c/\Rd (fun _=>True) w c d
 |[],cs,ds,h,j,d,hj=>by obtain⟨rfl,rfl⟩:=h;simp at hj
 | t :: ts, cs, ds, h, j, d, hj => by
  obtain⟨c,c1,d',d1,rfl,rfl,h1,h2,h3⟩:=h
  cases j with
  | zero =>
   simp only[Sb8,Option.some.injEq]at hj
   subst hj
   exact⟨c,rfl,h1⟩
  | succ j =>
   obtain⟨c',h4,h5⟩:=h3.get (j:=j) (by simpa using hj)
   exact⟨c',by simpa using h4,h5⟩
theorem lU.wts {w:World}:∀ {ts:List Ty} {cs:List Value} {ds:List D},lU w ts cs ds->WTs ts ds
 |[],cs,ds,h=>by obtain⟨rfl,rfl⟩:=h;simp[WTs]
 | t :: ts, cs, ds, h => by
  obtain⟨c,c1,d',d1,rfl,rfl,h1,h2,h3⟩:=h
  simp only[WTs]
  exact⟨d',d1,rfl,h2,h3.wts⟩
theorem Lag {α β:Type}{f:α->Option β}:∀ {l:List α} {ys:List β},l.mapM f=some ys->ys.length=l.length/\∀ (i:Nat) (x:α),l[i]?=some x->∃ y,ys[i]?=some y/\f x=some y
 | [], ys, h => by
  simp at h
  subst h
  simp
 | x :: l, ys, h => by
  simp only[List.mapM_cons,bind,Sbt,pure,Option.some.injEq]at h
  obtain⟨y,h1,ys',h2,rfl⟩:=h
  obtain⟨h3,h4⟩:=Lag h2
  refine⟨by simp[h3],fun i z hz=>?_⟩
  cases i with
  | zero =>
   simp only[Sb8,Option.some.injEq]at hz
   subst hz
   exact⟨y,rfl,h1⟩
  | succ i =>
   obtain⟨y',h5,h6⟩:=h4 i z (by simpa using hz)
   exact⟨y',by simpa using h5,h6⟩
theorem Qam {β:Type}{p:Nat->β->Prop}:∀ (n:Nat),(∀ i,i<n->∃ y,p i y)->∃ l:List β,l.length=n/\∀ i y,l[i]?=some y->p i y
 |0,_=>⟨[],rfl,by simp⟩
 | n + 1, h => by
  obtain⟨l,h1,h2⟩:=Qam n fun i hi=>h i (by omega)
  obtain⟨y,hy⟩:=h n (by omega)
  refine⟨l++[y],by simp[h1],fun i z hz=>?_⟩
  rcases Nat.lt_trichotomy i n with hi|hi|hi
  ·rw[Tbj (by omega)]at hz
   exact h2 i z hz
  ·subst hi
   rw[Tbf (by omega),h1,Nat.sub_self]at hz
   simp only[Sb8,Option.some.injEq]at hz
   subst hz
   exact hy
  ·have:=(List.getElem?_eq_some_iff.1 hz).1
   simp[h1]at this
   omega
theorem Ca9 {H:Type}{P:Program}{e:TypeId}:∀ {l:List (DataW H)} {d:DataW H},d∈l->∀ n∈d.weights P e,n∈DataW.weightsAll P e l
 |[],d,h,_,_=>by simp at h
 | x :: l, d, h, n, hn => by
  simp only[DataW.weightsAll,Vbs]
  rcases List.mem_cons.1 h with rfl|h
  ·exact .inl hn
  ·exact .inr (Ca9 h n hn)
theorem zZ {H:Type}{P:Program}{t:TypeId}{ts:List TypeId}{d:DataW H}{ds:List (DataW H)}:DataW.weightsEach P (t::ts) (d::ds)=d.weights P t++DataW.weightsEach P ts ds:=by
 simp only[DataW.weightsEach]
theorem Kap {P:Program}{w:World}{H:Type}{cs:List Value}{f:Field->List Value->Option (DataW H×List MemPlace)}{rec:TypeId->Option (List Ty)}
  (hrec:∀ (fd:Field) (r:List Ty) (l:List Value) (y:DataW H×List MemPlace),rec fd.type=some r->f fd l=some y->(∀ m∈y.1.weights P fd.type,m<=reachBytes)->∃ ds,lU w r l ds) :
  ∀ {fs:List Field} {off:Nat} {tys:List Ty} {xs:List (DataW H×List MemPlace)},Dbc P rec off fs=some tys->fs.mapM (fun fd=>f fd ((cs.drop fd.offset).take (P.cellsOf fd.type)))=some xs ->
  (∀ m∈DataW.weightsEach P (fs.map (·.type)) (xs.map (·.1)),m<=reachBytes)->cs.length=off+tys.length->∃ ds,lU w tys (cs.drop off) ds
 | [], off, tys, xs, h, _, _, hl => by
  simp only[Dbc,Option.some.injEq]at h
  subst h
  refine⟨[],?_,rfl⟩
  rw[List.drop_eq_nil_iff]
  simp only[List.length_nil]at hl
  omega
 | fd :: fs, off, tys, xs, h, hm, hw, hl => by
  simp only[Dbc]at h
  split at h
  case h_2=>cases h
  rename_i r hr
  cases hb:(Nat.beq fd.offset off&&Nat.beq r.length (P.cellsOf fd.type)) with
  |false=>rw[hb]at h;cases h
  | true =>
   rw[hb,cond_true,Tbd]at h
   obtain⟨tys',h1,rfl⟩:=h
   simp only[Sbu,Tbv]at hb
   obtain⟨rfl,hcl⟩:=hb
   simp only[List.mapM_cons,bind,Sbt,pure,Option.some.injEq]at hm
   obtain⟨y,h2,ys,h3,rfl⟩:=hm
   simp only[Tbn,zZ,Vbs]at hw
   obtain⟨ds,h4⟩:=hrec fd r _ y hr h2 fun m hm=>hw m (.inl hm)
   rw[Sby]at hl
   obtain⟨ds',h5⟩:=Kap hrec (off:=fd.offset+r.length) h1 h3 (fun m hm=>hw m (.inr hm)) (by omega)
   refine⟨ds++ds',?_⟩
   have:=h4.append h5
   rw[<- hcl]at this
   have e:List.take r.length (List.drop fd.offset cs)++List.drop (fd.offset+r.length) cs=List.drop fd.offset cs:=by
    rw[<- List.drop_drop,List.take_append_drop]
   rw[e]at this
   exact this
theorem Haj {P:Program}{H:Type}{enc:TypeId×Value->H}{w:World}{sp:Nat->Bool}{held:Bool}:∀ (n fuel:Nat) {t:TypeId} {cs:List Value} {x:DataW H} {ps:List MemPlace} {tys:List Ty},Nai P n t=some tys->DataW.trod enc P w 0 sp held fuel t cs=some (x,ps) ->
  (∀ m∈x.weights P t,m<=reachBytes)->∃ ds,lU w tys cs ds
 |0,_,t,cs,x,ps,tys,h,_,_=>by simp[Nai]at h
 |n+1,0,t,cs,x,ps,tys,_,h,_=>by simp[DataW.trod]at h
 | n + 1, fuel + 1, t, cs, x, ps, tys, ht, h, hw => by
  simp only[Nai]at ht
  unfold DataW.trod at h
  split at ht
  ·
   rename_i hu
   rw[hu]at h
   simp only[Option.some.injEq]at ht
   subst ht
   split at h<;>rename_i heq<;>first|(cases heq;done)|skip
   all_goals first|(injection heq with heq;cases heq;done)|skip
   ·exact⟨_,_,[],_,[],rfl,rfl,.sc (.bool _),⟨_,rfl⟩,rfl,rfl⟩
   ·cases h
  ·
   rename_i k hu
   rw[hu]at h
   simp only[Option.some.injEq]at ht
   subst ht
   split at h<;>rename_i heq<;>first|(cases heq;done)|skip
   all_goals first|(injection heq with heq;cases heq;done)|skip
   ·rename_i k0 k' m
    injection heq with heq
    injection heq with heq
    subst heq
    split at h
    ·rename_i hc
     obtain⟨rfl,hwf⟩:=hc
     simp only[Lit.wf,Sbu,decide_eq_true_eq]at hwf
     exact⟨_,_,[],_,[],rfl,rfl,.sc (.int _ _),⟨_,rfl,hwf.1,hwf.2⟩,rfl,rfl⟩
    ·cases h
   ·cases h
  ·
   rename_i hu
   rw[hu]at h
   simp only[Option.some.injEq]at ht
   subst ht
   split at h<;>rename_i heq<;>first|(cases heq;done)|skip
   all_goals first|(injection heq with heq;cases heq;done)|skip
   ·rename_i s0
    split at h
    ·simp only[Option.some.injEq,Prod.mk.injEq]at h
     obtain⟨rfl,rfl⟩:=h
     refine⟨_,_,[],_,[],rfl,rfl,.sc (.str s0.data.toList),⟨_,rfl,hw _ ?_⟩,rfl,rfl⟩
     simp only[DataW.weights,Sb9]
    ·cases h
   ·cases h
  ·
   rename_i e hu
   split at ht
   case h_2=>cases ht
   rename_i r hr
   cases hb:Nat.beq r.length (P.cellsOf e) with
   |false=>rw[hb]at ht;cases ht
   | true =>
    rw[hb,cond_true]at ht
    simp only[Option.some.injEq]at ht
    subst ht
    simp only[Tbv]at hb
    rw[hu]at h
    split at h<;>rename_i heq<;>first|(cases heq;done)|skip
    all_goals first|(injection heq with heq;cases heq;done)|skip
    ·injection heq with heq
     injection heq with heq
     subst heq
     simp only[Option.some.injEq,Prod.mk.injEq]at h
     obtain⟨rfl,rfl⟩:=h
     refine⟨_,_,[],.rows r.length [],[],rfl,rfl,.rows none ⟨0,0,none⟩ 0 0 r.length [] (fun _ _=>undef) rfl (Sb7 _) (.inl rfl) (by simp) (by simp) (by simp),⟨[],rfl,by simp,by simp⟩,rfl,rfl⟩
    ·rename_i e0 ad len cap
     injection heq with heq
     injection heq with heq
     subst heq
     dsimp only at h
     split at h
     case isFalse=>cases h
     rename_i hc
     simp only[Sbt,Tbd,Prod.mk.injEq]at h
     obtain⟨elems,h1,rest,h2,rfl,rfl⟩:=h
     obtain⟨h3,h4⟩:=Lag h1
     rw[List.length_range]at h3
     simp only[DataW.weights,hu,Tb7,Vbs]at hw
     have hrow:∀ i,i<len->∃ ds:List D,∃ cs:List Value,(∀ j c,cs[j]?=some c->w.cell? (ad.add (i*r.length+j))=some c)/\lU w r cs ds:=by
      intro i hi
      obtain⟨y,h5,h6⟩:=h4 i i (by rw[Wbn hi])
      simp only[Sbt]at h6
      obtain⟨cs,h7,h8⟩:=h6
      obtain⟨x,ps⟩:=y
      obtain⟨ds,h9⟩:=Haj n fuel hr h8 fun m hm=>hw m (.inr (.inl (Ca9 (List.mem_map.2 ⟨_,Tbg h5,rfl⟩) m hm)))
      refine⟨ds,cs,fun j c hj=>?_,h9⟩
      unfold World.cells? at h7
      split at h7
      ·obtain⟨h10,h11⟩:=Lag h7
       have hjl:=(List.getElem?_eq_some_iff.1 hj).1
       rw[h10,List.length_range]at hjl
       obtain⟨c',h12,h13⟩:=h11 j j (by rw[Wbn hjl])
       rw[hj]at h12
       obtain rfl:=Option.some.inj h12
       rw[add_add,<- hb]at h13
       exact h13
      ·cases h7
     obtain⟨rs,h5,h6⟩:=Qam len hrow
     have hex:∀ i,∃ cs:List Value,∀ ds,rs[i]?=some ds->(∀ j c,cs[j]?=some c->w.cell? (ad.add (i*r.length+j))=some c)/\lU w r cs ds:=by
      intro i
      cases hi:rs[i]? with
      |none=>exact⟨[],fun ds h=>by cases h⟩
      | some ds =>
       obtain⟨cs,h7,h8⟩:=h6 i ds hi
       exact⟨cs,fun ds' h=>by obtain rfl:=Option.some.inj h;exact⟨h7,h8⟩⟩
     have hch:∃ cf:Nat->List Value,∀ i ds,rs[i]?=some ds->(∀ j c,(cf i)[j]?=some c->w.cell? (ad.add (i*r.length+j))=some c)/\lU w r (cf i) ds:=⟨fun i=>(hex i).choose,fun i=>(hex i).choose_spec⟩
     obtain⟨cf,hcf⟩:=hch
     have hlen:∀ row∈rs,row.length=r.length:=fun row hrow=>by
      obtain⟨i,hi⟩:=List.mem_iff_getElem?.1 hrow
      exact ((hcf i row hi).2.len).2
     refine⟨[.rows r.length rs],_,[],_,[],rfl,rfl,?_,⟨rs,rfl,?_,fun row hrow=>?_⟩,rfl,rfl⟩
     ·refine .rows _ ad len cap r.length rs (fun i j=>((cf i)[j]?).getD undef) h5 hc.2.1 (.inr rfl) hlen (fun i row hi j d hj=>?_) (fun i row hi j d hj=>?_)
      ·obtain⟨c,h7,h8⟩:=(hcf i row hi).2.get hj
       refine⟨trivial,?_⟩
       rw[(hcf i row hi).1 j c h7,h7]
       rfl
      ·obtain⟨c,h7,h8⟩:=(hcf i row hi).2.get hj
       rw[h7]
       exact h8
     ·have:=hw _ (.inl rfl)
      rw[Sb5,Sb5,h3]at this
      rw[h5]
      exact Nat.le_trans (Nat.mul_le_mul_right _ (Nat.le_add_right ..)) this
     ·obtain⟨i,hi⟩:=List.mem_iff_getElem?.1 hrow
      exact (hcf i row hi).2.wts
    ·cases h
  ·
   rename_i fs hu
   split at ht
   case h_2=>cases ht
   rename_i r hr
   cases hb:Nat.beq r.length (P.cellsOf t) with
   |false=>rw[hb]at ht;cases ht
   | true =>
    rw[hb,cond_true]at ht
    simp only[Option.some.injEq]at ht
    subst ht
    simp only[Tbv]at hb
    rw[hu]at h
    split at h<;>rename_i heq<;>first|(cases heq;done)|skip
    all_goals first|(injection heq with heq;cases heq;done)|skip
    ·rename_i cs0 x0 cs1 fs2
     injection heq with heq
     injection heq with heq
     subst heq
     split at h
     case isFalse=>cases h
     rename_i hc
     simp only[Tbd,Prod.mk.injEq]at h
     obtain⟨xs,h1,rfl,rfl⟩:=h
     simp only[DataW.weights,hu]at hw
     obtain⟨ds,h2⟩:=Kap (w:=w) (cs:=cs0) (f:=fun fd l=>DataW.trod enc P w 0 sp held fuel fd.type l) (rec:=Nai P n)
      (fun fd r l y hr' hy hw'=>Haj n fuel hr' (x:=y.1) (ps:=y.2) hy hw') hr h1 hw (by omega)
     exact⟨ds,by simpa using h2⟩
    ·exact ((by assumption:∀ (fs_1:Array Field),some (TypeDesc.struct fs)=some (TypeDesc.struct fs_1)->False) fs rfl).elim
  ·cases ht
end Go.Proofs.YtpgnlmfmlffjcaaGreat.Rf

namespace Go.Proofs.YtpgnlmfmlffjcaaGreat.Rf
open Go.ChangeShapes Go.RowKit
set_option linter.unusedVariables false
set_option linter.unusedSimpArgs false
def Ebq:Ty->LS
 |.sl _ _=>.fz false
 |_=>.sc
def Nbv (P:Program)(t:TypeId):Bool:=match P.underlying t with
 |some (.struct _)=>true
 |_=>false
def uX (P:Program):List TypeId->Option (List (Bool×List LS)×List Ty)
 |[]=>some ([],[])
 | t :: ts => match Nai P 12 t, uX P ts with
  |some r,some (ps,tys)=>some ((Nbv P t,r.map Ebq)::ps,r++tys)
  |_,_=>none
def Qbx:Gh:=⟨fun _=>.frz,fun _=>undef,fun _=>⟨0,0,none⟩⟩
theorem Fb4:∀ (tys:List Ty),Cb8 (tys.map Ebq)=tys.length/\nN (tys.map Ebq)=0
 |[]=>⟨rfl,rfl⟩
 | t :: tys => by
  obtain⟨h1,h2⟩:=Fb4 tys
  cases t<;>simp[Cb8,nN,Ebq,LS.cnt,LS.rcnt,h1,h2]<;>omega
theorem Jag {w:World}{ρ:List D}:∀ {tys:List Ty} {cs:List Value} {ds:List D} {i:Nat},lU w tys cs ds->(∀ j d,ds[j]?=some d->(aO.v (i+j)).val ρ=d)->yJ Qbx w ρ 0 i 0 (tys.map Ebq) cs
 |[],cs,ds,i,h,_=>by obtain⟨rfl,rfl⟩:=h;rfl
 | t :: tys, cs, ds, i, h, hv => by
  obtain⟨c,cs',d,ds',rfl,rfl,h1,h2,h3⟩:=h
  have hv0:(aO.v i).val ρ=d:=by have:=hv 0 d rfl;rwa[Tbs]at this
  have hr:(Ebq t).rcnt=0:=by cases t<;>rfl
  have hc:(Ebq t).cnt=1:=by cases t<;>rfl
  refine⟨c,cs',rfl,?_,?_⟩
  ·cases t with
   | int k =>
    obtain⟨n,rfl,-⟩:=h2
    simp only[Ebq,oO,hv0]
    exact h1.sc_inv rfl
   | bool =>
    obtain⟨n,rfl⟩:=h2
    simp only[Ebq,oO,hv0]
    exact h1.sc_inv rfl
   | str =>
    obtain⟨n,rfl,-⟩:=h2
    simp only[Ebq,oO,hv0]
    exact h1.sc_inv rfl
   | sl bytes row =>
    simp only[Ebq,oO,hv0]
    exact⟨h1.mono fun b _=>⟨rfl,rfl⟩,fun e=>absurd e (by decide)⟩
  ·rw[hr,hc]
   refine Jag (i:=i+1) h3 fun j d' hj=>?_
   have:=hv (j+1) d' (by simpa using hj)
   rwa[show i+(j+1)=i+1+j by omega]at this
theorem Uab {P:Program}{W:World}{base:Nat}{n:Nat}{t:TypeId}{tys:List Ty}{v:Value}(h:Nai P n t=some tys)(hv:Value.okWide P W .any base t v):if Nbv P t=true then v=.agg v.cells.toList.toArray else v.cells.toList=[v]:=by
 cases n with
 |zero=>simp[Nai]at h
 | succ n =>
  unfold Value.okWide at hv
  unfold Nbv
  simp only[Nai]at h
  cases hu:P.underlying t with
  |none=>rw[hu]at h;cases h
  | some u =>
   rw[hu]at h hv
   cases u with
   | struct fs =>
    obtain⟨cs,rfl,-⟩:=hv
    simp[Value.cells]
   | bool =>
    simp only[Cell.okWide,Cell.ok,hu]at hv
    cases v<;>simp at hv
    simp[Value.cells]
   | int k =>
    simp only[Cell.okWide,Cell.ok,hu]at hv
    cases v<;>simp at hv
    simp[Value.cells]
   | string =>
    simp only[Cell.okWide,Cell.ok,hu]at hv
    cases v<;>simp at hv
    simp[Value.cells]
   | slice e =>
    simp only[Cell.okWide,Cell.ok,hu]at hv
    cases v<;>simp at hv
    simp[Value.cells]
   |_=>cases h
theorem Oa1 {P:Program}{H:Type}{enc:TypeId×Value->H}{W:World}{sp:Nat->Bool}{held:Bool}{base:Nat}:∀ {ts:List TypeId} {vs:List Value} {ds:List (DataW H)} {ps:List MemPlace} {sps:List (Bool×List LS)} {tys:List Ty},
  uX P ts=some (sps,tys)->DataW.TrodAll enc P W 0 sp held ts vs ds ps->(∀ (j:Nat) t v,ts[j]?=some t->vs[j]?=some v->Value.okWide P W .any base t v)->(∀ m∈DataW.weightsEach P ts ds,m<=reachBytes) ->
  ∃ dd,WTs tys dd/\dd.length=tys.length/\tys.length=Pac sps/\mH sps=0/\∀ (ρ:List D) (i:Nat),(∀ j d,dd[j]?=some d->(aO.v (i+j)).val ρ=d)->mZ Qbx W ρ 0 i 0 sps vs
 | [], vs, ds, ps, sps, tys, h, ht, _, _ => by
  simp only[uX,Option.some.injEq,Prod.mk.injEq]at h
  obtain⟨rfl,rfl⟩:=h
  cases vs with
  |cons v vs=>cases ds<;>exact ht.elim
  |nil=>exact⟨[],rfl,rfl,rfl,rfl,fun ρ i _=>rfl⟩
 | t :: ts, vs, ds, ps, sps, tys, h, ht, hv, hw => by
  simp only[uX]at h
  split at h
  case h_2=>cases h
  rename_i r sps' tys' hr hl
  simp only[Option.some.injEq,Prod.mk.injEq]at h
  obtain⟨rfl,rfl⟩:=h
  cases vs with
  |nil=>cases ds<;>exact ht.elim
  | cons v vs =>
   cases ds with
   |nil=>exact ht.elim
   | cons d ds =>
    obtain⟨p,q,⟨fuel,h1⟩,h2,rfl⟩:=ht
    rw[zZ]at hw
    obtain⟨dd,h3⟩:=Haj 12 fuel hr h1 fun m hm=>hw m (Sbz _ hm)
    obtain⟨dd',h4,h5,h6,h7,h8⟩:=Oa1 hl h2 (fun j t' v' hj hj'=>hv (j+1) t' v' (by simpa using hj) (by simpa using hj')) fun m hm=>hw m (Sb2 _ hm)
    obtain⟨hc1,hc2⟩:=Fb4 r
    obtain⟨hn1,hn2⟩:=h3.len
    refine⟨dd++dd',?_,by simp[hn2,h5],by simp only[Sby,Pac,hc1,h6],by simp only[mH,hc2,h7],fun ρ i hval=>?_⟩
    ·have:∀ {a:List Ty} {x:List D},WTs a x->WTs (a++tys') (x++dd'):=by
      intro a
      induction a with
      |nil=>intro x hx;simp only[WTs]at hx;subst hx;exact h4
      | cons t a ih =>
       intro x hx
       simp only[WTs]at hx
       obtain⟨y,ys,rfl,hy1,hy2⟩:=hx
       simp only[Ub3,WTs]
       exact⟨y,_,rfl,hy1,ih hy2⟩
     exact this h3.wts
    ·refine⟨v,vs,v.cells.toList,rfl,Jag h3 fun j d' hj=>hval j d' (by rw[Tbj (List.getElem?_eq_some_iff.1 hj).1];exact hj),Uab hr (hv 0 t v rfl rfl),?_⟩
     rw[hc1,hc2]
     refine h8 ρ (i+r.length) fun j d' hj=>?_
     rw[Tbl,<- hn2]
     exact hval _ _ (by rw[Tbf (by omega),Tb4];exact hj)
theorem Eaw {P:Program}{H:Type}{enc:TypeId×Value->H}(hl:laidOutB P=true){W W':World}(hb:Below W.heap.size W W'):∀ {ts:List TypeId} {vs:List Value} {ds:List (DataW H)} {ps:List MemPlace},(ts.all fun t=>P.readableRec t&&decide (t<P.types.size))=true ->
  DataW.TrodAll enc P W 0 (fun _=>true) true ts vs ds ps->DataW.TrodAll enc P W' 0 (fun b=>decide (b<W.heap.size)) true ts vs ds ps
 |[],[],[],ps,_,h=>h
 |[],[],_::_,ps,_,h=>h.elim
 |[],_::_,_,ps,_,h=>h.elim
 |_::_,[],_,ps,_,h=>h.elim
 |_::_,_::_,[],ps,_,h=>h.elim
 | t :: ts, v :: vs, d :: ds, ps, hr, h => by
  simp only[List.all_cons,Sbu,decide_eq_true_eq]at hr
  obtain⟨p,q,h1,h2,rfl⟩:=h
  refine⟨p,q,Below.trod hl hr.1.1 hr.1.2 h1 hb ?_,Eaw hl hb hr.2 h2,rfl⟩
  obtain⟨m,hm⟩:=h1
  exact DataW.trod_lt m _ _ _ hm
theorem Cbd {P : Program} {X : (Nat -> Ow) -> World -> Prop} {T : Nat -> Ent} {key : Nat} {s : Sig} {fn : Func} {c : Code} (hc : ∀ n, Hah P X T n key s) (hfn : P.funcs[s.fn]? = some fn) (hname : (fn.name == "runtime.NumGoroutine") = false) (hbody : fn.body = some c)
  {tys:List Ty} (hpar:uX P fn.params.toList=some (s.params,tys)) (hbx:s.boxes=[]) (hres:s.results=[(false,[.sc])]) (hpure:∀ ds,WTs tys ds->∃ n,mX T n key ds=some [.bool true])
  {H:Type} {enc:TypeId×Value->H} {W:World} {base:Nat} {args:Array Value} {ds:List (DataW H)} {ps:List MemPlace}
  (hval:∀ (j:Nat) t v,fn.params[j]?=some t->args[j]?=some v->Value.okWide P W .any base t v) (ht:DataW.TrodAll enc P W 0 (fun _=>true) true fn.params.toList args.toList ds ps)
  (hw:∀ m∈DataW.weightsEach P fn.params.toList ds,m<=reachBytes) (hX:X (fun _=>.frz) W):Calls P s.fn args W fun e W'=>e=.returned (.bool true)/\Below W.heap.size W W':=by
 obtain⟨dd,h1,h2,h3,h4,h5⟩:=Oa1 (base:=base) hpar ht (fun j t v hj hv=>hval j t v (by simpa using hj) (by simpa using hv)) hw
 obtain⟨n,hn⟩:=hpure dd h1
 have hpre:Gbq s args.toList W Qbx dd:=by
  refine⟨?_,?_,?_,fun _ _=>rfl,fun b j _ e=>by cases e⟩
  ·rw[hbx]
   exact h5 dd 0 fun j d hj=>by simp[aO.val,Sb4,hj]
  ·rw[hbx];trivial
  ·rw[h2,h3,hbx];rfl
 have hgo:=hc n args.toList W Qbx dd _ hpre hX hn
 have e:args.toList.toArray=args:=by simp
 rw[e]at hgo
 rcases hgo with ⟨-,hcalls⟩|⟨v,w',hr,-⟩
 ·refine Calls.mono hcalls fun en W' he=>?_
  cases en with
  | returned v =>
   obtain⟨G,us,rfl,hF,hfr,-⟩:=he
   rw[hres]at hfr
   obtain⟨u,us',vs,rfl,hl,hsh,hnil⟩:=hfr
   simp only[Pal]at hnil
   subst hnil
   simp only[Sbv,if_false]at hsh
   subst hsh
   obtain⟨u',us2,e2,hsc,-⟩:=hl
   obtain⟨rfl,rfl⟩:=List.cons.inj e2
   simp only[qJ]at hsc
   have hu:u=.bool true:=by
    have:([D.bool true].getD 0 .undef)=D.bool true:=rfl
    rw[this]at hsc
    exact hsc.bool_inv
   subst hu
   exact⟨rfl,hF.os,hF.tape,hF.output,hF.size,fun k hk=>(hF.keep k hk (.inl rfl)).1⟩
  |panicked c=>exact he.elim
  |outgrown=>exact he.elim
 ·rw[jF hfn hname hbody]at hr
  cases hr
theorem Ebv {P : Program} {T : Nat -> Ent} {key : Nat} {s : Sig} {fn : Func} {c : Code} (hc : ∀ n, qM P T n key s) (hfn : P.funcs[s.fn]? = some fn) (hname : (fn.name == "runtime.NumGoroutine") = false) (hbody : fn.body = some c)
  {tys:List Ty} (hpar:uX P fn.params.toList=some (s.params,tys)) (hbx:s.boxes=[]) (hres:s.results=[(false,[.sc])]) (hpure:∀ ds,WTs tys ds->∃ n,mX T n key ds=some [.bool true])
  {H:Type} {enc:TypeId×Value->H} {W:World} {base:Nat} {args:Array Value} {ds:List (DataW H)} {ps:List MemPlace}
  (hval:∀ (j:Nat) t v,fn.params[j]?=some t->args[j]?=some v->Value.okWide P W .any base t v) (ht:DataW.TrodAll enc P W 0 (fun _=>true) true fn.params.toList args.toList ds ps)
  (hw:∀ m∈DataW.weightsEach P fn.params.toList ds,m<=reachBytes):Calls P s.fn args W fun e W'=>e=.returned (.bool true)/\Below W.heap.size W W' :=
 Cbd (X:=fun _ _=>True) (fun n vals w G ds ds' hp _ h=>hc n vals w G ds ds' hp h) hfn hname hbody hpar hbx hres hpure hval ht hw trivial
open Go.ChangeShapes Go.RowKit in
theorem Ha1 {C : Checked} {spec : ChangeSpec} {T : Nat -> Ent} {key : Nat} {s : Sig} {fn : Func} {c : Code} {conds : List PathCond} (own : ownKnob C.prog.godebug = none) (laid : laidOutB C.prog = true) (hc : ∀ n, qM C.prog T n key s) (hfn : C.prog.funcs[s.fn]? = some fn) (hname : (fn.name == "runtime.NumGoroutine") = false) (hbody : fn.body = some c)
  {tys:List Ty} (hpar:uX C.prog fn.params.toList=some (s.params,tys)) (hbx:s.boxes=[]) (hres:s.results=[(false,[.sc])]) (hpure:∀ ds,WTs tys ds->∃ n,mX T n key ds=some [.bool true])
  (hread:(fn.params.toList.all fun t=>C.prog.readableRec t&&decide (t<C.prog.types.size))=true) {rt:TypeId} (hrt:fn.resultTypes=#[rt]) (hrb:C.prog.underlying rt=some .bool)
  (hvars:spec.vars=[]) (hspec:∀ (H:Type) (ds:List (DataW H)),ds.length=fn.params.size->spec.fn H ds={ results:=[.lit (.bool true)],args:=ds,vars:=[] }) (hinit:C.prog.inits.idxOf? s.fn=none)
  (os:Os) (started:os.Started) (H:Type) (enc:TypeId×Value->H)
  (witness:∃ (w:World) (tape:Tape) (i:Input),w.os=os/\(w.forCall tape i).Shaped C.prog/\i.vars=[]/\Input.okWide C.prog (w.forCall tape i) .any w.heap.size s.fn i /\
   spec.pre6 enc C.prog fn conds false (w.forCall tape i).memory i.args/\({}:Assume).holds C.prog (lone (Frame.enter C.prog s.fn i.args .normal) [] (w.forCall tape i))) :
  ReturnsInHanded {} C os s.fn .any (spec.pre6 enc C.prog fn conds false) (spec.post enc C.prog fn false true false false):=by
 refine returnsInHanded_of_change_sized own started hinit hfn witness ?_
 intro W base args ds gs before hval hW _ hsz _
 have hW':=hW
 obtain⟨p,q,hA,hV,rfl,hfz,hnd⟩:=hW
 rw[hvars]at hV
 obtain⟨rfl,rfl⟩:=trodVars_none hV
 have hvt:spec.plain.varTypes C.prog=[]:=by
  simp[ChangeSpec.plain,DataSpec.varTypes,hvars]
 rw[hvt,Tbb,Tbb]at hsz
 have hlen:∀ {ts:List TypeId} {vs:List Value} {ds:List (DataW H)} {ps:List MemPlace},DataW.TrodAll enc C.prog W 0 (fun _=>true) true ts vs ds ps->ds.length=ts.length:=by
  intro ts
  induction ts with
  | nil =>
   intro vs ds ps h
   cases vs<;>cases ds<;>first|rfl|exact h.elim
  | cons t ts ih =>
   intro vs ds ps h
   cases vs<;>cases ds<;>first|exact h.elim|skip
   obtain⟨p,q,-,h2,-⟩:=h
   simp[ih h2]
 have hl:=hlen hA
 refine (Ebv hc hfn hname hbody hpar hbx hres hpure hval hA (fun m hm=>?_)).mono fun e W' ⟨he,bel⟩=>?_
 ·rw[Tbp]at hsz
  simpa using hsz m hm
 ·subst he
  have hsp:=hspec H (ds++[]) (by simpa using hl)
  refine⟨_,rfl,ds,[],_,[],p,[],hW',?_,?_,?_,bel.frame _,fun h=>by cases h⟩
  ·rw[hsp,hrt]
   exact trodAll_mk1 (shut_bool hrb _)
  ·rw[hsp]
   simp only[Tbb]
   exact Eaw laid bel hread hA
  ·rw[hsp,hvars]
   rfl
end Go.Proofs.YtpgnlmfmlffjcaaGreat.Rf

namespace Go.Proofs.YtpgnlmfmlffjcaaGreat.Rf
set_option linter.unusedVariables false
set_option linter.unusedSimpArgs false
def bW:List (Nat×TI)->Nat->Option TI
 |[],_=>none
 |(k,i)::r,t=>bif Nat.beq k t then some i else bW r t
theorem Ja0 {P:Program}:∀ {l:List (Nat×TI)},(∀ p∈l,oH P p.1=some p.2)->Aaj P (bW l)
 |[],_=>⟨fun t i h=>by cases h⟩
 | (k, i) :: r, h => ⟨fun t j ht => by
  simp only[bW]at ht
  cases hb:Nat.beq k t with
  | true =>
   rw[hb,cond_true]at ht
   simp only[Tbv]at hb
   subst hb
   rw[<- ht]
   exact h (k,i) Tbe
  | false =>
   rw[hb,cond_false]at ht
   exact (Ja0 fun p hp=>h p (Tba _ hp)).ok t j ht⟩
def xV:List (Nat×Ent)->Nat->Ent
 |[],_=>.none
 |(k,e)::r,t=>bif Nat.beq k t then e else xV r t
theorem Cav {P:Program}{T:Nat->Ent}{ti:Nat->Option TI}{sigs:List (Nat×Sig)}(h:∀ p∈sigs,Nae P T ti sigs p.1 p.2):∀ key s,(key,s)∈sigs->Nae P T ti sigs key s:=fun key s hm=>h (key,s) hm
theorem Qa5 {P : Program} {T : Nat -> Ent} {E : Env} {key : Nat} {s : Sig} {fn : Func} {tm : Tm Unit} (h1 : P.funcs[s.fn]? = some fn) (h2 : (fn.name == "runtime.NumGoroutine") = false) (h3 : Bbz E s fn = some tm) (h4 : T key = .tm tm) : Nae P T E.ti E.sigs key s :=
 .inl ⟨E,fn,tm,rfl,rfl,h1,h2,h3,h4⟩
theorem fnK {P : Program} {T : Nat -> Ent} {E : Env} {key : Nat} {s : Sig} {fn : Func} {tm : Tm Unit} (h1 : P.funcs[s.fn]? = some fn) (h : (fn.name == "runtime.NumGoroutine", Bbz E s fn, T key) = (false, some tm, .tm tm)) : Nae P T E.ti E.sigs key s :=
 Qa5 h1 (congrArg (·.1) h) (congrArg (·.2.1) h) (congrArg (·.2.2) h)
theorem fc {α:Type}{p:α->Prop}{a:α}{l:List α}(h:p a)(h':∀ x∈l,p x):∀ x∈a::l,p x:=List.forall_mem_cons.2 ⟨h,h'⟩
theorem fc0 {α:Type}{p:α->Prop}:∀ x∈([]:List α),p x:=List.forall_mem_nil _
theorem Wa0 {T:Nat->Ent}{key:Nat}{ds r:List D}(h:Fun T key ds=some r):∃ n,mX T n key ds=some r:=wH.1 h
def apL (e d:Nat):Nat->List Nat
 |0=>[]
 |n+1=>(e-d*(n+1))::apL e d n
end Go.Proofs.YtpgnlmfmlffjcaaGreat.Rf

namespace Go.Proofs.YtpgnlmfmlffjcaaGreat.Rf
set_option linter.unusedVariables false
set_option linter.unusedSimpArgs false
abbrev i64 (n:Int):D:=.int .i64 n
theorem wrap_i64 {n:Int}(h1:-9223372036854775808<=n)(h2:n<=9223372036854775807):IntKind.i64.wrap n=n:=IntWalk.i64_in n ⟨h1,h2⟩
section
variable {T:Nat->Ent} {β:Type}
end
theorem Mbn {a b:Int}:(aN.bin .lss).run [i64 a,i64 b]=some [.bool (decide (a<b))]:=by simp[aN.run,Paf,Baj]
theorem Mbp {a b:Int}:(aN.bin .gtr).run [i64 a,i64 b]=some [.bool (decide (a>b))]:=by simp[aN.run,Paf,Baj]
theorem Mbo {a b:Int}:(aN.bin .leq).run [i64 a,i64 b]=some [.bool (decide (a<=b))]:=by simp[aN.run,Paf,Baj]
theorem Mbq {a b:Int}:(aN.bin .geq).run [i64 a,i64 b]=some [.bool (decide (a ≥ b))]:=by simp[aN.run,Paf,Baj]
theorem Mbm {a b:Int}:(aN.bin .neq).run [i64 a,i64 b]=some [.bool (!(a==b))]:=by simp[aN.run,Paf,Baj,bne]
theorem Mbr {a b:Int}:(aN.bin .eql).run [i64 a,i64 b]=some [.bool (a==b)]:=by simp[aN.run,Paf,Baj]
theorem Mbu {a b:Int}(h1:-9223372036854775808<=a+b)(h2:a+b<=9223372036854775807):(aN.bin .add).run [i64 a,i64 b]=some [i64 (a+b)]:=by simp[aN.run,Paf,Baj,wrap_i64 h1 h2]
theorem Daz {a b:Int}(h1:-9223372036854775808<=a-b)(h2:a-b<=9223372036854775807):(aN.bin .sub).run [i64 a,i64 b]=some [i64 (a-b)]:=by simp[aN.run,Paf,Baj,wrap_i64 h1 h2]
theorem Mbl {b:Bool}:aN.not.run [.bool b]=some [.bool (!b)]:=rfl
theorem Mbs {a b:Bool}:(aN.eqb true).run [.bool a,.bool b]=some [.bool (!(a==b))]:=rfl
section
variable {T:Nat->Ent}
end
def upto {α:Type}(z:α)(ys:List α)(i:Nat):List α:=ys.take i++Sb1 (ys.length-i) z
theorem Eav {α:Type}(z:α)(ys:List α):upto z ys 0=Sb1 ys.length z:=by simp[upto]
theorem Jax {α:Type}(z:α)(ys:List α):upto z ys ys.length=ys:=by simp[upto]
theorem Jaw {α:Type}(z:α)(ys:List α){i:Nat}(h:i<=ys.length):(upto z ys i).length=ys.length:=by simp[upto];omega
theorem Jav {α:Type}(z:α)(ys:List α){i:Nat}{y:α}(h:ys[i]?=some y):(upto z ys i).set i y=upto z ys (i+1):=by
 have hlt:=(List.getElem?_eq_some_iff.1 h).1
 apply List.ext_getElem?
 intro j
 rw[List.getElem?_set]
 unfold upto
 rw[Sby,Tbc,Tbq]
 by_cases e:i=j
 ·subst e
  rw[if_pos rfl,if_pos (by omega),Tbj (by simp;omega),Ubg,if_pos (by omega)]
  exact h.symm
 ·rw[if_neg e]
  rcases Tbi j i with hj|hj
  ·rw[Tbj (by simp;omega),Tbj (by simp;omega),Ubg,Ubg,if_pos hj,if_pos (by omega)]
  ·rw[Tbf (by simp;omega),Tbf (by simp;omega),Uby,Uby]
   simp only[Tbc]
   by_cases h2:j<ys.length
   ·rw[if_pos (by omega),if_pos (by omega)]
   ·rw[if_neg (by omega),if_neg (by omega)]
end Go.Proofs.YtpgnlmfmlffjcaaGreat.Rf

namespace Go.Proofs.YtpgnlmfmlffjcaaGreat.Rf
set_option linter.unusedVariables false
set_option linter.unusedSimpArgs false
section
variable {T:Nat->Ent} {β:Type}
noncomputable def Er (T:Nat->Ent)(t:Tm β)(ρ:List D):Option (Kind×List D):=(Ev T t ρ).map fun o=>(o.kind,o.vals)
def Rb2 (r:Kind×List D):Option (List D):=if r.1=.ret then some r.2 else none
def Rb7 {α:Type}(d:D)(a b:Option α):Option α:=match d with
 |.bool true=>a
 |.bool false=>b
 |_=>none
def gdR (d:D)(w:Bool):Bool:=match d with
 |.bool b=>b==w
 |_=>false
theorem Rby {f:Nat}{t:Tm Unit}(h:T f=.tm t)(args:List D):Fun T f args=(Er T t args).bind Rb2:=by
 rw[Qbh h,Er]
 cases Ev T t args<;>rfl
theorem Nb1 (k:Kind)(xs:List aO)(e:β)(ρ:List D):Er T (.leaf k xs e) ρ=some (k,xs.map (·.val ρ)):=by
 rw[Er,Nbz];rfl
noncomputable def stepT (T:Nat->Ent)(k:Tm β)(ρ:List D)(n:Nat)(a:Option (List D)):Option (Kind×List D):=a.bind fun ds=>if ds.length=n then Er T k (ρ++ds) else none
noncomputable def Rbn (T:Nat->Ent)(t e:Tm β)(ρ:List D)(c:D):Option (Kind×List D):=Rb7 c (Er T t ρ) (Er T e ρ)
noncomputable def ltT (T:Nat->Ent)(p:aN)(xs:List aO)(n:Nat)(k:Tm β)(ρ:List D)(w:Bool)(c:D):Option (Kind×List D) :=
 if gdR c w=true then stepT T k ρ n (p.run (xs.map (·.val ρ))) else Er T k (ρ++Sb1 n .undef)
noncomputable def Nbo (T:Nat->Ent)(f:Nat)(xs:List aO)(n:Nat)(os:List aO)(k:Tm β)(ρ:List D)(w:Bool)(c:D):Option (Kind×List D) :=
 if gdR c w=true then stepT T k ρ n (Fun T f (xs.map (·.val ρ))) else Er T k (ρ++(Sb1 (n-os.length) .undef++os.map (·.val ρ)))
theorem Qbo (p:aN)(xs:List aO)(n:Nat)(k:Tm β)(ρ:List D):Er T (.lt none p xs n k) ρ=stepT T k ρ n (p.run (xs.map (·.val ρ))):=by
 rw[Er,Qbl,stepT]
 simp only[gOn,if_true]
 cases p.run (xs.map (·.val ρ)) with
 |none=>rfl
 | some ds =>
  simp only[Sb6]
  split<;>rfl
theorem Qbn (a:aO)(w:Bool)(p:aN)(xs:List aO)(n:Nat)(k:Tm β)(ρ:List D):Er T (.lt (some (a,w)) p xs n k) ρ=ltT T p xs n k ρ w (a.val ρ):=by
 rw[Er,Qbl,ltT,stepT]
 have:gOn ρ (some (a,w))=gdR (a.val ρ) w:=rfl
 rw[this]
 cases gdR (a.val ρ) w with
 |false=>rfl
 | true =>
  simp only[if_true]
  cases p.run (xs.map (·.val ρ)) with
  |none=>rfl
  | some ds =>
   simp only[Sb6]
   split<;>rfl
theorem Iby (f:Nat)(xs:List aO)(n:Nat)(os:List aO)(k:Tm β)(ρ:List D):Er T (.call none f xs n os k) ρ=stepT T k ρ n (Fun T f (xs.map (·.val ρ))):=by
 rw[Er,Gbo,stepT]
 simp only[gOn,if_true]
 cases Fun T f (xs.map (·.val ρ)) with
 |none=>rfl
 | some ds =>
  simp only[Sb6]
  split<;>rfl
theorem Ibx (a:aO)(w:Bool)(f:Nat)(xs:List aO)(n:Nat)(os:List aO)(k:Tm β)(ρ:List D):Er T (.call (some (a,w)) f xs n os k) ρ=Nbo T f xs n os k ρ w (a.val ρ):=by
 rw[Er,Gbo,Nbo,stepT]
 have:gOn ρ (some (a,w))=gdR (a.val ρ) w:=rfl
 rw[this]
 cases gdR (a.val ρ) w with
 |false=>rfl
 | true =>
  simp only[if_true]
  cases Fun T f (xs.map (·.val ρ)) with
  |none=>rfl
  | some ds =>
   simp only[Sb6]
   split<;>rfl
theorem Qbp (c:aO)(t e:Tm β)(ρ:List D):Er T (.ite c t e) ρ=Rbn T t e ρ (c.val ρ):=by
 rw[Er,Qbm,Rbn]
 cases c.val ρ with
 |bool b=>cases b<;>rfl
 |_=>rfl
noncomputable def tL (T:Nat->Ent)(i:Nat)(k:Tm β)(ρ:List D)(r:Option (Kind×List D)):Option (Kind×List D):=r.bind fun r=>if r.1=.yield i then Er T k (ρ++r.2) else some r
theorem Bbq {i:Nat}{k:Tm β}{ρ ds:List D}:tL T i k ρ (some (.yield i,ds))=Er T k (ρ++ds):=by simp[tL]
theorem Dbh {i:Nat}{k:Tm β}{ρ ds:List D}:tL T i k ρ (some (.ret,ds))=some (.ret,ds):=by simp[tL]
theorem Bbs {i:Nat}{k:Tm β}{ρ ds:List D}:tL T i k ρ (some (.cont,ds))=some (.cont,ds):=by simp[tL]
theorem Gb5 {i j:Nat}{k:Tm β}{ρ ds:List D}(h:j≠i):tL T i k ρ (some (.yield j,ds))=some (.yield j,ds):=by simp[tL,h]
theorem Nb2 (i:Nat)(t k:Tm β)(ρ:List D):Er T (.bind i t k) ρ=tL T i k ρ (Er T t ρ):=by
 rw[Er,Nb0,tL,Er]
 cases Ev T t ρ with
 |none=>rfl
 | some o =>
  simp only[Sb6,Ubd]
  split<;>rfl
theorem Lbj {t:Tm β}{ρ:List D}{k:Kind}{ds:List D}(h:Er T t ρ=some (k,ds)):∃ o,Ev T t ρ=some o/\o.kind=k/\o.vals=ds:=by
 unfold Er at h
 cases e:Ev T t ρ with
 |none=>rw[e]at h;cases h
 | some o =>
  rw[e,Ubd]at h
  have:=Option.some.inj h
  exact⟨o,rfl,congrArg Prod.fst this,congrArg Prod.snd this⟩
theorem Uae {γ:Type}{body:Tm β}{ρ:List D}(m:γ->Nat)(inv:γ->Prop)(vs:γ->List D)(Q:Kind×List D->Prop)
  (h:∀ c,inv c->∃ r,Er T body (ρ++vs c)=some r/\(r.1=.cont/\(∃ c',inv c'/\m c'<m c/\r.2=vs c')\/r.1≠.cont/\Q r)) :
  ∀ (n:Nat) c,m c<=n->inv c->∀ xs:List aO,xs.map (·.val ρ)=vs c->∃ r,Er T (.loop xs body) ρ=some r/\Q r:=by
 have key:∀ (n:Nat) c,m c<=n->inv c->∃ o,Lp T body ρ (vs c)=some o/\Q (o.kind,o.vals):=by
  intro n
  induction n with
  | zero =>
   intro c hm hc
   obtain⟨⟨k,ds⟩,h1,h2⟩:=h c hc
   obtain⟨o,h3,rfl,rfl⟩:=Lbj h1
   rcases h2 with ⟨-,c',-,h5,-⟩|⟨h4,h5⟩
   ·omega
   ·exact⟨o,by rw[Nbx,h3,Sb6,if_neg h4],h5⟩
  | succ n ih =>
   intro c hm hc
   obtain⟨⟨k,ds⟩,h1,h2⟩:=h c hc
   obtain⟨o,h3,rfl,rfl⟩:=Lbj h1
   rcases h2 with ⟨h4,c',h5,h6,h7⟩|⟨h4,h5⟩
   ·obtain⟨o',h8,h9⟩:=ih c' (by omega) h5
    refine⟨o',?_,h9⟩
    rw[Nbx,h3,Sb6,if_pos h4]
    show Lp T body ρ o.vals=_
    rw[show o.vals=vs c' from h7,h8]
   ·exact⟨o,by rw[Nbx,h3,Sb6,if_neg h4],h5⟩
 intro n c hm hc xs hx
 obtain⟨o,h1,h2⟩:=key n c hm hc
 exact⟨_,by rw[Er,Nby,hx,h1,Ubd],h2⟩
end
end Go.Proofs.YtpgnlmfmlffjcaaGreat.Rf

namespace Go.Proofs.YtpgnlmfmlffjcaaGreat.Rf
set_option linter.unusedVariables false
set_option linter.unusedSimpArgs false
def Cb0 (ok:Nat->Bool):Nat->Bool
 |0=>true
 |n+1=>Cb0 ok n&&ok n
theorem vM {ok:Nat->Bool}:∀ {n:Nat},Cb0 ok n=true↔∀ i,i<n->ok i=true
 |0=>by simp[Cb0]
 | n + 1 => by
  simp only[Cb0,Sbu,vM (n:=n)]
  constructor
  ·rintro⟨h1,h2⟩ i hi
   rcases Tbi i n with h|h
   ·exact h1 i h
   ·obtain rfl:i=n:=by omega
    exact h2
  ·exact fun h=>⟨fun i hi=>h i (by omega),h n (by omega)⟩
theorem Paj {ok:Nat->Bool}{n:Nat}:Cb0 ok n=false↔∃ i,i<n/\ok i=false:=by
 constructor
 ·intro h
  apply Classical.byContradiction
  intro hn
  have:Cb0 ok n=true:=vM.2 fun i hi=>by
   cases e:ok i with
   |true=>rfl
   |false=>exact absurd ⟨i,hi,e⟩ hn
  rw[this]at h;cases h
 ·rintro⟨i,hi,h⟩
  cases e:Cb0 ok n with
  |false=>rfl
  |true=>rw[vM.1 e i hi]at h;cases h
section
variable {T:Nat->Ent} {β:Type}
end
theorem Ob3 {d:D}:aN.id.run [d]=some [d]:=rfl
def inR (x lo hi:Int):Bool:=decide (lo<=x)&&decide (x<=hi)
end Go.Proofs.YtpgnlmfmlffjcaaGreat.Rf
