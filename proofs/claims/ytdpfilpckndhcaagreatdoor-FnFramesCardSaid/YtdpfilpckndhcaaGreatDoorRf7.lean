/- Terms for the program's functions, and that they are right: part 7 of 9. -/
import Derived.Test.YtdpfilpckndhcaaGreatDoorRf6
import Derived.SizedLaws
import Derived.Carry
import Derived.ChangeOld
import Derived.ChangeShapes
import Derived.RowKit
import Derived.IntWalk
open Bool renaming and_eq_true → Qbq, false_eq_true → Qbr
open List renaming length_append → Qbs, length_cons → Qbt, mem_append_left → Qbv, mem_append_right → Qby, getElem?_eq_getElem → Qbz, replicate → Qb0, append_assoc → Qb1, mem_cons_of_mem → Qb2, getElem?_cons_zero → Qb4, getD_eq_getElem?_getD → Qb5, mem_singleton → Qb6, mem_cons_self → Qb7, length_take → Qb9, mem_of_getElem? → Rba, getElem?_append_right → Rbb, getElem?_append_left → Rbc, length_map → Rbf, map_cons → Rbh, mem_cons → Rbk, append_nil → Rbm, length_replicate → Rbo, map_nil → Rbq, getElem?_map → Rbu, nil_append → Rb9, getElem?_take → Sbb, cons_append → Sbk, filter_cons → Sbq, mem_append → Sbt, getElem?_replicate → Sb8, getElem?_range → Tb9
open Nat renaming le_refl → Qbw, add_assoc → Rbi, lt_or_ge → Rbj, zero_add → Rbt, beq_eq → Rbv, add_zero → Rby, add_sub_cancel_left → Rb1, ble_eq → Rb8
open Option renaming bind_eq_some_iff → Qbp, bind_some → Qb3, map_eq_some_iff → Qb8, map_some → Rb5, getD_some → Sbr
set_option linter.unusedSimpArgs false
set_option linter.unusedVariables false
set_option linter.unnecessarySimpa false
set_option linter.unusedSectionVars false
namespace Go.Proofs.YtdpfilpckndhcaaGreatDoor.Rf
set_option linter.unusedVariables false
set_option linter.unusedSimpArgs false
section
variable (w:World)
def owC (ad:Addr):Nat->List BO->List Value
 |_,[]=>[]
 |off,s::r=>(match s with | .ow _=>[(w.cell? (ad.add off)).getD undef] | _=>[])++owC ad (off+1) r
def Uaf:LR->Value->List Value
 |.ow _,v=>[v]
 |.bx cs,.pointer (some ad)=>owC w ad 0 cs
 |_,_=>[]
def owL:List LR->List Value->List Value
 |s::ss,v::vs=>Uaf w s v++owL ss vs
 |_,_=>[]
def owR:List (Bool×List LR)->List Value->List Value
 |(a,ss)::rs,u::us=>owL w ss (if a=true then u.cells.toList else [u])++owR rs us
 |_,_=>[]
def owB (bx:Nat->Addr):Nat->List (Bool×List (BS×BO))->List Value
 |_,[]=>[]
 |b,(ro,cs)::r=>if ro=true then owB bx (b+1) r else owC w (bx b) 0 (cs.map (·.2))++owB bx (b+1) r
end
def Qa8:LR->Value->List Addr
 |.bx _,.pointer (some ad)=>[ad]
 |_,_=>[]
def Na7:List LR->List Value->List Addr
 |s::ss,v::vs=>Qa8 s v++Na7 ss vs
 |_,_=>[]
def Jad:List (Bool×List LR)->List Value->List Addr
 |(a,ss)::rs,u::us=>Na7 ss (if a=true then u.cells.toList else [u])++Jad rs us
 |_,_=>[]
theorem Wa1 (s:LR)(v:Value):(Qa8 s v).length<=(match s with|.bx _=>1|_=>0):=by
 unfold Qa8
 split<;>simp
theorem Raa:∀ (ss:List LR) (vs:List Value),(Na7 ss vs).length<=bxL ss
 |[],vs=>by simp[Na7]
 |s::ss,[]=>by simp[Na7]
 | s :: ss, v :: vs => by
  have h1:=Wa1 s v
  have h2:=Raa ss vs
  simp only[Na7,Qbs]
  cases s<;>simp only[bxL]at *<;>omega
theorem Qa9:∀ (rs:List (Bool×List LR)) (us:List Value),(Jad rs us).length<=lZ rs
 |[],us=>by simp[Jad]
 |(a,ss)::rs,[]=>by simp[Jad]
 | (a, ss) :: rs, u :: us => by
  have h1:=Raa ss (if a=true then u.cells.toList else [u])
  have h2:=Qa9 rs us
  simp only[Jad,Qbs,lZ]
  omega
def San:List BO->Bool
 |[]=>true
 |.ow _::_=>false
 |_::r=>San r
section
variable {E:Env} {F:bU} {σ σ':Nat->Option aU} {ρ:List D} {a:Act} {w w':World} {G G':Gh} {s:Sig} {Z:Take} {gd:Bool} {nr nb y0:Nat} {hs:List Value} {adn:Addr} {ds:List D}
def Rai (ρ:List D)(l:List Step):Prop:=∀ m y,.prim (.dep m) [.v y] 0∈l->sI m ((aM.v y).val ρ)=true
structure Aft (E:Env) (F:bU) (σ σ':Nat->Option aU) (ρ:List D) (a:Act) (w:World) (G:Gh) (s:Sig) (Z:Take) (G':Gh) (w':World) (y0:Nat) (ds:List D):Prop where
 B:Raj E F σ ρ a w G s Z G' w'
 val:∀ i,i<ds.length->(aM.v (y0+i)).val ρ=ds.getD i .undef
 known:∀ z∈Z.deps,lJ σ' z.1 z.2
def UOk (NewB:Nat->Prop)(σ':Nat->Option aU)(ρ:List D)(G2:Gh)(w':World)(nr nb y0:Nat)(u:List (Nat×aU)):Prop :=
 ∀ k c,(k,c)∈u->(∃ q m i,k=kR (nr+q)/\c=.root (.v (y0+i)) m 0 .live/\Rp G2.own w' (nr+q) [] m (G2.hdr (nr+q)) ((aM.v (y0+i)).val ρ)) \/
  (k=kB nb/\∃ ls,c=.box false ls/\Lau σ' ρ G2 w' nb false ls/\NewB (G2.bx nb).block)
theorem UOk.append {NewB:Nat->Prop}{G2:Gh}{u v:List (Nat×aU)}(h:UOk NewB σ' ρ G2 w' nr nb y0 u)(h':UOk NewB σ' ρ G2 w' nr nb y0 v):UOk NewB σ' ρ G2 w' nr nb y0 (u++v):=fun k c hc=>(List.mem_append.1 hc).elim (h k c) (h' k c)
def UIn (σ':Nat->Option aU)(nr:Nat)(u:List (Nat×aU)):Prop:=∀ k c,(k,c)∈u->(σ' k).isSome/\∀ q,k=kR (nr+q)->q<dM
theorem UIn.left {u v:List (Nat×aU)}(h:UIn σ' nr (u++v)):UIn σ' nr u:=fun k c hc=>h k c (Qbv _ hc)
theorem UIn.right {u v:List (Nat×aU)}(h:UIn σ' nr (u++v)):UIn σ' nr v:=fun k c hc=>h k c (Qby _ hc)
theorem Abd {own':Nat->Ow}{q:Nat}(hq:q<dM){v:Value}(hv:hs[q]?=some v):(gK gd ρ G w s Z nr nb own' hs adn).hdr (nr+q)=v:=by
 simp only[gK]
 rw[if_pos ⟨by omega,by omega⟩,Rb1,Qb5,hv]
 rfl
variable (A:Aft E F σ σ' ρ a w G s Z G' w' y0 ds)
include A
theorem Wa2 {i q off:Nat}{t:BO}{v:Value}(h:Fam G'.own w' ds i q t v)(hi:i<ds.length)(hfit:Z.deps=[]\/∀ m,t=.ow m->sI m ((aM.v (y0+i)).val ρ)=true)
  (hgd:gd=false\/∀ m,t≠.ow m) (hh:∀ m,t=.ow m->hs[q]?=some v) (hu:UIn σ' nr (kI Z.deps (y0+i) (nr+q) t).2.1) :
  (kI Z.deps (y0+i) (nr+q) t).2.2=nr+q+t.q/\aB σ' ρ (gK gd ρ G w s Z nr nb G'.own hs adn) w' (kI Z.deps (y0+i) (nr+q) t).1 v/\UOk (fun b=>¬ (b<w.heap.size/\Nar ((callG ρ G w s Z).own b)=false)) σ' ρ (gK gd ρ G w s Z nr nb G'.own hs adn) w' nr nb y0 (kI Z.deps (y0+i) (nr+q) t).2.1:=by
 cases t with
 | sc =>
  refine⟨rfl,?_,by simp[UOk,kI]⟩
  simp only[kI,aB]
  rw[A.val i hi]
  exact h
 | fz =>
  refine⟨rfl,?_,by simp[UOk,kI]⟩
  simp only[kI,aB]
  simp only[Fam]at h
  rw[A.val i hi]
  exact⟨⟨h.one,A.known⟩,fun _=>⟨A.B.rd h,fun e=>absurd e (by decide),trivial⟩⟩
 | ow m =>
  have hg:gd=false:=hgd.resolve_right fun e=>e m rfl
  simp only[Fam]at h
  have hin:=hu (kR (nr+q)) _ (by simp only[kI];exact List.mem_singleton.2 rfl)
  have hhd:=Abd (gd:=gd) (ρ:=ρ) (G:=G) (w:=w) (s:=s) (Z:=Z) (nr:=nr) (nb:=nb) (adn:=adn) (own':=G'.own) (hin.2 q rfl) (hh m rfl)
  have hfit':Z.deps=[]\/sI m (ds.getD i .undef)=true:=hfit.imp id fun e=>by rw[<- A.val i hi];exact e m rfl
  have hrp:=A.B.give (gd:=gd) (nr:=nr) (nb:=nb) (hs:=hs) (adn:=adn) h hfit' hg (hin.2 q rfl)
  refine⟨rfl,?_,?_⟩
  ·simp only[kI,aB]
   exact⟨hhd.symm,hin.1,h.one⟩
  ·intro k c hc
   simp only[kI,Qb6,Prod.mk.injEq]at hc
   refine .inl ⟨q,m,i,hc.1,hc.2,?_⟩
   rw[hhd,A.val i hi]
   exact hrp
 | dead =>
  refine⟨rfl,?_,by simp[UOk,kI]⟩
  simp only[kI,aB]
  exact h
theorem Ba9:∀ {cs:List BO} {i q off:Nat} {ad:Addr},Eaf G'.own w' ds ad off i q cs->i+cs.length<=ds.length->(Z.deps=[]\/Rai ρ (qP (y0+i) cs))->(gd=false\/San cs=true) ->
  (∀ j v,(owC w' ad off cs)[j]?=some v->hs[q+j]?=some v)->UIn σ' nr (eU Z.deps (y0+i) (nr+q) cs).2.1 ->
  (eU Z.deps (y0+i) (nr+q) cs).2.2=nr+q+qC cs/\(eU Z.deps (y0+i) (nr+q) cs).1.length=cs.length/\(owC w' ad off cs).length=qC cs /\
  (∀ j l,(eU Z.deps (y0+i) (nr+q) cs).1[j]?=some l->∃ v,w'.cell? (ad.add (off+j))=some v/\w'.frozen? (ad.add (off+j))=false/\aB σ' ρ (gK gd ρ G w s Z nr nb G'.own hs adn) w' l v) /\
  UOk (fun b=>¬ (b<w.heap.size/\Nar ((callG ρ G w s Z).own b)=false)) σ' ρ (gK gd ρ G w s Z nr nb G'.own hs adn) w' nr nb y0 (eU Z.deps (y0+i) (nr+q) cs).2.1
 |[],i,q,off,ad,_,_,_,_,_,_=>⟨rfl,rfl,rfl,by simp[eU],by simp[UOk,eU]⟩
 | t :: cs, i, q, off, ad, h, hi, hfit, hgd, hh, hu => by
  obtain⟨⟨v,h1,h2,h3⟩,h4⟩:=h
  simp only[Qbt]at hi
  simp only[eU]at hu
  have hlen:∀ t:BO,(match t with|.ow _=>[(w'.cell? (ad.add off)).getD undef]|_=>([]:List Value)).length=t.q:=fun t=>by cases t<;>rfl
  have hb:=Wa2 A (gd:=gd) (nr:=nr) (nb:=nb) (hs:=hs) (adn:=adn) (off:=off) h3 (by omega) (hfit.imp id fun e m hm=>e m _ (by subst hm;simp only[qP];exact Qb7))
   (hgd.imp id fun e m hm=>by subst hm;simp[San]at e) (fun m hm=>by
    subst hm
    have:=hh 0 v (by simp[owC,h1])
    simpa using this) hu.left
  obtain⟨h5,h6,h7⟩:=hb
  have hrec:=Ba9 (cs:=cs) (i:=i+1) (q:=q+t.q) (off:=off+1) (ad:=ad) h4 (by omega) (hfit.imp id fun e m y hm=>e m y (by
    cases t with
    |ow m'=>simp only[qP];exact Qb2 _ hm
    |_=>exact hm)) (hgd.imp id fun e=>by cases t<;>simp[San]at e ⊢<;>exact e) (fun j x hj=>by
    have:=hh (t.q+j) x (by
     simp only[owC]
     rw[Rbb (by rw[hlen];omega),hlen,Rb1]
     exact hj)
    rwa[<- Rbi]at this) (by
    have:=hu.right
    rw[h5]at this
    rw[<- Rbi,<- Rbi]
    exact this)
  rw[<- Rbi,<- Rbi]at hrec
  obtain⟨h8,h9,h10,h11,h12⟩:=hrec
  simp only[eU]
  rw[h5]
  refine⟨by rw[h8];simp only[qC];omega,by simp[h9],by simp only[owC,Qbs,hlen,h10,qC],fun j l hj=>?_,h7.append h12⟩
  cases j with
  | zero =>
   simp only[Qb4,Option.some.injEq]at hj
   subst hj
   exact⟨v,h1,h2,h6⟩
  | succ j =>
   obtain⟨v',h13,h14,h15⟩:=h11 j l (by simpa using hj)
   rw[show off+(j+1)=off+1+j by omega]
   exact⟨v',h13,h14,h15⟩
theorem Saf (hnb:σ' (kB nb)=none\/True){i q:Nat}{t:LR}{v:Value}(h:nT G'.own w' ds s.boxes.length i q t v)(hi:i+t.n<=ds.length)(hfit:Z.deps=[]\/Rai ρ (Taf (y0+i) [t]))
  (hgd:gd=false\/bxL [t]=0) (hh:∀ j x,(Uaf w' t v)[j]?=some x->hs[q+j]?=some x) (had:∀ ad∈Qa8 t v,ad=adn) (hu:UIn σ' nr (dP gd Z.deps nb (y0+i) (nr+q) t).2.1) :
  (dP gd Z.deps nb (y0+i) (nr+q) t).2.2=nr+q+t.q/\(Uaf w' t v).length=t.q/\aB σ' ρ (gK gd ρ G w s Z nr nb G'.own hs adn) w' (dP gd Z.deps nb (y0+i) (nr+q) t).1 v/\UOk (fun b=>¬ (b<w.heap.size/\Nar ((callG ρ G w s Z).own b)=false)) σ' ρ (gK gd ρ G w s Z nr nb G'.own hs adn) w' nr nb y0 (dP gd Z.deps nb (y0+i) (nr+q) t).2.1:=by
 cases t with
 | sc =>
  refine⟨rfl,by cases v<;>rfl,?_,by simp[UOk,dP]⟩
  simp only[LR.n]at hi
  simp only[dP,aB]
  rw[A.val i (by omega)]
  exact h
 | fz =>
  refine⟨rfl,by cases v<;>rfl,?_,by simp[UOk,dP]⟩
  simp only[LR.n]at hi
  simp only[nT]at h
  simp only[dP,aB]
  rw[A.val i (by omega)]
  exact⟨⟨h.one,A.known⟩,fun _=>⟨A.B.rd h,fun e=>absurd e (by decide),trivial⟩⟩
 | ow m =>
  simp only[LR.n]at hi
  simp only[nT]at h
  cases gd with
  | true =>
   refine⟨rfl,rfl,?_,by simp[UOk,dP]⟩
   simp only[dP,cond_true,aB]
   rw[A.val i (by omega)]
   exact⟨⟨h.one,A.known⟩,fun _=>⟨A.B.giveGd h rfl,fun e=>absurd e (by decide),trivial⟩⟩
  | false =>
   have hin:=hu (kR (nr+q)) _ (by simp only[dP,cond_false];exact List.mem_singleton.2 rfl)
   have hhd:=Abd (gd:=false) (ρ:=ρ) (G:=G) (w:=w) (s:=s) (Z:=Z) (nr:=nr) (nb:=nb) (adn:=adn) (own':=G'.own) (hin.2 q rfl) (hh 0 v rfl)
   have hfit':Z.deps=[]\/sI m (ds.getD i .undef)=true:=hfit.imp id fun e=>by
    rw[<- A.val i (by omega)]
    exact e m _ (by simp only[Taf];exact Qb7)
   have hrp:=A.B.give (gd:=false) (nr:=nr) (nb:=nb) (hs:=hs) (adn:=adn) h hfit' rfl (hin.2 q rfl)
   refine⟨rfl,rfl,?_,?_⟩
   ·simp only[dP,cond_false,aB]
    exact⟨hhd.symm,hin.1,h.one⟩
   ·intro k c hc
    simp only[dP,cond_false,Qb6,Prod.mk.injEq]at hc
    refine .inl ⟨q,m,i,hc.1,hc.2,?_⟩
    rw[hhd,A.val i (by omega)]
    exact hrp
 | rp z =>
  refine⟨rfl,by cases v<;>rfl,?_,by simp[UOk,dP]⟩
  simp only[LR.n]at hi
  simp only[nT]at h
  simp only[dP,aB]
  rw[A.val i (by omega)]
  refine⟨⟨h.1,A.known⟩,fun _=>?_⟩
  rcases h.2 with h1|⟨ad,row,h1,h2,h3⟩
  ·exact .inl h1
  ·exact .inr ⟨ad,row,h1,h2,A.B.rd h3⟩
 | bx cs =>
  have hg:gd=false:=hgd.resolve_right fun e=>by simp[bxL]at e
  simp only[LR.n]at hi
  simp only[nT]at h
  obtain⟨ad,rfl,h1,h2,h3⟩:=h
  have hadn:ad=adn:=had ad (by simp[Qa8])
  simp only[dP]at hu
  have hu':UIn σ' nr (eU Z.deps (y0+i) (nr+q) cs).2.1:=fun k c hc=>hu k c (Qb2 _ hc)
  obtain⟨h4,h5,h6,h7,h8⟩:=Ba9 A (gd:=gd) (nb:=nb) (hs:=hs) (adn:=adn) h3 hi (hfit.imp id fun e m y hm=>e m y (by simp only[Taf];exact Qbv _ hm)) (.inl hg) hh hu'
  have hsome:=(hu (kB nb) _ Qb7).1
  have hbx:(gK gd ρ G w s Z nr nb G'.own hs adn).bx nb=ad:=by
   simp only[gK,if_pos trivial];exact hadn.symm
  have hnewb:¬ (ad.block<w.heap.size/\Nar ((callG ρ G w s Z).own ad.block)=false):=by
   ·rintro⟨hb,hsl⟩
    cases hg1:(callG ρ G w s Z).own ad.block with
    |frz=>have:=(A.B.keep hb (.inl hg1)).2;rw[h2,hg1]at this;cases this
    |oth=>have:=(A.B.keep hb (.inr hg1)).2;rw[h2,hg1]at this;cases this
    |slc _ _=>rw[hg1]at hsl;cases hsl
    | box j =>
     have:=(A.B.hF.boxes ad.block j hb hg1).1
     rw[h2]at this
     injection this with this
     have hgc:∃ c,Sac Z.ptrs c 0 s.boxes=some j:=by
      simp only[callG]at hg1
      cases hgb:G.own ad.block with
      | box c =>
       rw[hgb]at hg1
       dsimp only at hg1
       split at hg1
       ·rename_i x hx
        split at hg1
        ·injection hg1 with hg1
         exact⟨c,by rw[hx,hg1]⟩
        ·cases hg1
       ·cases hg1
      | slc r p =>
       rw[hgb]at hg1
       dsimp only at hg1
       rcases Ga0 (ρ:=ρ) (dr:=Z.deps.map (·.1)) (r:=r) (p:=p) Z.rts 0 with ⟨_,_,e⟩|e|e<;>rw[e]at hg1<;>cases hg1
      |frz=>rw[hgb]at hg1;cases hg1
      |oth=>rw[hgb]at hg1;cases hg1
     obtain⟨c,hc⟩:=hgc
     obtain⟨j',cs',off',e1,e2,-⟩:=Gaz hc
     have:=(List.getElem?_eq_some_iff.1 e2).1
     omega
  have hown:(gK gd ρ G w s Z nr nb G'.own hs adn).own ad.block=.box nb:=by
   simp only[gK]
   rw[if_neg hnewb,h2]
   simp[xM]
  refine⟨?_,?_,?_,?_⟩
  ·simp only[dP];exact h4
  ·simp only[Uaf];exact h6
  ·simp only[dP,aB]
   exact⟨by rw[hbx];rfl,hsome⟩
  ·simp only[dP]
   intro k c hc
   rcases List.mem_cons.1 hc with hc|hc
   ·obtain⟨rfl,rfl⟩:=Prod.mk.inj hc
    refine .inr ⟨rfl,_,rfl,⟨by rw[hbx];exact h1,by rw[hbx,hown];rfl,fun j l hj=>?_⟩,by rw[hbx];exact hnewb⟩
    rw[hbx]
    have:=h7 j l hj
    rwa[Rbt]at this
   ·exact h8 k c hc
theorem Ca4:∀ {ss:List LR} {i q:Nat} {vs:List Value},sS G'.own w' ds s.boxes.length i q ss vs->i+pU ss<=ds.length->(Z.deps=[]\/Rai ρ (Taf (y0+i) ss)) ->
  (gd=false\/bxL ss=0)->(∀ j x,(owL w' ss vs)[j]?=some x->hs[q+j]?=some x)->(∀ ad∈Na7 ss vs,ad=adn)->UIn σ' nr (eB gd Z.deps nb (y0+i) (nr+q) ss).2.1 ->
  (eB gd Z.deps nb (y0+i) (nr+q) ss).2.2=nr+q+qL ss/\(owL w' ss vs).length=qL ss/\aD σ' ρ (gK gd ρ G w s Z nr nb G'.own hs adn) w' (eB gd Z.deps nb (y0+i) (nr+q) ss).1 vs/\UOk (fun b=>¬ (b<w.heap.size/\Nar ((callG ρ G w s Z).own b)=false)) σ' ρ (gK gd ρ G w s Z nr nb G'.own hs adn) w' nr nb y0 (eB gd Z.deps nb (y0+i) (nr+q) ss).2.1
 | [], i, q, vs, h, _, _, _, _, _, _ => by
  simp only[sS]at h
  subst h
  exact⟨rfl,rfl,by simp[eB,aD],by simp[UOk,eB]⟩
 | t :: ss, i, q, vs, h, hi, hfit, hgd, hh, had, hu => by
  obtain⟨u,us,rfl,h1,h2⟩:=h
  simp only[pU]at hi
  simp only[eB]at hu
  obtain⟨h3,h4,h5,h6⟩:=Saf A (gd:=gd) (nb:=nb) (hs:=hs) (adn:=adn) (.inr trivial) h1 (by omega) (hfit.imp id fun e m y hm=>e m y (by
    cases t with
    |ow m'=>simp only[Taf,Qb6]at hm ⊢;rw[hm];exact Qb7
    |bx cs=>simp only[Taf,Rbm]at hm ⊢;exact Qbv _ hm
    |_=>simp[Taf]at hm))
   (hgd.imp id fun e=>by cases t<;>simp only[bxL]at e ⊢<;>omega) (fun j x hj=>hh j x (by
    simp only[owL]
    rw[Rbc (List.getElem?_eq_some_iff.1 hj).1];exact hj))
   (fun ad hm=>had ad (by simp only[Na7];exact Qbv _ hm)) hu.left
  have hrec:=Ca4 (ss:=ss) (i:=i+t.n) (q:=q+t.q) h2 (by omega) (hfit.imp id fun e m y hm=>e m y (by
    cases t with
    |ow m'=>simp only[Taf];exact Qb2 _ hm
    |bx cs=>simp only[Taf];rw[Rbi];exact Qby _ hm
    |_=>exact hm)) (hgd.imp id fun e=>by cases t<;>simp only[bxL]at e<;>omega) (fun j x hj=>by
    have:=hh (t.q+j) x (by
     simp only[owL]
     rw[Rbb (by rw[h4];omega),h4,Rb1]
     exact hj)
    rwa[<- Rbi]at this) (fun ad hm=>had ad (by simp only[Na7];exact Qby _ hm)) (by
    have:=hu.right
    rw[h3]at this
    rw[<- Rbi,<- Rbi]
    exact this)
  rw[<- Rbi,<- Rbi]at hrec
  obtain⟨h7,h8,h9,h10⟩:=hrec
  simp only[eB]
  rw[h3]
  refine⟨by rw[h7];simp only[qL];omega,by simp only[owL,Qbs,h4,h8,qL],?_,h6.append h10⟩
  simp only[aD]
  exact⟨u,us,rfl,h5,h9⟩
theorem Kat:∀ {rs:List (Bool×List LR)} {i q:Nat} {us:List Value},Las G'.own w' ds s.boxes.length i q rs us->i+bW rs<=ds.length->(Z.deps=[]\/Rai ρ (Ab9 (y0+i) rs)) ->
  (gd=false\/lZ rs=0)->(∀ j x,(owR w' rs us)[j]?=some x->hs[q+j]?=some x)->(∀ ad∈Jad rs us,ad=adn)->UIn σ' nr (jO gd Z.deps nb (y0+i) (nr+q) rs).2.1 ->
  (jO gd Z.deps nb (y0+i) (nr+q) rs).2.2=nr+q+qR rs/\(owR w' rs us).length=qR rs/\jQ σ' ρ (gK gd ρ G w s Z nr nb G'.own hs adn) w' (jO gd Z.deps nb (y0+i) (nr+q) rs).1 us/\UOk (fun b=>¬ (b<w.heap.size/\Nar ((callG ρ G w s Z).own b)=false)) σ' ρ (gK gd ρ G w s Z nr nb G'.own hs adn) w' nr nb y0 (jO gd Z.deps nb (y0+i) (nr+q) rs).2.1
 | [], i, q, us, h, _, _, _, _, _, _ => by
  simp only[Las]at h
  subst h
  exact⟨rfl,rfl,rfl,by simp[UOk,jO]⟩
 | (ag, ss) :: rs, i, q, us, h, hi, hfit, hgd, hh, had, hu => by
  obtain⟨u,us',vs,rfl,h1,h2,h3⟩:=h
  simp only[bW]at hi
  simp only[jO]at hu
  have hvs:(if ag=true then u.cells.toList else [u])=vs:=by
   cases ag with
   | true =>
    simp only[if_true]at h2 ⊢
    rw[h2];simp[Value.cells]
   |false=>simp only[Qbr,if_false]at h2 ⊢;exact h2.symm
  obtain⟨h4,h5,h6,h7⟩:=Ca4 A (gd:=gd) (nb:=nb) (hs:=hs) (adn:=adn) h1 (by omega) (hfit.imp id fun e m y hm=>e m y (by simp only[Ab9];exact Qbv _ hm))
   (hgd.imp id fun e=>by simp only[lZ]at e;omega) (fun j x hj=>hh j x (by
    simp only[owR,hvs]
    rw[Rbc (List.getElem?_eq_some_iff.1 hj).1];exact hj))
   (fun ad hm=>had ad (by simp only[Jad,hvs];exact Qbv _ hm)) hu.left
  have hrec:=Kat (rs:=rs) (i:=i+pU ss) (q:=q+qL ss) h3 (by omega) (hfit.imp id fun e m y hm=>e m y (by
    simp only[Ab9]
    rw[Rbi]
    exact Qby _ hm)) (hgd.imp id fun e=>by simp only[lZ]at e;omega) (fun j x hj=>by
    have:=hh (qL ss+j) x (by
     simp only[owR,hvs]
     rw[Rbb (by rw[h5];omega),h5,Rb1]
     exact hj)
    rwa[<- Rbi]at this) (fun ad hm=>had ad (by simp only[Jad];exact Qby _ hm)) (by
    have:=hu.right
    rw[h4]at this
    rw[<- Rbi,<- Rbi]
    exact this)
  rw[<- Rbi,<- Rbi]at hrec
  obtain⟨h8,h9,h10,h11⟩:=hrec
  simp only[jO]
  rw[h4]
  exact⟨by rw[h8];simp only[qR];omega,by simp only[owR,hvs,Qbs,h5,h9,qR],⟨u,us',vs,rfl,h6,h2,h10⟩,h7.append h11⟩
theorem Ba7 (hnb:σ (kB nb)=none):∀ {bs:List (Bool×List (BS×BO))} {b i q:Nat} {bu:List (Nat×aU)},(∀ j x,bs[j]?=some x->s.boxes[b+j]?=some x)->(nR Z.ptrs Z.deps b (y0+i) (nr+q) bs).eval σ=some bu ->
  qV G'.own w' ds (callG ρ G w s Z).bx b i q bs->i+fO bs<=ds.length->(Z.deps=[]\/Rai ρ (Wa0 (y0+i) bs))->(gd=false\/∀ x∈bs,x.1=false->San (x.2.map (·.2))=true) ->
  (∀ j x,(owB w' (callG ρ G w s Z).bx b bs)[j]?=some x->hs[q+j]?=some x)->UIn σ' nr bu ->
  (∀ k c,(k,c)∈bu->(∃ q m i,k=kR (nr+q)/\c=.root (.v (y0+i)) m 0 .live/\Rp (gK gd ρ G w s Z nr nb G'.own hs adn).own w' (nr+q) [] m ((gK gd ρ G w s Z nr nb G'.own hs adn).hdr (nr+q)) ((aM.v (y0+i)).val ρ)) \/
   ∃ c0 ls0 ls,k=kB c0/\σ (kB c0)=some (.box false ls0)/\c=.box false ls/\ls.length=ls0.length /\
    ((∀ j l,ls0[j]?=some l->∃ v,w.cell? ((G.bx c0).add j)=some v/\(aB σ ρ G w l v->aB σ' ρ (gK gd ρ G w s Z nr nb G'.own hs adn) w' l v))->Lau σ' ρ (gK gd ρ G w s Z nr nb G'.own hs adn) w' c0 false ls)) /\
  (∀ c,c∈jH false Z.ptrs b bs->∃ x,(kB c,x)∈bu)
 | [], b, i, q, bu, _, h, _, _, _, _, _, _ => by
  simp only[nR,aC,Option.some.injEq]at h
  subst h
  exact⟨by simp,by simp[jH]⟩
 | (ro, cs) :: bs, b, i, q, bu, hbs, h, hf, hi, hfit, hgd, hh, hu => by
  simp only[nR]at h
  have hbs':∀ j x,bs[j]?=some x->s.boxes[b+1+j]?=some x:=fun j x hj=>by
   rw[show b+1+j=b+(j+1) by omega]
   exact hbs (j+1) x (by simpa using hj)
  cases ro with
  | true =>
   simp only[cond_true]at h
   simp only[qV,if_true]at hf
   simp only[fO,cond_true,Rbt]at hi
   obtain⟨h1,h2⟩:=Ba7 hnb (bs:=bs) (b:=b+1) hbs' h hf hi (hfit.imp id fun e m y hm=>e m y (by simp only[Wa0,cond_true];exact hm)) (hgd.imp id fun e x hx=>e x (Qb2 _ hx))
    (fun j x hj=>hh j x (by simp only[owB,if_true];exact hj)) hu
   refine⟨h1,fun c hc=>h2 c ?_⟩
   have e:(true==false)=false:=rfl
   simp only[jH,e,cond_false]at hc
   exact hc
  | false =>
   simp only[cond_false]at h
   simp only[qV,Qbr,if_false]at hf
   simp only[fO,cond_false]at hi
   split at h
   case h_2=>cases h
   rename_i c off hp
   simp only[aA,aV,Qb3]at h
   split at h
   case h_2=>cases h
   rename_i ls0 hkb
   simp only[aA,Qbp,aC,Option.some.injEq]at h
   obtain⟨rest,h1,rfl⟩:=h
   have hbx:(callG ρ G w s Z).bx b=(G.bx c).add off:=by simp only[callG,hp]
   rw[hbx]at hf
   have hsb:=hbs 0 _ rfl
   rw[Rby]at hsb
   obtain⟨c',off',ro',ls',e1,e2,e3,e4⟩:=A.B.bx b false cs hsb
   rw[hp]at e1
   obtain⟨rfl,rfl⟩:c=c'/\off=off':=by simpa using e1
   rw[hkb]at e2
   obtain⟨rfl,rfl⟩:false=ro'/\ls0=ls':=by simpa using e2
   have hu1:UIn σ' nr (eU Z.deps (y0+i) (nr+q) (cs.map (·.2))).2.1:=fun k x hx=>hu k x (Qb2 _ (Qbv _ hx))
   have hu2:UIn σ' nr rest:=fun k x hx=>hu k x (Qb2 _ (Qby _ hx))
   obtain⟨h2,h3,h4,h5,h6⟩:=Ba9 A (gd:=gd) (nb:=nb) (hs:=hs) (adn:=adn) hf.1 (by simp;omega) (hfit.imp id fun e m y hm=>e m y (by simp only[Wa0,cond_false];exact Qbv _ hm))
    (hgd.imp id fun e=>e _ Qb7 rfl) (fun j x hj=>hh j x (by
     simp only[owB,Qbr,if_false,hbx]
     rw[Rbc (List.getElem?_eq_some_iff.1 hj).1];exact hj)) hu1
   rw[Rbf]at h3
   rw[h2]at h1
   have hrec:=Ba7 hnb (bs:=bs) (b:=b+1) (i:=i+cs.length) (q:=q+qC (cs.map (·.2))) hbs' (by rw[<- Rbi,<- Rbi];exact h1) hf.2 (by omega)
    (hfit.imp id fun e m y hm=>e m y (by simp only[Wa0,cond_false];rw[Rbi];exact Qby _ hm)) (hgd.imp id fun e x hx=>e x (Qb2 _ hx)) (fun j x hj=>by
     have:=hh (qC (cs.map (·.2))+j) x (by
      simp only[owB,Qbr,if_false,hbx]
      rw[Rbb (by rw[h4];omega),h4,Rb1]
      exact hj)
     rwa[<- Rbi]at this) hu2
   obtain⟨h7,h8⟩:=hrec
   refine⟨fun k x hx=>?_,fun c2 hc2=>?_⟩
   ·rcases List.mem_cons.1 hx with hx|hx
    ·obtain⟨rfl,rfl⟩:=Prod.mk.inj hx
     refine .inr ⟨c,ls0,_,rfl,hkb,rfl,mH (by rw[h3];exact e3),fun hold=>?_⟩
     obtain⟨hb1,hb2,hb3⟩:=A.B.hR.box hkb
     simp only[Qbr,if_false]at hb2
     have hcn:c≠nb:=fun e=>by rw[e,hnb]at hkb;cases hkb
     have hgbx:(gK gd ρ G w s Z nr nb G'.own hs adn).bx c=G.bx c:=by simp only[gK,if_neg hcn]
     have hpos:0<ls0.length:=by have:=(e4 rfl).2;omega
     obtain⟨v0,hc0,-,-⟩:=hb3 0 _ (Qbz hpos)
     have hlt:(G.bx c).block<w.heap.size:=by have:=Bbf hc0;rwa[add_block]at this
     obtain⟨h9,h10⟩:=A.B.boxes (gd:=gd) (nr:=nr) (nb:=nb) (hs:=hs) (adn:=adn) hb2 hlt
     refine⟨by rw[hgbx];exact hb1,by rw[hgbx,h9];rfl,fun j l hj=>?_⟩
     rw[hgbx]
     rw[jB (by rw[h3];exact e3)]at hj
     split at hj
     ·rename_i hr
      obtain⟨v,h11,h12,h13⟩:=h5 _ l hj
      rw[add_add,Rbt,show off+(j-off)=j by omega]at h11 h12
      exact⟨v,h11,h12,h13⟩
     ·rename_i hr
      obtain⟨v,h11,h12,h13⟩:=hb3 j l hj
      obtain⟨v',h14,h15⟩:=hold j l hj
      rw[h11]at h14
      obtain rfl:=Option.some.inj h14
      rcases h10 with h10|⟨j2,cs2,off2,ls2,c0,c1,e,fr,f1,f2,f3,f4,f5,f6,f7,f8,f9⟩
      ·exact⟨v,(iH (w:=w) (w':=w') (by rw[add_block];exact h10)).trans h11,(lY (w:=w) (w':=w') (by rw[add_block];exact h10)).trans h12,h15 h13⟩
      ·
       have hsb':rR (0+b) Z.ptrs=some (c,off):=by rw[Rbt];exact hp
       have hx1:=vC A.B.hk.wr hsb hsb'
       have f2':rR (0+j2) Z.ptrs=some (c,off2):=by rw[Rbt];exact f2
       have hx2:=vC A.B.hk.wr f1 f2'
       rw[hx1]at hx2
       have hjj:b=j2:=by have:=Option.some.inj hx2;omega
       subst hjj
       rw[hp]at f2
       rw[hsb]at f1
       obtain⟨-,rfl⟩:c=c/\off=off2:=by simpa using f2
       obtain rfl:cs=cs2:=by simpa using f1
       rw[h3]at hr
       have hcell:∀ (ww:World) (cc:Array Value),ww.heap[(G.bx c).block]?=some (.cells cc e fr)->ww.cell? ((G.bx c).add j)=cc[(G.bx c).off+j]?/\ww.frozen? ((G.bx c).add j)=(fr.1<=(G.bx c).off+j&&(G.bx c).off+j<fr.2):=by
        intro ww cc hcc
        have:=Vac (n:=j) hb1
        refine⟨?_,?_⟩
        ·unfold World.cell?
         rw[add_block,hcc]
         simp[this,Tal]
        ·unfold World.frozen?
         rw[add_block,hcc]
         simp[Tal]
       obtain⟨g1,g2⟩:=hcell w c0 f6
       obtain⟨g3,g4⟩:=hcell w' c1 f7
       refine⟨v,?_,by rw[g4,<- g2];exact h12,h15 h13⟩
       rw[g3,f9 _ (by omega),<- g1]
       exact h11
    ·rcases List.mem_append.1 hx with hx|hx
     ·rcases h6 k x hx with h9|⟨h9,-⟩
      ·exact .inl h9
      ·exfalso
       have:∀ (l:List BO) (y n:Nat),∀ z∈(eU Z.deps y n l).2.1,∃ r,z.1=kR r:=by
        intro l
        induction l with
        |nil=>intro y n z hz;simp[eU]at hz
        | cons t l ih =>
         intro y n z hz
         simp only[eU]at hz
         rcases List.mem_append.1 hz with hz|hz
         ·cases t<;>simp[kI]at hz
          exact⟨n,by rw[hz]⟩
         ·exact ih _ _ z hz
       obtain⟨r,hr⟩:=this _ _ _ _ hx
       rw[h9]at hr
       exact gV hr
     ·exact h7 k x hx
   ·simp only[jH]at hc2
    have e:(false==false)=true:=rfl
    rw[e,cond_true,hp]at hc2
    rcases List.mem_cons.1 hc2 with rfl|hc2
    ·exact⟨_,Qb7⟩
    ·obtain⟨x,hx⟩:=h8 c2 hc2
     exact⟨x,Qb2 _ (Qby _ hx)⟩
end
end Go.Proofs.YtdpfilpckndhcaaGreatDoor.Rf

namespace Go.Proofs.YtdpfilpckndhcaaGreatDoor.Rf
set_option linter.unusedVariables false
set_option linter.unusedSimpArgs false
theorem Iau {f:Nat}{vs:List SV}:∀ {l:List (Nat×Sig)} {key:Nat} {s:Sig},Iav f vs l=some (key,s)->(key,s)∈l/\s.fn=f
 |[],key,s,h=>by simp[Iav]at h
 | (k, t) :: l, key, s, h => by
  simp only[Iav]at h
  revert h
  generalize hb:(Nat.beq t.fn f&&Taj t.params vs)=b
  intro h
  cases b with
  | false =>
   rw[cond_false]at h
   obtain⟨h1,h2⟩:=Iau h
   exact⟨Qb2 _ h1,h2⟩
  | true =>
   rw[cond_true]at h
   obtain⟨rfl,rfl⟩:=Prod.mk.inj (Option.some.inj h)
   simp only[Qbq,Rbv]at hb
   exact⟨Qb7,hb.1⟩
section
variable {E:Env} {F:bU} {σ:Nat->Option aU} {ρ:List D} {a:Act} {w:World} {G:Gh} {g:Option (aM×Bool)} {cf:Nat->List D->Option (List D)}
theorem Ya8 {l:aW}{s:SlR}(h:(Aak l).eval σ=some s):∀ z∈s.deps,Nah σ z.1 z.2:=by
 unfold Aak at h
 split at h
 ·rename_i r
  simp only[aA,aV,Qb3]at h
  split at h
  ·rename_i x m ver hk
   simp only[aC,Option.some.injEq]at h
   subst h
   intro z hz
   simp only[Qb6]at hz
   subst hz
   exact⟨m,x,hk⟩
  ·simp only[aC,Option.some.injEq]at h
   subst h
   simp
  ·cases h
 ·rename_i deps p nie x
  simp only[aA,Qbp]at h
  obtain⟨ds,h1,h2⟩:=h
  obtain⟨h3,h4,h5⟩:=jL h1
  split at h2
  ·simp only[aC,Option.some.injEq]at h2
   subst h2
   exact fun z hz=>(h4 z hz).2
  ·rename_i r k z hne
   simp only[aA,aV,Qb3]at h2
   split at h2
   ·simp only[aC,Option.some.injEq]at h2
    subst h2
    intro z' hz'
    simp only[Qb6]at hz'
    subst hz'
    have:=h4 z (by simp)
    have e:=this.1
    simp only[Qb6]at e
    rw[e]at this
    exact this.2
   ·cases h2
  ·simp only[aC,Option.some.injEq]at h2
   subst h2
   exact fun z hz=>(h4 z hz).2
 ·cases h
def rtD:RT->Nat
 |.mu _ d _ _=>d
 |_=>0
def Baz:Nat->List RT->List Nat
 |_,[]=>[]
 |ν,.mu _ _ _ _::t=>ν::Baz (ν+1) t
 |ν,_::t=>Baz (ν+1) t
theorem Pa9:∀ {rts:List RT} {ν0 j ν:Nat},(Baz ν0 rts)[j]?=some ν->∃ x:RT,(rts.filter zI)[j]?=some x/\ν0<=ν/\rts[ν-ν0]?=some x
 |[],ν0,j,ν,h=>by simp[Baz]at h
 | x :: t, ν0, j, ν, h => by
  have next:∀ {j:Nat},(Baz (ν0+1) t)[j]?=some ν->∃ y:RT,(t.filter zI)[j]?=some y/\ν0<=ν/\(x::t)[ν-ν0]?=some y:=by
   intro j h
   obtain⟨y,h1,h2,h3⟩:=Pa9 h
   refine⟨y,h1,by omega,?_⟩
   rw[show ν-ν0=(ν-(ν0+1))+1 by omega]
   simpa using h3
  cases x with
  | mu r d q X =>
   simp only[Baz]at h
   cases j with
   | zero =>
    simp only[Qb4,Option.some.injEq]at h
    subst h
    exact⟨.mu r d q X,by simp[zI,Sbq],Qbw _,by simp⟩
   | succ j =>
    obtain⟨y,h1,h2,h3⟩:=next (by simpa using h)
    exact⟨y,by simpa[zI,Sbq] using h1,h2,h3⟩
  | nil =>
   obtain⟨y,h1,h2,h3⟩:=next h
   exact⟨y,by simpa[zI,Sbq] using h1,h2,h3⟩
  | own r d =>
   obtain⟨y,h1,h2,h3⟩:=next h
   exact⟨y,by simpa[zI,Sbq] using h1,h2,h3⟩
theorem Pa8:∀ (rts:List RT) (ν0:Nat),(Baz ν0 rts).length=(rts.filter zI).length
 |[],ν0=>rfl
 |x::t,ν0=>by cases x<;>simp[Baz,zI,Pa8 t,Sbq]
theorem Fa4:∀ (a b:List RT) (ν0:Nat),Baz ν0 (a++b)=Baz ν0 a++Baz (ν0+a.length) b
 |[],b,ν0=>rfl
 | x :: a, b, ν0 => by
  have:=Fa4 a b (ν0+1)
  rw[show ν0+1+a.length=ν0+(a.length+1) by omega]at this
  cases x<;>simp[Baz,this]
def Fb8 (σ:Nat->Option aU)(ρ:List D)(G:Gh)(w:World):RT->Prop
 |.nil=>True
 |.own r _=>∃ x m ver,σ (kR r)=some (.root x m ver .live)
 |.mu r d q X=>∃ m ver u,σ (kR r)=some (.root X m ver .live)/\q.length+d<=m/\Cae G.own w r [] (G.hdr r) (bJ ρ q) u
structure Wa5 (σ:Nat->Option aU) (A B:Take) (rn:List RT) (ms:List Nat) (mr:List Nat):Prop where
 rts:B.rts=A.rts++rn
 deps:∀ z∈B.deps,z∈A.deps\/Nah σ z.1 z.2
 ms:(rn.filter zI).map rtD=ms
 mr:Baz A.rts.length rn=mr
theorem Kaf {A B:Take}{d:Nat}{l:aW}(h:(xQ A d l).eval σ=some B):∃ rn,Wa5 σ A B rn [] []/\rn.length=1/\∀ x∈rn,Fb8 σ ρ G w x:=by
 unfold xQ at h
 split at h
 ·rename_i r
  simp only[aA,aV,Qb3]at h
  split at h
  ·rename_i x m ver hk
   simp only[aA,aL,Qbp,aC,Option.some.injEq]at h
   obtain⟨_,-,rfl⟩:=h
   refine⟨[.own r d],⟨rfl,fun z hz=>.inl hz,rfl,rfl⟩,rfl,fun y hy=>?_⟩
   simp only[Qb6]at hy
   subst hy
   exact⟨x,m,ver,hk⟩
  ·cases h
 ·simp only[aC,Option.some.injEq]at h
  subst h
  refine⟨[.nil],⟨rfl,fun z hz=>.inl hz,rfl,rfl⟩,rfl,fun y hy=>?_⟩
  simp only[Qb6]at hy
  subst hy
  trivial
 ·cases h
theorem Kai {A B:Take}{nie:Bool}{l:aW}(h:(uV A nie l).eval σ=some B):Wa5 σ A B [] [] []:=by
 unfold uV at h
 simp only[aA,Qbp,aC,Option.some.injEq]at h
 obtain⟨s,h1,rfl⟩:=h
 exact⟨by simp,fun z hz=>(List.mem_append.1 hz).imp id fun hz=>Ya8 h1 z hz,rfl,rfl⟩
theorem Vas {A B:Take}{z:Nat}{l:aW}(h:(Hap A z l).eval σ=some B):Wa5 σ A B [] [] []:=by
 unfold Hap at h
 split at h
 ·simp only[aA,Qbp,aC,Option.some.injEq]at h
  obtain⟨ds,h1,rfl⟩:=h
  exact⟨by simp,fun z hz=>(List.mem_append.1 hz).imp id fun hz=>((jL h1).2.1 z hz).2,rfl,rfl⟩
 ·simp only[aC,Option.some.injEq]at h
  subst h
  exact⟨by simp,fun z hz=>.inl hz,rfl,rfl⟩
 ·cases h
theorem Oau (P:Prop)(hR:P->R E.ntmps F σ ρ a w G){A B:Take}{t:LS}{l:aW}(h:(vW g A t l).eval σ=some B)(hl:P->∃ v,aB σ ρ G w l v) :
  ∃ rn,Wa5 σ A B rn (fG [t]) (fQ A.rts.length [t])/\rn.length=t.rcnt/\(P->∀ x∈rn,Fb8 σ ρ G w x):=by
 unfold vW at h
 split at h
 ·simp only[Oar,aA,Qbp,aC,Option.some.injEq]at h
  obtain⟨x,-,rfl⟩:=h
  exact⟨[],⟨by simp,fun z hz=>.inl hz,rfl,rfl⟩,rfl,by simp⟩
 ·exact⟨[],Kai h,rfl,by simp⟩
 ·rename_i _ d
  unfold Kag at h
  simp only[aA,Qbp]at h
  obtain⟨sl,h1,h⟩:=h
  split at h
  case h_2=>cases h
  rename_i r k m q ho
  simp only[aA,aL,aV,Qb3,Qbp]at h
  obtain⟨_,h2,h⟩:=h
  split at h2
  case isFalse=>cases h2
  rename_i hb
  simp only[Rb8]at hb
  split at h
  case h_2=>cases h
  rename_i X m' v' hkr
  simp only[aC,Option.some.injEq]at h
  subst h
  refine⟨[.mu r d q X],⟨rfl,fun z hz=>.inl hz,rfl,rfl⟩,rfl,fun hP y hy=>?_⟩
  simp only[Qb6]at hy
  subst hy
  obtain⟨v,hv⟩:=hl hP
  have hown:=(fF (hR hP) h1 hv).own
  unfold xZ at hown
  rw[ho]at hown
  obtain⟨h3,⟨x,h4⟩,h5,h6,h7⟩:=hown
  rw[hkr]at h4
  obtain⟨rfl,rfl,rfl⟩:X=x/\m'=m/\v'=k:=by
   have:=Option.some.inj h4
   injection this with e1 e2 e3
   exact⟨e1,e2,e3⟩
  exact⟨_,_,_,hkr,hb,h7⟩
 ·obtain⟨rn,h1,h2,h3⟩:=Kaf (ρ:=ρ) (G:=G) (w:=w) h
  exact⟨rn,h1,h2,fun _=>h3⟩
 ·simp only[aC,Option.some.injEq]at h
  subst h
  exact⟨[],⟨by simp,fun z hz=>.inl hz,rfl,rfl⟩,rfl,by simp⟩
 ·split at h
  ·rw[iR]at h
   split at h
   ·simp only[aC,Option.some.injEq]at h
    subst h
    exact⟨[],⟨by simp,fun z hz=>.inl hz,rfl,rfl⟩,rfl,by simp⟩
   ·cases h
  ·cases h
 ·exact⟨[],Vas h,rfl,by simp⟩
 ·cases h
theorem Wa5.trans {A B C:Take}{rn rn':List RT}{ms ms' mr mr':List Nat}(h:Wa5 σ A B rn ms mr)(h':Wa5 σ B C rn' ms' mr'):Wa5 σ A C (rn++rn') (ms++ms') (mr++mr'):=by
 refine⟨by rw[h'.rts,h.rts,Qb1],fun z hz=>?_,by rw[List.filter_append,List.map_append,h.ms,h'.ms],?_⟩
 ·rcases h'.deps z hz with h1|h1
  ·exact h.deps z h1
  ·exact .inr h1
 ·rw[Fa4,h.mr]
  have:=h'.mr
  rw[h.rts,Qbs]at this
  rw[this]
theorem wR (t:LS)(ss:List LS):fG (t::ss)=fG [t]++fG ss:=by cases t<;>rfl
theorem zB (t:LS)(ss:List LS)(r:Nat):fQ r (t::ss)=fQ r [t]++fQ (r+t.rcnt) ss:=by cases t<;>rfl
theorem zC:∀ (x y:List LS),fG (x++y)=fG x++fG y
 |[],y=>rfl
 |t::x,y=>by rw[Sbk,wR,wR t x,zC x y,Qb1]
theorem Bae:∀ (x y:List LS) (r:Nat),fQ r (x++y)=fQ r x++fQ (r+kU x) y
 |[],y,r=>rfl
 | t :: x, y, r => by
  rw[Sbk,zB,zB t x,Bae x y,Qb1]
  simp only[kU,Rbi]
theorem Aa9 (P:Prop)(hR:P->R E.ntmps F σ ρ a w G):∀ {ss:List LS} {ls:List aW} {A B:Take},(dW g A ss ls).eval σ=some B->(P->∃ vs,aD σ ρ G w ls vs) ->
  ∃ rn,Wa5 σ A B rn (fG ss) (fQ A.rts.length ss)/\rn.length=kU ss/\(P->∀ x∈rn,Fb8 σ ρ G w x)
 | [], [], A, B, h, _ => by
  simp only[dW,aC,Option.some.injEq]at h
  subst h
  exact⟨[],⟨by simp,fun z hz=>.inl hz,rfl,rfl⟩,rfl,by simp⟩
 |[],_::_,A,B,h,_=>by simp[dW,dF]at h
 |_::_,[],A,B,h,_=>by simp[dW,dF]at h
 | t :: ss, l :: ls, A, B, h, hl => by
  simp only[dW,aA,Qbp]at h
  obtain⟨C,h1,h2⟩:=h
  obtain⟨rn,h3,h4,h5⟩:=Oau P hR h1 (fun hP=>by
   obtain⟨vs,hv⟩:=hl hP
   simp only[aD]at hv
   obtain⟨u,us,-,hu,-⟩:=hv
   exact⟨u,hu⟩)
  obtain⟨rn',h6,h7,h8⟩:=Aa9 P hR h2 (fun hP=>by
   obtain⟨vs,hv⟩:=hl hP
   simp only[aD]at hv
   obtain⟨u,us,-,-,hu⟩:=hv
   exact⟨us,hu⟩)
  have:=h3.trans h6
  rw[h3.rts,Qbs,h4,<- zB,<- wR]at this
  exact⟨rn++rn',this,by simp[h4,h7,kU],fun hP x hx=>(List.mem_append.1 hx).elim (h5 hP x) (h8 hP x)⟩
theorem yD (P:Prop)(hR:P->R E.ntmps F σ ρ a w G):∀ {ps:List (Bool×List LS)} {vs:List SV} {A B:Take},(gH g A ps vs).eval σ=some B->(P->∃ us,vS σ ρ G w vs us) ->
  ∃ rn,Wa5 σ A B rn (fG (ps.flatMap (·.2))) (fQ A.rts.length (ps.flatMap (·.2)))/\rn.length=jV ps/\(P->∀ x∈rn,Fb8 σ ρ G w x)
 | [], [], A, B, h, _ => by
  simp only[gH,aC,Option.some.injEq]at h
  subst h
  exact⟨[],⟨by simp,fun z hz=>.inl hz,rfl,rfl⟩,rfl,by simp⟩
 |[],_::_,A,B,h,_=>by simp[gH,dF]at h
 |_::_,[],A,B,h,_=>by simp[gH,dF]at h
 | (ag, ss) :: ps, v :: vs, A, B, h, hl => by
  simp only[gH,aA,Qbp,bA]at h
  obtain⟨ls,h0,C,h1,h2⟩:=h
  obtain⟨rn,h3,h4,h5⟩:=Aa9 P hR h1 (fun hP=>by
   obtain⟨us,u,us',rfl,hu,-⟩:=hl hP
   exact⟨_,jC h0 hu⟩)
  obtain⟨rn',h6,h7,h8⟩:=yD P hR h2 (fun hP=>by
   obtain⟨us,u,us',rfl,-,hu⟩:=hl hP
   exact⟨us',hu⟩)
  have:=h3.trans h6
  rw[h3.rts,Qbs,h4,<- Bae,<- zC]at this
  exact⟨rn++rn',by rw[List.flatMap_cons];exact this,by simp[h4,h7,jV],fun hP x hx=>(List.mem_append.1 hx).elim (h5 hP x) (h8 hP x)⟩
theorem Cai:∀ {ss:List (BS×BO)} {ls:List aW} {A B:Take},(fJ A ss ls).eval σ=some B->∃ rn,Wa5 σ A B rn [] []/\∀ x∈rn,Fb8 σ ρ G w x
 | [], ls, A, B, h => by
  simp only[fJ,aC,Option.some.injEq]at h
  subst h
  exact⟨[],⟨by simp,fun z hz=>.inl hz,rfl,rfl⟩,by simp⟩
 |_::_,[],A,B,h=>by simp[fJ,dF]at h
 | (t, o) :: ss, l :: ls, A, B, h => by
  simp only[fJ,aA,Qbp]at h
  obtain⟨C,h1,h2⟩:=h
  obtain⟨rn',h6,h8⟩:=Cai h2
  have key:∃ rn,Wa5 σ A C rn [] []/\∀ x∈rn,Fb8 σ ρ G w x:=by
   have hinv:=tF h1
   clear h1
   rcases hinv with ⟨x,rfl,rfl,rfl⟩|⟨nie,rfl,h⟩|⟨d,rfl,h⟩|⟨rfl,-,rfl⟩
   ·exact⟨[],⟨by simp,fun z hz=>.inl hz,rfl,rfl⟩,by simp⟩
   ·exact⟨[],Kai h,by simp⟩
   ·obtain⟨rn,h3,-,h5⟩:=Kaf (ρ:=ρ) (G:=G) (w:=w) h
    exact⟨rn,h3,h5⟩
   ·exact⟨[],⟨by simp,fun z hz=>.inl hz,rfl,rfl⟩,by simp⟩
  obtain⟨rn,h3,h5⟩:=key
  exact⟨rn++rn',h3.trans h6,fun x hx=>(List.mem_append.1 hx).elim (h5 x) (h8 x)⟩
theorem vX {ptrs:List (Nat×Nat×Nat)}:∀ {bs:List (Bool×List (BS×BO))} {b:Nat} {A B:Take},(fZ ptrs A b bs).eval σ=some B->∃ rn,Wa5 σ A B rn [] []/\∀ x∈rn,Fb8 σ ρ G w x
 | [], b, A, B, h => by
  simp only[fZ,aC,Option.some.injEq]at h
  subst h
  exact⟨[],⟨by simp,fun z hz=>.inl hz,rfl,rfl⟩,by simp⟩
 | (ro, cs) :: bs, b, A, B, h => by
  simp only[fZ]at h
  split at h
  case h_2=>cases h
  simp only[aA,aV,Qb3]at h
  split at h
  case h_2=>cases h
  simp only[aA,aL,Qbp]at h
  obtain⟨_,-,C,h1,h2⟩:=h
  obtain⟨rn,h3,h5⟩:=Cai (ρ:=ρ) (G:=G) (w:=w) h1
  obtain⟨rn',h6,h8⟩:=vX h2
  exact⟨rn++rn',h3.trans h6,fun x hx=>(List.mem_append.1 hx).elim (h5 x) (h8 x)⟩
theorem Aaq (hg:gOn ρ g=true):∀ {rts:List RT} {y nv:Nat} {ml:List Step} {mu:List (Nat×aU)},(Baf y nv rts).eval σ=some (ml,mu)->aQ cf ρ g nv ml ->
  (∀ k c,(k,c)∈mu->∃ (j r d:Nat) (q:List (aM×Nat×Nat)) (X X0:aM) (m ver:Nat) (X':aM),(rts.filter zI)[j]?=some (RT.mu r d q X)/\k=kR r/\c=.root X' m (ver+1) .live/\σ (kR r)=some (.root X0 m ver .live)/\(q.length+d=m\/sI d ((aM.v (y+j)).val ρ)=true)/\Upd (bJ ρ q) (X.val ρ) ((aM.v (y+j)).val ρ) (X'.val ρ))
 | [], y, nv, ml, mu, h, _ => by
  simp only[Baf,aC,Option.some.injEq,Prod.mk.injEq]at h
  obtain⟨rfl,rfl⟩:=h
  simp
 | .nil :: t, y, nv, ml, mu, h, hst => by
  have:=Aaq hg (rts:=t) h hst
  simpa[zI,Sbq] using this
 | .own r d :: t, y, nv, ml, mu, h, hst => by
  have:=Aaq hg (rts:=t) h hst
  simpa[zI,Sbq] using this
 | .mu r d q X :: t, y, nv, ml, mu, h, hst => by
  simp only[Baf,aA,aV,Qb3]at h
  split at h
  case h_2=>cases h
  rename_i X0 m ver hk
  simp only[aA,Qbp,aC,Option.some.injEq,Prod.mk.injEq]at h
  obtain⟨⟨ls,us⟩,h1,rfl,rfl⟩:=h
  obtain⟨hs0,hst'⟩:=aQ.append hst
  obtain⟨hfd,hn0⟩:(q.length+d=m\/sI d ((aM.v y).val ρ)=true)/\bT (bif Nat.beq (q.length+d) m then [] else [Step.prim (.dep d) [.v y] 0])=0:=by
   cases hb:Nat.beq (q.length+d) m with
   |true=>exact⟨.inl (Nat.eq_of_beq_eq_true hb),rfl⟩
   | false =>
    rw[hb,cond_false]at hs0
    obtain⟨ds,h1,-,-⟩:=hs0.1.1 hg
    simp only[Rbh,Rbq,aO.run]at h1
    split at h1
    ·rename_i hf;exact⟨.inr hf,rfl⟩
    ·cases h1
  rw[hn0,Rby]at hst'
  obtain⟨hs1,hs2⟩:=aQ.append hst'
  have hrec:=Aaq hg h1 hs2
  intro k c hc
  rcases List.mem_cons.1 hc with hc|hc
  ·obtain⟨rfl,rfl⟩:=Prod.mk.inj hc
   exact⟨0,r,d,q,X,X0,m,ver,_,by simp[zI,Sbq],rfl,rfl,hk,hfd,Dad hg q nv X (.v y) hs1⟩
  ·obtain⟨j,r',d',q',X',X1,m',ver',X2,h2,h3,h4,h5,h5',h6⟩:=hrec k c hc
   exact⟨j+1,r',d',q',X',X1,m',ver',X2,by simpa[zI,Sbq] using h2,h3,h4,h5,by rw[show y+(j+1)=y+1+j by omega];exact h5',by rw[show y+(j+1)=y+1+j by omega];exact h6⟩
theorem Aar:∀ {rts:List RT} {y nv:Nat} {ml:List Step} {mu:List (Nat×aU)},(Baf y nv rts).eval σ=some (ml,mu)->∀ r,r∈dO rts->(∃ c,(kR r,c)∈mu)\/∃ c,(kR r,c)∈iI rts
 |[],y,nv,ml,mu,h,r,hr=>by simp[dO]at hr
 |.nil::t,y,nv,ml,mu,h,r,hr=>Aar (rts:=t) h r hr
 | .own s d :: t, y, nv, ml, mu, h, r, hr => by
  simp only[dO,Rbk]at hr
  rcases hr with rfl|hr
  ·exact .inr ⟨_,by simp only[iI];exact Qb7⟩
  ·exact (Aar (rts:=t) h r hr).imp id fun ⟨c,hc⟩=>⟨c,by simp only[iI];exact Qb2 _ hc⟩
 | .mu s d q X :: t, y, nv, ml, mu, h, r, hr => by
  simp only[Baf,aA,aV,Qb3]at h
  split at h
  case h_2=>cases h
  simp only[aA,Qbp,aC,Option.some.injEq,Prod.mk.injEq]at h
  obtain⟨⟨ls,us⟩,h1,rfl,rfl⟩:=h
  simp only[dO,Rbk]at hr
  rcases hr with rfl|hr
  ·exact .inl ⟨_,Qb7⟩
  ·exact (Aar h1 r hr).imp (fun ⟨c,hc⟩=>⟨c,Qb2 _ hc⟩) id
theorem mP:∀ {rts:List RT} {k:Nat} {c:aU},(k,c)∈iI rts->∃ r,k=kR r/\c=.root (.c .hole) 0 0 .gone
 |[],k,c,h=>by simp[iI]at h
 |.nil::t,k,c,h=>mP (rts:=t) h
 |.mu s d q X::t,k,c,h=>mP (rts:=t) h
 | .own s d :: t, k, c, h => by
  simp only[iI,Rbk,Prod.mk.injEq]at h
  rcases h with ⟨rfl,rfl⟩|h
  ·exact⟨s,rfl,rfl⟩
  ·exact mP h
end
end Go.Proofs.YtdpfilpckndhcaaGreatDoor.Rf

namespace Go.Proofs.YtdpfilpckndhcaaGreatDoor.Rf
set_option linter.unusedVariables false
set_option linter.unusedSimpArgs false
theorem zW {deps:List (Nat×Nat)}:∀ (cs:List BO) (y n:Nat),(eU deps y n cs).2.2=n+qC cs/\∀ k c,(k,c)∈(eU deps y n cs).2.1->∃ r y m,n<=r/\k=kR r/\c=.root (.v y) m 0 .live
 |[],y,n=>⟨rfl,by simp[eU]⟩
 | t :: cs, y, n => by
  have hb:(kI deps y n t).2.2=n+t.q/\∀ k c,(k,c)∈(kI deps y n t).2.1->∃ r y m,n<=r/\k=kR r/\c=.root (.v y) m 0 .live:=by
   cases t<;>refine⟨rfl,fun k c hc=>?_⟩<;>simp[kI]at hc
   exact⟨n,y,_,Qbw _,hc.1,hc.2⟩
  obtain⟨h1,h2⟩:=hb
  simp only[eU]
  rw[h1]
  obtain⟨h3,h4⟩:=zW (deps:=deps) cs (y+1) (n+t.q)
  refine⟨by rw[h3];simp only[qC];omega,fun k c hc=>?_⟩
  rcases List.mem_append.1 hc with hc|hc
  ·exact h2 k c hc
  ·obtain⟨r,y',m,h5,h6,h7⟩:=h4 k c hc
   exact⟨r,y',m,by omega,h6,h7⟩
theorem Pal {gd:Bool}{deps:List (Nat×Nat)}{nb:Nat}(t:LR)(y n:Nat):(dP gd deps nb y n t).2.2=n+t.q/\∀ k c,(k,c)∈(dP gd deps nb y n t).2.1->(∃ r y m,n<=r/\k=kR r/\c=.root (.v y) m 0 .live)\/(k=kB nb/\∃ ls,c=.box false ls):=by
 cases t with
 | bx cs =>
  obtain⟨h3,h4⟩:=zW (deps:=deps) cs y n
  simp only[dP]
  refine⟨h3,fun k c hc=>?_⟩
  rcases List.mem_cons.1 hc with hc|hc
  ·obtain⟨rfl,rfl⟩:=Prod.mk.inj hc
   exact .inr ⟨rfl,_,rfl⟩
  ·exact .inl (h4 k c hc)
 | ow m =>
  cases gd with
  |true=>exact⟨rfl,by simp[dP]⟩
  | false =>
   refine⟨rfl,fun k c hc=>?_⟩
   simp[dP]at hc
   exact .inl ⟨n,y,m,Qbw _,hc.1,hc.2⟩
 |_=>exact⟨rfl,by simp[dP]⟩
theorem Bac {gd:Bool}{deps:List (Nat×Nat)}{nb:Nat}:∀ (ss:List LR) (y n:Nat),(eB gd deps nb y n ss).2.2=n+qL ss/\∀ k c,(k,c)∈(eB gd deps nb y n ss).2.1->(∃ r y m,n<=r/\k=kR r/\c=.root (.v y) m 0 .live)\/(k=kB nb/\∃ ls,c=.box false ls)
 |[],y,n=>⟨rfl,by simp[eB]⟩
 | t :: ss, y, n => by
  obtain⟨h1,h2⟩:=Pal (gd:=gd) (deps:=deps) (nb:=nb) t y n
  simp only[eB]
  rw[h1]
  obtain⟨h3,h4⟩:=Bac (gd:=gd) (deps:=deps) (nb:=nb) ss (y+t.n) (n+t.q)
  refine⟨by rw[h3];simp only[qL];omega,fun k c hc=>?_⟩
  rcases List.mem_append.1 hc with hc|hc
  ·exact h2 k c hc
  ·exact (h4 k c hc).imp (fun ⟨r,y',m,h5,h6⟩=>⟨r,y',m,by omega,h6⟩) id
theorem Ha7 {gd:Bool}{deps:List (Nat×Nat)}{nb:Nat}:∀ (rs:List (Bool×List LR)) (y n:Nat),(jO gd deps nb y n rs).2.2=n+qR rs/\∀ k c,(k,c)∈(jO gd deps nb y n rs).2.1->(∃ r y m,n<=r/\k=kR r/\c=.root (.v y) m 0 .live)\/(k=kB nb/\∃ ls,c=.box false ls)
 |[],y,n=>⟨rfl,by simp[jO]⟩
 | (ag, ss) :: rs, y, n => by
  obtain⟨h1,h2⟩:=Bac (gd:=gd) (deps:=deps) (nb:=nb) ss y n
  simp only[jO]
  rw[h1]
  obtain⟨h3,h4⟩:=Ha7 (gd:=gd) (deps:=deps) (nb:=nb) rs (y+pU ss) (n+qL ss)
  refine⟨by rw[h3];simp only[qR];omega,fun k c hc=>?_⟩
  rcases List.mem_append.1 hc with hc|hc
  ·exact h2 k c hc
  ·exact (h4 k c hc).imp (fun ⟨r,y',m,h5,h6⟩=>⟨r,y',m,by omega,h6⟩) id
theorem zV {σ:Nat->Option aU}{ptrs:List (Nat×Nat×Nat)}{deps:List (Nat×Nat)}:∀ {bs:List (Bool×List (BS×BO))} {b y n:Nat} {bu:List (Nat×aU)},(nR ptrs deps b y n bs).eval σ=some bu ->
  ∀ k c,(k,c)∈bu->(∃ r y m,n<=r/\k=kR r/\c=.root (.v y) m 0 .live)\/(∃ c0 ls0 ls,k=kB c0/\σ (kB c0)=some (.box false ls0)/\c=.box false ls)
 | [], b, y, n, bu, h => by
  simp only[nR,aC,Option.some.injEq]at h
  subst h;simp
 | (ro, cs) :: bs, b, y, n, bu, h => by
  simp only[nR]at h
  cases ro with
  |true=>exact zV (bs:=bs) h
  | false =>
   simp only[cond_false]at h
   split at h
   case h_2=>cases h
   simp only[aA,aV,Qb3]at h
   split at h
   case h_2=>cases h
   rename_i ls0 hkb
   simp only[aA,Qbp,aC,Option.some.injEq]at h
   obtain⟨rest,h1,rfl⟩:=h
   obtain⟨h3,h4⟩:=zW (deps:=deps) (cs.map (·.2)) y n
   rw[h3]at h1
   intro k c hc
   rcases List.mem_cons.1 hc with hc|hc
   ·obtain⟨rfl,rfl⟩:=Prod.mk.inj hc
    exact .inr ⟨_,_,_,rfl,hkb,rfl⟩
   ·rcases List.mem_append.1 hc with hc|hc
    ·exact .inl (h4 k c hc)
    ·exact (zV h1 k c hc).imp (fun ⟨r,y',m,h5,h6⟩=>⟨r,y',m,by omega,h6⟩) id
theorem Lat {own:Nat->Ow}{w:World}{ds:List D}{gh:Nat->Value}:∀ {ms:List Nat} {i j k d:Nat},Vaf own w ds gh i j ms->ms[k]?=some d->Rp own w (2*(j+k)+1) [] d (gh (j+k)) (ds.getD (i+k) .undef)
 |[],i,j,k,d,_,h=>by simp at h
 | e :: ms, i, j, 0, d, h, hk => by
  simp only[Qb4,Option.some.injEq]at hk
  subst hk
  exact h.1
 | e :: ms, i, j, k + 1, d, h, hk => by
  have:=Lat h.2 (k:=k) (by simpa using hk)
  rw[show j+(k+1)=j+1+k by omega,show i+(k+1)=i+1+k by omega]
  exact this
theorem jQ.len {σ:Nat->Option aU}{ρ:List D}{G:Gh}{w:World}:∀ {ts:List (Bool×List aW)} {us:List Value},jQ σ ρ G w ts us->us.length=ts.length
 |[],us,h=>by simp only[jQ]at h;subst h;rfl
 | (a, ls) :: r, us, h => by
  obtain⟨u,us',vs,rfl,-,-,h3⟩:=h
  simp[jQ.len h3]
theorem Ya5 {σ:Nat->Option aU}{ρ:List D}{G:Gh}{w:World}{g:Option (aM×Bool)}(hg:gOn ρ g=true){rs:List (Bool×List aW)}{us:List Value}(h:jQ σ ρ G w rs us):dV σ ρ G w (Ca3 g rs) (Fax us):=by
 unfold Ca3
 split
 ·rename_i x
  obtain⟨u,us',vs,rfl,h1,h2,h3⟩:=h
  simp only[jQ]at h3
  subst h3
  simp only[Qbr,if_false]at h2
  subst h2
  simp only[aD,List.cons.injEq]at h1
  obtain⟨u',us',⟨rfl,rfl⟩,h4,-⟩:=h1
  simp only[aB]at h4
  simp only[Fax]
  cases g with
  |none=>simp only[mkS,dV,aB];exact h4
  |some z=>simp only[mkS,dV,aB];exact⟨.inl h4,fun _=>h4⟩
 ·rename_i l _
  obtain⟨u,us',vs,rfl,h1,h2,h3⟩:=h
  simp only[jQ]at h3
  subst h3
  simp only[Qbr,if_false]at h2
  subst h2
  simp only[aD,List.cons.injEq]at h1
  obtain⟨u',us',⟨rfl,rfl⟩,h4,-⟩:=h1
  simp only[Fax,dV]
  exact h4
 ·rename_i ls
  obtain⟨u,us',vs,rfl,h1,h2,h3⟩:=h
  simp only[jQ]at h3
  subst h3
  simp only[if_true]at h2
  simp only[Fax,dV]
  exact⟨vs,h2,h1⟩
 ·rename_i _ h1 h2 h3
  simp only[dV]
  match us,rs,h with
  |[],[],h=>exact⟨[],rfl,h⟩
  | [u], [(a, ls)], h =>
   exfalso
   obtain⟨u',us',vs,e,h4,h5,h6⟩:=h
   obtain⟨rfl,rfl⟩:=List.cons.inj e
   cases a with
   |true=>exact h3 ls rfl
   | false =>
    simp only[Qbr,if_false]at h5
    subst h5
    have:=h4.len
    match ls,this with
    |[l],_=>exact h2 l rfl
  |u::u'::us,r::r'::rs,h=>exact⟨_,rfl,h⟩
  |[],_::_,h=>have:=h.len;simp at this
  |[_],[],h=>have:=h.len;simp at this
  |[_],_::_::_,h=>have:=h.len;simp at this
  |_::_::_,[],h=>have:=h.len;simp at this
  |_::_::_,[_],h=>have:=h.len;simp at this
theorem xL {σ:Nat->Option aU}{ptrs:List (Nat×Nat×Nat)}:∀ {bs:List (Bool×List (BS×BO))} {b:Nat} {xs:List aM},(jI ptrs b bs).eval σ=some xs->∀ x∈bs,x.1=false->San (x.2.map (·.2))=true
 |[],b,xs,h,x,hx,_=>by simp at hx
 | (ro, cs) :: bs, b, xs, h, x, hx, hro => by
  simp only[jI]at h
  cases ro with
  | true =>
   simp only[cond_true]at h
   rcases List.mem_cons.1 hx with rfl|hx
   ·cases hro
   ·exact xL h x hx hro
  | false =>
   simp only[cond_false]at h
   split at h
   case h_2=>cases h
   simp only[aA,aV,Qb3]at h
   split at h
   case h_2=>cases h
   simp only[aA,Qbp,aC,Option.some.injEq]at h
   obtain⟨l,h1,m,h2,-⟩:=h
   rcases List.mem_cons.1 hx with rfl|hx
   ·clear h2
    rename_i ls0 _
    generalize ls0.drop _=ls at h1
    dsimp only
    clear hx hro
    induction cs generalizing ls l with
    |nil=>rfl
    | cons t cs ih =>
     obtain⟨s,o⟩:=t
     cases ls with
     |nil=>simp[lQ,dF]at h1
     | cons x ls =>
      simp only[lQ,aA,Qbp]at h1
      obtain⟨y,h3,r,h4,-⟩:=h1
      have:=ih _ _ h4
      cases o with
      |ow m=>cases s<;>simp[dF]at h3
      |_=>simpa[San] using this
   ·exact xL h2 x hx hro
end Go.Proofs.YtdpfilpckndhcaaGreatDoor.Rf

namespace Go.Proofs.YtdpfilpckndhcaaGreatDoor.Rf
set_option linter.unusedVariables false
set_option linter.unusedSimpArgs false
def Wat (o:Oper)(g:Option (aM×Bool))(rs:List (Bool×List aW)):List (Nat×aU):=match o.dst with
 |some d=>[(kT d,.slot (Db1 g (Ca3 g rs)) (Ca3 g rs))]
 |none=>[]
section
variable {E:Env} {F:bU} {σ:Nat->Option aU} {ρ:List D} {a:Act} {w w':World} {G:Gh} {g:Option (aM×Bool)} {cf:Nat->List D->Option (List D)} {o:Oper} {s:Sig} {T Z:Take} {nb nr y0 nvm:Nat}
theorem Daz {rs:List (Bool×List aW)}:Wat o g rs=fB o (Db1 g (Ca3 g rs)) (Ca3 g rs):=rfl
theorem Bbg (hR:R E.ntmps F σ ρ a w G)(hg:gOn ρ g=true)(hd:gM E.ntmps o)(hf:Eae σ nb nr){vs:List SV}{us0:List Value}(hu0:vS σ ρ G w vs us0)
  (hT:(gH g Take.empty s.params vs).eval σ=some T) (hZ:(fZ T.ptrs T 0 s.boxes).eval σ=some Z) (hk:Lar s Z) (hbx1:lZ s.results<=1)
  (hgd:noG g=true\/(lZ s.results=0/\∃ olds,(jI Z.ptrs 0 s.boxes).eval σ=some olds))
  {rs:List (Bool×List aW)} {us bu mu:List (Nat×aU)} {nr1:Nat} {ml:List Step} {ds:List D} (hres:jO (!noG g) Z.deps nb y0 nr s.results=(rs,us,nr1))
  (hbu:(nR Z.ptrs Z.deps 0 (y0+bW s.results+(Z.rts.filter zI).length) nr1 s.boxes).eval σ=some bu) {nv1:Nat} (hmu:(Baf (y0+bW s.results) nv1 Z.rts).eval σ=some (ml,mu))
  (hlen:ds.length=bW s.results+(Z.rts.filter zI).length+fO s.boxes) (hval:∀ j d,ds[j]?=some d->(aM.v (y0+j)).val ρ=d)
  (hchk:Z.deps=[]\/Rai ρ (Ab9 y0 s.results++Bba (y0+bW s.results) Z.rts++Wa0 (y0+bW s.results+(Z.rts.filter zI).length) s.boxes)) (hml:aQ cf ρ g nv1 ml)
  (hkey:(Wat o g rs++(us++bu++mu++iI Z.rts)).all (fun x=>Aa4 E.ntmps nb nr x.1)=true)
  {v:Value} (hpost:Tan s (uQ s (callG ρ G w s Z) w) (callG ρ G w s Z).bx v w' ds) :
  ∃ G2,R E.ntmps F (upds σ (Wat o g rs++(us++bu++mu++iI Z.rts))) ρ (a.put o.dst v) w' G2:=by
 obtain⟨G',us',rfl,hF,hres',hmus,hboxes⟩:=hpost
 obtain⟨hle1,hptr,hbxok⟩:=mE hZ
 rw[<- hptr]at hbxok
 obtain⟨rn,hn1,hn2,hn3⟩:=yD True (fun _=>hR) hT (fun _=>⟨us0,hu0⟩)
 obtain⟨rn',hn4,hn5⟩:=vX (ρ:=ρ) (G:=G) (w:=w) hZ
 have hnew:=hn1.trans hn4
 have hZrts:Z.rts=rn++rn':=by have:=hnew.rts;simpa[Take.empty] using this
 have hrtok:∀ x∈Z.rts,Fb8 σ ρ G w x:=by
  rw[hZrts]
  exact fun x hx=>(List.mem_append.1 hx).elim (hn3 trivial x) (hn5 x)
 have hms:(Z.rts.filter zI).map rtD=fG (s.params.flatMap (·.2)):=by
  have:=hnew.ms
  rw[<- hZrts,Rbm]at this
  exact this
 have hmr:Baz 0 Z.rts=fQ 0 (s.params.flatMap (·.2)):=by
  have:=hnew.mr
  rw[<- hZrts,Rbm]at this
  exact this
 have hdeps:∀ z∈Z.deps,Nah σ z.1 z.2:=fun z hz=>by
  rcases hnew.deps z hz with h|h
  ·simp[Take.empty]at h
  ·exact h
 have B:Raj E F σ ρ a w G s Z G' w':=by
  refine⟨hR,hk,hF,fun j ro cs hj=>by have:=hbxok j ro cs hj;rwa[Rbt]at this,hdeps,fun ν r d q X hν=>?_,fun ν r d hν=>?_⟩
  ·obtain⟨m,ver,u,h1,h2,h3⟩:=hrtok _ (Rba hν)
   exact⟨m,ver,u,h1,h2,h3⟩
  ·obtain⟨x,m,ver,h1⟩:=hrtok _ (Rba hν)
   exact⟨x,m,ver,h1⟩
 generalize hU:Wat o g rs++(us++bu++mu++iI Z.rts)=U at hkey ⊢
 let hs:=owR w' s.results us'++owB w' (callG ρ G w s Z).bx 0 s.boxes
 let adn:=(Jad s.results us').headD ⟨0,0,none⟩
 let G2:=gK (!noG g) ρ G w s Z nr nb G'.own hs adn
 have hUin:∀ k c,(k,c)∈U->(k,c)∈Wat o g rs\/(k,c)∈us\/(k,c)∈bu\/(k,c)∈mu\/(k,c)∈iI Z.rts:=by
  intro k c hc
  rw[<- hU]at hc
  rcases List.mem_append.1 hc with hc|hc
  ·exact .inl hc
  ·rcases List.mem_append.1 hc with hc|hc
   ·rcases List.mem_append.1 hc with hc|hc
    ·rcases List.mem_append.1 hc with hc|hc
     ·exact .inr (.inl hc)
     ·exact .inr (.inr (.inl hc))
    ·exact .inr (.inr (.inr (.inl hc)))
   ·exact .inr (.inr (.inr (.inr hc)))
 have hUdst:∀ z∈Wat o g rs,z∈U:=fun z hz=>by rw[<- hU];exact Qbv _ hz
 have hUus:∀ z∈us,z∈U:=fun z hz=>by rw[<- hU];exact Qby _ (Qbv _ (Qbv _ (Qbv _ hz)))
 have hUbu:∀ z∈bu,z∈U:=fun z hz=>by rw[<- hU];exact Qby _ (Qbv _ (Qbv _ (Qby _ hz)))
 have hUmu:∀ z∈mu,z∈U:=fun z hz=>by rw[<- hU];exact Qby _ (Qbv _ (Qby _ hz))
 have hUgo:∀ z∈iI Z.rts,z∈U:=fun z hz=>by rw[<- hU];exact Qby _ (Qby _ hz)
 have hkin:∀ k c,(k,c)∈U->Aa4 E.ntmps nb nr k=true:=fun k c hc=>by
  rw[List.all_eq_true]at hkey
  exact hkey _ hc
 obtain⟨hnr1,hkres⟩:=Ha7 (gd:=!noG g) (deps:=Z.deps) (nb:=nb) s.results y0 nr
 rw[hres]at hnr1 hkres
 dsimp only at hnr1 hkres
 subst hnr1
 have hkbu:=zV hbu
 have hmurep:=Aaq hg hmu hml
 have hnewroot:∀ r c,(kR r,c)∈U->nr<=r->σ (kR r)=none:=fun r c hc hr=>hf.nr r hr (Ea8 (hkin _ _ hc))
 have hdk:∀ k c,(k,c)∈Wat o g rs->∃ d,o.dst=some d/\k=kT d/\c=.slot (Db1 g (Ca3 g rs)) (Ca3 g rs):=fun k c hc=>by
  rw[Daz]at hc
  exact Aaz hc
 have hfr:Fr σ G w (upds σ U) G2 w':=by
  refine Fr.of (fun b hb hlt=>B.frz hb hlt) (fun r b p hnot hb=>?_) (fun r c hc hc'=>?_) (fun r x m k hkz b p hb=>?_) (fun r hr=>?_) (fun b hb=>?_)
  ·refine B.other (fun hr=>?_) hb
   rcases Aar hmu r hr with ⟨c,hc⟩|⟨c,hc⟩
   ·exact hnot c (hUmu _ hc)
   ·exact hnot c (hUgo _ hc)
  ·rcases hUin _ _ hc with h|h|h|h|h
   ·obtain⟨d,-,e,-⟩:=hdk _ _ h
    exact absurd e.symm jE
   ·rcases hkres _ _ h with ⟨r',y,m,h1,h2,rfl⟩|⟨h1,-⟩
    ·obtain rfl:=gD h2
     exact .inl ⟨hnewroot r _ hc h1,_,_,_,_,rfl⟩
    ·exact absurd h1.symm gV
   ·rcases hkbu _ _ h with ⟨r',y,m,h1,h2,rfl⟩|⟨c0,ls0,ls,h1,-⟩
    ·obtain rfl:=gD h2
     exact .inl ⟨hnewroot r _ hc (by omega),_,_,_,_,rfl⟩
    ·exact absurd h1.symm gV
   ·obtain⟨j,r',d,q,X,X0,m,ver,X',h1,h2,rfl,h3,-⟩:=hmurep _ _ h
    obtain rfl:=gD h2
    exact .inr (.inl ⟨_,_,_,_,_,h3,rfl⟩)
   ·obtain⟨r',h1,rfl⟩:=mP h
    exact .inr (.inr (.inl ⟨_,_,_,_,rfl,by simp,by simp⟩))
  ·have hb:G2.own b=.slc r p:=hb
   simp only[G2,gK]at hb
   split at hb
   ·cases e:G.own b with
    | slc r' p' =>
     rw[e]at hb
     simp only[Bax]at hb
     split at hb
     ·cases hb
     ·split at hb
      ·split at hb
       ·exact hb
       ·cases hb
      ·exact hb
     ·exact hb
    |_=>rw[e]at hb;simp[Bax]at hb
   ·cases e:G'.own b with
    | slc t p' =>
     rw[e]at hb
     simp only[xM]at hb
     split at hb
     ·split at hb
      ·cases hb
      ·split at hb
       ·rename_i hlt
        injection hb with e1 e2
        have:=hf.nr r (by omega) (by omega)
        rw[this]at hkz;cases hkz
       ·cases hb
     ·split at hb
      ·rename_i r' d q X hmuj
       injection hb with e1 e2
       subst e1
       have hm:=(List.mem_filter.1 (Rba hmuj)).1
       obtain⟨m',ver',u',h1,-⟩:=hrtok _ hm
       rw[h1]at hkz;cases hkz
      ·cases hb
    | box β =>
     rw[e]at hb
     simp only[xM]at hb
     split at hb<;>cases hb
    |_=>rw[e]at hb;simp[xM]at hb
  ·show (if nr<=r/\r<nr+dM then _ else G.hdr r)=_
   rw[if_neg]
   rintro⟨h1,h2⟩
   rw[hf.nr r h1 h2]at hr
   cases hr
  ·show (if b=nb then adn else G.bx b)=_
   rw[if_neg]
   intro e
   rw[e,hf.nb]at hb
   cases hb
 have hsome:∀ k c,(k,c)∈U->(upds σ U k).isSome:=fun k c hc=>fI _ _ _ (.inr ⟨c,hc⟩)
 have huin:∀ l:List (Nat×aU),(∀ z∈l,z∈U)->UIn (upds σ U) nr l:=fun l hl k c hc=>by
  refine⟨hsome k c (hl _ hc),fun q e=>?_⟩
  have:=hkin _ _ (hl _ hc)
  rw[e]at this
  have:=Ea8 this
  omega
 have hval':∀ i,i<ds.length->(aM.v (y0+i)).val ρ=ds.getD i .undef:=fun i hi=>by
  rw[Qb5,Qbz hi,Sbr]
  exact hval i _ (Qbz hi)
 have A:Aft E F σ (upds σ U) ρ a w G s Z G' w' y0 ds:=by
  refine⟨B,hval',fun z hz=>hfr.known _ _ ?_⟩
  obtain⟨m,x,hx⟩:=hdeps z hz
  exact⟨x,m,z.2,.live,hx,fun _=>Qbw _⟩
 have hgdb:(!noG g)=false\/lZ s.results=0:=by
  rcases hgd with h|h
  ·exact .inl (by rw[h];rfl)
  ·exact .inr h.1
 have hres2:=Kat A (gd:=!noG g) (nb:=nb) (nr:=nr) (hs:=hs) (adn:=adn) (i:=0) (q:=0) hres' (by omega) (hchk.imp id fun h m y hm=>h m y (Qbv _ (Qbv _ hm)))
  hgdb (fun j x hj=>by
   rw[Rbt]
   show (owR w' s.results us'++_)[j]?=some x
   rw[Rbc (List.getElem?_eq_some_iff.1 hj).1]
   exact hj) (fun ad had=>by
   have hl:=Qa9 s.results us'
   show ad=(Jad s.results us').headD _
   match hb:Jad s.results us',had with
   |[x],had=>simpa using had
   |x::y::l,had=>rw[hb]at hl;simp at hl;omega) (by
   rw[Rby,Rby,hres]
   exact huin us hUus)
 rw[Rby,Rby,hres]at hres2
 dsimp only at hres2
 obtain⟨-,hq1,htup,huok⟩:=hres2
 have hmslen:(fG (s.params.flatMap (·.2))).length=(Z.rts.filter zI).length:=by rw[<- hms];simp
 rw[hmslen]at hboxes
 have hbu2:=Ba7 A (gd:=!noG g) (nb:=nb) (nr:=nr) (hs:=hs) (adn:=adn) hf.nb (bs:=s.boxes) (b:=0) (i:=bW s.results+(Z.rts.filter zI).length) (q:=qR s.results) (bu:=bu) (by simp)
  (by rw[<- Rbi];exact hbu) hboxes (by omega) (hchk.imp id fun h m y hm=>h m y (Qby _ (by rw[Rbi];exact hm)))
  (by
   rcases hgd with h|⟨-,olds,h⟩
   ·exact .inl (by rw[h];rfl)
   ·exact .inr (xL h)) (fun j x hj=>by
   show (owR w' s.results us'++owB w' (callG ρ G w s Z).bx 0 s.boxes)[qR s.results+j]?=some x
   rw[Rbb (by omega),hq1,Rb1]
   exact hj) (huin bu hUbu)
 obtain⟨hbu3,hbu4⟩:=hbu2
 refine⟨G2,hR.upd U hfr (by rw[Ca7];exact hR.tmps) (by rw[put_defers];exact hR.defers) B.frame (fun t ht=>?_) (fun b ro ls hb hnot=>?_) (fun b ls hb hlt ho=>?_) (fun k c hc hc'=>?_)⟩
 ·rw[<- hU,Daz]at ht
  exact Gat ht
 ·
  obtain⟨h1,h2,h3⟩:=hR.box hb
  have hlt:(G.bx b).block<w.heap.size:=by
   rcases Rbj (G.bx b).block w.heap.size with h|h
   ·exact h
   ·rw[hR.frame.fresh _ h]at h2
    split at h2<;>cases h2
  cases ro with
  | true =>
   simp only[if_true]at h2
   obtain⟨h4,h5⟩:=B.oth (gd:=!noG g) (nr:=nr) (nb:=nb) (hs:=hs) (adn:=adn) h2 hlt
   exact⟨h4.trans h2.symm,h5⟩
  | false =>
   simp only[Qbr,if_false]at h2
   obtain⟨h4,h5⟩:=B.boxes (gd:=!noG g) (nr:=nr) (nb:=nb) (hs:=hs) (adn:=adn) h2 hlt
   refine⟨h4.trans h2.symm,?_⟩
   rcases h5 with h5|⟨j,cs,off,ls2,c0,c1,e,fr,e1,e2,e3,e4,-⟩
   ·exact h5
   ·exfalso
    have hm:=xK (wr:=false) (b:=0) e1 (by rw[Rbt];exact e2)
    obtain⟨x,hx⟩:=hbu4 b hm
    exact hnot x (hUbu _ hx)
 ·
  rcases hUin _ _ hb with h|h|h|h|h
  ·obtain⟨d,-,e,-⟩:=hdk _ _ h
   exact absurd e.symm oP
  ·rcases huok _ _ h with ⟨q,m,i,e,-⟩|⟨e,ls',e2,hbr,hnb⟩
   ·exact absurd e gV
   ·exfalso
    have e:=Fa2 e
    subst e
    refine hnb ⟨Nat.lt_of_lt_of_le hlt hR.frame.size,?_⟩
    have h1:=(hR.frame.boxes _ _ hlt ho).1
    have h2:(callG ρ G w s Z).own ((gK (!noG g) ρ G w s Z nr b G'.own hs adn).bx b).block=.oth\/∃ j,(callG ρ G w s Z).own ((gK (!noG g) ρ G w s Z nr b G'.own hs adn).bx b).block=.box j:=by
     have h1':G.own ((gK (!noG g) ρ G w s Z nr b G'.own hs adn).bx b).block=.box b:=h1
     simp only[callG,h1']
     split
     ·split
      ·exact .inr ⟨_,rfl⟩
      ·exact .inl rfl
     ·exact .inl rfl
    rcases h2 with h2|⟨j,h2⟩<;>rw[h2]<;>rfl
  ·rcases hbu3 _ _ h with ⟨q,m,i,e,-⟩|⟨c0,ls0,ls',e,h1,h2,h3,-⟩
   ·exact absurd e gV
   ·obtain rfl:=Fa2 e
    injection h2 with e1 e2
    have hbn:G2.bx b=G.bx b:=hfr.bx b (by rw[h1];rfl)
    rw[hbn]at hlt ho ⊢
    rw[hR.rng b ls0 h1 hlt ho,e2,h3]
  ·obtain⟨j,r',d,q,X,X0,m,ver,X',h1,h2,-⟩:=hmurep _ _ h
   exact absurd h2 gV
  ·obtain⟨r',h1,-⟩:=mP h
   exact absurd h1 gV
 ·rcases hUin _ _ hc with h|h|h|h|h
  ·obtain⟨d,hd',rfl,rfl⟩:=hdk _ _ h
   refine⟨d,rfl,fun _=>?_⟩
   rw[hd',qZ _ _ _ _ _ (hd d hd') hR.tmps]
   exact Ya5 hg htup
  ·rcases huok _ _ h with ⟨q,m,i,rfl,rfl,hrp⟩|⟨rfl,ls',rfl,hbr,-⟩
   ·exact⟨nr+q,rfl,by rw[hc'];rfl,hrp⟩
   ·exact⟨nb,rfl,hbr⟩
  ·rcases hbu3 _ _ h with ⟨q,m,i,rfl,rfl,hrp⟩|⟨c0,ls0,ls',rfl,h1,rfl,h3,h4⟩
   ·exact⟨nr+q,rfl,by rw[hc'];rfl,hrp⟩
   ·refine⟨c0,rfl,h4 fun j l hj=>?_⟩
    obtain⟨-,-,hcells⟩:=hR.box h1
    obtain⟨v,hv1,hv2,hv3⟩:=hcells j l hj
    exact⟨v,hv1,fun hl=>aB.mono hfr l v hl⟩
  ·obtain⟨j,r',d,q,X,X0,m,ver,X',h1,rfl,rfl,h3,hfd,h4⟩:=hmurep _ _ h
   refine⟨r',rfl,by rw[hc'];rfl,?_⟩
   show Rp G2.own w' r' [] m (G2.hdr r') (X'.val ρ)
   have hhd:G2.hdr r'=G.hdr r':=hfr.hdr r' (by rw[h3];rfl)
   rw[hhd]
   have hjlt:=(List.getElem?_eq_some_iff.1 h1).1
   have hidx:j<(Baz 0 Z.rts).length:=by rw[Pa8];exact hjlt
   have hν:=Qbz hidx
   obtain⟨x,hx1,-,hx2⟩:=Pa9 hν
   rw[h1]at hx1
   obtain rfl:=Option.some.inj hx1
   rw[Nat.sub_zero]at hx2
   have hd0:(fG (s.params.flatMap (·.2)))[j]?=some d:=by
    rw[<- hms,Rbu,h1];rfl
   have hfin:=Lat hmus hd0
   rw[Rbt]at hfin
   have hy:(aM.v (y0+bW s.results+j)).val ρ=ds.getD (bW s.results+j) .undef:=by
    rw[Rbi]
    exact hval' _ (by omega)
   rw[<- hy]at hfin
   have hgh:(uQ s (callG ρ G w s Z) w).gh j=Zaq w (G.hdr r') (bJ ρ q):=by
    simp only[uQ,Iao,Qb5]
    rw[<- hmr,Rbc (by simpa using hidx),Rbu,hν]
    simp only[Rb5,Sbr]
    rw[Da7 hx2]
    rfl
   rw[hgh]at hfin
   refine B.mu h3 hfd hx2 h1 (fun u' hn=>Ea4 hn) hfin (hchk.imp id fun hc=>?_) h4
   have hmem:∀ (rts:List RT) (y j:Nat) (r d:Nat) (q:List (aM×Nat×Nat)) (X:aM),(rts.filter zI)[j]?=some (RT.mu r d q X)->Step.prim (.dep d) [.v (y+j)] 0∈Bba y rts:=by
    intro rts
    induction rts with
    |nil=>intro y j r d q X h;simp at h
    | cons x t ih =>
     intro y j r d q X h
     cases x with
     |nil=>exact ih y j r d q X (by simpa[zI,Sbq] using h)
     |own _ _=>exact ih y j r d q X (by simpa[zI,Sbq] using h)
     | mu r' d' q' X' =>
      simp only[Bba]
      cases j with
      | zero =>
       simp[zI,Sbq]at h
       rw[h.2.1]
       exact Qb7
      | succ j =>
       have:=ih (y+1) j r d q X (by simpa[zI,Sbq] using h)
       rw[show y+1+j=y+(j+1) by omega]at this
       exact Qb2 _ this
   exact hc d _ (Qbv _ (Qby _ (hmem _ _ _ _ _ _ _ h1)))
  ·obtain⟨r',rfl,rfl⟩:=mP h
   exact⟨r',rfl,by rw[hc'];rfl,trivial⟩
end
end Go.Proofs.YtdpfilpckndhcaaGreatDoor.Rf

namespace Go.Proofs.YtdpfilpckndhcaaGreatDoor.Rf
set_option linter.unusedVariables false
set_option linter.unusedSimpArgs false
theorem Faj:∀ (cs:List BO) (y:Nat),bT (qP y cs)=0
 |[],y=>rfl
 |t::cs,y=>by cases t<;>simp only[qP,jD,Step.n,Faj cs]
theorem Fb5:∀ (ss:List LR) (y:Nat),bT (Taf y ss)=0
 |[],y=>rfl
 |t::ss,y=>by cases t<;>simp only[Taf,jD,gJ,Step.n,Faj,Fb5 ss]
theorem Fb3:∀ (rs:List (Bool×List LR)) (y:Nat),bT (Ab9 y rs)=0
 |[],y=>rfl
 |(a,ss)::rs,y=>by simp only[Ab9,gJ,Fb5,Fb3 rs]
theorem Fb4:∀ (ts:List RT) (y:Nat),bT (Bba y ts)=0
 |[],y=>rfl
 |t::ts,y=>by cases t<;>simp only[Bba,jD,Step.n,Fb4 ts]
theorem Fb6:∀ (bs:List (Bool×List (BS×BO))) (y:Nat),bT (Wa0 y bs)=0
 |[],y=>rfl
 |(ro,cs)::bs,y=>by cases ro<;>simp only[Wa0,cond_true,cond_false,gJ,Faj,Fb6 bs]
theorem Uax {ρ:List D}{g:Option (aM×Bool)}{cf:Nat->List D->Option (List D)}(hg:gOn ρ g=true):∀ {l:List Step} {nv:Nat},aQ cf ρ g nv l->Rai ρ l
 |[],nv,h=>fun m y hm=>by simp at hm
 | t :: l, nv, h => fun m y hm => by
  rcases List.mem_cons.1 hm with e|hm
  ·subst e
   obtain⟨ds,h1,-,-⟩:=h.1.1 hg
   simp only[Rbh,Rbq,aO.run]at h1
   split at h1
   ·rename_i hf;exact hf
   ·cases h1
  ·exact Uax hg h.2 m y hm
theorem Pam {deps:List (Nat×Nat)}{nb:Nat}:∀ (rs:List (Bool×List LR)) (y n:Nat),lZ rs=0->(jO true deps nb y n rs).2.1=[]
 |[],y,n,_=>rfl
 | (a, ss) :: rs, y, n, h => by
  simp only[lZ]at h
  have hl:∀ (ss:List LR) (y n:Nat),bxL ss=0->(eB true deps nb y n ss).2.1=[]:=by
   intro ss
   induction ss with
   |nil=>intro y n _;rfl
   | cons t ss ih =>
    intro y n h
    cases t with
    |bx cs=>simp[bxL]at h
    |_=>simp only[eB,dP,cond_true,Rb9];exact ih _ _ (by simpa[bxL] using h)
  simp only[jO,hl ss y n (by omega),Rb9]
  exact Pam rs _ _ (by omega)
theorem Kau {gd:Bool}{deps:List (Nat×Nat)}{nb y n:Nat}{rs:List (Bool×List LR)}{l:aW}(h:(jO gd deps nb y n rs).1=[(false,[l])]):(∀ g x,l≠.su g x)/\∀ x,l=.sc x->x=.v y/\1<=bW rs:=by
 match rs,h with
 |[],h=>simp[jO]at h
 |(a,ss)::r::rs,h=>simp[jO]at h
 | [(a, ss)], h =>
  simp only[jO,List.cons.injEq,Prod.mk.injEq,and_true]at h
  obtain⟨-,h⟩:=h
  match ss,h with
  |[],h=>simp[eB]at h
  |t::t'::ss,h=>simp[eB]at h
  | [t], h =>
   simp only[eB,List.cons.injEq,and_true]at h
   subst h
   cases t with
   |sc=>exact⟨fun g x e=>by simp[dP]at e,fun x e=>by simp[dP]at e;exact⟨e.symm,by simp[bW,pU,LR.n]⟩⟩
   |ow m=>cases gd<;>exact⟨fun g x e=>by simp[dP]at e,fun x e=>by simp[dP]at e⟩
   |_=>exact⟨fun g x e=>by simp[dP]at e,fun x e=>by simp[dP]at e⟩
theorem Ya6 {σ:Nat->Option aU}{ρ:List D}{G:Gh}{w:World}{z:aM×Bool}(hg:gOn ρ (some z)=false){gd:Bool}{deps:List (Nat×Nat)}{nb y n:Nat}{rs0:List (Bool×List LR)}{rs:List (Bool×List aW)}
  (hrs:(jO gd deps nb y n rs0).1=rs) (hv:1<=bW rs0->(aM.v y).val ρ=.undef) (h:gOn ρ (Db1 (some z) (Ca3 (some z) rs))=true):dV σ ρ G w (Ca3 (some z) rs) undef:=by
 unfold Ca3 at h ⊢
 split at h
 ·rename_i x
  obtain⟨h1,h2⟩:=(Kau hrs).2 x rfl
  subst h1
  simp only[mkS,dV,aB]
  exact⟨.inr ⟨trivial,hv h2⟩,fun e=>by rw[hg]at e;cases e⟩
 ·rename_i l hne
  have hns:=(Kau hrs).1
  exfalso
  revert h hns
  cases l with
  |su g' x'=>exact fun _ hns=>hns g' x' rfl
  |_=>intro e _;simp only[Db1]at e;rw[hg]at e;cases e
 ·simp only[Db1]at h;rw[hg]at h;cases h
 ·simp only[Db1]at h;rw[hg]at h;cases h
section
variable {P:Program} {E:Env} {F:bU} {σ:Nat->Option aU} {ρ:List D} {a:Act} {w w':World} {G:Gh} {g:Option (aM×Bool)} {cf:Nat->List D->Option (List D)} {o:Oper} {s:Sig} {T Z:Take} {nb nr y0 nvm:Nat}
theorem Fa0 (hR:R E.ntmps F σ ρ a w G){σ':Nat->Option aU}(hfr:Fr σ G w σ' G w){deps:List (Nat×Nat)}(hkn:∀ z∈deps,lJ σ z.1 z.2):∀ {cs:List (BS×BO)} {ls:List aW} {xs:List aM} {y n:Nat},(lQ cs ls).eval σ=some xs ->
  (∀ j x,xs[j]?=some x->(aM.v (y+j)).val ρ=x.val ρ)->(∀ (j:Nat) (nie:Bool) (o:BO) (l:aW),cs[j]?=some (BS.fz nie,o)->ls[j]?=some l->∃ r,(Aak l).eval σ=some r/\∀ z∈r.deps,z∈deps) ->
  xs.length=cs.length/\(eU deps y n (cs.map (·.2))).2.1=[]/\(eU deps y n (cs.map (·.2))).1.length=cs.length /\
  ∀ (j:Nat) (l l0:aW) (v:Value),(eU deps y n (cs.map (·.2))).1[j]?=some l->ls[j]?=some l0->aB σ ρ G w l0 v->aB σ' ρ G w l v
 | [], ls, xs, y, n, h, _, _ => by
  simp only[lQ,aC,Option.some.injEq]at h
  subst h
  exact⟨rfl,rfl,rfl,by simp[eU]⟩
 |_::_,[],xs,y,n,h,_,_=>by simp[lQ,dF]at h
 | (t, o) :: cs, l0 :: ls, xs, y, n, h, hx, hz => by
  simp only[lQ,aA,Qbp,aC,Option.some.injEq]at h
  obtain⟨x,h1,r,h2,rfl⟩:=h
  have hx0:(aM.v y).val ρ=x.val ρ:=by have:=hx 0 x rfl;rwa[Rby]at this
  have key:(kI deps y n o).2.1=[]/\∀ v,aB σ ρ G w l0 v->aB σ' ρ G w (kI deps y n o).1 v:=by
   split at h1
   ·rename_i x'
    simp only[aC,Option.some.injEq]at h1
    subst h1
    refine⟨rfl,fun v hv=>?_⟩
    simp only[kI,aB]at hv ⊢
    rw[hx0];exact hv
   ·rename_i _ nie
    simp only[aA,Qbp,aC,Option.some.injEq]at h1
    obtain⟨sl,h3,rfl⟩:=h1
    refine⟨rfl,fun v hv=>?_⟩
    obtain⟨sl',h4,h5⟩:=hz 0 nie .fz _ rfl rfl
    rw[h3]at h4
    obtain rfl:=Option.some.inj h4
    have hs:=fF hR h3 hv
    have hone:v.oneCell'=true:=hv.one (by cases l0<;>first|rfl|cases h3)
    have hl:aB σ ρ G w (.sn deps .no false (.v y)) v:=by
     simp only[aB]
     refine⟨⟨hone,hkn⟩,fun _=>⟨?_,fun e=>absurd e (by decide),trivial⟩⟩
     rw[hx0]
     refine hs.rd.mono fun b hb=>⟨?_,rfl⟩
     rcases hb with hb|⟨r,k,p,hm,hb⟩
     ·exact .inl hb
     ·exact .inr ⟨r,k,p,h5 _ hm,hb⟩
    exact aB.mono hfr _ v hl
   ·rw[iR]at h1
    split at h1
    ·rename_i hs
     simp only[aC,Option.some.injEq]at h1
     refine⟨rfl,fun v hv=>?_⟩
     simp only[kI,aB]
     exact hv.one hs
    ·cases h1
   ·cases h1
  obtain⟨h3,h4,h5,h6⟩:=Fa0 hR hfr hkn (cs:=cs) (y:=y+1) (n:=(kI deps y n o).2.2) h2 (fun j x hj=>by
   have:=hx (j+1) x (by simpa using hj)
   rwa[show y+(j+1)=y+1+j by omega]at this) (fun j nie o' l hj hl=>hz (j+1) nie o' l (by simpa using hj) (by simpa using hl))
  refine⟨by simp[h3],by simp only[Rbh,eU,key.1,Rb9];exact h4,by simp only[Rbh,eU,Qbt];rw[h5],fun j l l1 v hj hl hv=>?_⟩
  simp only[Rbh,eU]at hj
  cases j with
  | zero =>
   simp only[Qb4,Option.some.injEq]at hj hl
   subst hj hl
   exact key.2 v hv
  |succ j=>exact h6 j l l1 v (by simpa using hj) (by simpa using hl) hv
theorem Faq:∀ {ss:List (BS×BO)} {ls:List aW} {A B:Take},(fJ A ss ls).eval σ=some B->∀ (j:Nat) (nie:Bool) (o:BO) (l:aW),ss[j]?=some (BS.fz nie,o)->ls[j]?=some l->∃ r,(Aak l).eval σ=some r/\∀ z∈r.deps,z∈B.deps
 |[],ls,A,B,h,j,nie,o,l,hj,_=>by simp at hj
 |_::_,[],A,B,h,_,_,_,_,_,_=>by simp[fJ,dF]at h
 | (t, o) :: ss, l0 :: ls, A, B, h, j, nie, o', l, hj, hl => by
  simp only[fJ,aA,Qbp]at h
  obtain⟨C,h1,h2⟩:=h
  cases j with
  | zero =>
   simp only[Qb4,Option.some.injEq,Prod.mk.injEq]at hj hl
   obtain⟨rfl,rfl⟩:=hj
   subst hl
   have h3:(uV A nie l0).eval σ=some C:=by
    have hinv:=tF h1
    clear h1
    rcases hinv with ⟨x,e,-⟩|⟨nie',e,h⟩|⟨d,e,-⟩|⟨e,-⟩
    ·cases e
    ·injection e with e;subst e;exact h
    ·cases e
    ·cases e
   unfold uV at h3
   simp only[aA,Qbp,aC,Option.some.injEq]at h3
   obtain⟨sl,h4,rfl⟩:=h3
   exact⟨sl,h4,fun z hz=>(tC h2).1.deps z (Qby _ hz)⟩
  |succ j=>exact Faq h2 j nie o' l (by simpa using hj) (by simpa using hl)
theorem Far {ptrs:List (Nat×Nat×Nat)}:∀ {bs:List (Bool×List (BS×BO))} {b:Nat} {A B:Take},(fZ ptrs A b bs).eval σ=some B->∀ (i:Nat) (ro:Bool) (cs:List (BS×BO)),bs[i]?=some (ro,cs) ->
  ∃ c off ro' ls,rR (b+i) ptrs=some (c,off)/\σ (kB c)=some (.box ro' ls)/\off+cs.length<=ls.length/\∀ (j:Nat) (nie:Bool) (o:BO) (l:aW),cs[j]?=some (BS.fz nie,o)->(ls.drop off)[j]?=some l->∃ r,(Aak l).eval σ=some r/\∀ z∈r.deps,z∈B.deps
 |[],b,A,B,h,i,ro,cs,hi=>by simp at hi
 | (ro0, cs0) :: bs, b, A, B, h, i, ro, cs, hi => by
  simp only[fZ]at h
  split at h
  case h_2=>cases h
  rename_i c off hp
  simp only[aA,aV,Qb3]at h
  split at h
  case h_2=>cases h
  rename_i ro' ls hkb
  simp only[aA,aL,Qbp]at h
  obtain⟨_,h0,C,h1,h2⟩:=h
  split at h0
  case isFalse=>cases h0
  rename_i hb
  simp only[Qbq,Rb8]at hb
  cases i with
  | zero =>
   simp only[Qb4,Option.some.injEq,Prod.mk.injEq]at hi
   obtain⟨rfl,rfl⟩:=hi
   refine⟨c,off,ro',ls,hp,hkb,hb.2,fun j nie o l hj hl=>?_⟩
   obtain⟨r,h3,h4⟩:=Faq h1 j nie o l hj hl
   exact⟨r,h3,fun z hz=>(mE h2).1.deps z (h4 z hz)⟩
  | succ i =>
   obtain⟨c',off',ro'',ls',h3,h4,h5,h6⟩:=Far h2 i ro cs (by simpa using hi)
   exact⟨c',off',ro'',ls',by rw[show b+(i+1)=b+1+i by omega];exact h3,h4,h5,h6⟩
theorem Ba8 (hR:R E.ntmps F σ ρ a w G){deps:List (Nat×Nat)}(hkn:∀ z∈deps,lJ σ z.1 z.2){ptrs:List (Nat×Nat×Nat)}:∀ {bs:List (Bool×List (BS×BO))} {b y n:Nat} {bu:List (Nat×aU)} {xs:List aM},
  (nR ptrs deps b y n bs).eval σ=some bu->(jI ptrs b bs).eval σ=some xs->(∀ j x,xs[j]?=some x->(aM.v (y+j)).val ρ=x.val ρ) ->
  (∀ (i:Nat) (ro:Bool) (cs:List (BS×BO)),bs[i]?=some (ro,cs)->∃ c off ro' ls,rR (b+i) ptrs=some (c,off)/\σ (kB c)=some (.box ro' ls)/\off+cs.length<=ls.length/\∀ (j:Nat) (nie:Bool) (o:BO) (l:aW),cs[j]?=some (BS.fz nie,o)->(ls.drop off)[j]?=some l->∃ r,(Aak l).eval σ=some r/\∀ z∈r.deps,z∈deps) ->
  xs.length=fO bs/\∀ k c,(k,c)∈bu->∃ (c0:Nat) (ls0 ls:List aW),k=kB c0/\σ (kB c0)=some (.box false ls0)/\c=.box false ls/\ls.length=ls0.length/\∀ (σ':Nat->Option aU),Fr σ G w σ' G w->∀ (j:Nat) (l l0:aW) (v:Value),ls[j]?=some l->ls0[j]?=some l0->aB σ ρ G w l0 v->aB σ' ρ G w l v
 | [], b, y, n, bu, xs, h, hx, _, _ => by
  simp only[nR,aC,Option.some.injEq]at h
  simp only[jI,aC,Option.some.injEq]at hx
  subst h hx
  exact⟨rfl,by simp⟩
 | (ro, cs) :: bs, b, y, n, bu, xs, h, hx, hv, hz => by
  have hz':∀ (i:Nat) (ro:Bool) (cs:List (BS×BO)),bs[i]?=some (ro,cs)->∃ c off ro' ls,rR (b+1+i) ptrs=some (c,off)/\σ (kB c)=some (.box ro' ls)/\off+cs.length<=ls.length/\∀ (j:Nat) (nie:Bool) (o:BO) (l:aW),cs[j]?=some (BS.fz nie,o)->(ls.drop off)[j]?=some l->∃ r,(Aak l).eval σ=some r/\∀ z∈r.deps,z∈deps:=fun i ro cs hi=>by
   have:=hz (i+1) ro cs (by simpa using hi)
   rwa[show b+(i+1)=b+1+i by omega]at this
  simp only[nR]at h
  simp only[jI]at hx
  cases ro with
  | true =>
   simp only[cond_true]at h hx
   obtain⟨h1,h2⟩:=Ba8 hR hkn h hx hv hz'
   exact⟨by rw[h1];simp only[fO,cond_true,Rbt],h2⟩
  | false =>
   simp only[cond_false]at h hx
   obtain⟨c,off,ro',ls0,e1,e2,e3,e4⟩:=hz 0 false cs rfl
   rw[Rby]at e1
   rw[e1]at h hx
   simp only[aA,aV,Qb3]at h hx
   rw[e2]at h hx
   cases ro' with
   |true=>simp[dF]at h
   | false =>
    simp only[aA,Qbp,aC,Option.some.injEq]at h hx
    obtain⟨rest,h1,rfl⟩:=h
    obtain⟨l1,h2,m1,h3,rfl⟩:=hx
    have hold:=fun σ' (hfr:Fr σ G w σ' G w)=>Fa0 (E:=E) (F:=F) (a:=a) hR hfr hkn (cs:=cs) (ls:=ls0.drop off) (y:=y) (n:=n) h2 (fun j x hj=>hv j x (by rw[Rbc (List.getElem?_eq_some_iff.1 hj).1];exact hj)) e4
    obtain⟨h4,h5,h6,-⟩:=hold σ (Fr.same σ G w [] (by simp))
    obtain⟨h7,h8⟩:=Ba8 hR hkn h1 h3 (fun j x hj=>by
     have:=hv (cs.length+j) x (by rw[Rbb (by omega),h4,Rb1];exact hj)
     rwa[<- Rbi]at this) hz'
    refine⟨by rw[Qbs,h4,h7];simp only[fO,cond_false],fun k x hkx=>?_⟩
    rw[h5]at hkx
    simp only[Sbk,Rb9]at hkx
    rcases List.mem_cons.1 hkx with hkx|hkx
    ·obtain⟨rfl,rfl⟩:=Prod.mk.inj hkx
     refine⟨c,ls0,_,rfl,e2,rfl,mH (by rw[h6];exact e3),fun σ' hfr j l l0 v hj hl0 hlv=>?_⟩
     rw[jB (by rw[h6];exact e3)]at hj
     split at hj
     ·rename_i hr
      refine (hold σ' hfr).2.2.2 (j-off) l l0 v hj ?_ hlv
      rw[List.getElem?_drop,show off+(j-off)=j by omega]
      exact hl0
     ·rw[hl0]at hj
      obtain rfl:=Option.some.inj hj
      exact aB.mono hfr _ v hlv
    ·exact h8 k x hkx
theorem Eb5 (hR:R E.ntmps F σ ρ a w G)(hg:gOn ρ g=false)(hd:gM E.ntmps o)(hZdeps:∀ z∈Z.deps,Nah σ z.1 z.2)(hrts:Z.rts=[])(hbx0:lZ s.results=0)
  (hZ:(fZ T.ptrs T 0 s.boxes).eval σ=some Z) {olds:List aM} (hold:(jI Z.ptrs 0 s.boxes).eval σ=some olds)
  {rs:List (Bool×List aW)} {us bu:List (Nat×aU)} {nr1:Nat} (hres:jO true Z.deps nb y0 nr s.results=(rs,us,nr1)) (hgn:noG g=false)
  (hbu:(nR Z.ptrs Z.deps 0 (y0+bW s.results) nr1 s.boxes).eval σ=some bu)
  (hval:∀ j d,(Qb0 (bW s.results+fO s.boxes-olds.length) D.undef++olds.map (·.val ρ))[j]?=some d->(aM.v (y0+j)).val ρ=d) :
  R E.ntmps F (upds σ (Wat o g rs++(us++bu))) ρ (a.put o.dst undef) w G:=by
 have hus:us=[]:=by
  have:=Pam (deps:=Z.deps) (nb:=nb) s.results y0 nr hbx0
  rw[hres]at this
  exact this
 subst hus
 rw[Rb9]
 obtain⟨-,hptr,-⟩:=mE hZ
 have hkn:∀ z∈Z.deps,lJ σ z.1 z.2:=fun z hz=>by
  obtain⟨m,x,hx⟩:=hZdeps z hz
  exact⟨x,m,z.2,.live,hx,fun _=>Qbw _⟩
 have hfz:=Far hZ
 rw[<- hptr]at hfz
 have hlen0:olds.length=fO s.boxes:=by
  have hln:∀ {bs:List (Bool×List (BS×BO))} {b:Nat} {xs:List aM},(jI Z.ptrs b bs).eval σ=some xs->xs.length=fO bs:=by
   intro bs
   induction bs with
   |nil=>intro b xs h;simp only[jI,aC,Option.some.injEq]at h;subst h;rfl
   | cons x bs ih =>
    intro b xs h
    obtain⟨ro,cs⟩:=x
    simp only[jI]at h
    cases ro with
    |true=>simp only[cond_true]at h;rw[ih h];simp only[fO,cond_true,Rbt]
    | false =>
     simp only[cond_false]at h
     split at h
     case h_2=>cases h
     simp only[aA,aV,Qb3]at h
     split at h
     case h_2=>cases h
     simp only[aA,Qbp,aC,Option.some.injEq]at h
     obtain⟨l,h1,m,h2,rfl⟩:=h
     have hc:∀ {cs:List (BS×BO)} {ls:List aW} {ys:List aM},(lQ cs ls).eval σ=some ys->ys.length=cs.length:=by
      intro cs
      induction cs with
      |nil=>intro ls ys h;simp only[lQ,aC,Option.some.injEq]at h;subst h;rfl
      | cons t cs ihc =>
       intro ls ys h
       obtain⟨t1,t2⟩:=t
       cases ls with
       |nil=>simp[lQ,dF]at h
       | cons x ls =>
        simp only[lQ,aA,Qbp,aC,Option.some.injEq]at h
        obtain⟨y,-,r,h4,rfl⟩:=h
        simp[ihc h4]
     rw[Qbs,hc h1,ih h2]
     simp only[fO,cond_false]
  exact hln hold
 have hrep:bW s.results+fO s.boxes-olds.length=bW s.results:=by omega
 rw[hrep]at hval
 obtain⟨-,hboxes⟩:=Ba8 hR hkn hbu hold (fun j x hj=>by
  rw[Rbi]
  refine hval _ _ ?_
  rw[Rbb (by simp),Rbo,Rb1,Rbu,hj]
  rfl) hfz
 have hdk:∀ k c,(k,c)∈Wat o g rs->∃ d,o.dst=some d/\k=kT d/\c=.slot (Db1 g (Ca3 g rs)) (Ca3 g rs):=fun k c hc=>by
  rw[Daz]at hc
  exact Aaz hc
 have hnr:∀ k c,(k,c)∈Wat o g rs++bu->∀ r,k≠kR r:=by
  intro k c hc r
  rcases List.mem_append.1 hc with hc|hc
  ·obtain⟨d,-,e,-⟩:=hdk _ _ hc
   rw[e];exact jE
  ·obtain⟨c0,ls0,ls,e,-⟩:=hboxes _ _ hc
   rw[e];exact gV
 have hfr:=Fr.nonroot σ G w (Wat o g rs++bu) hnr
 refine hR.upd _ hfr (by rw[Ca7];exact hR.tmps) (by rw[put_defers];exact hR.defers) hR.frame (fun t ht=>?_) (fun _ _ _ _ _=>⟨rfl,rfl⟩) (fun b ls hb hlt ho=>?_) (fun k c hc hc'=>?_)
 ·rw[Daz]at ht
  exact Gat ht
 ·rcases List.mem_append.1 hb with hb|hb
  ·obtain⟨d,-,e,-⟩:=hdk _ _ hb
   exact absurd e.symm oP
  ·obtain⟨c0,ls0,ls',e,h1,h2,h3,-⟩:=hboxes _ _ hb
   obtain rfl:=Fa2 e
   injection h2 with e1 e2
   rw[hR.rng b ls0 h1 hlt ho,e2,h3]
 ·rcases List.mem_append.1 hc with hc|hc
  ·obtain⟨d,hd',rfl,rfl⟩:=hdk _ _ hc
   refine⟨d,rfl,fun hgo=>?_⟩
   rw[hd',qZ _ _ _ _ _ (hd d hd') hR.tmps]
   have hrs:(jO true Z.deps nb y0 nr s.results).1=rs:=by rw[hres]
   cases g with
   |none=>simp[gOn]at hg
   | some z =>
    refine Ya6 hg hrs (fun hpos=>?_) hgo
    have:=hval 0 .undef (by
     rw[Rbc (by simp;omega)]
     rw[Sb8,if_pos (by omega)])
    rwa[Rby]at this
  ·obtain⟨c0,ls0,ls,rfl,h1,rfl,h3,h4⟩:=hboxes _ _ hc
   obtain⟨h5,h6,h7⟩:=hR.box h1
   refine⟨c0,rfl,h5,h6,fun j l hj=>?_⟩
   have hlt:j<ls0.length:=by rw[<- h3];exact (List.getElem?_eq_some_iff.1 hj).1
   obtain⟨v,h8,h9,h10⟩:=h7 j _ (Qbz hlt)
   exact⟨v,h8,h9,h4 _ hfr j l _ v hj (Qbz hlt) h10⟩
end
end Go.Proofs.YtdpfilpckndhcaaGreatDoor.Rf

namespace Go.Proofs.YtdpfilpckndhcaaGreatDoor.Rf
set_option linter.unusedVariables false
set_option linter.unusedSimpArgs false
section
variable {P:Program} {E:Env} {F:bU} {σ:Nat->Option aU} {ρ:List D} {a:Act} {w:World} {G:Gh} {g:Option (aM×Bool)} {o:Oper}
theorem Oay:∀ {vs:List SV} {us:List Value},vs.length=us.length->(∀ (i:Nat) (v:SV) (u:Value),vs[i]?=some v->us[i]?=some u->dV σ ρ G w v u)->vS σ ρ G w vs us
 |[],[],_,_=>rfl
 |[],_::_,h,_=>by simp at h
 |_::_,[],h,_=>by simp at h
 |v::vs,u::us,h,hr=>⟨u,us,rfl,hr 0 v u rfl rfl,Oay (by simpa using h) fun i v' u' hv hu=>hr (i+1) v' u' (by simpa using hv) (by simpa using hu)⟩
theorem Cam:∀ {vs vs':List SV} {us us':List Value},vS σ ρ G w vs us->vS σ ρ G w vs' us'->vS σ ρ G w (vs++vs') (us++us')
 |[],vs',us,us',h,h'=>by simp only[vS]at h;subst h;exact h'
 | v :: vs, vs', us, us', h, h' => by
  obtain⟨u,us2,rfl,h1,h2⟩:=h
  exact⟨u,us2++us',rfl,h1,Cam h2 h'⟩
theorem Hau:∀ {ls:List aW} {vs:List Value},aD σ ρ G w ls vs->vS σ ρ G w (ls.map SV.one) vs
 |[],vs,h=>by simp only[aD]at h;subst h;rfl
 | l :: ls, vs, h => by
  simp only[aD]at h
  obtain⟨u,us,rfl,h1,h2⟩:=h
  exact⟨u,us,rfl,h1,Hau h2⟩
theorem Db0 {f:Operand}{args:Array Operand}{argTypes:Array TypeId}(ho:o.op=.call { callee:=.value f,args,argTypes }){fn:Nat}{vs:List Value}(hf:a.eval f=.func (.func fn) #[] vs.toArray) :
  (execOp a.eval o).run P w=(callFunc fn (args.toList.map a.eval++vs).toArray).run P w:=by
 unfold execOp
 simp only[ho,resolve,hf,Deferred.ofValue,invoke,Sem.run_bind,Sem.run_pure,Result.andThen_ok]
 congr 2
 apply Array.ext'
 simp
theorem Eb3 {X:(Nat->Ow)->World->Prop}{T:Nat->Ent}{n:Nat}(hst:Stable X)(hX:X F.own0 F.w0)(hc:∀ key s,(key,s)∈E.sigs->sU P X T n key s):Caa P E F (kY T n):=by
 intro σ ρ a w G g o Q mv mvs nv nb nr res f args argTypes hR hd hf ho h hkey hst0
 simp only[tJ,ho,aA,Qbp]at h
 obtain⟨l,h1,h⟩:=h
 split at h
 case h_2=>cases h
 rename_i fn caps
 simp only[aA,Qbp]at h
 obtain⟨vs0,h2,h⟩:=h
 unfold Fbm at h
 split at h
 ·cases h
 rename_i key s hsig
 obtain⟨hmem,hfn⟩:=Iau hsig
 simp only[aA,Qbp,aL]at h
 obtain⟨T1,hT,Z,hZ,_,hgd,h⟩:=h
 split at hgd
 case isFalse=>cases hgd
 rename_i hb
 simp only[Qbq,Bool.or_eq_true,Rb8,List.isEmpty_iff,Rbv]at hb
 obtain⟨⟨hok,hbx1⟩,hgd⟩:=hb
 have hk:=Rat hok
 obtain⟨bu,hbu,⟨ml,mu⟩,hmu,olds,hold,h⟩:=h
 simp only[aC,Option.some.injEq]at h
 subst h
 dsimp only at hkey hst0 ⊢
 generalize hres:jO (!noG g) Z.deps nb (nv+bT Z.lets) nr s.results=res at hkey hst0 hbu ⊢
 obtain⟨rs,us,nr1⟩:=res
 dsimp only at hkey hst hbu hmu ⊢
 refine⟨fun hg=>?_,fun hg=>?_⟩
 ·
  obtain⟨hst1,hml⟩:=aQ.append hst0
  obtain⟨hst2,hchk⟩:=aQ.append hst1
  obtain⟨hst3,hcall⟩:=aQ.append hst2
  obtain⟨ds,hrun,hlen,hval⟩:=hcall.1.1 hg
  have hn:nv+bT (Z.lets++[Step.call key Z.xs (bW s.results+(Z.rts.filter zI).length+fO s.boxes) olds]++(bif Z.deps.isEmpty then [] else Ab9 (nv+bT Z.lets) s.results++Bba (nv+bT Z.lets+bW s.results) Z.rts++Wa0 (nv+bT Z.lets+bW s.results+(Z.rts.filter zI).length) s.boxes))=nv+bT Z.lets+(bW s.results+(Z.rts.filter zI).length+fO s.boxes):=by
   have e0:bT (bif Z.deps.isEmpty then [] else Ab9 (nv+bT Z.lets) s.results++Bba (nv+bT Z.lets+bW s.results) Z.rts++Wa0 (nv+bT Z.lets+bW s.results+(Z.rts.filter zI).length) s.boxes)=0:=by
    cases Z.deps.isEmpty with
    |true=>rfl
    |false=>simp only[cond_false,gJ,Fb3,Fb4,Fb6]
   rw[gJ,gJ,e0]
   simp only[jD,Step.n]
   show nv+(bT Z.lets+(_+bT [])+0)=_
   have:bT ([]:List Step)=0:=rfl
   omega
  rw[hn]at hml
  have hv1:=gQ hR hg h1
  simp only[aB]at hv1
  obtain⟨cvs,hcv,hcl⟩:=hv1
  obtain⟨hl1,hl2⟩:=Aal hR hg h2
  have hus:vS σ ρ G w (vs0++caps.map SV.one) (args.toList.map a.eval++cvs):=by
   refine Cam (Oay (by rw[hl1];simp) fun i v u hv hu=>?_) (Hau hcl)
   rw[Rbu,Qb8]at hu
   obtain⟨x,hx,rfl⟩:=hu
   exact hl2 i v x hv hx
  have hpre:=Eb4 hR hg hst3 hk hT hZ hus
  have hXc:X (callG ρ G w s Z).own w:=hst _ _ _ _ hR.frame.size (fun b hb he=>by
   have hkp:=hR.frame.keep b hb (.inl he)
   exact⟨hkp.1,sM (hkp.2.trans he)⟩) hX
  have hgo:=hc key s hmem _ w _ _ ds hpre hXc hrun
  have hchk':Z.deps=[]\/Rai ρ (Ab9 (nv+bT Z.lets) s.results++Bba (nv+bT Z.lets+bW s.results) Z.rts++Wa0 (nv+bT Z.lets+bW s.results+(Z.rts.filter zI).length) s.boxes):=by
   cases hde:Z.deps.isEmpty with
   |true=>exact .inl (by simpa using hde)
   | false =>
    rw[hde,cond_false]at hchk
    exact .inr (Uax hg hchk)
  have hgd':noG g=true\/(lZ s.results=0/\∃ olds,(jI Z.ptrs 0 s.boxes).eval σ=some olds):=by
   cases g with
   |none=>exact .inl rfl
   |some z=>exact .inr ⟨(hgd.resolve_left (by simp[noG])).2,olds,hold⟩
  have hnx:∀ v w',Tan s (uQ s (callG ρ G w s Z) w) (callG ρ G w s Z).bx v w' ds->Nx E.ntmps F σ ρ (Wat o g rs++(us++bu++mu++iI Z.rts)) (a.put o.dst v) w':=by
   intro v w' hpost
   exact Bbg hR hg hd hf hus hT hZ hk hbx1 hgd' hres hbu hmu hlen hval hchk' hml hkey hpost
  unfold Oper.wp
  rw[Db0 ho hcv,<- hfn]
  rcases hgo with ⟨hr,hcalls⟩|⟨v,w',hr,hpost⟩
  ·rw[hr,Oper.upon_enter]
   refine Calls.mono hcalls fun e w' he=>?_
   cases e with
   |returned v=>exact hnx v w' he
   |panicked c=>exact he.elim
   |outgrown=>exact he.elim
  ·rw[hr,Oper.upon_value]
   exact hnx v w' hpost
 ·
  have hgn:noG g=false:=by
   cases g with
   |none=>simp[gOn]at hg
   |some z=>rfl
  have h5:=hgd.resolve_left (by rw[hgn];simp)
  obtain⟨hrts,hbx0⟩:=h5
  have hmu0:mu=[]:=by
   rw[hrts]at hmu
   simp only[Baf,aC,Option.some.injEq,Prod.mk.injEq]at hmu
   exact hmu.2.symm
  have hgo0:iI Z.rts=[]:=by rw[hrts];rfl
  have hf0:(Z.rts.filter zI).length=0:=by rw[hrts];rfl
  obtain⟨hst1,hml⟩:=aQ.append hst0
  obtain⟨hst2,hchk⟩:=aQ.append hst1
  obtain⟨hst3,hcall⟩:=aQ.append hst2
  have hval:=hcall.1.2 hg
  rw[hf0,Rby]at hval hbu
  have hold':(jI Z.ptrs 0 s.boxes).eval σ=some olds:=by
   cases g with
   |none=>cases hgn
   |some z=>exact hold
  have hdeps:∀ z∈Z.deps,Nah σ z.1 z.2:=by
   obtain⟨rn,hn1,-,-⟩:=yD (E:=E) (F:=F) (ρ:=ρ) (a:=a) (w:=w) (G:=G) False (fun h=>h.elim) hT (fun h=>h.elim)
   obtain⟨rn',hn4,-⟩:=vX (ρ:=ρ) (G:=G) (w:=w) hZ
   intro z hz
   rcases (hn1.trans hn4).deps z hz with h|h
   ·simp[Take.empty]at h
   ·exact h
  rw[hgn]at hres
  have:=Eb5 hR hg hd hdeps hrts hbx0 hZ hold' hres hgn hbu hval
  refine⟨G,?_⟩
  show R E.ntmps F (upds σ (Wat o g rs++(us++bu++mu++iI Z.rts))) ρ _ w G
  rw[hmu0,hgo0,Rbm,Rbm]
  exact this
end
end Go.Proofs.YtdpfilpckndhcaaGreatDoor.Rf

namespace Go.Proofs.YtdpfilpckndhcaaGreatDoor.Rf
set_option linter.unusedVariables false
set_option linter.unusedSimpArgs false
def Fbf (P:Program)(s:Sig)(e:List D->Option (List D)):Prop :=
 ∀ vals w G ds ds',Fbk s vals w G ds->e ds=some ds'->Goes P s.fn vals.toArray w fun v w'=>Tan s (uQ s G w) G.bx v w' ds'
def Tam (P:Program)(T:Nat->Ent)(ti:Nat->Option TI)(sigs:List (Nat×Sig))(key:Nat)(s:Sig):Prop :=
 (∃ (E : Env) (fn : Func) (tm : Tm Unit), E.ti = ti /\ E.sigs = sigs /\ P.funcs[s.fn]? = some fn /\ (fn.name == "runtime.NumGoroutine") = false /\ Vav E s fn = some tm /\ T key = .tm tm) \/ ∃ e, T key = .ext e /\ Fbf P s e
def Gba (P:Program)(X:(Nat->Ow)->World->Prop)(s:Sig)(e:List D->Option (List D)):Prop :=
 ∀ vals w G ds ds',Fbk s vals w G ds->X G.own w->e ds=some ds'->Goes P s.fn vals.toArray w fun v w'=>Tan s (uQ s G w) G.bx v w' ds'
def Ja7 (P:Program)(X:(Nat->Ow)->World->Prop)(T:Nat->Ent)(ti:Nat->Option TI)(sigs:List (Nat×Sig))(key:Nat)(s:Sig):Prop :=
 (∃ (E : Env) (fn : Func) (tm : Tm Unit), E.ti = ti /\ E.sigs = sigs /\ P.funcs[s.fn]? = some fn /\ (fn.name == "runtime.NumGoroutine") = false /\ Vav E s fn = some tm /\ T key = .tm tm) \/ ∃ e, T key = .ext e /\ Gba P X s e
theorem Tam.toX {P:Program}{X:(Nat->Ow)->World->Prop}{T:Nat->Ent}{ti:Nat->Option TI}{sigs:List (Nat×Sig)}{key:Nat}{s:Sig}(h:Tam P T ti sigs key s):Ja7 P X T ti sigs key s:=by
 rcases h with h|⟨e,h1,h2⟩
 ·exact .inl h
 ·exact .inr ⟨e,h1,fun vals w G ds ds' hp _ he=>h2 vals w G ds ds' hp he⟩
theorem Fai {P:Program}{X:(Nat->Ow)->World->Prop}{T:Nat->Ent}{ti:Nat->Option TI}{sigs:List (Nat×Sig)}(hst:Stable X)(hti:yA P ti)(hm:P.follows .mixedOrders=true)(H:∀ key s,(key,s)∈sigs->Ja7 P X T ti sigs key s) :
  ∀ n key s,(key,s)∈sigs->sU P X T n key s:=by
 intro n
 induction n with
 | zero =>
  intro key s _ vals w G ds ds' _ _ h
  cases h
 | succ n ih =>
  intro key s hmem
  rcases H key s hmem with ⟨E,fn,tm,rfl,rfl,h1,h2,h3,h4⟩|⟨e,h1,h2⟩
  ·exact Naw hti hm h1 h2 h3 h4 fun F hX=>Eb3 hst hX fun key s h=>ih key s h
  ·intro vals w G ds ds' hpre hX hrun
   simp only[kY,h1]at hrun
   exact h2 vals w G ds ds' hpre hX hrun
theorem contracts {P:Program}{T:Nat->Ent}{ti:Nat->Option TI}{sigs:List (Nat×Sig)}(hti:yA P ti)(hm:P.follows .mixedOrders=true)(H:∀ key s,(key,s)∈sigs->Tam P T ti sigs key s) :
  ∀ n key s,(key,s)∈sigs->Eag P T n key s :=
 fun n key s hmem vals w G ds ds' hpre hrun=>Fai (X:=fun _ _=>True) (fun _ _ _ _ _ _ _=>trivial) hti hm (fun key s h=>(H key s h).toX) n key s hmem vals w G ds ds' hpre trivial hrun
inductive Ty where
 |int (k:IntKind)
 |bool
 |str
 |sl (bytes:Nat) (row:List Ty)
mutual
def WT:Ty->D->Prop
 |.int k,d=>∃ n,d=.int k n/\k.min<=n/\n<=k.max
 |.bool,d=>∃ b,d=.bool b
 |.str,d=>∃ s,d=.str s/\s.length<=reachBytes
 |.sl bytes row,d=>∃ rs,d=.rows row.length rs/\rs.length*bytes<=reachBytes/\∀ r∈rs,WTs row r
def WTs:List Ty->List D->Prop
 |[],ds=>ds=[]
 |t::ts,ds=>∃ d ds',ds=d::ds'/\WT t d/\WTs ts ds'
end
def Xai (P:Program)(rec:TypeId->Option (List Ty)):Nat->List Field->Option (List Ty)
 |_,[]=>some []
 | off, f :: fs => match rec f.type with
  |some r=>bif Nat.beq f.offset off&&Nat.beq r.length (P.cellsOf f.type) then (Xai P rec (off+r.length) fs).map (r++·) else none
  |none=>none
def Jar (P:Program):Nat->TypeId->Option (List Ty)
 |0,_=>none
 | n + 1, t => match P.underlying t with
  |some .bool=>some [.bool]
  |some (.int k)=>some [.int k]
  |some .string=>some [.str]
  | some (.slice e) => match Jar P n e with
   |some r=>bif Nat.beq r.length (P.cellsOf e) then some [.sl (P.bytesOf e) r] else none
   |none=>none
  | some (.struct fs) => match Xai P (Jar P n) 0 fs.toList with
   |some r=>bif Nat.beq r.length (P.cellsOf t) then some r else none
   |none=>none
  |_=>none
def jM (w:World):List Ty->List Value->List D->Prop
 |[],cs,ds=>cs=[]/\ds=[]
 |t::ts,cs,ds=>∃ c cs' d ds',cs=c::cs'/\ds=d::ds'/\Rd (fun _=>True) w c d/\WT t d/\jM w ts cs' ds'
theorem jM.append {w:World}:∀ {ts ts':List Ty} {cs cs':List Value} {ds ds':List D},jM w ts cs ds->jM w ts' cs' ds'->jM w (ts++ts') (cs++cs') (ds++ds')
 | [], ts', cs, cs', ds, ds', h, h' => by
  obtain⟨rfl,rfl⟩:=h
  exact h'
 | t :: ts, ts', cs, cs', ds, ds', h, h' => by
  obtain⟨c,c1,d,d1,rfl,rfl,h1,h2,h3⟩:=h
  exact⟨c,c1++cs',d,d1++ds',rfl,rfl,h1,h2,h3.append h'⟩
theorem jM.len {w:World}:∀ {ts:List Ty} {cs:List Value} {ds:List D},jM w ts cs ds->cs.length=ts.length/\ds.length=ts.length
 |[],cs,ds,h=>by obtain⟨rfl,rfl⟩:=h;exact⟨rfl,rfl⟩
 | t :: ts, cs, ds, h => by
  obtain⟨c,c1,d,d1,rfl,rfl,h1,h2,h3⟩:=h
  obtain⟨h4,h5⟩:=h3.len
  simp[h4,h5]
theorem jM.get {w:World}:∀ {ts:List Ty} {cs:List Value} {ds:List D},jM w ts cs ds->∀ {j:Nat} {d:D},ds[j]?=some d->∃ c,cs[j]?=some c/\Rd (fun _=>True) w c d
 |[],cs,ds,h,j,d,hj=>by obtain⟨rfl,rfl⟩:=h;simp at hj
 | t :: ts, cs, ds, h, j, d, hj => by
  obtain⟨c,c1,d',d1,rfl,rfl,h1,h2,h3⟩:=h
  cases j with
  | zero =>
   simp only[Qb4,Option.some.injEq]at hj
   subst hj
   exact⟨c,rfl,h1⟩
  | succ j =>
   obtain⟨c',h4,h5⟩:=h3.get (j:=j) (by simpa using hj)
   exact⟨c',by simpa using h4,h5⟩
theorem jM.wts {w:World}:∀ {ts:List Ty} {cs:List Value} {ds:List D},jM w ts cs ds->WTs ts ds
 |[],cs,ds,h=>by obtain⟨rfl,rfl⟩:=h;simp[WTs]
 | t :: ts, cs, ds, h => by
  obtain⟨c,c1,d',d1,rfl,rfl,h1,h2,h3⟩:=h
  simp only[WTs]
  exact⟨d',d1,rfl,h2,h3.wts⟩
theorem Iac {α β:Type}{f:α->Option β}:∀ {l:List α} {ys:List β},l.mapM f=some ys->ys.length=l.length/\∀ (i:Nat) (x:α),l[i]?=some x->∃ y,ys[i]?=some y/\f x=some y
 | [], ys, h => by
  simp at h
  subst h
  simp
 | x :: l, ys, h => by
  simp only[List.mapM_cons,bind,Qbp,pure,Option.some.injEq]at h
  obtain⟨y,h1,ys',h2,rfl⟩:=h
  obtain⟨h3,h4⟩:=Iac h2
  refine⟨by simp[h3],fun i z hz=>?_⟩
  cases i with
  | zero =>
   simp only[Qb4,Option.some.injEq]at hz
   subst hz
   exact⟨y,rfl,h1⟩
  | succ i =>
   obtain⟨y',h5,h6⟩:=h4 i z (by simpa using hz)
   exact⟨y',by simpa using h5,h6⟩
theorem Zaw {β:Type}{p:Nat->β->Prop}:∀ (n:Nat),(∀ i,i<n->∃ y,p i y)->∃ l:List β,l.length=n/\∀ i y,l[i]?=some y->p i y
 |0,_=>⟨[],rfl,by simp⟩
 | n + 1, h => by
  obtain⟨l,h1,h2⟩:=Zaw n fun i hi=>h i (by omega)
  obtain⟨y,hy⟩:=h n (by omega)
  refine⟨l++[y],by simp[h1],fun i z hz=>?_⟩
  rcases Nat.lt_trichotomy i n with hi|hi|hi
  ·rw[Rbc (by omega)]at hz
   exact h2 i z hz
  ·subst hi
   rw[Rbb (by omega),h1,Nat.sub_self]at hz
   simp only[Qb4,Option.some.injEq]at hz
   subst hz
   exact hy
  ·have:=(List.getElem?_eq_some_iff.1 hz).1
   simp[h1]at this
   omega
theorem Aa7 {H:Type}{P:Program}{e:TypeId}:∀ {l:List (DataW H)} {d:DataW H},d∈l->∀ n∈d.weights P e,n∈DataW.weightsAll P e l
 |[],d,h,_,_=>by simp at h
 | x :: l, d, h, n, hn => by
  simp only[DataW.weightsAll,Sbt]
  rcases List.mem_cons.1 h with rfl|h
  ·exact .inl hn
  ·exact .inr (Aa7 h n hn)
theorem xO {H:Type}{P:Program}{t:TypeId}{ts:List TypeId}{d:DataW H}{ds:List (DataW H)}:DataW.weightsEach P (t::ts) (d::ds)=d.weights P t++DataW.weightsEach P ts ds:=by
 simp only[DataW.weightsEach]
theorem Haj {P:Program}{w:World}{H:Type}{cs:List Value}{f:Field->List Value->Option (DataW H×List MemPlace)}{rec:TypeId->Option (List Ty)}
  (hrec:∀ (fd:Field) (r:List Ty) (l:List Value) (y:DataW H×List MemPlace),rec fd.type=some r->f fd l=some y->(∀ m∈y.1.weights P fd.type,m<=reachBytes)->∃ ds,jM w r l ds) :
  ∀ {fs:List Field} {off:Nat} {tys:List Ty} {xs:List (DataW H×List MemPlace)},Xai P rec off fs=some tys->fs.mapM (fun fd=>f fd ((cs.drop fd.offset).take (P.cellsOf fd.type)))=some xs ->
  (∀ m∈DataW.weightsEach P (fs.map (·.type)) (xs.map (·.1)),m<=reachBytes)->cs.length=off+tys.length->∃ ds,jM w tys (cs.drop off) ds
 | [], off, tys, xs, h, _, _, hl => by
  simp only[Xai,Option.some.injEq]at h
  subst h
  refine⟨[],?_,rfl⟩
  rw[List.drop_eq_nil_iff]
  simp only[List.length_nil]at hl
  omega
 | fd :: fs, off, tys, xs, h, hm, hw, hl => by
  simp only[Xai]at h
  split at h
  case h_2=>cases h
  rename_i r hr
  cases hb:(Nat.beq fd.offset off&&Nat.beq r.length (P.cellsOf fd.type)) with
  |false=>rw[hb]at h;cases h
  | true =>
   rw[hb,cond_true,Qb8]at h
   obtain⟨tys',h1,rfl⟩:=h
   simp only[Qbq,Rbv]at hb
   obtain⟨rfl,hcl⟩:=hb
   simp only[List.mapM_cons,bind,Qbp,pure,Option.some.injEq]at hm
   obtain⟨y,h2,ys,h3,rfl⟩:=hm
   simp only[Rbh,xO,Sbt]at hw
   obtain⟨ds,h4⟩:=hrec fd r _ y hr h2 fun m hm=>hw m (.inl hm)
   rw[Qbs]at hl
   obtain⟨ds',h5⟩:=Haj hrec (off:=fd.offset+r.length) h1 h3 (fun m hm=>hw m (.inr hm)) (by omega)
   refine⟨ds++ds',?_⟩
   have:=h4.append h5
   rw[<- hcl]at this
   have e:List.take r.length (List.drop fd.offset cs)++List.drop (fd.offset+r.length) cs=List.drop fd.offset cs:=by
    rw[<- List.drop_drop,List.take_append_drop]
   rw[e]at this
   exact this
theorem Eak {P:Program}{H:Type}{enc:TypeId×Value->H}{w:World}{sp:Nat->Bool}{held:Bool}:∀ (n fuel:Nat) {t:TypeId} {cs:List Value} {x:DataW H} {ps:List MemPlace} {tys:List Ty},Jar P n t=some tys->DataW.trod enc P w 0 sp held fuel t cs=some (x,ps) ->
  (∀ m∈x.weights P t,m<=reachBytes)->∃ ds,jM w tys cs ds
 |0,_,t,cs,x,ps,tys,h,_,_=>by simp[Jar]at h
 |n+1,0,t,cs,x,ps,tys,_,h,_=>by simp[DataW.trod]at h
 | n + 1, fuel + 1, t, cs, x, ps, tys, ht, h, hw => by
  simp only[Jar]at ht
  unfold DataW.trod at h
  split at ht
  ·
   rename_i hu
   rw[hu]at h
   simp only[Option.some.injEq]at ht
   subst ht
   split at h<;>rename_i heq<;>first|(cases heq;done)|skip
   all_goals first|(injection heq with heq;cases heq;done)|skip
   ·exact⟨_,_,[],_,[],rfl,rfl,.sc (.bool _),⟨_,rfl⟩,rfl,rfl⟩
   ·cases h
  ·
   rename_i k hu
   rw[hu]at h
   simp only[Option.some.injEq]at ht
   subst ht
   split at h<;>rename_i heq<;>first|(cases heq;done)|skip
   all_goals first|(injection heq with heq;cases heq;done)|skip
   ·rename_i k0 k' m
    injection heq with heq
    injection heq with heq
    subst heq
    split at h
    ·rename_i hc
     obtain⟨rfl,hwf⟩:=hc
     simp only[Lit.wf,Qbq,decide_eq_true_eq]at hwf
     exact⟨_,_,[],_,[],rfl,rfl,.sc (.int _ _),⟨_,rfl,hwf.1,hwf.2⟩,rfl,rfl⟩
    ·cases h
   ·cases h
  ·
   rename_i hu
   rw[hu]at h
   simp only[Option.some.injEq]at ht
   subst ht
   split at h<;>rename_i heq<;>first|(cases heq;done)|skip
   all_goals first|(injection heq with heq;cases heq;done)|skip
   ·rename_i s0
    split at h
    ·simp only[Option.some.injEq,Prod.mk.injEq]at h
     obtain⟨rfl,rfl⟩:=h
     refine⟨_,_,[],_,[],rfl,rfl,.sc (.str s0.data.toList),⟨_,rfl,hw _ ?_⟩,rfl,rfl⟩
     simp only[DataW.weights,Qb6]
    ·cases h
   ·cases h
  ·
   rename_i e hu
   split at ht
   case h_2=>cases ht
   rename_i r hr
   cases hb:Nat.beq r.length (P.cellsOf e) with
   |false=>rw[hb]at ht;cases ht
   | true =>
    rw[hb,cond_true]at ht
    simp only[Option.some.injEq]at ht
    subst ht
    simp only[Rbv]at hb
    rw[hu]at h
    split at h<;>rename_i heq<;>first|(cases heq;done)|skip
    all_goals first|(injection heq with heq;cases heq;done)|skip
    ·injection heq with heq
     injection heq with heq
     subst heq
     simp only[Option.some.injEq,Prod.mk.injEq]at h
     obtain⟨rfl,rfl⟩:=h
     refine⟨_,_,[],.rows r.length [],[],rfl,rfl,.rows none ⟨0,0,none⟩ 0 0 r.length [] (fun _ _=>undef) rfl (Qbw _) (.inl rfl) (by simp) (by simp) (by simp),⟨[],rfl,by simp,by simp⟩,rfl,rfl⟩
    ·rename_i e0 ad len cap
     injection heq with heq
     injection heq with heq
     subst heq
     dsimp only at h
     split at h
     case isFalse=>cases h
     rename_i hc
     simp only[Qbp,Qb8,Prod.mk.injEq]at h
     obtain⟨elems,h1,rest,h2,rfl,rfl⟩:=h
     obtain⟨h3,h4⟩:=Iac h1
     rw[List.length_range]at h3
     simp only[DataW.weights,hu,Rbk,Sbt]at hw
     have hrow:∀ i,i<len->∃ ds:List D,∃ cs:List Value,(∀ j c,cs[j]?=some c->w.cell? (ad.add (i*r.length+j))=some c)/\jM w r cs ds:=by
      intro i hi
      obtain⟨y,h5,h6⟩:=h4 i i (by rw[Tb9 hi])
      simp only[Qbp]at h6
      obtain⟨cs,h7,h8⟩:=h6
      obtain⟨x,ps⟩:=y
      obtain⟨ds,h9⟩:=Eak n fuel hr h8 fun m hm=>hw m (.inr (.inl (Aa7 (List.mem_map.2 ⟨_,Rba h5,rfl⟩) m hm)))
      refine⟨ds,cs,fun j c hj=>?_,h9⟩
      unfold World.cells? at h7
      split at h7
      ·obtain⟨h10,h11⟩:=Iac h7
       have hjl:=(List.getElem?_eq_some_iff.1 hj).1
       rw[h10,List.length_range]at hjl
       obtain⟨c',h12,h13⟩:=h11 j j (by rw[Tb9 hjl])
       rw[hj]at h12
       obtain rfl:=Option.some.inj h12
       rw[add_add,<- hb]at h13
       exact h13
      ·cases h7
     obtain⟨rs,h5,h6⟩:=Zaw len hrow
     have hex:∀ i,∃ cs:List Value,∀ ds,rs[i]?=some ds->(∀ j c,cs[j]?=some c->w.cell? (ad.add (i*r.length+j))=some c)/\jM w r cs ds:=by
      intro i
      cases hi:rs[i]? with
      |none=>exact⟨[],fun ds h=>by cases h⟩
      | some ds =>
       obtain⟨cs,h7,h8⟩:=h6 i ds hi
       exact⟨cs,fun ds' h=>by obtain rfl:=Option.some.inj h;exact⟨h7,h8⟩⟩
     have hch:∃ cf:Nat->List Value,∀ i ds,rs[i]?=some ds->(∀ j c,(cf i)[j]?=some c->w.cell? (ad.add (i*r.length+j))=some c)/\jM w r (cf i) ds:=⟨fun i=>(hex i).choose,fun i=>(hex i).choose_spec⟩
     obtain⟨cf,hcf⟩:=hch
     have hlen:∀ row∈rs,row.length=r.length:=fun row hrow=>by
      obtain⟨i,hi⟩:=List.mem_iff_getElem?.1 hrow
      exact ((hcf i row hi).2.len).2
     refine⟨[.rows r.length rs],_,[],_,[],rfl,rfl,?_,⟨rs,rfl,?_,fun row hrow=>?_⟩,rfl,rfl⟩
     ·refine .rows _ ad len cap r.length rs (fun i j=>((cf i)[j]?).getD undef) h5 hc.2.1 (.inr rfl) hlen (fun i row hi j d hj=>?_) (fun i row hi j d hj=>?_)
      ·obtain⟨c,h7,h8⟩:=(hcf i row hi).2.get hj
       refine⟨trivial,?_⟩
       rw[(hcf i row hi).1 j c h7,h7]
       rfl
      ·obtain⟨c,h7,h8⟩:=(hcf i row hi).2.get hj
       rw[h7]
       exact h8
     ·have:=hw _ (.inl rfl)
      rw[Rbf,Rbf,h3]at this
      rw[h5]
      exact Nat.le_trans (Nat.mul_le_mul_right _ (Nat.le_add_right ..)) this
     ·obtain⟨i,hi⟩:=List.mem_iff_getElem?.1 hrow
      exact (hcf i row hi).2.wts
    ·cases h
  ·
   rename_i fs hu
   split at ht
   case h_2=>cases ht
   rename_i r hr
   cases hb:Nat.beq r.length (P.cellsOf t) with
   |false=>rw[hb]at ht;cases ht
   | true =>
    rw[hb,cond_true]at ht
    simp only[Option.some.injEq]at ht
    subst ht
    simp only[Rbv]at hb
    rw[hu]at h
    split at h<;>rename_i heq<;>first|(cases heq;done)|skip
    all_goals first|(injection heq with heq;cases heq;done)|skip
    ·rename_i cs0 x0 cs1 fs2
     injection heq with heq
     injection heq with heq
     subst heq
     split at h
     case isFalse=>cases h
     rename_i hc
     simp only[Qb8,Prod.mk.injEq]at h
     obtain⟨xs,h1,rfl,rfl⟩:=h
     simp only[DataW.weights,hu]at hw
     obtain⟨ds,h2⟩:=Haj (w:=w) (cs:=cs0) (f:=fun fd l=>DataW.trod enc P w 0 sp held fuel fd.type l) (rec:=Jar P n)
      (fun fd r l y hr' hy hw'=>Eak n fuel hr' (x:=y.1) (ps:=y.2) hy hw') hr h1 hw (by omega)
     exact⟨ds,by simpa using h2⟩
    ·exact ((by assumption:∀ (fs_1:Array Field),some (TypeDesc.struct fs)=some (TypeDesc.struct fs_1)->False) fs rfl).elim
  ·cases ht
end Go.Proofs.YtdpfilpckndhcaaGreatDoor.Rf

namespace Go.Proofs.YtdpfilpckndhcaaGreatDoor.Rf
open Go.ChangeShapes Go.RowKit
set_option linter.unusedVariables false
set_option linter.unusedSimpArgs false
def Zas:Ty->LS
 |.sl _ _=>.fz false
 |_=>.sc
def Ibe (P:Program)(t:TypeId):Bool:=match P.underlying t with
 |some (.struct _)=>true
 |_=>false
def vK (P:Program):List TypeId->Option (List (Bool×List LS)×List Ty)
 |[]=>some ([],[])
 | t :: ts => match Jar P 12 t, vK P ts with
  |some r,some (ps,tys)=>some ((Ibe P t,r.map Zas)::ps,r++tys)
  |_,_=>none
def Mb7:Gh:=⟨fun _=>.frz,fun _=>undef,fun _=>⟨0,0,none⟩⟩
theorem Ab5:∀ (tys:List Ty),Wa9 (tys.map Zas)=tys.length/\kU (tys.map Zas)=0
 |[]=>⟨rfl,rfl⟩
 | t :: tys => by
  obtain⟨h1,h2⟩:=Ab5 tys
  cases t<;>simp[Wa9,kU,Zas,LS.cnt,LS.rcnt,h1,h2]<;>omega
theorem Gaa {w:World}{ρ:List D}:∀ {tys:List Ty} {cs:List Value} {ds:List D} {i:Nat},jM w tys cs ds->(∀ j d,ds[j]?=some d->(aM.v (i+j)).val ρ=d)->vT Mb7 w ρ 0 i 0 (tys.map Zas) cs
 |[],cs,ds,i,h,_=>by obtain⟨rfl,rfl⟩:=h;rfl
 | t :: tys, cs, ds, i, h, hv => by
  obtain⟨c,cs',d,ds',rfl,rfl,h1,h2,h3⟩:=h
  have hv0:(aM.v i).val ρ=d:=by have:=hv 0 d rfl;rwa[Rby]at this
  have hr:(Zas t).rcnt=0:=by cases t<;>rfl
  have hc:(Zas t).cnt=1:=by cases t<;>rfl
  refine⟨c,cs',rfl,?_,?_⟩
  ·cases t with
   | int k =>
    obtain⟨n,rfl,-⟩:=h2
    simp only[Zas,mD,hv0]
    exact h1.sc_inv rfl
   | bool =>
    obtain⟨n,rfl⟩:=h2
    simp only[Zas,mD,hv0]
    exact h1.sc_inv rfl
   | str =>
    obtain⟨n,rfl,-⟩:=h2
    simp only[Zas,mD,hv0]
    exact h1.sc_inv rfl
   | sl bytes row =>
    simp only[Zas,mD,hv0]
    exact⟨h1.mono fun b _=>⟨rfl,rfl⟩,fun e=>absurd e (by decide)⟩
  ·rw[hr,hc]
   refine Gaa (i:=i+1) h3 fun j d' hj=>?_
   have:=hv (j+1) d' (by simpa using hj)
   rwa[show i+(j+1)=i+1+j by omega]at this
theorem Paw {P:Program}{W:World}{base:Nat}{n:Nat}{t:TypeId}{tys:List Ty}{v:Value}(h:Jar P n t=some tys)(hv:Value.okWide P W .any base t v):if Ibe P t=true then v=.agg v.cells.toList.toArray else v.cells.toList=[v]:=by
 cases n with
 |zero=>simp[Jar]at h
 | succ n =>
  unfold Value.okWide at hv
  unfold Ibe
  simp only[Jar]at h
  cases hu:P.underlying t with
  |none=>rw[hu]at h;cases h
  | some u =>
   rw[hu]at h hv
   cases u with
   | struct fs =>
    obtain⟨cs,rfl,-⟩:=hv
    simp[Value.cells]
   | bool =>
    simp only[Cell.okWide,Cell.ok,hu]at hv
    cases v<;>simp at hv
    simp[Value.cells]
   | int k =>
    simp only[Cell.okWide,Cell.ok,hu]at hv
    cases v<;>simp at hv
    simp[Value.cells]
   | string =>
    simp only[Cell.okWide,Cell.ok,hu]at hv
    cases v<;>simp at hv
    simp[Value.cells]
   | slice e =>
    simp only[Cell.okWide,Cell.ok,hu]at hv
    cases v<;>simp at hv
    simp[Value.cells]
   |_=>cases h
theorem Ka6 {P:Program}{H:Type}{enc:TypeId×Value->H}{W:World}{sp:Nat->Bool}{held:Bool}{base:Nat}:∀ {ts:List TypeId} {vs:List Value} {ds:List (DataW H)} {ps:List MemPlace} {sps:List (Bool×List LS)} {tys:List Ty},
  vK P ts=some (sps,tys)->DataW.TrodAll enc P W 0 sp held ts vs ds ps->(∀ (j:Nat) t v,ts[j]?=some t->vs[j]?=some v->Value.okWide P W .any base t v)->(∀ m∈DataW.weightsEach P ts ds,m<=reachBytes) ->
  ∃ dd,WTs tys dd/\dd.length=tys.length/\tys.length=Lag sps/\jV sps=0/\∀ (ρ:List D) (i:Nat),(∀ j d,dd[j]?=some d->(aM.v (i+j)).val ρ=d)->lM Mb7 W ρ 0 i 0 sps vs
 | [], vs, ds, ps, sps, tys, h, ht, _, _ => by
  simp only[vK,Option.some.injEq,Prod.mk.injEq]at h
  obtain⟨rfl,rfl⟩:=h
  cases vs with
  |cons v vs=>cases ds<;>exact ht.elim
  |nil=>exact⟨[],rfl,rfl,rfl,rfl,fun ρ i _=>rfl⟩
 | t :: ts, vs, ds, ps, sps, tys, h, ht, hv, hw => by
  simp only[vK]at h
  split at h
  case h_2=>cases h
  rename_i r sps' tys' hr hl
  simp only[Option.some.injEq,Prod.mk.injEq]at h
  obtain⟨rfl,rfl⟩:=h
  cases vs with
  |nil=>cases ds<;>exact ht.elim
  | cons v vs =>
   cases ds with
   |nil=>exact ht.elim
   | cons d ds =>
    obtain⟨p,q,⟨fuel,h1⟩,h2,rfl⟩:=ht
    rw[xO]at hw
    obtain⟨dd,h3⟩:=Eak 12 fuel hr h1 fun m hm=>hw m (Qbv _ hm)
    obtain⟨dd',h4,h5,h6,h7,h8⟩:=Ka6 hl h2 (fun j t' v' hj hj'=>hv (j+1) t' v' (by simpa using hj) (by simpa using hj')) fun m hm=>hw m (Qby _ hm)
    obtain⟨hc1,hc2⟩:=Ab5 r
    obtain⟨hn1,hn2⟩:=h3.len
    refine⟨dd++dd',?_,by simp[hn2,h5],by simp only[Qbs,Lag,hc1,h6],by simp only[jV,hc2,h7],fun ρ i hval=>?_⟩
    ·have:∀ {a:List Ty} {x:List D},WTs a x->WTs (a++tys') (x++dd'):=by
      intro a
      induction a with
      |nil=>intro x hx;simp only[WTs]at hx;subst hx;exact h4
      | cons t a ih =>
       intro x hx
       simp only[WTs]at hx
       obtain⟨y,ys,rfl,hy1,hy2⟩:=hx
       simp only[Sbk,WTs]
       exact⟨y,_,rfl,hy1,ih hy2⟩
     exact this h3.wts
    ·refine⟨v,vs,v.cells.toList,rfl,Gaa h3 fun j d' hj=>hval j d' (by rw[Rbc (List.getElem?_eq_some_iff.1 hj).1];exact hj),Paw hr (hv 0 t v rfl rfl),?_⟩
     rw[hc1,hc2]
     refine h8 ρ (i+r.length) fun j d' hj=>?_
     rw[Rbi,<- hn2]
     exact hval _ _ (by rw[Rbb (by omega),Rb1];exact hj)
theorem Cag {P:Program}{H:Type}{enc:TypeId×Value->H}(hl:laidOutB P=true){W W':World}(hb:Below W.heap.size W W'):∀ {ts:List TypeId} {vs:List Value} {ds:List (DataW H)} {ps:List MemPlace},(ts.all fun t=>P.readableRec t&&decide (t<P.types.size))=true ->
  DataW.TrodAll enc P W 0 (fun _=>true) true ts vs ds ps->DataW.TrodAll enc P W' 0 (fun b=>decide (b<W.heap.size)) true ts vs ds ps
 |[],[],[],ps,_,h=>h
 |[],[],_::_,ps,_,h=>h.elim
 |[],_::_,_,ps,_,h=>h.elim
 |_::_,[],_,ps,_,h=>h.elim
 |_::_,_::_,[],ps,_,h=>h.elim
 | t :: ts, v :: vs, d :: ds, ps, hr, h => by
  simp only[List.all_cons,Qbq,decide_eq_true_eq]at hr
  obtain⟨p,q,h1,h2,rfl⟩:=h
  refine⟨p,q,Below.trod hl hr.1.1 hr.1.2 h1 hb ?_,Cag hl hb hr.2 h2,rfl⟩
  obtain⟨m,hm⟩:=h1
  exact DataW.trod_lt m _ _ _ hm
theorem Waa {P : Program} {X : (Nat -> Ow) -> World -> Prop} {T : Nat -> Ent} {key : Nat} {s : Sig} {fn : Func} {c : Code} (hc : ∀ n, sU P X T n key s) (hfn : P.funcs[s.fn]? = some fn) (hname : (fn.name == "runtime.NumGoroutine") = false) (hbody : fn.body = some c)
  {tys:List Ty} (hpar:vK P fn.params.toList=some (s.params,tys)) (hbx:s.boxes=[]) (hres:s.results=[(false,[.sc])]) (hpure:∀ ds,WTs tys ds->∃ n,kY T n key ds=some [.bool true])
  {H:Type} {enc:TypeId×Value->H} {W:World} {base:Nat} {args:Array Value} {ds:List (DataW H)} {ps:List MemPlace}
  (hval:∀ (j:Nat) t v,fn.params[j]?=some t->args[j]?=some v->Value.okWide P W .any base t v) (ht:DataW.TrodAll enc P W 0 (fun _=>true) true fn.params.toList args.toList ds ps)
  (hw:∀ m∈DataW.weightsEach P fn.params.toList ds,m<=reachBytes) (hX:X (fun _=>.frz) W):Calls P s.fn args W fun e W'=>e=.returned (.bool true)/\Below W.heap.size W W':=by
 obtain⟨dd,h1,h2,h3,h4,h5⟩:=Ka6 (base:=base) hpar ht (fun j t v hj hv=>hval j t v (by simpa using hj) (by simpa using hv)) hw
 obtain⟨n,hn⟩:=hpure dd h1
 have hpre:Fbk s args.toList W Mb7 dd:=by
  refine⟨?_,?_,?_,fun _ _=>rfl,fun b j _ e=>by cases e⟩
  ·rw[hbx]
   exact h5 dd 0 fun j d hj=>by simp[aM.val,Qb5,hj]
  ·rw[hbx];trivial
  ·rw[h2,h3,hbx];rfl
 have hgo:=hc n args.toList W Mb7 dd _ hpre hX hn
 have e:args.toList.toArray=args:=by simp
 rw[e]at hgo
 rcases hgo with ⟨-,hcalls⟩|⟨v,w',hr,-⟩
 ·refine Calls.mono hcalls fun en W' he=>?_
  cases en with
  | returned v =>
   obtain⟨G,us,rfl,hF,hfr,-⟩:=he
   rw[hres]at hfr
   obtain⟨u,us',vs,rfl,hl,hsh,hnil⟩:=hfr
   simp only[Las]at hnil
   subst hnil
   simp only[Qbr,if_false]at hsh
   subst hsh
   obtain⟨u',us2,e2,hsc,-⟩:=hl
   obtain⟨rfl,rfl⟩:=List.cons.inj e2
   simp only[nT]at hsc
   have hu:u=.bool true:=by
    have:([D.bool true].getD 0 .undef)=D.bool true:=rfl
    rw[this]at hsc
    exact hsc.bool_inv
   subst hu
   exact⟨rfl,hF.os,hF.tape,hF.output,hF.size,fun k hk=>(hF.keep k hk (.inl rfl)).1⟩
  |panicked c=>exact he.elim
  |outgrown=>exact he.elim
 ·rw[oU hfn hname hbody]at hr
  cases hr
end Go.Proofs.YtdpfilpckndhcaaGreatDoor.Rf

namespace Go.Proofs.YtdpfilpckndhcaaGreatDoor.Rf
set_option linter.unusedVariables false
set_option linter.unusedSimpArgs false
def lU:List (Nat×TI)->Nat->Option TI
 |[],_=>none
 |(k,i)::r,t=>bif Nat.beq k t then some i else lU r t
theorem Mat {P:Program}:∀ {l:List (Nat×TI)},(∀ p∈l,yB P p.1=some p.2)->yA P (lU l)
 |[],_=>⟨fun t i h=>by cases h⟩
 | (k, i) :: r, h => ⟨fun t j ht => by
  simp only[lU]at ht
  cases hb:Nat.beq k t with
  | true =>
   rw[hb,cond_true]at ht
   simp only[Rbv]at hb
   subst hb
   rw[<- ht]
   exact h (k,i) Qb7
  | false =>
   rw[hb,cond_false]at ht
   exact (Mat fun p hp=>h p (Qb2 _ hp)).ok t j ht⟩
def Dav:List (Nat×Ent)->Nat->Ent
 |[],_=>.none
 |(k,e)::r,t=>bif Nat.beq k t then e else Dav r t
theorem Uat {P:Program}{T:Nat->Ent}{ti:Nat->Option TI}{sigs:List (Nat×Sig)}(h:∀ p∈sigs,Tam P T ti sigs p.1 p.2):∀ key s,(key,s)∈sigs->Tam P T ti sigs key s:=fun key s hm=>h (key,s) hm
theorem Say {P : Program} {T : Nat -> Ent} {E : Env} {key : Nat} {s : Sig} {fn : Func} {tm : Tm Unit} (h1 : P.funcs[s.fn]? = some fn) (h2 : (fn.name == "runtime.NumGoroutine") = false) (h3 : Vav E s fn = some tm) (h4 : T key = .tm tm) : Tam P T E.ti E.sigs key s :=
 .inl ⟨E,fn,tm,rfl,rfl,h1,h2,h3,h4⟩
theorem fnK {P : Program} {T : Nat -> Ent} {E : Env} {key : Nat} {s : Sig} {fn : Func} {tm : Tm Unit} (h1 : P.funcs[s.fn]? = some fn) (h : (fn.name == "runtime.NumGoroutine", Vav E s fn, T key) = (false, some tm, .tm tm)) : Tam P T E.ti E.sigs key s :=
 Say h1 (congrArg (·.1) h) (congrArg (·.2.1) h) (congrArg (·.2.2) h)
theorem fc {α:Type}{p:α->Prop}{a:α}{l:List α}(h:p a)(h':∀ x∈l,p x):∀ x∈a::l,p x:=List.forall_mem_cons.2 ⟨h,h'⟩
theorem fc0 {α:Type}{p:α->Prop}:∀ x∈([]:List α),p x:=List.forall_mem_nil _
theorem Zab {T:Nat->Ent}{key:Nat}{ds r:List D}(h:Fun T key ds=some r):∃ n,kY T n key ds=some r:=Hac.1 h
def apL (e d:Nat):Nat->List Nat
 |0=>[]
 |n+1=>(e-d*(n+1))::apL e d n
end Go.Proofs.YtdpfilpckndhcaaGreatDoor.Rf

namespace Go.Proofs.YtdpfilpckndhcaaGreatDoor.Rf
set_option linter.unusedVariables false
set_option linter.unusedSimpArgs false
abbrev i64 (n:Int):D:=.int .i64 n
theorem wrap_i64 {n:Int}(h1:-9223372036854775808<=n)(h2:n<=9223372036854775807):IntKind.i64.wrap n=n:=IntWalk.i64_in n ⟨h1,h2⟩
section
variable {T:Nat->Ent} {β:Type}
end
theorem Gbv {a b:Int}:(aO.bin .lss).run [i64 a,i64 b]=some [.bool (decide (a<b))]:=by simp[aO.run,Lal,zJ]
theorem Gbx {a b:Int}:(aO.bin .gtr).run [i64 a,i64 b]=some [.bool (decide (a>b))]:=by simp[aO.run,Lal,zJ]
theorem Gbw {a b:Int}:(aO.bin .leq).run [i64 a,i64 b]=some [.bool (decide (a<=b))]:=by simp[aO.run,Lal,zJ]
theorem Gby {a b:Int}:(aO.bin .geq).run [i64 a,i64 b]=some [.bool (decide (a ≥ b))]:=by simp[aO.run,Lal,zJ]
theorem Gbu {a b:Int}:(aO.bin .neq).run [i64 a,i64 b]=some [.bool (!(a==b))]:=by simp[aO.run,Lal,zJ,bne]
theorem Gbz {a b:Int}:(aO.bin .eql).run [i64 a,i64 b]=some [.bool (a==b)]:=by simp[aO.run,Lal,zJ]
theorem Ya0 {a b:Int}(h1:-9223372036854775808<=a+b)(h2:a+b<=9223372036854775807):(aO.bin .add).run [i64 a,i64 b]=some [i64 (a+b)]:=by simp[aO.run,Lal,zJ,wrap_i64 h1 h2]
theorem Gbs {a b:Int}(h1:-9223372036854775808<=a-b)(h2:a-b<=9223372036854775807):(aO.bin .sub).run [i64 a,i64 b]=some [i64 (a-b)]:=by simp[aO.run,Lal,zJ,wrap_i64 h1 h2]
theorem Gbt {b:Bool}:aO.not.run [.bool b]=some [.bool (!b)]:=rfl
theorem Gb0 {a b:Bool}:(aO.eqb true).run [.bool a,.bool b]=some [.bool (!(a==b))]:=rfl
section
variable {T:Nat->Ent}
end
def upto {α:Type}(z:α)(ys:List α)(i:Nat):List α:=ys.take i++Qb0 (ys.length-i) z
theorem Oam {α:Type}(z:α)(ys:List α):upto z ys 0=Qb0 ys.length z:=by simp[upto]
theorem Tas {α:Type}(z:α)(ys:List α):upto z ys ys.length=ys:=by simp[upto]
theorem Tar {α:Type}(z:α)(ys:List α){i:Nat}(h:i<=ys.length):(upto z ys i).length=ys.length:=by simp[upto];omega
theorem Taq {α:Type}(z:α)(ys:List α){i:Nat}{y:α}(h:ys[i]?=some y):(upto z ys i).set i y=upto z ys (i+1):=by
 have hlt:=(List.getElem?_eq_some_iff.1 h).1
 apply List.ext_getElem?
 intro j
 rw[List.getElem?_set]
 unfold upto
 rw[Qbs,Qb9,Rbo]
 by_cases e:i=j
 ·subst e
  rw[if_pos rfl,if_pos (by omega),Rbc (by simp;omega),Sbb,if_pos (by omega)]
  exact h.symm
 ·rw[if_neg e]
  rcases Rbj j i with hj|hj
  ·rw[Rbc (by simp;omega),Rbc (by simp;omega),Sbb,Sbb,if_pos hj,if_pos (by omega)]
  ·rw[Rbb (by simp;omega),Rbb (by simp;omega),Sb8,Sb8]
   simp only[Qb9]
   by_cases h2:j<ys.length
   ·rw[if_pos (by omega),if_pos (by omega)]
   ·rw[if_neg (by omega),if_neg (by omega)]
end Go.Proofs.YtdpfilpckndhcaaGreatDoor.Rf

namespace Go.Proofs.YtdpfilpckndhcaaGreatDoor.Rf
set_option linter.unusedVariables false
set_option linter.unusedSimpArgs false
section
variable {T:Nat->Ent} {β:Type}
noncomputable def Er (T:Nat->Ent)(t:Tm β)(ρ:List D):Option (Kind×List D):=(Ev T t ρ).map fun o=>(o.kind,o.vals)
def Pb2 (r:Kind×List D):Option (List D):=if r.1=.ret then some r.2 else none
def Pb7 {α:Type}(d:D)(a b:Option α):Option α:=match d with
 |.bool true=>a
 |.bool false=>b
 |_=>none
def gdR (d:D)(w:Bool):Bool:=match d with
 |.bool b=>b==w
 |_=>false
theorem Pbl {f:Nat}{t:Tm Unit}(h:T f=.tm t)(args:List D):Fun T f args=(Er T t args).bind Pb2:=by
 rw[Mbi h,Er]
 cases Ev T t args<;>rfl
theorem Ibk (k:Kind)(xs:List aM)(e:β)(ρ:List D):Er T (.leaf k xs e) ρ=some (k,xs.map (·.val ρ)):=by
 rw[Er,Ibi];rfl
noncomputable def stepT (T:Nat->Ent)(k:Tm β)(ρ:List D)(n:Nat)(a:Option (List D)):Option (Kind×List D):=a.bind fun ds=>if ds.length=n then Er T k (ρ++ds) else none
noncomputable def Ob5 (T:Nat->Ent)(t e:Tm β)(ρ:List D)(c:D):Option (Kind×List D):=Pb7 c (Er T t ρ) (Er T e ρ)
noncomputable def ltT (T:Nat->Ent)(p:aO)(xs:List aM)(n:Nat)(k:Tm β)(ρ:List D)(w:Bool)(c:D):Option (Kind×List D) :=
 if gdR c w=true then stepT T k ρ n (p.run (xs.map (·.val ρ))) else Er T k (ρ++Qb0 n .undef)
noncomputable def Hb8 (T:Nat->Ent)(f:Nat)(xs:List aM)(n:Nat)(os:List aM)(k:Tm β)(ρ:List D)(w:Bool)(c:D):Option (Kind×List D) :=
 if gdR c w=true then stepT T k ρ n (Fun T f (xs.map (·.val ρ))) else Er T k (ρ++(Qb0 (n-os.length) .undef++os.map (·.val ρ)))
theorem Mbn (p:aO)(xs:List aM)(n:Nat)(k:Tm β)(ρ:List D):Er T (.lt none p xs n k) ρ=stepT T k ρ n (p.run (xs.map (·.val ρ))):=by
 rw[Er,Mbk,stepT]
 simp only[gOn,if_true]
 cases p.run (xs.map (·.val ρ)) with
 |none=>rfl
 | some ds =>
  simp only[Qb3]
  split<;>rfl
theorem Mbm (a:aM)(w:Bool)(p:aO)(xs:List aM)(n:Nat)(k:Tm β)(ρ:List D):Er T (.lt (some (a,w)) p xs n k) ρ=ltT T p xs n k ρ w (a.val ρ):=by
 rw[Er,Mbk,ltT,stepT]
 have:gOn ρ (some (a,w))=gdR (a.val ρ) w:=rfl
 rw[this]
 cases gdR (a.val ρ) w with
 |false=>rfl
 | true =>
  simp only[if_true]
  cases p.run (xs.map (·.val ρ)) with
  |none=>rfl
  | some ds =>
   simp only[Qb3]
   split<;>rfl
theorem Fbi (f:Nat)(xs:List aM)(n:Nat)(os:List aM)(k:Tm β)(ρ:List D):Er T (.call none f xs n os k) ρ=stepT T k ρ n (Fun T f (xs.map (·.val ρ))):=by
 rw[Er,Bbs,stepT]
 simp only[gOn,if_true]
 cases Fun T f (xs.map (·.val ρ)) with
 |none=>rfl
 | some ds =>
  simp only[Qb3]
  split<;>rfl
theorem Fbh (a:aM)(w:Bool)(f:Nat)(xs:List aM)(n:Nat)(os:List aM)(k:Tm β)(ρ:List D):Er T (.call (some (a,w)) f xs n os k) ρ=Hb8 T f xs n os k ρ w (a.val ρ):=by
 rw[Er,Bbs,Hb8,stepT]
 have:gOn ρ (some (a,w))=gdR (a.val ρ) w:=rfl
 rw[this]
 cases gdR (a.val ρ) w with
 |false=>rfl
 | true =>
  simp only[if_true]
  cases Fun T f (xs.map (·.val ρ)) with
  |none=>rfl
  | some ds =>
   simp only[Qb3]
   split<;>rfl
theorem Mbo (c:aM)(t e:Tm β)(ρ:List D):Er T (.ite c t e) ρ=Ob5 T t e ρ (c.val ρ):=by
 rw[Er,Mbl,Ob5]
 cases c.val ρ with
 |bool b=>cases b<;>rfl
 |_=>rfl
noncomputable def qG (T:Nat->Ent)(i:Nat)(k:Tm β)(ρ:List D)(r:Option (Kind×List D)):Option (Kind×List D):=r.bind fun r=>if r.1=.yield i then Er T k (ρ++r.2) else some r
theorem Vak {i:Nat}{k:Tm β}{ρ ds:List D}:qG T i k ρ (some (.yield i,ds))=Er T k (ρ++ds):=by simp[qG]
theorem Xap {i:Nat}{k:Tm β}{ρ ds:List D}:qG T i k ρ (some (.ret,ds))=some (.ret,ds):=by simp[qG]
theorem Van {i:Nat}{k:Tm β}{ρ ds:List D}:qG T i k ρ (some (.cont,ds))=some (.cont,ds):=by simp[qG]
theorem Dbr {i j:Nat}{k:Tm β}{ρ ds:List D}(h:j≠i):qG T i k ρ (some (.yield j,ds))=some (.yield j,ds):=by simp[qG,h]
theorem Ibl (i:Nat)(t k:Tm β)(ρ:List D):Er T (.bind i t k) ρ=qG T i k ρ (Er T t ρ):=by
 rw[Er,Ibj,qG,Er]
 cases Ev T t ρ with
 |none=>rfl
 | some o =>
  simp only[Qb3,Rb5]
  split<;>rfl
theorem Fbr {t:Tm β}{ρ:List D}{k:Kind}{ds:List D}(h:Er T t ρ=some (k,ds)):∃ o,Ev T t ρ=some o/\o.kind=k/\o.vals=ds:=by
 unfold Er at h
 cases e:Ev T t ρ with
 |none=>rw[e]at h;cases h
 | some o =>
  rw[e,Rb5]at h
  have:=Option.some.inj h
  exact⟨o,rfl,congrArg Prod.fst this,congrArg Prod.snd this⟩
theorem Zat {γ:Type}{body:Tm β}{ρ:List D}(m:γ->Nat)(inv:γ->Prop)(vs:γ->List D)(Q:Kind×List D->Prop)
  (h:∀ c,inv c->∃ r,Er T body (ρ++vs c)=some r/\(r.1=.cont/\(∃ c',inv c'/\m c'<m c/\r.2=vs c')\/r.1≠.cont/\Q r)) :
  ∀ (n:Nat) c,m c<=n->inv c->∀ xs:List aM,xs.map (·.val ρ)=vs c->∃ r,Er T (.loop xs body) ρ=some r/\Q r:=by
 have key:∀ (n:Nat) c,m c<=n->inv c->∃ o,Lp T body ρ (vs c)=some o/\Q (o.kind,o.vals):=by
  intro n
  induction n with
  | zero =>
   intro c hm hc
   obtain⟨⟨k,ds⟩,h1,h2⟩:=h c hc
   obtain⟨o,h3,rfl,rfl⟩:=Fbr h1
   rcases h2 with ⟨-,c',-,h5,-⟩|⟨h4,h5⟩
   ·omega
   ·exact⟨o,by rw[Ibg,h3,Qb3,if_neg h4],h5⟩
  | succ n ih =>
   intro c hm hc
   obtain⟨⟨k,ds⟩,h1,h2⟩:=h c hc
   obtain⟨o,h3,rfl,rfl⟩:=Fbr h1
   rcases h2 with ⟨h4,c',h5,h6,h7⟩|⟨h4,h5⟩
   ·obtain⟨o',h8,h9⟩:=ih c' (by omega) h5
    refine⟨o',?_,h9⟩
    rw[Ibg,h3,Qb3,if_pos h4]
    show Lp T body ρ o.vals=_
    rw[show o.vals=vs c' from h7,h8]
   ·exact⟨o,by rw[Ibg,h3,Qb3,if_neg h4],h5⟩
 intro n c hm hc xs hx
 obtain⟨o,h1,h2⟩:=key n c hm hc
 exact⟨_,by rw[Er,Ibh,hx,h1,Rb5],h2⟩
end
end Go.Proofs.YtdpfilpckndhcaaGreatDoor.Rf

namespace Go.Proofs.YtdpfilpckndhcaaGreatDoor.Rf
set_option linter.unusedVariables false
set_option linter.unusedSimpArgs false
def Xac (ok:Nat->Bool):Nat->Bool
 |0=>true
 |n+1=>Xac ok n&&ok n
theorem sP {ok:Nat->Bool}:∀ {n:Nat},Xac ok n=true↔∀ i,i<n->ok i=true
 |0=>by simp[Xac]
 | n + 1 => by
  simp only[Xac,Qbq,sP (n:=n)]
  constructor
  ·rintro⟨h1,h2⟩ i hi
   rcases Rbj i n with h|h
   ·exact h1 i h
   ·obtain rfl:i=n:=by omega
    exact h2
  ·exact fun h=>⟨fun i hi=>h i (by omega),h n (by omega)⟩
theorem Laq {ok:Nat->Bool}{n:Nat}:Xac ok n=false↔∃ i,i<n/\ok i=false:=by
 constructor
 ·intro h
  apply Classical.byContradiction
  intro hn
  have:Xac ok n=true:=sP.2 fun i hi=>by
   cases e:ok i with
   |true=>rfl
   |false=>exact absurd ⟨i,hi,e⟩ hn
  rw[this]at h;cases h
 ·rintro⟨i,hi,h⟩
  cases e:Xac ok n with
  |false=>rfl
  |true=>rw[sP.1 e i hi]at h;cases h
section
variable {T:Nat->Ent} {β:Type}
end
theorem Lbl {d:D}:aO.id.run [d]=some [d]:=rfl
def inR (x lo hi:Int):Bool:=decide (lo<=x)&&decide (x<=hi)
end Go.Proofs.YtdpfilpckndhcaaGreatDoor.Rf
