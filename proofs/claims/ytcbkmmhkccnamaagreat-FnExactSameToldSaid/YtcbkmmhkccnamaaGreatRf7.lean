/- Terms for so program's functions, and nh they are right: part 7 of 10. -/
import Derived.Test.YtcbkmmhkccnamaaGreatRf6
import Derived.SizedLaws
import Derived.Carry
import Derived.ChangeOld
import Derived.ChangeShapes
import Derived.RowKit
import Derived.IntWalk
open Bool renaming and_eq_true → Zbo, false_eq_true → Zbr
open List renaming mem_append_left → Zbp, getElem?_eq_getElem → Zbq, mem_append_right → Zbs, length_append → Zbt, getD_eq_getElem?_getD → Zbu, getElem?_cons_zero → Zbw, append_assoc → Zbx, mem_cons_of_mem → Zby, mem_singleton → Zb0, length_cons → Zb1, length_map → Zb3, mem_of_getElem? → Zb4, mem_cons_self → Zb5, replicate → Zb6, getElem?_append_right → Zb8, getElem?_append_left → Zb9, all_eq_true → Acd, getElem?_map → Ace, append_nil → Acf, map_cons → Acg, length_take → Aci, map_nil → Acm, mem_cons → Acu, nil_append → Ac0, getElem?_take → Ac4, length_replicate → Ac6, filter_cons → Bcg, cons_append → Bcq, getElem?_replicate → Bcy, mem_append → Ccd, getElem?_range → Dca
open Nat renaming le_refl → Zb2, lt_or_ge → Aca, add_assoc → Acb, beq_eq → Acj, add_zero → Ack, zero_add → Acl, add_sub_cancel_left → Acs, ble_eq → Ac2
open Option renaming bind_eq_some_iff → Zbn, bind_some → Zbv, map_eq_some_iff → Zbz, map_some → Acz, getD_some → Bcn
set_option linter.unusedSimpArgs false
set_option linter.unusedVariables false
set_option linter.unnecessarySimpa false
set_option linter.unusedSectionVars false
namespace Go.Proofs.YtcbkmmhkccnamaaGreat.Rf
section
variable (w:World)
def owC (ad:Addr):Nat->List BO->List Value
 |_,[]=>[]
 |off,s::r=>(match s with | .ow _=>[(w.cell? (ad.add off)).getD undef] | _=>[])++owC ad (off+1) r
def Vah:LR->Value->List Value
 |.ow _,v=>[v]
 |.bx cs,.pointer (some ad)=>owC w ad 0 cs
 |_,_=>[]
def owL:List LR->List Value->List Value
 |s::ss,v::vs=>Vah w s v++owL ss vs
 |_,_=>[]
def owR:List (Bool×List LR)->List Value->List Value
 |(a,ss)::rs,u::us=>owL w ss (if a=true then u.cells.toList else [u])++owR rs us
 |_,_=>[]
def owB (bx:Nat->Addr):Nat->List (Bool×List (BS×BO))->List Value
 |_,[]=>[]
 |b,(ro,cs)::r=>if ro=true then owB bx (b+1) r else owC w (bx b) 0 (cs.map (·.2))++owB bx (b+1) r
end
def Ra2:LR->Value->List Addr
 |.bx _,.pointer (some ad)=>[ad]
 |_,_=>[]
def Na8:List LR->List Value->List Addr
 |s::ss,v::vs=>Ra2 s v++Na8 ss vs
 |_,_=>[]
def Jam:List (Bool×List LR)->List Value->List Addr
 |(a,ss)::rs,u::us=>Na8 ss (if a=true then u.cells.toList else [u])++Jam rs us
 |_,_=>[]
theorem Yaz (s:LR)(v:Value):(Ra2 s v).length<=(match s with|.bx _=>1|_=>0):=by
 unfold Ra2;split<;>simp
theorem Ra4:∀ (ss:List LR) (vs:List Value),(Na8 ss vs).length<=bxL ss
 |[],vs=>by simp[Na8]
 |s::ss,[]=>by simp[Na8]
 | s :: ss, v :: vs => by
  have h1:=Yaz s v;have h2:=Ra4 ss vs;simp only[Na8,Zbt];cases s<;>simp only[bxL]at *<;>omega
theorem Ra3:∀ (rs:List (Bool×List LR)) (us:List Value),(Jam rs us).length<=kQ rs
 |[],us=>by simp[Jam]
 |(a,ss)::rs,[]=>by simp[Jam]
 | (a, ss) :: rs, u :: us => by
  have h1:=Ra4 ss (if a=true then u.cells.toList else [u]);have h2:=Ra3 rs us;simp only[Jam,Zbt,kQ];omega
def Tae:List BO->Bool
 |[]=>true
 |.ow _::_=>false
 |_::r=>Tae r
section
variable {E:Env} {F:bG} {σ dT:Nat->Option aS} {ρ:List D} {a:Act} {w w':World} {G G':Gh} {s:Sig} {Z:Take} {gd:Bool} {nr nb y0:Nat} {hs:List Value} {adn:Addr} {ds:List D}
def Ra9 (ρ:List D)(l:List Step):Prop:=∀ m y,.prim (.dep m) [.v y] 0∈l->oZ m ((aK.v y).val ρ)=true
structure Aft (E:Env) (F:bG) (σ dT:Nat->Option aS) (ρ:List D) (a:Act) (w:World) (G:Gh) (s:Sig) (Z:Take) (G':Gh) (w':World) (y0:Nat) (ds:List D):Prop where
 B:Saa E F σ ρ a w G s Z G' w'
 val:∀ i,i<ds.length->(aK.v (y0+i)).val ρ=ds.getD i .undef
 known:∀ z∈Z.deps,jB dT z.1 z.2
def UOk (tj:Nat->Prop)(dT:Nat->Option aS)(ρ:List D)(G2:Gh)(w':World)(nr nb y0:Nat)(u:List (Nat×aS)):Prop :=
 ∀ k c,(k,c)∈u->(∃ q m i,k=kR (nr+q)/\c=.root (.v (y0+i)) m 0 .live/\Rp G2.own w' (nr+q) [] m (G2.hdr (nr+q)) ((aK.v (y0+i)).val ρ)) \/
  (k=kB nb/\∃ ls,c=.box false ls/\Mad dT ρ G2 w' nb false ls/\tj (G2.bx nb).block)
theorem UOk.append {tj:Nat->Prop}{G2:Gh}{u v:List (Nat×aS)}(h:UOk tj dT ρ G2 w' nr nb y0 u)(h':UOk tj dT ρ G2 w' nr nb y0 v):UOk tj dT ρ G2 w' nr nb y0 (u++v):=fun k c hc=>(List.mem_append.1 hc).elim (h k c) (h' k c)
def UIn (dT:Nat->Option aS)(nr:Nat)(u:List (Nat×aS)):Prop:=∀ k c,(k,c)∈u->(dT k).isSome/\∀ q,k=kR (nr+q)->q<bU
theorem UIn.left {u v:List (Nat×aS)}(h:UIn dT nr (u++v)):UIn dT nr u:=fun k c hc=>h k c (Zbp _ hc)
theorem UIn.right {u v:List (Nat×aS)}(h:UIn dT nr (u++v)):UIn dT nr v:=fun k c hc=>h k c (Zbs _ hc)
theorem Bbn {own':Nat->Ow}{q:Nat}(hq:q<bU){v:Value}(hv:hs[q]?=some v):(fC gd ρ G w s Z nr nb own' hs adn).hdr (nr+q)=v:=by
 simp only[fC];rw[if_pos ⟨by omega,by omega⟩,Acs,Zbu,hv];rfl
variable (A:Aft E F σ dT ρ a w G s Z G' w' y0 ds)
include A
theorem Ya0 {i q off:Nat}{t:BO}{v:Value}(h:Eat G'.own w' ds i q t v)(hi:i<ds.length)(fp:Z.deps=[]\/∀ m,t=.ow m->oZ m ((aK.v (y0+i)).val ρ)=true)
  (fX:gd=false\/∀ m,t≠.ow m) (hh:∀ m,t=.ow m->hs[q]?=some v) (hu:UIn dT nr (jP Z.deps (y0+i) (nr+q) t).2.1) :
  (jP Z.deps (y0+i) (nr+q) t).2.2=nr+q+t.q/\aB dT ρ (fC gd ρ G w s Z nr nb G'.own hs adn) w' (jP Z.deps (y0+i) (nr+q) t).1 v/\UOk (fun b=>¬ (b<w.heap.size/\Nan ((callG ρ G w s Z).own b)=false)) dT ρ (fC gd ρ G w s Z nr nb G'.own hs adn) w' nr nb y0 (jP Z.deps (y0+i) (nr+q) t).2.1:=by
 cases t with
 | sc =>
  refine⟨rfl,?_,by simp[UOk,jP]⟩;simp only[jP,aB];rw[A.val i hi];exact h
 | fz =>
  refine⟨rfl,?_,by simp[UOk,jP]⟩;simp only[jP,aB];simp only[Eat]at h;rw[A.val i hi];exact⟨⟨h.one,A.known⟩,fun _=>⟨A.B.rd h,fun e=>absurd e (by decide),trivial⟩⟩
 | ow m =>
  have hg:gd=false:=fX.resolve_right fun e=>e m rfl
  simp only[Eat]at h;have jo:=hu (kR (nr+q)) _ (by simp only[jP];exact List.mem_singleton.2 rfl);have zt:=Bbn (gd:=gd) (ρ:=ρ) (G:=G) (w:=w) (s:=s) (Z:=Z) (nr:=nr) (nb:=nb) (adn:=adn) (own':=G'.own) (jo.2 q rfl) (hh m rfl);have uk:Z.deps=[]\/oZ m (ds.getD i .undef)=true:=fp.imp id fun e=>by rw[<- A.val i hi];exact e m rfl
  have fg:=A.B.give (gd:=gd) (nr:=nr) (nb:=nb) (hs:=hs) (adn:=adn) h uk hg (jo.2 q rfl);refine⟨rfl,?_,?_⟩
  ·simp only[jP,aB]
   exact⟨zt.symm,jo.1,h.one⟩
  ·intro k c hc
   simp only[jP,Zb0,Prod.mk.injEq]at hc;refine .inl ⟨q,m,i,hc.1,hc.2,?_⟩;rw[zt,A.val i hi];exact fg
 | dead =>
  refine⟨rfl,?_,by simp[UOk,jP]⟩;simp only[jP,aB];exact h
theorem Aa3:∀ {cs:List BO} {i q off:Nat} {ad:Addr},Dai G'.own w' ds ad off i q cs->i+cs.length<=ds.length->(Z.deps=[]\/Ra9 ρ (nS (y0+i) cs))->(gd=false\/Tae cs=true) ->
  (∀ j v,(owC w' ad off cs)[j]?=some v->hs[q+j]?=some v)->UIn dT nr (dO Z.deps (y0+i) (nr+q) cs).2.1 ->
  (dO Z.deps (y0+i) (nr+q) cs).2.2=nr+q+qC cs/\(dO Z.deps (y0+i) (nr+q) cs).1.length=cs.length/\(owC w' ad off cs).length=qC cs /\
  (∀ j l,(dO Z.deps (y0+i) (nr+q) cs).1[j]?=some l->∃ v,w'.cell? (ad.add (off+j))=some v/\w'.frozen? (ad.add (off+j))=false/\aB dT ρ (fC gd ρ G w s Z nr nb G'.own hs adn) w' l v) /\
  UOk (fun b=>¬ (b<w.heap.size/\Nan ((callG ρ G w s Z).own b)=false)) dT ρ (fC gd ρ G w s Z nr nb G'.own hs adn) w' nr nb y0 (dO Z.deps (y0+i) (nr+q) cs).2.1
 |[],i,q,off,ad,_,_,_,_,_,_=>⟨rfl,rfl,rfl,by simp[dO],by simp[UOk,dO]⟩
 | t :: cs, i, q, off, ad, h, hi, fp, fX, hh, hu => by
  obtain⟨⟨v,h1,h2,h3⟩,h4⟩:=h;simp only[Zb1]at hi;simp only[dO]at hu;have hlen:∀ t:BO,(match t with|.ow _=>[(w'.cell? (ad.add off)).getD undef]|_=>([]:List Value)).length=t.q:=fun t=>by cases t<;>rfl
  have hb:=Ya0 A (gd:=gd) (nr:=nr) (nb:=nb) (hs:=hs) (adn:=adn) (off:=off) h3 (by omega) (fp.imp id fun e m hm=>e m _ (by subst hm;simp only[nS];exact Zb5))
   (fX.imp id fun e m hm=>by subst hm;simp[Tae]at e) (fun m hm=>by
    subst hm;have:=hh 0 v (by simp[owC,h1]);simpa using this) hu.left
  obtain⟨h5,h6,h7⟩:=hb
  have cq:=Aa3 (cs:=cs) (i:=i+1) (q:=q+t.q) (off:=off+1) (ad:=ad) h4 (by omega) (fp.imp id fun e m y hm=>e m y (by
    cases t with
    |ow m'=>simp only[nS];exact Zby _ hm
    |_=>exact hm)) (fX.imp id fun e=>by cases t<;>simp[Tae]at e ⊢<;>exact e) (fun j x hj=>by
    have:=hh (t.q+j) x (by
     simp only[owC];rw[Zb8 (by rw[hlen];omega),hlen,Acs];exact hj)
    rwa[<- Acb]at this) (by
    have:=hu.right;rw[h5]at this;rw[<- Acb,<- Acb];exact this)
  rw[<- Acb,<- Acb]at cq;obtain⟨h8,h9,cQ,dz,fy⟩:=cq;simp only[dO];rw[h5];refine⟨by rw[h8];simp only[qC];omega,by simp[h9],by simp only[owC,Zbt,hlen,cQ,qC],fun j l hj=>?_,h7.append fy⟩
  cases j with
  | zero =>
   simp only[Zbw,Option.some.injEq]at hj;subst hj;exact⟨v,h1,h2,h6⟩
  | succ j =>
   obtain⟨v',iq,ko,mm⟩:=dz j l (by simpa using hj);rw[show off+(j+1)=off+1+j by omega];exact⟨v',iq,ko,mm⟩
theorem Sa6 (uz:dT (kB nb)=none\/True){i q:Nat}{t:LR}{v:Value}(h:lW G'.own w' ds s.boxes.length i q t v)(hi:i+t.n<=ds.length)(fp:Z.deps=[]\/Ra9 ρ (Ta8 (y0+i) [t]))
  (fX:gd=false\/bxL [t]=0) (hh:∀ j x,(Vah w' t v)[j]?=some x->hs[q+j]?=some x) (s8:∀ ad∈Ra2 t v,ad=adn) (hu:UIn dT nr (cB gd Z.deps nb (y0+i) (nr+q) t).2.1) :
  (cB gd Z.deps nb (y0+i) (nr+q) t).2.2=nr+q+t.q/\(Vah w' t v).length=t.q/\aB dT ρ (fC gd ρ G w s Z nr nb G'.own hs adn) w' (cB gd Z.deps nb (y0+i) (nr+q) t).1 v/\UOk (fun b=>¬ (b<w.heap.size/\Nan ((callG ρ G w s Z).own b)=false)) dT ρ (fC gd ρ G w s Z nr nb G'.own hs adn) w' nr nb y0 (cB gd Z.deps nb (y0+i) (nr+q) t).2.1:=by
 cases t with
 | sc =>
  refine⟨rfl,by cases v<;>rfl,?_,by simp[UOk,cB]⟩;simp only[LR.n]at hi;simp only[cB,aB];rw[A.val i (by omega)];exact h
 | fz =>
  refine⟨rfl,by cases v<;>rfl,?_,by simp[UOk,cB]⟩;simp only[LR.n]at hi;simp only[lW]at h;simp only[cB,aB];rw[A.val i (by omega)];exact⟨⟨h.one,A.known⟩,fun _=>⟨A.B.rd h,fun e=>absurd e (by decide),trivial⟩⟩
 | ow m =>
  simp only[LR.n]at hi;simp only[lW]at h
  cases gd with
  | true =>
   refine⟨rfl,rfl,?_,by simp[UOk,cB]⟩;simp only[cB,cond_true,aB];rw[A.val i (by omega)];exact⟨⟨h.one,A.known⟩,fun _=>⟨A.B.giveGd h rfl,fun e=>absurd e (by decide),trivial⟩⟩
  | false =>
   have jo:=hu (kR (nr+q)) _ (by simp only[cB,cond_false];exact List.mem_singleton.2 rfl);have zt:=Bbn (gd:=false) (ρ:=ρ) (G:=G) (w:=w) (s:=s) (Z:=Z) (nr:=nr) (nb:=nb) (adn:=adn) (own':=G'.own) (jo.2 q rfl) (hh 0 v rfl)
   have uk:Z.deps=[]\/oZ m (ds.getD i .undef)=true:=fp.imp id fun e=>by
    rw[<- A.val i (by omega)];exact e m _ (by simp only[Ta8];exact Zb5)
   have fg:=A.B.give (gd:=false) (nr:=nr) (nb:=nb) (hs:=hs) (adn:=adn) h uk rfl (jo.2 q rfl);refine⟨rfl,rfl,?_,?_⟩
   ·simp only[cB,cond_false,aB]
    exact⟨zt.symm,jo.1,h.one⟩
   ·intro k c hc
    simp only[cB,cond_false,Zb0,Prod.mk.injEq]at hc;refine .inl ⟨q,m,i,hc.1,hc.2,?_⟩;rw[zt,A.val i (by omega)];exact fg
 | rp z =>
  refine⟨rfl,by cases v<;>rfl,?_,by simp[UOk,cB]⟩;simp only[LR.n]at hi;simp only[lW]at h;simp only[cB,aB];rw[A.val i (by omega)];refine⟨⟨h.1,A.known⟩,fun _=>?_⟩
  rcases h.2 with h1|⟨ad,row,h1,h2,h3⟩
  ·exact .inl h1
  ·exact .inr ⟨ad,row,h1,h2,A.B.rd h3⟩
 | bx cs =>
  have hg:gd=false:=fX.resolve_right fun e=>by simp[bxL]at e
  simp only[LR.n]at hi;simp only[lW]at h;obtain⟨ad,rfl,h1,h2,h3⟩:=h;have a6y:ad=adn:=s8 ad (by simp[Ra2]);simp only[cB]at hu;have hu':UIn dT nr (dO Z.deps (y0+i) (nr+q) cs).2.1:=fun k c hc=>hu k c (Zby _ hc)
  obtain⟨h4,h5,h6,h7,h8⟩:=Aa3 A (gd:=gd) (nb:=nb) (hs:=hs) (adn:=adn) h3 hi (fp.imp id fun e m y hm=>e m y (by simp only[Ta8];exact Zbp _ hm)) (.inl hg) hh hu';have lR:=(hu (kB nb) _ Zb5).1
  have gb:(fC gd ρ G w s Z nr nb G'.own hs adn).bx nb=ad:=by
   simp only[fC,if_pos trivial];exact a6y.symm
  have yu:¬ (ad.block<w.heap.size/\Nan ((callG ρ G w s Z).own ad.block)=false):=by
   ·rintro⟨hb,gw⟩
    cases l7:(callG ρ G w s Z).own ad.block with
    |frz=>have:=(A.B.keep hb (.inl l7)).2;rw[h2,l7]at this;cases this
    |oth=>have:=(A.B.keep hb (.inr l7)).2;rw[h2,l7]at this;cases this
    |slc _ _=>rw[l7]at gw;cases gw
    | box j =>
     have:=(A.B.hF.boxes ad.block j hb l7).1;rw[h2]at this
     injection this with this
     have hgc:∃ c,Sa2 Z.ptrs c 0 s.boxes=some j:=by
      simp only[callG]at l7
      cases hgb:G.own ad.block with
      | box c =>
       rw[hgb]at l7;dsimp only at l7;split at l7
       ·rename_i x hx
        split at l7
        ·injection l7 with l7
         exact⟨c,by rw[hx,l7]⟩
        ·cases l7
       ·cases l7
      | slc r p =>
       rw[hgb]at l7;dsimp only at l7
       rcases Gag (ρ:=ρ) (dr:=Z.deps.map (·.1)) (r:=r) (p:=p) Z.rts 0 with ⟨_,_,e⟩|e|e<;>rw[e]at l7<;>cases l7
      |frz=>rw[hgb]at l7;cases l7
      |oth=>rw[hgb]at l7;cases l7
     obtain⟨c,hc⟩:=hgc;obtain⟨j',oE,kq,e1,e2,-⟩:=Gaf hc;have:=(List.getElem?_eq_some_iff.1 e2).1;omega
  have az:(fC gd ρ G w s Z nr nb G'.own hs adn).own ad.block=.box nb:=by
   simp only[fC];rw[if_neg yu,h2];simp[uN]
  refine⟨?_,?_,?_,?_⟩
  ·simp only[cB];exact h4
  ·simp only[Vah];exact h6
  ·simp only[cB,aB]
   exact⟨by rw[gb];rfl,lR⟩
  ·simp only[cB]
   intro k c hc
   rcases List.mem_cons.1 hc with hc|hc
   ·obtain⟨rfl,rfl⟩:=Prod.mk.inj hc
    refine .inr ⟨rfl,_,rfl,⟨by rw[gb];exact h1,by rw[gb,az];rfl,fun j l hj=>?_⟩,by rw[gb];exact yu⟩;rw[gb];have:=h7 j l hj;rwa[Acl]at this
   ·exact h8 k c hc
theorem Bau:∀ {ss:List LR} {i q:Nat} {vs:List Value},pV G'.own w' ds s.boxes.length i q ss vs->i+mZ ss<=ds.length->(Z.deps=[]\/Ra9 ρ (Ta8 (y0+i) ss)) ->
  (gd=false\/bxL ss=0)->(∀ j x,(owL w' ss vs)[j]?=some x->hs[q+j]?=some x)->(∀ ad∈Na8 ss vs,ad=adn)->UIn dT nr (dH gd Z.deps nb (y0+i) (nr+q) ss).2.1 ->
  (dH gd Z.deps nb (y0+i) (nr+q) ss).2.2=nr+q+qL ss/\(owL w' ss vs).length=qL ss/\aG dT ρ (fC gd ρ G w s Z nr nb G'.own hs adn) w' (dH gd Z.deps nb (y0+i) (nr+q) ss).1 vs/\UOk (fun b=>¬ (b<w.heap.size/\Nan ((callG ρ G w s Z).own b)=false)) dT ρ (fC gd ρ G w s Z nr nb G'.own hs adn) w' nr nb y0 (dH gd Z.deps nb (y0+i) (nr+q) ss).2.1
 | [], i, q, vs, h, _, _, _, _, _, _ => by
  simp only[pV]at h;subst h;exact⟨rfl,rfl,by simp[dH,aG],by simp[UOk,dH]⟩
 | t :: ss, i, q, vs, h, hi, fp, fX, hh, s8, hu => by
  obtain⟨u,us,rfl,h1,h2⟩:=h;simp only[mZ]at hi;simp only[dH]at hu
  obtain⟨h3,h4,h5,h6⟩:=Sa6 A (gd:=gd) (nb:=nb) (hs:=hs) (adn:=adn) (.inr trivial) h1 (by omega) (fp.imp id fun e m y hm=>e m y (by
    cases t with
    |ow m'=>simp only[Ta8,Zb0]at hm ⊢;rw[hm];exact Zb5
    |bx cs=>simp only[Ta8,Acf]at hm ⊢;exact Zbp _ hm
    |_=>simp[Ta8]at hm))
   (fX.imp id fun e=>by cases t<;>simp only[bxL]at e ⊢<;>omega) (fun j x hj=>hh j x (by
    simp only[owL];rw[Zb9 (List.getElem?_eq_some_iff.1 hj).1];exact hj))
   (fun ad hm=>s8 ad (by simp only[Na8];exact Zbp _ hm)) hu.left
  have cq:=Bau (ss:=ss) (i:=i+t.n) (q:=q+t.q) h2 (by omega) (fp.imp id fun e m y hm=>e m y (by
    cases t with
    |ow m'=>simp only[Ta8];exact Zby _ hm
    |bx cs=>simp only[Ta8];rw[Acb];exact Zbs _ hm
    |_=>exact hm)) (fX.imp id fun e=>by cases t<;>simp only[bxL]at e<;>omega) (fun j x hj=>by
    have:=hh (t.q+j) x (by
     simp only[owL];rw[Zb8 (by rw[h4];omega),h4,Acs];exact hj)
    rwa[<- Acb]at this) (fun ad hm=>s8 ad (by simp only[Na8];exact Zbs _ hm)) (by
    have:=hu.right;rw[h3]at this;rw[<- Acb,<- Acb];exact this)
  rw[<- Acb,<- Acb]at cq;obtain⟨h7,h8,h9,cQ⟩:=cq;simp only[dH];rw[h3];refine⟨by rw[h7];simp only[qL];omega,by simp only[owL,Zbt,h4,h8,qL],?_,h6.append cQ⟩;simp only[aG];exact⟨u,us,rfl,h5,h9⟩
theorem Ka5:∀ {rs:List (Bool×List LR)} {i q:Nat} {us:List Value},Mab G'.own w' ds s.boxes.length i q rs us->i+bK rs<=ds.length->(Z.deps=[]\/Ra9 ρ (Cb3 (y0+i) rs)) ->
  (gd=false\/kQ rs=0)->(∀ j x,(owR w' rs us)[j]?=some x->hs[q+j]?=some x)->(∀ ad∈Jam rs us,ad=adn)->UIn dT nr (jA gd Z.deps nb (y0+i) (nr+q) rs).2.1 ->
  (jA gd Z.deps nb (y0+i) (nr+q) rs).2.2=nr+q+qR rs/\(owR w' rs us).length=qR rs/\iI dT ρ (fC gd ρ G w s Z nr nb G'.own hs adn) w' (jA gd Z.deps nb (y0+i) (nr+q) rs).1 us/\UOk (fun b=>¬ (b<w.heap.size/\Nan ((callG ρ G w s Z).own b)=false)) dT ρ (fC gd ρ G w s Z nr nb G'.own hs adn) w' nr nb y0 (jA gd Z.deps nb (y0+i) (nr+q) rs).2.1
 | [], i, q, us, h, _, _, _, _, _, _ => by
  simp only[Mab]at h;subst h;exact⟨rfl,rfl,rfl,by simp[UOk,jA]⟩
 | (ag, ss) :: rs, i, q, us, h, hi, fp, fX, hh, s8, hu => by
  obtain⟨u,da,vs,rfl,h1,h2,h3⟩:=h;simp only[bK]at hi;simp only[jA]at hu
  have kA:(if ag=true then u.cells.toList else [u])=vs:=by
   cases ag with
   | true =>
    simp only[if_true]at h2 ⊢;rw[h2];simp[Value.cells]
   |false=>simp only[Zbr,if_false]at h2 ⊢;exact h2.symm
  obtain⟨h4,h5,h6,h7⟩:=Bau A (gd:=gd) (nb:=nb) (hs:=hs) (adn:=adn) h1 (by omega) (fp.imp id fun e m y hm=>e m y (by simp only[Cb3];exact Zbp _ hm))
   (fX.imp id fun e=>by simp only[kQ]at e;omega) (fun j x hj=>hh j x (by
    simp only[owR,kA];rw[Zb9 (List.getElem?_eq_some_iff.1 hj).1];exact hj))
   (fun ad hm=>s8 ad (by simp only[Jam,kA];exact Zbp _ hm)) hu.left
  have cq:=Ka5 (rs:=rs) (i:=i+mZ ss) (q:=q+qL ss) h3 (by omega) (fp.imp id fun e m y hm=>e m y (by
    simp only[Cb3];rw[Acb]
    exact Zbs _ hm)) (fX.imp id fun e=>by simp only[kQ]at e;omega) (fun j x hj=>by
    have:=hh (qL ss+j) x (by
     simp only[owR,kA];rw[Zb8 (by rw[h5];omega),h5,Acs];exact hj)
    rwa[<- Acb]at this) (fun ad hm=>s8 ad (by simp only[Jam];exact Zbs _ hm)) (by
    have:=hu.right;rw[h4]at this;rw[<- Acb,<- Acb];exact this)
  rw[<- Acb,<- Acb]at cq;obtain⟨h8,h9,cQ,dz⟩:=cq;simp only[jA];rw[h4];exact⟨by rw[h8];simp only[qR];omega,by simp only[owR,kA,Zbt,h5,h9,qR],⟨u,da,vs,rfl,h6,h2,cQ⟩,h7.append dz⟩
theorem Aa1 (uz:σ (kB nb)=none):∀ {bs:List (Bool×List (BS×BO))} {b i q:Nat} {bu:List (Nat×aS)},(∀ j x,bs[j]?=some x->s.boxes[b+j]?=some x)->(lU Z.ptrs Z.deps b (y0+i) (nr+q) bs).eval σ=some bu ->
  lX G'.own w' ds (callG ρ G w s Z).bx b i q bs->i+eB bs<=ds.length->(Z.deps=[]\/Ra9 ρ (Yay (y0+i) bs))->(gd=false\/∀ x∈bs,x.1=false->Tae (x.2.map (·.2))=true) ->
  (∀ j x,(owB w' (callG ρ G w s Z).bx b bs)[j]?=some x->hs[q+j]?=some x)->UIn dT nr bu ->
  (∀ k c,(k,c)∈bu->(∃ q m i,k=kR (nr+q)/\c=.root (.v (y0+i)) m 0 .live/\Rp (fC gd ρ G w s Z nr nb G'.own hs adn).own w' (nr+q) [] m ((fC gd ρ G w s Z nr nb G'.own hs adn).hdr (nr+q)) ((aK.v (y0+i)).val ρ)) \/
   ∃ c0 ji ls,k=kB c0/\σ (kB c0)=some (.box false ji)/\c=.box false ls/\ls.length=ji.length /\
    ((∀ j l,ji[j]?=some l->∃ v,w.cell? ((G.bx c0).add j)=some v/\(aB σ ρ G w l v->aB dT ρ (fC gd ρ G w s Z nr nb G'.own hs adn) w' l v))->Mad dT ρ (fC gd ρ G w s Z nr nb G'.own hs adn) w' c0 false ls)) /\
  (∀ c,c∈iP false Z.ptrs b bs->∃ x,(kB c,x)∈bu)
 | [], b, i, q, bu, _, h, _, _, _, _, _, _ => by
  simp only[lU,aF,Option.some.injEq]at h;subst h;exact⟨by simp,by simp[iP]⟩
 | (ro, cs) :: bs, b, i, q, bu, zh, h, hf, hi, fp, fX, hh, hu => by
  simp only[lU]at h
  have a10:∀ j x,bs[j]?=some x->s.boxes[b+1+j]?=some x:=fun j x hj=>by
   rw[show b+1+j=b+(j+1) by omega];exact zh (j+1) x (by simpa using hj)
  cases ro with
  | true =>
   simp only[cond_true]at h;simp only[lX,if_true]at hf;simp only[eB,cond_true,Acl]at hi
   obtain⟨h1,h2⟩:=Aa1 uz (bs:=bs) (b:=b+1) a10 h hf hi (fp.imp id fun e m y hm=>e m y (by simp only[Yay,cond_true];exact hm)) (fX.imp id fun e x hx=>e x (Zby _ hx))
    (fun j x hj=>hh j x (by simp only[owB,if_true];exact hj)) hu
   refine⟨h1,fun c hc=>h2 c ?_⟩;have e:(true==false)=false:=rfl;simp only[iP,e,cond_false]at hc;exact hc
  | false =>
   simp only[cond_false]at h;simp only[lX,Zbr,if_false]at hf;simp only[eB,cond_false]at hi;split at h
   case h_2=>cases h
   rename_i c off hp;simp only[aA,aU,Zbv]at h;split at h
   case h_2=>cases h
   rename_i ji nf;simp only[aA,Zbn,aF,Option.some.injEq]at h;obtain⟨rest,h1,rfl⟩:=h;have gb:(callG ρ G w s Z).bx b=(G.bx c).add off:=by simp only[callG,hp]
   rw[gb]at hf;have ya:=zh 0 _ rfl;rw[Ack]at ya;obtain⟨c',kq,la,jv,e1,e2,e3,e4⟩:=A.B.bx b false cs ya;rw[hp]at e1;obtain⟨rfl,rfl⟩:c=c'/\off=kq:=by simpa using e1
   rw[nf]at e2;obtain⟨rfl,rfl⟩:false=la/\ji=jv:=by simpa using e2
   have yq:UIn dT nr (dO Z.deps (y0+i) (nr+q) (cs.map (·.2))).2.1:=fun k x hx=>hu k x (Zby _ (Zbp _ hx))
   have hu2:UIn dT nr rest:=fun k x hx=>hu k x (Zby _ (Zbs _ hx))
   obtain⟨h2,h3,h4,h5,h6⟩:=Aa3 A (gd:=gd) (nb:=nb) (hs:=hs) (adn:=adn) hf.1 (by simp;omega) (fp.imp id fun e m y hm=>e m y (by simp only[Yay,cond_false];exact Zbp _ hm))
    (fX.imp id fun e=>e _ Zb5 rfl) (fun j x hj=>hh j x (by
     simp only[owB,Zbr,if_false,gb];rw[Zb9 (List.getElem?_eq_some_iff.1 hj).1];exact hj)) yq
   rw[Zb3]at h3;rw[h2]at h1
   have cq:=Aa1 uz (bs:=bs) (b:=b+1) (i:=i+cs.length) (q:=q+qC (cs.map (·.2))) a10 (by rw[<- Acb,<- Acb];exact h1) hf.2 (by omega)
    (fp.imp id fun e m y hm=>e m y (by simp only[Yay,cond_false];rw[Acb];exact Zbs _ hm)) (fX.imp id fun e x hx=>e x (Zby _ hx)) (fun j x hj=>by
     have:=hh (qC (cs.map (·.2))+j) x (by
      simp only[owB,Zbr,if_false,gb];rw[Zb8 (by rw[h4];omega),h4,Acs];exact hj)
     rwa[<- Acb]at this) hu2
   obtain⟨h7,h8⟩:=cq;refine⟨fun k x hx=>?_,fun c2 qz=>?_⟩
   ·rcases List.mem_cons.1 hx with hx|hx
    ·obtain⟨rfl,rfl⟩:=Prod.mk.inj hx
     refine .inr ⟨c,ji,_,rfl,nf,rfl,kW (by rw[h3];exact e3),fun hold=>?_⟩;obtain⟨qc,im,te⟩:=A.B.hR.box nf;simp only[Zbr,if_false]at im;have hcn:c≠nb:=fun e=>by rw[e,uz]at nf;cases nf
     have zE:(fC gd ρ G w s Z nr nb G'.own hs adn).bx c=G.bx c:=by simp only[fC,if_neg hcn]
     have ig:0<ji.length:=by have:=(e4 rfl).2;omega
     obtain⟨v0,z7,-,-⟩:=te 0 _ (Zbq ig);have hlt:(G.bx c).block<w.heap.size:=by have:=Jak z7;rwa[add_block]at this
     obtain⟨h9,cQ⟩:=A.B.boxes (gd:=gd) (nr:=nr) (nb:=nb) (hs:=hs) (adn:=adn) im hlt;refine⟨by rw[zE];exact qc,by rw[zE,h9];rfl,fun j l hj=>?_⟩;rw[zE];rw[iF (by rw[h3];exact e3)]at hj;split at hj
     ·rename_i hr
      obtain⟨v,dz,fy,iq⟩:=h5 _ l hj;rw[add_add,Acl,show off+(j-off)=j by omega]at dz fy;exact⟨v,dz,fy,iq⟩
     ·rename_i hr
      obtain⟨v,dz,fy,iq⟩:=te j l hj;obtain⟨v',ko,mm⟩:=hold j l hj;rw[dz]at ko;obtain rfl:=Option.some.inj ko
      rcases cQ with cQ|⟨j2,cs2,a3h,ls2,c0,c1,e,fr,f1,f2,f3,f4,f5,f6,f7,f8,f9⟩
      ·exact⟨v,(eU (w:=w) (w':=w') (by rw[add_block];exact cQ)).trans dz,(kN (w:=w) (w':=w') (by rw[add_block];exact cQ)).trans fy,mm iq⟩
      ·
       have a8m:oJ (0+b) Z.ptrs=some (c,off):=by rw[Acl];exact hp
       have nu:=rW A.B.hk.wr ya a8m;have f2':oJ (0+j2) Z.ptrs=some (c,a3h):=by rw[Acl];exact f2
       have lv:=rW A.B.hk.wr f1 f2';rw[nu]at lv;have v8:b=j2:=by have:=Option.some.inj lv;omega
       subst v8;rw[hp]at f2;rw[ya]at f1;obtain⟨-,rfl⟩:c=c/\off=a3h:=by simpa using f2
       obtain rfl:cs=cs2:=by simpa using f1
       rw[h3]at hr
       have bb:∀ (ww:World) (cc:Array Value),ww.heap[(G.bx c).block]?=some (.cells cc e fr)->ww.cell? ((G.bx c).add j)=cc[(G.bx c).off+j]?/\ww.frozen? ((G.bx c).add j)=(fr.1<=(G.bx c).off+j&&(G.bx c).off+j<fr.2):=by
        intro ww cc hcc;have:=Wap (n:=j) qc;refine⟨?_,?_⟩
        ·unfold World.cell?
         rw[add_block,hcc];simp[this,Uac]
        ·unfold World.frozen?
         rw[add_block,hcc];simp[Uac]
       obtain⟨g1,g2⟩:=bb w c0 f6;obtain⟨g3,g4⟩:=bb w' c1 f7;refine⟨v,?_,by rw[g4,<- g2];exact fy,mm iq⟩;rw[g3,f9 _ (by omega),<- g1];exact dz
    ·rcases List.mem_append.1 hx with hx|hx
     ·rcases h6 k x hx with h9|⟨h9,-⟩
      ·exact .inl h9
      ·exfalso
       have:∀ (l:List BO) (y n:Nat),∀ z∈(dO Z.deps y n l).2.1,∃ r,z.1=kR r:=by
        intro l
        induction l with
        |nil=>intro y n z hz;simp[dO]at hz
        | cons t l ih =>
         intro y n z hz;simp only[dO]at hz
         rcases List.mem_append.1 hz with hz|hz
         ·cases t<;>simp[jP]at hz
          exact⟨n,by rw[hz]⟩
         ·exact ih _ _ z hz
       obtain⟨r,hr⟩:=this _ _ _ _ hx;rw[h9]at hr;exact fB hr
     ·exact h7 k x hx
   ·simp only[iP]at qz
    have e:(false==false)=true:=rfl;rw[e,cond_true,hp]at qz
    rcases List.mem_cons.1 qz with rfl|qz
    ·exact⟨_,Zb5⟩
    ·obtain⟨x,hx⟩:=h8 c2 qz
     exact⟨x,Zby _ (Zbs _ hx)⟩
end
theorem Iay {f:Nat}{vs:List SV}:∀ {l:List (Nat×Sig)} {key:Nat} {s:Sig},Iaz f vs l=some (key,s)->(key,s)∈l/\s.fn=f
 |[],key,s,h=>by simp[Iaz]at h
 | (k, t) :: l, key, s, h => by
  simp only[Iaz]at h
  revert h
  generalize hb:(Nat.beq t.fn f&&Uaa t.params vs)=b;intro h
  cases b with
  | false =>
   rw[cond_false]at h;obtain⟨h1,h2⟩:=Iay h;exact⟨Zby _ h1,h2⟩
  | true =>
   rw[cond_true]at h;obtain⟨rfl,rfl⟩:=Prod.mk.inj (Option.some.inj h);simp only[Zbo,Acj]at hb;exact⟨Zb5,hb.1⟩
section
variable {E:Env} {F:bG} {σ:Nat->Option aS} {ρ:List D} {a:Act} {w:World} {G:Gh} {g:Option (aK×Bool)} {cf:Nat->List D->Option (List D)}
theorem Abb {l:aR}{s:SlR}(h:(yB l).eval σ=some s):∀ z∈s.deps,Naf σ z.1 z.2:=by
 unfold yB at h;split at h
 ·rename_i r
  simp only[aA,aU,Zbv]at h;split at h
  ·rename_i x m bc hk
   simp only[aF,Option.some.injEq]at h;subst h;intro z hz;simp only[Zb0]at hz;subst hz;exact⟨m,x,hk⟩
  ·simp only[aF,Option.some.injEq]at h
   subst h;simp
  ·cases h
 ·rename_i deps p nie x
  simp only[aA,Zbn]at h;obtain⟨ds,h1,h2⟩:=h;obtain⟨h3,h4,h5⟩:=iY h1;split at h2
  ·simp only[aF,Option.some.injEq]at h2
   subst h2;exact fun z hz=>(h4 z hz).2
  ·rename_i r k z cL
   simp only[aA,aU,Zbv]at h2;split at h2
   ·simp only[aF,Option.some.injEq]at h2
    subst h2;intro z' xj;simp only[Zb0]at xj;subst xj;have:=h4 z (by simp);have e:=this.1;simp only[Zb0]at e;rw[e]at this;exact this.2
   ·cases h2
  ·simp only[aF,Option.some.injEq]at h2
   subst h2;exact fun z hz=>(h4 z hz).2
 ·cases h
def rtD:RT->Nat
 |.mu _ d _ _=>d
 |_=>0
def Aap:Nat->List RT->List Nat
 |_,[]=>[]
 |ν,.mu _ _ _ _::t=>ν::Aap (ν+1) t
 |ν,_::t=>Aap (ν+1) t
theorem Qax:∀ {rts:List RT} {gj j ν:Nat},(Aap gj rts)[j]?=some ν->∃ x:RT,(rts.filter wP)[j]?=some x/\gj<=ν/\rts[ν-gj]?=some x
 |[],gj,j,ν,h=>by simp[Aap]at h
 | x :: t, gj, j, ν, h => by
  have next:∀ {j:Nat},(Aap (gj+1) t)[j]?=some ν->∃ y:RT,(t.filter wP)[j]?=some y/\gj<=ν/\(x::t)[ν-gj]?=some y:=by
   intro j h;obtain⟨y,h1,h2,h3⟩:=Qax h;refine⟨y,h1,by omega,?_⟩;rw[show ν-gj=(ν-(gj+1))+1 by omega];simpa using h3
  cases x with
  | mu r d q X =>
   simp only[Aap]at h
   cases j with
   | zero =>
    simp only[Zbw,Option.some.injEq]at h;subst h;exact⟨.mu r d q X,by simp[wP,Bcg],Zb2 _,by simp⟩
   | succ j =>
    obtain⟨y,h1,h2,h3⟩:=next (by simpa using h);exact⟨y,by simpa[wP,Bcg] using h1,h2,h3⟩
  | nil =>
   obtain⟨y,h1,h2,h3⟩:=next h;exact⟨y,by simpa[wP,Bcg] using h1,h2,h3⟩
  | own r d =>
   obtain⟨y,h1,h2,h3⟩:=next h;exact⟨y,by simpa[wP,Bcg] using h1,h2,h3⟩
theorem Qaw:∀ (rts:List RT) (gj:Nat),(Aap gj rts).length=(rts.filter wP).length
 |[],gj=>rfl
 |x::t,gj=>by cases x<;>simp[Aap,wP,Qaw t,Bcg]
theorem Fag:∀ (a b:List RT) (gj:Nat),Aap gj (a++b)=Aap gj a++Aap (gj+a.length) b
 |[],b,gj=>rfl
 | x :: a, b, gj => by
  have:=Fag a b (gj+1);rw[show gj+1+a.length=gj+(a.length+1) by omega]at this;cases x<;>simp[Aap,this]
def Jbc (σ:Nat->Option aS)(ρ:List D)(G:Gh)(w:World):RT->Prop
 |.nil=>True
 |.own r _=>∃ x m bc,σ (kR r)=some (.root x m bc .live)
 |.mu r d q X=>∃ m bc u,σ (kR r)=some (.root X m bc .live)/\q.length+d<=m/\zI G.own w r [] (G.hdr r) (bB ρ q) u
structure Ya3 (σ:Nat->Option aS) (A B:Take) (rn:List RT) (ms:List Nat) (mr:List Nat):Prop where
 rts:B.rts=A.rts++rn
 deps:∀ z∈B.deps,z∈A.deps\/Naf σ z.1 z.2
 ms:(rn.filter wP).map rtD=ms
 mr:Aap A.rts.length rn=mr
theorem Kaq {A B:Take}{d:Nat}{l:aR}(h:(uU A d l).eval σ=some B):∃ rn,Ya3 σ A B rn [] []/\rn.length=1/\∀ x∈rn,Jbc σ ρ G w x:=by
 unfold uU at h;split at h
 ·rename_i r
  simp only[aA,aU,Zbv]at h;split at h
  ·rename_i x m bc hk
   simp only[aA,aJ,Zbn,aF,Option.some.injEq]at h;obtain⟨_,-,rfl⟩:=h;refine⟨[.own r d],⟨rfl,fun z hz=>.inl hz,rfl,rfl⟩,rfl,fun y hy=>?_⟩;simp only[Zb0]at hy;subst hy;exact⟨x,m,bc,hk⟩
  ·cases h
 ·simp only[aF,Option.some.injEq]at h
  subst h;refine⟨[.nil],⟨rfl,fun z hz=>.inl hz,rfl,rfl⟩,rfl,fun y hy=>?_⟩;simp only[Zb0]at hy;subst hy;trivial
 ·cases h
theorem Kat {A B:Take}{nie:Bool}{l:aR}(h:(rO A nie l).eval σ=some B):Ya3 σ A B [] [] []:=by
 unfold rO at h;simp only[aA,Zbn,aF,Option.some.injEq]at h;obtain⟨s,h1,rfl⟩:=h;exact⟨by simp,fun z hz=>(List.mem_append.1 hz).imp id fun hz=>Abb h1 z hz,rfl,rfl⟩
theorem Wa4 {A B:Take}{z:Nat}{l:aR}(h:(Ga6 A z l).eval σ=some B):Ya3 σ A B [] [] []:=by
 unfold Ga6 at h;split at h
 ·simp only[aA,Zbn,aF,Option.some.injEq]at h
  obtain⟨ds,h1,rfl⟩:=h;exact⟨by simp,fun z hz=>(List.mem_append.1 hz).imp id fun hz=>((iY h1).2.1 z hz).2,rfl,rfl⟩
 ·simp only[aF,Option.some.injEq]at h
  subst h;exact⟨by simp,fun z hz=>.inl hz,rfl,rfl⟩
 ·cases h
theorem Oaw (P:Prop)(hR:P->R E.ntmps F σ ρ a w G){A B:Take}{t:LS}{l:aR}(h:(sZ g A t l).eval σ=some B)(hl:P->∃ v,aB σ ρ G w l v) :
  ∃ rn,Ya3 σ A B rn (dV [t]) (eH A.rts.length [t])/\rn.length=t.rcnt/\(P->∀ x∈rn,Jbc σ ρ G w x):=by
 unfold sZ at h;split at h
 ·simp only[Oat,aA,Zbn,aF,Option.some.injEq]at h
  obtain⟨x,-,rfl⟩:=h;exact⟨[],⟨by simp,fun z hz=>.inl hz,rfl,rfl⟩,rfl,by simp⟩
 ·exact⟨[],Kat h,rfl,by simp⟩
 ·rename_i _ d
  unfold Kar at h;simp only[aA,Zbn]at h;obtain⟨sl,h1,h⟩:=h;split at h
  case h_2=>cases h
  rename_i r k m q ho;simp only[aA,aJ,aU,Zbv,Zbn]at h;obtain⟨_,h2,h⟩:=h;split at h2
  case isFalse=>cases h2
  rename_i hb;simp only[Ac2]at hb;split at h
  case h_2=>cases h
  rename_i X m' v' oa;simp only[aF,Option.some.injEq]at h;subst h;refine⟨[.mu r d q X],⟨rfl,fun z hz=>.inl hz,rfl,rfl⟩,rfl,fun hP y hy=>?_⟩;simp only[Zb0]at hy;subst hy;obtain⟨v,hv⟩:=hl hP;have az:=(dU (hR hP) h1 hv).own;unfold vF at az;rw[ho]at az;obtain⟨h3,⟨x,h4⟩,h5,h6,h7⟩:=az;rw[oa]at h4
  obtain⟨rfl,rfl,rfl⟩:X=x/\m'=m/\v'=k:=by
   have:=Option.some.inj h4
   injection this with e1 e2 e3
   exact⟨e1,e2,e3⟩
  exact⟨_,_,_,oa,hb,h7⟩
 ·obtain⟨rn,h1,h2,h3⟩:=Kaq (ρ:=ρ) (G:=G) (w:=w) h
  exact⟨rn,h1,h2,fun _=>h3⟩
 ·simp only[aF,Option.some.injEq]at h
  subst h;exact⟨[],⟨by simp,fun z hz=>.inl hz,rfl,rfl⟩,rfl,by simp⟩
 ·split at h
  ·rw[gW]at h
   split at h
   ·simp only[aF,Option.some.injEq]at h
    subst h;exact⟨[],⟨by simp,fun z hz=>.inl hz,rfl,rfl⟩,rfl,by simp⟩
   ·cases h
  ·cases h
 ·exact⟨[],Wa4 h,rfl,by simp⟩
 ·cases h
theorem Ya3.trans {A B C:Take}{rn sg:List RT}{ms ms' mr sy:List Nat}(h:Ya3 σ A B rn ms mr)(h':Ya3 σ B C sg ms' sy):Ya3 σ A C (rn++sg) (ms++ms') (mr++sy):=by
 refine⟨by rw[h'.rts,h.rts,Zbx],fun z hz=>?_,by rw[List.filter_append,List.map_append,h.ms,h'.ms],?_⟩
 ·rcases h'.deps z hz with h1|h1
  ·exact h.deps z h1
  ·exact .inr h1
 ·rw[Fag,h.mr]
  have:=h'.mr;rw[h.rts,Zbt]at this;rw[this]
theorem tX (t:LS)(ss:List LS):dV (t::ss)=dV [t]++dV ss:=by cases t<;>rfl
theorem wL (t:LS)(ss:List LS)(r:Nat):eH r (t::ss)=eH r [t]++eH (r+t.rcnt) ss:=by cases t<;>rfl
theorem wM:∀ (x y:List LS),dV (x++y)=dV x++dV y
 |[],y=>rfl
 |t::x,y=>by rw[Bcq,tX,tX t x,wM x y,Zbx]
theorem zQ:∀ (x y:List LS) (r:Nat),eH r (x++y)=eH r x++eH (r+kC x) y
 |[],y,r=>rfl
 | t :: x, y, r => by
  rw[Bcq,wL,wL t x,zQ x y,Zbx];simp only[kC,Acb]
theorem zL (P:Prop)(hR:P->R E.ntmps F σ ρ a w G):∀ {ss:List LS} {ls:List aR} {A B:Take},(dD g A ss ls).eval σ=some B->(P->∃ vs,aG σ ρ G w ls vs) ->
  ∃ rn,Ya3 σ A B rn (dV ss) (eH A.rts.length ss)/\rn.length=kC ss/\(P->∀ x∈rn,Jbc σ ρ G w x)
 | [], [], A, B, h, _ => by
  simp only[dD,aF,Option.some.injEq]at h;subst h;exact⟨[],⟨by simp,fun z hz=>.inl hz,rfl,rfl⟩,rfl,by simp⟩
 |[],_::_,A,B,h,_=>by simp[dD,bO]at h
 |_::_,[],A,B,h,_=>by simp[dD,bO]at h
 | t :: ss, l :: ls, A, B, h, hl => by
  simp only[dD,aA,Zbn]at h;obtain⟨C,h1,h2⟩:=h
  obtain⟨rn,h3,h4,h5⟩:=Oaw P hR h1 (fun hP=>by
   obtain⟨vs,hv⟩:=hl hP;simp only[aG]at hv;obtain⟨u,us,-,hu,-⟩:=hv;exact⟨u,hu⟩)
  obtain⟨sg,h6,h7,h8⟩:=zL P hR h2 (fun hP=>by
   obtain⟨vs,hv⟩:=hl hP;simp only[aG]at hv;obtain⟨u,us,-,-,hu⟩:=hv;exact⟨us,hu⟩)
  have:=h3.trans h6;rw[h3.rts,Zbt,h4,<- wL,<- tX]at this;exact⟨rn++sg,this,by simp[h4,h7,kC],fun hP x hx=>(List.mem_append.1 hx).elim (h5 hP x) (h8 hP x)⟩
theorem vK (P:Prop)(hR:P->R E.ntmps F σ ρ a w G):∀ {ps:List (Bool×List LS)} {vs:List SV} {A B:Take},(eZ g A ps vs).eval σ=some B->(P->∃ us,sS σ ρ G w vs us) ->
  ∃ rn,Ya3 σ A B rn (dV (ps.flatMap (·.2))) (eH A.rts.length (ps.flatMap (·.2)))/\rn.length=jH ps/\(P->∀ x∈rn,Jbc σ ρ G w x)
 | [], [], A, B, h, _ => by
  simp only[eZ,aF,Option.some.injEq]at h;subst h;exact⟨[],⟨by simp,fun z hz=>.inl hz,rfl,rfl⟩,rfl,by simp⟩
 |[],_::_,A,B,h,_=>by simp[eZ,bO]at h
 |_::_,[],A,B,h,_=>by simp[eZ,bO]at h
 | (ag, ss) :: ps, v :: vs, A, B, h, hl => by
  simp only[eZ,aA,Zbn,aW]at h;obtain⟨ls,h0,C,h1,h2⟩:=h
  obtain⟨rn,h3,h4,h5⟩:=zL P hR h1 (fun hP=>by
   obtain⟨us,u,da,rfl,hu,-⟩:=hl hP;exact⟨_,iG h0 hu⟩)
  obtain⟨sg,h6,h7,h8⟩:=vK P hR h2 (fun hP=>by
   obtain⟨us,u,da,rfl,-,hu⟩:=hl hP;exact⟨da,hu⟩)
  have:=h3.trans h6;rw[h3.rts,Zbt,h4,<- zQ,<- wM]at this;exact⟨rn++sg,by rw[List.flatMap_cons];exact this,by simp[h4,h7,jH],fun hP x hx=>(List.mem_append.1 hx).elim (h5 hP x) (h8 hP x)⟩
theorem Baa:∀ {ss:List (BS×BO)} {ls:List aR} {A B:Take},(dY A ss ls).eval σ=some B->∃ rn,Ya3 σ A B rn [] []/\∀ x∈rn,Jbc σ ρ G w x
 | [], ls, A, B, h => by
  simp only[dY,aF,Option.some.injEq]at h;subst h;exact⟨[],⟨by simp,fun z hz=>.inl hz,rfl,rfl⟩,by simp⟩
 |_::_,[],A,B,h=>by simp[dY,bO]at h
 | (t, o) :: ss, l :: ls, A, B, h => by
  simp only[dY,aA,Zbn]at h;obtain⟨C,h1,h2⟩:=h;obtain⟨sg,h6,h8⟩:=Baa h2
  have key:∃ rn,Ya3 σ A C rn [] []/\∀ x∈rn,Jbc σ ρ G w x:=by
   have hinv:=qB h1;clear h1
   rcases hinv with ⟨x,rfl,rfl,rfl⟩|⟨nie,rfl,h⟩|⟨d,rfl,h⟩|⟨rfl,-,rfl⟩
   ·exact⟨[],⟨by simp,fun z hz=>.inl hz,rfl,rfl⟩,by simp⟩
   ·exact⟨[],Kat h,by simp⟩
   ·obtain⟨rn,h3,-,h5⟩:=Kaq (ρ:=ρ) (G:=G) (w:=w) h
    exact⟨rn,h3,h5⟩
   ·exact⟨[],⟨by simp,fun z hz=>.inl hz,rfl,rfl⟩,by simp⟩
  obtain⟨rn,h3,h5⟩:=key;exact⟨rn++sg,h3.trans h6,fun x hx=>(List.mem_append.1 hx).elim (h5 x) (h8 x)⟩
theorem tC {ptrs:List (Nat×Nat×Nat)}:∀ {bs:List (Bool×List (BS×BO))} {b:Nat} {A B:Take},(eQ ptrs A b bs).eval σ=some B->∃ rn,Ya3 σ A B rn [] []/\∀ x∈rn,Jbc σ ρ G w x
 | [], b, A, B, h => by
  simp only[eQ,aF,Option.some.injEq]at h;subst h;exact⟨[],⟨by simp,fun z hz=>.inl hz,rfl,rfl⟩,by simp⟩
 | (ro, cs) :: bs, b, A, B, h => by
  simp only[eQ]at h;split at h
  case h_2=>cases h
  simp only[aA,aU,Zbv]at h;split at h
  case h_2=>cases h
  simp only[aA,aJ,Zbn]at h;obtain⟨_,-,C,h1,h2⟩:=h;obtain⟨rn,h3,h5⟩:=Baa (ρ:=ρ) (G:=G) (w:=w) h1;obtain⟨sg,h6,h8⟩:=tC h2;exact⟨rn++sg,h3.trans h6,fun x hx=>(List.mem_append.1 hx).elim (h5 x) (h8 x)⟩
theorem yJ (hg:gOn ρ g=true):∀ {rts:List RT} {y nv:Nat} {ml:List Step} {mu:List (Nat×aS)},(zR y nv rts).eval σ=some (ml,mu)->aN cf ρ g nv ml ->
  (∀ k c,(k,c)∈mu->∃ (j r d:Nat) (q:List (aK×Nat×Nat)) (X X0:aK) (m bc:Nat) (X':aK),(rts.filter wP)[j]?=some (RT.mu r d q X)/\k=kR r/\c=.root X' m (bc+1) .live/\σ (kR r)=some (.root X0 m bc .live)/\(q.length+d=m\/oZ d ((aK.v (y+j)).val ρ)=true)/\Upd (bB ρ q) (X.val ρ) ((aK.v (y+j)).val ρ) (X'.val ρ))
 | [], y, nv, ml, mu, h, _ => by
  simp only[zR,aF,Option.some.injEq,Prod.mk.injEq]at h;obtain⟨rfl,rfl⟩:=h;simp
 | .nil :: t, y, nv, ml, mu, h, aE => by
  have:=yJ hg (rts:=t) h aE;simpa[wP,Bcg] using this
 | .own r d :: t, y, nv, ml, mu, h, aE => by
  have:=yJ hg (rts:=t) h aE;simpa[wP,Bcg] using this
 | .mu r d q X :: t, y, nv, ml, mu, h, aE => by
  simp only[zR,aA,aU,Zbv]at h;split at h
  case h_2=>cases h
  rename_i X0 m bc hk;simp only[aA,Zbn,aF,Option.some.injEq,Prod.mk.injEq]at h;obtain⟨⟨ls,us⟩,h1,rfl,rfl⟩:=h;obtain⟨hs0,a2j⟩:=aN.append aE
  obtain⟨hfd,hn0⟩:(q.length+d=m\/oZ d ((aK.v y).val ρ)=true)/\bH (bif Nat.beq (q.length+d) m then [] else [Step.prim (.dep d) [.v y] 0])=0:=by
   cases hb:Nat.beq (q.length+d) m with
   |true=>exact⟨.inl (Nat.eq_of_beq_eq_true hb),rfl⟩
   | false =>
    rw[hb,cond_false]at hs0;obtain⟨ds,h1,-,-⟩:=hs0.1.1 hg;simp only[Acg,Acm,aT.run]at h1;split at h1
    ·rename_i hf;exact⟨.inr hf,rfl⟩
    ·cases h1
  rw[hn0,Ack]at a2j;obtain⟨ov,k8⟩:=aN.append a2j;have cq:=yJ hg h1 k8;intro k c hc
  rcases List.mem_cons.1 hc with hc|hc
  ·obtain⟨rfl,rfl⟩:=Prod.mk.inj hc
   exact⟨0,r,d,q,X,X0,m,bc,_,by simp[wP,Bcg],rfl,rfl,hk,hfd,Ba6 hg q nv X (.v y) ov⟩
  ·obtain⟨j,r',d',q',X',X1,m',we,X2,h2,h3,h4,h5,uw,h6⟩:=cq k c hc
   exact⟨j+1,r',d',q',X',X1,m',we,X2,by simpa[wP,Bcg] using h2,h3,h4,h5,by rw[show y+(j+1)=y+1+j by omega];exact uw,by rw[show y+(j+1)=y+1+j by omega];exact h6⟩
theorem yK:∀ {rts:List RT} {y nv:Nat} {ml:List Step} {mu:List (Nat×aS)},(zR y nv rts).eval σ=some (ml,mu)->∀ r,r∈bZ rts->(∃ c,(kR r,c)∈mu)\/∃ c,(kR r,c)∈gG rts
 |[],y,nv,ml,mu,h,r,hr=>by simp[bZ]at hr
 |.nil::t,y,nv,ml,mu,h,r,hr=>yK (rts:=t) h r hr
 | .own s d :: t, y, nv, ml, mu, h, r, hr => by
  simp only[bZ,Acu]at hr
  rcases hr with rfl|hr
  ·exact .inr ⟨_,by simp only[gG];exact Zb5⟩
  ·exact (yK (rts:=t) h r hr).imp id fun ⟨c,hc⟩=>⟨c,by simp only[gG];exact Zby _ hc⟩
 | .mu s d q X :: t, y, nv, ml, mu, h, r, hr => by
  simp only[zR,aA,aU,Zbv]at h;split at h
  case h_2=>cases h
  simp only[aA,Zbn,aF,Option.some.injEq,Prod.mk.injEq]at h;obtain⟨⟨ls,us⟩,h1,rfl,rfl⟩:=h;simp only[bZ,Acu]at hr
  rcases hr with rfl|hr
  ·exact .inl ⟨_,Zb5⟩
  ·exact (yK h1 r hr).imp (fun ⟨c,hc⟩=>⟨c,Zby _ hc⟩) id
theorem kZ:∀ {rts:List RT} {k:Nat} {c:aS},(k,c)∈gG rts->∃ r,k=kR r/\c=.root (.c .hole) 0 0 .gone
 |[],k,c,h=>by simp[gG]at h
 |.nil::t,k,c,h=>kZ (rts:=t) h
 |.mu s d q X::t,k,c,h=>kZ (rts:=t) h
 | .own s d :: t, k, c, h => by
  simp only[gG,Acu,Prod.mk.injEq]at h
  rcases h with ⟨rfl,rfl⟩|h
  ·exact⟨s,rfl,rfl⟩
  ·exact kZ h
end
theorem xJ {deps:List (Nat×Nat)}:∀ (cs:List BO) (y n:Nat),(dO deps y n cs).2.2=n+qC cs/\∀ k c,(k,c)∈(dO deps y n cs).2.1->∃ r y m,n<=r/\k=kR r/\c=.root (.v y) m 0 .live
 |[],y,n=>⟨rfl,by simp[dO]⟩
 | t :: cs, y, n => by
  have hb:(jP deps y n t).2.2=n+t.q/\∀ k c,(k,c)∈(jP deps y n t).2.1->∃ r y m,n<=r/\k=kR r/\c=.root (.v y) m 0 .live:=by
   cases t<;>refine⟨rfl,fun k c hc=>?_⟩<;>simp[jP]at hc
   exact⟨n,y,_,Zb2 _,hc.1,hc.2⟩
  obtain⟨h1,h2⟩:=hb;simp only[dO];rw[h1];obtain⟨h3,h4⟩:=xJ (deps:=deps) cs (y+1) (n+t.q);refine⟨by rw[h3];simp only[qC];omega,fun k c hc=>?_⟩
  rcases List.mem_append.1 hc with hc|hc
  ·exact h2 k c hc
  ·obtain⟨r,y',m,h5,h6,h7⟩:=h4 k c hc
   exact⟨r,y',m,by omega,h6,h7⟩
theorem Paw {gd:Bool}{deps:List (Nat×Nat)}{nb:Nat}(t:LR)(y n:Nat):(cB gd deps nb y n t).2.2=n+t.q/\∀ k c,(k,c)∈(cB gd deps nb y n t).2.1->(∃ r y m,n<=r/\k=kR r/\c=.root (.v y) m 0 .live)\/(k=kB nb/\∃ ls,c=.box false ls):=by
 cases t with
 | bx cs =>
  obtain⟨h3,h4⟩:=xJ (deps:=deps) cs y n;simp only[cB];refine⟨h3,fun k c hc=>?_⟩
  rcases List.mem_cons.1 hc with hc|hc
  ·obtain⟨rfl,rfl⟩:=Prod.mk.inj hc
   exact .inr ⟨rfl,_,rfl⟩
  ·exact .inl (h4 k c hc)
 | ow m =>
  cases gd with
  |true=>exact⟨rfl,by simp[cB]⟩
  | false =>
   refine⟨rfl,fun k c hc=>?_⟩;simp[cB]at hc;exact .inl ⟨n,y,m,Zb2 _,hc.1,hc.2⟩
 |_=>exact⟨rfl,by simp[cB]⟩
theorem zO {gd:Bool}{deps:List (Nat×Nat)}{nb:Nat}:∀ (ss:List LR) (y n:Nat),(dH gd deps nb y n ss).2.2=n+qL ss/\∀ k c,(k,c)∈(dH gd deps nb y n ss).2.1->(∃ r y m,n<=r/\k=kR r/\c=.root (.v y) m 0 .live)\/(k=kB nb/\∃ ls,c=.box false ls)
 |[],y,n=>⟨rfl,by simp[dH]⟩
 | t :: ss, y, n => by
  obtain⟨h1,h2⟩:=Paw (gd:=gd) (deps:=deps) (nb:=nb) t y n;simp only[dH];rw[h1];obtain⟨h3,h4⟩:=zO (gd:=gd) (deps:=deps) (nb:=nb) ss (y+t.n) (n+t.q);refine⟨by rw[h3];simp only[qL];omega,fun k c hc=>?_⟩
  rcases List.mem_append.1 hc with hc|hc
  ·exact h2 k c hc
  ·exact (h4 k c hc).imp (fun ⟨r,y',m,h5,h6⟩=>⟨r,y',m,by omega,h6⟩) id
theorem Haq {gd:Bool}{deps:List (Nat×Nat)}{nb:Nat}:∀ (rs:List (Bool×List LR)) (y n:Nat),(jA gd deps nb y n rs).2.2=n+qR rs/\∀ k c,(k,c)∈(jA gd deps nb y n rs).2.1->(∃ r y m,n<=r/\k=kR r/\c=.root (.v y) m 0 .live)\/(k=kB nb/\∃ ls,c=.box false ls)
 |[],y,n=>⟨rfl,by simp[jA]⟩
 | (ag, ss) :: rs, y, n => by
  obtain⟨h1,h2⟩:=zO (gd:=gd) (deps:=deps) (nb:=nb) ss y n;simp only[jA];rw[h1];obtain⟨h3,h4⟩:=Haq (gd:=gd) (deps:=deps) (nb:=nb) rs (y+mZ ss) (n+qL ss);refine⟨by rw[h3];simp only[qR];omega,fun k c hc=>?_⟩
  rcases List.mem_append.1 hc with hc|hc
  ·exact h2 k c hc
  ·exact (h4 k c hc).imp (fun ⟨r,y',m,h5,h6⟩=>⟨r,y',m,by omega,h6⟩) id
theorem xI {σ:Nat->Option aS}{ptrs:List (Nat×Nat×Nat)}{deps:List (Nat×Nat)}:∀ {bs:List (Bool×List (BS×BO))} {b y n:Nat} {bu:List (Nat×aS)},(lU ptrs deps b y n bs).eval σ=some bu ->
  ∀ k c,(k,c)∈bu->(∃ r y m,n<=r/\k=kR r/\c=.root (.v y) m 0 .live)\/(∃ c0 ji ls,k=kB c0/\σ (kB c0)=some (.box false ji)/\c=.box false ls)
 | [], b, y, n, bu, h => by
  simp only[lU,aF,Option.some.injEq]at h;subst h;simp
 | (ro, cs) :: bs, b, y, n, bu, h => by
  simp only[lU]at h
  cases ro with
  |true=>exact xI (bs:=bs) h
  | false =>
   simp only[cond_false]at h;split at h
   case h_2=>cases h
   simp only[aA,aU,Zbv]at h;split at h
   case h_2=>cases h
   rename_i ji nf;simp only[aA,Zbn,aF,Option.some.injEq]at h;obtain⟨rest,h1,rfl⟩:=h;obtain⟨h3,h4⟩:=xJ (deps:=deps) (cs.map (·.2)) y n;rw[h3]at h1;intro k c hc
   rcases List.mem_cons.1 hc with hc|hc
   ·obtain⟨rfl,rfl⟩:=Prod.mk.inj hc
    exact .inr ⟨_,_,_,rfl,nf,rfl⟩
   ·rcases List.mem_append.1 hc with hc|hc
    ·exact .inl (h4 k c hc)
    ·exact (xI h1 k c hc).imp (fun ⟨r,y',m,h5,h6⟩=>⟨r,y',m,by omega,h6⟩) id
theorem Mac {own:Nat->Ow}{w:World}{ds:List D}{gh:Nat->Value}:∀ {ms:List Nat} {i j k d:Nat},Wat own w ds gh i j ms->ms[k]?=some d->Rp own w (2*(j+k)+1) [] d (gh (j+k)) (ds.getD (i+k) .undef)
 |[],i,j,k,d,_,h=>by simp at h
 | e :: ms, i, j, 0, d, h, hk => by
  simp only[Zbw,Option.some.injEq]at hk;subst hk;exact h.1
 | e :: ms, i, j, k + 1, d, h, hk => by
  have:=Mac h.2 (k:=k) (by simpa using hk);rw[show j+(k+1)=j+1+k by omega,show i+(k+1)=i+1+k by omega];exact this
theorem iI.len {σ:Nat->Option aS}{ρ:List D}{G:Gh}{w:World}:∀ {ts:List (Bool×List aR)} {us:List Value},iI σ ρ G w ts us->us.length=ts.length
 |[],us,h=>by simp only[iI]at h;subst h;rfl
 | (a, ls) :: r, us, h => by
  obtain⟨u,da,vs,rfl,-,-,h3⟩:=h;simp[iI.len h3]
theorem Za5 {σ:Nat->Option aS}{ρ:List D}{G:Gh}{w:World}{g:Option (aK×Bool)}(hg:gOn ρ g=true){rs:List (Bool×List aR)}{us:List Value}(h:iI σ ρ G w rs us):bY σ ρ G w (Bat g rs) (Ea5 us):=by
 unfold Bat;split
 ·rename_i x
  obtain⟨u,da,vs,rfl,h1,h2,h3⟩:=h;simp only[iI]at h3;subst h3;simp only[Zbr,if_false]at h2;subst h2;simp only[aG,List.cons.injEq]at h1;obtain⟨u',da,⟨rfl,rfl⟩,h4,-⟩:=h1;simp only[aB]at h4;simp only[Ea5]
  cases g with
  |none=>simp only[mkS,bY,aB];exact h4
  |some z=>simp only[mkS,bY,aB];exact⟨.inl h4,fun _=>h4⟩
 ·rename_i l _
  obtain⟨u,da,vs,rfl,h1,h2,h3⟩:=h;simp only[iI]at h3;subst h3;simp only[Zbr,if_false]at h2;subst h2;simp only[aG,List.cons.injEq]at h1;obtain⟨u',da,⟨rfl,rfl⟩,h4,-⟩:=h1;simp only[Ea5,bY];exact h4
 ·rename_i ls
  obtain⟨u,da,vs,rfl,h1,h2,h3⟩:=h;simp only[iI]at h3;subst h3;simp only[if_true]at h2;simp only[Ea5,bY];exact⟨vs,h2,h1⟩
 ·rename_i _ h1 h2 h3
  simp only[bY]
  match us,rs,h with
  |[],[],h=>exact⟨[],rfl,h⟩
  | [u], [(a, ls)], h =>
   exfalso;obtain⟨u',da,vs,e,h4,h5,h6⟩:=h;obtain⟨rfl,rfl⟩:=List.cons.inj e
   cases a with
   |true=>exact h3 ls rfl
   | false =>
    simp only[Zbr,if_false]at h5;subst h5;have:=h4.len
    match ls,this with
    |[l],_=>exact h2 l rfl
  |u::u'::us,r::r'::rs,h=>exact⟨_,rfl,h⟩
  |[],_::_,h=>have:=h.len;simp at this
  |[_],[],h=>have:=h.len;simp at this
  |[_],_::_::_,h=>have:=h.len;simp at this
  |_::_::_,[],h=>have:=h.len;simp at this
  |_::_::_,[_],h=>have:=h.len;simp at this
theorem uL {σ:Nat->Option aS}{ptrs:List (Nat×Nat×Nat)}:∀ {bs:List (Bool×List (BS×BO))} {b:Nat} {xs:List aK},(iQ ptrs b bs).eval σ=some xs->∀ x∈bs,x.1=false->Tae (x.2.map (·.2))=true
 |[],b,xs,h,x,hx,_=>by simp at hx
 | (ro, cs) :: bs, b, xs, h, x, hx, s5 => by
  simp only[iQ]at h
  cases ro with
  | true =>
   simp only[cond_true]at h
   rcases List.mem_cons.1 hx with rfl|hx
   ·cases s5
   ·exact uL h x hx s5
  | false =>
   simp only[cond_false]at h;split at h
   case h_2=>cases h
   simp only[aA,aU,Zbv]at h;split at h
   case h_2=>cases h
   simp only[aA,Zbn,aF,Option.some.injEq]at h;obtain⟨l,h1,m,h2,-⟩:=h
   rcases List.mem_cons.1 hx with rfl|hx
   ·clear h2
    rename_i ji _;generalize ji.drop _=ls at h1;dsimp only;clear hx s5
    induction cs generalizing ls l with
    |nil=>rfl
    | cons t cs ih =>
     obtain⟨s,o⟩:=t
     cases ls with
     |nil=>simp[kL,bO]at h1
     | cons x ls =>
      simp only[kL,aA,Zbn]at h1;obtain⟨y,h3,r,h4,-⟩:=h1;have:=ih _ _ h4
      cases o with
      |ow m=>cases s<;>simp[bO]at h3
      |_=>simpa[Tae] using this
   ·exact uL h2 x hx s5
def Yap (o:Oper)(g:Option (aK×Bool))(rs:List (Bool×List aR)):List (Nat×aS):=match o.dst with
 |some d=>[(kT d,.slot (Gba g (Bat g rs)) (Bat g rs))]
 |none=>[]
section
variable {E:Env} {F:bG} {σ:Nat->Option aS} {ρ:List D} {a:Act} {w w':World} {G:Gh} {g:Option (aK×Bool)} {cf:Nat->List D->Option (List D)} {o:Oper} {s:Sig} {T Z:Take} {nb nr y0 nvm:Nat}
theorem Ca0 {rs:List (Bool×List aR)}:Yap o g rs=dS o (Gba g (Bat g rs)) (Bat g rs):=rfl
theorem Cb9 (hR:R E.ntmps F σ ρ a w G)(hg:gOn ρ g=true)(hd:fD E.ntmps o)(hf:Dah σ nb nr){vs:List SV}{us0:List Value}(uu:sS σ ρ G w vs us0)
  (hT:(eZ g Take.empty s.params vs).eval σ=some T) (hZ:(eQ T.ptrs T 0 s.boxes).eval σ=some Z) (hk:La9 s Z) (a3e:kQ s.results<=1)
  (fX:noG g=true\/(kQ s.results=0/\∃ olds,(iQ Z.ptrs 0 s.boxes).eval σ=some olds))
  {rs:List (Bool×List aR)} {us bu mu:List (Nat×aS)} {xF:Nat} {ml:List Step} {ds:List D} (jh:jA (!noG g) Z.deps nb y0 nr s.results=(rs,us,xF))
  (sf:(lU Z.ptrs Z.deps 0 (y0+bK s.results+(Z.rts.filter wP).length) xF s.boxes).eval σ=some bu) {nv1:Nat} (yw:(zR (y0+bK s.results) nv1 Z.rts).eval σ=some (ml,mu))
  (hlen:ds.length=bK s.results+(Z.rts.filter wP).length+eB s.boxes) (dm:∀ j d,ds[j]?=some d->(aK.v (y0+j)).val ρ=d)
  (pP:Z.deps=[]\/Ra9 ρ (Cb3 y0 s.results++Cb4 (y0+bK s.results) Z.rts++Yay (y0+bK s.results+(Z.rts.filter wP).length) s.boxes)) (qa:aN cf ρ g nv1 ml)
  (km:(Yap o g rs++(us++bu++mu++gG Z.rts)).all (fun x=>zB E.ntmps nb nr x.1)=true)
  {v:Value} (pj:Oak s (pO s (callG ρ G w s Z) w) (callG ρ G w s Z).bx v w' ds) :
  ∃ G2,R E.ntmps F (upds σ (Yap o g rs++(us++bu++mu++gG Z.rts))) ρ (a.put o.dst v) w' G2:=by
 obtain⟨G',da,rfl,hF,a1v,a5n,kk⟩:=pj;obtain⟨hle1,qf,xh⟩:=kU hZ;rw[<- qf]at xh;obtain⟨rn,uy,hn2,hn3⟩:=vK True (fun _=>hR) hT (fun _=>⟨us0,uu⟩);obtain⟨sg,hn4,hn5⟩:=tC (ρ:=ρ) (G:=G) (w:=w) hZ;have gn:=uy.trans hn4;have uh:Z.rts=rn++sg:=by have:=gn.rts;simpa[Take.empty] using this
 have tU:∀ x∈Z.rts,Jbc σ ρ G w x:=by
  rw[uh];exact fun x hx=>(List.mem_append.1 hx).elim (hn3 trivial x) (hn5 x)
 have yf:(Z.rts.filter wP).map rtD=dV (s.params.flatMap (·.2)):=by
  have:=gn.ms;rw[<- uh,Acf]at this;exact this
 have hmr:Aap 0 Z.rts=eH 0 (s.params.flatMap (·.2)):=by
  have:=gn.mr;rw[<- uh,Acf]at this;exact this
 have rk:∀ z∈Z.deps,Naf σ z.1 z.2:=fun z hz=>by
  rcases gn.deps z hz with h|h
  ·simp[Take.empty]at h
  ·exact h
 have B:Saa E F σ ρ a w G s Z G' w':=by
  refine⟨hR,hk,hF,fun j ro cs hj=>by have:=xh j ro cs hj;rwa[Acl]at this,rk,fun ν r d q X u6=>?_,fun ν r d u6=>?_⟩
  ·obtain⟨m,bc,u,h1,h2,h3⟩:=tU _ (Zb4 u6)
   exact⟨m,bc,u,h1,h2,h3⟩
  ·obtain⟨x,m,bc,h1⟩:=tU _ (Zb4 u6)
   exact⟨x,m,bc,h1⟩
 generalize hU:Yap o g rs++(us++bu++mu++gG Z.rts)=U at km ⊢
 let hs:=owR w' s.results da++owB w' (callG ρ G w s Z).bx 0 s.boxes
 let adn:=(Jam s.results da).headD ⟨0,0,none⟩
 let G2:=fC (!noG g) ρ G w s Z nr nb G'.own hs adn
 have a0m:∀ k c,(k,c)∈U->(k,c)∈Yap o g rs\/(k,c)∈us\/(k,c)∈bu\/(k,c)∈mu\/(k,c)∈gG Z.rts:=by
  intro k c hc;rw[<- hU]at hc
  rcases List.mem_append.1 hc with hc|hc
  ·exact .inl hc
  ·rcases List.mem_append.1 hc with hc|hc
   ·rcases List.mem_append.1 hc with hc|hc
    ·rcases List.mem_append.1 hc with hc|hc
     ·exact .inr (.inl hc)
     ·exact .inr (.inr (.inl hc))
    ·exact .inr (.inr (.inr (.inl hc)))
   ·exact .inr (.inr (.inr (.inr hc)))
 have hUdst:∀ z∈Yap o g rs,z∈U:=fun z hz=>by rw[<- hU];exact Zbp _ hz
 have a7i:∀ z∈us,z∈U:=fun z hz=>by rw[<- hU];exact Zbs _ (Zbp _ (Zbp _ (Zbp _ hz)))
 have a2z:∀ z∈bu,z∈U:=fun z hz=>by rw[<- hU];exact Zbs _ (Zbp _ (Zbp _ (Zbs _ hz)))
 have a7p:∀ z∈mu,z∈U:=fun z hz=>by rw[<- hU];exact Zbs _ (Zbp _ (Zbs _ hz))
 have a7t:∀ z∈gG Z.rts,z∈U:=fun z hz=>by rw[<- hU];exact Zbs _ (Zbs _ hz)
 have a1p:∀ k c,(k,c)∈U->zB E.ntmps nb nr k=true:=fun k c hc=>by
  rw[Acd]at km;exact km _ hc
 obtain⟨uc,tP⟩:=Haq (gd:=!noG g) (deps:=Z.deps) (nb:=nb) s.results y0 nr;rw[jh]at uc tP;dsimp only at uc tP;subst uc;have a8c:=xI sf;have pT:=yJ hg yw qa;have oT:∀ r c,(kR r,c)∈U->nr<=r->σ (kR r)=none:=fun r c hc hr=>hf.nr r hr (Da5 (a1p _ _ hc))
 have xm:∀ k c,(k,c)∈Yap o g rs->∃ d,o.dst=some d/\k=kT d/\c=.slot (Gba g (Bat g rs)) (Bat g rs):=fun k c hc=>by
  rw[Ca0]at hc;exact yQ hc
 have ej:Fr σ G w (upds σ U) G2 w':=by
  refine Fr.of (fun b hb hlt=>B.frz hb hlt) (fun r b p gg hb=>?_) (fun r c hc gy=>?_) (fun r x m k hkz b p hb=>?_) (fun r hr=>?_) (fun b hb=>?_)
  ·refine B.other (fun hr=>?_) hb
   rcases yK yw r hr with ⟨c,hc⟩|⟨c,hc⟩
   ·exact gg c (a7p _ hc)
   ·exact gg c (a7t _ hc)
  ·rcases a0m _ _ hc with h|h|h|h|h
   ·obtain⟨d,-,e,-⟩:=xm _ _ h
    exact absurd e.symm iM
   ·rcases tP _ _ h with ⟨r',y,m,h1,h2,rfl⟩|⟨h1,-⟩
    ·obtain rfl:=eT h2
     exact .inl ⟨oT r _ hc h1,_,_,_,_,rfl⟩
    ·exact absurd h1.symm fB
   ·rcases a8c _ _ h with ⟨r',y,m,h1,h2,rfl⟩|⟨c0,ji,ls,h1,-⟩
    ·obtain rfl:=eT h2
     exact .inl ⟨oT r _ hc (by omega),_,_,_,_,rfl⟩
    ·exact absurd h1.symm fB
   ·obtain⟨j,r',d,q,X,X0,m,bc,X',h1,h2,rfl,h3,-⟩:=pT _ _ h
    obtain rfl:=eT h2;exact .inr (.inl ⟨_,_,_,_,_,h3,rfl⟩)
   ·obtain⟨r',h1,rfl⟩:=kZ h
    exact .inr (.inr (.inl ⟨_,_,_,_,rfl,by simp,by simp⟩))
  ·have hb:G2.own b=.slc r p:=hb
   simp only[G2,fC]at hb;split at hb
   ·cases e:G.own b with
    | slc r' p' =>
     rw[e]at hb;simp only[Aam]at hb;split at hb
     ·cases hb
     ·split at hb
      ·split at hb
       ·exact hb
       ·cases hb
      ·exact hb
     ·exact hb
    |_=>rw[e]at hb;simp[Aam]at hb
   ·cases e:G'.own b with
    | slc t p' =>
     rw[e]at hb;simp only[uN]at hb;split at hb
     ·split at hb
      ·cases hb
      ·split at hb
       ·rename_i hlt
        injection hb with e1 e2
        have:=hf.nr r (by omega) (by omega);rw[this]at hkz;cases hkz
       ·cases hb
     ·split at hb
      ·rename_i r' d q X a7v
       injection hb with e1 e2
       subst e1;have hm:=(List.mem_filter.1 (Zb4 a7v)).1;obtain⟨m',we,u',h1,-⟩:=tU _ hm;rw[h1]at hkz;cases hkz
      ·cases hb
    | box β =>
     rw[e]at hb;simp only[uN]at hb;split at hb<;>cases hb
    |_=>rw[e]at hb;simp[uN]at hb
  ·show (if nr<=r/\r<nr+bU then _ else G.hdr r)=_
   rw[if_neg]
   rintro⟨h1,h2⟩
   rw[hf.nr r h1 h2]at hr;cases hr
  ·show (if b=nb then adn else G.bx b)=_
   rw[if_neg];intro e;rw[e,hf.nb]at hb;cases hb
 have lR:∀ k c,(k,c)∈U->(upds σ U k).isSome:=fun k c hc=>dX _ _ _ (.inr ⟨c,hc⟩)
 have a3w:∀ l:List (Nat×aS),(∀ z∈l,z∈U)->UIn (upds σ U) nr l:=fun l hl k c hc=>by
  refine⟨lR k c (hl _ hc),fun q e=>?_⟩;have:=a1p _ _ (hl _ hc);rw[e]at this;have:=Da5 this;omega
 have xx:∀ i,i<ds.length->(aK.v (y0+i)).val ρ=ds.getD i .undef:=fun i hi=>by
  rw[Zbu,Zbq hi,Bcn];exact dm i _ (Zbq hi)
 have A:Aft E F σ (upds σ U) ρ a w G s Z G' w' y0 ds:=by
  refine⟨B,xx,fun z hz=>ej.known _ _ ?_⟩;obtain⟨m,x,hx⟩:=rk z hz;exact⟨x,m,z.2,.live,hx,fun _=>Zb2 _⟩
 have a8n:(!noG g)=false\/kQ s.results=0:=by
  rcases fX with h|h
  ·exact .inl (by rw[h];rfl)
  ·exact .inr h.1
 have tD:=Ka5 A (gd:=!noG g) (nb:=nb) (nr:=nr) (hs:=hs) (adn:=adn) (i:=0) (q:=0) a1v (by omega) (pP.imp id fun h m y hm=>h m y (Zbp _ (Zbp _ hm)))
  a8n (fun j x hj=>by
   rw[Acl];show (owR w' s.results da++_)[j]?=some x
   rw[Zb9 (List.getElem?_eq_some_iff.1 hj).1]
   exact hj) (fun ad s8=>by
   have hl:=Ra3 s.results da;show ad=(Jam s.results da).headD _
   match hb:Jam s.results da,s8 with
   |[x],s8=>simpa using s8
   |x::y::l,s8=>rw[hb]at hl;simp at hl;omega) (by
   rw[Ack,Ack,jh];exact a3w us a7i)
 rw[Ack,Ack,jh]at tD;dsimp only at tD;obtain⟨-,p8,a7w,a1o⟩:=tD;have zk:(dV (s.params.flatMap (·.2))).length=(Z.rts.filter wP).length:=by rw[<- yf];simp
 rw[zk]at kk
 have a6u:=Aa1 A (gd:=!noG g) (nb:=nb) (nr:=nr) (hs:=hs) (adn:=adn) hf.nb (bs:=s.boxes) (b:=0) (i:=bK s.results+(Z.rts.filter wP).length) (q:=qR s.results) (bu:=bu) (by simp)
  (by rw[<- Acb];exact sf) kk (by omega) (pP.imp id fun h m y hm=>h m y (Zbs _ (by rw[Acb];exact hm)))
  (by
   rcases fX with h|⟨-,olds,h⟩
   ·exact .inl (by rw[h];rfl)
   ·exact .inr (uL h)) (fun j x hj=>by
   show (owR w' s.results da++owB w' (callG ρ G w s Z).bx 0 s.boxes)[qR s.results+j]?=some x
   rw[Zb8 (by omega),p8,Acs];exact hj) (a3w bu a2z)
 obtain⟨a1x,a8t⟩:=a6u;refine⟨G2,hR.upd U ej (by rw[Baz];exact hR.tmps) (by rw[put_defers];exact hR.defers) B.frame (fun t ht=>?_) (fun b ro ls hb gg=>?_) (fun b ls hb hlt ho=>?_) (fun k c hc gy=>?_)⟩
 ·rw[<- hU,Ca0]at ht
  exact Gab ht
 ·
  obtain⟨h1,h2,h3⟩:=hR.box hb
  have hlt:(G.bx b).block<w.heap.size:=by
   rcases Aca (G.bx b).block w.heap.size with h|h
   ·exact h
   ·rw[hR.frame.fresh _ h]at h2
    split at h2<;>cases h2
  cases ro with
  | true =>
   simp only[if_true]at h2;obtain⟨h4,h5⟩:=B.oth (gd:=!noG g) (nr:=nr) (nb:=nb) (hs:=hs) (adn:=adn) h2 hlt;exact⟨h4.trans h2.symm,h5⟩
  | false =>
   simp only[Zbr,if_false]at h2;obtain⟨h4,h5⟩:=B.boxes (gd:=!noG g) (nr:=nr) (nb:=nb) (hs:=hs) (adn:=adn) h2 hlt;refine⟨h4.trans h2.symm,?_⟩
   rcases h5 with h5|⟨j,cs,off,ls2,c0,c1,e,fr,e1,e2,e3,e4,-⟩
   ·exact h5
   ·exfalso
    have hm:=uK (wr:=false) (b:=0) e1 (by rw[Acl];exact e2);obtain⟨x,hx⟩:=a8t b hm;exact gg x (a2z _ hx)
 ·
  rcases a0m _ _ hb with h|h|h|h|h
  ·obtain⟨d,-,e,-⟩:=xm _ _ h
   exact absurd e.symm lQ
  ·rcases a1o _ _ h with ⟨q,m,i,e,-⟩|⟨e,jv,e2,hbr,uz⟩
   ·exact absurd e fB
   ·exfalso
    have e:=Caj e;subst e;refine uz ⟨Nat.lt_of_lt_of_le hlt hR.frame.size,?_⟩;have h1:=(hR.frame.boxes _ _ hlt ho).1
    have h2:(callG ρ G w s Z).own ((fC (!noG g) ρ G w s Z nr b G'.own hs adn).bx b).block=.oth\/∃ j,(callG ρ G w s Z).own ((fC (!noG g) ρ G w s Z nr b G'.own hs adn).bx b).block=.box j:=by
     have wc:G.own ((fC (!noG g) ρ G w s Z nr b G'.own hs adn).bx b).block=.box b:=h1;simp only[callG,wc];split
     ·split
      ·exact .inr ⟨_,rfl⟩
      ·exact .inl rfl
     ·exact .inl rfl
    rcases h2 with h2|⟨j,h2⟩<;>rw[h2]<;>rfl
  ·rcases a1x _ _ h with ⟨q,m,i,e,-⟩|⟨c0,ji,jv,e,h1,h2,h3,-⟩
   ·exact absurd e fB
   ·obtain rfl:=Caj e
    injection h2 with e1 e2
    have hbn:G2.bx b=G.bx b:=ej.bx b (by rw[h1];rfl);rw[hbn]at hlt ho ⊢;rw[hR.rng b ji h1 hlt ho,e2,h3]
  ·obtain⟨j,r',d,q,X,X0,m,bc,X',h1,h2,-⟩:=pT _ _ h
   exact absurd h2 fB
  ·obtain⟨r',h1,-⟩:=kZ h
   exact absurd h1 fB
 ·rcases a0m _ _ hc with h|h|h|h|h
  ·obtain⟨d,mA,rfl,rfl⟩:=xm _ _ h
   refine⟨d,rfl,fun _=>?_⟩;rw[mA,oF _ _ _ _ _ (hd d mA) hR.tmps];exact Za5 hg a7w
  ·rcases a1o _ _ h with ⟨q,m,i,rfl,rfl,fg⟩|⟨rfl,jv,rfl,hbr,-⟩
   ·exact⟨nr+q,rfl,by rw[gy];rfl,fg⟩
   ·exact⟨nb,rfl,hbr⟩
  ·rcases a1x _ _ h with ⟨q,m,i,rfl,rfl,fg⟩|⟨c0,ji,jv,rfl,h1,rfl,h3,h4⟩
   ·exact⟨nr+q,rfl,by rw[gy];rfl,fg⟩
   ·refine⟨c0,rfl,h4 fun j l hj=>?_⟩
    obtain⟨-,-,cG⟩:=hR.box h1;obtain⟨v,uv,hv2,hv3⟩:=cG j l hj;exact⟨v,uv,fun hl=>aB.mono ej l v hl⟩
  ·obtain⟨j,r',d,q,X,X0,m,bc,X',h1,rfl,rfl,h3,hfd,h4⟩:=pT _ _ h
   refine⟨r',rfl,by rw[gy];rfl,?_⟩;show Rp G2.own w' r' [] m (G2.hdr r') (X'.val ρ)
   have zt:G2.hdr r'=G.hdr r':=ej.hdr r' (by rw[h3];rfl);rw[zt];have a6k:=(List.getElem?_eq_some_iff.1 h1).1;have ka:j<(Aap 0 Z.rts).length:=by rw[Qaw];exact a6k
   have u6:=Zbq ka;obtain⟨x,nu,-,lv⟩:=Qax u6;rw[h1]at nu;obtain rfl:=Option.some.inj nu;rw[Nat.sub_zero]at lv
   have hd0:(dV (s.params.flatMap (·.2)))[j]?=some d:=by
    rw[<- yf,Ace,h1];rfl
   have eI:=Mac a5n hd0;rw[Acl]at eI
   have hy:(aK.v (y0+bK s.results+j)).val ρ=ds.getD (bK s.results+j) .undef:=by
    rw[Acb];exact xx _ (by omega)
   rw[<- hy]at eI
   have zf:(pO s (callG ρ G w s Z) w).gh j=Abr w (G.hdr r') (bB ρ q):=by
    simp only[pO,Iao,Zbu];rw[<- hmr,Zb9 (by simpa using ka),Ace,u6];simp only[Acz,Bcn];rw[Daa lv];rfl
   rw[zf]at eI;refine B.mu h3 hfd lv h1 (fun u' hn=>Da1 hn) eI (pP.imp id fun hc=>?_) h4
   have db:∀ (rts:List RT) (y j:Nat) (r d:Nat) (q:List (aK×Nat×Nat)) (X:aK),(rts.filter wP)[j]?=some (RT.mu r d q X)->Step.prim (.dep d) [.v (y+j)] 0∈Cb4 y rts:=by
    intro rts
    induction rts with
    |nil=>intro y j r d q X h;simp at h
    | cons x t ih =>
     intro y j r d q X h
     cases x with
     |nil=>exact ih y j r d q X (by simpa[wP,Bcg] using h)
     |own _ _=>exact ih y j r d q X (by simpa[wP,Bcg] using h)
     | mu r' d' q' X' =>
      simp only[Cb4]
      cases j with
      | zero =>
       simp[wP,Bcg]at h;rw[h.2.1];exact Zb5
      | succ j =>
       have:=ih (y+1) j r d q X (by simpa[wP,Bcg] using h);rw[show y+1+j=y+(j+1) by omega]at this;exact Zby _ this
   exact hc d _ (Zbp _ (Zbs _ (db _ _ _ _ _ _ _ h1)))
  ·obtain⟨r',rfl,rfl⟩:=kZ h
   exact⟨r',rfl,by rw[gy];rfl,trivial⟩
end
theorem Eam:∀ (cs:List BO) (y:Nat),bH (nS y cs)=0
 |[],y=>rfl
 |t::cs,y=>by cases t<;>simp only[nS,iJ,Step.n,Eam cs]
theorem Ib8:∀ (ss:List LR) (y:Nat),bH (Ta8 y ss)=0
 |[],y=>rfl
 |t::ss,y=>by cases t<;>simp only[Ta8,iJ,fA,Step.n,Eam,Ib8 ss]
theorem Ib6:∀ (rs:List (Bool×List LR)) (y:Nat),bH (Cb3 y rs)=0
 |[],y=>rfl
 |(a,ss)::rs,y=>by simp only[Cb3,fA,Ib8,Ib6 rs]
theorem Ib7:∀ (ts:List RT) (y:Nat),bH (Cb4 y ts)=0
 |[],y=>rfl
 |t::ts,y=>by cases t<;>simp only[Cb4,iJ,Step.n,Ib7 ts]
theorem Ib9:∀ (bs:List (Bool×List (BS×BO))) (y:Nat),bH (Yay y bs)=0
 |[],y=>rfl
 |(ro,cs)::bs,y=>by cases ro<;>simp only[Yay,cond_true,cond_false,fA,Eam,Ib9 bs]
theorem Va3 {ρ:List D}{g:Option (aK×Bool)}{cf:Nat->List D->Option (List D)}(hg:gOn ρ g=true):∀ {l:List Step} {nv:Nat},aN cf ρ g nv l->Ra9 ρ l
 |[],nv,h=>fun m y hm=>by simp at hm
 | t :: l, nv, h => fun m y hm => by
  rcases List.mem_cons.1 hm with e|hm
  ·subst e
   obtain⟨ds,h1,-,-⟩:=h.1.1 hg;simp only[Acg,Acm,aT.run]at h1;split at h1
   ·rename_i hf;exact hf
   ·cases h1
  ·exact Va3 hg h.2 m y hm
theorem Pax {deps:List (Nat×Nat)}{nb:Nat}:∀ (rs:List (Bool×List LR)) (y n:Nat),kQ rs=0->(jA true deps nb y n rs).2.1=[]
 |[],y,n,_=>rfl
 | (a, ss) :: rs, y, n, h => by
  simp only[kQ]at h
  have hl:∀ (ss:List LR) (y n:Nat),bxL ss=0->(dH true deps nb y n ss).2.1=[]:=by
   intro ss
   induction ss with
   |nil=>intro y n _;rfl
   | cons t ss ih =>
    intro y n h
    cases t with
    |bx cs=>simp[bxL]at h
    |_=>simp only[dH,cB,cond_true,Ac0];exact ih _ _ (by simpa[bxL] using h)
  simp only[jA,hl ss y n (by omega),Ac0];exact Pax rs _ _ (by omega)
theorem Ka6 {gd:Bool}{deps:List (Nat×Nat)}{nb y n:Nat}{rs:List (Bool×List LR)}{l:aR}(h:(jA gd deps nb y n rs).1=[(false,[l])]):(∀ g x,l≠.su g x)/\∀ x,l=.sc x->x=.v y/\1<=bK rs:=by
 match rs,h with
 |[],h=>simp[jA]at h
 |(a,ss)::r::rs,h=>simp[jA]at h
 | [(a, ss)], h =>
  simp only[jA,List.cons.injEq,Prod.mk.injEq,and_true]at h;obtain⟨-,h⟩:=h
  match ss,h with
  |[],h=>simp[dH]at h
  |t::t'::ss,h=>simp[dH]at h
  | [t], h =>
   simp only[dH,List.cons.injEq,and_true]at h;subst h
   cases t with
   |sc=>exact⟨fun g x e=>by simp[cB]at e,fun x e=>by simp[cB]at e;exact⟨e.symm,by simp[bK,mZ,LR.n]⟩⟩
   |ow m=>cases gd<;>exact⟨fun g x e=>by simp[cB]at e,fun x e=>by simp[cB]at e⟩
   |_=>exact⟨fun g x e=>by simp[cB]at e,fun x e=>by simp[cB]at e⟩
theorem Za6 {σ:Nat->Option aS}{ρ:List D}{G:Gh}{w:World}{z:aK×Bool}(hg:gOn ρ (some z)=false){gd:Bool}{deps:List (Nat×Nat)}{nb y n:Nat}{rs0:List (Bool×List LR)}{rs:List (Bool×List aR)}
  (hrs:(jA gd deps nb y n rs0).1=rs) (hv:1<=bK rs0->(aK.v y).val ρ=.undef) (h:gOn ρ (Gba (some z) (Bat (some z) rs))=true):bY σ ρ G w (Bat (some z) rs) undef:=by
 unfold Bat at h ⊢;split at h
 ·rename_i x
  obtain⟨h1,h2⟩:=(Ka6 hrs).2 x rfl;subst h1;simp only[mkS,bY,aB];exact⟨.inr ⟨trivial,hv h2⟩,fun e=>by rw[hg]at e;cases e⟩
 ·rename_i l cL
  have xp:=(Ka6 hrs).1;exfalso
  revert h xp
  cases l with
  |su g' x'=>exact fun _ xp=>xp g' x' rfl
  |_=>intro e _;simp only[Gba]at e;rw[hg]at e;cases e
 ·simp only[Gba]at h;rw[hg]at h;cases h
 ·simp only[Gba]at h;rw[hg]at h;cases h
section
variable {P:Program} {E:Env} {F:bG} {σ:Nat->Option aS} {ρ:List D} {a:Act} {w w':World} {G:Gh} {g:Option (aK×Bool)} {cf:Nat->List D->Option (List D)} {o:Oper} {s:Sig} {T Z:Take} {nb nr y0 nvm:Nat}
theorem Ea8 (hR:R E.ntmps F σ ρ a w G){dT:Nat->Option aS}(ej:Fr σ G w dT G w){deps:List (Nat×Nat)}(vc:∀ z∈deps,jB σ z.1 z.2):∀ {cs:List (BS×BO)} {ls:List aR} {xs:List aK} {y n:Nat},(kL cs ls).eval σ=some xs ->
  (∀ j x,xs[j]?=some x->(aK.v (y+j)).val ρ=x.val ρ)->(∀ (j:Nat) (nie:Bool) (o:BO) (l:aR),cs[j]?=some (BS.fz nie,o)->ls[j]?=some l->∃ r,(yB l).eval σ=some r/\∀ z∈r.deps,z∈deps) ->
  xs.length=cs.length/\(dO deps y n (cs.map (·.2))).2.1=[]/\(dO deps y n (cs.map (·.2))).1.length=cs.length /\
  ∀ (j:Nat) (l l0:aR) (v:Value),(dO deps y n (cs.map (·.2))).1[j]?=some l->ls[j]?=some l0->aB σ ρ G w l0 v->aB dT ρ G w l v
 | [], ls, xs, y, n, h, _, _ => by
  simp only[kL,aF,Option.some.injEq]at h;subst h;exact⟨rfl,rfl,rfl,by simp[dO]⟩
 |_::_,[],xs,y,n,h,_,_=>by simp[kL,bO]at h
 | (t, o) :: cs, l0 :: ls, xs, y, n, h, hx, hz => by
  simp only[kL,aA,Zbn,aF,Option.some.injEq]at h;obtain⟨x,h1,r,h2,rfl⟩:=h;have hx0:(aK.v y).val ρ=x.val ρ:=by have:=hx 0 x rfl;rwa[Ack]at this
  have key:(jP deps y n o).2.1=[]/\∀ v,aB σ ρ G w l0 v->aB dT ρ G w (jP deps y n o).1 v:=by
   split at h1
   ·rename_i x'
    simp only[aF,Option.some.injEq]at h1;subst h1;refine⟨rfl,fun v hv=>?_⟩;simp only[jP,aB]at hv ⊢;rw[hx0];exact hv
   ·rename_i _ nie
    simp only[aA,Zbn,aF,Option.some.injEq]at h1;obtain⟨sl,h3,rfl⟩:=h1;refine⟨rfl,fun v hv=>?_⟩;obtain⟨sl',h4,h5⟩:=hz 0 nie .fz _ rfl rfl;rw[h3]at h4;obtain rfl:=Option.some.inj h4;have hs:=dU hR h3 hv;have lh:v.oneCell'=true:=hv.one (by cases l0<;>first|rfl|cases h3)
    have hl:aB σ ρ G w (.sn deps .no false (.v y)) v:=by
     simp only[aB];refine⟨⟨lh,vc⟩,fun _=>⟨?_,fun e=>absurd e (by decide),trivial⟩⟩;rw[hx0];refine hs.rd.mono fun b hb=>⟨?_,rfl⟩
     rcases hb with hb|⟨r,k,p,hm,hb⟩
     ·exact .inl hb
     ·exact .inr ⟨r,k,p,h5 _ hm,hb⟩
    exact aB.mono ej _ v hl
   ·rw[gW]at h1
    split at h1
    ·rename_i hs
     simp only[aF,Option.some.injEq]at h1;refine⟨rfl,fun v hv=>?_⟩;simp only[jP,aB];exact hv.one hs
    ·cases h1
   ·cases h1
  obtain⟨h3,h4,h5,h6⟩:=Ea8 hR ej vc (cs:=cs) (y:=y+1) (n:=(jP deps y n o).2.2) h2 (fun j x hj=>by
   have:=hx (j+1) x (by simpa using hj);rwa[show y+(j+1)=y+1+j by omega]at this) (fun j nie o' l hj hl=>hz (j+1) nie o' l (by simpa using hj) (by simpa using hl))
  refine⟨by simp[h3],by simp only[Acg,dO,key.1,Ac0];exact h4,by simp only[Acg,dO,Zb1];rw[h5],fun j l l1 v hj hl hv=>?_⟩;simp only[Acg,dO]at hj
  cases j with
  | zero =>
   simp only[Zbw,Option.some.injEq]at hj hl;subst hj hl;exact key.2 v hv
  |succ j=>exact h6 j l l1 v (by simpa using hj) (by simpa using hl) hv
theorem Eaw:∀ {ss:List (BS×BO)} {ls:List aR} {A B:Take},(dY A ss ls).eval σ=some B->∀ (j:Nat) (nie:Bool) (o:BO) (l:aR),ss[j]?=some (BS.fz nie,o)->ls[j]?=some l->∃ r,(yB l).eval σ=some r/\∀ z∈r.deps,z∈B.deps
 |[],ls,A,B,h,j,nie,o,l,hj,_=>by simp at hj
 |_::_,[],A,B,h,_,_,_,_,_,_=>by simp[dY,bO]at h
 | (t, o) :: ss, l0 :: ls, A, B, h, j, nie, o', l, hj, hl => by
  simp only[dY,aA,Zbn]at h;obtain⟨C,h1,h2⟩:=h
  cases j with
  | zero =>
   simp only[Zbw,Option.some.injEq,Prod.mk.injEq]at hj hl;obtain⟨rfl,rfl⟩:=hj;subst hl
   have h3:(rO A nie l0).eval σ=some C:=by
    have hinv:=qB h1;clear h1
    rcases hinv with ⟨x,e,-⟩|⟨nie',e,h⟩|⟨d,e,-⟩|⟨e,-⟩
    ·cases e
    ·injection e with e;subst e;exact h
    ·cases e
    ·cases e
   unfold rO at h3;simp only[aA,Zbn,aF,Option.some.injEq]at h3;obtain⟨sl,h4,rfl⟩:=h3;exact⟨sl,h4,fun z hz=>(qA h2).1.deps z (Zbs _ hz)⟩
  |succ j=>exact Eaw h2 j nie o' l (by simpa using hj) (by simpa using hl)
theorem Eax {ptrs:List (Nat×Nat×Nat)}:∀ {bs:List (Bool×List (BS×BO))} {b:Nat} {A B:Take},(eQ ptrs A b bs).eval σ=some B->∀ (i:Nat) (ro:Bool) (cs:List (BS×BO)),bs[i]?=some (ro,cs) ->
  ∃ c off la ls,oJ (b+i) ptrs=some (c,off)/\σ (kB c)=some (.box la ls)/\off+cs.length<=ls.length/\∀ (j:Nat) (nie:Bool) (o:BO) (l:aR),cs[j]?=some (BS.fz nie,o)->(ls.drop off)[j]?=some l->∃ r,(yB l).eval σ=some r/\∀ z∈r.deps,z∈B.deps
 |[],b,A,B,h,i,ro,cs,hi=>by simp at hi
 | (ro0, cs0) :: bs, b, A, B, h, i, ro, cs, hi => by
  simp only[eQ]at h;split at h
  case h_2=>cases h
  rename_i c off hp;simp only[aA,aU,Zbv]at h;split at h
  case h_2=>cases h
  rename_i la ls nf;simp only[aA,aJ,Zbn]at h;obtain⟨_,h0,C,h1,h2⟩:=h;split at h0
  case isFalse=>cases h0
  rename_i hb;simp only[Zbo,Ac2]at hb
  cases i with
  | zero =>
   simp only[Zbw,Option.some.injEq,Prod.mk.injEq]at hi;obtain⟨rfl,rfl⟩:=hi;refine⟨c,off,la,ls,hp,nf,hb.2,fun j nie o l hj hl=>?_⟩;obtain⟨r,h3,h4⟩:=Eaw h1 j nie o l hj hl;exact⟨r,h3,fun z hz=>(kU h2).1.deps z (h4 z hz)⟩
  | succ i =>
   obtain⟨c',kq,a8r,jv,h3,h4,h5,h6⟩:=Eax h2 i ro cs (by simpa using hi);exact⟨c',kq,a8r,jv,by rw[show b+(i+1)=b+1+i by omega];exact h3,h4,h5,h6⟩
theorem Aa2 (hR:R E.ntmps F σ ρ a w G){deps:List (Nat×Nat)}(vc:∀ z∈deps,jB σ z.1 z.2){ptrs:List (Nat×Nat×Nat)}:∀ {bs:List (Bool×List (BS×BO))} {b y n:Nat} {bu:List (Nat×aS)} {xs:List aK},
  (lU ptrs deps b y n bs).eval σ=some bu->(iQ ptrs b bs).eval σ=some xs->(∀ j x,xs[j]?=some x->(aK.v (y+j)).val ρ=x.val ρ) ->
  (∀ (i:Nat) (ro:Bool) (cs:List (BS×BO)),bs[i]?=some (ro,cs)->∃ c off la ls,oJ (b+i) ptrs=some (c,off)/\σ (kB c)=some (.box la ls)/\off+cs.length<=ls.length/\∀ (j:Nat) (nie:Bool) (o:BO) (l:aR),cs[j]?=some (BS.fz nie,o)->(ls.drop off)[j]?=some l->∃ r,(yB l).eval σ=some r/\∀ z∈r.deps,z∈deps) ->
  xs.length=eB bs/\∀ k c,(k,c)∈bu->∃ (c0:Nat) (ji ls:List aR),k=kB c0/\σ (kB c0)=some (.box false ji)/\c=.box false ls/\ls.length=ji.length/\∀ (dT:Nat->Option aS),Fr σ G w dT G w->∀ (j:Nat) (l l0:aR) (v:Value),ls[j]?=some l->ji[j]?=some l0->aB σ ρ G w l0 v->aB dT ρ G w l v
 | [], b, y, n, bu, xs, h, hx, _, _ => by
  simp only[lU,aF,Option.some.injEq]at h;simp only[iQ,aF,Option.some.injEq]at hx;subst h hx;exact⟨rfl,by simp⟩
 | (ro, cs) :: bs, b, y, n, bu, xs, h, hx, hv, hz => by
  have xj:∀ (i:Nat) (ro:Bool) (cs:List (BS×BO)),bs[i]?=some (ro,cs)->∃ c off la ls,oJ (b+1+i) ptrs=some (c,off)/\σ (kB c)=some (.box la ls)/\off+cs.length<=ls.length/\∀ (j:Nat) (nie:Bool) (o:BO) (l:aR),cs[j]?=some (BS.fz nie,o)->(ls.drop off)[j]?=some l->∃ r,(yB l).eval σ=some r/\∀ z∈r.deps,z∈deps:=fun i ro cs hi=>by
   have:=hz (i+1) ro cs (by simpa using hi);rwa[show b+(i+1)=b+1+i by omega]at this
  simp only[lU]at h;simp only[iQ]at hx
  cases ro with
  | true =>
   simp only[cond_true]at h hx;obtain⟨h1,h2⟩:=Aa2 hR vc h hx hv xj;exact⟨by rw[h1];simp only[eB,cond_true,Acl],h2⟩
  | false =>
   simp only[cond_false]at h hx;obtain⟨c,off,la,ji,e1,e2,e3,e4⟩:=hz 0 false cs rfl;rw[Ack]at e1;rw[e1]at h hx;simp only[aA,aU,Zbv]at h hx;rw[e2]at h hx
   cases la with
   |true=>simp[bO]at h
   | false =>
    simp only[aA,Zbn,aF,Option.some.injEq]at h hx;obtain⟨rest,h1,rfl⟩:=h;obtain⟨l1,h2,m1,h3,rfl⟩:=hx;have hold:=fun dT (ej:Fr σ G w dT G w)=>Ea8 (E:=E) (F:=F) (a:=a) hR ej vc (cs:=cs) (ls:=ji.drop off) (y:=y) (n:=n) h2 (fun j x hj=>hv j x (by rw[Zb9 (List.getElem?_eq_some_iff.1 hj).1];exact hj)) e4
    obtain⟨h4,h5,h6,-⟩:=hold σ (Fr.same σ G w [] (by simp))
    obtain⟨h7,h8⟩:=Aa2 hR vc h1 h3 (fun j x hj=>by
     have:=hv (cs.length+j) x (by rw[Zb8 (by omega),h4,Acs];exact hj);rwa[<- Acb]at this) xj
    refine⟨by rw[Zbt,h4,h7];simp only[eB,cond_false],fun k x hkx=>?_⟩;rw[h5]at hkx;simp only[Bcq,Ac0]at hkx
    rcases List.mem_cons.1 hkx with hkx|hkx
    ·obtain⟨rfl,rfl⟩:=Prod.mk.inj hkx
     refine⟨c,ji,_,rfl,e2,rfl,kW (by rw[h6];exact e3),fun dT ej j l l0 v hj ni gS=>?_⟩;rw[iF (by rw[h6];exact e3)]at hj;split at hj
     ·rename_i hr
      refine (hold dT ej).2.2.2 (j-off) l l0 v hj ?_ gS;rw[List.getElem?_drop,show off+(j-off)=j by omega];exact ni
     ·rw[ni]at hj
      obtain rfl:=Option.some.inj hj;exact aB.mono ej _ v gS
    ·exact h8 k x hkx
theorem Hb9 (hR:R E.ntmps F σ ρ a w G)(hg:gOn ρ g=false)(hd:fD E.ntmps o)(zo:∀ z∈Z.deps,Naf σ z.1 z.2)(tS:Z.rts=[])(zq:kQ s.results=0)
  (hZ:(eQ T.ptrs T 0 s.boxes).eval σ=some Z) {olds:List aK} (hold:(iQ Z.ptrs 0 s.boxes).eval σ=some olds)
  {rs:List (Bool×List aR)} {us bu:List (Nat×aS)} {xF:Nat} (jh:jA true Z.deps nb y0 nr s.results=(rs,us,xF)) (hgn:noG g=false)
  (sf:(lU Z.ptrs Z.deps 0 (y0+bK s.results) xF s.boxes).eval σ=some bu)
  (dm:∀ j d,(Zb6 (bK s.results+eB s.boxes-olds.length) D.undef++olds.map (·.val ρ))[j]?=some d->(aK.v (y0+j)).val ρ=d) :
  R E.ntmps F (upds σ (Yap o g rs++(us++bu))) ρ (a.put o.dst undef) w G:=by
 have sb:us=[]:=by
  have:=Pax (deps:=Z.deps) (nb:=nb) s.results y0 nr zq;rw[jh]at this;exact this
 subst sb;rw[Ac0];obtain⟨-,qf,-⟩:=kU hZ
 have vc:∀ z∈Z.deps,jB σ z.1 z.2:=fun z hz=>by
  obtain⟨m,x,hx⟩:=zo z hz;exact⟨x,m,z.2,.live,hx,fun _=>Zb2 _⟩
 have mT:=Eax hZ;rw[<- qf]at mT
 have hlen0:olds.length=eB s.boxes:=by
  have z6:∀ {bs:List (Bool×List (BS×BO))} {b:Nat} {xs:List aK},(iQ Z.ptrs b bs).eval σ=some xs->xs.length=eB bs:=by
   intro bs
   induction bs with
   |nil=>intro b xs h;simp only[iQ,aF,Option.some.injEq]at h;subst h;rfl
   | cons x bs ih =>
    intro b xs h;obtain⟨ro,cs⟩:=x;simp only[iQ]at h
    cases ro with
    |true=>simp only[cond_true]at h;rw[ih h];simp only[eB,cond_true,Acl]
    | false =>
     simp only[cond_false]at h;split at h
     case h_2=>cases h
     simp only[aA,aU,Zbv]at h;split at h
     case h_2=>cases h
     simp only[aA,Zbn,aF,Option.some.injEq]at h;obtain⟨l,h1,m,h2,rfl⟩:=h
     have hc:∀ {cs:List (BS×BO)} {ls:List aR} {ys:List aK},(kL cs ls).eval σ=some ys->ys.length=cs.length:=by
      intro cs
      induction cs with
      |nil=>intro ls ys h;simp only[kL,aF,Option.some.injEq]at h;subst h;rfl
      | cons t cs ihc =>
       intro ls ys h;obtain⟨t1,t2⟩:=t
       cases ls with
       |nil=>simp[kL,bO]at h
       | cons x ls =>
        simp only[kL,aA,Zbn,aF,Option.some.injEq]at h;obtain⟨y,-,r,h4,rfl⟩:=h;simp[ihc h4]
     rw[Zbt,hc h1,ih h2];simp only[eB,cond_false]
  exact z6 hold
 have tv:bK s.results+eB s.boxes-olds.length=bK s.results:=by omega
 rw[tv]at dm
 obtain⟨-,kk⟩:=Aa2 hR vc sf hold (fun j x hj=>by
  rw[Acb];refine dm _ _ ?_;rw[Zb8 (by simp),Ac6,Acs,Ace,hj]
  rfl) mT
 have xm:∀ k c,(k,c)∈Yap o g rs->∃ d,o.dst=some d/\k=kT d/\c=.slot (Gba g (Bat g rs)) (Bat g rs):=fun k c hc=>by
  rw[Ca0]at hc;exact yQ hc
 have l8:∀ k c,(k,c)∈Yap o g rs++bu->∀ r,k≠kR r:=by
  intro k c hc r
  rcases List.mem_append.1 hc with hc|hc
  ·obtain⟨d,-,e,-⟩:=xm _ _ hc
   rw[e];exact iM
  ·obtain⟨c0,ji,ls,e,-⟩:=kk _ _ hc
   rw[e];exact fB
 have ej:=Fr.nonroot σ G w (Yap o g rs++bu) l8;refine hR.upd _ ej (by rw[Baz];exact hR.tmps) (by rw[put_defers];exact hR.defers) hR.frame (fun t ht=>?_) (fun _ _ _ _ _=>⟨rfl,rfl⟩) (fun b ls hb hlt ho=>?_) (fun k c hc gy=>?_)
 ·rw[Ca0]at ht
  exact Gab ht
 ·rcases List.mem_append.1 hb with hb|hb
  ·obtain⟨d,-,e,-⟩:=xm _ _ hb
   exact absurd e.symm lQ
  ·obtain⟨c0,ji,jv,e,h1,h2,h3,-⟩:=kk _ _ hb
   obtain rfl:=Caj e
   injection h2 with e1 e2
   rw[hR.rng b ji h1 hlt ho,e2,h3]
 ·rcases List.mem_append.1 hc with hc|hc
  ·obtain⟨d,mA,rfl,rfl⟩:=xm _ _ hc
   refine⟨d,rfl,fun fa=>?_⟩;rw[mA,oF _ _ _ _ _ (hd d mA) hR.tmps];have hrs:(jA true Z.deps nb y0 nr s.results).1=rs:=by rw[jh]
   cases g with
   |none=>simp[gOn]at hg
   | some z =>
    refine Za6 hg hrs (fun ig=>?_) fa
    have:=dm 0 .undef (by
     rw[Zb9 (by simp;omega)];rw[Bcy,if_pos (by omega)])
    rwa[Ack]at this
  ·obtain⟨c0,ji,ls,rfl,h1,rfl,h3,h4⟩:=kk _ _ hc
   obtain⟨h5,h6,h7⟩:=hR.box h1;refine⟨c0,rfl,h5,h6,fun j l hj=>?_⟩;have hlt:j<ji.length:=by rw[<- h3];exact (List.getElem?_eq_some_iff.1 hj).1
   obtain⟨v,h8,h9,cQ⟩:=h7 j _ (Zbq hlt);exact⟨v,h8,h9,h4 _ ej j l _ v hj (Zbq hlt) cQ⟩
end
section
variable {P:Program} {E:Env} {F:bG} {σ:Nat->Option aS} {ρ:List D} {a:Act} {w:World} {G:Gh} {g:Option (aK×Bool)} {o:Oper}
theorem Oa2:∀ {vs:List SV} {us:List Value},vs.length=us.length->(∀ (i:Nat) (v:SV) (u:Value),vs[i]?=some v->us[i]?=some u->bY σ ρ G w v u)->sS σ ρ G w vs us
 |[],[],_,_=>rfl
 |[],_::_,h,_=>by simp at h
 |_::_,[],h,_=>by simp at h
 |v::vs,u::us,h,hr=>⟨u,us,rfl,hr 0 v u rfl rfl,Oa2 (by simpa using h) fun i v' u' hv hu=>hr (i+1) v' u' (by simpa using hv) (by simpa using hu)⟩
theorem Bae:∀ {vs sA:List SV} {us da:List Value},sS σ ρ G w vs us->sS σ ρ G w sA da->sS σ ρ G w (vs++sA) (us++da)
 |[],sA,us,da,h,h'=>by simp only[sS]at h;subst h;exact h'
 | v :: vs, sA, us, da, h, h' => by
  obtain⟨u,us2,rfl,h1,h2⟩:=h;exact⟨u,us2++da,rfl,h1,Bae h2 h'⟩
theorem Hab:∀ {ls:List aR} {vs:List Value},aG σ ρ G w ls vs->sS σ ρ G w (ls.map SV.one) vs
 |[],vs,h=>by simp only[aG]at h;subst h;rfl
 | l :: ls, vs, h => by
  simp only[aG]at h;obtain⟨u,us,rfl,h1,h2⟩:=h;exact⟨u,us,rfl,h1,Hab h2⟩
theorem Fb9 {f:Operand}{args:Array Operand}{argTypes:Array TypeId}(ho:o.op=.call { callee:=.value f,args,argTypes }){fn:Nat}{vs:List Value}(hf:a.eval f=.func (.func fn) #[] vs.toArray) :
  (execOp a.eval o).run P w=(callFunc fn (args.toList.map a.eval++vs).toArray).run P w:=by
 unfold execOp;simp only[ho,resolve,hf,Deferred.ofValue,invoke,Sem.run_bind,Sem.run_pure,Result.andThen_ok];congr 2;apply Array.ext';simp
theorem Hb7 {X:(Nat->Ow)->World->Prop}{T:Nat->Ent}{n:Nat}(aE:Stable X)(hX:X F.own0 F.w0)(hc:∀ key s,(key,s)∈E.sigs->Daj P X T n key s):Aa6 P E F (kE T n):=by
 intro σ ρ a w G g o Q mv dq nv nb nr res f args argTypes hR hd hf ho h km vi;simp only[qD,ho,aA,Zbn]at h;obtain⟨l,h1,h⟩:=h;split at h
 case h_2=>cases h
 rename_i fn fj;simp only[aA,Zbn]at h;obtain⟨vs0,h2,h⟩:=h;unfold Ibo at h;split at h
 ·cases h
 rename_i key s a6g;obtain⟨db,hfn⟩:=Iay a6g;simp only[aA,Zbn,aJ]at h;obtain⟨T1,hT,Z,hZ,_,fX,h⟩:=h;split at fX
 case isFalse=>cases fX
 rename_i hb;simp only[Zbo,Bool.or_eq_true,Ac2,List.isEmpty_iff,Acj]at hb;obtain⟨⟨kf,a3e⟩,fX⟩:=hb;have hk:=Sam kf;obtain⟨bu,sf,⟨ml,mu⟩,yw,olds,hold,h⟩:=h;simp only[aF,Option.some.injEq]at h;subst h;dsimp only at km vi ⊢;generalize jh:jA (!noG g) Z.deps nb (nv+bH Z.lets) nr s.results=res at km vi sf ⊢;obtain⟨rs,us,xF⟩:=res;dsimp only at km aE sf yw ⊢;refine⟨fun hg=>?_,fun hg=>?_⟩
 ·
  obtain⟨sB,qa⟩:=aN.append vi;obtain⟨mj,pP⟩:=aN.append sB;obtain⟨a2k,iz⟩:=aN.append mj;obtain⟨ds,bh,hlen,dm⟩:=iz.1.1 hg
  have hn:nv+bH (Z.lets++[Step.call key Z.xs (bK s.results+(Z.rts.filter wP).length+eB s.boxes) olds]++(bif Z.deps.isEmpty then [] else Cb3 (nv+bH Z.lets) s.results++Cb4 (nv+bH Z.lets+bK s.results) Z.rts++Yay (nv+bH Z.lets+bK s.results+(Z.rts.filter wP).length) s.boxes))=nv+bH Z.lets+(bK s.results+(Z.rts.filter wP).length+eB s.boxes):=by
   have e0:bH (bif Z.deps.isEmpty then [] else Cb3 (nv+bH Z.lets) s.results++Cb4 (nv+bH Z.lets+bK s.results) Z.rts++Yay (nv+bH Z.lets+bK s.results+(Z.rts.filter wP).length) s.boxes)=0:=by
    cases Z.deps.isEmpty with
    |true=>rfl
    |false=>simp only[cond_false,fA,Ib6,Ib7,Ib9]
   rw[fA,fA,e0];simp only[iJ,Step.n];show nv+(bH Z.lets+(_+bH [])+0)=_
   have:bH ([]:List Step)=0:=rfl;omega
  rw[hn]at qa;have uv:=fG hR hg h1;simp only[aB]at uv;obtain⟨cvs,hcv,hL⟩:=uv;obtain⟨lp,je⟩:=yC hR hg h2
  have sb:sS σ ρ G w (vs0++fj.map SV.one) (args.toList.map a.eval++cvs):=by
   refine Bae (Oa2 (by rw[lp];simp) fun i v u hv hu=>?_) (Hab hL);rw[Ace,Zbz]at hu;obtain⟨x,hx,rfl⟩:=hu;exact je i v x hv hx
  have cN:=Hb8 hR hg a2k hk hT hZ sb
  have hXc:X (callG ρ G w s Z).own w:=aE _ _ _ _ hR.frame.size (fun b hb he=>by
   have hkp:=hR.frame.keep b hb (.inl he);exact⟨hkp.1,pM (hkp.2.trans he)⟩) hX
  have fa:=hc key s db _ w _ _ ds cN hXc bh
  have a3u:Z.deps=[]\/Ra9 ρ (Cb3 (nv+bH Z.lets) s.results++Cb4 (nv+bH Z.lets+bK s.results) Z.rts++Yay (nv+bH Z.lets+bK s.results+(Z.rts.filter wP).length) s.boxes):=by
   cases hde:Z.deps.isEmpty with
   |true=>exact .inl (by simpa using hde)
   | false =>
    rw[hde,cond_false]at pP;exact .inr (Va3 hg pP)
  have a6p:noG g=true\/(kQ s.results=0/\∃ olds,(iQ Z.ptrs 0 s.boxes).eval σ=some olds):=by
   cases g with
   |none=>exact .inl rfl
   |some z=>exact .inr ⟨(fX.resolve_left (by simp[noG])).2,olds,hold⟩
  have yh:∀ v w',Oak s (pO s (callG ρ G w s Z) w) (callG ρ G w s Z).bx v w' ds->Nx E.ntmps F σ ρ (Yap o g rs++(us++bu++mu++gG Z.rts)) (a.put o.dst v) w':=by
   intro v w' pj;exact Cb9 hR hg hd hf sb hT hZ hk a3e a6p jh sf yw hlen dm a3u qa km pj
  unfold Oper.wp;rw[Fb9 ho hcv,<- hfn]
  rcases fa with ⟨hr,cJ⟩|⟨v,w',hr,pj⟩
  ·rw[hr,Oper.upon_enter]
   refine Calls.mono cJ fun e w' he=>?_
   cases e with
   |returned v=>exact yh v w' he
   |panicked c=>exact he.elim
   |outgrown=>exact he.elim
  ·rw[hr,Oper.upon_value]
   exact yh v w' pj
 ·
  have hgn:noG g=false:=by
   cases g with
   |none=>simp[gOn]at hg
   |some z=>rfl
  have h5:=fX.resolve_left (by rw[hgn];simp);obtain⟨tS,zq⟩:=h5
  have a5e:mu=[]:=by
   rw[tS]at yw;simp only[zR,aF,Option.some.injEq,Prod.mk.injEq]at yw;exact yw.2.symm
  have a8e:gG Z.rts=[]:=by rw[tS];rfl
  have hf0:(Z.rts.filter wP).length=0:=by rw[tS];rfl
  obtain⟨sB,qa⟩:=aN.append vi;obtain⟨mj,pP⟩:=aN.append sB;obtain⟨a2k,iz⟩:=aN.append mj;have dm:=iz.1.2 hg;rw[hf0,Ack]at dm sf
  have a2x:(iQ Z.ptrs 0 s.boxes).eval σ=some olds:=by
   cases g with
   |none=>cases hgn
   |some z=>exact hold
  have rk:∀ z∈Z.deps,Naf σ z.1 z.2:=by
   obtain⟨rn,uy,-,-⟩:=vK (E:=E) (F:=F) (ρ:=ρ) (a:=a) (w:=w) (G:=G) False (fun h=>h.elim) hT (fun h=>h.elim);obtain⟨sg,hn4,-⟩:=tC (ρ:=ρ) (G:=G) (w:=w) hZ;intro z hz
   rcases (uy.trans hn4).deps z hz with h|h
   ·simp[Take.empty]at h
   ·exact h
  rw[hgn]at jh;have:=Hb9 hR hg hd rk tS zq hZ a2x jh hgn sf dm;refine⟨G,?_⟩;show R E.ntmps F (upds σ (Yap o g rs++(us++bu++mu++gG Z.rts))) ρ _ w G
  rw[a5e,a8e,Acf,Acf];exact this
end
def Ya5 (P:Program)(s:Sig)(e:List D->Option (List D)):Prop :=
 ∀ vals w G ds ga,Dbo s vals w G ds->e ds=some ga->Goes P s.fn vals.toArray w fun v w'=>Oak s (pO s G w) G.bx v w' ga
def Sag (P:Program)(T:Nat->Ent)(ti:Nat->Option TI)(sigs:List (Nat×Sig))(key:Nat)(s:Sig):Prop :=
 (∃ (E : Env) (fn : Func) (tm : Tm Unit), E.ti = ti /\ E.sigs = sigs /\ P.funcs[s.fn]? = some fn /\ (fn.name == "runtime.NumGoroutine") = false /\ Wa8 E s fn = some tm /\ T key = .tm tm) \/ ∃ e, T key = .ext e /\ Ya5 P s e
def Ob6 (P:Program)(X:(Nat->Ow)->World->Prop)(s:Sig)(e:List D->Option (List D)):Prop :=
 ∀ vals w G ds ga,Dbo s vals w G ds->X G.own w->e ds=some ga->Goes P s.fn vals.toArray w fun v w'=>Oak s (pO s G w) G.bx v w' ga
def Ob5 (P:Program)(X:(Nat->Ow)->World->Prop)(T:Nat->Ent)(ti:Nat->Option TI)(sigs:List (Nat×Sig))(key:Nat)(s:Sig):Prop :=
 (∃ (E : Env) (fn : Func) (tm : Tm Unit), E.ti = ti /\ E.sigs = sigs /\ P.funcs[s.fn]? = some fn /\ (fn.name == "runtime.NumGoroutine") = false /\ Wa8 E s fn = some tm /\ T key = .tm tm) \/ ∃ e, T key = .ext e /\ Ob6 P X s e
theorem Sag.toX {P:Program}{X:(Nat->Ow)->World->Prop}{T:Nat->Ent}{ti:Nat->Option TI}{sigs:List (Nat×Sig)}{key:Nat}{s:Sig}(h:Sag P T ti sigs key s):Ob5 P X T ti sigs key s:=by
 rcases h with h|⟨e,h1,h2⟩
 ·exact .inl h
 ·exact .inr ⟨e,h1,fun vals w G ds ga hp _ he=>h2 vals w G ds ga hp he⟩
theorem Yav {P:Program}{X:(Nat->Ow)->World->Prop}{T:Nat->Ent}{ti:Nat->Option TI}{sigs:List (Nat×Sig)}(aE:Stable X)(hti:vJ P ti)(hm:P.follows .mixedOrders=true)(H:∀ key s,(key,s)∈sigs->Ob5 P X T ti sigs key s) :
  ∀ n key s,(key,s)∈sigs->Daj P X T n key s:=by
 intro n
 induction n with
 | zero =>
  intro key s _ vals w G ds ga _ _ h;cases h
 | succ n ih =>
  intro key s db
  rcases H key s db with ⟨E,fn,tm,rfl,rfl,h1,h2,h3,h4⟩|⟨e,h1,h2⟩
  ·exact Nau hti hm h1 h2 h3 h4 fun F hX=>Hb7 aE hX fun key s h=>ih key s h
  ·intro vals w G ds ga cN hX bh
   simp only[kE,h1]at bh;exact h2 vals w G ds ga cN hX bh
theorem contracts {P:Program}{T:Nat->Ent}{ti:Nat->Option TI}{sigs:List (Nat×Sig)}(hti:vJ P ti)(hm:P.follows .mixedOrders=true)(H:∀ key s,(key,s)∈sigs->Sag P T ti sigs key s) :
  ∀ n key s,(key,s)∈sigs->uR P T n key s :=
 fun n key s db vals w G ds ga cN bh=>Yav (X:=fun _ _=>True) (fun _ _ _ _ _ _ _=>trivial) hti hm (fun key s h=>(H key s h).toX) n key s db vals w G ds ga cN trivial bh
inductive Ty where
 |int (k:IntKind)
 |bool
 |str
 |sl (bytes:Nat) (row:List Ty)
mutual
def WT:Ty->D->Prop
 |.int k,d=>∃ n,d=.int k n/\k.min<=n/\n<=k.max
 |.bool,d=>∃ b,d=.bool b
 |.str,d=>∃ s,d=.str s/\s.length<=reachBytes
 |.sl bytes row,d=>∃ rs,d=.rows row.length rs/\rs.length*bytes<=reachBytes/\∀ r∈rs,WTs row r
def WTs:List Ty->List D->Prop
 |[],ds=>ds=[]
 |t::ts,ds=>∃ d ga,ds=d::ga/\WT t d/\WTs ts ga
end
def Zaa (P:Program)(rec:TypeId->Option (List Ty)):Nat->List Field->Option (List Ty)
 |_,[]=>some []
 | off, f :: fs => match rec f.type with
  |some r=>bif Nat.beq f.offset off&&Nat.beq r.length (P.cellsOf f.type) then (Zaa P rec (off+r.length) fs).map (r++·) else none
  |none=>none
def Jaz (P:Program):Nat->TypeId->Option (List Ty)
 |0,_=>none
 | n + 1, t => match P.underlying t with
  |some .bool=>some [.bool]
  |some (.int k)=>some [.int k]
  |some .string=>some [.str]
  | some (.slice e) => match Jaz P n e with
   |some r=>bif Nat.beq r.length (P.cellsOf e) then some [.sl (P.bytesOf e) r] else none
   |none=>none
  | some (.struct fs) => match Zaa P (Jaz P n) 0 fs.toList with
   |some r=>bif Nat.beq r.length (P.cellsOf t) then some r else none
   |none=>none
  |_=>none
def iZ (w:World):List Ty->List Value->List D->Prop
 |[],cs,ds=>cs=[]/\ds=[]
 |t::ts,cs,ds=>∃ c oE d ga,cs=c::oE/\ds=d::ga/\Rd (fun _=>True) w c d/\WT t d/\iZ w ts oE ga
theorem iZ.append {w:World}:∀ {ts ts':List Ty} {cs oE:List Value} {ds ga:List D},iZ w ts cs ds->iZ w ts' oE ga->iZ w (ts++ts') (cs++oE) (ds++ga)
 | [], ts', cs, oE, ds, ga, h, h' => by
  obtain⟨rfl,rfl⟩:=h;exact h'
 | t :: ts, ts', cs, oE, ds, ga, h, h' => by
  obtain⟨c,c1,d,d1,rfl,rfl,h1,h2,h3⟩:=h;exact⟨c,c1++oE,d,d1++ga,rfl,rfl,h1,h2,h3.append h'⟩
theorem iZ.len {w:World}:∀ {ts:List Ty} {cs:List Value} {ds:List D},iZ w ts cs ds->cs.length=ts.length/\ds.length=ts.length
 |[],cs,ds,h=>by obtain⟨rfl,rfl⟩:=h;exact⟨rfl,rfl⟩
 | t :: ts, cs, ds, h => by
  obtain⟨c,c1,d,d1,rfl,rfl,h1,h2,h3⟩:=h;obtain⟨h4,h5⟩:=h3.len;simp[h4,h5]
theorem iZ.get {w:World}:∀ {ts:List Ty} {cs:List Value} {ds:List D},iZ w ts cs ds->∀ {j:Nat} {d:D},ds[j]?=some d->∃ c,cs[j]?=some c/\Rd (fun _=>True) w c d
 |[],cs,ds,h,j,d,hj=>by obtain⟨rfl,rfl⟩:=h;simp at hj
 | t :: ts, cs, ds, h, j, d, hj => by
  obtain⟨c,c1,d',d1,rfl,rfl,h1,h2,h3⟩:=h
  cases j with
  | zero =>
   simp only[Zbw,Option.some.injEq]at hj;subst hj;exact⟨c,rfl,h1⟩
  | succ j =>
   obtain⟨c',h4,h5⟩:=h3.get (j:=j) (by simpa using hj);exact⟨c',by simpa using h4,h5⟩
theorem iZ.wts {w:World}:∀ {ts:List Ty} {cs:List Value} {ds:List D},iZ w ts cs ds->WTs ts ds
 |[],cs,ds,h=>by obtain⟨rfl,rfl⟩:=h;simp[WTs]
 | t :: ts, cs, ds, h => by
  obtain⟨c,c1,d',d1,rfl,rfl,h1,h2,h3⟩:=h;simp only[WTs];exact⟨d',d1,rfl,h2,h3.wts⟩
theorem Haz {α β:Type}{f:α->Option β}:∀ {l:List α} {ys:List β},l.mapM f=some ys->ys.length=l.length/\∀ (i:Nat) (x:α),l[i]?=some x->∃ y,ys[i]?=some y/\f x=some y
 | [], ys, h => by
  simp at h;subst h;simp
 | x :: l, ys, h => by
  simp only[List.mapM_cons,bind,Zbn,pure,Option.some.injEq]at h;obtain⟨y,h1,ys',h2,rfl⟩:=h;obtain⟨h3,h4⟩:=Haz h2;refine⟨by simp[h3],fun i z hz=>?_⟩
  cases i with
  | zero =>
   simp only[Zbw,Option.some.injEq]at hz;subst hz;exact⟨y,rfl,h1⟩
  | succ i =>
   obtain⟨y',h5,h6⟩:=h4 i z (by simpa using hz);exact⟨y',by simpa using h5,h6⟩
theorem Nah {β:Type}{p:Nat->β->Prop}:∀ (n:Nat),(∀ i,i<n->∃ y,p i y)->∃ l:List β,l.length=n/\∀ i y,l[i]?=some y->p i y
 |0,_=>⟨[],rfl,by simp⟩
 | n + 1, h => by
  obtain⟨l,h1,h2⟩:=Nah n fun i hi=>h i (by omega)
  obtain⟨y,hy⟩:=h n (by omega);refine⟨l++[y],by simp[h1],fun i z hz=>?_⟩
  rcases Nat.lt_trichotomy i n with hi|hi|hi
  ·rw[Zb9 (by omega)]at hz
   exact h2 i z hz
  ·subst hi
   rw[Zb8 (by omega),h1,Nat.sub_self]at hz;simp only[Zbw,Option.some.injEq]at hz;subst hz;exact hy
  ·have:=(List.getElem?_eq_some_iff.1 hz).1
   simp[h1]at this;omega
theorem zJ {H:Type}{P:Program}{e:TypeId}:∀ {l:List (DataW H)} {d:DataW H},d∈l->∀ n∈d.weights P e,n∈DataW.weightsAll P e l
 |[],d,h,_,_=>by simp at h
 | x :: l, d, h, n, hn => by
  simp only[DataW.weightsAll,Ccd]
  rcases List.mem_cons.1 h with rfl|h
  ·exact .inl hn
  ·exact .inr (zJ h n hn)
theorem uS {H:Type}{P:Program}{t:TypeId}{ts:List TypeId}{d:DataW H}{ds:List (DataW H)}:DataW.weightsEach P (t::ts) (d::ds)=d.weights P t++DataW.weightsEach P ts ds:=by
 simp only[DataW.weightsEach]
theorem Ga4 {P:Program}{w:World}{H:Type}{cs:List Value}{f:Field->List Value->Option (DataW H×List MemPlace)}{rec:TypeId->Option (List Ty)}
  (cq:∀ (fd:Field) (r:List Ty) (l:List Value) (y:DataW H×List MemPlace),rec fd.type=some r->f fd l=some y->(∀ m∈y.1.weights P fd.type,m<=reachBytes)->∃ ds,iZ w r l ds) :
  ∀ {fs:List Field} {off:Nat} {gm:List Ty} {xs:List (DataW H×List MemPlace)},Zaa P rec off fs=some gm->fs.mapM (fun fd=>f fd ((cs.drop fd.offset).take (P.cellsOf fd.type)))=some xs ->
  (∀ m∈DataW.weightsEach P (fs.map (·.type)) (xs.map (·.1)),m<=reachBytes)->cs.length=off+gm.length->∃ ds,iZ w gm (cs.drop off) ds
 | [], off, gm, xs, h, _, _, hl => by
  simp only[Zaa,Option.some.injEq]at h;subst h;refine⟨[],?_,rfl⟩;rw[List.drop_eq_nil_iff];simp only[List.length_nil]at hl;omega
 | fd :: fs, off, gm, xs, h, hm, hw, hl => by
  simp only[Zaa]at h;split at h
  case h_2=>cases h
  rename_i r hr
  cases hb:(Nat.beq fd.offset off&&Nat.beq r.length (P.cellsOf fd.type)) with
  |false=>rw[hb]at h;cases h
  | true =>
   rw[hb,cond_true,Zbz]at h;obtain⟨a27,h1,rfl⟩:=h;simp only[Zbo,Acj]at hb;obtain⟨rfl,hL⟩:=hb;simp only[List.mapM_cons,bind,Zbn,pure,Option.some.injEq]at hm;obtain⟨y,h2,ys,h3,rfl⟩:=hm;simp only[Acg,uS,Ccd]at hw;obtain⟨ds,h4⟩:=cq fd r _ y hr h2 fun m hm=>hw m (.inl hm)
   rw[Zbt]at hl;obtain⟨ga,h5⟩:=Ga4 cq (off:=fd.offset+r.length) h1 h3 (fun m hm=>hw m (.inr hm)) (by omega);refine⟨ds++ga,?_⟩;have:=h4.append h5;rw[<- hL]at this
   have e:List.take r.length (List.drop fd.offset cs)++List.drop (fd.offset+r.length) cs=List.drop fd.offset cs:=by
    rw[<- List.drop_drop,List.take_append_drop]
   rw[e]at this;exact this
theorem Dan {P:Program}{H:Type}{enc:TypeId×Value->H}{w:World}{sp:Nat->Bool}{held:Bool}:∀ (n fuel:Nat) {t:TypeId} {cs:List Value} {x:DataW H} {ps:List MemPlace} {gm:List Ty},Jaz P n t=some gm->DataW.trod enc P w 0 sp held fuel t cs=some (x,ps) ->
  (∀ m∈x.weights P t,m<=reachBytes)->∃ ds,iZ w gm cs ds
 |0,_,t,cs,x,ps,gm,h,_,_=>by simp[Jaz]at h
 |n+1,0,t,cs,x,ps,gm,_,h,_=>by simp[DataW.trod]at h
 | n + 1, fuel + 1, t, cs, x, ps, gm, ht, h, hw => by
  simp only[Jaz]at ht;unfold DataW.trod at h;split at ht
  ·
   rename_i hu;rw[hu]at h;simp only[Option.some.injEq]at ht;subst ht;split at h<;>rename_i heq<;>first|(cases heq;done)|skip
   all_goals first|(injection heq with heq;cases heq;done)|skip
   ·exact⟨_,_,[],_,[],rfl,rfl,.sc (.bool _),⟨_,rfl⟩,rfl,rfl⟩
   ·cases h
  ·
   rename_i k hu;rw[hu]at h;simp only[Option.some.injEq]at ht;subst ht;split at h<;>rename_i heq<;>first|(cases heq;done)|skip
   all_goals first|(injection heq with heq;cases heq;done)|skip
   ·rename_i k0 k' m
    injection heq with heq
    injection heq with heq
    subst heq;split at h
    ·rename_i hc
     obtain⟨rfl,ln⟩:=hc;simp only[Lit.wf,Zbo,decide_eq_true_eq]at ln;exact⟨_,_,[],_,[],rfl,rfl,.sc (.int _ _),⟨_,rfl,ln.1,ln.2⟩,rfl,rfl⟩
    ·cases h
   ·cases h
  ·
   rename_i hu;rw[hu]at h;simp only[Option.some.injEq]at ht;subst ht;split at h<;>rename_i heq<;>first|(cases heq;done)|skip
   all_goals first|(injection heq with heq;cases heq;done)|skip
   ·rename_i s0
    split at h
    ·simp only[Option.some.injEq,Prod.mk.injEq]at h
     obtain⟨rfl,rfl⟩:=h;refine⟨_,_,[],_,[],rfl,rfl,.sc (.str s0.data.toList),⟨_,rfl,hw _ ?_⟩,rfl,rfl⟩;simp only[DataW.weights,Zb0]
    ·cases h
   ·cases h
  ·
   rename_i e hu;split at ht
   case h_2=>cases ht
   rename_i r hr
   cases hb:Nat.beq r.length (P.cellsOf e) with
   |false=>rw[hb]at ht;cases ht
   | true =>
    rw[hb,cond_true]at ht;simp only[Option.some.injEq]at ht;subst ht;simp only[Acj]at hb;rw[hu]at h;split at h<;>rename_i heq<;>first|(cases heq;done)|skip
    all_goals first|(injection heq with heq;cases heq;done)|skip
    ·injection heq with heq
     injection heq with heq
     subst heq;simp only[Option.some.injEq,Prod.mk.injEq]at h;obtain⟨rfl,rfl⟩:=h;refine⟨_,_,[],.rows r.length [],[],rfl,rfl,.rows none ⟨0,0,none⟩ 0 0 r.length [] (fun _ _=>undef) rfl (Zb2 _) (.inl rfl) (by simp) (by simp) (by simp),⟨[],rfl,by simp,by simp⟩,rfl,rfl⟩
    ·rename_i e0 ad len cap
     injection heq with heq
     injection heq with heq
     subst heq;dsimp only at h;split at h
     case isFalse=>cases h
     rename_i hc;simp only[Zbn,Zbz,Prod.mk.injEq]at h;obtain⟨elems,h1,rest,h2,rfl,rfl⟩:=h;obtain⟨h3,h4⟩:=Haz h1;rw[List.length_range]at h3;simp only[DataW.weights,hu,Acu,Ccd]at hw
     have fL:∀ i,i<len->∃ ds:List D,∃ cs:List Value,(∀ j c,cs[j]?=some c->w.cell? (ad.add (i*r.length+j))=some c)/\iZ w r cs ds:=by
      intro i hi;obtain⟨y,h5,h6⟩:=h4 i i (by rw[Dca hi]);simp only[Zbn]at h6;obtain⟨cs,h7,h8⟩:=h6;obtain⟨x,ps⟩:=y;obtain⟨ds,h9⟩:=Dan n fuel hr h8 fun m hm=>hw m (.inr (.inl (zJ (List.mem_map.2 ⟨_,Zb4 h5,rfl⟩) m hm)))
      refine⟨ds,cs,fun j c hj=>?_,h9⟩;unfold World.cells? at h7;split at h7
      ·obtain⟨cQ,dz⟩:=Haz h7
       have kg:=(List.getElem?_eq_some_iff.1 hj).1;rw[cQ,List.length_range]at kg;obtain⟨c',fy,iq⟩:=dz j j (by rw[Dca kg]);rw[hj]at fy;obtain rfl:=Option.some.inj fy;rw[add_add,<- hb]at iq;exact iq
      ·cases h7
     obtain⟨rs,h5,h6⟩:=Nah len fL
     have hex:∀ i,∃ cs:List Value,∀ ds,rs[i]?=some ds->(∀ j c,cs[j]?=some c->w.cell? (ad.add (i*r.length+j))=some c)/\iZ w r cs ds:=by
      intro i
      cases hi:rs[i]? with
      |none=>exact⟨[],fun ds h=>by cases h⟩
      | some ds =>
       obtain⟨cs,h7,h8⟩:=h6 i ds hi;exact⟨cs,fun ga h=>by obtain rfl:=Option.some.inj h;exact⟨h7,h8⟩⟩
     have hch:∃ cf:Nat->List Value,∀ i ds,rs[i]?=some ds->(∀ j c,(cf i)[j]?=some c->w.cell? (ad.add (i*r.length+j))=some c)/\iZ w r (cf i) ds:=⟨fun i=>(hex i).choose,fun i=>(hex i).choose_spec⟩;obtain⟨cf,u7⟩:=hch
     have hlen:∀ row∈rs,row.length=r.length:=fun row fL=>by
      obtain⟨i,hi⟩:=List.mem_iff_getElem?.1 fL;exact ((u7 i row hi).2.len).2
     refine⟨[.rows r.length rs],_,[],_,[],rfl,rfl,?_,⟨rs,rfl,?_,fun row fL=>?_⟩,rfl,rfl⟩
     ·refine .rows _ ad len cap r.length rs (fun i j=>((cf i)[j]?).getD undef) h5 hc.2.1 (.inr rfl) hlen (fun i row hi j d hj=>?_) (fun i row hi j d hj=>?_)
      ·obtain⟨c,h7,h8⟩:=(u7 i row hi).2.get hj
       refine⟨trivial,?_⟩;rw[(u7 i row hi).1 j c h7,h7];rfl
      ·obtain⟨c,h7,h8⟩:=(u7 i row hi).2.get hj
       rw[h7];exact h8
     ·have:=hw _ (.inl rfl)
      rw[Zb3,Zb3,h3]at this;rw[h5];exact Nat.le_trans (Nat.mul_le_mul_right _ (Nat.le_add_right ..)) this
     ·obtain⟨i,hi⟩:=List.mem_iff_getElem?.1 fL
      exact (u7 i row hi).2.wts
    ·cases h
  ·
   rename_i fs hu;split at ht
   case h_2=>cases ht
   rename_i r hr
   cases hb:Nat.beq r.length (P.cellsOf t) with
   |false=>rw[hb]at ht;cases ht
   | true =>
    rw[hb,cond_true]at ht;simp only[Option.some.injEq]at ht;subst ht;simp only[Acj]at hb;rw[hu]at h;split at h<;>rename_i heq<;>first|(cases heq;done)|skip
    all_goals first|(injection heq with heq;cases heq;done)|skip
    ·rename_i cs0 x0 cs1 fs2
     injection heq with heq
     injection heq with heq
     subst heq;split at h
     case isFalse=>cases h
     rename_i hc;simp only[Zbz,Prod.mk.injEq]at h;obtain⟨xs,h1,rfl,rfl⟩:=h;simp only[DataW.weights,hu]at hw
     obtain⟨ds,h2⟩:=Ga4 (w:=w) (cs:=cs0) (f:=fun fd l=>DataW.trod enc P w 0 sp held fuel fd.type l) (rec:=Jaz P n)
      (fun fd r l y hr' hy yx=>Dan n fuel hr' (x:=y.1) (ps:=y.2) hy yx) hr h1 hw (by omega)
     exact⟨ds,by simpa using h2⟩
    ·exact ((by assumption:∀ (a7d:Array Field),some (TypeDesc.struct fs)=some (TypeDesc.struct a7d)->False) fs rfl).elim
  ·cases ht
open Go.ChangeShapes Go.RowKit
def Abx:Ty->LS
 |.sl _ _=>.fz false
 |_=>.sc
def Kb5 (P:Program)(t:TypeId):Bool:=match P.underlying t with
 |some (.struct _)=>true
 |_=>false
def oO (P:Program):List TypeId->Option (List (Bool×List LS)×List Ty)
 |[]=>some ([],[])
 | t :: ts => match Jaz P 12 t, oO P ts with
  |some r,some (ps,gm)=>some ((Kb5 P t,r.map Abx)::ps,r++gm)
  |_,_=>none
def Rb1:Gh:=⟨fun _=>.frz,fun _=>undef,fun _=>⟨0,0,none⟩⟩
theorem Cby:∀ (gm:List Ty),Ya6 (gm.map Abx)=gm.length/\kC (gm.map Abx)=0
 |[]=>⟨rfl,rfl⟩
 | t :: gm => by
  obtain⟨h1,h2⟩:=Cby gm;cases t<;>simp[Ya6,kC,Abx,LS.cnt,LS.rcnt,h1,h2]<;>omega
theorem Fan {w:World}{ρ:List D}:∀ {gm:List Ty} {cs:List Value} {ds:List D} {i:Nat},iZ w gm cs ds->(∀ j d,ds[j]?=some d->(aK.v (i+j)).val ρ=d)->sU Rb1 w ρ 0 i 0 (gm.map Abx) cs
 |[],cs,ds,i,h,_=>by obtain⟨rfl,rfl⟩:=h;rfl
 | t :: gm, cs, ds, i, h, hv => by
  obtain⟨c,oE,d,ga,rfl,rfl,h1,h2,h3⟩:=h;have hv0:(aK.v i).val ρ=d:=by have:=hv 0 d rfl;rwa[Ack]at this
  have hr:(Abx t).rcnt=0:=by cases t<;>rfl
  have hc:(Abx t).cnt=1:=by cases t<;>rfl
  refine⟨c,oE,rfl,?_,?_⟩
  ·cases t with
   | int k =>
    obtain⟨n,rfl,-⟩:=h2;simp only[Abx,kS,hv0];exact h1.sc_inv rfl
   | bool =>
    obtain⟨n,rfl⟩:=h2;simp only[Abx,kS,hv0];exact h1.sc_inv rfl
   | str =>
    obtain⟨n,rfl,-⟩:=h2;simp only[Abx,kS,hv0];exact h1.sc_inv rfl
   | sl bytes row =>
    simp only[Abx,kS,hv0];exact⟨h1.mono fun b _=>⟨rfl,rfl⟩,fun e=>absurd e (by decide)⟩
  ·rw[hr,hc]
   refine Fan (i:=i+1) h3 fun j d' hj=>?_
   have:=hv (j+1) d' (by simpa using hj);rwa[show i+(j+1)=i+1+j by omega]at this
theorem Pa8 {P:Program}{W:World}{base:Nat}{n:Nat}{t:TypeId}{gm:List Ty}{v:Value}(h:Jaz P n t=some gm)(hv:Value.okWide P W .any base t v):if Kb5 P t=true then v=.agg v.cells.toList.toArray else v.cells.toList=[v]:=by
 cases n with
 |zero=>simp[Jaz]at h
 | succ n =>
  unfold Value.okWide at hv;unfold Kb5;simp only[Jaz]at h
  cases hu:P.underlying t with
  |none=>rw[hu]at h;cases h
  | some u =>
   rw[hu]at h hv
   cases u with
   | struct fs =>
    obtain⟨cs,rfl,-⟩:=hv;simp[Value.cells]
   | bool =>
    simp only[Cell.okWide,Cell.ok,hu]at hv;cases v<;>simp at hv
    simp[Value.cells]
   | int k =>
    simp only[Cell.okWide,Cell.ok,hu]at hv;cases v<;>simp at hv
    simp[Value.cells]
   | string =>
    simp only[Cell.okWide,Cell.ok,hu]at hv;cases v<;>simp at hv
    simp[Value.cells]
   | slice e =>
    simp only[Cell.okWide,Cell.ok,hu]at hv;cases v<;>simp at hv
    simp[Value.cells]
   |_=>cases h
theorem Laq {P:Program}{H:Type}{enc:TypeId×Value->H}{W:World}{sp:Nat->Bool}{held:Bool}{base:Nat}:∀ {ts:List TypeId} {vs:List Value} {ds:List (DataW H)} {ps:List MemPlace} {sps:List (Bool×List LS)} {gm:List Ty},
  oO P ts=some (sps,gm)->DataW.TrodAll enc P W 0 sp held ts vs ds ps->(∀ (j:Nat) t v,ts[j]?=some t->vs[j]?=some v->Value.okWide P W .any base t v)->(∀ m∈DataW.weightsEach P ts ds,m<=reachBytes) ->
  ∃ dd,WTs gm dd/\dd.length=gm.length/\gm.length=La3 sps/\jH sps=0/\∀ (ρ:List D) (i:Nat),(∀ j d,dd[j]?=some d->(aK.v (i+j)).val ρ=d)->jQ Rb1 W ρ 0 i 0 sps vs
 | [], vs, ds, ps, sps, gm, h, ht, _, _ => by
  simp only[oO,Option.some.injEq,Prod.mk.injEq]at h;obtain⟨rfl,rfl⟩:=h
  cases vs with
  |cons v vs=>cases ds<;>exact ht.elim
  |nil=>exact⟨[],rfl,rfl,rfl,rfl,fun ρ i _=>rfl⟩
 | t :: ts, vs, ds, ps, sps, gm, h, ht, hv, hw => by
  simp only[oO]at h;split at h
  case h_2=>cases h
  rename_i r sps' a27 hr hl;simp only[Option.some.injEq,Prod.mk.injEq]at h;obtain⟨rfl,rfl⟩:=h
  cases vs with
  |nil=>cases ds<;>exact ht.elim
  | cons v vs =>
   cases ds with
   |nil=>exact ht.elim
   | cons d ds =>
    obtain⟨p,q,⟨fuel,h1⟩,h2,rfl⟩:=ht;rw[uS]at hw;obtain⟨dd,h3⟩:=Dan 12 fuel hr h1 fun m hm=>hw m (Zbp _ hm)
    obtain⟨dd',h4,h5,h6,h7,h8⟩:=Laq hl h2 (fun j t' v' hj gR=>hv (j+1) t' v' (by simpa using hj) (by simpa using gR)) fun m hm=>hw m (Zbs _ hm)
    obtain⟨vo,qz⟩:=Cby r;obtain⟨uy,hn2⟩:=h3.len;refine⟨dd++dd',?_,by simp[hn2,h5],by simp only[Zbt,La3,vo,h6],by simp only[jH,qz,h7],fun ρ i dm=>?_⟩
    ·have:∀ {a:List Ty} {x:List D},WTs a x->WTs (a++a27) (x++dd'):=by
      intro a
      induction a with
      |nil=>intro x hx;simp only[WTs]at hx;subst hx;exact h4
      | cons t a ih =>
       intro x hx;simp only[WTs]at hx;obtain⟨y,ys,rfl,xt,xf⟩:=hx;simp only[Bcq,WTs];exact⟨y,_,rfl,xt,ih xf⟩
     exact this h3.wts
    ·refine⟨v,vs,v.cells.toList,rfl,Fan h3 fun j d' hj=>dm j d' (by rw[Zb9 (List.getElem?_eq_some_iff.1 hj).1];exact hj),Pa8 hr (hv 0 t v rfl rfl),?_⟩
     rw[vo,qz];refine h8 ρ (i+r.length) fun j d' hj=>?_
     rw[Acb,<- hn2];exact dm _ _ (by rw[Zb8 (by omega),Acs];exact hj)
theorem Aa8 {P:Program}{H:Type}{enc:TypeId×Value->H}(hl:laidOutB P=true){W W':World}(hb:Below W.heap.size W W'):∀ {ts:List TypeId} {vs:List Value} {ds:List (DataW H)} {ps:List MemPlace},(ts.all fun t=>P.readableRec t&&decide (t<P.types.size))=true ->
  DataW.TrodAll enc P W 0 (fun _=>true) true ts vs ds ps->DataW.TrodAll enc P W' 0 (fun b=>decide (b<W.heap.size)) true ts vs ds ps
 |[],[],[],ps,_,h=>h
 |[],[],_::_,ps,_,h=>h.elim
 |[],_::_,_,ps,_,h=>h.elim
 |_::_,[],_,ps,_,h=>h.elim
 |_::_,_::_,[],ps,_,h=>h.elim
 | t :: ts, v :: vs, d :: ds, ps, hr, h => by
  simp only[List.all_cons,Zbo,decide_eq_true_eq]at hr;obtain⟨p,q,h1,h2,rfl⟩:=h;refine⟨p,q,Below.trod hl hr.1.1 hr.1.2 h1 hb ?_,Aa8 hl hb hr.2 h2,rfl⟩;obtain⟨m,hm⟩:=h1;exact DataW.trod_lt m _ _ _ hm
theorem Xax {P : Program} {X : (Nat -> Ow) -> World -> Prop} {T : Nat -> Ent} {key : Nat} {s : Sig} {fn : Func} {c : Code} (hc : ∀ n, Daj P X T n key s) (hfn : P.funcs[s.fn]? = some fn) (hname : (fn.name == "runtime.NumGoroutine") = false) (hbody : fn.body = some c)
  {gm:List Ty} (nB:oO P fn.params.toList=some (s.params,gm)) (gb:s.boxes=[]) (jh:s.results=[(false,[.sc])]) (hpure:∀ ds,WTs gm ds->∃ n,kE T n key ds=some [.bool true])
  {H:Type} {enc:TypeId×Value->H} {W:World} {base:Nat} {args:Array Value} {ds:List (DataW H)} {ps:List MemPlace}
  (dm:∀ (j:Nat) t v,fn.params[j]?=some t->args[j]?=some v->Value.okWide P W .any base t v) (ht:DataW.TrodAll enc P W 0 (fun _=>true) true fn.params.toList args.toList ds ps)
  (hw:∀ m∈DataW.weightsEach P fn.params.toList ds,m<=reachBytes) (hX:X (fun _=>.frz) W):Calls P s.fn args W fun e W'=>e=.returned (.bool true)/\Below W.heap.size W W':=by
 obtain⟨dd,h1,h2,h3,h4,h5⟩:=Laq (base:=base) nB ht (fun j t v hj hv=>dm j t v (by simpa using hj) (by simpa using hv)) hw;obtain⟨n,hn⟩:=hpure dd h1
 have cN:Dbo s args.toList W Rb1 dd:=by
  refine⟨?_,?_,?_,fun _ _=>rfl,fun b j _ e=>by cases e⟩
  ·rw[gb]
   exact h5 dd 0 fun j d hj=>by simp[aK.val,Zbu,hj]
  ·rw[gb];trivial
  ·rw[h2,h3,gb];rfl
 have fa:=hc n args.toList W Rb1 dd _ cN hX hn;have e:args.toList.toArray=args:=by simp
 rw[e]at fa
 rcases fa with ⟨-,cJ⟩|⟨v,w',hr,-⟩
 ·refine Calls.mono cJ fun en W' he=>?_
  cases en with
  | returned v =>
   obtain⟨G,us,rfl,hF,ej,-⟩:=he;rw[jh]at ej;obtain⟨u,da,vs,rfl,hl,pg,eR⟩:=ej;simp only[Mab]at eR;subst eR;simp only[Zbr,if_false]at pg;subst pg;obtain⟨u',us2,e2,jq,-⟩:=hl;obtain⟨rfl,rfl⟩:=List.cons.inj e2;simp only[lW]at jq
   have hu:u=.bool true:=by
    have:([D.bool true].getD 0 .undef)=D.bool true:=rfl;rw[this]at jq;exact jq.bool_inv
   subst hu;exact⟨rfl,hF.os,hF.tape,hF.output,hF.size,fun k hk=>(hF.keep k hk (.inl rfl)).1⟩
  |panicked c=>exact he.elim
  |outgrown=>exact he.elim
 ·rw[fU hfn hname hbody]at hr
  cases hr
theorem Ab4 {P : Program} {T : Nat -> Ent} {key : Nat} {s : Sig} {fn : Func} {c : Code} (hc : ∀ n, uR P T n key s) (hfn : P.funcs[s.fn]? = some fn) (hname : (fn.name == "runtime.NumGoroutine") = false) (hbody : fn.body = some c)
  {gm:List Ty} (nB:oO P fn.params.toList=some (s.params,gm)) (gb:s.boxes=[]) (jh:s.results=[(false,[.sc])]) (hpure:∀ ds,WTs gm ds->∃ n,kE T n key ds=some [.bool true])
  {H:Type} {enc:TypeId×Value->H} {W:World} {base:Nat} {args:Array Value} {ds:List (DataW H)} {ps:List MemPlace}
  (dm:∀ (j:Nat) t v,fn.params[j]?=some t->args[j]?=some v->Value.okWide P W .any base t v) (ht:DataW.TrodAll enc P W 0 (fun _=>true) true fn.params.toList args.toList ds ps)
  (hw:∀ m∈DataW.weightsEach P fn.params.toList ds,m<=reachBytes):Calls P s.fn args W fun e W'=>e=.returned (.bool true)/\Below W.heap.size W W' :=
 Xax (X:=fun _ _=>True) (fun n vals w G ds ga hp _ h=>hc n vals w G ds ga hp h) hfn hname hbody nB gb jh hpure dm ht hw trivial
open Go.ChangeShapes Go.RowKit in
theorem Xaw {C : Checked} {spec : ChangeSpec} {T : Nat -> Ent} {key : Nat} {s : Sig} {fn : Func} {c : Code} {conds : List PathCond} (own : ownKnob C.prog.godebug = none) (laid : laidOutB C.prog = true) (hc : ∀ n, uR C.prog T n key s) (hfn : C.prog.funcs[s.fn]? = some fn) (hname : (fn.name == "runtime.NumGoroutine") = false) (hbody : fn.body = some c)
  {gm:List Ty} (nB:oO C.prog fn.params.toList=some (s.params,gm)) (gb:s.boxes=[]) (jh:s.results=[(false,[.sc])]) (hpure:∀ ds,WTs gm ds->∃ n,kE T n key ds=some [.bool true])
  (a1w:(fn.params.toList.all fun t=>C.prog.readableRec t&&decide (t<C.prog.types.size))=true) {rt:TypeId} (oR:fn.resultTypes=#[rt]) (hrb:C.prog.underlying rt=some .bool)
  (ub:spec.vars=[]) (a2m:∀ (H:Type) (ds:List (DataW H)),ds.length=fn.params.size->spec.fn H ds={ results:=[.lit (.bool true)],args:=ds,vars:=[] }) (a1s:C.prog.inits.idxOf? s.fn=none)
  (os:Os) (started:os.Started) (H:Type) (enc:TypeId×Value->H)
  (witness:∃ (w:World) (tape:Tape) (i:Input),w.os=os/\(w.forCall tape i).Shaped C.prog/\i.vars=[]/\Input.okWide C.prog (w.forCall tape i) .any w.heap.size s.fn i /\
   spec.pre6 enc C.prog fn conds false (w.forCall tape i).memory i.args/\({}:Assume).holds C.prog (lone (Frame.enter C.prog s.fn i.args .normal) [] (w.forCall tape i))) :
  ReturnsInHanded {} C os s.fn .any (spec.pre6 enc C.prog fn conds false) (spec.post enc C.prog fn false true false false):=by
 refine returnsInHanded_of_change_sized own started a1s hfn witness ?_;intro W base args ds gs before dm hW _ df _;have hW':=hW;obtain⟨p,q,hA,hV,rfl,mT,qy⟩:=hW;rw[ub]at hV;obtain⟨rfl,rfl⟩:=trodVars_none hV
 have hvt:spec.plain.varTypes C.prog=[]:=by
  simp[ChangeSpec.plain,DataSpec.varTypes,ub]
 rw[hvt,Acf,Acf]at df
 have hlen:∀ {ts:List TypeId} {vs:List Value} {ds:List (DataW H)} {ps:List MemPlace},DataW.TrodAll enc C.prog W 0 (fun _=>true) true ts vs ds ps->ds.length=ts.length:=by
  intro ts
  induction ts with
  | nil =>
   intro vs ds ps h;cases vs<;>cases ds<;>first|rfl|exact h.elim
  | cons t ts ih =>
   intro vs ds ps h;cases vs<;>cases ds<;>first|exact h.elim|skip
   obtain⟨p,q,-,h2,-⟩:=h;simp[ih h2]
 have hl:=hlen hA;refine (Ab4 hc hfn hname hbody nB gb jh hpure dm hA (fun m hm=>?_)).mono fun e W' ⟨he,bel⟩=>?_
 ·rw[Acd]at df
  simpa using df m hm
 ·subst he
  have jd:=a2m H (ds++[]) (by simpa using hl);refine⟨_,rfl,ds,[],_,[],p,[],hW',?_,?_,?_,bel.frame _,fun h=>by cases h⟩
  ·rw[jd,oR]
   exact trodAll_mk1 (shut_bool hrb _)
  ·rw[jd]
   simp only[Acf];exact Aa8 laid bel a1w hA
  ·rw[jd,ub]
   rfl
end Go.Proofs.YtcbkmmhkccnamaaGreat.Rf
namespace Go.Proofs.YtcbkmmhkccnamaaGreat.Rf
def jS:List (Nat×TI)->Nat->Option TI
 |[],_=>none
 |(k,i)::r,t=>bif Nat.beq k t then some i else jS r t
theorem Uap {P:Program}:∀ {l:List (Nat×TI)},(∀ p∈l,pY P p.1=some p.2)->vJ P (jS l)
 |[],_=>⟨fun t i h=>by cases h⟩
 | (k, i) :: r, h => ⟨fun t j ht => by
  simp only[jS]at ht
  cases hb:Nat.beq k t with
  | true =>
   rw[hb,cond_true]at ht;simp only[Acj]at hb;subst hb;rw[<- ht];exact h (k,i) Zb5
  | false =>
   rw[hb,cond_false]at ht;exact (Uap fun p hp=>h p (Zby _ hp)).ok t j ht⟩
def Rag:List (Nat×Ent)->Nat->Ent
 |[],_=>.none
 |(k,e)::r,t=>bif Nat.beq k t then e else Rag r t
theorem Va2 {P:Program}{T:Nat->Ent}{ti:Nat->Option TI}{sigs:List (Nat×Sig)}(h:∀ p∈sigs,Sag P T ti sigs p.1 p.2):∀ key s,(key,s)∈sigs->Sag P T ti sigs key s:=fun key s hm=>h (key,s) hm
theorem Bb1 {P : Program} {T : Nat -> Ent} {E : Env} {key : Nat} {s : Sig} {fn : Func} {tm : Tm Unit} (h1 : P.funcs[s.fn]? = some fn) (h2 : (fn.name == "runtime.NumGoroutine") = false) (h3 : Wa8 E s fn = some tm) (h4 : T key = .tm tm) : Sag P T E.ti E.sigs key s :=
 .inl ⟨E,fn,tm,rfl,rfl,h1,h2,h3,h4⟩
theorem fnK {P : Program} {T : Nat -> Ent} {E : Env} {key : Nat} {s : Sig} {fn : Func} {tm : Tm Unit} (h1 : P.funcs[s.fn]? = some fn) (h : (fn.name == "runtime.NumGoroutine", Wa8 E s fn, T key) = (false, some tm, .tm tm)) : Sag P T E.ti E.sigs key s :=
 Bb1 h1 (congrArg (·.1) h) (congrArg (·.2.1) h) (congrArg (·.2.2) h)
theorem fc {α:Type}{p:α->Prop}{a:α}{l:List α}(h:p a)(h':∀ x∈l,p x):∀ x∈a::l,p x:=List.forall_mem_cons.2 ⟨h,h'⟩
theorem fc0 {α:Type}{p:α->Prop}:∀ x∈([]:List α),p x:=List.forall_mem_nil _
theorem Jb6 {T:Nat->Ent}{key:Nat}{ds r:List D}(h:Fun T key ds=some r):∃ n,kE T n key ds=some r:=yX.1 h
def apL (e d:Nat):Nat->List Nat
 |0=>[]
 |n+1=>(e-d*(n+1))::apL e d n
abbrev i64 (n:Int):D:=.int .i64 n
theorem wrap_i64 {n:Int}(h1:-9223372036854775808<=n)(h2:n<=9223372036854775807):IntKind.i64.wrap n=n:=IntWalk.i64_in n ⟨h1,h2⟩
section
variable {T:Nat->Ent} {β:Type}
end
theorem Jbs {a b:Int}:(aT.bin .lss).run [i64 a,i64 b]=some [.bool (decide (a<b))]:=by simp[aT.run,Oam,Aan]
theorem Jbu {a b:Int}:(aT.bin .gtr).run [i64 a,i64 b]=some [.bool (decide (a>b))]:=by simp[aT.run,Oam,Aan]
theorem Jbt {a b:Int}:(aT.bin .leq).run [i64 a,i64 b]=some [.bool (decide (a<=b))]:=by simp[aT.run,Oam,Aan]
theorem Jbv {a b:Int}:(aT.bin .geq).run [i64 a,i64 b]=some [.bool (decide (a ≥ b))]:=by simp[aT.run,Oam,Aan]
theorem Jbr {a b:Int}:(aT.bin .neq).run [i64 a,i64 b]=some [.bool (!(a==b))]:=by simp[aT.run,Oam,Aan,bne]
theorem Jbw {a b:Int}:(aT.bin .eql).run [i64 a,i64 b]=some [.bool (a==b)]:=by simp[aT.run,Oam,Aan]
theorem Jbz {a b:Int}(h1:-9223372036854775808<=a+b)(h2:a+b<=9223372036854775807):(aT.bin .add).run [i64 a,i64 b]=some [i64 (a+b)]:=by simp[aT.run,Oam,Aan,wrap_i64 h1 h2]
theorem Sa3 {a b:Int}(h1:-9223372036854775808<=a-b)(h2:a-b<=9223372036854775807):(aT.bin .sub).run [i64 a,i64 b]=some [i64 (a-b)]:=by simp[aT.run,Oam,Aan,wrap_i64 h1 h2]
theorem Jbq {b:Bool}:aT.not.run [.bool b]=some [.bool (!b)]:=rfl
theorem Jbx {a b:Bool}:(aT.eqb true).run [.bool a,.bool b]=some [.bool (!(a==b))]:=rfl
section
variable {T:Nat->Ent}
end
def upto {α:Type}(z:α)(ys:List α)(i:Nat):List α:=ys.take i++Zb6 (ys.length-i) z
theorem Oap {α:Type}(z:α)(ys:List α):upto z ys 0=Zb6 ys.length z:=by simp[upto]
theorem Ual {α:Type}(z:α)(ys:List α):upto z ys ys.length=ys:=by simp[upto]
theorem Uak {α:Type}(z:α)(ys:List α){i:Nat}(h:i<=ys.length):(upto z ys i).length=ys.length:=by simp[upto];omega
theorem Uaj {α:Type}(z:α)(ys:List α){i:Nat}{y:α}(h:ys[i]?=some y):(upto z ys i).set i y=upto z ys (i+1):=by
 have hlt:=(List.getElem?_eq_some_iff.1 h).1;apply List.ext_getElem?;intro j;rw[List.getElem?_set];unfold upto;rw[Zbt,Aci,Ac6];by_cases e:i=j
 ·subst e
  rw[if_pos rfl,if_pos (by omega),Zb9 (by simp;omega),Ac4,if_pos (by omega)];exact h.symm
 ·rw[if_neg e]
  rcases Aca j i with hj|hj
  ·rw[Zb9 (by simp;omega),Zb9 (by simp;omega),Ac4,Ac4,if_pos hj,if_pos (by omega)]
  ·rw[Zb8 (by simp;omega),Zb8 (by simp;omega),Bcy,Bcy]
   simp only[Aci];by_cases h2:j<ys.length
   ·rw[if_pos (by omega),if_pos (by omega)]
   ·rw[if_neg (by omega),if_neg (by omega)]
section
variable {T:Nat->Ent} {β:Type}
noncomputable def Er (T:Nat->Ent)(t:Tm β)(ρ:List D):Option (Kind×List D):=(Ev T t ρ).map fun o=>(o.kind,o.vals)
def Vb1 (r:Kind×List D):Option (List D):=if r.1=.ret then some r.2 else none
def Vb7 {α:Type}(d:D)(a b:Option α):Option α:=match d with
 |.bool true=>a
 |.bool false=>b
 |_=>none
def gdR (d:D)(w:Bool):Bool:=match d with
 |.bool b=>b==w
 |_=>false
theorem Sb7 {f:Nat}{t:Tm Unit}(h:T f=.tm t)(args:List D):Fun T f args=(Er T t args).bind Vb1:=by
 rw[Ob3 h,Er];cases Ev T t args<;>rfl
theorem Lbd (k:Kind)(xs:List aK)(e:β)(ρ:List D):Er T (.leaf k xs e) ρ=some (k,xs.map (·.val ρ)):=by
 rw[Er,Lbb];rfl
noncomputable def stepT (T:Nat->Ent)(k:Tm β)(ρ:List D)(n:Nat)(a:Option (List D)):Option (Kind×List D):=a.bind fun ds=>if ds.length=n then Er T k (ρ++ds) else none
noncomputable def Sbw (T:Nat->Ent)(t e:Tm β)(ρ:List D)(c:D):Option (Kind×List D):=Vb7 c (Er T t ρ) (Er T e ρ)
noncomputable def ltT (T:Nat->Ent)(p:aT)(xs:List aK)(n:Nat)(k:Tm β)(ρ:List D)(w:Bool)(c:D):Option (Kind×List D) :=
 if gdR c w=true then stepT T k ρ n (p.run (xs.map (·.val ρ))) else Er T k (ρ++Zb6 n .undef)
noncomputable def Kbz (T:Nat->Ent)(f:Nat)(xs:List aK)(n:Nat)(os:List aK)(k:Tm β)(ρ:List D)(w:Bool)(c:D):Option (Kind×List D) :=
 if gdR c w=true then stepT T k ρ n (Fun T f (xs.map (·.val ρ))) else Er T k (ρ++(Zb6 (n-os.length) .undef++os.map (·.val ρ)))
theorem Pba (p:aT)(xs:List aK)(n:Nat)(k:Tm β)(ρ:List D):Er T (.lt none p xs n k) ρ=stepT T k ρ n (p.run (xs.map (·.val ρ))):=by
 rw[Er,Ob7,stepT];simp only[gOn,if_true]
 cases p.run (xs.map (·.val ρ)) with
 |none=>rfl
 | some ds =>
  simp only[Zbv];split<;>rfl
theorem Ob9 (a:aK)(w:Bool)(p:aT)(xs:List aK)(n:Nat)(k:Tm β)(ρ:List D):Er T (.lt (some (a,w)) p xs n k) ρ=ltT T p xs n k ρ w (a.val ρ):=by
 rw[Er,Ob7,ltT,stepT];have:gOn ρ (some (a,w))=gdR (a.val ρ) w:=rfl;rw[this]
 cases gdR (a.val ρ) w with
 |false=>rfl
 | true =>
  simp only[if_true]
  cases p.run (xs.map (·.val ρ)) with
  |none=>rfl
  | some ds =>
   simp only[Zbv];split<;>rfl
theorem Ibl (f:Nat)(xs:List aK)(n:Nat)(os:List aK)(k:Tm β)(ρ:List D):Er T (.call none f xs n os k) ρ=stepT T k ρ n (Fun T f (xs.map (·.val ρ))):=by
 rw[Er,Dbm,stepT];simp only[gOn,if_true]
 cases Fun T f (xs.map (·.val ρ)) with
 |none=>rfl
 | some ds =>
  simp only[Zbv];split<;>rfl
theorem Ibk (a:aK)(w:Bool)(f:Nat)(xs:List aK)(n:Nat)(os:List aK)(k:Tm β)(ρ:List D):Er T (.call (some (a,w)) f xs n os k) ρ=Kbz T f xs n os k ρ w (a.val ρ):=by
 rw[Er,Dbm,Kbz,stepT];have:gOn ρ (some (a,w))=gdR (a.val ρ) w:=rfl;rw[this]
 cases gdR (a.val ρ) w with
 |false=>rfl
 | true =>
  simp only[if_true]
  cases Fun T f (xs.map (·.val ρ)) with
  |none=>rfl
  | some ds =>
   simp only[Zbv];split<;>rfl
theorem Pbb (c:aK)(t e:Tm β)(ρ:List D):Er T (.ite c t e) ρ=Sbw T t e ρ (c.val ρ):=by
 rw[Er,Ob8,Sbw]
 cases c.val ρ with
 |bool b=>cases b<;>rfl
 |_=>rfl
noncomputable def nL (T:Nat->Ent)(i:Nat)(k:Tm β)(ρ:List D)(r:Option (Kind×List D)):Option (Kind×List D):=r.bind fun r=>if r.1=.yield i then Er T k (ρ++r.2) else some r
theorem Wax {i:Nat}{k:Tm β}{ρ ds:List D}:nL T i k ρ (some (.yield i,ds))=Er T k (ρ++ds):=by simp[nL]
theorem Zaf {i:Nat}{k:Tm β}{ρ ds:List D}:nL T i k ρ (some (.ret,ds))=some (.ret,ds):=by simp[nL]
theorem Wa0 {i:Nat}{k:Tm β}{ρ ds:List D}:nL T i k ρ (some (.cont,ds))=some (.cont,ds):=by simp[nL]
theorem Fbw {i j:Nat}{k:Tm β}{ρ ds:List D}(h:j≠i):nL T i k ρ (some (.yield j,ds))=some (.yield j,ds):=by simp[nL,h]
theorem Lbe (i:Nat)(t k:Tm β)(ρ:List D):Er T (.bind i t k) ρ=nL T i k ρ (Er T t ρ):=by
 rw[Er,Lbc,nL,Er]
 cases Ev T t ρ with
 |none=>rfl
 | some o =>
  simp only[Zbv,Acz];split<;>rfl
theorem Ibt {t:Tm β}{ρ:List D}{k:Kind}{ds:List D}(h:Er T t ρ=some (k,ds)):∃ o,Ev T t ρ=some o/\o.kind=k/\o.vals=ds:=by
 unfold Er at h
 cases e:Ev T t ρ with
 |none=>rw[e]at h;cases h
 | some o =>
  rw[e,Acz]at h;have:=Option.some.inj h;exact⟨o,rfl,congrArg Prod.fst this,congrArg Prod.snd this⟩
theorem Qad {γ:Type}{body:Tm β}{ρ:List D}(m:γ->Nat)(inv:γ->Prop)(vs:γ->List D)(Q:Kind×List D->Prop)
  (h:∀ c,inv c->∃ r,Er T body (ρ++vs c)=some r/\(r.1=.cont/\(∃ c',inv c'/\m c'<m c/\r.2=vs c')\/r.1≠.cont/\Q r)) :
  ∀ (n:Nat) c,m c<=n->inv c->∀ xs:List aK,xs.map (·.val ρ)=vs c->∃ r,Er T (.loop xs body) ρ=some r/\Q r:=by
 have key:∀ (n:Nat) c,m c<=n->inv c->∃ o,Lp T body ρ (vs c)=some o/\Q (o.kind,o.vals):=by
  intro n
  induction n with
  | zero =>
   intro c hm hc;obtain⟨⟨k,ds⟩,h1,h2⟩:=h c hc;obtain⟨o,h3,rfl,rfl⟩:=Ibt h1
   rcases h2 with ⟨-,c',-,h5,-⟩|⟨h4,h5⟩
   ·omega
   ·exact⟨o,by rw[Kb9,h3,Zbv,if_neg h4],h5⟩
  | succ n ih =>
   intro c hm hc;obtain⟨⟨k,ds⟩,h1,h2⟩:=h c hc;obtain⟨o,h3,rfl,rfl⟩:=Ibt h1
   rcases h2 with ⟨h4,c',h5,h6,h7⟩|⟨h4,h5⟩
   ·obtain⟨o',h8,h9⟩:=ih c' (by omega) h5
    refine⟨o',?_,h9⟩;rw[Kb9,h3,Zbv,if_pos h4];show Lp T body ρ o.vals=_
    rw[show o.vals=vs c' from h7,h8]
   ·exact⟨o,by rw[Kb9,h3,Zbv,if_neg h4],h5⟩
 intro n c hm hc xs hx;obtain⟨o,h1,h2⟩:=key n c hm hc;exact⟨_,by rw[Er,Lba,hx,h1,Acz],h2⟩
end
def nU (ok:Nat->Bool):Nat->Bool
 |0=>true
 |n+1=>nU ok n&&ok n
theorem iX {ok:Nat->Bool}:∀ {n:Nat},nU ok n=true↔∀ i,i<n->ok i=true
 |0=>by simp[nU]
 | n + 1 => by
  simp only[nU,Zbo,iX (n:=n)];constructor
  ·rintro⟨h1,h2⟩ i hi
   rcases Aca i n with h|h
   ·exact h1 i h
   ·obtain rfl:i=n:=by omega
    exact h2
  ·exact fun h=>⟨fun i hi=>h i (by omega),h n (by omega)⟩
theorem Eaq {ok:Nat->Bool}{n:Nat}:nU ok n=false↔∃ i,i<n/\ok i=false:=by
 constructor
 ·intro h
  apply Classical.byContradiction;intro hn
  have:nU ok n=true:=iX.2 fun i hi=>by
   cases e:ok i with
   |true=>rfl
   |false=>exact absurd ⟨i,hi,e⟩ hn
  rw[this]at h;cases h
 ·rintro⟨i,hi,h⟩
  cases e:nU ok n with
  |false=>rfl
  |true=>rw[iX.1 e i hi]at h;cases h
theorem Wam {p q:Nat->Bool}:∀ {n:Nat},nU (fun i=>p i&&q i) n=(nU p n&&nU q n)
 |0=>rfl
 | n + 1 => by
  simp only[nU,Wam (n:=n)];cases nU p n<;>cases nU q n<;>cases p n<;>cases q n<;>rfl
theorem La8 {p q:Nat->Bool}:∀ {n:Nat},(∀ i,i<n->p i=q i)->nU p n=nU q n
 |0,_=>rfl
 |n+1,h=>by simp only[nU,La8 (n:=n) fun i hi=>h i (by omega),h n (by omega)]
section
variable {T:Nat->Ent} {β:Type}
end
theorem Oba {d:D}:aT.id.run [d]=some [d]:=rfl
def inR (x lo hi:Int):Bool:=decide (lo<=x)&&decide (x<=hi)
end Go.Proofs.YtcbkmmhkccnamaaGreat.Rf
