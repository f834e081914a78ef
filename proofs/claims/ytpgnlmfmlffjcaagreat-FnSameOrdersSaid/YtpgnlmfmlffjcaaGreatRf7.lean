/- Terms for oe program's functions, and j9 they are right: part 7 of 9. -/
import Derived.Test.YtpgnlmfmlffjcaaGreatRf6
import Derived.SizedLaws
import Derived.Carry
import Derived.ChangeOld
import Derived.ChangeShapes
import Derived.RowKit
import Derived.IntWalk
open Bool renaming and_eq_true → Qb1, false_eq_true → Qb4
open List renaming mem_append_left → Qb2, getElem?_eq_getElem → Qb3, mem_append_right → Qb5, length_append → Qb6, getD_eq_getElem?_getD → Qb8, getElem?_cons_zero → Qb9, append_assoc → Rba, mem_singleton → Rbb, mem_cons_of_mem → Rbd, length_cons → Rbe, replicate → Rbf, length_map → Rbh, mem_of_getElem? → Rbi, mem_cons_self → Rbj, getElem?_append_right → Rbl, getElem?_append_left → Rbm, length_take → Rbq, getElem?_map → Rbr, append_nil → Rbs, map_cons → Rbt, all_eq_true → Rbu, length_replicate → Rbw, map_nil → Rbz, mem_cons → Rb2, nil_append → Sba, getElem?_take → Sbc, filter_cons → Sbo, cons_append → Sby, mem_append → Sb5, getElem?_replicate → Tba, getElem?_range → Ubg
open Nat renaming le_refl → Rbg, add_assoc → Rbn, lt_or_ge → Rbo, beq_eq → Rbv, add_zero → Rbx, zero_add → Rby, add_sub_cancel_left → Rb1, ble_eq → Sbb
open Option renaming bind_eq_some_iff → Qb0, bind_some → Qb7, map_eq_some_iff → Rbc, map_some → Rb9, getD_some → Sbv
set_option linter.unusedSimpArgs false
set_option linter.unusedVariables false
set_option linter.unnecessarySimpa false
set_option linter.unusedSectionVars false
namespace Go.Proofs.YtpgnlmfmlffjcaaGreat.Rf
section
variable (w:World)
def owC (ad:Addr):Nat->List BO->List Value
 |_,[]=>[]
 |off,s::r=>(match s with | .ow _=>[(w.cell? (ad.add off)).getD undef] | _=>[])++owC ad (off+1) r
def Sa5:LR->Value->List Value
 |.ow _,v=>[v]
 |.bx cs,.pointer (some ad)=>owC w ad 0 cs
 |_,_=>[]
def owL:List LR->List Value->List Value
 |s::ss,v::vs=>Sa5 w s v++owL ss vs
 |_,_=>[]
def owR:List (Bool×List LR)->List Value->List Value
 |(a,ss)::rs,u::us=>owL w ss (if a=true then u.cells.toList else [u])++owR rs us
 |_,_=>[]
def owB (bx:Nat->Addr):Nat->List (Bool×List (BS×BO))->List Value
 |_,[]=>[]
 |b,(ro,cs)::r=>if ro=true then owB bx (b+1) r else owC w (bx b) 0 (cs.map (·.2))++owB bx (b+1) r
end
def Pau:LR->Value->List Addr
 |.bx _,.pointer (some ad)=>[ad]
 |_,_=>[]
def Mal:List LR->List Value->List Addr
 |s::ss,v::vs=>Pau s v++Mal ss vs
 |_,_=>[]
def Ha2:List (Bool×List LR)->List Value->List Addr
 |(a,ss)::rs,u::us=>Mal ss (if a=true then u.cells.toList else [u])++Ha2 rs us
 |_,_=>[]
theorem Va0 (s:LR)(v:Value):(Pau s v).length<=(match s with|.bx _=>1|_=>0):=by
 unfold Pau;split<;>simp
theorem Paw:∀ (ss:List LR) (vs:List Value),(Mal ss vs).length<=bxL ss
 |[],vs=>by simp[Mal]
 |s::ss,[]=>by simp[Mal]
 | s :: ss, v :: vs => by
  have h1:=Va0 s v;have h2:=Paw ss vs;simp only[Mal,Qb6];cases s<;>simp only[bxL]at *<;>omega
theorem Pav:∀ (rs:List (Bool×List LR)) (us:List Value),(Ha2 rs us).length<=jU rs
 |[],us=>by simp[Ha2]
 |(a,ss)::rs,[]=>by simp[Ha2]
 | (a, ss) :: rs, u :: us => by
  have h1:=Paw ss (if a=true then u.cells.toList else [u]);have h2:=Pav rs us;simp only[Ha2,Qb6,jU];omega
def Qa6:List BO->Bool
 |[]=>true
 |.ow _::_=>false
 |_::r=>Qa6 r
section
variable {E:Env} {F:bE} {σ cd:Nat->Option aP} {ρ:List D} {a:Act} {w w':World} {G G':Gh} {s:Sig} {Z:Take} {gd:Bool} {nr nb y0:Nat} {hs:List Value} {adn:Addr} {ds:List D}
def Pa0 (ρ:List D)(l:List Step):Prop:=∀ m y,.prim (.dep m) [.v y] 0∈l->nT m ((aI.v y).val ρ)=true
structure Aft (E:Env) (F:bE) (σ cd:Nat->Option aP) (ρ:List D) (a:Act) (w:World) (G:Gh) (s:Sig) (Z:Take) (G':Gh) (w':World) (y0:Nat) (ds:List D):Prop where
 B:Pa1 E F σ ρ a w G s Z G' w'
 val:∀ i,i<ds.length->(aI.v (y0+i)).val ρ=ds.getD i .undef
 known:∀ z∈Z.deps,iJ cd z.1 z.2
def UOk (pD:Nat->Prop)(cd:Nat->Option aP)(ρ:List D)(G2:Gh)(w':World)(nr nb y0:Nat)(u:List (Nat×aP)):Prop :=
 ∀ k c,(k,c)∈u->(∃ q m i,k=kR (nr+q)/\c=.root (.v (y0+i)) m 0 .live/\Rp G2.own w' (nr+q) [] m (G2.hdr (nr+q)) ((aI.v (y0+i)).val ρ)) \/
  (k=kB nb/\∃ ls,c=.box false ls/\Kam cd ρ G2 w' nb false ls/\pD (G2.bx nb).block)
theorem UOk.append {pD:Nat->Prop}{G2:Gh}{u v:List (Nat×aP)}(h:UOk pD cd ρ G2 w' nr nb y0 u)(h':UOk pD cd ρ G2 w' nr nb y0 v):UOk pD cd ρ G2 w' nr nb y0 (u++v):=fun k c hc=>(List.mem_append.1 hc).elim (h k c) (h' k c)
def UIn (cd:Nat->Option aP)(nr:Nat)(u:List (Nat×aP)):Prop:=∀ k c,(k,c)∈u->(cd k).isSome/\∀ q,k=kR (nr+q)->q<bP
theorem UIn.left {u v:List (Nat×aP)}(h:UIn cd nr (u++v)):UIn cd nr u:=fun k c hc=>h k c (Qb2 _ hc)
theorem UIn.right {u v:List (Nat×aP)}(h:UIn cd nr (u++v)):UIn cd nr v:=fun k c hc=>h k c (Qb5 _ hc)
theorem Xa8 {own':Nat->Ow}{q:Nat}(hq:q<bP){v:Value}(hv:hs[q]?=some v):(eQ gd ρ G w s Z nr nb own' hs adn).hdr (nr+q)=v:=by
 simp only[eQ];rw[if_pos ⟨by omega,by omega⟩,Rb1,Qb8,hv];rfl
variable (A:Aft E F σ cd ρ a w G s Z G' w' y0 ds)
include A
theorem Va1 {i q off:Nat}{t:BO}{v:Value}(h:Dap G'.own w' ds i q t v)(hi:i<ds.length)(cE:Z.deps=[]\/∀ m,t=.ow m->nT m ((aI.v (y0+i)).val ρ)=true)
  (cR:gd=false\/∀ m,t≠.ow m) (hh:∀ m,t=.ow m->hs[q]?=some v) (hu:UIn cd nr (iX Z.deps (y0+i) (nr+q) t).2.1) :
  (iX Z.deps (y0+i) (nr+q) t).2.2=nr+q+t.q/\aB cd ρ (eQ gd ρ G w s Z nr nb G'.own hs adn) w' (iX Z.deps (y0+i) (nr+q) t).1 v/\UOk (fun b=>¬ (b<w.heap.size/\Lau ((callG ρ G w s Z).own b)=false)) cd ρ (eQ gd ρ G w s Z nr nb G'.own hs adn) w' nr nb y0 (iX Z.deps (y0+i) (nr+q) t).2.1:=by
 cases t with
 | sc =>
  refine⟨rfl,?_,by simp[UOk,iX]⟩;simp only[iX,aB];rw[A.val i hi];exact h
 | fz =>
  refine⟨rfl,?_,by simp[UOk,iX]⟩;simp only[iX,aB];simp only[Dap]at h;rw[A.val i hi];exact⟨⟨h.one,A.known⟩,fun _=>⟨A.B.rd h,fun e=>absurd e (by decide),trivial⟩⟩
 | ow m =>
  have hg:gd=false:=cR.resolve_right fun e=>e m rfl
  simp only[Dap]at h;have fx:=hu (kR (nr+q)) _ (by simp only[iX];exact List.mem_singleton.2 rfl);have ug:=Xa8 (gd:=gd) (ρ:=ρ) (G:=G) (w:=w) (s:=s) (Z:=Z) (nr:=nr) (nb:=nb) (adn:=adn) (own':=G'.own) (fx.2 q rfl) (hh m rfl);have pz:Z.deps=[]\/nT m (ds.getD i .undef)=true:=cE.imp id fun e=>by rw[<- A.val i hi];exact e m rfl
  have cA:=A.B.give (gd:=gd) (nr:=nr) (nb:=nb) (hs:=hs) (adn:=adn) h pz hg (fx.2 q rfl);refine⟨rfl,?_,?_⟩
  ·simp only[iX,aB]
   exact⟨ug.symm,fx.1,h.one⟩
  ·intro k c hc
   simp only[iX,Rbb,Prod.mk.injEq]at hc;refine .inl ⟨q,m,i,hc.1,hc.2,?_⟩;rw[ug,A.val i hi];exact cA
 | dead =>
  refine⟨rfl,?_,by simp[UOk,iX]⟩;simp only[iX,aB];exact h
theorem zZ:∀ {cs:List BO} {i q off:Nat} {ad:Addr},Caf G'.own w' ds ad off i q cs->i+cs.length<=ds.length->(Z.deps=[]\/Pa0 ρ (mQ (y0+i) cs))->(gd=false\/Qa6 cs=true) ->
  (∀ j v,(owC w' ad off cs)[j]?=some v->hs[q+j]?=some v)->UIn cd nr (dD Z.deps (y0+i) (nr+q) cs).2.1 ->
  (dD Z.deps (y0+i) (nr+q) cs).2.2=nr+q+qC cs/\(dD Z.deps (y0+i) (nr+q) cs).1.length=cs.length/\(owC w' ad off cs).length=qC cs /\
  (∀ j l,(dD Z.deps (y0+i) (nr+q) cs).1[j]?=some l->∃ v,w'.cell? (ad.add (off+j))=some v/\w'.frozen? (ad.add (off+j))=false/\aB cd ρ (eQ gd ρ G w s Z nr nb G'.own hs adn) w' l v) /\
  UOk (fun b=>¬ (b<w.heap.size/\Lau ((callG ρ G w s Z).own b)=false)) cd ρ (eQ gd ρ G w s Z nr nb G'.own hs adn) w' nr nb y0 (dD Z.deps (y0+i) (nr+q) cs).2.1
 |[],i,q,off,ad,_,_,_,_,_,_=>⟨rfl,rfl,rfl,by simp[dD],by simp[UOk,dD]⟩
 | t :: cs, i, q, off, ad, h, hi, cE, cR, hh, hu => by
  obtain⟨⟨v,h1,h2,h3⟩,h4⟩:=h;simp only[Rbe]at hi;simp only[dD]at hu;have hlen:∀ t:BO,(match t with|.ow _=>[(w'.cell? (ad.add off)).getD undef]|_=>([]:List Value)).length=t.q:=fun t=>by cases t<;>rfl
  have hb:=Va1 A (gd:=gd) (nr:=nr) (nb:=nb) (hs:=hs) (adn:=adn) (off:=off) h3 (by omega) (cE.imp id fun e m hm=>e m _ (by subst hm;simp only[mQ];exact Rbj))
   (cR.imp id fun e m hm=>by subst hm;simp[Qa6]at e) (fun m hm=>by
    subst hm;have:=hh 0 v (by simp[owC,h1]);simpa using this) hu.left
  obtain⟨h5,h6,h7⟩:=hb
  have bd:=zZ (cs:=cs) (i:=i+1) (q:=q+t.q) (off:=off+1) (ad:=ad) h4 (by omega) (cE.imp id fun e m y hm=>e m y (by
    cases t with
    |ow m'=>simp only[mQ];exact Rbd _ hm
    |_=>exact hm)) (cR.imp id fun e=>by cases t<;>simp[Qa6]at e ⊢<;>exact e) (fun j x hj=>by
    have:=hh (t.q+j) x (by
     simp only[owC];rw[Rbl (by rw[hlen];omega),hlen,Rb1];exact hj)
    rwa[<- Rbn]at this) (by
    have:=hu.right;rw[h5]at this;rw[<- Rbn,<- Rbn];exact this)
  rw[<- Rbn,<- Rbn]at bd;obtain⟨h8,h9,bo,b9,cL⟩:=bd;simp only[dD];rw[h5];refine⟨by rw[h8];simp only[qC];omega,by simp[h9],by simp only[owC,Qb6,hlen,bo,qC],fun j l hj=>?_,h7.append cL⟩
  cases j with
  | zero =>
   simp only[Qb9,Option.some.injEq]at hj;subst hj;exact⟨v,h1,h2,h6⟩
  | succ j =>
   obtain⟨v',fp,gj,ij⟩:=b9 j l (by simpa using hj);rw[show off+(j+1)=off+1+j by omega];exact⟨v',fp,gj,ij⟩
theorem Qay (qd:cd (kB nb)=none\/True){i q:Nat}{t:LR}{v:Value}(h:kW G'.own w' ds s.boxes.length i q t v)(hi:i+t.n<=ds.length)(cE:Z.deps=[]\/Pa0 ρ (Ra2 (y0+i) [t]))
  (cR:gd=false\/bxL [t]=0) (hh:∀ j x,(Sa5 w' t v)[j]?=some x->hs[q+j]?=some x) (oc:∀ ad∈Pau t v,ad=adn) (hu:UIn cd nr (bW gd Z.deps nb (y0+i) (nr+q) t).2.1) :
  (bW gd Z.deps nb (y0+i) (nr+q) t).2.2=nr+q+t.q/\(Sa5 w' t v).length=t.q/\aB cd ρ (eQ gd ρ G w s Z nr nb G'.own hs adn) w' (bW gd Z.deps nb (y0+i) (nr+q) t).1 v/\UOk (fun b=>¬ (b<w.heap.size/\Lau ((callG ρ G w s Z).own b)=false)) cd ρ (eQ gd ρ G w s Z nr nb G'.own hs adn) w' nr nb y0 (bW gd Z.deps nb (y0+i) (nr+q) t).2.1:=by
 cases t with
 | sc =>
  refine⟨rfl,by cases v<;>rfl,?_,by simp[UOk,bW]⟩;simp only[LR.n]at hi;simp only[bW,aB];rw[A.val i (by omega)];exact h
 | fz =>
  refine⟨rfl,by cases v<;>rfl,?_,by simp[UOk,bW]⟩;simp only[LR.n]at hi;simp only[kW]at h;simp only[bW,aB];rw[A.val i (by omega)];exact⟨⟨h.one,A.known⟩,fun _=>⟨A.B.rd h,fun e=>absurd e (by decide),trivial⟩⟩
 | ow m =>
  simp only[LR.n]at hi;simp only[kW]at h
  cases gd with
  | true =>
   refine⟨rfl,rfl,?_,by simp[UOk,bW]⟩;simp only[bW,cond_true,aB];rw[A.val i (by omega)];exact⟨⟨h.one,A.known⟩,fun _=>⟨A.B.giveGd h rfl,fun e=>absurd e (by decide),trivial⟩⟩
  | false =>
   have fx:=hu (kR (nr+q)) _ (by simp only[bW,cond_false];exact List.mem_singleton.2 rfl);have ug:=Xa8 (gd:=false) (ρ:=ρ) (G:=G) (w:=w) (s:=s) (Z:=Z) (nr:=nr) (nb:=nb) (adn:=adn) (own':=G'.own) (fx.2 q rfl) (hh 0 v rfl)
   have pz:Z.deps=[]\/nT m (ds.getD i .undef)=true:=cE.imp id fun e=>by
    rw[<- A.val i (by omega)];exact e m _ (by simp only[Ra2];exact Rbj)
   have cA:=A.B.give (gd:=false) (nr:=nr) (nb:=nb) (hs:=hs) (adn:=adn) h pz rfl (fx.2 q rfl);refine⟨rfl,rfl,?_,?_⟩
   ·simp only[bW,cond_false,aB]
    exact⟨ug.symm,fx.1,h.one⟩
   ·intro k c hc
    simp only[bW,cond_false,Rbb,Prod.mk.injEq]at hc;refine .inl ⟨q,m,i,hc.1,hc.2,?_⟩;rw[ug,A.val i (by omega)];exact cA
 | rp z =>
  refine⟨rfl,by cases v<;>rfl,?_,by simp[UOk,bW]⟩;simp only[LR.n]at hi;simp only[kW]at h;simp only[bW,aB];rw[A.val i (by omega)];refine⟨⟨h.1,A.known⟩,fun _=>?_⟩
  rcases h.2 with h1|⟨ad,row,h1,h2,h3⟩
  ·exact .inl h1
  ·exact .inr ⟨ad,row,h1,h2,A.B.rd h3⟩
 | bx cs =>
  have hg:gd=false:=cR.resolve_right fun e=>by simp[bxL]at e
  simp only[LR.n]at hi;simp only[kW]at h;obtain⟨ad,rfl,h1,h2,h3⟩:=h;have a2v:ad=adn:=oc ad (by simp[Pau]);simp only[bW]at hu;have hu':UIn cd nr (dD Z.deps (y0+i) (nr+q) cs).2.1:=fun k c hc=>hu k c (Rbd _ hc)
  obtain⟨h4,h5,h6,h7,h8⟩:=zZ A (gd:=gd) (nb:=nb) (hs:=hs) (adn:=adn) h3 hi (cE.imp id fun e m y hm=>e m y (by simp only[Ra2];exact Qb2 _ hm)) (.inl hg) hh hu';have jb:=(hu (kB nb) _ Rbj).1
  have cT:(eQ gd ρ G w s Z nr nb G'.own hs adn).bx nb=ad:=by
   simp only[eQ,if_pos trivial];exact a2v.symm
  have sj:¬ (ad.block<w.heap.size/\Lau ((callG ρ G w s Z).own ad.block)=false):=by
   ·rintro⟨hb,dj⟩
    cases gR:(callG ρ G w s Z).own ad.block with
    |frz=>have:=(A.B.keep hb (.inl gR)).2;rw[h2,gR]at this;cases this
    |oth=>have:=(A.B.keep hb (.inr gR)).2;rw[h2,gR]at this;cases this
    |slc _ _=>rw[gR]at dj;cases dj
    | box j =>
     have:=(A.B.hF.boxes ad.block j hb gR).1;rw[h2]at this
     injection this with this
     have hgc:∃ c,Qav Z.ptrs c 0 s.boxes=some j:=by
      simp only[callG]at gR
      cases wu:G.own ad.block with
      | box c =>
       rw[wu]at gR;dsimp only at gR;split at gR
       ·rename_i x hx
        split at gR
        ·injection gR with gR
         exact⟨c,by rw[hx,gR]⟩
        ·cases gR
       ·cases gR
      | slc r p =>
       rw[wu]at gR;dsimp only at gR
       rcases Faa (ρ:=ρ) (dr:=Z.deps.map (·.1)) (r:=r) (p:=p) Z.rts 0 with ⟨_,_,e⟩|e|e<;>rw[e]at gR<;>cases gR
      |frz=>rw[wu]at gR;cases gR
      |oth=>rw[wu]at gR;cases gR
     obtain⟨c,hc⟩:=hgc;obtain⟨j',ke,gk,e1,e2,-⟩:=Ea8 hc;have:=(List.getElem?_eq_some_iff.1 e2).1;omega
  have ab:(eQ gd ρ G w s Z nr nb G'.own hs adn).own ad.block=.box nb:=by
   simp only[eQ];rw[if_neg sj,h2];simp[tJ]
  refine⟨?_,?_,?_,?_⟩
  ·simp only[bW];exact h4
  ·simp only[Sa5];exact h6
  ·simp only[bW,aB]
   exact⟨by rw[cT];rfl,jb⟩
  ·simp only[bW]
   intro k c hc
   rcases List.mem_cons.1 hc with hc|hc
   ·obtain⟨rfl,rfl⟩:=Prod.mk.inj hc
    refine .inr ⟨rfl,_,rfl,⟨by rw[cT];exact h1,by rw[cT,ab];rfl,fun j l hj=>?_⟩,by rw[cT];exact sj⟩;rw[cT];have:=h7 j l hj;rwa[Rby]at this
   ·exact h8 k c hc
theorem Aaz:∀ {ss:List LR} {i q:Nat} {vs:List Value},oD G'.own w' ds s.boxes.length i q ss vs->i+lY ss<=ds.length->(Z.deps=[]\/Pa0 ρ (Ra2 (y0+i) ss)) ->
  (gd=false\/bxL ss=0)->(∀ j x,(owL w' ss vs)[j]?=some x->hs[q+j]?=some x)->(∀ ad∈Mal ss vs,ad=adn)->UIn cd nr (cK gd Z.deps nb (y0+i) (nr+q) ss).2.1 ->
  (cK gd Z.deps nb (y0+i) (nr+q) ss).2.2=nr+q+qL ss/\(owL w' ss vs).length=qL ss/\aD cd ρ (eQ gd ρ G w s Z nr nb G'.own hs adn) w' (cK gd Z.deps nb (y0+i) (nr+q) ss).1 vs/\UOk (fun b=>¬ (b<w.heap.size/\Lau ((callG ρ G w s Z).own b)=false)) cd ρ (eQ gd ρ G w s Z nr nb G'.own hs adn) w' nr nb y0 (cK gd Z.deps nb (y0+i) (nr+q) ss).2.1
 | [], i, q, vs, h, _, _, _, _, _, _ => by
  simp only[oD]at h;subst h;exact⟨rfl,rfl,by simp[cK,aD],by simp[UOk,cK]⟩
 | t :: ss, i, q, vs, h, hi, cE, cR, hh, oc, hu => by
  obtain⟨u,us,rfl,h1,h2⟩:=h;simp only[lY]at hi;simp only[cK]at hu
  obtain⟨h3,h4,h5,h6⟩:=Qay A (gd:=gd) (nb:=nb) (hs:=hs) (adn:=adn) (.inr trivial) h1 (by omega) (cE.imp id fun e m y hm=>e m y (by
    cases t with
    |ow m'=>simp only[Ra2,Rbb]at hm ⊢;rw[hm];exact Rbj
    |bx cs=>simp only[Ra2,Rbs]at hm ⊢;exact Qb2 _ hm
    |_=>simp[Ra2]at hm))
   (cR.imp id fun e=>by cases t<;>simp only[bxL]at e ⊢<;>omega) (fun j x hj=>hh j x (by
    simp only[owL];rw[Rbm (List.getElem?_eq_some_iff.1 hj).1];exact hj))
   (fun ad hm=>oc ad (by simp only[Mal];exact Qb2 _ hm)) hu.left
  have bd:=Aaz (ss:=ss) (i:=i+t.n) (q:=q+t.q) h2 (by omega) (cE.imp id fun e m y hm=>e m y (by
    cases t with
    |ow m'=>simp only[Ra2];exact Rbd _ hm
    |bx cs=>simp only[Ra2];rw[Rbn];exact Qb5 _ hm
    |_=>exact hm)) (cR.imp id fun e=>by cases t<;>simp only[bxL]at e<;>omega) (fun j x hj=>by
    have:=hh (t.q+j) x (by
     simp only[owL];rw[Rbl (by rw[h4];omega),h4,Rb1];exact hj)
    rwa[<- Rbn]at this) (fun ad hm=>oc ad (by simp only[Mal];exact Qb5 _ hm)) (by
    have:=hu.right;rw[h3]at this;rw[<- Rbn,<- Rbn];exact this)
  rw[<- Rbn,<- Rbn]at bd;obtain⟨h7,h8,h9,bo⟩:=bd;simp only[cK];rw[h3];refine⟨by rw[h7];simp only[qL];omega,by simp only[owL,Qb6,h4,h8,qL],?_,h6.append bo⟩;simp only[aD];exact⟨u,us,rfl,h5,h9⟩
theorem Jak:∀ {rs:List (Bool×List LR)} {i q:Nat} {us:List Value},Kak G'.own w' ds s.boxes.length i q rs us->i+bH rs<=ds.length->(Z.deps=[]\/Pa0 ρ (Zaf (y0+i) rs)) ->
  (gd=false\/jU rs=0)->(∀ j x,(owR w' rs us)[j]?=some x->hs[q+j]?=some x)->(∀ ad∈Ha2 rs us,ad=adn)->UIn cd nr (iI gd Z.deps nb (y0+i) (nr+q) rs).2.1 ->
  (iI gd Z.deps nb (y0+i) (nr+q) rs).2.2=nr+q+qR rs/\(owR w' rs us).length=qR rs/\gT cd ρ (eQ gd ρ G w s Z nr nb G'.own hs adn) w' (iI gd Z.deps nb (y0+i) (nr+q) rs).1 us/\UOk (fun b=>¬ (b<w.heap.size/\Lau ((callG ρ G w s Z).own b)=false)) cd ρ (eQ gd ρ G w s Z nr nb G'.own hs adn) w' nr nb y0 (iI gd Z.deps nb (y0+i) (nr+q) rs).2.1
 | [], i, q, us, h, _, _, _, _, _, _ => by
  simp only[Kak]at h;subst h;exact⟨rfl,rfl,rfl,by simp[UOk,iI]⟩
 | (ag, ss) :: rs, i, q, us, h, hi, cE, cR, hh, oc, hu => by
  obtain⟨u,bn,vs,rfl,h1,h2,h3⟩:=h;simp only[bH]at hi;simp only[iI]at hu
  have gx:(if ag=true then u.cells.toList else [u])=vs:=by
   cases ag with
   | true =>
    simp only[if_true]at h2 ⊢;rw[h2];simp[Value.cells]
   |false=>simp only[Qb4,if_false]at h2 ⊢;exact h2.symm
  obtain⟨h4,h5,h6,h7⟩:=Aaz A (gd:=gd) (nb:=nb) (hs:=hs) (adn:=adn) h1 (by omega) (cE.imp id fun e m y hm=>e m y (by simp only[Zaf];exact Qb2 _ hm))
   (cR.imp id fun e=>by simp only[jU]at e;omega) (fun j x hj=>hh j x (by
    simp only[owR,gx];rw[Rbm (List.getElem?_eq_some_iff.1 hj).1];exact hj))
   (fun ad hm=>oc ad (by simp only[Ha2,gx];exact Qb2 _ hm)) hu.left
  have bd:=Jak (rs:=rs) (i:=i+lY ss) (q:=q+qL ss) h3 (by omega) (cE.imp id fun e m y hm=>e m y (by
    simp only[Zaf];rw[Rbn]
    exact Qb5 _ hm)) (cR.imp id fun e=>by simp only[jU]at e;omega) (fun j x hj=>by
    have:=hh (qL ss+j) x (by
     simp only[owR,gx];rw[Rbl (by rw[h5];omega),h5,Rb1];exact hj)
    rwa[<- Rbn]at this) (fun ad hm=>oc ad (by simp only[Ha2];exact Qb5 _ hm)) (by
    have:=hu.right;rw[h4]at this;rw[<- Rbn,<- Rbn];exact this)
  rw[<- Rbn,<- Rbn]at bd;obtain⟨h8,h9,bo,b9⟩:=bd;simp only[iI];rw[h4];exact⟨by rw[h8];simp only[qR];omega,by simp only[owR,gx,Qb6,h5,h9,qR],⟨u,bn,vs,rfl,h6,h2,bo⟩,h7.append b9⟩
theorem zX (qd:σ (kB nb)=none):∀ {bs:List (Bool×List (BS×BO))} {b i q:Nat} {bu:List (Nat×aP)},(∀ j x,bs[j]?=some x->s.boxes[b+j]?=some x)->(kV Z.ptrs Z.deps b (y0+i) (nr+q) bs).eval σ=some bu ->
  kX G'.own w' ds (callG ρ G w s Z).bx b i q bs->i+dU bs<=ds.length->(Z.deps=[]\/Pa0 ρ (Vaz (y0+i) bs))->(gd=false\/∀ x∈bs,x.1=false->Qa6 (x.2.map (·.2))=true) ->
  (∀ j x,(owB w' (callG ρ G w s Z).bx b bs)[j]?=some x->hs[q+j]?=some x)->UIn cd nr bu ->
  (∀ k c,(k,c)∈bu->(∃ q m i,k=kR (nr+q)/\c=.root (.v (y0+i)) m 0 .live/\Rp (eQ gd ρ G w s Z nr nb G'.own hs adn).own w' (nr+q) [] m ((eQ gd ρ G w s Z nr nb G'.own hs adn).hdr (nr+q)) ((aI.v (y0+i)).val ρ)) \/
   ∃ c0 fm ls,k=kB c0/\σ (kB c0)=some (.box false fm)/\c=.box false ls/\ls.length=fm.length /\
    ((∀ j l,fm[j]?=some l->∃ v,w.cell? ((G.bx c0).add j)=some v/\(aB σ ρ G w l v->aB cd ρ (eQ gd ρ G w s Z nr nb G'.own hs adn) w' l v))->Kam cd ρ (eQ gd ρ G w s Z nr nb G'.own hs adn) w' c0 false ls)) /\
  (∀ c,c∈iA false Z.ptrs b bs->∃ x,(kB c,x)∈bu)
 | [], b, i, q, bu, _, h, _, _, _, _, _, _ => by
  simp only[kV,aC,Option.some.injEq]at h;subst h;exact⟨by simp,by simp[iA]⟩
 | (ro, cs) :: bs, b, i, q, bu, vm, h, hf, hi, cE, cR, hh, hu => by
  simp only[kV]at h
  have zx:∀ j x,bs[j]?=some x->s.boxes[b+1+j]?=some x:=fun j x hj=>by
   rw[show b+1+j=b+(j+1) by omega];exact vm (j+1) x (by simpa using hj)
  cases ro with
  | true =>
   simp only[cond_true]at h;simp only[kX,if_true]at hf;simp only[dU,cond_true,Rby]at hi
   obtain⟨h1,h2⟩:=zX qd (bs:=bs) (b:=b+1) zx h hf hi (cE.imp id fun e m y hm=>e m y (by simp only[Vaz,cond_true];exact hm)) (cR.imp id fun e x hx=>e x (Rbd _ hx))
    (fun j x hj=>hh j x (by simp only[owB,if_true];exact hj)) hu
   refine⟨h1,fun c hc=>h2 c ?_⟩;have e:(true==false)=false:=rfl;simp only[iA,e,cond_false]at hc;exact hc
  | false =>
   simp only[cond_false]at h;simp only[kX,Qb4,if_false]at hf;simp only[dU,cond_false]at hi;split at h
   case h_2=>cases h
   rename_i c off hp;simp only[aA,aQ,Qb7]at h;split at h
   case h_2=>cases h
   rename_i fm jj;simp only[aA,Qb0,aC,Option.some.injEq]at h;obtain⟨rest,h1,rfl⟩:=h;have cT:(callG ρ G w s Z).bx b=(G.bx c).add off:=by simp only[callG,hp]
   rw[cT]at hf;have sB:=vm 0 _ rfl;rw[Rbx]at sB;obtain⟨c',gk,gp,fR,e1,e2,e3,e4⟩:=A.B.bx b false cs sB;rw[hp]at e1;obtain⟨rfl,rfl⟩:c=c'/\off=gk:=by simpa using e1
   rw[jj]at e2;obtain⟨rfl,rfl⟩:false=gp/\fm=fR:=by simpa using e2
   have wo:UIn cd nr (dD Z.deps (y0+i) (nr+q) (cs.map (·.2))).2.1:=fun k x hx=>hu k x (Rbd _ (Qb2 _ hx))
   have hu2:UIn cd nr rest:=fun k x hx=>hu k x (Rbd _ (Qb5 _ hx))
   obtain⟨h2,h3,h4,h5,h6⟩:=zZ A (gd:=gd) (nb:=nb) (hs:=hs) (adn:=adn) hf.1 (by simp;omega) (cE.imp id fun e m y hm=>e m y (by simp only[Vaz,cond_false];exact Qb2 _ hm))
    (cR.imp id fun e=>e _ Rbj rfl) (fun j x hj=>hh j x (by
     simp only[owB,Qb4,if_false,cT];rw[Rbm (List.getElem?_eq_some_iff.1 hj).1];exact hj)) wo
   rw[Rbh]at h3;rw[h2]at h1
   have bd:=zX qd (bs:=bs) (b:=b+1) (i:=i+cs.length) (q:=q+qC (cs.map (·.2))) zx (by rw[<- Rbn,<- Rbn];exact h1) hf.2 (by omega)
    (cE.imp id fun e m y hm=>e m y (by simp only[Vaz,cond_false];rw[Rbn];exact Qb5 _ hm)) (cR.imp id fun e x hx=>e x (Rbd _ hx)) (fun j x hj=>by
     have:=hh (qC (cs.map (·.2))+j) x (by
      simp only[owB,Qb4,if_false,cT];rw[Rbl (by rw[h4];omega),h4,Rb1];exact hj)
     rwa[<- Rbn]at this) hu2
   obtain⟨h7,h8⟩:=bd;refine⟨fun k x hx=>?_,fun c2 ny=>?_⟩
   ·rcases List.mem_cons.1 hx with hx|hx
    ·obtain⟨rfl,rfl⟩:=Prod.mk.inj hx
     refine .inr ⟨c,fm,_,rfl,jj,rfl,jZ (by rw[h3];exact e3),fun hold=>?_⟩;obtain⟨kf,dm,pB⟩:=A.B.hR.box jj;simp only[Qb4,if_false]at dm;have hcn:c≠nb:=fun e=>by rw[e,qd]at jj;cases jj
     have vv:(eQ gd ρ G w s Z nr nb G'.own hs adn).bx c=G.bx c:=by simp only[eQ,if_neg hcn]
     have ew:0<fm.length:=by have:=(e4 rfl).2;omega
     obtain⟨v0,uy,-,-⟩:=pB 0 _ (Qb3 ew);have hlt:(G.bx c).block<w.heap.size:=by have:=Ha0 uy;rwa[add_block]at this
     obtain⟨h9,bo⟩:=A.B.boxes (gd:=gd) (nr:=nr) (nb:=nb) (hs:=hs) (adn:=adn) dm hlt;refine⟨by rw[vv];exact kf,by rw[vv,h9];rfl,fun j l hj=>?_⟩;rw[vv];rw[gN (by rw[h3];exact e3)]at hj;split at hj
     ·rename_i hr
      obtain⟨v,b9,cL,fp⟩:=h5 _ l hj;rw[add_add,Rby,show off+(j-off)=j by omega]at b9 cL;exact⟨v,b9,cL,fp⟩
     ·rename_i hr
      obtain⟨v,b9,cL,fp⟩:=pB j l hj;obtain⟨v',gj,ij⟩:=hold j l hj;rw[b9]at gj;obtain rfl:=Option.some.inj gj
      rcases bo with bo|⟨j2,cs2,x8,ls2,c0,c1,e,fr,f1,f2,f3,f4,f5,f6,f7,f8,f9⟩
      ·exact⟨v,(eF (w:=w) (w':=w') (by rw[add_block];exact bo)).trans b9,(jT (w:=w) (w':=w') (by rw[add_block];exact bo)).trans cL,ij fp⟩
      ·
       have a1g:nE (0+b) Z.ptrs=some (c,off):=by rw[Rby];exact hp
       have kb:=qF A.B.hk.wr sB a1g;have f2':nE (0+j2) Z.ptrs=some (c,x8):=by rw[Rby];exact f2
       have gg:=qF A.B.hk.wr f1 f2';rw[kb]at gg;have qt:b=j2:=by have:=Option.some.inj gg;omega
       subst qt;rw[hp]at f2;rw[sB]at f1;obtain⟨-,rfl⟩:c=c/\off=x8:=by simpa using f2
       obtain rfl:cs=cs2:=by simpa using f1
       rw[h3]at hr
       have aq:∀ (ww:World) (cc:Array Value),ww.heap[(G.bx c).block]?=some (.cells cc e fr)->ww.cell? ((G.bx c).add j)=cc[(G.bx c).off+j]?/\ww.frozen? ((G.bx c).add j)=(fr.1<=(G.bx c).off+j&&(G.bx c).off+j<fr.2):=by
        intro ww cc hcc;have:=Ta0 (n:=j) kf;refine⟨?_,?_⟩
        ·unfold World.cell?
         rw[add_block,hcc];simp[this,Ra9]
        ·unfold World.frozen?
         rw[add_block,hcc];simp[Ra9]
       obtain⟨g1,g2⟩:=aq w c0 f6;obtain⟨g3,g4⟩:=aq w' c1 f7;refine⟨v,?_,by rw[g4,<- g2];exact cL,ij fp⟩;rw[g3,f9 _ (by omega),<- g1];exact b9
    ·rcases List.mem_append.1 hx with hx|hx
     ·rcases h6 k x hx with h9|⟨h9,-⟩
      ·exact .inl h9
      ·exfalso
       have:∀ (l:List BO) (y n:Nat),∀ z∈(dD Z.deps y n l).2.1,∃ r,z.1=kR r:=by
        intro l
        induction l with
        |nil=>intro y n z hz;simp[dD]at hz
        | cons t l ih =>
         intro y n z hz;simp only[dD]at hz
         rcases List.mem_append.1 hz with hz|hz
         ·cases t<;>simp[iX]at hz
          exact⟨n,by rw[hz]⟩
         ·exact ih _ _ z hz
       obtain⟨r,hr⟩:=this _ _ _ _ hx;rw[h9]at hr;exact eO hr
     ·exact h7 k x hx
   ·simp only[iA]at ny
    have e:(false==false)=true:=rfl;rw[e,cond_true,hp]at ny
    rcases List.mem_cons.1 ny with rfl|ny
    ·exact⟨_,Rbj⟩
    ·obtain⟨x,hx⟩:=h8 c2 ny
     exact⟨x,Rbd _ (Qb5 _ hx)⟩
end
theorem Hal {f:Nat}{vs:List SV}:∀ {l:List (Nat×Sig)} {key:Nat} {s:Sig},Ham f vs l=some (key,s)->(key,s)∈l/\s.fn=f
 |[],key,s,h=>by simp[Ham]at h
 | (k, t) :: l, key, s, h => by
  simp only[Ham]at h
  revert h
  generalize hb:(Nat.beq t.fn f&&Ra5 t.params vs)=b;intro h
  cases b with
  | false =>
   rw[cond_false]at h;obtain⟨h1,h2⟩:=Hal h;exact⟨Rbd _ h1,h2⟩
  | true =>
   rw[cond_true]at h;obtain⟨rfl,rfl⟩:=Prod.mk.inj (Option.some.inj h);simp only[Qb1,Rbv]at hb;exact⟨Rbj,hb.1⟩
section
variable {E:Env} {F:bE} {σ:Nat->Option aP} {ρ:List D} {a:Act} {w:World} {G:Gh} {g:Option (aI×Bool)} {cf:Nat->List D->Option (List D)}
theorem Wa0 {l:aO}{s:SlR}(h:(xD l).eval σ=some s):∀ z∈s.deps,Lak σ z.1 z.2:=by
 unfold xD at h;split at h
 ·rename_i r
  simp only[aA,aQ,Qb7]at h;split at h
  ·rename_i x m an hk
   simp only[aC,Option.some.injEq]at h;subst h;intro z hz;simp only[Rbb]at hz;subst hz;exact⟨m,x,hk⟩
  ·simp only[aC,Option.some.injEq]at h
   subst h;simp
  ·cases h
 ·rename_i deps p nie x
  simp only[aA,Qb0]at h;obtain⟨ds,h1,h2⟩:=h;obtain⟨h3,h4,h5⟩:=iG h1;split at h2
  ·simp only[aC,Option.some.injEq]at h2
   subst h2;exact fun z hz=>(h4 z hz).2
  ·rename_i r k z bh
   simp only[aA,aQ,Qb7]at h2;split at h2
   ·simp only[aC,Option.some.injEq]at h2
    subst h2;intro z' tu;simp only[Rbb]at tu;subst tu;have:=h4 z (by simp);have e:=this.1;simp only[Rbb]at e;rw[e]at this;exact this.2
   ·cases h2
  ·simp only[aC,Option.some.injEq]at h2
   subst h2;exact fun z hz=>(h4 z hz).2
 ·cases h
def rtD:RT->Nat
 |.mu _ d _ _=>d
 |_=>0
def zO:Nat->List RT->List Nat
 |_,[]=>[]
 |ν,.mu _ _ _ _::t=>ν::zO (ν+1) t
 |ν,_::t=>zO (ν+1) t
theorem Oaw:∀ {rts:List RT} {cX j ν:Nat},(zO cX rts)[j]?=some ν->∃ x:RT,(rts.filter vT)[j]?=some x/\cX<=ν/\rts[ν-cX]?=some x
 |[],cX,j,ν,h=>by simp[zO]at h
 | x :: t, cX, j, ν, h => by
  have next:∀ {j:Nat},(zO (cX+1) t)[j]?=some ν->∃ y:RT,(t.filter vT)[j]?=some y/\cX<=ν/\(x::t)[ν-cX]?=some y:=by
   intro j h;obtain⟨y,h1,h2,h3⟩:=Oaw h;refine⟨y,h1,by omega,?_⟩;rw[show ν-cX=(ν-(cX+1))+1 by omega];simpa using h3
  cases x with
  | mu r d q X =>
   simp only[zO]at h
   cases j with
   | zero =>
    simp only[Qb9,Option.some.injEq]at h;subst h;exact⟨.mu r d q X,by simp[vT,Sbo],Rbg _,by simp⟩
   | succ j =>
    obtain⟨y,h1,h2,h3⟩:=next (by simpa using h);exact⟨y,by simpa[vT,Sbo] using h1,h2,h3⟩
  | nil =>
   obtain⟨y,h1,h2,h3⟩:=next h;exact⟨y,by simpa[vT,Sbo] using h1,h2,h3⟩
  | own r d =>
   obtain⟨y,h1,h2,h3⟩:=next h;exact⟨y,by simpa[vT,Sbo] using h1,h2,h3⟩
theorem Oav:∀ (rts:List RT) (cX:Nat),(zO cX rts).length=(rts.filter vT).length
 |[],cX=>rfl
 |x::t,cX=>by cases x<;>simp[zO,vT,Oav t,Sbo]
theorem Da9:∀ (a b:List RT) (cX:Nat),zO cX (a++b)=zO cX a++zO (cX+a.length) b
 |[],b,cX=>rfl
 | x :: a, b, cX => by
  have:=Da9 a b (cX+1);rw[show cX+1+a.length=cX+(a.length+1) by omega]at this;cases x<;>simp[zO,this]
def Db6 (σ:Nat->Option aP)(ρ:List D)(G:Gh)(w:World):RT->Prop
 |.nil=>True
 |.own r _=>∃ x m an,σ (kR r)=some (.root x m an .live)
 |.mu r d q X=>∃ m an u,σ (kR r)=some (.root X m an .live)/\q.length+d<=m/\yG G.own w r [] (G.hdr r) (aZ ρ q) u
structure Va3 (σ:Nat->Option aP) (A B:Take) (rn:List RT) (ms:List Nat) (mr:List Nat):Prop where
 rts:B.rts=A.rts++rn
 deps:∀ z∈B.deps,z∈A.deps\/Lak σ z.1 z.2
 ms:(rn.filter vT).map rtD=ms
 mr:zO A.rts.length rn=mr
theorem Ia6 {A B:Take}{d:Nat}{l:aO}(h:(tT A d l).eval σ=some B):∃ rn,Va3 σ A B rn [] []/\rn.length=1/\∀ x∈rn,Db6 σ ρ G w x:=by
 unfold tT at h;split at h
 ·rename_i r
  simp only[aA,aQ,Qb7]at h;split at h
  ·rename_i x m an hk
   simp only[aA,aH,Qb0,aC,Option.some.injEq]at h;obtain⟨_,-,rfl⟩:=h;refine⟨[.own r d],⟨rfl,fun z hz=>.inl hz,rfl,rfl⟩,rfl,fun y hy=>?_⟩;simp only[Rbb]at hy;subst hy;exact⟨x,m,an,hk⟩
  ·cases h
 ·simp only[aC,Option.some.injEq]at h
  subst h;refine⟨[.nil],⟨rfl,fun z hz=>.inl hz,rfl,rfl⟩,rfl,fun y hy=>?_⟩;simp only[Rbb]at hy;subst hy;trivial
 ·cases h
theorem Ia9 {A B:Take}{nie:Bool}{l:aO}(h:(qA A nie l).eval σ=some B):Va3 σ A B [] [] []:=by
 unfold qA at h;simp only[aA,Qb0,aC,Option.some.injEq]at h;obtain⟨s,h1,rfl⟩:=h;exact⟨by simp,fun z hz=>(List.mem_append.1 hz).imp id fun hz=>Wa0 h1 z hz,rfl,rfl⟩
theorem Uaf {A B:Take}{z:Nat}{l:aO}(h:(Faw A z l).eval σ=some B):Va3 σ A B [] [] []:=by
 unfold Faw at h;split at h
 ·simp only[aA,Qb0,aC,Option.some.injEq]at h
  obtain⟨ds,h1,rfl⟩:=h;exact⟨by simp,fun z hz=>(List.mem_append.1 hz).imp id fun hz=>((iG h1).2.1 z hz).2,rfl,rfl⟩
 ·simp only[aC,Option.some.injEq]at h
  subst h;exact⟨by simp,fun z hz=>.inl hz,rfl,rfl⟩
 ·cases h
theorem Nab (P:Prop)(hR:P->R E.ntmps F σ ρ a w G){A B:Take}{t:LS}{l:aO}(h:(rH g A t l).eval σ=some B)(hl:P->∃ v,aB σ ρ G w l v) :
  ∃ rn,Va3 σ A B rn (dN [t]) (dW A.rts.length [t])/\rn.length=t.rcnt/\(P->∀ x∈rn,Db6 σ ρ G w x):=by
 unfold rH at h;split at h
 ·simp only[Ma8,aA,Qb0,aC,Option.some.injEq]at h
  obtain⟨x,-,rfl⟩:=h;exact⟨[],⟨by simp,fun z hz=>.inl hz,rfl,rfl⟩,rfl,by simp⟩
 ·exact⟨[],Ia9 h,rfl,by simp⟩
 ·rename_i _ d
  unfold Ia7 at h;simp only[aA,Qb0]at h;obtain⟨sl,h1,h⟩:=h;split at h
  case h_2=>cases h
  rename_i r k m q ho;simp only[aA,aH,aQ,Qb7,Qb0]at h;obtain⟨_,h2,h⟩:=h;split at h2
  case isFalse=>cases h2
  rename_i hb;simp only[Sbb]at hb;split at h
  case h_2=>cases h
  rename_i X m' v' kc;simp only[aC,Option.some.injEq]at h;subst h;refine⟨[.mu r d q X],⟨rfl,fun z hz=>.inl hz,rfl,rfl⟩,rfl,fun hP y hy=>?_⟩;simp only[Rbb]at hy;subst hy;obtain⟨v,hv⟩:=hl hP;have ab:=(dM (hR hP) h1 hv).own;unfold uI at ab;rw[ho]at ab;obtain⟨h3,⟨x,h4⟩,h5,h6,h7⟩:=ab;rw[kc]at h4
  obtain⟨rfl,rfl,rfl⟩:X=x/\m'=m/\v'=k:=by
   have:=Option.some.inj h4
   injection this with e1 e2 e3
   exact⟨e1,e2,e3⟩
  exact⟨_,_,_,kc,hb,h7⟩
 ·obtain⟨rn,h1,h2,h3⟩:=Ia6 (ρ:=ρ) (G:=G) (w:=w) h
  exact⟨rn,h1,h2,fun _=>h3⟩
 ·simp only[aC,Option.some.injEq]at h
  subst h;exact⟨[],⟨by simp,fun z hz=>.inl hz,rfl,rfl⟩,rfl,by simp⟩
 ·split at h
  ·rw[gF]at h
   split at h
   ·simp only[aC,Option.some.injEq]at h
    subst h;exact⟨[],⟨by simp,fun z hz=>.inl hz,rfl,rfl⟩,rfl,by simp⟩
   ·cases h
  ·cases h
 ·exact⟨[],Uaf h,rfl,by simp⟩
 ·cases h
theorem Va3.trans {A B C:Take}{rn np:List RT}{ms ms' mr od:List Nat}(h:Va3 σ A B rn ms mr)(h':Va3 σ B C np ms' od):Va3 σ A C (rn++np) (ms++ms') (mr++od):=by
 refine⟨by rw[h'.rts,h.rts,Rba],fun z hz=>?_,by rw[List.filter_append,List.map_append,h.ms,h'.ms],?_⟩
 ·rcases h'.deps z hz with h1|h1
  ·exact h.deps z h1
  ·exact .inr h1
 ·rw[Da9,h.mr]
  have:=h'.mr;rw[h.rts,Qb6]at this;rw[this]
theorem sJ (t:LS)(ss:List LS):dN (t::ss)=dN [t]++dN ss:=by cases t<;>rfl
theorem vP (t:LS)(ss:List LS)(r:Nat):dW r (t::ss)=dW r [t]++dW (r+t.rcnt) ss:=by cases t<;>rfl
theorem vQ:∀ (x y:List LS),dN (x++y)=dN x++dN y
 |[],y=>rfl
 |t::x,y=>by rw[Sby,sJ,sJ t x,vQ x y,Rba]
theorem yO:∀ (x y:List LS) (r:Nat),dW r (x++y)=dW r x++dW (r+jG x) y
 |[],y,r=>rfl
 | t :: x, y, r => by
  rw[Sby,vP,vP t x,yO x y,Rba];simp only[jG,Rbn]
theorem yJ (P:Prop)(hR:P->R E.ntmps F σ ρ a w G):∀ {ss:List LS} {ls:List aO} {A B:Take},(bZ g A ss ls).eval σ=some B->(P->∃ vs,aD σ ρ G w ls vs) ->
  ∃ rn,Va3 σ A B rn (dN ss) (dW A.rts.length ss)/\rn.length=jG ss/\(P->∀ x∈rn,Db6 σ ρ G w x)
 | [], [], A, B, h, _ => by
  simp only[bZ,aC,Option.some.injEq]at h;subst h;exact⟨[],⟨by simp,fun z hz=>.inl hz,rfl,rfl⟩,rfl,by simp⟩
 |[],_::_,A,B,h,_=>by simp[bZ,bK]at h
 |_::_,[],A,B,h,_=>by simp[bZ,bK]at h
 | t :: ss, l :: ls, A, B, h, hl => by
  simp only[bZ,aA,Qb0]at h;obtain⟨C,h1,h2⟩:=h
  obtain⟨rn,h3,h4,h5⟩:=Nab P hR h1 (fun hP=>by
   obtain⟨vs,hv⟩:=hl hP;simp only[aD]at hv;obtain⟨u,us,-,hu,-⟩:=hv;exact⟨u,hu⟩)
  obtain⟨np,h6,h7,h8⟩:=yJ P hR h2 (fun hP=>by
   obtain⟨vs,hv⟩:=hl hP;simp only[aD]at hv;obtain⟨u,us,-,-,hu⟩:=hv;exact⟨us,hu⟩)
  have:=h3.trans h6;rw[h3.rts,Qb6,h4,<- vP,<- sJ]at this;exact⟨rn++np,this,by simp[h4,h7,jG],fun hP x hx=>(List.mem_append.1 hx).elim (h5 hP x) (h8 hP x)⟩
theorem uP (P:Prop)(hR:P->R E.ntmps F σ ρ a w G):∀ {ps:List (Bool×List LS)} {vs:List SV} {A B:Take},(eG g A ps vs).eval σ=some B->(P->∃ us,rD σ ρ G w vs us) ->
  ∃ rn,Va3 σ A B rn (dN (ps.flatMap (·.2))) (dW A.rts.length (ps.flatMap (·.2)))/\rn.length=iP ps/\(P->∀ x∈rn,Db6 σ ρ G w x)
 | [], [], A, B, h, _ => by
  simp only[eG,aC,Option.some.injEq]at h;subst h;exact⟨[],⟨by simp,fun z hz=>.inl hz,rfl,rfl⟩,rfl,by simp⟩
 |[],_::_,A,B,h,_=>by simp[eG,bK]at h
 |_::_,[],A,B,h,_=>by simp[eG,bK]at h
 | (ag, ss) :: ps, v :: vs, A, B, h, hl => by
  simp only[eG,aA,Qb0,aT]at h;obtain⟨ls,h0,C,h1,h2⟩:=h
  obtain⟨rn,h3,h4,h5⟩:=yJ P hR h1 (fun hP=>by
   obtain⟨us,u,bn,rfl,hu,-⟩:=hl hP;exact⟨_,gQ h0 hu⟩)
  obtain⟨np,h6,h7,h8⟩:=uP P hR h2 (fun hP=>by
   obtain⟨us,u,bn,rfl,-,hu⟩:=hl hP;exact⟨bn,hu⟩)
  have:=h3.trans h6;rw[h3.rts,Qb6,h4,<- yO,<- vQ]at this;exact⟨rn++np,by rw[List.flatMap_cons];exact this,by simp[h4,h7,iP],fun hP x hx=>(List.mem_append.1 hx).elim (h5 hP x) (h8 hP x)⟩
theorem Aah:∀ {ss:List (BS×BO)} {ls:List aO} {A B:Take},(dQ A ss ls).eval σ=some B->∃ rn,Va3 σ A B rn [] []/\∀ x∈rn,Db6 σ ρ G w x
 | [], ls, A, B, h => by
  simp only[dQ,aC,Option.some.injEq]at h;subst h;exact⟨[],⟨by simp,fun z hz=>.inl hz,rfl,rfl⟩,by simp⟩
 |_::_,[],A,B,h=>by simp[dQ,bK]at h
 | (t, o) :: ss, l :: ls, A, B, h => by
  simp only[dQ,aA,Qb0]at h;obtain⟨C,h1,h2⟩:=h;obtain⟨np,h6,h8⟩:=Aah h2
  have key:∃ rn,Va3 σ A C rn [] []/\∀ x∈rn,Db6 σ ρ G w x:=by
   have hinv:=oI h1;clear h1
   rcases hinv with ⟨x,rfl,rfl,rfl⟩|⟨nie,rfl,h⟩|⟨d,rfl,h⟩|⟨rfl,-,rfl⟩
   ·exact⟨[],⟨by simp,fun z hz=>.inl hz,rfl,rfl⟩,by simp⟩
   ·exact⟨[],Ia9 h,by simp⟩
   ·obtain⟨rn,h3,-,h5⟩:=Ia6 (ρ:=ρ) (G:=G) (w:=w) h
    exact⟨rn,h3,h5⟩
   ·exact⟨[],⟨by simp,fun z hz=>.inl hz,rfl,rfl⟩,by simp⟩
  obtain⟨rn,h3,h5⟩:=key;exact⟨rn++np,h3.trans h6,fun x hx=>(List.mem_append.1 hx).elim (h5 x) (h8 x)⟩
theorem rJ {ptrs:List (Nat×Nat×Nat)}:∀ {bs:List (Bool×List (BS×BO))} {b:Nat} {A B:Take},(eB ptrs A b bs).eval σ=some B->∃ rn,Va3 σ A B rn [] []/\∀ x∈rn,Db6 σ ρ G w x
 | [], b, A, B, h => by
  simp only[eB,aC,Option.some.injEq]at h;subst h;exact⟨[],⟨by simp,fun z hz=>.inl hz,rfl,rfl⟩,by simp⟩
 | (ro, cs) :: bs, b, A, B, h => by
  simp only[eB]at h;split at h
  case h_2=>cases h
  simp only[aA,aQ,Qb7]at h;split at h
  case h_2=>cases h
  simp only[aA,aH,Qb0]at h;obtain⟨_,-,C,h1,h2⟩:=h;obtain⟨rn,h3,h5⟩:=Aah (ρ:=ρ) (G:=G) (w:=w) h1;obtain⟨np,h6,h8⟩:=rJ h2;exact⟨rn++np,h3.trans h6,fun x hx=>(List.mem_append.1 hx).elim (h5 x) (h8 x)⟩
theorem xL (hg:gOn ρ g=true):∀ {rts:List RT} {y nv:Nat} {ml:List Step} {mu:List (Nat×aP)},(yP y nv rts).eval σ=some (ml,mu)->aL cf ρ g nv ml ->
  (∀ k c,(k,c)∈mu->∃ (j r d:Nat) (q:List (aI×Nat×Nat)) (X X0:aI) (m an:Nat) (X':aI),(rts.filter vT)[j]?=some (RT.mu r d q X)/\k=kR r/\c=.root X' m (an+1) .live/\σ (kR r)=some (.root X0 m an .live)/\(q.length+d=m\/nT d ((aI.v (y+j)).val ρ)=true)/\Upd (aZ ρ q) (X.val ρ) ((aI.v (y+j)).val ρ) (X'.val ρ))
 | [], y, nv, ml, mu, h, _ => by
  simp only[yP,aC,Option.some.injEq,Prod.mk.injEq]at h;obtain⟨rfl,rfl⟩:=h;simp
 | .nil :: t, y, nv, ml, mu, h, aj => by
  have:=xL hg (rts:=t) h aj;simpa[vT,Sbo] using this
 | .own r d :: t, y, nv, ml, mu, h, aj => by
  have:=xL hg (rts:=t) h aj;simpa[vT,Sbo] using this
 | .mu r d q X :: t, y, nv, ml, mu, h, aj => by
  simp only[yP,aA,aQ,Qb7]at h;split at h
  case h_2=>cases h
  rename_i X0 m an hk;simp only[aA,Qb0,aC,Option.some.injEq,Prod.mk.injEq]at h;obtain⟨⟨ls,us⟩,h1,rfl,rfl⟩:=h;obtain⟨yg,yo⟩:=aL.append aj
  obtain⟨yt,tS⟩:(q.length+d=m\/nT d ((aI.v y).val ρ)=true)/\bF (bif Nat.beq (q.length+d) m then [] else [Step.prim (.dep d) [.v y] 0])=0:=by
   cases hb:Nat.beq (q.length+d) m with
   |true=>exact⟨.inl (Nat.eq_of_beq_eq_true hb),rfl⟩
   | false =>
    rw[hb,cond_false]at yg;obtain⟨ds,h1,-,-⟩:=yg.1.1 hg;simp only[Rbt,Rbz,aR.run]at h1;split at h1
    ·rename_i hf;exact⟨.inr hf,rfl⟩
    ·cases h1
  rw[tS,Rbx]at yo;obtain⟨jn,gz⟩:=aL.append yo;have bd:=xL hg h1 gz;intro k c hc
  rcases List.mem_cons.1 hc with hc|hc
  ·obtain⟨rfl,rfl⟩:=Prod.mk.inj hc
   exact⟨0,r,d,q,X,X0,m,an,_,by simp[vT,Sbo],rfl,rfl,hk,yt,Aa7 hg q nv X (.v y) jn⟩
  ·obtain⟨j,r',d',q',X',X1,m',rK,X2,h2,h3,h4,h5,ru,h6⟩:=bd k c hc
   exact⟨j+1,r',d',q',X',X1,m',rK,X2,by simpa[vT,Sbo] using h2,h3,h4,h5,by rw[show y+(j+1)=y+1+j by omega];exact ru,by rw[show y+(j+1)=y+1+j by omega];exact h6⟩
theorem xM:∀ {rts:List RT} {y nv:Nat} {ml:List Step} {mu:List (Nat×aP)},(yP y nv rts).eval σ=some (ml,mu)->∀ r,r∈bV rts->(∃ c,(kR r,c)∈mu)\/∃ c,(kR r,c)∈fJ rts
 |[],y,nv,ml,mu,h,r,hr=>by simp[bV]at hr
 |.nil::t,y,nv,ml,mu,h,r,hr=>xM (rts:=t) h r hr
 | .own s d :: t, y, nv, ml, mu, h, r, hr => by
  simp only[bV,Rb2]at hr
  rcases hr with rfl|hr
  ·exact .inr ⟨_,by simp only[fJ];exact Rbj⟩
  ·exact (xM (rts:=t) h r hr).imp id fun ⟨c,hc⟩=>⟨c,by simp only[fJ];exact Rbd _ hc⟩
 | .mu s d q X :: t, y, nv, ml, mu, h, r, hr => by
  simp only[yP,aA,aQ,Qb7]at h;split at h
  case h_2=>cases h
  simp only[aA,Qb0,aC,Option.some.injEq,Prod.mk.injEq]at h;obtain⟨⟨ls,us⟩,h1,rfl,rfl⟩:=h;simp only[bV,Rb2]at hr
  rcases hr with rfl|hr
  ·exact .inl ⟨_,Rbj⟩
  ·exact (xM h1 r hr).imp (fun ⟨c,hc⟩=>⟨c,Rbd _ hc⟩) id
theorem kG:∀ {rts:List RT} {k:Nat} {c:aP},(k,c)∈fJ rts->∃ r,k=kR r/\c=.root (.c .hole) 0 0 .gone
 |[],k,c,h=>by simp[fJ]at h
 |.nil::t,k,c,h=>kG (rts:=t) h
 |.mu s d q X::t,k,c,h=>kG (rts:=t) h
 | .own s d :: t, k, c, h => by
  simp only[fJ,Rb2,Prod.mk.injEq]at h
  rcases h with ⟨rfl,rfl⟩|h
  ·exact⟨s,rfl,rfl⟩
  ·exact kG h
end
theorem wM {deps:List (Nat×Nat)}:∀ (cs:List BO) (y n:Nat),(dD deps y n cs).2.2=n+qC cs/\∀ k c,(k,c)∈(dD deps y n cs).2.1->∃ r y m,n<=r/\k=kR r/\c=.root (.v y) m 0 .live
 |[],y,n=>⟨rfl,by simp[dD]⟩
 | t :: cs, y, n => by
  have hb:(iX deps y n t).2.2=n+t.q/\∀ k c,(k,c)∈(iX deps y n t).2.1->∃ r y m,n<=r/\k=kR r/\c=.root (.v y) m 0 .live:=by
   cases t<;>refine⟨rfl,fun k c hc=>?_⟩<;>simp[iX]at hc
   exact⟨n,y,_,Rbg _,hc.1,hc.2⟩
  obtain⟨h1,h2⟩:=hb;simp only[dD];rw[h1];obtain⟨h3,h4⟩:=wM (deps:=deps) cs (y+1) (n+t.q);refine⟨by rw[h3];simp only[qC];omega,fun k c hc=>?_⟩
  rcases List.mem_append.1 hc with hc|hc
  ·exact h2 k c hc
  ·obtain⟨r,y',m,h5,h6,h7⟩:=h4 k c hc
   exact⟨r,y',m,by omega,h6,h7⟩
theorem Na8 {gd:Bool}{deps:List (Nat×Nat)}{nb:Nat}(t:LR)(y n:Nat):(bW gd deps nb y n t).2.2=n+t.q/\∀ k c,(k,c)∈(bW gd deps nb y n t).2.1->(∃ r y m,n<=r/\k=kR r/\c=.root (.v y) m 0 .live)\/(k=kB nb/\∃ ls,c=.box false ls):=by
 cases t with
 | bx cs =>
  obtain⟨h3,h4⟩:=wM (deps:=deps) cs y n;simp only[bW];refine⟨h3,fun k c hc=>?_⟩
  rcases List.mem_cons.1 hc with hc|hc
  ·obtain⟨rfl,rfl⟩:=Prod.mk.inj hc
   exact .inr ⟨rfl,_,rfl⟩
  ·exact .inl (h4 k c hc)
 | ow m =>
  cases gd with
  |true=>exact⟨rfl,by simp[bW]⟩
  | false =>
   refine⟨rfl,fun k c hc=>?_⟩;simp[bW]at hc;exact .inl ⟨n,y,m,Rbg _,hc.1,hc.2⟩
 |_=>exact⟨rfl,by simp[bW]⟩
theorem yM {gd:Bool}{deps:List (Nat×Nat)}{nb:Nat}:∀ (ss:List LR) (y n:Nat),(cK gd deps nb y n ss).2.2=n+qL ss/\∀ k c,(k,c)∈(cK gd deps nb y n ss).2.1->(∃ r y m,n<=r/\k=kR r/\c=.root (.v y) m 0 .live)\/(k=kB nb/\∃ ls,c=.box false ls)
 |[],y,n=>⟨rfl,by simp[cK]⟩
 | t :: ss, y, n => by
  obtain⟨h1,h2⟩:=Na8 (gd:=gd) (deps:=deps) (nb:=nb) t y n;simp only[cK];rw[h1];obtain⟨h3,h4⟩:=yM (gd:=gd) (deps:=deps) (nb:=nb) ss (y+t.n) (n+t.q);refine⟨by rw[h3];simp only[qL];omega,fun k c hc=>?_⟩
  rcases List.mem_append.1 hc with hc|hc
  ·exact h2 k c hc
  ·exact (h4 k c hc).imp (fun ⟨r,y',m,h5,h6⟩=>⟨r,y',m,by omega,h6⟩) id
theorem Gag {gd:Bool}{deps:List (Nat×Nat)}{nb:Nat}:∀ (rs:List (Bool×List LR)) (y n:Nat),(iI gd deps nb y n rs).2.2=n+qR rs/\∀ k c,(k,c)∈(iI gd deps nb y n rs).2.1->(∃ r y m,n<=r/\k=kR r/\c=.root (.v y) m 0 .live)\/(k=kB nb/\∃ ls,c=.box false ls)
 |[],y,n=>⟨rfl,by simp[iI]⟩
 | (ag, ss) :: rs, y, n => by
  obtain⟨h1,h2⟩:=yM (gd:=gd) (deps:=deps) (nb:=nb) ss y n;simp only[iI];rw[h1];obtain⟨h3,h4⟩:=Gag (gd:=gd) (deps:=deps) (nb:=nb) rs (y+lY ss) (n+qL ss);refine⟨by rw[h3];simp only[qR];omega,fun k c hc=>?_⟩
  rcases List.mem_append.1 hc with hc|hc
  ·exact h2 k c hc
  ·exact (h4 k c hc).imp (fun ⟨r,y',m,h5,h6⟩=>⟨r,y',m,by omega,h6⟩) id
theorem wL {σ:Nat->Option aP}{ptrs:List (Nat×Nat×Nat)}{deps:List (Nat×Nat)}:∀ {bs:List (Bool×List (BS×BO))} {b y n:Nat} {bu:List (Nat×aP)},(kV ptrs deps b y n bs).eval σ=some bu ->
  ∀ k c,(k,c)∈bu->(∃ r y m,n<=r/\k=kR r/\c=.root (.v y) m 0 .live)\/(∃ c0 fm ls,k=kB c0/\σ (kB c0)=some (.box false fm)/\c=.box false ls)
 | [], b, y, n, bu, h => by
  simp only[kV,aC,Option.some.injEq]at h;subst h;simp
 | (ro, cs) :: bs, b, y, n, bu, h => by
  simp only[kV]at h
  cases ro with
  |true=>exact wL (bs:=bs) h
  | false =>
   simp only[cond_false]at h;split at h
   case h_2=>cases h
   simp only[aA,aQ,Qb7]at h;split at h
   case h_2=>cases h
   rename_i fm jj;simp only[aA,Qb0,aC,Option.some.injEq]at h;obtain⟨rest,h1,rfl⟩:=h;obtain⟨h3,h4⟩:=wM (deps:=deps) (cs.map (·.2)) y n;rw[h3]at h1;intro k c hc
   rcases List.mem_cons.1 hc with hc|hc
   ·obtain⟨rfl,rfl⟩:=Prod.mk.inj hc
    exact .inr ⟨_,_,_,rfl,jj,rfl⟩
   ·rcases List.mem_append.1 hc with hc|hc
    ·exact .inl (h4 k c hc)
    ·exact (wL h1 k c hc).imp (fun ⟨r,y',m,h5,h6⟩=>⟨r,y',m,by omega,h6⟩) id
theorem Kal {own:Nat->Ow}{w:World}{ds:List D}{gh:Nat->Value}:∀ {ms:List Nat} {i j k d:Nat},Ta4 own w ds gh i j ms->ms[k]?=some d->Rp own w (2*(j+k)+1) [] d (gh (j+k)) (ds.getD (i+k) .undef)
 |[],i,j,k,d,_,h=>by simp at h
 | e :: ms, i, j, 0, d, h, hk => by
  simp only[Qb9,Option.some.injEq]at hk;subst hk;exact h.1
 | e :: ms, i, j, k + 1, d, h, hk => by
  have:=Kal h.2 (k:=k) (by simpa using hk);rw[show j+(k+1)=j+1+k by omega,show i+(k+1)=i+1+k by omega];exact this
theorem gT.len {σ:Nat->Option aP}{ρ:List D}{G:Gh}{w:World}:∀ {ts:List (Bool×List aO)} {us:List Value},gT σ ρ G w ts us->us.length=ts.length
 |[],us,h=>by simp only[gT]at h;subst h;rfl
 | (a, ls) :: r, us, h => by
  obtain⟨u,bn,vs,rfl,-,-,h3⟩:=h;simp[gT.len h3]
theorem Wax {σ:Nat->Option aP}{ρ:List D}{G:Gh}{w:World}{g:Option (aI×Bool)}(hg:gOn ρ g=true){rs:List (Bool×List aO)}{us:List Value}(h:gT σ ρ G w rs us):bU σ ρ G w (Aay g rs) (Da0 us):=by
 unfold Aay;split
 ·rename_i x
  obtain⟨u,bn,vs,rfl,h1,h2,h3⟩:=h;simp only[gT]at h3;subst h3;simp only[Qb4,if_false]at h2;subst h2;simp only[aD,List.cons.injEq]at h1;obtain⟨u',bn,⟨rfl,rfl⟩,h4,-⟩:=h1;simp only[aB]at h4;simp only[Da0]
  cases g with
  |none=>simp only[mkS,bU,aB];exact h4
  |some z=>simp only[mkS,bU,aB];exact⟨.inl h4,fun _=>h4⟩
 ·rename_i l _
  obtain⟨u,bn,vs,rfl,h1,h2,h3⟩:=h;simp only[gT]at h3;subst h3;simp only[Qb4,if_false]at h2;subst h2;simp only[aD,List.cons.injEq]at h1;obtain⟨u',bn,⟨rfl,rfl⟩,h4,-⟩:=h1;simp only[Da0,bU];exact h4
 ·rename_i ls
  obtain⟨u,bn,vs,rfl,h1,h2,h3⟩:=h;simp only[gT]at h3;subst h3;simp only[if_true]at h2;simp only[Da0,bU];exact⟨vs,h2,h1⟩
 ·rename_i _ h1 h2 h3
  simp only[bU]
  match us,rs,h with
  |[],[],h=>exact⟨[],rfl,h⟩
  | [u], [(a, ls)], h =>
   exfalso;obtain⟨u',bn,vs,e,h4,h5,h6⟩:=h;obtain⟨rfl,rfl⟩:=List.cons.inj e
   cases a with
   |true=>exact h3 ls rfl
   | false =>
    simp only[Qb4,if_false]at h5;subst h5;have:=h4.len
    match ls,this with
    |[l],_=>exact h2 l rfl
  |u::u'::us,r::r'::rs,h=>exact⟨_,rfl,h⟩
  |[],_::_,h=>have:=h.len;simp at this
  |[_],[],h=>have:=h.len;simp at this
  |[_],_::_::_,h=>have:=h.len;simp at this
  |_::_::_,[],h=>have:=h.len;simp at this
  |_::_::_,[_],h=>have:=h.len;simp at this
theorem tH {σ:Nat->Option aP}{ptrs:List (Nat×Nat×Nat)}:∀ {bs:List (Bool×List (BS×BO))} {b:Nat} {xs:List aI},(iB ptrs b bs).eval σ=some xs->∀ x∈bs,x.1=false->Qa6 (x.2.map (·.2))=true
 |[],b,xs,h,x,hx,_=>by simp at hx
 | (ro, cs) :: bs, b, xs, h, x, hx, nF => by
  simp only[iB]at h
  cases ro with
  | true =>
   simp only[cond_true]at h
   rcases List.mem_cons.1 hx with rfl|hx
   ·cases nF
   ·exact tH h x hx nF
  | false =>
   simp only[cond_false]at h;split at h
   case h_2=>cases h
   simp only[aA,aQ,Qb7]at h;split at h
   case h_2=>cases h
   simp only[aA,Qb0,aC,Option.some.injEq]at h;obtain⟨l,h1,m,h2,-⟩:=h
   rcases List.mem_cons.1 hx with rfl|hx
   ·clear h2
    rename_i fm _;generalize fm.drop _=ls at h1;dsimp only;clear hx nF
    induction cs generalizing ls l with
    |nil=>rfl
    | cons t cs ih =>
     obtain⟨s,o⟩:=t
     cases ls with
     |nil=>simp[jQ,bK]at h1
     | cons x ls =>
      simp only[jQ,aA,Qb0]at h1;obtain⟨y,h3,r,h4,-⟩:=h1;have:=ih _ _ h4
      cases o with
      |ow m=>cases s<;>simp[bK]at h3
      |_=>simpa[Qa6] using this
   ·exact tH h2 x hx nF
def Vav (o:Oper)(g:Option (aI×Bool))(rs:List (Bool×List aO)):List (Nat×aP):=match o.dst with
 |some d=>[(kT d,.slot (Bbj g (Aay g rs)) (Aay g rs))]
 |none=>[]
section
variable {E:Env} {F:bE} {σ:Nat->Option aP} {ρ:List D} {a:Act} {w w':World} {G:Gh} {g:Option (aI×Bool)} {cf:Nat->List D->Option (List D)} {o:Oper} {s:Sig} {T Z:Take} {nb nr y0 nvm:Nat}
theorem Ba0 {rs:List (Bool×List aO)}:Vav o g rs=dL o (Bbj g (Aay g rs)) (Aay g rs):=rfl
theorem Zal (hR:R E.ntmps F σ ρ a w G)(hg:gOn ρ g=true)(hd:eT E.ntmps o)(hf:Cae σ nb nr){vs:List SV}{us0:List Value}(qm:rD σ ρ G w vs us0)
  (hT:(eG g Take.empty s.params vs).eval σ=some T) (hZ:(eB T.ptrs T 0 s.boxes).eval σ=some Z) (hk:Kah s Z) (yp:jU s.results<=1)
  (cR:noG g=true\/(jU s.results=0/\∃ olds,(iB Z.ptrs 0 s.boxes).eval σ=some olds))
  {rs:List (Bool×List aO)} {us bu mu:List (Nat×aP)} {tn:Nat} {ml:List Step} {ds:List D} (fk:iI (!noG g) Z.deps nb y0 nr s.results=(rs,us,tn))
  (nn:(kV Z.ptrs Z.deps 0 (y0+bH s.results+(Z.rts.filter vT).length) tn s.boxes).eval σ=some bu) {nv1:Nat} (sR:(yP (y0+bH s.results) nv1 Z.rts).eval σ=some (ml,mu))
  (hlen:ds.length=bH s.results+(Z.rts.filter vT).length+dU s.boxes) (b5:∀ j d,ds[j]?=some d->(aI.v (y0+j)).val ρ=d)
  (mg:Z.deps=[]\/Pa0 ρ (Zaf y0 s.results++Zag (y0+bH s.results) Z.rts++Vaz (y0+bH s.results+(Z.rts.filter vT).length) s.boxes)) (oS:aL cf ρ g nv1 ml)
  (gl:(Vav o g rs++(us++bu++mu++fJ Z.rts)).all (fun x=>yC E.ntmps nb nr x.1)=true)
  {v:Value} (lq:Ma0 s (nY s (callG ρ G w s Z) w) (callG ρ G w s Z).bx v w' ds) :
  ∃ G2,R E.ntmps F (upds σ (Vav o g rs++(us++bu++mu++fJ Z.rts))) ρ (a.put o.dst v) w' G2:=by
 obtain⟨G',bn,rfl,hF,zh,a1u,gi⟩:=lq;obtain⟨hle1,ma,tw⟩:=jX hZ;rw[<- ma]at tw;obtain⟨rn,oa,tG,hn3⟩:=uP True (fun _=>hR) hT (fun _=>⟨us0,qm⟩);obtain⟨np,hn4,hn5⟩:=rJ (ρ:=ρ) (G:=G) (w:=w) hZ;have de:=oa.trans hn4;have ov:Z.rts=rn++np:=by have:=de.rts;simpa[Take.empty] using this
 have ou:∀ x∈Z.rts,Db6 σ ρ G w x:=by
  rw[ov];exact fun x hx=>(List.mem_append.1 hx).elim (hn3 trivial x) (hn5 x)
 have tp:(Z.rts.filter vT).map rtD=dN (s.params.flatMap (·.2)):=by
  have:=de.ms;rw[<- ov,Rbs]at this;exact this
 have hmr:zO 0 Z.rts=dW 0 (s.params.flatMap (·.2)):=by
  have:=de.mr;rw[<- ov,Rbs]at this;exact this
 have mq:∀ z∈Z.deps,Lak σ z.1 z.2:=fun z hz=>by
  rcases de.deps z hz with h|h
  ·simp[Take.empty]at h
  ·exact h
 have B:Pa1 E F σ ρ a w G s Z G' w':=by
  refine⟨hR,hk,hF,fun j ro cs hj=>by have:=tw j ro cs hj;rwa[Rby]at this,mq,fun ν r d q X qi=>?_,fun ν r d qi=>?_⟩
  ·obtain⟨m,an,u,h1,h2,h3⟩:=ou _ (Rbi qi)
   exact⟨m,an,u,h1,h2,h3⟩
  ·obtain⟨x,m,an,h1⟩:=ou _ (Rbi qi)
   exact⟨x,m,an,h1⟩
 generalize hU:Vav o g rs++(us++bu++mu++fJ Z.rts)=U at gl ⊢
 let hs:=owR w' s.results bn++owB w' (callG ρ G w s Z).bx 0 s.boxes
 let adn:=(Ha2 s.results bn).headD ⟨0,0,none⟩
 let G2:=eQ (!noG g) ρ G w s Z nr nb G'.own hs adn
 have u7:∀ k c,(k,c)∈U->(k,c)∈Vav o g rs\/(k,c)∈us\/(k,c)∈bu\/(k,c)∈mu\/(k,c)∈fJ Z.rts:=by
  intro k c hc;rw[<- hU]at hc
  rcases List.mem_append.1 hc with hc|hc
  ·exact .inl hc
  ·rcases List.mem_append.1 hc with hc|hc
   ·rcases List.mem_append.1 hc with hc|hc
    ·rcases List.mem_append.1 hc with hc|hc
     ·exact .inr (.inl hc)
     ·exact .inr (.inr (.inl hc))
    ·exact .inr (.inr (.inr (.inl hc)))
   ·exact .inr (.inr (.inr (.inr hc)))
 have hUdst:∀ z∈Vav o g rs,z∈U:=fun z hz=>by rw[<- hU];exact Qb2 _ hz
 have a15:∀ z∈us,z∈U:=fun z hz=>by rw[<- hU];exact Qb5 _ (Qb2 _ (Qb2 _ (Qb2 _ hz)))
 have yx:∀ z∈bu,z∈U:=fun z hz=>by rw[<- hU];exact Qb5 _ (Qb2 _ (Qb2 _ (Qb5 _ hz)))
 have a2g:∀ z∈mu,z∈U:=fun z hz=>by rw[<- hU];exact Qb5 _ (Qb2 _ (Qb5 _ hz))
 have a2k:∀ z∈fJ Z.rts,z∈U:=fun z hz=>by rw[<- hU];exact Qb5 _ (Qb5 _ hz)
 have xF:∀ k c,(k,c)∈U->yC E.ntmps nb nr k=true:=fun k c hc=>by
  rw[Rbu]at gl;exact gl _ hc
 obtain⟨pL,pt⟩:=Gag (gd:=!noG g) (deps:=Z.deps) (nb:=nb) s.results y0 nr;rw[fk]at pL pt;dsimp only at pL pt;subst pL;have a4q:=wL nn;have mn:=xL hg sR oS;have ln:∀ r c,(kR r,c)∈U->nr<=r->σ (kR r)=none:=fun r c hc hr=>hf.nr r hr (Ca2 (xF _ _ hc))
 have sX:∀ k c,(k,c)∈Vav o g rs->∃ d,o.dst=some d/\k=kT d/\c=.slot (Bbj g (Aay g rs)) (Aay g rs):=fun k c hc=>by
  rw[Ba0]at hc;exact xS hc
 have cm:Fr σ G w (upds σ U) G2 w':=by
  refine Fr.of (fun b hb hlt=>B.frz hb hlt) (fun r b p cU hb=>?_) (fun r c hc cQ=>?_) (fun r x m k hkz b p hb=>?_) (fun r hr=>?_) (fun b hb=>?_)
  ·refine B.other (fun hr=>?_) hb
   rcases xM sR r hr with ⟨c,hc⟩|⟨c,hc⟩
   ·exact cU c (a2g _ hc)
   ·exact cU c (a2k _ hc)
  ·rcases u7 _ _ hc with h|h|h|h|h
   ·obtain⟨d,-,e,-⟩:=sX _ _ h
    exact absurd e.symm gX
   ·rcases pt _ _ h with ⟨r',y,m,h1,h2,rfl⟩|⟨h1,-⟩
    ·obtain rfl:=eD h2
     exact .inl ⟨ln r _ hc h1,_,_,_,_,rfl⟩
    ·exact absurd h1.symm eO
   ·rcases a4q _ _ h with ⟨r',y,m,h1,h2,rfl⟩|⟨c0,fm,ls,h1,-⟩
    ·obtain rfl:=eD h2
     exact .inl ⟨ln r _ hc (by omega),_,_,_,_,rfl⟩
    ·exact absurd h1.symm eO
   ·obtain⟨j,r',d,q,X,X0,m,an,X',h1,h2,rfl,h3,-⟩:=mn _ _ h
    obtain rfl:=eD h2;exact .inr (.inl ⟨_,_,_,_,_,h3,rfl⟩)
   ·obtain⟨r',h1,rfl⟩:=kG h
    exact .inr (.inr (.inl ⟨_,_,_,_,rfl,by simp,by simp⟩))
  ·have hb:G2.own b=.slc r p:=hb
   simp only[G2,eQ]at hb;split at hb
   ·cases e:G.own b with
    | slc r' p' =>
     rw[e]at hb;simp only[zL]at hb;split at hb
     ·cases hb
     ·split at hb
      ·split at hb
       ·exact hb
       ·cases hb
      ·exact hb
     ·exact hb
    |_=>rw[e]at hb;simp[zL]at hb
   ·cases e:G'.own b with
    | slc t p' =>
     rw[e]at hb;simp only[tJ]at hb;split at hb
     ·split at hb
      ·cases hb
      ·split at hb
       ·rename_i hlt
        injection hb with e1 e2
        have:=hf.nr r (by omega) (by omega);rw[this]at hkz;cases hkz
       ·cases hb
     ·split at hb
      ·rename_i r' d q X a16
       injection hb with e1 e2
       subst e1;have hm:=(List.mem_filter.1 (Rbi a16)).1;obtain⟨m',rK,u',h1,-⟩:=ou _ hm;rw[h1]at hkz;cases hkz
      ·cases hb
    | box β =>
     rw[e]at hb;simp only[tJ]at hb;split at hb<;>cases hb
    |_=>rw[e]at hb;simp[tJ]at hb
  ·show (if nr<=r/\r<nr+bP then _ else G.hdr r)=_
   rw[if_neg]
   rintro⟨h1,h2⟩
   rw[hf.nr r h1 h2]at hr;cases hr
  ·show (if b=nb then adn else G.bx b)=_
   rw[if_neg];intro e;rw[e,hf.nb]at hb;cases hb
 have jb:∀ k c,(k,c)∈U->(upds σ U k).isSome:=fun k c hc=>dP _ _ _ (.inr ⟨c,hc⟩)
 have zw:∀ l:List (Nat×aP),(∀ z∈l,z∈U)->UIn (upds σ U) nr l:=fun l hl k c hc=>by
  refine⟨jb k c (hl _ hc),fun q e=>?_⟩;have:=xF _ _ (hl _ hc);rw[e]at this;have:=Ca2 this;omega
 have sk:∀ i,i<ds.length->(aI.v (y0+i)).val ρ=ds.getD i .undef:=fun i hi=>by
  rw[Qb8,Qb3 hi,Sbv];exact b5 i _ (Qb3 hi)
 have A:Aft E F σ (upds σ U) ρ a w G s Z G' w' y0 ds:=by
  refine⟨B,sk,fun z hz=>cm.known _ _ ?_⟩;obtain⟨m,x,hx⟩:=mq z hz;exact⟨x,m,z.2,.live,hx,fun _=>Rbg _⟩
 have a4g:(!noG g)=false\/jU s.results=0:=by
  rcases cR with h|h
  ·exact .inl (by rw[h];rfl)
  ·exact .inr h.1
 have pw:=Jak A (gd:=!noG g) (nb:=nb) (nr:=nr) (hs:=hs) (adn:=adn) (i:=0) (q:=0) zh (by omega) (mg.imp id fun h m y hm=>h m y (Qb2 _ (Qb2 _ hm)))
  a4g (fun j x hj=>by
   rw[Rby];show (owR w' s.results bn++_)[j]?=some x
   rw[Rbm (List.getElem?_eq_some_iff.1 hj).1]
   exact hj) (fun ad oc=>by
   have hl:=Pav s.results bn;show ad=(Ha2 s.results bn).headD _
   match hb:Ha2 s.results bn,oc with
   |[x],oc=>simpa using oc
   |x::y::l,oc=>rw[hb]at hl;simp at hl;omega) (by
   rw[Rbx,Rbx,fk];exact zw us a15)
 rw[Rbx,Rbx,fk]at pw;dsimp only at pw;obtain⟨-,oX,a3z,zt⟩:=pw;have tR:(dN (s.params.flatMap (·.2))).length=(Z.rts.filter vT).length:=by rw[<- tp];simp
 rw[tR]at gi
 have a1n:=zX A (gd:=!noG g) (nb:=nb) (nr:=nr) (hs:=hs) (adn:=adn) hf.nb (bs:=s.boxes) (b:=0) (i:=bH s.results+(Z.rts.filter vT).length) (q:=qR s.results) (bu:=bu) (by simp)
  (by rw[<- Rbn];exact nn) gi (by omega) (mg.imp id fun h m y hm=>h m y (Qb5 _ (by rw[Rbn];exact hm)))
  (by
   rcases cR with h|⟨-,olds,h⟩
   ·exact .inl (by rw[h];rfl)
   ·exact .inr (tH h)) (fun j x hj=>by
   show (owR w' s.results bn++owB w' (callG ρ G w s Z).bx 0 s.boxes)[qR s.results+j]?=some x
   rw[Rbl (by omega),oX,Rb1];exact hj) (zw bu yx)
 obtain⟨ye,a3j⟩:=a1n;refine⟨G2,hR.upd U cm (by rw[Aa2];exact hR.tmps) (by rw[put_defers];exact hR.defers) B.frame (fun t ht=>?_) (fun b ro ls hb cU=>?_) (fun b ls hb hlt ho=>?_) (fun k c hc cQ=>?_)⟩
 ·rw[<- hU,Ba0]at ht
  exact Ea3 ht
 ·
  obtain⟨h1,h2,h3⟩:=hR.box hb
  have hlt:(G.bx b).block<w.heap.size:=by
   rcases Rbo (G.bx b).block w.heap.size with h|h
   ·exact h
   ·rw[hR.frame.fresh _ h]at h2
    split at h2<;>cases h2
  cases ro with
  | true =>
   simp only[if_true]at h2;obtain⟨h4,h5⟩:=B.oth (gd:=!noG g) (nr:=nr) (nb:=nb) (hs:=hs) (adn:=adn) h2 hlt;exact⟨h4.trans h2.symm,h5⟩
  | false =>
   simp only[Qb4,if_false]at h2;obtain⟨h4,h5⟩:=B.boxes (gd:=!noG g) (nr:=nr) (nb:=nb) (hs:=hs) (adn:=adn) h2 hlt;refine⟨h4.trans h2.symm,?_⟩
   rcases h5 with h5|⟨j,cs,off,ls2,c0,c1,e,fr,e1,e2,e3,e4,-⟩
   ·exact h5
   ·exfalso
    have hm:=tF (wr:=false) (b:=0) e1 (by rw[Rby];exact e2);obtain⟨x,hx⟩:=a3j b hm;exact cU x (yx _ hx)
 ·
  rcases u7 _ _ hb with h|h|h|h|h
  ·obtain⟨d,-,e,-⟩:=sX _ _ h
   exact absurd e.symm kP
  ·rcases zt _ _ h with ⟨q,m,i,e,-⟩|⟨e,fR,e2,yd,qd⟩
   ·exact absurd e eO
   ·exfalso
    have e:=Bai e;subst e;refine qd ⟨Nat.lt_of_lt_of_le hlt hR.frame.size,?_⟩;have h1:=(hR.frame.boxes _ _ hlt ho).1
    have h2:(callG ρ G w s Z).own ((eQ (!noG g) ρ G w s Z nr b G'.own hs adn).bx b).block=.oth\/∃ j,(callG ρ G w s Z).own ((eQ (!noG g) ρ G w s Z nr b G'.own hs adn).bx b).block=.box j:=by
     have tW:G.own ((eQ (!noG g) ρ G w s Z nr b G'.own hs adn).bx b).block=.box b:=h1;simp only[callG,tW];split
     ·split
      ·exact .inr ⟨_,rfl⟩
      ·exact .inl rfl
     ·exact .inl rfl
    rcases h2 with h2|⟨j,h2⟩<;>rw[h2]<;>rfl
  ·rcases ye _ _ h with ⟨q,m,i,e,-⟩|⟨c0,fm,fR,e,h1,h2,h3,-⟩
   ·exact absurd e eO
   ·obtain rfl:=Bai e
    injection h2 with e1 e2
    have hbn:G2.bx b=G.bx b:=cm.bx b (by rw[h1];rfl);rw[hbn]at hlt ho ⊢;rw[hR.rng b fm h1 hlt ho,e2,h3]
  ·obtain⟨j,r',d,q,X,X0,m,an,X',h1,h2,-⟩:=mn _ _ h
   exact absurd h2 eO
  ·obtain⟨r',h1,-⟩:=kG h
   exact absurd h1 eO
 ·rcases u7 _ _ hc with h|h|h|h|h
  ·obtain⟨d,jh,rfl,rfl⟩:=sX _ _ h
   refine⟨d,rfl,fun _=>?_⟩;rw[jh,mY _ _ _ _ _ (hd d jh) hR.tmps];exact Wax hg a3z
  ·rcases zt _ _ h with ⟨q,m,i,rfl,rfl,cA⟩|⟨rfl,fR,rfl,yd,-⟩
   ·exact⟨nr+q,rfl,by rw[cQ];rfl,cA⟩
   ·exact⟨nb,rfl,yd⟩
  ·rcases ye _ _ h with ⟨q,m,i,rfl,rfl,cA⟩|⟨c0,fm,fR,rfl,h1,rfl,h3,h4⟩
   ·exact⟨nr+q,rfl,by rw[cQ];rfl,cA⟩
   ·refine⟨c0,rfl,h4 fun j l hj=>?_⟩
    obtain⟨-,-,bk⟩:=hR.box h1;obtain⟨v,qn,hv2,hv3⟩:=bk j l hj;exact⟨v,qn,fun hl=>aB.mono cm l v hl⟩
  ·obtain⟨j,r',d,q,X,X0,m,an,X',h1,rfl,rfl,h3,yt,h4⟩:=mn _ _ h
   refine⟨r',rfl,by rw[cQ];rfl,?_⟩;show Rp G2.own w' r' [] m (G2.hdr r') (X'.val ρ)
   have ug:G2.hdr r'=G.hdr r':=cm.hdr r' (by rw[h3];rfl);rw[ug];have a1h:=(List.getElem?_eq_some_iff.1 h1).1;have ga:j<(zO 0 Z.rts).length:=by rw[Oav];exact a1h
   have qi:=Qb3 ga;obtain⟨x,kb,-,gg⟩:=Oaw qi;rw[h1]at kb;obtain rfl:=Option.some.inj kb;rw[Nat.sub_zero]at gg
   have vf:(dN (s.params.flatMap (·.2)))[j]?=some d:=by
    rw[<- tp,Rbr,h1];rfl
   have cj:=Kal a1u vf;rw[Rby]at cj
   have hy:(aI.v (y0+bH s.results+j)).val ρ=ds.getD (bH s.results+j) .undef:=by
    rw[Rbn];exact sk _ (by omega)
   rw[<- hy]at cj
   have u5:(nY s (callG ρ G w s Z) w).gh j=Xae w (G.hdr r') (aZ ρ q):=by
    simp only[nY,Hae,Qb8];rw[<- hmr,Rbm (by simpa using ga),Rbr,qi];simp only[Rb9,Sbv];rw[Ba8 gg];rfl
   rw[u5]at cj;refine B.mu h3 yt gg h1 (fun u' hn=>Cay hn) cj (mg.imp id fun hc=>?_) h4
   have bq:∀ (rts:List RT) (y j:Nat) (r d:Nat) (q:List (aI×Nat×Nat)) (X:aI),(rts.filter vT)[j]?=some (RT.mu r d q X)->Step.prim (.dep d) [.v (y+j)] 0∈Zag y rts:=by
    intro rts
    induction rts with
    |nil=>intro y j r d q X h;simp at h
    | cons x t ih =>
     intro y j r d q X h
     cases x with
     |nil=>exact ih y j r d q X (by simpa[vT,Sbo] using h)
     |own _ _=>exact ih y j r d q X (by simpa[vT,Sbo] using h)
     | mu r' d' q' X' =>
      simp only[Zag]
      cases j with
      | zero =>
       simp[vT,Sbo]at h;rw[h.2.1];exact Rbj
      | succ j =>
       have:=ih (y+1) j r d q X (by simpa[vT,Sbo] using h);rw[show y+1+j=y+(j+1) by omega]at this;exact Rbd _ this
   exact hc d _ (Qb2 _ (Qb5 _ (bq _ _ _ _ _ _ _ h1)))
  ·obtain⟨r',rfl,rfl⟩:=kG h
   exact⟨r',rfl,by rw[cQ];rfl,trivial⟩
end
theorem Daj:∀ (cs:List BO) (y:Nat),bF (mQ y cs)=0
 |[],y=>rfl
 |t::cs,y=>by cases t<;>simp only[mQ,gU,Step.n,Daj cs]
theorem Db0:∀ (ss:List LR) (y:Nat),bF (Ra2 y ss)=0
 |[],y=>rfl
 |t::ss,y=>by cases t<;>simp only[Ra2,gU,eH,Step.n,Daj,Db0 ss]
theorem Dby:∀ (rs:List (Bool×List LR)) (y:Nat),bF (Zaf y rs)=0
 |[],y=>rfl
 |(a,ss)::rs,y=>by simp only[Zaf,eH,Db0,Dby rs]
theorem Dbz:∀ (ts:List RT) (y:Nat),bF (Zag y ts)=0
 |[],y=>rfl
 |t::ts,y=>by cases t<;>simp only[Zag,gU,Step.n,Dbz ts]
theorem Db1:∀ (bs:List (Bool×List (BS×BO))) (y:Nat),bF (Vaz y bs)=0
 |[],y=>rfl
 |(ro,cs)::bs,y=>by cases ro<;>simp only[Vaz,cond_true,cond_false,eH,Daj,Db1 bs]
theorem Tak {ρ:List D}{g:Option (aI×Bool)}{cf:Nat->List D->Option (List D)}(hg:gOn ρ g=true):∀ {l:List Step} {nv:Nat},aL cf ρ g nv l->Pa0 ρ l
 |[],nv,h=>fun m y hm=>by simp at hm
 | t :: l, nv, h => fun m y hm => by
  rcases List.mem_cons.1 hm with e|hm
  ·subst e
   obtain⟨ds,h1,-,-⟩:=h.1.1 hg;simp only[Rbt,Rbz,aR.run]at h1;split at h1
   ·rename_i hf;exact hf
   ·cases h1
  ·exact Tak hg h.2 m y hm
theorem Na9 {deps:List (Nat×Nat)}{nb:Nat}:∀ (rs:List (Bool×List LR)) (y n:Nat),jU rs=0->(iI true deps nb y n rs).2.1=[]
 |[],y,n,_=>rfl
 | (a, ss) :: rs, y, n, h => by
  simp only[jU]at h
  have hl:∀ (ss:List LR) (y n:Nat),bxL ss=0->(cK true deps nb y n ss).2.1=[]:=by
   intro ss
   induction ss with
   |nil=>intro y n _;rfl
   | cons t ss ih =>
    intro y n h
    cases t with
    |bx cs=>simp[bxL]at h
    |_=>simp only[cK,bW,cond_true,Sba];exact ih _ _ (by simpa[bxL] using h)
  simp only[iI,hl ss y n (by omega),Sba];exact Na9 rs _ _ (by omega)
theorem Jal {gd:Bool}{deps:List (Nat×Nat)}{nb y n:Nat}{rs:List (Bool×List LR)}{l:aO}(h:(iI gd deps nb y n rs).1=[(false,[l])]):(∀ g x,l≠.su g x)/\∀ x,l=.sc x->x=.v y/\1<=bH rs:=by
 match rs,h with
 |[],h=>simp[iI]at h
 |(a,ss)::r::rs,h=>simp[iI]at h
 | [(a, ss)], h =>
  simp only[iI,List.cons.injEq,Prod.mk.injEq,and_true]at h;obtain⟨-,h⟩:=h
  match ss,h with
  |[],h=>simp[cK]at h
  |t::t'::ss,h=>simp[cK]at h
  | [t], h =>
   simp only[cK,List.cons.injEq,and_true]at h;subst h
   cases t with
   |sc=>exact⟨fun g x e=>by simp[bW]at e,fun x e=>by simp[bW]at e;exact⟨e.symm,by simp[bH,lY,LR.n]⟩⟩
   |ow m=>cases gd<;>exact⟨fun g x e=>by simp[bW]at e,fun x e=>by simp[bW]at e⟩
   |_=>exact⟨fun g x e=>by simp[bW]at e,fun x e=>by simp[bW]at e⟩
theorem Waz {σ:Nat->Option aP}{ρ:List D}{G:Gh}{w:World}{z:aI×Bool}(hg:gOn ρ (some z)=false){gd:Bool}{deps:List (Nat×Nat)}{nb y n:Nat}{rs0:List (Bool×List LR)}{rs:List (Bool×List aO)}
  (vh:(iI gd deps nb y n rs0).1=rs) (hv:1<=bH rs0->(aI.v y).val ρ=.undef) (h:gOn ρ (Bbj (some z) (Aay (some z) rs))=true):bU σ ρ G w (Aay (some z) rs) undef:=by
 unfold Aay at h ⊢;split at h
 ·rename_i x
  obtain⟨h1,h2⟩:=(Jal vh).2 x rfl;subst h1;simp only[mkS,bU,aB];exact⟨.inr ⟨trivial,hv h2⟩,fun e=>by rw[hg]at e;cases e⟩
 ·rename_i l bh
  have tE:=(Jal vh).1;exfalso
  revert h tE
  cases l with
  |su g' x'=>exact fun _ tE=>tE g' x' rfl
  |_=>intro e _;simp only[Bbj]at e;rw[hg]at e;cases e
 ·simp only[Bbj]at h;rw[hg]at h;cases h
 ·simp only[Bbj]at h;rw[hg]at h;cases h
section
variable {P:Program} {E:Env} {F:bE} {σ:Nat->Option aP} {ρ:List D} {a:Act} {w w':World} {G:Gh} {g:Option (aI×Bool)} {cf:Nat->List D->Option (List D)} {o:Oper} {s:Sig} {T Z:Take} {nb nr y0 nvm:Nat}
theorem Da3 (hR:R E.ntmps F σ ρ a w G){cd:Nat->Option aP}(cm:Fr σ G w cd G w){deps:List (Nat×Nat)}(qk:∀ z∈deps,iJ σ z.1 z.2):∀ {cs:List (BS×BO)} {ls:List aO} {xs:List aI} {y n:Nat},(jQ cs ls).eval σ=some xs ->
  (∀ j x,xs[j]?=some x->(aI.v (y+j)).val ρ=x.val ρ)->(∀ (j:Nat) (nie:Bool) (o:BO) (l:aO),cs[j]?=some (BS.fz nie,o)->ls[j]?=some l->∃ r,(xD l).eval σ=some r/\∀ z∈r.deps,z∈deps) ->
  xs.length=cs.length/\(dD deps y n (cs.map (·.2))).2.1=[]/\(dD deps y n (cs.map (·.2))).1.length=cs.length /\
  ∀ (j:Nat) (l l0:aO) (v:Value),(dD deps y n (cs.map (·.2))).1[j]?=some l->ls[j]?=some l0->aB σ ρ G w l0 v->aB cd ρ G w l v
 | [], ls, xs, y, n, h, _, _ => by
  simp only[jQ,aC,Option.some.injEq]at h;subst h;exact⟨rfl,rfl,rfl,by simp[dD]⟩
 |_::_,[],xs,y,n,h,_,_=>by simp[jQ,bK]at h
 | (t, o) :: cs, l0 :: ls, xs, y, n, h, hx, hz => by
  simp only[jQ,aA,Qb0,aC,Option.some.injEq]at h;obtain⟨x,h1,r,h2,rfl⟩:=h;have hx0:(aI.v y).val ρ=x.val ρ:=by have:=hx 0 x rfl;rwa[Rbx]at this
  have key:(iX deps y n o).2.1=[]/\∀ v,aB σ ρ G w l0 v->aB cd ρ G w (iX deps y n o).1 v:=by
   split at h1
   ·rename_i x'
    simp only[aC,Option.some.injEq]at h1;subst h1;refine⟨rfl,fun v hv=>?_⟩;simp only[iX,aB]at hv ⊢;rw[hx0];exact hv
   ·rename_i _ nie
    simp only[aA,Qb0,aC,Option.some.injEq]at h1;obtain⟨sl,h3,rfl⟩:=h1;refine⟨rfl,fun v hv=>?_⟩;obtain⟨sl',h4,h5⟩:=hz 0 nie .fz _ rfl rfl;rw[h3]at h4;obtain rfl:=Option.some.inj h4;have hs:=dM hR h3 hv;have gA:v.oneCell'=true:=hv.one (by cases l0<;>first|rfl|cases h3)
    have hl:aB σ ρ G w (.sn deps .no false (.v y)) v:=by
     simp only[aB];refine⟨⟨gA,qk⟩,fun _=>⟨?_,fun e=>absurd e (by decide),trivial⟩⟩;rw[hx0];refine hs.rd.mono fun b hb=>⟨?_,rfl⟩
     rcases hb with hb|⟨r,k,p,hm,hb⟩
     ·exact .inl hb
     ·exact .inr ⟨r,k,p,h5 _ hm,hb⟩
    exact aB.mono cm _ v hl
   ·rw[gF]at h1
    split at h1
    ·rename_i hs
     simp only[aC,Option.some.injEq]at h1;refine⟨rfl,fun v hv=>?_⟩;simp only[iX,aB];exact hv.one hs
    ·cases h1
   ·cases h1
  obtain⟨h3,h4,h5,h6⟩:=Da3 hR cm qk (cs:=cs) (y:=y+1) (n:=(iX deps y n o).2.2) h2 (fun j x hj=>by
   have:=hx (j+1) x (by simpa using hj);rwa[show y+(j+1)=y+1+j by omega]at this) (fun j nie o' l hj hl=>hz (j+1) nie o' l (by simpa using hj) (by simpa using hl))
  refine⟨by simp[h3],by simp only[Rbt,dD,key.1,Sba];exact h4,by simp only[Rbt,dD,Rbe];rw[h5],fun j l l1 v hj hl hv=>?_⟩;simp only[Rbt,dD]at hj
  cases j with
  | zero =>
   simp only[Qb9,Option.some.injEq]at hj hl;subst hj hl;exact key.2 v hv
  |succ j=>exact h6 j l l1 v (by simpa using hj) (by simpa using hl) hv
theorem Das:∀ {ss:List (BS×BO)} {ls:List aO} {A B:Take},(dQ A ss ls).eval σ=some B->∀ (j:Nat) (nie:Bool) (o:BO) (l:aO),ss[j]?=some (BS.fz nie,o)->ls[j]?=some l->∃ r,(xD l).eval σ=some r/\∀ z∈r.deps,z∈B.deps
 |[],ls,A,B,h,j,nie,o,l,hj,_=>by simp at hj
 |_::_,[],A,B,h,_,_,_,_,_,_=>by simp[dQ,bK]at h
 | (t, o) :: ss, l0 :: ls, A, B, h, j, nie, o', l, hj, hl => by
  simp only[dQ,aA,Qb0]at h;obtain⟨C,h1,h2⟩:=h
  cases j with
  | zero =>
   simp only[Qb9,Option.some.injEq,Prod.mk.injEq]at hj hl;obtain⟨rfl,rfl⟩:=hj;subst hl
   have h3:(qA A nie l0).eval σ=some C:=by
    have hinv:=oI h1;clear h1
    rcases hinv with ⟨x,e,-⟩|⟨nie',e,h⟩|⟨d,e,-⟩|⟨e,-⟩
    ·cases e
    ·injection e with e;subst e;exact h
    ·cases e
    ·cases e
   unfold qA at h3;simp only[aA,Qb0,aC,Option.some.injEq]at h3;obtain⟨sl,h4,rfl⟩:=h3;exact⟨sl,h4,fun z hz=>(oH h2).1.deps z (Qb5 _ hz)⟩
  |succ j=>exact Das h2 j nie o' l (by simpa using hj) (by simpa using hl)
theorem Dau {ptrs:List (Nat×Nat×Nat)}:∀ {bs:List (Bool×List (BS×BO))} {b:Nat} {A B:Take},(eB ptrs A b bs).eval σ=some B->∀ (i:Nat) (ro:Bool) (cs:List (BS×BO)),bs[i]?=some (ro,cs) ->
  ∃ c off gp ls,nE (b+i) ptrs=some (c,off)/\σ (kB c)=some (.box gp ls)/\off+cs.length<=ls.length/\∀ (j:Nat) (nie:Bool) (o:BO) (l:aO),cs[j]?=some (BS.fz nie,o)->(ls.drop off)[j]?=some l->∃ r,(xD l).eval σ=some r/\∀ z∈r.deps,z∈B.deps
 |[],b,A,B,h,i,ro,cs,hi=>by simp at hi
 | (ro0, cs0) :: bs, b, A, B, h, i, ro, cs, hi => by
  simp only[eB]at h;split at h
  case h_2=>cases h
  rename_i c off hp;simp only[aA,aQ,Qb7]at h;split at h
  case h_2=>cases h
  rename_i gp ls jj;simp only[aA,aH,Qb0]at h;obtain⟨_,h0,C,h1,h2⟩:=h;split at h0
  case isFalse=>cases h0
  rename_i hb;simp only[Qb1,Sbb]at hb
  cases i with
  | zero =>
   simp only[Qb9,Option.some.injEq,Prod.mk.injEq]at hi;obtain⟨rfl,rfl⟩:=hi;refine⟨c,off,gp,ls,hp,jj,hb.2,fun j nie o l hj hl=>?_⟩;obtain⟨r,h3,h4⟩:=Das h1 j nie o l hj hl;exact⟨r,h3,fun z hz=>(jX h2).1.deps z (h4 z hz)⟩
  | succ i =>
   obtain⟨c',gk,a1e,fR,h3,h4,h5,h6⟩:=Dau h2 i ro cs (by simpa using hi);exact⟨c',gk,a1e,fR,by rw[show b+(i+1)=b+1+i by omega];exact h3,h4,h5,h6⟩
theorem zY (hR:R E.ntmps F σ ρ a w G){deps:List (Nat×Nat)}(qk:∀ z∈deps,iJ σ z.1 z.2){ptrs:List (Nat×Nat×Nat)}:∀ {bs:List (Bool×List (BS×BO))} {b y n:Nat} {bu:List (Nat×aP)} {xs:List aI},
  (kV ptrs deps b y n bs).eval σ=some bu->(iB ptrs b bs).eval σ=some xs->(∀ j x,xs[j]?=some x->(aI.v (y+j)).val ρ=x.val ρ) ->
  (∀ (i:Nat) (ro:Bool) (cs:List (BS×BO)),bs[i]?=some (ro,cs)->∃ c off gp ls,nE (b+i) ptrs=some (c,off)/\σ (kB c)=some (.box gp ls)/\off+cs.length<=ls.length/\∀ (j:Nat) (nie:Bool) (o:BO) (l:aO),cs[j]?=some (BS.fz nie,o)->(ls.drop off)[j]?=some l->∃ r,(xD l).eval σ=some r/\∀ z∈r.deps,z∈deps) ->
  xs.length=dU bs/\∀ k c,(k,c)∈bu->∃ (c0:Nat) (fm ls:List aO),k=kB c0/\σ (kB c0)=some (.box false fm)/\c=.box false ls/\ls.length=fm.length/\∀ (cd:Nat->Option aP),Fr σ G w cd G w->∀ (j:Nat) (l l0:aO) (v:Value),ls[j]?=some l->fm[j]?=some l0->aB σ ρ G w l0 v->aB cd ρ G w l v
 | [], b, y, n, bu, xs, h, hx, _, _ => by
  simp only[kV,aC,Option.some.injEq]at h;simp only[iB,aC,Option.some.injEq]at hx;subst h hx;exact⟨rfl,by simp⟩
 | (ro, cs) :: bs, b, y, n, bu, xs, h, hx, hv, hz => by
  have tu:∀ (i:Nat) (ro:Bool) (cs:List (BS×BO)),bs[i]?=some (ro,cs)->∃ c off gp ls,nE (b+1+i) ptrs=some (c,off)/\σ (kB c)=some (.box gp ls)/\off+cs.length<=ls.length/\∀ (j:Nat) (nie:Bool) (o:BO) (l:aO),cs[j]?=some (BS.fz nie,o)->(ls.drop off)[j]?=some l->∃ r,(xD l).eval σ=some r/\∀ z∈r.deps,z∈deps:=fun i ro cs hi=>by
   have:=hz (i+1) ro cs (by simpa using hi);rwa[show b+(i+1)=b+1+i by omega]at this
  simp only[kV]at h;simp only[iB]at hx
  cases ro with
  | true =>
   simp only[cond_true]at h hx;obtain⟨h1,h2⟩:=zY hR qk h hx hv tu;exact⟨by rw[h1];simp only[dU,cond_true,Rby],h2⟩
  | false =>
   simp only[cond_false]at h hx;obtain⟨c,off,gp,fm,e1,e2,e3,e4⟩:=hz 0 false cs rfl;rw[Rbx]at e1;rw[e1]at h hx;simp only[aA,aQ,Qb7]at h hx;rw[e2]at h hx
   cases gp with
   |true=>simp[bK]at h
   | false =>
    simp only[aA,Qb0,aC,Option.some.injEq]at h hx;obtain⟨rest,h1,rfl⟩:=h;obtain⟨l1,h2,m1,h3,rfl⟩:=hx;have hold:=fun cd (cm:Fr σ G w cd G w)=>Da3 (E:=E) (F:=F) (a:=a) hR cm qk (cs:=cs) (ls:=fm.drop off) (y:=y) (n:=n) h2 (fun j x hj=>hv j x (by rw[Rbm (List.getElem?_eq_some_iff.1 hj).1];exact hj)) e4
    obtain⟨h4,h5,h6,-⟩:=hold σ (Fr.same σ G w [] (by simp))
    obtain⟨h7,h8⟩:=zY hR qk h1 h3 (fun j x hj=>by
     have:=hv (cs.length+j) x (by rw[Rbl (by omega),h4,Rb1];exact hj);rwa[<- Rbn]at this) tu
    refine⟨by rw[Qb6,h4,h7];simp only[dU,cond_false],fun k x ue=>?_⟩;rw[h5]at ue;simp only[Sby,Sba]at ue
    rcases List.mem_cons.1 ue with ue|ue
    ·obtain⟨rfl,rfl⟩:=Prod.mk.inj ue
     refine⟨c,fm,_,rfl,e2,rfl,jZ (by rw[h6];exact e3),fun cd cm j l l0 v hj ia ef=>?_⟩;rw[gN (by rw[h6];exact e3)]at hj;split at hj
     ·rename_i hr
      refine (hold cd cm).2.2.2 (j-off) l l0 v hj ?_ ef;rw[List.getElem?_drop,show off+(j-off)=j by omega];exact ia
     ·rw[ia]at hj
      obtain rfl:=Option.some.inj hj;exact aB.mono cm _ v ef
    ·exact h8 k x ue
theorem Cb2 (hR:R E.ntmps F σ ρ a w G)(hg:gOn ρ g=false)(hd:eT E.ntmps o)(v8:∀ z∈Z.deps,Lak σ z.1 z.2)(qa:Z.rts=[])(vj:jU s.results=0)
  (hZ:(eB T.ptrs T 0 s.boxes).eval σ=some Z) {olds:List aI} (hold:(iB Z.ptrs 0 s.boxes).eval σ=some olds)
  {rs:List (Bool×List aO)} {us bu:List (Nat×aP)} {tn:Nat} (fk:iI true Z.deps nb y0 nr s.results=(rs,us,tn)) (zo:noG g=false)
  (nn:(kV Z.ptrs Z.deps 0 (y0+bH s.results) tn s.boxes).eval σ=some bu)
  (b5:∀ j d,(Rbf (bH s.results+dU s.boxes-olds.length) D.undef++olds.map (·.val ρ))[j]?=some d->(aI.v (y0+j)).val ρ=d) :
  R E.ntmps F (upds σ (Vav o g rs++(us++bu))) ρ (a.put o.dst undef) w G:=by
 have l9:us=[]:=by
  have:=Na9 (deps:=Z.deps) (nb:=nb) s.results y0 nr vj;rw[fk]at this;exact this
 subst l9;rw[Sba];obtain⟨-,ma,-⟩:=jX hZ
 have qk:∀ z∈Z.deps,iJ σ z.1 z.2:=fun z hz=>by
  obtain⟨m,x,hx⟩:=v8 z hz;exact⟨x,m,z.2,.live,hx,fun _=>Rbg _⟩
 have jk:=Dau hZ;rw[<- ma]at jk
 have hlen0:olds.length=dU s.boxes:=by
  have ve:∀ {bs:List (Bool×List (BS×BO))} {b:Nat} {xs:List aI},(iB Z.ptrs b bs).eval σ=some xs->xs.length=dU bs:=by
   intro bs
   induction bs with
   |nil=>intro b xs h;simp only[iB,aC,Option.some.injEq]at h;subst h;rfl
   | cons x bs ih =>
    intro b xs h;obtain⟨ro,cs⟩:=x;simp only[iB]at h
    cases ro with
    |true=>simp only[cond_true]at h;rw[ih h];simp only[dU,cond_true,Rby]
    | false =>
     simp only[cond_false]at h;split at h
     case h_2=>cases h
     simp only[aA,aQ,Qb7]at h;split at h
     case h_2=>cases h
     simp only[aA,Qb0,aC,Option.some.injEq]at h;obtain⟨l,h1,m,h2,rfl⟩:=h
     have hc:∀ {cs:List (BS×BO)} {ls:List aO} {ys:List aI},(jQ cs ls).eval σ=some ys->ys.length=cs.length:=by
      intro cs
      induction cs with
      |nil=>intro ls ys h;simp only[jQ,aC,Option.some.injEq]at h;subst h;rfl
      | cons t cs ihc =>
       intro ls ys h;obtain⟨t1,t2⟩:=t
       cases ls with
       |nil=>simp[jQ,bK]at h
       | cons x ls =>
        simp only[jQ,aA,Qb0,aC,Option.some.injEq]at h;obtain⟨y,-,r,h4,rfl⟩:=h;simp[ihc h4]
     rw[Qb6,hc h1,ih h2];simp only[dU,cond_false]
  exact ve hold
 have kO:bH s.results+dU s.boxes-olds.length=bH s.results:=by omega
 rw[kO]at b5
 obtain⟨-,gi⟩:=zY hR qk nn hold (fun j x hj=>by
  rw[Rbn];refine b5 _ _ ?_;rw[Rbl (by simp),Rbw,Rb1,Rbr,hj]
  rfl) jk
 have sX:∀ k c,(k,c)∈Vav o g rs->∃ d,o.dst=some d/\k=kT d/\c=.slot (Bbj g (Aay g rs)) (Aay g rs):=fun k c hc=>by
  rw[Ba0]at hc;exact xS hc
 have gS:∀ k c,(k,c)∈Vav o g rs++bu->∀ r,k≠kR r:=by
  intro k c hc r
  rcases List.mem_append.1 hc with hc|hc
  ·obtain⟨d,-,e,-⟩:=sX _ _ hc
   rw[e];exact gX
  ·obtain⟨c0,fm,ls,e,-⟩:=gi _ _ hc
   rw[e];exact eO
 have cm:=Fr.nonroot σ G w (Vav o g rs++bu) gS;refine hR.upd _ cm (by rw[Aa2];exact hR.tmps) (by rw[put_defers];exact hR.defers) hR.frame (fun t ht=>?_) (fun _ _ _ _ _=>⟨rfl,rfl⟩) (fun b ls hb hlt ho=>?_) (fun k c hc cQ=>?_)
 ·rw[Ba0]at ht
  exact Ea3 ht
 ·rcases List.mem_append.1 hb with hb|hb
  ·obtain⟨d,-,e,-⟩:=sX _ _ hb
   exact absurd e.symm kP
  ·obtain⟨c0,fm,fR,e,h1,h2,h3,-⟩:=gi _ _ hb
   obtain rfl:=Bai e
   injection h2 with e1 e2
   rw[hR.rng b fm h1 hlt ho,e2,h3]
 ·rcases List.mem_append.1 hc with hc|hc
  ·obtain⟨d,jh,rfl,rfl⟩:=sX _ _ hc
   refine⟨d,rfl,fun c5=>?_⟩;rw[jh,mY _ _ _ _ _ (hd d jh) hR.tmps];have vh:(iI true Z.deps nb y0 nr s.results).1=rs:=by rw[fk]
   cases g with
   |none=>simp[gOn]at hg
   | some z =>
    refine Waz hg vh (fun ew=>?_) c5
    have:=b5 0 .undef (by
     rw[Rbm (by simp;omega)];rw[Tba,if_pos (by omega)])
    rwa[Rbx]at this
  ·obtain⟨c0,fm,ls,rfl,h1,rfl,h3,h4⟩:=gi _ _ hc
   obtain⟨h5,h6,h7⟩:=hR.box h1;refine⟨c0,rfl,h5,h6,fun j l hj=>?_⟩;have hlt:j<fm.length:=by rw[<- h3];exact (List.getElem?_eq_some_iff.1 hj).1
   obtain⟨v,h8,h9,bo⟩:=h7 j _ (Qb3 hlt);exact⟨v,h8,h9,h4 _ cm j l _ v hj (Qb3 hlt) bo⟩
end
section
variable {P:Program} {E:Env} {F:bE} {σ:Nat->Option aP} {ρ:List D} {a:Act} {w:World} {G:Gh} {g:Option (aI×Bool)} {o:Oper}
theorem Naf:∀ {vs:List SV} {us:List Value},vs.length=us.length->(∀ (i:Nat) (v:SV) (u:Value),vs[i]?=some v->us[i]?=some u->bU σ ρ G w v u)->rD σ ρ G w vs us
 |[],[],_,_=>rfl
 |[],_::_,h,_=>by simp at h
 |_::_,[],h,_=>by simp at h
 |v::vs,u::us,h,hr=>⟨u,us,rfl,hr 0 v u rfl rfl,Naf (by simpa using h) fun i v' u' hv hu=>hr (i+1) v' u' (by simpa using hv) (by simpa using hu)⟩
theorem Aal:∀ {vs pN:List SV} {us bn:List Value},rD σ ρ G w vs us->rD σ ρ G w pN bn->rD σ ρ G w (vs++pN) (us++bn)
 |[],pN,us,bn,h,h'=>by simp only[rD]at h;subst h;exact h'
 | v :: vs, pN, us, bn, h, h' => by
  obtain⟨u,zl,rfl,h1,h2⟩:=h;exact⟨u,zl++bn,rfl,h1,Aal h2 h'⟩
theorem Fa0:∀ {ls:List aO} {vs:List Value},aD σ ρ G w ls vs->rD σ ρ G w (ls.map SV.one) vs
 |[],vs,h=>by simp only[aD]at h;subst h;rfl
 | l :: ls, vs, h => by
  simp only[aD]at h;obtain⟨u,us,rfl,h1,h2⟩:=h;exact⟨u,us,rfl,h1,Fa0 h2⟩
theorem Bbi {f:Operand}{args:Array Operand}{argTypes:Array TypeId}(ho:o.op=.call { callee:=.value f,args,argTypes }){fn:Nat}{vs:List Value}(hf:a.eval f=.func (.func fn) #[] vs.toArray) :
  (execOp a.eval o).run P w=(callFunc fn (args.toList.map a.eval++vs).toArray).run P w:=by
 unfold execOp;simp only[ho,resolve,hf,Deferred.ofValue,invoke,Sem.run_bind,Sem.run_pure,Result.andThen_ok];congr 2;apply Array.ext';simp
theorem Cb0 {X:(Nat->Ow)->World->Prop}{T:Nat->Ent}{n:Nat}(aj:Stable X)(hX:X F.own0 F.w0)(hc:∀ key s,(key,s)∈E.sigs->Cag P X T n key s):Aac P E F (jJ T n):=by
 intro σ ρ a w G g o Q mv b6 nv nb nr res f args argTypes hR hd hf ho h gl qq;simp only[oJ,ho,aA,Qb0]at h;obtain⟨l,h1,h⟩:=h;split at h
 case h_2=>cases h
 rename_i fn cD;simp only[aA,Qb0]at h;obtain⟨vs0,h2,h⟩:=h;unfold Dbh at h;split at h
 ·cases h
 rename_i key s a1q;obtain⟨bq,hfn⟩:=Hal a1q;simp only[aA,Qb0,aH]at h;obtain⟨T1,hT,Z,hZ,_,cR,h⟩:=h;split at cR
 case isFalse=>cases cR
 rename_i hb;simp only[Qb1,Bool.or_eq_true,Sbb,List.isEmpty_iff,Rbv]at hb;obtain⟨⟨jt,yp⟩,cR⟩:=hb;have hk:=Qae jt;obtain⟨bu,nn,⟨ml,mu⟩,sR,olds,hold,h⟩:=h;simp only[aC,Option.some.injEq]at h;subst h;dsimp only at gl qq ⊢;generalize fk:iI (!noG g) Z.deps nb (nv+bF Z.lets) nr s.results=res at gl qq nn ⊢;obtain⟨rs,us,tn⟩:=res;dsimp only at gl aj nn sR ⊢;refine⟨fun hg=>?_,fun hg=>?_⟩
 ·
  obtain⟨pk,oS⟩:=aL.append qq;obtain⟨jd,mg⟩:=aL.append pk;obtain⟨yh,eM⟩:=aL.append jd;obtain⟨ds,aw,hlen,b5⟩:=eM.1.1 hg
  have hn:nv+bF (Z.lets++[Step.call key Z.xs (bH s.results+(Z.rts.filter vT).length+dU s.boxes) olds]++(bif Z.deps.isEmpty then [] else Zaf (nv+bF Z.lets) s.results++Zag (nv+bF Z.lets+bH s.results) Z.rts++Vaz (nv+bF Z.lets+bH s.results+(Z.rts.filter vT).length) s.boxes))=nv+bF Z.lets+(bH s.results+(Z.rts.filter vT).length+dU s.boxes):=by
   have e0:bF (bif Z.deps.isEmpty then [] else Zaf (nv+bF Z.lets) s.results++Zag (nv+bF Z.lets+bH s.results) Z.rts++Vaz (nv+bF Z.lets+bH s.results+(Z.rts.filter vT).length) s.boxes)=0:=by
    cases Z.deps.isEmpty with
    |true=>rfl
    |false=>simp only[cond_false,eH,Dby,Dbz,Db1]
   rw[eH,eH,e0];simp only[gU,Step.n];show nv+(bF Z.lets+(_+bF [])+0)=_
   have:bF ([]:List Step)=0:=rfl;omega
  rw[hn]at oS;have qn:=eZ hR hg h1;simp only[aB]at qn;obtain⟨cvs,hcv,eV⟩:=qn;obtain⟨jx,eN⟩:=xE hR hg h2
  have l9:rD σ ρ G w (vs0++cD.map SV.one) (args.toList.map a.eval++cvs):=by
   refine Aal (Naf (by rw[jx];simp) fun i v u hv hu=>?_) (Fa0 eV);rw[Rbr,Rbc]at hu;obtain⟨x,hx,rfl⟩:=hu;exact eN i v x hv hx
  have bp:=Cb1 hR hg yh hk hT hZ l9
  have hXc:X (callG ρ G w s Z).own w:=aj _ _ _ _ hR.frame.size (fun b hb he=>by
   have hkp:=hR.frame.keep b hb (.inl he);exact⟨hkp.1,nX (hkp.2.trans he)⟩) hX
  have c5:=hc key s bq _ w _ _ ds bp hXc aw
  have xT:Z.deps=[]\/Pa0 ρ (Zaf (nv+bF Z.lets) s.results++Zag (nv+bF Z.lets+bH s.results) Z.rts++Vaz (nv+bF Z.lets+bH s.results+(Z.rts.filter vT).length) s.boxes):=by
   cases hde:Z.deps.isEmpty with
   |true=>exact .inl (by simpa using hde)
   | false =>
    rw[hde,cond_false]at mg;exact .inr (Tak hg mg)
  have a3u:noG g=true\/(jU s.results=0/\∃ olds,(iB Z.ptrs 0 s.boxes).eval σ=some olds):=by
   cases g with
   |none=>exact .inl rfl
   |some z=>exact .inr ⟨(cR.resolve_left (by simp[noG])).2,olds,hold⟩
  have sr:∀ v w',Ma0 s (nY s (callG ρ G w s Z) w) (callG ρ G w s Z).bx v w' ds->Nx E.ntmps F σ ρ (Vav o g rs++(us++bu++mu++fJ Z.rts)) (a.put o.dst v) w':=by
   intro v w' lq;exact Zal hR hg hd hf l9 hT hZ hk yp a3u fk nn sR hlen b5 xT oS gl lq
  unfold Oper.wp;rw[Bbi ho hcv,<- hfn]
  rcases c5 with ⟨hr,bl⟩|⟨v,w',hr,lq⟩
  ·rw[hr,Oper.upon_enter]
   refine Calls.mono bl fun e w' he=>?_
   cases e with
   |returned v=>exact sr v w' he
   |panicked c=>exact he.elim
   |outgrown=>exact he.elim
  ·rw[hr,Oper.upon_value]
   exact sr v w' lq
 ·
  have zo:noG g=false:=by
   cases g with
   |none=>simp[gOn]at hg
   |some z=>rfl
  have h5:=cR.resolve_left (by rw[zo];simp);obtain⟨qa,vj⟩:=h5
  have a2i:mu=[]:=by
   rw[qa]at sR;simp only[yP,aC,Option.some.injEq,Prod.mk.injEq]at sR;exact sR.2.symm
  have a13:fJ Z.rts=[]:=by rw[qa];rfl
  have vn:(Z.rts.filter vT).length=0:=by rw[qa];rfl
  obtain⟨pk,oS⟩:=aL.append qq;obtain⟨jd,mg⟩:=aL.append pk;obtain⟨yh,eM⟩:=aL.append jd;have b5:=eM.1.2 hg;rw[vn,Rbx]at b5 nn
  have ze:(iB Z.ptrs 0 s.boxes).eval σ=some olds:=by
   cases g with
   |none=>cases zo
   |some z=>exact hold
  have mq:∀ z∈Z.deps,Lak σ z.1 z.2:=by
   obtain⟨rn,oa,-,-⟩:=uP (E:=E) (F:=F) (ρ:=ρ) (a:=a) (w:=w) (G:=G) False (fun h=>h.elim) hT (fun h=>h.elim);obtain⟨np,hn4,-⟩:=rJ (ρ:=ρ) (G:=G) (w:=w) hZ;intro z hz
   rcases (oa.trans hn4).deps z hz with h|h
   ·simp[Take.empty]at h
   ·exact h
  rw[zo]at fk;have:=Cb2 hR hg hd mq qa vj hZ ze fk zo nn b5;refine⟨G,?_⟩;show R E.ntmps F (upds σ (Vav o g rs++(us++bu++mu++fJ Z.rts))) ρ _ w G
  rw[a2i,a13,Rbs,Rbs];exact this
end
def Zaz (P:Program)(s:Sig)(e:List D->Option (List D)):Prop :=
 ∀ vals w G ds di,Za2 s vals w G ds->e ds=some di->Goes P s.fn vals.toArray w fun v w'=>Ma0 s (nY s G w) G.bx v w' di
def Ta3 (P:Program)(T:Nat->Ent)(ti:Nat->Option TI)(sigs:List (Nat×Sig))(key:Nat)(s:Sig):Prop :=
 (∃ (E : Env) (fn : Func) (tm : Tm Unit), E.ti = ti /\ E.sigs = sigs /\ P.funcs[s.fn]? = some fn /\ (fn.name == "runtime.NumGoroutine") = false /\ Uai E s fn = some tm /\ T key = .tm tm) \/ ∃ e, T key = .ext e /\ Zaz P s e
def Ibw (P:Program)(X:(Nat->Ow)->World->Prop)(s:Sig)(e:List D->Option (List D)):Prop :=
 ∀ vals w G ds di,Za2 s vals w G ds->X G.own w->e ds=some di->Goes P s.fn vals.toArray w fun v w'=>Ma0 s (nY s G w) G.bx v w' di
def Ibv (P:Program)(X:(Nat->Ow)->World->Prop)(T:Nat->Ent)(ti:Nat->Option TI)(sigs:List (Nat×Sig))(key:Nat)(s:Sig):Prop :=
 (∃ (E : Env) (fn : Func) (tm : Tm Unit), E.ti = ti /\ E.sigs = sigs /\ P.funcs[s.fn]? = some fn /\ (fn.name == "runtime.NumGoroutine") = false /\ Uai E s fn = some tm /\ T key = .tm tm) \/ ∃ e, T key = .ext e /\ Ibw P X s e
theorem Ta3.toX {P:Program}{X:(Nat->Ow)->World->Prop}{T:Nat->Ent}{ti:Nat->Option TI}{sigs:List (Nat×Sig)}{key:Nat}{s:Sig}(h:Ta3 P T ti sigs key s):Ibv P X T ti sigs key s:=by
 rcases h with h|⟨e,h1,h2⟩
 ·exact .inl h
 ·exact .inr ⟨e,h1,fun vals w G ds di hp _ he=>h2 vals w G ds di hp he⟩
theorem Vax {P:Program}{X:(Nat->Ow)->World->Prop}{T:Nat->Ent}{ti:Nat->Option TI}{sigs:List (Nat×Sig)}(aj:Stable X)(hti:uO P ti)(hm:P.follows .mixedOrders=true)(H:∀ key s,(key,s)∈sigs->Ibv P X T ti sigs key s) :
  ∀ n key s,(key,s)∈sigs->Cag P X T n key s:=by
 intro n
 induction n with
 | zero =>
  intro key s _ vals w G ds di _ _ h;cases h
 | succ n ih =>
  intro key s bq
  rcases H key s bq with ⟨E,fn,tm,rfl,rfl,h1,h2,h3,h4⟩|⟨e,h1,h2⟩
  ·exact La7 hti hm h1 h2 h3 h4 fun F hX=>Cb0 aj hX fun key s h=>ih key s h
  ·intro vals w G ds di bp hX aw
   simp only[jJ,h1]at aw;exact h2 vals w G ds di bp hX aw
theorem contracts {P:Program}{T:Nat->Ent}{ti:Nat->Option TI}{sigs:List (Nat×Sig)}(hti:uO P ti)(hm:P.follows .mixedOrders=true)(H:∀ key s,(key,s)∈sigs->Ta3 P T ti sigs key s) :
  ∀ n key s,(key,s)∈sigs->tN P T n key s :=
 fun n key s bq vals w G ds di bp aw=>Vax (X:=fun _ _=>True) (fun _ _ _ _ _ _ _=>trivial) hti hm (fun key s h=>(H key s h).toX) n key s bq vals w G ds di bp trivial aw
inductive Ty where
 |int (k:IntKind)
 |bool
 |str
 |sl (bytes:Nat) (row:List Ty)
mutual
def WT:Ty->D->Prop
 |.int k,d=>∃ n,d=.int k n/\k.min<=n/\n<=k.max
 |.bool,d=>∃ b,d=.bool b
 |.str,d=>∃ s,d=.str s/\s.length<=reachBytes
 |.sl bytes row,d=>∃ rs,d=.rows row.length rs/\rs.length*bytes<=reachBytes/\∀ r∈rs,WTs row r
def WTs:List Ty->List D->Prop
 |[],ds=>ds=[]
 |t::ts,ds=>∃ d di,ds=d::di/\WT t d/\WTs ts di
end
def Wab (P:Program)(rec:TypeId->Option (List Ty)):Nat->List Field->Option (List Ty)
 |_,[]=>some []
 | off, f :: fs => match rec f.type with
  |some r=>bif Nat.beq f.offset off&&Nat.beq r.length (P.cellsOf f.type) then (Wab P rec (off+r.length) fs).map (r++·) else none
  |none=>none
def Iae (P:Program):Nat->TypeId->Option (List Ty)
 |0,_=>none
 | n + 1, t => match P.underlying t with
  |some .bool=>some [.bool]
  |some (.int k)=>some [.int k]
  |some .string=>some [.str]
  | some (.slice e) => match Iae P n e with
   |some r=>bif Nat.beq r.length (P.cellsOf e) then some [.sl (P.bytesOf e) r] else none
   |none=>none
  | some (.struct fs) => match Wab P (Iae P n) 0 fs.toList with
   |some r=>bif Nat.beq r.length (P.cellsOf t) then some r else none
   |none=>none
  |_=>none
def iH (w:World):List Ty->List Value->List D->Prop
 |[],cs,ds=>cs=[]/\ds=[]
 |t::ts,cs,ds=>∃ c ke d di,cs=c::ke/\ds=d::di/\Rd (fun _=>True) w c d/\WT t d/\iH w ts ke di
theorem iH.append {w:World}:∀ {ts ts':List Ty} {cs ke:List Value} {ds di:List D},iH w ts cs ds->iH w ts' ke di->iH w (ts++ts') (cs++ke) (ds++di)
 | [], ts', cs, ke, ds, di, h, h' => by
  obtain⟨rfl,rfl⟩:=h;exact h'
 | t :: ts, ts', cs, ke, ds, di, h, h' => by
  obtain⟨c,c1,d,d1,rfl,rfl,h1,h2,h3⟩:=h;exact⟨c,c1++ke,d,d1++di,rfl,rfl,h1,h2,h3.append h'⟩
theorem iH.len {w:World}:∀ {ts:List Ty} {cs:List Value} {ds:List D},iH w ts cs ds->cs.length=ts.length/\ds.length=ts.length
 |[],cs,ds,h=>by obtain⟨rfl,rfl⟩:=h;exact⟨rfl,rfl⟩
 | t :: ts, cs, ds, h => by
  obtain⟨c,c1,d,d1,rfl,rfl,h1,h2,h3⟩:=h;obtain⟨h4,h5⟩:=h3.len;simp[h4,h5]
theorem iH.get {w:World}:∀ {ts:List Ty} {cs:List Value} {ds:List D},iH w ts cs ds->∀ {j:Nat} {d:D},ds[j]?=some d->∃ c,cs[j]?=some c/\Rd (fun _=>True) w c d
 |[],cs,ds,h,j,d,hj=>by obtain⟨rfl,rfl⟩:=h;simp at hj
 | t :: ts, cs, ds, h, j, d, hj => by
  obtain⟨c,c1,d',d1,rfl,rfl,h1,h2,h3⟩:=h
  cases j with
  | zero =>
   simp only[Qb9,Option.some.injEq]at hj;subst hj;exact⟨c,rfl,h1⟩
  | succ j =>
   obtain⟨c',h4,h5⟩:=h3.get (j:=j) (by simpa using hj);exact⟨c',by simpa using h4,h5⟩
theorem iH.wts {w:World}:∀ {ts:List Ty} {cs:List Value} {ds:List D},iH w ts cs ds->WTs ts ds
 |[],cs,ds,h=>by obtain⟨rfl,rfl⟩:=h;simp[WTs]
 | t :: ts, cs, ds, h => by
  obtain⟨c,c1,d',d1,rfl,rfl,h1,h2,h3⟩:=h;simp only[WTs];exact⟨d',d1,rfl,h2,h3.wts⟩
theorem Gas {α β:Type}{f:α->Option β}:∀ {l:List α} {ys:List β},l.mapM f=some ys->ys.length=l.length/\∀ (i:Nat) (x:α),l[i]?=some x->∃ y,ys[i]?=some y/\f x=some y
 | [], ys, h => by
  simp at h;subst h;simp
 | x :: l, ys, h => by
  simp only[List.mapM_cons,bind,Qb0,pure,Option.some.injEq]at h;obtain⟨y,h1,ys',h2,rfl⟩:=h;obtain⟨h3,h4⟩:=Gas h2;refine⟨by simp[h3],fun i z hz=>?_⟩
  cases i with
  | zero =>
   simp only[Qb9,Option.some.injEq]at hz;subst hz;exact⟨y,rfl,h1⟩
  | succ i =>
   obtain⟨y',h5,h6⟩:=h4 i z (by simpa using hz);exact⟨y',by simpa using h5,h6⟩
theorem Lam {β:Type}{p:Nat->β->Prop}:∀ (n:Nat),(∀ i,i<n->∃ y,p i y)->∃ l:List β,l.length=n/\∀ i y,l[i]?=some y->p i y
 |0,_=>⟨[],rfl,by simp⟩
 | n + 1, h => by
  obtain⟨l,h1,h2⟩:=Lam n fun i hi=>h i (by omega)
  obtain⟨y,hy⟩:=h n (by omega);refine⟨l++[y],by simp[h1],fun i z hz=>?_⟩
  rcases Nat.lt_trichotomy i n with hi|hi|hi
  ·rw[Rbm (by omega)]at hz
   exact h2 i z hz
  ·subst hi
   rw[Rbl (by omega),h1,Nat.sub_self]at hz;simp only[Qb9,Option.some.injEq]at hz;subst hz;exact hy
  ·have:=(List.getElem?_eq_some_iff.1 hz).1
   simp[h1]at this;omega
theorem yH {H:Type}{P:Program}{e:TypeId}:∀ {l:List (DataW H)} {d:DataW H},d∈l->∀ n∈d.weights P e,n∈DataW.weightsAll P e l
 |[],d,h,_,_=>by simp at h
 | x :: l, d, h, n, hn => by
  simp only[DataW.weightsAll,Sb5]
  rcases List.mem_cons.1 h with rfl|h
  ·exact .inl hn
  ·exact .inr (yH h n hn)
theorem tO {H:Type}{P:Program}{t:TypeId}{ts:List TypeId}{d:DataW H}{ds:List (DataW H)}:DataW.weightsEach P (t::ts) (d::ds)=d.weights P t++DataW.weightsEach P ts ds:=by
 simp only[DataW.weightsEach]
theorem Fau {P:Program}{w:World}{H:Type}{cs:List Value}{f:Field->List Value->Option (DataW H×List MemPlace)}{rec:TypeId->Option (List Ty)}
  (bd:∀ (fd:Field) (r:List Ty) (l:List Value) (y:DataW H×List MemPlace),rec fd.type=some r->f fd l=some y->(∀ m∈y.1.weights P fd.type,m<=reachBytes)->∃ ds,iH w r l ds) :
  ∀ {fs:List Field} {off:Nat} {ee:List Ty} {xs:List (DataW H×List MemPlace)},Wab P rec off fs=some ee->fs.mapM (fun fd=>f fd ((cs.drop fd.offset).take (P.cellsOf fd.type)))=some xs ->
  (∀ m∈DataW.weightsEach P (fs.map (·.type)) (xs.map (·.1)),m<=reachBytes)->cs.length=off+ee.length->∃ ds,iH w ee (cs.drop off) ds
 | [], off, ee, xs, h, _, _, hl => by
  simp only[Wab,Option.some.injEq]at h;subst h;refine⟨[],?_,rfl⟩;rw[List.drop_eq_nil_iff];simp only[List.length_nil]at hl;omega
 | fd :: fs, off, ee, xs, h, hm, hw, hl => by
  simp only[Wab]at h;split at h
  case h_2=>cases h
  rename_i r hr
  cases hb:(Nat.beq fd.offset off&&Nat.beq r.length (P.cellsOf fd.type)) with
  |false=>rw[hb]at h;cases h
  | true =>
   rw[hb,cond_true,Rbc]at h;obtain⟨zg,h1,rfl⟩:=h;simp only[Qb1,Rbv]at hb;obtain⟨rfl,eV⟩:=hb;simp only[List.mapM_cons,bind,Qb0,pure,Option.some.injEq]at hm;obtain⟨y,h2,ys,h3,rfl⟩:=hm;simp only[Rbt,tO,Sb5]at hw;obtain⟨ds,h4⟩:=bd fd r _ y hr h2 fun m hm=>hw m (.inl hm)
   rw[Qb6]at hl;obtain⟨di,h5⟩:=Fau bd (off:=fd.offset+r.length) h1 h3 (fun m hm=>hw m (.inr hm)) (by omega);refine⟨ds++di,?_⟩;have:=h4.append h5;rw[<- eV]at this
   have e:List.take r.length (List.drop fd.offset cs)++List.drop (fd.offset+r.length) cs=List.drop fd.offset cs:=by
    rw[<- List.drop_drop,List.take_append_drop]
   rw[e]at this;exact this
theorem Cai {P:Program}{H:Type}{enc:TypeId×Value->H}{w:World}{sp:Nat->Bool}{held:Bool}:∀ (n fuel:Nat) {t:TypeId} {cs:List Value} {x:DataW H} {ps:List MemPlace} {ee:List Ty},Iae P n t=some ee->DataW.trod enc P w 0 sp held fuel t cs=some (x,ps) ->
  (∀ m∈x.weights P t,m<=reachBytes)->∃ ds,iH w ee cs ds
 |0,_,t,cs,x,ps,ee,h,_,_=>by simp[Iae]at h
 |n+1,0,t,cs,x,ps,ee,_,h,_=>by simp[DataW.trod]at h
 | n + 1, fuel + 1, t, cs, x, ps, ee, ht, h, hw => by
  simp only[Iae]at ht;unfold DataW.trod at h;split at ht
  ·
   rename_i hu;rw[hu]at h;simp only[Option.some.injEq]at ht;subst ht;split at h<;>rename_i heq<;>first|(cases heq;done)|skip
   all_goals first|(injection heq with heq;cases heq;done)|skip
   ·exact⟨_,_,[],_,[],rfl,rfl,.sc (.bool _),⟨_,rfl⟩,rfl,rfl⟩
   ·cases h
  ·
   rename_i k hu;rw[hu]at h;simp only[Option.some.injEq]at ht;subst ht;split at h<;>rename_i heq<;>first|(cases heq;done)|skip
   all_goals first|(injection heq with heq;cases heq;done)|skip
   ·rename_i k0 k' m
    injection heq with heq
    injection heq with heq
    subst heq;split at h
    ·rename_i hc
     obtain⟨rfl,ic⟩:=hc;simp only[Lit.wf,Qb1,decide_eq_true_eq]at ic;exact⟨_,_,[],_,[],rfl,rfl,.sc (.int _ _),⟨_,rfl,ic.1,ic.2⟩,rfl,rfl⟩
    ·cases h
   ·cases h
  ·
   rename_i hu;rw[hu]at h;simp only[Option.some.injEq]at ht;subst ht;split at h<;>rename_i heq<;>first|(cases heq;done)|skip
   all_goals first|(injection heq with heq;cases heq;done)|skip
   ·rename_i s0
    split at h
    ·simp only[Option.some.injEq,Prod.mk.injEq]at h
     obtain⟨rfl,rfl⟩:=h;refine⟨_,_,[],_,[],rfl,rfl,.sc (.str s0.data.toList),⟨_,rfl,hw _ ?_⟩,rfl,rfl⟩;simp only[DataW.weights,Rbb]
    ·cases h
   ·cases h
  ·
   rename_i e hu;split at ht
   case h_2=>cases ht
   rename_i r hr
   cases hb:Nat.beq r.length (P.cellsOf e) with
   |false=>rw[hb]at ht;cases ht
   | true =>
    rw[hb,cond_true]at ht;simp only[Option.some.injEq]at ht;subst ht;simp only[Rbv]at hb;rw[hu]at h;split at h<;>rename_i heq<;>first|(cases heq;done)|skip
    all_goals first|(injection heq with heq;cases heq;done)|skip
    ·injection heq with heq
     injection heq with heq
     subst heq;simp only[Option.some.injEq,Prod.mk.injEq]at h;obtain⟨rfl,rfl⟩:=h;refine⟨_,_,[],.rows r.length [],[],rfl,rfl,.rows none ⟨0,0,none⟩ 0 0 r.length [] (fun _ _=>undef) rfl (Rbg _) (.inl rfl) (by simp) (by simp) (by simp),⟨[],rfl,by simp,by simp⟩,rfl,rfl⟩
    ·rename_i e0 ad len cap
     injection heq with heq
     injection heq with heq
     subst heq;dsimp only at h;split at h
     case isFalse=>cases h
     rename_i hc;simp only[Qb0,Rbc,Prod.mk.injEq]at h;obtain⟨elems,h1,rest,h2,rfl,rfl⟩:=h;obtain⟨h3,h4⟩:=Gas h1;rw[List.length_range]at h3;simp only[DataW.weights,hu,Rb2,Sb5]at hw
     have dt:∀ i,i<len->∃ ds:List D,∃ cs:List Value,(∀ j c,cs[j]?=some c->w.cell? (ad.add (i*r.length+j))=some c)/\iH w r cs ds:=by
      intro i hi;obtain⟨y,h5,h6⟩:=h4 i i (by rw[Ubg hi]);simp only[Qb0]at h6;obtain⟨cs,h7,h8⟩:=h6;obtain⟨x,ps⟩:=y;obtain⟨ds,h9⟩:=Cai n fuel hr h8 fun m hm=>hw m (.inr (.inl (yH (List.mem_map.2 ⟨_,Rbi h5,rfl⟩) m hm)))
      refine⟨ds,cs,fun j c hj=>?_,h9⟩;unfold World.cells? at h7;split at h7
      ·obtain⟨bo,b9⟩:=Gas h7
       have fN:=(List.getElem?_eq_some_iff.1 hj).1;rw[bo,List.length_range]at fN;obtain⟨c',cL,fp⟩:=b9 j j (by rw[Ubg fN]);rw[hj]at cL;obtain rfl:=Option.some.inj cL;rw[add_add,<- hb]at fp;exact fp
      ·cases h7
     obtain⟨rs,h5,h6⟩:=Lam len dt
     have hex:∀ i,∃ cs:List Value,∀ ds,rs[i]?=some ds->(∀ j c,cs[j]?=some c->w.cell? (ad.add (i*r.length+j))=some c)/\iH w r cs ds:=by
      intro i
      cases hi:rs[i]? with
      |none=>exact⟨[],fun ds h=>by cases h⟩
      | some ds =>
       obtain⟨cs,h7,h8⟩:=h6 i ds hi;exact⟨cs,fun di h=>by obtain rfl:=Option.some.inj h;exact⟨h7,h8⟩⟩
     have vt:∃ cf:Nat->List Value,∀ i ds,rs[i]?=some ds->(∀ j c,(cf i)[j]?=some c->w.cell? (ad.add (i*r.length+j))=some c)/\iH w r (cf i) ds:=⟨fun i=>(hex i).choose,fun i=>(hex i).choose_spec⟩;obtain⟨cf,qe⟩:=vt
     have hlen:∀ row∈rs,row.length=r.length:=fun row dt=>by
      obtain⟨i,hi⟩:=List.mem_iff_getElem?.1 dt;exact ((qe i row hi).2.len).2
     refine⟨[.rows r.length rs],_,[],_,[],rfl,rfl,?_,⟨rs,rfl,?_,fun row dt=>?_⟩,rfl,rfl⟩
     ·refine .rows _ ad len cap r.length rs (fun i j=>((cf i)[j]?).getD undef) h5 hc.2.1 (.inr rfl) hlen (fun i row hi j d hj=>?_) (fun i row hi j d hj=>?_)
      ·obtain⟨c,h7,h8⟩:=(qe i row hi).2.get hj
       refine⟨trivial,?_⟩;rw[(qe i row hi).1 j c h7,h7];rfl
      ·obtain⟨c,h7,h8⟩:=(qe i row hi).2.get hj
       rw[h7];exact h8
     ·have:=hw _ (.inl rfl)
      rw[Rbh,Rbh,h3]at this;rw[h5];exact Nat.le_trans (Nat.mul_le_mul_right _ (Nat.le_add_right ..)) this
     ·obtain⟨i,hi⟩:=List.mem_iff_getElem?.1 dt
      exact (qe i row hi).2.wts
    ·cases h
  ·
   rename_i fs hu;split at ht
   case h_2=>cases ht
   rename_i r hr
   cases hb:Nat.beq r.length (P.cellsOf t) with
   |false=>rw[hb]at ht;cases ht
   | true =>
    rw[hb,cond_true]at ht;simp only[Option.some.injEq]at ht;subst ht;simp only[Rbv]at hb;rw[hu]at h;split at h<;>rename_i heq<;>first|(cases heq;done)|skip
    all_goals first|(injection heq with heq;cases heq;done)|skip
    ·rename_i cs0 x0 cs1 fs2
     injection heq with heq
     injection heq with heq
     subst heq;split at h
     case isFalse=>cases h
     rename_i hc;simp only[Rbc,Prod.mk.injEq]at h;obtain⟨xs,h1,rfl,rfl⟩:=h;simp only[DataW.weights,hu]at hw
     obtain⟨ds,h2⟩:=Fau (w:=w) (cs:=cs0) (f:=fun fd l=>DataW.trod enc P w 0 sp held fuel fd.type l) (rec:=Iae P n)
      (fun fd r l y hr' hy sy=>Cai n fuel hr' (x:=y.1) (ps:=y.2) hy sy) hr h1 hw (by omega)
     exact⟨ds,by simpa using h2⟩
    ·exact ((by assumption:∀ (a2f:Array Field),some (TypeDesc.struct fs)=some (TypeDesc.struct a2f)->False) fs rfl).elim
  ·cases ht
open Go.ChangeShapes Go.RowKit
def Xah:Ty->LS
 |.sl _ _=>.fz false
 |_=>.sc
def Fbx (P:Program)(t:TypeId):Bool:=match P.underlying t with
 |some (.struct _)=>true
 |_=>false
def nK (P:Program):List TypeId->Option (List (Bool×List LS)×List Ty)
 |[]=>some ([],[])
 | t :: ts => match Iae P 12 t, nK P ts with
  |some r,some (ps,ee)=>some ((Fbx P t,r.map Xah)::ps,r++ee)
  |_,_=>none
def Lbn:Gh:=⟨fun _=>.frz,fun _=>undef,fun _=>⟨0,0,none⟩⟩
theorem Zab:∀ (ee:List Ty),Va5 (ee.map Xah)=ee.length/\jG (ee.map Xah)=0
 |[]=>⟨rfl,rfl⟩
 | t :: ee => by
  obtain⟨h1,h2⟩:=Zab ee;cases t<;>simp[Va5,jG,Xah,LS.cnt,LS.rcnt,h1,h2]<;>omega
theorem Eag {w:World}{ρ:List D}:∀ {ee:List Ty} {cs:List Value} {ds:List D} {i:Nat},iH w ee cs ds->(∀ j d,ds[j]?=some d->(aI.v (i+j)).val ρ=d)->rF Lbn w ρ 0 i 0 (ee.map Xah) cs
 |[],cs,ds,i,h,_=>by obtain⟨rfl,rfl⟩:=h;rfl
 | t :: ee, cs, ds, i, h, hv => by
  obtain⟨c,ke,d,di,rfl,rfl,h1,h2,h3⟩:=h;have xa:(aI.v i).val ρ=d:=by have:=hv 0 d rfl;rwa[Rbx]at this
  have hr:(Xah t).rcnt=0:=by cases t<;>rfl
  have hc:(Xah t).cnt=1:=by cases t<;>rfl
  refine⟨c,ke,rfl,?_,?_⟩
  ·cases t with
   | int k =>
    obtain⟨n,rfl,-⟩:=h2;simp only[Xah,jV,xa];exact h1.sc_inv rfl
   | bool =>
    obtain⟨n,rfl⟩:=h2;simp only[Xah,jV,xa];exact h1.sc_inv rfl
   | str =>
    obtain⟨n,rfl,-⟩:=h2;simp only[Xah,jV,xa];exact h1.sc_inv rfl
   | sl bytes row =>
    simp only[Xah,jV,xa];exact⟨h1.mono fun b _=>⟨rfl,rfl⟩,fun e=>absurd e (by decide)⟩
  ·rw[hr,hc]
   refine Eag (i:=i+1) h3 fun j d' hj=>?_
   have:=hv (j+1) d' (by simpa using hj);rwa[show i+(j+1)=i+1+j by omega]at this
theorem Oai {P:Program}{W:World}{base:Nat}{n:Nat}{t:TypeId}{ee:List Ty}{v:Value}(h:Iae P n t=some ee)(hv:Value.okWide P W .any base t v):if Fbx P t=true then v=.agg v.cells.toList.toArray else v.cells.toList=[v]:=by
 cases n with
 |zero=>simp[Iae]at h
 | succ n =>
  unfold Value.okWide at hv;unfold Fbx;simp only[Iae]at h
  cases hu:P.underlying t with
  |none=>rw[hu]at h;cases h
  | some u =>
   rw[hu]at h hv
   cases u with
   | struct fs =>
    obtain⟨cs,rfl,-⟩:=hv;simp[Value.cells]
   | bool =>
    simp only[Cell.okWide,Cell.ok,hu]at hv;cases v<;>simp at hv
    simp[Value.cells]
   | int k =>
    simp only[Cell.okWide,Cell.ok,hu]at hv;cases v<;>simp at hv
    simp[Value.cells]
   | string =>
    simp only[Cell.okWide,Cell.ok,hu]at hv;cases v<;>simp at hv
    simp[Value.cells]
   | slice e =>
    simp only[Cell.okWide,Cell.ok,hu]at hv;cases v<;>simp at hv
    simp[Value.cells]
   |_=>cases h
theorem Ja2 {P:Program}{H:Type}{enc:TypeId×Value->H}{W:World}{sp:Nat->Bool}{held:Bool}{base:Nat}:∀ {ts:List TypeId} {vs:List Value} {ds:List (DataW H)} {ps:List MemPlace} {xf:List (Bool×List LS)} {ee:List Ty},
  nK P ts=some (xf,ee)->DataW.TrodAll enc P W 0 sp held ts vs ds ps->(∀ (j:Nat) t v,ts[j]?=some t->vs[j]?=some v->Value.okWide P W .any base t v)->(∀ m∈DataW.weightsEach P ts ds,m<=reachBytes) ->
  ∃ dd,WTs ee dd/\dd.length=ee.length/\ee.length=Kad xf/\iP xf=0/\∀ (ρ:List D) (i:Nat),(∀ j d,dd[j]?=some d->(aI.v (i+j)).val ρ=d)->jO Lbn W ρ 0 i 0 xf vs
 | [], vs, ds, ps, xf, ee, h, ht, _, _ => by
  simp only[nK,Option.some.injEq,Prod.mk.injEq]at h;obtain⟨rfl,rfl⟩:=h
  cases vs with
  |cons v vs=>cases ds<;>exact ht.elim
  |nil=>exact⟨[],rfl,rfl,rfl,rfl,fun ρ i _=>rfl⟩
 | t :: ts, vs, ds, ps, xf, ee, h, ht, hv, hw => by
  simp only[nK]at h;split at h
  case h_2=>cases h
  rename_i r sps' zg hr hl;simp only[Option.some.injEq,Prod.mk.injEq]at h;obtain⟨rfl,rfl⟩:=h
  cases vs with
  |nil=>cases ds<;>exact ht.elim
  | cons v vs =>
   cases ds with
   |nil=>exact ht.elim
   | cons d ds =>
    obtain⟨p,q,⟨fuel,h1⟩,h2,rfl⟩:=ht;rw[tO]at hw;obtain⟨dd,h3⟩:=Cai 12 fuel hr h1 fun m hm=>hw m (Qb2 _ hm)
    obtain⟨dd',h4,h5,h6,h7,h8⟩:=Ja2 hl h2 (fun j t' v' hj dv=>hv (j+1) t' v' (by simpa using hj) (by simpa using dv)) fun m hm=>hw m (Qb5 _ hm)
    obtain⟨sT,ny⟩:=Zab r;obtain⟨oa,tG⟩:=h3.len;refine⟨dd++dd',?_,by simp[tG,h5],by simp only[Qb6,Kad,sT,h6],by simp only[iP,ny,h7],fun ρ i b5=>?_⟩
    ·have:∀ {a:List Ty} {x:List D},WTs a x->WTs (a++zg) (x++dd'):=by
      intro a
      induction a with
      |nil=>intro x hx;simp only[WTs]at hx;subst hx;exact h4
      | cons t a ih =>
       intro x hx;simp only[WTs]at hx;obtain⟨y,ys,rfl,th,tj⟩:=hx;simp only[Sby,WTs];exact⟨y,_,rfl,th,ih tj⟩
     exact this h3.wts
    ·refine⟨v,vs,v.cells.toList,rfl,Eag h3 fun j d' hj=>b5 j d' (by rw[Rbm (List.getElem?_eq_some_iff.1 hj).1];exact hj),Oai hr (hv 0 t v rfl rfl),?_⟩
     rw[sT,ny];refine h8 ρ (i+r.length) fun j d' hj=>?_
     rw[Rbn,<- tG];exact b5 _ _ (by rw[Rbl (by omega),Rb1];exact hj)
theorem Aaf {P:Program}{H:Type}{enc:TypeId×Value->H}(hl:laidOutB P=true){W W':World}(hb:Below W.heap.size W W'):∀ {ts:List TypeId} {vs:List Value} {ds:List (DataW H)} {ps:List MemPlace},(ts.all fun t=>P.readableRec t&&decide (t<P.types.size))=true ->
  DataW.TrodAll enc P W 0 (fun _=>true) true ts vs ds ps->DataW.TrodAll enc P W' 0 (fun b=>decide (b<W.heap.size)) true ts vs ds ps
 |[],[],[],ps,_,h=>h
 |[],[],_::_,ps,_,h=>h.elim
 |[],_::_,_,ps,_,h=>h.elim
 |_::_,[],_,ps,_,h=>h.elim
 |_::_,_::_,[],ps,_,h=>h.elim
 | t :: ts, v :: vs, d :: ds, ps, hr, h => by
  simp only[List.all_cons,Qb1,decide_eq_true_eq]at hr;obtain⟨p,q,h1,h2,rfl⟩:=h;refine⟨p,q,Below.trod hl hr.1.1 hr.1.2 h1 hb ?_,Aaf hl hb hr.2 h2,rfl⟩;obtain⟨m,hm⟩:=h1;exact DataW.trod_lt m _ _ _ hm
theorem Ua2 {P : Program} {X : (Nat -> Ow) -> World -> Prop} {T : Nat -> Ent} {key : Nat} {s : Sig} {fn : Func} {c : Code} (hc : ∀ n, Cag P X T n key s) (hfn : P.funcs[s.fn]? = some fn) (hname : (fn.name == "runtime.NumGoroutine") = false) (hbody : fn.body = some c)
  {ee:List Ty} (jw:nK P fn.params.toList=some (s.params,ee)) (cT:s.boxes=[]) (fk:s.results=[(false,[.sc])]) (hpure:∀ ds,WTs ee ds->∃ n,jJ T n key ds=some [.bool true])
  {H:Type} {enc:TypeId×Value->H} {W:World} {base:Nat} {args:Array Value} {ds:List (DataW H)} {ps:List MemPlace}
  (b5:∀ (j:Nat) t v,fn.params[j]?=some t->args[j]?=some v->Value.okWide P W .any base t v) (ht:DataW.TrodAll enc P W 0 (fun _=>true) true fn.params.toList args.toList ds ps)
  (hw:∀ m∈DataW.weightsEach P fn.params.toList ds,m<=reachBytes) (hX:X (fun _=>.frz) W):Calls P s.fn args W fun e W'=>e=.returned (.bool true)/\Below W.heap.size W W':=by
 obtain⟨dd,h1,h2,h3,h4,h5⟩:=Ja2 (base:=base) jw ht (fun j t v hj hv=>b5 j t v (by simpa using hj) (by simpa using hv)) hw;obtain⟨n,hn⟩:=hpure dd h1
 have bp:Za2 s args.toList W Lbn dd:=by
  refine⟨?_,?_,?_,fun _ _=>rfl,fun b j _ e=>by cases e⟩
  ·rw[cT]
   exact h5 dd 0 fun j d hj=>by simp[aI.val,Qb8,hj]
  ·rw[cT];trivial
  ·rw[h2,h3,cT];rfl
 have c5:=hc n args.toList W Lbn dd _ bp hX hn;have e:args.toList.toArray=args:=by simp
 rw[e]at c5
 rcases c5 with ⟨-,bl⟩|⟨v,w',hr,-⟩
 ·refine Calls.mono bl fun en W' he=>?_
  cases en with
  | returned v =>
   obtain⟨G,us,rfl,hF,cm,-⟩:=he;rw[fk]at cm;obtain⟨u,bn,vs,rfl,hl,mA,c7⟩:=cm;simp only[Kak]at c7;subst c7;simp only[Qb4,if_false]at mA;subst mA;obtain⟨u',zl,e2,gb,-⟩:=hl;obtain⟨rfl,rfl⟩:=List.cons.inj e2;simp only[kW]at gb
   have hu:u=.bool true:=by
    have:([D.bool true].getD 0 .undef)=D.bool true:=rfl;rw[this]at gb;exact gb.bool_inv
   subst hu;exact⟨rfl,hF.os,hF.tape,hF.output,hF.size,fun k hk=>(hF.keep k hk (.inl rfl)).1⟩
  |panicked c=>exact he.elim
  |outgrown=>exact he.elim
 ·rw[gP hfn hname hbody]at hr
  cases hr
theorem Xap {P : Program} {T : Nat -> Ent} {key : Nat} {s : Sig} {fn : Func} {c : Code} (hc : ∀ n, tN P T n key s) (hfn : P.funcs[s.fn]? = some fn) (hname : (fn.name == "runtime.NumGoroutine") = false) (hbody : fn.body = some c)
  {ee:List Ty} (jw:nK P fn.params.toList=some (s.params,ee)) (cT:s.boxes=[]) (fk:s.results=[(false,[.sc])]) (hpure:∀ ds,WTs ee ds->∃ n,jJ T n key ds=some [.bool true])
  {H:Type} {enc:TypeId×Value->H} {W:World} {base:Nat} {args:Array Value} {ds:List (DataW H)} {ps:List MemPlace}
  (b5:∀ (j:Nat) t v,fn.params[j]?=some t->args[j]?=some v->Value.okWide P W .any base t v) (ht:DataW.TrodAll enc P W 0 (fun _=>true) true fn.params.toList args.toList ds ps)
  (hw:∀ m∈DataW.weightsEach P fn.params.toList ds,m<=reachBytes):Calls P s.fn args W fun e W'=>e=.returned (.bool true)/\Below W.heap.size W W' :=
 Ua2 (X:=fun _ _=>True) (fun n vals w G ds di hp _ h=>hc n vals w G ds di hp h) hfn hname hbody jw cT fk hpure b5 ht hw trivial
open Go.ChangeShapes Go.RowKit in
theorem Ua1 {C : Checked} {spec : ChangeSpec} {T : Nat -> Ent} {key : Nat} {s : Sig} {fn : Func} {c : Code} {conds : List PathCond} (own : ownKnob C.prog.godebug = none) (laid : laidOutB C.prog = true) (hc : ∀ n, tN C.prog T n key s) (hfn : C.prog.funcs[s.fn]? = some fn) (hname : (fn.name == "runtime.NumGoroutine") = false) (hbody : fn.body = some c)
  {ee:List Ty} (jw:nK C.prog fn.params.toList=some (s.params,ee)) (cT:s.boxes=[]) (fk:s.results=[(false,[.sc])]) (hpure:∀ ds,WTs ee ds->∃ n,jJ T n key ds=some [.bool true])
  (x5:(fn.params.toList.all fun t=>C.prog.readableRec t&&decide (t<C.prog.types.size))=true) {rt:TypeId} (kd:fn.resultTypes=#[rt]) (hrb:C.prog.underlying rt=some .bool)
  (oq:spec.vars=[]) (zj:∀ (H:Type) (ds:List (DataW H)),ds.length=fn.params.size->spec.fn H ds={ results:=[.lit (.bool true)],args:=ds,vars:=[] }) (xp:C.prog.inits.idxOf? s.fn=none)
  (os:Os) (started:os.Started) (H:Type) (enc:TypeId×Value->H)
  (witness:∃ (w:World) (tape:Tape) (i:Input),w.os=os/\(w.forCall tape i).Shaped C.prog/\i.vars=[]/\Input.okWide C.prog (w.forCall tape i) .any w.heap.size s.fn i /\
   spec.pre6 enc C.prog fn conds false (w.forCall tape i).memory i.args/\({}:Assume).holds C.prog (lone (Frame.enter C.prog s.fn i.args .normal) [] (w.forCall tape i))) :
  ReturnsInHanded {} C os s.fn .any (spec.pre6 enc C.prog fn conds false) (spec.post enc C.prog fn false true false false):=by
 refine returnsInHanded_of_change_sized own started xp hfn witness ?_;intro W base args ds gs before b5 hW _ b7 _;have hW':=hW;obtain⟨p,q,hA,hV,rfl,jk,mT⟩:=hW;rw[oq]at hV;obtain⟨rfl,rfl⟩:=trodVars_none hV
 have hvt:spec.plain.varTypes C.prog=[]:=by
  simp[ChangeSpec.plain,DataSpec.varTypes,oq]
 rw[hvt,Rbs,Rbs]at b7
 have hlen:∀ {ts:List TypeId} {vs:List Value} {ds:List (DataW H)} {ps:List MemPlace},DataW.TrodAll enc C.prog W 0 (fun _=>true) true ts vs ds ps->ds.length=ts.length:=by
  intro ts
  induction ts with
  | nil =>
   intro vs ds ps h;cases vs<;>cases ds<;>first|rfl|exact h.elim
  | cons t ts ih =>
   intro vs ds ps h;cases vs<;>cases ds<;>first|exact h.elim|skip
   obtain⟨p,q,-,h2,-⟩:=h;simp[ih h2]
 have hl:=hlen hA;refine (Xap hc hfn hname hbody jw cT fk hpure b5 hA (fun m hm=>?_)).mono fun e W' ⟨he,bel⟩=>?_
 ·rw[Rbu]at b7
  simpa using b7 m hm
 ·subst he
  have fg:=zj H (ds++[]) (by simpa using hl);refine⟨_,rfl,ds,[],_,[],p,[],hW',?_,?_,?_,bel.frame _,fun h=>by cases h⟩
  ·rw[fg,kd]
   exact trodAll_mk1 (shut_bool hrb _)
  ·rw[fg]
   simp only[Rbs];exact Aaf laid bel x5 hA
  ·rw[fg,oq]
   rfl
end Go.Proofs.YtpgnlmfmlffjcaaGreat.Rf
namespace Go.Proofs.YtpgnlmfmlffjcaaGreat.Rf
def iZ:List (Nat×TI)->Nat->Option TI
 |[],_=>none
 |(k,i)::r,t=>bif Nat.beq k t then some i else iZ r t
theorem Sai {P:Program}:∀ {l:List (Nat×TI)},(∀ p∈l,Kaq P p.1=some p.2)->uO P (iZ l)
 |[],_=>⟨fun t i h=>by cases h⟩
 | (k, i) :: r, h => ⟨fun t j ht => by
  simp only[iZ]at ht
  cases hb:Nat.beq k t with
  | true =>
   rw[hb,cond_true]at ht;simp only[Rbv]at hb;subst hb;rw[<- ht];exact h (k,i) Rbj
  | false =>
   rw[hb,cond_false]at ht;exact (Sai fun p hp=>h p (Rbd _ hp)).ok t j ht⟩
def Pad:List (Nat×Ent)->Nat->Ent
 |[],_=>.none
 |(k,e)::r,t=>bif Nat.beq k t then e else Pad r t
theorem Taj {P:Program}{T:Nat->Ent}{ti:Nat->Option TI}{sigs:List (Nat×Sig)}(h:∀ p∈sigs,Ta3 P T ti sigs p.1 p.2):∀ key s,(key,s)∈sigs->Ta3 P T ti sigs key s:=fun key s hm=>h (key,s) hm
theorem Yal {P : Program} {T : Nat -> Ent} {E : Env} {key : Nat} {s : Sig} {fn : Func} {tm : Tm Unit} (h1 : P.funcs[s.fn]? = some fn) (h2 : (fn.name == "runtime.NumGoroutine") = false) (h3 : Uai E s fn = some tm) (h4 : T key = .tm tm) : Ta3 P T E.ti E.sigs key s :=
 .inl ⟨E,fn,tm,rfl,rfl,h1,h2,h3,h4⟩
theorem fnK {P : Program} {T : Nat -> Ent} {E : Env} {key : Nat} {s : Sig} {fn : Func} {tm : Tm Unit} (h1 : P.funcs[s.fn]? = some fn) (h : (fn.name == "runtime.NumGoroutine", Uai E s fn, T key) = (false, some tm, .tm tm)) : Ta3 P T E.ti E.sigs key s :=
 Yal h1 (congrArg (·.1) h) (congrArg (·.2.1) h) (congrArg (·.2.2) h)
theorem fc {α:Type}{p:α->Prop}{a:α}{l:List α}(h:p a)(h':∀ x∈l,p x):∀ x∈a::l,p x:=List.forall_mem_cons.2 ⟨h,h'⟩
theorem fc0 {α:Type}{p:α->Prop}:∀ x∈([]:List α),p x:=List.forall_mem_nil _
theorem Ebw {T:Nat->Ent}{key:Nat}{ds r:List D}(h:Fun T key ds=some r):∃ n,jJ T n key ds=some r:=Fan.1 h
def apL (e d:Nat):Nat->List Nat
 |0=>[]
 |n+1=>(e-d*(n+1))::apL e d n
abbrev i64 (n:Int):D:=.int .i64 n
theorem wrap_i64 {n:Int}(h1:-9223372036854775808<=n)(h2:n<=9223372036854775807):IntKind.i64.wrap n=n:=IntWalk.i64_in n ⟨h1,h2⟩
section
variable {T:Nat->Ent} {β:Type}
end
theorem Ebl {a b:Int}:(aR.bin .lss).run [i64 a,i64 b]=some [.bool (decide (a<b))]:=by simp[aR.run,Mam,yD]
theorem Ebn {a b:Int}:(aR.bin .gtr).run [i64 a,i64 b]=some [.bool (decide (a>b))]:=by simp[aR.run,Mam,yD]
theorem Ebm {a b:Int}:(aR.bin .leq).run [i64 a,i64 b]=some [.bool (decide (a<=b))]:=by simp[aR.run,Mam,yD]
theorem Ebo {a b:Int}:(aR.bin .geq).run [i64 a,i64 b]=some [.bool (decide (a ≥ b))]:=by simp[aR.run,Mam,yD]
theorem Ebk {a b:Int}:(aR.bin .neq).run [i64 a,i64 b]=some [.bool (!(a==b))]:=by simp[aR.run,Mam,yD,bne]
theorem Ebp {a b:Int}:(aR.bin .eql).run [i64 a,i64 b]=some [.bool (a==b)]:=by simp[aR.run,Mam,yD]
theorem Ebs {a b:Int}(h1:-9223372036854775808<=a+b)(h2:a+b<=9223372036854775807):(aR.bin .add).run [i64 a,i64 b]=some [i64 (a+b)]:=by simp[aR.run,Mam,yD,wrap_i64 h1 h2]
theorem Qaw {a b:Int}(h1:-9223372036854775808<=a-b)(h2:a-b<=9223372036854775807):(aR.bin .sub).run [i64 a,i64 b]=some [i64 (a-b)]:=by simp[aR.run,Mam,yD,wrap_i64 h1 h2]
theorem Ebj {b:Bool}:aR.not.run [.bool b]=some [.bool (!b)]:=rfl
theorem Ebq {a b:Bool}:(aR.eqb true).run [.bool a,.bool b]=some [.bool (!(a==b))]:=rfl
section
variable {T:Nat->Ent}
end
def upto {α:Type}(z:α)(ys:List α)(i:Nat):List α:=ys.take i++Rbf (ys.length-i) z
theorem Va8 {α:Type}(z:α)(ys:List α):upto z ys 0=Rbf ys.length z:=by simp[upto]
theorem Aba {α:Type}(z:α)(ys:List α):upto z ys ys.length=ys:=by simp[upto]
theorem Za9 {α:Type}(z:α)(ys:List α){i:Nat}(h:i<=ys.length):(upto z ys i).length=ys.length:=by simp[upto];omega
theorem Za8 {α:Type}(z:α)(ys:List α){i:Nat}{y:α}(h:ys[i]?=some y):(upto z ys i).set i y=upto z ys (i+1):=by
 have hlt:=(List.getElem?_eq_some_iff.1 h).1;apply List.ext_getElem?;intro j;rw[List.getElem?_set];unfold upto;rw[Qb6,Rbq,Rbw];by_cases e:i=j
 ·subst e
  rw[if_pos rfl,if_pos (by omega),Rbm (by simp;omega),Sbc,if_pos (by omega)];exact h.symm
 ·rw[if_neg e]
  rcases Rbo j i with hj|hj
  ·rw[Rbm (by simp;omega),Rbm (by simp;omega),Sbc,Sbc,if_pos hj,if_pos (by omega)]
  ·rw[Rbl (by simp;omega),Rbl (by simp;omega),Tba,Tba]
   simp only[Rbq];by_cases h2:j<ys.length
   ·rw[if_pos (by omega),if_pos (by omega)]
   ·rw[if_neg (by omega),if_neg (by omega)]
section
variable {T:Nat->Ent} {β:Type}
noncomputable def Er (T:Nat->Ent)(t:Tm β)(ρ:List D):Option (Kind×List D):=(Ev T t ρ).map fun o=>(o.kind,o.vals)
def Ob8 (r:Kind×List D):Option (List D):=if r.1=.ret then some r.2 else none
def Pbd {α:Type}(d:D)(a b:Option α):Option α:=match d with
 |.bool true=>a
 |.bool false=>b
 |_=>none
def gdR (d:D)(w:Bool):Bool:=match d with
 |.bool b=>b==w
 |_=>false
theorem Mbj {f:Nat}{t:Tm Unit}(h:T f=.tm t)(args:List D):Fun T f args=(Er T t args).bind Ob8:=by
 rw[Ibt h,Er];cases Ev T t args<;>rfl
theorem Fb5 (k:Kind)(xs:List aI)(e:β)(ρ:List D):Er T (.leaf k xs e) ρ=some (k,xs.map (·.val ρ)):=by
 rw[Er,Fb3];rfl
noncomputable def stepT (T:Nat->Ent)(k:Tm β)(ρ:List D)(n:Nat)(a:Option (List D)):Option (Kind×List D):=a.bind fun ds=>if ds.length=n then Er T k (ρ++ds) else none
noncomputable def Lb9 (T:Nat->Ent)(t e:Tm β)(ρ:List D)(c:D):Option (Kind×List D):=Pbd c (Er T t ρ) (Er T e ρ)
noncomputable def ltT (T:Nat->Ent)(p:aR)(xs:List aI)(n:Nat)(k:Tm β)(ρ:List D)(w:Bool)(c:D):Option (Kind×List D) :=
 if gdR c w=true then stepT T k ρ n (p.run (xs.map (·.val ρ))) else Er T k (ρ++Rbf n .undef)
noncomputable def Fbr (T:Nat->Ent)(f:Nat)(xs:List aI)(n:Nat)(os:List aI)(k:Tm β)(ρ:List D)(w:Bool)(c:D):Option (Kind×List D) :=
 if gdR c w=true then stepT T k ρ n (Fun T f (xs.map (·.val ρ))) else Er T k (ρ++(Rbf (n-os.length) .undef++os.map (·.val ρ)))
theorem Ib0 (p:aR)(xs:List aI)(n:Nat)(k:Tm β)(ρ:List D):Er T (.lt none p xs n k) ρ=stepT T k ρ n (p.run (xs.map (·.val ρ))):=by
 rw[Er,Ibx,stepT];simp only[gOn,if_true]
 cases p.run (xs.map (·.val ρ)) with
 |none=>rfl
 | some ds =>
  simp only[Qb7];split<;>rfl
theorem Ibz (a:aI)(w:Bool)(p:aR)(xs:List aI)(n:Nat)(k:Tm β)(ρ:List D):Er T (.lt (some (a,w)) p xs n k) ρ=ltT T p xs n k ρ w (a.val ρ):=by
 rw[Er,Ibx,ltT,stepT];have:gOn ρ (some (a,w))=gdR (a.val ρ) w:=rfl;rw[this]
 cases gdR (a.val ρ) w with
 |false=>rfl
 | true =>
  simp only[if_true]
  cases p.run (xs.map (·.val ρ)) with
  |none=>rfl
  | some ds =>
   simp only[Qb7];split<;>rfl
theorem Dbe (f:Nat)(xs:List aI)(n:Nat)(os:List aI)(k:Tm β)(ρ:List D):Er T (.call none f xs n os k) ρ=stepT T k ρ n (Fun T f (xs.map (·.val ρ))):=by
 rw[Er,Za0,stepT];simp only[gOn,if_true]
 cases Fun T f (xs.map (·.val ρ)) with
 |none=>rfl
 | some ds =>
  simp only[Qb7];split<;>rfl
theorem Dbd (a:aI)(w:Bool)(f:Nat)(xs:List aI)(n:Nat)(os:List aI)(k:Tm β)(ρ:List D):Er T (.call (some (a,w)) f xs n os k) ρ=Fbr T f xs n os k ρ w (a.val ρ):=by
 rw[Er,Za0,Fbr,stepT];have:gOn ρ (some (a,w))=gdR (a.val ρ) w:=rfl;rw[this]
 cases gdR (a.val ρ) w with
 |false=>rfl
 | true =>
  simp only[if_true]
  cases Fun T f (xs.map (·.val ρ)) with
  |none=>rfl
  | some ds =>
   simp only[Qb7];split<;>rfl
theorem Ib1 (c:aI)(t e:Tm β)(ρ:List D):Er T (.ite c t e) ρ=Lb9 T t e ρ (c.val ρ):=by
 rw[Er,Iby,Lb9]
 cases c.val ρ with
 |bool b=>cases b<;>rfl
 |_=>rfl
noncomputable def mI (T:Nat->Ent)(i:Nat)(k:Tm β)(ρ:List D)(r:Option (Kind×List D)):Option (Kind×List D):=r.bind fun r=>if r.1=.yield i then Er T k (ρ++r.2) else some r
theorem Ta9 {i:Nat}{k:Tm β}{ρ ds:List D}:mI T i k ρ (some (.yield i,ds))=Er T k (ρ++ds):=by simp[mI]
theorem Wad {i:Nat}{k:Tm β}{ρ ds:List D}:mI T i k ρ (some (.ret,ds))=some (.ret,ds):=by simp[mI]
theorem Uab {i:Nat}{k:Tm β}{ρ ds:List D}:mI T i k ρ (some (.cont,ds))=some (.cont,ds):=by simp[mI]
theorem Ab7 {i j:Nat}{k:Tm β}{ρ ds:List D}(h:j≠i):mI T i k ρ (some (.yield j,ds))=some (.yield j,ds):=by simp[mI,h]
theorem Fb6 (i:Nat)(t k:Tm β)(ρ:List D):Er T (.bind i t k) ρ=mI T i k ρ (Er T t ρ):=by
 rw[Er,Fb4,mI,Er]
 cases Ev T t ρ with
 |none=>rfl
 | some o =>
  simp only[Qb7,Rb9];split<;>rfl
theorem Dbn {t:Tm β}{ρ:List D}{k:Kind}{ds:List D}(h:Er T t ρ=some (k,ds)):∃ o,Ev T t ρ=some o/\o.kind=k/\o.vals=ds:=by
 unfold Er at h
 cases e:Ev T t ρ with
 |none=>rw[e]at h;cases h
 | some o =>
  rw[e,Rb9]at h;have:=Option.some.inj h;exact⟨o,rfl,congrArg Prod.fst this,congrArg Prod.snd this⟩
theorem Xai {γ:Type}{body:Tm β}{ρ:List D}(m:γ->Nat)(inv:γ->Prop)(vs:γ->List D)(Q:Kind×List D->Prop)
  (h:∀ c,inv c->∃ r,Er T body (ρ++vs c)=some r/\(r.1=.cont/\(∃ c',inv c'/\m c'<m c/\r.2=vs c')\/r.1≠.cont/\Q r)) :
  ∀ (n:Nat) c,m c<=n->inv c->∀ xs:List aI,xs.map (·.val ρ)=vs c->∃ r,Er T (.loop xs body) ρ=some r/\Q r:=by
 have key:∀ (n:Nat) c,m c<=n->inv c->∃ o,Lp T body ρ (vs c)=some o/\Q (o.kind,o.vals):=by
  intro n
  induction n with
  | zero =>
   intro c hm hc;obtain⟨⟨k,ds⟩,h1,h2⟩:=h c hc;obtain⟨o,h3,rfl,rfl⟩:=Dbn h1
   rcases h2 with ⟨-,c',-,h5,-⟩|⟨h4,h5⟩
   ·omega
   ·exact⟨o,by rw[Fb1,h3,Qb7,if_neg h4],h5⟩
  | succ n ih =>
   intro c hm hc;obtain⟨⟨k,ds⟩,h1,h2⟩:=h c hc;obtain⟨o,h3,rfl,rfl⟩:=Dbn h1
   rcases h2 with ⟨h4,c',h5,h6,h7⟩|⟨h4,h5⟩
   ·obtain⟨o',h8,h9⟩:=ih c' (by omega) h5
    refine⟨o',?_,h9⟩;rw[Fb1,h3,Qb7,if_pos h4];show Lp T body ρ o.vals=_
    rw[show o.vals=vs c' from h7,h8]
   ·exact⟨o,by rw[Fb1,h3,Qb7,if_neg h4],h5⟩
 intro n c hm hc xs hx;obtain⟨o,h1,h2⟩:=key n c hm hc;exact⟨_,by rw[Er,Fb2,hx,h1,Rb9],h2⟩
end
def Ra8 (ok:Nat->Bool):Nat->Bool
 |0=>true
 |n+1=>Ra8 ok n&&ok n
theorem iY {ok:Nat->Bool}:∀ {n:Nat},Ra8 ok n=true↔∀ i,i<n->ok i=true
 |0=>by simp[Ra8]
 | n + 1 => by
  simp only[Ra8,Qb1,iY (n:=n)];constructor
  ·rintro⟨h1,h2⟩ i hi
   rcases Rbo i n with h|h
   ·exact h1 i h
   ·obtain rfl:i=n:=by omega
    exact h2
  ·exact fun h=>⟨fun i hi=>h i (by omega),h n (by omega)⟩
theorem Kag {ok:Nat->Bool}{n:Nat}:Ra8 ok n=false↔∃ i,i<n/\ok i=false:=by
 constructor
 ·intro h
  apply Classical.byContradiction;intro hn
  have:Ra8 ok n=true:=iY.2 fun i hi=>by
   cases e:ok i with
   |true=>rfl
   |false=>exact absurd ⟨i,hi,e⟩ hn
  rw[this]at h;cases h
 ·rintro⟨i,hi,h⟩
  cases e:Ra8 ok n with
  |false=>rfl
  |true=>rw[iY.1 e i hi]at h;cases h
section
variable {T:Nat->Ent} {β:Type}
end
theorem Hbs {d:D}:aR.id.run [d]=some [d]:=rfl
def inR (x lo hi:Int):Bool:=decide (lo<=x)&&decide (x<=hi)
end Go.Proofs.YtpgnlmfmlffjcaaGreat.Rf
