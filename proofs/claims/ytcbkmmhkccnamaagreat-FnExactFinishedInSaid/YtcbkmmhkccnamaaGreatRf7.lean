/- Terms for qq program's functions, and my they are right: part 7 of 9. -/
import Derived.Test.YtcbkmmhkccnamaaGreatRf6
import Derived.SizedLaws
import Derived.Carry
import Derived.ChangeOld
import Derived.ChangeShapes
import Derived.RowKit
import Derived.IntWalk
open Bool renaming and_eq_true → Obh, false_eq_true → Obp
open List renaming mem_append_left → Obi, mem_append_right → Obk, getElem?_eq_getElem → Obl, getElem?_cons_zero → Obn, getD_eq_getElem?_getD → Obo, mem_cons_of_mem → Obq, append_assoc → Obs, mem_singleton → Obt, mem_cons_self → Obu, length_append → Obv, mem_of_getElem? → Obw, getElem?_append_left → Obx, getElem?_append_right → Obz, map_cons → Ob1, replicate → Ob3, getElem?_map → Ob5, length_map → Ob7, all_eq_true → Ob8, map_nil → Pba, append_nil → Pbc, mem_cons → Pbg, length_cons → Pbm, nil_append → Pbp, getElem?_take → Pbq, filter_cons → Pb1, length_take → Pb3, length_replicate → Pb6, cons_append → Qbb, mem_append → Qbn, getElem?_replicate → Qbz, getElem?_range → Rbh
open Nat renaming le_refl → Oby, add_assoc → Ob0, lt_or_ge → Ob2, beq_eq → Ob4, zero_add → Ob9, add_zero → Pbb, add_sub_cancel_left → Pbe, ble_eq → Pbn
open Option renaming bind_eq_some_iff → Obg, bind_some → Obm, map_eq_some_iff → Obr, map_some → Pbj, getD_some → Pb4
set_option linter.unusedSimpArgs false
set_option linter.unusedVariables false
set_option linter.unnecessarySimpa false
set_option linter.unusedSectionVars false
namespace Go.Proofs.YtcbkmmhkccnamaaGreat.Rf
section
variable (w:World)
def owC (ad:Addr):Nat->List BO->List Value
 |_,[]=>[]
 |off,s::r=>(match s with | .ow _=>[(w.cell? (ad.add off)).getD undef] | _=>[])++owC ad (off+1) r
def Paq:LR->Value->List Value
 |.ow _,v=>[v]
 |.bx cs,.pointer (some ad)=>owC w ad 0 cs
 |_,_=>[]
def owL:List LR->List Value->List Value
 |s::ss,v::vs=>Paq w s v++owL ss vs
 |_,_=>[]
def owR:List (Bool×List LR)->List Value->List Value
 |(a,ss)::rs,u::us=>owL w ss (if a=true then u.cells.toList else [u])++owR rs us
 |_,_=>[]
def owB (bx:Nat->Addr):Nat->List (Bool×List (BS×BO))->List Value
 |_,[]=>[]
 |b,(ro,cs)::r=>if ro=true then owB bx (b+1) r else owC w (bx b) 0 (cs.map (·.2))++owB bx (b+1) r
end
def Mas:LR->Value->List Addr
 |.bx _,.pointer (some ad)=>[ad]
 |_,_=>[]
def Jan:List LR->List Value->List Addr
 |s::ss,v::vs=>Mas s v++Jan ss vs
 |_,_=>[]
def Fas:List (Bool×List LR)->List Value->List Addr
 |(a,ss)::rs,u::us=>Jan ss (if a=true then u.cells.toList else [u])++Fas rs us
 |_,_=>[]
theorem Sam (s:LR)(v:Value):(Mas s v).length<=(match s with|.bx _=>1|_=>0):=by
 unfold Mas;split<;>simp
theorem Mau:∀ (ss:List LR) (vs:List Value),(Jan ss vs).length<=bxL ss
 |[],vs=>by simp[Jan]
 |s::ss,[]=>by simp[Jan]
 | s :: ss, v :: vs => by
  have h1:=Sam s v;have h2:=Mau ss vs;simp only[Jan,Obv];cases s<;>simp only[bxL]at *<;>omega
theorem Mat:∀ (rs:List (Bool×List LR)) (us:List Value),(Fas rs us).length<=jK rs
 |[],us=>by simp[Fas]
 |(a,ss)::rs,[]=>by simp[Fas]
 | (a, ss) :: rs, u :: us => by
  have h1:=Mau ss (if a=true then u.cells.toList else [u]);have h2:=Mat rs us;simp only[Fas,Obv,jK];omega
def Na5:List BO->Bool
 |[]=>true
 |.ow _::_=>false
 |_::r=>Na5 r
section
variable {E:Env} {F:bC} {σ db:Nat->Option aN} {ρ:List D} {a:Act} {w w':World} {G G':Gh} {s:Sig} {Z:Take} {gd:Bool} {nr nb y0:Nat} {hs:List Value} {adn:Addr} {ds:List D}
def Ma1 (ρ:List D)(l:List Step):Prop:=∀ m y,.prim (.dep m) [.v y] 0∈l->mU m ((aI.v y).val ρ)=true
structure Aft (E:Env) (F:bC) (σ db:Nat->Option aN) (ρ:List D) (a:Act) (w:World) (G:Gh) (s:Sig) (Z:Take) (G':Gh) (w':World) (y0:Nat) (ds:List D):Prop where
 B:Ma2 E F σ ρ a w G s Z G' w'
 val:∀ i,i<ds.length->(aI.v (y0+i)).val ρ=ds.getD i .undef
 known:∀ z∈Z.deps,iG db z.1 z.2
def UOk (rl:Nat->Prop)(db:Nat->Option aN)(ρ:List D)(G2:Gh)(w':World)(nr nb y0:Nat)(u:List (Nat×aN)):Prop :=
 ∀ k c,(k,c)∈u->(∃ q m i,k=kR (nr+q)/\c=.root (.v (y0+i)) m 0 .live/\Rp G2.own w' (nr+q) [] m (G2.hdr (nr+q)) ((aI.v (y0+i)).val ρ)) \/
  (k=kB nb/\∃ ls,c=.box false ls/\Ha2 db ρ G2 w' nb false ls/\rl (G2.bx nb).block)
theorem UOk.append {rl:Nat->Prop}{G2:Gh}{u v:List (Nat×aN)}(h:UOk rl db ρ G2 w' nr nb y0 u)(h':UOk rl db ρ G2 w' nr nb y0 v):UOk rl db ρ G2 w' nr nb y0 (u++v):=fun k c hc=>(List.mem_append.1 hc).elim (h k c) (h' k c)
def UIn (db:Nat->Option aN)(nr:Nat)(u:List (Nat×aN)):Prop:=∀ k c,(k,c)∈u->(db k).isSome/\∀ q,k=kR (nr+q)->q<bN
theorem UIn.left {u v:List (Nat×aN)}(h:UIn db nr (u++v)):UIn db nr u:=fun k c hc=>h k c (Obi _ hc)
theorem UIn.right {u v:List (Nat×aN)}(h:UIn db nr (u++v)):UIn db nr v:=fun k c hc=>h k c (Obk _ hc)
theorem Ua0 {own':Nat->Ow}{q:Nat}(hq:q<bN){v:Value}(hv:hs[q]?=some v):(eF gd ρ G w s Z nr nb own' hs adn).hdr (nr+q)=v:=by
 simp only[eF];rw[if_pos ⟨by omega,by omega⟩,Pbe,Obo,hv];rfl
variable (A:Aft E F σ db ρ a w G s Z G' w' y0 ds)
include A
theorem San {i q off:Nat}{t:BO}{v:Value}(h:Bap G'.own w' ds i q t v)(hi:i<ds.length)(eR:Z.deps=[]\/∀ m,t=.ow m->mU m ((aI.v (y0+i)).val ρ)=true)
  (fq:gd=false\/∀ m,t≠.ow m) (hh:∀ m,t=.ow m->hs[q]?=some v) (hu:UIn db nr (iQ Z.deps (y0+i) (nr+q) t).2.1) :
  (iQ Z.deps (y0+i) (nr+q) t).2.2=nr+q+t.q/\aB db ρ (eF gd ρ G w s Z nr nb G'.own hs adn) w' (iQ Z.deps (y0+i) (nr+q) t).1 v/\UOk (fun b=>¬ (b<w.heap.size/\Ia8 ((callG ρ G w s Z).own b)=false)) db ρ (eF gd ρ G w s Z nr nb G'.own hs adn) w' nr nb y0 (iQ Z.deps (y0+i) (nr+q) t).2.1:=by
 cases t with
 | sc =>
  refine⟨rfl,?_,by simp[UOk,iQ]⟩;simp only[iQ,aB];rw[A.val i hi];exact h
 | fz =>
  refine⟨rfl,?_,by simp[UOk,iQ]⟩;simp only[iQ,aB];simp only[Bap]at h;rw[A.val i hi];exact⟨⟨h.one,A.known⟩,fun _=>⟨A.B.rd h,fun e=>absurd e (by decide),trivial⟩⟩
 | ow m =>
  have hg:gd=false:=fq.resolve_right fun e=>e m rfl
  simp only[Bap]at h;have km:=hu (kR (nr+q)) _ (by simp only[iQ];exact List.mem_singleton.2 rfl);have yb:=Ua0 (gd:=gd) (ρ:=ρ) (G:=G) (w:=w) (s:=s) (Z:=Z) (nr:=nr) (nb:=nb) (adn:=adn) (own':=G'.own) (km.2 q rfl) (hh m rfl);have ri:Z.deps=[]\/mU m (ds.getD i .undef)=true:=eR.imp id fun e=>by rw[<- A.val i hi];exact e m rfl
  have fa:=A.B.give (gd:=gd) (nr:=nr) (nb:=nb) (hs:=hs) (adn:=adn) h ri hg (km.2 q rfl);refine⟨rfl,?_,?_⟩
  ·simp only[iQ,aB]
   exact⟨yb.symm,km.1,h.one⟩
  ·intro k c hc
   simp only[iQ,Obt,Prod.mk.injEq]at hc;refine .inl ⟨q,m,i,hc.1,hc.2,?_⟩;rw[yb,A.val i hi];exact fa
 | dead =>
  refine⟨rfl,?_,by simp[UOk,iQ]⟩;simp only[iQ,aB];exact h
theorem xO:∀ {cs:List BO} {i q off:Nat} {ad:Addr},Aam G'.own w' ds ad off i q cs->i+cs.length<=ds.length->(Z.deps=[]\/Ma1 ρ (lW (y0+i) cs))->(gd=false\/Na5 cs=true) ->
  (∀ j v,(owC w' ad off cs)[j]?=some v->hs[q+j]?=some v)->UIn db nr (dB Z.deps (y0+i) (nr+q) cs).2.1 ->
  (dB Z.deps (y0+i) (nr+q) cs).2.2=nr+q+qC cs/\(dB Z.deps (y0+i) (nr+q) cs).1.length=cs.length/\(owC w' ad off cs).length=qC cs /\
  (∀ j l,(dB Z.deps (y0+i) (nr+q) cs).1[j]?=some l->∃ v,w'.cell? (ad.add (off+j))=some v/\w'.frozen? (ad.add (off+j))=false/\aB db ρ (eF gd ρ G w s Z nr nb G'.own hs adn) w' l v) /\
  UOk (fun b=>¬ (b<w.heap.size/\Ia8 ((callG ρ G w s Z).own b)=false)) db ρ (eF gd ρ G w s Z nr nb G'.own hs adn) w' nr nb y0 (dB Z.deps (y0+i) (nr+q) cs).2.1
 |[],i,q,off,ad,_,_,_,_,_,_=>⟨rfl,rfl,rfl,by simp[dB],by simp[UOk,dB]⟩
 | t :: cs, i, q, off, ad, h, hi, eR, fq, hh, hu => by
  obtain⟨⟨v,h1,h2,h3⟩,h4⟩:=h;simp only[Pbm]at hi;simp only[dB]at hu;have hlen:∀ t:BO,(match t with|.ow _=>[(w'.cell? (ad.add off)).getD undef]|_=>([]:List Value)).length=t.q:=fun t=>by cases t<;>rfl
  have hb:=San A (gd:=gd) (nr:=nr) (nb:=nb) (hs:=hs) (adn:=adn) (off:=off) h3 (by omega) (eR.imp id fun e m hm=>e m _ (by subst hm;simp only[lW];exact Obu))
   (fq.imp id fun e m hm=>by subst hm;simp[Na5]at e) (fun m hm=>by
    subst hm;have:=hh 0 v (by simp[owC,h1]);simpa using this) hu.left
  obtain⟨h5,h6,h7⟩:=hb
  have b5:=xO (cs:=cs) (i:=i+1) (q:=q+t.q) (off:=off+1) (ad:=ad) h4 (by omega) (eR.imp id fun e m y hm=>e m y (by
    cases t with
    |ow m'=>simp only[lW];exact Obq _ hm
    |_=>exact hm)) (fq.imp id fun e=>by cases t<;>simp[Na5]at e ⊢<;>exact e) (fun j x hj=>by
    have:=hh (t.q+j) x (by
     simp only[owC];rw[Obz (by rw[hlen];omega),hlen,Pbe];exact hj)
    rwa[<- Ob0]at this) (by
    have:=hu.right;rw[h5]at this;rw[<- Ob0,<- Ob0];exact this)
  rw[<- Ob0,<- Ob0]at b5;obtain⟨h8,h9,b9,da,fk⟩:=b5;simp only[dB];rw[h5];refine⟨by rw[h8];simp only[qC];omega,by simp[h9],by simp only[owC,Obv,hlen,b9,qC],fun j l hj=>?_,h7.append fk⟩
  cases j with
  | zero =>
   simp only[Obn,Option.some.injEq]at hj;subst hj;exact⟨v,h1,h2,h6⟩
  | succ j =>
   obtain⟨v',gS,jv,k8⟩:=da j l (by simpa using hj);rw[show off+(j+1)=off+1+j by omega];exact⟨v',gS,jv,k8⟩
theorem Nax (sC:db (kB nb)=none\/True){i q:Nat}{t:LR}{v:Value}(h:kH G'.own w' ds s.boxes.length i q t v)(hi:i+t.n<=ds.length)(eR:Z.deps=[]\/Ma1 ρ (Oar (y0+i) [t]))
  (fq:gd=false\/bxL [t]=0) (hh:∀ j x,(Paq w' t v)[j]?=some x->hs[q+j]?=some x) (qp:∀ ad∈Mas t v,ad=adn) (hu:UIn db nr (bT gd Z.deps nb (y0+i) (nr+q) t).2.1) :
  (bT gd Z.deps nb (y0+i) (nr+q) t).2.2=nr+q+t.q/\(Paq w' t v).length=t.q/\aB db ρ (eF gd ρ G w s Z nr nb G'.own hs adn) w' (bT gd Z.deps nb (y0+i) (nr+q) t).1 v/\UOk (fun b=>¬ (b<w.heap.size/\Ia8 ((callG ρ G w s Z).own b)=false)) db ρ (eF gd ρ G w s Z nr nb G'.own hs adn) w' nr nb y0 (bT gd Z.deps nb (y0+i) (nr+q) t).2.1:=by
 cases t with
 | sc =>
  refine⟨rfl,by cases v<;>rfl,?_,by simp[UOk,bT]⟩;simp only[LR.n]at hi;simp only[bT,aB];rw[A.val i (by omega)];exact h
 | fz =>
  refine⟨rfl,by cases v<;>rfl,?_,by simp[UOk,bT]⟩;simp only[LR.n]at hi;simp only[kH]at h;simp only[bT,aB];rw[A.val i (by omega)];exact⟨⟨h.one,A.known⟩,fun _=>⟨A.B.rd h,fun e=>absurd e (by decide),trivial⟩⟩
 | ow m =>
  simp only[LR.n]at hi;simp only[kH]at h
  cases gd with
  | true =>
   refine⟨rfl,rfl,?_,by simp[UOk,bT]⟩;simp only[bT,cond_true,aB];rw[A.val i (by omega)];exact⟨⟨h.one,A.known⟩,fun _=>⟨A.B.giveGd h rfl,fun e=>absurd e (by decide),trivial⟩⟩
  | false =>
   have km:=hu (kR (nr+q)) _ (by simp only[bT,cond_false];exact List.mem_singleton.2 rfl);have yb:=Ua0 (gd:=false) (ρ:=ρ) (G:=G) (w:=w) (s:=s) (Z:=Z) (nr:=nr) (nb:=nb) (adn:=adn) (own':=G'.own) (km.2 q rfl) (hh 0 v rfl)
   have ri:Z.deps=[]\/mU m (ds.getD i .undef)=true:=eR.imp id fun e=>by
    rw[<- A.val i (by omega)];exact e m _ (by simp only[Oar];exact Obu)
   have fa:=A.B.give (gd:=false) (nr:=nr) (nb:=nb) (hs:=hs) (adn:=adn) h ri rfl (km.2 q rfl);refine⟨rfl,rfl,?_,?_⟩
   ·simp only[bT,cond_false,aB]
    exact⟨yb.symm,km.1,h.one⟩
   ·intro k c hc
    simp only[bT,cond_false,Obt,Prod.mk.injEq]at hc;refine .inl ⟨q,m,i,hc.1,hc.2,?_⟩;rw[yb,A.val i (by omega)];exact fa
 | rp z =>
  refine⟨rfl,by cases v<;>rfl,?_,by simp[UOk,bT]⟩;simp only[LR.n]at hi;simp only[kH]at h;simp only[bT,aB];rw[A.val i (by omega)];refine⟨⟨h.1,A.known⟩,fun _=>?_⟩
  rcases h.2 with h1|⟨ad,row,h1,h2,h3⟩
  ·exact .inl h1
  ·exact .inr ⟨ad,row,h1,h2,A.B.rd h3⟩
 | bx cs =>
  have hg:gd=false:=fq.resolve_right fun e=>by simp[bxL]at e
  simp only[LR.n]at hi;simp only[kH]at h;obtain⟨ad,rfl,h1,h2,h3⟩:=h;have a5q:ad=adn:=qp ad (by simp[Mas]);simp only[bT]at hu;have hu':UIn db nr (dB Z.deps (y0+i) (nr+q) cs).2.1:=fun k c hc=>hu k c (Obq _ hc)
  obtain⟨h4,h5,h6,h7,h8⟩:=xO A (gd:=gd) (nb:=nb) (hs:=hs) (adn:=adn) h3 hi (eR.imp id fun e m y hm=>e m y (by simp only[Oar];exact Obi _ hm)) (.inl hg) hh hu';have kO:=(hu (kB nb) _ Obu).1
  have fv:(eF gd ρ G w s Z nr nb G'.own hs adn).bx nb=ad:=by
   simp only[eF,if_pos trivial];exact a5q.symm
  have vi:¬ (ad.block<w.heap.size/\Ia8 ((callG ρ G w s Z).own ad.block)=false):=by
   ·rintro⟨hb,gi⟩
    cases ku:(callG ρ G w s Z).own ad.block with
    |frz=>have:=(A.B.keep hb (.inl ku)).2;rw[h2,ku]at this;cases this
    |oth=>have:=(A.B.keep hb (.inr ku)).2;rw[h2,ku]at this;cases this
    |slc _ _=>rw[ku]at gi;cases gi
    | box j =>
     have:=(A.B.hF.boxes ad.block j hb ku).1;rw[h2]at this
     injection this with this
     have hgc:∃ c,Nau Z.ptrs c 0 s.boxes=some j:=by
      simp only[callG]at ku
      cases hgb:G.own ad.block with
      | box c =>
       rw[hgb]at ku;dsimp only at ku;split at ku
       ·rename_i x hx
        split at ku
        ·injection ku with ku
         exact⟨c,by rw[hx,ku]⟩
        ·cases ku
       ·cases ku
      | slc r p =>
       rw[hgb]at ku;dsimp only at ku
       rcases Ca6 (ρ:=ρ) (dr:=Z.deps.map (·.1)) (r:=r) (p:=p) Z.rts 0 with ⟨_,_,e⟩|e|e<;>rw[e]at ku<;>cases ku
      |frz=>rw[hgb]at ku;cases ku
      |oth=>rw[hgb]at ku;cases ku
     obtain⟨c,hc⟩:=hgc;obtain⟨j',nc,jx,e1,e2,-⟩:=Ca5 hc;have:=(List.getElem?_eq_some_iff.1 e2).1;omega
  have a7:(eF gd ρ G w s Z nr nb G'.own hs adn).own ad.block=.box nb:=by
   simp only[eF];rw[if_neg vi,h2];simp[qW]
  refine⟨?_,?_,?_,?_⟩
  ·simp only[bT];exact h4
  ·simp only[Paq];exact h6
  ·simp only[bT,aB]
   exact⟨by rw[fv];rfl,kO⟩
  ·simp only[bT]
   intro k c hc
   rcases List.mem_cons.1 hc with hc|hc
   ·obtain⟨rfl,rfl⟩:=Prod.mk.inj hc
    refine .inr ⟨rfl,_,rfl,⟨by rw[fv];exact h1,by rw[fv,a7];rfl,fun j l hj=>?_⟩,by rw[fv];exact vi⟩;rw[fv];have:=h7 j l hj;rwa[Ob9]at this
   ·exact h8 k c hc
theorem yP:∀ {ss:List LR} {i q:Nat} {vs:List Value},nC G'.own w' ds s.boxes.length i q ss vs->i+lC ss<=ds.length->(Z.deps=[]\/Ma1 ρ (Oar (y0+i) ss)) ->
  (gd=false\/bxL ss=0)->(∀ j x,(owL w' ss vs)[j]?=some x->hs[q+j]?=some x)->(∀ ad∈Jan ss vs,ad=adn)->UIn db nr (cK gd Z.deps nb (y0+i) (nr+q) ss).2.1 ->
  (cK gd Z.deps nb (y0+i) (nr+q) ss).2.2=nr+q+qL ss/\(owL w' ss vs).length=qL ss/\aG db ρ (eF gd ρ G w s Z nr nb G'.own hs adn) w' (cK gd Z.deps nb (y0+i) (nr+q) ss).1 vs/\UOk (fun b=>¬ (b<w.heap.size/\Ia8 ((callG ρ G w s Z).own b)=false)) db ρ (eF gd ρ G w s Z nr nb G'.own hs adn) w' nr nb y0 (cK gd Z.deps nb (y0+i) (nr+q) ss).2.1
 | [], i, q, vs, h, _, _, _, _, _, _ => by
  simp only[nC]at h;subst h;exact⟨rfl,rfl,by simp[cK,aG],by simp[UOk,cK]⟩
 | t :: ss, i, q, vs, h, hi, eR, fq, hh, qp, hu => by
  obtain⟨u,us,rfl,h1,h2⟩:=h;simp only[lC]at hi;simp only[cK]at hu
  obtain⟨h3,h4,h5,h6⟩:=Nax A (gd:=gd) (nb:=nb) (hs:=hs) (adn:=adn) (.inr trivial) h1 (by omega) (eR.imp id fun e m y hm=>e m y (by
    cases t with
    |ow m'=>simp only[Oar,Obt]at hm ⊢;rw[hm];exact Obu
    |bx cs=>simp only[Oar,Pbc]at hm ⊢;exact Obi _ hm
    |_=>simp[Oar]at hm))
   (fq.imp id fun e=>by cases t<;>simp only[bxL]at e ⊢<;>omega) (fun j x hj=>hh j x (by
    simp only[owL];rw[Obx (List.getElem?_eq_some_iff.1 hj).1];exact hj))
   (fun ad hm=>qp ad (by simp only[Jan];exact Obi _ hm)) hu.left
  have b5:=yP (ss:=ss) (i:=i+t.n) (q:=q+t.q) h2 (by omega) (eR.imp id fun e m y hm=>e m y (by
    cases t with
    |ow m'=>simp only[Oar];exact Obq _ hm
    |bx cs=>simp only[Oar];rw[Ob0];exact Obk _ hm
    |_=>exact hm)) (fq.imp id fun e=>by cases t<;>simp only[bxL]at e<;>omega) (fun j x hj=>by
    have:=hh (t.q+j) x (by
     simp only[owL];rw[Obz (by rw[h4];omega),h4,Pbe];exact hj)
    rwa[<- Ob0]at this) (fun ad hm=>qp ad (by simp only[Jan];exact Obk _ hm)) (by
    have:=hu.right;rw[h3]at this;rw[<- Ob0,<- Ob0];exact this)
  rw[<- Ob0,<- Ob0]at b5;obtain⟨h7,h8,h9,b9⟩:=b5;simp only[cK];rw[h3];refine⟨by rw[h7];simp only[qL];omega,by simp only[owL,Obv,h4,h8,qL],?_,h6.append b9⟩;simp only[aG];exact⟨u,us,rfl,h5,h9⟩
theorem Ga0:∀ {rs:List (Bool×List LR)} {i q:Nat} {us:List Value},Ha0 G'.own w' ds s.boxes.length i q rs us->i+bF rs<=ds.length->(Z.deps=[]\/Ma1 ρ (Vaz (y0+i) rs)) ->
  (gd=false\/jK rs=0)->(∀ j x,(owR w' rs us)[j]?=some x->hs[q+j]?=some x)->(∀ ad∈Fas rs us,ad=adn)->UIn db nr (iF gd Z.deps nb (y0+i) (nr+q) rs).2.1 ->
  (iF gd Z.deps nb (y0+i) (nr+q) rs).2.2=nr+q+qR rs/\(owR w' rs us).length=qR rs/\gU db ρ (eF gd ρ G w s Z nr nb G'.own hs adn) w' (iF gd Z.deps nb (y0+i) (nr+q) rs).1 us/\UOk (fun b=>¬ (b<w.heap.size/\Ia8 ((callG ρ G w s Z).own b)=false)) db ρ (eF gd ρ G w s Z nr nb G'.own hs adn) w' nr nb y0 (iF gd Z.deps nb (y0+i) (nr+q) rs).2.1
 | [], i, q, us, h, _, _, _, _, _, _ => by
  simp only[Ha0]at h;subst h;exact⟨rfl,rfl,rfl,by simp[UOk,iF]⟩
 | (ag, ss) :: rs, i, q, us, h, hi, eR, fq, hh, qp, hu => by
  obtain⟨u,cA,vs,rfl,h1,h2,h3⟩:=h;simp only[bF]at hi;simp only[iF]at hu
  have kf:(if ag=true then u.cells.toList else [u])=vs:=by
   cases ag with
   | true =>
    simp only[if_true]at h2 ⊢;rw[h2];simp[Value.cells]
   |false=>simp only[Obp,if_false]at h2 ⊢;exact h2.symm
  obtain⟨h4,h5,h6,h7⟩:=yP A (gd:=gd) (nb:=nb) (hs:=hs) (adn:=adn) h1 (by omega) (eR.imp id fun e m y hm=>e m y (by simp only[Vaz];exact Obi _ hm))
   (fq.imp id fun e=>by simp only[jK]at e;omega) (fun j x hj=>hh j x (by
    simp only[owR,kf];rw[Obx (List.getElem?_eq_some_iff.1 hj).1];exact hj))
   (fun ad hm=>qp ad (by simp only[Fas,kf];exact Obi _ hm)) hu.left
  have b5:=Ga0 (rs:=rs) (i:=i+lC ss) (q:=q+qL ss) h3 (by omega) (eR.imp id fun e m y hm=>e m y (by
    simp only[Vaz];rw[Ob0]
    exact Obk _ hm)) (fq.imp id fun e=>by simp only[jK]at e;omega) (fun j x hj=>by
    have:=hh (qL ss+j) x (by
     simp only[owR,kf];rw[Obz (by rw[h5];omega),h5,Pbe];exact hj)
    rwa[<- Ob0]at this) (fun ad hm=>qp ad (by simp only[Fas];exact Obk _ hm)) (by
    have:=hu.right;rw[h4]at this;rw[<- Ob0,<- Ob0];exact this)
  rw[<- Ob0,<- Ob0]at b5;obtain⟨h8,h9,b9,da⟩:=b5;simp only[iF];rw[h4];exact⟨by rw[h8];simp only[qR];omega,by simp only[owR,kf,Obv,h5,h9,qR],⟨u,cA,vs,rfl,h6,h2,b9⟩,h7.append da⟩
theorem xM (sC:σ (kB nb)=none):∀ {bs:List (Bool×List (BS×BO))} {b i q:Nat} {bu:List (Nat×aN)},(∀ j x,bs[j]?=some x->s.boxes[b+j]?=some x)->(kF Z.ptrs Z.deps b (y0+i) (nr+q) bs).eval σ=some bu ->
  kI G'.own w' ds (callG ρ G w s Z).bx b i q bs->i+dN bs<=ds.length->(Z.deps=[]\/Ma1 ρ (Sal (y0+i) bs))->(gd=false\/∀ x∈bs,x.1=false->Na5 (x.2.map (·.2))=true) ->
  (∀ j x,(owB w' (callG ρ G w s Z).bx b bs)[j]?=some x->hs[q+j]?=some x)->UIn db nr bu ->
  (∀ k c,(k,c)∈bu->(∃ q m i,k=kR (nr+q)/\c=.root (.v (y0+i)) m 0 .live/\Rp (eF gd ρ G w s Z nr nb G'.own hs adn).own w' (nr+q) [] m ((eF gd ρ G w s Z nr nb G'.own hs adn).hdr (nr+q)) ((aI.v (y0+i)).val ρ)) \/
   ∃ c0 iu ls,k=kB c0/\σ (kB c0)=some (.box false iu)/\c=.box false ls/\ls.length=iu.length /\
    ((∀ j l,iu[j]?=some l->∃ v,w.cell? ((G.bx c0).add j)=some v/\(aB σ ρ G w l v->aB db ρ (eF gd ρ G w s Z nr nb G'.own hs adn) w' l v))->Ha2 db ρ (eF gd ρ G w s Z nr nb G'.own hs adn) w' c0 false ls)) /\
  (∀ c,c∈gY false Z.ptrs b bs->∃ x,(kB c,x)∈bu)
 | [], b, i, q, bu, _, h, _, _, _, _, _, _ => by
  simp only[kF,aF,Option.some.injEq]at h;subst h;exact⟨by simp,by simp[gY]⟩
 | (ro, cs) :: bs, b, i, q, bu, hbs, h, hf, hi, eR, fq, hh, hu => by
  simp only[kF]at h
  have zE:∀ j x,bs[j]?=some x->s.boxes[b+1+j]?=some x:=fun j x hj=>by
   rw[show b+1+j=b+(j+1) by omega];exact hbs (j+1) x (by simpa using hj)
  cases ro with
  | true =>
   simp only[cond_true]at h;simp only[kI,if_true]at hf;simp only[dN,cond_true,Ob9]at hi
   obtain⟨h1,h2⟩:=xM sC (bs:=bs) (b:=b+1) zE h hf hi (eR.imp id fun e m y hm=>e m y (by simp only[Sal,cond_true];exact hm)) (fq.imp id fun e x hx=>e x (Obq _ hx))
    (fun j x hj=>hh j x (by simp only[owB,if_true];exact hj)) hu
   refine⟨h1,fun c hc=>h2 c ?_⟩;have e:(true==false)=false:=rfl;simp only[gY,e,cond_false]at hc;exact hc
  | false =>
   simp only[cond_false]at h;simp only[kI,Obp,if_false]at hf;simp only[dN,cond_false]at hi;split at h
   case h_2=>cases h
   rename_i c off hp;simp only[aA,aO,Obm]at h;split at h
   case h_2=>cases h
   rename_i iu ny;simp only[aA,Obg,aF,Option.some.injEq]at h;obtain⟨rest,h1,rfl⟩:=h;have fv:(callG ρ G w s Z).bx b=(G.bx c).add off:=by simp only[callG,hp]
   rw[fv]at hf;have u6:=hbs 0 _ rfl;rw[Pbb]at u6;obtain⟨c',jx,kc,jt,e1,e2,e3,e4⟩:=A.B.bx b false cs u6;rw[hp]at e1;obtain⟨rfl,rfl⟩:c=c'/\off=jx:=by simpa using e1
   rw[ny]at e2;obtain⟨rfl,rfl⟩:false=kc/\iu=jt:=by simpa using e2
   have hu1:UIn db nr (dB Z.deps (y0+i) (nr+q) (cs.map (·.2))).2.1:=fun k x hx=>hu k x (Obq _ (Obi _ hx))
   have hu2:UIn db nr rest:=fun k x hx=>hu k x (Obq _ (Obk _ hx))
   obtain⟨h2,h3,h4,h5,h6⟩:=xO A (gd:=gd) (nb:=nb) (hs:=hs) (adn:=adn) hf.1 (by simp;omega) (eR.imp id fun e m y hm=>e m y (by simp only[Sal,cond_false];exact Obi _ hm))
    (fq.imp id fun e=>e _ Obu rfl) (fun j x hj=>hh j x (by
     simp only[owB,Obp,if_false,fv];rw[Obx (List.getElem?_eq_some_iff.1 hj).1];exact hj)) hu1
   rw[Ob7]at h3;rw[h2]at h1
   have b5:=xM sC (bs:=bs) (b:=b+1) (i:=i+cs.length) (q:=q+qC (cs.map (·.2))) zE (by rw[<- Ob0,<- Ob0];exact h1) hf.2 (by omega)
    (eR.imp id fun e m y hm=>e m y (by simp only[Sal,cond_false];rw[Ob0];exact Obk _ hm)) (fq.imp id fun e x hx=>e x (Obq _ hx)) (fun j x hj=>by
     have:=hh (qC (cs.map (·.2))+j) x (by
      simp only[owB,Obp,if_false,fv];rw[Obz (by rw[h4];omega),h4,Pbe];exact hj)
     rwa[<- Ob0]at this) hu2
   obtain⟨h7,h8⟩:=b5;refine⟨fun k x hx=>?_,fun c2 sg=>?_⟩
   ·rcases List.mem_cons.1 hx with hx|hx
    ·obtain⟨rfl,rfl⟩:=Prod.mk.inj hx
     refine .inr ⟨c,iu,_,rfl,ny,rfl,jQ (by rw[h3];exact e3),fun hold=>?_⟩;obtain⟨oi,lp,sY⟩:=A.B.hR.box ny;simp only[Obp,if_false]at lp;have hcn:c≠nb:=fun e=>by rw[e,sC]at ny;cases ny
     have v8:(eF gd ρ G w s Z nr nb G'.own hs adn).bx c=G.bx c:=by simp only[eF,if_neg hcn]
     have lE:0<iu.length:=by have:=(e4 rfl).2;omega
     obtain⟨v0,xz,-,-⟩:=sY 0 _ (Obl lE);have ar:(G.bx c).block<w.heap.size:=by have:=Jal xz;rwa[add_block]at this
     obtain⟨h9,b9⟩:=A.B.boxes (gd:=gd) (nr:=nr) (nb:=nb) (hs:=hs) (adn:=adn) lp ar;refine⟨by rw[v8];exact oi,by rw[v8,h9];rfl,fun j l hj=>?_⟩;rw[v8];rw[gP (by rw[h3];exact e3)]at hj;split at hj
     ·rename_i hr
      obtain⟨v,da,fk,gS⟩:=h5 _ l hj;rw[add_add,Ob9,show off+(j-off)=j by omega]at da fk;exact⟨v,da,fk,gS⟩
     ·rename_i hr
      obtain⟨v,da,fk,gS⟩:=sY j l hj;obtain⟨v',jv,k8⟩:=hold j l hj;rw[da]at jv;obtain rfl:=Option.some.inj jv
      rcases b9 with b9|⟨j2,cs2,zw,ls2,c0,c1,e,fr,f1,f2,f3,f4,f5,f6,f7,f8,f9⟩
      ·exact⟨v,(eQ (w:=w) (w':=w') (by rw[add_block];exact b9)).trans da,(jJ (w:=w) (w':=w') (by rw[add_block];exact b9)).trans fk,k8 gS⟩
      ·
       have a5t:mJ (0+b) Z.ptrs=some (c,off):=by rw[Ob9];exact hp
       have nF:=oK A.B.hk.wr u6 a5t;have f2':mJ (0+j2) Z.ptrs=some (c,zw):=by rw[Ob9];exact f2
       have nh:=oK A.B.hk.wr f1 f2';rw[nF]at nh;have tg:b=j2:=by have:=Option.some.inj nh;omega
       subst tg;rw[hp]at f2;rw[u6]at f1;obtain⟨-,rfl⟩:c=c/\off=zw:=by simpa using f2
       obtain rfl:cs=cs2:=by simpa using f1
       rw[h3]at hr
       have bc:∀ (ww:World) (cc:Array Value),ww.heap[(G.bx c).block]?=some (.cells cc e fr)->ww.cell? ((G.bx c).add j)=cc[(G.bx c).off+j]?/\ww.frozen? ((G.bx c).add j)=(fr.1<=(G.bx c).off+j&&(G.bx c).off+j<fr.2):=by
        intro ww cc hcc;have:=Qal (n:=j) oi;refine⟨?_,?_⟩
        ·unfold World.cell?
         rw[add_block,hcc];simp[this,Oav]
        ·unfold World.frozen?
         rw[add_block,hcc];simp[Oav]
       obtain⟨g1,g2⟩:=bc w c0 f6;obtain⟨g3,g4⟩:=bc w' c1 f7;refine⟨v,?_,by rw[g4,<- g2];exact fk,k8 gS⟩;rw[g3,f9 _ (by omega),<- g1];exact da
    ·rcases List.mem_append.1 hx with hx|hx
     ·rcases h6 k x hx with h9|⟨h9,-⟩
      ·exact .inl h9
      ·exfalso
       have:∀ (l:List BO) (y n:Nat),∀ z∈(dB Z.deps y n l).2.1,∃ r,z.1=kR r:=by
        intro l
        induction l with
        |nil=>intro y n z hz;simp[dB]at hz
        | cons t l ih =>
         intro y n z hz;simp only[dB]at hz
         rcases List.mem_append.1 hz with hz|hz
         ·cases t<;>simp[iQ]at hz
          exact⟨n,by rw[hz]⟩
         ·exact ih _ _ z hz
       obtain⟨r,hr⟩:=this _ _ _ _ hx;rw[h9]at hr;exact dZ hr
     ·exact h7 k x hx
   ·simp only[gY]at sg
    have e:(false==false)=true:=rfl;rw[e,cond_true,hp]at sg
    rcases List.mem_cons.1 sg with rfl|sg
    ·exact⟨_,Obu⟩
    ·obtain⟨x,hx⟩:=h8 c2 sg
     exact⟨x,Obq _ (Obk _ hx)⟩
end
theorem Faa {f:Nat}{vs:List SV}:∀ {l:List (Nat×Sig)} {key:Nat} {s:Sig},Fab f vs l=some (key,s)->(key,s)∈l/\s.fn=f
 |[],key,s,h=>by simp[Fab]at h
 | (k, t) :: l, key, s, h => by
  simp only[Fab]at h
  revert h
  generalize hb:(Nat.beq t.fn f&&Oau t.params vs)=b;intro h
  cases b with
  | false =>
   rw[cond_false]at h;obtain⟨h1,h2⟩:=Faa h;exact⟨Obq _ h1,h2⟩
  | true =>
   rw[cond_true]at h;obtain⟨rfl,rfl⟩:=Prod.mk.inj (Option.some.inj h);simp only[Obh,Ob4]at hb;exact⟨Obu,hb.1⟩
section
variable {E:Env} {F:bC} {σ:Nat->Option aN} {ρ:List D} {a:Act} {w:World} {G:Gh} {g:Option (aI×Bool)} {cf:Nat->List D->Option (List D)}
theorem Taw {l:aM}{s:SlR}(h:(vC l).eval σ=some s):∀ z∈s.deps,Ia1 σ z.1 z.2:=by
 unfold vC at h;split at h
 ·rename_i r
  simp only[aA,aO,Obm]at h;split at h
  ·rename_i x m aE hk
   simp only[aF,Option.some.injEq]at h;subst h;intro z hz;simp only[Obt]at hz;subst hz;exact⟨m,x,hk⟩
  ·simp only[aF,Option.some.injEq]at h
   subst h;simp
  ·cases h
 ·rename_i deps p nie x
  simp only[aA,Obg]at h;obtain⟨ds,h1,h2⟩:=h;obtain⟨h3,h4,h5⟩:=iC h1;split at h2
  ·simp only[aF,Option.some.injEq]at h2
   subst h2;exact fun z hz=>(h4 z hz).2
  ·rename_i r k z cn
   simp only[aA,aO,Obm]at h2;split at h2
   ·simp only[aF,Option.some.injEq]at h2
    subst h2;intro z' hz';simp only[Obt]at hz';subst hz';have:=h4 z (by simp);have e:=this.1;simp only[Obt]at e;rw[e]at this;exact this.2
   ·cases h2
  ·simp only[aF,Option.some.injEq]at h2
   subst h2;exact fun z hz=>(h4 z hz).2
 ·cases h
def rtD:RT->Nat
 |.mu _ d _ _=>d
 |_=>0
def xD:Nat->List RT->List Nat
 |_,[]=>[]
 |ν,.mu _ _ _ _::t=>ν::xD (ν+1) t
 |ν,_::t=>xD (ν+1) t
theorem Lav:∀ {rts:List RT} {fy j ν:Nat},(xD fy rts)[j]?=some ν->∃ x:RT,(rts.filter tT)[j]?=some x/\fy<=ν/\rts[ν-fy]?=some x
 |[],fy,j,ν,h=>by simp[xD]at h
 | x :: t, fy, j, ν, h => by
  have next:∀ {j:Nat},(xD (fy+1) t)[j]?=some ν->∃ y:RT,(t.filter tT)[j]?=some y/\fy<=ν/\(x::t)[ν-fy]?=some y:=by
   intro j h;obtain⟨y,h1,h2,h3⟩:=Lav h;refine⟨y,h1,by omega,?_⟩;rw[show ν-fy=(ν-(fy+1))+1 by omega];simpa using h3
  cases x with
  | mu r d q X =>
   simp only[xD]at h
   cases j with
   | zero =>
    simp only[Obn,Option.some.injEq]at h;subst h;exact⟨.mu r d q X,by simp[tT,Pb1],Oby _,by simp⟩
   | succ j =>
    obtain⟨y,h1,h2,h3⟩:=next (by simpa using h);exact⟨y,by simpa[tT,Pb1] using h1,h2,h3⟩
  | nil =>
   obtain⟨y,h1,h2,h3⟩:=next h;exact⟨y,by simpa[tT,Pb1] using h1,h2,h3⟩
  | own r d =>
   obtain⟨y,h1,h2,h3⟩:=next h;exact⟨y,by simpa[tT,Pb1] using h1,h2,h3⟩
theorem Lau:∀ (rts:List RT) (fy:Nat),(xD fy rts).length=(rts.filter tT).length
 |[],fy=>rfl
 |x::t,fy=>by cases x<;>simp[xD,tT,Lau t,Pb1]
theorem Ba6:∀ (a b:List RT) (fy:Nat),xD fy (a++b)=xD fy a++xD (fy+a.length) b
 |[],b,fy=>rfl
 | x :: a, b, fy => by
  have:=Ba6 a b (fy+1);rw[show fy+1+a.length=fy+(a.length+1) by omega]at this;cases x<;>simp[xD,this]
def Abf (σ:Nat->Option aN)(ρ:List D)(G:Gh)(w:World):RT->Prop
 |.nil=>True
 |.own r _=>∃ x m aE,σ (kR r)=some (.root x m aE .live)
 |.mu r d q X=>∃ m aE u,σ (kR r)=some (.root X m aE .live)/\q.length+d<=m/\wB G.own w r [] (G.hdr r) (aZ ρ q) u
structure Sao (σ:Nat->Option aN) (A B:Take) (rn:List RT) (ms:List Nat) (mr:List Nat):Prop where
 rts:B.rts=A.rts++rn
 deps:∀ z∈B.deps,z∈A.deps\/Ia1 σ z.1 z.2
 ms:(rn.filter tT).map rtD=ms
 mr:xD A.rts.length rn=mr
theorem Gao {A B:Take}{d:Nat}{l:aM}(h:(rH A d l).eval σ=some B):∃ rn,Sao σ A B rn [] []/\rn.length=1/\∀ x∈rn,Abf σ ρ G w x:=by
 unfold rH at h;split at h
 ·rename_i r
  simp only[aA,aO,Obm]at h;split at h
  ·rename_i x m aE hk
   simp only[aA,aH,Obg,aF,Option.some.injEq]at h;obtain⟨_,-,rfl⟩:=h;refine⟨[.own r d],⟨rfl,fun z hz=>.inl hz,rfl,rfl⟩,rfl,fun y hy=>?_⟩;simp only[Obt]at hy;subst hy;exact⟨x,m,aE,hk⟩
  ·cases h
 ·simp only[aF,Option.some.injEq]at h
  subst h;refine⟨[.nil],⟨rfl,fun z hz=>.inl hz,rfl,rfl⟩,rfl,fun y hy=>?_⟩;simp only[Obt]at hy;subst hy;trivial
 ·cases h
theorem Gar {A B:Take}{nie:Bool}{l:aM}(h:(oH A nie l).eval σ=some B):Sao σ A B [] [] []:=by
 unfold oH at h;simp only[aA,Obg,aF,Option.some.injEq]at h;obtain⟨s,h1,rfl⟩:=h;exact⟨by simp,fun z hz=>(List.mem_append.1 hz).imp id fun hz=>Taw h1 z hz,rfl,rfl⟩
theorem Qay {A B:Take}{z:Nat}{l:aM}(h:(Das A z l).eval σ=some B):Sao σ A B [] [] []:=by
 unfold Das at h;split at h
 ·simp only[aA,Obg,aF,Option.some.injEq]at h
  obtain⟨ds,h1,rfl⟩:=h;exact⟨by simp,fun z hz=>(List.mem_append.1 hz).imp id fun hz=>((iC h1).2.1 z hz).2,rfl,rfl⟩
 ·simp only[aF,Option.some.injEq]at h
  subst h;exact⟨by simp,fun z hz=>.inl hz,rfl,rfl⟩
 ·cases h
theorem Ja6 (P:Prop)(hR:P->R E.ntmps F σ ρ a w G){A B:Take}{t:LS}{l:aM}(h:(pJ g A t l).eval σ=some B)(hl:P->∃ v,aB σ ρ G w l v) :
  ∃ rn,Sao σ A B rn (dI [t]) (dR A.rts.length [t])/\rn.length=t.rcnt/\(P->∀ x∈rn,Abf σ ρ G w x):=by
 unfold pJ at h;split at h
 ·simp only[Ja3,aA,Obg,aF,Option.some.injEq]at h
  obtain⟨x,-,rfl⟩:=h;exact⟨[],⟨by simp,fun z hz=>.inl hz,rfl,rfl⟩,rfl,by simp⟩
 ·exact⟨[],Gar h,rfl,by simp⟩
 ·rename_i _ d
  unfold Gap at h;simp only[aA,Obg]at h;obtain⟨sl,h1,h⟩:=h;split at h
  case h_2=>cases h
  rename_i r k m q ho;simp only[aA,aH,aO,Obm,Obg]at h;obtain⟨_,h2,h⟩:=h;split at h2
  case isFalse=>cases h2
  rename_i hb;simp only[Pbn]at hb;split at h
  case h_2=>cases h
  rename_i X m' v' qc;simp only[aF,Option.some.injEq]at h;subst h;refine⟨[.mu r d q X],⟨rfl,fun z hz=>.inl hz,rfl,rfl⟩,rfl,fun hP y hy=>?_⟩;simp only[Obt]at hy;subst hy;obtain⟨v,hv⟩:=hl hP;have a7:=(dH (hR hP) h1 hv).own;unfold rX at a7;rw[ho]at a7;obtain⟨h3,⟨x,h4⟩,h5,h6,h7⟩:=a7;rw[qc]at h4
  obtain⟨rfl,rfl,rfl⟩:X=x/\m'=m/\v'=k:=by
   have:=Option.some.inj h4
   injection this with e1 e2 e3
   exact⟨e1,e2,e3⟩
  exact⟨_,_,_,qc,hb,h7⟩
 ·obtain⟨rn,h1,h2,h3⟩:=Gao (ρ:=ρ) (G:=G) (w:=w) h
  exact⟨rn,h1,h2,fun _=>h3⟩
 ·simp only[aF,Option.some.injEq]at h
  subst h;exact⟨[],⟨by simp,fun z hz=>.inl hz,rfl,rfl⟩,rfl,by simp⟩
 ·split at h
  ·rw[fZ]at h
   split at h
   ·simp only[aF,Option.some.injEq]at h
    subst h;exact⟨[],⟨by simp,fun z hz=>.inl hz,rfl,rfl⟩,rfl,by simp⟩
   ·cases h
  ·cases h
 ·exact⟨[],Qay h,rfl,by simp⟩
 ·cases h
theorem Sao.trans {A B C:Take}{rn qd:List RT}{ms ms' mr qw:List Nat}(h:Sao σ A B rn ms mr)(h':Sao σ B C qd ms' qw):Sao σ A C (rn++qd) (ms++ms') (mr++qw):=by
 refine⟨by rw[h'.rts,h.rts,Obs],fun z hz=>?_,by rw[List.filter_append,List.map_append,h.ms,h'.ms],?_⟩
 ·rcases h'.deps z hz with h1|h1
  ·exact h.deps z h1
  ·exact .inr h1
 ·rw[Ba6,h.mr]
  have:=h'.mr;rw[h.rts,Obv]at this;rw[this]
theorem qF (t:LS)(ss:List LS):dI (t::ss)=dI [t]++dI ss:=by cases t<;>rfl
theorem tK (t:LS)(ss:List LS)(r:Nat):dR r (t::ss)=dR r [t]++dR (r+t.rcnt) ss:=by cases t<;>rfl
theorem tL:∀ (x y:List LS),dI (x++y)=dI x++dI y
 |[],y=>rfl
 |t::x,y=>by rw[Qbb,qF,qF t x,tL x y,Obs]
theorem wK:∀ (x y:List LS) (r:Nat),dR r (x++y)=dR r x++dR (r+iY x) y
 |[],y,r=>rfl
 | t :: x, y, r => by
  rw[Qbb,tK,tK t x,wK x y,Obs];simp only[iY,Ob0]
theorem wE (P:Prop)(hR:P->R E.ntmps F σ ρ a w G):∀ {ss:List LS} {ls:List aM} {A B:Take},(bX g A ss ls).eval σ=some B->(P->∃ vs,aG σ ρ G w ls vs) ->
  ∃ rn,Sao σ A B rn (dI ss) (dR A.rts.length ss)/\rn.length=iY ss/\(P->∀ x∈rn,Abf σ ρ G w x)
 | [], [], A, B, h, _ => by
  simp only[bX,aF,Option.some.injEq]at h;subst h;exact⟨[],⟨by simp,fun z hz=>.inl hz,rfl,rfl⟩,rfl,by simp⟩
 |[],_::_,A,B,h,_=>by simp[bX,bJ]at h
 |_::_,[],A,B,h,_=>by simp[bX,bJ]at h
 | t :: ss, l :: ls, A, B, h, hl => by
  simp only[bX,aA,Obg]at h;obtain⟨C,h1,h2⟩:=h
  obtain⟨rn,h3,h4,h5⟩:=Ja6 P hR h1 (fun hP=>by
   obtain⟨vs,hv⟩:=hl hP;simp only[aG]at hv;obtain⟨u,us,-,hu,-⟩:=hv;exact⟨u,hu⟩)
  obtain⟨qd,h6,h7,h8⟩:=wE P hR h2 (fun hP=>by
   obtain⟨vs,hv⟩:=hl hP;simp only[aG]at hv;obtain⟨u,us,-,-,hu⟩:=hv;exact⟨us,hu⟩)
  have:=h3.trans h6;rw[h3.rts,Obv,h4,<- tK,<- qF]at this;exact⟨rn++qd,this,by simp[h4,h7,iY],fun hP x hx=>(List.mem_append.1 hx).elim (h5 hP x) (h8 hP x)⟩
theorem sI (P:Prop)(hR:P->R E.ntmps F σ ρ a w G):∀ {ps:List (Bool×List LS)} {vs:List SV} {A B:Take},(dX g A ps vs).eval σ=some B->(P->∃ us,pF σ ρ G w vs us) ->
  ∃ rn,Sao σ A B rn (dI (ps.flatMap (·.2))) (dR A.rts.length (ps.flatMap (·.2)))/\rn.length=iK ps/\(P->∀ x∈rn,Abf σ ρ G w x)
 | [], [], A, B, h, _ => by
  simp only[dX,aF,Option.some.injEq]at h;subst h;exact⟨[],⟨by simp,fun z hz=>.inl hz,rfl,rfl⟩,rfl,by simp⟩
 |[],_::_,A,B,h,_=>by simp[dX,bJ]at h
 |_::_,[],A,B,h,_=>by simp[dX,bJ]at h
 | (ag, ss) :: ps, v :: vs, A, B, h, hl => by
  simp only[dX,aA,Obg,aS]at h;obtain⟨ls,h0,C,h1,h2⟩:=h
  obtain⟨rn,h3,h4,h5⟩:=wE P hR h1 (fun hP=>by
   obtain⟨us,u,cA,rfl,hu,-⟩:=hl hP;exact⟨_,gQ h0 hu⟩)
  obtain⟨qd,h6,h7,h8⟩:=sI P hR h2 (fun hP=>by
   obtain⟨us,u,cA,rfl,-,hu⟩:=hl hP;exact⟨cA,hu⟩)
  have:=h3.trans h6;rw[h3.rts,Obv,h4,<- wK,<- tL]at this;exact⟨rn++qd,by rw[List.flatMap_cons];exact this,by simp[h4,h7,iK],fun hP x hx=>(List.mem_append.1 hx).elim (h5 hP x) (h8 hP x)⟩
theorem xW:∀ {ss:List (BS×BO)} {ls:List aM} {A B:Take},(dK A ss ls).eval σ=some B->∃ rn,Sao σ A B rn [] []/\∀ x∈rn,Abf σ ρ G w x
 | [], ls, A, B, h => by
  simp only[dK,aF,Option.some.injEq]at h;subst h;exact⟨[],⟨by simp,fun z hz=>.inl hz,rfl,rfl⟩,by simp⟩
 |_::_,[],A,B,h=>by simp[dK,bJ]at h
 | (t, o) :: ss, l :: ls, A, B, h => by
  simp only[dK,aA,Obg]at h;obtain⟨C,h1,h2⟩:=h;obtain⟨qd,h6,h8⟩:=xW h2
  have key:∃ rn,Sao σ A C rn [] []/\∀ x∈rn,Abf σ ρ G w x:=by
   have hinv:=nH h1;clear h1
   rcases hinv with ⟨x,rfl,rfl,rfl⟩|⟨nie,rfl,h⟩|⟨d,rfl,h⟩|⟨rfl,-,rfl⟩
   ·exact⟨[],⟨by simp,fun z hz=>.inl hz,rfl,rfl⟩,by simp⟩
   ·exact⟨[],Gar h,by simp⟩
   ·obtain⟨rn,h3,-,h5⟩:=Gao (ρ:=ρ) (G:=G) (w:=w) h
    exact⟨rn,h3,h5⟩
   ·exact⟨[],⟨by simp,fun z hz=>.inl hz,rfl,rfl⟩,by simp⟩
  obtain⟨rn,h3,h5⟩:=key;exact⟨rn++qd,h3.trans h6,fun x hx=>(List.mem_append.1 hx).elim (h5 x) (h8 x)⟩
theorem pK {ptrs:List (Nat×Nat×Nat)}:∀ {bs:List (Bool×List (BS×BO))} {b:Nat} {A B:Take},(dV ptrs A b bs).eval σ=some B->∃ rn,Sao σ A B rn [] []/\∀ x∈rn,Abf σ ρ G w x
 | [], b, A, B, h => by
  simp only[dV,aF,Option.some.injEq]at h;subst h;exact⟨[],⟨by simp,fun z hz=>.inl hz,rfl,rfl⟩,by simp⟩
 | (ro, cs) :: bs, b, A, B, h => by
  simp only[dV]at h;split at h
  case h_2=>cases h
  simp only[aA,aO,Obm]at h;split at h
  case h_2=>cases h
  simp only[aA,aH,Obg]at h;obtain⟨_,-,C,h1,h2⟩:=h;obtain⟨rn,h3,h5⟩:=xW (ρ:=ρ) (G:=G) (w:=w) h1;obtain⟨qd,h6,h8⟩:=pK h2;exact⟨rn++qd,h3.trans h6,fun x hx=>(List.mem_append.1 hx).elim (h5 x) (h8 x)⟩
theorem vH (hg:gOn ρ g=true):∀ {rts:List RT} {y nv:Nat} {ml:List Step} {mu:List (Nat×aN)},(wL y nv rts).eval σ=some (ml,mu)->aJ cf ρ g nv ml ->
  (∀ k c,(k,c)∈mu->∃ (j r d:Nat) (q:List (aI×Nat×Nat)) (X X0:aI) (m aE:Nat) (X':aI),(rts.filter tT)[j]?=some (RT.mu r d q X)/\k=kR r/\c=.root X' m (aE+1) .live/\σ (kR r)=some (.root X0 m aE .live)/\(q.length+d=m\/mU d ((aI.v (y+j)).val ρ)=true)/\Upd (aZ ρ q) (X.val ρ) ((aI.v (y+j)).val ρ) (X'.val ρ))
 | [], y, nv, ml, mu, h, _ => by
  simp only[wL,aF,Option.some.injEq,Prod.mk.injEq]at h;obtain⟨rfl,rfl⟩:=h;simp
 | .nil :: t, y, nv, ml, mu, h, ba => by
  have:=vH hg (rts:=t) h ba;simpa[tT,Pb1] using this
 | .own r d :: t, y, nv, ml, mu, h, ba => by
  have:=vH hg (rts:=t) h ba;simpa[tT,Pb1] using this
 | .mu r d q X :: t, y, nv, ml, mu, h, ba => by
  simp only[wL,aA,aO,Obm]at h;split at h
  case h_2=>cases h
  rename_i X0 m aE hk;simp only[aA,Obg,aF,Option.some.injEq,Prod.mk.injEq]at h;obtain⟨⟨ls,us⟩,h1,rfl,rfl⟩:=h;obtain⟨hs0,a1f⟩:=aJ.append ba
  obtain⟨hfd,hn0⟩:(q.length+d=m\/mU d ((aI.v y).val ρ)=true)/\bD (bif Nat.beq (q.length+d) m then [] else [Step.prim (.dep d) [.v y] 0])=0:=by
   cases hb:Nat.beq (q.length+d) m with
   |true=>exact⟨.inl (Nat.eq_of_beq_eq_true hb),rfl⟩
   | false =>
    rw[hb,cond_false]at hs0;obtain⟨ds,h1,-,-⟩:=hs0.1.1 hg;simp only[Ob1,Pba,aY.run]at h1;split at h1
    ·rename_i hf;exact⟨.inr hf,rfl⟩
    ·cases h1
  rw[hn0,Pbb]at a1f;obtain⟨nk,lz⟩:=aJ.append a1f;have b5:=vH hg h1 lz;intro k c hc
  rcases List.mem_cons.1 hc with hc|hc
  ·obtain⟨rfl,rfl⟩:=Prod.mk.inj hc
   exact⟨0,r,d,q,X,X0,m,aE,_,by simp[tT,Pb1],rfl,rfl,hk,hfd,yX hg q nv X (.v y) nk⟩
  ·obtain⟨j,r',d',q',X',X1,m',ui,X2,h2,h3,h4,h5,s7,h6⟩:=b5 k c hc
   exact⟨j+1,r',d',q',X',X1,m',ui,X2,by simpa[tT,Pb1] using h2,h3,h4,h5,by rw[show y+(j+1)=y+1+j by omega];exact s7,by rw[show y+(j+1)=y+1+j by omega];exact h6⟩
theorem vI:∀ {rts:List RT} {y nv:Nat} {ml:List Step} {mu:List (Nat×aN)},(wL y nv rts).eval σ=some (ml,mu)->∀ r,r∈bS rts->(∃ c,(kR r,c)∈mu)\/∃ c,(kR r,c)∈fK rts
 |[],y,nv,ml,mu,h,r,hr=>by simp[bS]at hr
 |.nil::t,y,nv,ml,mu,h,r,hr=>vI (rts:=t) h r hr
 | .own s d :: t, y, nv, ml, mu, h, r, hr => by
  simp only[bS,Pbg]at hr
  rcases hr with rfl|hr
  ·exact .inr ⟨_,by simp only[fK];exact Obu⟩
  ·exact (vI (rts:=t) h r hr).imp id fun ⟨c,hc⟩=>⟨c,by simp only[fK];exact Obq _ hc⟩
 | .mu s d q X :: t, y, nv, ml, mu, h, r, hr => by
  simp only[wL,aA,aO,Obm]at h;split at h
  case h_2=>cases h
  simp only[aA,Obg,aF,Option.some.injEq,Prod.mk.injEq]at h;obtain⟨⟨ls,us⟩,h1,rfl,rfl⟩:=h;simp only[bS,Pbg]at hr
  rcases hr with rfl|hr
  ·exact .inl ⟨_,Obu⟩
  ·exact (vI h1 r hr).imp (fun ⟨c,hc⟩=>⟨c,Obq _ hc⟩) id
theorem jT:∀ {rts:List RT} {k:Nat} {c:aN},(k,c)∈fK rts->∃ r,k=kR r/\c=.root (.c .hole) 0 0 .gone
 |[],k,c,h=>by simp[fK]at h
 |.nil::t,k,c,h=>jT (rts:=t) h
 |.mu s d q X::t,k,c,h=>jT (rts:=t) h
 | .own s d :: t, k, c, h => by
  simp only[fK,Pbg,Prod.mk.injEq]at h
  rcases h with ⟨rfl,rfl⟩|h
  ·exact⟨s,rfl,rfl⟩
  ·exact jT h
end
theorem uM {deps:List (Nat×Nat)}:∀ (cs:List BO) (y n:Nat),(dB deps y n cs).2.2=n+qC cs/\∀ k c,(k,c)∈(dB deps y n cs).2.1->∃ r y m,n<=r/\k=kR r/\c=.root (.v y) m 0 .live
 |[],y,n=>⟨rfl,by simp[dB]⟩
 | t :: cs, y, n => by
  have hb:(iQ deps y n t).2.2=n+t.q/\∀ k c,(k,c)∈(iQ deps y n t).2.1->∃ r y m,n<=r/\k=kR r/\c=.root (.v y) m 0 .live:=by
   cases t<;>refine⟨rfl,fun k c hc=>?_⟩<;>simp[iQ]at hc
   exact⟨n,y,_,Oby _,hc.1,hc.2⟩
  obtain⟨h1,h2⟩:=hb;simp only[dB];rw[h1];obtain⟨h3,h4⟩:=uM (deps:=deps) cs (y+1) (n+t.q);refine⟨by rw[h3];simp only[qC];omega,fun k c hc=>?_⟩
  rcases List.mem_append.1 hc with hc|hc
  ·exact h2 k c hc
  ·obtain⟨r,y',m,h5,h6,h7⟩:=h4 k c hc
   exact⟨r,y',m,by omega,h6,h7⟩
theorem Kaw {gd:Bool}{deps:List (Nat×Nat)}{nb:Nat}(t:LR)(y n:Nat):(bT gd deps nb y n t).2.2=n+t.q/\∀ k c,(k,c)∈(bT gd deps nb y n t).2.1->(∃ r y m,n<=r/\k=kR r/\c=.root (.v y) m 0 .live)\/(k=kB nb/\∃ ls,c=.box false ls):=by
 cases t with
 | bx cs =>
  obtain⟨h3,h4⟩:=uM (deps:=deps) cs y n;simp only[bT];refine⟨h3,fun k c hc=>?_⟩
  rcases List.mem_cons.1 hc with hc|hc
  ·obtain⟨rfl,rfl⟩:=Prod.mk.inj hc
   exact .inr ⟨rfl,_,rfl⟩
  ·exact .inl (h4 k c hc)
 | ow m =>
  cases gd with
  |true=>exact⟨rfl,by simp[bT]⟩
  | false =>
   refine⟨rfl,fun k c hc=>?_⟩;simp[bT]at hc;exact .inl ⟨n,y,m,Oby _,hc.1,hc.2⟩
 |_=>exact⟨rfl,by simp[bT]⟩
theorem wH {gd:Bool}{deps:List (Nat×Nat)}{nb:Nat}:∀ (ss:List LR) (y n:Nat),(cK gd deps nb y n ss).2.2=n+qL ss/\∀ k c,(k,c)∈(cK gd deps nb y n ss).2.1->(∃ r y m,n<=r/\k=kR r/\c=.root (.v y) m 0 .live)\/(k=kB nb/\∃ ls,c=.box false ls)
 |[],y,n=>⟨rfl,by simp[cK]⟩
 | t :: ss, y, n => by
  obtain⟨h1,h2⟩:=Kaw (gd:=gd) (deps:=deps) (nb:=nb) t y n;simp only[cK];rw[h1];obtain⟨h3,h4⟩:=wH (gd:=gd) (deps:=deps) (nb:=nb) ss (y+t.n) (n+t.q);refine⟨by rw[h3];simp only[qL];omega,fun k c hc=>?_⟩
  rcases List.mem_append.1 hc with hc|hc
  ·exact h2 k c hc
  ·exact (h4 k c hc).imp (fun ⟨r,y',m,h5,h6⟩=>⟨r,y',m,by omega,h6⟩) id
theorem Eaf {gd:Bool}{deps:List (Nat×Nat)}{nb:Nat}:∀ (rs:List (Bool×List LR)) (y n:Nat),(iF gd deps nb y n rs).2.2=n+qR rs/\∀ k c,(k,c)∈(iF gd deps nb y n rs).2.1->(∃ r y m,n<=r/\k=kR r/\c=.root (.v y) m 0 .live)\/(k=kB nb/\∃ ls,c=.box false ls)
 |[],y,n=>⟨rfl,by simp[iF]⟩
 | (ag, ss) :: rs, y, n => by
  obtain⟨h1,h2⟩:=wH (gd:=gd) (deps:=deps) (nb:=nb) ss y n;simp only[iF];rw[h1];obtain⟨h3,h4⟩:=Eaf (gd:=gd) (deps:=deps) (nb:=nb) rs (y+lC ss) (n+qL ss);refine⟨by rw[h3];simp only[qR];omega,fun k c hc=>?_⟩
  rcases List.mem_append.1 hc with hc|hc
  ·exact h2 k c hc
  ·exact (h4 k c hc).imp (fun ⟨r,y',m,h5,h6⟩=>⟨r,y',m,by omega,h6⟩) id
theorem uL {σ:Nat->Option aN}{ptrs:List (Nat×Nat×Nat)}{deps:List (Nat×Nat)}:∀ {bs:List (Bool×List (BS×BO))} {b y n:Nat} {bu:List (Nat×aN)},(kF ptrs deps b y n bs).eval σ=some bu ->
  ∀ k c,(k,c)∈bu->(∃ r y m,n<=r/\k=kR r/\c=.root (.v y) m 0 .live)\/(∃ c0 iu ls,k=kB c0/\σ (kB c0)=some (.box false iu)/\c=.box false ls)
 | [], b, y, n, bu, h => by
  simp only[kF,aF,Option.some.injEq]at h;subst h;simp
 | (ro, cs) :: bs, b, y, n, bu, h => by
  simp only[kF]at h
  cases ro with
  |true=>exact uL (bs:=bs) h
  | false =>
   simp only[cond_false]at h;split at h
   case h_2=>cases h
   simp only[aA,aO,Obm]at h;split at h
   case h_2=>cases h
   rename_i iu ny;simp only[aA,Obg,aF,Option.some.injEq]at h;obtain⟨rest,h1,rfl⟩:=h;obtain⟨h3,h4⟩:=uM (deps:=deps) (cs.map (·.2)) y n;rw[h3]at h1;intro k c hc
   rcases List.mem_cons.1 hc with hc|hc
   ·obtain⟨rfl,rfl⟩:=Prod.mk.inj hc
    exact .inr ⟨_,_,_,rfl,ny,rfl⟩
   ·rcases List.mem_append.1 hc with hc|hc
    ·exact .inl (h4 k c hc)
    ·exact (uL h1 k c hc).imp (fun ⟨r,y',m,h5,h6⟩=>⟨r,y',m,by omega,h6⟩) id
theorem Ha1 {own:Nat->Ow}{w:World}{ds:List D}{gh:Nat->Value}:∀ {ms:List Nat} {i j k d:Nat},Qao own w ds gh i j ms->ms[k]?=some d->Rp own w (2*(j+k)+1) [] d (gh (j+k)) (ds.getD (i+k) .undef)
 |[],i,j,k,d,_,h=>by simp at h
 | e :: ms, i, j, 0, d, h, hk => by
  simp only[Obn,Option.some.injEq]at hk;subst hk;exact h.1
 | e :: ms, i, j, k + 1, d, h, hk => by
  have:=Ha1 h.2 (k:=k) (by simpa using hk);rw[show j+(k+1)=j+1+k by omega,show i+(k+1)=i+1+k by omega];exact this
theorem gU.len {σ:Nat->Option aN}{ρ:List D}{G:Gh}{w:World}:∀ {ts:List (Bool×List aM)} {us:List Value},gU σ ρ G w ts us->us.length=ts.length
 |[],us,h=>by simp only[gU]at h;subst h;rfl
 | (a, ls) :: r, us, h => by
  obtain⟨u,cA,vs,rfl,-,-,h3⟩:=h;simp[gU.len h3]
theorem Tau {σ:Nat->Option aN}{ρ:List D}{G:Gh}{w:World}{g:Option (aI×Bool)}(hg:gOn ρ g=true){rs:List (Bool×List aM)}{us:List Value}(h:gU σ ρ G w rs us):bR σ ρ G w (yO g rs) (Baz us):=by
 unfold yO;split
 ·rename_i x
  obtain⟨u,cA,vs,rfl,h1,h2,h3⟩:=h;simp only[gU]at h3;subst h3;simp only[Obp,if_false]at h2;subst h2;simp only[aG,List.cons.injEq]at h1;obtain⟨u',cA,⟨rfl,rfl⟩,h4,-⟩:=h1;simp only[aB]at h4;simp only[Baz]
  cases g with
  |none=>simp only[mkS,bR,aB];exact h4
  |some z=>simp only[mkS,bR,aB];exact⟨.inl h4,fun _=>h4⟩
 ·rename_i l _
  obtain⟨u,cA,vs,rfl,h1,h2,h3⟩:=h;simp only[gU]at h3;subst h3;simp only[Obp,if_false]at h2;subst h2;simp only[aG,List.cons.injEq]at h1;obtain⟨u',cA,⟨rfl,rfl⟩,h4,-⟩:=h1;simp only[Baz,bR];exact h4
 ·rename_i ls
  obtain⟨u,cA,vs,rfl,h1,h2,h3⟩:=h;simp only[gU]at h3;subst h3;simp only[if_true]at h2;simp only[Baz,bR];exact⟨vs,h2,h1⟩
 ·rename_i _ h1 h2 h3
  simp only[bR]
  match us,rs,h with
  |[],[],h=>exact⟨[],rfl,h⟩
  | [u], [(a, ls)], h =>
   exfalso;obtain⟨u',cA,vs,e,h4,h5,h6⟩:=h;obtain⟨rfl,rfl⟩:=List.cons.inj e
   cases a with
   |true=>exact h3 ls rfl
   | false =>
    simp only[Obp,if_false]at h5;subst h5;have:=h4.len
    match ls,this with
    |[l],_=>exact h2 l rfl
  |u::u'::us,r::r'::rs,h=>exact⟨_,rfl,h⟩
  |[],_::_,h=>have:=h.len;simp at this
  |[_],[],h=>have:=h.len;simp at this
  |[_],_::_::_,h=>have:=h.len;simp at this
  |_::_::_,[],h=>have:=h.len;simp at this
  |_::_::_,[_],h=>have:=h.len;simp at this
theorem qV {σ:Nat->Option aN}{ptrs:List (Nat×Nat×Nat)}:∀ {bs:List (Bool×List (BS×BO))} {b:Nat} {xs:List aI},(gZ ptrs b bs).eval σ=some xs->∀ x∈bs,x.1=false->Na5 (x.2.map (·.2))=true
 |[],b,xs,h,x,hx,_=>by simp at hx
 | (ro, cs) :: bs, b, xs, h, x, hx, pT => by
  simp only[gZ]at h
  cases ro with
  | true =>
   simp only[cond_true]at h
   rcases List.mem_cons.1 hx with rfl|hx
   ·cases pT
   ·exact qV h x hx pT
  | false =>
   simp only[cond_false]at h;split at h
   case h_2=>cases h
   simp only[aA,aO,Obm]at h;split at h
   case h_2=>cases h
   simp only[aA,Obg,aF,Option.some.injEq]at h;obtain⟨l,h1,m,h2,-⟩:=h
   rcases List.mem_cons.1 hx with rfl|hx
   ·clear h2
    rename_i iu _;generalize iu.drop _=ls at h1;dsimp only;clear hx pT
    induction cs generalizing ls l with
    |nil=>rfl
    | cons t cs ih =>
     obtain⟨s,o⟩:=t
     cases ls with
     |nil=>simp[jF,bJ]at h1
     | cons x ls =>
      simp only[jF,aA,Obg]at h1;obtain⟨y,h3,r,h4,-⟩:=h1;have:=ih _ _ h4
      cases o with
      |ow m=>cases s<;>simp[bJ]at h3
      |_=>simpa[Na5] using this
   ·exact qV h2 x hx pT
def Sab (o:Oper)(g:Option (aI×Bool))(rs:List (Bool×List aM)):List (Nat×aN):=match o.dst with
 |some d=>[(kT d,.slot (Xa3 g (yO g rs)) (yO g rs))]
 |none=>[]
section
variable {E:Env} {F:bC} {σ:Nat->Option aN} {ρ:List D} {a:Act} {w w':World} {G:Gh} {g:Option (aI×Bool)} {cf:Nat->List D->Option (List D)} {o:Oper} {s:Sig} {T Z:Take} {nb nr y0 nvm:Nat}
theorem Aab {rs:List (Bool×List aM)}:Sab o g rs=dE o (Xa3 g (yO g rs)) (yO g rs):=rfl
theorem Va5 (hR:R E.ntmps F σ ρ a w G)(hg:gOn ρ g=true)(hd:eG E.ntmps o)(hf:Aal σ nb nr){vs:List SV}{us0:List Value}(hu0:pF σ ρ G w vs us0)
  (hT:(dX g Take.empty s.params vs).eval σ=some T) (hZ:(dV T.ptrs T 0 s.boxes).eval σ=some Z) (hk:Haz s Z) (z7:jK s.results<=1)
  (fq:noG g=true\/(jK s.results=0/\∃ olds,(gZ Z.ptrs 0 s.boxes).eval σ=some olds))
  {rs:List (Bool×List aM)} {us bu mu:List (Nat×aN)} {uu:Nat} {ml:List Step} {ds:List D} (iq:iF (!noG g) Z.deps nb y0 nr s.results=(rs,us,uu))
  (sB:(kF Z.ptrs Z.deps 0 (y0+bF s.results+(Z.rts.filter tT).length) uu s.boxes).eval σ=some bu) {nv1:Nat} (vj:(wL (y0+bF s.results) nv1 Z.rts).eval σ=some (ml,mu))
  (hlen:ds.length=bF s.results+(Z.rts.filter tT).length+dN s.boxes) (dq:∀ j d,ds[j]?=some d->(aI.v (y0+j)).val ρ=d)
  (oS:Z.deps=[]\/Ma1 ρ (Vaz y0 s.results++Va0 (y0+bF s.results) Z.rts++Sal (y0+bF s.results+(Z.rts.filter tT).length) s.boxes)) (zx:aJ cf ρ g nv1 ml)
  (nz:(Sab o g rs++(us++bu++mu++fK Z.rts)).all (fun x=>vY E.ntmps nb nr x.1)=true)
  {v:Value} (ob:Jax s (mZ s (callG ρ G w s Z) w) (callG ρ G w s Z).bx v w' ds) :
  ∃ G2,R E.ntmps F (upds σ (Sab o g rs++(us++bu++mu++fK Z.rts))) ρ (a.put o.dst v) w' G2:=by
 obtain⟨G',cA,rfl,hF,a0a,a5f,jw⟩:=ob;obtain⟨hle1,pb,vk⟩:=jN hZ;rw[<- pb]at vk;obtain⟨rn,sE,hn2,hn3⟩:=sI True (fun _=>hR) hT (fun _=>⟨us0,hu0⟩);obtain⟨qd,hn4,hn5⟩:=pK (ρ:=ρ) (G:=G) (w:=w) hZ;have ga:=sE.trans hn4;have sf:Z.rts=rn++qd:=by have:=ga.rts;simpa[Take.empty] using this
 have sj:∀ x∈Z.rts,Abf σ ρ G w x:=by
  rw[sf];exact fun x hx=>(List.mem_append.1 hx).elim (hn3 trivial x) (hn5 x)
 have hms:(Z.rts.filter tT).map rtD=dI (s.params.flatMap (·.2)):=by
  have:=ga.ms;rw[<- sf,Pbc]at this;exact this
 have hmr:xD 0 Z.rts=dR 0 (s.params.flatMap (·.2)):=by
  have:=ga.mr;rw[<- sf,Pbc]at this;exact this
 have pC:∀ z∈Z.deps,Ia1 σ z.1 z.2:=fun z hz=>by
  rcases ga.deps z hz with h|h
  ·simp[Take.empty]at h
  ·exact h
 have B:Ma2 E F σ ρ a w G s Z G' w':=by
  refine⟨hR,hk,hF,fun j ro cs hj=>by have:=vk j ro cs hj;rwa[Ob9]at this,pC,fun ν r d q X sX=>?_,fun ν r d sX=>?_⟩
  ·obtain⟨m,aE,u,h1,h2,h3⟩:=sj _ (Obw sX)
   exact⟨m,aE,u,h1,h2,h3⟩
  ·obtain⟨x,m,aE,h1⟩:=sj _ (Obw sX)
   exact⟨x,m,aE,h1⟩
 generalize hU:Sab o g rs++(us++bu++mu++fK Z.rts)=U at nz ⊢
 let hs:=owR w' s.results cA++owB w' (callG ρ G w s Z).bx 0 s.boxes
 let adn:=(Fas s.results cA).headD ⟨0,0,none⟩
 let G2:=eF (!noG g) ρ G w s Z nr nb G'.own hs adn
 have wc:∀ k c,(k,c)∈U->(k,c)∈Sab o g rs\/(k,c)∈us\/(k,c)∈bu\/(k,c)∈mu\/(k,c)∈fK Z.rts:=by
  intro k c hc;rw[<- hU]at hc
  rcases List.mem_append.1 hc with hc|hc
  ·exact .inl hc
  ·rcases List.mem_append.1 hc with hc|hc
   ·rcases List.mem_append.1 hc with hc|hc
    ·rcases List.mem_append.1 hc with hc|hc
     ·exact .inr (.inl hc)
     ·exact .inr (.inr (.inl hc))
    ·exact .inr (.inr (.inr (.inl hc)))
   ·exact .inr (.inr (.inr (.inr hc)))
 have hUdst:∀ z∈Sab o g rs,z∈U:=fun z hz=>by rw[<- hU];exact Obi _ hz
 have a4w:∀ z∈us,z∈U:=fun z hz=>by rw[<- hU];exact Obk _ (Obi _ (Obi _ (Obi _ hz)))
 have a0r:∀ z∈bu,z∈U:=fun z hz=>by rw[<- hU];exact Obk _ (Obi _ (Obi _ (Obk _ hz)))
 have a47:∀ z∈mu,z∈U:=fun z hz=>by rw[<- hU];exact Obk _ (Obi _ (Obk _ hz))
 have a4n:∀ z∈fK Z.rts,z∈U:=fun z hz=>by rw[<- hU];exact Obk _ (Obk _ hz)
 have z8:∀ k c,(k,c)∈U->vY E.ntmps nb nr k=true:=fun k c hc=>by
  rw[Ob8]at nz;exact nz _ hc
 obtain⟨so,ru⟩:=Eaf (gd:=!noG g) (deps:=Z.deps) (nb:=nb) s.results y0 nr;rw[iq]at so ru;dsimp only at so ru;subst so;have a3h:=uL sB;have ou:=vH hg vj zx;have nw:∀ r c,(kR r,c)∈U->nr<=r->σ (kR r)=none:=fun r c hc hr=>hf.nr r hr (Aa7 (z8 _ _ hc))
 have xj:∀ k c,(k,c)∈Sab o g rs->∃ d,o.dst=some d/\k=kT d/\c=.slot (Xa3 g (yO g rs)) (yO g rs):=fun k c hc=>by
  rw[Aab]at hc;exact vO hc
 have dt:Fr σ G w (upds σ U) G2 w':=by
  refine Fr.of (fun b hb ar=>B.frz hb ar) (fun r b p gl hb=>?_) (fun r c hc ia=>?_) (fun r x m k hkz b p hb=>?_) (fun r hr=>?_) (fun b hb=>?_)
  ·refine B.other (fun hr=>?_) hb
   rcases vI vj r hr with ⟨c,hc⟩|⟨c,hc⟩
   ·exact gl c (a47 _ hc)
   ·exact gl c (a4n _ hc)
  ·rcases wc _ _ hc with h|h|h|h|h
   ·obtain⟨d,-,e,-⟩:=xj _ _ h
    exact absurd e.symm gW
   ·rcases ru _ _ h with ⟨r',y,m,h1,h2,rfl⟩|⟨h1,-⟩
    ·obtain rfl:=dW h2
     exact .inl ⟨nw r _ hc h1,_,_,_,_,rfl⟩
    ·exact absurd h1.symm dZ
   ·rcases a3h _ _ h with ⟨r',y,m,h1,h2,rfl⟩|⟨c0,iu,ls,h1,-⟩
    ·obtain rfl:=dW h2
     exact .inl ⟨nw r _ hc (by omega),_,_,_,_,rfl⟩
    ·exact absurd h1.symm dZ
   ·obtain⟨j,r',d,q,X,X0,m,aE,X',h1,h2,rfl,h3,-⟩:=ou _ _ h
    obtain rfl:=dW h2;exact .inr (.inl ⟨_,_,_,_,_,h3,rfl⟩)
   ·obtain⟨r',h1,rfl⟩:=jT h
    exact .inr (.inr (.inl ⟨_,_,_,_,rfl,by simp,by simp⟩))
  ·have hb:G2.own b=.slc r p:=hb
   simp only[G2,eF]at hb;split at hb
   ·cases e:G.own b with
    | slc r' p' =>
     rw[e]at hb;simp only[xB]at hb;split at hb
     ·cases hb
     ·split at hb
      ·split at hb
       ·exact hb
       ·cases hb
      ·exact hb
     ·exact hb
    |_=>rw[e]at hb;simp[xB]at hb
   ·cases e:G'.own b with
    | slc t p' =>
     rw[e]at hb;simp only[qW]at hb;split at hb
     ·split at hb
      ·cases hb
      ·split at hb
       ·rename_i ar
        injection hb with e1 e2
        have:=hf.nr r (by omega) (by omega);rw[this]at hkz;cases hkz
       ·cases hb
     ·split at hb
      ·rename_i r' d q X a2g
       injection hb with e1 e2
       subst e1;have hm:=(List.mem_filter.1 (Obw a2g)).1;obtain⟨m',ui,u',h1,-⟩:=sj _ hm;rw[h1]at hkz;cases hkz
      ·cases hb
    | box β =>
     rw[e]at hb;simp only[qW]at hb;split at hb<;>cases hb
    |_=>rw[e]at hb;simp[qW]at hb
  ·show (if nr<=r/\r<nr+bN then _ else G.hdr r)=_
   rw[if_neg]
   rintro⟨h1,h2⟩
   rw[hf.nr r h1 h2]at hr;cases hr
  ·show (if b=nb then adn else G.bx b)=_
   rw[if_neg];intro e;rw[e,hf.nb]at hb;cases hb
 have kO:∀ k c,(k,c)∈U->(upds σ U k).isSome:=fun k c hc=>dJ _ _ _ (.inr ⟨c,hc⟩)
 have a0e:∀ l:List (Nat×aN),(∀ z∈l,z∈U)->UIn (upds σ U) nr l:=fun l hl k c hc=>by
  refine⟨kO k c (hl _ hc),fun q e=>?_⟩;have:=z8 _ _ (hl _ hc);rw[e]at this;have:=Aa7 this;omega
 have vo:∀ i,i<ds.length->(aI.v (y0+i)).val ρ=ds.getD i .undef:=fun i hi=>by
  rw[Obo,Obl hi,Pb4];exact dq i _ (Obl hi)
 have A:Aft E F σ (upds σ U) ρ a w G s Z G' w' y0 ds:=by
  refine⟨B,vo,fun z hz=>dt.known _ _ ?_⟩;obtain⟨m,x,hx⟩:=pC z hz;exact⟨x,m,z.2,.live,hx,fun _=>Oby _⟩
 have a4m:(!noG g)=false\/jK s.results=0:=by
  rcases fq with h|h
  ·exact .inl (by rw[h];rfl)
  ·exact .inr h.1
 have se:=Ga0 A (gd:=!noG g) (nb:=nb) (nr:=nr) (hs:=hs) (adn:=adn) (i:=0) (q:=0) a0a (by omega) (oS.imp id fun h m y hm=>h m y (Obi _ (Obi _ hm)))
  a4m (fun j x hj=>by
   rw[Ob9];show (owR w' s.results cA++_)[j]?=some x
   rw[Obx (List.getElem?_eq_some_iff.1 hj).1]
   exact hj) (fun ad qp=>by
   have hl:=Mat s.results cA;show ad=(Fas s.results cA).headD _
   match hb:Fas s.results cA,qp with
   |[x],qp=>simpa using qp
   |x::y::l,qp=>rw[hb]at hl;simp at hl;omega) (by
   rw[Pbb,Pbb,iq];exact a0e us a4w)
 rw[Pbb,Pbb,iq]at se;dsimp only at se;obtain⟨-,mm,a3q,a0s⟩:=se;have xg:(dI (s.params.flatMap (·.2))).length=(Z.rts.filter tT).length:=by rw[<- hms];simp
 rw[xg]at jw
 have a5d:=xM A (gd:=!noG g) (nb:=nb) (nr:=nr) (hs:=hs) (adn:=adn) hf.nb (bs:=s.boxes) (b:=0) (i:=bF s.results+(Z.rts.filter tT).length) (q:=qR s.results) (bu:=bu) (by simp)
  (by rw[<- Ob0];exact sB) jw (by omega) (oS.imp id fun h m y hm=>h m y (Obk _ (by rw[Ob0];exact hm)))
  (by
   rcases fq with h|⟨-,olds,h⟩
   ·exact .inl (by rw[h];rfl)
   ·exact .inr (qV h)) (fun j x hj=>by
   show (owR w' s.results cA++owB w' (callG ρ G w s Z).bx 0 s.boxes)[qR s.results+j]?=some x
   rw[Obz (by omega),mm,Pbe];exact hj) (a0e bu a0r)
 obtain⟨y7,a2d⟩:=a5d;refine⟨G2,hR.upd U dt (by rw[yS];exact hR.tmps) (by rw[put_defers];exact hR.defers) B.frame (fun t ht=>?_) (fun b ro ls hb gl=>?_) (fun b ls hb ar ho=>?_) (fun k c hc ia=>?_)⟩
 ·rw[<- hU,Aab]at ht
  exact Ca0 ht
 ·
  obtain⟨h1,h2,h3⟩:=hR.box hb
  have ar:(G.bx b).block<w.heap.size:=by
   rcases Ob2 (G.bx b).block w.heap.size with h|h
   ·exact h
   ·rw[hR.frame.fresh _ h]at h2
    split at h2<;>cases h2
  cases ro with
  | true =>
   simp only[if_true]at h2;obtain⟨h4,h5⟩:=B.oth (gd:=!noG g) (nr:=nr) (nb:=nb) (hs:=hs) (adn:=adn) h2 ar;exact⟨h4.trans h2.symm,h5⟩
  | false =>
   simp only[Obp,if_false]at h2;obtain⟨h4,h5⟩:=B.boxes (gd:=!noG g) (nr:=nr) (nb:=nb) (hs:=hs) (adn:=adn) h2 ar;refine⟨h4.trans h2.symm,?_⟩
   rcases h5 with h5|⟨j,cs,off,ls2,c0,c1,e,fr,e1,e2,e3,e4,-⟩
   ·exact h5
   ·exfalso
    have hm:=qU (wr:=false) (b:=0) e1 (by rw[Ob9];exact e2);obtain⟨x,hx⟩:=a2d b hm;exact gl x (a0r _ hx)
 ·
  rcases wc _ _ hb with h|h|h|h|h
  ·obtain⟨d,-,e,-⟩:=xj _ _ h
   exact absurd e.symm kD
  ·rcases a0s _ _ h with ⟨q,m,i,e,-⟩|⟨e,jt,e2,qm,sC⟩
   ·exact absurd e dZ
   ·exfalso
    have e:=zL e;subst e;refine sC ⟨Nat.lt_of_lt_of_le ar hR.frame.size,?_⟩;have h1:=(hR.frame.boxes _ _ ar ho).1
    have h2:(callG ρ G w s Z).own ((eF (!noG g) ρ G w s Z nr b G'.own hs adn).bx b).block=.oth\/∃ j,(callG ρ G w s Z).own ((eF (!noG g) ρ G w s Z nr b G'.own hs adn).bx b).block=.box j:=by
     have tw:G.own ((eF (!noG g) ρ G w s Z nr b G'.own hs adn).bx b).block=.box b:=h1;simp only[callG,tw];split
     ·split
      ·exact .inr ⟨_,rfl⟩
      ·exact .inl rfl
     ·exact .inl rfl
    rcases h2 with h2|⟨j,h2⟩<;>rw[h2]<;>rfl
  ·rcases y7 _ _ h with ⟨q,m,i,e,-⟩|⟨c0,iu,jt,e,h1,h2,h3,-⟩
   ·exact absurd e dZ
   ·obtain rfl:=zL e
    injection h2 with e1 e2
    have hbn:G2.bx b=G.bx b:=dt.bx b (by rw[h1];rfl);rw[hbn]at ar ho ⊢;rw[hR.rng b iu h1 ar ho,e2,h3]
  ·obtain⟨j,r',d,q,X,X0,m,aE,X',h1,h2,-⟩:=ou _ _ h
   exact absurd h2 dZ
  ·obtain⟨r',h1,-⟩:=jT h
   exact absurd h1 dZ
 ·rcases wc _ _ hc with h|h|h|h|h
  ·obtain⟨d,lq,rfl,rfl⟩:=xj _ _ h
   refine⟨d,rfl,fun _=>?_⟩;rw[lq,mF _ _ _ _ _ (hd d lq) hR.tmps];exact Tau hg a3q
  ·rcases a0s _ _ h with ⟨q,m,i,rfl,rfl,fa⟩|⟨rfl,jt,rfl,qm,-⟩
   ·exact⟨nr+q,rfl,by rw[ia];rfl,fa⟩
   ·exact⟨nb,rfl,qm⟩
  ·rcases y7 _ _ h with ⟨q,m,i,rfl,rfl,fa⟩|⟨c0,iu,jt,rfl,h1,rfl,h3,h4⟩
   ·exact⟨nr+q,rfl,by rw[ia];rfl,fa⟩
   ·refine⟨c0,rfl,h4 fun j l hj=>?_⟩
    obtain⟨-,-,cG⟩:=hR.box h1;obtain⟨v,s5,hv2,hv3⟩:=cG j l hj;exact⟨v,s5,fun hl=>aB.mono dt l v hl⟩
  ·obtain⟨j,r',d,q,X,X0,m,aE,X',h1,rfl,rfl,h3,hfd,h4⟩:=ou _ _ h
   refine⟨r',rfl,by rw[ia];rfl,?_⟩;show Rp G2.own w' r' [] m (G2.hdr r') (X'.val ρ)
   have yb:G2.hdr r'=G.hdr r':=dt.hdr r' (by rw[h3];rfl);rw[yb];have a5w:=(List.getElem?_eq_some_iff.1 h1).1;have kk:j<(xD 0 Z.rts).length:=by rw[Lau];exact a5w
   have sX:=Obl kk;obtain⟨x,nF,-,nh⟩:=Lav sX;rw[h1]at nF;obtain rfl:=Option.some.inj nF;rw[Nat.sub_zero]at nh
   have hd0:(dI (s.params.flatMap (·.2)))[j]?=some d:=by
    rw[<- hms,Ob5,h1];rfl
   have gr:=Ha1 a5f hd0;rw[Ob9]at gr
   have hy:(aI.v (y0+bF s.results+j)).val ρ=ds.getD (bF s.results+j) .undef:=by
    rw[Ob0];exact vo _ (by omega)
   rw[<- hy]at gr
   have wj:(mZ s (callG ρ G w s Z) w).gh j=Ta8 w (G.hdr r') (aZ ρ q):=by
    simp only[mZ,Ea3,Obo];rw[<- hmr,Obx (by simpa using kk),Ob5,sX];simp only[Pbj,Pb4];rw[Aah nh];rfl
   rw[wj]at gr;refine B.mu h3 hfd nh h1 (fun u' hn=>Aa3 hn) gr (oS.imp id fun hc=>?_) h4
   have dh:∀ (rts:List RT) (y j:Nat) (r d:Nat) (q:List (aI×Nat×Nat)) (X:aI),(rts.filter tT)[j]?=some (RT.mu r d q X)->Step.prim (.dep d) [.v (y+j)] 0∈Va0 y rts:=by
    intro rts
    induction rts with
    |nil=>intro y j r d q X h;simp at h
    | cons x t ih =>
     intro y j r d q X h
     cases x with
     |nil=>exact ih y j r d q X (by simpa[tT,Pb1] using h)
     |own _ _=>exact ih y j r d q X (by simpa[tT,Pb1] using h)
     | mu r' d' q' X' =>
      simp only[Va0]
      cases j with
      | zero =>
       simp[tT,Pb1]at h;rw[h.2.1];exact Obu
      | succ j =>
       have:=ih (y+1) j r d q X (by simpa[tT,Pb1] using h);rw[show y+1+j=y+(j+1) by omega]at this;exact Obq _ this
   exact hc d _ (Obi _ (Obk _ (dh _ _ _ _ _ _ _ h1)))
  ·obtain⟨r',rfl,rfl⟩:=jT h
   exact⟨r',rfl,by rw[ia];rfl,trivial⟩
end
theorem Bag:∀ (cs:List BO) (y:Nat),bD (lW y cs)=0
 |[],y=>rfl
 |t::cs,y=>by cases t<;>simp only[lW,gV,Step.n,Bag cs]
theorem Abb:∀ (ss:List LR) (y:Nat),bD (Oar y ss)=0
 |[],y=>rfl
 |t::ss,y=>by cases t<;>simp only[Oar,gV,dY,Step.n,Bag,Abb ss]
theorem Za9:∀ (rs:List (Bool×List LR)) (y:Nat),bD (Vaz y rs)=0
 |[],y=>rfl
 |(a,ss)::rs,y=>by simp only[Vaz,dY,Abb,Za9 rs]
theorem Aba:∀ (ts:List RT) (y:Nat),bD (Va0 y ts)=0
 |[],y=>rfl
 |t::ts,y=>by cases t<;>simp only[Va0,gV,Step.n,Aba ts]
theorem Abc:∀ (bs:List (Bool×List (BS×BO))) (y:Nat),bD (Sal y bs)=0
 |[],y=>rfl
 |(ro,cs)::bs,y=>by cases ro<;>simp only[Sal,cond_true,cond_false,dY,Bag,Abc bs]
theorem Qaa {ρ:List D}{g:Option (aI×Bool)}{cf:Nat->List D->Option (List D)}(hg:gOn ρ g=true):∀ {l:List Step} {nv:Nat},aJ cf ρ g nv l->Ma1 ρ l
 |[],nv,h=>fun m y hm=>by simp at hm
 | t :: l, nv, h => fun m y hm => by
  rcases List.mem_cons.1 hm with e|hm
  ·subst e
   obtain⟨ds,h1,-,-⟩:=h.1.1 hg;simp only[Ob1,Pba,aY.run]at h1;split at h1
   ·rename_i hf;exact hf
   ·cases h1
  ·exact Qaa hg h.2 m y hm
theorem Kax {deps:List (Nat×Nat)}{nb:Nat}:∀ (rs:List (Bool×List LR)) (y n:Nat),jK rs=0->(iF true deps nb y n rs).2.1=[]
 |[],y,n,_=>rfl
 | (a, ss) :: rs, y, n, h => by
  simp only[jK]at h
  have hl:∀ (ss:List LR) (y n:Nat),bxL ss=0->(cK true deps nb y n ss).2.1=[]:=by
   intro ss
   induction ss with
   |nil=>intro y n _;rfl
   | cons t ss ih =>
    intro y n h
    cases t with
    |bx cs=>simp[bxL]at h
    |_=>simp only[cK,bT,cond_true,Pbp];exact ih _ _ (by simpa[bxL] using h)
  simp only[iF,hl ss y n (by omega),Pbp];exact Kax rs _ _ (by omega)
theorem Ga1 {gd:Bool}{deps:List (Nat×Nat)}{nb y n:Nat}{rs:List (Bool×List LR)}{l:aM}(h:(iF gd deps nb y n rs).1=[(false,[l])]):(∀ g x,l≠.su g x)/\∀ x,l=.sc x->x=.v y/\1<=bF rs:=by
 match rs,h with
 |[],h=>simp[iF]at h
 |(a,ss)::r::rs,h=>simp[iF]at h
 | [(a, ss)], h =>
  simp only[iF,List.cons.injEq,Prod.mk.injEq,and_true]at h;obtain⟨-,h⟩:=h
  match ss,h with
  |[],h=>simp[cK]at h
  |t::t'::ss,h=>simp[cK]at h
  | [t], h =>
   simp only[cK,List.cons.injEq,and_true]at h;subst h
   cases t with
   |sc=>exact⟨fun g x e=>by simp[bT]at e,fun x e=>by simp[bT]at e;exact⟨e.symm,by simp[bF,lC,LR.n]⟩⟩
   |ow m=>cases gd<;>exact⟨fun g x e=>by simp[bT]at e,fun x e=>by simp[bT]at e⟩
   |_=>exact⟨fun g x e=>by simp[bT]at e,fun x e=>by simp[bT]at e⟩
theorem Tav {σ:Nat->Option aN}{ρ:List D}{G:Gh}{w:World}{z:aI×Bool}(hg:gOn ρ (some z)=false){gd:Bool}{deps:List (Nat×Nat)}{nb y n:Nat}{rs0:List (Bool×List LR)}{rs:List (Bool×List aM)}
  (xF:(iF gd deps nb y n rs0).1=rs) (hv:1<=bF rs0->(aI.v y).val ρ=.undef) (h:gOn ρ (Xa3 (some z) (yO (some z) rs))=true):bR σ ρ G w (yO (some z) rs) undef:=by
 unfold yO at h ⊢;split at h
 ·rename_i x
  obtain⟨h1,h2⟩:=(Ga1 xF).2 x rfl;subst h1;simp only[mkS,bR,aB];exact⟨.inr ⟨trivial,hv h2⟩,fun e=>by rw[hg]at e;cases e⟩
 ·rename_i l cn
  have vm:=(Ga1 xF).1;exfalso
  revert h vm
  cases l with
  |su g' x'=>exact fun _ vm=>vm g' x' rfl
  |_=>intro e _;simp only[Xa3]at e;rw[hg]at e;cases e
 ·simp only[Xa3]at h;rw[hg]at h;cases h
 ·simp only[Xa3]at h;rw[hg]at h;cases h
section
variable {P:Program} {E:Env} {F:bC} {σ:Nat->Option aN} {ρ:List D} {a:Act} {w w':World} {G:Gh} {g:Option (aI×Bool)} {cf:Nat->List D->Option (List D)} {o:Oper} {s:Sig} {T Z:Take} {nb nr y0 nvm:Nat}
theorem Ba2 (hR:R E.ntmps F σ ρ a w G){db:Nat->Option aN}(dt:Fr σ G w db G w){deps:List (Nat×Nat)}(sL:∀ z∈deps,iG σ z.1 z.2):∀ {cs:List (BS×BO)} {ls:List aM} {xs:List aI} {y n:Nat},(jF cs ls).eval σ=some xs ->
  (∀ j x,xs[j]?=some x->(aI.v (y+j)).val ρ=x.val ρ)->(∀ (j:Nat) (nie:Bool) (o:BO) (l:aM),cs[j]?=some (BS.fz nie,o)->ls[j]?=some l->∃ r,(vC l).eval σ=some r/\∀ z∈r.deps,z∈deps) ->
  xs.length=cs.length/\(dB deps y n (cs.map (·.2))).2.1=[]/\(dB deps y n (cs.map (·.2))).1.length=cs.length /\
  ∀ (j:Nat) (l l0:aM) (v:Value),(dB deps y n (cs.map (·.2))).1[j]?=some l->ls[j]?=some l0->aB σ ρ G w l0 v->aB db ρ G w l v
 | [], ls, xs, y, n, h, _, _ => by
  simp only[jF,aF,Option.some.injEq]at h;subst h;exact⟨rfl,rfl,rfl,by simp[dB]⟩
 |_::_,[],xs,y,n,h,_,_=>by simp[jF,bJ]at h
 | (t, o) :: cs, l0 :: ls, xs, y, n, h, hx, hz => by
  simp only[jF,aA,Obg,aF,Option.some.injEq]at h;obtain⟨x,h1,r,h2,rfl⟩:=h;have hx0:(aI.v y).val ρ=x.val ρ:=by have:=hx 0 x rfl;rwa[Pbb]at this
  have key:(iQ deps y n o).2.1=[]/\∀ v,aB σ ρ G w l0 v->aB db ρ G w (iQ deps y n o).1 v:=by
   split at h1
   ·rename_i x'
    simp only[aF,Option.some.injEq]at h1;subst h1;refine⟨rfl,fun v hv=>?_⟩;simp only[iQ,aB]at hv ⊢;rw[hx0];exact hv
   ·rename_i _ nie
    simp only[aA,Obg,aF,Option.some.injEq]at h1;obtain⟨sl,h3,rfl⟩:=h1;refine⟨rfl,fun v hv=>?_⟩;obtain⟨sl',h4,h5⟩:=hz 0 nie .fz _ rfl rfl;rw[h3]at h4;obtain rfl:=Option.some.inj h4;have hs:=dH hR h3 hv;have lB:v.oneCell'=true:=hv.one (by cases l0<;>first|rfl|cases h3)
    have hl:aB σ ρ G w (.sn deps .no false (.v y)) v:=by
     simp only[aB];refine⟨⟨lB,sL⟩,fun _=>⟨?_,fun e=>absurd e (by decide),trivial⟩⟩;rw[hx0];refine hs.rd.mono fun b hb=>⟨?_,rfl⟩
     rcases hb with hb|⟨r,k,p,hm,hb⟩
     ·exact .inl hb
     ·exact .inr ⟨r,k,p,h5 _ hm,hb⟩
    exact aB.mono dt _ v hl
   ·rw[fZ]at h1
    split at h1
    ·rename_i hs
     simp only[aF,Option.some.injEq]at h1;refine⟨rfl,fun v hv=>?_⟩;simp only[iQ,aB];exact hv.one hs
    ·cases h1
   ·cases h1
  obtain⟨h3,h4,h5,h6⟩:=Ba2 hR dt sL (cs:=cs) (y:=y+1) (n:=(iQ deps y n o).2.2) h2 (fun j x hj=>by
   have:=hx (j+1) x (by simpa using hj);rwa[show y+(j+1)=y+1+j by omega]at this) (fun j nie o' l hj hl=>hz (j+1) nie o' l (by simpa using hj) (by simpa using hl))
  refine⟨by simp[h3],by simp only[Ob1,dB,key.1,Pbp];exact h4,by simp only[Ob1,dB,Pbm];rw[h5],fun j l l1 v hj hl hv=>?_⟩;simp only[Ob1,dB]at hj
  cases j with
  | zero =>
   simp only[Obn,Option.some.injEq]at hj hl;subst hj hl;exact key.2 v hv
  |succ j=>exact h6 j l l1 v (by simpa using hj) (by simpa using hl) hv
theorem Bas:∀ {ss:List (BS×BO)} {ls:List aM} {A B:Take},(dK A ss ls).eval σ=some B->∀ (j:Nat) (nie:Bool) (o:BO) (l:aM),ss[j]?=some (BS.fz nie,o)->ls[j]?=some l->∃ r,(vC l).eval σ=some r/\∀ z∈r.deps,z∈B.deps
 |[],ls,A,B,h,j,nie,o,l,hj,_=>by simp at hj
 |_::_,[],A,B,h,_,_,_,_,_,_=>by simp[dK,bJ]at h
 | (t, o) :: ss, l0 :: ls, A, B, h, j, nie, o', l, hj, hl => by
  simp only[dK,aA,Obg]at h;obtain⟨C,h1,h2⟩:=h
  cases j with
  | zero =>
   simp only[Obn,Option.some.injEq,Prod.mk.injEq]at hj hl;obtain⟨rfl,rfl⟩:=hj;subst hl
   have h3:(oH A nie l0).eval σ=some C:=by
    have hinv:=nH h1;clear h1
    rcases hinv with ⟨x,e,-⟩|⟨nie',e,h⟩|⟨d,e,-⟩|⟨e,-⟩
    ·cases e
    ·injection e with e;subst e;exact h
    ·cases e
    ·cases e
   unfold oH at h3;simp only[aA,Obg,aF,Option.some.injEq]at h3;obtain⟨sl,h4,rfl⟩:=h3;exact⟨sl,h4,fun z hz=>(nG h2).1.deps z (Obk _ hz)⟩
  |succ j=>exact Bas h2 j nie o' l (by simpa using hj) (by simpa using hl)
theorem Bat {ptrs:List (Nat×Nat×Nat)}:∀ {bs:List (Bool×List (BS×BO))} {b:Nat} {A B:Take},(dV ptrs A b bs).eval σ=some B->∀ (i:Nat) (ro:Bool) (cs:List (BS×BO)),bs[i]?=some (ro,cs) ->
  ∃ c off kc ls,mJ (b+i) ptrs=some (c,off)/\σ (kB c)=some (.box kc ls)/\off+cs.length<=ls.length/\∀ (j:Nat) (nie:Bool) (o:BO) (l:aM),cs[j]?=some (BS.fz nie,o)->(ls.drop off)[j]?=some l->∃ r,(vC l).eval σ=some r/\∀ z∈r.deps,z∈B.deps
 |[],b,A,B,h,i,ro,cs,hi=>by simp at hi
 | (ro0, cs0) :: bs, b, A, B, h, i, ro, cs, hi => by
  simp only[dV]at h;split at h
  case h_2=>cases h
  rename_i c off hp;simp only[aA,aO,Obm]at h;split at h
  case h_2=>cases h
  rename_i kc ls ny;simp only[aA,aH,Obg]at h;obtain⟨_,h0,C,h1,h2⟩:=h;split at h0
  case isFalse=>cases h0
  rename_i hb;simp only[Obh,Pbn]at hb
  cases i with
  | zero =>
   simp only[Obn,Option.some.injEq,Prod.mk.injEq]at hi;obtain⟨rfl,rfl⟩:=hi;refine⟨c,off,kc,ls,hp,ny,hb.2,fun j nie o l hj hl=>?_⟩;obtain⟨r,h3,h4⟩:=Bas h1 j nie o l hj hl;exact⟨r,h3,fun z hz=>(jN h2).1.deps z (h4 z hz)⟩
  | succ i =>
   obtain⟨c',jx,a27,jt,h3,h4,h5,h6⟩:=Bat h2 i ro cs (by simpa using hi);exact⟨c',jx,a27,jt,by rw[show b+(i+1)=b+1+i by omega];exact h3,h4,h5,h6⟩
theorem xN (hR:R E.ntmps F σ ρ a w G){deps:List (Nat×Nat)}(sL:∀ z∈deps,iG σ z.1 z.2){ptrs:List (Nat×Nat×Nat)}:∀ {bs:List (Bool×List (BS×BO))} {b y n:Nat} {bu:List (Nat×aN)} {xs:List aI},
  (kF ptrs deps b y n bs).eval σ=some bu->(gZ ptrs b bs).eval σ=some xs->(∀ j x,xs[j]?=some x->(aI.v (y+j)).val ρ=x.val ρ) ->
  (∀ (i:Nat) (ro:Bool) (cs:List (BS×BO)),bs[i]?=some (ro,cs)->∃ c off kc ls,mJ (b+i) ptrs=some (c,off)/\σ (kB c)=some (.box kc ls)/\off+cs.length<=ls.length/\∀ (j:Nat) (nie:Bool) (o:BO) (l:aM),cs[j]?=some (BS.fz nie,o)->(ls.drop off)[j]?=some l->∃ r,(vC l).eval σ=some r/\∀ z∈r.deps,z∈deps) ->
  xs.length=dN bs/\∀ k c,(k,c)∈bu->∃ (c0:Nat) (iu ls:List aM),k=kB c0/\σ (kB c0)=some (.box false iu)/\c=.box false ls/\ls.length=iu.length/\∀ (db:Nat->Option aN),Fr σ G w db G w->∀ (j:Nat) (l l0:aM) (v:Value),ls[j]?=some l->iu[j]?=some l0->aB σ ρ G w l0 v->aB db ρ G w l v
 | [], b, y, n, bu, xs, h, hx, _, _ => by
  simp only[kF,aF,Option.some.injEq]at h;simp only[gZ,aF,Option.some.injEq]at hx;subst h hx;exact⟨rfl,by simp⟩
 | (ro, cs) :: bs, b, y, n, bu, xs, h, hx, hv, hz => by
  have hz':∀ (i:Nat) (ro:Bool) (cs:List (BS×BO)),bs[i]?=some (ro,cs)->∃ c off kc ls,mJ (b+1+i) ptrs=some (c,off)/\σ (kB c)=some (.box kc ls)/\off+cs.length<=ls.length/\∀ (j:Nat) (nie:Bool) (o:BO) (l:aM),cs[j]?=some (BS.fz nie,o)->(ls.drop off)[j]?=some l->∃ r,(vC l).eval σ=some r/\∀ z∈r.deps,z∈deps:=fun i ro cs hi=>by
   have:=hz (i+1) ro cs (by simpa using hi);rwa[show b+(i+1)=b+1+i by omega]at this
  simp only[kF]at h;simp only[gZ]at hx
  cases ro with
  | true =>
   simp only[cond_true]at h hx;obtain⟨h1,h2⟩:=xN hR sL h hx hv hz';exact⟨by rw[h1];simp only[dN,cond_true,Ob9],h2⟩
  | false =>
   simp only[cond_false]at h hx;obtain⟨c,off,kc,iu,e1,e2,e3,e4⟩:=hz 0 false cs rfl;rw[Pbb]at e1;rw[e1]at h hx;simp only[aA,aO,Obm]at h hx;rw[e2]at h hx
   cases kc with
   |true=>simp[bJ]at h
   | false =>
    simp only[aA,Obg,aF,Option.some.injEq]at h hx;obtain⟨rest,h1,rfl⟩:=h;obtain⟨l1,h2,m1,h3,rfl⟩:=hx;have hold:=fun db (dt:Fr σ G w db G w)=>Ba2 (E:=E) (F:=F) (a:=a) hR dt sL (cs:=cs) (ls:=iu.drop off) (y:=y) (n:=n) h2 (fun j x hj=>hv j x (by rw[Obx (List.getElem?_eq_some_iff.1 hj).1];exact hj)) e4
    obtain⟨h4,h5,h6,-⟩:=hold σ (Fr.same σ G w [] (by simp))
    obtain⟨h7,h8⟩:=xN hR sL h1 h3 (fun j x hj=>by
     have:=hv (cs.length+j) x (by rw[Obz (by omega),h4,Pbe];exact hj);rwa[<- Ob0]at this) hz'
    refine⟨by rw[Obv,h4,h7];simp only[dN,cond_false],fun k x xr=>?_⟩;rw[h5]at xr;simp only[Qbb,Pbp]at xr
    rcases List.mem_cons.1 xr with xr|xr
    ·obtain⟨rfl,rfl⟩:=Prod.mk.inj xr
     refine⟨c,iu,_,rfl,e2,rfl,jQ (by rw[h6];exact e3),fun db dt j l l0 v hj lR gu=>?_⟩;rw[gP (by rw[h6];exact e3)]at hj;split at hj
     ·rename_i hr
      refine (hold db dt).2.2.2 (j-off) l l0 v hj ?_ gu;rw[List.getElem?_drop,show off+(j-off)=j by omega];exact lR
     ·rw[lR]at hj
      obtain rfl:=Option.some.inj hj;exact aB.mono dt _ v gu
    ·exact h8 k x xr
theorem Zag (hR:R E.ntmps F σ ρ a w G)(hg:gOn ρ g=false)(hd:eG E.ntmps o)(vA:∀ z∈Z.deps,Ia1 σ z.1 z.2)(q0:Z.rts=[])(xy:jK s.results=0)
  (hZ:(dV T.ptrs T 0 s.boxes).eval σ=some Z) {olds:List aI} (hold:(gZ Z.ptrs 0 s.boxes).eval σ=some olds)
  {rs:List (Bool×List aM)} {us bu:List (Nat×aN)} {uu:Nat} (iq:iF true Z.deps nb y0 nr s.results=(rs,us,uu)) (ym:noG g=false)
  (sB:(kF Z.ptrs Z.deps 0 (y0+bF s.results) uu s.boxes).eval σ=some bu)
  (dq:∀ j d,(Ob3 (bF s.results+dN s.boxes-olds.length) D.undef++olds.map (·.val ρ))[j]?=some d->(aI.v (y0+j)).val ρ=d) :
  R E.ntmps F (upds σ (Sab o g rs++(us++bu))) ρ (a.put o.dst undef) w G:=by
 have wv:us=[]:=by
  have:=Kax (deps:=Z.deps) (nb:=nb) s.results y0 nr xy;rw[iq]at this;exact this
 subst wv;rw[Pbp];obtain⟨-,pb,-⟩:=jN hZ
 have sL:∀ z∈Z.deps,iG σ z.1 z.2:=fun z hz=>by
  obtain⟨m,x,hx⟩:=vA z hz;exact⟨x,m,z.2,.live,hx,fun _=>Oby _⟩
 have lP:=Bat hZ;rw[<- pb]at lP
 have hlen0:olds.length=dN s.boxes:=by
  have hln:∀ {bs:List (Bool×List (BS×BO))} {b:Nat} {xs:List aI},(gZ Z.ptrs b bs).eval σ=some xs->xs.length=dN bs:=by
   intro bs
   induction bs with
   |nil=>intro b xs h;simp only[gZ,aF,Option.some.injEq]at h;subst h;rfl
   | cons x bs ih =>
    intro b xs h;obtain⟨ro,cs⟩:=x;simp only[gZ]at h
    cases ro with
    |true=>simp only[cond_true]at h;rw[ih h];simp only[dN,cond_true,Ob9]
    | false =>
     simp only[cond_false]at h;split at h
     case h_2=>cases h
     simp only[aA,aO,Obm]at h;split at h
     case h_2=>cases h
     simp only[aA,Obg,aF,Option.some.injEq]at h;obtain⟨l,h1,m,h2,rfl⟩:=h
     have hc:∀ {cs:List (BS×BO)} {ls:List aM} {ys:List aI},(jF cs ls).eval σ=some ys->ys.length=cs.length:=by
      intro cs
      induction cs with
      |nil=>intro ls ys h;simp only[jF,aF,Option.some.injEq]at h;subst h;rfl
      | cons t cs ihc =>
       intro ls ys h;obtain⟨t1,t2⟩:=t
       cases ls with
       |nil=>simp[jF,bJ]at h
       | cons x ls =>
        simp only[jF,aA,Obg,aF,Option.some.injEq]at h;obtain⟨y,-,r,h4,rfl⟩:=h;simp[ihc h4]
     rw[Obv,hc h1,ih h2];simp only[dN,cond_false]
  exact hln hold
 have a4b:bF s.results+dN s.boxes-olds.length=bF s.results:=by omega
 rw[a4b]at dq
 obtain⟨-,jw⟩:=xN hR sL sB hold (fun j x hj=>by
  rw[Ob0];refine dq _ _ ?_;rw[Obz (by simp),Pb6,Pbe,Ob5,hj]
  rfl) lP
 have xj:∀ k c,(k,c)∈Sab o g rs->∃ d,o.dst=some d/\k=kT d/\c=.slot (Xa3 g (yO g rs)) (yO g rs):=fun k c hc=>by
  rw[Aab]at hc;exact vO hc
 have ko:∀ k c,(k,c)∈Sab o g rs++bu->∀ r,k≠kR r:=by
  intro k c hc r
  rcases List.mem_append.1 hc with hc|hc
  ·obtain⟨d,-,e,-⟩:=xj _ _ hc
   rw[e];exact gW
  ·obtain⟨c0,iu,ls,e,-⟩:=jw _ _ hc
   rw[e];exact dZ
 have dt:=Fr.nonroot σ G w (Sab o g rs++bu) ko;refine hR.upd _ dt (by rw[yS];exact hR.tmps) (by rw[put_defers];exact hR.defers) hR.frame (fun t ht=>?_) (fun _ _ _ _ _=>⟨rfl,rfl⟩) (fun b ls hb ar ho=>?_) (fun k c hc ia=>?_)
 ·rw[Aab]at ht
  exact Ca0 ht
 ·rcases List.mem_append.1 hb with hb|hb
  ·obtain⟨d,-,e,-⟩:=xj _ _ hb
   exact absurd e.symm kD
  ·obtain⟨c0,iu,jt,e,h1,h2,h3,-⟩:=jw _ _ hb
   obtain rfl:=zL e
   injection h2 with e1 e2
   rw[hR.rng b iu h1 ar ho,e2,h3]
 ·rcases List.mem_append.1 hc with hc|hc
  ·obtain⟨d,lq,rfl,rfl⟩:=xj _ _ hc
   refine⟨d,rfl,fun eJ=>?_⟩;rw[lq,mF _ _ _ _ _ (hd d lq) hR.tmps];have xF:(iF true Z.deps nb y0 nr s.results).1=rs:=by rw[iq]
   cases g with
   |none=>simp[gOn]at hg
   | some z =>
    refine Tav hg xF (fun lE=>?_) eJ
    have:=dq 0 .undef (by
     rw[Obx (by simp;omega)];rw[Qbz,if_pos (by omega)])
    rwa[Pbb]at this
  ·obtain⟨c0,iu,ls,rfl,h1,rfl,h3,h4⟩:=jw _ _ hc
   obtain⟨h5,h6,h7⟩:=hR.box h1;refine⟨c0,rfl,h5,h6,fun j l hj=>?_⟩;have ar:j<iu.length:=by rw[<- h3];exact (List.getElem?_eq_some_iff.1 hj).1
   obtain⟨v,h8,h9,b9⟩:=h7 j _ (Obl ar);exact⟨v,h8,h9,h4 _ dt j l _ v hj (Obl ar) b9⟩
end
section
variable {P:Program} {E:Env} {F:bC} {σ:Nat->Option aN} {ρ:List D} {a:Act} {w:World} {G:Gh} {g:Option (aI×Bool)} {o:Oper}
theorem Kac:∀ {vs:List SV} {us:List Value},vs.length=us.length->(∀ (i:Nat) (v:SV) (u:Value),vs[i]?=some v->us[i]?=some u->bR σ ρ G w v u)->pF σ ρ G w vs us
 |[],[],_,_=>rfl
 |[],_::_,h,_=>by simp at h
 |_::_,[],h,_=>by simp at h
 |v::vs,u::us,h,hr=>⟨u,us,rfl,hr 0 v u rfl rfl,Kac (by simpa using h) fun i v' u' hv hu=>hr (i+1) v' u' (by simpa using hv) (by simpa using hu)⟩
theorem yA:∀ {vs tM:List SV} {us cA:List Value},pF σ ρ G w vs us->pF σ ρ G w tM cA->pF σ ρ G w (vs++tM) (us++cA)
 |[],tM,us,cA,h,h'=>by simp only[pF]at h;subst h;exact h'
 | v :: vs, tM, us, cA, h, h' => by
  obtain⟨u,us2,rfl,h1,h2⟩:=h;exact⟨u,us2++cA,rfl,h1,yA h2 h'⟩
theorem Dax:∀ {ls:List aM} {vs:List Value},aG σ ρ G w ls vs->pF σ ρ G w (ls.map SV.one) vs
 |[],vs,h=>by simp only[aG]at h;subst h;rfl
 | l :: ls, vs, h => by
  simp only[aG]at h;obtain⟨u,us,rfl,h1,h2⟩:=h;exact⟨u,us,rfl,h1,Dax h2⟩
theorem Xa2 {f:Operand}{args:Array Operand}{argTypes:Array TypeId}(ho:o.op=.call { callee:=.value f,args,argTypes }){fn:Nat}{vs:List Value}(hf:a.eval f=.func (.func fn) #[] vs.toArray) :
  (execOp a.eval o).run P w=(callFunc fn (args.toList.map a.eval++vs).toArray).run P w:=by
 unfold execOp;simp only[ho,resolve,hf,Deferred.ofValue,invoke,Sem.run_bind,Sem.run_pure,Result.andThen_ok];congr 2;apply Array.ext';simp
theorem Zae {X:(Nat->Ow)->World->Prop}{T:Nat->Ent}{n:Nat}(ba:Stable X)(hX:X F.own0 F.w0)(hc:∀ key s,(key,s)∈E.sigs->Aan P X T n key s):xR P E F (jA T n):=by
 intro σ ρ a w G g o Q mv cL nv nb nr res f args argTypes hR hd hf ho h nz tj;simp only[nI,ho,aA,Obg]at h;obtain⟨l,h1,h⟩:=h;split at h
 case h_2=>cases h
 rename_i fn eN;simp only[aA,Obg]at h;obtain⟨vs0,h2,h⟩:=h;unfold Zau at h;split at h
 ·cases h
 rename_i key s a3j;obtain⟨dh,hfn⟩:=Faa a3j;simp only[aA,Obg,aH]at h;obtain⟨T1,hT,Z,hZ,_,fq,h⟩:=h;split at fq
 case isFalse=>cases fq
 rename_i hb;simp only[Obh,Bool.or_eq_true,Pbn,List.isEmpty_iff,Ob4]at hb;obtain⟨⟨qx,z7⟩,fq⟩:=hb;have hk:=Nab qx;obtain⟨bu,sB,⟨ml,mu⟩,vj,olds,hold,h⟩:=h;simp only[aF,Option.some.injEq]at h;subst h;dsimp only at nz tj ⊢;generalize iq:iF (!noG g) Z.deps nb (nv+bD Z.lets) nr s.results=res at nz tj sB ⊢;obtain⟨rs,us,uu⟩:=res;dsimp only at nz ba sB vj ⊢;refine⟨fun hg=>?_,fun hg=>?_⟩
 ·
  obtain⟨qy,zx⟩:=aJ.append tj;obtain⟨lj,oS⟩:=aJ.append qy;obtain⟨a03,ic⟩:=aJ.append lj;obtain⟨ds,bf,hlen,dq⟩:=ic.1.1 hg
  have hn:nv+bD (Z.lets++[Step.call key Z.xs (bF s.results+(Z.rts.filter tT).length+dN s.boxes) olds]++(bif Z.deps.isEmpty then [] else Vaz (nv+bD Z.lets) s.results++Va0 (nv+bD Z.lets+bF s.results) Z.rts++Sal (nv+bD Z.lets+bF s.results+(Z.rts.filter tT).length) s.boxes))=nv+bD Z.lets+(bF s.results+(Z.rts.filter tT).length+dN s.boxes):=by
   have e0:bD (bif Z.deps.isEmpty then [] else Vaz (nv+bD Z.lets) s.results++Va0 (nv+bD Z.lets+bF s.results) Z.rts++Sal (nv+bD Z.lets+bF s.results+(Z.rts.filter tT).length) s.boxes)=0:=by
    cases Z.deps.isEmpty with
    |true=>rfl
    |false=>simp only[cond_false,dY,Za9,Aba,Abc]
   rw[dY,dY,e0];simp only[gV,Step.n];show nv+(bD Z.lets+(_+bD [])+0)=_
   have:bD ([]:List Step)=0:=rfl;omega
  rw[hn]at zx;have s5:=eO hR hg h1;simp only[aB]at s5;obtain⟨cvs,hcv,ju⟩:=s5;obtain⟨om,ln⟩:=vD hR hg h2
  have wv:pF σ ρ G w (vs0++eN.map SV.one) (args.toList.map a.eval++cvs):=by
   refine yA (Kac (by rw[om];simp) fun i v u hv hu=>?_) (Dax ju);rw[Ob5,Obr]at hu;obtain⟨x,hx,rfl⟩:=hu;exact ln i v x hv hx
  have ew:=Zaf hR hg a03 hk hT hZ wv
  have hXc:X (callG ρ G w s Z).own w:=ba _ _ _ _ hR.frame.size (fun b hb he=>by
   have hkp:=hR.frame.keep b hb (.inl he);exact⟨hkp.1,mY (hkp.2.trans he)⟩) hX
  have eJ:=hc key s dh _ w _ _ ds ew hXc bf
  have a1a:Z.deps=[]\/Ma1 ρ (Vaz (nv+bD Z.lets) s.results++Va0 (nv+bD Z.lets+bF s.results) Z.rts++Sal (nv+bD Z.lets+bF s.results+(Z.rts.filter tT).length) s.boxes):=by
   cases hde:Z.deps.isEmpty with
   |true=>exact .inl (by simpa using hde)
   | false =>
    rw[hde,cond_false]at oS;exact .inr (Qaa hg oS)
  have a2b:noG g=true\/(jK s.results=0/\∃ olds,(gZ Z.ptrs 0 s.boxes).eval σ=some olds):=by
   cases g with
   |none=>exact .inl rfl
   |some z=>exact .inr ⟨(fq.resolve_left (by simp[noG])).2,olds,hold⟩
  have vz:∀ v w',Jax s (mZ s (callG ρ G w s Z) w) (callG ρ G w s Z).bx v w' ds->Nx E.ntmps F σ ρ (Sab o g rs++(us++bu++mu++fK Z.rts)) (a.put o.dst v) w':=by
   intro v w' ob;exact Va5 hR hg hd hf wv hT hZ hk z7 a2b iq sB vj hlen dq a1a zx nz ob
  unfold Oper.wp;rw[Xa2 ho hcv,<- hfn]
  rcases eJ with ⟨hr,b7⟩|⟨v,w',hr,ob⟩
  ·rw[hr,Oper.upon_enter]
   refine Calls.mono b7 fun e w' he=>?_
   cases e with
   |returned v=>exact vz v w' he
   |panicked c=>exact he.elim
   |outgrown=>exact he.elim
  ·rw[hr,Oper.upon_value]
   exact vz v w' ob
 ·
  have ym:noG g=false:=by
   cases g with
   |none=>simp[gOn]at hg
   |some z=>rfl
  have h5:=fq.resolve_left (by rw[ym];simp);obtain⟨q0,xy⟩:=h5
  have a3c:mu=[]:=by
   rw[q0]at vj;simp only[wL,aF,Option.some.injEq,Prod.mk.injEq]at vj;exact vj.2.symm
  have a2e:fK Z.rts=[]:=by rw[q0];rfl
  have wi:(Z.rts.filter tT).length=0:=by rw[q0];rfl
  obtain⟨qy,zx⟩:=aJ.append tj;obtain⟨lj,oS⟩:=aJ.append qy;obtain⟨a03,ic⟩:=aJ.append lj;have dq:=ic.1.2 hg;rw[wi,Pbb]at dq sB
  have zn:(gZ Z.ptrs 0 s.boxes).eval σ=some olds:=by
   cases g with
   |none=>cases ym
   |some z=>exact hold
  have pC:∀ z∈Z.deps,Ia1 σ z.1 z.2:=by
   obtain⟨rn,sE,-,-⟩:=sI (E:=E) (F:=F) (ρ:=ρ) (a:=a) (w:=w) (G:=G) False (fun h=>h.elim) hT (fun h=>h.elim);obtain⟨qd,hn4,-⟩:=pK (ρ:=ρ) (G:=G) (w:=w) hZ;intro z hz
   rcases (sE.trans hn4).deps z hz with h|h
   ·simp[Take.empty]at h
   ·exact h
  rw[ym]at iq;have:=Zag hR hg hd pC q0 xy hZ zn iq ym sB dq;refine⟨G,?_⟩;show R E.ntmps F (upds σ (Sab o g rs++(us++bu++mu++fK Z.rts))) ρ _ w G
  rw[a3c,a2e,Pbc,Pbc];exact this
end
def Cbg (P:Program)(s:Sig)(e:List D->Option (List D)):Prop :=
 ∀ vals w G ds gn,Wak s vals w G ds->e ds=some gn->Goes P s.fn vals.toArray w fun v w'=>Jax s (mZ s G w) G.bx v w' gn
def Saw (P:Program)(T:Nat->Ent)(ti:Nat->Option TI)(sigs:List (Nat×Sig))(key:Nat)(s:Sig):Prop :=
 (∃ (E : Env) (fn : Func) (tm : Tm Unit), E.ti = ti /\ E.sigs = sigs /\ P.funcs[s.fn]? = some fn /\ (fn.name == "runtime.NumGoroutine") = false /\ Qa2 E s fn = some tm /\ T key = .tm tm) \/ ∃ e, T key = .ext e /\ Cbg P s e
def Eb9 (P:Program)(X:(Nat->Ow)->World->Prop)(s:Sig)(e:List D->Option (List D)):Prop :=
 ∀ vals w G ds gn,Wak s vals w G ds->X G.own w->e ds=some gn->Goes P s.fn vals.toArray w fun v w'=>Jax s (mZ s G w) G.bx v w' gn
def Eb8 (P:Program)(X:(Nat->Ow)->World->Prop)(T:Nat->Ent)(ti:Nat->Option TI)(sigs:List (Nat×Sig))(key:Nat)(s:Sig):Prop :=
 (∃ (E : Env) (fn : Func) (tm : Tm Unit), E.ti = ti /\ E.sigs = sigs /\ P.funcs[s.fn]? = some fn /\ (fn.name == "runtime.NumGoroutine") = false /\ Qa2 E s fn = some tm /\ T key = .tm tm) \/ ∃ e, T key = .ext e /\ Eb9 P X s e
theorem Saw.toX {P:Program}{X:(Nat->Ow)->World->Prop}{T:Nat->Ent}{ti:Nat->Option TI}{sigs:List (Nat×Sig)}{key:Nat}{s:Sig}(h:Saw P T ti sigs key s):Eb8 P X T ti sigs key s:=by
 rcases h with h|⟨e,h1,h2⟩
 ·exact .inl h
 ·exact .inr ⟨e,h1,fun vals w G ds gn hp _ he=>h2 vals w G ds gn hp he⟩
theorem Sag {P:Program}{X:(Nat->Ow)->World->Prop}{T:Nat->Ent}{ti:Nat->Option TI}{sigs:List (Nat×Sig)}(ba:Stable X)(hti:sG P ti)(hm:P.follows .mixedOrders=true)(H:∀ key s,(key,s)∈sigs->Eb8 P X T ti sigs key s) :
  ∀ n key s,(key,s)∈sigs->Aan P X T n key s:=by
 intro n
 induction n with
 | zero =>
  intro key s _ vals w G ds gn _ _ h;cases h
 | succ n ih =>
  intro key s dh
  rcases H key s dh with ⟨E,fn,tm,rfl,rfl,h1,h2,h3,h4⟩|⟨e,h1,h2⟩
  ·exact Jab hti hm h1 h2 h3 h4 fun F hX=>Zae ba hX fun key s h=>ih key s h
  ·intro vals w G ds gn ew hX bf
   simp only[jA,h1]at bf;exact h2 vals w G ds gn ew hX bf
theorem contracts {P:Program}{T:Nat->Ent}{ti:Nat->Option TI}{sigs:List (Nat×Sig)}(hti:sG P ti)(hm:P.follows .mixedOrders=true)(H:∀ key s,(key,s)∈sigs->Saw P T ti sigs key s) :
  ∀ n key s,(key,s)∈sigs->rC P T n key s :=
 fun n key s dh vals w G ds gn ew bf=>Sag (X:=fun _ _=>True) (fun _ _ _ _ _ _ _=>trivial) hti hm (fun key s h=>(H key s h).toX) n key s dh vals w G ds gn ew trivial bf
inductive Ty where
 |int (k:IntKind)
 |bool
 |str
 |sl (bytes:Nat) (row:List Ty)
mutual
def WT:Ty->D->Prop
 |.int k,d=>∃ n,d=.int k n/\k.min<=n/\n<=k.max
 |.bool,d=>∃ b,d=.bool b
 |.str,d=>∃ s,d=.str s/\s.length<=reachBytes
 |.sl bytes row,d=>∃ rs,d=.rows row.length rs/\rs.length*bytes<=reachBytes/\∀ r∈rs,WTs row r
def WTs:List Ty->List D->Prop
 |[],ds=>ds=[]
 |t::ts,ds=>∃ d gn,ds=d::gn/\WT t d/\WTs ts gn
end
def Sa0 (P:Program)(rec:TypeId->Option (List Ty)):Nat->List Field->Option (List Ty)
 |_,[]=>some []
 | off, f :: fs => match rec f.type with
  |some r=>bif Nat.beq f.offset off&&Nat.beq r.length (P.cellsOf f.type) then (Sa0 P rec (off+r.length) fs).map (r++·) else none
  |none=>none
def Fa2 (P:Program):Nat->TypeId->Option (List Ty)
 |0,_=>none
 | n + 1, t => match P.underlying t with
  |some .bool=>some [.bool]
  |some (.int k)=>some [.int k]
  |some .string=>some [.str]
  | some (.slice e) => match Fa2 P n e with
   |some r=>bif Nat.beq r.length (P.cellsOf e) then some [.sl (P.bytesOf e) r] else none
   |none=>none
  | some (.struct fs) => match Sa0 P (Fa2 P n) 0 fs.toList with
   |some r=>bif Nat.beq r.length (P.cellsOf t) then some r else none
   |none=>none
  |_=>none
def iE (w:World):List Ty->List Value->List D->Prop
 |[],cs,ds=>cs=[]/\ds=[]
 |t::ts,cs,ds=>∃ c nc d gn,cs=c::nc/\ds=d::gn/\Rd (fun _=>True) w c d/\WT t d/\iE w ts nc gn
theorem iE.append {w:World}:∀ {ts ts':List Ty} {cs nc:List Value} {ds gn:List D},iE w ts cs ds->iE w ts' nc gn->iE w (ts++ts') (cs++nc) (ds++gn)
 | [], ts', cs, nc, ds, gn, h, h' => by
  obtain⟨rfl,rfl⟩:=h;exact h'
 | t :: ts, ts', cs, nc, ds, gn, h, h' => by
  obtain⟨c,c1,d,d1,rfl,rfl,h1,h2,h3⟩:=h;exact⟨c,c1++nc,d,d1++gn,rfl,rfl,h1,h2,h3.append h'⟩
theorem iE.len {w:World}:∀ {ts:List Ty} {cs:List Value} {ds:List D},iE w ts cs ds->cs.length=ts.length/\ds.length=ts.length
 |[],cs,ds,h=>by obtain⟨rfl,rfl⟩:=h;exact⟨rfl,rfl⟩
 | t :: ts, cs, ds, h => by
  obtain⟨c,c1,d,d1,rfl,rfl,h1,h2,h3⟩:=h;obtain⟨h4,h5⟩:=h3.len;simp[h4,h5]
theorem iE.get {w:World}:∀ {ts:List Ty} {cs:List Value} {ds:List D},iE w ts cs ds->∀ {j:Nat} {d:D},ds[j]?=some d->∃ c,cs[j]?=some c/\Rd (fun _=>True) w c d
 |[],cs,ds,h,j,d,hj=>by obtain⟨rfl,rfl⟩:=h;simp at hj
 | t :: ts, cs, ds, h, j, d, hj => by
  obtain⟨c,c1,d',d1,rfl,rfl,h1,h2,h3⟩:=h
  cases j with
  | zero =>
   simp only[Obn,Option.some.injEq]at hj;subst hj;exact⟨c,rfl,h1⟩
  | succ j =>
   obtain⟨c',h4,h5⟩:=h3.get (j:=j) (by simpa using hj);exact⟨c',by simpa using h4,h5⟩
theorem iE.wts {w:World}:∀ {ts:List Ty} {cs:List Value} {ds:List D},iE w ts cs ds->WTs ts ds
 |[],cs,ds,h=>by obtain⟨rfl,rfl⟩:=h;simp[WTs]
 | t :: ts, cs, ds, h => by
  obtain⟨c,c1,d',d1,rfl,rfl,h1,h2,h3⟩:=h;simp only[WTs];exact⟨d',d1,rfl,h2,h3.wts⟩
theorem Ean {α β:Type}{f:α->Option β}:∀ {l:List α} {ys:List β},l.mapM f=some ys->ys.length=l.length/\∀ (i:Nat) (x:α),l[i]?=some x->∃ y,ys[i]?=some y/\f x=some y
 | [], ys, h => by
  simp at h;subst h;simp
 | x :: l, ys, h => by
  simp only[List.mapM_cons,bind,Obg,pure,Option.some.injEq]at h;obtain⟨y,h1,ys',h2,rfl⟩:=h;obtain⟨h3,h4⟩:=Ean h2;refine⟨by simp[h3],fun i z hz=>?_⟩
  cases i with
  | zero =>
   simp only[Obn,Option.some.injEq]at hz;subst hz;exact⟨y,rfl,h1⟩
  | succ i =>
   obtain⟨y',h5,h6⟩:=h4 i z (by simpa using hz);exact⟨y',by simpa using h5,h6⟩
theorem Oaa {β:Type}{p:Nat->β->Prop}:∀ (n:Nat),(∀ i,i<n->∃ y,p i y)->∃ l:List β,l.length=n/\∀ i y,l[i]?=some y->p i y
 |0,_=>⟨[],rfl,by simp⟩
 | n + 1, h => by
  obtain⟨l,h1,h2⟩:=Oaa n fun i hi=>h i (by omega)
  obtain⟨y,hy⟩:=h n (by omega);refine⟨l++[y],by simp[h1],fun i z hz=>?_⟩
  rcases Nat.lt_trichotomy i n with hi|hi|hi
  ·rw[Obx (by omega)]at hz
   exact h2 i z hz
  ·subst hi
   rw[Obz (by omega),h1,Nat.sub_self]at hz;simp only[Obn,Option.some.injEq]at hz;subst hz;exact hy
  ·have:=(List.getElem?_eq_some_iff.1 hz).1
   simp[h1]at this;omega
theorem wC {H:Type}{P:Program}{e:TypeId}:∀ {l:List (DataW H)} {d:DataW H},d∈l->∀ n∈d.weights P e,n∈DataW.weightsAll P e l
 |[],d,h,_,_=>by simp at h
 | x :: l, d, h, n, hn => by
  simp only[DataW.weightsAll,Qbn]
  rcases List.mem_cons.1 h with rfl|h
  ·exact .inl hn
  ·exact .inr (wC h n hn)
theorem rD {H:Type}{P:Program}{t:TypeId}{ts:List TypeId}{d:DataW H}{ds:List (DataW H)}:DataW.weightsEach P (t::ts) (d::ds)=d.weights P t++DataW.weightsEach P ts ds:=by
 simp only[DataW.weightsEach]
theorem Daq {P:Program}{w:World}{H:Type}{cs:List Value}{f:Field->List Value->Option (DataW H×List MemPlace)}{rec:TypeId->Option (List Ty)}
  (b5:∀ (fd:Field) (r:List Ty) (l:List Value) (y:DataW H×List MemPlace),rec fd.type=some r->f fd l=some y->(∀ m∈y.1.weights P fd.type,m<=reachBytes)->∃ ds,iE w r l ds) :
  ∀ {fs:List Field} {off:Nat} {fY:List Ty} {xs:List (DataW H×List MemPlace)},Sa0 P rec off fs=some fY->fs.mapM (fun fd=>f fd ((cs.drop fd.offset).take (P.cellsOf fd.type)))=some xs ->
  (∀ m∈DataW.weightsEach P (fs.map (·.type)) (xs.map (·.1)),m<=reachBytes)->cs.length=off+fY.length->∃ ds,iE w fY (cs.drop off) ds
 | [], off, fY, xs, h, _, _, hl => by
  simp only[Sa0,Option.some.injEq]at h;subst h;refine⟨[],?_,rfl⟩;rw[List.drop_eq_nil_iff];simp only[List.length_nil]at hl;omega
 | fd :: fs, off, fY, xs, h, hm, hw, hl => by
  simp only[Sa0]at h;split at h
  case h_2=>cases h
  rename_i r hr
  cases hb:(Nat.beq fd.offset off&&Nat.beq r.length (P.cellsOf fd.type)) with
  |false=>rw[hb]at h;cases h
  | true =>
   rw[hb,cond_true,Obr]at h;obtain⟨a0t,h1,rfl⟩:=h;simp only[Obh,Ob4]at hb;obtain⟨rfl,ju⟩:=hb;simp only[List.mapM_cons,bind,Obg,pure,Option.some.injEq]at hm;obtain⟨y,h2,ys,h3,rfl⟩:=hm;simp only[Ob1,rD,Qbn]at hw;obtain⟨ds,h4⟩:=b5 fd r _ y hr h2 fun m hm=>hw m (.inl hm)
   rw[Obv]at hl;obtain⟨gn,h5⟩:=Daq b5 (off:=fd.offset+r.length) h1 h3 (fun m hm=>hw m (.inr hm)) (by omega);refine⟨ds++gn,?_⟩;have:=h4.append h5;rw[<- ju]at this
   have e:List.take r.length (List.drop fd.offset cs)++List.drop (fd.offset+r.length) cs=List.drop fd.offset cs:=by
    rw[<- List.drop_drop,List.take_append_drop]
   rw[e]at this;exact this
theorem Aar {P:Program}{H:Type}{enc:TypeId×Value->H}{w:World}{sp:Nat->Bool}{held:Bool}:∀ (n fuel:Nat) {t:TypeId} {cs:List Value} {x:DataW H} {ps:List MemPlace} {fY:List Ty},Fa2 P n t=some fY->DataW.trod enc P w 0 sp held fuel t cs=some (x,ps) ->
  (∀ m∈x.weights P t,m<=reachBytes)->∃ ds,iE w fY cs ds
 |0,_,t,cs,x,ps,fY,h,_,_=>by simp[Fa2]at h
 |n+1,0,t,cs,x,ps,fY,_,h,_=>by simp[DataW.trod]at h
 | n + 1, fuel + 1, t, cs, x, ps, fY, ht, h, hw => by
  simp only[Fa2]at ht;unfold DataW.trod at h;split at ht
  ·
   rename_i hu;rw[hu]at h;simp only[Option.some.injEq]at ht;subst ht;split at h<;>rename_i heq<;>first|(cases heq;done)|skip
   all_goals first|(injection heq with heq;cases heq;done)|skip
   ·exact⟨_,_,[],_,[],rfl,rfl,.sc (.bool _),⟨_,rfl⟩,rfl,rfl⟩
   ·cases h
  ·
   rename_i k hu;rw[hu]at h;simp only[Option.some.injEq]at ht;subst ht;split at h<;>rename_i heq<;>first|(cases heq;done)|skip
   all_goals first|(injection heq with heq;cases heq;done)|skip
   ·rename_i k0 k' m
    injection heq with heq
    injection heq with heq
    subst heq;split at h
    ·rename_i hc
     obtain⟨rfl,kr⟩:=hc;simp only[Lit.wf,Obh,decide_eq_true_eq]at kr;exact⟨_,_,[],_,[],rfl,rfl,.sc (.int _ _),⟨_,rfl,kr.1,kr.2⟩,rfl,rfl⟩
    ·cases h
   ·cases h
  ·
   rename_i hu;rw[hu]at h;simp only[Option.some.injEq]at ht;subst ht;split at h<;>rename_i heq<;>first|(cases heq;done)|skip
   all_goals first|(injection heq with heq;cases heq;done)|skip
   ·rename_i s0
    split at h
    ·simp only[Option.some.injEq,Prod.mk.injEq]at h
     obtain⟨rfl,rfl⟩:=h;refine⟨_,_,[],_,[],rfl,rfl,.sc (.str s0.data.toList),⟨_,rfl,hw _ ?_⟩,rfl,rfl⟩;simp only[DataW.weights,Obt]
    ·cases h
   ·cases h
  ·
   rename_i e hu;split at ht
   case h_2=>cases ht
   rename_i r hr
   cases hb:Nat.beq r.length (P.cellsOf e) with
   |false=>rw[hb]at ht;cases ht
   | true =>
    rw[hb,cond_true]at ht;simp only[Option.some.injEq]at ht;subst ht;simp only[Ob4]at hb;rw[hu]at h;split at h<;>rename_i heq<;>first|(cases heq;done)|skip
    all_goals first|(injection heq with heq;cases heq;done)|skip
    ·injection heq with heq
     injection heq with heq
     subst heq;simp only[Option.some.injEq,Prod.mk.injEq]at h;obtain⟨rfl,rfl⟩:=h;refine⟨_,_,[],.rows r.length [],[],rfl,rfl,.rows none ⟨0,0,none⟩ 0 0 r.length [] (fun _ _=>undef) rfl (Oby _) (.inl rfl) (by simp) (by simp) (by simp),⟨[],rfl,by simp,by simp⟩,rfl,rfl⟩
    ·rename_i e0 ad len cap
     injection heq with heq
     injection heq with heq
     subst heq;dsimp only at h;split at h
     case isFalse=>cases h
     rename_i hc;simp only[Obg,Obr,Prod.mk.injEq]at h;obtain⟨elems,h1,rest,h2,rfl,rfl⟩:=h;obtain⟨h3,h4⟩:=Ean h1;rw[List.length_range]at h3;simp only[DataW.weights,hu,Pbg,Qbn]at hw
     have gR:∀ i,i<len->∃ ds:List D,∃ cs:List Value,(∀ j c,cs[j]?=some c->w.cell? (ad.add (i*r.length+j))=some c)/\iE w r cs ds:=by
      intro i hi;obtain⟨y,h5,h6⟩:=h4 i i (by rw[Rbh hi]);simp only[Obg]at h6;obtain⟨cs,h7,h8⟩:=h6;obtain⟨x,ps⟩:=y;obtain⟨ds,h9⟩:=Aar n fuel hr h8 fun m hm=>hw m (.inr (.inl (wC (List.mem_map.2 ⟨_,Obw h5,rfl⟩) m hm)))
      refine⟨ds,cs,fun j c hj=>?_,h9⟩;unfold World.cells? at h7;split at h7
      ·obtain⟨b9,da⟩:=Ean h7
       have l7:=(List.getElem?_eq_some_iff.1 hj).1;rw[b9,List.length_range]at l7;obtain⟨c',fk,gS⟩:=da j j (by rw[Rbh l7]);rw[hj]at fk;obtain rfl:=Option.some.inj fk;rw[add_add,<- hb]at gS;exact gS
      ·cases h7
     obtain⟨rs,h5,h6⟩:=Oaa len gR
     have hex:∀ i,∃ cs:List Value,∀ ds,rs[i]?=some ds->(∀ j c,cs[j]?=some c->w.cell? (ad.add (i*r.length+j))=some c)/\iE w r cs ds:=by
      intro i
      cases hi:rs[i]? with
      |none=>exact⟨[],fun ds h=>by cases h⟩
      | some ds =>
       obtain⟨cs,h7,h8⟩:=h6 i ds hi;exact⟨cs,fun gn h=>by obtain rfl:=Option.some.inj h;exact⟨h7,h8⟩⟩
     have xd:∃ cf:Nat->List Value,∀ i ds,rs[i]?=some ds->(∀ j c,(cf i)[j]?=some c->w.cell? (ad.add (i*r.length+j))=some c)/\iE w r (cf i) ds:=⟨fun i=>(hex i).choose,fun i=>(hex i).choose_spec⟩;obtain⟨cf,s8⟩:=xd
     have hlen:∀ row∈rs,row.length=r.length:=fun row gR=>by
      obtain⟨i,hi⟩:=List.mem_iff_getElem?.1 gR;exact ((s8 i row hi).2.len).2
     refine⟨[.rows r.length rs],_,[],_,[],rfl,rfl,?_,⟨rs,rfl,?_,fun row gR=>?_⟩,rfl,rfl⟩
     ·refine .rows _ ad len cap r.length rs (fun i j=>((cf i)[j]?).getD undef) h5 hc.2.1 (.inr rfl) hlen (fun i row hi j d hj=>?_) (fun i row hi j d hj=>?_)
      ·obtain⟨c,h7,h8⟩:=(s8 i row hi).2.get hj
       refine⟨trivial,?_⟩;rw[(s8 i row hi).1 j c h7,h7];rfl
      ·obtain⟨c,h7,h8⟩:=(s8 i row hi).2.get hj
       rw[h7];exact h8
     ·have:=hw _ (.inl rfl)
      rw[Ob7,Ob7,h3]at this;rw[h5];exact Nat.le_trans (Nat.mul_le_mul_right _ (Nat.le_add_right ..)) this
     ·obtain⟨i,hi⟩:=List.mem_iff_getElem?.1 gR
      exact (s8 i row hi).2.wts
    ·cases h
  ·
   rename_i fs hu;split at ht
   case h_2=>cases ht
   rename_i r hr
   cases hb:Nat.beq r.length (P.cellsOf t) with
   |false=>rw[hb]at ht;cases ht
   | true =>
    rw[hb,cond_true]at ht;simp only[Option.some.injEq]at ht;subst ht;simp only[Ob4]at hb;rw[hu]at h;split at h<;>rename_i heq<;>first|(cases heq;done)|skip
    all_goals first|(injection heq with heq;cases heq;done)|skip
    ·rename_i cs0 x0 cs1 fs2
     injection heq with heq
     injection heq with heq
     subst heq;split at h
     case isFalse=>cases h
     rename_i hc;simp only[Obr,Prod.mk.injEq]at h;obtain⟨xs,h1,rfl,rfl⟩:=h;simp only[DataW.weights,hu]at hw
     obtain⟨ds,h2⟩:=Daq (w:=w) (cs:=cs0) (f:=fun fd l=>DataW.trod enc P w 0 sp held fuel fd.type l) (rec:=Fa2 P n)
      (fun fd r l y hr' hy u5=>Aar n fuel hr' (x:=y.1) (ps:=y.2) hy u5) hr h1 hw (by omega)
     exact⟨ds,by simpa using h2⟩
    ·exact ((by assumption:∀ (a5b:Array Field),some (TypeDesc.struct fs)=some (TypeDesc.struct a5b)->False) fs rfl).elim
  ·cases ht
open Go.ChangeShapes Go.RowKit
def Uaf:Ty->LS
 |.sl _ _=>.fz false
 |_=>.sc
def Bb9 (P:Program)(t:TypeId):Bool:=match P.underlying t with
 |some (.struct _)=>true
 |_=>false
def mP (P:Program):List TypeId->Option (List (Bool×List LS)×List Ty)
 |[]=>some ([],[])
 | t :: ts => match Fa2 P 12 t, mP P ts with
  |some r,some (ps,fY)=>some ((Bb9 P t,r.map Uaf)::ps,r++fY)
  |_,_=>none
def Hb8:Gh:=⟨fun _=>.frz,fun _=>undef,fun _=>⟨0,0,none⟩⟩
theorem Vaw:∀ (fY:List Ty),Sas (fY.map Uaf)=fY.length/\iY (fY.map Uaf)=0
 |[]=>⟨rfl,rfl⟩
 | t :: fY => by
  obtain⟨h1,h2⟩:=Vaw fY;cases t<;>simp[Sas,iY,Uaf,LS.cnt,LS.rcnt,h1,h2]<;>omega
theorem Cab {w:World}{ρ:List D}:∀ {fY:List Ty} {cs:List Value} {ds:List D} {i:Nat},iE w fY cs ds->(∀ j d,ds[j]?=some d->(aI.v (i+j)).val ρ=d)->pG Hb8 w ρ 0 i 0 (fY.map Uaf) cs
 |[],cs,ds,i,h,_=>by obtain⟨rfl,rfl⟩:=h;rfl
 | t :: fY, cs, ds, i, h, hv => by
  obtain⟨c,nc,d,gn,rfl,rfl,h1,h2,h3⟩:=h;have y3:(aI.v i).val ρ=d:=by have:=hv 0 d rfl;rwa[Pbb]at this
  have hr:(Uaf t).rcnt=0:=by cases t<;>rfl
  have hc:(Uaf t).cnt=1:=by cases t<;>rfl
  refine⟨c,nc,rfl,?_,?_⟩
  ·cases t with
   | int k =>
    obtain⟨n,rfl,-⟩:=h2;simp only[Uaf,jM,y3];exact h1.sc_inv rfl
   | bool =>
    obtain⟨n,rfl⟩:=h2;simp only[Uaf,jM,y3];exact h1.sc_inv rfl
   | str =>
    obtain⟨n,rfl,-⟩:=h2;simp only[Uaf,jM,y3];exact h1.sc_inv rfl
   | sl bytes row =>
    simp only[Uaf,jM,y3];exact⟨h1.mono fun b _=>⟨rfl,rfl⟩,fun e=>absurd e (by decide)⟩
  ·rw[hr,hc]
   refine Cab (i:=i+1) h3 fun j d' hj=>?_
   have:=hv (j+1) d' (by simpa using hj);rwa[show i+(j+1)=i+1+j by omega]at this
theorem Lab {P:Program}{W:World}{base:Nat}{n:Nat}{t:TypeId}{fY:List Ty}{v:Value}(h:Fa2 P n t=some fY)(hv:Value.okWide P W .any base t v):if Bb9 P t=true then v=.agg v.cells.toList.toArray else v.cells.toList=[v]:=by
 cases n with
 |zero=>simp[Fa2]at h
 | succ n =>
  unfold Value.okWide at hv;unfold Bb9;simp only[Fa2]at h
  cases hu:P.underlying t with
  |none=>rw[hu]at h;cases h
  | some u =>
   rw[hu]at h hv
   cases u with
   | struct fs =>
    obtain⟨cs,rfl,-⟩:=hv;simp[Value.cells]
   | bool =>
    simp only[Cell.okWide,Cell.ok,hu]at hv;cases v<;>simp at hv
    simp[Value.cells]
   | int k =>
    simp only[Cell.okWide,Cell.ok,hu]at hv;cases v<;>simp at hv
    simp[Value.cells]
   | string =>
    simp only[Cell.okWide,Cell.ok,hu]at hv;cases v<;>simp at hv
    simp[Value.cells]
   | slice e =>
    simp only[Cell.okWide,Cell.ok,hu]at hv;cases v<;>simp at hv
    simp[Value.cells]
   |_=>cases h
theorem Hak {P:Program}{H:Type}{enc:TypeId×Value->H}{W:World}{sp:Nat->Bool}{held:Bool}{base:Nat}:∀ {ts:List TypeId} {vs:List Value} {ds:List (DataW H)} {ps:List MemPlace} {y4:List (Bool×List LS)} {fY:List Ty},
  mP P ts=some (y4,fY)->DataW.TrodAll enc P W 0 sp held ts vs ds ps->(∀ (j:Nat) t v,ts[j]?=some t->vs[j]?=some v->Value.okWide P W .any base t v)->(∀ m∈DataW.weightsEach P ts ds,m<=reachBytes) ->
  ∃ dd,WTs fY dd/\dd.length=fY.length/\fY.length=Har y4/\iK y4=0/\∀ (ρ:List D) (i:Nat),(∀ j d,dd[j]?=some d->(aI.v (i+j)).val ρ=d)->kZ Hb8 W ρ 0 i 0 y4 vs
 | [], vs, ds, ps, y4, fY, h, ht, _, _ => by
  simp only[mP,Option.some.injEq,Prod.mk.injEq]at h;obtain⟨rfl,rfl⟩:=h
  cases vs with
  |cons v vs=>cases ds<;>exact ht.elim
  |nil=>exact⟨[],rfl,rfl,rfl,rfl,fun ρ i _=>rfl⟩
 | t :: ts, vs, ds, ps, y4, fY, h, ht, hv, hw => by
  simp only[mP]at h;split at h
  case h_2=>cases h
  rename_i r sps' a0t hr hl;simp only[Option.some.injEq,Prod.mk.injEq]at h;obtain⟨rfl,rfl⟩:=h
  cases vs with
  |nil=>cases ds<;>exact ht.elim
  | cons v vs =>
   cases ds with
   |nil=>exact ht.elim
   | cons d ds =>
    obtain⟨p,q,⟨fuel,h1⟩,h2,rfl⟩:=ht;rw[rD]at hw;obtain⟨dd,h3⟩:=Aar 12 fuel hr h1 fun m hm=>hw m (Obi _ hm)
    obtain⟨dd',h4,h5,h6,h7,h8⟩:=Hak hl h2 (fun j t' v' hj gq=>hv (j+1) t' v' (by simpa using hj) (by simpa using gq)) fun m hm=>hw m (Obk _ hm)
    obtain⟨zt,sg⟩:=Vaw r;obtain⟨sE,hn2⟩:=h3.len;refine⟨dd++dd',?_,by simp[hn2,h5],by simp only[Obv,Har,zt,h6],by simp only[iK,sg,h7],fun ρ i dq=>?_⟩
    ·have:∀ {a:List Ty} {x:List D},WTs a x->WTs (a++a0t) (x++dd'):=by
      intro a
      induction a with
      |nil=>intro x hx;simp only[WTs]at hx;subst hx;exact h4
      | cons t a ih =>
       intro x hx;simp only[WTs]at hx;obtain⟨y,ys,rfl,yj,hy2⟩:=hx;simp only[Qbb,WTs];exact⟨y,_,rfl,yj,ih hy2⟩
     exact this h3.wts
    ·refine⟨v,vs,v.cells.toList,rfl,Cab h3 fun j d' hj=>dq j d' (by rw[Obx (List.getElem?_eq_some_iff.1 hj).1];exact hj),Lab hr (hv 0 t v rfl rfl),?_⟩
     rw[zt,sg];refine h8 ρ (i+r.length) fun j d' hj=>?_
     rw[Ob0,<- hn2];exact dq _ _ (by rw[Obz (by omega),Pbe];exact hj)
theorem xU {P:Program}{H:Type}{enc:TypeId×Value->H}(hl:laidOutB P=true){W W':World}(hb:Below W.heap.size W W'):∀ {ts:List TypeId} {vs:List Value} {ds:List (DataW H)} {ps:List MemPlace},(ts.all fun t=>P.readableRec t&&decide (t<P.types.size))=true ->
  DataW.TrodAll enc P W 0 (fun _=>true) true ts vs ds ps->DataW.TrodAll enc P W' 0 (fun b=>decide (b<W.heap.size)) true ts vs ds ps
 |[],[],[],ps,_,h=>h
 |[],[],_::_,ps,_,h=>h.elim
 |[],_::_,_,ps,_,h=>h.elim
 |_::_,[],_,ps,_,h=>h.elim
 |_::_,_::_,[],ps,_,h=>h.elim
 | t :: ts, v :: vs, d :: ds, ps, hr, h => by
  simp only[List.all_cons,Obh,decide_eq_true_eq]at hr;obtain⟨p,q,h1,h2,rfl⟩:=h;refine⟨p,q,Below.trod hl hr.1.1 hr.1.2 h1 hb ?_,xU hl hb hr.2 h2,rfl⟩;obtain⟨m,hm⟩:=h1;exact DataW.trod_lt m _ _ _ hm
theorem Ras {P : Program} {X : (Nat -> Ow) -> World -> Prop} {T : Nat -> Ent} {key : Nat} {s : Sig} {fn : Func} {c : Code} (hc : ∀ n, Aan P X T n key s) (hfn : P.funcs[s.fn]? = some fn) (hname : (fn.name == "runtime.NumGoroutine") = false) (hbody : fn.body = some c)
  {fY:List Ty} (mj:mP P fn.params.toList=some (s.params,fY)) (fv:s.boxes=[]) (iq:s.results=[(false,[.sc])]) (hpure:∀ ds,WTs fY ds->∃ n,jA T n key ds=some [.bool true])
  {H:Type} {enc:TypeId×Value->H} {W:World} {base:Nat} {args:Array Value} {ds:List (DataW H)} {ps:List MemPlace}
  (dq:∀ (j:Nat) t v,fn.params[j]?=some t->args[j]?=some v->Value.okWide P W .any base t v) (ht:DataW.TrodAll enc P W 0 (fun _=>true) true fn.params.toList args.toList ds ps)
  (hw:∀ m∈DataW.weightsEach P fn.params.toList ds,m<=reachBytes) (hX:X (fun _=>.frz) W):Calls P s.fn args W fun e W'=>e=.returned (.bool true)/\Below W.heap.size W W':=by
 obtain⟨dd,h1,h2,h3,h4,h5⟩:=Hak (base:=base) mj ht (fun j t v hj hv=>dq j t v (by simpa using hj) (by simpa using hv)) hw;obtain⟨n,hn⟩:=hpure dd h1
 have ew:Wak s args.toList W Hb8 dd:=by
  refine⟨?_,?_,?_,fun _ _=>rfl,fun b j _ e=>by cases e⟩
  ·rw[fv]
   exact h5 dd 0 fun j d hj=>by simp[aI.val,Obo,hj]
  ·rw[fv];trivial
  ·rw[h2,h3,fv];rfl
 have eJ:=hc n args.toList W Hb8 dd _ ew hX hn;have e:args.toList.toArray=args:=by simp
 rw[e]at eJ
 rcases eJ with ⟨-,b7⟩|⟨v,w',hr,-⟩
 ·refine Calls.mono b7 fun en W' he=>?_
  cases en with
  | returned v =>
   obtain⟨G,us,rfl,hF,dt,-⟩:=he;rw[iq]at dt;obtain⟨u,cA,vs,rfl,hl,vq,fx⟩:=dt;simp only[Ha0]at fx;subst fx;simp only[Obp,if_false]at vq;subst vq;obtain⟨u',us2,e2,jl,-⟩:=hl;obtain⟨rfl,rfl⟩:=List.cons.inj e2;simp only[kH]at jl
   have hu:u=.bool true:=by
    have:([D.bool true].getD 0 .undef)=D.bool true:=rfl;rw[this]at jl;exact jl.bool_inv
   subst hu;exact⟨rfl,hF.os,hF.tape,hF.output,hF.size,fun k hk=>(hF.keep k hk (.inl rfl)).1⟩
  |panicked c=>exact he.elim
  |outgrown=>exact he.elim
 ·rw[kW hfn hname hbody]at hr
  cases hr
theorem Uan {P : Program} {T : Nat -> Ent} {key : Nat} {s : Sig} {fn : Func} {c : Code} (hc : ∀ n, rC P T n key s) (hfn : P.funcs[s.fn]? = some fn) (hname : (fn.name == "runtime.NumGoroutine") = false) (hbody : fn.body = some c)
  {fY:List Ty} (mj:mP P fn.params.toList=some (s.params,fY)) (fv:s.boxes=[]) (iq:s.results=[(false,[.sc])]) (hpure:∀ ds,WTs fY ds->∃ n,jA T n key ds=some [.bool true])
  {H:Type} {enc:TypeId×Value->H} {W:World} {base:Nat} {args:Array Value} {ds:List (DataW H)} {ps:List MemPlace}
  (dq:∀ (j:Nat) t v,fn.params[j]?=some t->args[j]?=some v->Value.okWide P W .any base t v) (ht:DataW.TrodAll enc P W 0 (fun _=>true) true fn.params.toList args.toList ds ps)
  (hw:∀ m∈DataW.weightsEach P fn.params.toList ds,m<=reachBytes):Calls P s.fn args W fun e W'=>e=.returned (.bool true)/\Below W.heap.size W W' :=
 Ras (X:=fun _ _=>True) (fun n vals w G ds gn hp _ h=>hc n vals w G ds gn hp h) hfn hname hbody mj fv iq hpure dq ht hw trivial
open Go.ChangeShapes Go.RowKit in
theorem Rar {C : Checked} {spec : ChangeSpec} {T : Nat -> Ent} {key : Nat} {s : Sig} {fn : Func} {c : Code} {conds : List PathCond} (own : ownKnob C.prog.godebug = none) (laid : laidOutB C.prog = true) (hc : ∀ n, rC C.prog T n key s) (hfn : C.prog.funcs[s.fn]? = some fn) (hname : (fn.name == "runtime.NumGoroutine") = false) (hbody : fn.body = some c)
  {fY:List Ty} (mj:mP C.prog fn.params.toList=some (s.params,fY)) (fv:s.boxes=[]) (iq:s.results=[(false,[.sc])]) (hpure:∀ ds,WTs fY ds->∃ n,jA T n key ds=some [.bool true])
  (a1e:(fn.params.toList.all fun t=>C.prog.readableRec t&&decide (t<C.prog.types.size))=true) {rt:TypeId} (mS:fn.resultTypes=#[rt]) (hrb:C.prog.underlying rt=some .bool)
  (sw:spec.vars=[]) (a1c:∀ (H:Type) (ds:List (DataW H)),ds.length=fn.params.size->spec.fn H ds={ results:=[.lit (.bool true)],args:=ds,vars:=[] }) (zg:C.prog.inits.idxOf? s.fn=none)
  (os:Os) (started:os.Started) (H:Type) (enc:TypeId×Value->H)
  (witness:∃ (w:World) (tape:Tape) (i:Input),w.os=os/\(w.forCall tape i).Shaped C.prog/\i.vars=[]/\Input.okWide C.prog (w.forCall tape i) .any w.heap.size s.fn i /\
   spec.pre6 enc C.prog fn conds false (w.forCall tape i).memory i.args/\({}:Assume).holds C.prog (lone (Frame.enter C.prog s.fn i.args .normal) [] (w.forCall tape i))) :
  ReturnsInHanded {} C os s.fn .any (spec.pre6 enc C.prog fn conds false) (spec.post enc C.prog fn false true false false):=by
 refine returnsInHanded_of_change_sized own started zg hfn witness ?_;intro W base args ds gs before dq hW _ dm _;have hW':=hW;obtain⟨p,q,hA,hV,rfl,lP,zm⟩:=hW;rw[sw]at hV;obtain⟨rfl,rfl⟩:=trodVars_none hV
 have hvt:spec.plain.varTypes C.prog=[]:=by
  simp[ChangeSpec.plain,DataSpec.varTypes,sw]
 rw[hvt,Pbc,Pbc]at dm
 have hlen:∀ {ts:List TypeId} {vs:List Value} {ds:List (DataW H)} {ps:List MemPlace},DataW.TrodAll enc C.prog W 0 (fun _=>true) true ts vs ds ps->ds.length=ts.length:=by
  intro ts
  induction ts with
  | nil =>
   intro vs ds ps h;cases vs<;>cases ds<;>first|rfl|exact h.elim
  | cons t ts ih =>
   intro vs ds ps h;cases vs<;>cases ds<;>first|exact h.elim|skip
   obtain⟨p,q,-,h2,-⟩:=h;simp[ih h2]
 have hl:=hlen hA;refine (Uan hc hfn hname hbody mj fv iq hpure dq hA (fun m hm=>?_)).mono fun e W' ⟨he,bel⟩=>?_
 ·rw[Ob8]at dm
  simpa using dm m hm
 ·subst he
  have im:=a1c H (ds++[]) (by simpa using hl);refine⟨_,rfl,ds,[],_,[],p,[],hW',?_,?_,?_,bel.frame _,fun h=>by cases h⟩
  ·rw[im,mS]
   exact trodAll_mk1 (shut_bool hrb _)
  ·rw[im]
   simp only[Pbc];exact xU laid bel a1e hA
  ·rw[im,sw]
   rfl
end Go.Proofs.YtcbkmmhkccnamaaGreat.Rf
namespace Go.Proofs.YtcbkmmhkccnamaaGreat.Rf
def vT:List (Nat×TI)->Nat->Option TI
 |[],_=>none
 |(k,i)::r,t=>bif Nat.beq k t then some i else vT r t
theorem Oa0 {P:Program}:∀ {l:List (Nat×TI)},(∀ p∈l,rF P p.1=some p.2)->sG P (vT l)
 |[],_=>⟨fun t i h=>by cases h⟩
 | (k, i) :: r, h => ⟨fun t j ht => by
  simp only[vT]at ht
  cases hb:Nat.beq k t with
  | true =>
   rw[hb,cond_true]at ht;simp only[Ob4]at hb;subst hb;rw[<- ht];exact h (k,i) Obu
  | false =>
   rw[hb,cond_false]at ht;exact (Oa0 fun p hp=>h p (Obq _ hp)).ok t j ht⟩
def Mae:List (Nat×Ent)->Nat->Ent
 |[],_=>.none
 |(k,e)::r,t=>bif Nat.beq k t then e else Mae r t
theorem Pa9 {P:Program}{T:Nat->Ent}{ti:Nat->Option TI}{sigs:List (Nat×Sig)}(h:∀ p∈sigs,Saw P T ti sigs p.1 p.2):∀ key s,(key,s)∈sigs->Saw P T ti sigs key s:=fun key s hm=>h (key,s) hm
theorem Ua8 {P : Program} {T : Nat -> Ent} {E : Env} {key : Nat} {s : Sig} {fn : Func} {tm : Tm Unit} (h1 : P.funcs[s.fn]? = some fn) (h2 : (fn.name == "runtime.NumGoroutine") = false) (h3 : Qa2 E s fn = some tm) (h4 : T key = .tm tm) : Saw P T E.ti E.sigs key s :=
 .inl ⟨E,fn,tm,rfl,rfl,h1,h2,h3,h4⟩
theorem fnK {P : Program} {T : Nat -> Ent} {E : Env} {key : Nat} {s : Sig} {fn : Func} {tm : Tm Unit} (h1 : P.funcs[s.fn]? = some fn) (h : (fn.name == "runtime.NumGoroutine", Qa2 E s fn, T key) = (false, some tm, .tm tm)) : Saw P T E.ti E.sigs key s :=
 Ua8 h1 (congrArg (·.1) h) (congrArg (·.2.1) h) (congrArg (·.2.2) h)
theorem fc {α:Type}{p:α->Prop}{a:α}{l:List α}(h:p a)(h':∀ x∈l,p x):∀ x∈a::l,p x:=List.forall_mem_cons.2 ⟨h,h'⟩
theorem fc0 {α:Type}{p:α->Prop}:∀ x∈([]:List α),p x:=List.forall_mem_nil _
theorem Ab6 {T:Nat->Ent}{key:Nat}{ds r:List D}(h:Fun T key ds=some r):∃ n,jA T n key ds=some r:=Dai.1 h
def apL (e d:Nat):Nat->List Nat
 |0=>[]
 |n+1=>(e-d*(n+1))::apL e d n
abbrev i64 (n:Int):D:=.int .i64 n
theorem wrap_i64 {n:Int}(h1:-9223372036854775808<=n)(h2:n<=9223372036854775807):IntKind.i64.wrap n=n:=IntWalk.i64_in n ⟨h1,h2⟩
section
variable {T:Nat->Ent} {β:Type}
end
theorem Abw {a b:Int}:(aY.bin .lss).run [i64 a,i64 b]=some [.bool (decide (a<b))]:=by simp[aY.run,Maw,zM]
theorem Aby {a b:Int}:(aY.bin .gtr).run [i64 a,i64 b]=some [.bool (decide (a>b))]:=by simp[aY.run,Maw,zM]
theorem Abx {a b:Int}:(aY.bin .leq).run [i64 a,i64 b]=some [.bool (decide (a<=b))]:=by simp[aY.run,Maw,zM]
theorem Abz {a b:Int}:(aY.bin .geq).run [i64 a,i64 b]=some [.bool (decide (a ≥ b))]:=by simp[aY.run,Maw,zM]
theorem Abv {a b:Int}:(aY.bin .neq).run [i64 a,i64 b]=some [.bool (!(a==b))]:=by simp[aY.run,Maw,zM,bne]
theorem Ab0 {a b:Int}:(aY.bin .eql).run [i64 a,i64 b]=some [.bool (a==b)]:=by simp[aY.run,Maw,zM]
theorem Ab3 {a b:Int}(h1:-9223372036854775808<=a+b)(h2:a+b<=9223372036854775807):(aY.bin .add).run [i64 a,i64 b]=some [i64 (a+b)]:=by simp[aY.run,Maw,zM,wrap_i64 h1 h2]
theorem Abt {a b:Int}(h1:-9223372036854775808<=a-b)(h2:a-b<=9223372036854775807):(aY.bin .sub).run [i64 a,i64 b]=some [i64 (a-b)]:=by simp[aY.run,Maw,zM,wrap_i64 h1 h2]
theorem Abu {b:Bool}:aY.not.run [.bool b]=some [.bool (!b)]:=rfl
theorem Ab1 {a b:Bool}:(aY.eqb true).run [.bool a,.bool b]=some [.bool (!(a==b))]:=rfl
section
variable {T:Nat->Ent}
end
def upto {α:Type}(z:α)(ys:List α)(i:Nat):List α:=ys.take i++Ob3 (ys.length-i) z
theorem Say {α:Type}(z:α)(ys:List α):upto z ys 0=Ob3 ys.length z:=by simp[upto]
theorem Wap {α:Type}(z:α)(ys:List α):upto z ys ys.length=ys:=by simp[upto]
theorem Wao {α:Type}(z:α)(ys:List α){i:Nat}(h:i<=ys.length):(upto z ys i).length=ys.length:=by simp[upto];omega
theorem Wan {α:Type}(z:α)(ys:List α){i:Nat}{y:α}(h:ys[i]?=some y):(upto z ys i).set i y=upto z ys (i+1):=by
 have ar:=(List.getElem?_eq_some_iff.1 h).1;apply List.ext_getElem?;intro j;rw[List.getElem?_set];unfold upto;rw[Obv,Pb3,Pb6];by_cases e:i=j
 ·subst e
  rw[if_pos rfl,if_pos (by omega),Obx (by simp;omega),Pbq,if_pos (by omega)];exact h.symm
 ·rw[if_neg e]
  rcases Ob2 j i with hj|hj
  ·rw[Obx (by simp;omega),Obx (by simp;omega),Pbq,Pbq,if_pos hj,if_pos (by omega)]
  ·rw[Obz (by simp;omega),Obz (by simp;omega),Qbz,Qbz]
   simp only[Pb3];by_cases h2:j<ys.length
   ·rw[if_pos (by omega),if_pos (by omega)]
   ·rw[if_neg (by omega),if_neg (by omega)]
section
variable {T:Nat->Ent} {β:Type}
noncomputable def Er (T:Nat->Ent)(t:Tm β)(ρ:List D):Option (Kind×List D):=(Ev T t ρ).map fun o=>(o.kind,o.vals)
def Lb8 (r:Kind×List D):Option (List D):=if r.1=.ret then some r.2 else none
def Mbc {α:Type}(d:D)(a b:Option α):Option α:=match d with
 |.bool true=>a
 |.bool false=>b
 |_=>none
def gdR (d:D)(w:Bool):Bool:=match d with
 |.bool b=>b==w
 |_=>false
theorem Jbh {f:Nat}{t:Tm Unit}(h:T f=.tm t)(args:List D):Fun T f args=(Er T t args).bind Lb8:=by
 rw[Eb6 h,Er];cases Ev T t args<;>rfl
theorem Cbk (k:Kind)(xs:List aI)(e:β)(ρ:List D):Er T (.leaf k xs e) ρ=some (k,xs.map (·.val ρ)):=by
 rw[Er,Cbi];rfl
noncomputable def stepT (T:Nat->Ent)(k:Tm β)(ρ:List D)(n:Nat)(a:Option (List D)):Option (Kind×List D):=a.bind fun ds=>if ds.length=n then Er T k (ρ++ds) else none
noncomputable def Ib3 (T:Nat->Ent)(t e:Tm β)(ρ:List D)(c:D):Option (Kind×List D):=Mbc c (Er T t ρ) (Er T e ρ)
noncomputable def ltT (T:Nat->Ent)(p:aY)(xs:List aI)(n:Nat)(k:Tm β)(ρ:List D)(w:Bool)(c:D):Option (Kind×List D) :=
 if gdR c w=true then stepT T k ρ n (p.run (xs.map (·.val ρ))) else Er T k (ρ++Ob3 n .undef)
noncomputable def Bb3 (T:Nat->Ent)(f:Nat)(xs:List aI)(n:Nat)(os:List aI)(k:Tm β)(ρ:List D)(w:Bool)(c:D):Option (Kind×List D) :=
 if gdR c w=true then stepT T k ρ n (Fun T f (xs.map (·.val ρ))) else Er T k (ρ++(Ob3 (n-os.length) .undef++os.map (·.val ρ)))
theorem Fbd (p:aY)(xs:List aI)(n:Nat)(k:Tm β)(ρ:List D):Er T (.lt none p xs n k) ρ=stepT T k ρ n (p.run (xs.map (·.val ρ))):=by
 rw[Er,Fba,stepT];simp only[gOn,if_true]
 cases p.run (xs.map (·.val ρ)) with
 |none=>rfl
 | some ds =>
  simp only[Obm];split<;>rfl
theorem Fbc (a:aI)(w:Bool)(p:aY)(xs:List aI)(n:Nat)(k:Tm β)(ρ:List D):Er T (.lt (some (a,w)) p xs n k) ρ=ltT T p xs n k ρ w (a.val ρ):=by
 rw[Er,Fba,ltT,stepT];have:gOn ρ (some (a,w))=gdR (a.val ρ) w:=rfl;rw[this]
 cases gdR (a.val ρ) w with
 |false=>rfl
 | true =>
  simp only[if_true]
  cases p.run (xs.map (·.val ρ)) with
  |none=>rfl
  | some ds =>
   simp only[Obm];split<;>rfl
theorem Zar (f:Nat)(xs:List aI)(n:Nat)(os:List aI)(k:Tm β)(ρ:List D):Er T (.call none f xs n os k) ρ=stepT T k ρ n (Fun T f (xs.map (·.val ρ))):=by
 rw[Er,Wai,stepT];simp only[gOn,if_true]
 cases Fun T f (xs.map (·.val ρ)) with
 |none=>rfl
 | some ds =>
  simp only[Obm];split<;>rfl
theorem Zaq (a:aI)(w:Bool)(f:Nat)(xs:List aI)(n:Nat)(os:List aI)(k:Tm β)(ρ:List D):Er T (.call (some (a,w)) f xs n os k) ρ=Bb3 T f xs n os k ρ w (a.val ρ):=by
 rw[Er,Wai,Bb3,stepT];have:gOn ρ (some (a,w))=gdR (a.val ρ) w:=rfl;rw[this]
 cases gdR (a.val ρ) w with
 |false=>rfl
 | true =>
  simp only[if_true]
  cases Fun T f (xs.map (·.val ρ)) with
  |none=>rfl
  | some ds =>
   simp only[Obm];split<;>rfl
theorem Fbe (c:aI)(t e:Tm β)(ρ:List D):Er T (.ite c t e) ρ=Ib3 T t e ρ (c.val ρ):=by
 rw[Er,Fbb,Ib3]
 cases c.val ρ with
 |bool b=>cases b<;>rfl
 |_=>rfl
noncomputable def lL (T:Nat->Ent)(i:Nat)(k:Tm β)(ρ:List D)(r:Option (Kind×List D)):Option (Kind×List D):=r.bind fun r=>if r.1=.yield i then Er T k (ρ++r.2) else some r
theorem Qas {i:Nat}{k:Tm β}{ρ ds:List D}:lL T i k ρ (some (.yield i,ds))=Er T k (ρ++ds):=by simp[lL]
theorem Sa4 {i:Nat}{k:Tm β}{ρ ds:List D}:lL T i k ρ (some (.ret,ds))=some (.ret,ds):=by simp[lL]
theorem Qau {i:Nat}{k:Tm β}{ρ ds:List D}:lL T i k ρ (some (.cont,ds))=some (.cont,ds):=by simp[lL]
theorem Xaq {i j:Nat}{k:Tm β}{ρ ds:List D}(h:j≠i):lL T i k ρ (some (.yield j,ds))=some (.yield j,ds):=by simp[lL,h]
theorem Cbl (i:Nat)(t k:Tm β)(ρ:List D):Er T (.bind i t k) ρ=lL T i k ρ (Er T t ρ):=by
 rw[Er,Cbj,lL,Er]
 cases Ev T t ρ with
 |none=>rfl
 | some o =>
  simp only[Obm,Pbj];split<;>rfl
theorem Zay {t:Tm β}{ρ:List D}{k:Kind}{ds:List D}(h:Er T t ρ=some (k,ds)):∃ o,Ev T t ρ=some o/\o.kind=k/\o.vals=ds:=by
 unfold Er at h
 cases e:Ev T t ρ with
 |none=>rw[e]at h;cases h
 | some o =>
  rw[e,Pbj]at h;have:=Option.some.inj h;exact⟨o,rfl,congrArg Prod.fst this,congrArg Prod.snd this⟩
theorem Na8 {γ:Type}{body:Tm β}{ρ:List D}(m:γ->Nat)(inv:γ->Prop)(vs:γ->List D)(Q:Kind×List D->Prop)
  (h:∀ c,inv c->∃ r,Er T body (ρ++vs c)=some r/\(r.1=.cont/\(∃ c',inv c'/\m c'<m c/\r.2=vs c')\/r.1≠.cont/\Q r)) :
  ∀ (n:Nat) c,m c<=n->inv c->∀ xs:List aI,xs.map (·.val ρ)=vs c->∃ r,Er T (.loop xs body) ρ=some r/\Q r:=by
 have key:∀ (n:Nat) c,m c<=n->inv c->∃ o,Lp T body ρ (vs c)=some o/\Q (o.kind,o.vals):=by
  intro n
  induction n with
  | zero =>
   intro c hm hc;obtain⟨⟨k,ds⟩,h1,h2⟩:=h c hc;obtain⟨o,h3,rfl,rfl⟩:=Zay h1
   rcases h2 with ⟨-,c',-,h5,-⟩|⟨h4,h5⟩
   ·omega
   ·exact⟨o,by rw[Cbe,h3,Obm,if_neg h4],h5⟩
  | succ n ih =>
   intro c hm hc;obtain⟨⟨k,ds⟩,h1,h2⟩:=h c hc;obtain⟨o,h3,rfl,rfl⟩:=Zay h1
   rcases h2 with ⟨h4,c',h5,h6,h7⟩|⟨h4,h5⟩
   ·obtain⟨o',h8,h9⟩:=ih c' (by omega) h5
    refine⟨o',?_,h9⟩;rw[Cbe,h3,Obm,if_pos h4];show Lp T body ρ o.vals=_
    rw[show o.vals=vs c' from h7,h8]
   ·exact⟨o,by rw[Cbe,h3,Obm,if_neg h4],h5⟩
 intro n c hm hc xs hx;obtain⟨o,h1,h2⟩:=key n c hm hc;exact⟨_,by rw[Er,Cbh,hx,h1,Pbj],h2⟩
end
def sF (ok:Nat->Bool):Nat->Bool
 |0=>true
 |n+1=>sF ok n&&ok n
theorem jD {ok:Nat->Bool}:∀ {n:Nat},sF ok n=true↔∀ i,i<n->ok i=true
 |0=>by simp[sF]
 | n + 1 => by
  simp only[sF,Obh,jD (n:=n)];constructor
  ·rintro⟨h1,h2⟩ i hi
   rcases Ob2 i n with h|h
   ·exact h1 i h
   ·obtain rfl:i=n:=by omega
    exact h2
  ·exact fun h=>⟨fun i hi=>h i (by omega),h n (by omega)⟩
theorem Bak {ok:Nat->Bool}{n:Nat}:sF ok n=false↔∃ i,i<n/\ok i=false:=by
 constructor
 ·intro h
  apply Classical.byContradiction;intro hn
  have:sF ok n=true:=jD.2 fun i hi=>by
   cases e:ok i with
   |true=>rfl
   |false=>exact absurd ⟨i,hi,e⟩ hn
  rw[this]at h;cases h
 ·rintro⟨i,hi,h⟩
  cases e:sF ok n with
  |false=>rfl
  |true=>rw[jD.1 e i hi]at h;cases h
theorem Qaj {p q:Nat->Bool}:∀ {n:Nat},sF (fun i=>p i&&q i) n=(sF p n&&sF q n)
 |0=>rfl
 | n + 1 => by
  simp only[sF,Qaj (n:=n)];cases sF p n<;>cases sF q n<;>cases p n<;>cases q n<;>rfl
theorem Hay {p q:Nat->Bool}:∀ {n:Nat},(∀ i,i<n->p i=q i)->sF p n=sF q n
 |0,_=>rfl
 |n+1,h=>by simp only[sF,Hay (n:=n) fun i hi=>h i (by omega),h n (by omega)]
section
variable {T:Nat->Ent} {β:Type}
end
theorem Ebb {d:D}:aY.id.run [d]=some [d]:=rfl
def inR (x lo hi:Int):Bool:=decide (lo<=x)&&decide (x<=hi)
end Go.Proofs.YtcbkmmhkccnamaaGreat.Rf
