/- Terms for s6 program's functions, and nj they are right: part 7 of 10. -/
import Derived.Test.YtcbkmmhkccnamaaGreatRf6
import Derived.SizedLaws
import Derived.Carry
import Derived.ChangeOld
import Derived.ChangeShapes
import Derived.RowKit
import Derived.IntWalk
open Bool renaming and_eq_true → Zbd, false_eq_true → Zbg
open List renaming mem_append_left → Zbe, getElem?_eq_getElem → Zbf, mem_append_right → Zbh, length_append → Zbi, getD_eq_getElem?_getD → Zbk, getElem?_cons_zero → Zbl, append_assoc → Zbm, mem_cons_of_mem → Zbn, mem_singleton → Zbp, replicate → Zbq, length_cons → Zbs, length_map → Zbt, mem_cons_self → Zbu, mem_of_getElem? → Zbv, getElem?_append_right → Zbw, getElem?_append_left → Zbx, length_take → Zb1, getElem?_map → Zb2, append_nil → Zb4, map_cons → Zb5, all_eq_true → Zb6, map_nil → Acb, mem_cons → Acf, length_replicate → Acj, nil_append → Aco, getElem?_take → Acs, filter_cons → Ac6, cons_append → Bch, getElem?_replicate → Bcq, mem_append → Bc8, getElem?_range → Cc1
open Nat renaming le_refl → Zbr, lt_or_ge → Zbz, add_assoc → Zb0, beq_eq → Zb8, add_zero → Zb9, zero_add → Aca, add_sub_cancel_left → Ace, ble_eq → Acr
open Option renaming bind_eq_some_iff → Zbc, bind_some → Zbj, map_eq_some_iff → Zbo, map_some → Acm, getD_some → Bcd
set_option linter.unusedSimpArgs false
set_option linter.unusedVariables false
set_option linter.unnecessarySimpa false
set_option linter.unusedSectionVars false
namespace Go.Proofs.YtcbkmmhkccnamaaGreat.Rf
section
variable (w:World)
def owC (ad:Addr):Nat->List BO->List Value
 |_,[]=>[]
 |off,s::r=>(match s with | .ow _=>[(w.cell? (ad.add off)).getD undef] | _=>[])++owC ad (off+1) r
def Ua9:LR->Value->List Value
 |.ow _,v=>[v]
 |.bx cs,.pointer (some ad)=>owC w ad 0 cs
 |_,_=>[]
def owL:List LR->List Value->List Value
 |s::ss,v::vs=>Ua9 w s v++owL ss vs
 |_,_=>[]
def owR:List (Bool×List LR)->List Value->List Value
 |(a,ss)::rs,u::us=>owL w ss (if a=true then u.cells.toList else [u])++owR rs us
 |_,_=>[]
def owB (bx:Nat->Addr):Nat->List (Bool×List (BS×BO))->List Value
 |_,[]=>[]
 |b,(ro,cs)::r=>if ro=true then owB bx (b+1) r else owC w (bx b) 0 (cs.map (·.2))++owB bx (b+1) r
end
def Rax:LR->Value->List Addr
 |.bx _,.pointer (some ad)=>[ad]
 |_,_=>[]
def Oad:List LR->List Value->List Addr
 |s::ss,v::vs=>Rax s v++Oad ss vs
 |_,_=>[]
def Jau:List (Bool×List LR)->List Value->List Addr
 |(a,ss)::rs,u::us=>Oad ss (if a=true then u.cells.toList else [u])++Jau rs us
 |_,_=>[]
theorem Yan (s:LR)(v:Value):(Rax s v).length<=(match s with|.bx _=>1|_=>0):=by
 unfold Rax;split<;>simp
theorem Raz:∀ (ss:List LR) (vs:List Value),(Oad ss vs).length<=bxL ss
 |[],vs=>by simp[Oad]
 |s::ss,[]=>by simp[Oad]
 | s :: ss, v :: vs => by
  have h1:=Yan s v;have h2:=Raz ss vs;simp only[Oad,Zbi];cases s<;>simp only[bxL]at *<;>omega
theorem Ray:∀ (rs:List (Bool×List LR)) (us:List Value),(Jau rs us).length<=kU rs
 |[],us=>by simp[Jau]
 |(a,ss)::rs,[]=>by simp[Jau]
 | (a, ss) :: rs, u :: us => by
  have h1:=Raz ss (if a=true then u.cells.toList else [u]);have h2:=Ray rs us;simp only[Jau,Zbi,kU];omega
def Sa7:List BO->Bool
 |[]=>true
 |.ow _::_=>false
 |_::r=>Sa7 r
section
variable {E:Env} {F:bH} {σ ej:Nat->Option aS} {ρ:List D} {a:Act} {w w':World} {G G':Gh} {s:Sig} {Z:Take} {gd:Bool} {nr nb y0:Nat} {hs:List Value} {adn:Addr} {ds:List D}
def Ra3 (ρ:List D)(l:List Step):Prop:=∀ m y,.prim (.dep m) [.v y] 0∈l->oZ m ((aL.v y).val ρ)=true
structure Aft (E:Env) (F:bH) (σ ej:Nat->Option aS) (ρ:List D) (a:Act) (w:World) (G:Gh) (s:Sig) (Z:Take) (G':Gh) (w':World) (y0:Nat) (ds:List D):Prop where
 B:Ra4 E F σ ρ a w G s Z G' w'
 val:∀ i,i<ds.length->(aL.v (y0+i)).val ρ=ds.getD i .undef
 known:∀ z∈Z.deps,jG ej z.1 z.2
def UOk (uf:Nat->Prop)(ej:Nat->Option aS)(ρ:List D)(G2:Gh)(w':World)(nr nb y0:Nat)(u:List (Nat×aS)):Prop :=
 ∀ k c,(k,c)∈u->(∃ q m i,k=kR (nr+q)/\c=.root (.v (y0+i)) m 0 .live/\Rp G2.own w' (nr+q) [] m (G2.hdr (nr+q)) ((aL.v (y0+i)).val ρ)) \/
  (k=kB nb/\∃ ls,c=.box false ls/\Mal ej ρ G2 w' nb false ls/\uf (G2.bx nb).block)
theorem UOk.append {uf:Nat->Prop}{G2:Gh}{u v:List (Nat×aS)}(h:UOk uf ej ρ G2 w' nr nb y0 u)(h':UOk uf ej ρ G2 w' nr nb y0 v):UOk uf ej ρ G2 w' nr nb y0 (u++v):=fun k c hc=>(List.mem_append.1 hc).elim (h k c) (h' k c)
def UIn (ej:Nat->Option aS)(nr:Nat)(u:List (Nat×aS)):Prop:=∀ k c,(k,c)∈u->(ej k).isSome/\∀ q,k=kR (nr+q)->q<bW
theorem UIn.left {u v:List (Nat×aS)}(h:UIn ej nr (u++v)):UIn ej nr u:=fun k c hc=>h k c (Zbe _ hc)
theorem UIn.right {u v:List (Nat×aS)}(h:UIn ej nr (u++v)):UIn ej nr v:=fun k c hc=>h k c (Zbh _ hc)
theorem Ab5 {own':Nat->Ow}{q:Nat}(hq:q<bW){v:Value}(hv:hs[q]?=some v):(fF gd ρ G w s Z nr nb own' hs adn).hdr (nr+q)=v:=by
 simp only[fF];rw[if_pos ⟨by omega,by omega⟩,Ace,Zbk,hv];rfl
variable (A:Aft E F σ ej ρ a w G s Z G' w' y0 ds)
include A
theorem Yao {i q off:Nat}{t:BO}{v:Value}(h:Ea1 G'.own w' ds i q t v)(hi:i<ds.length)(fv:Z.deps=[]\/∀ m,t=.ow m->oZ m ((aL.v (y0+i)).val ρ)=true)
  (gb:gd=false\/∀ m,t≠.ow m) (hh:∀ m,t=.ow m->hs[q]?=some v) (hu:UIn ej nr (jU Z.deps (y0+i) (nr+q) t).2.1) :
  (jU Z.deps (y0+i) (nr+q) t).2.2=nr+q+t.q/\aB ej ρ (fF gd ρ G w s Z nr nb G'.own hs adn) w' (jU Z.deps (y0+i) (nr+q) t).1 v/\UOk (fun b=>¬ (b<w.heap.size/\Nav ((callG ρ G w s Z).own b)=false)) ej ρ (fF gd ρ G w s Z nr nb G'.own hs adn) w' nr nb y0 (jU Z.deps (y0+i) (nr+q) t).2.1:=by
 cases t with
 | sc =>
  refine⟨rfl,?_,by simp[UOk,jU]⟩;simp only[jU,aB];rw[A.val i hi];exact h
 | fz =>
  refine⟨rfl,?_,by simp[UOk,jU]⟩;simp only[jU,aB];simp only[Ea1]at h;rw[A.val i hi];exact⟨⟨h.one,A.known⟩,fun _=>⟨A.B.rd h,fun e=>absurd e (by decide),trivial⟩⟩
 | ow m =>
  have hg:gd=false:=gb.resolve_right fun e=>e m rfl
  simp only[Ea1]at h;have j9:=hu (kR (nr+q)) _ (by simp only[jU];exact List.mem_singleton.2 rfl);have hhd:=Ab5 (gd:=gd) (ρ:=ρ) (G:=G) (w:=w) (s:=s) (Z:=Z) (nr:=nr) (nb:=nb) (adn:=adn) (own':=G'.own) (j9.2 q rfl) (hh m rfl);have tD:Z.deps=[]\/oZ m (ds.getD i .undef)=true:=fv.imp id fun e=>by rw[<- A.val i hi];exact e m rfl
  have fm:=A.B.give (gd:=gd) (nr:=nr) (nb:=nb) (hs:=hs) (adn:=adn) h tD hg (j9.2 q rfl);refine⟨rfl,?_,?_⟩
  ·simp only[jU,aB]
   exact⟨hhd.symm,j9.1,h.one⟩
  ·intro k c hc
   simp only[jU,Zbp,Prod.mk.injEq]at hc;refine .inl ⟨q,m,i,hc.1,hc.2,?_⟩;rw[hhd,A.val i hi];exact fm
 | dead =>
  refine⟨rfl,?_,by simp[UOk,jU]⟩;simp only[jU,aB];exact h
theorem Aa7:∀ {cs:List BO} {i q off:Nat} {ad:Addr},Dap G'.own w' ds ad off i q cs->i+cs.length<=ds.length->(Z.deps=[]\/Ra3 ρ (nR (y0+i) cs))->(gd=false\/Sa7 cs=true) ->
  (∀ j v,(owC w' ad off cs)[j]?=some v->hs[q+j]?=some v)->UIn ej nr (dR Z.deps (y0+i) (nr+q) cs).2.1 ->
  (dR Z.deps (y0+i) (nr+q) cs).2.2=nr+q+qC cs/\(dR Z.deps (y0+i) (nr+q) cs).1.length=cs.length/\(owC w' ad off cs).length=qC cs /\
  (∀ j l,(dR Z.deps (y0+i) (nr+q) cs).1[j]?=some l->∃ v,w'.cell? (ad.add (off+j))=some v/\w'.frozen? (ad.add (off+j))=false/\aB ej ρ (fF gd ρ G w s Z nr nb G'.own hs adn) w' l v) /\
  UOk (fun b=>¬ (b<w.heap.size/\Nav ((callG ρ G w s Z).own b)=false)) ej ρ (fF gd ρ G w s Z nr nb G'.own hs adn) w' nr nb y0 (dR Z.deps (y0+i) (nr+q) cs).2.1
 |[],i,q,off,ad,_,_,_,_,_,_=>⟨rfl,rfl,rfl,by simp[dR],by simp[UOk,dR]⟩
 | t :: cs, i, q, off, ad, h, hi, fv, gb, hh, hu => by
  obtain⟨⟨v,h1,h2,h3⟩,h4⟩:=h;simp only[Zbs]at hi;simp only[dR]at hu;have hlen:∀ t:BO,(match t with|.ow _=>[(w'.cell? (ad.add off)).getD undef]|_=>([]:List Value)).length=t.q:=fun t=>by cases t<;>rfl
  have hb:=Yao A (gd:=gd) (nr:=nr) (nb:=nb) (hs:=hs) (adn:=adn) (off:=off) h3 (by omega) (fv.imp id fun e m hm=>e m _ (by subst hm;simp only[nR];exact Zbu))
   (gb.imp id fun e m hm=>by subst hm;simp[Sa7]at e) (fun m hm=>by
    subst hm;have:=hh 0 v (by simp[owC,h1]);simpa using this) hu.left
  obtain⟨h5,h6,h7⟩:=hb
  have cq:=Aa7 (cs:=cs) (i:=i+1) (q:=q+t.q) (off:=off+1) (ad:=ad) h4 (by omega) (fv.imp id fun e m y hm=>e m y (by
    cases t with
    |ow m'=>simp only[nR];exact Zbn _ hm
    |_=>exact hm)) (gb.imp id fun e=>by cases t<;>simp[Sa7]at e ⊢<;>exact e) (fun j x hj=>by
    have:=hh (t.q+j) x (by
     simp only[owC];rw[Zbw (by rw[hlen];omega),hlen,Ace];exact hj)
    rwa[<- Zb0]at this) (by
    have:=hu.right;rw[h5]at this;rw[<- Zb0,<- Zb0];exact this)
  rw[<- Zb0,<- Zb0]at cq;obtain⟨h8,h9,cL,ef,fW⟩:=cq;simp only[dR];rw[h5];refine⟨by rw[h8];simp only[qC];omega,by simp[h9],by simp only[owC,Zbi,hlen,cL,qC],fun j l hj=>?_,h7.append fW⟩
  cases j with
  | zero =>
   simp only[Zbl,Option.some.injEq]at hj;subst hj;exact⟨v,h1,h2,h6⟩
  | succ j =>
   obtain⟨v',jd,k7,mA⟩:=ef j l (by simpa using hj);rw[show off+(j+1)=off+1+j by omega];exact⟨v',jd,k7,mA⟩
theorem Sa0 (ux:ej (kB nb)=none\/True){i q:Nat}{t:LR}{v:Value}(h:lZ G'.own w' ds s.boxes.length i q t v)(hi:i+t.n<=ds.length)(fv:Z.deps=[]\/Ra3 ρ (Ta2 (y0+i) [t]))
  (gb:gd=false\/bxL [t]=0) (hh:∀ j x,(Ua9 w' t v)[j]?=some x->hs[q+j]?=some x) (s4:∀ ad∈Rax t v,ad=adn) (hu:UIn ej nr (cZ gd Z.deps nb (y0+i) (nr+q) t).2.1) :
  (cZ gd Z.deps nb (y0+i) (nr+q) t).2.2=nr+q+t.q/\(Ua9 w' t v).length=t.q/\aB ej ρ (fF gd ρ G w s Z nr nb G'.own hs adn) w' (cZ gd Z.deps nb (y0+i) (nr+q) t).1 v/\UOk (fun b=>¬ (b<w.heap.size/\Nav ((callG ρ G w s Z).own b)=false)) ej ρ (fF gd ρ G w s Z nr nb G'.own hs adn) w' nr nb y0 (cZ gd Z.deps nb (y0+i) (nr+q) t).2.1:=by
 cases t with
 | sc =>
  refine⟨rfl,by cases v<;>rfl,?_,by simp[UOk,cZ]⟩;simp only[LR.n]at hi;simp only[cZ,aB];rw[A.val i (by omega)];exact h
 | fz =>
  refine⟨rfl,by cases v<;>rfl,?_,by simp[UOk,cZ]⟩;simp only[LR.n]at hi;simp only[lZ]at h;simp only[cZ,aB];rw[A.val i (by omega)];exact⟨⟨h.one,A.known⟩,fun _=>⟨A.B.rd h,fun e=>absurd e (by decide),trivial⟩⟩
 | ow m =>
  simp only[LR.n]at hi;simp only[lZ]at h
  cases gd with
  | true =>
   refine⟨rfl,rfl,?_,by simp[UOk,cZ]⟩;simp only[cZ,cond_true,aB];rw[A.val i (by omega)];exact⟨⟨h.one,A.known⟩,fun _=>⟨A.B.giveGd h rfl,fun e=>absurd e (by decide),trivial⟩⟩
  | false =>
   have j9:=hu (kR (nr+q)) _ (by simp only[cZ,cond_false];exact List.mem_singleton.2 rfl);have hhd:=Ab5 (gd:=false) (ρ:=ρ) (G:=G) (w:=w) (s:=s) (Z:=Z) (nr:=nr) (nb:=nb) (adn:=adn) (own':=G'.own) (j9.2 q rfl) (hh 0 v rfl)
   have tD:Z.deps=[]\/oZ m (ds.getD i .undef)=true:=fv.imp id fun e=>by
    rw[<- A.val i (by omega)];exact e m _ (by simp only[Ta2];exact Zbu)
   have fm:=A.B.give (gd:=false) (nr:=nr) (nb:=nb) (hs:=hs) (adn:=adn) h tD rfl (j9.2 q rfl);refine⟨rfl,rfl,?_,?_⟩
   ·simp only[cZ,cond_false,aB]
    exact⟨hhd.symm,j9.1,h.one⟩
   ·intro k c hc
    simp only[cZ,cond_false,Zbp,Prod.mk.injEq]at hc;refine .inl ⟨q,m,i,hc.1,hc.2,?_⟩;rw[hhd,A.val i (by omega)];exact fm
 | rp z =>
  refine⟨rfl,by cases v<;>rfl,?_,by simp[UOk,cZ]⟩;simp only[LR.n]at hi;simp only[lZ]at h;simp only[cZ,aB];rw[A.val i (by omega)];refine⟨⟨h.1,A.known⟩,fun _=>?_⟩
  rcases h.2 with h1|⟨ad,row,h1,h2,h3⟩
  ·exact .inl h1
  ·exact .inr ⟨ad,row,h1,h2,A.B.rd h3⟩
 | bx cs =>
  have hg:gd=false:=gb.resolve_right fun e=>by simp[bxL]at e
  simp only[LR.n]at hi;simp only[lZ]at h;obtain⟨ad,rfl,h1,h2,h3⟩:=h;have a7f:ad=adn:=s4 ad (by simp[Rax]);simp only[cZ]at hu;have hu':UIn ej nr (dR Z.deps (y0+i) (nr+q) cs).2.1:=fun k c hc=>hu k c (Zbn _ hc)
  obtain⟨h4,h5,h6,h7,h8⟩:=Aa7 A (gd:=gd) (nb:=nb) (hs:=hs) (adn:=adn) h3 hi (fv.imp id fun e m y hm=>e m y (by simp only[Ta2];exact Zbe _ hm)) (.inl hg) hh hu';have mw:=(hu (kB nb) _ Zbu).1
  have gi:(fF gd ρ G w s Z nr nb G'.own hs adn).bx nb=ad:=by
   simp only[fF,if_pos trivial];exact a7f.symm
  have wz:¬ (ad.block<w.heap.size/\Nav ((callG ρ G w s Z).own ad.block)=false):=by
   ·rintro⟨hb,hL⟩
    cases mc:(callG ρ G w s Z).own ad.block with
    |frz=>have:=(A.B.keep hb (.inl mc)).2;rw[h2,mc]at this;cases this
    |oth=>have:=(A.B.keep hb (.inr mc)).2;rw[h2,mc]at this;cases this
    |slc _ _=>rw[mc]at hL;cases hL
    | box j =>
     have:=(A.B.hF.boxes ad.block j hb mc).1;rw[h2]at this
     injection this with this
     have hgc:∃ c,Saw Z.ptrs c 0 s.boxes=some j:=by
      simp only[callG]at mc
      cases hgb:G.own ad.block with
      | box c =>
       rw[hgb]at mc;dsimp only at mc;split at mc
       ·rename_i x hx
        split at mc
        ·injection mc with mc
         exact⟨c,by rw[hx,mc]⟩
        ·cases mc
       ·cases mc
      | slc r p =>
       rw[hgb]at mc;dsimp only at mc
       rcases Gap (ρ:=ρ) (dr:=Z.deps.map (·.1)) (r:=r) (p:=p) Z.rts 0 with ⟨_,_,e⟩|e|e<;>rw[e]at mc<;>cases mc
      |frz=>rw[hgb]at mc;cases mc
      |oth=>rw[hgb]at mc;cases mc
     obtain⟨c,hc⟩:=hgc;obtain⟨j',oS,kO,e1,e2,-⟩:=Gao hc;have:=(List.getElem?_eq_some_iff.1 e2).1;omega
  have a7:(fF gd ρ G w s Z nr nb G'.own hs adn).own ad.block=.box nb:=by
   simp only[fF];rw[if_neg wz,h2];simp[uO]
  refine⟨?_,?_,?_,?_⟩
  ·simp only[cZ];exact h4
  ·simp only[Ua9];exact h6
  ·simp only[cZ,aB]
   exact⟨by rw[gi];rfl,mw⟩
  ·simp only[cZ]
   intro k c hc
   rcases List.mem_cons.1 hc with hc|hc
   ·obtain⟨rfl,rfl⟩:=Prod.mk.inj hc
    refine .inr ⟨rfl,_,rfl,⟨by rw[gi];exact h1,by rw[gi,a7];rfl,fun j l hj=>?_⟩,by rw[gi];exact wz⟩;rw[gi];have:=h7 j l hj;rwa[Aca]at this
   ·exact h8 k c hc
theorem Ba3:∀ {ss:List LR} {i q:Nat} {vs:List Value},pR G'.own w' ds s.boxes.length i q ss vs->i+mZ ss<=ds.length->(Z.deps=[]\/Ra3 ρ (Ta2 (y0+i) ss)) ->
  (gd=false\/bxL ss=0)->(∀ j x,(owL w' ss vs)[j]?=some x->hs[q+j]?=some x)->(∀ ad∈Oad ss vs,ad=adn)->UIn ej nr (dN gd Z.deps nb (y0+i) (nr+q) ss).2.1 ->
  (dN gd Z.deps nb (y0+i) (nr+q) ss).2.2=nr+q+qL ss/\(owL w' ss vs).length=qL ss/\aG ej ρ (fF gd ρ G w s Z nr nb G'.own hs adn) w' (dN gd Z.deps nb (y0+i) (nr+q) ss).1 vs/\UOk (fun b=>¬ (b<w.heap.size/\Nav ((callG ρ G w s Z).own b)=false)) ej ρ (fF gd ρ G w s Z nr nb G'.own hs adn) w' nr nb y0 (dN gd Z.deps nb (y0+i) (nr+q) ss).2.1
 | [], i, q, vs, h, _, _, _, _, _, _ => by
  simp only[pR]at h;subst h;exact⟨rfl,rfl,by simp[dN,aG],by simp[UOk,dN]⟩
 | t :: ss, i, q, vs, h, hi, fv, gb, hh, s4, hu => by
  obtain⟨u,us,rfl,h1,h2⟩:=h;simp only[mZ]at hi;simp only[dN]at hu
  obtain⟨h3,h4,h5,h6⟩:=Sa0 A (gd:=gd) (nb:=nb) (hs:=hs) (adn:=adn) (.inr trivial) h1 (by omega) (fv.imp id fun e m y hm=>e m y (by
    cases t with
    |ow m'=>simp only[Ta2,Zbp]at hm ⊢;rw[hm];exact Zbu
    |bx cs=>simp only[Ta2,Zb4]at hm ⊢;exact Zbe _ hm
    |_=>simp[Ta2]at hm))
   (gb.imp id fun e=>by cases t<;>simp only[bxL]at e ⊢<;>omega) (fun j x hj=>hh j x (by
    simp only[owL];rw[Zbx (List.getElem?_eq_some_iff.1 hj).1];exact hj))
   (fun ad hm=>s4 ad (by simp only[Oad];exact Zbe _ hm)) hu.left
  have cq:=Ba3 (ss:=ss) (i:=i+t.n) (q:=q+t.q) h2 (by omega) (fv.imp id fun e m y hm=>e m y (by
    cases t with
    |ow m'=>simp only[Ta2];exact Zbn _ hm
    |bx cs=>simp only[Ta2];rw[Zb0];exact Zbh _ hm
    |_=>exact hm)) (gb.imp id fun e=>by cases t<;>simp only[bxL]at e<;>omega) (fun j x hj=>by
    have:=hh (t.q+j) x (by
     simp only[owL];rw[Zbw (by rw[h4];omega),h4,Ace];exact hj)
    rwa[<- Zb0]at this) (fun ad hm=>s4 ad (by simp only[Oad];exact Zbh _ hm)) (by
    have:=hu.right;rw[h3]at this;rw[<- Zb0,<- Zb0];exact this)
  rw[<- Zb0,<- Zb0]at cq;obtain⟨h7,h8,h9,cL⟩:=cq;simp only[dN];rw[h3];refine⟨by rw[h7];simp only[qL];omega,by simp only[owL,Zbi,h4,h8,qL],?_,h6.append cL⟩;simp only[aG];exact⟨u,us,rfl,h5,h9⟩
theorem Laf:∀ {rs:List (Bool×List LR)} {i q:Nat} {us:List Value},Maj G'.own w' ds s.boxes.length i q rs us->i+bL rs<=ds.length->(Z.deps=[]\/Ra3 ρ (Cbf (y0+i) rs)) ->
  (gd=false\/kU rs=0)->(∀ j x,(owR w' rs us)[j]?=some x->hs[q+j]?=some x)->(∀ ad∈Jau rs us,ad=adn)->UIn ej nr (jF gd Z.deps nb (y0+i) (nr+q) rs).2.1 ->
  (jF gd Z.deps nb (y0+i) (nr+q) rs).2.2=nr+q+qR rs/\(owR w' rs us).length=qR rs/\iP ej ρ (fF gd ρ G w s Z nr nb G'.own hs adn) w' (jF gd Z.deps nb (y0+i) (nr+q) rs).1 us/\UOk (fun b=>¬ (b<w.heap.size/\Nav ((callG ρ G w s Z).own b)=false)) ej ρ (fF gd ρ G w s Z nr nb G'.own hs adn) w' nr nb y0 (jF gd Z.deps nb (y0+i) (nr+q) rs).2.1
 | [], i, q, us, h, _, _, _, _, _, _ => by
  simp only[Maj]at h;subst h;exact⟨rfl,rfl,rfl,by simp[UOk,jF]⟩
 | (ag, ss) :: rs, i, q, us, h, hi, fv, gb, hh, s4, hu => by
  obtain⟨u,cW,vs,rfl,h1,h2,h3⟩:=h;simp only[bL]at hi;simp only[jF]at hu
  have lk:(if ag=true then u.cells.toList else [u])=vs:=by
   cases ag with
   | true =>
    simp only[if_true]at h2 ⊢;rw[h2];simp[Value.cells]
   |false=>simp only[Zbg,if_false]at h2 ⊢;exact h2.symm
  obtain⟨h4,h5,h6,h7⟩:=Ba3 A (gd:=gd) (nb:=nb) (hs:=hs) (adn:=adn) h1 (by omega) (fv.imp id fun e m y hm=>e m y (by simp only[Cbf];exact Zbe _ hm))
   (gb.imp id fun e=>by simp only[kU]at e;omega) (fun j x hj=>hh j x (by
    simp only[owR,lk];rw[Zbx (List.getElem?_eq_some_iff.1 hj).1];exact hj))
   (fun ad hm=>s4 ad (by simp only[Jau,lk];exact Zbe _ hm)) hu.left
  have cq:=Laf (rs:=rs) (i:=i+mZ ss) (q:=q+qL ss) h3 (by omega) (fv.imp id fun e m y hm=>e m y (by
    simp only[Cbf];rw[Zb0]
    exact Zbh _ hm)) (gb.imp id fun e=>by simp only[kU]at e;omega) (fun j x hj=>by
    have:=hh (qL ss+j) x (by
     simp only[owR,lk];rw[Zbw (by rw[h5];omega),h5,Ace];exact hj)
    rwa[<- Zb0]at this) (fun ad hm=>s4 ad (by simp only[Jau];exact Zbh _ hm)) (by
    have:=hu.right;rw[h4]at this;rw[<- Zb0,<- Zb0];exact this)
  rw[<- Zb0,<- Zb0]at cq;obtain⟨h8,h9,cL,ef⟩:=cq;simp only[jF];rw[h4];exact⟨by rw[h8];simp only[qR];omega,by simp only[owR,lk,Zbi,h5,h9,qR],⟨u,cW,vs,rfl,h6,h2,cL⟩,h7.append ef⟩
theorem Aa5 (ux:σ (kB nb)=none):∀ {bs:List (Bool×List (BS×BO))} {b i q:Nat} {bu:List (Nat×aS)},(∀ j x,bs[j]?=some x->s.boxes[b+j]?=some x)->(lX Z.ptrs Z.deps b (y0+i) (nr+q) bs).eval σ=some bu ->
  mD G'.own w' ds (callG ρ G w s Z).bx b i q bs->i+eO bs<=ds.length->(Z.deps=[]\/Ra3 ρ (Yam (y0+i) bs))->(gd=false\/∀ x∈bs,x.1=false->Sa7 (x.2.map (·.2))=true) ->
  (∀ j x,(owB w' (callG ρ G w s Z).bx b bs)[j]?=some x->hs[q+j]?=some x)->UIn ej nr bu ->
  (∀ k c,(k,c)∈bu->(∃ q m i,k=kR (nr+q)/\c=.root (.v (y0+i)) m 0 .live/\Rp (fF gd ρ G w s Z nr nb G'.own hs adn).own w' (nr+q) [] m ((fF gd ρ G w s Z nr nb G'.own hs adn).hdr (nr+q)) ((aL.v (y0+i)).val ρ)) \/
   ∃ c0 jv ls,k=kB c0/\σ (kB c0)=some (.box false jv)/\c=.box false ls/\ls.length=jv.length /\
    ((∀ j l,jv[j]?=some l->∃ v,w.cell? ((G.bx c0).add j)=some v/\(aB σ ρ G w l v->aB ej ρ (fF gd ρ G w s Z nr nb G'.own hs adn) w' l v))->Mal ej ρ (fF gd ρ G w s Z nr nb G'.own hs adn) w' c0 false ls)) /\
  (∀ c,c∈iX false Z.ptrs b bs->∃ x,(kB c,x)∈bu)
 | [], b, i, q, bu, _, h, _, _, _, _, _, _ => by
  simp only[lX,aF,Option.some.injEq]at h;subst h;exact⟨by simp,by simp[iX]⟩
 | (ro, cs) :: bs, b, i, q, bu, zo, h, hf, hi, fv, gb, hh, hu => by
  simp only[lX]at h
  have a1d:∀ j x,bs[j]?=some x->s.boxes[b+1+j]?=some x:=fun j x hj=>by
   rw[show b+1+j=b+(j+1) by omega];exact zo (j+1) x (by simpa using hj)
  cases ro with
  | true =>
   simp only[cond_true]at h;simp only[mD,if_true]at hf;simp only[eO,cond_true,Aca]at hi
   obtain⟨h1,h2⟩:=Aa5 ux (bs:=bs) (b:=b+1) a1d h hf hi (fv.imp id fun e m y hm=>e m y (by simp only[Yam,cond_true];exact hm)) (gb.imp id fun e x hx=>e x (Zbn _ hx))
    (fun j x hj=>hh j x (by simp only[owB,if_true];exact hj)) hu
   refine⟨h1,fun c hc=>h2 c ?_⟩;have e:(true==false)=false:=rfl;simp only[iX,e,cond_false]at hc;exact hc
  | false =>
   simp only[cond_false]at h;simp only[mD,Zbg,if_false]at hf;simp only[eO,cond_false]at hi;split at h
   case h_2=>cases h
   rename_i c off hp;simp only[aA,aT,Zbj]at h;split at h
   case h_2=>cases h
   rename_i jv nw;simp only[aA,Zbc,aF,Option.some.injEq]at h;obtain⟨rest,h1,rfl⟩:=h;have gi:(callG ρ G w s Z).bx b=(G.bx c).add off:=by simp only[callG,hp]
   rw[gi]at hf;have xy:=zo 0 _ rfl;rw[Zb9]at xy;obtain⟨c',kO,lv,kk,e1,e2,e3,e4⟩:=A.B.bx b false cs xy;rw[hp]at e1;obtain⟨rfl,rfl⟩:c=c'/\off=kO:=by simpa using e1
   rw[nw]at e2;obtain⟨rfl,rfl⟩:false=lv/\jv=kk:=by simpa using e2
   have qn:UIn ej nr (dR Z.deps (y0+i) (nr+q) (cs.map (·.2))).2.1:=fun k x hx=>hu k x (Zbn _ (Zbe _ hx))
   have sL:UIn ej nr rest:=fun k x hx=>hu k x (Zbn _ (Zbh _ hx))
   obtain⟨h2,h3,h4,h5,h6⟩:=Aa7 A (gd:=gd) (nb:=nb) (hs:=hs) (adn:=adn) hf.1 (by simp;omega) (fv.imp id fun e m y hm=>e m y (by simp only[Yam,cond_false];exact Zbe _ hm))
    (gb.imp id fun e=>e _ Zbu rfl) (fun j x hj=>hh j x (by
     simp only[owB,Zbg,if_false,gi];rw[Zbx (List.getElem?_eq_some_iff.1 hj).1];exact hj)) qn
   rw[Zbt]at h3;rw[h2]at h1
   have cq:=Aa5 ux (bs:=bs) (b:=b+1) (i:=i+cs.length) (q:=q+qC (cs.map (·.2))) a1d (by rw[<- Zb0,<- Zb0];exact h1) hf.2 (by omega)
    (fv.imp id fun e m y hm=>e m y (by simp only[Yam,cond_false];rw[Zb0];exact Zbh _ hm)) (gb.imp id fun e x hx=>e x (Zbn _ hx)) (fun j x hj=>by
     have:=hh (qC (cs.map (·.2))+j) x (by
      simp only[owB,Zbg,if_false,gi];rw[Zbw (by rw[h4];omega),h4,Ace];exact hj)
     rwa[<- Zb0]at this) sL
   obtain⟨h7,h8⟩:=cq;refine⟨fun k x hx=>?_,fun c2 rK=>?_⟩
   ·rcases List.mem_cons.1 hx with hx|hx
    ·obtain⟨rfl,rfl⟩:=Prod.mk.inj hx
     refine .inr ⟨c,jv,_,rfl,nw,rfl,kZ (by rw[h3];exact e3),fun hold=>?_⟩;obtain⟨qc,gR,tq⟩:=A.B.hR.box nw;simp only[Zbg,if_false]at gR;have hcn:c≠nb:=fun e=>by rw[e,ux]at nw;cases nw
     have a0j:(fF gd ρ G w s Z nr nb G'.own hs adn).bx c=G.bx c:=by simp only[fF,if_neg hcn]
     have jc:0<jv.length:=by have:=(e4 rfl).2;omega
     obtain⟨v0,z6,-,-⟩:=tq 0 _ (Zbf jc);have hlt:(G.bx c).block<w.heap.size:=by have:=Jas z6;rwa[add_block]at this
     obtain⟨h9,cL⟩:=A.B.boxes (gd:=gd) (nr:=nr) (nb:=nb) (hs:=hs) (adn:=adn) gR hlt;refine⟨by rw[a0j];exact qc,by rw[a0j,h9];rfl,fun j l hj=>?_⟩;rw[a0j];rw[iL (by rw[h3];exact e3)]at hj;split at hj
     ·rename_i hr
      obtain⟨v,ef,fW,jd⟩:=h5 _ l hj;rw[add_add,Aca,show off+(j-off)=j by omega]at ef fW;exact⟨v,ef,fW,jd⟩
     ·rename_i hr
      obtain⟨v,ef,fW,jd⟩:=tq j l hj;obtain⟨v',k7,mA⟩:=hold j l hj;rw[ef]at k7;obtain rfl:=Option.some.inj k7
      rcases cL with cL|⟨j2,cs2,a2m,ls2,c0,c1,e,fr,f1,f2,f3,f4,f5,f6,f7,f8,f9⟩
      ·exact⟨v,(fA (w:=w) (w':=w') (by rw[add_block];exact cL)).trans ef,(kS (w:=w) (w':=w') (by rw[add_block];exact cL)).trans fW,mA jd⟩
      ·
       have a4w:oH (0+b) Z.ptrs=some (c,off):=by rw[Aca];exact hp
       have ov:=rR A.B.hk.wr xy a4w;have f2':oH (0+j2) Z.ptrs=some (c,a2m):=by rw[Aca];exact f2
       have l8:=rR A.B.hk.wr f1 f2';rw[ov]at l8;have wu:b=j2:=by have:=Option.some.inj l8;omega
       subst wu;rw[hp]at f2;rw[xy]at f1;obtain⟨-,rfl⟩:c=c/\off=a2m:=by simpa using f2
       obtain rfl:cs=cs2:=by simpa using f1
       rw[h3]at hr
       have bd:∀ (ww:World) (cc:Array Value),ww.heap[(G.bx c).block]?=some (.cells cc e fr)->ww.cell? ((G.bx c).add j)=cc[(G.bx c).off+j]?/\ww.frozen? ((G.bx c).add j)=(fr.1<=(G.bx c).off+j&&(G.bx c).off+j<fr.2):=by
        intro ww cc hcc;have:=Wad (n:=j) qc;refine⟨?_,?_⟩
        ·unfold World.cell?
         rw[add_block,hcc];simp[this,Ta6]
        ·unfold World.frozen?
         rw[add_block,hcc];simp[Ta6]
       obtain⟨g1,g2⟩:=bd w c0 f6;obtain⟨g3,g4⟩:=bd w' c1 f7;refine⟨v,?_,by rw[g4,<- g2];exact fW,mA jd⟩;rw[g3,f9 _ (by omega),<- g1];exact ef
    ·rcases List.mem_append.1 hx with hx|hx
     ·rcases h6 k x hx with h9|⟨h9,-⟩
      ·exact .inl h9
      ·exfalso
       have:∀ (l:List BO) (y n:Nat),∀ z∈(dR Z.deps y n l).2.1,∃ r,z.1=kR r:=by
        intro l
        induction l with
        |nil=>intro y n z hz;simp[dR]at hz
        | cons t l ih =>
         intro y n z hz;simp only[dR]at hz
         rcases List.mem_append.1 hz with hz|hz
         ·cases t<;>simp[jU]at hz
          exact⟨n,by rw[hz]⟩
         ·exact ih _ _ z hz
       obtain⟨r,hr⟩:=this _ _ _ _ hx;rw[h9]at hr;exact fE hr
     ·exact h7 k x hx
   ·simp only[iX]at rK
    have e:(false==false)=true:=rfl;rw[e,cond_true,hp]at rK
    rcases List.mem_cons.1 rK with rfl|rK
    ·exact⟨_,Zbu⟩
    ·obtain⟨x,hx⟩:=h8 c2 rK
     exact⟨x,Zbn _ (Zbh _ hx)⟩
end
theorem Ia7 {f:Nat}{vs:List SV}:∀ {l:List (Nat×Sig)} {key:Nat} {s:Sig},Ia8 f vs l=some (key,s)->(key,s)∈l/\s.fn=f
 |[],key,s,h=>by simp[Ia8]at h
 | (k, t) :: l, key, s, h => by
  simp only[Ia8]at h
  revert h
  generalize hb:(Nat.beq t.fn f&&Ta4 t.params vs)=b;intro h
  cases b with
  | false =>
   rw[cond_false]at h;obtain⟨h1,h2⟩:=Ia7 h;exact⟨Zbn _ h1,h2⟩
  | true =>
   rw[cond_true]at h;obtain⟨rfl,rfl⟩:=Prod.mk.inj (Option.some.inj h);simp only[Zbd,Zb8]at hb;exact⟨Zbu,hb.1⟩
section
variable {E:Env} {F:bH} {σ:Nat->Option aS} {ρ:List D} {a:Act} {w:World} {G:Gh} {g:Option (aL×Bool)} {cf:Nat->List D->Option (List D)}
theorem Zas {l:aR}{s:SlR}(h:(yJ l).eval σ=some s):∀ z∈s.deps,Nal σ z.1 z.2:=by
 unfold yJ at h;split at h
 ·rename_i r
  simp only[aA,aT,Zbj]at h;split at h
  ·rename_i x m bc hk
   simp only[aF,Option.some.injEq]at h;subst h;intro z hz;simp only[Zbp]at hz;subst hz;exact⟨m,x,hk⟩
  ·simp only[aF,Option.some.injEq]at h
   subst h;simp
  ·cases h
 ·rename_i deps p nie x
  simp only[aA,Zbc]at h;obtain⟨ds,h1,h2⟩:=h;obtain⟨h3,h4,h5⟩:=jC h1;split at h2
  ·simp only[aF,Option.some.injEq]at h2
   subst h2;exact fun z hz=>(h4 z hz).2
  ·rename_i r k z cJ
   simp only[aA,aT,Zbj]at h2;split at h2
   ·simp only[aF,Option.some.injEq]at h2
    subst h2;intro z' xk;simp only[Zbp]at xk;subst xk;have:=h4 z (by simp);have e:=this.1;simp only[Zbp]at e;rw[e]at this;exact this.2
   ·cases h2
  ·simp only[aF,Option.some.injEq]at h2
   subst h2;exact fun z hz=>(h4 z hz).2
 ·cases h
def rtD:RT->Nat
 |.mu _ d _ _=>d
 |_=>0
def Aav:Nat->List RT->List Nat
 |_,[]=>[]
 |ν,.mu _ _ _ _::t=>ν::Aav (ν+1) t
 |ν,_::t=>Aav (ν+1) t
theorem Qax:∀ {rts:List RT} {gk j ν:Nat},(Aav gk rts)[j]?=some ν->∃ x:RT,(rts.filter wT)[j]?=some x/\gk<=ν/\rts[ν-gk]?=some x
 |[],gk,j,ν,h=>by simp[Aav]at h
 | x :: t, gk, j, ν, h => by
  have next:∀ {j:Nat},(Aav (gk+1) t)[j]?=some ν->∃ y:RT,(t.filter wT)[j]?=some y/\gk<=ν/\(x::t)[ν-gk]?=some y:=by
   intro j h;obtain⟨y,h1,h2,h3⟩:=Qax h;refine⟨y,h1,by omega,?_⟩;rw[show ν-gk=(ν-(gk+1))+1 by omega];simpa using h3
  cases x with
  | mu r d q X =>
   simp only[Aav]at h
   cases j with
   | zero =>
    simp only[Zbl,Option.some.injEq]at h;subst h;exact⟨.mu r d q X,by simp[wT,Ac6],Zbr _,by simp⟩
   | succ j =>
    obtain⟨y,h1,h2,h3⟩:=next (by simpa using h);exact⟨y,by simpa[wT,Ac6] using h1,h2,h3⟩
  | nil =>
   obtain⟨y,h1,h2,h3⟩:=next h;exact⟨y,by simpa[wT,Ac6] using h1,h2,h3⟩
  | own r d =>
   obtain⟨y,h1,h2,h3⟩:=next h;exact⟨y,by simpa[wT,Ac6] using h1,h2,h3⟩
theorem Qaw:∀ (rts:List RT) (gk:Nat),(Aav gk rts).length=(rts.filter wT).length
 |[],gk=>rfl
 |x::t,gk=>by cases x<;>simp[Aav,wT,Qaw t,Ac6]
theorem Fal:∀ (a b:List RT) (gk:Nat),Aav gk (a++b)=Aav gk a++Aav (gk+a.length) b
 |[],b,gk=>rfl
 | x :: a, b, gk => by
  have:=Fal a b (gk+1);rw[show gk+1+a.length=gk+(a.length+1) by omega]at this;cases x<;>simp[Aav,this]
def Ibu (σ:Nat->Option aS)(ρ:List D)(G:Gh)(w:World):RT->Prop
 |.nil=>True
 |.own r _=>∃ x m bc,σ (kR r)=some (.root x m bc .live)
 |.mu r d q X=>∃ m bc u,σ (kR r)=some (.root X m bc .live)/\q.length+d<=m/\zN G.own w r [] (G.hdr r) (bD ρ q) u
structure Yar (σ:Nat->Option aS) (A B:Take) (rn:List RT) (ms:List Nat) (mr:List Nat):Prop where
 rts:B.rts=A.rts++rn
 deps:∀ z∈B.deps,z∈A.deps\/Nal σ z.1 z.2
 ms:(rn.filter wT).map rtD=ms
 mr:Aav A.rts.length rn=mr
theorem Kay {A B:Take}{d:Nat}{l:aR}(h:(uV A d l).eval σ=some B):∃ rn,Yar σ A B rn [] []/\rn.length=1/\∀ x∈rn,Ibu σ ρ G w x:=by
 unfold uV at h;split at h
 ·rename_i r
  simp only[aA,aT,Zbj]at h;split at h
  ·rename_i x m bc hk
   simp only[aA,aK,Zbc,aF,Option.some.injEq]at h;obtain⟨_,-,rfl⟩:=h;refine⟨[.own r d],⟨rfl,fun z hz=>.inl hz,rfl,rfl⟩,rfl,fun y hy=>?_⟩;simp only[Zbp]at hy;subst hy;exact⟨x,m,bc,hk⟩
  ·cases h
 ·simp only[aF,Option.some.injEq]at h
  subst h;refine⟨[.nil],⟨rfl,fun z hz=>.inl hz,rfl,rfl⟩,rfl,fun y hy=>?_⟩;simp only[Zbp]at hy;subst hy;trivial
 ·cases h
theorem Ka1 {A B:Take}{nie:Bool}{l:aR}(h:(rH A nie l).eval σ=some B):Yar σ A B [] [] []:=by
 unfold rH at h;simp only[aA,Zbc,aF,Option.some.injEq]at h;obtain⟨s,h1,rfl⟩:=h;exact⟨by simp,fun z hz=>(List.mem_append.1 hz).imp id fun hz=>Zas h1 z hz,rfl,rfl⟩
theorem Was {A B:Take}{z:Nat}{l:aR}(h:(Hag A z l).eval σ=some B):Yar σ A B [] [] []:=by
 unfold Hag at h;split at h
 ·simp only[aA,Zbc,aF,Option.some.injEq]at h
  obtain⟨ds,h1,rfl⟩:=h;exact⟨by simp,fun z hz=>(List.mem_append.1 hz).imp id fun hz=>((jC h1).2.1 z hz).2,rfl,rfl⟩
 ·simp only[aF,Option.some.injEq]at h
  subst h;exact⟨by simp,fun z hz=>.inl hz,rfl,rfl⟩
 ·cases h
theorem Oa3 (P:Prop)(hR:P->R E.ntmps F σ ρ a w G){A B:Take}{t:LS}{l:aR}(h:(sZ g A t l).eval σ=some B)(hl:P->∃ v,aB σ ρ G w l v) :
  ∃ rn,Yar σ A B rn (dY [t]) (eQ A.rts.length [t])/\rn.length=t.rcnt/\(P->∀ x∈rn,Ibu σ ρ G w x):=by
 unfold sZ at h;split at h
 ·simp only[Oa0,aA,Zbc,aF,Option.some.injEq]at h
  obtain⟨x,-,rfl⟩:=h;exact⟨[],⟨by simp,fun z hz=>.inl hz,rfl,rfl⟩,rfl,by simp⟩
 ·exact⟨[],Ka1 h,rfl,by simp⟩
 ·rename_i _ d
  unfold Kaz at h;simp only[aA,Zbc]at h;obtain⟨sl,h1,h⟩:=h;split at h
  case h_2=>cases h
  rename_i r k m q ho;simp only[aA,aK,aT,Zbj,Zbc]at h;obtain⟨_,h2,h⟩:=h;split at h2
  case isFalse=>cases h2
  rename_i hb;simp only[Acr]at hb;split at h
  case h_2=>cases h
  rename_i X m' v' oi;simp only[aF,Option.some.injEq]at h;subst h;refine⟨[.mu r d q X],⟨rfl,fun z hz=>.inl hz,rfl,rfl⟩,rfl,fun hP y hy=>?_⟩;simp only[Zbp]at hy;subst hy;obtain⟨v,hv⟩:=hl hP;have a7:=(dX (hR hP) h1 hv).own;unfold vH at a7;rw[ho]at a7;obtain⟨h3,⟨x,h4⟩,h5,h6,h7⟩:=a7;rw[oi]at h4
  obtain⟨rfl,rfl,rfl⟩:X=x/\m'=m/\v'=k:=by
   have:=Option.some.inj h4
   injection this with e1 e2 e3
   exact⟨e1,e2,e3⟩
  exact⟨_,_,_,oi,hb,h7⟩
 ·obtain⟨rn,h1,h2,h3⟩:=Kay (ρ:=ρ) (G:=G) (w:=w) h
  exact⟨rn,h1,h2,fun _=>h3⟩
 ·simp only[aF,Option.some.injEq]at h
  subst h;exact⟨[],⟨by simp,fun z hz=>.inl hz,rfl,rfl⟩,rfl,by simp⟩
 ·split at h
  ·rw[iA]at h
   split at h
   ·simp only[aF,Option.some.injEq]at h
    subst h;exact⟨[],⟨by simp,fun z hz=>.inl hz,rfl,rfl⟩,rfl,by simp⟩
   ·cases h
  ·cases h
 ·exact⟨[],Was h,rfl,by simp⟩
 ·cases h
theorem Yar.trans {A B C:Take}{rn sb:List RT}{ms ms' mr sr:List Nat}(h:Yar σ A B rn ms mr)(h':Yar σ B C sb ms' sr):Yar σ A C (rn++sb) (ms++ms') (mr++sr):=by
 refine⟨by rw[h'.rts,h.rts,Zbm],fun z hz=>?_,by rw[List.filter_append,List.map_append,h.ms,h'.ms],?_⟩
 ·rcases h'.deps z hz with h1|h1
  ·exact h.deps z h1
  ·exact .inr h1
 ·rw[Fal,h.mr]
  have:=h'.mr;rw[h.rts,Zbi]at this;rw[this]
theorem tY (t:LS)(ss:List LS):dY (t::ss)=dY [t]++dY ss:=by cases t<;>rfl
theorem wP (t:LS)(ss:List LS)(r:Nat):eQ r (t::ss)=eQ r [t]++eQ (r+t.rcnt) ss:=by cases t<;>rfl
theorem wQ:∀ (x y:List LS),dY (x++y)=dY x++dY y
 |[],y=>rfl
 |t::x,y=>by rw[Bch,tY,tY t x,wQ x y,Zbm]
theorem zV:∀ (x y:List LS) (r:Nat),eQ r (x++y)=eQ r x++eQ (r+kF x) y
 |[],y,r=>rfl
 | t :: x, y, r => by
  rw[Bch,wP,wP t x,zV x y,Zbm];simp only[kF,Zb0]
theorem zQ (P:Prop)(hR:P->R E.ntmps F σ ρ a w G):∀ {ss:List LS} {ls:List aR} {A B:Take},(dI g A ss ls).eval σ=some B->(P->∃ vs,aG σ ρ G w ls vs) ->
  ∃ rn,Yar σ A B rn (dY ss) (eQ A.rts.length ss)/\rn.length=kF ss/\(P->∀ x∈rn,Ibu σ ρ G w x)
 | [], [], A, B, h, _ => by
  simp only[dI,aF,Option.some.injEq]at h;subst h;exact⟨[],⟨by simp,fun z hz=>.inl hz,rfl,rfl⟩,rfl,by simp⟩
 |[],_::_,A,B,h,_=>by simp[dI,bQ]at h
 |_::_,[],A,B,h,_=>by simp[dI,bQ]at h
 | t :: ss, l :: ls, A, B, h, hl => by
  simp only[dI,aA,Zbc]at h;obtain⟨C,h1,h2⟩:=h
  obtain⟨rn,h3,h4,h5⟩:=Oa3 P hR h1 (fun hP=>by
   obtain⟨vs,hv⟩:=hl hP;simp only[aG]at hv;obtain⟨u,us,-,hu,-⟩:=hv;exact⟨u,hu⟩)
  obtain⟨sb,h6,h7,h8⟩:=zQ P hR h2 (fun hP=>by
   obtain⟨vs,hv⟩:=hl hP;simp only[aG]at hv;obtain⟨u,us,-,-,hu⟩:=hv;exact⟨us,hu⟩)
  have:=h3.trans h6;rw[h3.rts,Zbi,h4,<- wP,<- tY]at this;exact⟨rn++sb,this,by simp[h4,h7,kF],fun hP x hx=>(List.mem_append.1 hx).elim (h5 hP x) (h8 hP x)⟩
theorem vO (P:Prop)(hR:P->R E.ntmps F σ ρ a w G):∀ {ps:List (Bool×List LS)} {vs:List SV} {A B:Take},(fC g A ps vs).eval σ=some B->(P->∃ us,sP σ ρ G w vs us) ->
  ∃ rn,Yar σ A B rn (dY (ps.flatMap (·.2))) (eQ A.rts.length (ps.flatMap (·.2)))/\rn.length=jL ps/\(P->∀ x∈rn,Ibu σ ρ G w x)
 | [], [], A, B, h, _ => by
  simp only[fC,aF,Option.some.injEq]at h;subst h;exact⟨[],⟨by simp,fun z hz=>.inl hz,rfl,rfl⟩,rfl,by simp⟩
 |[],_::_,A,B,h,_=>by simp[fC,bQ]at h
 |_::_,[],A,B,h,_=>by simp[fC,bQ]at h
 | (ag, ss) :: ps, v :: vs, A, B, h, hl => by
  simp only[fC,aA,Zbc,aW]at h;obtain⟨ls,h0,C,h1,h2⟩:=h
  obtain⟨rn,h3,h4,h5⟩:=zQ P hR h1 (fun hP=>by
   obtain⟨us,u,cW,rfl,hu,-⟩:=hl hP;exact⟨_,iN h0 hu⟩)
  obtain⟨sb,h6,h7,h8⟩:=vO P hR h2 (fun hP=>by
   obtain⟨us,u,cW,rfl,-,hu⟩:=hl hP;exact⟨cW,hu⟩)
  have:=h3.trans h6;rw[h3.rts,Zbi,h4,<- zV,<- wQ]at this;exact⟨rn++sb,by rw[List.flatMap_cons];exact this,by simp[h4,h7,jL],fun hP x hx=>(List.mem_append.1 hx).elim (h5 hP x) (h8 hP x)⟩
theorem Bah:∀ {ss:List (BS×BO)} {ls:List aR} {A B:Take},(eG A ss ls).eval σ=some B->∃ rn,Yar σ A B rn [] []/\∀ x∈rn,Ibu σ ρ G w x
 | [], ls, A, B, h => by
  simp only[eG,aF,Option.some.injEq]at h;subst h;exact⟨[],⟨by simp,fun z hz=>.inl hz,rfl,rfl⟩,by simp⟩
 |_::_,[],A,B,h=>by simp[eG,bQ]at h
 | (t, o) :: ss, l :: ls, A, B, h => by
  simp only[eG,aA,Zbc]at h;obtain⟨C,h1,h2⟩:=h;obtain⟨sb,h6,h8⟩:=Bah h2
  have key:∃ rn,Yar σ A C rn [] []/\∀ x∈rn,Ibu σ ρ G w x:=by
   have hinv:=pY h1;clear h1
   rcases hinv with ⟨x,rfl,rfl,rfl⟩|⟨nie,rfl,h⟩|⟨d,rfl,h⟩|⟨rfl,-,rfl⟩
   ·exact⟨[],⟨by simp,fun z hz=>.inl hz,rfl,rfl⟩,by simp⟩
   ·exact⟨[],Ka1 h,by simp⟩
   ·obtain⟨rn,h3,-,h5⟩:=Kay (ρ:=ρ) (G:=G) (w:=w) h
    exact⟨rn,h3,h5⟩
   ·exact⟨[],⟨by simp,fun z hz=>.inl hz,rfl,rfl⟩,by simp⟩
  obtain⟨rn,h3,h5⟩:=key;exact⟨rn++sb,h3.trans h6,fun x hx=>(List.mem_append.1 hx).elim (h5 x) (h8 x)⟩
theorem tC {ptrs:List (Nat×Nat×Nat)}:∀ {bs:List (Bool×List (BS×BO))} {b:Nat} {A B:Take},(eY ptrs A b bs).eval σ=some B->∃ rn,Yar σ A B rn [] []/\∀ x∈rn,Ibu σ ρ G w x
 | [], b, A, B, h => by
  simp only[eY,aF,Option.some.injEq]at h;subst h;exact⟨[],⟨by simp,fun z hz=>.inl hz,rfl,rfl⟩,by simp⟩
 | (ro, cs) :: bs, b, A, B, h => by
  simp only[eY]at h;split at h
  case h_2=>cases h
  simp only[aA,aT,Zbj]at h;split at h
  case h_2=>cases h
  simp only[aA,aK,Zbc]at h;obtain⟨_,-,C,h1,h2⟩:=h;obtain⟨rn,h3,h5⟩:=Bah (ρ:=ρ) (G:=G) (w:=w) h1;obtain⟨sb,h6,h8⟩:=tC h2;exact⟨rn++sb,h3.trans h6,fun x hx=>(List.mem_append.1 hx).elim (h5 x) (h8 x)⟩
theorem yQ (hg:gOn ρ g=true):∀ {rts:List RT} {y nv:Nat} {ml:List Step} {mu:List (Nat×aS)},(zW y nv rts).eval σ=some (ml,mu)->aN cf ρ g nv ml ->
  (∀ k c,(k,c)∈mu->∃ (j r d:Nat) (q:List (aL×Nat×Nat)) (X X0:aL) (m bc:Nat) (X':aL),(rts.filter wT)[j]?=some (RT.mu r d q X)/\k=kR r/\c=.root X' m (bc+1) .live/\σ (kR r)=some (.root X0 m bc .live)/\(q.length+d=m\/oZ d ((aL.v (y+j)).val ρ)=true)/\Upd (bD ρ q) (X.val ρ) ((aL.v (y+j)).val ρ) (X'.val ρ))
 | [], y, nv, ml, mu, h, _ => by
  simp only[zW,aF,Option.some.injEq,Prod.mk.injEq]at h;obtain⟨rfl,rfl⟩:=h;simp
 | .nil :: t, y, nv, ml, mu, h, aE => by
  have:=yQ hg (rts:=t) h aE;simpa[wT,Ac6] using this
 | .own r d :: t, y, nv, ml, mu, h, aE => by
  have:=yQ hg (rts:=t) h aE;simpa[wT,Ac6] using this
 | .mu r d q X :: t, y, nv, ml, mu, h, aE => by
  simp only[zW,aA,aT,Zbj]at h;split at h
  case h_2=>cases h
  rename_i X0 m bc hk;simp only[aA,Zbc,aF,Option.some.injEq,Prod.mk.injEq]at h;obtain⟨⟨ls,us⟩,h1,rfl,rfl⟩:=h;obtain⟨hs0,a2e⟩:=aN.append aE
  obtain⟨hfd,hn0⟩:(q.length+d=m\/oZ d ((aL.v y).val ρ)=true)/\bI (bif Nat.beq (q.length+d) m then [] else [Step.prim (.dep d) [.v y] 0])=0:=by
   cases hb:Nat.beq (q.length+d) m with
   |true=>exact⟨.inl (Nat.eq_of_beq_eq_true hb),rfl⟩
   | false =>
    rw[hb,cond_false]at hs0;obtain⟨ds,h1,-,-⟩:=hs0.1.1 hg;simp only[Zb5,Acb,aU.run]at h1;split at h1
    ·rename_i hf;exact⟨.inr hf,rfl⟩
    ·cases h1
  rw[hn0,Zb9]at a2e;obtain⟨oB,ll⟩:=aN.append a2e;have cq:=yQ hg h1 ll;intro k c hc
  rcases List.mem_cons.1 hc with hc|hc
  ·obtain⟨rfl,rfl⟩:=Prod.mk.inj hc
   exact⟨0,r,d,q,X,X0,m,bc,_,by simp[wT,Ac6],rfl,rfl,hk,hfd,Cad hg q nv X (.v y) oB⟩
  ·obtain⟨j,r',d',q',X',X1,m',vj,X2,h2,h3,h4,h5,u5,h6⟩:=cq k c hc
   exact⟨j+1,r',d',q',X',X1,m',vj,X2,by simpa[wT,Ac6] using h2,h3,h4,h5,by rw[show y+(j+1)=y+1+j by omega];exact u5,by rw[show y+(j+1)=y+1+j by omega];exact h6⟩
theorem yR:∀ {rts:List RT} {y nv:Nat} {ml:List Step} {mu:List (Nat×aS)},(zW y nv rts).eval σ=some (ml,mu)->∀ r,r∈cK rts->(∃ c,(kR r,c)∈mu)\/∃ c,(kR r,c)∈gJ rts
 |[],y,nv,ml,mu,h,r,hr=>by simp[cK]at hr
 |.nil::t,y,nv,ml,mu,h,r,hr=>yR (rts:=t) h r hr
 | .own s d :: t, y, nv, ml, mu, h, r, hr => by
  simp only[cK,Acf]at hr
  rcases hr with rfl|hr
  ·exact .inr ⟨_,by simp only[gJ];exact Zbu⟩
  ·exact (yR (rts:=t) h r hr).imp id fun ⟨c,hc⟩=>⟨c,by simp only[gJ];exact Zbn _ hc⟩
 | .mu s d q X :: t, y, nv, ml, mu, h, r, hr => by
  simp only[zW,aA,aT,Zbj]at h;split at h
  case h_2=>cases h
  simp only[aA,Zbc,aF,Option.some.injEq,Prod.mk.injEq]at h;obtain⟨⟨ls,us⟩,h1,rfl,rfl⟩:=h;simp only[cK,Acf]at hr
  rcases hr with rfl|hr
  ·exact .inl ⟨_,Zbu⟩
  ·exact (yR h1 r hr).imp (fun ⟨c,hc⟩=>⟨c,Zbn _ hc⟩) id
theorem lG:∀ {rts:List RT} {k:Nat} {c:aS},(k,c)∈gJ rts->∃ r,k=kR r/\c=.root (.c .hole) 0 0 .gone
 |[],k,c,h=>by simp[gJ]at h
 |.nil::t,k,c,h=>lG (rts:=t) h
 |.mu s d q X::t,k,c,h=>lG (rts:=t) h
 | .own s d :: t, k, c, h => by
  simp only[gJ,Acf,Prod.mk.injEq]at h
  rcases h with ⟨rfl,rfl⟩|h
  ·exact⟨s,rfl,rfl⟩
  ·exact lG h
end
theorem xQ {deps:List (Nat×Nat)}:∀ (cs:List BO) (y n:Nat),(dR deps y n cs).2.2=n+qC cs/\∀ k c,(k,c)∈(dR deps y n cs).2.1->∃ r y m,n<=r/\k=kR r/\c=.root (.v y) m 0 .live
 |[],y,n=>⟨rfl,by simp[dR]⟩
 | t :: cs, y, n => by
  have hb:(jU deps y n t).2.2=n+t.q/\∀ k c,(k,c)∈(jU deps y n t).2.1->∃ r y m,n<=r/\k=kR r/\c=.root (.v y) m 0 .live:=by
   cases t<;>refine⟨rfl,fun k c hc=>?_⟩<;>simp[jU]at hc
   exact⟨n,y,_,Zbr _,hc.1,hc.2⟩
  obtain⟨h1,h2⟩:=hb;simp only[dR];rw[h1];obtain⟨h3,h4⟩:=xQ (deps:=deps) cs (y+1) (n+t.q);refine⟨by rw[h3];simp only[qC];omega,fun k c hc=>?_⟩
  rcases List.mem_append.1 hc with hc|hc
  ·exact h2 k c hc
  ·obtain⟨r,y',m,h5,h6,h7⟩:=h4 k c hc
   exact⟨r,y',m,by omega,h6,h7⟩
theorem Pa0 {gd:Bool}{deps:List (Nat×Nat)}{nb:Nat}(t:LR)(y n:Nat):(cZ gd deps nb y n t).2.2=n+t.q/\∀ k c,(k,c)∈(cZ gd deps nb y n t).2.1->(∃ r y m,n<=r/\k=kR r/\c=.root (.v y) m 0 .live)\/(k=kB nb/\∃ ls,c=.box false ls):=by
 cases t with
 | bx cs =>
  obtain⟨h3,h4⟩:=xQ (deps:=deps) cs y n;simp only[cZ];refine⟨h3,fun k c hc=>?_⟩
  rcases List.mem_cons.1 hc with hc|hc
  ·obtain⟨rfl,rfl⟩:=Prod.mk.inj hc
   exact .inr ⟨rfl,_,rfl⟩
  ·exact .inl (h4 k c hc)
 | ow m =>
  cases gd with
  |true=>exact⟨rfl,by simp[cZ]⟩
  | false =>
   refine⟨rfl,fun k c hc=>?_⟩;simp[cZ]at hc;exact .inl ⟨n,y,m,Zbr _,hc.1,hc.2⟩
 |_=>exact⟨rfl,by simp[cZ]⟩
theorem zT {gd:Bool}{deps:List (Nat×Nat)}{nb:Nat}:∀ (ss:List LR) (y n:Nat),(dN gd deps nb y n ss).2.2=n+qL ss/\∀ k c,(k,c)∈(dN gd deps nb y n ss).2.1->(∃ r y m,n<=r/\k=kR r/\c=.root (.v y) m 0 .live)\/(k=kB nb/\∃ ls,c=.box false ls)
 |[],y,n=>⟨rfl,by simp[dN]⟩
 | t :: ss, y, n => by
  obtain⟨h1,h2⟩:=Pa0 (gd:=gd) (deps:=deps) (nb:=nb) t y n;simp only[dN];rw[h1];obtain⟨h3,h4⟩:=zT (gd:=gd) (deps:=deps) (nb:=nb) ss (y+t.n) (n+t.q);refine⟨by rw[h3];simp only[qL];omega,fun k c hc=>?_⟩
  rcases List.mem_append.1 hc with hc|hc
  ·exact h2 k c hc
  ·exact (h4 k c hc).imp (fun ⟨r,y',m,h5,h6⟩=>⟨r,y',m,by omega,h6⟩) id
theorem Ha2 {gd:Bool}{deps:List (Nat×Nat)}{nb:Nat}:∀ (rs:List (Bool×List LR)) (y n:Nat),(jF gd deps nb y n rs).2.2=n+qR rs/\∀ k c,(k,c)∈(jF gd deps nb y n rs).2.1->(∃ r y m,n<=r/\k=kR r/\c=.root (.v y) m 0 .live)\/(k=kB nb/\∃ ls,c=.box false ls)
 |[],y,n=>⟨rfl,by simp[jF]⟩
 | (ag, ss) :: rs, y, n => by
  obtain⟨h1,h2⟩:=zT (gd:=gd) (deps:=deps) (nb:=nb) ss y n;simp only[jF];rw[h1];obtain⟨h3,h4⟩:=Ha2 (gd:=gd) (deps:=deps) (nb:=nb) rs (y+mZ ss) (n+qL ss);refine⟨by rw[h3];simp only[qR];omega,fun k c hc=>?_⟩
  rcases List.mem_append.1 hc with hc|hc
  ·exact h2 k c hc
  ·exact (h4 k c hc).imp (fun ⟨r,y',m,h5,h6⟩=>⟨r,y',m,by omega,h6⟩) id
theorem xP {σ:Nat->Option aS}{ptrs:List (Nat×Nat×Nat)}{deps:List (Nat×Nat)}:∀ {bs:List (Bool×List (BS×BO))} {b y n:Nat} {bu:List (Nat×aS)},(lX ptrs deps b y n bs).eval σ=some bu ->
  ∀ k c,(k,c)∈bu->(∃ r y m,n<=r/\k=kR r/\c=.root (.v y) m 0 .live)\/(∃ c0 jv ls,k=kB c0/\σ (kB c0)=some (.box false jv)/\c=.box false ls)
 | [], b, y, n, bu, h => by
  simp only[lX,aF,Option.some.injEq]at h;subst h;simp
 | (ro, cs) :: bs, b, y, n, bu, h => by
  simp only[lX]at h
  cases ro with
  |true=>exact xP (bs:=bs) h
  | false =>
   simp only[cond_false]at h;split at h
   case h_2=>cases h
   simp only[aA,aT,Zbj]at h;split at h
   case h_2=>cases h
   rename_i jv nw;simp only[aA,Zbc,aF,Option.some.injEq]at h;obtain⟨rest,h1,rfl⟩:=h;obtain⟨h3,h4⟩:=xQ (deps:=deps) (cs.map (·.2)) y n;rw[h3]at h1;intro k c hc
   rcases List.mem_cons.1 hc with hc|hc
   ·obtain⟨rfl,rfl⟩:=Prod.mk.inj hc
    exact .inr ⟨_,_,_,rfl,nw,rfl⟩
   ·rcases List.mem_append.1 hc with hc|hc
    ·exact .inl (h4 k c hc)
    ·exact (xP h1 k c hc).imp (fun ⟨r,y',m,h5,h6⟩=>⟨r,y',m,by omega,h6⟩) id
theorem Mak {own:Nat->Ow}{w:World}{ds:List D}{gh:Nat->Value}:∀ {ms:List Nat} {i j k d:Nat},Wai own w ds gh i j ms->ms[k]?=some d->Rp own w (2*(j+k)+1) [] d (gh (j+k)) (ds.getD (i+k) .undef)
 |[],i,j,k,d,_,h=>by simp at h
 | e :: ms, i, j, 0, d, h, hk => by
  simp only[Zbl,Option.some.injEq]at hk;subst hk;exact h.1
 | e :: ms, i, j, k + 1, d, h, hk => by
  have:=Mak h.2 (k:=k) (by simpa using hk);rw[show j+(k+1)=j+1+k by omega,show i+(k+1)=i+1+k by omega];exact this
theorem iP.len {σ:Nat->Option aS}{ρ:List D}{G:Gh}{w:World}:∀ {ts:List (Bool×List aR)} {us:List Value},iP σ ρ G w ts us->us.length=ts.length
 |[],us,h=>by simp only[iP]at h;subst h;rfl
 | (a, ls) :: r, us, h => by
  obtain⟨u,cW,vs,rfl,-,-,h3⟩:=h;simp[iP.len h3]
theorem Zaq {σ:Nat->Option aS}{ρ:List D}{G:Gh}{w:World}{g:Option (aL×Bool)}(hg:gOn ρ g=true){rs:List (Bool×List aR)}{us:List Value}(h:iP σ ρ G w rs us):cB σ ρ G w (Ba2 g rs) (Fab us):=by
 unfold Ba2;split
 ·rename_i x
  obtain⟨u,cW,vs,rfl,h1,h2,h3⟩:=h;simp only[iP]at h3;subst h3;simp only[Zbg,if_false]at h2;subst h2;simp only[aG,List.cons.injEq]at h1;obtain⟨u',cW,⟨rfl,rfl⟩,h4,-⟩:=h1;simp only[aB]at h4;simp only[Fab]
  cases g with
  |none=>simp only[mkS,cB,aB];exact h4
  |some z=>simp only[mkS,cB,aB];exact⟨.inl h4,fun _=>h4⟩
 ·rename_i l _
  obtain⟨u,cW,vs,rfl,h1,h2,h3⟩:=h;simp only[iP]at h3;subst h3;simp only[Zbg,if_false]at h2;subst h2;simp only[aG,List.cons.injEq]at h1;obtain⟨u',cW,⟨rfl,rfl⟩,h4,-⟩:=h1;simp only[Fab,cB];exact h4
 ·rename_i ls
  obtain⟨u,cW,vs,rfl,h1,h2,h3⟩:=h;simp only[iP]at h3;subst h3;simp only[if_true]at h2;simp only[Fab,cB];exact⟨vs,h2,h1⟩
 ·rename_i _ h1 h2 h3
  simp only[cB]
  match us,rs,h with
  |[],[],h=>exact⟨[],rfl,h⟩
  | [u], [(a, ls)], h =>
   exfalso;obtain⟨u',cW,vs,e,h4,h5,h6⟩:=h;obtain⟨rfl,rfl⟩:=List.cons.inj e
   cases a with
   |true=>exact h3 ls rfl
   | false =>
    simp only[Zbg,if_false]at h5;subst h5;have:=h4.len
    match ls,this with
    |[l],_=>exact h2 l rfl
  |u::u'::us,r::r'::rs,h=>exact⟨_,rfl,h⟩
  |[],_::_,h=>have:=h.len;simp at this
  |[_],[],h=>have:=h.len;simp at this
  |[_],_::_::_,h=>have:=h.len;simp at this
  |_::_::_,[],h=>have:=h.len;simp at this
  |_::_::_,[_],h=>have:=h.len;simp at this
theorem uN {σ:Nat->Option aS}{ptrs:List (Nat×Nat×Nat)}:∀ {bs:List (Bool×List (BS×BO))} {b:Nat} {xs:List aL},(iY ptrs b bs).eval σ=some xs->∀ x∈bs,x.1=false->Sa7 (x.2.map (·.2))=true
 |[],b,xs,h,x,hx,_=>by simp at hx
 | (ro, cs) :: bs, b, xs, h, x, hx, sk => by
  simp only[iY]at h
  cases ro with
  | true =>
   simp only[cond_true]at h
   rcases List.mem_cons.1 hx with rfl|hx
   ·cases sk
   ·exact uN h x hx sk
  | false =>
   simp only[cond_false]at h;split at h
   case h_2=>cases h
   simp only[aA,aT,Zbj]at h;split at h
   case h_2=>cases h
   simp only[aA,Zbc,aF,Option.some.injEq]at h;obtain⟨l,h1,m,h2,-⟩:=h
   rcases List.mem_cons.1 hx with rfl|hx
   ·clear h2
    rename_i jv _;generalize jv.drop _=ls at h1;dsimp only;clear hx sk
    induction cs generalizing ls l with
    |nil=>rfl
    | cons t cs ih =>
     obtain⟨s,o⟩:=t
     cases ls with
     |nil=>simp[kP,bQ]at h1
     | cons x ls =>
      simp only[kP,aA,Zbc]at h1;obtain⟨y,h3,r,h4,-⟩:=h1;have:=ih _ _ h4
      cases o with
      |ow m=>cases s<;>simp[bQ]at h3
      |_=>simpa[Sa7] using this
   ·exact uN h2 x hx sk
def Yad (o:Oper)(g:Option (aL×Bool))(rs:List (Bool×List aR)):List (Nat×aS):=match o.dst with
 |some d=>[(kT d,.slot (Fbu g (Ba2 g rs)) (Ba2 g rs))]
 |none=>[]
section
variable {E:Env} {F:bH} {σ:Nat->Option aS} {ρ:List D} {a:Act} {w w':World} {G:Gh} {g:Option (aL×Bool)} {cf:Nat->List D->Option (List D)} {o:Oper} {s:Sig} {T Z:Take} {nb nr y0 nvm:Nat}
theorem Daa {rs:List (Bool×List aR)}:Yad o g rs=dW o (Fbu g (Ba2 g rs)) (Ba2 g rs):=rfl
theorem Cbl (hR:R E.ntmps F σ ρ a w G)(hg:gOn ρ g=true)(hd:fG E.ntmps o)(hf:Dao σ nb nr){vs:List SV}{us0:List Value}(u6:sP σ ρ G w vs us0)
  (hT:(fC g Take.empty s.params vs).eval σ=some T) (hZ:(eY T.ptrs T 0 s.boxes).eval σ=some Z) (hk:Mah s Z) (a1x:kU s.results<=1)
  (gb:noG g=true\/(kU s.results=0/\∃ olds,(iY Z.ptrs 0 s.boxes).eval σ=some olds))
  {rs:List (Bool×List aR)} {us bu mu:List (Nat×aS)} {yg:Nat} {ml:List Step} {ds:List D} (jt:jF (!noG g) Z.deps nb y0 nr s.results=(rs,us,yg))
  (rr:(lX Z.ptrs Z.deps 0 (y0+bL s.results+(Z.rts.filter wT).length) yg s.boxes).eval σ=some bu) {nv1:Nat} (yj:(zW (y0+bL s.results) nv1 Z.rts).eval σ=some (ml,mu))
  (hlen:ds.length=bL s.results+(Z.rts.filter wT).length+eO s.boxes) (dv:∀ j d,ds[j]?=some d->(aL.v (y0+j)).val ρ=d)
  (qh:Z.deps=[]\/Ra3 ρ (Cbf y0 s.results++Cbg (y0+bL s.results) Z.rts++Yam (y0+bL s.results+(Z.rts.filter wT).length) s.boxes)) (tI:aN cf ρ g nv1 ml)
  (lg:(Yad o g rs++(us++bu++mu++gJ Z.rts)).all (fun x=>zH E.ntmps nb nr x.1)=true)
  {v:Value} (pc:Oaq s (pK s (callG ρ G w s Z) w) (callG ρ G w s Z).bx v w' ds) :
  ∃ G2,R E.ntmps F (upds σ (Yad o g rs++(us++bu++mu++gJ Z.rts))) ρ (a.put o.dst v) w' G2:=by
 obtain⟨G',cW,rfl,hF,a1n,a7w,k9⟩:=pc;obtain⟨hle1,pT,ya⟩:=kX hZ;rw[<- pT]at ya;obtain⟨rn,uv,hn2,hn3⟩:=vO True (fun _=>hR) hT (fun _=>⟨us0,u6⟩);obtain⟨sb,hn4,hn5⟩:=tC (ρ:=ρ) (G:=G) (w:=w) hZ;have gw:=uv.trans hn4;have sC:Z.rts=rn++sb:=by have:=gw.rts;simpa[Take.empty] using this
 have sT:∀ x∈Z.rts,Ibu σ ρ G w x:=by
  rw[sC];exact fun x hx=>(List.mem_append.1 hx).elim (hn3 trivial x) (hn5 x)
 have xz:(Z.rts.filter wT).map rtD=dY (s.params.flatMap (·.2)):=by
  have:=gw.ms;rw[<- sC,Zb4]at this;exact this
 have qi:Aav 0 Z.rts=eQ 0 (s.params.flatMap (·.2)):=by
  have:=gw.mr;rw[<- sC,Zb4]at this;exact this
 have qq:∀ z∈Z.deps,Nal σ z.1 z.2:=fun z hz=>by
  rcases gw.deps z hz with h|h
  ·simp[Take.empty]at h
  ·exact h
 have B:Ra4 E F σ ρ a w G s Z G' w':=by
  refine⟨hR,hk,hF,fun j ro cs hj=>by have:=ya j ro cs hj;rwa[Aca]at this,qq,fun ν r d q X uq=>?_,fun ν r d uq=>?_⟩
  ·obtain⟨m,bc,u,h1,h2,h3⟩:=sT _ (Zbv uq)
   exact⟨m,bc,u,h1,h2,h3⟩
  ·obtain⟨x,m,bc,h1⟩:=sT _ (Zbv uq)
   exact⟨x,m,bc,h1⟩
 generalize hU:Yad o g rs++(us++bu++mu++gJ Z.rts)=U at lg ⊢
 let hs:=owR w' s.results cW++owB w' (callG ρ G w s Z).bx 0 s.boxes
 let adn:=(Jau s.results cW).headD ⟨0,0,none⟩
 let G2:=fF (!noG g) ρ G w s Z nr nb G'.own hs adn
 have yx:∀ k c,(k,c)∈U->(k,c)∈Yad o g rs\/(k,c)∈us\/(k,c)∈bu\/(k,c)∈mu\/(k,c)∈gJ Z.rts:=by
  intro k c hc;rw[<- hU]at hc
  rcases List.mem_append.1 hc with hc|hc
  ·exact .inl hc
  ·rcases List.mem_append.1 hc with hc|hc
   ·rcases List.mem_append.1 hc with hc|hc
    ·rcases List.mem_append.1 hc with hc|hc
     ·exact .inr (.inl hc)
     ·exact .inr (.inr (.inl hc))
    ·exact .inr (.inr (.inr (.inl hc)))
   ·exact .inr (.inr (.inr (.inr hc)))
 have hUdst:∀ z∈Yad o g rs,z∈U:=fun z hz=>by rw[<- hU];exact Zbe _ hz
 have a7e:∀ z∈us,z∈U:=fun z hz=>by rw[<- hU];exact Zbh _ (Zbe _ (Zbe _ (Zbe _ hz)))
 have a2i:∀ z∈bu,z∈U:=fun z hz=>by rw[<- hU];exact Zbh _ (Zbe _ (Zbe _ (Zbh _ hz)))
 have a62:∀ z∈mu,z∈U:=fun z hz=>by rw[<- hU];exact Zbh _ (Zbe _ (Zbh _ hz))
 have a4x:∀ z∈gJ Z.rts,z∈U:=fun z hz=>by rw[<- hU];exact Zbh _ (Zbh _ hz)
 have a27:∀ k c,(k,c)∈U->zH E.ntmps nb nr k=true:=fun k c hc=>by
  rw[Zb6]at lg;exact lg _ hc
 obtain⟨th,td⟩:=Ha2 (gd:=!noG g) (deps:=Z.deps) (nb:=nb) s.results y0 nr;rw[jt]at th td;dsimp only at th td;subst th;have a7i:=xP rr;have qb:=yQ hg yj tI;have pw:∀ r c,(kR r,c)∈U->nr<=r->σ (kR r)=none:=fun r c hc hr=>hf.nr r hr (Ead (a27 _ _ hc))
 have xf:∀ k c,(k,c)∈Yad o g rs->∃ d,o.dst=some d/\k=kT d/\c=.slot (Fbu g (Ba2 g rs)) (Ba2 g rs):=fun k c hc=>by
  rw[Daa]at hc;exact yX hc
 have eu:Fr σ G w (upds σ U) G2 w':=by
  refine Fr.of (fun b hb hlt=>B.frz hb hlt) (fun r b p gp hb=>?_) (fun r c hc gj=>?_) (fun r x m k hkz b p hb=>?_) (fun r hr=>?_) (fun b hb=>?_)
  ·refine B.other (fun hr=>?_) hb
   rcases yR yj r hr with ⟨c,hc⟩|⟨c,hc⟩
   ·exact gp c (a62 _ hc)
   ·exact gp c (a4x _ hc)
  ·rcases yx _ _ hc with h|h|h|h|h
   ·obtain⟨d,-,e,-⟩:=xf _ _ h
    exact absurd e.symm iU
   ·rcases td _ _ h with ⟨r',y,m,h1,h2,rfl⟩|⟨h1,-⟩
    ·obtain rfl:=eZ h2
     exact .inl ⟨pw r _ hc h1,_,_,_,_,rfl⟩
    ·exact absurd h1.symm fE
   ·rcases a7i _ _ h with ⟨r',y,m,h1,h2,rfl⟩|⟨c0,jv,ls,h1,-⟩
    ·obtain rfl:=eZ h2
     exact .inl ⟨pw r _ hc (by omega),_,_,_,_,rfl⟩
    ·exact absurd h1.symm fE
   ·obtain⟨j,r',d,q,X,X0,m,bc,X',h1,h2,rfl,h3,-⟩:=qb _ _ h
    obtain rfl:=eZ h2;exact .inr (.inl ⟨_,_,_,_,_,h3,rfl⟩)
   ·obtain⟨r',h1,rfl⟩:=lG h
    exact .inr (.inr (.inl ⟨_,_,_,_,rfl,by simp,by simp⟩))
  ·have hb:G2.own b=.slc r p:=hb
   simp only[G2,fF]at hb;split at hb
   ·cases e:G.own b with
    | slc r' p' =>
     rw[e]at hb;simp only[Aas]at hb;split at hb
     ·cases hb
     ·split at hb
      ·split at hb
       ·exact hb
       ·cases hb
      ·exact hb
     ·exact hb
    |_=>rw[e]at hb;simp[Aas]at hb
   ·cases e:G'.own b with
    | slc t p' =>
     rw[e]at hb;simp only[uO]at hb;split at hb
     ·split at hb
      ·cases hb
      ·split at hb
       ·rename_i hlt
        injection hb with e1 e2
        have:=hf.nr r (by omega) (by omega);rw[this]at hkz;cases hkz
       ·cases hb
     ·split at hb
      ·rename_i r' d q X a6p
       injection hb with e1 e2
       subst e1;have hm:=(List.mem_filter.1 (Zbv a6p)).1;obtain⟨m',vj,u',h1,-⟩:=sT _ hm;rw[h1]at hkz;cases hkz
      ·cases hb
    | box β =>
     rw[e]at hb;simp only[uO]at hb;split at hb<;>cases hb
    |_=>rw[e]at hb;simp[uO]at hb
  ·show (if nr<=r/\r<nr+bW then _ else G.hdr r)=_
   rw[if_neg]
   rintro⟨h1,h2⟩
   rw[hf.nr r h1 h2]at hr;cases hr
  ·show (if b=nb then adn else G.bx b)=_
   rw[if_neg];intro e;rw[e,hf.nb]at hb;cases hb
 have mw:∀ k c,(k,c)∈U->(upds σ U k).isSome:=fun k c hc=>eD _ _ _ (.inr ⟨c,hc⟩)
 have a1w:∀ l:List (Nat×aS),(∀ z∈l,z∈U)->UIn (upds σ U) nr l:=fun l hl k c hc=>by
  refine⟨mw k c (hl _ hc),fun q e=>?_⟩;have:=a27 _ _ (hl _ hc);rw[e]at this;have:=Ead this;omega
 have xo:∀ i,i<ds.length->(aL.v (y0+i)).val ρ=ds.getD i .undef:=fun i hi=>by
  rw[Zbk,Zbf hi,Bcd];exact dv i _ (Zbf hi)
 have A:Aft E F σ (upds σ U) ρ a w G s Z G' w' y0 ds:=by
  refine⟨B,xo,fun z hz=>eu.known _ _ ?_⟩;obtain⟨m,x,hx⟩:=qq z hz;exact⟨x,m,z.2,.live,hx,fun _=>Zbr _⟩
 have a6t:(!noG g)=false\/kU s.results=0:=by
  rcases gb with h|h
  ·exact .inl (by rw[h];rfl)
  ·exact .inr h.1
 have tn:=Laf A (gd:=!noG g) (nb:=nb) (nr:=nr) (hs:=hs) (adn:=adn) (i:=0) (q:=0) a1n (by omega) (qh.imp id fun h m y hm=>h m y (Zbe _ (Zbe _ hm)))
  a6t (fun j x hj=>by
   rw[Aca];show (owR w' s.results cW++_)[j]?=some x
   rw[Zbx (List.getElem?_eq_some_iff.1 hj).1]
   exact hj) (fun ad s4=>by
   have hl:=Ray s.results cW;show ad=(Jau s.results cW).headD _
   match hb:Jau s.results cW,s4 with
   |[x],s4=>simpa using s4
   |x::y::l,s4=>rw[hb]at hl;simp at hl;omega) (by
   rw[Zb9,Zb9,jt];exact a1w us a7e)
 rw[Zb9,Zb9,jt]at tn;dsimp only at tn;obtain⟨-,lE,a4j,a1e⟩:=tn;have zc:(dY (s.params.flatMap (·.2))).length=(Z.rts.filter wT).length:=by rw[<- xz];simp
 rw[zc]at k9
 have a7k:=Aa5 A (gd:=!noG g) (nb:=nb) (nr:=nr) (hs:=hs) (adn:=adn) hf.nb (bs:=s.boxes) (b:=0) (i:=bL s.results+(Z.rts.filter wT).length) (q:=qR s.results) (bu:=bu) (by simp)
  (by rw[<- Zb0];exact rr) k9 (by omega) (qh.imp id fun h m y hm=>h m y (Zbh _ (by rw[Zb0];exact hm)))
  (by
   rcases gb with h|⟨-,olds,h⟩
   ·exact .inl (by rw[h];rfl)
   ·exact .inr (uN h)) (fun j x hj=>by
   show (owR w' s.results cW++owB w' (callG ρ G w s Z).bx 0 s.boxes)[qR s.results+j]?=some x
   rw[Zbw (by omega),lE,Ace];exact hj) (a1w bu a2i)
 obtain⟨a2n,a5y⟩:=a7k;refine⟨G2,hR.upd U eu (by rw[Ba7];exact hR.tmps) (by rw[put_defers];exact hR.defers) B.frame (fun t ht=>?_) (fun b ro ls hb gp=>?_) (fun b ls hb hlt ho=>?_) (fun k c hc gj=>?_)⟩
 ·rw[<- hU,Daa]at ht
  exact Gak ht
 ·
  obtain⟨h1,h2,h3⟩:=hR.box hb
  have hlt:(G.bx b).block<w.heap.size:=by
   rcases Zbz (G.bx b).block w.heap.size with h|h
   ·exact h
   ·rw[hR.frame.fresh _ h]at h2
    split at h2<;>cases h2
  cases ro with
  | true =>
   simp only[if_true]at h2;obtain⟨h4,h5⟩:=B.oth (gd:=!noG g) (nr:=nr) (nb:=nb) (hs:=hs) (adn:=adn) h2 hlt;exact⟨h4.trans h2.symm,h5⟩
  | false =>
   simp only[Zbg,if_false]at h2;obtain⟨h4,h5⟩:=B.boxes (gd:=!noG g) (nr:=nr) (nb:=nb) (hs:=hs) (adn:=adn) h2 hlt;refine⟨h4.trans h2.symm,?_⟩
   rcases h5 with h5|⟨j,cs,off,ls2,c0,c1,e,fr,e1,e2,e3,e4,-⟩
   ·exact h5
   ·exfalso
    have hm:=uM (wr:=false) (b:=0) e1 (by rw[Aca];exact e2);obtain⟨x,hx⟩:=a5y b hm;exact gp x (a2i _ hx)
 ·
  rcases yx _ _ hb with h|h|h|h|h
  ·obtain⟨d,-,e,-⟩:=xf _ _ h
   exact absurd e.symm lT
  ·rcases a1e _ _ h with ⟨q,m,i,e,-⟩|⟨e,kk,e2,hbr,ux⟩
   ·exact absurd e fE
   ·exfalso
    have e:=Cas e;subst e;refine ux ⟨Nat.lt_of_lt_of_le hlt hR.frame.size,?_⟩;have h1:=(hR.frame.boxes _ _ hlt ho).1
    have h2:(callG ρ G w s Z).own ((fF (!noG g) ρ G w s Z nr b G'.own hs adn).bx b).block=.oth\/∃ j,(callG ρ G w s Z).own ((fF (!noG g) ρ G w s Z nr b G'.own hs adn).bx b).block=.box j:=by
     have vn:G.own ((fF (!noG g) ρ G w s Z nr b G'.own hs adn).bx b).block=.box b:=h1;simp only[callG,vn];split
     ·split
      ·exact .inr ⟨_,rfl⟩
      ·exact .inl rfl
     ·exact .inl rfl
    rcases h2 with h2|⟨j,h2⟩<;>rw[h2]<;>rfl
  ·rcases a2n _ _ h with ⟨q,m,i,e,-⟩|⟨c0,jv,kk,e,h1,h2,h3,-⟩
   ·exact absurd e fE
   ·obtain rfl:=Cas e
    injection h2 with e1 e2
    have hbn:G2.bx b=G.bx b:=eu.bx b (by rw[h1];rfl);rw[hbn]at hlt ho ⊢;rw[hR.rng b jv h1 hlt ho,e2,h3]
  ·obtain⟨j,r',d,q,X,X0,m,bc,X',h1,h2,-⟩:=qb _ _ h
   exact absurd h2 fE
  ·obtain⟨r',h1,-⟩:=lG h
   exact absurd h1 fE
 ·rcases yx _ _ hc with h|h|h|h|h
  ·obtain⟨d,na,rfl,rfl⟩:=xf _ _ h
   refine⟨d,rfl,fun _=>?_⟩;rw[na,oC _ _ _ _ _ (hd d na) hR.tmps];exact Zaq hg a4j
  ·rcases a1e _ _ h with ⟨q,m,i,rfl,rfl,fm⟩|⟨rfl,kk,rfl,hbr,-⟩
   ·exact⟨nr+q,rfl,by rw[gj];rfl,fm⟩
   ·exact⟨nb,rfl,hbr⟩
  ·rcases a2n _ _ h with ⟨q,m,i,rfl,rfl,fm⟩|⟨c0,jv,kk,rfl,h1,rfl,h3,h4⟩
   ·exact⟨nr+q,rfl,by rw[gj];rfl,fm⟩
   ·refine⟨c0,rfl,h4 fun j l hj=>?_⟩
    obtain⟨-,-,cC⟩:=hR.box h1;obtain⟨v,uw,qT,hv3⟩:=cC j l hj;exact⟨v,uw,fun hl=>aB.mono eu l v hl⟩
  ·obtain⟨j,r',d,q,X,X0,m,bc,X',h1,rfl,rfl,h3,hfd,h4⟩:=qb _ _ h
   refine⟨r',rfl,by rw[gj];rfl,?_⟩;show Rp G2.own w' r' [] m (G2.hdr r') (X'.val ρ)
   have hhd:G2.hdr r'=G.hdr r':=eu.hdr r' (by rw[h3];rfl);rw[hhd];have a74:=(List.getElem?_eq_some_iff.1 h1).1;have kr:j<(Aav 0 Z.rts).length:=by rw[Qaw];exact a74
   have uq:=Zbf kr;obtain⟨x,ov,-,l8⟩:=Qax uq;rw[h1]at ov;obtain rfl:=Option.some.inj ov;rw[Nat.sub_zero]at l8
   have hd0:(dY (s.params.flatMap (·.2)))[j]?=some d:=by
    rw[<- xz,Zb2,h1];rfl
   have eA:=Mak a7w hd0;rw[Aca]at eA
   have hy:(aL.v (y0+bL s.results+j)).val ρ=ds.getD (bL s.results+j) .undef:=by
    rw[Zb0];exact xo _ (by omega)
   rw[<- hy]at eA
   have zm:(pK s (callG ρ G w s Z) w).gh j=Za8 w (G.hdr r') (bD ρ q):=by
    simp only[pK,Iaz,Zbk];rw[<- qi,Zbx (by simpa using kr),Zb2,uq];simp only[Acm,Bcd];rw[Daj l8];rfl
   rw[zm]at eA;refine B.mu h3 hfd l8 h1 (fun u' hn=>Da9 hn) eA (qh.imp id fun hc=>?_) h4
   have cY:∀ (rts:List RT) (y j:Nat) (r d:Nat) (q:List (aL×Nat×Nat)) (X:aL),(rts.filter wT)[j]?=some (RT.mu r d q X)->Step.prim (.dep d) [.v (y+j)] 0∈Cbg y rts:=by
    intro rts
    induction rts with
    |nil=>intro y j r d q X h;simp at h
    | cons x t ih =>
     intro y j r d q X h
     cases x with
     |nil=>exact ih y j r d q X (by simpa[wT,Ac6] using h)
     |own _ _=>exact ih y j r d q X (by simpa[wT,Ac6] using h)
     | mu r' d' q' X' =>
      simp only[Cbg]
      cases j with
      | zero =>
       simp[wT,Ac6]at h;rw[h.2.1];exact Zbu
      | succ j =>
       have:=ih (y+1) j r d q X (by simpa[wT,Ac6] using h);rw[show y+1+j=y+(j+1) by omega]at this;exact Zbn _ this
   exact hc d _ (Zbe _ (Zbh _ (cY _ _ _ _ _ _ _ h1)))
  ·obtain⟨r',rfl,rfl⟩:=lG h
   exact⟨r',rfl,by rw[gj];rfl,trivial⟩
end
theorem Eav:∀ (cs:List BO) (y:Nat),bI (nR y cs)=0
 |[],y=>rfl
 |t::cs,y=>by cases t<;>simp only[nR,iR,Step.n,Eav cs]
theorem Ibq:∀ (ss:List LR) (y:Nat),bI (Ta2 y ss)=0
 |[],y=>rfl
 |t::ss,y=>by cases t<;>simp only[Ta2,iR,fD,Step.n,Eav,Ibq ss]
theorem Ibo:∀ (rs:List (Bool×List LR)) (y:Nat),bI (Cbf y rs)=0
 |[],y=>rfl
 |(a,ss)::rs,y=>by simp only[Cbf,fD,Ibq,Ibo rs]
theorem Ibp:∀ (ts:List RT) (y:Nat),bI (Cbg y ts)=0
 |[],y=>rfl
 |t::ts,y=>by cases t<;>simp only[Cbg,iR,Step.n,Ibp ts]
theorem Ibr:∀ (bs:List (Bool×List (BS×BO))) (y:Nat),bI (Yam y bs)=0
 |[],y=>rfl
 |(ro,cs)::bs,y=>by cases ro<;>simp only[Yam,cond_true,cond_false,fD,Eav,Ibr bs]
theorem Vaw {ρ:List D}{g:Option (aL×Bool)}{cf:Nat->List D->Option (List D)}(hg:gOn ρ g=true):∀ {l:List Step} {nv:Nat},aN cf ρ g nv l->Ra3 ρ l
 |[],nv,h=>fun m y hm=>by simp at hm
 | t :: l, nv, h => fun m y hm => by
  rcases List.mem_cons.1 hm with e|hm
  ·subst e
   obtain⟨ds,h1,-,-⟩:=h.1.1 hg;simp only[Zb5,Acb,aU.run]at h1;split at h1
   ·rename_i hf;exact hf
   ·cases h1
  ·exact Vaw hg h.2 m y hm
theorem Pa1 {deps:List (Nat×Nat)}{nb:Nat}:∀ (rs:List (Bool×List LR)) (y n:Nat),kU rs=0->(jF true deps nb y n rs).2.1=[]
 |[],y,n,_=>rfl
 | (a, ss) :: rs, y, n, h => by
  simp only[kU]at h
  have hl:∀ (ss:List LR) (y n:Nat),bxL ss=0->(dN true deps nb y n ss).2.1=[]:=by
   intro ss
   induction ss with
   |nil=>intro y n _;rfl
   | cons t ss ih =>
    intro y n h
    cases t with
    |bx cs=>simp[bxL]at h
    |_=>simp only[dN,cZ,cond_true,Aco];exact ih _ _ (by simpa[bxL] using h)
  simp only[jF,hl ss y n (by omega),Aco];exact Pa1 rs _ _ (by omega)
theorem Lag {gd:Bool}{deps:List (Nat×Nat)}{nb y n:Nat}{rs:List (Bool×List LR)}{l:aR}(h:(jF gd deps nb y n rs).1=[(false,[l])]):(∀ g x,l≠.su g x)/\∀ x,l=.sc x->x=.v y/\1<=bL rs:=by
 match rs,h with
 |[],h=>simp[jF]at h
 |(a,ss)::r::rs,h=>simp[jF]at h
 | [(a, ss)], h =>
  simp only[jF,List.cons.injEq,Prod.mk.injEq,and_true]at h;obtain⟨-,h⟩:=h
  match ss,h with
  |[],h=>simp[dN]at h
  |t::t'::ss,h=>simp[dN]at h
  | [t], h =>
   simp only[dN,List.cons.injEq,and_true]at h;subst h
   cases t with
   |sc=>exact⟨fun g x e=>by simp[cZ]at e,fun x e=>by simp[cZ]at e;exact⟨e.symm,by simp[bL,mZ,LR.n]⟩⟩
   |ow m=>cases gd<;>exact⟨fun g x e=>by simp[cZ]at e,fun x e=>by simp[cZ]at e⟩
   |_=>exact⟨fun g x e=>by simp[cZ]at e,fun x e=>by simp[cZ]at e⟩
theorem Zar {σ:Nat->Option aS}{ρ:List D}{G:Gh}{w:World}{z:aL×Bool}(hg:gOn ρ (some z)=false){gd:Bool}{deps:List (Nat×Nat)}{nb y n:Nat}{rs0:List (Bool×List LR)}{rs:List (Bool×List aR)}
  (zu:(jF gd deps nb y n rs0).1=rs) (hv:1<=bL rs0->(aL.v y).val ρ=.undef) (h:gOn ρ (Fbu (some z) (Ba2 (some z) rs))=true):cB σ ρ G w (Ba2 (some z) rs) undef:=by
 unfold Ba2 at h ⊢;split at h
 ·rename_i x
  obtain⟨h1,h2⟩:=(Lag zu).2 x rfl;subst h1;simp only[mkS,cB,aB];exact⟨.inr ⟨trivial,hv h2⟩,fun e=>by rw[hg]at e;cases e⟩
 ·rename_i l cJ
  have yn:=(Lag zu).1;exfalso
  revert h yn
  cases l with
  |su g' x'=>exact fun _ yn=>yn g' x' rfl
  |_=>intro e _;simp only[Fbu]at e;rw[hg]at e;cases e
 ·simp only[Fbu]at h;rw[hg]at h;cases h
 ·simp only[Fbu]at h;rw[hg]at h;cases h
section
variable {P:Program} {E:Env} {F:bH} {σ:Nat->Option aS} {ρ:List D} {a:Act} {w w':World} {G:Gh} {g:Option (aL×Bool)} {cf:Nat->List D->Option (List D)} {o:Oper} {s:Sig} {T Z:Take} {nb nr y0 nvm:Nat}
theorem Fae (hR:R E.ntmps F σ ρ a w G){ej:Nat->Option aS}(eu:Fr σ G w ej G w){deps:List (Nat×Nat)}(uu:∀ z∈deps,jG σ z.1 z.2):∀ {cs:List (BS×BO)} {ls:List aR} {xs:List aL} {y n:Nat},(kP cs ls).eval σ=some xs ->
  (∀ j x,xs[j]?=some x->(aL.v (y+j)).val ρ=x.val ρ)->(∀ (j:Nat) (nie:Bool) (o:BO) (l:aR),cs[j]?=some (BS.fz nie,o)->ls[j]?=some l->∃ r,(yJ l).eval σ=some r/\∀ z∈r.deps,z∈deps) ->
  xs.length=cs.length/\(dR deps y n (cs.map (·.2))).2.1=[]/\(dR deps y n (cs.map (·.2))).1.length=cs.length /\
  ∀ (j:Nat) (l l0:aR) (v:Value),(dR deps y n (cs.map (·.2))).1[j]?=some l->ls[j]?=some l0->aB σ ρ G w l0 v->aB ej ρ G w l v
 | [], ls, xs, y, n, h, _, _ => by
  simp only[kP,aF,Option.some.injEq]at h;subst h;exact⟨rfl,rfl,rfl,by simp[dR]⟩
 |_::_,[],xs,y,n,h,_,_=>by simp[kP,bQ]at h
 | (t, o) :: cs, l0 :: ls, xs, y, n, h, hx, hz => by
  simp only[kP,aA,Zbc,aF,Option.some.injEq]at h;obtain⟨x,h1,r,h2,rfl⟩:=h;have hx0:(aL.v y).val ρ=x.val ρ:=by have:=hx 0 x rfl;rwa[Zb9]at this
  have key:(jU deps y n o).2.1=[]/\∀ v,aB σ ρ G w l0 v->aB ej ρ G w (jU deps y n o).1 v:=by
   split at h1
   ·rename_i x'
    simp only[aF,Option.some.injEq]at h1;subst h1;refine⟨rfl,fun v hv=>?_⟩;simp only[jU,aB]at hv ⊢;rw[hx0];exact hv
   ·rename_i _ nie
    simp only[aA,Zbc,aF,Option.some.injEq]at h1;obtain⟨sl,h3,rfl⟩:=h1;refine⟨rfl,fun v hv=>?_⟩;obtain⟨sl',h4,h5⟩:=hz 0 nie .fz _ rfl rfl;rw[h3]at h4;obtain rfl:=Option.some.inj h4;have hs:=dX hR h3 hv;have lA:v.oneCell'=true:=hv.one (by cases l0<;>first|rfl|cases h3)
    have hl:aB σ ρ G w (.sn deps .no false (.v y)) v:=by
     simp only[aB];refine⟨⟨lA,uu⟩,fun _=>⟨?_,fun e=>absurd e (by decide),trivial⟩⟩;rw[hx0];refine hs.rd.mono fun b hb=>⟨?_,rfl⟩
     rcases hb with hb|⟨r,k,p,hm,hb⟩
     ·exact .inl hb
     ·exact .inr ⟨r,k,p,h5 _ hm,hb⟩
    exact aB.mono eu _ v hl
   ·rw[iA]at h1
    split at h1
    ·rename_i hs
     simp only[aF,Option.some.injEq]at h1;refine⟨rfl,fun v hv=>?_⟩;simp only[jU,aB];exact hv.one hs
    ·cases h1
   ·cases h1
  obtain⟨h3,h4,h5,h6⟩:=Fae hR eu uu (cs:=cs) (y:=y+1) (n:=(jU deps y n o).2.2) h2 (fun j x hj=>by
   have:=hx (j+1) x (by simpa using hj);rwa[show y+(j+1)=y+1+j by omega]at this) (fun j nie o' l hj hl=>hz (j+1) nie o' l (by simpa using hj) (by simpa using hl))
  refine⟨by simp[h3],by simp only[Zb5,dR,key.1,Aco];exact h4,by simp only[Zb5,dR,Zbs];rw[h5],fun j l l1 v hj hl hv=>?_⟩;simp only[Zb5,dR]at hj
  cases j with
  | zero =>
   simp only[Zbl,Option.some.injEq]at hj hl;subst hj hl;exact key.2 v hv
  |succ j=>exact h6 j l l1 v (by simpa using hj) (by simpa using hl) hv
theorem Ea4:∀ {ss:List (BS×BO)} {ls:List aR} {A B:Take},(eG A ss ls).eval σ=some B->∀ (j:Nat) (nie:Bool) (o:BO) (l:aR),ss[j]?=some (BS.fz nie,o)->ls[j]?=some l->∃ r,(yJ l).eval σ=some r/\∀ z∈r.deps,z∈B.deps
 |[],ls,A,B,h,j,nie,o,l,hj,_=>by simp at hj
 |_::_,[],A,B,h,_,_,_,_,_,_=>by simp[eG,bQ]at h
 | (t, o) :: ss, l0 :: ls, A, B, h, j, nie, o', l, hj, hl => by
  simp only[eG,aA,Zbc]at h;obtain⟨C,h1,h2⟩:=h
  cases j with
  | zero =>
   simp only[Zbl,Option.some.injEq,Prod.mk.injEq]at hj hl;obtain⟨rfl,rfl⟩:=hj;subst hl
   have h3:(rH A nie l0).eval σ=some C:=by
    have hinv:=pY h1;clear h1
    rcases hinv with ⟨x,e,-⟩|⟨nie',e,h⟩|⟨d,e,-⟩|⟨e,-⟩
    ·cases e
    ·injection e with e;subst e;exact h
    ·cases e
    ·cases e
   unfold rH at h3;simp only[aA,Zbc,aF,Option.some.injEq]at h3;obtain⟨sl,h4,rfl⟩:=h3;exact⟨sl,h4,fun z hz=>(pX h2).1.deps z (Zbh _ hz)⟩
  |succ j=>exact Ea4 h2 j nie o' l (by simpa using hj) (by simpa using hl)
theorem Ea5 {ptrs:List (Nat×Nat×Nat)}:∀ {bs:List (Bool×List (BS×BO))} {b:Nat} {A B:Take},(eY ptrs A b bs).eval σ=some B->∀ (i:Nat) (ro:Bool) (cs:List (BS×BO)),bs[i]?=some (ro,cs) ->
  ∃ c off lv ls,oH (b+i) ptrs=some (c,off)/\σ (kB c)=some (.box lv ls)/\off+cs.length<=ls.length/\∀ (j:Nat) (nie:Bool) (o:BO) (l:aR),cs[j]?=some (BS.fz nie,o)->(ls.drop off)[j]?=some l->∃ r,(yJ l).eval σ=some r/\∀ z∈r.deps,z∈B.deps
 |[],b,A,B,h,i,ro,cs,hi=>by simp at hi
 | (ro0, cs0) :: bs, b, A, B, h, i, ro, cs, hi => by
  simp only[eY]at h;split at h
  case h_2=>cases h
  rename_i c off hp;simp only[aA,aT,Zbj]at h;split at h
  case h_2=>cases h
  rename_i lv ls nw;simp only[aA,aK,Zbc]at h;obtain⟨_,h0,C,h1,h2⟩:=h;split at h0
  case isFalse=>cases h0
  rename_i hb;simp only[Zbd,Acr]at hb
  cases i with
  | zero =>
   simp only[Zbl,Option.some.injEq,Prod.mk.injEq]at hi;obtain⟨rfl,rfl⟩:=hi;refine⟨c,off,lv,ls,hp,nw,hb.2,fun j nie o l hj hl=>?_⟩;obtain⟨r,h3,h4⟩:=Ea4 h1 j nie o l hj hl;exact⟨r,h3,fun z hz=>(kX h2).1.deps z (h4 z hz)⟩
  | succ i =>
   obtain⟨c',kO,a4o,kk,h3,h4,h5,h6⟩:=Ea5 h2 i ro cs (by simpa using hi);exact⟨c',kO,a4o,kk,by rw[show b+(i+1)=b+1+i by omega];exact h3,h4,h5,h6⟩
theorem Aa6 (hR:R E.ntmps F σ ρ a w G){deps:List (Nat×Nat)}(uu:∀ z∈deps,jG σ z.1 z.2){ptrs:List (Nat×Nat×Nat)}:∀ {bs:List (Bool×List (BS×BO))} {b y n:Nat} {bu:List (Nat×aS)} {xs:List aL},
  (lX ptrs deps b y n bs).eval σ=some bu->(iY ptrs b bs).eval σ=some xs->(∀ j x,xs[j]?=some x->(aL.v (y+j)).val ρ=x.val ρ) ->
  (∀ (i:Nat) (ro:Bool) (cs:List (BS×BO)),bs[i]?=some (ro,cs)->∃ c off lv ls,oH (b+i) ptrs=some (c,off)/\σ (kB c)=some (.box lv ls)/\off+cs.length<=ls.length/\∀ (j:Nat) (nie:Bool) (o:BO) (l:aR),cs[j]?=some (BS.fz nie,o)->(ls.drop off)[j]?=some l->∃ r,(yJ l).eval σ=some r/\∀ z∈r.deps,z∈deps) ->
  xs.length=eO bs/\∀ k c,(k,c)∈bu->∃ (c0:Nat) (jv ls:List aR),k=kB c0/\σ (kB c0)=some (.box false jv)/\c=.box false ls/\ls.length=jv.length/\∀ (ej:Nat->Option aS),Fr σ G w ej G w->∀ (j:Nat) (l l0:aR) (v:Value),ls[j]?=some l->jv[j]?=some l0->aB σ ρ G w l0 v->aB ej ρ G w l v
 | [], b, y, n, bu, xs, h, hx, _, _ => by
  simp only[lX,aF,Option.some.injEq]at h;simp only[iY,aF,Option.some.injEq]at hx;subst h hx;exact⟨rfl,by simp⟩
 | (ro, cs) :: bs, b, y, n, bu, xs, h, hx, hv, hz => by
  have xk:∀ (i:Nat) (ro:Bool) (cs:List (BS×BO)),bs[i]?=some (ro,cs)->∃ c off lv ls,oH (b+1+i) ptrs=some (c,off)/\σ (kB c)=some (.box lv ls)/\off+cs.length<=ls.length/\∀ (j:Nat) (nie:Bool) (o:BO) (l:aR),cs[j]?=some (BS.fz nie,o)->(ls.drop off)[j]?=some l->∃ r,(yJ l).eval σ=some r/\∀ z∈r.deps,z∈deps:=fun i ro cs hi=>by
   have:=hz (i+1) ro cs (by simpa using hi);rwa[show b+(i+1)=b+1+i by omega]at this
  simp only[lX]at h;simp only[iY]at hx
  cases ro with
  | true =>
   simp only[cond_true]at h hx;obtain⟨h1,h2⟩:=Aa6 hR uu h hx hv xk;exact⟨by rw[h1];simp only[eO,cond_true,Aca],h2⟩
  | false =>
   simp only[cond_false]at h hx;obtain⟨c,off,lv,jv,e1,e2,e3,e4⟩:=hz 0 false cs rfl;rw[Zb9]at e1;rw[e1]at h hx;simp only[aA,aT,Zbj]at h hx;rw[e2]at h hx
   cases lv with
   |true=>simp[bQ]at h
   | false =>
    simp only[aA,Zbc,aF,Option.some.injEq]at h hx;obtain⟨rest,h1,rfl⟩:=h;obtain⟨l1,h2,m1,h3,rfl⟩:=hx;have hold:=fun ej (eu:Fr σ G w ej G w)=>Fae (E:=E) (F:=F) (a:=a) hR eu uu (cs:=cs) (ls:=jv.drop off) (y:=y) (n:=n) h2 (fun j x hj=>hv j x (by rw[Zbx (List.getElem?_eq_some_iff.1 hj).1];exact hj)) e4
    obtain⟨h4,h5,h6,-⟩:=hold σ (Fr.same σ G w [] (by simp))
    obtain⟨h7,h8⟩:=Aa6 hR uu h1 h3 (fun j x hj=>by
     have:=hv (cs.length+j) x (by rw[Zbw (by omega),h4,Ace];exact hj);rwa[<- Zb0]at this) xk
    refine⟨by rw[Zbi,h4,h7];simp only[eO,cond_false],fun k x zn=>?_⟩;rw[h5]at zn;simp only[Bch,Aco]at zn
    rcases List.mem_cons.1 zn with zn|zn
    ·obtain⟨rfl,rfl⟩:=Prod.mk.inj zn
     refine⟨c,jv,_,rfl,e2,rfl,kZ (by rw[h6];exact e3),fun ej eu j l l0 v hj nx iq=>?_⟩;rw[iL (by rw[h6];exact e3)]at hj;split at hj
     ·rename_i hr
      refine (hold ej eu).2.2.2 (j-off) l l0 v hj ?_ iq;rw[List.getElem?_drop,show off+(j-off)=j by omega];exact nx
     ·rw[nx]at hj
      obtain rfl:=Option.some.inj hj;exact aB.mono eu _ v iq
    ·exact h8 k x zn
theorem Hbk (hR:R E.ntmps F σ ρ a w G)(hg:gOn ρ g=false)(hd:fG E.ntmps o)(zk:∀ z∈Z.deps,Nal σ z.1 z.2)(ug:Z.rts=[])(a0e:kU s.results=0)
  (hZ:(eY T.ptrs T 0 s.boxes).eval σ=some Z) {olds:List aL} (hold:(iY Z.ptrs 0 s.boxes).eval σ=some olds)
  {rs:List (Bool×List aR)} {us bu:List (Nat×aS)} {yg:Nat} (jt:jF true Z.deps nb y0 nr s.results=(rs,us,yg)) (hgn:noG g=false)
  (rr:(lX Z.ptrs Z.deps 0 (y0+bL s.results) yg s.boxes).eval σ=some bu)
  (dv:∀ j d,(Zbq (bL s.results+eO s.boxes-olds.length) D.undef++olds.map (·.val ρ))[j]?=some d->(aL.v (y0+j)).val ρ=d) :
  R E.ntmps F (upds σ (Yad o g rs++(us++bu))) ρ (a.put o.dst undef) w G:=by
 have rl:us=[]:=by
  have:=Pa1 (deps:=Z.deps) (nb:=nb) s.results y0 nr a0e;rw[jt]at this;exact this
 subst rl;rw[Aco];obtain⟨-,pT,-⟩:=kX hZ
 have uu:∀ z∈Z.deps,jG σ z.1 z.2:=fun z hz=>by
  obtain⟨m,x,hx⟩:=zk z hz;exact⟨x,m,z.2,.live,hx,fun _=>Zbr _⟩
 have nn:=Ea5 hZ;rw[<- pT]at nn
 have hlen0:olds.length=eO s.boxes:=by
  have hln:∀ {bs:List (Bool×List (BS×BO))} {b:Nat} {xs:List aL},(iY Z.ptrs b bs).eval σ=some xs->xs.length=eO bs:=by
   intro bs
   induction bs with
   |nil=>intro b xs h;simp only[iY,aF,Option.some.injEq]at h;subst h;rfl
   | cons x bs ih =>
    intro b xs h;obtain⟨ro,cs⟩:=x;simp only[iY]at h
    cases ro with
    |true=>simp only[cond_true]at h;rw[ih h];simp only[eO,cond_true,Aca]
    | false =>
     simp only[cond_false]at h;split at h
     case h_2=>cases h
     simp only[aA,aT,Zbj]at h;split at h
     case h_2=>cases h
     simp only[aA,Zbc,aF,Option.some.injEq]at h;obtain⟨l,h1,m,h2,rfl⟩:=h
     have hc:∀ {cs:List (BS×BO)} {ls:List aR} {ys:List aL},(kP cs ls).eval σ=some ys->ys.length=cs.length:=by
      intro cs
      induction cs with
      |nil=>intro ls ys h;simp only[kP,aF,Option.some.injEq]at h;subst h;rfl
      | cons t cs ihc =>
       intro ls ys h;obtain⟨t1,t2⟩:=t
       cases ls with
       |nil=>simp[kP,bQ]at h
       | cons x ls =>
        simp only[kP,aA,Zbc,aF,Option.some.injEq]at h;obtain⟨y,-,r,h4,rfl⟩:=h;simp[ihc h4]
     rw[Zbi,hc h1,ih h2];simp only[eO,cond_false]
  exact hln hold
 have pt:bL s.results+eO s.boxes-olds.length=bL s.results:=by omega
 rw[pt]at dv
 obtain⟨-,k9⟩:=Aa6 hR uu rr hold (fun j x hj=>by
  rw[Zb0];refine dv _ _ ?_;rw[Zbw (by simp),Acj,Ace,Zb2,hj]
  rfl) nn
 have xf:∀ k c,(k,c)∈Yad o g rs->∃ d,o.dst=some d/\k=kT d/\c=.slot (Fbu g (Ba2 g rs)) (Ba2 g rs):=fun k c hc=>by
  rw[Daa]at hc;exact yX hc
 have lR:∀ k c,(k,c)∈Yad o g rs++bu->∀ r,k≠kR r:=by
  intro k c hc r
  rcases List.mem_append.1 hc with hc|hc
  ·obtain⟨d,-,e,-⟩:=xf _ _ hc
   rw[e];exact iU
  ·obtain⟨c0,jv,ls,e,-⟩:=k9 _ _ hc
   rw[e];exact fE
 have eu:=Fr.nonroot σ G w (Yad o g rs++bu) lR;refine hR.upd _ eu (by rw[Ba7];exact hR.tmps) (by rw[put_defers];exact hR.defers) hR.frame (fun t ht=>?_) (fun _ _ _ _ _=>⟨rfl,rfl⟩) (fun b ls hb hlt ho=>?_) (fun k c hc gj=>?_)
 ·rw[Daa]at ht
  exact Gak ht
 ·rcases List.mem_append.1 hb with hb|hb
  ·obtain⟨d,-,e,-⟩:=xf _ _ hb
   exact absurd e.symm lT
  ·obtain⟨c0,jv,kk,e,h1,h2,h3,-⟩:=k9 _ _ hb
   obtain rfl:=Cas e
   injection h2 with e1 e2
   rw[hR.rng b jv h1 hlt ho,e2,h3]
 ·rcases List.mem_append.1 hc with hc|hc
  ·obtain⟨d,na,rfl,rfl⟩:=xf _ _ hc
   refine⟨d,rfl,fun fb=>?_⟩;rw[na,oC _ _ _ _ _ (hd d na) hR.tmps];have zu:(jF true Z.deps nb y0 nr s.results).1=rs:=by rw[jt]
   cases g with
   |none=>simp[gOn]at hg
   | some z =>
    refine Zar hg zu (fun jc=>?_) fb
    have:=dv 0 .undef (by
     rw[Zbx (by simp;omega)];rw[Bcq,if_pos (by omega)])
    rwa[Zb9]at this
  ·obtain⟨c0,jv,ls,rfl,h1,rfl,h3,h4⟩:=k9 _ _ hc
   obtain⟨h5,h6,h7⟩:=hR.box h1;refine⟨c0,rfl,h5,h6,fun j l hj=>?_⟩;have hlt:j<jv.length:=by rw[<- h3];exact (List.getElem?_eq_some_iff.1 hj).1
   obtain⟨v,h8,h9,cL⟩:=h7 j _ (Zbf hlt);exact⟨v,h8,h9,h4 _ eu j l _ v hj (Zbf hlt) cL⟩
end
section
variable {P:Program} {E:Env} {F:bH} {σ:Nat->Option aS} {ρ:List D} {a:Act} {w:World} {G:Gh} {g:Option (aL×Bool)} {o:Oper}
theorem Oa9:∀ {vs:List SV} {us:List Value},vs.length=us.length->(∀ (i:Nat) (v:SV) (u:Value),vs[i]?=some v->us[i]?=some u->cB σ ρ G w v u)->sP σ ρ G w vs us
 |[],[],_,_=>rfl
 |[],_::_,h,_=>by simp at h
 |_::_,[],h,_=>by simp at h
 |v::vs,u::us,h,hr=>⟨u,us,rfl,hr 0 v u rfl rfl,Oa9 (by simpa using h) fun i v' u' hv hu=>hr (i+1) v' u' (by simpa using hv) (by simpa using hu)⟩
theorem Bal:∀ {vs tP:List SV} {us cW:List Value},sP σ ρ G w vs us->sP σ ρ G w tP cW->sP σ ρ G w (vs++tP) (us++cW)
 |[],tP,us,cW,h,h'=>by simp only[sP]at h;subst h;exact h'
 | v :: vs, tP, us, cW, h, h' => by
  obtain⟨u,us2,rfl,h1,h2⟩:=h;exact⟨u,us2++cW,rfl,h1,Bal h2 h'⟩
theorem Hal:∀ {ls:List aR} {vs:List Value},aG σ ρ G w ls vs->sP σ ρ G w (ls.map SV.one) vs
 |[],vs,h=>by simp only[aG]at h;subst h;rfl
 | l :: ls, vs, h => by
  simp only[aG]at h;obtain⟨u,us,rfl,h1,h2⟩:=h;exact⟨u,us,rfl,h1,Hal h2⟩
theorem Fbt {f:Operand}{args:Array Operand}{argTypes:Array TypeId}(ho:o.op=.call { callee:=.value f,args,argTypes }){fn:Nat}{vs:List Value}(hf:a.eval f=.func (.func fn) #[] vs.toArray) :
  (execOp a.eval o).run P w=(callFunc fn (args.toList.map a.eval++vs).toArray).run P w:=by
 unfold execOp;simp only[ho,resolve,hf,Deferred.ofValue,invoke,Sem.run_bind,Sem.run_pure,Result.andThen_ok];congr 2;apply Array.ext';simp
theorem Hbi {X:(Nat->Ow)->World->Prop}{T:Nat->Ent}{n:Nat}(aE:Stable X)(hX:X F.own0 F.w0)(hc:∀ key s,(key,s)∈E.sigs->Daq P X T n key s):Bad P E F (kH T n):=by
 intro σ ρ a w G g o Q mv dt nv nb nr res f args argTypes hR hd hf ho h lg wv;simp only[qA,ho,aA,Zbc]at h;obtain⟨l,h1,h⟩:=h;split at h
 case h_2=>cases h
 rename_i fn fu;simp only[aA,Zbc]at h;obtain⟨vs0,h2,h⟩:=h;unfold Hbz at h;split at h
 ·cases h
 rename_i key s a5t;obtain⟨cY,hfn⟩:=Ia7 a5t;simp only[aA,Zbc,aK]at h;obtain⟨T1,hT,Z,hZ,_,gb,h⟩:=h;split at gb
 case isFalse=>cases gb
 rename_i hb;simp only[Zbd,Bool.or_eq_true,Acr,List.isEmpty_iff,Zb8]at hb;obtain⟨⟨n4,a1x⟩,gb⟩:=hb;have hk:=Saf n4;obtain⟨bu,rr,⟨ml,mu⟩,yj,olds,hold,h⟩:=h;simp only[aF,Option.some.injEq]at h;subst h;dsimp only at lg wv ⊢;generalize jt:jF (!noG g) Z.deps nb (nv+bI Z.lets) nr s.results=res at lg wv rr ⊢;obtain⟨rs,us,yg⟩:=res;dsimp only at lg aE rr yj ⊢;refine⟨fun hg=>?_,fun hg=>?_⟩
 ·
  obtain⟨tv,tI⟩:=aN.append wv;obtain⟨mm,qh⟩:=aN.append tv;obtain⟨a3c,jf⟩:=aN.append mm;obtain⟨ds,bj,hlen,dv⟩:=jf.1.1 hg
  have hn:nv+bI (Z.lets++[Step.call key Z.xs (bL s.results+(Z.rts.filter wT).length+eO s.boxes) olds]++(bif Z.deps.isEmpty then [] else Cbf (nv+bI Z.lets) s.results++Cbg (nv+bI Z.lets+bL s.results) Z.rts++Yam (nv+bI Z.lets+bL s.results+(Z.rts.filter wT).length) s.boxes))=nv+bI Z.lets+(bL s.results+(Z.rts.filter wT).length+eO s.boxes):=by
   have e0:bI (bif Z.deps.isEmpty then [] else Cbf (nv+bI Z.lets) s.results++Cbg (nv+bI Z.lets+bL s.results) Z.rts++Yam (nv+bI Z.lets+bL s.results+(Z.rts.filter wT).length) s.boxes)=0:=by
    cases Z.deps.isEmpty with
    |true=>rfl
    |false=>simp only[cond_false,fD,Ibo,Ibp,Ibr]
   rw[fD,fD,e0];simp only[iR,Step.n];show nv+(bI Z.lets+(_+bI [])+0)=_
   have:bI ([]:List Step)=0:=rfl;omega
  rw[hn]at tI;have uw:=fJ hR hg h1;simp only[aB]at uw;obtain⟨cvs,hcv,iz⟩:=uw;obtain⟨oz,jh⟩:=yK hR hg h2
  have rl:sP σ ρ G w (vs0++fu.map SV.one) (args.toList.map a.eval++cvs):=by
   refine Bal (Oa9 (by rw[oz];simp) fun i v u hv hu=>?_) (Hal iz);rw[Zb2,Zbo]at hu;obtain⟨x,hx,rfl⟩:=hu;exact jh i v x hv hx
  have da:=Hbj hR hg a3c hk hT hZ rl
  have hXc:X (callG ρ G w s Z).own w:=aE _ _ _ _ hR.frame.size (fun b hb he=>by
   have hkp:=hR.frame.keep b hb (.inl he);exact⟨hkp.1,pJ (hkp.2.trans he)⟩) hX
  have fb:=hc key s cY _ w _ _ ds da hXc bj
  have a1g:Z.deps=[]\/Ra3 ρ (Cbf (nv+bI Z.lets) s.results++Cbg (nv+bI Z.lets+bL s.results) Z.rts++Yam (nv+bI Z.lets+bL s.results+(Z.rts.filter wT).length) s.boxes):=by
   cases hde:Z.deps.isEmpty with
   |true=>exact .inl (by simpa using hde)
   | false =>
    rw[hde,cond_false]at qh;exact .inr (Vaw hg qh)
  have a6g:noG g=true\/(kU s.results=0/\∃ olds,(iY Z.ptrs 0 s.boxes).eval σ=some olds):=by
   cases g with
   |none=>exact .inl rfl
   |some z=>exact .inr ⟨(gb.resolve_left (by simp[noG])).2,olds,hold⟩
  have wx:∀ v w',Oaq s (pK s (callG ρ G w s Z) w) (callG ρ G w s Z).bx v w' ds->Nx E.ntmps F σ ρ (Yad o g rs++(us++bu++mu++gJ Z.rts)) (a.put o.dst v) w':=by
   intro v w' pc;exact Cbl hR hg hd hf rl hT hZ hk a1x a6g jt rr yj hlen dv a1g tI lg pc
  unfold Oper.wp;rw[Fbt ho hcv,<- hfn]
  rcases fb with ⟨hr,cI⟩|⟨v,w',hr,pc⟩
  ·rw[hr,Oper.upon_enter]
   refine Calls.mono cI fun e w' he=>?_
   cases e with
   |returned v=>exact wx v w' he
   |panicked c=>exact he.elim
   |outgrown=>exact he.elim
  ·rw[hr,Oper.upon_value]
   exact wx v w' pc
 ·
  have hgn:noG g=false:=by
   cases g with
   |none=>simp[gOn]at hg
   |some z=>rfl
  have h5:=gb.resolve_left (by rw[hgn];simp);obtain⟨ug,a0e⟩:=h5
  have a7t:mu=[]:=by
   rw[ug]at yj;simp only[zW,aF,Option.some.injEq,Prod.mk.injEq]at yj;exact yj.2.symm
  have a4p:gJ Z.rts=[]:=by rw[ug];rfl
  have zj:(Z.rts.filter wT).length=0:=by rw[ug];rfl
  obtain⟨tv,tI⟩:=aN.append wv;obtain⟨mm,qh⟩:=aN.append tv;obtain⟨a3c,jf⟩:=aN.append mm;have dv:=jf.1.2 hg;rw[zj,Zb9]at dv rr
  have a1s:(iY Z.ptrs 0 s.boxes).eval σ=some olds:=by
   cases g with
   |none=>cases hgn
   |some z=>exact hold
  have qq:∀ z∈Z.deps,Nal σ z.1 z.2:=by
   obtain⟨rn,uv,-,-⟩:=vO (E:=E) (F:=F) (ρ:=ρ) (a:=a) (w:=w) (G:=G) False (fun h=>h.elim) hT (fun h=>h.elim);obtain⟨sb,hn4,-⟩:=tC (ρ:=ρ) (G:=G) (w:=w) hZ;intro z hz
   rcases (uv.trans hn4).deps z hz with h|h
   ·simp[Take.empty]at h
   ·exact h
  rw[hgn]at jt;have:=Hbk hR hg hd qq ug a0e hZ a1s jt hgn rr dv;refine⟨G,?_⟩;show R E.ntmps F (upds σ (Yad o g rs++(us++bu++mu++gJ Z.rts))) ρ _ w G
  rw[a7t,a4p,Zb4,Zb4];exact this
end
def Cbz (P:Program)(s:Sig)(e:List D->Option (List D)):Prop :=
 ∀ vals w G ds gy,Cb2 s vals w G ds->e ds=some gy->Goes P s.fn vals.toArray w fun v w'=>Oaq s (pK s G w) G.bx v w' gy
def Wah (P:Program)(T:Nat->Ent)(ti:Nat->Option TI)(sigs:List (Nat×Sig))(key:Nat)(s:Sig):Prop :=
 (∃ (E : Env) (fn : Func) (tm : Tm Unit), E.ti = ti /\ E.sigs = sigs /\ P.funcs[s.fn]? = some fn /\ (fn.name == "runtime.NumGoroutine") = false /\ Waw E s fn = some tm /\ T key = .tm tm) \/ ∃ e, T key = .ext e /\ Cbz P s e
def Obv (P:Program)(X:(Nat->Ow)->World->Prop)(s:Sig)(e:List D->Option (List D)):Prop :=
 ∀ vals w G ds gy,Cb2 s vals w G ds->X G.own w->e ds=some gy->Goes P s.fn vals.toArray w fun v w'=>Oaq s (pK s G w) G.bx v w' gy
def Obu (P:Program)(X:(Nat->Ow)->World->Prop)(T:Nat->Ent)(ti:Nat->Option TI)(sigs:List (Nat×Sig))(key:Nat)(s:Sig):Prop :=
 (∃ (E : Env) (fn : Func) (tm : Tm Unit), E.ti = ti /\ E.sigs = sigs /\ P.funcs[s.fn]? = some fn /\ (fn.name == "runtime.NumGoroutine") = false /\ Waw E s fn = some tm /\ T key = .tm tm) \/ ∃ e, T key = .ext e /\ Obv P X s e
theorem Wah.toX {P:Program}{X:(Nat->Ow)->World->Prop}{T:Nat->Ent}{ti:Nat->Option TI}{sigs:List (Nat×Sig)}{key:Nat}{s:Sig}(h:Wah P T ti sigs key s):Obu P X T ti sigs key s:=by
 rcases h with h|⟨e,h1,h2⟩
 ·exact .inl h
 ·exact .inr ⟨e,h1,fun vals w G ds gy hp _ he=>h2 vals w G ds gy hp he⟩
theorem Yaj {P:Program}{X:(Nat->Ow)->World->Prop}{T:Nat->Ent}{ti:Nat->Option TI}{sigs:List (Nat×Sig)}(aE:Stable X)(hti:vN P ti)(hm:P.follows .mixedOrders=true)(H:∀ key s,(key,s)∈sigs->Obu P X T ti sigs key s) :
  ∀ n key s,(key,s)∈sigs->Daq P X T n key s:=by
 intro n
 induction n with
 | zero =>
  intro key s _ vals w G ds gy _ _ h;cases h
 | succ n ih =>
  intro key s cY
  rcases H key s cY with ⟨E,fn,tm,rfl,rfl,h1,h2,h3,h4⟩|⟨e,h1,h2⟩
  ·exact Naz hti hm h1 h2 h3 h4 fun F hX=>Hbi aE hX fun key s h=>ih key s h
  ·intro vals w G ds gy da hX bj
   simp only[kH,h1]at bj;exact h2 vals w G ds gy da hX bj
theorem contracts {P:Program}{T:Nat->Ent}{ti:Nat->Option TI}{sigs:List (Nat×Sig)}(hti:vN P ti)(hm:P.follows .mixedOrders=true)(H:∀ key s,(key,s)∈sigs->Wah P T ti sigs key s) :
  ∀ n key s,(key,s)∈sigs->uS P T n key s :=
 fun n key s cY vals w G ds gy da bj=>Yaj (X:=fun _ _=>True) (fun _ _ _ _ _ _ _=>trivial) hti hm (fun key s h=>(H key s h).toX) n key s cY vals w G ds gy da trivial bj
inductive Ty where
 |int (k:IntKind)
 |bool
 |str
 |sl (bytes:Nat) (row:List Ty)
mutual
def WT:Ty->D->Prop
 |.int k,d=>∃ n,d=.int k n/\k.min<=n/\n<=k.max
 |.bool,d=>∃ b,d=.bool b
 |.str,d=>∃ s,d=.str s/\s.length<=reachBytes
 |.sl bytes row,d=>∃ rs,d=.rows row.length rs/\rs.length*bytes<=reachBytes/\∀ r∈rs,WTs row r
def WTs:List Ty->List D->Prop
 |[],ds=>ds=[]
 |t::ts,ds=>∃ d gy,ds=d::gy/\WT t d/\WTs ts gy
end
def Yay (P:Program)(rec:TypeId->Option (List Ty)):Nat->List Field->Option (List Ty)
 |_,[]=>some []
 | off, f :: fs => match rec f.type with
  |some r=>bif Nat.beq f.offset off&&Nat.beq r.length (P.cellsOf f.type) then (Yay P rec (off+r.length) fs).map (r++·) else none
  |none=>none
def Ja5 (P:Program):Nat->TypeId->Option (List Ty)
 |0,_=>none
 | n + 1, t => match P.underlying t with
  |some .bool=>some [.bool]
  |some (.int k)=>some [.int k]
  |some .string=>some [.str]
  | some (.slice e) => match Ja5 P n e with
   |some r=>bif Nat.beq r.length (P.cellsOf e) then some [.sl (P.bytesOf e) r] else none
   |none=>none
  | some (.struct fs) => match Yay P (Ja5 P n) 0 fs.toList with
   |some r=>bif Nat.beq r.length (P.cellsOf t) then some r else none
   |none=>none
  |_=>none
def jE (w:World):List Ty->List Value->List D->Prop
 |[],cs,ds=>cs=[]/\ds=[]
 |t::ts,cs,ds=>∃ c oS d gy,cs=c::oS/\ds=d::gy/\Rd (fun _=>True) w c d/\WT t d/\jE w ts oS gy
theorem jE.append {w:World}:∀ {ts ts':List Ty} {cs oS:List Value} {ds gy:List D},jE w ts cs ds->jE w ts' oS gy->jE w (ts++ts') (cs++oS) (ds++gy)
 | [], ts', cs, oS, ds, gy, h, h' => by
  obtain⟨rfl,rfl⟩:=h;exact h'
 | t :: ts, ts', cs, oS, ds, gy, h, h' => by
  obtain⟨c,c1,d,d1,rfl,rfl,h1,h2,h3⟩:=h;exact⟨c,c1++oS,d,d1++gy,rfl,rfl,h1,h2,h3.append h'⟩
theorem jE.len {w:World}:∀ {ts:List Ty} {cs:List Value} {ds:List D},jE w ts cs ds->cs.length=ts.length/\ds.length=ts.length
 |[],cs,ds,h=>by obtain⟨rfl,rfl⟩:=h;exact⟨rfl,rfl⟩
 | t :: ts, cs, ds, h => by
  obtain⟨c,c1,d,d1,rfl,rfl,h1,h2,h3⟩:=h;obtain⟨h4,h5⟩:=h3.len;simp[h4,h5]
theorem jE.get {w:World}:∀ {ts:List Ty} {cs:List Value} {ds:List D},jE w ts cs ds->∀ {j:Nat} {d:D},ds[j]?=some d->∃ c,cs[j]?=some c/\Rd (fun _=>True) w c d
 |[],cs,ds,h,j,d,hj=>by obtain⟨rfl,rfl⟩:=h;simp at hj
 | t :: ts, cs, ds, h, j, d, hj => by
  obtain⟨c,c1,d',d1,rfl,rfl,h1,h2,h3⟩:=h
  cases j with
  | zero =>
   simp only[Zbl,Option.some.injEq]at hj;subst hj;exact⟨c,rfl,h1⟩
  | succ j =>
   obtain⟨c',h4,h5⟩:=h3.get (j:=j) (by simpa using hj);exact⟨c',by simpa using h4,h5⟩
theorem jE.wts {w:World}:∀ {ts:List Ty} {cs:List Value} {ds:List D},jE w ts cs ds->WTs ts ds
 |[],cs,ds,h=>by obtain⟨rfl,rfl⟩:=h;simp[WTs]
 | t :: ts, cs, ds, h => by
  obtain⟨c,c1,d',d1,rfl,rfl,h1,h2,h3⟩:=h;simp only[WTs];exact⟨d',d1,rfl,h2,h3.wts⟩
theorem Iab {α β:Type}{f:α->Option β}:∀ {l:List α} {ys:List β},l.mapM f=some ys->ys.length=l.length/\∀ (i:Nat) (x:α),l[i]?=some x->∃ y,ys[i]?=some y/\f x=some y
 | [], ys, h => by
  simp at h;subst h;simp
 | x :: l, ys, h => by
  simp only[List.mapM_cons,bind,Zbc,pure,Option.some.injEq]at h;obtain⟨y,h1,ys',h2,rfl⟩:=h;obtain⟨h3,h4⟩:=Iab h2;refine⟨by simp[h3],fun i z hz=>?_⟩
  cases i with
  | zero =>
   simp only[Zbl,Option.some.injEq]at hz;subst hz;exact⟨y,rfl,h1⟩
  | succ i =>
   obtain⟨y',h5,h6⟩:=h4 i z (by simpa using hz);exact⟨y',by simpa using h5,h6⟩
theorem Nan {β:Type}{p:Nat->β->Prop}:∀ (n:Nat),(∀ i,i<n->∃ y,p i y)->∃ l:List β,l.length=n/\∀ i y,l[i]?=some y->p i y
 |0,_=>⟨[],rfl,by simp⟩
 | n + 1, h => by
  obtain⟨l,h1,h2⟩:=Nan n fun i hi=>h i (by omega)
  obtain⟨y,hy⟩:=h n (by omega);refine⟨l++[y],by simp[h1],fun i z hz=>?_⟩
  rcases Nat.lt_trichotomy i n with hi|hi|hi
  ·rw[Zbx (by omega)]at hz
   exact h2 i z hz
  ·subst hi
   rw[Zbw (by omega),h1,Nat.sub_self]at hz;simp only[Zbl,Option.some.injEq]at hz;subst hz;exact hy
  ·have:=(List.getElem?_eq_some_iff.1 hz).1
   simp[h1]at this;omega
theorem zO {H:Type}{P:Program}{e:TypeId}:∀ {l:List (DataW H)} {d:DataW H},d∈l->∀ n∈d.weights P e,n∈DataW.weightsAll P e l
 |[],d,h,_,_=>by simp at h
 | x :: l, d, h, n, hn => by
  simp only[DataW.weightsAll,Bc8]
  rcases List.mem_cons.1 h with rfl|h
  ·exact .inl hn
  ·exact .inr (zO h n hn)
theorem uT {H:Type}{P:Program}{t:TypeId}{ts:List TypeId}{d:DataW H}{ds:List (DataW H)}:DataW.weightsEach P (t::ts) (d::ds)=d.weights P t++DataW.weightsEach P ts ds:=by
 simp only[DataW.weightsEach]
theorem Had {P:Program}{w:World}{H:Type}{cs:List Value}{f:Field->List Value->Option (DataW H×List MemPlace)}{rec:TypeId->Option (List Ty)}
  (cq:∀ (fd:Field) (r:List Ty) (l:List Value) (y:DataW H×List MemPlace),rec fd.type=some r->f fd l=some y->(∀ m∈y.1.weights P fd.type,m<=reachBytes)->∃ ds,jE w r l ds) :
  ∀ {fs:List Field} {off:Nat} {gv:List Ty} {xs:List (DataW H×List MemPlace)},Yay P rec off fs=some gv->fs.mapM (fun fd=>f fd ((cs.drop fd.offset).take (P.cellsOf fd.type)))=some xs ->
  (∀ m∈DataW.weightsEach P (fs.map (·.type)) (xs.map (·.1)),m<=reachBytes)->cs.length=off+gv.length->∃ ds,jE w gv (cs.drop off) ds
 | [], off, gv, xs, h, _, _, hl => by
  simp only[Yay,Option.some.injEq]at h;subst h;refine⟨[],?_,rfl⟩;rw[List.drop_eq_nil_iff];simp only[List.length_nil]at hl;omega
 | fd :: fs, off, gv, xs, h, hm, hw, hl => by
  simp only[Yay]at h;split at h
  case h_2=>cases h
  rename_i r hr
  cases hb:(Nat.beq fd.offset off&&Nat.beq r.length (P.cellsOf fd.type)) with
  |false=>rw[hb]at h;cases h
  | true =>
   rw[hb,cond_true,Zbo]at h;obtain⟨a2b,h1,rfl⟩:=h;simp only[Zbd,Zb8]at hb;obtain⟨rfl,iz⟩:=hb;simp only[List.mapM_cons,bind,Zbc,pure,Option.some.injEq]at hm;obtain⟨y,h2,ys,h3,rfl⟩:=hm;simp only[Zb5,uT,Bc8]at hw;obtain⟨ds,h4⟩:=cq fd r _ y hr h2 fun m hm=>hw m (.inl hm)
   rw[Zbi]at hl;obtain⟨gy,h5⟩:=Had cq (off:=fd.offset+r.length) h1 h3 (fun m hm=>hw m (.inr hm)) (by omega);refine⟨ds++gy,?_⟩;have:=h4.append h5;rw[<- iz]at this
   have e:List.take r.length (List.drop fd.offset cs)++List.drop (fd.offset+r.length) cs=List.drop fd.offset cs:=by
    rw[<- List.drop_drop,List.take_append_drop]
   rw[e]at this;exact this
theorem Daw {P:Program}{H:Type}{enc:TypeId×Value->H}{w:World}{sp:Nat->Bool}{held:Bool}:∀ (n fuel:Nat) {t:TypeId} {cs:List Value} {x:DataW H} {ps:List MemPlace} {gv:List Ty},Ja5 P n t=some gv->DataW.trod enc P w 0 sp held fuel t cs=some (x,ps) ->
  (∀ m∈x.weights P t,m<=reachBytes)->∃ ds,jE w gv cs ds
 |0,_,t,cs,x,ps,gv,h,_,_=>by simp[Ja5]at h
 |n+1,0,t,cs,x,ps,gv,_,h,_=>by simp[DataW.trod]at h
 | n + 1, fuel + 1, t, cs, x, ps, gv, ht, h, hw => by
  simp only[Ja5]at ht;unfold DataW.trod at h;split at ht
  ·
   rename_i hu;rw[hu]at h;simp only[Option.some.injEq]at ht;subst ht;split at h<;>rename_i heq<;>first|(cases heq;done)|skip
   all_goals first|(injection heq with heq;cases heq;done)|skip
   ·exact⟨_,_,[],_,[],rfl,rfl,.sc (.bool _),⟨_,rfl⟩,rfl,rfl⟩
   ·cases h
  ·
   rename_i k hu;rw[hu]at h;simp only[Option.some.injEq]at ht;subst ht;split at h<;>rename_i heq<;>first|(cases heq;done)|skip
   all_goals first|(injection heq with heq;cases heq;done)|skip
   ·rename_i k0 k' m
    injection heq with heq
    injection heq with heq
    subst heq;split at h
    ·rename_i hc
     obtain⟨rfl,mf⟩:=hc;simp only[Lit.wf,Zbd,decide_eq_true_eq]at mf;exact⟨_,_,[],_,[],rfl,rfl,.sc (.int _ _),⟨_,rfl,mf.1,mf.2⟩,rfl,rfl⟩
    ·cases h
   ·cases h
  ·
   rename_i hu;rw[hu]at h;simp only[Option.some.injEq]at ht;subst ht;split at h<;>rename_i heq<;>first|(cases heq;done)|skip
   all_goals first|(injection heq with heq;cases heq;done)|skip
   ·rename_i s0
    split at h
    ·simp only[Option.some.injEq,Prod.mk.injEq]at h
     obtain⟨rfl,rfl⟩:=h;refine⟨_,_,[],_,[],rfl,rfl,.sc (.str s0.data.toList),⟨_,rfl,hw _ ?_⟩,rfl,rfl⟩;simp only[DataW.weights,Zbp]
    ·cases h
   ·cases h
  ·
   rename_i e hu;split at ht
   case h_2=>cases ht
   rename_i r hr
   cases hb:Nat.beq r.length (P.cellsOf e) with
   |false=>rw[hb]at ht;cases ht
   | true =>
    rw[hb,cond_true]at ht;simp only[Option.some.injEq]at ht;subst ht;simp only[Zb8]at hb;rw[hu]at h;split at h<;>rename_i heq<;>first|(cases heq;done)|skip
    all_goals first|(injection heq with heq;cases heq;done)|skip
    ·injection heq with heq
     injection heq with heq
     subst heq;simp only[Option.some.injEq,Prod.mk.injEq]at h;obtain⟨rfl,rfl⟩:=h;refine⟨_,_,[],.rows r.length [],[],rfl,rfl,.rows none ⟨0,0,none⟩ 0 0 r.length [] (fun _ _=>undef) rfl (Zbr _) (.inl rfl) (by simp) (by simp) (by simp),⟨[],rfl,by simp,by simp⟩,rfl,rfl⟩
    ·rename_i e0 ad len cap
     injection heq with heq
     injection heq with heq
     subst heq;dsimp only at h;split at h
     case isFalse=>cases h
     rename_i hc;simp only[Zbc,Zbo,Prod.mk.injEq]at h;obtain⟨elems,h1,rest,h2,rfl,rfl⟩:=h;obtain⟨h3,h4⟩:=Iab h1;rw[List.length_range]at h3;simp only[DataW.weights,hu,Acf,Bc8]at hw
     have ie:∀ i,i<len->∃ ds:List D,∃ cs:List Value,(∀ j c,cs[j]?=some c->w.cell? (ad.add (i*r.length+j))=some c)/\jE w r cs ds:=by
      intro i hi;obtain⟨y,h5,h6⟩:=h4 i i (by rw[Cc1 hi]);simp only[Zbc]at h6;obtain⟨cs,h7,h8⟩:=h6;obtain⟨x,ps⟩:=y;obtain⟨ds,h9⟩:=Daw n fuel hr h8 fun m hm=>hw m (.inr (.inl (zO (List.mem_map.2 ⟨_,Zbv h5,rfl⟩) m hm)))
      refine⟨ds,cs,fun j c hj=>?_,h9⟩;unfold World.cells? at h7;split at h7
      ·obtain⟨cL,ef⟩:=Iab h7
       have kz:=(List.getElem?_eq_some_iff.1 hj).1;rw[cL,List.length_range]at kz;obtain⟨c',fW,jd⟩:=ef j j (by rw[Cc1 kz]);rw[hj]at fW;obtain rfl:=Option.some.inj fW;rw[add_add,<- hb]at jd;exact jd
      ·cases h7
     obtain⟨rs,h5,h6⟩:=Nan len ie
     have hex:∀ i,∃ cs:List Value,∀ ds,rs[i]?=some ds->(∀ j c,cs[j]?=some c->w.cell? (ad.add (i*r.length+j))=some c)/\jE w r cs ds:=by
      intro i
      cases hi:rs[i]? with
      |none=>exact⟨[],fun ds h=>by cases h⟩
      | some ds =>
       obtain⟨cs,h7,h8⟩:=h6 i ds hi;exact⟨cs,fun gy h=>by obtain rfl:=Option.some.inj h;exact⟨h7,h8⟩⟩
     have y3:∃ cf:Nat->List Value,∀ i ds,rs[i]?=some ds->(∀ j c,(cf i)[j]?=some c->w.cell? (ad.add (i*r.length+j))=some c)/\jE w r (cf i) ds:=⟨fun i=>(hex i).choose,fun i=>(hex i).choose_spec⟩;obtain⟨cf,uo⟩:=y3
     have hlen:∀ row∈rs,row.length=r.length:=fun row ie=>by
      obtain⟨i,hi⟩:=List.mem_iff_getElem?.1 ie;exact ((uo i row hi).2.len).2
     refine⟨[.rows r.length rs],_,[],_,[],rfl,rfl,?_,⟨rs,rfl,?_,fun row ie=>?_⟩,rfl,rfl⟩
     ·refine .rows _ ad len cap r.length rs (fun i j=>((cf i)[j]?).getD undef) h5 hc.2.1 (.inr rfl) hlen (fun i row hi j d hj=>?_) (fun i row hi j d hj=>?_)
      ·obtain⟨c,h7,h8⟩:=(uo i row hi).2.get hj
       refine⟨trivial,?_⟩;rw[(uo i row hi).1 j c h7,h7];rfl
      ·obtain⟨c,h7,h8⟩:=(uo i row hi).2.get hj
       rw[h7];exact h8
     ·have:=hw _ (.inl rfl)
      rw[Zbt,Zbt,h3]at this;rw[h5];exact Nat.le_trans (Nat.mul_le_mul_right _ (Nat.le_add_right ..)) this
     ·obtain⟨i,hi⟩:=List.mem_iff_getElem?.1 ie
      exact (uo i row hi).2.wts
    ·cases h
  ·
   rename_i fs hu;split at ht
   case h_2=>cases ht
   rename_i r hr
   cases hb:Nat.beq r.length (P.cellsOf t) with
   |false=>rw[hb]at ht;cases ht
   | true =>
    rw[hb,cond_true]at ht;simp only[Option.some.injEq]at ht;subst ht;simp only[Zb8]at hb;rw[hu]at h;split at h<;>rename_i heq<;>first|(cases heq;done)|skip
    all_goals first|(injection heq with heq;cases heq;done)|skip
    ·rename_i cs0 x0 cs1 fs2
     injection heq with heq
     injection heq with heq
     subst heq;split at h
     case isFalse=>cases h
     rename_i hc;simp only[Zbo,Prod.mk.injEq]at h;obtain⟨xs,h1,rfl,rfl⟩:=h;simp only[DataW.weights,hu]at hw
     obtain⟨ds,h2⟩:=Had (w:=w) (cs:=cs0) (f:=fun fd l=>DataW.trod enc P w 0 sp held fuel fd.type l) (rec:=Ja5 P n)
      (fun fd r l y hr' hy yw=>Daw n fuel hr' (x:=y.1) (ps:=y.2) hy yw) hr h1 hw (by omega)
     exact⟨ds,by simpa using h2⟩
    ·exact ((by assumption:∀ (a7v:Array Field),some (TypeDesc.struct fs)=some (TypeDesc.struct a7v)->False) fs rfl).elim
  ·cases ht
open Go.ChangeShapes Go.RowKit
def Abe:Ty->LS
 |.sl _ _=>.fz false
 |_=>.sc
def Kbp (P:Program)(t:TypeId):Bool:=match P.underlying t with
 |some (.struct _)=>true
 |_=>false
def oN (P:Program):List TypeId->Option (List (Bool×List LS)×List Ty)
 |[]=>some ([],[])
 | t :: ts => match Ja5 P 12 t, oN P ts with
  |some r,some (ps,gv)=>some ((Kbp P t,r.map Abe)::ps,r++gv)
  |_,_=>none
def Rbq:Gh:=⟨fun _=>.frz,fun _=>undef,fun _=>⟨0,0,none⟩⟩
theorem Cba:∀ (gv:List Ty),Yat (gv.map Abe)=gv.length/\kF (gv.map Abe)=0
 |[]=>⟨rfl,rfl⟩
 | t :: gv => by
  obtain⟨h1,h2⟩:=Cba gv;cases t<;>simp[Yat,kF,Abe,LS.cnt,LS.rcnt,h1,h2]<;>omega
theorem Fas {w:World}{ρ:List D}:∀ {gv:List Ty} {cs:List Value} {ds:List D} {i:Nat},jE w gv cs ds->(∀ j d,ds[j]?=some d->(aL.v (i+j)).val ρ=d)->sQ Rbq w ρ 0 i 0 (gv.map Abe) cs
 |[],cs,ds,i,h,_=>by obtain⟨rfl,rfl⟩:=h;rfl
 | t :: gv, cs, ds, i, h, hv => by
  obtain⟨c,oS,d,gy,rfl,rfl,h1,h2,h3⟩:=h;have hv0:(aL.v i).val ρ=d:=by have:=hv 0 d rfl;rwa[Zb9]at this
  have hr:(Abe t).rcnt=0:=by cases t<;>rfl
  have hc:(Abe t).cnt=1:=by cases t<;>rfl
  refine⟨c,oS,rfl,?_,?_⟩
  ·cases t with
   | int k =>
    obtain⟨n,rfl,-⟩:=h2;simp only[Abe,kV,hv0];exact h1.sc_inv rfl
   | bool =>
    obtain⟨n,rfl⟩:=h2;simp only[Abe,kV,hv0];exact h1.sc_inv rfl
   | str =>
    obtain⟨n,rfl,-⟩:=h2;simp only[Abe,kV,hv0];exact h1.sc_inv rfl
   | sl bytes row =>
    simp only[Abe,kV,hv0];exact⟨h1.mono fun b _=>⟨rfl,rfl⟩,fun e=>absurd e (by decide)⟩
  ·rw[hr,hc]
   refine Fas (i:=i+1) h3 fun j d' hj=>?_
   have:=hv (j+1) d' (by simpa using hj);rwa[show i+(j+1)=i+1+j by omega]at this
theorem Qab {P:Program}{W:World}{base:Nat}{n:Nat}{t:TypeId}{gv:List Ty}{v:Value}(h:Ja5 P n t=some gv)(hv:Value.okWide P W .any base t v):if Kbp P t=true then v=.agg v.cells.toList.toArray else v.cells.toList=[v]:=by
 cases n with
 |zero=>simp[Ja5]at h
 | succ n =>
  unfold Value.okWide at hv;unfold Kbp;simp only[Ja5]at h
  cases hu:P.underlying t with
  |none=>rw[hu]at h;cases h
  | some u =>
   rw[hu]at h hv
   cases u with
   | struct fs =>
    obtain⟨cs,rfl,-⟩:=hv;simp[Value.cells]
   | bool =>
    simp only[Cell.okWide,Cell.ok,hu]at hv;cases v<;>simp at hv
    simp[Value.cells]
   | int k =>
    simp only[Cell.okWide,Cell.ok,hu]at hv;cases v<;>simp at hv
    simp[Value.cells]
   | string =>
    simp only[Cell.okWide,Cell.ok,hu]at hv;cases v<;>simp at hv
    simp[Value.cells]
   | slice e =>
    simp only[Cell.okWide,Cell.ok,hu]at hv;cases v<;>simp at hv
    simp[Value.cells]
   |_=>cases h
theorem La1 {P:Program}{H:Type}{enc:TypeId×Value->H}{W:World}{sp:Nat->Bool}{held:Bool}{base:Nat}:∀ {ts:List TypeId} {vs:List Value} {ds:List (DataW H)} {ps:List MemPlace} {sps:List (Bool×List LS)} {gv:List Ty},
  oN P ts=some (sps,gv)->DataW.TrodAll enc P W 0 sp held ts vs ds ps->(∀ (j:Nat) t v,ts[j]?=some t->vs[j]?=some v->Value.okWide P W .any base t v)->(∀ m∈DataW.weightsEach P ts ds,m<=reachBytes) ->
  ∃ dd,WTs gv dd/\dd.length=gv.length/\gv.length=Mac sps/\jL sps=0/\∀ (ρ:List D) (i:Nat),(∀ j d,dd[j]?=some d->(aL.v (i+j)).val ρ=d)->kL Rbq W ρ 0 i 0 sps vs
 | [], vs, ds, ps, sps, gv, h, ht, _, _ => by
  simp only[oN,Option.some.injEq,Prod.mk.injEq]at h;obtain⟨rfl,rfl⟩:=h
  cases vs with
  |cons v vs=>cases ds<;>exact ht.elim
  |nil=>exact⟨[],rfl,rfl,rfl,rfl,fun ρ i _=>rfl⟩
 | t :: ts, vs, ds, ps, sps, gv, h, ht, hv, hw => by
  simp only[oN]at h;split at h
  case h_2=>cases h
  rename_i r sps' a2b hr hl;simp only[Option.some.injEq,Prod.mk.injEq]at h;obtain⟨rfl,rfl⟩:=h
  cases vs with
  |nil=>cases ds<;>exact ht.elim
  | cons v vs =>
   cases ds with
   |nil=>exact ht.elim
   | cons d ds =>
    obtain⟨p,q,⟨fuel,h1⟩,h2,rfl⟩:=ht;rw[uT]at hw;obtain⟨dd,h3⟩:=Daw 12 fuel hr h1 fun m hm=>hw m (Zbe _ hm)
    obtain⟨dd',h4,h5,h6,h7,h8⟩:=La1 hl h2 (fun j t' v' hj il=>hv (j+1) t' v' (by simpa using hj) (by simpa using il)) fun m hm=>hw m (Zbh _ hm)
    obtain⟨yt,rK⟩:=Cba r;obtain⟨uv,hn2⟩:=h3.len;refine⟨dd++dd',?_,by simp[hn2,h5],by simp only[Zbi,Mac,yt,h6],by simp only[jL,rK,h7],fun ρ i dv=>?_⟩
    ·have:∀ {a:List Ty} {x:List D},WTs a x->WTs (a++a2b) (x++dd'):=by
      intro a
      induction a with
      |nil=>intro x hx;simp only[WTs]at hx;subst hx;exact h4
      | cons t a ih =>
       intro x hx;simp only[WTs]at hx;obtain⟨y,ys,rfl,yf,xe⟩:=hx;simp only[Bch,WTs];exact⟨y,_,rfl,yf,ih xe⟩
     exact this h3.wts
    ·refine⟨v,vs,v.cells.toList,rfl,Fas h3 fun j d' hj=>dv j d' (by rw[Zbx (List.getElem?_eq_some_iff.1 hj).1];exact hj),Qab hr (hv 0 t v rfl rfl),?_⟩
     rw[yt,rK];refine h8 ρ (i+r.length) fun j d' hj=>?_
     rw[Zb0,<- hn2];exact dv _ _ (by rw[Zbw (by omega),Ace];exact hj)
theorem Baf {P:Program}{H:Type}{enc:TypeId×Value->H}(hl:laidOutB P=true){W W':World}(hb:Below W.heap.size W W'):∀ {ts:List TypeId} {vs:List Value} {ds:List (DataW H)} {ps:List MemPlace},(ts.all fun t=>P.readableRec t&&decide (t<P.types.size))=true ->
  DataW.TrodAll enc P W 0 (fun _=>true) true ts vs ds ps->DataW.TrodAll enc P W' 0 (fun b=>decide (b<W.heap.size)) true ts vs ds ps
 |[],[],[],ps,_,h=>h
 |[],[],_::_,ps,_,h=>h.elim
 |[],_::_,_,ps,_,h=>h.elim
 |_::_,[],_,ps,_,h=>h.elim
 |_::_,_::_,[],ps,_,h=>h.elim
 | t :: ts, v :: vs, d :: ds, ps, hr, h => by
  simp only[List.all_cons,Zbd,decide_eq_true_eq]at hr;obtain⟨p,q,h1,h2,rfl⟩:=h;refine⟨p,q,Below.trod hl hr.1.1 hr.1.2 h1 hb ?_,Baf hl hb hr.2 h2,rfl⟩;obtain⟨m,hm⟩:=h1;exact DataW.trod_lt m _ _ _ hm
theorem Xam {P : Program} {X : (Nat -> Ow) -> World -> Prop} {T : Nat -> Ent} {key : Nat} {s : Sig} {fn : Func} {c : Code} (hc : ∀ n, Daq P X T n key s) (hfn : P.funcs[s.fn]? = some fn) (hname : (fn.name == "runtime.NumGoroutine") = false) (hbody : fn.body = some c)
  {gv:List Ty} (od:oN P fn.params.toList=some (s.params,gv)) (gi:s.boxes=[]) (jt:s.results=[(false,[.sc])]) (hpure:∀ ds,WTs gv ds->∃ n,kH T n key ds=some [.bool true])
  {H:Type} {enc:TypeId×Value->H} {W:World} {base:Nat} {args:Array Value} {ds:List (DataW H)} {ps:List MemPlace}
  (dv:∀ (j:Nat) t v,fn.params[j]?=some t->args[j]?=some v->Value.okWide P W .any base t v) (ht:DataW.TrodAll enc P W 0 (fun _=>true) true fn.params.toList args.toList ds ps)
  (hw:∀ m∈DataW.weightsEach P fn.params.toList ds,m<=reachBytes) (hX:X (fun _=>.frz) W):Calls P s.fn args W fun e W'=>e=.returned (.bool true)/\Below W.heap.size W W':=by
 obtain⟨dd,h1,h2,h3,h4,h5⟩:=La1 (base:=base) od ht (fun j t v hj hv=>dv j t v (by simpa using hj) (by simpa using hv)) hw;obtain⟨n,hn⟩:=hpure dd h1
 have da:Cb2 s args.toList W Rbq dd:=by
  refine⟨?_,?_,?_,fun _ _=>rfl,fun b j _ e=>by cases e⟩
  ·rw[gi]
   exact h5 dd 0 fun j d hj=>by simp[aL.val,Zbk,hj]
  ·rw[gi];trivial
  ·rw[h2,h3,gi];rfl
 have fb:=hc n args.toList W Rbq dd _ da hX hn;have e:args.toList.toArray=args:=by simp
 rw[e]at fb
 rcases fb with ⟨-,cI⟩|⟨v,w',hr,-⟩
 ·refine Calls.mono cI fun en W' he=>?_
  cases en with
  | returned v =>
   obtain⟨G,us,rfl,hF,eu,-⟩:=he;rw[jt]at eu;obtain⟨u,cW,vs,rfl,hl,qu,fh⟩:=eu;simp only[Maj]at fh;subst fh;simp only[Zbg,if_false]at qu;subst qu;obtain⟨u',us2,e2,kc,-⟩:=hl;obtain⟨rfl,rfl⟩:=List.cons.inj e2;simp only[lZ]at kc
   have hu:u=.bool true:=by
    have:([D.bool true].getD 0 .undef)=D.bool true:=rfl;rw[this]at kc;exact kc.bool_inv
   subst hu;exact⟨rfl,hF.os,hF.tape,hF.output,hF.size,fun k hk=>(hF.keep k hk (.inl rfl)).1⟩
  |panicked c=>exact he.elim
  |outgrown=>exact he.elim
 ·rw[iM hfn hname hbody]at hr
  cases hr
theorem Abl {P : Program} {T : Nat -> Ent} {key : Nat} {s : Sig} {fn : Func} {c : Code} (hc : ∀ n, uS P T n key s) (hfn : P.funcs[s.fn]? = some fn) (hname : (fn.name == "runtime.NumGoroutine") = false) (hbody : fn.body = some c)
  {gv:List Ty} (od:oN P fn.params.toList=some (s.params,gv)) (gi:s.boxes=[]) (jt:s.results=[(false,[.sc])]) (hpure:∀ ds,WTs gv ds->∃ n,kH T n key ds=some [.bool true])
  {H:Type} {enc:TypeId×Value->H} {W:World} {base:Nat} {args:Array Value} {ds:List (DataW H)} {ps:List MemPlace}
  (dv:∀ (j:Nat) t v,fn.params[j]?=some t->args[j]?=some v->Value.okWide P W .any base t v) (ht:DataW.TrodAll enc P W 0 (fun _=>true) true fn.params.toList args.toList ds ps)
  (hw:∀ m∈DataW.weightsEach P fn.params.toList ds,m<=reachBytes):Calls P s.fn args W fun e W'=>e=.returned (.bool true)/\Below W.heap.size W W' :=
 Xam (X:=fun _ _=>True) (fun n vals w G ds gy hp _ h=>hc n vals w G ds gy hp h) hfn hname hbody od gi jt hpure dv ht hw trivial
open Go.ChangeShapes Go.RowKit in
theorem Xal {C : Checked} {spec : ChangeSpec} {T : Nat -> Ent} {key : Nat} {s : Sig} {fn : Func} {c : Code} {conds : List PathCond} (own : ownKnob C.prog.godebug = none) (laid : laidOutB C.prog = true) (hc : ∀ n, uS C.prog T n key s) (hfn : C.prog.funcs[s.fn]? = some fn) (hname : (fn.name == "runtime.NumGoroutine") = false) (hbody : fn.body = some c)
  {gv:List Ty} (od:oN C.prog fn.params.toList=some (s.params,gv)) (gi:s.boxes=[]) (jt:s.results=[(false,[.sc])]) (hpure:∀ ds,WTs gv ds->∃ n,kH T n key ds=some [.bool true])
  (a1t:(fn.params.toList.all fun t=>C.prog.readableRec t&&decide (t<C.prog.types.size))=true) {rt:TypeId} (oT:fn.resultTypes=#[rt]) (hrb:C.prog.underlying rt=some .bool)
  (sA:spec.vars=[]) (a1u:∀ (H:Type) (ds:List (DataW H)),ds.length=fn.params.size->spec.fn H ds={ results:=[.lit (.bool true)],args:=ds,vars:=[] }) (a1c:C.prog.inits.idxOf? s.fn=none)
  (os:Os) (started:os.Started) (H:Type) (enc:TypeId×Value->H)
  (witness:∃ (w:World) (tape:Tape) (i:Input),w.os=os/\(w.forCall tape i).Shaped C.prog/\i.vars=[]/\Input.okWide C.prog (w.forCall tape i) .any w.heap.size s.fn i /\
   spec.pre6 enc C.prog fn conds false (w.forCall tape i).memory i.args/\({}:Assume).holds C.prog (lone (Frame.enter C.prog s.fn i.args .normal) [] (w.forCall tape i))) :
  ReturnsInHanded {} C os s.fn .any (spec.pre6 enc C.prog fn conds false) (spec.post enc C.prog fn false true false false):=by
 refine returnsInHanded_of_change_sized own started a1c hfn witness ?_;intro W base args ds gs before dv hW _ dw _;have hW':=hW;obtain⟨p,q,hA,hV,rfl,nn,q0⟩:=hW;rw[sA]at hV;obtain⟨rfl,rfl⟩:=trodVars_none hV
 have hvt:spec.plain.varTypes C.prog=[]:=by
  simp[ChangeSpec.plain,DataSpec.varTypes,sA]
 rw[hvt,Zb4,Zb4]at dw
 have hlen:∀ {ts:List TypeId} {vs:List Value} {ds:List (DataW H)} {ps:List MemPlace},DataW.TrodAll enc C.prog W 0 (fun _=>true) true ts vs ds ps->ds.length=ts.length:=by
  intro ts
  induction ts with
  | nil =>
   intro vs ds ps h;cases vs<;>cases ds<;>first|rfl|exact h.elim
  | cons t ts ih =>
   intro vs ds ps h;cases vs<;>cases ds<;>first|exact h.elim|skip
   obtain⟨p,q,-,h2,-⟩:=h;simp[ih h2]
 have hl:=hlen hA;refine (Abl hc hfn hname hbody od gi jt hpure dv hA (fun m hm=>?_)).mono fun e W' ⟨he,bel⟩=>?_
 ·rw[Zb6]at dw
  simpa using dw m hm
 ·subst he
  have jq:=a1u H (ds++[]) (by simpa using hl);refine⟨_,rfl,ds,[],_,[],p,[],hW',?_,?_,?_,bel.frame _,fun h=>by cases h⟩
  ·rw[jq,oT]
   exact trodAll_mk1 (shut_bool hrb _)
  ·rw[jq]
   simp only[Zb4];exact Baf laid bel a1t hA
  ·rw[jq,sA]
   rfl
end Go.Proofs.YtcbkmmhkccnamaaGreat.Rf
namespace Go.Proofs.YtcbkmmhkccnamaaGreat.Rf
def iQ:List (Nat×TI)->Nat->Option TI
 |[],_=>none
 |(k,i)::r,t=>bif Nat.beq k t then some i else iQ r t
theorem Uah {P:Program}:∀ {l:List (Nat×TI)},(∀ p∈l,sV P p.1=some p.2)->vN P (iQ l)
 |[],_=>⟨fun t i h=>by cases h⟩
 | (k, i) :: r, h => ⟨fun t j ht => by
  simp only[iQ]at ht
  cases hb:Nat.beq k t with
  | true =>
   rw[hb,cond_true]at ht;simp only[Zb8]at hb;subst hb;rw[<- ht];exact h (k,i) Zbu
  | false =>
   rw[hb,cond_false]at ht;exact (Uah fun p hp=>h p (Zbn _ hp)).ok t j ht⟩
def Raf:List (Nat×Ent)->Nat->Ent
 |[],_=>.none
 |(k,e)::r,t=>bif Nat.beq k t then e else Raf r t
theorem Vav {P:Program}{T:Nat->Ent}{ti:Nat->Option TI}{sigs:List (Nat×Sig)}(h:∀ p∈sigs,Wah P T ti sigs p.1 p.2):∀ key s,(key,s)∈sigs->Wah P T ti sigs key s:=fun key s hm=>h (key,s) hm
theorem Bbi {P : Program} {T : Nat -> Ent} {E : Env} {key : Nat} {s : Sig} {fn : Func} {tm : Tm Unit} (h1 : P.funcs[s.fn]? = some fn) (h2 : (fn.name == "runtime.NumGoroutine") = false) (h3 : Waw E s fn = some tm) (h4 : T key = .tm tm) : Wah P T E.ti E.sigs key s :=
 .inl ⟨E,fn,tm,rfl,rfl,h1,h2,h3,h4⟩
theorem fnK {P : Program} {T : Nat -> Ent} {E : Env} {key : Nat} {s : Sig} {fn : Func} {tm : Tm Unit} (h1 : P.funcs[s.fn]? = some fn) (h : (fn.name == "runtime.NumGoroutine", Waw E s fn, T key) = (false, some tm, .tm tm)) : Wah P T E.ti E.sigs key s :=
 Bbi h1 (congrArg (·.1) h) (congrArg (·.2.1) h) (congrArg (·.2.2) h)
theorem fc {α:Type}{p:α->Prop}{a:α}{l:List α}(h:p a)(h':∀ x∈l,p x):∀ x∈a::l,p x:=List.forall_mem_cons.2 ⟨h,h'⟩
theorem fc0 {α:Type}{p:α->Prop}:∀ x∈([]:List α),p x:=List.forall_mem_nil _
theorem Jbm {T:Nat->Ent}{key:Nat}{ds r:List D}(h:Fun T key ds=some r):∃ n,kH T n key ds=some r:=Ga4.1 h
def apL (e d:Nat):Nat->List Nat
 |0=>[]
 |n+1=>(e-d*(n+1))::apL e d n
abbrev i64 (n:Int):D:=.int .i64 n
theorem wrap_i64 {n:Int}(h1:-9223372036854775808<=n)(h2:n<=9223372036854775807):IntKind.i64.wrap n=n:=IntWalk.i64_in n ⟨h1,h2⟩
section
variable {T:Nat->Ent} {β:Type}
end
theorem Jba {a b:Int}:(aU.bin .lss).run [i64 a,i64 b]=some [.bool (decide (a<b))]:=by simp[aU.run,Oat,Aat]
theorem Jbc {a b:Int}:(aU.bin .gtr).run [i64 a,i64 b]=some [.bool (decide (a>b))]:=by simp[aU.run,Oat,Aat]
theorem Jbb {a b:Int}:(aU.bin .leq).run [i64 a,i64 b]=some [.bool (decide (a<=b))]:=by simp[aU.run,Oat,Aat]
theorem Jbd {a b:Int}:(aU.bin .geq).run [i64 a,i64 b]=some [.bool (decide (a ≥ b))]:=by simp[aU.run,Oat,Aat]
theorem Ib9 {a b:Int}:(aU.bin .neq).run [i64 a,i64 b]=some [.bool (!(a==b))]:=by simp[aU.run,Oat,Aat,bne]
theorem Jbe {a b:Int}:(aU.bin .eql).run [i64 a,i64 b]=some [.bool (a==b)]:=by simp[aU.run,Oat,Aat]
theorem Jbh {a b:Int}(h1:-9223372036854775808<=a+b)(h2:a+b<=9223372036854775807):(aU.bin .add).run [i64 a,i64 b]=some [i64 (a+b)]:=by simp[aU.run,Oat,Aat,wrap_i64 h1 h2]
theorem Sax {a b:Int}(h1:-9223372036854775808<=a-b)(h2:a-b<=9223372036854775807):(aU.bin .sub).run [i64 a,i64 b]=some [i64 (a-b)]:=by simp[aU.run,Oat,Aat,wrap_i64 h1 h2]
theorem Ib8 {b:Bool}:aU.not.run [.bool b]=some [.bool (!b)]:=rfl
theorem Jbf {a b:Bool}:(aU.eqb true).run [.bool a,.bool b]=some [.bool (!(a==b))]:=rfl
section
variable {T:Nat->Ent}
end
def upto {α:Type}(z:α)(ys:List α)(i:Nat):List α:=ys.take i++Zbq (ys.length-i) z
theorem Oaw {α:Type}(z:α)(ys:List α):upto z ys 0=Zbq ys.length z:=by simp[upto]
theorem Uae {α:Type}(z:α)(ys:List α):upto z ys ys.length=ys:=by simp[upto]
theorem Uad {α:Type}(z:α)(ys:List α){i:Nat}(h:i<=ys.length):(upto z ys i).length=ys.length:=by simp[upto];omega
theorem Uac {α:Type}(z:α)(ys:List α){i:Nat}{y:α}(h:ys[i]?=some y):(upto z ys i).set i y=upto z ys (i+1):=by
 have hlt:=(List.getElem?_eq_some_iff.1 h).1;apply List.ext_getElem?;intro j;rw[List.getElem?_set];unfold upto;rw[Zbi,Zb1,Acj];by_cases e:i=j
 ·subst e
  rw[if_pos rfl,if_pos (by omega),Zbx (by simp;omega),Acs,if_pos (by omega)];exact h.symm
 ·rw[if_neg e]
  rcases Zbz j i with hj|hj
  ·rw[Zbx (by simp;omega),Zbx (by simp;omega),Acs,Acs,if_pos hj,if_pos (by omega)]
  ·rw[Zbw (by simp;omega),Zbw (by simp;omega),Bcq,Bcq]
   simp only[Zb1];by_cases h2:j<ys.length
   ·rw[if_pos (by omega),if_pos (by omega)]
   ·rw[if_neg (by omega),if_neg (by omega)]
section
variable {T:Nat->Ent} {β:Type}
noncomputable def Er (T:Nat->Ent)(t:Tm β)(ρ:List D):Option (Kind×List D):=(Ev T t ρ).map fun o=>(o.kind,o.vals)
def Vbm (r:Kind×List D):Option (List D):=if r.1=.ret then some r.2 else none
def Vbs {α:Type}(d:D)(a b:Option α):Option α:=match d with
 |.bool true=>a
 |.bool false=>b
 |_=>none
def gdR (d:D)(w:Bool):Bool:=match d with
 |.bool b=>b==w
 |_=>false
theorem Sbu {f:Nat}{t:Tm Unit}(h:T f=.tm t)(args:List D):Fun T f args=(Er T t args).bind Vbm:=by
 rw[Obs h,Er];cases Ev T t args<;>rfl
theorem Kby (k:Kind)(xs:List aL)(e:β)(ρ:List D):Er T (.leaf k xs e) ρ=some (k,xs.map (·.val ρ)):=by
 rw[Er,Kbw];rfl
noncomputable def stepT (T:Nat->Ent)(k:Tm β)(ρ:List D)(n:Nat)(a:Option (List D)):Option (Kind×List D):=a.bind fun ds=>if ds.length=n then Er T k (ρ++ds) else none
noncomputable def Sbj (T:Nat->Ent)(t e:Tm β)(ρ:List D)(c:D):Option (Kind×List D):=Vbs c (Er T t ρ) (Er T e ρ)
noncomputable def ltT (T:Nat->Ent)(p:aU)(xs:List aL)(n:Nat)(k:Tm β)(ρ:List D)(w:Bool)(c:D):Option (Kind×List D) :=
 if gdR c w=true then stepT T k ρ n (p.run (xs.map (·.val ρ))) else Er T k (ρ++Zbq n .undef)
noncomputable def Kbi (T:Nat->Ent)(f:Nat)(xs:List aL)(n:Nat)(os:List aL)(k:Tm β)(ρ:List D)(w:Bool)(c:D):Option (Kind×List D) :=
 if gdR c w=true then stepT T k ρ n (Fun T f (xs.map (·.val ρ))) else Er T k (ρ++(Zbq (n-os.length) .undef++os.map (·.val ρ)))
theorem Obz (p:aU)(xs:List aL)(n:Nat)(k:Tm β)(ρ:List D):Er T (.lt none p xs n k) ρ=stepT T k ρ n (p.run (xs.map (·.val ρ))):=by
 rw[Er,Obw,stepT];simp only[gOn,if_true]
 cases p.run (xs.map (·.val ρ)) with
 |none=>rfl
 | some ds =>
  simp only[Zbj];split<;>rfl
theorem Oby (a:aL)(w:Bool)(p:aU)(xs:List aL)(n:Nat)(k:Tm β)(ρ:List D):Er T (.lt (some (a,w)) p xs n k) ρ=ltT T p xs n k ρ w (a.val ρ):=by
 rw[Er,Obw,ltT,stepT];have:gOn ρ (some (a,w))=gdR (a.val ρ) w:=rfl;rw[this]
 cases gdR (a.val ρ) w with
 |false=>rfl
 | true =>
  simp only[if_true]
  cases p.run (xs.map (·.val ρ)) with
  |none=>rfl
  | some ds =>
   simp only[Zbj];split<;>rfl
theorem Hbw (f:Nat)(xs:List aL)(n:Nat)(os:List aL)(k:Tm β)(ρ:List D):Er T (.call none f xs n os k) ρ=stepT T k ρ n (Fun T f (xs.map (·.val ρ))):=by
 rw[Er,Cb0,stepT];simp only[gOn,if_true]
 cases Fun T f (xs.map (·.val ρ)) with
 |none=>rfl
 | some ds =>
  simp only[Zbj];split<;>rfl
theorem Hbv (a:aL)(w:Bool)(f:Nat)(xs:List aL)(n:Nat)(os:List aL)(k:Tm β)(ρ:List D):Er T (.call (some (a,w)) f xs n os k) ρ=Kbi T f xs n os k ρ w (a.val ρ):=by
 rw[Er,Cb0,Kbi,stepT];have:gOn ρ (some (a,w))=gdR (a.val ρ) w:=rfl;rw[this]
 cases gdR (a.val ρ) w with
 |false=>rfl
 | true =>
  simp only[if_true]
  cases Fun T f (xs.map (·.val ρ)) with
  |none=>rfl
  | some ds =>
   simp only[Zbj];split<;>rfl
theorem Ob0 (c:aL)(t e:Tm β)(ρ:List D):Er T (.ite c t e) ρ=Sbj T t e ρ (c.val ρ):=by
 rw[Er,Obx,Sbj]
 cases c.val ρ with
 |bool b=>cases b<;>rfl
 |_=>rfl
noncomputable def nK (T:Nat->Ent)(i:Nat)(k:Tm β)(ρ:List D)(r:Option (Kind×List D)):Option (Kind×List D):=r.bind fun r=>if r.1=.yield i then Er T k (ρ++r.2) else some r
theorem Wam {i:Nat}{k:Tm β}{ρ ds:List D}:nK T i k ρ (some (.yield i,ds))=Er T k (ρ++ds):=by simp[nK]
theorem Ya0 {i:Nat}{k:Tm β}{ρ ds:List D}:nK T i k ρ (some (.ret,ds))=some (.ret,ds):=by simp[nK]
theorem Wao {i:Nat}{k:Tm β}{ρ ds:List D}:nK T i k ρ (some (.cont,ds))=some (.cont,ds):=by simp[nK]
theorem Fbg {i j:Nat}{k:Tm β}{ρ ds:List D}(h:j≠i):nK T i k ρ (some (.yield j,ds))=some (.yield j,ds):=by simp[nK,h]
theorem Kbz (i:Nat)(t k:Tm β)(ρ:List D):Er T (.bind i t k) ρ=nK T i k ρ (Er T t ρ):=by
 rw[Er,Kbx,nK,Er]
 cases Ev T t ρ with
 |none=>rfl
 | some o =>
  simp only[Zbj,Acm];split<;>rfl
theorem Ibb {t:Tm β}{ρ:List D}{k:Kind}{ds:List D}(h:Er T t ρ=some (k,ds)):∃ o,Ev T t ρ=some o/\o.kind=k/\o.vals=ds:=by
 unfold Er at h
 cases e:Ev T t ρ with
 |none=>rw[e]at h;cases h
 | some o =>
  rw[e,Acm]at h;have:=Option.some.inj h;exact⟨o,rfl,congrArg Prod.fst this,congrArg Prod.snd this⟩
theorem Taa {γ:Type}{body:Tm β}{ρ:List D}(m:γ->Nat)(inv:γ->Prop)(vs:γ->List D)(Q:Kind×List D->Prop)
  (h:∀ c,inv c->∃ r,Er T body (ρ++vs c)=some r/\(r.1=.cont/\(∃ c',inv c'/\m c'<m c/\r.2=vs c')\/r.1≠.cont/\Q r)) :
  ∀ (n:Nat) c,m c<=n->inv c->∀ xs:List aL,xs.map (·.val ρ)=vs c->∃ r,Er T (.loop xs body) ρ=some r/\Q r:=by
 have key:∀ (n:Nat) c,m c<=n->inv c->∃ o,Lp T body ρ (vs c)=some o/\Q (o.kind,o.vals):=by
  intro n
  induction n with
  | zero =>
   intro c hm hc;obtain⟨⟨k,ds⟩,h1,h2⟩:=h c hc;obtain⟨o,h3,rfl,rfl⟩:=Ibb h1
   rcases h2 with ⟨-,c',-,h5,-⟩|⟨h4,h5⟩
   ·omega
   ·exact⟨o,by rw[Kbu,h3,Zbj,if_neg h4],h5⟩
  | succ n ih =>
   intro c hm hc;obtain⟨⟨k,ds⟩,h1,h2⟩:=h c hc;obtain⟨o,h3,rfl,rfl⟩:=Ibb h1
   rcases h2 with ⟨h4,c',h5,h6,h7⟩|⟨h4,h5⟩
   ·obtain⟨o',h8,h9⟩:=ih c' (by omega) h5
    refine⟨o',?_,h9⟩;rw[Kbu,h3,Zbj,if_pos h4];show Lp T body ρ o.vals=_
    rw[show o.vals=vs c' from h7,h8]
   ·exact⟨o,by rw[Kbu,h3,Zbj,if_neg h4],h5⟩
 intro n c hm hc xs hx;obtain⟨o,h1,h2⟩:=key n c hm hc;exact⟨_,by rw[Er,Kbv,hx,h1,Acm],h2⟩
end
def sU (ok:Nat->Bool):Nat->Bool
 |0=>true
 |n+1=>sU ok n&&ok n
theorem jV {ok:Nat->Bool}:∀ {n:Nat},sU ok n=true↔∀ i,i<n->ok i=true
 |0=>by simp[sU]
 | n + 1 => by
  simp only[sU,Zbd,jV (n:=n)];constructor
  ·rintro⟨h1,h2⟩ i hi
   rcases Zbz i n with h|h
   ·exact h1 i h
   ·obtain rfl:i=n:=by omega
    exact h2
  ·exact fun h=>⟨fun i hi=>h i (by omega),h n (by omega)⟩
theorem Eaz {ok:Nat->Bool}{n:Nat}:sU ok n=false↔∃ i,i<n/\ok i=false:=by
 constructor
 ·intro h
  apply Classical.byContradiction;intro hn
  have:sU ok n=true:=jV.2 fun i hi=>by
   cases e:ok i with
   |true=>rfl
   |false=>exact absurd ⟨i,hi,e⟩ hn
  rw[this]at h;cases h
 ·rintro⟨i,hi,h⟩
  cases e:sU ok n with
  |false=>rfl
  |true=>rw[jV.1 e i hi]at h;cases h
theorem Waa {p q:Nat->Bool}:∀ {n:Nat},sU (fun i=>p i&&q i) n=(sU p n&&sU q n)
 |0=>rfl
 | n + 1 => by
  simp only[sU,Waa (n:=n)];cases sU p n<;>cases sU q n<;>cases p n<;>cases q n<;>rfl
theorem Mag {p q:Nat->Bool}:∀ {n:Nat},(∀ i,i<n->p i=q i)->sU p n=sU q n
 |0,_=>rfl
 |n+1,h=>by simp only[sU,Mag (n:=n) fun i hi=>h i (by omega),h n (by omega)]
section
variable {T:Nat->Ent} {β:Type}
end
theorem Nb0 {d:D}:aU.id.run [d]=some [d]:=rfl
def inR (x lo hi:Int):Bool:=decide (lo<=x)&&decide (x<=hi)
end Go.Proofs.YtcbkmmhkccnamaaGreat.Rf
