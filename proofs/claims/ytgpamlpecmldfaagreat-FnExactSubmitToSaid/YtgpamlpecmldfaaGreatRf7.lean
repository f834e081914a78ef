import Derived.Test.YtgpamlpecmldfaaGreatRf6
import Derived.SizedLaws
import Derived.Carry
import Derived.ChangeOld
import Derived.ChangeShapes
import Derived.RowKit
import Derived.IntWalk
set_option linter.all false
open Bool renaming and_eq_true → Rbu, false_eq_true → Sbb
open List renaming getElem?_eq_some_iff → Rbw, mem_append_left → Rbx, mem_singleton → Rby, getElem?_eq_getElem → Rbz, mem_append_right → Rb0, getElem?_cons_zero → Rb2, append_assoc → Rb3, mem_cons → Rb4, getD_eq_getElem?_getD → Rb5, getElem?_append_right → Rb6, mem_cons_of_mem → Rb7, length_append → Rb8, getElem?_append_left → Rb9, mem_of_getElem? → Sba, mem_append → Sbd, mem_cons_self → Sbe, replicate → Sbi, map_cons → Sbk, length_cons → Sbm, length_take → Sbn, all_eq_true → Sbp, length_map → Sbr, append_nil → Sbu, map_nil → Sbw, getElem?_map → Sbx, getElem?_take → Sb0, nil_append → Tba, mem_iff_getElem? → Tbe, filter_cons → Tbs, length_replicate → Tbz, cons_append → Tb6, getElem?_replicate → Ubj, getElem?_range → Vbd
open List.cons renaming injEq → Tbj, inj → Vbp
open Nat renaming add_assoc → Sbf, le_refl → Sbg, lt_or_ge → Sbh, zero_add → Sbo, beq_eq → Sbq, add_zero → Sbz, add_sub_cancel_left → Sb2, ble_eq → Tbc
open Option renaming bind_eq_some_iff → Rbt, bind_some → Rb1, map_eq_some_iff → Sbc, map_some → Sb9, getD_some → Tbw
open Option.some renaming injEq → Rbv, inj → Sbs
open Prod.mk renaming injEq → Sbj, inj → Ubb
namespace Go.Proofs.YtgpamlpecmldfaaGreat.Rf
section
variable (w:World)
def owC (ad:Addr):Nat->List BO->List Value
 |_,[]=>[]
 |off,s::r=>(match s with | .ow _=>[(w.cell? (ad.add off)).getD undef] | _=>[])++owC ad (off+1) r
def Rag:LR->Value->List Value
 |.ow _,v=>[v]
 |.bx cs,.pointer (some ad)=>owC w ad 0 cs
 |_,_=>[]
def owL:List LR->List Value->List Value
 |s::ss,v::vs=>Rag w s v++owL ss vs
 |_,_=>[]
def owR:List (Bool×List LR)->List Value->List Value
 |(a,ss)::rs,u::us=>owL w ss (if a=true then u.cells.toList else [u])++owR rs us
 |_,_=>[]
def owB (bx:Nat->Addr):Nat->List (Bool×List (BS×BO))->List Value
 |_,[]=>[]
 |b,(ro,cs)::r=>if ro=true then owB bx (b+1) r else owC w (bx b) 0 (cs.map (·.2))++owB bx (b+1) r
end
def Na8:LR->Value->List Addr
 |.bx _,.pointer (some ad)=>[ad]
 |_,_=>[]
def Ka7:List LR->List Value->List Addr
 |s::ss,v::vs=>Na8 s v++Ka7 ss vs
 |_,_=>[]
def Gaq:List (Bool×List LR)->List Value->List Addr
 |(a,ss)::rs,u::us=>Ka7 ss (if a=true then u.cells.toList else [u])++Gaq rs us
 |_,_=>[]
theorem Uab (s:LR)(v:Value):(Na8 s v).length<=(match s with|.bx _=>1|_=>0):=by
 unfold Na8;split<;>simp
theorem Oaa:∀ (ss:List LR) (vs:List Value),(Ka7 ss vs).length<=bxL ss
 |[],vs=>by simp[Ka7]
 |s::ss,[]=>by simp[Ka7]
 | s :: ss, v :: vs => by
  have h1:=Uab s v;have h2:=Oaa ss vs;simp only[Ka7,Rb8];cases s<;>simp only[bxL]at *<;>omega
theorem Na9:∀ (rs:List (Bool×List LR)) (us:List Value),(Gaq rs us).length<=jR rs
 |[],us=>by simp[Gaq]
 |(a,ss)::rs,[]=>by simp[Gaq]
 | (a, ss) :: rs, u :: us => by
  have h1:=Oaa ss (if a=true then u.cells.toList else [u]);have h2:=Na9 rs us;simp only[Gaq,Rb8,jR];omega
def Pao:List BO->Bool
 |[]=>true
 |.ow _::_=>false
 |_::r=>Pao r
section
variable {E:Env} {F:bE} {σ eE:Nat->Option aP} {ρ:List D} {a:Act} {w w':World} {G G':Gh} {s:Sig} {Z:Take} {gd:Bool} {nr nb y0:Nat} {hs:List Value} {adn:Addr} {ds:List D}
def Oaj (ρ:List D)(l:List Step):Prop:=∀ m y,.prim (.dep m) [.v y] 0∈l->nO m ((aJ.v y).val ρ)=true
structure Aft (E:Env) (F:bE) (σ eE:Nat->Option aP) (ρ:List D) (a:Act) (w:World) (G:Gh) (s:Sig) (Z:Take) (G':Gh) (w':World) (y0:Nat) (ds:List D):Prop where
 B:Oak E F σ ρ a w G s Z G' w'
 val:∀ i,i<ds.length->(aJ.v (y0+i)).val ρ=ds.getD i .undef
 known:∀ z∈Z.deps,iL eE z.1 z.2
def UOk (se:Nat->Prop)(eE:Nat->Option aP)(ρ:List D)(G2:Gh)(w':World)(nr nb y0:Nat)(u:List (Nat×aP)):Prop :=
 ∀ k c,(k,c)∈u->(∃ q m i,k=kR (nr+q)/\c=.root (.v (y0+i)) m 0 .live/\Rp G2.own w' (nr+q) [] m (G2.hdr (nr+q)) ((aJ.v (y0+i)).val ρ)) \/
  (k=kB nb/\∃ ls,c=.box false ls/\Jad eE ρ G2 w' nb false ls/\se (G2.bx nb).block)
theorem UOk.append {se:Nat->Prop}{G2:Gh}{u v:List (Nat×aP)}(h:UOk se eE ρ G2 w' nr nb y0 u)(h':UOk se eE ρ G2 w' nr nb y0 v):UOk se eE ρ G2 w' nr nb y0 (u++v):=fun k c hc=>(Sbd.1 hc).elim (h k c) (h' k c)
def UIn (eE:Nat->Option aP)(nr:Nat)(u:List (Nat×aP)):Prop:=∀ k c,(k,c)∈u->(eE k).isSome/\∀ q,k=kR (nr+q)->q<bR
theorem UIn.left {u v:List (Nat×aP)}(h:UIn eE nr (u++v)):UIn eE nr u:=fun k c hc=>h k c (Rbx _ hc)
theorem UIn.right {u v:List (Nat×aP)}(h:UIn eE nr (u++v)):UIn eE nr v:=fun k c hc=>h k c (Rb0 _ hc)
theorem Wa1 {own':Nat->Ow}{q:Nat}(hq:q<bR){v:Value}(hv:hs[q]?=some v):(eT gd ρ G w s Z nr nb own' hs adn).hdr (nr+q)=v:=by
 simp only[eT];rw[if_pos ⟨by omega,by omega⟩,Sb2,Rb5,hv];rfl
variable (A:Aft E F σ eE ρ a w G s Z G' w' y0 ds)
include A
theorem Uac {i q off:Nat}{t:BO}{v:Value}(h:Caj G'.own w' ds i q t v)(hi:i<ds.length)(fp:Z.deps=[]\/∀ m,t=.ow m->nO m ((aJ.v (y0+i)).val ρ)=true)
  (gv:gd=false\/∀ m,t≠.ow m) (hh:∀ m,t=.ow m->hs[q]?=some v) (hu:UIn eE nr (iZ Z.deps (y0+i) (nr+q) t).2.1) :
  (iZ Z.deps (y0+i) (nr+q) t).2.2=nr+q+t.q/\aB eE ρ (eT gd ρ G w s Z nr nb G'.own hs adn) w' (iZ Z.deps (y0+i) (nr+q) t).1 v/\UOk (fun b=>¬ (b<w.heap.size/\Kal ((callG ρ G w s Z).own b)=false)) eE ρ (eT gd ρ G w s Z nr nb G'.own hs adn) w' nr nb y0 (iZ Z.deps (y0+i) (nr+q) t).2.1:=by
 cases t with
 | sc =>
  refine⟨rfl,?_,by simp[UOk,iZ]⟩;simp only[iZ,aB];rw[A.val i hi];exact h
 | fz =>
  refine⟨rfl,?_,by simp[UOk,iZ]⟩;simp only[iZ,aB];simp only[Caj]at h;rw[A.val i hi];exact⟨⟨h.one,A.known⟩,fun _=>⟨A.B.rd h,fun e=>absurd e (by decide),trivial⟩⟩
 | ow m =>
  have hg:gd=false:=gv.resolve_right fun e=>e m rfl
  simp only[Caj]at h;have kb:=hu (kR (nr+q)) _ (by simp only[iZ];exact Rby.2 rfl);have yh:=Wa1 (gd:=gd) (ρ:=ρ) (G:=G) (w:=w) (s:=s) (Z:=Z) (nr:=nr) (nb:=nb) (adn:=adn) (own':=G'.own) (kb.2 q rfl) (hh m rfl);have sy:Z.deps=[]\/nO m (ds.getD i .undef)=true:=fp.imp id fun e=>by rw[<- A.val i hi];exact e m rfl
  have fX:=A.B.give (gd:=gd) (nr:=nr) (nb:=nb) (hs:=hs) (adn:=adn) h sy hg (kb.2 q rfl);refine⟨rfl,?_,?_⟩
  ·simp only[iZ,aB]
   exact⟨yh.symm,kb.1,h.one⟩
  ·intro k c hc
   simp only[iZ,Rby,Sbj]at hc;refine .inl ⟨q,m,i,hc.1,hc.2,?_⟩;rw[yh,A.val i hi];exact fX
 | dead =>
  refine⟨rfl,?_,by simp[UOk,iZ]⟩;simp only[iZ,aB];exact h
theorem yK:∀ {cs:List BO} {i q off:Nat} {ad:Addr},Bai G'.own w' ds ad off i q cs->i+cs.length<=ds.length->(Z.deps=[]\/Oaj ρ (mP (y0+i) cs))->(gd=false\/Pao cs=true) ->
  (∀ j v,(owC w' ad off cs)[j]?=some v->hs[q+j]?=some v)->UIn eE nr (dJ Z.deps (y0+i) (nr+q) cs).2.1 ->
  (dJ Z.deps (y0+i) (nr+q) cs).2.2=nr+q+qC cs/\(dJ Z.deps (y0+i) (nr+q) cs).1.length=cs.length/\(owC w' ad off cs).length=qC cs /\
  (∀ j l,(dJ Z.deps (y0+i) (nr+q) cs).1[j]?=some l->∃ v,w'.cell? (ad.add (off+j))=some v/\w'.frozen? (ad.add (off+j))=false/\aB eE ρ (eT gd ρ G w s Z nr nb G'.own hs adn) w' l v) /\
  UOk (fun b=>¬ (b<w.heap.size/\Kal ((callG ρ G w s Z).own b)=false)) eE ρ (eT gd ρ G w s Z nr nb G'.own hs adn) w' nr nb y0 (dJ Z.deps (y0+i) (nr+q) cs).2.1
 |[],i,q,off,ad,_,_,_,_,_,_=>⟨rfl,rfl,rfl,by simp[dJ],by simp[UOk,dJ]⟩
 | t :: cs, i, q, off, ad, h, hi, fp, gv, hh, hu => by
  obtain⟨⟨v,h1,h2,h3⟩,h4⟩:=h;simp only[Sbm]at hi;simp only[dJ]at hu;have hlen:∀ t:BO,(match t with|.ow _=>[(w'.cell? (ad.add off)).getD undef]|_=>([]:List Value)).length=t.q:=fun t=>by cases t<;>rfl
  have hb:=Uac A (gd:=gd) (nr:=nr) (nb:=nb) (hs:=hs) (adn:=adn) (off:=off) h3 (by omega) (fp.imp id fun e m hm=>e m _ (by subst hm;simp only[mP];exact Sbe))
   (gv.imp id fun e m hm=>by subst hm;simp[Pao]at e) (fun m hm=>by
    subst hm;have:=hh 0 v (by simp[owC,h1]);simpa using this) hu.left
  obtain⟨h5,h6,h7⟩:=hb
  have cL:=yK (cs:=cs) (i:=i+1) (q:=q+t.q) (off:=off+1) (ad:=ad) h4 (by omega) (fp.imp id fun e m y hm=>e m y (by
    cases t with
    |ow m'=>simp only[mP];exact Rb7 _ hm
    |_=>exact hm)) (gv.imp id fun e=>by cases t<;>simp[Pao]at e ⊢<;>exact e) (fun j x hj=>by
    have:=hh (t.q+j) x (by
     simp only[owC];rw[Rb6 (by rw[hlen];omega),hlen,Sb2];exact hj)
    rwa[<- Sbf]at this) (by
    have:=hu.right;rw[h5]at this;rw[<- Sbf,<- Sbf];exact this)
  rw[<- Sbf,<- Sbf]at cL;obtain⟨h8,h9,du,eC,gi⟩:=cL;simp only[dJ];rw[h5];refine⟨by rw[h8];simp only[qC];omega,by simp[h9],by simp only[owC,Rb8,hlen,du,qC],fun j l hj=>?_,h7.append gi⟩
  cases j with
  | zero =>
   simp only[Rb2,Rbv]at hj;subst hj;exact⟨v,h1,h2,h6⟩
  | succ j =>
   obtain⟨v',jm,lg,nc⟩:=eC j l (by simpa using hj);rw[show off+(j+1)=off+1+j by omega];exact⟨v',jm,lg,nc⟩
theorem Pah (tS:eE (kB nb)=none\/True){i q:Nat}{t:LR}{v:Value}(h:kM G'.own w' ds s.boxes.length i q t v)(hi:i+t.n<=ds.length)(fp:Z.deps=[]\/Oaj ρ (Pa9 (y0+i) [t]))
  (gv:gd=false\/bxL [t]=0) (hh:∀ j x,(Rag w' t v)[j]?=some x->hs[q+j]?=some x) (rz:∀ ad∈Na8 t v,ad=adn) (hu:UIn eE nr (bX gd Z.deps nb (y0+i) (nr+q) t).2.1) :
  (bX gd Z.deps nb (y0+i) (nr+q) t).2.2=nr+q+t.q/\(Rag w' t v).length=t.q/\aB eE ρ (eT gd ρ G w s Z nr nb G'.own hs adn) w' (bX gd Z.deps nb (y0+i) (nr+q) t).1 v/\UOk (fun b=>¬ (b<w.heap.size/\Kal ((callG ρ G w s Z).own b)=false)) eE ρ (eT gd ρ G w s Z nr nb G'.own hs adn) w' nr nb y0 (bX gd Z.deps nb (y0+i) (nr+q) t).2.1:=by
 cases t with
 | sc =>
  refine⟨rfl,by cases v<;>rfl,?_,by simp[UOk,bX]⟩;simp only[LR.n]at hi;simp only[bX,aB];rw[A.val i (by omega)];exact h
 | fz =>
  refine⟨rfl,by cases v<;>rfl,?_,by simp[UOk,bX]⟩;simp only[LR.n]at hi;simp only[kM]at h;simp only[bX,aB];rw[A.val i (by omega)];exact⟨⟨h.one,A.known⟩,fun _=>⟨A.B.rd h,fun e=>absurd e (by decide),trivial⟩⟩
 | ow m =>
  simp only[LR.n]at hi;simp only[kM]at h
  cases gd with
  | true =>
   refine⟨rfl,rfl,?_,by simp[UOk,bX]⟩;simp only[bX,cond_true,aB];rw[A.val i (by omega)];exact⟨⟨h.one,A.known⟩,fun _=>⟨A.B.giveGd h rfl,fun e=>absurd e (by decide),trivial⟩⟩
  | false =>
   have kb:=hu (kR (nr+q)) _ (by simp only[bX,cond_false];exact Rby.2 rfl);have yh:=Wa1 (gd:=false) (ρ:=ρ) (G:=G) (w:=w) (s:=s) (Z:=Z) (nr:=nr) (nb:=nb) (adn:=adn) (own':=G'.own) (kb.2 q rfl) (hh 0 v rfl)
   have sy:Z.deps=[]\/nO m (ds.getD i .undef)=true:=fp.imp id fun e=>by
    rw[<- A.val i (by omega)];exact e m _ (by simp only[Pa9];exact Sbe)
   have fX:=A.B.give (gd:=false) (nr:=nr) (nb:=nb) (hs:=hs) (adn:=adn) h sy rfl (kb.2 q rfl);refine⟨rfl,rfl,?_,?_⟩
   ·simp only[bX,cond_false,aB]
    exact⟨yh.symm,kb.1,h.one⟩
   ·intro k c hc
    simp only[bX,cond_false,Rby,Sbj]at hc;refine .inl ⟨q,m,i,hc.1,hc.2,?_⟩;rw[yh,A.val i (by omega)];exact fX
 | rp z =>
  refine⟨rfl,by cases v<;>rfl,?_,by simp[UOk,bX]⟩;simp only[LR.n]at hi;simp only[kM]at h;simp only[bX,aB];rw[A.val i (by omega)];refine⟨⟨h.1,A.known⟩,fun _=>?_⟩
  rcases h.2 with h1|⟨ad,row,h1,h2,h3⟩
  ·exact .inl h1
  ·exact .inr ⟨ad,row,h1,h2,A.B.rd h3⟩
 | bx cs =>
  have hg:gd=false:=gv.resolve_right fun e=>by simp[bxL]at e
  simp only[LR.n]at hi;simp only[kM]at h;obtain⟨ad,rfl,h1,h2,h3⟩:=h;have a4r:ad=adn:=rz ad (by simp[Na8]);simp only[bX]at hu;have hu':UIn eE nr (dJ Z.deps (y0+i) (nr+q) cs).2.1:=fun k c hc=>hu k c (Rb7 _ hc)
  obtain⟨h4,h5,h6,h7,h8⟩:=yK A (gd:=gd) (nb:=nb) (hs:=hs) (adn:=adn) h3 hi (fp.imp id fun e m y hm=>e m y (by simp only[Pa9];exact Rbx _ hm)) (.inl hg) hh hu';have mm:=(hu (kB nb) _ Sbe).1
  have gw:(eT gd ρ G w s Z nr nb G'.own hs adn).bx nb=ad:=by
   simp only[eT,if_pos trivial];exact a4r.symm
  have wj:¬ (ad.block<w.heap.size/\Kal ((callG ρ G w s Z).own ad.block)=false):=by
   ·rintro⟨hb,ir⟩
    cases ma:(callG ρ G w s Z).own ad.block with
    |frz=>have:=(A.B.keep hb (.inl ma)).2;rw[h2,ma]at this;cases this
    |oth=>have:=(A.B.keep hb (.inr ma)).2;rw[h2,ma]at this;cases this
    |slc _ _=>rw[ma]at ir;cases ir
    | box j =>
     have:=(A.B.hF.boxes ad.block j hb ma).1;rw[h2]at this
     injection this with this
     have hgc:∃ c,Pae Z.ptrs c 0 s.boxes=some j:=by
      simp only[callG]at ma
      cases hgb:G.own ad.block with
      | box c =>
       rw[hgb]at ma;dsimp only at ma;split at ma
       ·rename_i x hx
        split at ma
        ·injection ma with ma
         exact⟨c,by rw[hx,ma]⟩
        ·cases ma
       ·cases ma
      | slc r p =>
       rw[hgb]at ma;dsimp only at ma
       rcases Da9 (ρ:=ρ) (dr:=Z.deps.map (·.1)) (r:=r) (p:=p) Z.rts 0 with ⟨_,_,e⟩|e|e<;>rw[e]at ma<;>cases ma
      |frz=>rw[hgb]at ma;cases ma
      |oth=>rw[hgb]at ma;cases ma
     obtain⟨c,hc⟩:=hgc;obtain⟨j',oo,lk,e1,e2,-⟩:=Da8 hc;have:=(Rbw.1 e2).1;omega
  have bz:(eT gd ρ G w s Z nr nb G'.own hs adn).own ad.block=.box nb:=by
   simp only[eT];rw[if_neg wj,h2];simp[sJ]
  refine⟨?_,?_,?_,?_⟩
  ·simp only[bX];exact h4
  ·simp only[Rag];exact h6
  ·simp only[bX,aB]
   exact⟨by rw[gw];rfl,mm⟩
  ·simp only[bX]
   intro k c hc
   rcases Rb4.1 hc with hc|hc
   ·obtain⟨rfl,rfl⟩:=Ubb hc
    refine .inr ⟨rfl,_,rfl,⟨by rw[gw];exact h1,by rw[gw,bz];rfl,fun j l hj=>?_⟩,by rw[gw];exact wj⟩;rw[gw];have:=h7 j l hj;rwa[Sbo]at this
   ·exact h8 k c hc
theorem zQ:∀ {ss:List LR} {i q:Nat} {vs:List Value},nU G'.own w' ds s.boxes.length i q ss vs->i+lN ss<=ds.length->(Z.deps=[]\/Oaj ρ (Pa9 (y0+i) ss)) ->
  (gd=false\/bxL ss=0)->(∀ j x,(owL w' ss vs)[j]?=some x->hs[q+j]?=some x)->(∀ ad∈Ka7 ss vs,ad=adn)->UIn eE nr (dF gd Z.deps nb (y0+i) (nr+q) ss).2.1 ->
  (dF gd Z.deps nb (y0+i) (nr+q) ss).2.2=nr+q+qL ss/\(owL w' ss vs).length=qL ss/\aG eE ρ (eT gd ρ G w s Z nr nb G'.own hs adn) w' (dF gd Z.deps nb (y0+i) (nr+q) ss).1 vs/\UOk (fun b=>¬ (b<w.heap.size/\Kal ((callG ρ G w s Z).own b)=false)) eE ρ (eT gd ρ G w s Z nr nb G'.own hs adn) w' nr nb y0 (dF gd Z.deps nb (y0+i) (nr+q) ss).2.1
 | [], i, q, vs, h, _, _, _, _, _, _ => by
  simp only[nU]at h;subst h;exact⟨rfl,rfl,by simp[dF,aG],by simp[UOk,dF]⟩
 | t :: ss, i, q, vs, h, hi, fp, gv, hh, rz, hu => by
  obtain⟨u,us,rfl,h1,h2⟩:=h;simp only[lN]at hi;simp only[dF]at hu
  obtain⟨h3,h4,h5,h6⟩:=Pah A (gd:=gd) (nb:=nb) (hs:=hs) (adn:=adn) (.inr trivial) h1 (by omega) (fp.imp id fun e m y hm=>e m y (by
    cases t with
    |ow m'=>simp only[Pa9,Rby]at hm ⊢;rw[hm];exact Sbe
    |bx cs=>simp only[Pa9,Sbu]at hm ⊢;exact Rbx _ hm
    |_=>simp[Pa9]at hm))
   (gv.imp id fun e=>by cases t<;>simp only[bxL]at e ⊢<;>omega) (fun j x hj=>hh j x (by
    simp only[owL];rw[Rb9 (Rbw.1 hj).1];exact hj))
   (fun ad hm=>rz ad (by simp only[Ka7];exact Rbx _ hm)) hu.left
  have cL:=zQ (ss:=ss) (i:=i+t.n) (q:=q+t.q) h2 (by omega) (fp.imp id fun e m y hm=>e m y (by
    cases t with
    |ow m'=>simp only[Pa9];exact Rb7 _ hm
    |bx cs=>simp only[Pa9];rw[Sbf];exact Rb0 _ hm
    |_=>exact hm)) (gv.imp id fun e=>by cases t<;>simp only[bxL]at e<;>omega) (fun j x hj=>by
    have:=hh (t.q+j) x (by
     simp only[owL];rw[Rb6 (by rw[h4];omega),h4,Sb2];exact hj)
    rwa[<- Sbf]at this) (fun ad hm=>rz ad (by simp only[Ka7];exact Rb0 _ hm)) (by
    have:=hu.right;rw[h3]at this;rw[<- Sbf,<- Sbf];exact this)
  rw[<- Sbf,<- Sbf]at cL;obtain⟨h7,h8,h9,du⟩:=cL;simp only[dF];rw[h3];refine⟨by rw[h7];simp only[qL];omega,by simp only[owL,Rb8,h4,h8,qL],?_,h6.append du⟩;simp only[aG];exact⟨u,us,rfl,h5,h9⟩
theorem Iad:∀ {rs:List (Bool×List LR)} {i q:Nat} {us:List Value},Jab G'.own w' ds s.boxes.length i q rs us->i+bI rs<=ds.length->(Z.deps=[]\/Oaj ρ (Xa2 (y0+i) rs)) ->
  (gd=false\/jR rs=0)->(∀ j x,(owR w' rs us)[j]?=some x->hs[q+j]?=some x)->(∀ ad∈Gaq rs us,ad=adn)->UIn eE nr (iK gd Z.deps nb (y0+i) (nr+q) rs).2.1 ->
  (iK gd Z.deps nb (y0+i) (nr+q) rs).2.2=nr+q+qR rs/\(owR w' rs us).length=qR rs/\gU eE ρ (eT gd ρ G w s Z nr nb G'.own hs adn) w' (iK gd Z.deps nb (y0+i) (nr+q) rs).1 us/\UOk (fun b=>¬ (b<w.heap.size/\Kal ((callG ρ G w s Z).own b)=false)) eE ρ (eT gd ρ G w s Z nr nb G'.own hs adn) w' nr nb y0 (iK gd Z.deps nb (y0+i) (nr+q) rs).2.1
 | [], i, q, us, h, _, _, _, _, _, _ => by
  simp only[Jab]at h;subst h;exact⟨rfl,rfl,rfl,by simp[UOk,iK]⟩
 | (ag, ss) :: rs, i, q, us, h, hi, fp, gv, hh, rz, hu => by
  obtain⟨u,ee,vs,rfl,h1,h2,h3⟩:=h;simp only[bI]at hi;simp only[iK]at hu
  have iw:(if ag=true then u.cells.toList else [u])=vs:=by
   cases ag with
   | true =>
    simp only[if_true]at h2 ⊢;rw[h2];simp[Value.cells]
   |false=>simp only[Sbb,if_false]at h2 ⊢;exact h2.symm
  obtain⟨h4,h5,h6,h7⟩:=zQ A (gd:=gd) (nb:=nb) (hs:=hs) (adn:=adn) h1 (by omega) (fp.imp id fun e m y hm=>e m y (by simp only[Xa2];exact Rbx _ hm))
   (gv.imp id fun e=>by simp only[jR]at e;omega) (fun j x hj=>hh j x (by
    simp only[owR,iw];rw[Rb9 (Rbw.1 hj).1];exact hj))
   (fun ad hm=>rz ad (by simp only[Gaq,iw];exact Rbx _ hm)) hu.left
  have cL:=Iad (rs:=rs) (i:=i+lN ss) (q:=q+qL ss) h3 (by omega) (fp.imp id fun e m y hm=>e m y (by
    simp only[Xa2];rw[Sbf]
    exact Rb0 _ hm)) (gv.imp id fun e=>by simp only[jR]at e;omega) (fun j x hj=>by
    have:=hh (qL ss+j) x (by
     simp only[owR,iw];rw[Rb6 (by rw[h5];omega),h5,Sb2];exact hj)
    rwa[<- Sbf]at this) (fun ad hm=>rz ad (by simp only[Gaq];exact Rb0 _ hm)) (by
    have:=hu.right;rw[h4]at this;rw[<- Sbf,<- Sbf];exact this)
  rw[<- Sbf,<- Sbf]at cL;obtain⟨h8,h9,du,eC⟩:=cL;simp only[iK];rw[h4];exact⟨by rw[h8];simp only[qR];omega,by simp only[owR,iw,Rb8,h5,h9,qR],⟨u,ee,vs,rfl,h6,h2,du⟩,h7.append eC⟩
theorem yI (tS:σ (kB nb)=none):∀ {bs:List (Bool×List (BS×BO))} {b i q:Nat} {bu:List (Nat×aP)},(∀ j x,bs[j]?=some x->s.boxes[b+j]?=some x)->(kL Z.ptrs Z.deps b (y0+i) (nr+q) bs).eval σ=some bu ->
  mR G'.own w' ds (callG ρ G w s Z).bx b i q bs->i+dV bs<=ds.length->(Z.deps=[]\/Oaj ρ (Uaa (y0+i) bs))->(gd=false\/∀ x∈bs,x.1=false->Pao (x.2.map (·.2))=true) ->
  (∀ j x,(owB w' (callG ρ G w s Z).bx b bs)[j]?=some x->hs[q+j]?=some x)->UIn eE nr bu ->
  (∀ k c,(k,c)∈bu->(∃ q m i,k=kR (nr+q)/\c=.root (.v (y0+i)) m 0 .live/\Rp (eT gd ρ G w s Z nr nb G'.own hs adn).own w' (nr+q) [] m ((eT gd ρ G w s Z nr nb G'.own hs adn).hdr (nr+q)) ((aJ.v (y0+i)).val ρ)) \/
   ∃ c0 j9 ls,k=kB c0/\σ (kB c0)=some (.box false j9)/\c=.box false ls/\ls.length=j9.length /\
    ((∀ j l,j9[j]?=some l->∃ v,w.cell? ((G.bx c0).add j)=some v/\(aB σ ρ G w l v->aB eE ρ (eT gd ρ G w s Z nr nb G'.own hs adn) w' l v))->Jad eE ρ (eT gd ρ G w s Z nr nb G'.own hs adn) w' c0 false ls)) /\
  (∀ c,c∈gZ false Z.ptrs b bs->∃ x,(kB c,x)∈bu)
 | [], b, i, q, bu, _, h, _, _, _, _, _, _ => by
  simp only[kL,aC,Rbv]at h;subst h;exact⟨by simp,by simp[gZ]⟩
 | (ro, cs) :: bs, b, i, q, bu, zt, h, hf, hi, fp, gv, hh, hu => by
  simp only[kL]at h
  have a13:∀ j x,bs[j]?=some x->s.boxes[b+1+j]?=some x:=fun j x hj=>by
   rw[show b+1+j=b+(j+1) by omega];exact zt (j+1) x (by simpa using hj)
  cases ro with
  | true =>
   simp only[cond_true]at h;simp only[mR,if_true]at hf;simp only[dV,cond_true,Sbo]at hi
   obtain⟨h1,h2⟩:=yI tS (bs:=bs) (b:=b+1) a13 h hf hi (fp.imp id fun e m y hm=>e m y (by simp only[Uaa,cond_true];exact hm)) (gv.imp id fun e x hx=>e x (Rb7 _ hx))
    (fun j x hj=>hh j x (by simp only[owB,if_true];exact hj)) hu
   refine⟨h1,fun c hc=>h2 c ?_⟩;have e:(true==false)=false:=rfl;simp only[gZ,e,cond_false]at hc;exact hc
  | false =>
   simp only[cond_false]at h;simp only[mR,Sbb,if_false]at hf;simp only[dV,cond_false]at hi;split at h
   case h_2=>cases h
   rename_i c off hp;simp only[aA,aS,Rb1]at h;split at h
   case h_2=>cases h
   rename_i j9 pg;simp only[aA,Rbt,aC,Rbv]at h;obtain⟨rest,h1,rfl⟩:=h;have gw:(callG ρ G w s Z).bx b=(G.bx c).add off:=by simp only[callG,hp]
   rw[gw]at hf;have q0:=zt 0 _ rfl;rw[Sbz]at q0;obtain⟨c',lk,l8,kt,e1,e2,e3,e4⟩:=A.B.bx b false cs q0;rw[hp]at e1;obtain⟨rfl,rfl⟩:c=c'/\off=lk:=by simpa using e1
   rw[pg]at e2;obtain⟨rfl,rfl⟩:false=l8/\j9=kt:=by simpa using e2
   have zu:UIn eE nr (dJ Z.deps (y0+i) (nr+q) (cs.map (·.2))).2.1:=fun k x hx=>hu k x (Rb7 _ (Rbx _ hx))
   have hu2:UIn eE nr rest:=fun k x hx=>hu k x (Rb7 _ (Rb0 _ hx))
   obtain⟨h2,h3,h4,h5,h6⟩:=yK A (gd:=gd) (nb:=nb) (hs:=hs) (adn:=adn) hf.1 (by simp;omega) (fp.imp id fun e m y hm=>e m y (by simp only[Uaa,cond_false];exact Rbx _ hm))
    (gv.imp id fun e=>e _ Sbe rfl) (fun j x hj=>hh j x (by
     simp only[owB,Sbb,if_false,gw];rw[Rb9 (Rbw.1 hj).1];exact hj)) zu
   rw[Sbr]at h3;rw[h2]at h1
   have cL:=yI tS (bs:=bs) (b:=b+1) (i:=i+cs.length) (q:=q+qC (cs.map (·.2))) a13 (by rw[<- Sbf,<- Sbf];exact h1) hf.2 (by omega)
    (fp.imp id fun e m y hm=>e m y (by simp only[Uaa,cond_false];rw[Sbf];exact Rb0 _ hm)) (gv.imp id fun e x hx=>e x (Rb7 _ hx)) (fun j x hj=>by
     have:=hh (qC (cs.map (·.2))+j) x (by
      simp only[owB,Sbb,if_false,gw];rw[Rb6 (by rw[h4];omega),h4,Sb2];exact hj)
     rwa[<- Sbf]at this) hu2
   obtain⟨h7,h8⟩:=cL;refine⟨fun k x hx=>?_,fun c2 qu=>?_⟩
   ·rcases Rb4.1 hx with hx|hx
    ·obtain⟨rfl,rfl⟩:=Ubb hx
     refine .inr ⟨c,j9,_,rfl,pg,rfl,jW (by rw[h3];exact e3),fun hold=>?_⟩;obtain⟨np,jw,q5⟩:=A.B.hR.box pg;simp only[Sbb,if_false]at jw;have hcn:c≠nb:=fun e=>by rw[e,tS]at pg;cases pg
     have yf:(eT gd ρ G w s Z nr nb G'.own hs adn).bx c=G.bx c:=by simp only[eT,if_neg hcn]
     have pA:0<j9.length:=by have:=(e4 rfl).2;omega
     obtain⟨v0,hc0,-,-⟩:=q5 0 _ (Rbz pA);have aw:(G.bx c).block<w.heap.size:=by have:=Xa8 hc0;rwa[add_block]at this
     obtain⟨h9,du⟩:=A.B.boxes (gd:=gd) (nr:=nr) (nb:=nb) (hs:=hs) (adn:=adn) jw aw;refine⟨by rw[yf];exact np,by rw[yf,h9];rfl,fun j l hj=>?_⟩;rw[yf];rw[gQ (by rw[h3];exact e3)]at hj;split at hj
     ·rename_i hr
      obtain⟨v,eC,gi,jm⟩:=h5 _ l hj;rw[add_add,Sbo,show off+(j-off)=j by omega]at eC gi;exact⟨v,eC,gi,jm⟩
     ·rename_i hr
      obtain⟨v,eC,gi,jm⟩:=q5 j l hj;obtain⟨v',lg,nc⟩:=hold j l hj;rw[eC]at lg;obtain rfl:=Sbs lg
      rcases du with du|⟨j2,cs2,a1t,ls2,c0,c1,e,fr,f1,f2,f3,f4,f5,f6,f7,f8,f9⟩
      ·exact⟨v,(fO (w:=w) (w':=w') (by rw[add_block];exact du)).trans eC,(Fax (w:=w) (w':=w') (by rw[add_block];exact du)).trans gi,nc jm⟩
      ·
       have a6e:nE (0+b) Z.ptrs=some (c,off):=by rw[Sbo];exact hp
       have p6:=pQ A.B.hk.wr q0 a6e;have f2':nE (0+j2) Z.ptrs=some (c,a1t):=by rw[Sbo];exact f2
       have qq:=pQ A.B.hk.wr f1 f2';rw[p6]at qq;have uh:b=j2:=by have:=Sbs qq;omega
       subst uh;rw[hp]at f2;rw[q0]at f1;obtain⟨-,rfl⟩:c=c/\off=a1t:=by simpa using f2
       obtain rfl:cs=cs2:=by simpa using f1
       rw[h3]at hr
       have cu:∀ (ww:World) (cc:Array Value),ww.heap[(G.bx c).block]?=some (.cells cc e fr)->ww.cell? ((G.bx c).add j)=cc[(G.bx c).off+j]?/\ww.frozen? ((G.bx c).add j)=(fr.1<=(G.bx c).off+j&&(G.bx c).off+j<fr.2):=by
        intro ww cc hcc;have:=Saa (n:=j) np;refine⟨?_,?_⟩
        ·unfold World.cell?
         rw[add_block,hcc];simp[this,Qad]
        ·unfold World.frozen?
         rw[add_block,hcc];simp[Qad]
       obtain⟨g1,g2⟩:=cu w c0 f6;obtain⟨g3,g4⟩:=cu w' c1 f7;refine⟨v,?_,by rw[g4,<- g2];exact gi,nc jm⟩;rw[g3,f9 _ (by omega),<- g1];exact eC
    ·rcases Sbd.1 hx with hx|hx
     ·rcases h6 k x hx with h9|⟨h9,-⟩
      ·exact .inl h9
      ·exfalso
       have:∀ (l:List BO) (y n:Nat),∀ z∈(dJ Z.deps y n l).2.1,∃ r,z.1=kR r:=by
        intro l
        induction l with
        |nil=>intro y n z hz;simp[dJ]at hz
        | cons t l ih =>
         intro y n z hz;simp only[dJ]at hz
         rcases Sbd.1 hz with hz|hz
         ·cases t<;>simp[iZ]at hz
          exact⟨n,by rw[hz]⟩
         ·exact ih _ _ z hz
       obtain⟨r,hr⟩:=this _ _ _ _ hx;rw[h9]at hr;exact eO hr
     ·exact h7 k x hx
   ·simp only[gZ]at qu
    have e:(false==false)=true:=rfl;rw[e,cond_true,hp]at qu
    rcases Rb4.1 qu with rfl|qu
    ·exact⟨_,Sbe⟩
    ·obtain⟨x,hx⟩:=h8 c2 qu
     exact⟨x,Rb7 _ (Rb0 _ hx)⟩
end
theorem Fa5 {f:Nat}{vs:List SV}:∀ {l:List (Nat×Sig)} {key:Nat} {s:Sig},Fa6 f vs l=some (key,s)->(key,s)∈l/\s.fn=f
 |[],key,s,h=>by simp[Fa6]at h
 | (k, t) :: l, key, s, h => by
  simp only[Fa6]at h
  revert h
  generalize hb:(Nat.beq t.fn f&&Qab t.params vs)=b;intro h
  cases b with
  | false =>
   rw[cond_false]at h;obtain⟨h1,h2⟩:=Fa5 h;exact⟨Rb7 _ h1,h2⟩
  | true =>
   rw[cond_true]at h;obtain⟨rfl,rfl⟩:=Ubb (Sbs h);simp only[Rbu,Sbq]at hb;exact⟨Sbe,hb.1⟩
section
variable {E:Env} {F:bE} {σ:Nat->Option aP} {ρ:List D} {a:Act} {w:World} {G:Gh} {g:Option (aJ×Bool)} {cf:Nat->List D->Option (List D)}
theorem Vak {l:aO}{s:SlR}(h:(wB l).eval σ=some s):∀ z∈s.deps,Kad σ z.1 z.2:=by
 unfold wB at h;split at h
 ·rename_i r
  simp only[aA,aS,Rb1]at h;split at h
  ·rename_i x m b9 hk
   simp only[aC,Rbv]at h;subst h;intro z hz;simp only[Rby]at hz;subst hz;exact⟨m,x,hk⟩
  ·simp only[aC,Rbv]at h
   subst h;simp
  ·cases h
 ·rename_i deps p nie x
  simp only[aA,Rbt]at h;obtain⟨ds,h1,h2⟩:=h;obtain⟨h3,h4,h5⟩:=iH h1;split at h2
  ·simp only[aC,Rbv]at h2
   subst h2;exact fun z hz=>(h4 z hz).2
  ·rename_i r k z dk
   simp only[aA,aS,Rb1]at h2;split at h2
   ·simp only[aC,Rbv]at h2
    subst h2;intro z' ri;simp only[Rby]at ri;subst ri;have:=h4 z (by simp);have e:=this.1;simp only[Rby]at e;rw[e]at this;exact this.2
   ·cases h2
  ·simp only[aC,Rbv]at h2
   subst h2;exact fun z hz=>(h4 z hz).2
 ·cases h
def rtD:RT->Nat
 |.mu _ d _ _=>d
 |_=>0
def yC:Nat->List RT->List Nat
 |_,[]=>[]
 |ν,.mu _ _ _ _::t=>ν::yC (ν+1) t
 |ν,_::t=>yC (ν+1) t
theorem Nag:∀ {rts:List RT} {hS j ν:Nat},(yC hS rts)[j]?=some ν->∃ x:RT,(rts.filter uR)[j]?=some x/\hS<=ν/\rts[ν-hS]?=some x
 |[],hS,j,ν,h=>by simp[yC]at h
 | x :: t, hS, j, ν, h => by
  have next:∀ {j:Nat},(yC (hS+1) t)[j]?=some ν->∃ y:RT,(t.filter uR)[j]?=some y/\hS<=ν/\(x::t)[ν-hS]?=some y:=by
   intro j h;obtain⟨y,h1,h2,h3⟩:=Nag h;refine⟨y,h1,by omega,?_⟩;rw[show ν-hS=(ν-(hS+1))+1 by omega];simpa using h3
  cases x with
  | mu r d q X =>
   simp only[yC]at h
   cases j with
   | zero =>
    simp only[Rb2,Rbv]at h;subst h;exact⟨.mu r d q X,by simp[uR,Tbs],Sbg _,by simp⟩
   | succ j =>
    obtain⟨y,h1,h2,h3⟩:=next (by simpa using h);exact⟨y,by simpa[uR,Tbs] using h1,h2,h3⟩
  | nil =>
   obtain⟨y,h1,h2,h3⟩:=next h;exact⟨y,by simpa[uR,Tbs] using h1,h2,h3⟩
  | own r d =>
   obtain⟨y,h1,h2,h3⟩:=next h;exact⟨y,by simpa[uR,Tbs] using h1,h2,h3⟩
theorem Naf:∀ (rts:List RT) (hS:Nat),(yC hS rts).length=(rts.filter uR).length
 |[],hS=>rfl
 |x::t,hS=>by cases x<;>simp[yC,uR,Naf t,Tbs]
theorem Ca8:∀ (a b:List RT) (hS:Nat),yC hS (a++b)=yC hS a++yC (hS+a.length) b
 |[],b,hS=>rfl
 | x :: a, b, hS => by
  have:=Ca8 a b (hS+1);rw[show hS+1+a.length=hS+(a.length+1) by omega]at this;cases x<;>simp[yC,this]
def Cb9 (σ:Nat->Option aP)(ρ:List D)(G:Gh)(w:World):RT->Prop
 |.nil=>True
 |.own r _=>∃ x m b9,σ (kR r)=some (.root x m b9 .live)
 |.mu r d q X=>∃ m b9 u,σ (kR r)=some (.root X m b9 .live)/\q.length+d<=m/\wW G.own w r [] (G.hdr r) (bA ρ q) u
structure Uae (σ:Nat->Option aP) (A B:Take) (rn:List RT) (ms:List Nat) (mr:List Nat):Prop where
 rts:B.rts=A.rts++rn
 deps:∀ z∈B.deps,z∈A.deps\/Kad σ z.1 z.2
 ms:(rn.filter uR).map rtD=ms
 mr:yC A.rts.length rn=mr
theorem Hau {A B:Take}{d:Nat}{l:aO}(h:(sS A d l).eval σ=some B):∃ rn,Uae σ A B rn [] []/\rn.length=1/\∀ x∈rn,Cb9 σ ρ G w x:=by
 unfold sS at h;split at h
 ·rename_i r
  simp only[aA,aS,Rb1]at h;split at h
  ·rename_i x m b9 hk
   simp only[aA,aI,Rbt,aC,Rbv]at h;obtain⟨_,-,rfl⟩:=h;refine⟨[.own r d],⟨rfl,fun z hz=>.inl hz,rfl,rfl⟩,rfl,fun y hy=>?_⟩;simp only[Rby]at hy;subst hy;exact⟨x,m,b9,hk⟩
  ·cases h
 ·simp only[aC,Rbv]at h
  subst h;refine⟨[.nil],⟨rfl,fun z hz=>.inl hz,rfl,rfl⟩,rfl,fun y hy=>?_⟩;simp only[Rby]at hy;subst hy;trivial
 ·cases h
theorem Hax {A B:Take}{nie:Bool}{l:aO}(h:(pK A nie l).eval σ=some B):Uae σ A B [] [] []:=by
 unfold pK at h;simp only[aA,Rbt,aC,Rbv]at h;obtain⟨s,h1,rfl⟩:=h;exact⟨by simp,fun z hz=>(Sbd.1 hz).imp id fun hz=>Vak h1 z hz,rfl,rfl⟩
theorem San {A B:Take}{z:Nat}{l:aO}(h:(Eau A z l).eval σ=some B):Uae σ A B [] [] []:=by
 unfold Eau at h;split at h
 ·simp only[aA,Rbt,aC,Rbv]at h
  obtain⟨ds,h1,rfl⟩:=h;exact⟨by simp,fun z hz=>(Sbd.1 hz).imp id fun hz=>((iH h1).2.1 z hz).2,rfl,rfl⟩
 ·simp only[aC,Rbv]at h
  subst h;exact⟨by simp,fun z hz=>.inl hz,rfl,rfl⟩
 ·cases h
theorem Lap (P:Prop)(hR:P->R E.ntmps F σ ρ a w G){A B:Take}{t:LS}{l:aO}(h:(qN g A t l).eval σ=some B)(hl:P->∃ v,aB σ ρ G w l v) :
  ∃ rn,Uae σ A B rn (dO [t]) (dY A.rts.length [t])/\rn.length=t.rcnt/\(P->∀ x∈rn,Cb9 σ ρ G w x):=by
 unfold qN at h;split at h
 ·simp only[Lam,aA,Rbt,aC,Rbv]at h
  obtain⟨x,-,rfl⟩:=h;exact⟨[],⟨by simp,fun z hz=>.inl hz,rfl,rfl⟩,rfl,by simp⟩
 ·exact⟨[],Hax h,rfl,by simp⟩
 ·rename_i _ d
  unfold Hav at h;simp only[aA,Rbt]at h;obtain⟨sl,h1,h⟩:=h;split at h
  case h_2=>cases h
  rename_i r k m q ho;simp only[aA,aI,aS,Rb1,Rbt]at h;obtain⟨_,h2,h⟩:=h;split at h2
  case isFalse=>cases h2
  rename_i hb;simp only[Tbc]at hb;split at h
  case h_2=>cases h
  rename_i X m' v' ru;simp only[aC,Rbv]at h;subst h;refine⟨[.mu r d q X],⟨rfl,fun z hz=>.inl hz,rfl,rfl⟩,rfl,fun hP y hy=>?_⟩;simp only[Rby]at hy;subst hy;obtain⟨v,hv⟩:=hl hP;have bz:=(dN (hR hP) h1 hv).own;unfold tJ at bz;rw[ho]at bz;obtain⟨h3,⟨x,h4⟩,h5,h6,h7⟩:=bz;rw[ru]at h4
  obtain⟨rfl,rfl,rfl⟩:X=x/\m'=m/\v'=k:=by
   have:=Sbs h4
   injection this with e1 e2 e3
   exact⟨e1,e2,e3⟩
  exact⟨_,_,_,ru,hb,h7⟩
 ·obtain⟨rn,h1,h2,h3⟩:=Hau (ρ:=ρ) (G:=G) (w:=w) h
  exact⟨rn,h1,h2,fun _=>h3⟩
 ·simp only[aC,Rbv]at h
  subst h;exact⟨[],⟨by simp,fun z hz=>.inl hz,rfl,rfl⟩,rfl,by simp⟩
 ·split at h
  ·rw[gG]at h
   split at h
   ·simp only[aC,Rbv]at h
    subst h;exact⟨[],⟨by simp,fun z hz=>.inl hz,rfl,rfl⟩,rfl,by simp⟩
   ·cases h
  ·cases h
 ·exact⟨[],San h,rfl,by simp⟩
 ·cases h
theorem Uae.trans {A B C:Take}{rn q7:List RT}{ms ms' mr rm:List Nat}(h:Uae σ A B rn ms mr)(h':Uae σ B C q7 ms' rm):Uae σ A C (rn++q7) (ms++ms') (mr++rm):=by
 refine⟨by rw[h'.rts,h.rts,Rb3],fun z hz=>?_,by rw[List.filter_append,List.map_append,h.ms,h'.ms],?_⟩
 ·rcases h'.deps z hz with h1|h1
  ·exact h.deps z h1
  ·exact .inr h1
 ·rw[Ca8,h.mr]
  have:=h'.mr;rw[h.rts,Rb8]at this;rw[this]
theorem rR (t:LS)(ss:List LS):dO (t::ss)=dO [t]++dO ss:=by cases t<;>rfl
theorem uM (t:LS)(ss:List LS)(r:Nat):dY r (t::ss)=dY r [t]++dY (r+t.rcnt) ss:=by cases t<;>rfl
theorem uN:∀ (x y:List LS),dO (x++y)=dO x++dO y
 |[],y=>rfl
 |t::x,y=>by rw[Tb6,rR,rR t x,uN x y,Rb3]
theorem xH:∀ (x y:List LS) (r:Nat),dY r (x++y)=dY r x++dY (r+jG x) y
 |[],y,r=>rfl
 | t :: x, y, r => by
  rw[Tb6,uM,uM t x,xH x y,Rb3];simp only[jG,Sbf]
theorem wZ (P:Prop)(hR:P->R E.ntmps F σ ρ a w G):∀ {ss:List LS} {ls:List aO} {A B:Take},(dA g A ss ls).eval σ=some B->(P->∃ vs,aG σ ρ G w ls vs) ->
  ∃ rn,Uae σ A B rn (dO ss) (dY A.rts.length ss)/\rn.length=jG ss/\(P->∀ x∈rn,Cb9 σ ρ G w x)
 | [], [], A, B, h, _ => by
  simp only[dA,aC,Rbv]at h;subst h;exact⟨[],⟨by simp,fun z hz=>.inl hz,rfl,rfl⟩,rfl,by simp⟩
 |[],_::_,A,B,h,_=>by simp[dA,bN]at h
 |_::_,[],A,B,h,_=>by simp[dA,bN]at h
 | t :: ss, l :: ls, A, B, h, hl => by
  simp only[dA,aA,Rbt]at h;obtain⟨C,h1,h2⟩:=h
  obtain⟨rn,h3,h4,h5⟩:=Lap P hR h1 (fun hP=>by
   obtain⟨vs,hv⟩:=hl hP;simp only[aG]at hv;obtain⟨u,us,-,hu,-⟩:=hv;exact⟨u,hu⟩)
  obtain⟨q7,h6,h7,h8⟩:=wZ P hR h2 (fun hP=>by
   obtain⟨vs,hv⟩:=hl hP;simp only[aG]at hv;obtain⟨u,us,-,-,hu⟩:=hv;exact⟨us,hu⟩)
  have:=h3.trans h6;rw[h3.rts,Rb8,h4,<- uM,<- rR]at this;exact⟨rn++q7,this,by simp[h4,h7,jG],fun hP x hx=>(Sbd.1 hx).elim (h5 hP x) (h8 hP x)⟩
theorem tT (P:Prop)(hR:P->R E.ntmps F σ ρ a w G):∀ {ps:List (Bool×List LS)} {vs:List SV} {A B:Take},(eG g A ps vs).eval σ=some B->(P->∃ us,qJ σ ρ G w vs us) ->
  ∃ rn,Uae σ A B rn (dO (ps.flatMap (·.2))) (dY A.rts.length (ps.flatMap (·.2)))/\rn.length=iQ ps/\(P->∀ x∈rn,Cb9 σ ρ G w x)
 | [], [], A, B, h, _ => by
  simp only[eG,aC,Rbv]at h;subst h;exact⟨[],⟨by simp,fun z hz=>.inl hz,rfl,rfl⟩,rfl,by simp⟩
 |[],_::_,A,B,h,_=>by simp[eG,bN]at h
 |_::_,[],A,B,h,_=>by simp[eG,bN]at h
 | (ag, ss) :: ps, v :: vs, A, B, h, hl => by
  simp only[eG,aA,Rbt,aV]at h;obtain⟨ls,h0,C,h1,h2⟩:=h
  obtain⟨rn,h3,h4,h5⟩:=wZ P hR h1 (fun hP=>by
   obtain⟨us,u,ee,rfl,hu,-⟩:=hl hP;exact⟨_,gT h0 hu⟩)
  obtain⟨q7,h6,h7,h8⟩:=tT P hR h2 (fun hP=>by
   obtain⟨us,u,ee,rfl,-,hu⟩:=hl hP;exact⟨ee,hu⟩)
  have:=h3.trans h6;rw[h3.rts,Rb8,h4,<- xH,<- uN]at this;exact⟨rn++q7,by rw[List.flatMap_cons];exact this,by simp[h4,h7,iQ],fun hP x hx=>(Sbd.1 hx).elim (h5 hP x) (h8 hP x)⟩
theorem yU:∀ {ss:List (BS×BO)} {ls:List aO} {A B:Take},(dQ A ss ls).eval σ=some B->∃ rn,Uae σ A B rn [] []/\∀ x∈rn,Cb9 σ ρ G w x
 | [], ls, A, B, h => by
  simp only[dQ,aC,Rbv]at h;subst h;exact⟨[],⟨by simp,fun z hz=>.inl hz,rfl,rfl⟩,by simp⟩
 |_::_,[],A,B,h=>by simp[dQ,bN]at h
 | (t, o) :: ss, l :: ls, A, B, h => by
  simp only[dQ,aA,Rbt]at h;obtain⟨C,h1,h2⟩:=h;obtain⟨q7,h6,h8⟩:=yU h2
  have key:∃ rn,Uae σ A C rn [] []/\∀ x∈rn,Cb9 σ ρ G w x:=by
   have hinv:=nY h1;clear h1
   rcases hinv with ⟨x,rfl,rfl,rfl⟩|⟨nie,rfl,h⟩|⟨d,rfl,h⟩|⟨rfl,-,rfl⟩
   ·exact⟨[],⟨by simp,fun z hz=>.inl hz,rfl,rfl⟩,by simp⟩
   ·exact⟨[],Hax h,by simp⟩
   ·obtain⟨rn,h3,-,h5⟩:=Hau (ρ:=ρ) (G:=G) (w:=w) h
    exact⟨rn,h3,h5⟩
   ·exact⟨[],⟨by simp,fun z hz=>.inl hz,rfl,rfl⟩,by simp⟩
  obtain⟨rn,h3,h5⟩:=key;exact⟨rn++q7,h3.trans h6,fun x hx=>(Sbd.1 hx).elim (h5 x) (h8 x)⟩
theorem qO {ptrs:List (Nat×Nat×Nat)}:∀ {bs:List (Bool×List (BS×BO))} {b:Nat} {A B:Take},(eD ptrs A b bs).eval σ=some B->∃ rn,Uae σ A B rn [] []/\∀ x∈rn,Cb9 σ ρ G w x
 | [], b, A, B, h => by
  simp only[eD,aC,Rbv]at h;subst h;exact⟨[],⟨by simp,fun z hz=>.inl hz,rfl,rfl⟩,by simp⟩
 | (ro, cs) :: bs, b, A, B, h => by
  simp only[eD]at h;split at h
  case h_2=>cases h
  simp only[aA,aS,Rb1]at h;split at h
  case h_2=>cases h
  simp only[aA,aI,Rbt]at h;obtain⟨_,-,C,h1,h2⟩:=h;obtain⟨rn,h3,h5⟩:=yU (ρ:=ρ) (G:=G) (w:=w) h1;obtain⟨q7,h6,h8⟩:=qO h2;exact⟨rn++q7,h3.trans h6,fun x hx=>(Sbd.1 hx).elim (h5 x) (h8 x)⟩
theorem wG (hg:gOn ρ g=true):∀ {rts:List RT} {y nv:Nat} {ml:List Step} {mu:List (Nat×aP)},(xI y nv rts).eval σ=some (ml,mu)->aK cf ρ g nv ml ->
  (∀ k c,(k,c)∈mu->∃ (j r d:Nat) (q:List (aJ×Nat×Nat)) (X X0:aJ) (m b9:Nat) (X':aJ),(rts.filter uR)[j]?=some (RT.mu r d q X)/\k=kR r/\c=.root X' m (b9+1) .live/\σ (kR r)=some (.root X0 m b9 .live)/\(q.length+d=m\/nO d ((aJ.v (y+j)).val ρ)=true)/\Upd (bA ρ q) (X.val ρ) ((aJ.v (y+j)).val ρ) (X'.val ρ))
 | [], y, nv, ml, mu, h, _ => by
  simp only[xI,aC,Rbv,Sbj]at h;obtain⟨rfl,rfl⟩:=h;simp
 | .nil :: t, y, nv, ml, mu, h, cj => by
  have:=wG hg (rts:=t) h cj;simpa[uR,Tbs] using this
 | .own r d :: t, y, nv, ml, mu, h, cj => by
  have:=wG hg (rts:=t) h cj;simpa[uR,Tbs] using this
 | .mu r d q X :: t, y, nv, ml, mu, h, cj => by
  simp only[xI,aA,aS,Rb1]at h;split at h
  case h_2=>cases h
  rename_i X0 m b9 hk;simp only[aA,Rbt,aC,Rbv,Sbj]at h;obtain⟨⟨ls,us⟩,h1,rfl,rfl⟩:=h;obtain⟨hs0,zE⟩:=aK.append cj
  obtain⟨hfd,wh⟩:(q.length+d=m\/nO d ((aJ.v y).val ρ)=true)/\bF (bif Nat.beq (q.length+d) m then [] else [Step.prim (.dep d) [.v y] 0])=0:=by
   cases hb:Nat.beq (q.length+d) m with
   |true=>exact⟨.inl (Nat.eq_of_beq_eq_true hb),rfl⟩
   | false =>
    rw[hb,cond_false]at hs0;obtain⟨ds,h1,-,-⟩:=hs0.1.1 hg;simp only[Sbk,Sbw,aN.run]at h1;split at h1
    ·rename_i hf;exact⟨.inr hf,rfl⟩
    ·cases h1
  rw[wh,Sbz]at zE;obtain⟨mn,jo⟩:=aK.append zE;have cL:=wG hg h1 jo;intro k c hc
  rcases Rb4.1 hc with hc|hc
  ·obtain⟨rfl,rfl⟩:=Ubb hc
   exact⟨0,r,d,q,X,X0,m,b9,_,by simp[uR,Tbs],rfl,rfl,hk,hfd,zX hg q nv X (.v y) mn⟩
  ·obtain⟨j,r',d',q',X',X1,m',ub,X2,h2,h3,h4,h5,tE,h6⟩:=cL k c hc
   exact⟨j+1,r',d',q',X',X1,m',ub,X2,by simpa[uR,Tbs] using h2,h3,h4,h5,by rw[show y+(j+1)=y+1+j by omega];exact tE,by rw[show y+(j+1)=y+1+j by omega];exact h6⟩
theorem wH:∀ {rts:List RT} {y nv:Nat} {ml:List Step} {mu:List (Nat×aP)},(xI y nv rts).eval σ=some (ml,mu)->∀ r,r∈bW rts->(∃ c,(kR r,c)∈mu)\/∃ c,(kR r,c)∈fP rts
 |[],y,nv,ml,mu,h,r,hr=>by simp[bW]at hr
 |.nil::t,y,nv,ml,mu,h,r,hr=>wH (rts:=t) h r hr
 | .own s d :: t, y, nv, ml, mu, h, r, hr => by
  simp only[bW,Rb4]at hr
  rcases hr with rfl|hr
  ·exact .inr ⟨_,by simp only[fP];exact Sbe⟩
  ·exact (wH (rts:=t) h r hr).imp id fun ⟨c,hc⟩=>⟨c,by simp only[fP];exact Rb7 _ hc⟩
 | .mu s d q X :: t, y, nv, ml, mu, h, r, hr => by
  simp only[xI,aA,aS,Rb1]at h;split at h
  case h_2=>cases h
  simp only[aA,Rbt,aC,Rbv,Sbj]at h;obtain⟨⟨ls,us⟩,h1,rfl,rfl⟩:=h;simp only[bW,Rb4]at hr
  rcases hr with rfl|hr
  ·exact .inl ⟨_,Sbe⟩
  ·exact (wH h1 r hr).imp (fun ⟨c,hc⟩=>⟨c,Rb7 _ hc⟩) id
theorem jZ:∀ {rts:List RT} {k:Nat} {c:aP},(k,c)∈fP rts->∃ r,k=kR r/\c=.root (.c .hole) 0 0 .gone
 |[],k,c,h=>by simp[fP]at h
 |.nil::t,k,c,h=>jZ (rts:=t) h
 |.mu s d q X::t,k,c,h=>jZ (rts:=t) h
 | .own s d :: t, k, c, h => by
  simp only[fP,Rb4,Sbj]at h
  rcases h with ⟨rfl,rfl⟩|h
  ·exact⟨s,rfl,rfl⟩
  ·exact jZ h
end
theorem vJ {deps:List (Nat×Nat)}:∀ (cs:List BO) (y n:Nat),(dJ deps y n cs).2.2=n+qC cs/\∀ k c,(k,c)∈(dJ deps y n cs).2.1->∃ r y m,n<=r/\k=kR r/\c=.root (.v y) m 0 .live
 |[],y,n=>⟨rfl,by simp[dJ]⟩
 | t :: cs, y, n => by
  have hb:(iZ deps y n t).2.2=n+t.q/\∀ k c,(k,c)∈(iZ deps y n t).2.1->∃ r y m,n<=r/\k=kR r/\c=.root (.v y) m 0 .live:=by
   cases t<;>refine⟨rfl,fun k c hc=>?_⟩<;>simp[iZ]at hc
   exact⟨n,y,_,Sbg _,hc.1,hc.2⟩
  obtain⟨h1,h2⟩:=hb;simp only[dJ];rw[h1];obtain⟨h3,h4⟩:=vJ (deps:=deps) cs (y+1) (n+t.q);refine⟨by rw[h3];simp only[qC];omega,fun k c hc=>?_⟩
  rcases Sbd.1 hc with hc|hc
  ·exact h2 k c hc
  ·obtain⟨r,y',m,h5,h6,h7⟩:=h4 k c hc
   exact⟨r,y',m,by omega,h6,h7⟩
theorem Mac {gd:Bool}{deps:List (Nat×Nat)}{nb:Nat}(t:LR)(y n:Nat):(bX gd deps nb y n t).2.2=n+t.q/\∀ k c,(k,c)∈(bX gd deps nb y n t).2.1->(∃ r y m,n<=r/\k=kR r/\c=.root (.v y) m 0 .live)\/(k=kB nb/\∃ ls,c=.box false ls):=by
 cases t with
 | bx cs =>
  obtain⟨h3,h4⟩:=vJ (deps:=deps) cs y n;simp only[bX];refine⟨h3,fun k c hc=>?_⟩
  rcases Rb4.1 hc with hc|hc
  ·obtain⟨rfl,rfl⟩:=Ubb hc
   exact .inr ⟨rfl,_,rfl⟩
  ·exact .inl (h4 k c hc)
 | ow m =>
  cases gd with
  |true=>exact⟨rfl,by simp[bX]⟩
  | false =>
   refine⟨rfl,fun k c hc=>?_⟩;simp[bX]at hc;exact .inl ⟨n,y,m,Sbg _,hc.1,hc.2⟩
 |_=>exact⟨rfl,by simp[bX]⟩
theorem xE {gd:Bool}{deps:List (Nat×Nat)}{nb:Nat}:∀ (ss:List LR) (y n:Nat),(dF gd deps nb y n ss).2.2=n+qL ss/\∀ k c,(k,c)∈(dF gd deps nb y n ss).2.1->(∃ r y m,n<=r/\k=kR r/\c=.root (.v y) m 0 .live)\/(k=kB nb/\∃ ls,c=.box false ls)
 |[],y,n=>⟨rfl,by simp[dF]⟩
 | t :: ss, y, n => by
  obtain⟨h1,h2⟩:=Mac (gd:=gd) (deps:=deps) (nb:=nb) t y n;simp only[dF];rw[h1];obtain⟨h3,h4⟩:=xE (gd:=gd) (deps:=deps) (nb:=nb) ss (y+t.n) (n+t.q);refine⟨by rw[h3];simp only[qL];omega,fun k c hc=>?_⟩
  rcases Sbd.1 hc with hc|hc
  ·exact h2 k c hc
  ·exact (h4 k c hc).imp (fun ⟨r,y',m,h5,h6⟩=>⟨r,y',m,by omega,h6⟩) id
theorem Fad {gd:Bool}{deps:List (Nat×Nat)}{nb:Nat}:∀ (rs:List (Bool×List LR)) (y n:Nat),(iK gd deps nb y n rs).2.2=n+qR rs/\∀ k c,(k,c)∈(iK gd deps nb y n rs).2.1->(∃ r y m,n<=r/\k=kR r/\c=.root (.v y) m 0 .live)\/(k=kB nb/\∃ ls,c=.box false ls)
 |[],y,n=>⟨rfl,by simp[iK]⟩
 | (ag, ss) :: rs, y, n => by
  obtain⟨h1,h2⟩:=xE (gd:=gd) (deps:=deps) (nb:=nb) ss y n;simp only[iK];rw[h1];obtain⟨h3,h4⟩:=Fad (gd:=gd) (deps:=deps) (nb:=nb) rs (y+lN ss) (n+qL ss);refine⟨by rw[h3];simp only[qR];omega,fun k c hc=>?_⟩
  rcases Sbd.1 hc with hc|hc
  ·exact h2 k c hc
  ·exact (h4 k c hc).imp (fun ⟨r,y',m,h5,h6⟩=>⟨r,y',m,by omega,h6⟩) id
theorem vI {σ:Nat->Option aP}{ptrs:List (Nat×Nat×Nat)}{deps:List (Nat×Nat)}:∀ {bs:List (Bool×List (BS×BO))} {b y n:Nat} {bu:List (Nat×aP)},(kL ptrs deps b y n bs).eval σ=some bu ->
  ∀ k c,(k,c)∈bu->(∃ r y m,n<=r/\k=kR r/\c=.root (.v y) m 0 .live)\/(∃ c0 j9 ls,k=kB c0/\σ (kB c0)=some (.box false j9)/\c=.box false ls)
 | [], b, y, n, bu, h => by
  simp only[kL,aC,Rbv]at h;subst h;simp
 | (ro, cs) :: bs, b, y, n, bu, h => by
  simp only[kL]at h
  cases ro with
  |true=>exact vI (bs:=bs) h
  | false =>
   simp only[cond_false]at h;split at h
   case h_2=>cases h
   simp only[aA,aS,Rb1]at h;split at h
   case h_2=>cases h
   rename_i j9 pg;simp only[aA,Rbt,aC,Rbv]at h;obtain⟨rest,h1,rfl⟩:=h;obtain⟨h3,h4⟩:=vJ (deps:=deps) (cs.map (·.2)) y n;rw[h3]at h1;intro k c hc
   rcases Rb4.1 hc with hc|hc
   ·obtain⟨rfl,rfl⟩:=Ubb hc
    exact .inr ⟨_,_,_,rfl,pg,rfl⟩
   ·rcases Sbd.1 hc with hc|hc
    ·exact .inl (h4 k c hc)
    ·exact (vI h1 k c hc).imp (fun ⟨r,y',m,h5,h6⟩=>⟨r,y',m,by omega,h6⟩) id
theorem Jac {own:Nat->Ow}{w:World}{ds:List D}{gh:Nat->Value}:∀ {ms:List Nat} {i j k d:Nat},Sac own w ds gh i j ms->ms[k]?=some d->Rp own w (2*(j+k)+1) [] d (gh (j+k)) (ds.getD (i+k) .undef)
 |[],i,j,k,d,_,h=>by simp at h
 | e :: ms, i, j, 0, d, h, hk => by
  simp only[Rb2,Rbv]at hk;subst hk;exact h.1
 | e :: ms, i, j, k + 1, d, h, hk => by
  have:=Jac h.2 (k:=k) (by simpa using hk);rw[show j+(k+1)=j+1+k by omega,show i+(k+1)=i+1+k by omega];exact this
theorem gU.len {σ:Nat->Option aP}{ρ:List D}{G:Gh}{w:World}:∀ {ts:List (Bool×List aO)} {us:List Value},gU σ ρ G w ts us->us.length=ts.length
 |[],us,h=>by simp only[gU]at h;subst h;rfl
 | (a, ls) :: r, us, h => by
  obtain⟨u,ee,vs,rfl,-,-,h3⟩:=h;simp[gU.len h3]
theorem Vag {σ:Nat->Option aP}{ρ:List D}{G:Gh}{w:World}{g:Option (aJ×Bool)}(hg:gOn ρ g=true){rs:List (Bool×List aO)}{us:List Value}(h:gU σ ρ G w rs us):bV σ ρ G w (zP g rs) (Cax us):=by
 unfold zP;split
 ·rename_i x
  obtain⟨u,ee,vs,rfl,h1,h2,h3⟩:=h;simp only[gU]at h3;subst h3;simp only[Sbb,if_false]at h2;subst h2;simp only[aG,Tbj]at h1;obtain⟨u',ee,⟨rfl,rfl⟩,h4,-⟩:=h1;simp only[aB]at h4;simp only[Cax]
  cases g with
  |none=>simp only[mkS,bV,aB];exact h4
  |some z=>simp only[mkS,bV,aB];exact⟨.inl h4,fun _=>h4⟩
 ·rename_i l _
  obtain⟨u,ee,vs,rfl,h1,h2,h3⟩:=h;simp only[gU]at h3;subst h3;simp only[Sbb,if_false]at h2;subst h2;simp only[aG,Tbj]at h1;obtain⟨u',ee,⟨rfl,rfl⟩,h4,-⟩:=h1;simp only[Cax,bV];exact h4
 ·rename_i ls
  obtain⟨u,ee,vs,rfl,h1,h2,h3⟩:=h;simp only[gU]at h3;subst h3;simp only[if_true]at h2;simp only[Cax,bV];exact⟨vs,h2,h1⟩
 ·rename_i _ h1 h2 h3
  simp only[bV]
  match us,rs,h with
  |[],[],h=>exact⟨[],rfl,h⟩
  | [u], [(a, ls)], h =>
   exfalso;obtain⟨u',ee,vs,e,h4,h5,h6⟩:=h;obtain⟨rfl,rfl⟩:=Vbp e
   cases a with
   |true=>exact h3 ls rfl
   | false =>
    simp only[Sbb,if_false]at h5;subst h5;have:=h4.len
    match ls,this with
    |[l],_=>exact h2 l rfl
  |u::u'::us,r::r'::rs,h=>exact⟨_,rfl,h⟩
  |[],_::_,h=>have:=h.len;simp at this
  |[_],[],h=>have:=h.len;simp at this
  |[_],_::_::_,h=>have:=h.len;simp at this
  |_::_::_,[],h=>have:=h.len;simp at this
  |_::_::_,[_],h=>have:=h.len;simp at this
theorem sI {σ:Nat->Option aP}{ptrs:List (Nat×Nat×Nat)}:∀ {bs:List (Bool×List (BS×BO))} {b:Nat} {xs:List aJ},(iA ptrs b bs).eval σ=some xs->∀ x∈bs,x.1=false->Pao (x.2.map (·.2))=true
 |[],b,xs,h,x,hx,_=>by simp at hx
 | (ro, cs) :: bs, b, xs, h, x, hx, ql => by
  simp only[iA]at h
  cases ro with
  | true =>
   simp only[cond_true]at h
   rcases Rb4.1 hx with rfl|hx
   ·cases ql
   ·exact sI h x hx ql
  | false =>
   simp only[cond_false]at h;split at h
   case h_2=>cases h
   simp only[aA,aS,Rb1]at h;split at h
   case h_2=>cases h
   simp only[aA,Rbt,aC,Rbv]at h;obtain⟨l,h1,m,h2,-⟩:=h
   rcases Rb4.1 hx with rfl|hx
   ·clear h2
    rename_i j9 _;generalize j9.drop _=ls at h1;dsimp only;clear hx ql
    induction cs generalizing ls l with
    |nil=>rfl
    | cons t cs ih =>
     obtain⟨s,o⟩:=t
     cases ls with
     |nil=>simp[jL,bN]at h1
     | cons x ls =>
      simp only[jL,aA,Rbt]at h1;obtain⟨y,h3,r,h4,-⟩:=h1;have:=ih _ _ h4
      cases o with
      |ow m=>cases s<;>simp[bN]at h3
      |_=>simpa[Pao] using this
   ·exact sI h2 x hx ql
def Ta4 (o:Oper)(g:Option (aJ×Bool))(rs:List (Bool×List aO)):List (Nat×aP):=match o.dst with
 |some d=>[(kT d,.slot (Abk g (zP g rs)) (zP g rs))]
 |none=>[]
section
variable {E:Env} {F:bE} {σ:Nat->Option aP} {ρ:List D} {a:Act} {w w':World} {G:Gh} {g:Option (aJ×Bool)} {cf:Nat->List D->Option (List D)} {o:Oper} {s:Sig} {T Z:Take} {nb nr y0 nvm:Nat}
theorem Aa1 {rs:List (Bool×List aO)}:Ta4 o g rs=dM o (Abk g (zP g rs)) (zP g rs):=rfl
theorem Xa9 (hR:R E.ntmps F σ ρ a w G)(hg:gOn ρ g=true)(hd:eU E.ntmps o)(hf:Bah σ nb nr){vs:List SV}{us0:List Value}(rr:qJ σ ρ G w vs us0)
  (hT:(eG g Take.empty s.params vs).eval σ=some T) (hZ:(eD T.ptrs T 0 s.boxes).eval σ=some Z) (hk:Ia9 s Z) (a0u:jR s.results<=1)
  (gv:noG g=true\/(jR s.results=0/\∃ olds,(iA Z.ptrs 0 s.boxes).eval σ=some olds))
  {rs:List (Bool×List aO)} {us bu mu:List (Nat×aP)} {xk:Nat} {ml:List Step} {ds:List D} (j0:iK (!noG g) Z.deps nb y0 nr s.results=(rs,us,xk))
  (qw:(kL Z.ptrs Z.deps 0 (y0+bI s.results+(Z.rts.filter uR).length) xk s.boxes).eval σ=some bu) {nv1:Nat} (wk:(xI (y0+bI s.results) nv1 Z.rts).eval σ=some (ml,mu))
  (hlen:ds.length=bI s.results+(Z.rts.filter uR).length+dV s.boxes) (eM:∀ j d,ds[j]?=some d->(aJ.v (y0+j)).val ρ=d)
  (pL:Z.deps=[]\/Oaj ρ (Xa2 y0 s.results++Xa3 (y0+bI s.results) Z.rts++Uaa (y0+bI s.results+(Z.rts.filter uR).length) s.boxes)) (vo:aK cf ρ g nv1 ml)
  (oR:(Ta4 o g rs++(us++bu++mu++fP Z.rts)).all (fun x=>wU E.ntmps nb nr x.1)=true)
  {v:Value} (oE:Qah s (pE s (callG ρ G w s Z) w) (callG ρ G w s Z).bx v w' ds) :
  ∃ G2,R E.ntmps F (upds σ (Ta4 o g rs++(us++bu++mu++fP Z.rts))) ρ (a.put o.dst v) w' G2:=by
 obtain⟨G',ee,rfl,hF,a08,a4a,lj⟩:=oE;obtain⟨hle1,p8,xg⟩:=jU hZ;rw[<- p8]at xg;obtain⟨rn,q8,hn2,hn3⟩:=tT True (fun _=>hR) hT (fun _=>⟨us0,rr⟩);obtain⟨q7,hn4,hn5⟩:=qO (ρ:=ρ) (G:=G) (w:=w) hZ;have ij:=q8.trans hn4;have sh:Z.rts=rn++q7:=by have:=ij.rts;simpa[Take.empty] using this
 have s7:∀ x∈Z.rts,Cb9 σ ρ G w x:=by
  rw[sh];exact fun x hx=>(Sbd.1 hx).elim (hn3 trivial x) (hn5 x)
 have hms:(Z.rts.filter uR).map rtD=dO (s.params.flatMap (·.2)):=by
  have:=ij.ms;rw[<- sh,Sbu]at this;exact this
 have hmr:yC 0 Z.rts=dY 0 (s.params.flatMap (·.2)):=by
  have:=ij.mr;rw[<- sh,Sbu]at this;exact this
 have qm:∀ z∈Z.deps,Kad σ z.1 z.2:=fun z hz=>by
  rcases ij.deps z hz with h|h
  ·simp[Take.empty]at h
  ·exact h
 have B:Oak E F σ ρ a w G s Z G' w':=by
  refine⟨hR,hk,hF,fun j ro cs hj=>by have:=xg j ro cs hj;rwa[Sbo]at this,qm,fun ν r d q X tw=>?_,fun ν r d tw=>?_⟩
  ·obtain⟨m,b9,u,h1,h2,h3⟩:=s7 _ (Sba tw)
   exact⟨m,b9,u,h1,h2,h3⟩
  ·obtain⟨x,m,b9,h1⟩:=s7 _ (Sba tw)
   exact⟨x,m,b9,h1⟩
 generalize hU:Ta4 o g rs++(us++bu++mu++fP Z.rts)=U at oR ⊢
 let hs:=owR w' s.results ee++owB w' (callG ρ G w s Z).bx 0 s.boxes
 let adn:=(Gaq s.results ee).headD ⟨0,0,none⟩
 let G2:=eT (!noG g) ρ G w s Z nr nb G'.own hs adn
 have yj:∀ k c,(k,c)∈U->(k,c)∈Ta4 o g rs\/(k,c)∈us\/(k,c)∈bu\/(k,c)∈mu\/(k,c)∈fP Z.rts:=by
  intro k c hc;rw[<- hU]at hc
  rcases Sbd.1 hc with hc|hc
  ·exact .inl hc
  ·rcases Sbd.1 hc with hc|hc
   ·rcases Sbd.1 hc with hc|hc
    ·rcases Sbd.1 hc with hc|hc
     ·exact .inr (.inl hc)
     ·exact .inr (.inr (.inl hc))
    ·exact .inr (.inr (.inr (.inl hc)))
   ·exact .inr (.inr (.inr (.inr hc)))
 have hUdst:∀ z∈Ta4 o g rs,z∈U:=fun z hz=>by rw[<- hU];exact Rbx _ hz
 have a5z:∀ z∈us,z∈U:=fun z hz=>by rw[<- hU];exact Rb0 _ (Rbx _ (Rbx _ (Rbx _ hz)))
 have a0w:∀ z∈bu,z∈U:=fun z hz=>by rw[<- hU];exact Rb0 _ (Rbx _ (Rbx _ (Rb0 _ hz)))
 have a6j:∀ z∈mu,z∈U:=fun z hz=>by rw[<- hU];exact Rb0 _ (Rbx _ (Rb0 _ hz))
 have a3h:∀ z∈fP Z.rts,z∈U:=fun z hz=>by rw[<- hU];exact Rb0 _ (Rb0 _ hz)
 have a1r:∀ k c,(k,c)∈U->wU E.ntmps nb nr k=true:=fun k c hc=>by
  rw[Sbp]at oR;exact oR _ hc
 obtain⟨sb,sR⟩:=Fad (gd:=!noG g) (deps:=Z.deps) (nb:=nb) s.results y0 nr;rw[j0]at sb sR;dsimp only at sb sR;subst sb;have a3e:=vI qw;have pC:=wG hg wk vo;have pd:∀ r c,(kR r,c)∈U->nr<=r->σ (kR r)=none:=fun r c hc hr=>hf.nr r hr (Ba1 (a1r _ _ hc))
 have yb:∀ k c,(k,c)∈Ta4 o g rs->∃ d,o.dst=some d/\k=kT d/\c=.slot (Abk g (zP g rs)) (zP g rs):=fun k c hc=>by
  rw[Aa1]at hc;exact wN hc
 have fj:Fr σ G w (upds σ U) G2 w':=by
  refine Fr.of (fun b hb aw=>B.frz hb aw) (fun r b p iz hb=>?_) (fun r c hc ig=>?_) (fun r x m k hkz b p hb=>?_) (fun r hr=>?_) (fun b hb=>?_)
  ·refine B.other (fun hr=>?_) hb
   rcases wH wk r hr with ⟨c,hc⟩|⟨c,hc⟩
   ·exact iz c (a6j _ hc)
   ·exact iz c (a3h _ hc)
  ·rcases yj _ _ hc with h|h|h|h|h
   ·obtain⟨d,-,e,-⟩:=yb _ _ h
    exact absurd e.symm gW
   ·rcases sR _ _ h with ⟨r',y,m,h1,h2,rfl⟩|⟨h1,-⟩
    ·obtain rfl:=eF h2
     exact .inl ⟨pd r _ hc h1,_,_,_,_,rfl⟩
    ·exact absurd h1.symm eO
   ·rcases a3e _ _ h with ⟨r',y,m,h1,h2,rfl⟩|⟨c0,j9,ls,h1,-⟩
    ·obtain rfl:=eF h2
     exact .inl ⟨pd r _ hc (by omega),_,_,_,_,rfl⟩
    ·exact absurd h1.symm eO
   ·obtain⟨j,r',d,q,X,X0,m,b9,X',h1,h2,rfl,h3,-⟩:=pC _ _ h
    obtain rfl:=eF h2;exact .inr (.inl ⟨_,_,_,_,_,h3,rfl⟩)
   ·obtain⟨r',h1,rfl⟩:=jZ h
    exact .inr (.inr (.inl ⟨_,_,_,_,rfl,by simp,by simp⟩))
  ·have hb:G2.own b=.slc r p:=hb
   simp only[G2,eT]at hb;split at hb
   ·cases e:G.own b with
    | slc r' p' =>
     rw[e]at hb;simp only[xZ]at hb;split at hb
     ·cases hb
     ·split at hb
      ·split at hb
       ·exact hb
       ·cases hb
      ·exact hb
     ·exact hb
    |_=>rw[e]at hb;simp[xZ]at hb
   ·cases e:G'.own b with
    | slc t p' =>
     rw[e]at hb;simp only[sJ]at hb;split at hb
     ·split at hb
      ·cases hb
      ·split at hb
       ·rename_i aw
        injection hb with e1 e2
        have:=hf.nr r (by omega) (by omega);rw[this]at hkz;cases hkz
       ·cases hb
     ·split at hb
      ·rename_i r' d q X a5d
       injection hb with e1 e2
       subst e1;have hm:=(List.mem_filter.1 (Sba a5d)).1;obtain⟨m',ub,u',h1,-⟩:=s7 _ hm;rw[h1]at hkz;cases hkz
      ·cases hb
    | box β =>
     rw[e]at hb;simp only[sJ]at hb;split at hb<;>cases hb
    |_=>rw[e]at hb;simp[sJ]at hb
  ·show (if nr<=r/\r<nr+bR then _ else G.hdr r)=_
   rw[if_neg]
   rintro⟨h1,h2⟩
   rw[hf.nr r h1 h2]at hr;cases hr
  ·show (if b=nb then adn else G.bx b)=_
   rw[if_neg];intro e;rw[e,hf.nb]at hb;cases hb
 have mm:∀ k c,(k,c)∈U->(upds σ U k).isSome:=fun k c hc=>dP _ _ _ (.inr ⟨c,hc⟩)
 have a1d:∀ l:List (Nat×aP),(∀ z∈l,z∈U)->UIn (upds σ U) nr l:=fun l hl k c hc=>by
  refine⟨mm k c (hl _ hc),fun q e=>?_⟩;have:=a1r _ _ (hl _ hc);rw[e]at this;have:=Ba1 this;omega
 have xd:∀ i,i<ds.length->(aJ.v (y0+i)).val ρ=ds.getD i .undef:=fun i hi=>by
  rw[Rb5,Rbz hi,Tbw];exact eM i _ (Rbz hi)
 have A:Aft E F σ (upds σ U) ρ a w G s Z G' w' y0 ds:=by
  refine⟨B,xd,fun z hz=>fj.known _ _ ?_⟩;obtain⟨m,x,hx⟩:=qm z hz;exact⟨x,m,z.2,.live,hx,fun _=>Sbg _⟩
 have a5i:(!noG g)=false\/jR s.results=0:=by
  rcases gv with h|h
  ·exact .inl (by rw[h];rfl)
  ·exact .inr h.1
 have sf:=Iad A (gd:=!noG g) (nb:=nb) (nr:=nr) (hs:=hs) (adn:=adn) (i:=0) (q:=0) a08 (by omega) (pL.imp id fun h m y hm=>h m y (Rbx _ (Rbx _ hm)))
  a5i (fun j x hj=>by
   rw[Sbo];show (owR w' s.results ee++_)[j]?=some x
   rw[Rb9 (Rbw.1 hj).1]
   exact hj) (fun ad rz=>by
   have hl:=Na9 s.results ee;show ad=(Gaq s.results ee).headD _
   match hb:Gaq s.results ee,rz with
   |[x],rz=>simpa using rz
   |x::y::l,rz=>rw[hb]at hl;simp at hl;omega) (by
   rw[Sbz,Sbz,j0];exact a1d us a5z)
 rw[Sbz,Sbz,j0]at sf;dsimp only at sf;obtain⟨-,qS,a5r,a0t⟩:=sf;have y8:(dO (s.params.flatMap (·.2))).length=(Z.rts.filter uR).length:=by rw[<- hms];simp
 rw[y8]at lj
 have a4g:=yI A (gd:=!noG g) (nb:=nb) (nr:=nr) (hs:=hs) (adn:=adn) hf.nb (bs:=s.boxes) (b:=0) (i:=bI s.results+(Z.rts.filter uR).length) (q:=qR s.results) (bu:=bu) (by simp)
  (by rw[<- Sbf];exact qw) lj (by omega) (pL.imp id fun h m y hm=>h m y (Rb0 _ (by rw[Sbf];exact hm)))
  (by
   rcases gv with h|⟨-,olds,h⟩
   ·exact .inl (by rw[h];rfl)
   ·exact .inr (sI h)) (fun j x hj=>by
   show (owR w' s.results ee++owB w' (callG ρ G w s Z).bx 0 s.boxes)[qR s.results+j]?=some x
   rw[Rb6 (by omega),qS,Sb2];exact hj) (a1d bu a0w)
 obtain⟨a0m,a5u⟩:=a4g;refine⟨G2,hR.upd U fj (by rw[zT];exact hR.tmps) (by rw[put_defers];exact hR.defers) B.frame (fun t ht=>?_) (fun b ro ls hb iz=>?_) (fun b ls hb aw ho=>?_) (fun k c hc ig=>?_)⟩
 ·rw[<- hU,Aa1]at ht
  exact Da1 ht
 ·
  obtain⟨h1,h2,h3⟩:=hR.box hb
  have aw:(G.bx b).block<w.heap.size:=by
   rcases Sbh (G.bx b).block w.heap.size with h|h
   ·exact h
   ·rw[hR.frame.fresh _ h]at h2
    split at h2<;>cases h2
  cases ro with
  | true =>
   simp only[if_true]at h2;obtain⟨h4,h5⟩:=B.oth (gd:=!noG g) (nr:=nr) (nb:=nb) (hs:=hs) (adn:=adn) h2 aw;exact⟨h4.trans h2.symm,h5⟩
  | false =>
   simp only[Sbb,if_false]at h2;obtain⟨h4,h5⟩:=B.boxes (gd:=!noG g) (nr:=nr) (nb:=nb) (hs:=hs) (adn:=adn) h2 aw;refine⟨h4.trans h2.symm,?_⟩
   rcases h5 with h5|⟨j,cs,off,ls2,c0,c1,e,fr,e1,e2,e3,e4,-⟩
   ·exact h5
   ·exfalso
    have hm:=sH (wr:=false) (b:=0) e1 (by rw[Sbo];exact e2);obtain⟨x,hx⟩:=a5u b hm;exact iz x (a0w _ hx)
 ·
  rcases yj _ _ hb with h|h|h|h|h
  ·obtain⟨d,-,e,-⟩:=yb _ _ h
   exact absurd e.symm kK
  ·rcases a0t _ _ h with ⟨q,m,i,e,-⟩|⟨e,kt,e2,hbr,tS⟩
   ·exact absurd e eO
   ·exfalso
    have e:=Aak e;subst e;refine tS ⟨Nat.lt_of_lt_of_le aw hR.frame.size,?_⟩;have h1:=(hR.frame.boxes _ _ aw ho).1
    have h2:(callG ρ G w s Z).own ((eT (!noG g) ρ G w s Z nr b G'.own hs adn).bx b).block=.oth\/∃ j,(callG ρ G w s Z).own ((eT (!noG g) ρ G w s Z nr b G'.own hs adn).bx b).block=.box j:=by
     have u6:G.own ((eT (!noG g) ρ G w s Z nr b G'.own hs adn).bx b).block=.box b:=h1;simp only[callG,u6];split
     ·split
      ·exact .inr ⟨_,rfl⟩
      ·exact .inl rfl
     ·exact .inl rfl
    rcases h2 with h2|⟨j,h2⟩<;>rw[h2]<;>rfl
  ·rcases a0m _ _ h with ⟨q,m,i,e,-⟩|⟨c0,j9,kt,e,h1,h2,h3,-⟩
   ·exact absurd e eO
   ·obtain rfl:=Aak e
    injection h2 with e1 e2
    have hbn:G2.bx b=G.bx b:=fj.bx b (by rw[h1];rfl);rw[hbn]at aw ho ⊢;rw[hR.rng b j9 h1 aw ho,e2,h3]
  ·obtain⟨j,r',d,q,X,X0,m,b9,X',h1,h2,-⟩:=pC _ _ h
   exact absurd h2 eO
  ·obtain⟨r',h1,-⟩:=jZ h
   exact absurd h1 eO
 ·rcases yj _ _ hc with h|h|h|h|h
  ·obtain⟨d,nh,rfl,rfl⟩:=yb _ _ h
   refine⟨d,rfl,fun _=>?_⟩;rw[nh,mX _ _ _ _ _ (hd d nh) hR.tmps];exact Vag hg a5r
  ·rcases a0t _ _ h with ⟨q,m,i,rfl,rfl,fX⟩|⟨rfl,kt,rfl,hbr,-⟩
   ·exact⟨nr+q,rfl,by rw[ig];rfl,fX⟩
   ·exact⟨nb,rfl,hbr⟩
  ·rcases a0m _ _ h with ⟨q,m,i,rfl,rfl,fX⟩|⟨c0,j9,kt,rfl,h1,rfl,h3,h4⟩
   ·exact⟨nr+q,rfl,by rw[ig];rfl,fX⟩
   ·refine⟨c0,rfl,h4 fun j l hj=>?_⟩
    obtain⟨-,-,ez⟩:=hR.box h1;obtain⟨v,tD,hv2,hv3⟩:=ez j l hj;exact⟨v,tD,fun hl=>aB.mono fj l v hl⟩
  ·obtain⟨j,r',d,q,X,X0,m,b9,X',h1,rfl,rfl,h3,hfd,h4⟩:=pC _ _ h
   refine⟨r',rfl,by rw[ig];rfl,?_⟩;show Rp G2.own w' r' [] m (G2.hdr r') (X'.val ρ)
   have yh:G2.hdr r'=G.hdr r':=fj.hdr r' (by rw[h3];rfl);rw[yh];have a43:=(Rbw.1 h1).1;have lO:j<(yC 0 Z.rts).length:=by rw[Naf];exact a43
   have tw:=Rbz lO;obtain⟨x,p6,-,qq⟩:=Nag tw;rw[h1]at p6;obtain rfl:=Sbs p6;rw[Nat.sub_zero]at qq
   have hd0:(dO (s.params.flatMap (·.2)))[j]?=some d:=by
    rw[<- hms,Sbx,h1];rfl
   have gS:=Jac a4a hd0;rw[Sbo]at gS
   have hy:(aJ.v (y0+bI s.results+j)).val ρ=ds.getD (bI s.results+j) .undef:=by
    rw[Sbf];exact xd _ (by omega)
   rw[<- hy]at gS
   have ye:(pE s (callG ρ G w s Z) w).gh j=Va2 w (G.hdr r') (bA ρ q):=by
    simp only[pE,Faz,Rb5];rw[<- hmr,Rb9 (by simpa using lO),Sbx,tw];simp only[Sb9,Tbw];rw[Bac qq];rfl
   rw[ye]at gS;refine B.mu h3 hfd qq h1 (fun u' hn=>Baw hn) gS (pL.imp id fun hc=>?_) h4
   have eW:∀ (rts:List RT) (y j:Nat) (r d:Nat) (q:List (aJ×Nat×Nat)) (X:aJ),(rts.filter uR)[j]?=some (RT.mu r d q X)->Step.prim (.dep d) [.v (y+j)] 0∈Xa3 y rts:=by
    intro rts
    induction rts with
    |nil=>intro y j r d q X h;simp at h
    | cons x t ih =>
     intro y j r d q X h
     cases x with
     |nil=>exact ih y j r d q X (by simpa[uR,Tbs] using h)
     |own _ _=>exact ih y j r d q X (by simpa[uR,Tbs] using h)
     | mu r' d' q' X' =>
      simp only[Xa3]
      cases j with
      | zero =>
       simp[uR,Tbs]at h;rw[h.2.1];exact Sbe
      | succ j =>
       have:=ih (y+1) j r d q X (by simpa[uR,Tbs] using h);rw[show y+1+j=y+(j+1) by omega]at this;exact Rb7 _ this
   exact hc d _ (Rbx _ (Rb0 _ (eW _ _ _ _ _ _ _ h1)))
  ·obtain⟨r',rfl,rfl⟩:=jZ h
   exact⟨r',rfl,by rw[ig];rfl,trivial⟩
end
theorem Cad:∀ (cs:List BO) (y:Nat),bF (mP y cs)=0
 |[],y=>rfl
 |t::cs,y=>by cases t<;>simp only[mP,gV,Step.n,Cad cs]
theorem Cb4:∀ (ss:List LR) (y:Nat),bF (Pa9 y ss)=0
 |[],y=>rfl
 |t::ss,y=>by cases t<;>simp only[Pa9,gV,eH,Step.n,Cad,Cb4 ss]
theorem Cb2:∀ (rs:List (Bool×List LR)) (y:Nat),bF (Xa2 y rs)=0
 |[],y=>rfl
 |(a,ss)::rs,y=>by simp only[Xa2,eH,Cb4,Cb2 rs]
theorem Cb3:∀ (ts:List RT) (y:Nat),bF (Xa3 y ts)=0
 |[],y=>rfl
 |t::ts,y=>by cases t<;>simp only[Xa3,gV,Step.n,Cb3 ts]
theorem Cb5:∀ (bs:List (Bool×List (BS×BO))) (y:Nat),bF (Uaa y bs)=0
 |[],y=>rfl
 |(ro,cs)::bs,y=>by cases ro<;>simp only[Uaa,cond_true,cond_false,eH,Cad,Cb5 bs]
theorem Ray {ρ:List D}{g:Option (aJ×Bool)}{cf:Nat->List D->Option (List D)}(hg:gOn ρ g=true):∀ {l:List Step} {nv:Nat},aK cf ρ g nv l->Oaj ρ l
 |[],nv,h=>fun m y hm=>by simp at hm
 | t :: l, nv, h => fun m y hm => by
  rcases Rb4.1 hm with e|hm
  ·subst e
   obtain⟨ds,h1,-,-⟩:=h.1.1 hg;simp only[Sbk,Sbw,aN.run]at h1;split at h1
   ·rename_i hf;exact hf
   ·cases h1
  ·exact Ray hg h.2 m y hm
theorem Mad {deps:List (Nat×Nat)}{nb:Nat}:∀ (rs:List (Bool×List LR)) (y n:Nat),jR rs=0->(iK true deps nb y n rs).2.1=[]
 |[],y,n,_=>rfl
 | (a, ss) :: rs, y, n, h => by
  simp only[jR]at h
  have hl:∀ (ss:List LR) (y n:Nat),bxL ss=0->(dF true deps nb y n ss).2.1=[]:=by
   intro ss
   induction ss with
   |nil=>intro y n _;rfl
   | cons t ss ih =>
    intro y n h
    cases t with
    |bx cs=>simp[bxL]at h
    |_=>simp only[dF,bX,cond_true,Tba];exact ih _ _ (by simpa[bxL] using h)
  simp only[iK,hl ss y n (by omega),Tba];exact Mad rs _ _ (by omega)
theorem Iae {gd:Bool}{deps:List (Nat×Nat)}{nb y n:Nat}{rs:List (Bool×List LR)}{l:aO}(h:(iK gd deps nb y n rs).1=[(false,[l])]):(∀ g x,l≠.su g x)/\∀ x,l=.sc x->x=.v y/\1<=bI rs:=by
 match rs,h with
 |[],h=>simp[iK]at h
 |(a,ss)::r::rs,h=>simp[iK]at h
 | [(a, ss)], h =>
  simp only[iK,Tbj,Sbj,and_true]at h;obtain⟨-,h⟩:=h
  match ss,h with
  |[],h=>simp[dF]at h
  |t::t'::ss,h=>simp[dF]at h
  | [t], h =>
   simp only[dF,Tbj,and_true]at h;subst h
   cases t with
   |sc=>exact⟨fun g x e=>by simp[bX]at e,fun x e=>by simp[bX]at e;exact⟨e.symm,by simp[bI,lN,LR.n]⟩⟩
   |ow m=>cases gd<;>exact⟨fun g x e=>by simp[bX]at e,fun x e=>by simp[bX]at e⟩
   |_=>exact⟨fun g x e=>by simp[bX]at e,fun x e=>by simp[bX]at e⟩
theorem Vah {σ:Nat->Option aP}{ρ:List D}{G:Gh}{w:World}{z:aJ×Bool}(hg:gOn ρ (some z)=false){gd:Bool}{deps:List (Nat×Nat)}{nb y n:Nat}{rs0:List (Bool×List LR)}{rs:List (Bool×List aO)}
  (yW:(iK gd deps nb y n rs0).1=rs) (hv:1<=bI rs0->(aJ.v y).val ρ=.undef) (h:gOn ρ (Abk (some z) (zP (some z) rs))=true):bV σ ρ G w (zP (some z) rs) undef:=by
 unfold zP at h ⊢;split at h
 ·rename_i x
  obtain⟨h1,h2⟩:=(Iae yW).2 x rfl;subst h1;simp only[mkS,bV,aB];exact⟨.inr ⟨trivial,hv h2⟩,fun e=>by rw[hg]at e;cases e⟩
 ·rename_i l dk
  have vu:=(Iae yW).1;exfalso
  revert h vu
  cases l with
  |su g' x'=>exact fun _ vu=>vu g' x' rfl
  |_=>intro e _;simp only[Abk]at e;rw[hg]at e;cases e
 ·simp only[Abk]at h;rw[hg]at h;cases h
 ·simp only[Abk]at h;rw[hg]at h;cases h
section
variable {P:Program} {E:Env} {F:bE} {σ:Nat->Option aP} {ρ:List D} {a:Act} {w w':World} {G:Gh} {g:Option (aJ×Bool)} {cf:Nat->List D->Option (List D)} {o:Oper} {s:Sig} {T Z:Take} {nb nr y0 nvm:Nat}
theorem Ca1 (hR:R E.ntmps F σ ρ a w G){eE:Nat->Option aP}(fj:Fr σ G w eE G w){deps:List (Nat×Nat)}(xe:∀ z∈deps,iL σ z.1 z.2):∀ {cs:List (BS×BO)} {ls:List aO} {xs:List aJ} {y n:Nat},(jL cs ls).eval σ=some xs ->
  (∀ j x,xs[j]?=some x->(aJ.v (y+j)).val ρ=x.val ρ)->(∀ (j:Nat) (nie:Bool) (o:BO) (l:aO),cs[j]?=some (BS.fz nie,o)->ls[j]?=some l->∃ r,(wB l).eval σ=some r/\∀ z∈r.deps,z∈deps) ->
  xs.length=cs.length/\(dJ deps y n (cs.map (·.2))).2.1=[]/\(dJ deps y n (cs.map (·.2))).1.length=cs.length /\
  ∀ (j:Nat) (l l0:aO) (v:Value),(dJ deps y n (cs.map (·.2))).1[j]?=some l->ls[j]?=some l0->aB σ ρ G w l0 v->aB eE ρ G w l v
 | [], ls, xs, y, n, h, _, _ => by
  simp only[jL,aC,Rbv]at h;subst h;exact⟨rfl,rfl,rfl,by simp[dJ]⟩
 |_::_,[],xs,y,n,h,_,_=>by simp[jL,bN]at h
 | (t, o) :: cs, l0 :: ls, xs, y, n, h, hx, hz => by
  simp only[jL,aA,Rbt,aC,Rbv]at h;obtain⟨x,h1,r,h2,rfl⟩:=h;have hx0:(aJ.v y).val ρ=x.val ρ:=by have:=hx 0 x rfl;rwa[Sbz]at this
  have key:(iZ deps y n o).2.1=[]/\∀ v,aB σ ρ G w l0 v->aB eE ρ G w (iZ deps y n o).1 v:=by
   split at h1
   ·rename_i x'
    simp only[aC,Rbv]at h1;subst h1;refine⟨rfl,fun v hv=>?_⟩;simp only[iZ,aB]at hv ⊢;rw[hx0];exact hv
   ·rename_i _ nie
    simp only[aA,Rbt,aC,Rbv]at h1;obtain⟨sl,h3,rfl⟩:=h1;refine⟨rfl,fun v hv=>?_⟩;obtain⟨sl',h4,h5⟩:=hz 0 nie .fz _ rfl rfl;rw[h3]at h4;obtain rfl:=Sbs h4;have hs:=dN hR h3 hv;have ke:v.oneCell'=true:=hv.one (by cases l0<;>first|rfl|cases h3)
    have hl:aB σ ρ G w (.sn deps .no false (.v y)) v:=by
     simp only[aB];refine⟨⟨ke,xe⟩,fun _=>⟨?_,fun e=>absurd e (by decide),trivial⟩⟩;rw[hx0];refine hs.rd.mono fun b hb=>⟨?_,rfl⟩
     rcases hb with hb|⟨r,k,p,hm,hb⟩
     ·exact .inl hb
     ·exact .inr ⟨r,k,p,h5 _ hm,hb⟩
    exact aB.mono fj _ v hl
   ·rw[gG]at h1
    split at h1
    ·rename_i hs
     simp only[aC,Rbv]at h1;refine⟨rfl,fun v hv=>?_⟩;simp only[iZ,aB];exact hv.one hs
    ·cases h1
   ·cases h1
  obtain⟨h3,h4,h5,h6⟩:=Ca1 hR fj xe (cs:=cs) (y:=y+1) (n:=(iZ deps y n o).2.2) h2 (fun j x hj=>by
   have:=hx (j+1) x (by simpa using hj);rwa[show y+(j+1)=y+1+j by omega]at this) (fun j nie o' l hj hl=>hz (j+1) nie o' l (by simpa using hj) (by simpa using hl))
  refine⟨by simp[h3],by simp only[Sbk,dJ,key.1,Tba];exact h4,by simp only[Sbk,dJ,Sbm];rw[h5],fun j l l1 v hj hl hv=>?_⟩;simp only[Sbk,dJ]at hj
  cases j with
  | zero =>
   simp only[Rb2,Rbv]at hj hl;subst hj hl;exact key.2 v hv
  |succ j=>exact h6 j l l1 v (by simpa using hj) (by simpa using hl) hv
theorem Caq:∀ {ss:List (BS×BO)} {ls:List aO} {A B:Take},(dQ A ss ls).eval σ=some B->∀ (j:Nat) (nie:Bool) (o:BO) (l:aO),ss[j]?=some (BS.fz nie,o)->ls[j]?=some l->∃ r,(wB l).eval σ=some r/\∀ z∈r.deps,z∈B.deps
 |[],ls,A,B,h,j,nie,o,l,hj,_=>by simp at hj
 |_::_,[],A,B,h,_,_,_,_,_,_=>by simp[dQ,bN]at h
 | (t, o) :: ss, l0 :: ls, A, B, h, j, nie, o', l, hj, hl => by
  simp only[dQ,aA,Rbt]at h;obtain⟨C,h1,h2⟩:=h
  cases j with
  | zero =>
   simp only[Rb2,Rbv,Sbj]at hj hl;obtain⟨rfl,rfl⟩:=hj;subst hl
   have h3:(pK A nie l0).eval σ=some C:=by
    have hinv:=nY h1;clear h1
    rcases hinv with ⟨x,e,-⟩|⟨nie',e,h⟩|⟨d,e,-⟩|⟨e,-⟩
    ·cases e
    ·injection e with e;subst e;exact h
    ·cases e
    ·cases e
   unfold pK at h3;simp only[aA,Rbt,aC,Rbv]at h3;obtain⟨sl,h4,rfl⟩:=h3;exact⟨sl,h4,fun z hz=>(nX h2).1.deps z (Rb0 _ hz)⟩
  |succ j=>exact Caq h2 j nie o' l (by simpa using hj) (by simpa using hl)
theorem Car {ptrs:List (Nat×Nat×Nat)}:∀ {bs:List (Bool×List (BS×BO))} {b:Nat} {A B:Take},(eD ptrs A b bs).eval σ=some B->∀ (i:Nat) (ro:Bool) (cs:List (BS×BO)),bs[i]?=some (ro,cs) ->
  ∃ c off l8 ls,nE (b+i) ptrs=some (c,off)/\σ (kB c)=some (.box l8 ls)/\off+cs.length<=ls.length/\∀ (j:Nat) (nie:Bool) (o:BO) (l:aO),cs[j]?=some (BS.fz nie,o)->(ls.drop off)[j]?=some l->∃ r,(wB l).eval σ=some r/\∀ z∈r.deps,z∈B.deps
 |[],b,A,B,h,i,ro,cs,hi=>by simp at hi
 | (ro0, cs0) :: bs, b, A, B, h, i, ro, cs, hi => by
  simp only[eD]at h;split at h
  case h_2=>cases h
  rename_i c off hp;simp only[aA,aS,Rb1]at h;split at h
  case h_2=>cases h
  rename_i l8 ls pg;simp only[aA,aI,Rbt]at h;obtain⟨_,h0,C,h1,h2⟩:=h;split at h0
  case isFalse=>cases h0
  rename_i hb;simp only[Rbu,Tbc]at hb
  cases i with
  | zero =>
   simp only[Rb2,Rbv,Sbj]at hi;obtain⟨rfl,rfl⟩:=hi;refine⟨c,off,l8,ls,hp,pg,hb.2,fun j nie o l hj hl=>?_⟩;obtain⟨r,h3,h4⟩:=Caq h1 j nie o l hj hl;exact⟨r,h3,fun z hz=>(jU h2).1.deps z (h4 z hz)⟩
  | succ i =>
   obtain⟨c',lk,a3w,kt,h3,h4,h5,h6⟩:=Car h2 i ro cs (by simpa using hi);exact⟨c',lk,a3w,kt,by rw[show b+(i+1)=b+1+i by omega];exact h3,h4,h5,h6⟩
theorem yJ (hR:R E.ntmps F σ ρ a w G){deps:List (Nat×Nat)}(xe:∀ z∈deps,iL σ z.1 z.2){ptrs:List (Nat×Nat×Nat)}:∀ {bs:List (Bool×List (BS×BO))} {b y n:Nat} {bu:List (Nat×aP)} {xs:List aJ},
  (kL ptrs deps b y n bs).eval σ=some bu->(iA ptrs b bs).eval σ=some xs->(∀ j x,xs[j]?=some x->(aJ.v (y+j)).val ρ=x.val ρ) ->
  (∀ (i:Nat) (ro:Bool) (cs:List (BS×BO)),bs[i]?=some (ro,cs)->∃ c off l8 ls,nE (b+i) ptrs=some (c,off)/\σ (kB c)=some (.box l8 ls)/\off+cs.length<=ls.length/\∀ (j:Nat) (nie:Bool) (o:BO) (l:aO),cs[j]?=some (BS.fz nie,o)->(ls.drop off)[j]?=some l->∃ r,(wB l).eval σ=some r/\∀ z∈r.deps,z∈deps) ->
  xs.length=dV bs/\∀ k c,(k,c)∈bu->∃ (c0:Nat) (j9 ls:List aO),k=kB c0/\σ (kB c0)=some (.box false j9)/\c=.box false ls/\ls.length=j9.length/\∀ (eE:Nat->Option aP),Fr σ G w eE G w->∀ (j:Nat) (l l0:aO) (v:Value),ls[j]?=some l->j9[j]?=some l0->aB σ ρ G w l0 v->aB eE ρ G w l v
 | [], b, y, n, bu, xs, h, hx, _, _ => by
  simp only[kL,aC,Rbv]at h;simp only[iA,aC,Rbv]at hx;subst h hx;exact⟨rfl,by simp⟩
 | (ro, cs) :: bs, b, y, n, bu, xs, h, hx, hv, hz => by
  have ri:∀ (i:Nat) (ro:Bool) (cs:List (BS×BO)),bs[i]?=some (ro,cs)->∃ c off l8 ls,nE (b+1+i) ptrs=some (c,off)/\σ (kB c)=some (.box l8 ls)/\off+cs.length<=ls.length/\∀ (j:Nat) (nie:Bool) (o:BO) (l:aO),cs[j]?=some (BS.fz nie,o)->(ls.drop off)[j]?=some l->∃ r,(wB l).eval σ=some r/\∀ z∈r.deps,z∈deps:=fun i ro cs hi=>by
   have:=hz (i+1) ro cs (by simpa using hi);rwa[show b+(i+1)=b+1+i by omega]at this
  simp only[kL]at h;simp only[iA]at hx
  cases ro with
  | true =>
   simp only[cond_true]at h hx;obtain⟨h1,h2⟩:=yJ hR xe h hx hv ri;exact⟨by rw[h1];simp only[dV,cond_true,Sbo],h2⟩
  | false =>
   simp only[cond_false]at h hx;obtain⟨c,off,l8,j9,e1,e2,e3,e4⟩:=hz 0 false cs rfl;rw[Sbz]at e1;rw[e1]at h hx;simp only[aA,aS,Rb1]at h hx;rw[e2]at h hx
   cases l8 with
   |true=>simp[bN]at h
   | false =>
    simp only[aA,Rbt,aC,Rbv]at h hx;obtain⟨rest,h1,rfl⟩:=h;obtain⟨l1,h2,m1,h3,rfl⟩:=hx;have hold:=fun eE (fj:Fr σ G w eE G w)=>Ca1 (E:=E) (F:=F) (a:=a) hR fj xe (cs:=cs) (ls:=j9.drop off) (y:=y) (n:=n) h2 (fun j x hj=>hv j x (by rw[Rb9 (Rbw.1 hj).1];exact hj)) e4
    obtain⟨h4,h5,h6,-⟩:=hold σ (Fr.same σ G w [] (by simp))
    obtain⟨h7,h8⟩:=yJ hR xe h1 h3 (fun j x hj=>by
     have:=hv (cs.length+j) x (by rw[Rb6 (by omega),h4,Sb2];exact hj);rwa[<- Sbf]at this) ri
    refine⟨by rw[Rb8,h4,h7];simp only[dV,cond_false],fun k x y3=>?_⟩;rw[h5]at y3;simp only[Tb6,Tba]at y3
    rcases Rb4.1 y3 with y3|y3
    ·obtain⟨rfl,rfl⟩:=Ubb y3
     refine⟨c,j9,_,rfl,e2,rfl,jW (by rw[h6];exact e3),fun eE fj j l l0 v hj lA je=>?_⟩;rw[gQ (by rw[h6];exact e3)]at hj;split at hj
     ·rename_i hr
      refine (hold eE fj).2.2.2 (j-off) l l0 v hj ?_ je;rw[List.getElem?_drop,show off+(j-off)=j by omega];exact lA
     ·rw[lA]at hj
      obtain rfl:=Sbs hj;exact aB.mono fj _ v je
    ·exact h8 k x y3
theorem Bb5 (hR:R E.ntmps F σ ρ a w G)(hg:gOn ρ g=false)(hd:eU E.ntmps o)(y7:∀ z∈Z.deps,Kad σ z.1 z.2)(sB:Z.rts=[])(ya:jR s.results=0)
  (hZ:(eD T.ptrs T 0 s.boxes).eval σ=some Z) {olds:List aJ} (hold:(iA Z.ptrs 0 s.boxes).eval σ=some olds)
  {rs:List (Bool×List aO)} {us bu:List (Nat×aP)} {xk:Nat} (j0:iK true Z.deps nb y0 nr s.results=(rs,us,xk)) (zo:noG g=false)
  (qw:(kL Z.ptrs Z.deps 0 (y0+bI s.results) xk s.boxes).eval σ=some bu)
  (eM:∀ j d,(Sbi (bI s.results+dV s.boxes-olds.length) D.undef++olds.map (·.val ρ))[j]?=some d->(aJ.v (y0+j)).val ρ=d) :
  R E.ntmps F (upds σ (Ta4 o g rs++(us++bu))) ρ (a.put o.dst undef) w G:=by
 have za:us=[]:=by
  have:=Mad (deps:=Z.deps) (nb:=nb) s.results y0 nr ya;rw[j0]at this;exact this
 subst za;rw[Tba];obtain⟨-,p8,-⟩:=jU hZ
 have xe:∀ z∈Z.deps,iL σ z.1 z.2:=fun z hz=>by
  obtain⟨m,x,hx⟩:=y7 z hz;exact⟨x,m,z.2,.live,hx,fun _=>Sbg _⟩
 have kg:=Car hZ;rw[<- p8]at kg
 have hlen0:olds.length=dV s.boxes:=by
  have hln:∀ {bs:List (Bool×List (BS×BO))} {b:Nat} {xs:List aJ},(iA Z.ptrs b bs).eval σ=some xs->xs.length=dV bs:=by
   intro bs
   induction bs with
   |nil=>intro b xs h;simp only[iA,aC,Rbv]at h;subst h;rfl
   | cons x bs ih =>
    intro b xs h;obtain⟨ro,cs⟩:=x;simp only[iA]at h
    cases ro with
    |true=>simp only[cond_true]at h;rw[ih h];simp only[dV,cond_true,Sbo]
    | false =>
     simp only[cond_false]at h;split at h
     case h_2=>cases h
     simp only[aA,aS,Rb1]at h;split at h
     case h_2=>cases h
     simp only[aA,Rbt,aC,Rbv]at h;obtain⟨l,h1,m,h2,rfl⟩:=h
     have hc:∀ {cs:List (BS×BO)} {ls:List aO} {ys:List aJ},(jL cs ls).eval σ=some ys->ys.length=cs.length:=by
      intro cs
      induction cs with
      |nil=>intro ls ys h;simp only[jL,aC,Rbv]at h;subst h;rfl
      | cons t cs ihc =>
       intro ls ys h;obtain⟨t1,t2⟩:=t
       cases ls with
       |nil=>simp[jL,bN]at h
       | cons x ls =>
        simp only[jL,aA,Rbt,aC,Rbv]at h;obtain⟨y,-,r,h4,rfl⟩:=h;simp[ihc h4]
     rw[Rb8,hc h1,ih h2];simp only[dV,cond_false]
  exact hln hold
 have pD:bI s.results+dV s.boxes-olds.length=bI s.results:=by omega
 rw[pD]at eM
 obtain⟨-,lj⟩:=yJ hR xe qw hold (fun j x hj=>by
  rw[Sbf];refine eM _ _ ?_;rw[Rb6 (by simp),Tbz,Sb2,Sbx,hj]
  rfl) kg
 have yb:∀ k c,(k,c)∈Ta4 o g rs->∃ d,o.dst=some d/\k=kT d/\c=.slot (Abk g (zP g rs)) (zP g rs):=fun k c hc=>by
  rw[Aa1]at hc;exact wN hc
 have mb:∀ k c,(k,c)∈Ta4 o g rs++bu->∀ r,k≠kR r:=by
  intro k c hc r
  rcases Sbd.1 hc with hc|hc
  ·obtain⟨d,-,e,-⟩:=yb _ _ hc
   rw[e];exact gW
  ·obtain⟨c0,j9,ls,e,-⟩:=lj _ _ hc
   rw[e];exact eO
 have fj:=Fr.nonroot σ G w (Ta4 o g rs++bu) mb;refine hR.upd _ fj (by rw[zT];exact hR.tmps) (by rw[put_defers];exact hR.defers) hR.frame (fun t ht=>?_) (fun _ _ _ _ _=>⟨rfl,rfl⟩) (fun b ls hb aw ho=>?_) (fun k c hc ig=>?_)
 ·rw[Aa1]at ht
  exact Da1 ht
 ·rcases Sbd.1 hb with hb|hb
  ·obtain⟨d,-,e,-⟩:=yb _ _ hb
   exact absurd e.symm kK
  ·obtain⟨c0,j9,kt,e,h1,h2,h3,-⟩:=lj _ _ hb
   obtain rfl:=Aak e
   injection h2 with e1 e2
   rw[hR.rng b j9 h1 aw ho,e2,h3]
 ·rcases Sbd.1 hc with hc|hc
  ·obtain⟨d,nh,rfl,rfl⟩:=yb _ _ hc
   refine⟨d,rfl,fun fS=>?_⟩;rw[nh,mX _ _ _ _ _ (hd d nh) hR.tmps];have yW:(iK true Z.deps nb y0 nr s.results).1=rs:=by rw[j0]
   cases g with
   |none=>simp[gOn]at hg
   | some z =>
    refine Vah hg yW (fun pA=>?_) fS
    have:=eM 0 .undef (by
     rw[Rb9 (by simp;omega)];rw[Ubj,if_pos (by omega)])
    rwa[Sbz]at this
  ·obtain⟨c0,j9,ls,rfl,h1,rfl,h3,h4⟩:=lj _ _ hc
   obtain⟨h5,h6,h7⟩:=hR.box h1;refine⟨c0,rfl,h5,h6,fun j l hj=>?_⟩;have aw:j<j9.length:=by rw[<- h3];exact (Rbw.1 hj).1
   obtain⟨v,h8,h9,du⟩:=h7 j _ (Rbz aw);exact⟨v,h8,h9,h4 _ fj j l _ v hj (Rbz aw) du⟩
end
section
variable {P:Program} {E:Env} {F:bE} {σ:Nat->Option aP} {ρ:List D} {a:Act} {w:World} {G:Gh} {g:Option (aJ×Bool)} {o:Oper}
theorem Lat:∀ {vs:List SV} {us:List Value},vs.length=us.length->(∀ (i:Nat) (v:SV) (u:Value),vs[i]?=some v->us[i]?=some u->bV σ ρ G w v u)->qJ σ ρ G w vs us
 |[],[],_,_=>rfl
 |[],_::_,h,_=>by simp at h
 |_::_,[],h,_=>by simp at h
 |v::vs,u::us,h,hr=>⟨u,us,rfl,hr 0 v u rfl rfl,Lat (by simpa using h) fun i v' u' hv hu=>hr (i+1) v' u' (by simpa using hv) (by simpa using hu)⟩
theorem yZ:∀ {vs tP:List SV} {us ee:List Value},qJ σ ρ G w vs us->qJ σ ρ G w tP ee->qJ σ ρ G w (vs++tP) (us++ee)
 |[],tP,us,ee,h,h'=>by simp only[qJ]at h;subst h;exact h'
 | v :: vs, tP, us, ee, h, h' => by
  obtain⟨u,us2,rfl,h1,h2⟩:=h;exact⟨u,us2++ee,rfl,h1,yZ h2 h'⟩
theorem Eay:∀ {ls:List aO} {vs:List Value},aG σ ρ G w ls vs->qJ σ ρ G w (ls.map SV.one) vs
 |[],vs,h=>by simp only[aG]at h;subst h;rfl
 | l :: ls, vs, h => by
  simp only[aG]at h;obtain⟨u,us,rfl,h1,h2⟩:=h;exact⟨u,us,rfl,h1,Eay h2⟩
theorem Abi {f:Operand}{args:Array Operand}{argTypes:Array TypeId}(ho:o.op=.call { callee:=.value f,args,argTypes }){fn:Nat}{vs:List Value}(hf:a.eval f=.func (.func fn) #[] vs.toArray) :
  (execOp a.eval o).run P w=(callFunc fn (args.toList.map a.eval++vs).toArray).run P w:=by
 unfold execOp;simp only[ho,resolve,hf,Deferred.ofValue,invoke,Sem.run_bind,Sem.run_pure,Result.andThen_ok];congr 2;apply Array.ext';simp
theorem Bb3 {X:(Nat->Ow)->World->Prop}{T:Nat->Ent}{n:Nat}(cj:Stable X)(hX:X F.own0 F.w0)(hc:∀ key s,(key,s)∈E.sigs->Baj P X T n key s):yO P E F (jI T n):=by
 intro σ ρ a w G g o Q mv e9 nv nb nr res f args argTypes hR hd hf ho h oR u4;simp only[nZ,ho,aA,Rbt]at h;obtain⟨l,h1,h⟩:=h;split at h
 case h_2=>cases h
 rename_i fn fW;simp only[aA,Rbt]at h;obtain⟨vs0,h2,h⟩:=h;unfold Cbj at h;split at h
 ·cases h
 rename_i key s a4z;obtain⟨eW,hfn⟩:=Fa5 a4z;simp only[aA,Rbt,aI]at h;obtain⟨T1,hT,Z,hZ,_,gv,h⟩:=h;split at gv
 case isFalse=>cases gv
 rename_i hb;simp only[Rbu,Bool.or_eq_true,Tbc,List.isEmpty_iff,Sbq]at hb;obtain⟨⟨rh,a0u⟩,gv⟩:=hb;have hk:=Oau rh;obtain⟨bu,qw,⟨ml,mu⟩,wk,olds,hold,h⟩:=h;simp only[aC,Rbv]at h;subst h;dsimp only at oR u4 ⊢;generalize j0:iK (!noG g) Z.deps nb (nv+bF Z.lets) nr s.results=res at oR u4 qw ⊢;obtain⟨rs,us,xk⟩:=res;dsimp only at oR cj qw wk ⊢;refine⟨fun hg=>?_,fun hg=>?_⟩
 ·
  obtain⟨sC,vo⟩:=aK.append u4;obtain⟨mz,pL⟩:=aK.append sC;obtain⟨a03,ju⟩:=aK.append mz;obtain⟨ds,cr,hlen,eM⟩:=ju.1.1 hg
  have hn:nv+bF (Z.lets++[Step.call key Z.xs (bI s.results+(Z.rts.filter uR).length+dV s.boxes) olds]++(bif Z.deps.isEmpty then [] else Xa2 (nv+bF Z.lets) s.results++Xa3 (nv+bF Z.lets+bI s.results) Z.rts++Uaa (nv+bF Z.lets+bI s.results+(Z.rts.filter uR).length) s.boxes))=nv+bF Z.lets+(bI s.results+(Z.rts.filter uR).length+dV s.boxes):=by
   have e0:bF (bif Z.deps.isEmpty then [] else Xa2 (nv+bF Z.lets) s.results++Xa3 (nv+bF Z.lets+bI s.results) Z.rts++Uaa (nv+bF Z.lets+bI s.results+(Z.rts.filter uR).length) s.boxes)=0:=by
    cases Z.deps.isEmpty with
    |true=>rfl
    |false=>simp only[cond_false,eH,Cb2,Cb3,Cb5]
   rw[eH,eH,e0];simp only[gV,Step.n];show nv+(bF Z.lets+(_+bF [])+0)=_
   have:bF ([]:List Step)=0:=rfl;omega
  rw[hn]at vo;have tD:=fA hR hg h1;simp only[aB]at tD;obtain⟨cvs,hcv,gf⟩:=tD;obtain⟨ka,lf⟩:=wC hR hg h2
  have za:qJ σ ρ G w (vs0++fW.map SV.one) (args.toList.map a.eval++cvs):=by
   refine yZ (Lat (by rw[ka];simp) fun i v u hv hu=>?_) (Eay gf);rw[Sbx,Sbc]at hu;obtain⟨x,hx,rfl⟩:=hu;exact lf i v x hv hx
  have fq:=Bb4 hR hg a03 hk hT hZ za
  have hXc:X (callG ρ G w s Z).own w:=cj _ _ _ _ hR.frame.size (fun b hb he=>by
   have hkp:=hR.frame.keep b hb (.inl he);exact⟨hkp.1,nS (hkp.2.trans he)⟩) hX
  have fS:=hc key s eW _ w _ _ ds fq hXc cr
  have a1p:Z.deps=[]\/Oaj ρ (Xa2 (nv+bF Z.lets) s.results++Xa3 (nv+bF Z.lets+bI s.results) Z.rts++Uaa (nv+bF Z.lets+bI s.results+(Z.rts.filter uR).length) s.boxes):=by
   cases hde:Z.deps.isEmpty with
   |true=>exact .inl (by simpa using hde)
   | false =>
    rw[hde,cond_false]at pL;exact .inr (Ray hg pL)
  have a6n:noG g=true\/(jR s.results=0/\∃ olds,(iA Z.ptrs 0 s.boxes).eval σ=some olds):=by
   cases g with
   |none=>exact .inl rfl
   |some z=>exact .inr ⟨(gv.resolve_left (by simp[noG])).2,olds,hold⟩
  have wv:∀ v w',Qah s (pE s (callG ρ G w s Z) w) (callG ρ G w s Z).bx v w' ds->Nx E.ntmps F σ ρ (Ta4 o g rs++(us++bu++mu++fP Z.rts)) (a.put o.dst v) w':=by
   intro v w' oE;exact Xa9 hR hg hd hf za hT hZ hk a0u a6n j0 qw wk hlen eM a1p vo oR oE
  unfold Oper.wp;rw[Abi ho hcv,<- hfn]
  rcases fS with ⟨hr,dm⟩|⟨v,w',hr,oE⟩
  ·rw[hr,Oper.upon_enter]
   refine Calls.mono dm fun e w' he=>?_
   cases e with
   |returned v=>exact wv v w' he
   |panicked c=>exact he.elim
   |outgrown=>exact he.elim
  ·rw[hr,Oper.upon_value]
   exact wv v w' oE
 ·
  have zo:noG g=false:=by
   cases g with
   |none=>simp[gOn]at hg
   |some z=>rfl
  have h5:=gv.resolve_left (by rw[zo];simp);obtain⟨sB,ya⟩:=h5
  have a4w:mu=[]:=by
   rw[sB]at wk;simp only[xI,aC,Rbv,Sbj]at wk;exact wk.2.symm
  have a3d:fP Z.rts=[]:=by rw[sB];rfl
  have yt:(Z.rts.filter uR).length=0:=by rw[sB];rfl
  obtain⟨sC,vo⟩:=aK.append u4;obtain⟨mz,pL⟩:=aK.append sC;obtain⟨a03,ju⟩:=aK.append mz;have eM:=ju.1.2 hg;rw[yt,Sbz]at eM qw
  have a0h:(iA Z.ptrs 0 s.boxes).eval σ=some olds:=by
   cases g with
   |none=>cases zo
   |some z=>exact hold
  have qm:∀ z∈Z.deps,Kad σ z.1 z.2:=by
   obtain⟨rn,q8,-,-⟩:=tT (E:=E) (F:=F) (ρ:=ρ) (a:=a) (w:=w) (G:=G) False (fun h=>h.elim) hT (fun h=>h.elim);obtain⟨q7,hn4,-⟩:=qO (ρ:=ρ) (G:=G) (w:=w) hZ;intro z hz
   rcases (q8.trans hn4).deps z hz with h|h
   ·simp[Take.empty]at h
   ·exact h
  rw[zo]at j0;have:=Bb5 hR hg hd qm sB ya hZ a0h j0 zo qw eM;refine⟨G,?_⟩;show R E.ntmps F (upds σ (Ta4 o g rs++(us++bu++mu++fP Z.rts))) ρ _ w G
  rw[a4w,a3d,Sbu,Sbu];exact this
end
def Cbc (P:Program)(s:Sig)(e:List D->Option (List D)):Prop :=
 ∀ vals w G ds iy,Cbh s vals w G ds->e ds=some iy->Goes P s.fn vals.toArray w fun v w'=>Qah s (pE s G w) G.bx v w' iy
def Uag (P:Program)(T:Nat->Ent)(ti:Nat->Option TI)(sigs:List (Nat×Sig))(key:Nat)(s:Sig):Prop :=
 (∃ (E : Env) (fn : Func) (tm : Tm Unit), E.ti = ti /\ E.sigs = sigs /\ P.funcs[s.fn]? = some fn /\ (fn.name == "runtime.NumGoroutine") = false /\ Saq E s fn = some tm /\ T key = .tm tm) \/ ∃ e, T key = .ext e /\ Cbc P s e
def Ibj (P:Program)(X:(Nat->Ow)->World->Prop)(s:Sig)(e:List D->Option (List D)):Prop :=
 ∀ vals w G ds iy,Cbh s vals w G ds->X G.own w->e ds=some iy->Goes P s.fn vals.toArray w fun v w'=>Qah s (pE s G w) G.bx v w' iy
def Ibi (P:Program)(X:(Nat->Ow)->World->Prop)(T:Nat->Ent)(ti:Nat->Option TI)(sigs:List (Nat×Sig))(key:Nat)(s:Sig):Prop :=
 (∃ (E : Env) (fn : Func) (tm : Tm Unit), E.ti = ti /\ E.sigs = sigs /\ P.funcs[s.fn]? = some fn /\ (fn.name == "runtime.NumGoroutine") = false /\ Saq E s fn = some tm /\ T key = .tm tm) \/ ∃ e, T key = .ext e /\ Ibj P X s e
theorem Uag.toX {P:Program}{X:(Nat->Ow)->World->Prop}{T:Nat->Ent}{ti:Nat->Option TI}{sigs:List (Nat×Sig)}{key:Nat}{s:Sig}(h:Uag P T ti sigs key s):Ibi P X T ti sigs key s:=by
 rcases h with h|⟨e,h1,h2⟩
 ·exact .inl h
 ·exact .inr ⟨e,h1,fun vals w G ds iy hp _ he=>h2 vals w G ds iy hp he⟩
theorem Ta6 {P:Program}{X:(Nat->Ow)->World->Prop}{T:Nat->Ent}{ti:Nat->Option TI}{sigs:List (Nat×Sig)}(cj:Stable X)(hti:tQ P ti)(hm:P.follows .mixedOrders=true)(H:∀ key s,(key,s)∈sigs->Ibi P X T ti sigs key s) :
  ∀ n key s,(key,s)∈sigs->Baj P X T n key s:=by
 intro n
 induction n with
 | zero =>
  intro key s _ vals w G ds iy _ _ h;cases h
 | succ n ih =>
  intro key s eW
  rcases H key s eW with ⟨E,fn,tm,rfl,rfl,h1,h2,h3,h4⟩|⟨e,h1,h2⟩
  ·exact Kap hti hm h1 h2 h3 h4 fun F hX=>Bb3 cj hX fun key s h=>ih key s h
  ·intro vals w G ds iy fq hX cr
   simp only[jI,h1]at cr;exact h2 vals w G ds iy fq hX cr
theorem contracts {P:Program}{T:Nat->Ent}{ti:Nat->Option TI}{sigs:List (Nat×Sig)}(hti:tQ P ti)(hm:P.follows .mixedOrders=true)(H:∀ key s,(key,s)∈sigs->Uag P T ti sigs key s) :
  ∀ n key s,(key,s)∈sigs->sO P T n key s :=
 fun n key s eW vals w G ds iy fq cr=>Ta6 (X:=fun _ _=>True) (fun _ _ _ _ _ _ _=>trivial) hti hm (fun key s h=>(H key s h).toX) n key s eW vals w G ds iy fq trivial cr
inductive Ty where
 |int (k:IntKind)
 |bool
 |str
 |sl (bytes:Nat) (row:List Ty)
mutual
def WT:Ty->D->Prop
 |.int k,d=>∃ n,d=.int k n/\k.min<=n/\n<=k.max
 |.bool,d=>∃ b,d=.bool b
 |.str,d=>∃ s,d=.str s/\s.length<=reachBytes
 |.sl bytes row,d=>∃ rs,d=.rows row.length rs/\rs.length*bytes<=reachBytes/\∀ r∈rs,WTs row r
def WTs:List Ty->List D->Prop
 |[],ds=>ds=[]
 |t::ts,ds=>∃ d iy,ds=d::iy/\WT t d/\WTs ts iy
end
def Uao (P:Program)(rec:TypeId->Option (List Ty)):Nat->List Field->Option (List Ty)
 |_,[]=>some []
 | off, f :: fs => match rec f.type with
  |some r=>bif Nat.beq f.offset off&&Nat.beq r.length (P.cellsOf f.type) then (Uao P rec (off+r.length) fs).map (r++·) else none
  |none=>none
def Ga7 (P:Program):Nat->TypeId->Option (List Ty)
 |0,_=>none
 | n + 1, t => match P.underlying t with
  |some .bool=>some [.bool]
  |some (.int k)=>some [.int k]
  |some .string=>some [.str]
  | some (.slice e) => match Ga7 P n e with
   |some r=>bif Nat.beq r.length (P.cellsOf e) then some [.sl (P.bytesOf e) r] else none
   |none=>none
  | some (.struct fs) => match Uao P (Ga7 P n) 0 fs.toList with
   |some r=>bif Nat.beq r.length (P.cellsOf t) then some r else none
   |none=>none
  |_=>none
def iJ (w:World):List Ty->List Value->List D->Prop
 |[],cs,ds=>cs=[]/\ds=[]
 |t::ts,cs,ds=>∃ c oo d iy,cs=c::oo/\ds=d::iy/\Rd (fun _=>True) w c d/\WT t d/\iJ w ts oo iy
theorem iJ.append {w:World}:∀ {ts ts':List Ty} {cs oo:List Value} {ds iy:List D},iJ w ts cs ds->iJ w ts' oo iy->iJ w (ts++ts') (cs++oo) (ds++iy)
 | [], ts', cs, oo, ds, iy, h, h' => by
  obtain⟨rfl,rfl⟩:=h;exact h'
 | t :: ts, ts', cs, oo, ds, iy, h, h' => by
  obtain⟨c,c1,d,d1,rfl,rfl,h1,h2,h3⟩:=h;exact⟨c,c1++oo,d,d1++iy,rfl,rfl,h1,h2,h3.append h'⟩
theorem iJ.len {w:World}:∀ {ts:List Ty} {cs:List Value} {ds:List D},iJ w ts cs ds->cs.length=ts.length/\ds.length=ts.length
 |[],cs,ds,h=>by obtain⟨rfl,rfl⟩:=h;exact⟨rfl,rfl⟩
 | t :: ts, cs, ds, h => by
  obtain⟨c,c1,d,d1,rfl,rfl,h1,h2,h3⟩:=h;obtain⟨h4,h5⟩:=h3.len;simp[h4,h5]
theorem iJ.get {w:World}:∀ {ts:List Ty} {cs:List Value} {ds:List D},iJ w ts cs ds->∀ {j:Nat} {d:D},ds[j]?=some d->∃ c,cs[j]?=some c/\Rd (fun _=>True) w c d
 |[],cs,ds,h,j,d,hj=>by obtain⟨rfl,rfl⟩:=h;simp at hj
 | t :: ts, cs, ds, h, j, d, hj => by
  obtain⟨c,c1,d',d1,rfl,rfl,h1,h2,h3⟩:=h
  cases j with
  | zero =>
   simp only[Rb2,Rbv]at hj;subst hj;exact⟨c,rfl,h1⟩
  | succ j =>
   obtain⟨c',h4,h5⟩:=h3.get (j:=j) (by simpa using hj);exact⟨c',by simpa using h4,h5⟩
theorem iJ.wts {w:World}:∀ {ts:List Ty} {cs:List Value} {ds:List D},iJ w ts cs ds->WTs ts ds
 |[],cs,ds,h=>by obtain⟨rfl,rfl⟩:=h;simp[WTs]
 | t :: ts, cs, ds, h => by
  obtain⟨c,c1,d',d1,rfl,rfl,h1,h2,h3⟩:=h;simp only[WTs];exact⟨d',d1,rfl,h2,h3.wts⟩
theorem Faj {α β:Type}{f:α->Option β}:∀ {l:List α} {ys:List β},l.mapM f=some ys->ys.length=l.length/\∀ (i:Nat) (x:α),l[i]?=some x->∃ y,ys[i]?=some y/\f x=some y
 | [], ys, h => by
  simp at h;subst h;simp
 | x :: l, ys, h => by
  simp only[List.mapM_cons,bind,Rbt,pure,Rbv]at h;obtain⟨y,h1,ys',h2,rfl⟩:=h;obtain⟨h3,h4⟩:=Faj h2;refine⟨by simp[h3],fun i z hz=>?_⟩
  cases i with
  | zero =>
   simp only[Rb2,Rbv]at hz;subst hz;exact⟨y,rfl,h1⟩
  | succ i =>
   obtain⟨y',h5,h6⟩:=h4 i z (by simpa using hz);exact⟨y',by simpa using h5,h6⟩
theorem Wab {β:Type}{p:Nat->β->Prop}:∀ (n:Nat),(∀ i,i<n->∃ y,p i y)->∃ l:List β,l.length=n/\∀ i y,l[i]?=some y->p i y
 |0,_=>⟨[],rfl,by simp⟩
 | n + 1, h => by
  obtain⟨l,h1,h2⟩:=Wab n fun i hi=>h i (by omega)
  obtain⟨y,hy⟩:=h n (by omega);refine⟨l++[y],by simp[h1],fun i z hz=>?_⟩
  rcases Nat.lt_trichotomy i n with hi|hi|hi
  ·rw[Rb9 (by omega)]at hz
   exact h2 i z hz
  ·subst hi
   rw[Rb6 (by omega),h1,Nat.sub_self]at hz;simp only[Rb2,Rbv]at hz;subst hz;exact hy
  ·have:=(Rbw.1 hz).1
   simp[h1]at this;omega
theorem wX {H:Type}{P:Program}{e:TypeId}:∀ {l:List (DataW H)} {d:DataW H},d∈l->∀ n∈d.weights P e,n∈DataW.weightsAll P e l
 |[],d,h,_,_=>by simp at h
 | x :: l, d, h, n, hn => by
  simp only[DataW.weightsAll,Sbd]
  rcases Rb4.1 h with rfl|h
  ·exact .inl hn
  ·exact .inr (wX h n hn)
theorem sP {H:Type}{P:Program}{t:TypeId}{ts:List TypeId}{d:DataW H}{ds:List (DataW H)}:DataW.weightsEach P (t::ts) (d::ds)=d.weights P t++DataW.weightsEach P ts ds:=by
 simp only[DataW.weightsEach]
theorem Eat {P:Program}{w:World}{H:Type}{cs:List Value}{f:Field->List Value->Option (DataW H×List MemPlace)}{rec:TypeId->Option (List Ty)}
  (cL:∀ (fd:Field) (r:List Ty) (l:List Value) (y:DataW H×List MemPlace),rec fd.type=some r->f fd l=some y->(∀ m∈y.1.weights P fd.type,m<=reachBytes)->∃ ds,iJ w r l ds) :
  ∀ {fs:List Field} {off:Nat} {ib:List Ty} {xs:List (DataW H×List MemPlace)},Uao P rec off fs=some ib->fs.mapM (fun fd=>f fd ((cs.drop fd.offset).take (P.cellsOf fd.type)))=some xs ->
  (∀ m∈DataW.weightsEach P (fs.map (·.type)) (xs.map (·.1)),m<=reachBytes)->cs.length=off+ib.length->∃ ds,iJ w ib (cs.drop off) ds
 | [], off, ib, xs, h, _, _, hl => by
  simp only[Uao,Rbv]at h;subst h;refine⟨[],?_,rfl⟩;rw[List.drop_eq_nil_iff];simp only[List.length_nil]at hl;omega
 | fd :: fs, off, ib, xs, h, hm, hw, hl => by
  simp only[Uao]at h;split at h
  case h_2=>cases h
  rename_i r hr
  cases hb:(Nat.beq fd.offset off&&Nat.beq r.length (P.cellsOf fd.type)) with
  |false=>rw[hb]at h;cases h
  | true =>
   rw[hb,cond_true,Sbc]at h;obtain⟨a0q,h1,rfl⟩:=h;simp only[Rbu,Sbq]at hb;obtain⟨rfl,gf⟩:=hb;simp only[List.mapM_cons,bind,Rbt,pure,Rbv]at hm;obtain⟨y,h2,ys,h3,rfl⟩:=hm;simp only[Sbk,sP,Sbd]at hw;obtain⟨ds,h4⟩:=cL fd r _ y hr h2 fun m hm=>hw m (.inl hm)
   rw[Rb8]at hl;obtain⟨iy,h5⟩:=Eat cL (off:=fd.offset+r.length) h1 h3 (fun m hm=>hw m (.inr hm)) (by omega);refine⟨ds++iy,?_⟩;have:=h4.append h5;rw[<- gf]at this
   have e:List.take r.length (List.drop fd.offset cs)++List.drop (fd.offset+r.length) cs=List.drop fd.offset cs:=by
    rw[<- List.drop_drop,List.take_append_drop]
   rw[e]at this;exact this
theorem Bam {P:Program}{H:Type}{enc:TypeId×Value->H}{w:World}{sp:Nat->Bool}{held:Bool}:∀ (n fuel:Nat) {t:TypeId} {cs:List Value} {x:DataW H} {ps:List MemPlace} {ib:List Ty},Ga7 P n t=some ib->DataW.trod enc P w 0 sp held fuel t cs=some (x,ps) ->
  (∀ m∈x.weights P t,m<=reachBytes)->∃ ds,iJ w ib cs ds
 |0,_,t,cs,x,ps,ib,h,_,_=>by simp[Ga7]at h
 |n+1,0,t,cs,x,ps,ib,_,h,_=>by simp[DataW.trod]at h
 | n + 1, fuel + 1, t, cs, x, ps, ib, ht, h, hw => by
  simp only[Ga7]at ht;unfold DataW.trod at h;split at ht
  ·
   rename_i hu;rw[hu]at h;simp only[Rbv]at ht;subst ht;split at h<;>rename_i heq<;>first|(cases heq;done)|skip
   all_goals first|(injection heq with heq;cases heq;done)|skip
   ·exact⟨_,_,[],_,[],rfl,rfl,.sc (.bool _),⟨_,rfl⟩,rfl,rfl⟩
   ·cases h
  ·
   rename_i k hu;rw[hu]at h;simp only[Rbv]at ht;subst ht;split at h<;>rename_i heq<;>first|(cases heq;done)|skip
   all_goals first|(injection heq with heq;cases heq;done)|skip
   ·rename_i k0 k' m
    injection heq with heq
    injection heq with heq
    subst heq;split at h
    ·rename_i hc
     obtain⟨rfl,mf⟩:=hc;simp only[Lit.wf,Rbu,decide_eq_true_eq]at mf;exact⟨_,_,[],_,[],rfl,rfl,.sc (.int _ _),⟨_,rfl,mf.1,mf.2⟩,rfl,rfl⟩
    ·cases h
   ·cases h
  ·
   rename_i hu;rw[hu]at h;simp only[Rbv]at ht;subst ht;split at h<;>rename_i heq<;>first|(cases heq;done)|skip
   all_goals first|(injection heq with heq;cases heq;done)|skip
   ·rename_i s0
    split at h
    ·simp only[Rbv,Sbj]at h
     obtain⟨rfl,rfl⟩:=h;refine⟨_,_,[],_,[],rfl,rfl,.sc (.str s0.data.toList),⟨_,rfl,hw _ ?_⟩,rfl,rfl⟩;simp only[DataW.weights,Rby]
    ·cases h
   ·cases h
  ·
   rename_i e hu;split at ht
   case h_2=>cases ht
   rename_i r hr
   cases hb:Nat.beq r.length (P.cellsOf e) with
   |false=>rw[hb]at ht;cases ht
   | true =>
    rw[hb,cond_true]at ht;simp only[Rbv]at ht;subst ht;simp only[Sbq]at hb;rw[hu]at h;split at h<;>rename_i heq<;>first|(cases heq;done)|skip
    all_goals first|(injection heq with heq;cases heq;done)|skip
    ·injection heq with heq
     injection heq with heq
     subst heq;simp only[Rbv,Sbj]at h;obtain⟨rfl,rfl⟩:=h;refine⟨_,_,[],.rows r.length [],[],rfl,rfl,.rows none ⟨0,0,none⟩ 0 0 r.length [] (fun _ _=>undef) rfl (Sbg _) (.inl rfl) (by simp) (by simp) (by simp),⟨[],rfl,by simp,by simp⟩,rfl,rfl⟩
    ·rename_i e0 ad len cap
     injection heq with heq
     injection heq with heq
     subst heq;dsimp only at h;split at h
     case isFalse=>cases h
     rename_i hc;simp only[Rbt,Sbc,Sbj]at h;obtain⟨elems,h1,rest,h2,rfl,rfl⟩:=h;obtain⟨h3,h4⟩:=Faj h1;rw[List.length_range]at h3;simp only[DataW.weights,hu,Rb4,Sbd]at hw
     have gq:∀ i,i<len->∃ ds:List D,∃ cs:List Value,(∀ j c,cs[j]?=some c->w.cell? (ad.add (i*r.length+j))=some c)/\iJ w r cs ds:=by
      intro i hi;obtain⟨y,h5,h6⟩:=h4 i i (by rw[Vbd hi]);simp only[Rbt]at h6;obtain⟨cs,h7,h8⟩:=h6;obtain⟨x,ps⟩:=y;obtain⟨ds,h9⟩:=Bam n fuel hr h8 fun m hm=>hw m (.inr (.inl (wX (List.mem_map.2 ⟨_,Sba h5,rfl⟩) m hm)))
      refine⟨ds,cs,fun j c hj=>?_,h9⟩;unfold World.cells? at h7;split at h7
      ·obtain⟨du,eC⟩:=Faj h7
       have ni:=(Rbw.1 hj).1;rw[du,List.length_range]at ni;obtain⟨c',gi,jm⟩:=eC j j (by rw[Vbd ni]);rw[hj]at gi;obtain rfl:=Sbs gi;rw[add_add,<- hb]at jm;exact jm
      ·cases h7
     obtain⟨rs,h5,h6⟩:=Wab len gq
     have hex:∀ i,∃ cs:List Value,∀ ds,rs[i]?=some ds->(∀ j c,cs[j]?=some c->w.cell? (ad.add (i*r.length+j))=some c)/\iJ w r cs ds:=by
      intro i
      cases hi:rs[i]? with
      |none=>exact⟨[],fun ds h=>by cases h⟩
      | some ds =>
       obtain⟨cs,h7,h8⟩:=h6 i ds hi;exact⟨cs,fun iy h=>by obtain rfl:=Sbs h;exact⟨h7,h8⟩⟩
     have xq:∃ cf:Nat->List Value,∀ i ds,rs[i]?=some ds->(∀ j c,(cf i)[j]?=some c->w.cell? (ad.add (i*r.length+j))=some c)/\iJ w r (cf i) ds:=⟨fun i=>(hex i).choose,fun i=>(hex i).choose_spec⟩;obtain⟨cf,hcf⟩:=xq
     have hlen:∀ row∈rs,row.length=r.length:=fun row gq=>by
      obtain⟨i,hi⟩:=Tbe.1 gq;exact ((hcf i row hi).2.len).2
     refine⟨[.rows r.length rs],_,[],_,[],rfl,rfl,?_,⟨rs,rfl,?_,fun row gq=>?_⟩,rfl,rfl⟩
     ·refine .rows _ ad len cap r.length rs (fun i j=>((cf i)[j]?).getD undef) h5 hc.2.1 (.inr rfl) hlen (fun i row hi j d hj=>?_) (fun i row hi j d hj=>?_)
      ·obtain⟨c,h7,h8⟩:=(hcf i row hi).2.get hj
       refine⟨trivial,?_⟩;rw[(hcf i row hi).1 j c h7,h7];rfl
      ·obtain⟨c,h7,h8⟩:=(hcf i row hi).2.get hj
       rw[h7];exact h8
     ·have:=hw _ (.inl rfl)
      rw[Sbr,Sbr,h3]at this;rw[h5];exact Nat.le_trans (Nat.mul_le_mul_right _ (Nat.le_add_right ..)) this
     ·obtain⟨i,hi⟩:=Tbe.1 gq
      exact (hcf i row hi).2.wts
    ·cases h
  ·
   rename_i fs hu;split at ht
   case h_2=>cases ht
   rename_i r hr
   cases hb:Nat.beq r.length (P.cellsOf t) with
   |false=>rw[hb]at ht;cases ht
   | true =>
    rw[hb,cond_true]at ht;simp only[Rbv]at ht;subst ht;simp only[Sbq]at hb;rw[hu]at h;split at h<;>rename_i heq<;>first|(cases heq;done)|skip
    all_goals first|(injection heq with heq;cases heq;done)|skip
    ·rename_i cs0 x0 cs1 fs2
     injection heq with heq
     injection heq with heq
     subst heq;split at h
     case isFalse=>cases h
     rename_i hc;simp only[Sbc,Sbj]at h;obtain⟨xs,h1,rfl,rfl⟩:=h;simp only[DataW.weights,hu]at hw
     obtain⟨ds,h2⟩:=Eat (w:=w) (cs:=cs0) (f:=fun fd l=>DataW.trod enc P w 0 sp held fuel fd.type l) (rec:=Ga7 P n)
      (fun fd r l y hr' hy wg=>Bam n fuel hr' (x:=y.1) (ps:=y.2) hy wg) hr h1 hw (by omega)
     exact⟨ds,by simpa using h2⟩
    ·exact ((by assumption:∀ (a6c:Array Field),some (TypeDesc.struct fs)=some (TypeDesc.struct a6c)->False) fs rfl).elim
  ·cases ht
open Go.ChangeShapes Go.RowKit
def Va6:Ty->LS
 |.sl _ _=>.fz false
 |_=>.sc
def Eb8 (P:Program)(t:TypeId):Bool:=match P.underlying t with
 |some (.struct _)=>true
 |_=>false
def nL (P:Program):List TypeId->Option (List (Bool×List LS)×List Ty)
 |[]=>some ([],[])
 | t :: ts => match Ga7 P 12 t, nL P ts with
  |some r,some (ps,ib)=>some ((Eb8 P t,r.map Va6)::ps,r++ib)
  |_,_=>none
def Lbc:Gh:=⟨fun _=>.frz,fun _=>undef,fun _=>⟨0,0,none⟩⟩
theorem Xax:∀ (ib:List Ty),Uai (ib.map Va6)=ib.length/\jG (ib.map Va6)=0
 |[]=>⟨rfl,rfl⟩
 | t :: ib => by
  obtain⟨h1,h2⟩:=Xax ib;cases t<;>simp[Uai,jG,Va6,LS.cnt,LS.rcnt,h1,h2]<;>omega
theorem Daf {w:World}{ρ:List D}:∀ {ib:List Ty} {cs:List Value} {ds:List D} {i:Nat},iJ w ib cs ds->(∀ j d,ds[j]?=some d->(aJ.v (i+j)).val ρ=d)->qK Lbc w ρ 0 i 0 (ib.map Va6) cs
 |[],cs,ds,i,h,_=>by obtain⟨rfl,rfl⟩:=h;rfl
 | t :: ib, cs, ds, i, h, hv => by
  obtain⟨c,oo,d,iy,rfl,rfl,h1,h2,h3⟩:=h;have zk:(aJ.v i).val ρ=d:=by have:=hv 0 d rfl;rwa[Sbz]at this
  have hr:(Va6 t).rcnt=0:=by cases t<;>rfl
  have hc:(Va6 t).cnt=1:=by cases t<;>rfl
  refine⟨c,oo,rfl,?_,?_⟩
  ·cases t with
   | int k =>
    obtain⟨n,rfl,-⟩:=h2;simp only[Va6,jS,zk];exact h1.sc_inv rfl
   | bool =>
    obtain⟨n,rfl⟩:=h2;simp only[Va6,jS,zk];exact h1.sc_inv rfl
   | str =>
    obtain⟨n,rfl,-⟩:=h2;simp only[Va6,jS,zk];exact h1.sc_inv rfl
   | sl bytes row =>
    simp only[Va6,jS,zk];exact⟨h1.mono fun b _=>⟨rfl,rfl⟩,fun e=>absurd e (by decide)⟩
  ·rw[hr,hc]
   refine Daf (i:=i+1) h3 fun j d' hj=>?_
   have:=hv (j+1) d' (by simpa using hj);rwa[show i+(j+1)=i+1+j by omega]at this
theorem Maq {P:Program}{W:World}{base:Nat}{n:Nat}{t:TypeId}{ib:List Ty}{v:Value}(h:Ga7 P n t=some ib)(hv:Value.okWide P W .any base t v):if Eb8 P t=true then v=.agg v.cells.toList.toArray else v.cells.toList=[v]:=by
 cases n with
 |zero=>simp[Ga7]at h
 | succ n =>
  unfold Value.okWide at hv;unfold Eb8;simp only[Ga7]at h
  cases hu:P.underlying t with
  |none=>rw[hu]at h;cases h
  | some u =>
   rw[hu]at h hv
   cases u with
   | struct fs =>
    obtain⟨cs,rfl,-⟩:=hv;simp[Value.cells]
   | bool =>
    simp only[Cell.okWide,Cell.ok,hu]at hv;cases v<;>simp at hv
    simp[Value.cells]
   | int k =>
    simp only[Cell.okWide,Cell.ok,hu]at hv;cases v<;>simp at hv
    simp[Value.cells]
   | string =>
    simp only[Cell.okWide,Cell.ok,hu]at hv;cases v<;>simp at hv
    simp[Value.cells]
   | slice e =>
    simp only[Cell.okWide,Cell.ok,hu]at hv;cases v<;>simp at hv
    simp[Value.cells]
   |_=>cases h
theorem Iau {P:Program}{H:Type}{enc:TypeId×Value->H}{W:World}{sp:Nat->Bool}{held:Bool}{base:Nat}:∀ {ts:List TypeId} {vs:List Value} {ds:List (DataW H)} {ps:List MemPlace} {zf:List (Bool×List LS)} {ib:List Ty},
  nL P ts=some (zf,ib)->DataW.TrodAll enc P W 0 sp held ts vs ds ps->(∀ (j:Nat) t v,ts[j]?=some t->vs[j]?=some v->Value.okWide P W .any base t v)->(∀ m∈DataW.weightsEach P ts ds,m<=reachBytes) ->
  ∃ dd,WTs ib dd/\dd.length=ib.length/\ib.length=Ia2 zf/\iQ zf=0/\∀ (ρ:List D) (i:Nat),(∀ j d,dd[j]?=some d->(aJ.v (i+j)).val ρ=d)->kN Lbc W ρ 0 i 0 zf vs
 | [], vs, ds, ps, zf, ib, h, ht, _, _ => by
  simp only[nL,Rbv,Sbj]at h;obtain⟨rfl,rfl⟩:=h
  cases vs with
  |cons v vs=>cases ds<;>exact ht.elim
  |nil=>exact⟨[],rfl,rfl,rfl,rfl,fun ρ i _=>rfl⟩
 | t :: ts, vs, ds, ps, zf, ib, h, ht, hv, hw => by
  simp only[nL]at h;split at h
  case h_2=>cases h
  rename_i r sps' a0q hr hl;simp only[Rbv,Sbj]at h;obtain⟨rfl,rfl⟩:=h
  cases vs with
  |nil=>cases ds<;>exact ht.elim
  | cons v vs =>
   cases ds with
   |nil=>exact ht.elim
   | cons d ds =>
    obtain⟨p,q,⟨fuel,h1⟩,h2,rfl⟩:=ht;rw[sP]at hw;obtain⟨dd,h3⟩:=Bam 12 fuel hr h1 fun m hm=>hw m (Rbx _ hm)
    obtain⟨dd',h4,h5,h6,h7,h8⟩:=Iau hl h2 (fun j t' v' hj jf=>hv (j+1) t' v' (by simpa using hj) (by simpa using jf)) fun m hm=>hw m (Rb0 _ hm)
    obtain⟨wx,qu⟩:=Xax r;obtain⟨q8,hn2⟩:=h3.len;refine⟨dd++dd',?_,by simp[hn2,h5],by simp only[Rb8,Ia2,wx,h6],by simp only[iQ,qu,h7],fun ρ i eM=>?_⟩
    ·have:∀ {a:List Ty} {x:List D},WTs a x->WTs (a++a0q) (x++dd'):=by
      intro a
      induction a with
      |nil=>intro x hx;simp only[WTs]at hx;subst hx;exact h4
      | cons t a ih =>
       intro x hx;simp only[WTs]at hx;obtain⟨y,ys,rfl,hy1,hy2⟩:=hx;simp only[Tb6,WTs];exact⟨y,_,rfl,hy1,ih hy2⟩
     exact this h3.wts
    ·refine⟨v,vs,v.cells.toList,rfl,Daf h3 fun j d' hj=>eM j d' (by rw[Rb9 (Rbw.1 hj).1];exact hj),Maq hr (hv 0 t v rfl rfl),?_⟩
     rw[wx,qu];refine h8 ρ (i+r.length) fun j d' hj=>?_
     rw[Sbf,<- hn2];exact eM _ _ (by rw[Rb6 (by omega),Sb2];exact hj)
theorem yS {P:Program}{H:Type}{enc:TypeId×Value->H}(hl:laidOutB P=true){W W':World}(hb:Below W.heap.size W W'):∀ {ts:List TypeId} {vs:List Value} {ds:List (DataW H)} {ps:List MemPlace},(ts.all fun t=>P.readableRec t&&decide (t<P.types.size))=true ->
  DataW.TrodAll enc P W 0 (fun _=>true) true ts vs ds ps->DataW.TrodAll enc P W' 0 (fun b=>decide (b<W.heap.size)) true ts vs ds ps
 |[],[],[],ps,_,h=>h
 |[],[],_::_,ps,_,h=>h.elim
 |[],_::_,_,ps,_,h=>h.elim
 |_::_,[],_,ps,_,h=>h.elim
 |_::_,_::_,[],ps,_,h=>h.elim
 | t :: ts, v :: vs, d :: ds, ps, hr, h => by
  simp only[List.all_cons,Rbu,decide_eq_true_eq]at hr;obtain⟨p,q,h1,h2,rfl⟩:=h;refine⟨p,q,Below.trod hl hr.1.1 hr.1.2 h1 hb ?_,yS hl hb hr.2 h2,rfl⟩;obtain⟨m,hm⟩:=h1;exact DataW.trod_lt m _ _ _ hm
theorem Tal {P : Program} {X : (Nat -> Ow) -> World -> Prop} {T : Nat -> Ent} {key : Nat} {s : Sig} {fn : Func} {c : Code} (hc : ∀ n, Baj P X T n key s) (hfn : P.funcs[s.fn]? = some fn) (hname : (fn.name == "runtime.NumGoroutine") = false) (hbody : fn.body = some c)
  {ib:List Ty} (oc:nL P fn.params.toList=some (s.params,ib)) (gw:s.boxes=[]) (j0:s.results=[(false,[.sc])]) (hpure:∀ ds,WTs ib ds->∃ n,jI T n key ds=some [.bool true])
  {H:Type} {enc:TypeId×Value->H} {W:World} {base:Nat} {args:Array Value} {ds:List (DataW H)} {ps:List MemPlace}
  (eM:∀ (j:Nat) t v,fn.params[j]?=some t->args[j]?=some v->Value.okWide P W .any base t v) (ht:DataW.TrodAll enc P W 0 (fun _=>true) true fn.params.toList args.toList ds ps)
  (hw:∀ m∈DataW.weightsEach P fn.params.toList ds,m<=reachBytes) (hX:X (fun _=>.frz) W):Calls P s.fn args W fun e W'=>e=.returned (.bool true)/\Below W.heap.size W W':=by
 obtain⟨dd,h1,h2,h3,h4,h5⟩:=Iau (base:=base) oc ht (fun j t v hj hv=>eM j t v (by simpa using hj) (by simpa using hv)) hw;obtain⟨n,hn⟩:=hpure dd h1
 have fq:Cbh s args.toList W Lbc dd:=by
  refine⟨?_,?_,?_,fun _ _=>rfl,fun b j _ e=>by cases e⟩
  ·rw[gw]
   exact h5 dd 0 fun j d hj=>by simp[aJ.val,Rb5,hj]
  ·rw[gw];trivial
  ·rw[h2,h3,gw];rfl
 have fS:=hc n args.toList W Lbc dd _ fq hX hn;have e:args.toList.toArray=args:=by simp
 rw[e]at fS
 rcases fS with ⟨-,dm⟩|⟨v,w',hr,-⟩
 ·refine Calls.mono dm fun en W' he=>?_
  cases en with
  | returned v =>
   obtain⟨G,us,rfl,hF,fj,-⟩:=he;rw[j0]at fj;obtain⟨u,ee,vs,rfl,hl,sr,fR⟩:=fj;simp only[Jab]at fR;subst fR;simp only[Sbb,if_false]at sr;subst sr;obtain⟨u',us2,e2,kv,-⟩:=hl;obtain⟨rfl,rfl⟩:=Vbp e2;simp only[kM]at kv
   have hu:u=.bool true:=by
    have:([D.bool true].getD 0 .undef)=D.bool true:=rfl;rw[this]at kv;exact kv.bool_inv
   subst hu;exact⟨rfl,hF.os,hF.tape,hF.output,hF.size,fun k hk=>(hF.keep k hk (.inl rfl)).1⟩
  |panicked c=>exact he.elim
  |outgrown=>exact he.elim
 ·rw[lI hfn hname hbody]at hr
  cases hr
theorem Wah {P : Program} {T : Nat -> Ent} {key : Nat} {s : Sig} {fn : Func} {c : Code} (hc : ∀ n, sO P T n key s) (hfn : P.funcs[s.fn]? = some fn) (hname : (fn.name == "runtime.NumGoroutine") = false) (hbody : fn.body = some c)
  {ib:List Ty} (oc:nL P fn.params.toList=some (s.params,ib)) (gw:s.boxes=[]) (j0:s.results=[(false,[.sc])]) (hpure:∀ ds,WTs ib ds->∃ n,jI T n key ds=some [.bool true])
  {H:Type} {enc:TypeId×Value->H} {W:World} {base:Nat} {args:Array Value} {ds:List (DataW H)} {ps:List MemPlace}
  (eM:∀ (j:Nat) t v,fn.params[j]?=some t->args[j]?=some v->Value.okWide P W .any base t v) (ht:DataW.TrodAll enc P W 0 (fun _=>true) true fn.params.toList args.toList ds ps)
  (hw:∀ m∈DataW.weightsEach P fn.params.toList ds,m<=reachBytes):Calls P s.fn args W fun e W'=>e=.returned (.bool true)/\Below W.heap.size W W' :=
 Tal (X:=fun _ _=>True) (fun n vals w G ds iy hp _ h=>hc n vals w G ds iy hp h) hfn hname hbody oc gw j0 hpure eM ht hw trivial
open Go.ChangeShapes Go.RowKit in
theorem Tak {C : Checked} {spec : ChangeSpec} {T : Nat -> Ent} {key : Nat} {s : Sig} {fn : Func} {c : Code} {conds : List PathCond} (own : ownKnob C.prog.godebug = none) (laid : laidOutB C.prog = true) (hc : ∀ n, sO C.prog T n key s) (hfn : C.prog.funcs[s.fn]? = some fn) (hname : (fn.name == "runtime.NumGoroutine") = false) (hbody : fn.body = some c)
  {ib:List Ty} (oc:nL C.prog fn.params.toList=some (s.params,ib)) (gw:s.boxes=[]) (j0:s.results=[(false,[.sc])]) (hpure:∀ ds,WTs ib ds->∃ n,jI T n key ds=some [.bool true])
  (z7:(fn.params.toList.all fun t=>C.prog.readableRec t&&decide (t<C.prog.types.size))=true) {rt:TypeId} (oq:fn.resultTypes=#[rt]) (hrb:C.prog.underlying rt=some .bool)
  (tg:spec.vars=[]) (a1l:∀ (H:Type) (ds:List (DataW H)),ds.length=fn.params.size->spec.fn H ds={ results:=[.lit (.bool true)],args:=ds,vars:=[] }) (a0a:C.prog.inits.idxOf? s.fn=none)
  (os:Os) (started:os.Started) (H:Type) (enc:TypeId×Value->H)
  (witness:∃ (w:World) (tape:Tape) (i:Input),w.os=os/\(w.forCall tape i).Shaped C.prog/\i.vars=[]/\Input.okWide C.prog (w.forCall tape i) .any w.heap.size s.fn i /\
   spec.pre6 enc C.prog fn conds false (w.forCall tape i).memory i.args/\({}:Assume).holds C.prog (lone (Frame.enter C.prog s.fn i.args .normal) [] (w.forCall tape i))) :
  ReturnsInHanded {} C os s.fn .any (spec.pre6 enc C.prog fn conds false) (spec.post enc C.prog fn false true false false):=by
 refine returnsInHanded_of_change_sized own started a0a hfn witness ?_;intro W base args ds gs before eM hW _ ef _;have hW':=hW;obtain⟨p,q,hA,hV,rfl,kg,hnd⟩:=hW;rw[tg]at hV;obtain⟨rfl,rfl⟩:=trodVars_none hV
 have hvt:spec.plain.varTypes C.prog=[]:=by
  simp[ChangeSpec.plain,DataSpec.varTypes,tg]
 rw[hvt,Sbu,Sbu]at ef
 have hlen:∀ {ts:List TypeId} {vs:List Value} {ds:List (DataW H)} {ps:List MemPlace},DataW.TrodAll enc C.prog W 0 (fun _=>true) true ts vs ds ps->ds.length=ts.length:=by
  intro ts
  induction ts with
  | nil =>
   intro vs ds ps h;cases vs<;>cases ds<;>first|rfl|exact h.elim
  | cons t ts ih =>
   intro vs ds ps h;cases vs<;>cases ds<;>first|exact h.elim|skip
   obtain⟨p,q,-,h2,-⟩:=h;simp[ih h2]
 have hl:=hlen hA;refine (Wah hc hfn hname hbody oc gw j0 hpure eM hA (fun m hm=>?_)).mono fun e W' ⟨he,bel⟩=>?_
 ·rw[Sbp]at ef
  simpa using ef m hm
 ·subst he
  have gl:=a1l H (ds++[]) (by simpa using hl);refine⟨_,rfl,ds,[],_,[],p,[],hW',?_,?_,?_,bel.frame _,fun h=>by cases h⟩
  ·rw[gl,oq]
   exact trodAll_mk1 (shut_bool hrb _)
  ·rw[gl]
   simp only[Sbu];exact yS laid bel z7 hA
  ·rw[gl,tg]
   rfl
end Go.Proofs.YtgpamlpecmldfaaGreat.Rf
namespace Go.Proofs.YtgpamlpecmldfaaGreat.Rf
def tK:List (Nat×TI)->Nat->Option TI
 |[],_=>none
 |(k,i)::r,t=>bif Nat.beq k t then some i else tK r t
theorem Qar {P:Program}:∀ {l:List (Nat×TI)},(∀ p∈l,yQ P p.1=some p.2)->tQ P (tK l)
 |[],_=>⟨fun t i h=>by cases h⟩
 | (k, i) :: r, h => ⟨fun t j ht => by
  simp only[tK]at ht
  cases hb:Nat.beq k t with
  | true =>
   rw[hb,cond_true]at ht;simp only[Sbq]at hb;subst hb;rw[<- ht];exact h (k,i) Sbe
  | false =>
   rw[hb,cond_false]at ht;exact (Qar fun p hp=>h p (Rb7 _ hp)).ok t j ht⟩
def Nay:List (Nat×Ent)->Nat->Ent
 |[],_=>.none
 |(k,e)::r,t=>bif Nat.beq k t then e else Nay r t
theorem Rax {P:Program}{T:Nat->Ent}{ti:Nat->Option TI}{sigs:List (Nat×Sig)}(h:∀ p∈sigs,Uag P T ti sigs p.1 p.2):∀ key s,(key,s)∈sigs->Uag P T ti sigs key s:=fun key s hm=>h (key,s) hm
theorem Wa9 {P : Program} {T : Nat -> Ent} {E : Env} {key : Nat} {s : Sig} {fn : Func} {tm : Tm Unit} (h1 : P.funcs[s.fn]? = some fn) (h2 : (fn.name == "runtime.NumGoroutine") = false) (h3 : Saq E s fn = some tm) (h4 : T key = .tm tm) : Uag P T E.ti E.sigs key s :=
 .inl ⟨E,fn,tm,rfl,rfl,h1,h2,h3,h4⟩
theorem fnK {P : Program} {T : Nat -> Ent} {E : Env} {key : Nat} {s : Sig} {fn : Func} {tm : Tm Unit} (h1 : P.funcs[s.fn]? = some fn) (h : (fn.name == "runtime.NumGoroutine", Saq E s fn, T key) = (false, some tm, .tm tm)) : Uag P T E.ti E.sigs key s :=
 Wa9 h1 (congrArg (·.1) h) (congrArg (·.2.1) h) (congrArg (·.2.2) h)
theorem fc {α:Type}{p:α->Prop}{a:α}{l:List α}(h:p a)(h':∀ x∈l,p x):∀ x∈a::l,p x:=List.forall_mem_cons.2 ⟨h,h'⟩
theorem fc0 {α:Type}{p:α->Prop}:∀ x∈([]:List α),p x:=List.forall_mem_nil _
theorem Db3 {T:Nat->Ent}{key:Nat}{ds r:List D}(h:Fun T key ds=some r):∃ n,jI T n key ds=some r:=Eal.1 h
def apL (e d:Nat):Nat->List Nat
 |0=>[]
 |n+1=>(e-d*(n+1))::apL e d n
abbrev i64 (n:Int):D:=.int .i64 n
theorem wrap_i64 {n:Int}(h1:-9223372036854775808<=n)(h2:n<=9223372036854775807):IntKind.i64.wrap n=n:=IntWalk.i64_in n ⟨h1,h2⟩
section
variable {T:Nat->Ent} {β:Type}
end
theorem Dbr {a b:Int}:(aN.bin .lss).run [i64 a,i64 b]=some [.bool (decide (a<b))]:=by simp[aN.run,Oac,Aal]
theorem Dbt {a b:Int}:(aN.bin .gtr).run [i64 a,i64 b]=some [.bool (decide (a>b))]:=by simp[aN.run,Oac,Aal]
theorem Dbs {a b:Int}:(aN.bin .leq).run [i64 a,i64 b]=some [.bool (decide (a<=b))]:=by simp[aN.run,Oac,Aal]
theorem Dbu {a b:Int}:(aN.bin .geq).run [i64 a,i64 b]=some [.bool (decide (a ≥ b))]:=by simp[aN.run,Oac,Aal]
theorem Dbq {a b:Int}:(aN.bin .neq).run [i64 a,i64 b]=some [.bool (!(a==b))]:=by simp[aN.run,Oac,Aal,bne]
theorem Dbv {a b:Int}:(aN.bin .eql).run [i64 a,i64 b]=some [.bool (a==b)]:=by simp[aN.run,Oac,Aal]
theorem Dby {a b:Int}(h1:-9223372036854775808<=a+b)(h2:a+b<=9223372036854775807):(aN.bin .add).run [i64 a,i64 b]=some [i64 (a+b)]:=by simp[aN.run,Oac,Aal,wrap_i64 h1 h2]
theorem Dbo {a b:Int}(h1:-9223372036854775808<=a-b)(h2:a-b<=9223372036854775807):(aN.bin .sub).run [i64 a,i64 b]=some [i64 (a-b)]:=by simp[aN.run,Oac,Aal,wrap_i64 h1 h2]
theorem Dbp {b:Bool}:aN.not.run [.bool b]=some [.bool (!b)]:=rfl
theorem Dbw {a b:Bool}:(aN.eqb true).run [.bool a,.bool b]=some [.bool (!(a==b))]:=rfl
section
variable {T:Nat->Ent}
end
def upto {α:Type}(z:α)(ys:List α)(i:Nat):List α:=ys.take i++Sbi (ys.length-i) z
theorem Laj {α:Type}(z:α)(ys:List α):upto z ys 0=Sbi ys.length z:=by simp[upto]
theorem Qan {α:Type}(z:α)(ys:List α):upto z ys ys.length=ys:=by simp[upto]
theorem Qam {α:Type}(z:α)(ys:List α){i:Nat}(h:i<=ys.length):(upto z ys i).length=ys.length:=by simp[upto];omega
theorem Qal {α:Type}(z:α)(ys:List α){i:Nat}{y:α}(h:ys[i]?=some y):(upto z ys i).set i y=upto z ys (i+1):=by
 have aw:=(Rbw.1 h).1;apply List.ext_getElem?;intro j;rw[List.getElem?_set];unfold upto;rw[Rb8,Sbn,Tbz];by_cases e:i=j
 ·subst e
  rw[if_pos rfl,if_pos (by omega),Rb9 (by simp;omega),Sb0,if_pos (by omega)];exact h.symm
 ·rw[if_neg e]
  rcases Sbh j i with hj|hj
  ·rw[Rb9 (by simp;omega),Rb9 (by simp;omega),Sb0,Sb0,if_pos hj,if_pos (by omega)]
  ·rw[Rb6 (by simp;omega),Rb6 (by simp;omega),Ubj,Ubj]
   simp only[Sbn];by_cases h2:j<ys.length
   ·rw[if_pos (by omega),if_pos (by omega)]
   ·rw[if_neg (by omega),if_neg (by omega)]
section
variable {T:Nat->Ent} {β:Type}
noncomputable def Er (T:Nat->Ent)(t:Tm β)(ρ:List D):Option (Kind×List D):=(Ev T t ρ).map fun o=>(o.kind,o.vals)
def Ob8 (r:Kind×List D):Option (List D):=if r.1=.ret then some r.2 else none
def Pbe {α:Type}(d:D)(a b:Option α):Option α:=match d with
 |.bool true=>a
 |.bool false=>b
 |_=>none
def gdR (d:D)(w:Bool):Bool:=match d with
 |.bool b=>b==w
 |_=>false
theorem Mbh {f:Nat}{t:Tm Unit}(h:T f=.tm t)(args:List D):Fun T f args=(Er T t args).bind Ob8:=by
 rw[Ibg h,Er];cases Ev T t args<;>rfl
theorem Fbe (k:Kind)(xs:List aJ)(e:β)(ρ:List D):Er T (.leaf k xs e) ρ=some (k,xs.map (·.val ρ)):=by
 rw[Er,Fbc];rfl
noncomputable def stepT (T:Nat->Ent)(k:Tm β)(ρ:List D)(n:Nat)(a:Option (List D)):Option (Kind×List D):=a.bind fun ds=>if ds.length=n then Er T k (ρ++ds) else none
noncomputable def Lb1 (T:Nat->Ent)(t e:Tm β)(ρ:List D)(c:D):Option (Kind×List D):=Pbe c (Er T t ρ) (Er T e ρ)
noncomputable def ltT (T:Nat->Ent)(p:aN)(xs:List aJ)(n:Nat)(k:Tm β)(ρ:List D)(w:Bool)(c:D):Option (Kind×List D) :=
 if gdR c w=true then stepT T k ρ n (p.run (xs.map (·.val ρ))) else Er T k (ρ++Sbi n .undef)
noncomputable def Eb0 (T:Nat->Ent)(f:Nat)(xs:List aJ)(n:Nat)(os:List aJ)(k:Tm β)(ρ:List D)(w:Bool)(c:D):Option (Kind×List D) :=
 if gdR c w=true then stepT T k ρ n (Fun T f (xs.map (·.val ρ))) else Er T k (ρ++(Sbi (n-os.length) .undef++os.map (·.val ρ)))
theorem Ibn (p:aN)(xs:List aJ)(n:Nat)(k:Tm β)(ρ:List D):Er T (.lt none p xs n k) ρ=stepT T k ρ n (p.run (xs.map (·.val ρ))):=by
 rw[Er,Ibk,stepT];simp only[gOn,if_true]
 cases p.run (xs.map (·.val ρ)) with
 |none=>rfl
 | some ds =>
  simp only[Rb1];split<;>rfl
theorem Ibm (a:aJ)(w:Bool)(p:aN)(xs:List aJ)(n:Nat)(k:Tm β)(ρ:List D):Er T (.lt (some (a,w)) p xs n k) ρ=ltT T p xs n k ρ w (a.val ρ):=by
 rw[Er,Ibk,ltT,stepT];have:gOn ρ (some (a,w))=gdR (a.val ρ) w:=rfl;rw[this]
 cases gdR (a.val ρ) w with
 |false=>rfl
 | true =>
  simp only[if_true]
  cases p.run (xs.map (·.val ρ)) with
  |none=>rfl
  | some ds =>
   simp only[Rb1];split<;>rfl
theorem Cbf (f:Nat)(xs:List aJ)(n:Nat)(os:List aJ)(k:Tm β)(ρ:List D):Er T (.call none f xs n os k) ρ=stepT T k ρ n (Fun T f (xs.map (·.val ρ))):=by
 rw[Er,Yao,stepT];simp only[gOn,if_true]
 cases Fun T f (xs.map (·.val ρ)) with
 |none=>rfl
 | some ds =>
  simp only[Rb1];split<;>rfl
theorem Cbe (a:aJ)(w:Bool)(f:Nat)(xs:List aJ)(n:Nat)(os:List aJ)(k:Tm β)(ρ:List D):Er T (.call (some (a,w)) f xs n os k) ρ=Eb0 T f xs n os k ρ w (a.val ρ):=by
 rw[Er,Yao,Eb0,stepT];have:gOn ρ (some (a,w))=gdR (a.val ρ) w:=rfl;rw[this]
 cases gdR (a.val ρ) w with
 |false=>rfl
 | true =>
  simp only[if_true]
  cases Fun T f (xs.map (·.val ρ)) with
  |none=>rfl
  | some ds =>
   simp only[Rb1];split<;>rfl
theorem Ibo (c:aJ)(t e:Tm β)(ρ:List D):Er T (.ite c t e) ρ=Lb1 T t e ρ (c.val ρ):=by
 rw[Er,Ibl,Lb1]
 cases c.val ρ with
 |bool b=>cases b<;>rfl
 |_=>rfl
noncomputable def mE (T:Nat->Ent)(i:Nat)(k:Tm β)(ρ:List D)(r:Option (Kind×List D)):Option (Kind×List D):=r.bind fun r=>if r.1=.yield i then Er T k (ρ++r.2) else some r
theorem Sah {i:Nat}{k:Tm β}{ρ ds:List D}:mE T i k ρ (some (.yield i,ds))=Er T k (ρ++ds):=by simp[mE]
theorem Uat {i:Nat}{k:Tm β}{ρ ds:List D}:mE T i k ρ (some (.ret,ds))=some (.ret,ds):=by simp[mE]
theorem Saj {i:Nat}{k:Tm β}{ρ ds:List D}:mE T i k ρ (some (.cont,ds))=some (.cont,ds):=by simp[mE]
theorem Za3 {i j:Nat}{k:Tm β}{ρ ds:List D}(h:j≠i):mE T i k ρ (some (.yield j,ds))=some (.yield j,ds):=by simp[mE,h]
theorem Fbf (i:Nat)(t k:Tm β)(ρ:List D):Er T (.bind i t k) ρ=mE T i k ρ (Er T t ρ):=by
 rw[Er,Fbd,mE,Er]
 cases Ev T t ρ with
 |none=>rfl
 | some o =>
  simp only[Rb1,Sb9];split<;>rfl
theorem Cbn {t:Tm β}{ρ:List D}{k:Kind}{ds:List D}(h:Er T t ρ=some (k,ds)):∃ o,Ev T t ρ=some o/\o.kind=k/\o.vals=ds:=by
 unfold Er at h
 cases e:Ev T t ρ with
 |none=>rw[e]at h;cases h
 | some o =>
  rw[e,Sb9]at h;have:=Sbs h;exact⟨o,rfl,congrArg Prod.fst this,congrArg Prod.snd this⟩
theorem Maw {γ:Type}{body:Tm β}{ρ:List D}(m:γ->Nat)(inv:γ->Prop)(vs:γ->List D)(Q:Kind×List D->Prop)
  (h:∀ c,inv c->∃ r,Er T body (ρ++vs c)=some r/\(r.1=.cont/\(∃ c',inv c'/\m c'<m c/\r.2=vs c')\/r.1≠.cont/\Q r)) :
  ∀ (n:Nat) c,m c<=n->inv c->∀ xs:List aJ,xs.map (·.val ρ)=vs c->∃ r,Er T (.loop xs body) ρ=some r/\Q r:=by
 have key:∀ (n:Nat) c,m c<=n->inv c->∃ o,Lp T body ρ (vs c)=some o/\Q (o.kind,o.vals):=by
  intro n
  induction n with
  | zero =>
   intro c hm hc;obtain⟨⟨k,ds⟩,h1,h2⟩:=h c hc;obtain⟨o,h3,rfl,rfl⟩:=Cbn h1
   rcases h2 with ⟨-,c',-,h5,-⟩|⟨h4,h5⟩
   ·omega
   ·exact⟨o,by rw[Fba,h3,Rb1,if_neg h4],h5⟩
  | succ n ih =>
   intro c hm hc;obtain⟨⟨k,ds⟩,h1,h2⟩:=h c hc;obtain⟨o,h3,rfl,rfl⟩:=Cbn h1
   rcases h2 with ⟨h4,c',h5,h6,h7⟩|⟨h4,h5⟩
   ·obtain⟨o',h8,h9⟩:=ih c' (by omega) h5
    refine⟨o',?_,h9⟩;rw[Fba,h3,Rb1,if_pos h4];show Lp T body ρ o.vals=_
    rw[show o.vals=vs c' from h7,h8]
   ·exact⟨o,by rw[Fba,h3,Rb1,if_neg h4],h5⟩
 intro n c hm hc xs hx;obtain⟨o,h1,h2⟩:=key n c hm hc;exact⟨_,by rw[Er,Fbb,hx,h1,Sb9],h2⟩
end
def xO (ok:Nat->Bool):Nat->Bool
 |0=>true
 |n+1=>xO ok n&&ok n
theorem iF {ok:Nat->Bool}:∀ {n:Nat},xO ok n=true↔∀ i,i<n->ok i=true
 |0=>by simp[xO]
 | n + 1 => by
  simp only[xO,Rbu,iF (n:=n)];constructor
  ·rintro⟨h1,h2⟩ i hi
   rcases Sbh i n with h|h
   ·exact h1 i h
   ·obtain rfl:i=n:=by omega
    exact h2
  ·exact fun h=>⟨fun i hi=>h i (by omega),h n (by omega)⟩
theorem Cah {ok:Nat->Bool}{n:Nat}:xO ok n=false↔∃ i,i<n/\ok i=false:=by
 constructor
 ·intro h
  apply Classical.byContradiction;intro hn
  have:xO ok n=true:=iF.2 fun i hi=>by
   cases e:ok i with
   |true=>rfl
   |false=>exact absurd ⟨i,hi,e⟩ hn
  rw[this]at h;cases h
 ·rintro⟨i,hi,h⟩
  cases e:xO ok n with
  |false=>rfl
  |true=>rw[iF.1 e i hi]at h;cases h
theorem Ra8 {p q:Nat->Bool}:∀ {n:Nat},xO (fun i=>p i&&q i) n=(xO p n&&xO q n)
 |0=>rfl
 | n + 1 => by
  simp only[xO,Ra8 (n:=n)];cases xO p n<;>cases xO q n<;>cases p n<;>cases q n<;>rfl
theorem Ia8 {p q:Nat->Bool}:∀ {n:Nat},(∀ i,i<n->p i=q i)->xO p n=xO q n
 |0,_=>rfl
 |n+1,h=>by simp only[xO,Ia8 (n:=n) fun i hi=>h i (by omega),h n (by omega)]
section
variable {T:Nat->Ent} {β:Type}
end
theorem Hbe {d:D}:aN.id.run [d]=some [d]:=rfl
def inR (x lo hi:Int):Bool:=decide (lo<=x)&&decide (x<=hi)
end Go.Proofs.YtgpamlpecmldfaaGreat.Rf
