import Derived.Test.YtcbkmmhkccnamaaGreatRf6
import Derived.SizedLaws
import Derived.Carry
import Derived.ChangeOld
import Derived.ChangeShapes
import Derived.RowKit
import Derived.IntWalk
set_option linter.all false
open Bool renaming and_eq_true → Obz, false_eq_true → Ob9
open List renaming mem_append_left → Ob1, getElem?_eq_some_iff → Ob2, mem_singleton → Ob3, mem_append_right → Ob4, getElem?_eq_getElem → Ob5, getElem?_cons_zero → Ob7, mem_cons → Ob8, getD_eq_getElem?_getD → Pba, mem_cons_of_mem → Pbb, append_assoc → Pbd, mem_append → Pbe, mem_cons_self → Pbf, length_append → Pbg, mem_of_getElem? → Pbh, getElem?_append_left → Pbi, getElem?_append_right → Pbk, map_cons → Pbn, replicate → Pbp, getElem?_map → Pbr, length_map → Pbt, all_eq_true → Pbv, map_nil → Pbx, append_nil → Pbz, length_cons → Pb9, nil_append → Qbc, getElem?_take → Qbd, mem_iff_getElem? → Qbl, filter_cons → Qbq, length_take → Qbs, length_replicate → Qbv, cons_append → Qb2, getElem?_replicate → Rbq, getElem?_range → Rb8
open List.cons renaming injEq → Qbf, inj → Sbd
open Nat renaming le_refl → Pbj, add_assoc → Pbm, lt_or_ge → Pbo, beq_eq → Pbq, zero_add → Pbw, add_zero → Pby, add_sub_cancel_left → Pb1, ble_eq → Qba
open Option renaming bind_eq_some_iff → Oby, bind_some → Ob6, map_eq_some_iff → Pbc, map_some → Pb6, getD_some → Qbt
open Option.some renaming injEq → Ob0, inj → Pbu
open Prod.mk renaming injEq → Pbl, inj → Qb9
namespace Go.Proofs.YtcbkmmhkccnamaaGreat.Rf
section
variable (w:World)
def owC (ad:Addr):Nat->List BO->List Value
 |_,[]=>[]
 |off,s::r=>(match s with | .ow _=>[(w.cell? (ad.add off)).getD undef] | _=>[])++owC ad (off+1) r
def Paz:LR->Value->List Value
 |.ow _,v=>[v]
 |.bx cs,.pointer (some ad)=>owC w ad 0 cs
 |_,_=>[]
def owL:List LR->List Value->List Value
 |s::ss,v::vs=>Paz w s v++owL ss vs
 |_,_=>[]
def owR:List (Bool×List LR)->List Value->List Value
 |(a,ss)::rs,u::us=>owL w ss (if a=true then u.cells.toList else [u])++owR rs us
 |_,_=>[]
def owB (bx:Nat->Addr):Nat->List (Bool×List (BS×BO))->List Value
 |_,[]=>[]
 |b,(ro,cs)::r=>if ro=true then owB bx (b+1) r else owC w (bx b) 0 (cs.map (·.2))++owB bx (b+1) r
end
def Ma4:LR->Value->List Addr
 |.bx _,.pointer (some ad)=>[ad]
 |_,_=>[]
def Jax:List LR->List Value->List Addr
 |s::ss,v::vs=>Ma4 s v++Jax ss vs
 |_,_=>[]
def Fax:List (Bool×List LR)->List Value->List Addr
 |(a,ss)::rs,u::us=>Jax ss (if a=true then u.cells.toList else [u])++Fax rs us
 |_,_=>[]
theorem Sax (s:LR)(v:Value):(Ma4 s v).length<=(match s with|.bx _=>1|_=>0):=by
 unfold Ma4;split<;>simp
theorem Ma6:∀ (ss:List LR) (vs:List Value),(Jax ss vs).length<=bxL ss
 |[],vs=>by simp[Jax]
 |s::ss,[]=>by simp[Jax]
 | s :: ss, v :: vs => by
  have h1:=Sax s v;have h2:=Ma6 ss vs;simp only[Jax,Pbg];cases s<;>simp only[bxL]at *<;>omega
theorem Ma5:∀ (rs:List (Bool×List LR)) (us:List Value),(Fax rs us).length<=jM rs
 |[],us=>by simp[Fax]
 |(a,ss)::rs,[]=>by simp[Fax]
 | (a, ss) :: rs, u :: us => by
  have h1:=Ma6 ss (if a=true then u.cells.toList else [u]);have h2:=Ma5 rs us;simp only[Fax,Pbg,jM];omega
def Oae:List BO->Bool
 |[]=>true
 |.ow _::_=>false
 |_::r=>Oae r
section
variable {E:Env} {F:bC} {σ dc:Nat->Option aN} {ρ:List D} {a:Act} {w w':World} {G G':Gh} {s:Sig} {Z:Take} {gd:Bool} {nr nb y0:Nat} {hs:List Value} {adn:Addr} {ds:List D}
def Nab (ρ:List D)(l:List Step):Prop:=∀ m y,.prim (.dep m) [.v y] 0∈l->mY m ((aI.v y).val ρ)=true
structure Aft (E:Env) (F:bC) (σ dc:Nat->Option aN) (ρ:List D) (a:Act) (w:World) (G:Gh) (s:Sig) (Z:Take) (G':Gh) (w':World) (y0:Nat) (ds:List D):Prop where
 B:Nac E F σ ρ a w G s Z G' w'
 val:∀ i,i<ds.length->(aI.v (y0+i)).val ρ=ds.getD i .undef
 known:∀ z∈Z.deps,iK dc z.1 z.2
def UOk (q5:Nat->Prop)(dc:Nat->Option aN)(ρ:List D)(G2:Gh)(w':World)(nr nb y0:Nat)(u:List (Nat×aN)):Prop :=
 ∀ k c,(k,c)∈u->(∃ q m i,k=kR (nr+q)/\c=.root (.v (y0+i)) m 0 .live/\Rp G2.own w' (nr+q) [] m (G2.hdr (nr+q)) ((aI.v (y0+i)).val ρ)) \/
  (k=kB nb/\∃ ls,c=.box false ls/\Ha9 dc ρ G2 w' nb false ls/\q5 (G2.bx nb).block)
theorem UOk.append {q5:Nat->Prop}{G2:Gh}{u v:List (Nat×aN)}(h:UOk q5 dc ρ G2 w' nr nb y0 u)(h':UOk q5 dc ρ G2 w' nr nb y0 v):UOk q5 dc ρ G2 w' nr nb y0 (u++v):=fun k c hc=>(Pbe.1 hc).elim (h k c) (h' k c)
def UIn (dc:Nat->Option aN)(nr:Nat)(u:List (Nat×aN)):Prop:=∀ k c,(k,c)∈u->(dc k).isSome/\∀ q,k=kR (nr+q)->q<bO
theorem UIn.left {u v:List (Nat×aN)}(h:UIn dc nr (u++v)):UIn dc nr u:=fun k c hc=>h k c (Ob1 _ hc)
theorem UIn.right {u v:List (Nat×aN)}(h:UIn dc nr (u++v)):UIn dc nr v:=fun k c hc=>h k c (Ob4 _ hc)
theorem Ua7 {own':Nat->Ow}{q:Nat}(hq:q<bO){v:Value}(hv:hs[q]?=some v):(eH gd ρ G w s Z nr nb own' hs adn).hdr (nr+q)=v:=by
 simp only[eH];rw[if_pos ⟨by omega,by omega⟩,Pb1,Pba,hv];rfl
variable (A:Aft E F σ dc ρ a w G s Z G' w' y0 ds)
include A
theorem Say {i q off:Nat}{t:BO}{v:Value}(h:Bav G'.own w' ds i q t v)(hi:i<ds.length)(eR:Z.deps=[]\/∀ m,t=.ow m->mY m ((aI.v (y0+i)).val ρ)=true)
  (fp:gd=false\/∀ m,t≠.ow m) (hh:∀ m,t=.ow m->hs[q]?=some v) (hu:UIn dc nr (iV Z.deps (y0+i) (nr+q) t).2.1) :
  (iV Z.deps (y0+i) (nr+q) t).2.2=nr+q+t.q/\aB dc ρ (eH gd ρ G w s Z nr nb G'.own hs adn) w' (iV Z.deps (y0+i) (nr+q) t).1 v/\UOk (fun b=>¬ (b<w.heap.size/\Jai ((callG ρ G w s Z).own b)=false)) dc ρ (eH gd ρ G w s Z nr nb G'.own hs adn) w' nr nb y0 (iV Z.deps (y0+i) (nr+q) t).2.1:=by
 cases t with
 | sc =>
  refine⟨rfl,?_,by simp[UOk,iV]⟩;simp only[iV,aB];rw[A.val i hi];exact h
 | fz =>
  refine⟨rfl,?_,by simp[UOk,iV]⟩;simp only[iV,aB];simp only[Bav]at h;rw[A.val i hi];exact⟨⟨h.one,A.known⟩,fun _=>⟨A.B.rd h,fun e=>absurd e (by decide),trivial⟩⟩
 | ow m =>
  have hg:gd=false:=fp.resolve_right fun e=>e m rfl
  simp only[Bav]at h;have gE:=hu (kR (nr+q)) _ (by simp only[iV];exact Ob3.2 rfl);have wq:=Ua7 (gd:=gd) (ρ:=ρ) (G:=G) (w:=w) (s:=s) (Z:=Z) (nr:=nr) (nb:=nb) (adn:=adn) (own':=G'.own) (gE.2 q rfl) (hh m rfl);have q6:Z.deps=[]\/mY m (ds.getD i .undef)=true:=eR.imp id fun e=>by rw[<- A.val i hi];exact e m rfl
  have fa:=A.B.give (gd:=gd) (nr:=nr) (nb:=nb) (hs:=hs) (adn:=adn) h q6 hg (gE.2 q rfl);refine⟨rfl,?_,?_⟩
  ·simp only[iV,aB]
   exact⟨wq.symm,gE.1,h.one⟩
  ·intro k c hc
   simp only[iV,Ob3,Pbl]at hc;refine .inl ⟨q,m,i,hc.1,hc.2,?_⟩;rw[wq,A.val i hi];exact fa
 | dead =>
  refine⟨rfl,?_,by simp[UOk,iV]⟩;simp only[iV,aB];exact h
theorem xV:∀ {cs:List BO} {i q off:Nat} {ad:Addr},Aat G'.own w' ds ad off i q cs->i+cs.length<=ds.length->(Z.deps=[]\/Nab ρ (lZ (y0+i) cs))->(gd=false\/Oae cs=true) ->
  (∀ j v,(owC w' ad off cs)[j]?=some v->hs[q+j]?=some v)->UIn dc nr (dC Z.deps (y0+i) (nr+q) cs).2.1 ->
  (dC Z.deps (y0+i) (nr+q) cs).2.2=nr+q+qC cs/\(dC Z.deps (y0+i) (nr+q) cs).1.length=cs.length/\(owC w' ad off cs).length=qC cs /\
  (∀ j l,(dC Z.deps (y0+i) (nr+q) cs).1[j]?=some l->∃ v,w'.cell? (ad.add (off+j))=some v/\w'.frozen? (ad.add (off+j))=false/\aB dc ρ (eH gd ρ G w s Z nr nb G'.own hs adn) w' l v) /\
  UOk (fun b=>¬ (b<w.heap.size/\Jai ((callG ρ G w s Z).own b)=false)) dc ρ (eH gd ρ G w s Z nr nb G'.own hs adn) w' nr nb y0 (dC Z.deps (y0+i) (nr+q) cs).2.1
 |[],i,q,off,ad,_,_,_,_,_,_=>⟨rfl,rfl,rfl,by simp[dC],by simp[UOk,dC]⟩
 | t :: cs, i, q, off, ad, h, hi, eR, fp, hh, hu => by
  obtain⟨⟨v,h1,h2,h3⟩,h4⟩:=h;simp only[Pb9]at hi;simp only[dC]at hu;have hlen:∀ t:BO,(match t with|.ow _=>[(w'.cell? (ad.add off)).getD undef]|_=>([]:List Value)).length=t.q:=fun t=>by cases t<;>rfl
  have hb:=Say A (gd:=gd) (nr:=nr) (nb:=nb) (hs:=hs) (adn:=adn) (off:=off) h3 (by omega) (eR.imp id fun e m hm=>e m _ (by subst hm;simp only[lZ];exact Pbf))
   (fp.imp id fun e m hm=>by subst hm;simp[Oae]at e) (fun m hm=>by
    subst hm;have:=hh 0 v (by simp[owC,h1]);simpa using this) hu.left
  obtain⟨h5,h6,h7⟩:=hb
  have b5:=xV (cs:=cs) (i:=i+1) (q:=q+t.q) (off:=off+1) (ad:=ad) h4 (by omega) (eR.imp id fun e m y hm=>e m y (by
    cases t with
    |ow m'=>simp only[lZ];exact Pbb _ hm
    |_=>exact hm)) (fp.imp id fun e=>by cases t<;>simp[Oae]at e ⊢<;>exact e) (fun j x hj=>by
    have:=hh (t.q+j) x (by
     simp only[owC];rw[Pbk (by rw[hlen];omega),hlen,Pb1];exact hj)
    rwa[<- Pbm]at this) (by
    have:=hu.right;rw[h5]at this;rw[<- Pbm,<- Pbm];exact this)
  rw[<- Pbm,<- Pbm]at b5;obtain⟨h8,h9,cd,db,fj⟩:=b5;simp only[dC];rw[h5];refine⟨by rw[h8];simp only[qC];omega,by simp[h9],by simp only[owC,Pbg,hlen,cd,qC],fun j l hj=>?_,h7.append fj⟩
  cases j with
  | zero =>
   simp only[Ob7,Ob0]at hj;subst hj;exact⟨v,h1,h2,h6⟩
  | succ j =>
   obtain⟨v',hJ,j9,ll⟩:=db j l (by simpa using hj);rw[show off+(j+1)=off+1+j by omega];exact⟨v',hJ,j9,ll⟩
theorem Na6 (sY:dc (kB nb)=none\/True){i q:Nat}{t:LR}{v:Value}(h:kJ G'.own w' ds s.boxes.length i q t v)(hi:i+t.n<=ds.length)(eR:Z.deps=[]\/Nab ρ (Oa0 (y0+i) [t]))
  (fp:gd=false\/bxL [t]=0) (hh:∀ j x,(Paz w' t v)[j]?=some x->hs[q+j]?=some x) (qz:∀ ad∈Ma4 t v,ad=adn) (hu:UIn dc nr (bU gd Z.deps nb (y0+i) (nr+q) t).2.1) :
  (bU gd Z.deps nb (y0+i) (nr+q) t).2.2=nr+q+t.q/\(Paz w' t v).length=t.q/\aB dc ρ (eH gd ρ G w s Z nr nb G'.own hs adn) w' (bU gd Z.deps nb (y0+i) (nr+q) t).1 v/\UOk (fun b=>¬ (b<w.heap.size/\Jai ((callG ρ G w s Z).own b)=false)) dc ρ (eH gd ρ G w s Z nr nb G'.own hs adn) w' nr nb y0 (bU gd Z.deps nb (y0+i) (nr+q) t).2.1:=by
 cases t with
 | sc =>
  refine⟨rfl,by cases v<;>rfl,?_,by simp[UOk,bU]⟩;simp only[LR.n]at hi;simp only[bU,aB];rw[A.val i (by omega)];exact h
 | fz =>
  refine⟨rfl,by cases v<;>rfl,?_,by simp[UOk,bU]⟩;simp only[LR.n]at hi;simp only[kJ]at h;simp only[bU,aB];rw[A.val i (by omega)];exact⟨⟨h.one,A.known⟩,fun _=>⟨A.B.rd h,fun e=>absurd e (by decide),trivial⟩⟩
 | ow m =>
  simp only[LR.n]at hi;simp only[kJ]at h
  cases gd with
  | true =>
   refine⟨rfl,rfl,?_,by simp[UOk,bU]⟩;simp only[bU,cond_true,aB];rw[A.val i (by omega)];exact⟨⟨h.one,A.known⟩,fun _=>⟨A.B.giveGd h rfl,fun e=>absurd e (by decide),trivial⟩⟩
  | false =>
   have gE:=hu (kR (nr+q)) _ (by simp only[bU,cond_false];exact Ob3.2 rfl);have wq:=Ua7 (gd:=false) (ρ:=ρ) (G:=G) (w:=w) (s:=s) (Z:=Z) (nr:=nr) (nb:=nb) (adn:=adn) (own':=G'.own) (gE.2 q rfl) (hh 0 v rfl)
   have q6:Z.deps=[]\/mY m (ds.getD i .undef)=true:=eR.imp id fun e=>by
    rw[<- A.val i (by omega)];exact e m _ (by simp only[Oa0];exact Pbf)
   have fa:=A.B.give (gd:=false) (nr:=nr) (nb:=nb) (hs:=hs) (adn:=adn) h q6 rfl (gE.2 q rfl);refine⟨rfl,rfl,?_,?_⟩
   ·simp only[bU,cond_false,aB]
    exact⟨wq.symm,gE.1,h.one⟩
   ·intro k c hc
    simp only[bU,cond_false,Ob3,Pbl]at hc;refine .inl ⟨q,m,i,hc.1,hc.2,?_⟩;rw[wq,A.val i (by omega)];exact fa
 | rp z =>
  refine⟨rfl,by cases v<;>rfl,?_,by simp[UOk,bU]⟩;simp only[LR.n]at hi;simp only[kJ]at h;simp only[bU,aB];rw[A.val i (by omega)];refine⟨⟨h.1,A.known⟩,fun _=>?_⟩
  rcases h.2 with h1|⟨ad,row,h1,h2,h3⟩
  ·exact .inl h1
  ·exact .inr ⟨ad,row,h1,h2,A.B.rd h3⟩
 | bx cs =>
  have hg:gd=false:=fp.resolve_right fun e=>by simp[bxL]at e
  simp only[LR.n]at hi;simp only[kJ]at h;obtain⟨ad,rfl,h1,h2,h3⟩:=h;have a3d:ad=adn:=qz ad (by simp[Ma4]);simp only[bU]at hu;have hu':UIn dc nr (dC Z.deps (y0+i) (nr+q) cs).2.1:=fun k c hc=>hu k c (Pbb _ hc)
  obtain⟨h4,h5,h6,h7,h8⟩:=xV A (gd:=gd) (nb:=nb) (hs:=hs) (adn:=adn) h3 hi (eR.imp id fun e m y hm=>e m y (by simp only[Oa0];exact Ob1 _ hm)) (.inl hg) hh hu';have lb:=(hu (kB nb) _ Pbf).1
  have fv:(eH gd ρ G w s Z nr nb G'.own hs adn).bx nb=ad:=by
   simp only[eH,if_pos trivial];exact a3d.symm
  have v7:¬ (ad.block<w.heap.size/\Jai ((callG ρ G w s Z).own ad.block)=false):=by
   ·rintro⟨hb,gj⟩
    cases kt:(callG ρ G w s Z).own ad.block with
    |frz=>have:=(A.B.keep hb (.inl kt)).2;rw[h2,kt]at this;cases this
    |oth=>have:=(A.B.keep hb (.inr kt)).2;rw[h2,kt]at this;cases this
    |slc _ _=>rw[kt]at gj;cases gj
    | box j =>
     have:=(A.B.hF.boxes ad.block j hb kt).1;rw[h2]at this
     injection this with this
     have hgc:∃ c,Na3 Z.ptrs c 0 s.boxes=some j:=by
      simp only[callG]at kt
      cases hgb:G.own ad.block with
      | box c =>
       rw[hgb]at kt;dsimp only at kt;split at kt
       ·rename_i x hx
        split at kt
        ·injection kt with kt
         exact⟨c,by rw[hx,kt]⟩
        ·cases kt
       ·cases kt
      | slc r p =>
       rw[hgb]at kt;dsimp only at kt
       rcases Dad (ρ:=ρ) (dr:=Z.deps.map (·.1)) (r:=r) (p:=p) Z.rts 0 with ⟨_,_,e⟩|e|e<;>rw[e]at kt<;>cases kt
      |frz=>rw[hgb]at kt;cases kt
      |oth=>rw[hgb]at kt;cases kt
     obtain⟨c,hc⟩:=hgc;obtain⟨j',nj,ka,e1,e2,-⟩:=Dac hc;have:=(Ob2.1 e2).1;omega
  have a7:(eH gd ρ G w s Z nr nb G'.own hs adn).own ad.block=.box nb:=by
   simp only[eH];rw[if_neg v7,h2];simp[rC]
  refine⟨?_,?_,?_,?_⟩
  ·simp only[bU];exact h4
  ·simp only[Paz];exact h6
  ·simp only[bU,aB]
   exact⟨by rw[fv];rfl,lb⟩
  ·simp only[bU]
   intro k c hc
   rcases Ob8.1 hc with hc|hc
   ·obtain⟨rfl,rfl⟩:=Qb9 hc
    refine .inr ⟨rfl,_,rfl,⟨by rw[fv];exact h1,by rw[fv,a7];rfl,fun j l hj=>?_⟩,by rw[fv];exact v7⟩;rw[fv];have:=h7 j l hj;rwa[Pbw]at this
   ·exact h8 k c hc
theorem yX:∀ {ss:List LR} {i q:Nat} {vs:List Value},nH G'.own w' ds s.boxes.length i q ss vs->i+lF ss<=ds.length->(Z.deps=[]\/Nab ρ (Oa0 (y0+i) ss)) ->
  (gd=false\/bxL ss=0)->(∀ j x,(owL w' ss vs)[j]?=some x->hs[q+j]?=some x)->(∀ ad∈Jax ss vs,ad=adn)->UIn dc nr (cZ gd Z.deps nb (y0+i) (nr+q) ss).2.1 ->
  (cZ gd Z.deps nb (y0+i) (nr+q) ss).2.2=nr+q+qL ss/\(owL w' ss vs).length=qL ss/\aG dc ρ (eH gd ρ G w s Z nr nb G'.own hs adn) w' (cZ gd Z.deps nb (y0+i) (nr+q) ss).1 vs/\UOk (fun b=>¬ (b<w.heap.size/\Jai ((callG ρ G w s Z).own b)=false)) dc ρ (eH gd ρ G w s Z nr nb G'.own hs adn) w' nr nb y0 (cZ gd Z.deps nb (y0+i) (nr+q) ss).2.1
 | [], i, q, vs, h, _, _, _, _, _, _ => by
  simp only[nH]at h;subst h;exact⟨rfl,rfl,by simp[cZ,aG],by simp[UOk,cZ]⟩
 | t :: ss, i, q, vs, h, hi, eR, fp, hh, qz, hu => by
  obtain⟨u,us,rfl,h1,h2⟩:=h;simp only[lF]at hi;simp only[cZ]at hu
  obtain⟨h3,h4,h5,h6⟩:=Na6 A (gd:=gd) (nb:=nb) (hs:=hs) (adn:=adn) (.inr trivial) h1 (by omega) (eR.imp id fun e m y hm=>e m y (by
    cases t with
    |ow m'=>simp only[Oa0,Ob3]at hm ⊢;rw[hm];exact Pbf
    |bx cs=>simp only[Oa0,Pbz]at hm ⊢;exact Ob1 _ hm
    |_=>simp[Oa0]at hm))
   (fp.imp id fun e=>by cases t<;>simp only[bxL]at e ⊢<;>omega) (fun j x hj=>hh j x (by
    simp only[owL];rw[Pbi (Ob2.1 hj).1];exact hj))
   (fun ad hm=>qz ad (by simp only[Jax];exact Ob1 _ hm)) hu.left
  have b5:=yX (ss:=ss) (i:=i+t.n) (q:=q+t.q) h2 (by omega) (eR.imp id fun e m y hm=>e m y (by
    cases t with
    |ow m'=>simp only[Oa0];exact Pbb _ hm
    |bx cs=>simp only[Oa0];rw[Pbm];exact Ob4 _ hm
    |_=>exact hm)) (fp.imp id fun e=>by cases t<;>simp only[bxL]at e<;>omega) (fun j x hj=>by
    have:=hh (t.q+j) x (by
     simp only[owL];rw[Pbk (by rw[h4];omega),h4,Pb1];exact hj)
    rwa[<- Pbm]at this) (fun ad hm=>qz ad (by simp only[Jax];exact Ob4 _ hm)) (by
    have:=hu.right;rw[h3]at this;rw[<- Pbm,<- Pbm];exact this)
  rw[<- Pbm,<- Pbm]at b5;obtain⟨h7,h8,h9,cd⟩:=b5;simp only[cZ];rw[h3];refine⟨by rw[h7];simp only[qL];omega,by simp only[owL,Pbg,h4,h8,qL],?_,h6.append cd⟩;simp only[aG];exact⟨u,us,rfl,h5,h9⟩
theorem Ga7:∀ {rs:List (Bool×List LR)} {i q:Nat} {us:List Value},Ha7 G'.own w' ds s.boxes.length i q rs us->i+bF rs<=ds.length->(Z.deps=[]\/Nab ρ (Va6 (y0+i) rs)) ->
  (gd=false\/jM rs=0)->(∀ j x,(owR w' rs us)[j]?=some x->hs[q+j]?=some x)->(∀ ad∈Fax rs us,ad=adn)->UIn dc nr (iJ gd Z.deps nb (y0+i) (nr+q) rs).2.1 ->
  (iJ gd Z.deps nb (y0+i) (nr+q) rs).2.2=nr+q+qR rs/\(owR w' rs us).length=qR rs/\gY dc ρ (eH gd ρ G w s Z nr nb G'.own hs adn) w' (iJ gd Z.deps nb (y0+i) (nr+q) rs).1 us/\UOk (fun b=>¬ (b<w.heap.size/\Jai ((callG ρ G w s Z).own b)=false)) dc ρ (eH gd ρ G w s Z nr nb G'.own hs adn) w' nr nb y0 (iJ gd Z.deps nb (y0+i) (nr+q) rs).2.1
 | [], i, q, us, h, _, _, _, _, _, _ => by
  simp only[Ha7]at h;subst h;exact⟨rfl,rfl,rfl,by simp[UOk,iJ]⟩
 | (ag, ss) :: rs, i, q, us, h, hi, eR, fp, hh, qz, hu => by
  obtain⟨u,cD,vs,rfl,h1,h2,h3⟩:=h;simp only[bF]at hi;simp only[iJ]at hu
  have kd:(if ag=true then u.cells.toList else [u])=vs:=by
   cases ag with
   | true =>
    simp only[if_true]at h2 ⊢;rw[h2];simp[Value.cells]
   |false=>simp only[Ob9,if_false]at h2 ⊢;exact h2.symm
  obtain⟨h4,h5,h6,h7⟩:=yX A (gd:=gd) (nb:=nb) (hs:=hs) (adn:=adn) h1 (by omega) (eR.imp id fun e m y hm=>e m y (by simp only[Va6];exact Ob1 _ hm))
   (fp.imp id fun e=>by simp only[jM]at e;omega) (fun j x hj=>hh j x (by
    simp only[owR,kd];rw[Pbi (Ob2.1 hj).1];exact hj))
   (fun ad hm=>qz ad (by simp only[Fax,kd];exact Ob1 _ hm)) hu.left
  have b5:=Ga7 (rs:=rs) (i:=i+lF ss) (q:=q+qL ss) h3 (by omega) (eR.imp id fun e m y hm=>e m y (by
    simp only[Va6];rw[Pbm]
    exact Ob4 _ hm)) (fp.imp id fun e=>by simp only[jM]at e;omega) (fun j x hj=>by
    have:=hh (qL ss+j) x (by
     simp only[owR,kd];rw[Pbk (by rw[h5];omega),h5,Pb1];exact hj)
    rwa[<- Pbm]at this) (fun ad hm=>qz ad (by simp only[Fax];exact Ob4 _ hm)) (by
    have:=hu.right;rw[h4]at this;rw[<- Pbm,<- Pbm];exact this)
  rw[<- Pbm,<- Pbm]at b5;obtain⟨h8,h9,cd,db⟩:=b5;simp only[iJ];rw[h4];exact⟨by rw[h8];simp only[qR];omega,by simp only[owR,kd,Pbg,h5,h9,qR],⟨u,cD,vs,rfl,h6,h2,cd⟩,h7.append db⟩
theorem xS (sY:σ (kB nb)=none):∀ {bs:List (Bool×List (BS×BO))} {b i q:Nat} {bu:List (Nat×aN)},(∀ j x,bs[j]?=some x->s.boxes[b+j]?=some x)->(kH Z.ptrs Z.deps b (y0+i) (nr+q) bs).eval σ=some bu ->
  kK G'.own w' ds (callG ρ G w s Z).bx b i q bs->i+dP bs<=ds.length->(Z.deps=[]\/Nab ρ (Saw (y0+i) bs))->(gd=false\/∀ x∈bs,x.1=false->Oae (x.2.map (·.2))=true) ->
  (∀ j x,(owB w' (callG ρ G w s Z).bx b bs)[j]?=some x->hs[q+j]?=some x)->UIn dc nr bu ->
  (∀ k c,(k,c)∈bu->(∃ q m i,k=kR (nr+q)/\c=.root (.v (y0+i)) m 0 .live/\Rp (eH gd ρ G w s Z nr nb G'.own hs adn).own w' (nr+q) [] m ((eH gd ρ G w s Z nr nb G'.own hs adn).hdr (nr+q)) ((aI.v (y0+i)).val ρ)) \/
   ∃ c0 iy ls,k=kB c0/\σ (kB c0)=some (.box false iy)/\c=.box false ls/\ls.length=iy.length /\
    ((∀ j l,iy[j]?=some l->∃ v,w.cell? ((G.bx c0).add j)=some v/\(aB σ ρ G w l v->aB dc ρ (eH gd ρ G w s Z nr nb G'.own hs adn) w' l v))->Ha9 dc ρ (eH gd ρ G w s Z nr nb G'.own hs adn) w' c0 false ls)) /\
  (∀ c,c∈iC false Z.ptrs b bs->∃ x,(kB c,x)∈bu)
 | [], b, i, q, bu, _, h, _, _, _, _, _, _ => by
  simp only[kH,aF,Ob0]at h;subst h;exact⟨by simp,by simp[iC]⟩
 | (ro, cs) :: bs, b, i, q, bu, hbs, h, hf, hi, eR, fp, hh, hu => by
  simp only[kH]at h
  have a1j:∀ j x,bs[j]?=some x->s.boxes[b+1+j]?=some x:=fun j x hj=>by
   rw[show b+1+j=b+(j+1) by omega];exact hbs (j+1) x (by simpa using hj)
  cases ro with
  | true =>
   simp only[cond_true]at h;simp only[kK,if_true]at hf;simp only[dP,cond_true,Pbw]at hi
   obtain⟨h1,h2⟩:=xS sY (bs:=bs) (b:=b+1) a1j h hf hi (eR.imp id fun e m y hm=>e m y (by simp only[Saw,cond_true];exact hm)) (fp.imp id fun e x hx=>e x (Pbb _ hx))
    (fun j x hj=>hh j x (by simp only[owB,if_true];exact hj)) hu
   refine⟨h1,fun c hc=>h2 c ?_⟩;have e:(true==false)=false:=rfl;simp only[iC,e,cond_false]at hc;exact hc
  | false =>
   simp only[cond_false]at h;simp only[kK,Ob9,if_false]at hf;simp only[dP,cond_false]at hi;split at h
   case h_2=>cases h
   rename_i c off hp;simp only[aA,aP,Ob6]at h;split at h
   case h_2=>cases h
   rename_i iy ny;simp only[aA,Oby,aF,Ob0]at h;obtain⟨rest,h1,rfl⟩:=h;have fv:(callG ρ G w s Z).bx b=(G.bx c).add off:=by simp only[callG,hp]
   rw[fv]at hf;have vg:=hbs 0 _ rfl;rw[Pby]at vg;obtain⟨c',ka,kk,jn,e1,e2,e3,e4⟩:=A.B.bx b false cs vg;rw[hp]at e1;obtain⟨rfl,rfl⟩:c=c'/\off=ka:=by simpa using e1
   rw[ny]at e2;obtain⟨rfl,rfl⟩:false=kk/\iy=jn:=by simpa using e2
   have hu1:UIn dc nr (dC Z.deps (y0+i) (nr+q) (cs.map (·.2))).2.1:=fun k x hx=>hu k x (Pbb _ (Ob1 _ hx))
   have hu2:UIn dc nr rest:=fun k x hx=>hu k x (Pbb _ (Ob4 _ hx))
   obtain⟨h2,h3,h4,h5,h6⟩:=xV A (gd:=gd) (nb:=nb) (hs:=hs) (adn:=adn) hf.1 (by simp;omega) (eR.imp id fun e m y hm=>e m y (by simp only[Saw,cond_false];exact Ob1 _ hm))
    (fp.imp id fun e=>e _ Pbf rfl) (fun j x hj=>hh j x (by
     simp only[owB,Ob9,if_false,fv];rw[Pbi (Ob2.1 hj).1];exact hj)) hu1
   rw[Pbt]at h3;rw[h2]at h1
   have b5:=xS sY (bs:=bs) (b:=b+1) (i:=i+cs.length) (q:=q+qC (cs.map (·.2))) a1j (by rw[<- Pbm,<- Pbm];exact h1) hf.2 (by omega)
    (eR.imp id fun e m y hm=>e m y (by simp only[Saw,cond_false];rw[Pbm];exact Ob4 _ hm)) (fp.imp id fun e x hx=>e x (Pbb _ hx)) (fun j x hj=>by
     have:=hh (qC (cs.map (·.2))+j) x (by
      simp only[owB,Ob9,if_false,fv];rw[Pbk (by rw[h4];omega),h4,Pb1];exact hj)
     rwa[<- Pbm]at this) hu2
   obtain⟨h7,h8⟩:=b5;refine⟨fun k x hx=>?_,fun c2 sa=>?_⟩
   ·rcases Ob8.1 hx with hx|hx
    ·obtain⟨rfl,rfl⟩:=Qb9 hx
     refine .inr ⟨c,iy,_,rfl,ny,rfl,jR (by rw[h3];exact e3),fun hold=>?_⟩;obtain⟨oo,kA,sE⟩:=A.B.hR.box ny;simp only[Ob9,if_false]at kA;have hcn:c≠nb:=fun e=>by rw[e,sY]at ny;cases ny
     have yj:(eH gd ρ G w s Z nr nb G'.own hs adn).bx c=G.bx c:=by simp only[eH,if_neg hcn]
     have lP:0<iy.length:=by have:=(e4 rfl).2;omega
     obtain⟨v0,xr,-,-⟩:=sE 0 _ (Ob5 lP);have aq:(G.bx c).block<w.heap.size:=by have:=Jav xr;rwa[add_block]at this
     obtain⟨h9,cd⟩:=A.B.boxes (gd:=gd) (nr:=nr) (nb:=nb) (hs:=hs) (adn:=adn) kA aq;refine⟨by rw[yj];exact oo,by rw[yj,h9];rfl,fun j l hj=>?_⟩;rw[yj];rw[gV (by rw[h3];exact e3)]at hj;split at hj
     ·rename_i hr
      obtain⟨v,db,fj,hJ⟩:=h5 _ l hj;rw[add_add,Pbw,show off+(j-off)=j by omega]at db fj;exact⟨v,db,fj,hJ⟩
     ·rename_i hr
      obtain⟨v,db,fj,hJ⟩:=sE j l hj;obtain⟨v',j9,ll⟩:=hold j l hj;rw[db]at j9;obtain rfl:=Pbu j9
      rcases cd with cd|⟨j2,cs2,yW,ls2,c0,c1,e,fr,f1,f2,f3,f4,f5,f6,f7,f8,f9⟩
      ·exact⟨v,(eY (w:=w) (w':=w') (by rw[add_block];exact cd)).trans db,(jL (w:=w) (w':=w') (by rw[add_block];exact cd)).trans fj,ll hJ⟩
      ·
       have a3r:mP (0+b) Z.ptrs=some (c,off):=by rw[Pbw];exact hp
       have nx:=oN A.B.hk.wr vg a3r;have f2':mP (0+j2) Z.ptrs=some (c,yW):=by rw[Pbw];exact f2
       have nc:=oN A.B.hk.wr f1 f2';rw[nx]at nc;have uo:b=j2:=by have:=Pbu nc;omega
       subst uo;rw[hp]at f2;rw[vg]at f1;obtain⟨-,rfl⟩:c=c/\off=yW:=by simpa using f2
       obtain rfl:cs=cs2:=by simpa using f1
       rw[h3]at hr
       have bc:∀ (ww:World) (cc:Array Value),ww.heap[(G.bx c).block]?=some (.cells cc e fr)->ww.cell? ((G.bx c).add j)=cc[(G.bx c).off+j]?/\ww.frozen? ((G.bx c).add j)=(fr.1<=(G.bx c).off+j&&(G.bx c).off+j<fr.2):=by
        intro ww cc hcc;have:=Qav (n:=j) oo;refine⟨?_,?_⟩
        ·unfold World.cell?
         rw[add_block,hcc];simp[this,Oa4]
        ·unfold World.frozen?
         rw[add_block,hcc];simp[Oa4]
       obtain⟨g1,g2⟩:=bc w c0 f6;obtain⟨g3,g4⟩:=bc w' c1 f7;refine⟨v,?_,by rw[g4,<- g2];exact fj,ll hJ⟩;rw[g3,f9 _ (by omega),<- g1];exact db
    ·rcases Pbe.1 hx with hx|hx
     ·rcases h6 k x hx with h9|⟨h9,-⟩
      ·exact .inl h9
      ·exfalso
       have:∀ (l:List BO) (y n:Nat),∀ z∈(dC Z.deps y n l).2.1,∃ r,z.1=kR r:=by
        intro l
        induction l with
        |nil=>intro y n z hz;simp[dC]at hz
        | cons t l ih =>
         intro y n z hz;simp only[dC]at hz
         rcases Pbe.1 hz with hz|hz
         ·cases t<;>simp[iV]at hz
          exact⟨n,by rw[hz]⟩
         ·exact ih _ _ z hz
       obtain⟨r,hr⟩:=this _ _ _ _ hx;rw[h9]at hr;exact eD hr
     ·exact h7 k x hx
   ·simp only[iC]at sa
    have e:(false==false)=true:=rfl;rw[e,cond_true,hp]at sa
    rcases Ob8.1 sa with rfl|sa
    ·exact⟨_,Pbf⟩
    ·obtain⟨x,hx⟩:=h8 c2 sa
     exact⟨x,Pbb _ (Ob4 _ hx)⟩
end
theorem Faf {f:Nat}{vs:List SV}:∀ {l:List (Nat×Sig)} {key:Nat} {s:Sig},Fag f vs l=some (key,s)->(key,s)∈l/\s.fn=f
 |[],key,s,h=>by simp[Fag]at h
 | (k, t) :: l, key, s, h => by
  simp only[Fag]at h
  revert h
  generalize hb:(Nat.beq t.fn f&&Oa3 t.params vs)=b;intro h
  cases b with
  | false =>
   rw[cond_false]at h;obtain⟨h1,h2⟩:=Faf h;exact⟨Pbb _ h1,h2⟩
  | true =>
   rw[cond_true]at h;obtain⟨rfl,rfl⟩:=Qb9 (Pbu h);simp only[Obz,Pbq]at hb;exact⟨Pbf,hb.1⟩
section
variable {E:Env} {F:bC} {σ:Nat->Option aN} {ρ:List D} {a:Act} {w:World} {G:Gh} {g:Option (aI×Bool)} {cf:Nat->List D->Option (List D)}
theorem Ta4 {l:aM}{s:SlR}(h:(vJ l).eval σ=some s):∀ z∈s.deps,Jaa σ z.1 z.2:=by
 unfold vJ at h;split at h
 ·rename_i r
  simp only[aA,aP,Ob6]at h;split at h
  ·rename_i x m aE hk
   simp only[aF,Ob0]at h;subst h;intro z hz;simp only[Ob3]at hz;subst hz;exact⟨m,x,hk⟩
  ·simp only[aF,Ob0]at h
   subst h;simp
  ·cases h
 ·rename_i deps p nie x
  simp only[aA,Oby]at h;obtain⟨ds,h1,h2⟩:=h;obtain⟨h3,h4,h5⟩:=iG h1;split at h2
  ·simp only[aF,Ob0]at h2
   subst h2;exact fun z hz=>(h4 z hz).2
  ·rename_i r k z ct
   simp only[aA,aP,Ob6]at h2;split at h2
   ·simp only[aF,Ob0]at h2
    subst h2;intro z' hz';simp only[Ob3]at hz';subst hz';have:=h4 z (by simp);have e:=this.1;simp only[Ob3]at e;rw[e]at this;exact this.2
   ·cases h2
  ·simp only[aF,Ob0]at h2
   subst h2;exact fun z hz=>(h4 z hz).2
 ·cases h
def rtD:RT->Nat
 |.mu _ d _ _=>d
 |_=>0
def xK:Nat->List RT->List Nat
 |_,[]=>[]
 |ν,.mu _ _ _ _::t=>ν::xK (ν+1) t
 |ν,_::t=>xK (ν+1) t
theorem La6:∀ {rts:List RT} {fN j ν:Nat},(xK fN rts)[j]?=some ν->∃ x:RT,(rts.filter uB)[j]?=some x/\fN<=ν/\rts[ν-fN]?=some x
 |[],fN,j,ν,h=>by simp[xK]at h
 | x :: t, fN, j, ν, h => by
  have next:∀ {j:Nat},(xK (fN+1) t)[j]?=some ν->∃ y:RT,(t.filter uB)[j]?=some y/\fN<=ν/\(x::t)[ν-fN]?=some y:=by
   intro j h;obtain⟨y,h1,h2,h3⟩:=La6 h;refine⟨y,h1,by omega,?_⟩;rw[show ν-fN=(ν-(fN+1))+1 by omega];simpa using h3
  cases x with
  | mu r d q X =>
   simp only[xK]at h
   cases j with
   | zero =>
    simp only[Ob7,Ob0]at h;subst h;exact⟨.mu r d q X,by simp[uB,Qbq],Pbj _,by simp⟩
   | succ j =>
    obtain⟨y,h1,h2,h3⟩:=next (by simpa using h);exact⟨y,by simpa[uB,Qbq] using h1,h2,h3⟩
  | nil =>
   obtain⟨y,h1,h2,h3⟩:=next h;exact⟨y,by simpa[uB,Qbq] using h1,h2,h3⟩
  | own r d =>
   obtain⟨y,h1,h2,h3⟩:=next h;exact⟨y,by simpa[uB,Qbq] using h1,h2,h3⟩
theorem La5:∀ (rts:List RT) (fN:Nat),(xK fN rts).length=(rts.filter uB).length
 |[],fN=>rfl
 |x::t,fN=>by cases x<;>simp[xK,uB,La5 t,Qbq]
theorem Cad:∀ (a b:List RT) (fN:Nat),xK fN (a++b)=xK fN a++xK (fN+a.length) b
 |[],b,fN=>rfl
 | x :: a, b, fN => by
  have:=Cad a b (fN+1);rw[show fN+1+a.length=fN+(a.length+1) by omega]at this;cases x<;>simp[xK,this]
def Abp (σ:Nat->Option aN)(ρ:List D)(G:Gh)(w:World):RT->Prop
 |.nil=>True
 |.own r _=>∃ x m aE,σ (kR r)=some (.root x m aE .live)
 |.mu r d q X=>∃ m aE u,σ (kR r)=some (.root X m aE .live)/\q.length+d<=m/\wG G.own w r [] (G.hdr r) (aZ ρ q) u
structure Saz (σ:Nat->Option aN) (A B:Take) (rn:List RT) (ms:List Nat) (mr:List Nat):Prop where
 rts:B.rts=A.rts++rn
 deps:∀ z∈B.deps,z∈A.deps\/Jaa σ z.1 z.2
 ms:(rn.filter uB).map rtD=ms
 mr:xK A.rts.length rn=mr
theorem Gav {A B:Take}{d:Nat}{l:aM}(h:(rR A d l).eval σ=some B):∃ rn,Saz σ A B rn [] []/\rn.length=1/\∀ x∈rn,Abp σ ρ G w x:=by
 unfold rR at h;split at h
 ·rename_i r
  simp only[aA,aP,Ob6]at h;split at h
  ·rename_i x m aE hk
   simp only[aA,aH,Oby,aF,Ob0]at h;obtain⟨_,-,rfl⟩:=h;refine⟨[.own r d],⟨rfl,fun z hz=>.inl hz,rfl,rfl⟩,rfl,fun y hy=>?_⟩;simp only[Ob3]at hy;subst hy;exact⟨x,m,aE,hk⟩
  ·cases h
 ·simp only[aF,Ob0]at h
  subst h;refine⟨[.nil],⟨rfl,fun z hz=>.inl hz,rfl,rfl⟩,rfl,fun y hy=>?_⟩;simp only[Ob3]at hy;subst hy;trivial
 ·cases h
theorem Gay {A B:Take}{nie:Bool}{l:aM}(h:(oK A nie l).eval σ=some B):Saz σ A B [] [] []:=by
 unfold oK at h;simp only[aA,Oby,aF,Ob0]at h;obtain⟨s,h1,rfl⟩:=h;exact⟨by simp,fun z hz=>(Pbe.1 hz).imp id fun hz=>Ta4 h1 z hz,rfl,rfl⟩
theorem Qa8 {A B:Take}{z:Nat}{l:aM}(h:(Da1 A z l).eval σ=some B):Saz σ A B [] [] []:=by
 unfold Da1 at h;split at h
 ·simp only[aA,Oby,aF,Ob0]at h
  obtain⟨ds,h1,rfl⟩:=h;exact⟨by simp,fun z hz=>(Pbe.1 hz).imp id fun hz=>((iG h1).2.1 z hz).2,rfl,rfl⟩
 ·simp only[aF,Ob0]at h
  subst h;exact⟨by simp,fun z hz=>.inl hz,rfl,rfl⟩
 ·cases h
theorem Kag (P:Prop)(hR:P->R E.ntmps F σ ρ a w G){A B:Take}{t:LS}{l:aM}(h:(pO g A t l).eval σ=some B)(hl:P->∃ v,aB σ ρ G w l v) :
  ∃ rn,Saz σ A B rn (dJ [t]) (dU A.rts.length [t])/\rn.length=t.rcnt/\(P->∀ x∈rn,Abp σ ρ G w x):=by
 unfold pO at h;split at h
 ·simp only[Kad,aA,Oby,aF,Ob0]at h
  obtain⟨x,-,rfl⟩:=h;exact⟨[],⟨by simp,fun z hz=>.inl hz,rfl,rfl⟩,rfl,by simp⟩
 ·exact⟨[],Gay h,rfl,by simp⟩
 ·rename_i _ d
  unfold Gaw at h;simp only[aA,Oby]at h;obtain⟨sl,h1,h⟩:=h;split at h
  case h_2=>cases h
  rename_i r k m q ho;simp only[aA,aH,aP,Ob6,Oby]at h;obtain⟨_,h2,h⟩:=h;split at h2
  case isFalse=>cases h2
  rename_i hb;simp only[Qba]at hb;split at h
  case h_2=>cases h
  rename_i X m' v' lE;simp only[aF,Ob0]at h;subst h;refine⟨[.mu r d q X],⟨rfl,fun z hz=>.inl hz,rfl,rfl⟩,rfl,fun hP y hy=>?_⟩;simp only[Ob3]at hy;subst hy;obtain⟨v,hv⟩:=hl hP;have a7:=(dI (hR hP) h1 hv).own;unfold sD at a7;rw[ho]at a7;obtain⟨h3,⟨x,h4⟩,h5,h6,h7⟩:=a7;rw[lE]at h4
  obtain⟨rfl,rfl,rfl⟩:X=x/\m'=m/\v'=k:=by
   have:=Pbu h4
   injection this with e1 e2 e3
   exact⟨e1,e2,e3⟩
  exact⟨_,_,_,lE,hb,h7⟩
 ·obtain⟨rn,h1,h2,h3⟩:=Gav (ρ:=ρ) (G:=G) (w:=w) h
  exact⟨rn,h1,h2,fun _=>h3⟩
 ·simp only[aF,Ob0]at h
  subst h;exact⟨[],⟨by simp,fun z hz=>.inl hz,rfl,rfl⟩,rfl,by simp⟩
 ·split at h
  ·rw[gG]at h
   split at h
   ·simp only[aF,Ob0]at h
    subst h;exact⟨[],⟨by simp,fun z hz=>.inl hz,rfl,rfl⟩,rfl,by simp⟩
   ·cases h
  ·cases h
 ·exact⟨[],Qa8 h,rfl,by simp⟩
 ·cases h
theorem Saz.trans {A B C:Take}{rn qo:List RT}{ms ms' mr qp:List Nat}(h:Saz σ A B rn ms mr)(h':Saz σ B C qo ms' qp):Saz σ A C (rn++qo) (ms++ms') (mr++qp):=by
 refine⟨by rw[h'.rts,h.rts,Pbd],fun z hz=>?_,by rw[List.filter_append,List.map_append,h.ms,h'.ms],?_⟩
 ·rcases h'.deps z hz with h1|h1
  ·exact h.deps z h1
  ·exact .inr h1
 ·rw[Cad,h.mr]
  have:=h'.mr;rw[h.rts,Pbg]at this;rw[this]
theorem qI (t:LS)(ss:List LS):dJ (t::ss)=dJ [t]++dJ ss:=by cases t<;>rfl
theorem tV (t:LS)(ss:List LS)(r:Nat):dU r (t::ss)=dU r [t]++dU (r+t.rcnt) ss:=by cases t<;>rfl
theorem tX:∀ (x y:List LS),dJ (x++y)=dJ x++dJ y
 |[],y=>rfl
 |t::x,y=>by rw[Qb2,qI,qI t x,tX x y,Pbd]
theorem wP:∀ (x y:List LS) (r:Nat),dU r (x++y)=dU r x++dU (r+jC x) y
 |[],y,r=>rfl
 | t :: x, y, r => by
  rw[Qb2,tV,tV t x,wP x y,Pbd];simp only[jC,Pbm]
theorem wJ (P:Prop)(hR:P->R E.ntmps F σ ρ a w G):∀ {ss:List LS} {ls:List aM} {A B:Take},(bY g A ss ls).eval σ=some B->(P->∃ vs,aG σ ρ G w ls vs) ->
  ∃ rn,Saz σ A B rn (dJ ss) (dU A.rts.length ss)/\rn.length=jC ss/\(P->∀ x∈rn,Abp σ ρ G w x)
 | [], [], A, B, h, _ => by
  simp only[bY,aF,Ob0]at h;subst h;exact⟨[],⟨by simp,fun z hz=>.inl hz,rfl,rfl⟩,rfl,by simp⟩
 |[],_::_,A,B,h,_=>by simp[bY,bJ]at h
 |_::_,[],A,B,h,_=>by simp[bY,bJ]at h
 | t :: ss, l :: ls, A, B, h, hl => by
  simp only[bY,aA,Oby]at h;obtain⟨C,h1,h2⟩:=h
  obtain⟨rn,h3,h4,h5⟩:=Kag P hR h1 (fun hP=>by
   obtain⟨vs,hv⟩:=hl hP;simp only[aG]at hv;obtain⟨u,us,-,hu,-⟩:=hv;exact⟨u,hu⟩)
  obtain⟨qo,h6,h7,h8⟩:=wJ P hR h2 (fun hP=>by
   obtain⟨vs,hv⟩:=hl hP;simp only[aG]at hv;obtain⟨u,us,-,-,hu⟩:=hv;exact⟨us,hu⟩)
  have:=h3.trans h6;rw[h3.rts,Pbg,h4,<- tV,<- qI]at this;exact⟨rn++qo,this,by simp[h4,h7,jC],fun hP x hx=>(Pbe.1 hx).elim (h5 hP x) (h8 hP x)⟩
theorem sO (P:Prop)(hR:P->R E.ntmps F σ ρ a w G):∀ {ps:List (Bool×List LS)} {vs:List SV} {A B:Take},(dZ g A ps vs).eval σ=some B->(P->∃ us,pJ σ ρ G w vs us) ->
  ∃ rn,Saz σ A B rn (dJ (ps.flatMap (·.2))) (dU A.rts.length (ps.flatMap (·.2)))/\rn.length=iO ps/\(P->∀ x∈rn,Abp σ ρ G w x)
 | [], [], A, B, h, _ => by
  simp only[dZ,aF,Ob0]at h;subst h;exact⟨[],⟨by simp,fun z hz=>.inl hz,rfl,rfl⟩,rfl,by simp⟩
 |[],_::_,A,B,h,_=>by simp[dZ,bJ]at h
 |_::_,[],A,B,h,_=>by simp[dZ,bJ]at h
 | (ag, ss) :: ps, v :: vs, A, B, h, hl => by
  simp only[dZ,aA,Oby,aT]at h;obtain⟨ls,h0,C,h1,h2⟩:=h
  obtain⟨rn,h3,h4,h5⟩:=wJ P hR h1 (fun hP=>by
   obtain⟨us,u,cD,rfl,hu,-⟩:=hl hP;exact⟨_,gW h0 hu⟩)
  obtain⟨qo,h6,h7,h8⟩:=sO P hR h2 (fun hP=>by
   obtain⟨us,u,cD,rfl,-,hu⟩:=hl hP;exact⟨cD,hu⟩)
  have:=h3.trans h6;rw[h3.rts,Pbg,h4,<- wP,<- tX]at this;exact⟨rn++qo,by rw[List.flatMap_cons];exact this,by simp[h4,h7,iO],fun hP x hx=>(Pbe.1 hx).elim (h5 hP x) (h8 hP x)⟩
theorem yD:∀ {ss:List (BS×BO)} {ls:List aM} {A B:Take},(dM A ss ls).eval σ=some B->∃ rn,Saz σ A B rn [] []/\∀ x∈rn,Abp σ ρ G w x
 | [], ls, A, B, h => by
  simp only[dM,aF,Ob0]at h;subst h;exact⟨[],⟨by simp,fun z hz=>.inl hz,rfl,rfl⟩,by simp⟩
 |_::_,[],A,B,h=>by simp[dM,bJ]at h
 | (t, o) :: ss, l :: ls, A, B, h => by
  simp only[dM,aA,Oby]at h;obtain⟨C,h1,h2⟩:=h;obtain⟨qo,h6,h8⟩:=yD h2
  have key:∃ rn,Saz σ A C rn [] []/\∀ x∈rn,Abp σ ρ G w x:=by
   have hinv:=nK h1;clear h1
   rcases hinv with ⟨x,rfl,rfl,rfl⟩|⟨nie,rfl,h⟩|⟨d,rfl,h⟩|⟨rfl,-,rfl⟩
   ·exact⟨[],⟨by simp,fun z hz=>.inl hz,rfl,rfl⟩,by simp⟩
   ·exact⟨[],Gay h,by simp⟩
   ·obtain⟨rn,h3,-,h5⟩:=Gav (ρ:=ρ) (G:=G) (w:=w) h
    exact⟨rn,h3,h5⟩
   ·exact⟨[],⟨by simp,fun z hz=>.inl hz,rfl,rfl⟩,by simp⟩
  obtain⟨rn,h3,h5⟩:=key;exact⟨rn++qo,h3.trans h6,fun x hx=>(Pbe.1 hx).elim (h5 x) (h8 x)⟩
theorem pQ {ptrs:List (Nat×Nat×Nat)}:∀ {bs:List (Bool×List (BS×BO))} {b:Nat} {A B:Take},(dX ptrs A b bs).eval σ=some B->∃ rn,Saz σ A B rn [] []/\∀ x∈rn,Abp σ ρ G w x
 | [], b, A, B, h => by
  simp only[dX,aF,Ob0]at h;subst h;exact⟨[],⟨by simp,fun z hz=>.inl hz,rfl,rfl⟩,by simp⟩
 | (ro, cs) :: bs, b, A, B, h => by
  simp only[dX]at h;split at h
  case h_2=>cases h
  simp only[aA,aP,Ob6]at h;split at h
  case h_2=>cases h
  simp only[aA,aH,Oby]at h;obtain⟨_,-,C,h1,h2⟩:=h;obtain⟨rn,h3,h5⟩:=yD (ρ:=ρ) (G:=G) (w:=w) h1;obtain⟨qo,h6,h8⟩:=pQ h2;exact⟨rn++qo,h3.trans h6,fun x hx=>(Pbe.1 hx).elim (h5 x) (h8 x)⟩
theorem vO (hg:gOn ρ g=true):∀ {rts:List RT} {y nv:Nat} {ml:List Step} {mu:List (Nat×aN)},(wQ y nv rts).eval σ=some (ml,mu)->aJ cf ρ g nv ml ->
  (∀ k c,(k,c)∈mu->∃ (j r d:Nat) (q:List (aI×Nat×Nat)) (X X0:aI) (m aE:Nat) (X':aI),(rts.filter uB)[j]?=some (RT.mu r d q X)/\k=kR r/\c=.root X' m (aE+1) .live/\σ (kR r)=some (.root X0 m aE .live)/\(q.length+d=m\/mY d ((aI.v (y+j)).val ρ)=true)/\Upd (aZ ρ q) (X.val ρ) ((aI.v (y+j)).val ρ) (X'.val ρ))
 | [], y, nv, ml, mu, h, _ => by
  simp only[wQ,aF,Ob0,Pbl]at h;obtain⟨rfl,rfl⟩:=h;simp
 | .nil :: t, y, nv, ml, mu, h, ba => by
  have:=vO hg (rts:=t) h ba;simpa[uB,Qbq] using this
 | .own r d :: t, y, nv, ml, mu, h, ba => by
  have:=vO hg (rts:=t) h ba;simpa[uB,Qbq] using this
 | .mu r d q X :: t, y, nv, ml, mu, h, ba => by
  simp only[wQ,aA,aP,Ob6]at h;split at h
  case h_2=>cases h
  rename_i X0 m aE hk;simp only[aA,Oby,aF,Ob0,Pbl]at h;obtain⟨⟨ls,us⟩,h1,rfl,rfl⟩:=h;obtain⟨hs0,a1m⟩:=aJ.append ba
  obtain⟨hfd,zx⟩:(q.length+d=m\/mY d ((aI.v y).val ρ)=true)/\bD (bif Nat.beq (q.length+d) m then [] else [Step.prim (.dep d) [.v y] 0])=0:=by
   cases hb:Nat.beq (q.length+d) m with
   |true=>exact⟨.inl (Nat.eq_of_beq_eq_true hb),rfl⟩
   | false =>
    rw[hb,cond_false]at hs0;obtain⟨ds,h1,-,-⟩:=hs0.1.1 hg;simp only[Pbn,Pbx,aY.run]at h1;split at h1
    ·rename_i hf;exact⟨.inr hf,rfl⟩
    ·cases h1
  rw[zx,Pby]at a1m;obtain⟨nn,l7⟩:=aJ.append a1m;have b5:=vO hg h1 l7;intro k c hc
  rcases Ob8.1 hc with hc|hc
  ·obtain⟨rfl,rfl⟩:=Qb9 hc
   exact⟨0,r,d,q,X,X0,m,aE,_,by simp[uB,Qbq],rfl,rfl,hk,hfd,zF hg q nv X (.v y) nn⟩
  ·obtain⟨j,r',d',q',X',X1,m',tp,X2,h2,h3,h4,h5,sR,h6⟩:=b5 k c hc
   exact⟨j+1,r',d',q',X',X1,m',tp,X2,by simpa[uB,Qbq] using h2,h3,h4,h5,by rw[show y+(j+1)=y+1+j by omega];exact sR,by rw[show y+(j+1)=y+1+j by omega];exact h6⟩
theorem vP:∀ {rts:List RT} {y nv:Nat} {ml:List Step} {mu:List (Nat×aN)},(wQ y nv rts).eval σ=some (ml,mu)->∀ r,r∈bT rts->(∃ c,(kR r,c)∈mu)\/∃ c,(kR r,c)∈fP rts
 |[],y,nv,ml,mu,h,r,hr=>by simp[bT]at hr
 |.nil::t,y,nv,ml,mu,h,r,hr=>vP (rts:=t) h r hr
 | .own s d :: t, y, nv, ml, mu, h, r, hr => by
  simp only[bT,Ob8]at hr
  rcases hr with rfl|hr
  ·exact .inr ⟨_,by simp only[fP];exact Pbf⟩
  ·exact (vP (rts:=t) h r hr).imp id fun ⟨c,hc⟩=>⟨c,by simp only[fP];exact Pbb _ hc⟩
 | .mu s d q X :: t, y, nv, ml, mu, h, r, hr => by
  simp only[wQ,aA,aP,Ob6]at h;split at h
  case h_2=>cases h
  simp only[aA,Oby,aF,Ob0,Pbl]at h;obtain⟨⟨ls,us⟩,h1,rfl,rfl⟩:=h;simp only[bT,Ob8]at hr
  rcases hr with rfl|hr
  ·exact .inl ⟨_,Pbf⟩
  ·exact (vP h1 r hr).imp (fun ⟨c,hc⟩=>⟨c,Pbb _ hc⟩) id
theorem jU:∀ {rts:List RT} {k:Nat} {c:aN},(k,c)∈fP rts->∃ r,k=kR r/\c=.root (.c .hole) 0 0 .gone
 |[],k,c,h=>by simp[fP]at h
 |.nil::t,k,c,h=>jU (rts:=t) h
 |.mu s d q X::t,k,c,h=>jU (rts:=t) h
 | .own s d :: t, k, c, h => by
  simp only[fP,Ob8,Pbl]at h
  rcases h with ⟨rfl,rfl⟩|h
  ·exact⟨s,rfl,rfl⟩
  ·exact jU h
end
theorem uT {deps:List (Nat×Nat)}:∀ (cs:List BO) (y n:Nat),(dC deps y n cs).2.2=n+qC cs/\∀ k c,(k,c)∈(dC deps y n cs).2.1->∃ r y m,n<=r/\k=kR r/\c=.root (.v y) m 0 .live
 |[],y,n=>⟨rfl,by simp[dC]⟩
 | t :: cs, y, n => by
  have hb:(iV deps y n t).2.2=n+t.q/\∀ k c,(k,c)∈(iV deps y n t).2.1->∃ r y m,n<=r/\k=kR r/\c=.root (.v y) m 0 .live:=by
   cases t<;>refine⟨rfl,fun k c hc=>?_⟩<;>simp[iV]at hc
   exact⟨n,y,_,Pbj _,hc.1,hc.2⟩
  obtain⟨h1,h2⟩:=hb;simp only[dC];rw[h1];obtain⟨h3,h4⟩:=uT (deps:=deps) cs (y+1) (n+t.q);refine⟨by rw[h3];simp only[qC];omega,fun k c hc=>?_⟩
  rcases Pbe.1 hc with hc|hc
  ·exact h2 k c hc
  ·obtain⟨r,y',m,h5,h6,h7⟩:=h4 k c hc
   exact⟨r,y',m,by omega,h6,h7⟩
theorem Ka6 {gd:Bool}{deps:List (Nat×Nat)}{nb:Nat}(t:LR)(y n:Nat):(bU gd deps nb y n t).2.2=n+t.q/\∀ k c,(k,c)∈(bU gd deps nb y n t).2.1->(∃ r y m,n<=r/\k=kR r/\c=.root (.v y) m 0 .live)\/(k=kB nb/\∃ ls,c=.box false ls):=by
 cases t with
 | bx cs =>
  obtain⟨h3,h4⟩:=uT (deps:=deps) cs y n;simp only[bU];refine⟨h3,fun k c hc=>?_⟩
  rcases Ob8.1 hc with hc|hc
  ·obtain⟨rfl,rfl⟩:=Qb9 hc
   exact .inr ⟨rfl,_,rfl⟩
  ·exact .inl (h4 k c hc)
 | ow m =>
  cases gd with
  |true=>exact⟨rfl,by simp[bU]⟩
  | false =>
   refine⟨rfl,fun k c hc=>?_⟩;simp[bU]at hc;exact .inl ⟨n,y,m,Pbj _,hc.1,hc.2⟩
 |_=>exact⟨rfl,by simp[bU]⟩
theorem wM {gd:Bool}{deps:List (Nat×Nat)}{nb:Nat}:∀ (ss:List LR) (y n:Nat),(cZ gd deps nb y n ss).2.2=n+qL ss/\∀ k c,(k,c)∈(cZ gd deps nb y n ss).2.1->(∃ r y m,n<=r/\k=kR r/\c=.root (.v y) m 0 .live)\/(k=kB nb/\∃ ls,c=.box false ls)
 |[],y,n=>⟨rfl,by simp[cZ]⟩
 | t :: ss, y, n => by
  obtain⟨h1,h2⟩:=Ka6 (gd:=gd) (deps:=deps) (nb:=nb) t y n;simp only[cZ];rw[h1];obtain⟨h3,h4⟩:=wM (gd:=gd) (deps:=deps) (nb:=nb) ss (y+t.n) (n+t.q);refine⟨by rw[h3];simp only[qL];omega,fun k c hc=>?_⟩
  rcases Pbe.1 hc with hc|hc
  ·exact h2 k c hc
  ·exact (h4 k c hc).imp (fun ⟨r,y',m,h5,h6⟩=>⟨r,y',m,by omega,h6⟩) id
theorem Eam {gd:Bool}{deps:List (Nat×Nat)}{nb:Nat}:∀ (rs:List (Bool×List LR)) (y n:Nat),(iJ gd deps nb y n rs).2.2=n+qR rs/\∀ k c,(k,c)∈(iJ gd deps nb y n rs).2.1->(∃ r y m,n<=r/\k=kR r/\c=.root (.v y) m 0 .live)\/(k=kB nb/\∃ ls,c=.box false ls)
 |[],y,n=>⟨rfl,by simp[iJ]⟩
 | (ag, ss) :: rs, y, n => by
  obtain⟨h1,h2⟩:=wM (gd:=gd) (deps:=deps) (nb:=nb) ss y n;simp only[iJ];rw[h1];obtain⟨h3,h4⟩:=Eam (gd:=gd) (deps:=deps) (nb:=nb) rs (y+lF ss) (n+qL ss);refine⟨by rw[h3];simp only[qR];omega,fun k c hc=>?_⟩
  rcases Pbe.1 hc with hc|hc
  ·exact h2 k c hc
  ·exact (h4 k c hc).imp (fun ⟨r,y',m,h5,h6⟩=>⟨r,y',m,by omega,h6⟩) id
theorem uS {σ:Nat->Option aN}{ptrs:List (Nat×Nat×Nat)}{deps:List (Nat×Nat)}:∀ {bs:List (Bool×List (BS×BO))} {b y n:Nat} {bu:List (Nat×aN)},(kH ptrs deps b y n bs).eval σ=some bu ->
  ∀ k c,(k,c)∈bu->(∃ r y m,n<=r/\k=kR r/\c=.root (.v y) m 0 .live)\/(∃ c0 iy ls,k=kB c0/\σ (kB c0)=some (.box false iy)/\c=.box false ls)
 | [], b, y, n, bu, h => by
  simp only[kH,aF,Ob0]at h;subst h;simp
 | (ro, cs) :: bs, b, y, n, bu, h => by
  simp only[kH]at h
  cases ro with
  |true=>exact uS (bs:=bs) h
  | false =>
   simp only[cond_false]at h;split at h
   case h_2=>cases h
   simp only[aA,aP,Ob6]at h;split at h
   case h_2=>cases h
   rename_i iy ny;simp only[aA,Oby,aF,Ob0]at h;obtain⟨rest,h1,rfl⟩:=h;obtain⟨h3,h4⟩:=uT (deps:=deps) (cs.map (·.2)) y n;rw[h3]at h1;intro k c hc
   rcases Ob8.1 hc with hc|hc
   ·obtain⟨rfl,rfl⟩:=Qb9 hc
    exact .inr ⟨_,_,_,rfl,ny,rfl⟩
   ·rcases Pbe.1 hc with hc|hc
    ·exact .inl (h4 k c hc)
    ·exact (uS h1 k c hc).imp (fun ⟨r,y',m,h5,h6⟩=>⟨r,y',m,by omega,h6⟩) id
theorem Ha8 {own:Nat->Ow}{w:World}{ds:List D}{gh:Nat->Value}:∀ {ms:List Nat} {i j k d:Nat},Qay own w ds gh i j ms->ms[k]?=some d->Rp own w (2*(j+k)+1) [] d (gh (j+k)) (ds.getD (i+k) .undef)
 |[],i,j,k,d,_,h=>by simp at h
 | e :: ms, i, j, 0, d, h, hk => by
  simp only[Ob7,Ob0]at hk;subst hk;exact h.1
 | e :: ms, i, j, k + 1, d, h, hk => by
  have:=Ha8 h.2 (k:=k) (by simpa using hk);rw[show j+(k+1)=j+1+k by omega,show i+(k+1)=i+1+k by omega];exact this
theorem gY.len {σ:Nat->Option aN}{ρ:List D}{G:Gh}{w:World}:∀ {ts:List (Bool×List aM)} {us:List Value},gY σ ρ G w ts us->us.length=ts.length
 |[],us,h=>by simp only[gY]at h;subst h;rfl
 | (a, ls) :: r, us, h => by
  obtain⟨u,cD,vs,rfl,-,-,h3⟩:=h;simp[gY.len h3]
theorem Ta2 {σ:Nat->Option aN}{ρ:List D}{G:Gh}{w:World}{g:Option (aI×Bool)}(hg:gOn ρ g=true){rs:List (Bool×List aM)}{us:List Value}(h:gY σ ρ G w rs us):bS σ ρ G w (yV g rs) (Ba6 us):=by
 unfold yV;split
 ·rename_i x
  obtain⟨u,cD,vs,rfl,h1,h2,h3⟩:=h;simp only[gY]at h3;subst h3;simp only[Ob9,if_false]at h2;subst h2;simp only[aG,Qbf]at h1;obtain⟨u',cD,⟨rfl,rfl⟩,h4,-⟩:=h1;simp only[aB]at h4;simp only[Ba6]
  cases g with
  |none=>simp only[mkS,bS,aB];exact h4
  |some z=>simp only[mkS,bS,aB];exact⟨.inl h4,fun _=>h4⟩
 ·rename_i l _
  obtain⟨u,cD,vs,rfl,h1,h2,h3⟩:=h;simp only[gY]at h3;subst h3;simp only[Ob9,if_false]at h2;subst h2;simp only[aG,Qbf]at h1;obtain⟨u',cD,⟨rfl,rfl⟩,h4,-⟩:=h1;simp only[Ba6,bS];exact h4
 ·rename_i ls
  obtain⟨u,cD,vs,rfl,h1,h2,h3⟩:=h;simp only[gY]at h3;subst h3;simp only[if_true]at h2;simp only[Ba6,bS];exact⟨vs,h2,h1⟩
 ·rename_i _ h1 h2 h3
  simp only[bS]
  match us,rs,h with
  |[],[],h=>exact⟨[],rfl,h⟩
  | [u], [(a, ls)], h =>
   exfalso;obtain⟨u',cD,vs,e,h4,h5,h6⟩:=h;obtain⟨rfl,rfl⟩:=Sbd e
   cases a with
   |true=>exact h3 ls rfl
   | false =>
    simp only[Ob9,if_false]at h5;subst h5;have:=h4.len
    match ls,this with
    |[l],_=>exact h2 l rfl
  |u::u'::us,r::r'::rs,h=>exact⟨_,rfl,h⟩
  |[],_::_,h=>have:=h.len;simp at this
  |[_],[],h=>have:=h.len;simp at this
  |[_],_::_::_,h=>have:=h.len;simp at this
  |_::_::_,[],h=>have:=h.len;simp at this
  |_::_::_,[_],h=>have:=h.len;simp at this
theorem qZ {σ:Nat->Option aN}{ptrs:List (Nat×Nat×Nat)}:∀ {bs:List (Bool×List (BS×BO))} {b:Nat} {xs:List aI},(iD ptrs b bs).eval σ=some xs->∀ x∈bs,x.1=false->Oae (x.2.map (·.2))=true
 |[],b,xs,h,x,hx,_=>by simp at hx
 | (ro, cs) :: bs, b, xs, h, x, hx, pT => by
  simp only[iD]at h
  cases ro with
  | true =>
   simp only[cond_true]at h
   rcases Ob8.1 hx with rfl|hx
   ·cases pT
   ·exact qZ h x hx pT
  | false =>
   simp only[cond_false]at h;split at h
   case h_2=>cases h
   simp only[aA,aP,Ob6]at h;split at h
   case h_2=>cases h
   simp only[aA,Oby,aF,Ob0]at h;obtain⟨l,h1,m,h2,-⟩:=h
   rcases Ob8.1 hx with rfl|hx
   ·clear h2
    rename_i iy _;generalize iy.drop _=ls at h1;dsimp only;clear hx pT
    induction cs generalizing ls l with
    |nil=>rfl
    | cons t cs ih =>
     obtain⟨s,o⟩:=t
     cases ls with
     |nil=>simp[jJ,bJ]at h1
     | cons x ls =>
      simp only[jJ,aA,Oby]at h1;obtain⟨y,h3,r,h4,-⟩:=h1;have:=ih _ _ h4
      cases o with
      |ow m=>cases s<;>simp[bJ]at h3
      |_=>simpa[Oae] using this
   ·exact qZ h2 x hx pT
def Sal (o:Oper)(g:Option (aI×Bool))(rs:List (Bool×List aM)):List (Nat×aN):=match o.dst with
 |some d=>[(kT d,.slot (Yag g (yV g rs)) (yV g rs))]
 |none=>[]
section
variable {E:Env} {F:bC} {σ:Nat->Option aN} {ρ:List D} {a:Act} {w w':World} {G:Gh} {g:Option (aI×Bool)} {cf:Nat->List D->Option (List D)} {o:Oper} {s:Sig} {T Z:Take} {nb nr y0 nvm:Nat}
theorem Aai {rs:List (Bool×List aM)}:Sal o g rs=dF o (Yag g (yV g rs)) (yV g rs):=rfl
theorem Wac (hR:R E.ntmps F σ ρ a w G)(hg:gOn ρ g=true)(hd:eO E.ntmps o)(hf:Aas σ nb nr){vs:List SV}{us0:List Value}(hu0:pJ σ ρ G w vs us0)
  (hT:(dZ g Take.empty s.params vs).eval σ=some T) (hZ:(dX T.ptrs T 0 s.boxes).eval σ=some Z) (hk:Ha6 s Z) (zz:jM s.results<=1)
  (fp:noG g=true\/(jM s.results=0/\∃ olds,(iD Z.ptrs 0 s.boxes).eval σ=some olds))
  {rs:List (Bool×List aM)} {us bu mu:List (Nat×aN)} {uw:Nat} {ml:List Step} {ds:List D} (iu:iJ (!noG g) Z.deps nb y0 nr s.results=(rs,us,uw))
  (te:(kH Z.ptrs Z.deps 0 (y0+bF s.results+(Z.rts.filter uB).length) uw s.boxes).eval σ=some bu) {nv1:Nat} (vn:(wQ (y0+bF s.results) nv1 Z.rts).eval σ=some (ml,mu))
  (hlen:ds.length=bF s.results+(Z.rts.filter uB).length+dP s.boxes) (dt:∀ j d,ds[j]?=some d->(aI.v (y0+j)).val ρ=d)
  (pj:Z.deps=[]\/Nab ρ (Va6 y0 s.results++Va7 (y0+bF s.results) Z.rts++Saw (y0+bF s.results+(Z.rts.filter uB).length) s.boxes)) (zo:aJ cf ρ g nv1 ml)
  (nw:(Sal o g rs++(us++bu++mu++fP Z.rts)).all (fun x=>wE E.ntmps nb nr x.1)=true)
  {v:Value} (nB:Ja7 s (nE s (callG ρ G w s Z) w) (callG ρ G w s Z).bx v w' ds) :
  ∃ G2,R E.ntmps F (upds σ (Sal o g rs++(us++bu++mu++fP Z.rts))) ρ (a.put o.dst v) w' G2:=by
 obtain⟨G',cD,rfl,hF,zy,a3j,jz⟩:=nB;obtain⟨hle1,pk,u4⟩:=jO hZ;rw[<- pk]at u4;obtain⟨rn,sC,hn2,hn3⟩:=sO True (fun _=>hR) hT (fun _=>⟨us0,hu0⟩);obtain⟨qo,hn4,hn5⟩:=pQ (ρ:=ρ) (G:=G) (w:=w) hZ;have ga:=sC.trans hn4;have rl:Z.rts=rn++qo:=by have:=ga.rts;simpa[Take.empty] using this
 have s5:∀ x∈Z.rts,Abp σ ρ G w x:=by
  rw[rl];exact fun x hx=>(Pbe.1 hx).elim (hn3 trivial x) (hn5 x)
 have hms:(Z.rts.filter uB).map rtD=dJ (s.params.flatMap (·.2)):=by
  have:=ga.ms;rw[<- rl,Pbz]at this;exact this
 have hmr:xK 0 Z.rts=dU 0 (s.params.flatMap (·.2)):=by
  have:=ga.mr;rw[<- rl,Pbz]at this;exact this
 have p6:∀ z∈Z.deps,Jaa σ z.1 z.2:=fun z hz=>by
  rcases ga.deps z hz with h|h
  ·simp[Take.empty]at h
  ·exact h
 have B:Nac E F σ ρ a w G s Z G' w':=by
  refine⟨hR,hk,hF,fun j ro cs hj=>by have:=u4 j ro cs hj;rwa[Pbw]at this,p6,fun ν r d q X s9=>?_,fun ν r d s9=>?_⟩
  ·obtain⟨m,aE,u,h1,h2,h3⟩:=s5 _ (Pbh s9)
   exact⟨m,aE,u,h1,h2,h3⟩
  ·obtain⟨x,m,aE,h1⟩:=s5 _ (Pbh s9)
   exact⟨x,m,aE,h1⟩
 generalize hU:Sal o g rs++(us++bu++mu++fP Z.rts)=U at nw ⊢
 let hs:=owR w' s.results cD++owB w' (callG ρ G w s Z).bx 0 s.boxes
 let adn:=(Fax s.results cD).headD ⟨0,0,none⟩
 let G2:=eH (!noG g) ρ G w s Z nr nb G'.own hs adn
 have xh:∀ k c,(k,c)∈U->(k,c)∈Sal o g rs\/(k,c)∈us\/(k,c)∈bu\/(k,c)∈mu\/(k,c)∈fP Z.rts:=by
  intro k c hc;rw[<- hU]at hc
  rcases Pbe.1 hc with hc|hc
  ·exact .inl hc
  ·rcases Pbe.1 hc with hc|hc
   ·rcases Pbe.1 hc with hc|hc
    ·rcases Pbe.1 hc with hc|hc
     ·exact .inr (.inl hc)
     ·exact .inr (.inr (.inl hc))
    ·exact .inr (.inr (.inr (.inl hc)))
   ·exact .inr (.inr (.inr (.inr hc)))
 have hUdst:∀ z∈Sal o g rs,z∈U:=fun z hz=>by rw[<- hU];exact Ob1 _ hz
 have a3p:∀ z∈us,z∈U:=fun z hz=>by rw[<- hU];exact Ob4 _ (Ob1 _ (Ob1 _ (Ob1 _ hz)))
 have a0g:∀ z∈bu,z∈U:=fun z hz=>by rw[<- hU];exact Ob4 _ (Ob1 _ (Ob1 _ (Ob4 _ hz)))
 have a47:∀ z∈mu,z∈U:=fun z hz=>by rw[<- hU];exact Ob4 _ (Ob1 _ (Ob4 _ hz))
 have a4v:∀ z∈fP Z.rts,z∈U:=fun z hz=>by rw[<- hU];exact Ob4 _ (Ob4 _ hz)
 have zu:∀ k c,(k,c)∈U->wE E.ntmps nb nr k=true:=fun k c hc=>by
  rw[Pbv]at nw;exact nw _ hc
 obtain⟨rh,s6⟩:=Eam (gd:=!noG g) (deps:=Z.deps) (nb:=nb) s.results y0 nr;rw[iu]at rh s6;dsimp only at rh s6;subst rh;have a3t:=uS te;have oT:=vO hg vn zo;have nu:∀ r c,(kR r,c)∈U->nr<=r->σ (kR r)=none:=fun r c hc hr=>hf.nr r hr (Bae (zu _ _ hc))
 have xz:∀ k c,(k,c)∈Sal o g rs->∃ d,o.dst=some d/\k=kT d/\c=.slot (Yag g (yV g rs)) (yV g rs):=fun k c hc=>by
  rw[Aai]at hc;exact vV hc
 have dq:Fr σ G w (upds σ U) G2 w':=by
  refine Fr.of (fun b hb aq=>B.frz hb aq) (fun r b p gm hb=>?_) (fun r c hc ic=>?_) (fun r x m k hkz b p hb=>?_) (fun r hr=>?_) (fun b hb=>?_)
  ·refine B.other (fun hr=>?_) hb
   rcases vP vn r hr with ⟨c,hc⟩|⟨c,hc⟩
   ·exact gm c (a47 _ hc)
   ·exact gm c (a4v _ hc)
  ·rcases xh _ _ hc with h|h|h|h|h
   ·obtain⟨d,-,e,-⟩:=xz _ _ h
    exact absurd e.symm iA
   ·rcases s6 _ _ h with ⟨r',y,m,h1,h2,rfl⟩|⟨h1,-⟩
    ·obtain rfl:=dY h2
     exact .inl ⟨nu r _ hc h1,_,_,_,_,rfl⟩
    ·exact absurd h1.symm eD
   ·rcases a3t _ _ h with ⟨r',y,m,h1,h2,rfl⟩|⟨c0,iy,ls,h1,-⟩
    ·obtain rfl:=dY h2
     exact .inl ⟨nu r _ hc (by omega),_,_,_,_,rfl⟩
    ·exact absurd h1.symm eD
   ·obtain⟨j,r',d,q,X,X0,m,aE,X',h1,h2,rfl,h3,-⟩:=oT _ _ h
    obtain rfl:=dY h2;exact .inr (.inl ⟨_,_,_,_,_,h3,rfl⟩)
   ·obtain⟨r',h1,rfl⟩:=jU h
    exact .inr (.inr (.inl ⟨_,_,_,_,rfl,by simp,by simp⟩))
  ·have hb:G2.own b=.slc r p:=hb
   simp only[G2,eH]at hb;split at hb
   ·cases e:G.own b with
    | slc r' p' =>
     rw[e]at hb;simp only[xI]at hb;split at hb
     ·cases hb
     ·split at hb
      ·split at hb
       ·exact hb
       ·cases hb
      ·exact hb
     ·exact hb
    |_=>rw[e]at hb;simp[xI]at hb
   ·cases e:G'.own b with
    | slc t p' =>
     rw[e]at hb;simp only[rC]at hb;split at hb
     ·split at hb
      ·cases hb
      ·split at hb
       ·rename_i aq
        injection hb with e1 e2
        have:=hf.nr r (by omega) (by omega);rw[this]at hkz;cases hkz
       ·cases hb
     ·split at hb
      ·rename_i r' d q X a2c
       injection hb with e1 e2
       subst e1;have hm:=(List.mem_filter.1 (Pbh a2c)).1;obtain⟨m',tp,u',h1,-⟩:=s5 _ hm;rw[h1]at hkz;cases hkz
      ·cases hb
    | box β =>
     rw[e]at hb;simp only[rC]at hb;split at hb<;>cases hb
    |_=>rw[e]at hb;simp[rC]at hb
  ·show (if nr<=r/\r<nr+bO then _ else G.hdr r)=_
   rw[if_neg]
   rintro⟨h1,h2⟩
   rw[hf.nr r h1 h2]at hr;cases hr
  ·show (if b=nb then adn else G.bx b)=_
   rw[if_neg];intro e;rw[e,hf.nb]at hb;cases hb
 have lb:∀ k c,(k,c)∈U->(upds σ U k).isSome:=fun k c hc=>dL _ _ _ (.inr ⟨c,hc⟩)
 have a0h:∀ l:List (Nat×aN),(∀ z∈l,z∈U)->UIn (upds σ U) nr l:=fun l hl k c hc=>by
  refine⟨lb k c (hl _ hc),fun q e=>?_⟩;have:=zu _ _ (hl _ hc);rw[e]at this;have:=Bae this;omega
 have vt:∀ i,i<ds.length->(aI.v (y0+i)).val ρ=ds.getD i .undef:=fun i hi=>by
  rw[Pba,Ob5 hi,Qbt];exact dt i _ (Ob5 hi)
 have A:Aft E F σ (upds σ U) ρ a w G s Z G' w' y0 ds:=by
  refine⟨B,vt,fun z hz=>dq.known _ _ ?_⟩;obtain⟨m,x,hx⟩:=p6 z hz;exact⟨x,m,z.2,.live,hx,fun _=>Pbj _⟩
 have a30:(!noG g)=false\/jM s.results=0:=by
  rcases fp with h|h
  ·exact .inl (by rw[h];rfl)
  ·exact .inr h.1
 have rz:=Ga7 A (gd:=!noG g) (nb:=nb) (nr:=nr) (hs:=hs) (adn:=adn) (i:=0) (q:=0) zy (by omega) (pj.imp id fun h m y hm=>h m y (Ob1 _ (Ob1 _ hm)))
  a30 (fun j x hj=>by
   rw[Pbw];show (owR w' s.results cD++_)[j]?=some x
   rw[Pbi (Ob2.1 hj).1]
   exact hj) (fun ad qz=>by
   have hl:=Ma5 s.results cD;show ad=(Fax s.results cD).headD _
   match hb:Fax s.results cD,qz with
   |[x],qz=>simpa using qz
   |x::y::l,qz=>rw[hb]at hl;simp at hl;omega) (by
   rw[Pby,Pby,iu];exact a0h us a3p)
 rw[Pby,Pby,iu]at rz;dsimp only at rz;obtain⟨-,jd,a4j,a0e⟩:=rz;have xw:(dJ (s.params.flatMap (·.2))).length=(Z.rts.filter uB).length:=by rw[<- hms];simp
 rw[xw]at jz
 have a5t:=xS A (gd:=!noG g) (nb:=nb) (nr:=nr) (hs:=hs) (adn:=adn) hf.nb (bs:=s.boxes) (b:=0) (i:=bF s.results+(Z.rts.filter uB).length) (q:=qR s.results) (bu:=bu) (by simp)
  (by rw[<- Pbm];exact te) jz (by omega) (pj.imp id fun h m y hm=>h m y (Ob4 _ (by rw[Pbm];exact hm)))
  (by
   rcases fp with h|⟨-,olds,h⟩
   ·exact .inl (by rw[h];rfl)
   ·exact .inr (qZ h)) (fun j x hj=>by
   show (owR w' s.results cD++owB w' (callG ρ G w s Z).bx 0 s.boxes)[qR s.results+j]?=some x
   rw[Pbk (by omega),jd,Pb1];exact hj) (a0h bu a0g)
 obtain⟨a08,a4e⟩:=a5t;refine⟨G2,hR.upd U dq (by rw[zA];exact hR.tmps) (by rw[put_defers];exact hR.defers) B.frame (fun t ht=>?_) (fun b ro ls hb gm=>?_) (fun b ls hb aq ho=>?_) (fun k c hc ic=>?_)⟩
 ·rw[<- hU,Aai]at ht
  exact Ca7 ht
 ·
  obtain⟨h1,h2,h3⟩:=hR.box hb
  have aq:(G.bx b).block<w.heap.size:=by
   rcases Pbo (G.bx b).block w.heap.size with h|h
   ·exact h
   ·rw[hR.frame.fresh _ h]at h2
    split at h2<;>cases h2
  cases ro with
  | true =>
   simp only[if_true]at h2;obtain⟨h4,h5⟩:=B.oth (gd:=!noG g) (nr:=nr) (nb:=nb) (hs:=hs) (adn:=adn) h2 aq;exact⟨h4.trans h2.symm,h5⟩
  | false =>
   simp only[Ob9,if_false]at h2;obtain⟨h4,h5⟩:=B.boxes (gd:=!noG g) (nr:=nr) (nb:=nb) (hs:=hs) (adn:=adn) h2 aq;refine⟨h4.trans h2.symm,?_⟩
   rcases h5 with h5|⟨j,cs,off,ls2,c0,c1,e,fr,e1,e2,e3,e4,-⟩
   ·exact h5
   ·exfalso
    have hm:=qY (wr:=false) (b:=0) e1 (by rw[Pbw];exact e2);obtain⟨x,hx⟩:=a4e b hm;exact gm x (a0g _ hx)
 ·
  rcases xh _ _ hb with h|h|h|h|h
  ·obtain⟨d,-,e,-⟩:=xz _ _ h
   exact absurd e.symm kF
  ·rcases a0e _ _ h with ⟨q,m,i,e,-⟩|⟨e,jn,e2,qy,sY⟩
   ·exact absurd e eD
   ·exfalso
    have e:=zT e;subst e;refine sY ⟨Nat.lt_of_lt_of_le aq hR.frame.size,?_⟩;have h1:=(hR.frame.boxes _ _ aq ho).1
    have h2:(callG ρ G w s Z).own ((eH (!noG g) ρ G w s Z nr b G'.own hs adn).bx b).block=.oth\/∃ j,(callG ρ G w s Z).own ((eH (!noG g) ρ G w s Z nr b G'.own hs adn).bx b).block=.box j:=by
     have uk:G.own ((eH (!noG g) ρ G w s Z nr b G'.own hs adn).bx b).block=.box b:=h1;simp only[callG,uk];split
     ·split
      ·exact .inr ⟨_,rfl⟩
      ·exact .inl rfl
     ·exact .inl rfl
    rcases h2 with h2|⟨j,h2⟩<;>rw[h2]<;>rfl
  ·rcases a08 _ _ h with ⟨q,m,i,e,-⟩|⟨c0,iy,jn,e,h1,h2,h3,-⟩
   ·exact absurd e eD
   ·obtain rfl:=zT e
    injection h2 with e1 e2
    have hbn:G2.bx b=G.bx b:=dq.bx b (by rw[h1];rfl);rw[hbn]at aq ho ⊢;rw[hR.rng b iy h1 aq ho,e2,h3]
  ·obtain⟨j,r',d,q,X,X0,m,aE,X',h1,h2,-⟩:=oT _ _ h
   exact absurd h2 eD
  ·obtain⟨r',h1,-⟩:=jU h
   exact absurd h1 eD
 ·rcases xh _ _ hc with h|h|h|h|h
  ·obtain⟨d,lA,rfl,rfl⟩:=xz _ _ h
   refine⟨d,rfl,fun _=>?_⟩;rw[lA,mI _ _ _ _ _ (hd d lA) hR.tmps];exact Ta2 hg a4j
  ·rcases a0e _ _ h with ⟨q,m,i,rfl,rfl,fa⟩|⟨rfl,jn,rfl,qy,-⟩
   ·exact⟨nr+q,rfl,by rw[ic];rfl,fa⟩
   ·exact⟨nb,rfl,qy⟩
  ·rcases a08 _ _ h with ⟨q,m,i,rfl,rfl,fa⟩|⟨c0,iy,jn,rfl,h1,rfl,h3,h4⟩
   ·exact⟨nr+q,rfl,by rw[ic];rfl,fa⟩
   ·refine⟨c0,rfl,h4 fun j l hj=>?_⟩
    obtain⟨-,-,cJ⟩:=hR.box h1;obtain⟨v,sT,hv2,hv3⟩:=cJ j l hj;exact⟨v,sT,fun hl=>aB.mono dq l v hl⟩
  ·obtain⟨j,r',d,q,X,X0,m,aE,X',h1,rfl,rfl,h3,hfd,h4⟩:=oT _ _ h
   refine⟨r',rfl,by rw[ic];rfl,?_⟩;show Rp G2.own w' r' [] m (G2.hdr r') (X'.val ρ)
   have wq:G2.hdr r'=G.hdr r':=dq.hdr r' (by rw[h3];rfl);rw[wq];have a2o:=(Ob2.1 h1).1;have ko:j<(xK 0 Z.rts).length:=by rw[La5];exact a2o
   have s9:=Ob5 ko;obtain⟨x,nx,-,nc⟩:=La6 s9;rw[h1]at nx;obtain rfl:=Pbu nx;rw[Nat.sub_zero]at nc
   have hd0:(dJ (s.params.flatMap (·.2)))[j]?=some d:=by
    rw[<- hms,Pbr,h1];rfl
   have gr:=Ha8 a3j hd0;rw[Pbw]at gr
   have hy:(aI.v (y0+bF s.results+j)).val ρ=ds.getD (bF s.results+j) .undef:=by
    rw[Pbm];exact vt _ (by omega)
   rw[<- hy]at gr
   have xo:(nE s (callG ρ G w s Z) w).gh j=Uaf w (G.hdr r') (aZ ρ q):=by
    simp only[nE,Ea9,Pba];rw[<- hmr,Pbi (by simpa using ko),Pbr,s9];simp only[Pb6,Qbt];rw[Aao nc];rfl
   rw[xo]at gr;refine B.mu h3 hfd nc h1 (fun u' hn=>Baa hn) gr (pj.imp id fun hc=>?_) h4
   have b9:∀ (rts:List RT) (y j:Nat) (r d:Nat) (q:List (aI×Nat×Nat)) (X:aI),(rts.filter uB)[j]?=some (RT.mu r d q X)->Step.prim (.dep d) [.v (y+j)] 0∈Va7 y rts:=by
    intro rts
    induction rts with
    |nil=>intro y j r d q X h;simp at h
    | cons x t ih =>
     intro y j r d q X h
     cases x with
     |nil=>exact ih y j r d q X (by simpa[uB,Qbq] using h)
     |own _ _=>exact ih y j r d q X (by simpa[uB,Qbq] using h)
     | mu r' d' q' X' =>
      simp only[Va7]
      cases j with
      | zero =>
       simp[uB,Qbq]at h;rw[h.2.1];exact Pbf
      | succ j =>
       have:=ih (y+1) j r d q X (by simpa[uB,Qbq] using h);rw[show y+1+j=y+(j+1) by omega]at this;exact Pbb _ this
   exact hc d _ (Ob1 _ (Ob4 _ (b9 _ _ _ _ _ _ _ h1)))
  ·obtain⟨r',rfl,rfl⟩:=jU h
   exact⟨r',rfl,by rw[ic];rfl,trivial⟩
end
theorem Ban:∀ (cs:List BO) (y:Nat),bD (lZ y cs)=0
 |[],y=>rfl
 |t::cs,y=>by cases t<;>simp only[lZ,gZ,Step.n,Ban cs]
theorem Abl:∀ (ss:List LR) (y:Nat),bD (Oa0 y ss)=0
 |[],y=>rfl
 |t::ss,y=>by cases t<;>simp only[Oa0,gZ,eB,Step.n,Ban,Abl ss]
theorem Abj:∀ (rs:List (Bool×List LR)) (y:Nat),bD (Va6 y rs)=0
 |[],y=>rfl
 |(a,ss)::rs,y=>by simp only[Va6,eB,Abl,Abj rs]
theorem Abk:∀ (ts:List RT) (y:Nat),bD (Va7 y ts)=0
 |[],y=>rfl
 |t::ts,y=>by cases t<;>simp only[Va7,gZ,Step.n,Abk ts]
theorem Abm:∀ (bs:List (Bool×List (BS×BO))) (y:Nat),bD (Saw y bs)=0
 |[],y=>rfl
 |(ro,cs)::bs,y=>by cases ro<;>simp only[Saw,cond_true,cond_false,eB,Ban,Abm bs]
theorem Qak {ρ:List D}{g:Option (aI×Bool)}{cf:Nat->List D->Option (List D)}(hg:gOn ρ g=true):∀ {l:List Step} {nv:Nat},aJ cf ρ g nv l->Nab ρ l
 |[],nv,h=>fun m y hm=>by simp at hm
 | t :: l, nv, h => fun m y hm => by
  rcases Ob8.1 hm with e|hm
  ·subst e
   obtain⟨ds,h1,-,-⟩:=h.1.1 hg;simp only[Pbn,Pbx,aY.run]at h1;split at h1
   ·rename_i hf;exact hf
   ·cases h1
  ·exact Qak hg h.2 m y hm
theorem Ka7 {deps:List (Nat×Nat)}{nb:Nat}:∀ (rs:List (Bool×List LR)) (y n:Nat),jM rs=0->(iJ true deps nb y n rs).2.1=[]
 |[],y,n,_=>rfl
 | (a, ss) :: rs, y, n, h => by
  simp only[jM]at h
  have hl:∀ (ss:List LR) (y n:Nat),bxL ss=0->(cZ true deps nb y n ss).2.1=[]:=by
   intro ss
   induction ss with
   |nil=>intro y n _;rfl
   | cons t ss ih =>
    intro y n h
    cases t with
    |bx cs=>simp[bxL]at h
    |_=>simp only[cZ,bU,cond_true,Qbc];exact ih _ _ (by simpa[bxL] using h)
  simp only[iJ,hl ss y n (by omega),Qbc];exact Ka7 rs _ _ (by omega)
theorem Ga8 {gd:Bool}{deps:List (Nat×Nat)}{nb y n:Nat}{rs:List (Bool×List LR)}{l:aM}(h:(iJ gd deps nb y n rs).1=[(false,[l])]):(∀ g x,l≠.su g x)/\∀ x,l=.sc x->x=.v y/\1<=bF rs:=by
 match rs,h with
 |[],h=>simp[iJ]at h
 |(a,ss)::r::rs,h=>simp[iJ]at h
 | [(a, ss)], h =>
  simp only[iJ,Qbf,Pbl,and_true]at h;obtain⟨-,h⟩:=h
  match ss,h with
  |[],h=>simp[cZ]at h
  |t::t'::ss,h=>simp[cZ]at h
  | [t], h =>
   simp only[cZ,Qbf,and_true]at h;subst h
   cases t with
   |sc=>exact⟨fun g x e=>by simp[bU]at e,fun x e=>by simp[bU]at e;exact⟨e.symm,by simp[bF,lF,LR.n]⟩⟩
   |ow m=>cases gd<;>exact⟨fun g x e=>by simp[bU]at e,fun x e=>by simp[bU]at e⟩
   |_=>exact⟨fun g x e=>by simp[bU]at e,fun x e=>by simp[bU]at e⟩
theorem Ta3 {σ:Nat->Option aN}{ρ:List D}{G:Gh}{w:World}{z:aI×Bool}(hg:gOn ρ (some z)=false){gd:Bool}{deps:List (Nat×Nat)}{nb y n:Nat}{rs0:List (Bool×List LR)}{rs:List (Bool×List aM)}
  (wz:(iJ gd deps nb y n rs0).1=rs) (hv:1<=bF rs0->(aI.v y).val ρ=.undef) (h:gOn ρ (Yag (some z) (yV (some z) rs))=true):bS σ ρ G w (yV (some z) rs) undef:=by
 unfold yV at h ⊢;split at h
 ·rename_i x
  obtain⟨h1,h2⟩:=(Ga8 wz).2 x rfl;subst h1;simp only[mkS,bS,aB];exact⟨.inr ⟨trivial,hv h2⟩,fun e=>by rw[hg]at e;cases e⟩
 ·rename_i l ct
  have vk:=(Ga8 wz).1;exfalso
  revert h vk
  cases l with
  |su g' x'=>exact fun _ vk=>vk g' x' rfl
  |_=>intro e _;simp only[Yag]at e;rw[hg]at e;cases e
 ·simp only[Yag]at h;rw[hg]at h;cases h
 ·simp only[Yag]at h;rw[hg]at h;cases h
section
variable {P:Program} {E:Env} {F:bC} {σ:Nat->Option aN} {ρ:List D} {a:Act} {w w':World} {G:Gh} {g:Option (aI×Bool)} {cf:Nat->List D->Option (List D)} {o:Oper} {s:Sig} {T Z:Take} {nb nr y0 nvm:Nat}
theorem Ba9 (hR:R E.ntmps F σ ρ a w G){dc:Nat->Option aN}(dq:Fr σ G w dc G w){deps:List (Nat×Nat)}(sB:∀ z∈deps,iK σ z.1 z.2):∀ {cs:List (BS×BO)} {ls:List aM} {xs:List aI} {y n:Nat},(jJ cs ls).eval σ=some xs ->
  (∀ j x,xs[j]?=some x->(aI.v (y+j)).val ρ=x.val ρ)->(∀ (j:Nat) (nie:Bool) (o:BO) (l:aM),cs[j]?=some (BS.fz nie,o)->ls[j]?=some l->∃ r,(vJ l).eval σ=some r/\∀ z∈r.deps,z∈deps) ->
  xs.length=cs.length/\(dC deps y n (cs.map (·.2))).2.1=[]/\(dC deps y n (cs.map (·.2))).1.length=cs.length /\
  ∀ (j:Nat) (l l0:aM) (v:Value),(dC deps y n (cs.map (·.2))).1[j]?=some l->ls[j]?=some l0->aB σ ρ G w l0 v->aB dc ρ G w l v
 | [], ls, xs, y, n, h, _, _ => by
  simp only[jJ,aF,Ob0]at h;subst h;exact⟨rfl,rfl,rfl,by simp[dC]⟩
 |_::_,[],xs,y,n,h,_,_=>by simp[jJ,bJ]at h
 | (t, o) :: cs, l0 :: ls, xs, y, n, h, hx, hz => by
  simp only[jJ,aA,Oby,aF,Ob0]at h;obtain⟨x,h1,r,h2,rfl⟩:=h;have hx0:(aI.v y).val ρ=x.val ρ:=by have:=hx 0 x rfl;rwa[Pby]at this
  have key:(iV deps y n o).2.1=[]/\∀ v,aB σ ρ G w l0 v->aB dc ρ G w (iV deps y n o).1 v:=by
   split at h1
   ·rename_i x'
    simp only[aF,Ob0]at h1;subst h1;refine⟨rfl,fun v hv=>?_⟩;simp only[iV,aB]at hv ⊢;rw[hx0];exact hv
   ·rename_i _ nie
    simp only[aA,Oby,aF,Ob0]at h1;obtain⟨sl,h3,rfl⟩:=h1;refine⟨rfl,fun v hv=>?_⟩;obtain⟨sl',h4,h5⟩:=hz 0 nie .fz _ rfl rfl;rw[h3]at h4;obtain rfl:=Pbu h4;have hs:=dI hR h3 hv;have mb:v.oneCell'=true:=hv.one (by cases l0<;>first|rfl|cases h3)
    have hl:aB σ ρ G w (.sn deps .no false (.v y)) v:=by
     simp only[aB];refine⟨⟨mb,sB⟩,fun _=>⟨?_,fun e=>absurd e (by decide),trivial⟩⟩;rw[hx0];refine hs.rd.mono fun b hb=>⟨?_,rfl⟩
     rcases hb with hb|⟨r,k,p,hm,hb⟩
     ·exact .inl hb
     ·exact .inr ⟨r,k,p,h5 _ hm,hb⟩
    exact aB.mono dq _ v hl
   ·rw[gG]at h1
    split at h1
    ·rename_i hs
     simp only[aF,Ob0]at h1;refine⟨rfl,fun v hv=>?_⟩;simp only[iV,aB];exact hv.one hs
    ·cases h1
   ·cases h1
  obtain⟨h3,h4,h5,h6⟩:=Ba9 hR dq sB (cs:=cs) (y:=y+1) (n:=(iV deps y n o).2.2) h2 (fun j x hj=>by
   have:=hx (j+1) x (by simpa using hj);rwa[show y+(j+1)=y+1+j by omega]at this) (fun j nie o' l hj hl=>hz (j+1) nie o' l (by simpa using hj) (by simpa using hl))
  refine⟨by simp[h3],by simp only[Pbn,dC,key.1,Qbc];exact h4,by simp only[Pbn,dC,Pb9];rw[h5],fun j l l1 v hj hl hv=>?_⟩;simp only[Pbn,dC]at hj
  cases j with
  | zero =>
   simp only[Ob7,Ob0]at hj hl;subst hj hl;exact key.2 v hv
  |succ j=>exact h6 j l l1 v (by simpa using hj) (by simpa using hl) hv
theorem Bay:∀ {ss:List (BS×BO)} {ls:List aM} {A B:Take},(dM A ss ls).eval σ=some B->∀ (j:Nat) (nie:Bool) (o:BO) (l:aM),ss[j]?=some (BS.fz nie,o)->ls[j]?=some l->∃ r,(vJ l).eval σ=some r/\∀ z∈r.deps,z∈B.deps
 |[],ls,A,B,h,j,nie,o,l,hj,_=>by simp at hj
 |_::_,[],A,B,h,_,_,_,_,_,_=>by simp[dM,bJ]at h
 | (t, o) :: ss, l0 :: ls, A, B, h, j, nie, o', l, hj, hl => by
  simp only[dM,aA,Oby]at h;obtain⟨C,h1,h2⟩:=h
  cases j with
  | zero =>
   simp only[Ob7,Ob0,Pbl]at hj hl;obtain⟨rfl,rfl⟩:=hj;subst hl
   have h3:(oK A nie l0).eval σ=some C:=by
    have hinv:=nK h1;clear h1
    rcases hinv with ⟨x,e,-⟩|⟨nie',e,h⟩|⟨d,e,-⟩|⟨e,-⟩
    ·cases e
    ·injection e with e;subst e;exact h
    ·cases e
    ·cases e
   unfold oK at h3;simp only[aA,Oby,aF,Ob0]at h3;obtain⟨sl,h4,rfl⟩:=h3;exact⟨sl,h4,fun z hz=>(nJ h2).1.deps z (Ob4 _ hz)⟩
  |succ j=>exact Bay h2 j nie o' l (by simpa using hj) (by simpa using hl)
theorem Baz {ptrs:List (Nat×Nat×Nat)}:∀ {bs:List (Bool×List (BS×BO))} {b:Nat} {A B:Take},(dX ptrs A b bs).eval σ=some B->∀ (i:Nat) (ro:Bool) (cs:List (BS×BO)),bs[i]?=some (ro,cs) ->
  ∃ c off kk ls,mP (b+i) ptrs=some (c,off)/\σ (kB c)=some (.box kk ls)/\off+cs.length<=ls.length/\∀ (j:Nat) (nie:Bool) (o:BO) (l:aM),cs[j]?=some (BS.fz nie,o)->(ls.drop off)[j]?=some l->∃ r,(vJ l).eval σ=some r/\∀ z∈r.deps,z∈B.deps
 |[],b,A,B,h,i,ro,cs,hi=>by simp at hi
 | (ro0, cs0) :: bs, b, A, B, h, i, ro, cs, hi => by
  simp only[dX]at h;split at h
  case h_2=>cases h
  rename_i c off hp;simp only[aA,aP,Ob6]at h;split at h
  case h_2=>cases h
  rename_i kk ls ny;simp only[aA,aH,Oby]at h;obtain⟨_,h0,C,h1,h2⟩:=h;split at h0
  case isFalse=>cases h0
  rename_i hb;simp only[Obz,Qba]at hb
  cases i with
  | zero =>
   simp only[Ob7,Ob0,Pbl]at hi;obtain⟨rfl,rfl⟩:=hi;refine⟨c,off,kk,ls,hp,ny,hb.2,fun j nie o l hj hl=>?_⟩;obtain⟨r,h3,h4⟩:=Bay h1 j nie o l hj hl;exact⟨r,h3,fun z hz=>(jO h2).1.deps z (h4 z hz)⟩
  | succ i =>
   obtain⟨c',ka,a2e,jn,h3,h4,h5,h6⟩:=Baz h2 i ro cs (by simpa using hi);exact⟨c',ka,a2e,jn,by rw[show b+(i+1)=b+1+i by omega];exact h3,h4,h5,h6⟩
theorem xU (hR:R E.ntmps F σ ρ a w G){deps:List (Nat×Nat)}(sB:∀ z∈deps,iK σ z.1 z.2){ptrs:List (Nat×Nat×Nat)}:∀ {bs:List (Bool×List (BS×BO))} {b y n:Nat} {bu:List (Nat×aN)} {xs:List aI},
  (kH ptrs deps b y n bs).eval σ=some bu->(iD ptrs b bs).eval σ=some xs->(∀ j x,xs[j]?=some x->(aI.v (y+j)).val ρ=x.val ρ) ->
  (∀ (i:Nat) (ro:Bool) (cs:List (BS×BO)),bs[i]?=some (ro,cs)->∃ c off kk ls,mP (b+i) ptrs=some (c,off)/\σ (kB c)=some (.box kk ls)/\off+cs.length<=ls.length/\∀ (j:Nat) (nie:Bool) (o:BO) (l:aM),cs[j]?=some (BS.fz nie,o)->(ls.drop off)[j]?=some l->∃ r,(vJ l).eval σ=some r/\∀ z∈r.deps,z∈deps) ->
  xs.length=dP bs/\∀ k c,(k,c)∈bu->∃ (c0:Nat) (iy ls:List aM),k=kB c0/\σ (kB c0)=some (.box false iy)/\c=.box false ls/\ls.length=iy.length/\∀ (dc:Nat->Option aN),Fr σ G w dc G w->∀ (j:Nat) (l l0:aM) (v:Value),ls[j]?=some l->iy[j]?=some l0->aB σ ρ G w l0 v->aB dc ρ G w l v
 | [], b, y, n, bu, xs, h, hx, _, _ => by
  simp only[kH,aF,Ob0]at h;simp only[iD,aF,Ob0]at hx;subst h hx;exact⟨rfl,by simp⟩
 | (ro, cs) :: bs, b, y, n, bu, xs, h, hx, hv, hz => by
  have hz':∀ (i:Nat) (ro:Bool) (cs:List (BS×BO)),bs[i]?=some (ro,cs)->∃ c off kk ls,mP (b+1+i) ptrs=some (c,off)/\σ (kB c)=some (.box kk ls)/\off+cs.length<=ls.length/\∀ (j:Nat) (nie:Bool) (o:BO) (l:aM),cs[j]?=some (BS.fz nie,o)->(ls.drop off)[j]?=some l->∃ r,(vJ l).eval σ=some r/\∀ z∈r.deps,z∈deps:=fun i ro cs hi=>by
   have:=hz (i+1) ro cs (by simpa using hi);rwa[show b+(i+1)=b+1+i by omega]at this
  simp only[kH]at h;simp only[iD]at hx
  cases ro with
  | true =>
   simp only[cond_true]at h hx;obtain⟨h1,h2⟩:=xU hR sB h hx hv hz';exact⟨by rw[h1];simp only[dP,cond_true,Pbw],h2⟩
  | false =>
   simp only[cond_false]at h hx;obtain⟨c,off,kk,iy,e1,e2,e3,e4⟩:=hz 0 false cs rfl;rw[Pby]at e1;rw[e1]at h hx;simp only[aA,aP,Ob6]at h hx;rw[e2]at h hx
   cases kk with
   |true=>simp[bJ]at h
   | false =>
    simp only[aA,Oby,aF,Ob0]at h hx;obtain⟨rest,h1,rfl⟩:=h;obtain⟨l1,h2,m1,h3,rfl⟩:=hx;have hold:=fun dc (dq:Fr σ G w dc G w)=>Ba9 (E:=E) (F:=F) (a:=a) hR dq sB (cs:=cs) (ls:=iy.drop off) (y:=y) (n:=n) h2 (fun j x hj=>hv j x (by rw[Pbi (Ob2.1 hj).1];exact hj)) e4
    obtain⟨h4,h5,h6,-⟩:=hold σ (Fr.same σ G w [] (by simp))
    obtain⟨h7,h8⟩:=xU hR sB h1 h3 (fun j x hj=>by
     have:=hv (cs.length+j) x (by rw[Pbk (by omega),h4,Pb1];exact hj);rwa[<- Pbm]at this) hz'
    refine⟨by rw[Pbg,h4,h7];simp only[dP,cond_false],fun k x yg=>?_⟩;rw[h5]at yg;simp only[Qb2,Qbc]at yg
    rcases Ob8.1 yg with yg|yg
    ·obtain⟨rfl,rfl⟩:=Qb9 yg
     refine⟨c,iy,_,rfl,e2,rfl,jR (by rw[h6];exact e3),fun dc dq j l l0 v hj lO gu=>?_⟩;rw[gV (by rw[h6];exact e3)]at hj;split at hj
     ·rename_i hr
      refine (hold dc dq).2.2.2 (j-off) l l0 v hj ?_ gu;rw[List.getElem?_drop,show off+(j-off)=j by omega];exact lO
     ·rw[lO]at hj
      obtain rfl:=Pbu hj;exact aB.mono dq _ v gu
    ·exact h8 k x yg
theorem Zar (hR:R E.ntmps F σ ρ a w G)(hg:gOn ρ g=false)(hd:eO E.ntmps o)(wy:∀ z∈Z.deps,Jaa σ z.1 z.2)(ri:Z.rts=[])(yh:jM s.results=0)
  (hZ:(dX T.ptrs T 0 s.boxes).eval σ=some Z) {olds:List aI} (hold:(iD Z.ptrs 0 s.boxes).eval σ=some olds)
  {rs:List (Bool×List aM)} {us bu:List (Nat×aN)} {uw:Nat} (iu:iJ true Z.deps nb y0 nr s.results=(rs,us,uw)) (yw:noG g=false)
  (te:(kH Z.ptrs Z.deps 0 (y0+bF s.results) uw s.boxes).eval σ=some bu)
  (dt:∀ j d,(Pbp (bF s.results+dP s.boxes-olds.length) D.undef++olds.map (·.val ρ))[j]?=some d->(aI.v (y0+j)).val ρ=d) :
  R E.ntmps F (upds σ (Sal o g rs++(us++bu))) ρ (a.put o.dst undef) w G:=by
 have xF:us=[]:=by
  have:=Ka7 (deps:=Z.deps) (nb:=nb) s.results y0 nr yh;rw[iu]at this;exact this
 subst xF;rw[Qbc];obtain⟨-,pk,-⟩:=jO hZ
 have sB:∀ z∈Z.deps,iK σ z.1 z.2:=fun z hz=>by
  obtain⟨m,x,hx⟩:=wy z hz;exact⟨x,m,z.2,.live,hx,fun _=>Pbj _⟩
 have lB:=Baz hZ;rw[<- pk]at lB
 have hlen0:olds.length=dP s.boxes:=by
  have hln:∀ {bs:List (Bool×List (BS×BO))} {b:Nat} {xs:List aI},(iD Z.ptrs b bs).eval σ=some xs->xs.length=dP bs:=by
   intro bs
   induction bs with
   |nil=>intro b xs h;simp only[iD,aF,Ob0]at h;subst h;rfl
   | cons x bs ih =>
    intro b xs h;obtain⟨ro,cs⟩:=x;simp only[iD]at h
    cases ro with
    |true=>simp only[cond_true]at h;rw[ih h];simp only[dP,cond_true,Pbw]
    | false =>
     simp only[cond_false]at h;split at h
     case h_2=>cases h
     simp only[aA,aP,Ob6]at h;split at h
     case h_2=>cases h
     simp only[aA,Oby,aF,Ob0]at h;obtain⟨l,h1,m,h2,rfl⟩:=h
     have hc:∀ {cs:List (BS×BO)} {ls:List aM} {ys:List aI},(jJ cs ls).eval σ=some ys->ys.length=cs.length:=by
      intro cs
      induction cs with
      |nil=>intro ls ys h;simp only[jJ,aF,Ob0]at h;subst h;rfl
      | cons t cs ihc =>
       intro ls ys h;obtain⟨t1,t2⟩:=t
       cases ls with
       |nil=>simp[jJ,bJ]at h
       | cons x ls =>
        simp only[jJ,aA,Oby,aF,Ob0]at h;obtain⟨y,-,r,h4,rfl⟩:=h;simp[ihc h4]
     rw[Pbg,hc h1,ih h2];simp only[dP,cond_false]
  exact hln hold
 have a5p:bF s.results+dP s.boxes-olds.length=bF s.results:=by omega
 rw[a5p]at dt
 obtain⟨-,jz⟩:=xU hR sB te hold (fun j x hj=>by
  rw[Pbm];refine dt _ _ ?_;rw[Pbk (by simp),Qbv,Pb1,Pbr,hj]
  rfl) lB
 have xz:∀ k c,(k,c)∈Sal o g rs->∃ d,o.dst=some d/\k=kT d/\c=.slot (Yag g (yV g rs)) (yV g rs):=fun k c hc=>by
  rw[Aai]at hc;exact vV hc
 have kx:∀ k c,(k,c)∈Sal o g rs++bu->∀ r,k≠kR r:=by
  intro k c hc r
  rcases Pbe.1 hc with hc|hc
  ·obtain⟨d,-,e,-⟩:=xz _ _ hc
   rw[e];exact iA
  ·obtain⟨c0,iy,ls,e,-⟩:=jz _ _ hc
   rw[e];exact eD
 have dq:=Fr.nonroot σ G w (Sal o g rs++bu) kx;refine hR.upd _ dq (by rw[zA];exact hR.tmps) (by rw[put_defers];exact hR.defers) hR.frame (fun t ht=>?_) (fun _ _ _ _ _=>⟨rfl,rfl⟩) (fun b ls hb aq ho=>?_) (fun k c hc ic=>?_)
 ·rw[Aai]at ht
  exact Ca7 ht
 ·rcases Pbe.1 hb with hb|hb
  ·obtain⟨d,-,e,-⟩:=xz _ _ hb
   exact absurd e.symm kF
  ·obtain⟨c0,iy,jn,e,h1,h2,h3,-⟩:=jz _ _ hb
   obtain rfl:=zT e
   injection h2 with e1 e2
   rw[hR.rng b iy h1 aq ho,e2,h3]
 ·rcases Pbe.1 hc with hc|hc
  ·obtain⟨d,lA,rfl,rfl⟩:=xz _ _ hc
   refine⟨d,rfl,fun eI=>?_⟩;rw[lA,mI _ _ _ _ _ (hd d lA) hR.tmps];have wz:(iJ true Z.deps nb y0 nr s.results).1=rs:=by rw[iu]
   cases g with
   |none=>simp[gOn]at hg
   | some z =>
    refine Ta3 hg wz (fun lP=>?_) eI
    have:=dt 0 .undef (by
     rw[Pbi (by simp;omega)];rw[Rbq,if_pos (by omega)])
    rwa[Pby]at this
  ·obtain⟨c0,iy,ls,rfl,h1,rfl,h3,h4⟩:=jz _ _ hc
   obtain⟨h5,h6,h7⟩:=hR.box h1;refine⟨c0,rfl,h5,h6,fun j l hj=>?_⟩;have aq:j<iy.length:=by rw[<- h3];exact (Ob2.1 hj).1
   obtain⟨v,h8,h9,cd⟩:=h7 j _ (Ob5 aq);exact⟨v,h8,h9,h4 _ dq j l _ v hj (Ob5 aq) cd⟩
end
section
variable {P:Program} {E:Env} {F:bC} {σ:Nat->Option aN} {ρ:List D} {a:Act} {w:World} {G:Gh} {g:Option (aI×Bool)} {o:Oper}
theorem Kam:∀ {vs:List SV} {us:List Value},vs.length=us.length->(∀ (i:Nat) (v:SV) (u:Value),vs[i]?=some v->us[i]?=some u->bS σ ρ G w v u)->pJ σ ρ G w vs us
 |[],[],_,_=>rfl
 |[],_::_,h,_=>by simp at h
 |_::_,[],h,_=>by simp at h
 |v::vs,u::us,h,hr=>⟨u,us,rfl,hr 0 v u rfl rfl,Kam (by simpa using h) fun i v' u' hv hu=>hr (i+1) v' u' (by simpa using hv) (by simpa using hu)⟩
theorem yH:∀ {vs ui:List SV} {us cD:List Value},pJ σ ρ G w vs us->pJ σ ρ G w ui cD->pJ σ ρ G w (vs++ui) (us++cD)
 |[],ui,us,cD,h,h'=>by simp only[pJ]at h;subst h;exact h'
 | v :: vs, ui, us, cD, h, h' => by
  obtain⟨u,us2,rfl,h1,h2⟩:=h;exact⟨u,us2++cD,rfl,h1,yH h2 h'⟩
theorem Da5:∀ {ls:List aM} {vs:List Value},aG σ ρ G w ls vs->pJ σ ρ G w (ls.map SV.one) vs
 |[],vs,h=>by simp only[aG]at h;subst h;rfl
 | l :: ls, vs, h => by
  simp only[aG]at h;obtain⟨u,us,rfl,h1,h2⟩:=h;exact⟨u,us,rfl,h1,Da5 h2⟩
theorem Yaf {f:Operand}{args:Array Operand}{argTypes:Array TypeId}(ho:o.op=.call { callee:=.value f,args,argTypes }){fn:Nat}{vs:List Value}(hf:a.eval f=.func (.func fn) #[] vs.toArray) :
  (execOp a.eval o).run P w=(callFunc fn (args.toList.map a.eval++vs).toArray).run P w:=by
 unfold execOp;simp only[ho,resolve,hf,Deferred.ofValue,invoke,Sem.run_bind,Sem.run_pure,Result.andThen_ok];congr 2;apply Array.ext';simp
theorem Zap {X:(Nat->Ow)->World->Prop}{T:Nat->Ent}{n:Nat}(ba:Stable X)(hX:X F.own0 F.w0)(hc:∀ key s,(key,s)∈E.sigs->Aau P X T n key s):xZ P E F (jE T n):=by
 intro σ ρ a w G g o Q mv cN nv nb nr res f args argTypes hR hd hf ho h nw tn;simp only[nL,ho,aA,Oby]at h;obtain⟨l,h1,h⟩:=h;split at h
 case h_2=>cases h
 rename_i fn eN;simp only[aA,Oby]at h;obtain⟨vs0,h2,h⟩:=h;unfold Za5 at h;split at h
 ·cases h
 rename_i key s a2b;obtain⟨b9,hfn⟩:=Faf a2b;simp only[aA,Oby,aH]at h;obtain⟨T1,hT,Z,hZ,_,fp,h⟩:=h;split at fp
 case isFalse=>cases fp
 rename_i hb;simp only[Obz,Bool.or_eq_true,Qba,List.isEmpty_iff,Pbq]at hb;obtain⟨⟨qx,zz⟩,fp⟩:=hb;have hk:=Nal qx;obtain⟨bu,te,⟨ml,mu⟩,vn,olds,hold,h⟩:=h;simp only[aF,Ob0]at h;subst h;dsimp only at nw tn ⊢;generalize iu:iJ (!noG g) Z.deps nb (nv+bD Z.lets) nr s.results=res at nw tn te ⊢;obtain⟨rs,us,uw⟩:=res;dsimp only at nw ba te vn ⊢;refine⟨fun hg=>?_,fun hg=>?_⟩
 ·
  obtain⟨q0,zo⟩:=aJ.append tn;obtain⟨lf,pj⟩:=aJ.append q0;obtain⟨a00,ie⟩:=aJ.append lf;obtain⟨ds,bd,hlen,dt⟩:=ie.1.1 hg
  have hn:nv+bD (Z.lets++[Step.call key Z.xs (bF s.results+(Z.rts.filter uB).length+dP s.boxes) olds]++(bif Z.deps.isEmpty then [] else Va6 (nv+bD Z.lets) s.results++Va7 (nv+bD Z.lets+bF s.results) Z.rts++Saw (nv+bD Z.lets+bF s.results+(Z.rts.filter uB).length) s.boxes))=nv+bD Z.lets+(bF s.results+(Z.rts.filter uB).length+dP s.boxes):=by
   have e0:bD (bif Z.deps.isEmpty then [] else Va6 (nv+bD Z.lets) s.results++Va7 (nv+bD Z.lets+bF s.results) Z.rts++Saw (nv+bD Z.lets+bF s.results+(Z.rts.filter uB).length) s.boxes)=0:=by
    cases Z.deps.isEmpty with
    |true=>rfl
    |false=>simp only[cond_false,eB,Abj,Abk,Abm]
   rw[eB,eB,e0];simp only[gZ,Step.n];show nv+(bD Z.lets+(_+bD [])+0)=_
   have:bD ([]:List Step)=0:=rfl;omega
  rw[hn]at zo;have sT:=eU hR hg h1;simp only[aB]at sT;obtain⟨cvs,hcv,jx⟩:=sT;obtain⟨oq,k9⟩:=vK hR hg h2
  have xF:pJ σ ρ G w (vs0++eN.map SV.one) (args.toList.map a.eval++cvs):=by
   refine yH (Kam (by rw[oq];simp) fun i v u hv hu=>?_) (Da5 jx);rw[Pbr,Pbc]at hu;obtain⟨x,hx,rfl⟩:=hu;exact k9 i v x hv hx
  have ew:=Zaq hR hg a00 hk hT hZ xF
  have hXc:X (callG ρ G w s Z).own w:=ba _ _ _ _ hR.frame.size (fun b hb he=>by
   have hkp:=hR.frame.keep b hb (.inl he);exact⟨hkp.1,nD (hkp.2.trans he)⟩) hX
  have eI:=hc key s b9 _ w _ _ ds ew hXc bd
  have a0a:Z.deps=[]\/Nab ρ (Va6 (nv+bD Z.lets) s.results++Va7 (nv+bD Z.lets+bF s.results) Z.rts++Saw (nv+bD Z.lets+bF s.results+(Z.rts.filter uB).length) s.boxes):=by
   cases hde:Z.deps.isEmpty with
   |true=>exact .inl (by simpa using hde)
   | false =>
    rw[hde,cond_false]at pj;exact .inr (Qak hg pj)
  have a3z:noG g=true\/(jM s.results=0/\∃ olds,(iD Z.ptrs 0 s.boxes).eval σ=some olds):=by
   cases g with
   |none=>exact .inl rfl
   |some z=>exact .inr ⟨(fp.resolve_left (by simp[noG])).2,olds,hold⟩
  have u5:∀ v w',Ja7 s (nE s (callG ρ G w s Z) w) (callG ρ G w s Z).bx v w' ds->Nx E.ntmps F σ ρ (Sal o g rs++(us++bu++mu++fP Z.rts)) (a.put o.dst v) w':=by
   intro v w' nB;exact Wac hR hg hd hf xF hT hZ hk zz a3z iu te vn hlen dt a0a zo nw nB
  unfold Oper.wp;rw[Yaf ho hcv,<- hfn]
  rcases eI with ⟨hr,b7⟩|⟨v,w',hr,nB⟩
  ·rw[hr,Oper.upon_enter]
   refine Calls.mono b7 fun e w' he=>?_
   cases e with
   |returned v=>exact u5 v w' he
   |panicked c=>exact he.elim
   |outgrown=>exact he.elim
  ·rw[hr,Oper.upon_value]
   exact u5 v w' nB
 ·
  have yw:noG g=false:=by
   cases g with
   |none=>simp[gOn]at hg
   |some z=>rfl
  have h5:=fp.resolve_left (by rw[yw];simp);obtain⟨ri,yh⟩:=h5
  have a2q:mu=[]:=by
   rw[ri]at vn;simp only[wQ,aF,Ob0,Pbl]at vn;exact vn.2.symm
  have a2r:fP Z.rts=[]:=by rw[ri];rfl
  have we:(Z.rts.filter uB).length=0:=by rw[ri];rfl
  obtain⟨q0,zo⟩:=aJ.append tn;obtain⟨lf,pj⟩:=aJ.append q0;obtain⟨a00,ie⟩:=aJ.append lf;have dt:=ie.1.2 hg;rw[we,Pby]at dt te
  have a07:(iD Z.ptrs 0 s.boxes).eval σ=some olds:=by
   cases g with
   |none=>cases yw
   |some z=>exact hold
  have p6:∀ z∈Z.deps,Jaa σ z.1 z.2:=by
   obtain⟨rn,sC,-,-⟩:=sO (E:=E) (F:=F) (ρ:=ρ) (a:=a) (w:=w) (G:=G) False (fun h=>h.elim) hT (fun h=>h.elim);obtain⟨qo,hn4,-⟩:=pQ (ρ:=ρ) (G:=G) (w:=w) hZ;intro z hz
   rcases (sC.trans hn4).deps z hz with h|h
   ·simp[Take.empty]at h
   ·exact h
  rw[yw]at iu;have:=Zar hR hg hd p6 ri yh hZ a07 iu yw te dt;refine⟨G,?_⟩;show R E.ntmps F (upds σ (Sal o g rs++(us++bu++mu++fP Z.rts))) ρ _ w G
  rw[a2q,a2r,Pbz,Pbz];exact this
end
def Cbs (P:Program)(s:Sig)(e:List D->Option (List D)):Prop :=
 ∀ vals w G ds gq,War s vals w G ds->e ds=some gq->Goes P s.fn vals.toArray w fun v w'=>Ja7 s (nE s G w) G.bx v w' gq
def Sa6 (P:Program)(T:Nat->Ent)(ti:Nat->Option TI)(sigs:List (Nat×Sig))(key:Nat)(s:Sig):Prop :=
 (∃ (E : Env) (fn : Func) (tm : Tm Unit), E.ti = ti /\ E.sigs = sigs /\ P.funcs[s.fn]? = some fn /\ (fn.name == "runtime.NumGoroutine") = false /\ Rac E s fn = some tm /\ T key = .tm tm) \/ ∃ e, T key = .ext e /\ Cbs P s e
def Fbn (P:Program)(X:(Nat->Ow)->World->Prop)(s:Sig)(e:List D->Option (List D)):Prop :=
 ∀ vals w G ds gq,War s vals w G ds->X G.own w->e ds=some gq->Goes P s.fn vals.toArray w fun v w'=>Ja7 s (nE s G w) G.bx v w' gq
def Fbm (P:Program)(X:(Nat->Ow)->World->Prop)(T:Nat->Ent)(ti:Nat->Option TI)(sigs:List (Nat×Sig))(key:Nat)(s:Sig):Prop :=
 (∃ (E : Env) (fn : Func) (tm : Tm Unit), E.ti = ti /\ E.sigs = sigs /\ P.funcs[s.fn]? = some fn /\ (fn.name == "runtime.NumGoroutine") = false /\ Rac E s fn = some tm /\ T key = .tm tm) \/ ∃ e, T key = .ext e /\ Fbn P X s e
theorem Sa6.toX {P:Program}{X:(Nat->Ow)->World->Prop}{T:Nat->Ent}{ti:Nat->Option TI}{sigs:List (Nat×Sig)}{key:Nat}{s:Sig}(h:Sa6 P T ti sigs key s):Fbm P X T ti sigs key s:=by
 rcases h with h|⟨e,h1,h2⟩
 ·exact .inl h
 ·exact .inr ⟨e,h1,fun vals w G ds gq hp _ he=>h2 vals w G ds gq hp he⟩
theorem Saq {P:Program}{X:(Nat->Ow)->World->Prop}{T:Nat->Ent}{ti:Nat->Option TI}{sigs:List (Nat×Sig)}(ba:Stable X)(hti:sM P ti)(hm:P.follows .mixedOrders=true)(H:∀ key s,(key,s)∈sigs->Fbm P X T ti sigs key s) :
  ∀ n key s,(key,s)∈sigs->Aau P X T n key s:=by
 intro n
 induction n with
 | zero =>
  intro key s _ vals w G ds gq _ _ h;cases h
 | succ n ih =>
  intro key s b9
  rcases H key s b9 with ⟨E,fn,tm,rfl,rfl,h1,h2,h3,h4⟩|⟨e,h1,h2⟩
  ·exact Jal hti hm h1 h2 h3 h4 fun F hX=>Zap ba hX fun key s h=>ih key s h
  ·intro vals w G ds gq ew hX bd
   simp only[jE,h1]at bd;exact h2 vals w G ds gq ew hX bd
theorem contracts {P:Program}{T:Nat->Ent}{ti:Nat->Option TI}{sigs:List (Nat×Sig)}(hti:sM P ti)(hm:P.follows .mixedOrders=true)(H:∀ key s,(key,s)∈sigs->Sa6 P T ti sigs key s) :
  ∀ n key s,(key,s)∈sigs->rH P T n key s :=
 fun n key s b9 vals w G ds gq ew bd=>Saq (X:=fun _ _=>True) (fun _ _ _ _ _ _ _=>trivial) hti hm (fun key s h=>(H key s h).toX) n key s b9 vals w G ds gq ew trivial bd
inductive Ty where
 |int (k:IntKind)
 |bool
 |str
 |sl (bytes:Nat) (row:List Ty)
mutual
def WT:Ty->D->Prop
 |.int k,d=>∃ n,d=.int k n/\k.min<=n/\n<=k.max
 |.bool,d=>∃ b,d=.bool b
 |.str,d=>∃ s,d=.str s/\s.length<=reachBytes
 |.sl bytes row,d=>∃ rs,d=.rows row.length rs/\rs.length*bytes<=reachBytes/\∀ r∈rs,WTs row r
def WTs:List Ty->List D->Prop
 |[],ds=>ds=[]
 |t::ts,ds=>∃ d gq,ds=d::gq/\WT t d/\WTs ts gq
end
def Taa (P:Program)(rec:TypeId->Option (List Ty)):Nat->List Field->Option (List Ty)
 |_,[]=>some []
 | off, f :: fs => match rec f.type with
  |some r=>bif Nat.beq f.offset off&&Nat.beq r.length (P.cellsOf f.type) then (Taa P rec (off+r.length) fs).map (r++·) else none
  |none=>none
def Fa7 (P:Program):Nat->TypeId->Option (List Ty)
 |0,_=>none
 | n + 1, t => match P.underlying t with
  |some .bool=>some [.bool]
  |some (.int k)=>some [.int k]
  |some .string=>some [.str]
  | some (.slice e) => match Fa7 P n e with
   |some r=>bif Nat.beq r.length (P.cellsOf e) then some [.sl (P.bytesOf e) r] else none
   |none=>none
  | some (.struct fs) => match Taa P (Fa7 P n) 0 fs.toList with
   |some r=>bif Nat.beq r.length (P.cellsOf t) then some r else none
   |none=>none
  |_=>none
def iI (w:World):List Ty->List Value->List D->Prop
 |[],cs,ds=>cs=[]/\ds=[]
 |t::ts,cs,ds=>∃ c nj d gq,cs=c::nj/\ds=d::gq/\Rd (fun _=>True) w c d/\WT t d/\iI w ts nj gq
theorem iI.append {w:World}:∀ {ts ts':List Ty} {cs nj:List Value} {ds gq:List D},iI w ts cs ds->iI w ts' nj gq->iI w (ts++ts') (cs++nj) (ds++gq)
 | [], ts', cs, nj, ds, gq, h, h' => by
  obtain⟨rfl,rfl⟩:=h;exact h'
 | t :: ts, ts', cs, nj, ds, gq, h, h' => by
  obtain⟨c,c1,d,d1,rfl,rfl,h1,h2,h3⟩:=h;exact⟨c,c1++nj,d,d1++gq,rfl,rfl,h1,h2,h3.append h'⟩
theorem iI.len {w:World}:∀ {ts:List Ty} {cs:List Value} {ds:List D},iI w ts cs ds->cs.length=ts.length/\ds.length=ts.length
 |[],cs,ds,h=>by obtain⟨rfl,rfl⟩:=h;exact⟨rfl,rfl⟩
 | t :: ts, cs, ds, h => by
  obtain⟨c,c1,d,d1,rfl,rfl,h1,h2,h3⟩:=h;obtain⟨h4,h5⟩:=h3.len;simp[h4,h5]
theorem iI.get {w:World}:∀ {ts:List Ty} {cs:List Value} {ds:List D},iI w ts cs ds->∀ {j:Nat} {d:D},ds[j]?=some d->∃ c,cs[j]?=some c/\Rd (fun _=>True) w c d
 |[],cs,ds,h,j,d,hj=>by obtain⟨rfl,rfl⟩:=h;simp at hj
 | t :: ts, cs, ds, h, j, d, hj => by
  obtain⟨c,c1,d',d1,rfl,rfl,h1,h2,h3⟩:=h
  cases j with
  | zero =>
   simp only[Ob7,Ob0]at hj;subst hj;exact⟨c,rfl,h1⟩
  | succ j =>
   obtain⟨c',h4,h5⟩:=h3.get (j:=j) (by simpa using hj);exact⟨c',by simpa using h4,h5⟩
theorem iI.wts {w:World}:∀ {ts:List Ty} {cs:List Value} {ds:List D},iI w ts cs ds->WTs ts ds
 |[],cs,ds,h=>by obtain⟨rfl,rfl⟩:=h;simp[WTs]
 | t :: ts, cs, ds, h => by
  obtain⟨c,c1,d',d1,rfl,rfl,h1,h2,h3⟩:=h;simp only[WTs];exact⟨d',d1,rfl,h2,h3.wts⟩
theorem Eau {α β:Type}{f:α->Option β}:∀ {l:List α} {ys:List β},l.mapM f=some ys->ys.length=l.length/\∀ (i:Nat) (x:α),l[i]?=some x->∃ y,ys[i]?=some y/\f x=some y
 | [], ys, h => by
  simp at h;subst h;simp
 | x :: l, ys, h => by
  simp only[List.mapM_cons,bind,Oby,pure,Ob0]at h;obtain⟨y,h1,ys',h2,rfl⟩:=h;obtain⟨h3,h4⟩:=Eau h2;refine⟨by simp[h3],fun i z hz=>?_⟩
  cases i with
  | zero =>
   simp only[Ob7,Ob0]at hz;subst hz;exact⟨y,rfl,h1⟩
  | succ i =>
   obtain⟨y',h5,h6⟩:=h4 i z (by simpa using hz);exact⟨y',by simpa using h5,h6⟩
theorem Oaj {β:Type}{p:Nat->β->Prop}:∀ (n:Nat),(∀ i,i<n->∃ y,p i y)->∃ l:List β,l.length=n/\∀ i y,l[i]?=some y->p i y
 |0,_=>⟨[],rfl,by simp⟩
 | n + 1, h => by
  obtain⟨l,h1,h2⟩:=Oaj n fun i hi=>h i (by omega)
  obtain⟨y,hy⟩:=h n (by omega);refine⟨l++[y],by simp[h1],fun i z hz=>?_⟩
  rcases Nat.lt_trichotomy i n with hi|hi|hi
  ·rw[Pbi (by omega)]at hz
   exact h2 i z hz
  ·subst hi
   rw[Pbk (by omega),h1,Nat.sub_self]at hz;simp only[Ob7,Ob0]at hz;subst hz;exact hy
  ·have:=(Ob2.1 hz).1
   simp[h1]at this;omega
theorem wH {H:Type}{P:Program}{e:TypeId}:∀ {l:List (DataW H)} {d:DataW H},d∈l->∀ n∈d.weights P e,n∈DataW.weightsAll P e l
 |[],d,h,_,_=>by simp at h
 | x :: l, d, h, n, hn => by
  simp only[DataW.weightsAll,Pbe]
  rcases Ob8.1 h with rfl|h
  ·exact .inl hn
  ·exact .inr (wH h n hn)
theorem rJ {H:Type}{P:Program}{t:TypeId}{ts:List TypeId}{d:DataW H}{ds:List (DataW H)}:DataW.weightsEach P (t::ts) (d::ds)=d.weights P t++DataW.weightsEach P ts ds:=by
 simp only[DataW.weightsEach]
theorem Daz {P:Program}{w:World}{H:Type}{cs:List Value}{f:Field->List Value->Option (DataW H×List MemPlace)}{rec:TypeId->Option (List Ty)}
  (b5:∀ (fd:Field) (r:List Ty) (l:List Value) (y:DataW H×List MemPlace),rec fd.type=some r->f fd l=some y->(∀ m∈y.1.weights P fd.type,m<=reachBytes)->∃ ds,iI w r l ds) :
  ∀ {fs:List Field} {off:Nat} {fY:List Ty} {xs:List (DataW H×List MemPlace)},Taa P rec off fs=some fY->fs.mapM (fun fd=>f fd ((cs.drop fd.offset).take (P.cellsOf fd.type)))=some xs ->
  (∀ m∈DataW.weightsEach P (fs.map (·.type)) (xs.map (·.1)),m<=reachBytes)->cs.length=off+fY.length->∃ ds,iI w fY (cs.drop off) ds
 | [], off, fY, xs, h, _, _, hl => by
  simp only[Taa,Ob0]at h;subst h;refine⟨[],?_,rfl⟩;rw[List.drop_eq_nil_iff];simp only[List.length_nil]at hl;omega
 | fd :: fs, off, fY, xs, h, hm, hw, hl => by
  simp only[Taa]at h;split at h
  case h_2=>cases h
  rename_i r hr
  cases hb:(Nat.beq fd.offset off&&Nat.beq r.length (P.cellsOf fd.type)) with
  |false=>rw[hb]at h;cases h
  | true =>
   rw[hb,cond_true,Pbc]at h;obtain⟨zl,h1,rfl⟩:=h;simp only[Obz,Pbq]at hb;obtain⟨rfl,jx⟩:=hb;simp only[List.mapM_cons,bind,Oby,pure,Ob0]at hm;obtain⟨y,h2,ys,h3,rfl⟩:=hm;simp only[Pbn,rJ,Pbe]at hw;obtain⟨ds,h4⟩:=b5 fd r _ y hr h2 fun m hm=>hw m (.inl hm)
   rw[Pbg]at hl;obtain⟨gq,h5⟩:=Daz b5 (off:=fd.offset+r.length) h1 h3 (fun m hm=>hw m (.inr hm)) (by omega);refine⟨ds++gq,?_⟩;have:=h4.append h5;rw[<- jx]at this
   have e:List.take r.length (List.drop fd.offset cs)++List.drop (fd.offset+r.length) cs=List.drop fd.offset cs:=by
    rw[<- List.drop_drop,List.take_append_drop]
   rw[e]at this;exact this
theorem Aay {P:Program}{H:Type}{enc:TypeId×Value->H}{w:World}{sp:Nat->Bool}{held:Bool}:∀ (n fuel:Nat) {t:TypeId} {cs:List Value} {x:DataW H} {ps:List MemPlace} {fY:List Ty},Fa7 P n t=some fY->DataW.trod enc P w 0 sp held fuel t cs=some (x,ps) ->
  (∀ m∈x.weights P t,m<=reachBytes)->∃ ds,iI w fY cs ds
 |0,_,t,cs,x,ps,fY,h,_,_=>by simp[Fa7]at h
 |n+1,0,t,cs,x,ps,fY,_,h,_=>by simp[DataW.trod]at h
 | n + 1, fuel + 1, t, cs, x, ps, fY, ht, h, hw => by
  simp only[Fa7]at ht;unfold DataW.trod at h;split at ht
  ·
   rename_i hu;rw[hu]at h;simp only[Ob0]at ht;subst ht;split at h<;>rename_i heq<;>first|(cases heq;done)|skip
   all_goals first|(injection heq with heq;cases heq;done)|skip
   ·exact⟨_,_,[],_,[],rfl,rfl,.sc (.bool _),⟨_,rfl⟩,rfl,rfl⟩
   ·cases h
  ·
   rename_i k hu;rw[hu]at h;simp only[Ob0]at ht;subst ht;split at h<;>rename_i heq<;>first|(cases heq;done)|skip
   all_goals first|(injection heq with heq;cases heq;done)|skip
   ·rename_i k0 k' m
    injection heq with heq
    injection heq with heq
    subst heq;split at h
    ·rename_i hc
     obtain⟨rfl,ku⟩:=hc;simp only[Lit.wf,Obz,decide_eq_true_eq]at ku;exact⟨_,_,[],_,[],rfl,rfl,.sc (.int _ _),⟨_,rfl,ku.1,ku.2⟩,rfl,rfl⟩
    ·cases h
   ·cases h
  ·
   rename_i hu;rw[hu]at h;simp only[Ob0]at ht;subst ht;split at h<;>rename_i heq<;>first|(cases heq;done)|skip
   all_goals first|(injection heq with heq;cases heq;done)|skip
   ·rename_i s0
    split at h
    ·simp only[Ob0,Pbl]at h
     obtain⟨rfl,rfl⟩:=h;refine⟨_,_,[],_,[],rfl,rfl,.sc (.str s0.data.toList),⟨_,rfl,hw _ ?_⟩,rfl,rfl⟩;simp only[DataW.weights,Ob3]
    ·cases h
   ·cases h
  ·
   rename_i e hu;split at ht
   case h_2=>cases ht
   rename_i r hr
   cases hb:Nat.beq r.length (P.cellsOf e) with
   |false=>rw[hb]at ht;cases ht
   | true =>
    rw[hb,cond_true]at ht;simp only[Ob0]at ht;subst ht;simp only[Pbq]at hb;rw[hu]at h;split at h<;>rename_i heq<;>first|(cases heq;done)|skip
    all_goals first|(injection heq with heq;cases heq;done)|skip
    ·injection heq with heq
     injection heq with heq
     subst heq;simp only[Ob0,Pbl]at h;obtain⟨rfl,rfl⟩:=h;refine⟨_,_,[],.rows r.length [],[],rfl,rfl,.rows none ⟨0,0,none⟩ 0 0 r.length [] (fun _ _=>undef) rfl (Pbj _) (.inl rfl) (by simp) (by simp) (by simp),⟨[],rfl,by simp,by simp⟩,rfl,rfl⟩
    ·rename_i e0 ad len cap
     injection heq with heq
     injection heq with heq
     subst heq;dsimp only at h;split at h
     case isFalse=>cases h
     rename_i hc;simp only[Oby,Pbc,Pbl]at h;obtain⟨elems,h1,rest,h2,rfl,rfl⟩:=h;obtain⟨h3,h4⟩:=Eau h1;rw[List.length_range]at h3;simp only[DataW.weights,hu,Ob8,Pbe]at hw
     have gR:∀ i,i<len->∃ ds:List D,∃ cs:List Value,(∀ j c,cs[j]?=some c->w.cell? (ad.add (i*r.length+j))=some c)/\iI w r cs ds:=by
      intro i hi;obtain⟨y,h5,h6⟩:=h4 i i (by rw[Rb8 hi]);simp only[Oby]at h6;obtain⟨cs,h7,h8⟩:=h6;obtain⟨x,ps⟩:=y;obtain⟨ds,h9⟩:=Aay n fuel hr h8 fun m hm=>hw m (.inr (.inl (wH (List.mem_map.2 ⟨_,Pbh h5,rfl⟩) m hm)))
      refine⟨ds,cs,fun j c hj=>?_,h9⟩;unfold World.cells? at h7;split at h7
      ·obtain⟨cd,db⟩:=Eau h7
       have lz:=(Ob2.1 hj).1;rw[cd,List.length_range]at lz;obtain⟨c',fj,hJ⟩:=db j j (by rw[Rb8 lz]);rw[hj]at fj;obtain rfl:=Pbu fj;rw[add_add,<- hb]at hJ;exact hJ
      ·cases h7
     obtain⟨rs,h5,h6⟩:=Oaj len gR
     have hex:∀ i,∃ cs:List Value,∀ ds,rs[i]?=some ds->(∀ j c,cs[j]?=some c->w.cell? (ad.add (i*r.length+j))=some c)/\iI w r cs ds:=by
      intro i
      cases hi:rs[i]? with
      |none=>exact⟨[],fun ds h=>by cases h⟩
      | some ds =>
       obtain⟨cs,h7,h8⟩:=h6 i ds hi;exact⟨cs,fun gq h=>by obtain rfl:=Pbu h;exact⟨h7,h8⟩⟩
     have yk:∃ cf:Nat->List Value,∀ i ds,rs[i]?=some ds->(∀ j c,(cf i)[j]?=some c->w.cell? (ad.add (i*r.length+j))=some c)/\iI w r (cf i) ds:=⟨fun i=>(hex i).choose,fun i=>(hex i).choose_spec⟩;obtain⟨cf,s8⟩:=yk
     have hlen:∀ row∈rs,row.length=r.length:=fun row gR=>by
      obtain⟨i,hi⟩:=Qbl.1 gR;exact ((s8 i row hi).2.len).2
     refine⟨[.rows r.length rs],_,[],_,[],rfl,rfl,?_,⟨rs,rfl,?_,fun row gR=>?_⟩,rfl,rfl⟩
     ·refine .rows _ ad len cap r.length rs (fun i j=>((cf i)[j]?).getD undef) h5 hc.2.1 (.inr rfl) hlen (fun i row hi j d hj=>?_) (fun i row hi j d hj=>?_)
      ·obtain⟨c,h7,h8⟩:=(s8 i row hi).2.get hj
       refine⟨trivial,?_⟩;rw[(s8 i row hi).1 j c h7,h7];rfl
      ·obtain⟨c,h7,h8⟩:=(s8 i row hi).2.get hj
       rw[h7];exact h8
     ·have:=hw _ (.inl rfl)
      rw[Pbt,Pbt,h3]at this;rw[h5];exact Nat.le_trans (Nat.mul_le_mul_right _ (Nat.le_add_right ..)) this
     ·obtain⟨i,hi⟩:=Qbl.1 gR
      exact (s8 i row hi).2.wts
    ·cases h
  ·
   rename_i fs hu;split at ht
   case h_2=>cases ht
   rename_i r hr
   cases hb:Nat.beq r.length (P.cellsOf t) with
   |false=>rw[hb]at ht;cases ht
   | true =>
    rw[hb,cond_true]at ht;simp only[Ob0]at ht;subst ht;simp only[Pbq]at hb;rw[hu]at h;split at h<;>rename_i heq<;>first|(cases heq;done)|skip
    all_goals first|(injection heq with heq;cases heq;done)|skip
    ·rename_i cs0 x0 cs1 fs2
     injection heq with heq
     injection heq with heq
     subst heq;split at h
     case isFalse=>cases h
     rename_i hc;simp only[Pbc,Pbl]at h;obtain⟨xs,h1,rfl,rfl⟩:=h;simp only[DataW.weights,hu]at hw
     obtain⟨ds,h2⟩:=Daz (w:=w) (cs:=cs0) (f:=fun fd l=>DataW.trod enc P w 0 sp held fuel fd.type l) (rec:=Fa7 P n)
      (fun fd r l y hr' hy uu=>Aay n fuel hr' (x:=y.1) (ps:=y.2) hy uu) hr h1 hw (by omega)
     exact⟨ds,by simpa using h2⟩
    ·exact ((by assumption:∀ (a2g:Array Field),some (TypeDesc.struct fs)=some (TypeDesc.struct a2g)->False) fs rfl).elim
  ·cases ht
open Go.ChangeShapes Go.RowKit
def Uam:Ty->LS
 |.sl _ _=>.fz false
 |_=>.sc
def Cbl (P:Program)(t:TypeId):Bool:=match P.underlying t with
 |some (.struct _)=>true
 |_=>false
def mV (P:Program):List TypeId->Option (List (Bool×List LS)×List Ty)
 |[]=>some ([],[])
 | t :: ts => match Fa7 P 12 t, mV P ts with
  |some r,some (ps,fY)=>some ((Cbl P t,r.map Uam)::ps,r++fY)
  |_,_=>none
def Ibm:Gh:=⟨fun _=>.frz,fun _=>undef,fun _=>⟨0,0,none⟩⟩
theorem Va3:∀ (fY:List Ty),Sa3 (fY.map Uam)=fY.length/\jC (fY.map Uam)=0
 |[]=>⟨rfl,rfl⟩
 | t :: fY => by
  obtain⟨h1,h2⟩:=Va3 fY;cases t<;>simp[Sa3,jC,Uam,LS.cnt,LS.rcnt,h1,h2]<;>omega
theorem Cai {w:World}{ρ:List D}:∀ {fY:List Ty} {cs:List Value} {ds:List D} {i:Nat},iI w fY cs ds->(∀ j d,ds[j]?=some d->(aI.v (i+j)).val ρ=d)->pK Ibm w ρ 0 i 0 (fY.map Uam) cs
 |[],cs,ds,i,h,_=>by obtain⟨rfl,rfl⟩:=h;rfl
 | t :: fY, cs, ds, i, h, hv => by
  obtain⟨c,nj,d,gq,rfl,rfl,h1,h2,h3⟩:=h;have yp:(aI.v i).val ρ=d:=by have:=hv 0 d rfl;rwa[Pby]at this
  have hr:(Uam t).rcnt=0:=by cases t<;>rfl
  have hc:(Uam t).cnt=1:=by cases t<;>rfl
  refine⟨c,nj,rfl,?_,?_⟩
  ·cases t with
   | int k =>
    obtain⟨n,rfl,-⟩:=h2;simp only[Uam,jN,yp];exact h1.sc_inv rfl
   | bool =>
    obtain⟨n,rfl⟩:=h2;simp only[Uam,jN,yp];exact h1.sc_inv rfl
   | str =>
    obtain⟨n,rfl,-⟩:=h2;simp only[Uam,jN,yp];exact h1.sc_inv rfl
   | sl bytes row =>
    simp only[Uam,jN,yp];exact⟨h1.mono fun b _=>⟨rfl,rfl⟩,fun e=>absurd e (by decide)⟩
  ·rw[hr,hc]
   refine Cai (i:=i+1) h3 fun j d' hj=>?_
   have:=hv (j+1) d' (by simpa using hj);rwa[show i+(j+1)=i+1+j by omega]at this
theorem Lal {P:Program}{W:World}{base:Nat}{n:Nat}{t:TypeId}{fY:List Ty}{v:Value}(h:Fa7 P n t=some fY)(hv:Value.okWide P W .any base t v):if Cbl P t=true then v=.agg v.cells.toList.toArray else v.cells.toList=[v]:=by
 cases n with
 |zero=>simp[Fa7]at h
 | succ n =>
  unfold Value.okWide at hv;unfold Cbl;simp only[Fa7]at h
  cases hu:P.underlying t with
  |none=>rw[hu]at h;cases h
  | some u =>
   rw[hu]at h hv
   cases u with
   | struct fs =>
    obtain⟨cs,rfl,-⟩:=hv;simp[Value.cells]
   | bool =>
    simp only[Cell.okWide,Cell.ok,hu]at hv;cases v<;>simp at hv
    simp[Value.cells]
   | int k =>
    simp only[Cell.okWide,Cell.ok,hu]at hv;cases v<;>simp at hv
    simp[Value.cells]
   | string =>
    simp only[Cell.okWide,Cell.ok,hu]at hv;cases v<;>simp at hv
    simp[Value.cells]
   | slice e =>
    simp only[Cell.okWide,Cell.ok,hu]at hv;cases v<;>simp at hv
    simp[Value.cells]
   |_=>cases h
theorem Haq {P:Program}{H:Type}{enc:TypeId×Value->H}{W:World}{sp:Nat->Bool}{held:Bool}{base:Nat}:∀ {ts:List TypeId} {vs:List Value} {ds:List (DataW H)} {ps:List MemPlace} {y8:List (Bool×List LS)} {fY:List Ty},
  mV P ts=some (y8,fY)->DataW.TrodAll enc P W 0 sp held ts vs ds ps->(∀ (j:Nat) t v,ts[j]?=some t->vs[j]?=some v->Value.okWide P W .any base t v)->(∀ m∈DataW.weightsEach P ts ds,m<=reachBytes) ->
  ∃ dd,WTs fY dd/\dd.length=fY.length/\fY.length=Haz y8/\iO y8=0/\∀ (ρ:List D) (i:Nat),(∀ j d,dd[j]?=some d->(aI.v (i+j)).val ρ=d)->lD Ibm W ρ 0 i 0 y8 vs
 | [], vs, ds, ps, y8, fY, h, ht, _, _ => by
  simp only[mV,Ob0,Pbl]at h;obtain⟨rfl,rfl⟩:=h
  cases vs with
  |cons v vs=>cases ds<;>exact ht.elim
  |nil=>exact⟨[],rfl,rfl,rfl,rfl,fun ρ i _=>rfl⟩
 | t :: ts, vs, ds, ps, y8, fY, h, ht, hv, hw => by
  simp only[mV]at h;split at h
  case h_2=>cases h
  rename_i r sps' zl hr hl;simp only[Ob0,Pbl]at h;obtain⟨rfl,rfl⟩:=h
  cases vs with
  |nil=>cases ds<;>exact ht.elim
  | cons v vs =>
   cases ds with
   |nil=>exact ht.elim
   | cons d ds =>
    obtain⟨p,q,⟨fuel,h1⟩,h2,rfl⟩:=ht;rw[rJ]at hw;obtain⟨dd,h3⟩:=Aay 12 fuel hr h1 fun m hm=>hw m (Ob1 _ hm)
    obtain⟨dd',h4,h5,h6,h7,h8⟩:=Haq hl h2 (fun j t' v' hj gn=>hv (j+1) t' v' (by simpa using hj) (by simpa using gn)) fun m hm=>hw m (Ob4 _ hm)
    obtain⟨hc1,sa⟩:=Va3 r;obtain⟨sC,hn2⟩:=h3.len;refine⟨dd++dd',?_,by simp[hn2,h5],by simp only[Pbg,Haz,hc1,h6],by simp only[iO,sa,h7],fun ρ i dt=>?_⟩
    ·have:∀ {a:List Ty} {x:List D},WTs a x->WTs (a++zl) (x++dd'):=by
      intro a
      induction a with
      |nil=>intro x hx;simp only[WTs]at hx;subst hx;exact h4
      | cons t a ih =>
       intro x hx;simp only[WTs]at hx;obtain⟨y,ys,rfl,yy,hy2⟩:=hx;simp only[Qb2,WTs];exact⟨y,_,rfl,yy,ih hy2⟩
     exact this h3.wts
    ·refine⟨v,vs,v.cells.toList,rfl,Cai h3 fun j d' hj=>dt j d' (by rw[Pbi (Ob2.1 hj).1];exact hj),Lal hr (hv 0 t v rfl rfl),?_⟩
     rw[hc1,sa];refine h8 ρ (i+r.length) fun j d' hj=>?_
     rw[Pbm,<- hn2];exact dt _ _ (by rw[Pbk (by omega),Pb1];exact hj)
theorem yB {P:Program}{H:Type}{enc:TypeId×Value->H}(hl:laidOutB P=true){W W':World}(hb:Below W.heap.size W W'):∀ {ts:List TypeId} {vs:List Value} {ds:List (DataW H)} {ps:List MemPlace},(ts.all fun t=>P.readableRec t&&decide (t<P.types.size))=true ->
  DataW.TrodAll enc P W 0 (fun _=>true) true ts vs ds ps->DataW.TrodAll enc P W' 0 (fun b=>decide (b<W.heap.size)) true ts vs ds ps
 |[],[],[],ps,_,h=>h
 |[],[],_::_,ps,_,h=>h.elim
 |[],_::_,_,ps,_,h=>h.elim
 |_::_,[],_,ps,_,h=>h.elim
 |_::_,_::_,[],ps,_,h=>h.elim
 | t :: ts, v :: vs, d :: ds, ps, hr, h => by
  simp only[List.all_cons,Obz,decide_eq_true_eq]at hr;obtain⟨p,q,h1,h2,rfl⟩:=h;refine⟨p,q,Below.trod hl hr.1.1 hr.1.2 h1 hb ?_,yB hl hb hr.2 h2,rfl⟩;obtain⟨m,hm⟩:=h1;exact DataW.trod_lt m _ _ _ hm
theorem Ra4 {P : Program} {X : (Nat -> Ow) -> World -> Prop} {T : Nat -> Ent} {key : Nat} {s : Sig} {fn : Func} {c : Code} (hc : ∀ n, Aau P X T n key s) (hfn : P.funcs[s.fn]? = some fn) (hname : (fn.name == "runtime.NumGoroutine") = false) (hbody : fn.body = some c)
  {fY:List Ty} (mC:mV P fn.params.toList=some (s.params,fY)) (fv:s.boxes=[]) (iu:s.results=[(false,[.sc])]) (hpure:∀ ds,WTs fY ds->∃ n,jE T n key ds=some [.bool true])
  {H:Type} {enc:TypeId×Value->H} {W:World} {base:Nat} {args:Array Value} {ds:List (DataW H)} {ps:List MemPlace}
  (dt:∀ (j:Nat) t v,fn.params[j]?=some t->args[j]?=some v->Value.okWide P W .any base t v) (ht:DataW.TrodAll enc P W 0 (fun _=>true) true fn.params.toList args.toList ds ps)
  (hw:∀ m∈DataW.weightsEach P fn.params.toList ds,m<=reachBytes) (hX:X (fun _=>.frz) W):Calls P s.fn args W fun e W'=>e=.returned (.bool true)/\Below W.heap.size W W':=by
 obtain⟨dd,h1,h2,h3,h4,h5⟩:=Haq (base:=base) mC ht (fun j t v hj hv=>dt j t v (by simpa using hj) (by simpa using hv)) hw;obtain⟨n,hn⟩:=hpure dd h1
 have ew:War s args.toList W Ibm dd:=by
  refine⟨?_,?_,?_,fun _ _=>rfl,fun b j _ e=>by cases e⟩
  ·rw[fv]
   exact h5 dd 0 fun j d hj=>by simp[aI.val,Pba,hj]
  ·rw[fv];trivial
  ·rw[h2,h3,fv];rfl
 have eI:=hc n args.toList W Ibm dd _ ew hX hn;have e:args.toList.toArray=args:=by simp
 rw[e]at eI
 rcases eI with ⟨-,b7⟩|⟨v,w',hr,-⟩
 ·refine Calls.mono b7 fun en W' he=>?_
  cases en with
  | returned v =>
   obtain⟨G,us,rfl,hF,dq,-⟩:=he;rw[iu]at dq;obtain⟨u,cD,vs,rfl,hl,uv,fL⟩:=dq;simp only[Ha7]at fL;subst fL;simp only[Ob9,if_false]at uv;subst uv;obtain⟨u',us2,e2,jw,-⟩:=hl;obtain⟨rfl,rfl⟩:=Sbd e2;simp only[kJ]at jw
   have hu:u=.bool true:=by
    have:([D.bool true].getD 0 .undef)=D.bool true:=rfl;rw[this]at jw;exact jw.bool_inv
   subst hu;exact⟨rfl,hF.os,hF.tape,hF.output,hF.size,fun k hk=>(hF.keep k hk (.inl rfl)).1⟩
  |panicked c=>exact he.elim
  |outgrown=>exact he.elim
 ·rw[kY hfn hname hbody]at hr
  cases hr
theorem Uau {P : Program} {T : Nat -> Ent} {key : Nat} {s : Sig} {fn : Func} {c : Code} (hc : ∀ n, rH P T n key s) (hfn : P.funcs[s.fn]? = some fn) (hname : (fn.name == "runtime.NumGoroutine") = false) (hbody : fn.body = some c)
  {fY:List Ty} (mC:mV P fn.params.toList=some (s.params,fY)) (fv:s.boxes=[]) (iu:s.results=[(false,[.sc])]) (hpure:∀ ds,WTs fY ds->∃ n,jE T n key ds=some [.bool true])
  {H:Type} {enc:TypeId×Value->H} {W:World} {base:Nat} {args:Array Value} {ds:List (DataW H)} {ps:List MemPlace}
  (dt:∀ (j:Nat) t v,fn.params[j]?=some t->args[j]?=some v->Value.okWide P W .any base t v) (ht:DataW.TrodAll enc P W 0 (fun _=>true) true fn.params.toList args.toList ds ps)
  (hw:∀ m∈DataW.weightsEach P fn.params.toList ds,m<=reachBytes):Calls P s.fn args W fun e W'=>e=.returned (.bool true)/\Below W.heap.size W W' :=
 Ra4 (X:=fun _ _=>True) (fun n vals w G ds gq hp _ h=>hc n vals w G ds gq hp h) hfn hname hbody mC fv iu hpure dt ht hw trivial
open Go.ChangeShapes Go.RowKit in
theorem Ra3 {C : Checked} {spec : ChangeSpec} {T : Nat -> Ent} {key : Nat} {s : Sig} {fn : Func} {c : Code} {conds : List PathCond} (own : ownKnob C.prog.godebug = none) (laid : laidOutB C.prog = true) (hc : ∀ n, rH C.prog T n key s) (hfn : C.prog.funcs[s.fn]? = some fn) (hname : (fn.name == "runtime.NumGoroutine") = false) (hbody : fn.body = some c)
  {fY:List Ty} (mC:mV C.prog fn.params.toList=some (s.params,fY)) (fv:s.boxes=[]) (iu:s.results=[(false,[.sc])]) (hpure:∀ ds,WTs fY ds->∃ n,jE T n key ds=some [.bool true])
  (zw:(fn.params.toList.all fun t=>C.prog.readableRec t&&decide (t<C.prog.types.size))=true) {rt:TypeId} (mT:fn.resultTypes=#[rt]) (hrb:C.prog.underlying rt=some .bool)
  (sd:spec.vars=[]) (a0b:∀ (H:Type) (ds:List (DataW H)),ds.length=fn.params.size->spec.fn H ds={ results:=[.lit (.bool true)],args:=ds,vars:=[] }) (zt:C.prog.inits.idxOf? s.fn=none)
  (os:Os) (started:os.Started) (H:Type) (enc:TypeId×Value->H)
  (witness:∃ (w:World) (tape:Tape) (i:Input),w.os=os/\(w.forCall tape i).Shaped C.prog/\i.vars=[]/\Input.okWide C.prog (w.forCall tape i) .any w.heap.size s.fn i /\
   spec.pre6 enc C.prog fn conds false (w.forCall tape i).memory i.args/\({}:Assume).holds C.prog (lone (Frame.enter C.prog s.fn i.args .normal) [] (w.forCall tape i))) :
  ReturnsInHanded {} C os s.fn .any (spec.pre6 enc C.prog fn conds false) (spec.post enc C.prog fn false true false false):=by
 refine returnsInHanded_of_change_sized own started zt hfn witness ?_;intro W base args ds gs before dt hW _ dm _;have hW':=hW;obtain⟨p,q,hA,hV,rfl,lB,y9⟩:=hW;rw[sd]at hV;obtain⟨rfl,rfl⟩:=trodVars_none hV
 have hvt:spec.plain.varTypes C.prog=[]:=by
  simp[ChangeSpec.plain,DataSpec.varTypes,sd]
 rw[hvt,Pbz,Pbz]at dm
 have hlen:∀ {ts:List TypeId} {vs:List Value} {ds:List (DataW H)} {ps:List MemPlace},DataW.TrodAll enc C.prog W 0 (fun _=>true) true ts vs ds ps->ds.length=ts.length:=by
  intro ts
  induction ts with
  | nil =>
   intro vs ds ps h;cases vs<;>cases ds<;>first|rfl|exact h.elim
  | cons t ts ih =>
   intro vs ds ps h;cases vs<;>cases ds<;>first|exact h.elim|skip
   obtain⟨p,q,-,h2,-⟩:=h;simp[ih h2]
 have hl:=hlen hA;refine (Uau hc hfn hname hbody mC fv iu hpure dt hA (fun m hm=>?_)).mono fun e W' ⟨he,bel⟩=>?_
 ·rw[Pbv]at dm
  simpa using dm m hm
 ·subst he
  have iq:=a0b H (ds++[]) (by simpa using hl);refine⟨_,rfl,ds,[],_,[],p,[],hW',?_,?_,?_,bel.frame _,fun h=>by cases h⟩
  ·rw[iq,mT]
   exact trodAll_mk1 (shut_bool hrb _)
  ·rw[iq]
   simp only[Pbz];exact yB laid bel zw hA
  ·rw[iq,sd]
   rfl
end Go.Proofs.YtcbkmmhkccnamaaGreat.Rf
namespace Go.Proofs.YtcbkmmhkccnamaaGreat.Rf
def sF:List (Nat×TI)->Nat->Option TI
 |[],_=>none
 |(k,i)::r,t=>bif Nat.beq k t then some i else sF r t
theorem Oa9 {P:Program}:∀ {l:List (Nat×TI)},(∀ p∈l,rM P p.1=some p.2)->sM P (sF l)
 |[],_=>⟨fun t i h=>by cases h⟩
 | (k, i) :: r, h => ⟨fun t j ht => by
  simp only[sF]at ht
  cases hb:Nat.beq k t with
  | true =>
   rw[hb,cond_true]at ht;simp only[Pbq]at hb;subst hb;rw[<- ht];exact h (k,i) Pbf
  | false =>
   rw[hb,cond_false]at ht;exact (Oa9 fun p hp=>h p (Pbb _ hp)).ok t j ht⟩
def Mao:List (Nat×Ent)->Nat->Ent
 |[],_=>.none
 |(k,e)::r,t=>bif Nat.beq k t then e else Mao r t
theorem Qaj {P:Program}{T:Nat->Ent}{ti:Nat->Option TI}{sigs:List (Nat×Sig)}(h:∀ p∈sigs,Sa6 P T ti sigs p.1 p.2):∀ key s,(key,s)∈sigs->Sa6 P T ti sigs key s:=fun key s hm=>h (key,s) hm
theorem Vaf {P : Program} {T : Nat -> Ent} {E : Env} {key : Nat} {s : Sig} {fn : Func} {tm : Tm Unit} (h1 : P.funcs[s.fn]? = some fn) (h2 : (fn.name == "runtime.NumGoroutine") = false) (h3 : Rac E s fn = some tm) (h4 : T key = .tm tm) : Sa6 P T E.ti E.sigs key s :=
 .inl ⟨E,fn,tm,rfl,rfl,h1,h2,h3,h4⟩
theorem fnK {P : Program} {T : Nat -> Ent} {E : Env} {key : Nat} {s : Sig} {fn : Func} {tm : Tm Unit} (h1 : P.funcs[s.fn]? = some fn) (h : (fn.name == "runtime.NumGoroutine", Rac E s fn, T key) = (false, some tm, .tm tm)) : Sa6 P T E.ti E.sigs key s :=
 Vaf h1 (congrArg (·.1) h) (congrArg (·.2.1) h) (congrArg (·.2.2) h)
theorem fc {α:Type}{p:α->Prop}{a:α}{l:List α}(h:p a)(h':∀ x∈l,p x):∀ x∈a::l,p x:=List.forall_mem_cons.2 ⟨h,h'⟩
theorem fc0 {α:Type}{p:α->Prop}:∀ x∈([]:List α),p x:=List.forall_mem_nil _
theorem Bbg {T:Nat->Ent}{key:Nat}{ds r:List D}(h:Fun T key ds=some r):∃ n,jE T n key ds=some r:=Dap.1 h
def apL (e d:Nat):Nat->List Nat
 |0=>[]
 |n+1=>(e-d*(n+1))::apL e d n
abbrev i64 (n:Int):D:=.int .i64 n
theorem wrap_i64 {n:Int}(h1:-9223372036854775808<=n)(h2:n<=9223372036854775807):IntKind.i64.wrap n=n:=IntWalk.i64_in n ⟨h1,h2⟩
section
variable {T:Nat->Ent} {β:Type}
end
theorem Ab6 {a b:Int}:(aY.bin .lss).run [i64 a,i64 b]=some [.bool (decide (a<b))]:=by simp[aY.run,Ma8,zU]
theorem Ab8 {a b:Int}:(aY.bin .gtr).run [i64 a,i64 b]=some [.bool (decide (a>b))]:=by simp[aY.run,Ma8,zU]
theorem Ab7 {a b:Int}:(aY.bin .leq).run [i64 a,i64 b]=some [.bool (decide (a<=b))]:=by simp[aY.run,Ma8,zU]
theorem Ab9 {a b:Int}:(aY.bin .geq).run [i64 a,i64 b]=some [.bool (decide (a ≥ b))]:=by simp[aY.run,Ma8,zU]
theorem Ab5 {a b:Int}:(aY.bin .neq).run [i64 a,i64 b]=some [.bool (!(a==b))]:=by simp[aY.run,Ma8,zU,bne]
theorem Bba {a b:Int}:(aY.bin .eql).run [i64 a,i64 b]=some [.bool (a==b)]:=by simp[aY.run,Ma8,zU]
theorem Bbd {a b:Int}(h1:-9223372036854775808<=a+b)(h2:a+b<=9223372036854775807):(aY.bin .add).run [i64 a,i64 b]=some [i64 (a+b)]:=by simp[aY.run,Ma8,zU,wrap_i64 h1 h2]
theorem Ab3 {a b:Int}(h1:-9223372036854775808<=a-b)(h2:a-b<=9223372036854775807):(aY.bin .sub).run [i64 a,i64 b]=some [i64 (a-b)]:=by simp[aY.run,Ma8,zU,wrap_i64 h1 h2]
theorem Ab4 {b:Bool}:aY.not.run [.bool b]=some [.bool (!b)]:=rfl
theorem Bbb {a b:Bool}:(aY.eqb true).run [.bool a,.bool b]=some [.bool (!(a==b))]:=rfl
section
variable {T:Nat->Ent}
end
def upto {α:Type}(z:α)(ys:List α)(i:Nat):List α:=ys.take i++Pbp (ys.length-i) z
theorem Sa8 {α:Type}(z:α)(ys:List α):upto z ys 0=Pbp ys.length z:=by simp[upto]
theorem Wa0 {α:Type}(z:α)(ys:List α):upto z ys ys.length=ys:=by simp[upto]
theorem Waz {α:Type}(z:α)(ys:List α){i:Nat}(h:i<=ys.length):(upto z ys i).length=ys.length:=by simp[upto];omega
theorem Wax {α:Type}(z:α)(ys:List α){i:Nat}{y:α}(h:ys[i]?=some y):(upto z ys i).set i y=upto z ys (i+1):=by
 have aq:=(Ob2.1 h).1;apply List.ext_getElem?;intro j;rw[List.getElem?_set];unfold upto;rw[Pbg,Qbs,Qbv];by_cases e:i=j
 ·subst e
  rw[if_pos rfl,if_pos (by omega),Pbi (by simp;omega),Qbd,if_pos (by omega)];exact h.symm
 ·rw[if_neg e]
  rcases Pbo j i with hj|hj
  ·rw[Pbi (by simp;omega),Pbi (by simp;omega),Qbd,Qbd,if_pos hj,if_pos (by omega)]
  ·rw[Pbk (by simp;omega),Pbk (by simp;omega),Rbq,Rbq]
   simp only[Qbs];by_cases h2:j<ys.length
   ·rw[if_pos (by omega),if_pos (by omega)]
   ·rw[if_neg (by omega),if_neg (by omega)]
section
variable {T:Nat->Ent} {β:Type}
noncomputable def Er (T:Nat->Ent)(t:Tm β)(ρ:List D):Option (Kind×List D):=(Ev T t ρ).map fun o=>(o.kind,o.vals)
def Mbm (r:Kind×List D):Option (List D):=if r.1=.ret then some r.2 else none
def Mbq {α:Type}(d:D)(a b:Option α):Option α:=match d with
 |.bool true=>a
 |.bool false=>b
 |_=>none
def gdR (d:D)(w:Bool):Bool:=match d with
 |.bool b=>b==w
 |_=>false
theorem Jbv {f:Nat}{t:Tm Unit}(h:T f=.tm t)(args:List D):Fun T f args=(Er T t args).bind Mbm:=by
 rw[Fbk h,Er];cases Ev T t args<;>rfl
theorem Cbx (k:Kind)(xs:List aI)(e:β)(ρ:List D):Er T (.leaf k xs e) ρ=some (k,xs.map (·.val ρ)):=by
 rw[Er,Cbu];rfl
noncomputable def stepT (T:Nat->Ent)(k:Tm β)(ρ:List D)(n:Nat)(a:Option (List D)):Option (Kind×List D):=a.bind fun ds=>if ds.length=n then Er T k (ρ++ds) else none
noncomputable def Jbh (T:Nat->Ent)(t e:Tm β)(ρ:List D)(c:D):Option (Kind×List D):=Mbq c (Er T t ρ) (Er T e ρ)
noncomputable def ltT (T:Nat->Ent)(p:aY)(xs:List aI)(n:Nat)(k:Tm β)(ρ:List D)(w:Bool)(c:D):Option (Kind×List D) :=
 if gdR c w=true then stepT T k ρ n (p.run (xs.map (·.val ρ))) else Er T k (ρ++Pbp n .undef)
noncomputable def Cbf (T:Nat->Ent)(f:Nat)(xs:List aI)(n:Nat)(os:List aI)(k:Tm β)(ρ:List D)(w:Bool)(c:D):Option (Kind×List D) :=
 if gdR c w=true then stepT T k ρ n (Fun T f (xs.map (·.val ρ))) else Er T k (ρ++(Pbp (n-os.length) .undef++os.map (·.val ρ)))
theorem Fbr (p:aY)(xs:List aI)(n:Nat)(k:Tm β)(ρ:List D):Er T (.lt none p xs n k) ρ=stepT T k ρ n (p.run (xs.map (·.val ρ))):=by
 rw[Er,Fbo,stepT];simp only[gOn,if_true]
 cases p.run (xs.map (·.val ρ)) with
 |none=>rfl
 | some ds =>
  simp only[Ob6];split<;>rfl
theorem Fbq (a:aI)(w:Bool)(p:aY)(xs:List aI)(n:Nat)(k:Tm β)(ρ:List D):Er T (.lt (some (a,w)) p xs n k) ρ=ltT T p xs n k ρ w (a.val ρ):=by
 rw[Er,Fbo,ltT,stepT];have:gOn ρ (some (a,w))=gdR (a.val ρ) w:=rfl;rw[this]
 cases gdR (a.val ρ) w with
 |false=>rfl
 | true =>
  simp only[if_true]
  cases p.run (xs.map (·.val ρ)) with
  |none=>rfl
  | some ds =>
   simp only[Ob6];split<;>rfl
theorem Za2 (f:Nat)(xs:List aI)(n:Nat)(os:List aI)(k:Tm β)(ρ:List D):Er T (.call none f xs n os k) ρ=stepT T k ρ n (Fun T f (xs.map (·.val ρ))):=by
 rw[Er,Wap,stepT];simp only[gOn,if_true]
 cases Fun T f (xs.map (·.val ρ)) with
 |none=>rfl
 | some ds =>
  simp only[Ob6];split<;>rfl
theorem Za1 (a:aI)(w:Bool)(f:Nat)(xs:List aI)(n:Nat)(os:List aI)(k:Tm β)(ρ:List D):Er T (.call (some (a,w)) f xs n os k) ρ=Cbf T f xs n os k ρ w (a.val ρ):=by
 rw[Er,Wap,Cbf,stepT];have:gOn ρ (some (a,w))=gdR (a.val ρ) w:=rfl;rw[this]
 cases gdR (a.val ρ) w with
 |false=>rfl
 | true =>
  simp only[if_true]
  cases Fun T f (xs.map (·.val ρ)) with
  |none=>rfl
  | some ds =>
   simp only[Ob6];split<;>rfl
theorem Fbs (c:aI)(t e:Tm β)(ρ:List D):Er T (.ite c t e) ρ=Jbh T t e ρ (c.val ρ):=by
 rw[Er,Fbp,Jbh]
 cases c.val ρ with
 |bool b=>cases b<;>rfl
 |_=>rfl
noncomputable def lQ (T:Nat->Ent)(i:Nat)(k:Tm β)(ρ:List D)(r:Option (Kind×List D)):Option (Kind×List D):=r.bind fun r=>if r.1=.yield i then Er T k (ρ++r.2) else some r
theorem Qa2 {i:Nat}{k:Tm β}{ρ ds:List D}:lQ T i k ρ (some (.yield i,ds))=Er T k (ρ++ds):=by simp[lQ]
theorem Tae {i:Nat}{k:Tm β}{ρ ds:List D}:lQ T i k ρ (some (.ret,ds))=some (.ret,ds):=by simp[lQ]
theorem Qa4 {i:Nat}{k:Tm β}{ρ ds:List D}:lQ T i k ρ (some (.cont,ds))=some (.cont,ds):=by simp[lQ]
theorem Xa3 {i j:Nat}{k:Tm β}{ρ ds:List D}(h:j≠i):lQ T i k ρ (some (.yield j,ds))=some (.yield j,ds):=by simp[lQ,h]
theorem Cby (i:Nat)(t k:Tm β)(ρ:List D):Er T (.bind i t k) ρ=lQ T i k ρ (Er T t ρ):=by
 rw[Er,Cbw,lQ,Er]
 cases Ev T t ρ with
 |none=>rfl
 | some o =>
  simp only[Ob6,Pb6];split<;>rfl
theorem Za9 {t:Tm β}{ρ:List D}{k:Kind}{ds:List D}(h:Er T t ρ=some (k,ds)):∃ o,Ev T t ρ=some o/\o.kind=k/\o.vals=ds:=by
 unfold Er at h
 cases e:Ev T t ρ with
 |none=>rw[e]at h;cases h
 | some o =>
  rw[e,Pb6]at h;have:=Pbu h;exact⟨o,rfl,congrArg Prod.fst this,congrArg Prod.snd this⟩
theorem Oah {γ:Type}{body:Tm β}{ρ:List D}(m:γ->Nat)(inv:γ->Prop)(vs:γ->List D)(Q:Kind×List D->Prop)
  (h:∀ c,inv c->∃ r,Er T body (ρ++vs c)=some r/\(r.1=.cont/\(∃ c',inv c'/\m c'<m c/\r.2=vs c')\/r.1≠.cont/\Q r)) :
  ∀ (n:Nat) c,m c<=n->inv c->∀ xs:List aI,xs.map (·.val ρ)=vs c->∃ r,Er T (.loop xs body) ρ=some r/\Q r:=by
 have key:∀ (n:Nat) c,m c<=n->inv c->∃ o,Lp T body ρ (vs c)=some o/\Q (o.kind,o.vals):=by
  intro n
  induction n with
  | zero =>
   intro c hm hc;obtain⟨⟨k,ds⟩,h1,h2⟩:=h c hc;obtain⟨o,h3,rfl,rfl⟩:=Za9 h1
   rcases h2 with ⟨-,c',-,h5,-⟩|⟨h4,h5⟩
   ·omega
   ·exact⟨o,by rw[Cbq,h3,Ob6,if_neg h4],h5⟩
  | succ n ih =>
   intro c hm hc;obtain⟨⟨k,ds⟩,h1,h2⟩:=h c hc;obtain⟨o,h3,rfl,rfl⟩:=Za9 h1
   rcases h2 with ⟨h4,c',h5,h6,h7⟩|⟨h4,h5⟩
   ·obtain⟨o',h8,h9⟩:=ih c' (by omega) h5
    refine⟨o',?_,h9⟩;rw[Cbq,h3,Ob6,if_pos h4];show Lp T body ρ o.vals=_
    rw[show o.vals=vs c' from h7,h8]
   ·exact⟨o,by rw[Cbq,h3,Ob6,if_neg h4],h5⟩
 intro n c hm hc xs hx;obtain⟨o,h1,h2⟩:=key n c hm hc;exact⟨_,by rw[Er,Cbt,hx,h1,Pb6],h2⟩
end
def sK (ok:Nat->Bool):Nat->Bool
 |0=>true
 |n+1=>sK ok n&&ok n
theorem jH {ok:Nat->Bool}:∀ {n:Nat},sK ok n=true↔∀ i,i<n->ok i=true
 |0=>by simp[sK]
 | n + 1 => by
  simp only[sK,Obz,jH (n:=n)];constructor
  ·rintro⟨h1,h2⟩ i hi
   rcases Pbo i n with h|h
   ·exact h1 i h
   ·obtain rfl:i=n:=by omega
    exact h2
  ·exact fun h=>⟨fun i hi=>h i (by omega),h n (by omega)⟩
theorem Bar {ok:Nat->Bool}{n:Nat}:sK ok n=false↔∃ i,i<n/\ok i=false:=by
 constructor
 ·intro h
  apply Classical.byContradiction;intro hn
  have:sK ok n=true:=jH.2 fun i hi=>by
   cases e:ok i with
   |true=>rfl
   |false=>exact absurd ⟨i,hi,e⟩ hn
  rw[this]at h;cases h
 ·rintro⟨i,hi,h⟩
  cases e:sK ok n with
  |false=>rfl
  |true=>rw[jH.1 e i hi]at h;cases h
theorem Qat {p q:Nat->Bool}:∀ {n:Nat},sK (fun i=>p i&&q i) n=(sK p n&&sK q n)
 |0=>rfl
 | n + 1 => by
  simp only[sK,Qat (n:=n)];cases sK p n<;>cases sK q n<;>cases p n<;>cases q n<;>rfl
theorem Ha5 {p q:Nat->Bool}:∀ {n:Nat},(∀ i,i<n->p i=q i)->sK p n=sK q n
 |0,_=>rfl
 |n+1,h=>by simp only[sK,Ha5 (n:=n) fun i hi=>h i (by omega),h n (by omega)]
section
variable {T:Nat->Ent} {β:Type}
end
theorem Ebp {d:D}:aY.id.run [d]=some [d]:=rfl
def inR (x lo hi:Int):Bool:=decide (lo<=x)&&decide (x<=hi)
end Go.Proofs.YtcbkmmhkccnamaaGreat.Rf
