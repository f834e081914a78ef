/- Terms for oe program's functions, and j9 they are right: part 6 of 9. -/
import Derived.Test.YtpgnlmfmlffjcaaGreatRf5
open Bool renaming and_eq_true → Qb1, false_eq_true → Qb4, not_eq_true' → Rbp, or_eq_true → Sbe
open List renaming mem_append_left → Qb2, getElem?_eq_getElem → Qb3, mem_append_right → Qb5, getD_eq_getElem?_getD → Qb8, getElem?_cons_zero → Qb9, append_assoc → Rba, mem_singleton → Rbb, mem_cons_of_mem → Rbd, length_cons → Rbe, length_map → Rbh, mem_of_getElem? → Rbi, mem_cons_self → Rbj, length_nil → Rbk, getElem?_append_right → Rbl, getElem?_map → Rbr, append_nil → Rbs, map_cons → Rbt, all_eq_true → Rbu, map_nil → Rbz, mem_cons → Rb2, getElem?_drop → Rb3, getElem?_cons_succ → Rb7, nil_append → Sba, mem_map_of_mem → Sbh, getElem?_set → Sb0, any_eq_false → Tbv
open Nat renaming le_refl → Rbg, add_assoc → Rbn, lt_or_ge → Rbo, beq_eq → Rbv, add_zero → Rbx, zero_add → Rby, add_sub_cancel_left → Rb1, blt_eq → Rb4, ble_eq → Sbb, zero_le → Sbq
open Option renaming bind_eq_some_iff → Qb0, bind_some → Qb7, map_some → Rb9, getD_some → Sbv
set_option linter.unusedSimpArgs false
set_option linter.unusedVariables false
set_option linter.unnecessarySimpa false
set_option linter.unusedSectionVars false
namespace Go.Proofs.YtpgnlmfmlffjcaaGreat.Rf
def LS.cnt:LS->Nat
 |.px _=>0
 |.clo _ _=>0
 |_=>1
def LS.rcnt:LS->Nat
 |.mu _=>1
 |.ow _=>1
 |_=>0
def Va5:List LS->Nat
 |[]=>0
 |s::ss=>s.cnt+Va5 ss
def jG:List LS->Nat
 |[]=>0
 |s::ss=>s.rcnt+jG ss
def Kad:List (Bool×List LS)->Nat
 |[]=>0
 |(_,ss)::ps=>Va5 ss+Kad ps
def iP:List (Bool×List LS)->Nat
 |[]=>0
 |(_,ss)::ps=>jG ss+iP ps
def BS.cnt:BS->Nat
 |.ot=>0
 |_=>1
def BS.rcnt:BS->Nat
 |.ow _=>1
 |_=>0
def Za4:List (BS×BO)->Nat
 |[]=>0
 |(s,_)::ss=>s.cnt+Za4 ss
def vG:List (BS×BO)->Nat
 |[]=>0
 |(s,_)::ss=>s.rcnt+vG ss
def Za5:List (Bool×List (BS×BO))->Nat
 |[]=>0
 |(_,cs)::bs=>Za4 cs+Za5 bs
def vH:List (Bool×List (BS×BO))->Nat
 |[]=>0
 |(_,cs)::bs=>vG cs+vH bs
section
variable (G:Gh) (w:World) (ρ:List D) (nbx:Nat)
def Zau (ok:Nat->Prop)(w:World)(v:Value)(d:D):Prop :=
 (v=.pointer none/\∃ z,d=.rows z [])\/∃ a row,v=.pointer (some a)/\d=.rows row.length [row]/\Rd ok w (.slice (some a) 1 1) (.rows row.length [row])
def wS:List LS->List Value->Prop
 |[],vs=>vs=[]
 |c::cs,vs=>∃ u us,vs=u::us/\(match c with | .px b=>u=.pointer (some (G.bx b))/\b<nbx | _=>u.oneCell'=true)/\wS cs us
def jV (i nr:Nat):LS->Value->Prop
 |.sc,v=>Sc v ((aI.v i).val ρ)
 |.fz nie,v=>Rd (fun b=>G.own b=.frz) w v ((aI.v i).val ρ)/\(nie=true->∀ z,(aI.v i).val ρ=.rows z []->v=.slice none 0 0)
 |.mu m,v=>v=G.hdr nr/\Rp G.own w nr [] m v ((aI.v i).val ρ)
 |.ow m,v=>v=G.hdr nr/\Rp G.own w nr [] m v ((aI.v i).val ρ)
 |.px b,v=>v=.pointer (some (G.bx b))/\b<nbx
 |.clo f cs,v=>∃ vs,v=.func (.func f) #[] vs.toArray/\wS G nbx cs vs
 |.rp _,v=>v.oneCell'=true/\Zau (fun b=>G.own b=.frz) w v ((aI.v i).val ρ)
def rF:Nat->Nat->List LS->List Value->Prop
 |_,_,[],vs=>vs=[]
 |i,nr,s::ss,vs=>∃ u us,vs=u::us/\jV G w ρ nbx i nr s u/\rF (i+s.cnt) (nr+s.rcnt) ss us
def jO:Nat->Nat->List (Bool×List LS)->List Value->Prop
 |_,_,[],us=>us=[]
 |i,nr,(a,ss)::ps,us=>∃ u bn vs,us=u::bn/\rF G w ρ nbx i nr ss vs/\(if a=true then u=.agg vs.toArray else vs=[u])/\jO (i+Va5 ss) (nr+jG ss) ps bn
def wR (i nr:Nat):BS->Value->Prop
 |.sc,v=>Sc v ((aI.v i).val ρ)
 |.fz nie,v=>Rd (fun b=>G.own b=.frz) w v ((aI.v i).val ρ)/\(nie=true->∀ z,(aI.v i).val ρ=.rows z []->v=.slice none 0 0)
 |.ow m,v=>v=G.hdr nr/\Rp G.own w nr [] m v ((aI.v i).val ρ)
 |.ot,v=>v.oneCell'=true
def Fao (ad:Addr):Nat->Nat->Nat->List (BS×BO)->Prop
 |_,_,_,[]=>True
 |off,i,nr,(s,_)::ss=>(∃ v,w.cell? (ad.add off)=some v/\w.frozen? (ad.add off)=false/\wR G w ρ i nr s v)/\Fao ad (off+1) (i+s.cnt) (nr+s.rcnt) ss
def Fap:Nat->Nat->Nat->List (Bool×List (BS×BO))->Prop
 |_,_,_,[]=>True
 |b,i,nr,(ro,cs)::bs=>(G.bx b).spot=none/\G.own (G.bx b).block=(if ro=true then .oth else .box b)/\Fao G w ρ (G.bx b) 0 i nr cs/\Fap (b+1) (i+Za4 cs) (nr+vG cs) bs
end
structure Za2 (s:Sig) (vals:List Value) (w:World) (G:Gh) (ds:List D):Prop where
 params:jO G w ds s.boxes.length 0 0 s.params vals
 boxes:Fap G w ds 0 (Kad s.params) (iP s.params) s.boxes
 len:ds.length=Kad s.params+Za5 s.boxes
 fresh:∀ b,w.heap.size<=b->G.own b=.frz
 cells:∀ b j,b<w.heap.size->G.own b=.box j->j<s.boxes.length/\∃ c e fr,w.heap[b]?=some (.cells c e fr)
def Hae (s:Sig)(G:Gh):List Value:=(dW 0 (s.params.flatMap (·.2))).map G.hdr++(range 0 s.boxes.length).map fun b=>Value.pointer (some (G.bx b))
def nY (s:Sig)(G:Gh)(w:World):bE :=
 ⟨w,G.own,fun j=>(Hae s G).getD j undef,fun b=>((G.bx b).off,(G.bx b).off+(s.boxes.getD b (true,[])).2.length)⟩
theorem Pae {i nr:Nat}(s:LS):∃ l u,gZ i nr s=(l,u,i+s.cnt,nr+s.rcnt)/\∀ k c,(k,c)∈u->∃ m,s.rcnt=1/\k=kR nr/\c=.root (.v i) m 0 .live/\(s=.mu m\/s=.ow m)/\l=.ex nr:=by
 cases s with
 | mu m =>
  refine⟨_,_,rfl,fun k c h=>?_⟩;simp only[Rbb,Prod.mk.injEq]at h;exact⟨m,rfl,h.1,h.2,.inl rfl,rfl⟩
 | ow m =>
  refine⟨_,_,rfl,fun k c h=>?_⟩;simp only[Rbb,Prod.mk.injEq]at h;exact⟨m,rfl,h.1,h.2,.inr rfl,rfl⟩
 |_=>exact⟨_,_,rfl,by simp⟩
section
variable {G:Gh} {w:World} {ρ:List D} {nbx:Nat} {σ:Nat->Option aP}
theorem Eam (cT:∀ b,b<nbx->(σ (kB b)).isSome):∀ {cs:List LS} {vs:List Value},wS G nbx cs vs->aD σ ρ G w (cs.map fun c=>match c with|.px b=>.px b 0|_=>.dead) vs
 |[],vs,h=>by simpa[wS,aD] using h
 | c :: cs, vs, h => by
  obtain⟨u,us,rfl,h1,h2⟩:=h;simp only[Rbt,aD];refine⟨u,us,rfl,?_,Eam cT h2⟩
  cases c with
  | px b =>
   simp only[aB];exact⟨by rw[h1.1];rfl,cT b h1.2⟩
  |_=>simp only[aB];exact h1
def kZ (σ:Nat->Option aP)(G:Gh)(w:World)(ρ:List D)(u:List (Nat×aP)):Prop:=∀ k c,(k,c)∈u->∃ r m i,k=kR r/\c=.root (.v i) m 0 .live/\Rp G.own w r [] m (G.hdr r) ((aI.v i).val ρ)
theorem Ram (cT:∀ b,b<nbx->(σ (kB b)).isSome){i nr:Nat}{s:LS}{v:Value}(h:jV G w ρ nbx i nr s v)(kd:s.rcnt=1->(σ (kR nr)).isSome) :
  aB σ ρ G w (gZ i nr s).1 v/\kZ σ G w ρ (gZ i nr s).2.1:=by
 cases s with
 |sc=>exact⟨by simpa[gZ,aB,jV] using h,by simp[kZ,gZ]⟩
 | fz nie =>
  refine⟨?_,by simp[kZ,gZ]⟩;simp only[jV]at h;simp only[gZ,aB];exact⟨⟨h.1.one,by simp⟩,fun _=>⟨h.1.mono fun b hb=>⟨.inl hb,rfl⟩,h.2,trivial⟩⟩
 | mu m =>
  simp only[jV]at h;refine⟨?_,?_⟩
  ·simp only[gZ,aB]
   exact⟨h.1,kd rfl,h.2.one⟩
  ·intro k c hc
   simp only[gZ,Rbb,Prod.mk.injEq]at hc;exact⟨nr,m,i,hc.1,hc.2,by rw[<- h.1];exact h.2⟩
 | ow m =>
  simp only[jV]at h;refine⟨?_,?_⟩
  ·simp only[gZ,aB]
   exact⟨h.1,kd rfl,h.2.one⟩
  ·intro k c hc
   simp only[gZ,Rbb,Prod.mk.injEq]at hc;exact⟨nr,m,i,hc.1,hc.2,by rw[<- h.1];exact h.2⟩
 | px b =>
  refine⟨?_,by simp[kZ,gZ]⟩;simp only[jV]at h;simp only[gZ,aB];exact⟨by rw[h.1];rfl,cT b h.2⟩
 | clo f cs =>
  refine⟨?_,by simp[kZ,gZ]⟩;simp only[jV]at h;obtain⟨vs,h1,h2⟩:=h;simp only[gZ,aB];exact⟨vs,h1,Eam cT h2⟩
 | rp z =>
  refine⟨?_,by simp[kZ,gZ]⟩;simp only[jV]at h;simp only[gZ,aB];refine⟨⟨h.1,by simp⟩,fun _=>?_⟩
  rcases h.2 with h1|⟨a,row,h1,h2,h3⟩
  ·exact .inl h1
  ·exact .inr ⟨a,row,h1,h2,h3.mono fun b hb=>⟨.inl hb,rfl⟩⟩
theorem kZ.append {u v:List (Nat×aP)}(h:kZ σ G w ρ u)(h':kZ σ G w ρ v):kZ σ G w ρ (u++v):=fun k c hc=>(List.mem_append.1 hc).elim (h k c) (h' k c)
theorem zU:∀ (ss:List LS) (i nr:Nat),(dI i nr ss).2.2=(i+Va5 ss,nr+jG ss)/\(dI i nr ss).1.length=ss.length/\∀ r,nr<=r->r<nr+jG ss->∃ c,(kR r,c)∈(dI i nr ss).2.1
 |[],i,nr=>⟨rfl,rfl,fun r h1 h2=>by simp only[jG]at h2;omega⟩
 | s :: ss, i, nr => by
  obtain⟨l,u,h1,h2⟩:=Pae (i:=i) (nr:=nr) s;obtain⟨h3,h4,h5⟩:=zU ss (i+s.cnt) (nr+s.rcnt);simp only[dI,h1];refine⟨h3.trans (by simp only[Va5,jG,Rbn]),by simp[h4],fun r lP lf=>?_⟩;simp only[jG]at lf
  rcases Rbo r (nr+s.rcnt) with h6|h6
  ·have hs:s.rcnt=1:=by cases s<;>simp[LS.rcnt]at h6 ⊢<;>omega
   have:r=nr:=by omega
   subst this;cases s<;>simp[LS.rcnt]at hs
   all_goals
    simp only[gZ,Prod.mk.injEq]at h1;obtain⟨-,rfl,-⟩:=h1;exact⟨_,Qb2 _ (List.mem_singleton.2 rfl)⟩
  ·obtain⟨c,hc⟩:=h5 r h6 (by omega)
   exact⟨c,Qb5 _ hc⟩
theorem Bay (cT:∀ b,b<nbx->(σ (kB b)).isSome):∀ {ss:List LS} {i nr:Nat} {vs:List Value},rF G w ρ nbx i nr ss vs->(∀ r,nr<=r->r<nr+jG ss->(σ (kR r)).isSome) ->
  aD σ ρ G w (dI i nr ss).1 vs/\kZ σ G w ρ (dI i nr ss).2.1
 |[],i,nr,vs,h,_=>⟨by simpa[rF,dI,aD] using h,by simp[kZ,dI]⟩
 | s :: ss, i, nr, vs, h, hr => by
  obtain⟨u,us,rfl,h1,h2⟩:=h;obtain⟨l,up,h3,h4⟩:=Pae (i:=i) (nr:=nr) s;obtain⟨h5,h6⟩:=Ram cT h1 fun e=>hr nr (Rbg _) (by simp only[jG];omega)
  obtain⟨h7,h8⟩:=Bay cT h2 fun r lP lf=>hr r (by omega) (by simp only[jG];omega)
  simp only[dI,h3]at h5 h6 ⊢;exact⟨by simp only[aD];exact⟨u,us,rfl,h5,h7⟩,h6.append h8⟩
theorem sV:∀ (ps:List (Bool×List LS)) (t i nr:Nat),(iT t i nr ps).2=(i+Kad ps,nr+iP ps)/\∀ r,nr<=r->r<nr+iP ps->∃ c,(kR r,c)∈(iT t i nr ps).1
 |[],t,i,nr=>⟨rfl,fun r h1 h2=>by simp only[iP]at h2;omega⟩
 | (a, ss) :: ps, t, i, nr => by
  obtain⟨h1,-,h2⟩:=zU ss i nr;obtain⟨h3,h4⟩:=sV ps (t+1) (i+Va5 ss) (nr+jG ss);have e:dI i nr ss=((dI i nr ss).1,(dI i nr ss).2.1,i+Va5 ss,nr+jG ss):=by rw[<- h1]
  simp only[iT];rw[e];dsimp only;refine⟨h3.trans (by simp only[Kad,iP,Rbn]),fun r lP lf=>?_⟩;simp only[iP]at lf
  rcases Rbo r (nr+jG ss) with h6|h6
  ·obtain⟨c,hc⟩:=h2 r lP h6
   exact⟨c,Rbd _ (Qb2 _ hc)⟩
  ·obtain⟨c,hc⟩:=h4 r h6 (by omega)
   exact⟨c,Rbd _ (Qb5 _ hc)⟩
def Ibr (σ:Nat->Option aP)(G:Gh)(w:World)(ρ:List D)(val:Nat->Option Value)(u:List (Nat×aP)):Prop :=
 ∀ k c,(k,c)∈u->(∃ t v sv,k=kT t/\c=.slot none sv/\val t=some v/\bU σ ρ G w sv v)\/(∃ r m i,k=kR r/\c=.root (.v i) m 0 .live/\Rp G.own w r [] m (G.hdr r) ((aI.v i).val ρ))
theorem Bax (cT:∀ b,b<nbx->(σ (kB b)).isSome):∀ {ps:List (Bool×List LS)} {t i nr:Nat} {us:List Value},jO G w ρ nbx i nr ps us->(∀ r,nr<=r->r<nr+iP ps->(σ (kR r)).isSome) ->
  us.length=ps.length/\Ibr σ G w ρ (fun j=>if t<=j then us[j-t]? else none) (iT t i nr ps).1
 | [], t, i, nr, us, h, _ => by
  simp only[jO]at h;subst h;exact⟨rfl,by simp[Ibr,iT]⟩
 | (a, ss) :: ps, t, i, nr, us, h, hr => by
  obtain⟨u,bn,vs,rfl,h1,h2,h3⟩:=h;obtain⟨h4,h5,-⟩:=zU ss i nr;obtain⟨h6,h7⟩:=Bay cT h1 fun r lP lf=>hr r lP (by simp only[iP];omega)
  obtain⟨h8,h9⟩:=Bax cT (t:=t+1) h3 fun r lP lf=>hr r (by omega) (by simp only[iP];omega)
  have e:dI i nr ss=((dI i nr ss).1,(dI i nr ss).2.1,i+Va5 ss,nr+jG ss):=by rw[<- h4]
  simp only[iT];rw[e];dsimp only;refine⟨by simp[h8],fun k c hc=>?_⟩
  rcases List.mem_cons.1 hc with hc|hc
  ·obtain⟨rfl,rfl⟩:=Prod.mk.inj hc
   refine .inl ⟨t,u,_,rfl,rfl,by simp,?_⟩
   cases df:Sap a (dI i nr ss).1 with
   |none=>trivial
   |some sv=>exact rM df h6 h2
  ·rcases List.mem_append.1 hc with hc|hc
   ·exact .inr (h7 k c hc)
   ·rcases h9 k c hc with ⟨t',v,sv,e1,e2,e3,e4⟩|bo
    ·refine .inl ⟨t',v,sv,e1,e2,?_,e4⟩
     dsimp only at e3 ⊢;split at e3
     ·rename_i hle
      rw[if_pos (by omega)];rw[show t'-t=(t'-(t+1))+1 by omega];exact e3
     ·cases e3
    ·exact .inr bo
theorem Ran {i nr:Nat}{s:BS}{v:Value}(h:wR G w ρ i nr s v)(kd:s.rcnt=1->(σ (kR nr)).isSome) :
  aB σ ρ G w (fT i nr s).1 v/\kZ σ G w ρ (fT i nr s).2.1/\(fT i nr s).2.2=(i+s.cnt,nr+s.rcnt)/\(s.rcnt=1->∃ c,(kR nr,c)∈(fT i nr s).2.1):=by
 cases s with
 |sc=>exact⟨by simpa[fT,aB,wR] using h,by simp[kZ,fT],rfl,fun e=>by cases e⟩
 | fz nie =>
  refine⟨?_,by simp[kZ,fT],rfl,fun e=>by cases e⟩;simp only[wR]at h;simp only[fT,aB];exact⟨⟨h.1.one,by simp⟩,fun _=>⟨h.1.mono fun b hb=>⟨.inl hb,rfl⟩,h.2,trivial⟩⟩
 | ow m =>
  simp only[wR]at h;refine⟨?_,?_,rfl,fun _=>⟨_,List.mem_singleton.2 rfl⟩⟩
  ·simp only[fT,aB]
   exact⟨h.1,kd rfl,h.2.one⟩
  ·intro k c hc
   simp only[fT,Rbb,Prod.mk.injEq]at hc;exact⟨nr,m,i,hc.1,hc.2,by rw[<- h.1];exact h.2⟩
 |ot=>exact⟨by simpa[fT,aB,wR] using h,by simp[kZ,fT],rfl,fun e=>by cases e⟩
theorem Yav {i nr:Nat}(s:BS):(fT i nr s).2.2=(i+s.cnt,nr+s.rcnt)/\(s.rcnt=1->∃ c,(kR nr,c)∈(fT i nr s).2.1):=by
 cases s<;>refine⟨rfl,fun e=>?_⟩<;>first|cases e|skip
 exact⟨_,List.mem_singleton.2 rfl⟩
theorem Dac:∀ (ss:List (BS×BO)) (i nr:Nat),(fO i nr ss).2.2=(i+Za4 ss,nr+vG ss)/\(fO i nr ss).1.length=ss.length/\∀ r,nr<=r->r<nr+vG ss->∃ c,(kR r,c)∈(fO i nr ss).2.1
 |[],i,nr=>⟨rfl,rfl,fun r h1 h2=>by simp only[vG]at h2;omega⟩
 | (s, o) :: ss, i, nr => by
  obtain⟨h1,h2⟩:=Yav (i:=i) (nr:=nr) s;obtain⟨h3,h4,h5⟩:=Dac ss (i+s.cnt) (nr+s.rcnt);have e:fT i nr s=((fT i nr s).1,(fT i nr s).2.1,i+s.cnt,nr+s.rcnt):=by rw[<- h1]
  simp only[fO];rw[e];dsimp only;refine⟨h3.trans (by simp only[Za4,vG,Rbn]),by simp[h4],fun r lP lf=>?_⟩;simp only[vG]at lf
  rcases Rbo r (nr+s.rcnt) with h6|h6
  ·have hs:s.rcnt=1:=by cases s<;>simp[BS.rcnt]at h6 ⊢<;>omega
   have:r=nr:=by omega
   subst this;obtain⟨c,hc⟩:=h2 hs;exact⟨c,Qb2 _ hc⟩
  ·obtain⟨c,hc⟩:=h5 r h6 (by omega)
   exact⟨c,Qb5 _ hc⟩
theorem Eah {ad:Addr}:∀ {ss:List (BS×BO)} {off i nr:Nat},Fao G w ρ ad off i nr ss->(∀ r,nr<=r->r<nr+vG ss->(σ (kR r)).isSome) ->
  (∀ j l,(fO i nr ss).1[j]?=some l->∃ v,w.cell? (ad.add (off+j))=some v/\w.frozen? (ad.add (off+j))=false/\aB σ ρ G w l v)/\kZ σ G w ρ (fO i nr ss).2.1
 |[],off,i,nr,_,_=>⟨by simp[fO],by simp[kZ,fO]⟩
 | (s, o) :: ss, off, i, nr, h, hr => by
  obtain⟨⟨v,h1,h2,h3⟩,h4⟩:=h;obtain⟨h5,h6,h7,-⟩:=Ran h3 fun e=>hr nr (Rbg _) (by simp only[vG];omega)
  obtain⟨h8,h9⟩:=Eah h4 fun r lP lf=>hr r (by omega) (by simp only[vG];omega)
  have e:fT i nr s=((fT i nr s).1,(fT i nr s).2.1,i+s.cnt,nr+s.rcnt):=by rw[<- h7]
  simp only[fO];rw[e];dsimp only;refine⟨fun j l hj=>?_,h6.append h9⟩
  cases j with
  | zero =>
   simp only[Qb9,Option.some.injEq]at hj;subst hj;exact⟨v,h1,h2,h5⟩
  | succ j =>
   obtain⟨v',bo,b9,cL⟩:=h8 j l (by simpa using hj);rw[show off+(j+1)=off+1+j by omega];exact⟨v',bo,b9,cL⟩
def Ib4 (σ:Nat->Option aP)(G:Gh)(w:World)(ρ:List D)(bs:Nat->Option (Bool×List (BS×BO)))(u:List (Nat×aP)):Prop :=
 ∀ k c,(k,c)∈u->(∃ b ro ls cs,k=kB b/\c=.box ro ls/\bs b=some (ro,cs)/\ls.length=cs.length/\Kam σ ρ G w b ro ls)\/(∃ r m i,k=kR r/\c=.root (.v i) m 0 .live/\Rp G.own w r [] m (G.hdr r) ((aI.v i).val ρ))
theorem xR:∀ (bs:List (Bool×List (BS×BO))) (b i nr:Nat),(jR b i nr bs).2=(i+Za5 bs,nr+vH bs)/\(∀ r,nr<=r->r<nr+vH bs->∃ c,(kR r,c)∈(jR b i nr bs).1)/\∀ j,b<=j->j<b+bs.length->∃ c,(kB j,c)∈(jR b i nr bs).1
 |[],b,i,nr=>⟨rfl,fun r h1 h2=>by simp only[vH]at h2;omega,fun j h1 h2=>by simp only[Rbk]at h2;omega⟩
 | (ro, cs) :: bs, b, i, nr => by
  obtain⟨h1,-,h2⟩:=Dac cs i nr;obtain⟨h3,h4,h5⟩:=xR bs (b+1) (i+Za4 cs) (nr+vG cs);have e:fO i nr cs=((fO i nr cs).1,(fO i nr cs).2.1,i+Za4 cs,nr+vG cs):=by rw[<- h1]
  simp only[jR];rw[e];dsimp only;refine⟨h3.trans (by simp only[Za5,vH,Rbn]),fun r lP lf=>?_,fun j xo fj=>?_⟩
  ·simp only[vH]at lf
   rcases Rbo r (nr+vG cs) with h6|h6
   ·obtain⟨c,hc⟩:=h2 r lP h6
    exact⟨c,Rbd _ (Qb2 _ hc)⟩
   ·obtain⟨c,hc⟩:=h4 r h6 (by omega)
    exact⟨c,Rbd _ (Qb5 _ hc)⟩
  ·simp only[Rbe]at fj
   rcases Rbo j (b+1) with h6|h6
   ·obtain rfl:j=b:=by omega
    exact⟨_,Rbj⟩
   ·obtain⟨c,hc⟩:=h5 j h6 (by omega)
    exact⟨c,Rbd _ (Qb5 _ hc)⟩
theorem Eai:∀ {bs:List (Bool×List (BS×BO))} {b i nr:Nat},Fap G w ρ b i nr bs->(∀ r,nr<=r->r<nr+vH bs->(σ (kR r)).isSome) ->
  Ib4 σ G w ρ (fun j=>if b<=j then bs[j-b]? else none) (jR b i nr bs).1
 |[],b,i,nr,_,_=>by simp[Ib4,jR]
 | (ro, cs) :: bs, b, i, nr, h, hr => by
  obtain⟨h1,h2,h3,h4⟩:=h;obtain⟨h5,h6,-⟩:=Dac cs i nr;obtain⟨h7,h8⟩:=Eah h3 fun r lP lf=>hr r lP (by simp only[vH];omega)
  have h9:=Eai (b:=b+1) h4 fun r lP lf=>hr r (by omega) (by simp only[vH];omega)
  have e:fO i nr cs=((fO i nr cs).1,(fO i nr cs).2.1,i+Za4 cs,nr+vG cs):=by rw[<- h5]
  simp only[jR];rw[e];dsimp only;intro k c hc
  rcases List.mem_cons.1 hc with hc|hc
  ·obtain⟨rfl,rfl⟩:=Prod.mk.inj hc
   refine .inl ⟨b,ro,_,cs,rfl,rfl,by simp,h6,h1,h2,fun j l hj=>?_⟩;have:=h7 j l hj;rwa[Rby]at this
  ·rcases List.mem_append.1 hc with hc|hc
   ·exact .inr (h8 k c hc)
   ·rcases h9 k c hc with ⟨j,gp,ls,ke,e1,e2,e3,e4⟩|bo
    ·refine .inl ⟨j,gp,ls,ke,e1,e2,?_,e4⟩
     dsimp only at e3 ⊢;split at e3
     ·rename_i hle
      rw[if_pos (by omega),show j-b=(j-(b+1))+1 by omega];exact e3
     ·cases e3
    ·exact .inr bo
end
theorem xK:∀ (ss:List LS) (r:Nat),∀ q∈dW r ss,r<=q/\q<r+jG ss
 |[],r,q,h=>by simp[dW]at h
 | s :: ss, r, q, h => by
  cases s with
  | mu m =>
   simp only[dW,Rb2]at h;simp only[jG,LS.rcnt]
   rcases h with rfl|h
   ·omega
   ·have:=xK ss (r+1) q h;omega
  | ow m =>
   simp only[dW]at h;simp only[jG,LS.rcnt];have:=xK ss (r+1) q h;omega
  | _ =>
   simp only[dW]at h;simp only[jG,LS.rcnt];have:=xK ss r q h;omega
theorem Da2:∀ (a b:List LS),jG (a++b)=jG a+jG b
 |[],b=>by simp[jG]
 |s::a,b=>by simp only[List.cons_append,jG,Da2 a b,Rbn]
theorem Jaq:∀ (ps:List (Bool×List LS)),jG (ps.flatMap (·.2))=iP ps
 |[]=>rfl
 |(a,ss)::ps=>by simp only[List.flatMap_cons,Da2,iP,Jaq ps]
theorem sW:∀ (ls:List aO) (t k:Nat) (c:aP),(k,c)∈qU t ls->∃ j l,ls[j]?=some l/\k=kT (t+j)/\c=.slot none (.one l)
 |[],t,k,c,h=>by simp[qU]at h
 | l :: ls, t, k, c, h => by
  simp only[qU,Rb2,Prod.mk.injEq]at h
  rcases h with ⟨rfl,rfl⟩|h
  ·exact⟨0,l,rfl,rfl,rfl⟩
  ·obtain⟨j,l',h1,rfl,rfl⟩:=sW ls (t+1) k c h
   exact⟨j+1,l',by simpa using h1,by rw[show t+(j+1)=t+1+j by omega],rfl⟩
theorem Vad {s:Sig}{G:Gh}{j:Nat}{l:aO}(h:(Oaz s)[j]?=some l) :
  (∃ r,(dW 0 (s.params.flatMap (·.2)))[j]?=some r/\l=.ex r/\(Hae s G).getD j undef=G.hdr r)\/(∃ b,b<s.boxes.length/\l=.px b 0/\(Hae s G).getD j undef=.pointer (some (G.bx b))):=by
 unfold Oaz at h;unfold Hae;rw[Qb8]
 rcases Rbo j (dW 0 (s.params.flatMap (·.2))).length with h1|h1
 ·rw[List.getElem?_append_left (by simpa using h1)]at h ⊢
  rw[Rbr]at h ⊢;rw[Qb3 h1]at h ⊢;simp only[Rb9,Option.some.injEq]at h;exact .inl ⟨_,rfl,h.symm,rfl⟩
 ·rw[Rbl (by simpa using h1)]at h ⊢
  simp only[Rbh]at h ⊢;rw[Rbr]at h ⊢
  cases hb:(range 0 s.boxes.length)[j-(dW 0 (s.params.flatMap (·.2))).length]? with
  |none=>rw[hb]at h;cases h
  | some b =>
   rw[hb]at h;simp only[Rb9,Option.some.injEq]at h;have:=mem_range.1 (Rbi hb);exact .inr ⟨b,by omega,h.symm,rfl⟩
def Cbh (s:Sig)(n:Nat):List (Nat×aP) :=
 (iT 0 0 0 s.params).1++(jR 0 (Kad s.params) (iP s.params) s.boxes).1++qU n (Oaz s)
theorem entry_eq (s:Sig)(n:Nat):entry s n=St.puts ⟨.nil,Kad s.params+Za5 s.boxes,s.boxes.length,iP s.params+vH s.boxes,n+mD s⟩ (Cbh s n):=by
 have h1:=(sV s.params 0 0 0).1;have h2:=(xR s.boxes 0 (Kad s.params) (iP s.params)).1;rw[Rby,Rby]at h1;have e:iT 0 0 0 s.params=((iT 0 0 0 s.params).1,Kad s.params,iP s.params):=by rw[<- h1]
 have e2:jR 0 (Kad s.params) (iP s.params) s.boxes=((jR 0 (Kad s.params) (iP s.params) s.boxes).1,Kad s.params+Za5 s.boxes,iP s.params+vH s.boxes):=by rw[<- h2]
 unfold entry Cbh;rw[e];dsimp only;rw[e2]
theorem Dab (s:Sig)(n:Nat):(entry s n).nv=Kad s.params+Za5 s.boxes/\(entry s n).nb=s.boxes.length/\(entry s n).nr=iP s.params+vH s.boxes/\(entry s n).nt=n+mD s:=by
 rw[entry_eq];obtain⟨h1,h2,h3,h4⟩:=iC (Cbh s n) ⟨.nil,Kad s.params+Za5 s.boxes,s.boxes.length,iP s.params+vH s.boxes,n+mD s⟩;exact⟨h1,h2,h3,h4⟩
theorem Pac (s:Sig)(n:Nat)(k:Nat):(entry s n).get k=bif uK (n+mD s) s.boxes.length (iP s.params+vH s.boxes) k then upds (fun _=>none) (Cbh s n) k else none:=by
 obtain⟨h1,h2,h3,h4⟩:=Dab s n;unfold St.get;rw[h2,h3,h4]
 have:(entry s n).tr.get k=upds (fun _=>none) (Cbh s n) k:=by
  rw[entry_eq,Ka9];exact pY _ _ _ _ rfl
 rw[this]
theorem Pab {s:Sig}{n k:Nat}{c:aP}(h:(entry s n).get k=some c):(k,c)∈Cbh s n:=by
 rw[Pac]at h
 revert h
 cases uK (n+mD s) s.boxes.length (iP s.params+vH s.boxes) k with
 |false=>intro h;cases h
 | true =>
  intro h
  rcases oG _ _ _ _ h with h1|⟨-,h1⟩
  ·exact h1
  ·cases h1
theorem Kaa {s:Sig}{n k:Nat}(hb:uK (n+mD s) s.boxes.length (iP s.params+vH s.boxes) k=true)(h:∃ c,(k,c)∈Cbh s n):((entry s n).get k).isSome:=by
 rw[Pac,hb,cond_true];exact dP _ _ _ (.inr h)
theorem Bb1 {nt nb nr b:Nat}(h:b<nb):uK nt nb nr (kB b)=true:=by
 unfold uK;rw[Oaq];have:kB b / 3=b:=by unfold kB;omega
 rw[this];simpa using h
theorem Vat (s:Sig)(n r:Nat)(h:r<iP s.params+vH s.boxes):((entry s n).get (kR r)).isSome:=by
 refine Kaa (Oao h) ?_
 rcases Rbo r (iP s.params) with h1|h1
 ·obtain⟨c,hc⟩:=(sV s.params 0 0 0).2 r (Sbq _) (by omega)
  exact⟨c,Qb2 _ (Qb2 _ hc)⟩
 ·obtain⟨c,hc⟩:=(xR s.boxes 0 (Kad s.params) (iP s.params)).2.1 r h1 h
  exact⟨c,Qb2 _ (Qb5 _ hc)⟩
theorem Yau (s:Sig)(n b:Nat)(h:b<s.boxes.length):((entry s n).get (kB b)).isSome:=by
 refine Kaa (Bb1 h) ?_;obtain⟨c,hc⟩:=(xR s.boxes 0 (Kad s.params) (iP s.params)).2.2 b (Sbq _) (by omega);exact⟨c,Qb2 _ (Qb5 _ hc)⟩
theorem Fbk {s:Sig}{vals:List Value}{w:World}{G:Gh}{ds:List D}{n:Nat}(h:Za2 s vals w G ds)(hn:s.params.length<=n) :
  vals.length=s.params.length/\R n (nY s G w) (entry s n).get ds ⟨vals.toArray++Array.replicate (n-vals.length) undef,[]⟩ w G:=by
 have cT:∀ b,b<s.boxes.length->((entry s n).get (kB b)).isSome:=fun b hb=>Yau s n b hb
 have kd:=Vat s n;obtain⟨hlen,jw⟩:=Bax (σ:=(entry s n).get) cT (t:=0) h.params fun r _ hr=>kd r (by omega)
 have mm:=Eai (σ:=(entry s n).get) h.boxes fun r _ hr=>kd r hr
 have cw:∀ r,r<iP s.params->(G.hdr r).oneCell'=true:=by
  intro r hr;obtain⟨c,hc⟩:=(sV s.params 0 0 0).2 r (Sbq _) (by omega)
  rcases jw _ c hc with ⟨t,v,sv,e,-⟩|⟨r',m,i,e,-,cA⟩
  ·exact absurd e.symm gX
  ·obtain rfl:=eD e
   exact cA.one
 have b5:∀ t v,vals[t]?=some v->Aad n ⟨vals.toArray++Array.replicate (n-vals.length) undef,[]⟩ (nY s G w).gh t=v:=by
  intro t v hv;have hlt:=(List.getElem?_eq_some_iff.1 hv).1;unfold Aad;rw[if_pos (by omega)];simp only[Array.getD_eq_getD_getElem?];rw[Array.getElem?_append_left (by simpa using hlt)];simp[hv]
 refine⟨hlen,?_,rfl,fun k c hk=>?_,?_,fun b ls hk hb ho=>?_⟩
 ·simp;omega
 ·have hm:=Pab hk
  unfold Cbh at hm
  rcases List.mem_append.1 hm with hm|hm
  ·rcases List.mem_append.1 hm with hm|hm
   ·rcases jw k c hm with ⟨t,v,sv,rfl,rfl,hv,df⟩|⟨r,m,i,rfl,rfl,cA⟩
    ·refine⟨t,rfl,fun _=>?_⟩
     simp only[Sbq,if_true,Nat.sub_zero]at hv;rw[b5 t v hv];exact df
    ·exact⟨r,rfl,by rw[hk];rfl,cA⟩
   ·rcases mm k c hm with ⟨b,ro,ls,cs,rfl,rfl,-,-,yd⟩|⟨r,m,i,rfl,rfl,cA⟩
    ·exact⟨b,rfl,yd⟩
    ·exact⟨r,rfl,by rw[hk];rfl,cA⟩
  ·obtain⟨j,l,hj,rfl,rfl⟩:=sW _ _ _ _ hm
   refine⟨n+j,rfl,fun _=>?_⟩
   have e:Aad n ⟨vals.toArray++Array.replicate (n-vals.length) undef,[]⟩ (nY s G w).gh (n+j)=(Hae s G).getD j undef:=by
    unfold Aad;rw[if_neg (by omega),Rb1];rfl
   rw[e];simp only[bU]
   rcases Vad (G:=G) hj with ⟨r,h1,rfl,h2⟩|⟨b,h1,rfl,h2⟩
   ·have hr:=xK _ _ r (Rbi h1)
    rw[Jaq]at hr;simp only[aB];rw[h2];exact⟨rfl,kd r (by omega),cw r (by omega)⟩
   ·simp only[aB]
    rw[h2];exact⟨rfl,cT b h1⟩
 ·exact⟨rfl,rfl,rfl,Rbg _,fun b hb ho=>⟨rfl,rfl⟩,fun b j hb ho=>⟨ho,by
   obtain⟨-,c,e,fr,hc⟩:=h.cells b j hb ho;exact⟨c,c,e,fr,hc,hc,rfl,fun _ _=>rfl⟩⟩,h.fresh⟩
 ·have hm:=Pab hk
  unfold Cbh at hm
  rcases List.mem_append.1 hm with hm|hm
  ·rcases List.mem_append.1 hm with hm|hm
   ·rcases jw _ _ hm with ⟨t,v,sv,e,-⟩|⟨r,m,i,e,-⟩
    ·exact absurd e.symm kP
    ·exact absurd e eO
   ·rcases mm _ _ hm with ⟨b',ro,fR,cs,e,e2,e3,e4,yd⟩|⟨r,m,i,e,-⟩
    ·obtain rfl:=Bai e
     injection e2 with e5 e6
     subst e5 e6;simp only[Sbq,if_true,Nat.sub_zero]at e3;simp only[nY,Qb8,e3,Sbv];rw[e4]
    ·exact absurd e eO
  ·obtain⟨j,r,hj,e,-⟩:=sW _ _ _ _ hm
   exact absurd e.symm kP
theorem Yat {s:Sig}{n cq:Nat}(h:Faq (entry s n) cq ((range 0 (entry s n).nt).map kT++(range 0 (entry s n).nb).map kB++(range 0 (entry s n).nr).map kR)=true){E:Env}(hE:E.ntmps=n):Cad E (entry s n):=by
 refine⟨by rw[(Dab s n).2.2.2,hE];omega,fun k c hk=>?_⟩
 have hm:k∈(range 0 (entry s n).nt).map kT++(range 0 (entry s n).nb).map kB++(range 0 (entry s n).nr).map kR:=by
  rcases zR hk with ⟨t,rfl,ht⟩|⟨b,rfl,hb⟩|⟨r,rfl,hr⟩
  ·exact Qb2 _ (Qb2 _ (List.mem_map.2 ⟨t,mem_range.2 ⟨by omega,by omega⟩,rfl⟩))
  ·exact Qb2 _ (Qb5 _ (List.mem_map.2 ⟨b,mem_range.2 ⟨by omega,by omega⟩,rfl⟩))
  ·exact Qb5 _ (List.mem_map.2 ⟨r,mem_range.2 ⟨by omega,by omega⟩,rfl⟩)
 have:=Cah h k hm;rw[hk]at this;exact sZ this
def BO.q:BO->Nat
 |.ow _=>1
 |_=>0
def qC:List BO->Nat
 |[]=>0
 |s::ss=>s.q+qC ss
def LR.q:LR->Nat
 |.ow _=>1
 |.bx cs=>qC cs
 |_=>0
def qL:List LR->Nat
 |[]=>0
 |s::ss=>s.q+qL ss
def qR:List (Bool×List LR)->Nat
 |[]=>0
 |(_,ss)::rs=>qL ss+qR rs
section
variable (own:Nat->Ow) (w:World) (ds:List D) (nbx:Nat)
def Dap (i q:Nat):BO->Value->Prop
 |.sc,v=>Sc v (ds.getD i .undef)
 |.fz,v=>Rd (fun b=>own b=.frz) w v (ds.getD i .undef)
 |.ow m,v=>Rp own w (2*q) [] m v (ds.getD i .undef)
 |.dead,v=>v.oneCell'=true
def Caf (ad:Addr):Nat->Nat->Nat->List BO->Prop
 |_,_,_,[]=>True
 |off,i,q,s::ss=>(∃ v,w.cell? (ad.add off)=some v/\w.frozen? (ad.add off)=false/\Dap own w ds i q s v)/\Caf ad (off+1) (i+1) (q+s.q) ss
def kW (i q:Nat):LR->Value->Prop
 |.sc,v=>Sc v (ds.getD i .undef)
 |.fz,v=>Rd (fun b=>own b=.frz) w v (ds.getD i .undef)
 |.ow m,v=>Rp own w (2*q) [] m v (ds.getD i .undef)
 |.rp _,v=>v.oneCell'=true/\Zau (fun b=>own b=.frz) w v (ds.getD i .undef)
 |.bx cs,v=>∃ ad,v=.pointer (some ad)/\ad.spot=none/\own ad.block=.box nbx/\Caf own w ds ad 0 i q cs
def oD:Nat->Nat->List LR->List Value->Prop
 |_,_,[],vs=>vs=[]
 |i,q,s::ss,vs=>∃ u us,vs=u::us/\kW own w ds nbx i q s u/\oD (i+s.n) (q+s.q) ss us
def Kak:Nat->Nat->List (Bool×List LR)->List Value->Prop
 |_,_,[],us=>us=[]
 |i,q,(a,ss)::rs,us=>∃ u bn vs,us=u::bn/\oD own w ds nbx i q ss vs/\(if a=true then u=.agg vs.toArray else vs=[u])/\Kak (i+lY ss) (q+qL ss) rs bn
def Ta4 (gh:Nat->Value):Nat->Nat->List Nat->Prop
 |_,_,[]=>True
 |i,j,d::ms=>Rp own w (2*j+1) [] d (gh j) (ds.getD i .undef)/\Ta4 gh (i+1) (j+1) ms
def kX (bx:Nat->Addr):Nat->Nat->Nat->List (Bool×List (BS×BO))->Prop
 |_,_,_,[]=>True
 |b,i,q,(ro,cs)::r=>if ro=true then kX bx (b+1) i q r else Caf own w ds (bx b) 0 i q (cs.map (·.2))/\kX bx (b+1) (i+cs.length) (q+qC (cs.map (·.2))) r
end
def Da0:List Value->Value
 |[u]=>u
 |us=>.tuple us.toArray
def Ma0 (s:Sig)(F:bE)(bx:Nat->Addr)(v:Value)(w:World)(ds:List D):Prop :=
 ∃ G us,v=Da0 us/\lM F G w/\Kak G.own w ds s.boxes.length 0 0 s.results us/\Ta4 G.own w ds F.gh (bH s.results) 0 (dN (s.params.flatMap (·.2))) /\
  kX G.own w ds bx 0 (bH s.results+(dN (s.params.flatMap (·.2))).length) (qR s.results) s.boxes
structure FLe (A B:Fin):Prop where
 xs:∃ l,B.xs=A.xs++l
 own:∀ z∈A.own,z∈B.own
 frz:∀ z∈A.frz,z∈B.frz
 lets:∃ l,B.lets=A.lets++l
 bxs:∀ z∈A.bxs,z∈B.bxs
theorem FLe.refl (A:Fin):FLe A A:=⟨⟨[],by simp⟩,fun _ h=>h,fun _ h=>h,⟨[],by simp⟩,fun _ h=>h⟩
theorem FLe.trans {A B C:Fin}(h:FLe A B)(h':FLe B C):FLe A C:=by
 obtain⟨⟨l,h1⟩,h2,h3,⟨m,h4⟩,h5⟩:=h;obtain⟨⟨l',tW⟩,sf,ua,⟨m',so⟩,ru⟩:=h';exact⟨⟨l++l',by rw[tW,h1,Rba]⟩,fun z hz=>sf z (h2 z hz),fun z hz=>ua z (h3 z hz),⟨m++m',by rw[so,h4,Rba]⟩,fun z hz=>ru z (h5 z hz)⟩
structure Va7 (Z:Fin) (nbx:Nat) (G G':Gh):Prop where
 frz:∀ b,G.own b=.frz->G'.own b=.frz
 own:∀ r t m,(r,t,m)∈Z.own->∀ b p,G.own b=.slc r p->G'.own b=if p.length<m then .slc t p else .frz
 fr:∀ r,r∈Z.frz->∀ b p,G.own b=.slc r p->G'.own b=.frz
 bxs:∀ β,β∈Z.bxs->∀ b,G.own b=.box β->G'.own b=.box nbx
section
variable {E:Env} {F:bE} {σ:Nat->Option aP} {ρ:List D} {a:Act} {w:World} {G G':Gh} {cf:Nat->List D->Option (List D)} {Z:Fin} {nbx nv:Nat}
theorem FLe.get {A B:Fin}(h:FLe A B){ρ:List D}{x:aI}{l:List aI}(hx:A.xs=l++[x]):(B.xs.map (·.val ρ)).getD l.length .undef=x.val ρ:=by
 obtain⟨m,h1⟩:=h.xs;rw[h1,hx,Qb8];simp
theorem Rp.give (hG:Va7 Z nbx G G'){r t m m':Nat}(hz:(r,t,m)∈Z.own)(hm:m<=m'){v:Value}{d:D}(h:Rp G.own w r [] m' v d):Rp G'.own w t [] m v d:=by
 let fu:Nat->Ow:=fun b=>match G.own b with
  |.slc s p=>if s=r then (if p.length<m then .slc s p else .frz) else .slc s p
  |o=>o
 have h1:=h.weaken (own':=fu) (fun b hb=>by simp only[fu,hb]) m hm (fun b q hb=>by simp only[fu,hb,Sba,if_true]);have:=h1.mono (own':=G'.own) (w':=w) (q:=[]) (q':=[]) (r':=t) (fun b hb=>⟨?_,rfl⟩) [] rfl (fun b q hb=>⟨?_,rfl⟩)
 ·simpa using this
 ·simp only[fu]at hb
  split at hb
  ·rename_i s p e
   split at hb
   ·rename_i hs
    subst hs;split at hb
    ·cases hb
    ·rename_i hp
     rw[hG.own s t m hz b p e,if_neg hp]
   ·cases hb
  ·exact hG.frz b hb
 ·simp only[fu]at hb
  split at hb
  ·rename_i s p e
   split at hb
   ·rename_i hs
    subst hs;split at hb
    ·rename_i hp
     injection hb with e1 e2
     simp only[Sba]at e2 ⊢;subst e2;rw[hG.own s t m hz b p e,if_pos hp]
    ·cases hb
   ·rename_i hs
    injection hb with e1 e2
    exact absurd e1 hs
  ·rename_i r6
   exact absurd hb (r6 _ _)
theorem Rd.give (hG:Va7 Z nbx G G'){deps:List (Nat×Nat)}(hz:∀ z∈deps,z.1∈Z.frz){v:Value}{d:D}(h:Rd (allow G deps) w v d):Rd (fun b=>G'.own b=.frz) w v d:=by
 refine h.mono fun b hb=>⟨?_,rfl⟩
 rcases hb with hb|⟨r,k,p,hm,hb⟩
 ·exact hG.frz b hb
 ·exact hG.fr r (hz _ hm) b p hb
theorem Oa4 (hR:R E.ntmps F σ ρ a w G){A B:Fin}{m:Nat}{l:aO}(h:(Oa5 A m l).eval σ=some B)(hZ:FLe B Z)(hG:Va7 Z nbx G G'){v:Value}(hl:aB σ ρ G w l v) :
  Rp G'.own w (2*A.q) [] m v ((Z.xs.map (·.val ρ)).getD A.xs.length .undef)/\FLe A B/\B.xs.length=A.xs.length+1/\B.q=A.q+1:=by
 unfold Oa5 at h;split at h
 ·rename_i nie z
  simp only[aC,Option.some.injEq]at h;subst h;refine⟨?_,⟨⟨_,rfl⟩,fun _ h=>h,fun _ h=>h,⟨[],by simp[Tan]⟩,fun _ h=>h⟩,by simp[Tan],rfl⟩;rw[hZ.get (l:=A.xs) rfl];simp only[aB]at hl;have hv:=(hl.2 (by simp)).2.1 trivial z rfl;rw[hv]
  cases m with
  |zero=>exact .fz (.rows none ⟨0,0,none⟩ 0 0 z [] (fun _ _=>undef) rfl (Rbg _) (.inl rfl) (by simp) (by simp) (by simp))
  |succ m=>exact .sl none ⟨0,0,none⟩ 0 0 z [] (fun _ _=>undef) rfl (Rbg _) (.inr ⟨rfl,rfl⟩) (by simp) (fun e=>by cases e) (by simp) (by simp)
 ·rename_i r
  simp only[aA,aQ,Qb7]at h;split at h
  ·rename_i x m' an hk
   simp only[aA,aH,Qb0,aC,Option.some.injEq]at h;obtain⟨_,h1,rfl⟩:=h;split at h1
   case isFalse=>cases h1
   rename_i hb;simp only[Sbb]at hb;refine⟨?_,⟨⟨_,rfl⟩,fun _ h=>Qb2 _ h,fun _ h=>h,⟨[],by simp[yU]⟩,fun _ h=>h⟩,by simp[yU],rfl⟩;rw[hZ.get (l:=A.xs) rfl];simp only[aB]at hl;rw[hl.1];have hr:=hR.root hk;simp only[bM]at hr;exact hr.give hG (hZ.own _ (by simp[yU])) hb
  ·cases h
 ·rename_i r k nie x
  simp only[aA,aQ,Qb7]at h;split at h
  ·rename_i x' m' an hk
   simp only[aA,aH,Qb0,aC,Option.some.injEq]at h;obtain⟨_,h1,rfl⟩:=h;split at h1
   case isFalse=>cases h1
   rename_i hb;simp only[Qb1,Sbb,Rbv]at hb;obtain⟨hb,rfl⟩:=hb;refine⟨?_,⟨⟨_,rfl⟩,fun _ h=>Qb2 _ h,fun _ h=>h,⟨[],by simp[yU]⟩,fun _ h=>h⟩,by simp[yU],rfl⟩;rw[hZ.get (l:=A.xs) rfl];simp only[aB]at hl
   have hp:=(hl.2 fun z hz=>by
    simp only[Rbb]at hz;subst hz;exact⟨x',m',.live,hk,.inl rfl⟩).2.2
   exact (hp r an m' rfl ⟨x',hk⟩).give hG (hZ.own _ (by simp[yU])) hb
  ·cases h
 ·cases h
theorem Oa6 (hR:R E.ntmps F σ ρ a w G){A B:Fin}{l:aO}(h:(Oa7 A l).eval σ=some B)(hZ:FLe B Z)(hG:Va7 Z nbx G G'){v:Value}(hl:aB σ ρ G w l v) :
  Rd (fun b=>G'.own b=.frz) w v ((Z.xs.map (·.val ρ)).getD A.xs.length .undef)/\FLe A B/\B.xs.length=A.xs.length+1/\B.q=A.q:=by
 unfold Oa7 at h;simp only[aA,Qb0,aC,Option.some.injEq]at h;obtain⟨s,h1,rfl⟩:=h;refine⟨?_,⟨⟨_,rfl⟩,fun _ h=>h,fun _ h=>Qb2 _ h,⟨[],by simp⟩,fun _ h=>h⟩,by simp,rfl⟩;rw[hZ.get (l:=A.xs) rfl];have hs:=dM hR h1 hl;exact hs.rd.give hG fun z hz=>hZ.frz _ (Qb5 _ (Sbh hz))
theorem Ral (hR:R E.ntmps F σ ρ a w G){A B:Fin}{s:BO}{l:aO}(h:(Daa A s l).eval σ=some B)(hZ:FLe B Z)(hG:Va7 Z nbx G G'){v:Value}(hl:aB σ ρ G w l v) :
  Dap G'.own w (Z.xs.map (·.val ρ)) A.xs.length A.q s v/\FLe A B/\B.xs.length=A.xs.length+1/\B.q=A.q+s.q:=by
 cases s with
 | sc =>
  cases l<;>simp only[Daa,bK,reduceCtorEq]at h
  rename_i x;simp only[aC,Option.some.injEq]at h;subst h;refine⟨?_,⟨⟨_,rfl⟩,fun _ h=>h,fun _ h=>h,⟨[],by simp⟩,fun _ h=>h⟩,by simp,rfl⟩;simp only[Dap];rw[hZ.get (l:=A.xs) rfl];simpa[aB] using hl
 | fz =>
  have h':(Oa7 A l).eval σ=some B:=by cases l<;>exact h
  exact Oa6 hR h' hZ hG hl
 | ow m =>
  have h':(Oa5 A m l).eval σ=some B:=by cases l<;>exact h
  exact Oa4 hR h' hZ hG hl
 | dead =>
  have h':(bif Nai l then RdM.ret { A with xs:=A.xs++[.c .hole] } else .no:RdM Fin).eval σ=some B:=by cases l<;>exact h
  cases hb:Nai l with
  |false=>rw[hb]at h';cases h'
  | true =>
   rw[hb,cond_true]at h';simp only[aC,Option.some.injEq]at h';subst h';exact⟨hl.one hb,⟨⟨_,rfl⟩,fun _ h=>h,fun _ h=>h,⟨[],by simp⟩,fun _ h=>h⟩,by simp,rfl⟩
theorem Bav:∀ {ss:List BO} {ls:List aO} {A B:Fin},(iK A ss ls).eval σ=some B->(∀ {A B:Fin} {s:BO} {l:aO},(Daa A s l).eval σ=some B->FLe A B)->FLe A B
 | [], [], A, B, h, _ => by
  simp only[iK,aC,Option.some.injEq]at h;subst h;exact .refl _
 |[],_::_,A,B,h,_=>by simp[iK,bK]at h
 |_::_,[],A,B,h,_=>by simp[iK,bK]at h
 | s :: ss, l :: ls, A, B, h, hc => by
  simp only[iK,aA,Qb0]at h;obtain⟨C,h1,h2⟩:=h;exact (hc h1).trans (Bav h2 hc)
theorem Tam {A B:Fin}{m:Nat}{l:aO}(h:(Oa5 A m l).eval σ=some B):FLe A B:=by
 unfold Oa5 at h;split at h
 ·simp only[aC,Option.some.injEq]at h
  subst h;exact⟨⟨_,rfl⟩,fun _ h=>h,fun _ h=>h,⟨[],by simp[Tan]⟩,fun _ h=>h⟩
 ·simp only[aA,aQ,Qb7]at h
  split at h
  ·simp only[aA,aH,Qb0,aC,Option.some.injEq]at h
   obtain⟨_,-,rfl⟩:=h;exact⟨⟨_,rfl⟩,fun _ h=>Qb2 _ h,fun _ h=>h,⟨[],by simp[yU]⟩,fun _ h=>h⟩
  ·cases h
 ·simp only[aA,aQ,Qb7]at h
  split at h
  ·simp only[aA,aH,Qb0,aC,Option.some.injEq]at h
   obtain⟨_,-,rfl⟩:=h;exact⟨⟨_,rfl⟩,fun _ h=>Qb2 _ h,fun _ h=>h,⟨[],by simp[yU]⟩,fun _ h=>h⟩
  ·cases h
 ·cases h
theorem Tao {A B:Fin}{l:aO}(h:(Oa7 A l).eval σ=some B):FLe A B:=by
 unfold Oa7 at h;simp only[aA,Qb0,aC,Option.some.injEq]at h;obtain⟨s,h1,rfl⟩:=h;exact⟨⟨_,rfl⟩,fun _ h=>h,fun _ h=>Qb2 _ h,⟨[],by simp⟩,fun _ h=>h⟩
theorem Vaq {A B:Fin}{s:BO}{l:aO}(h:(Daa A s l).eval σ=some B):FLe A B:=by
 cases s with
 | sc =>
  cases l<;>simp only[Daa,bK,reduceCtorEq]at h
  simp only[aC,Option.some.injEq]at h;subst h;exact⟨⟨_,rfl⟩,fun _ h=>h,fun _ h=>h,⟨[],by simp⟩,fun _ h=>h⟩
 | fz =>
  have h':(Oa7 A l).eval σ=some B:=by cases l<;>exact h
  exact Tao h'
 | ow m =>
  have h':(Oa5 A m l).eval σ=some B:=by cases l<;>exact h
  exact Tam h'
 | dead =>
  have h':(bif Nai l then RdM.ret { A with xs:=A.xs++[.c .hole] } else .no:RdM Fin).eval σ=some B:=by cases l<;>exact h
  cases hb:Nai l with
  |false=>rw[hb]at h';cases h'
  | true =>
   rw[hb,cond_true]at h';simp only[aC,Option.some.injEq]at h';subst h';exact⟨⟨_,rfl⟩,fun _ h=>h,fun _ h=>h,⟨[],by simp⟩,fun _ h=>h⟩
theorem sS {ss:List BO}{ls:List aO}{A B:Fin}(h:(iK A ss ls).eval σ=some B):FLe A B:=Bav h fun h=>Vaq h
theorem wE (hR:R E.ntmps F σ ρ a w G)(hG:Va7 Z nbx G G'){ad:Addr}:∀ {ss:List BO} {ls:List aO} {A B:Fin} {off:Nat},(iK A ss ls).eval σ=some B->FLe B Z ->
  (∀ j l,ls[j]?=some l->∃ v,w.cell? (ad.add (off+j))=some v/\w.frozen? (ad.add (off+j))=false/\aB σ ρ G w l v) ->
  Caf G'.own w (Z.xs.map (·.val ρ)) ad off A.xs.length A.q ss/\B.xs.length=A.xs.length+ss.length/\B.q=A.q+qC ss
 | [], [], A, B, off, h, _, _ => by
  simp only[iK,aC,Option.some.injEq]at h;subst h;exact⟨trivial,rfl,rfl⟩
 |[],_::_,A,B,off,h,_,_=>by simp[iK,bK]at h
 |_::_,[],A,B,off,h,_,_=>by simp[iK,bK]at h
 | s :: ss, l :: ls, A, B, off, h, hZ, hl => by
  simp only[iK,aA,Qb0]at h;obtain⟨C,h1,h2⟩:=h;obtain⟨v,h3,h4,h5⟩:=hl 0 l rfl;obtain⟨h6,h7,h8,h9⟩:=Ral hR h1 ((sS h2).trans hZ) hG h5
  obtain⟨bo,b9,cL⟩:=wE hR hG (off:=off+1) h2 hZ fun j l' hj=>by
   have:=hl (j+1) l' (by simpa using hj);rwa[show off+(j+1)=off+1+j by omega]at this
  rw[h8,h9]at bo;exact⟨⟨⟨v,h3,h4,h6⟩,bo⟩,by rw[b9,h8];simp;omega,by rw[cL,h9];simp only[qC];omega⟩
end
def Dbt (tmps:Array Value):ResultVar->Sem Value
 |.tmp t=>pure (tmps.getD t undef)
 |.cell a t=>do loadVar t (<- asAddr (tmps.getD a undef))
def Da1 (P:Program)(tmps:Array Value)(w:World)(x:ResultVar):Value:=match (Dbt tmps x).run P w with
 |.ok v _=>v
 |_=>undef
theorem Na7 {P:Program}{tmps:Array Value}{w:World}{x:ResultVar}{v:Value}(h:(Dbt tmps x).run P w=.ok v w):Da1 P tmps w x=v/\(Dbt tmps x).run P w=.ok (Da1 P tmps w x) w:=by
 have:Da1 P tmps w x=v:=by unfold Da1;rw[h]
 exact⟨this,by rw[this];exact h⟩
theorem Waw (vs:Array Value):(if h:vs.size=1 then vs[0] else Value.tuple vs)=Da0 vs.toList:=by
 obtain⟨l⟩:=vs
 match l with
 |[]=>rfl
 |[u]=>rfl
 |u::v::r=>simp[Da0]
section
variable {P:Program} {E:Env} {F:bE} {σ:Nat->Option aP} {ρ:List D} {a:Act} {w:World} {G G':Gh} {cf:Nat->List D->Option (List D)} {Z:Fin} {nbx nv:Nat}
theorem Vap {A B:Fin}{s:LR}{l:aO}(h:(Hao nv A s l).eval σ=some B):FLe A B:=by
 unfold Hao at h;split at h
 ·simp only[aC,Option.some.injEq]at h
  subst h;exact⟨⟨_,rfl⟩,fun _ h=>h,fun _ h=>h,⟨[],by simp⟩,fun _ h=>h⟩
 ·exact Tao h
 ·exact Tam h
 ·simp only[aC,Option.some.injEq]at h
  subst h;exact⟨⟨_,rfl⟩,fun _ h=>h,fun _ h=>h,⟨[],by simp⟩,fun _ h=>h⟩
 ·simp only[aA,Qb0,aC,Option.some.injEq]at h
  obtain⟨d,-,rfl⟩:=h;exact⟨⟨_,rfl⟩,fun _ h=>h,fun _ h=>Qb2 _ h,⟨[],by simp⟩,fun _ h=>h⟩
 ·simp only[aA,Qb0,aC,Option.some.injEq]at h
  obtain⟨d,-,rfl⟩:=h;exact⟨⟨_,rfl⟩,fun _ h=>h,fun _ h=>Qb2 _ h,⟨_,rfl⟩,fun _ h=>h⟩
 ·cases h
theorem Rak (hR:R E.ntmps F σ ρ a w G)(aj:aL cf ρ none nv Z.lets){A B:Fin}{s:LR}{l:aO}(h:(Hao nv A s l).eval σ=some B)(hZ:FLe B Z)(hG:Va7 Z nbx G G'){v:Value}(hl:aB σ ρ G w l v) :
  kW G'.own w (Z.xs.map (·.val ρ)) nbx A.xs.length A.q s v/\B.xs.length=A.xs.length+s.n/\B.q=A.q+s.q:=by
 unfold Hao at h;split at h
 ·simp only[aC,Option.some.injEq]at h
  subst h;refine⟨?_,by simp[LR.n],rfl⟩;simp only[kW];rw[hZ.get (l:=A.xs) rfl];simpa[aB] using hl
 ·obtain⟨h1,-,h2,h3⟩:=Oa6 hR h hZ hG hl
  exact⟨h1,h2,h3⟩
 ·obtain⟨h1,-,h2,h3⟩:=Oa4 hR h hZ hG hl
  exact⟨h1,h2,h3⟩
 ·simp only[aC,Option.some.injEq]at h
  subst h;refine⟨?_,by simp[LR.n],rfl⟩;simp only[kW];rw[hZ.get (l:=A.xs) rfl];simp only[aB]at hl;exact⟨by rw[hl];rfl,.inl ⟨hl,_,rfl⟩⟩
 ·rename_i z deps z' x
  simp only[aA,Qb0,aC,Option.some.injEq]at h;obtain⟨ds,h1,rfl⟩:=h;refine⟨?_,by simp[LR.n],rfl⟩;simp only[kW];rw[hZ.get (l:=A.xs) rfl];simp only[aB]at hl;obtain⟨h3,h4,h5⟩:=iG h1;refine⟨hl.1.1,?_⟩
  rcases hl.2 h3 with h6|⟨ad,row,h6,h7,h8⟩
  ·exact .inl h6
  ·exact .inr ⟨ad,row,h6,h7,(h8.drop hR h5).give hG fun z hz=>hZ.frz _ (Qb5 _ (Sbh hz))⟩
 ·rename_i z l' z' ix
  simp only[aA,Qb0,aC,Option.some.injEq]at h;obtain⟨sl,h1,rfl⟩:=h;refine⟨?_,by simp[LR.n],rfl⟩;simp only[kW];rw[hZ.get (l:=A.xs) rfl];simp only[aB]at hl;obtain⟨ad,n,cp,ik,iv,h3,h4,h5,h6,h7⟩:=hl;have hs:=dM hR h1 h3;obtain⟨lr,ym⟩:=hZ.lets;dsimp only at ym;rw[ym,Rba]at aj;have pk:=(aL.append aj).2;have jd:aL cf ρ none (nv+bF A.lets) [.prim (.one z') [sl.x,ix] 1]:=(aL.append pk).1;obtain⟨d,aw,hd⟩:=fF jd rfl;simp only[Rbt,Rbz,h4]at aw
  have dt:∃ sz rs r,sl.x.val ρ=.rows sz rs/\sz=z'/\rs[iv.toNat]?=some r/\d=.rows z' [r]:=by
   cases hx:sl.x.val ρ with
   | rows sz rs =>
    rw[hx]at aw;simp only[aR.run]at aw;split at aw
    ·rename_i hc
     split at aw
     ·rename_i r hr
      simp only[Option.some.injEq,List.cons.injEq,and_true]at aw;exact⟨sz,rs,r,rfl,hc.1,hr,aw.symm⟩
     ·cases aw
    ·cases aw
   |_=>rw[hx]at aw;simp[aR.run]at aw
  obtain⟨sz,rs,r,hx,rfl,hr,rfl⟩:=dt;have eo:=hs.rd;rw[hx]at eo;obtain⟨A',b,n',c',vs,e1,e2,e3,e4,e5,e6,e7⟩:=eo.inv
  injection e1 with e1 xy e1''
  have hlt:iv.toNat<rs.length:=(List.getElem?_eq_some_iff.1 hr).1;have hA:some ad=some b:=by rw[e1];exact e4.resolve_left (by omega)
  obtain rfl:=Option.some.inj hA;have lg:r.length=sz:=e5 r (Rbi hr);refine⟨by rw[h7];rfl,.inr ⟨_,r,h7,by rw[hd,lg],?_⟩⟩
  have:Rd (allow G sl.deps) w (.slice (some (ad.add (iv.toNat*sz+0))) 1 1) (.rows r.length [r]):=by
   refine .rows _ (ad.add (iv.toNat*sz+0)) 1 1 r.length [r] (fun _ j=>vs iv.toNat j) rfl (Rbg _) (.inr rfl) (by simp) (fun i0 r0 jq j d0 hj=>?_) (fun i0 r0 jq j d0 hj=>?_)
   ·cases i0 with
    | zero =>
     simp only[Qb9,Option.some.injEq]at jq;subst jq;obtain⟨k1,k2⟩:=e6 _ _ hr j d0 hj;refine⟨by rw[add_block];exact k1,?_⟩;rw[add_add];rw[show iv.toNat*sz+0+(0*r.length+j)=iv.toNat*sz+j by omega];exact k2
    |succ i0=>simp at jq
   ·cases i0 with
    | zero =>
     simp only[Qb9,Option.some.injEq]at jq;subst jq;exact e7 _ _ hr j d0 hj
    |succ i0=>simp at jq
  exact this.give hG fun z hz=>hZ.frz _ (Qb5 _ (Sbh hz))
 ·cases h
theorem pE:∀ {ss:List LR} {ls:List aO} {A B:Fin},(gK nv A ss ls).eval σ=some B->FLe A B
 | [], [], A, B, h => by
  simp only[gK,aC,Option.some.injEq]at h;subst h;exact .refl _
 |[],_::_,A,B,h=>by simp[gK,bK]at h
 |_::_,[],A,B,h=>by simp[gK,bK]at h
 | s :: ss, l :: ls, A, B, h => by
  simp only[gK,aA,Qb0]at h;obtain⟨C,h1,h2⟩:=h;refine FLe.trans ?_ (pE h2);split at h1
  ·rename_i cs b
   simp only[aA,aQ,Qb7]at h1;split at h1
   ·have h0:FLe A { A with bxs:=A.bxs++[b] }:=⟨⟨[],by simp⟩,fun _ h=>h,fun _ h=>h,⟨[],by simp⟩,fun _ h=>Qb2 _ h⟩
    exact FLe.trans h0 (sS h1)
   ·cases h1
  ·exact Vap h1
theorem sQ (hR:R E.ntmps F σ ρ a w G)(aj:aL cf ρ none nv Z.lets)(hG:Va7 Z nbx G G'):∀ {ss:List LR} {ls:List aO} {A B:Fin} {vs:List Value},(gK nv A ss ls).eval σ=some B->FLe B Z->aD σ ρ G w ls vs ->
  oD G'.own w (Z.xs.map (·.val ρ)) nbx A.xs.length A.q ss vs/\B.xs.length=A.xs.length+lY ss/\B.q=A.q+qL ss
 | [], [], A, B, vs, h, _, hl => by
  simp only[gK,aC,Option.some.injEq]at h;subst h;simp only[aD]at hl;exact⟨hl,rfl,rfl⟩
 |[],_::_,A,B,vs,h,_,_=>by simp[gK,bK]at h
 |_::_,[],A,B,vs,h,_,_=>by simp[gK,bK]at h
 | s :: ss, l :: ls, A, B, vs, h, hZ, hl => by
  simp only[gK,aA,Qb0]at h;obtain⟨C,h1,h2⟩:=h;simp only[aD]at hl;obtain⟨u,us,rfl,h3,h4⟩:=hl;have xu:FLe C Z:=(pE h2).trans hZ
  have key:kW G'.own w (Z.xs.map (·.val ρ)) nbx A.xs.length A.q s u/\C.xs.length=A.xs.length+s.n/\C.q=A.q+s.q:=by
   split at h1
   ·rename_i cs b
    simp only[aA,aQ,Qb7]at h1;split at h1
    ·rename_i bs hk
     obtain⟨h5,h6,h7⟩:=hR.box hk;simp only[Qb4,if_false]at h6;obtain⟨h8,h9,bo⟩:=wE hR hG (ad:=G.bx b) (off:=0) h1 xu fun j l hj=>by rw[Rby];exact h7 j l hj
     refine⟨?_,h9,bo⟩;simp only[aB]at h3;simp only[kW];exact⟨G.bx b,h3.1,h5,hG.bxs b (xu.bxs _ ((sS h1).bxs _ (Qb5 _ (List.mem_singleton.2 rfl)))) _ h6,h8⟩
    ·cases h1
   ·exact Rak hR aj h1 xu hG h3
  obtain⟨h5,h6,h7⟩:=key;obtain⟨h8,h9,bo⟩:=sQ hR aj hG h2 hZ h4;rw[h6,h7]at h8;exact⟨⟨u,us,rfl,h5,h8⟩,by rw[h9,h6];simp only[lY];omega,by rw[bo,h7];simp only[qL];omega⟩
theorem Bau:∀ {rs:List (Bool×List LR)} {vars:List ResultVar} {A B:Fin},(nU E nv A rs vars).eval σ=some B->FLe A B
 | [], [], A, B, h => by
  simp only[nU,aC,Option.some.injEq]at h;subst h;exact .refl _
 |[],_::_,A,B,h=>by simp[nU,bK]at h
 |_::_,[],A,B,h=>by simp[nU,bK]at h
 | (ag, ss) :: rs, .tmp t :: vars, A, B, h => by
  simp only[nU,aA,aQ,Qb7]at h;split at h
  ·simp only[aA,Qb0]at h
   obtain⟨_,-,ls,-,C,h1,h2⟩:=h;exact (pE h1).trans (Bau h2)
  ·cases h
 | (ag, ss) :: rs, .cell t ty :: vars, A, B, h => by
  simp only[nU,aA,Qb0]at h;obtain⟨ti,-,_,-,_,-,h⟩:=h;split at h
  ·simp only[aA,aQ,Qb7]at h
   split at h
   ·simp only[aA,Qb0]at h
    obtain⟨C,h1,h2⟩:=h;exact (pE h1).trans (Bau h2)
   ·cases h
  ·cases h
theorem Oa0 {n t:Nat}{gh:Nat->Value}(h:t<n):a.tmps.getD t undef=Aad n a gh t:=by
 unfold Aad;rw[if_pos h]
theorem Ca9 (hti:uO P E.ti)(hR:R E.ntmps F σ ρ a w G)(aj:aL cf ρ none nv Z.lets)(hG:Va7 Z nbx G G'):∀ {rs:List (Bool×List LR)} {vars:List ResultVar} {A B:Fin},(nU E nv A rs vars).eval σ=some B->FLe B Z ->
  (∀ x∈vars,(Dbt a.tmps x).run P w=.ok (Da1 P a.tmps w x) w)/\Kak G'.own w (Z.xs.map (·.val ρ)) nbx A.xs.length A.q rs (vars.map (Da1 P a.tmps w))/\B.xs.length=A.xs.length+bH rs/\B.q=A.q+qR rs
 | [], [], A, B, h, _ => by
  simp only[nU,aC,Option.some.injEq]at h;subst h;exact⟨by simp,rfl,rfl,rfl⟩
 |[],_::_,A,B,h,_=>by simp[nU,bK]at h
 |_::_,[],A,B,h,_=>by simp[nU,bK]at h
 | (ag, ss) :: rs, .tmp t :: vars, A, B, h, hZ => by
  simp only[nU,aA,aQ,Qb7]at h;split at h
  case h_2=>cases h
  rename_i sv hk;simp only[aA,Qb0,aH,aT]at h;obtain⟨_,h0,ls,h1,C,h2,h3⟩:=h;split at h0
  case isFalse=>cases h0
  rename_i ht;simp only[Rb4]at ht;have hv:=hR.slot hk rfl;rw[<- Oa0 ht]at hv;have aw:(Dbt a.tmps (.tmp t)).run P w=.ok (a.tmps.getD t undef) w:=rfl;obtain⟨e1,e2⟩:=Na7 aw;have hC:=(Bau h3).trans hZ;obtain⟨h4,h5,h6⟩:=sQ hR aj hG h2 hC (gQ h1 hv);obtain⟨h7,h8,h9,bo⟩:=Ca9 hti hR aj hG h3 hZ;rw[h5,h6]at h8;refine⟨fun x hx=>?_,⟨_,_,_,rfl,h4,?_,h8⟩,by rw[h9,h5];simp only[bH];omega,by rw[bo,h6];simp only[qR];omega⟩
  ·rcases List.mem_cons.1 hx with rfl|hx
   ·exact e2
   ·exact h7 x hx
  ·rw[e1]
   unfold jE at h1;split at h1
   ·cases ag with
    |true=>cases h1
    | false =>
     rw[aB.cells hv];simp
   ·cases ag with
    |false=>cases h1
    | true =>
     obtain⟨us,e,-⟩:=hv;rw[e];simp[Value.cells]
   ·cases h1
 | (ag, ss) :: rs, .cell t ty :: vars, A, B, h, hZ => by
  simp only[nU,aA,Qb0,aT,aH,aQ]at h;obtain⟨ti,h0,_,h1,c,hc,h⟩:=h;obtain rfl:=Option.some.inj hc;split at h1
  case isFalse=>cases h1
  rename_i hb;simp only[Qb1,beq_iff_eq,Rbv,Sbe,Rb4]at hb;obtain⟨⟨⟨ql,b7⟩,gA⟩,ht⟩:=hb;split at h
  case h_2=>cases h
  rename_i b off hk;simp only[aA,aQ,Qb7]at h;split at h
  case h_2=>cases h
  rename_i ro ls jj;simp only[aA,Qb0]at h;obtain⟨C,h2,h3⟩:=h;have hv:aB σ ρ G w (.px b off) _:=hR.slot hk rfl;rw[<- Oa0 ht]at hv;simp only[aB]at hv;obtain⟨kf,dm,pB⟩:=hR.box jj
  obtain⟨vs,h4,h5⟩:=kN (σ:=σ) (ρ:=ρ) (G:=G) (w:=w) ((G.bx b).add off) ((ls.drop off).take ti.size) 0 fun j l hj=>by
   rw[List.getElem?_take]at hj;split at hj
   ·rw[Rb3]at hj
    obtain⟨v,h6,-,h7⟩:=pB _ _ hj;exact⟨v,by rw[add_add,Rby];exact h6,h7⟩
   ·cases hj
  have hC:=(Bau h3).trans hZ;obtain⟨h6,h7,h8⟩:=sQ hR aj hG h2 hC h4
  have hlen:vs.length=ti.size:=by
   have cP:∀ {ss:List LR} {vs:List Value} {i q:Nat},oD G'.own w (Z.xs.map (·.val ρ)) nbx i q ss vs->vs.length=ss.length:=by
    intro ss
    induction ss with
    |nil=>intro vs i q h;simp only[oD]at h;subst h;rfl
    | cons s ss ih =>
     intro vs i q h;obtain⟨u,us,rfl,-,h⟩:=h;simp[ih h]
   rw[cP h6,b7]
  obtain⟨info,ud,hf⟩:=aU (hti.ok _ _ h0)
  have b5:∃ v,if ti.agg=true then v=.agg vs.toArray else vs=[v]:=by
   cases qb:ti.agg with
   |true=>exact⟨_,by rw[if_pos rfl]⟩
   | false =>
    rw[qb]at gA;simp only[Qb4,false_or]at gA;rw[gA]at hlen
    match vs,hlen with
    |[v],_=>exact⟨v,by simp⟩
  obtain⟨v,b5⟩:=b5;have pd:=jP hf ((G.bx b).add off) vs hlen (fun j u hj=>by have:=h5 j u hj;rwa[Rby]at this) b5
  have aw:(Dbt a.tmps (.cell t ty)).run P w=.ok v w:=by
   show (do loadVar ty (<- asAddr (a.tmps.getD t undef)):Sem Value).run P w=.ok v w
   rw[hv.1];simp only[asAddr,Sem.run_bind,Sem.run_pure,Result.andThen_ok];exact pd
  obtain⟨e1,e2⟩:=Na7 aw;obtain⟨h9,bo,b9,cL⟩:=Ca9 hti hR aj hG h3 hZ;rw[h7,h8]at bo;refine⟨fun x hx=>?_,⟨_,_,vs,rfl,h6,?_,bo⟩,by rw[b9,h7];simp only[bH];omega,by rw[cL,h8];simp only[qR];omega⟩
  ·rcases List.mem_cons.1 hx with rfl|hx
   ·exact e2
   ·exact h9 x hx
  ·rw[e1,ql];exact b5
theorem Han {t:Nat}:∀ {ms:List Nat} {j:Nat} {A B:Fin},(Ead t j ms A).eval σ=some B->FLe A B
 | [], j, A, B, h => by
  simp only[Ead,aC,Option.some.injEq]at h;subst h;exact .refl _
 | d :: ms, j, A, B, h => by
  simp only[Ead,aA,aQ,Qb7]at h;split at h
  case h_2=>cases h
  rename_i r hk;simp only[aA,aQ,Qb7]at h;split at h
  case h_2=>cases h
  rename_i x m an kc;simp only[aA,Qb0]at h;obtain⟨_,-,h⟩:=h;have h0:FLe A { A with xs:=A.xs++[x],own:=A.own++[(r,2*j+1,d)] }:=⟨⟨_,rfl⟩,fun _ h=>Qb2 _ h,fun _ h=>h,⟨[],by simp⟩,fun _ h=>h⟩;exact h0.trans (Han h)
theorem Ja9 (hR:R E.ntmps F σ ρ a w G)(hG:Va7 Z nbx G G'):∀ {ms:List Nat} {j:Nat} {A B:Fin},(Ead E.ntmps j ms A).eval σ=some B->FLe B Z ->
  Ta4 G'.own w (Z.xs.map (·.val ρ)) F.gh A.xs.length j ms/\B.xs.length=A.xs.length+ms.length/\B.q=A.q
 | [], j, A, B, h, _ => by
  simp only[Ead,aC,Option.some.injEq]at h;subst h;exact⟨trivial,rfl,rfl⟩
 | d :: ms, j, A, B, h, hZ => by
  simp only[Ead,aA,aQ,Qb7]at h;split at h
  case h_2=>cases h
  rename_i r hk;simp only[aA,aQ,Qb7]at h;split at h
  case h_2=>cases h
  rename_i x m an kc;simp only[aA,Qb0,aH]at h;obtain⟨_,h0,h⟩:=h;split at h0
  case isFalse=>cases h0
  rename_i hb;simp only[Sbb]at hb;have hv:aB σ ρ G w (.ex r) _:=hR.slot hk rfl
  have e:Aad E.ntmps a F.gh (E.ntmps+j)=F.gh j:=by
   unfold Aad;rw[if_neg (by omega),Rb1]
  rw[e]at hv;simp only[aB]at hv;have hC:=(Han h).trans hZ;obtain⟨h1,h2,h3⟩:=Ja9 hR hG h hZ;simp only[List.length_append,List.length_singleton]at h1 h2;refine⟨⟨?_,h1⟩,by rw[h2];simp;omega,h3⟩;rw[hC.get (l:=A.xs) rfl,hv.1];have hr:=hR.root kc;simp only[bM]at hr;exact hr.give hG (hC.own _ (Qb5 _ (List.mem_singleton.2 rfl))) hb
theorem sU {t:Nat}:∀ {bs:List (Bool×List (BS×BO))} {b:Nat} {A B:Fin},(pF t A b bs).eval σ=some B->FLe A B
 | [], b, A, B, h => by
  simp only[pF,aC,Option.some.injEq]at h;subst h;exact .refl _
 | (ro, cs) :: bs, b, A, B, h => by
  simp only[pF]at h
  cases ro with
  |true=>exact sU h
  | false =>
   simp only[cond_false,aA,aQ,Qb7]at h;split at h
   ·simp only[aA,aQ,Qb7,Qb0]at h
    obtain⟨_,-,h⟩:=h;split at h
    ·simp only[aA,Qb0]at h
     obtain⟨C,h1,h2⟩:=h;exact (sS h1).trans (sU h2)
    ·cases h
   ·cases h
theorem wF (hR:R E.ntmps F σ ρ a w G)(hG:Va7 Z nbx G G'){nm:Nat}{bx:Nat->Addr}{nb:Nat}(u5:∀ b,b<nb->F.gh (nm+b)=.pointer (some (bx b))):∀ {bs:List (Bool×List (BS×BO))} {b:Nat} {A B:Fin},b+bs.length<=nb->(pF (E.ntmps+nm) A b bs).eval σ=some B->FLe B Z ->
  kX G'.own w (Z.xs.map (·.val ρ)) bx b A.xs.length A.q bs
 |[],b,A,B,_,h,_=>trivial
 | (ro, cs) :: bs, b, A, B, qd, h, hZ => by
  simp only[Rbe]at qd;simp only[pF]at h
  cases ro with
  | true =>
   simp only[kX,if_true];exact wF hR hG u5 (by omega) h hZ
  | false =>
   simp only[kX,Qb4,if_false];simp only[cond_false,aA,aQ,Qb7]at h;split at h
   case h_2=>cases h
   rename_i b' hk;simp only[aA,aQ,Qb7,Qb0,aH]at h;obtain⟨_,h0,h⟩:=h;split at h0
   case isFalse=>cases h0
   rename_i hb;simp only[Rbv]at hb;subst hb;split at h
   case h_2=>cases h
   rename_i ls jj;simp only[aA,Qb0]at h;obtain⟨C,h1,h2⟩:=h;have hv:aB σ ρ G w (.px b' 0) _:=hR.slot hk rfl
   have e:Aad E.ntmps a F.gh (E.ntmps+nm+b')=F.gh (nm+b'):=by
    unfold Aad;rw[if_neg (by omega)];congr 1;omega
   rw[e,u5 b' (by omega)]at hv;simp only[aB]at hv
   have cT:bx b'=G.bx b':=by
    have:=hv.1
    injection this with this
    injection this
   obtain⟨h5,h6,h7⟩:=hR.box jj;obtain⟨h8,h9,bo⟩:=wE hR hG (ad:=G.bx b') (off:=0) h1 ((sU h2).trans hZ) fun j l hj=>by rw[Rby];exact h7 j l hj
   have b9:=wF hR hG u5 (b:=b'+1) (by omega) h2 hZ;rw[h9,bo,Rbh]at b9;rw[cT];exact⟨h8,b9⟩
end
theorem Ba1:∀ {l:List (Nat×Nat×Nat)} {r t m:Nat},distinct (l.map (·.1))=true->(r,t,m)∈l->l.find? (fun z=>Nat.beq z.1 r)=some (r,t,m)
 |[],r,t,m,_,h=>by simp at h
 | (r', t', m') :: l, r, t, m, hd, h => by
  simp only[Rbt,distinct,Qb1,Rbp]at hd
  rcases List.mem_cons.1 h with h1|h1
  ·obtain⟨rfl,rfl,rfl⟩:r=r'/\t=t'/\m=m':=by simpa using h1
   simp
  ·have bh:Nat.beq r' r=false:=by
    cases e:Nat.beq r' r with
    |false=>rfl
    | true =>
     simp only[Rbv]at e;subst e;have:has (l.map (·.1)) r'=true:=lL.2 (List.mem_map.2 ⟨_,h1,rfl⟩);rw[hd.1]at this;cases this
   rw[List.find?_cons_of_neg (by simp[bh])];exact Ba1 hd.2 h1
def Maa (Z:Fin)(nbx:Nat)(G:Gh):Gh:={ G with own:=fun b=>match G.own b with
 | .slc r p => (match Z.own.find? (fun z => Nat.beq z.1 r) with
  |some (_,t,m)=>if p.length<m then .slc t p else .frz
  |none=>if r∈Z.frz then .frz else .oth)
 |.box β=>if β<nbx then .box β else if β∈Z.bxs then .box nbx else .oth
 |o=>o }
theorem Cbc {Z:Fin}{nbx:Nat}{G:Gh}(hd:distinct (Z.own.map (·.1))=true)(hm:meets (Z.own.map (·.1)) Z.frz=false)(hb:(Z.bxs.any fun b=>Nat.blt b nbx)=false):Va7 Z nbx G (Maa Z nbx G):=by
 refine⟨fun b hb=>by simp only[Maa,hb],fun r t m hz b p hb=>?_,fun r hr b p hb=>?_,fun β hβ b hbb=>?_⟩
 ·simp only[Maa,hb,Ba1 hd hz]
 ·have:Z.own.find? (fun z=>Nat.beq z.1 r)=none:=by
   rw[List.find?_eq_none];intro z hz e;simp only[Rbv]at e;exact nH hm (List.mem_map.2 ⟨z,hz,rfl⟩) (by rw[e];exact hr)
  simp only[Maa,hb,this,if_pos hr]
 ·rw[Tbv]at hb
  have:=hb β hβ;simp only[Rb4]at this;simp only[Maa,hbb,if_neg this,if_pos hβ]
section
variable {P:Program} {E:Env} {F:bE} {ρ:List D} {cf:Nat->List D->Option (List D)}
theorem Vao (hti:uO P E.ti){s:Sig}{tv:List ResultVar}{st:St}{t:Tm St}(h:finish E s tv st=some t){o:Out St}(ho:Ec cf t ρ=some o)(hl:ρ.length=st.nv)(hi:Cad E st) :
  o.kind=.ret/\∀ a w G (fn:Func) (bx:Nat->Addr),fn.results.toList=tv->(∀ b,b<s.boxes.length->F.gh ((dN (s.params.flatMap (·.2))).length+b)=.pointer (some (bx b))) ->
   (∀ b j,b<F.w0.heap.size->F.own0 b=.box j->j<s.boxes.length)->R E.ntmps F st.get ρ a w G ->
   ∃ v,(results fn a.tmps).run P w=.ok v w/\Ma0 s F bx v w o.vals:=by
 unfold finish at h;split at h
 case h_2=>cases h
 rename_i Z hZ;generalize hb:(distinct (Z.own.map (·.1))&&!(meets (Z.own.map (·.1)) Z.frz)&&!(Z.bxs.any fun b=>Nat.blt b s.boxes.length)&&dV st.nv Z.lets)=b at h
 cases b with
 |false=>cases h
 | true =>
  rw[cond_true]at h;obtain rfl:=Option.some.inj h;simp only[Qb1,Rbp]at hb;obtain⟨⟨⟨kf,dm⟩,pB⟩,hb4⟩:=hb;obtain⟨ds,h4,h5,h6⟩:=uR (g:=none) rfl (by rw[hl];exact hb4) ho;rw[fD]at h5;obtain rfl:=Option.some.inj h5;refine⟨rfl,fun a w G fn bx hfn u5 mm hR=>?_⟩;have aj:=h6 [];rw[Rbs,hl]at aj;have hR:=hR.ext hi.sc (by omega) ds;have hG:=Cbc (G:=G) kf dm pB;simp only[Dbu,aA,Qb0]at hZ;obtain⟨A,h7,B,h8,h9⟩:=hZ;have hB:=sU h9;have hA:=(Han h8).trans hB;obtain⟨bo,b9,cL,fp⟩:=Ca9 (cf:=cf) hti hR aj hG h7 hA;obtain⟨gj,ij,je⟩:=Ja9 hR hG h8 hB;have h17:=wF hR hG u5 (b:=0) (by omega) h9 (.refl _);simp only[Rbk,Rby]at b9 cL fp;rw[cL]at gj ij;rw[ij,je,fp]at h17;refine⟨Da0 (fn.results.toList.map (Da1 P a.tmps w)),?_,Maa Z s.boxes.length G,_,by rw[hfn],?_,b9,gj,h17⟩
  ·have hm:(fn.results.mapM (Dbt a.tmps)).run P w=.ok (fn.results.map (Da1 P a.tmps w)) w:=yL _ _ _ (by rw[hfn];exact bo)
   have e:results fn a.tmps=(do let vs <- fn.results.mapM (Dbt a.tmps);pure (if h:vs.size=1 then vs[0] else Value.tuple vs)):=rfl;rw[e,Sem.run_bind,hm];simp only[Result.andThen_ok,Sem.run_pure];rw[Waw,Array.toList_map]
  ·refine⟨hR.frame.os,hR.frame.tape,hR.frame.output,hR.frame.size,fun b hb ho=>?_,fun b j hb ho=>?_,fun b hb=>?_⟩
   ·obtain⟨h18,h19⟩:=hR.frame.keep b hb ho
    refine⟨h18,?_⟩
    rcases ho with ho|ho<;>rw[ho]at h19 ⊢<;>simp only[Maa,h19]
   ·obtain⟨h18,h19⟩:=hR.frame.boxes b j hb ho
    refine⟨?_,h19⟩;simp only[Maa,h18,if_pos (mm b j hb ho)]
   ·simp only[Maa,hR.frame.fresh b hb]
end
def Goes (P:Program)(f:Nat)(args:Array Value)(w:World)(K:Value->World->Prop):Prop :=
 ((callFunc f args).run P w=.ok (.enter f args) w/\Calls P f args w fun
  |.returned v,w'=>K v w'
  |_,_=>False)\/∃ v w',(callFunc f args).run P w=.ok (.value v) w'/\K v w'
def tN (P:Program)(T:Nat->Ent)(n key:Nat)(s:Sig):Prop :=
 ∀ vals w G ds di,Za2 s vals w G ds->jJ T n key ds=some di->Goes P s.fn vals.toArray w fun v w'=>Ma0 s (nY s G w) G.bx v w' di
def Cag (P:Program)(X:(Nat->Ow)->World->Prop)(T:Nat->Ent)(n key:Nat)(s:Sig):Prop :=
 ∀ vals w G ds di,Za2 s vals w G ds->X G.own w->jJ T n key ds=some di->Goes P s.fn vals.toArray w fun v w'=>Ma0 s (nY s G w) G.bx v w' di
def Stable (X:(Nat->Ow)->World->Prop):Prop :=
 ∀ (own0:Nat->Ow) (w0:World) (own:Nat->Ow) (w:World),w0.heap.size<=w.heap.size->(∀ b,b<w0.heap.size->own0 b=.frz->w.heap[b]?=w0.heap[b]?/\own b=.frz)->X own0 w0->X own w
theorem gP {P : Program} {f : FuncId} {fn : Func} {c : Code} (hf : P.funcs[f]? = some fn) (hname : (fn.name == "runtime.NumGoroutine") = false) (hb : fn.body = some c) (args : Array Value) (w : World) :
  (callFunc f args).run P w=.ok (.enter f args) w:=by
 have h1 : fn.name ≠ "runtime.NumGoroutine" := by simpa using hname
 simp[callFunc,hf,h1,hb]
theorem Xag:∀ (ss:List LS) (r:Nat),(dW r ss).length=(dN ss).length
 |[],r=>rfl
 | s :: ss, r => by
  cases s<;>simp[dW,dN,Xag ss]
theorem Oad:∀ (n a j:Nat),j<n->(range a n)[j]?=some (a+j)
 |0,a,j,h=>by omega
 |n+1,a,0,h=>rfl
 | n + 1, a, j + 1, h => by
  simp only[range,Rb7];rw[Oad n (a+1) j (by omega)];congr 1;omega
theorem Zao {s:Sig}{G:Gh}{w:World}{b:Nat}(h:b<s.boxes.length):(nY s G w).gh ((dN (s.params.flatMap (·.2))).length+b)=.pointer (some (G.bx b)):=by
 simp only[nY,Hae,Qb8];rw[Rbl (by simp[Xag]),Rbh,Xag,Rb1,Rbr,Oad _ _ _ h];simp
theorem La7 {P : Program} {X : (Nat -> Ow) -> World -> Prop} {E : Env} {T : Nat -> Ent} {n key : Nat} {s : Sig} {fn : Func} {tm : Tm Unit} (hti : uO P E.ti) (hm : P.follows .mixedOrders = true) (hfn : P.funcs[s.fn]? = some fn) (hname : (fn.name == "runtime.NumGoroutine") = false)
  (hx:Uai E s fn=some tm) (hT:T key=.tm tm) (bl:∀ F,X F.own0 F.w0->Aac P { E with ntmps:=fn.ntmps,ngh:=mD s,nbx:=s.boxes.length } F (jJ T n)):Cag P X T (n+1) key s:=by
 intro vals w G ds di bp hX aw;simp only[jJ,hT,Qb0]at aw;obtain⟨o,aw,sa⟩:=aw;unfold Ebt at sa;split at sa
 case isFalse=>cases sa
 rename_i hk;obtain rfl:=Option.some.inj sa;unfold Uai at hx;split at hx
 case h_1=>cases hx
 rename_i c hbody
 cases hle:Nat.ble s.params.length fn.ntmps with
 |false=>rw[hle]at hx;cases hx
 | true =>
  rw[hle]at hx;simp only[Bool.not_true,cond_false,bind,Qb0,Option.some.injEq]at hx;obtain⟨tc,wg,t,ht,rfl⟩:=hx;simp only[Sbb]at hle;rw[Uax,Option.map_eq_some_iff]at aw;obtain⟨o0,aw,rfl⟩:=aw;have hev:Ec (jJ T n) t ds=some o0:=Iad.2 ⟨n,aw⟩
  obtain⟨o1,h1,h2⟩:=kI (fun st r hr ρ o ho=>by
   split at hr
   ·rename_i t' hf
    obtain rfl:=Option.some.inj hr;unfold finish at hf;split at hf
    case h_2=>cases hf
    rename_i Z hZ
    revert hf
    generalize (distinct (Z.own.map (·.1))&&!(meets (Z.own.map (·.1)) Z.frz)&&!(Z.bxs.any fun b=>Nat.blt b s.boxes.length)&&dV st.nv Z.lets)=b;intro hf
    cases b with
    |false=>cases hf
    | true =>
     rw[cond_true]at hf;obtain rfl:=Option.some.inj hf;exact lD ho
   ·obtain rfl:=Option.some.inj hr
    rw[iL]at ho;cases ho) rfl (fun _=>rfl) ht hev
  rcases h2 with ⟨h2,h3,r,h4,h5⟩|⟨h2,h3⟩
  case inr =>
   subst h3;have fy:o0.kind=.ret:=hk;rw[fy]at h2;cases h2
  unfold Dbi at wg;dsimp only at wg;generalize ic:Faq (entry s fn.ntmps) (entry s fn.ntmps).nr _=b at wg
  cases b with
  |false=>simp[jI]at wg
  | true =>
   rw[cond_true]at wg;have hinv:Cad { E with ntmps:=fn.ntmps,ngh:=mD s,nbx:=s.boxes.length } (entry s fn.ntmps):=Yat ic rfl;obtain⟨hlen,hR⟩:=Fbk (n:=fn.ntmps) bp hle;have kt:ds.length=(entry s fn.ntmps).nv:=by rw[(Dab s fn.ntmps).1];exact bp.len
   obtain⟨hp,hw⟩:=pO (E:={ E with ntmps:=fn.ntmps,ngh:=mD s,nbx:=s.boxes.length }) (F:=nY s G w) (fun x j hx ho=>(bp.cells x j hx ho).1) hti (bl _ hX) hm c wg h1 kt hinv;refine .inl ⟨gP hfn hname hbody _ _,?_⟩;refine calls_of_wp hfn hbody ?_;rw[show vals.toArray.size=vals.length by simp];refine hw _ w G _ hR fun a' w' G' eu=>?_
   split at h4
   case h_2 =>
    obtain rfl:=Option.some.inj h4;rw[iL]at h5;cases h5
   rename_i t' hf;obtain rfl:=Option.some.inj h4;obtain⟨h6,h7⟩:=Vao (E:={ E with ntmps:=fn.ntmps,ngh:=mD s,nbx:=s.boxes.length }) (F:=nY s G w) hti hf h5 hp.len hp.inv;obtain⟨v,h8,h9⟩:=h7 a' w' G' fn G.bx rfl (fun b hb=>Zao hb) (fun b j hb ho=>(bp.cells b j hb ho).1) eu;have hd:=eu.defers
   revert h2
   cases o1.kind with
   |fall=>exact fun _=>⟨hd,v,h8,h9⟩
   |ret=>exact fun _=>⟨hd,v,h8,h9⟩
   |exit i=>intro h;cases h
   |cont=>intro h;cases h
   |yield i=>intro h;cases h
def strip:List Nat->List Nat->Option (List Nat)
 |[],p=>some p
 |a::q,b::p=>if a=b then strip q p else none
 |_::_,[]=>none
theorem Daw:∀ (q t:List Nat),strip q (q++t)=some t
 |[],t=>rfl
 |a::q,t=>by simp[strip,Daw q t]
theorem Jab:∀ {q p t:List Nat},strip q p=some t->p=q++t
 |[],p,t,h=>by simpa[strip] using h
 |a::q,[],t,h=>by simp[strip]at h
 | a :: q, b :: p, t, h => by
  simp only[strip]at h;split at h
  ·rename_i e
   rw[e,Jab h];rfl
  ·cases h
def Xae (w:World):Value->List Nat->Value
 |v,[]=>v
 |.slice (some a) _ _,k::p=>Xae w ((w.cell? (a.add k)).getD undef) p
 |_,_::_=>undef
theorem Cay {own:Nat->Ow}{w:World}{r:Nat}:∀ {p q:List Nat} {v u:Value},yG own w r q v p u->Xae w v p=u
 |[],q,v,u,h=>by simp only[yG]at h;rw[h];cases v<;>rfl
 | k :: p, q, v, u, h => by
  obtain⟨a,n,c,u',rfl,-,h2,h3⟩:=h;simp only[Xae,h2,Sbv];exact Cay h3
section
variable (ρ:List D) (dr:List Nat)
def lH:Nat->List RT->Nat->List Nat->Ow
 |_,[],r,_=>if r∈dr then .frz else .oth
 |ν,.nil::t,r,p=>lH (ν+1) t r p
 |ν,.own s d::t,r,p=>if r=s then (if p.length<d then .slc ν p else .frz) else lH (ν+1) t r p
 |ν,.mu s d q _::t,r,p=>if r=s then (match strip (aZ ρ q) p with | some t'=>if t'.length<d then .slc ν t' else .frz | none=>.oth) else lH (ν+1) t r p
end
def Qav (ptrs:List (Nat×Nat×Nat))(c:Nat):Nat->List (Bool×List (BS×BO))->Option Nat
 |_,[]=>none
 | b, (ro, _) :: r => if ro = true then Qav ptrs c (b + 1) r else match nE b ptrs with
  |some (c',_)=>if c'=c then some b else Qav ptrs c (b+1) r
  |none=>Qav ptrs c (b+1) r
def Hbu (ρ:List D)(G:Gh)(w:World):RT->Value
 |.nil=>.slice none 0 0
 |.own r _=>G.hdr r
 |.mu r _ q _=>Xae w (G.hdr r) (aZ ρ q)
def callG (ρ:List D)(G:Gh)(w:World)(s:Sig)(Z:Take):Gh:={
 own:=fun b=>match G.own b with
  |.slc r p=>lH ρ (Z.deps.map (·.1)) 0 Z.rts r p
  | .box c => (match Qav Z.ptrs c 0 s.boxes with
   |some j=>if b=(G.bx c).block then .box j else .oth
   |none=>.oth)
  |o=>o
 hdr:=fun ν=>((Z.rts[ν]?).map (Hbu ρ G w)).getD undef
 bx:=fun b=>match nE b Z.ptrs with
  |some (c,off)=>(G.bx c).add off
  |none=>⟨0,0,none⟩ }
theorem qG {ρ:List D}{dr:List Nat}{r:Nat}{p:List Nat}:∀ {rts:List RT} {ν:Nat},r∉bV rts->lH ρ dr ν rts r p=if r∈dr then .frz else .oth
 |[],ν,h=>rfl
 |.nil::t,ν,h=>qG (rts:=t) h
 | .own s d :: t, ν, h => by
  simp only[bV,Rb2,not_or]at h;simp only[lH,if_neg h.1];exact qG h.2
 | .mu s d q X :: t, ν, h => by
  simp only[bV,Rb2,not_or]at h;simp only[lH,if_neg h.1];exact qG h.2
theorem rX:∀ {rts:List RT} {ν r:Nat},(∃ d,rts[ν]?=some (.own r d))\/(∃ d q X,rts[ν]?=some (.mu r d q X))->r∈bV rts
 |[],ν,r,h=>by simp at h
 | x :: t, 0, r, h => by
  simp only[Qb9,Option.some.injEq]at h
  rcases h with ⟨d,rfl⟩|⟨d,q,X,rfl⟩<;>exact Rbj
 | x :: t, ν + 1, r, h => by
  have:=rX (rts:=t) (ν:=ν) (r:=r) (by simpa using h)
  cases x with
  |nil=>exact this
  |own s d=>exact Rbd _ this
  |mu s d q X=>exact Rbd _ this
theorem Aav {ρ:List D}{dr:List Nat}{r d:Nat}{p:List Nat}:∀ {rts:List RT} {cX ν:Nat},distinct (bV rts)=true->rts[ν]?=some (.own r d)->lH ρ dr cX rts r p=if p.length<d then .slc (cX+ν) p else .frz
 |[],cX,ν,_,h=>by simp at h
 | x :: t, cX, 0, hd, h => by
  simp only[Qb9,Option.some.injEq]at h;subst h;simp[lH]
 | x :: t, cX, ν + 1, hd, h => by
  simp only[Rb7]at h;have hm:=rX (.inl ⟨d,h⟩)
  cases x with
  | nil =>
   simp only[lH];rw[Aav (rts:=t) hd h,show cX+1+ν=cX+(ν+1) by omega]
  | own s d' =>
   simp only[bV,distinct,Qb1,Rbp]at hd;have bh:r≠s:=fun e=>by rw[e,<- lL,hd.1]at hm;cases hm
   simp only[lH,if_neg bh];rw[Aav hd.2 h,show cX+1+ν=cX+(ν+1) by omega]
  | mu s d' q X =>
   simp only[bV,distinct,Qb1,Rbp]at hd;have bh:r≠s:=fun e=>by rw[e,<- lL,hd.1]at hm;cases hm
   simp only[lH,if_neg bh];rw[Aav hd.2 h,show cX+1+ν=cX+(ν+1) by omega]
theorem Fab {ρ:List D}{dr:List Nat}{r d:Nat}{q:List (aI×Nat×Nat)}{X:aI}{p:List Nat}:∀ {rts:List RT} {cX ν:Nat},distinct (bV rts)=true->rts[ν]?=some (.mu r d q X) ->
  lH ρ dr cX rts r p=match strip (aZ ρ q) p with|some t'=>if t'.length<d then .slc (cX+ν) t' else .frz|none=>.oth
 |[],cX,ν,_,h=>by simp at h
 | x :: t, cX, 0, hd, h => by
  simp only[Qb9,Option.some.injEq]at h;subst h;simp[lH]
 | x :: t, cX, ν + 1, hd, h => by
  simp only[Rb7]at h;have hm:=rX (.inr ⟨d,q,X,h⟩)
  cases x with
  | nil =>
   simp only[lH];rw[Fab (rts:=t) hd h,show cX+1+ν=cX+(ν+1) by omega]
  | own s d' =>
   simp only[bV,distinct,Qb1,Rbp]at hd;have bh:r≠s:=fun e=>by rw[e,<- lL,hd.1]at hm;cases hm
   simp only[lH,if_neg bh];rw[Fab hd.2 h,show cX+1+ν=cX+(ν+1) by omega]
  | mu s d' q' X' =>
   simp only[bV,distinct,Qb1,Rbp]at hd;have bh:r≠s:=fun e=>by rw[e,<- lL,hd.1]at hm;cases hm
   simp only[lH,if_neg bh];rw[Fab hd.2 h,show cX+1+ν=cX+(ν+1) by omega]
structure TLe (A B:Take):Prop where
 xs:∃ l,B.xs=A.xs++l
 ptrs:∀ z∈A.ptrs,z∈B.ptrs
 deps:∀ z∈A.deps,z∈B.deps
 lets:∃ l,B.lets=A.lets++l
 rts:∃ l,B.rts=A.rts++l
theorem TLe.refl (A:Take):TLe A A:=⟨⟨[],by simp⟩,fun _ h=>h,fun _ h=>h,⟨[],by simp⟩,⟨[],by simp⟩⟩
theorem TLe.trans {A B C:Take}(h:TLe A B)(h':TLe B C):TLe A C:=by
 obtain⟨⟨l,h1⟩,h2,h3,⟨m,h4⟩,⟨k,h5⟩⟩:=h;obtain⟨⟨l',tW⟩,sf,ua,⟨m',so⟩,⟨k',ru⟩⟩:=h';exact⟨⟨l++l',by rw[tW,h1,Rba]⟩,fun z hz=>sf z (h2 z hz),fun z hz=>ua z (h3 z hz),⟨m++m',by rw[so,h4,Rba]⟩,⟨k++k',by rw[ru,h5,Rba]⟩⟩
theorem TLe.get {A B:Take}(h:TLe A B){ρ:List D}{x:aI}{l:List aI}(hx:A.xs=l++[x]):(aI.v l.length).val (B.xs.map (·.val ρ))=x.val ρ:=by
 obtain⟨m,h1⟩:=h.xs;rw[h1,hx];simp only[aI.val,Qb8];simp
theorem TLe.rt {A B:Take}(h:TLe A B){x:RT}{l:List RT}(hx:A.rts=l++[x]):B.rts[l.length]?=some x:=by
 obtain⟨m,h1⟩:=h.rts;rw[h1,hx];simp
structure Kah (s:Sig) (Z:Take):Prop where
 ptrs:∀ b c off,(b,c,off)∈Z.ptrs->b<s.boxes.length/\nE b Z.ptrs=some (c,off)
 dist:distinct (bV Z.rts)=true
 deps:∀ z∈Z.deps,z.1∉bV Z.rts
 wr:distinct (iA false Z.ptrs 0 s.boxes)=true
 ro:meets (iA false Z.ptrs 0 s.boxes) (iA true Z.ptrs 0 s.boxes)=false
theorem Gal {nbx:Nat}{ptrs:List (Nat×Nat×Nat)}:∀ {l:List (Nat×Nat×Nat)},Sa3 nbx ptrs l=true->∀ b c off,(b,c,off)∈l->b<nbx/\nE b ptrs=some (c,off)
 |[],_,b,c,off,h=>by simp at h
 | (b', c', gk) :: l, h, b, c, off, hm => by
  simp only[Sa3,Qb1,Rb4]at h
  rcases List.mem_cons.1 hm with e|hm
  ·obtain⟨rfl,rfl,rfl⟩:b=b'/\c=c'/\off=gk:=by simpa using e
   refine⟨h.1.1,?_⟩;have h2:=h.1.2;split at h2
   ·rename_i e
    simp only[Qb1,Rbv]at h2;rw[e,h2.1,h2.2]
   ·cases h2
  ·exact Gal h.2 b c off hm
theorem Qae {s:Sig}{Z:Take}(h:Waf s Z=true):Kah s Z:=by
 simp only[Waf,Qb1,Rbp]at h;obtain⟨⟨⟨⟨h1,h2⟩,h3⟩,h4⟩,h5⟩:=h;refine⟨Gal h1,h2,fun z hz hm=>?_,h4,h5⟩;rw[Tbv]at h3;exact h3 z hz (lL.2 hm)
section
variable {E:Env} {F:bE} {σ:Nat->Option aP} {ρ:List D} {a:Act} {w:World} {G:Gh} {g:Option (aI×Bool)} {cf:Nat->List D->Option (List D)} {s:Sig} {Z:Take} {nv:Nat}
theorem nX {b:Nat}(h:G.own b=.frz):(callG ρ G w s Z).own b=.frz:=by simp only[callG,h]
theorem Zan (hk:Kah s Z){b r k:Nat}{p:List Nat}(hz:(r,k)∈Z.deps)(h:G.own b=.slc r p):(callG ρ G w s Z).own b=.frz:=by
 simp only[callG,h];rw[qG (hk.deps _ hz),if_pos (List.mem_map.2 ⟨_,hz,rfl⟩)]
theorem Zam (hk:Kah s Z){b r d ν:Nat}{p:List Nat}(hz:Z.rts[ν]?=some (.own r d))(h:G.own b=.slc r p):(callG ρ G w s Z).own b=if p.length<d then .slc ν p else .frz:=by
 simp only[callG,h];rw[Aav hk.dist hz,Rby]
theorem Mak (hk:Kah s Z){b r d ν:Nat}{q:List (aI×Nat×Nat)}{X:aI}{p:List Nat}(hz:Z.rts[ν]?=some (.mu r d q X))(h:G.own b=.slc r p) :
  (callG ρ G w s Z).own b=match strip (aZ ρ q) p with|some t'=>if t'.length<d then .slc ν t' else .frz|none=>.oth:=by
 simp only[callG,h];rw[Fab hk.dist hz,Rby]
theorem Ba8 {ν:Nat}{x:RT}(h:Z.rts[ν]?=some x):(callG ρ G w s Z).hdr ν=Hbu ρ G w x:=by
 simp only[callG,h];rfl
theorem Rd.callG (hk:Kah s Z){deps:List (Nat×Nat)}(hd:∀ z∈deps,z∈Z.deps){v:Value}{d:D}(h:Rd (allow G deps) w v d):Rd (fun b=>(Go.Proofs.YtpgnlmfmlffjcaaGreat.Rf.callG ρ G w s Z).own b=.frz) w v d:=by
 refine h.mono fun b hb=>⟨?_,rfl⟩
 rcases hb with hb|⟨r,k,p,hm,hb⟩
 ·exact nX hb
 ·exact Zan hk (hd _ hm) hb
theorem Uad (hg:gOn ρ g=true){A B:Take}{l:aO}(h:(Ma8 g A l).eval σ=some B){v:Value}(hl:aB σ ρ G w l v) :
  ∃ x,B={ A with xs:=A.xs++[x] }/\Sc v (x.val ρ):=by
 simp only[Ma8,aA,Qb0,aT,aC,Option.some.injEq]at h;obtain⟨x,h1,rfl⟩:=h;exact⟨x,rfl,jC hg h1 hl⟩
theorem Nac {A B:Take}{nie:Bool}{l:aO}(h:(qA A nie l).eval σ=some B):TLe A B:=by
 simp only[qA,aA,Qb0,aC,Option.some.injEq]at h;obtain⟨s,h1,rfl⟩:=h;exact⟨⟨_,rfl⟩,fun _ h=>h,fun _ h=>Qb2 _ h,⟨_,rfl⟩,⟨[],by simp⟩⟩
theorem Ia8 (hR:R E.ntmps F σ ρ a w G)(hg:gOn ρ g=true)(aj:aL cf ρ g nv Z.lets)(hk:Kah s Z){A B:Take}{nie:Bool}{l:aO}(h:(qA A nie l).eval σ=some B)(hZ:TLe B Z){v:Value}(hl:aB σ ρ G w l v) :
  Rd (fun b=>(callG ρ G w s Z).own b=.frz) w v ((aI.v A.xs.length).val (Z.xs.map (·.val ρ)))/\(nie=true->∀ z,(aI.v A.xs.length).val (Z.xs.map (·.val ρ))=.rows z []->v=.slice none 0 0) /\
  B.xs.length=A.xs.length+1/\B.rts=A.rts:=by
 simp only[qA,aA,Qb0,aC,Option.some.injEq]at h;obtain⟨sl,h1,rfl⟩:=h;have hs:=dM hR h1 hl;rw[hZ.get (l:=A.xs) rfl];refine⟨hs.rd.callG hk fun z hz=>hZ.deps _ (Qb5 _ hz),fun hn z hz=>?_,by simp,rfl⟩
 cases xd:sl.nie with
 |true=>exact hs.nie xd z hz
 | false =>
  exfalso;obtain⟨lr,ym⟩:=hZ.lets;dsimp only at ym;rw[ym,hn,xd]at aj;simp only[Bool.not_false,Bool.and_self,cond_true]at aj;rw[Rba]at aj;have jd:=(aL.append (aL.append aj).2).1;obtain⟨ds,h2,-,-⟩:=step1 jd hg;simp only[Rbt,Rbz,hz,aR.run]at h2;simp at h2
theorem Ma9 {A B:Take}{d:Nat}{l:aO}(h:(tT A d l).eval σ=some B):TLe A B:=by
 unfold tT at h;split at h
 ·simp only[aA,aQ,Qb7]at h
  split at h
  ·simp only[aA,aH,Qb0,aC,Option.some.injEq]at h
   obtain⟨_,-,rfl⟩:=h;exact⟨⟨_,rfl⟩,fun _ h=>h,fun _ h=>h,⟨[],by simp⟩,⟨_,rfl⟩⟩
  ·cases h
 ·simp only[aC,Option.some.injEq]at h
  subst h;exact⟨⟨_,rfl⟩,fun _ h=>h,fun _ h=>h,⟨[],by simp⟩,⟨_,rfl⟩⟩
 ·cases h
theorem Ia5 (hR:R E.ntmps F σ ρ a w G)(hk:Kah s Z){A B:Take}{d:Nat}{l:aO}(h:(tT A d l).eval σ=some B)(hZ:TLe B Z){v:Value}(hl:aB σ ρ G w l v) :
  v=(callG ρ G w s Z).hdr A.rts.length/\Rp (callG ρ G w s Z).own w A.rts.length [] d v ((aI.v A.xs.length).val (Z.xs.map (·.val ρ)))/\B.xs.length=A.xs.length+1/\B.rts.length=A.rts.length+1:=by
 unfold tT at h;split at h
 ·rename_i r
  simp only[aA,aQ,Qb7]at h;split at h
  ·rename_i x m an kc
   simp only[aA,aH,Qb0,aC,Option.some.injEq]at h;obtain⟨_,h1,rfl⟩:=h;split at h1
   case isFalse=>cases h1
   rename_i hb;simp only[Sbb]at hb;simp only[aB]at hl;have kd:=hZ.rt (l:=A.rts) rfl;rw[hZ.get (l:=A.xs) rfl];refine⟨by rw[Ba8 kd];exact hl.1,?_,by simp,by simp⟩;rw[hl.1];have hr:=hR.root kc;simp only[bM]at hr;exact hr.move (fun b hb _=>⟨nX hb,rfl⟩) [] d hb fun b t hb=>⟨by rw[Zam hk kd hb];rfl,rfl⟩
  ·cases h
 ·rename_i nie z
  simp only[aC,Option.some.injEq]at h;subst h;simp only[aB]at hl;have hv:=(hl.2 (by simp)).2.1 trivial z rfl;have kd:=hZ.rt (l:=A.rts) rfl;rw[hZ.get (l:=A.xs) rfl];refine⟨by rw[Ba8 kd];exact hv,?_,by simp,by simp⟩;rw[hv]
  cases d with
  |zero=>exact .fz (.rows none ⟨0,0,none⟩ 0 0 z [] (fun _ _=>undef) rfl (Rbg _) (.inl rfl) (by simp) (by simp) (by simp))
  |succ m=>exact .sl none ⟨0,0,none⟩ 0 0 z [] (fun _ _=>undef) rfl (Rbg _) (.inr ⟨rfl,rfl⟩) (by simp) (fun e=>by cases e) (by simp) (by simp)
 ·cases h
theorem Wag {A B:Take}{d:Nat}{l:aO}(h:(Ia7 A d l).eval σ=some B):TLe A B:=by
 simp only[Ia7,aA,Qb0]at h;obtain⟨sl,h1,h⟩:=h;split at h
 ·simp only[aA,aH,aQ,Qb7,Qb0]at h
  obtain⟨_,-,h⟩:=h;split at h
  ·simp only[aC,Option.some.injEq]at h
   subst h;exact⟨⟨_,rfl⟩,fun _ h=>h,fun _ h=>h,⟨[],by simp⟩,⟨_,rfl⟩⟩
  ·cases h
 ·cases h
theorem Uag (hR:R E.ntmps F σ ρ a w G)(hk:Kah s Z){A B:Take}{d:Nat}{l:aO}(h:(Ia7 A d l).eval σ=some B)(hZ:TLe B Z){v:Value}(hl:aB σ ρ G w l v) :
  v=(callG ρ G w s Z).hdr A.rts.length/\Rp (callG ρ G w s Z).own w A.rts.length [] d v ((aI.v A.xs.length).val (Z.xs.map (·.val ρ)))/\B.xs.length=A.xs.length+1/\B.rts.length=A.rts.length+1:=by
 simp only[Ia7,aA,Qb0]at h;obtain⟨sl,h1,h⟩:=h;have hs:=dM hR h1 hl;split at h
 case h_2=>cases h
 rename_i r k m q ho;simp only[aA,aH,aQ,Qb7,Qb0]at h;obtain⟨_,h2,h⟩:=h;split at h2
 case isFalse=>cases h2
 rename_i hb;simp only[Sbb]at hb;split at h
 case h_2=>cases h
 rename_i X m' v' kc;simp only[aC,Option.some.injEq]at h;subst h;have ab:=hs.own;unfold uI at ab;rw[ho]at ab;obtain⟨h3,h4,h5,h6,h7⟩:=ab;have kd:=hZ.rt (l:=A.rts) rfl;rw[hZ.get (l:=A.xs) rfl];refine⟨by rw[Ba8 kd];exact (Cay h7).symm,?_,by simp,by simp⟩;refine h6.move (fun b hb _=>⟨nX hb,rfl⟩) [] d (by omega) fun b t hb=>⟨?_,rfl⟩
 rw[Mak hk kd hb,Daw];rfl
theorem Wae {A B:Take}{z:Nat}{l:aO}(h:(Faw A z l).eval σ=some B):TLe A B:=by
 unfold Faw at h;split at h
 ·simp only[aA,Qb0,aC,Option.some.injEq]at h
  obtain⟨_,-,rfl⟩:=h;exact⟨⟨_,rfl⟩,fun _ h=>h,fun _ h=>Qb2 _ h,⟨[],by simp⟩,⟨[],by simp⟩⟩
 ·simp only[aC,Option.some.injEq]at h
  subst h;exact⟨⟨_,rfl⟩,fun _ h=>h,fun _ h=>h,⟨[],by simp⟩,⟨[],by simp⟩⟩
 ·cases h
theorem Uae (hR:R E.ntmps F σ ρ a w G)(hk:Kah s Z){A B:Take}{z:Nat}{l:aO}(h:(Faw A z l).eval σ=some B)(hZ:TLe B Z){v:Value}(hl:aB σ ρ G w l v) :
  v.oneCell'=true/\Zau (fun b=>(callG ρ G w s Z).own b=.frz) w v ((aI.v A.xs.length).val (Z.xs.map (·.val ρ)))/\B.xs.length=A.xs.length+1/\B.rts=A.rts:=by
 unfold Faw at h;split at h
 ·rename_i deps ll x
  simp only[aA,Qb0,aC,Option.some.injEq]at h;obtain⟨ds,h1,rfl⟩:=h;simp only[aB]at hl;obtain⟨h3,h4,h5⟩:=iG h1;rw[hZ.get (l:=A.xs) rfl];refine⟨hl.1.1,?_,by simp,rfl⟩
  rcases hl.2 h3 with h6|⟨ad,row,h6,h7,h8⟩
  ·exact .inl h6
  ·exact .inr ⟨ad,row,h6,h7,(h8.drop hR h5).callG hk fun z hz=>hZ.deps _ (Qb5 _ hz)⟩
 ·simp only[aC,Option.some.injEq]at h
  subst h;simp only[aB]at hl;rw[hZ.get (l:=A.xs) rfl];exact⟨by rw[hl];rfl,.inl ⟨hl,_,rfl⟩,by simp,rfl⟩
 ·cases h
theorem Pat (hk:Kah s Z){b c off:Nat}(h:(b,c,off)∈Z.ptrs):(callG ρ G w s Z).bx b=(G.bx c).add off/\b<s.boxes.length:=by
 obtain⟨h1,h2⟩:=hk.ptrs b c off h;refine⟨?_,h1⟩;simp only[callG,h2]
theorem Ba7:∀ {cs:List LS} {ls:List aO} {acc l:List (Nat×Nat×Nat)},iV cs ls acc=some l->∀ z∈acc,z∈l
 | [], [], acc, l, h, z, hz => by
  simp only[iV,Option.some.injEq]at h;rw[<- h];exact hz
 |[],_::_,acc,l,h,z,hz=>by simp[iV]at h
 |c::cs,[],acc,l,h,z,hz=>by cases c<;>simp[iV]at h
 | c :: cs, x :: ls, acc, l, h, z, hz => by
  cases c<;>cases x<;>simp only[iV,reduceCtorEq]at h
  exact Ba7 h z (Rbd _ hz)
theorem Ba6 (hk:Kah s Z):∀ {cs:List LS} {ls:List aO} {acc l:List (Nat×Nat×Nat)},iV cs ls acc=some l->(∀ z∈l,z∈Z.ptrs)->∀ {vs:List Value},aD σ ρ G w ls vs->wS (callG ρ G w s Z) s.boxes.length cs vs
 |[],[],acc,l,h,_,vs,hl=>by simpa[wS,aD] using hl
 |[],_::_,acc,l,h,_,_,_=>by simp[iV]at h
 |c::cs,[],acc,l,h,_,_,_=>by cases c<;>simp[iV]at h
 | c :: cs, x :: ls, acc, l, h, hz, vs, hl => by
  cases c<;>cases x<;>simp only[iV,reduceCtorEq]at h
  rename_i b c off;simp only[aD]at hl;obtain⟨u,us,rfl,h1,h2⟩:=hl;obtain⟨h3,h4⟩:=Pat (ρ:=ρ) (G:=G) (w:=w) hk (hz _ (Ba7 h _ Rbj));simp only[aB]at h1;exact⟨u,us,rfl,⟨by rw[h3];exact h1.1,h4⟩,Ba6 hk h hz h2⟩
theorem Qaf {A B:Take}{t:LS}{l:aO}(h:(rH g A t l).eval σ=some B):TLe A B:=by
 unfold rH at h;split at h
 ·simp only[Ma8,aA,Qb0,aC,Option.some.injEq]at h
  obtain⟨x,-,rfl⟩:=h;exact⟨⟨_,rfl⟩,fun _ h=>h,fun _ h=>h,⟨[],by simp⟩,⟨[],by simp⟩⟩
 ·exact Nac h
 ·exact Wag h
 ·exact Ma9 h
 ·simp only[aC,Option.some.injEq]at h
  subst h;exact⟨⟨[],by simp⟩,fun _ h=>Qb2 _ h,fun _ h=>h,⟨[],by simp⟩,⟨[],by simp⟩⟩
 ·split at h
  ·rw[gF]at h
   split at h
   ·simp only[aC,Option.some.injEq]at h
    subst h;exact⟨⟨[],by simp⟩,fun _ h=>Qb2 _ h,fun _ h=>h,⟨[],by simp⟩,⟨[],by simp⟩⟩
   ·cases h
  ·cases h
 ·exact Wae h
 ·cases h
theorem Naa (hR:R E.ntmps F σ ρ a w G)(hg:gOn ρ g=true)(aj:aL cf ρ g nv Z.lets)(hk:Kah s Z){A B:Take}{t:LS}{l:aO}(h:(rH g A t l).eval σ=some B)(hZ:TLe B Z){v:Value}(hl:aB σ ρ G w l v) :
  jV (callG ρ G w s Z) w (Z.xs.map (·.val ρ)) s.boxes.length A.xs.length A.rts.length t v/\B.xs.length=A.xs.length+t.cnt/\B.rts.length=A.rts.length+t.rcnt:=by
 unfold rH at h;split at h
 ·obtain⟨x,rfl,h1⟩:=Uad hg h hl
  refine⟨?_,by simp[LS.cnt],rfl⟩;simp only[jV];rw[hZ.get (l:=A.xs) rfl];exact h1
 ·obtain⟨h1,h2,h3,h4⟩:=Ia8 hR hg aj hk h hZ hl
  exact⟨⟨h1,h2⟩,h3,by rw[h4];rfl⟩
 ·obtain⟨h1,h2,h3,h4⟩:=Uag hR hk h hZ hl
  exact⟨⟨h1,h2⟩,h3,h4⟩
 ·obtain⟨h1,h2,h3,h4⟩:=Ia5 hR hk h hZ hl
  exact⟨⟨h1,h2⟩,h3,h4⟩
 ·rename_i b c off
  simp only[aC,Option.some.injEq]at h;subst h;obtain⟨h1,h2⟩:=Pat (ρ:=ρ) (G:=G) (w:=w) hk (hZ.ptrs _ (Qb5 _ (List.mem_singleton.2 rfl)));simp only[aB]at hl;exact⟨⟨by rw[h1];exact hl.1,h2⟩,rfl,rfl⟩
 ·rename_i f cs f' ls
  split at h
  ·rename_i l' hc
   rw[gF]at h;split at h
   ·rename_i hf
    simp only[Rbv]at hf;subst hf;simp only[aC,Option.some.injEq]at h;subst h;simp only[aB]at hl;obtain⟨vs,h1,h2⟩:=hl;exact⟨⟨vs,h1,Ba6 hk hc (fun z hz=>hZ.ptrs _ (Qb5 _ hz)) h2⟩,rfl,rfl⟩
   ·cases h
  ·cases h
 ·obtain⟨h1,h2,h3,h4⟩:=Uae hR hk h hZ hl
  exact⟨⟨h1,h2⟩,h3,by rw[h4];rfl⟩
 ·cases h
theorem rG:∀ {ss:List LS} {ls:List aO} {A B:Take},(bZ g A ss ls).eval σ=some B->TLe A B
 | [], [], A, B, h => by
  simp only[bZ,aC,Option.some.injEq]at h;subst h;exact .refl _
 |[],_::_,A,B,h=>by simp[bZ,bK]at h
 |_::_,[],A,B,h=>by simp[bZ,bK]at h
 | t :: ss, l :: ls, A, B, h => by
  simp only[bZ,aA,Qb0]at h;obtain⟨C,h1,h2⟩:=h;exact (Qaf h1).trans (rG h2)
theorem yI (hR:R E.ntmps F σ ρ a w G)(hg:gOn ρ g=true)(aj:aL cf ρ g nv Z.lets)(hk:Kah s Z):∀ {ss:List LS} {ls:List aO} {A B:Take},(bZ g A ss ls).eval σ=some B->TLe B Z->∀ {vs:List Value},aD σ ρ G w ls vs ->
  rF (callG ρ G w s Z) w (Z.xs.map (·.val ρ)) s.boxes.length A.xs.length A.rts.length ss vs/\B.xs.length=A.xs.length+Va5 ss/\B.rts.length=A.rts.length+jG ss
 | [], [], A, B, h, _, vs, hl => by
  simp only[bZ,aC,Option.some.injEq]at h;subst h;simp only[aD]at hl;exact⟨hl,rfl,rfl⟩
 |[],_::_,A,B,h,_,_,_=>by simp[bZ,bK]at h
 |_::_,[],A,B,h,_,_,_=>by simp[bZ,bK]at h
 | t :: ss, l :: ls, A, B, h, hZ, vs, hl => by
  simp only[bZ,aA,Qb0]at h;obtain⟨C,h1,h2⟩:=h;simp only[aD]at hl;obtain⟨u,us,rfl,h3,h4⟩:=hl;obtain⟨h5,h6,h7⟩:=Naa hR hg aj hk h1 ((rG h2).trans hZ) h3;obtain⟨h8,h9,bo⟩:=yI hR hg aj hk h2 hZ h4;rw[h6,h7]at h8;exact⟨⟨u,us,rfl,h5,h8⟩,by rw[h9,h6];simp only[Va5];omega,by rw[bo,h7];simp only[jG];omega⟩
theorem Fax:∀ {ps:List (Bool×List LS)} {vs:List SV} {A B:Take},(eG g A ps vs).eval σ=some B->TLe A B
 | [], [], A, B, h => by
  simp only[eG,aC,Option.some.injEq]at h;subst h;exact .refl _
 |[],_::_,A,B,h=>by simp[eG,bK]at h
 |_::_,[],A,B,h=>by simp[eG,bK]at h
 | (ag, ss) :: ps, v :: vs, A, B, h => by
  simp only[eG,aA,Qb0]at h;obtain⟨ls,-,C,h1,h2⟩:=h;exact (rG h1).trans (Fax h2)
def rD (σ:Nat->Option aP)(ρ:List D)(G:Gh)(w:World):List SV->List Value->Prop
 |[],us=>us=[]
 |v::vs,us=>∃ u bn,us=u::bn/\bU σ ρ G w v u/\rD σ ρ G w vs bn
theorem Ian {ag:Bool}{v:SV}{ls:List aO}{u:Value}(h:jE ag v=some ls)(hv:bU σ ρ G w v u):if ag=true then u=.agg u.cells.toList.toArray else u.cells.toList=[u]:=by
 unfold jE at h;split at h
 ·cases ag with
  |true=>cases h
  | false =>
   rw[aB.cells hv];simp
 ·cases ag with
  |false=>cases h
  | true =>
   obtain⟨us,rfl,-⟩:=hv;simp[Value.cells]
 ·cases h
theorem Dav (hR:R E.ntmps F σ ρ a w G)(hg:gOn ρ g=true)(aj:aL cf ρ g nv Z.lets)(hk:Kah s Z):∀ {ps:List (Bool×List LS)} {vs:List SV} {A B:Take},(eG g A ps vs).eval σ=some B->TLe B Z->∀ {us:List Value},rD σ ρ G w vs us ->
  jO (callG ρ G w s Z) w (Z.xs.map (·.val ρ)) s.boxes.length A.xs.length A.rts.length ps us/\B.xs.length=A.xs.length+Kad ps/\B.rts.length=A.rts.length+iP ps
 | [], [], A, B, h, _, us, hl => by
  simp only[eG,aC,Option.some.injEq]at h;subst h;simp only[rD]at hl;exact⟨hl,rfl,rfl⟩
 |[],_::_,A,B,h,_,_,_=>by simp[eG,bK]at h
 |_::_,[],A,B,h,_,_,_=>by simp[eG,bK]at h
 | (ag, ss) :: ps, v :: vs, A, B, h, hZ, us, hl => by
  simp only[eG,aA,Qb0,aT]at h;obtain⟨ls,h0,C,h1,h2⟩:=h;obtain⟨u,bn,rfl,h3,h4⟩:=hl;obtain⟨h5,h6,h7⟩:=yI hR hg aj hk h1 ((Fax h2).trans hZ) (gQ h0 h3);obtain⟨h8,h9,bo⟩:=Dav hR hg aj hk h2 hZ h4;rw[h6,h7]at h8;exact⟨⟨u,bn,_,rfl,h5,Ian h0 h3,h8⟩,by rw[h9,h6];simp only[Kad];omega,by rw[bo,h7];simp only[iP];omega⟩
end
theorem tF {wr:Bool}{ptrs:List (Nat×Nat×Nat)}:∀ {bs:List (Bool×List (BS×BO))} {b j c off:Nat} {cs:List (BS×BO)},bs[j]?=some (wr,cs)->nE (b+j) ptrs=some (c,off)->c∈iA wr ptrs b bs
 |[],b,j,c,off,cs,h,_=>by simp at h
 | (ro, ds) :: bs, b, 0, c, off, cs, h, hp => by
  simp only[Qb9,Option.some.injEq,Prod.mk.injEq]at h;rw[Rbx]at hp;simp only[iA,h.1,hp];simp
 | (ro, ds) :: bs, b, j + 1, c, off, cs, h, hp => by
  have:=tF (bs:=bs) (b:=b+1) (j:=j) (by simpa using h) (by rw[show b+1+j=b+(j+1) by omega];exact hp);simp only[iA]
  cases (ro==wr) with
  |false=>exact this
  | true =>
   simp only[cond_true];split
   ·exact Rbd _ this
   ·exact this
theorem Aar {ptrs:List (Nat×Nat×Nat)}{c:Nat}:∀ {bs:List (Bool×List (BS×BO))} {b:Nat},c∉iA false ptrs b bs->Qav ptrs c b bs=none
 |[],b,h=>rfl
 | (ro, cs) :: bs, b, h => by
  simp only[iA]at h;simp only[Qav]
  cases ro with
  |true=>simp only[if_true];exact Aar h
  | false =>
   simp only[Qb4,if_false];have e:(false==false)=true:=rfl;rw[e,cond_true]at h;split
   ·rename_i c' off hp
    rw[hp]at h;simp only[Rb2,not_or]at h;rw[if_neg fun e=>h.1 e.symm];exact Aar h.2
   ·rename_i hp
    rw[hp]at h;exact Aar h
theorem qF {ptrs:List (Nat×Nat×Nat)}{c off:Nat}{cs:List (BS×BO)}:∀ {bs:List (Bool×List (BS×BO))} {b j:Nat},distinct (iA false ptrs b bs)=true->bs[j]?=some (false,cs)->nE (b+j) ptrs=some (c,off)->Qav ptrs c b bs=some (b+j)
 |[],b,j,_,h,_=>by simp at h
 | (ro, ds) :: bs, b, 0, hd, h, hp => by
  simp only[Qb9,Option.some.injEq,Prod.mk.injEq]at h;rw[Rbx]at hp;simp only[Qav,h.1,hp];simp
 | (ro, ds) :: bs, b, j + 1, hd, h, hp => by
  have km:nE (b+1+j) ptrs=some (c,off):=by rw[show b+1+j=b+(j+1) by omega];exact hp
  have hm:=tF (wr:=false) (bs:=bs) (b:=b+1) (j:=j) (by simpa using h) km;simp only[iA]at hd;simp only[Qav]
  cases ro with
  | true =>
   have e:(true==false)=false:=rfl;rw[e,cond_false]at hd;simp only[if_true];rw[qF hd (by simpa using h) km,show b+1+j=b+(j+1) by omega]
  | false =>
   have e:(false==false)=true:=rfl;rw[e,cond_true]at hd;simp only[Qb4,if_false];split
   ·rename_i c' gk we
    rw[we]at hd;simp only[distinct,Qb1,Rbp]at hd;have bh:c'≠c:=fun e=>by rw[<- e,<- lL,hd.1]at hm;cases hm
    rw[if_neg bh,qF hd.2 (by simpa using h) km,show b+1+j=b+(j+1) by omega]
   ·rename_i we
    rw[we]at hd;rw[qF hd (by simpa using h) km,show b+1+j=b+(j+1) by omega]
theorem Ea8 {ptrs:List (Nat×Nat×Nat)}{c x:Nat}:∀ {bs:List (Bool×List (BS×BO))} {b:Nat},Qav ptrs c b bs=some x->∃ j cs off,x=b+j/\bs[j]?=some (false,cs)/\nE x ptrs=some (c,off)
 |[],b,h=>by simp[Qav]at h
 | (ro, cs) :: bs, b, h => by
  simp only[Qav]at h
  have next:Qav ptrs c (b+1) bs=some x->∃ j ke off,x=b+j/\((ro,cs)::bs)[j]?=some (false,ke)/\nE x ptrs=some (c,off):=by
   intro h;obtain⟨j,ke,off,h1,h2,h3⟩:=Ea8 h;exact⟨j+1,ke,off,by omega,by simpa using h2,h3⟩
  split at h
  ·exact next h
  ·rename_i nF
   split at h
   ·rename_i c' off hp
    split at h
    ·rename_i e
     subst e;obtain rfl:=Option.some.inj h;refine⟨0,cs,off,rfl,?_,hp⟩
     cases ro with
     |true=>exact absurd rfl nF
     |false=>rfl
    ·exact next h
   ·exact next h
section
variable {E:Env} {F:bE} {σ:Nat->Option aP} {ρ:List D} {a:Act} {w:World} {G:Gh} {g:Option (aI×Bool)} {cf:Nat->List D->Option (List D)} {s:Sig} {Z:Take} {nv:Nat}
theorem Qad {A B:Take}{d:Nat}{l:aO}(h:(tT A d l).eval σ=some B):B.ptrs=A.ptrs:=by
 unfold tT at h;split at h
 ·simp only[aA,aQ,Qb7]at h
  split at h
  ·simp only[aA,aH,Qb0,aC,Option.some.injEq]at h
   obtain⟨_,-,rfl⟩:=h;rfl
  ·cases h
 ·simp only[aC,Option.some.injEq]at h
  subst h;rfl
 ·cases h
theorem oI {A B:Take}{t:BS}{l:aO}(h:(Aai A t l).eval σ=some B):(∃ x,t=.sc/\l=.sc x/\B={ A with xs:=A.xs++[x] })\/(∃ nie,t=.fz nie/\(qA A nie l).eval σ=some B)\/(∃ d,t=.ow d/\(tT A d l).eval σ=some B)\/(t=.ot/\Nai l=true/\B=A):=by
 cases t with
 | sc =>
  cases l<;>simp only[Aai,bK,reduceCtorEq]at h
  simp only[aC,Option.some.injEq]at h;exact .inl ⟨_,rfl,rfl,h.symm⟩
 | fz nie =>
  have h':(qA A nie l).eval σ=some B:=by cases l<;>exact h
  exact .inr (.inl ⟨nie,rfl,h'⟩)
 | ow d =>
  have h':(tT A d l).eval σ=some B:=by cases l<;>exact h
  exact .inr (.inr (.inl ⟨d,rfl,h'⟩))
 | ot =>
  have h':(bif Nai l then RdM.ret A else .no:RdM Take).eval σ=some B:=by cases l<;>exact h
  rw[gF]at h';split at h'
  ·rename_i hb
   simp only[aC,Option.some.injEq]at h';exact .inr (.inr (.inr ⟨rfl,hb,h'.symm⟩))
  ·cases h'
theorem Qag {A B:Take}{t:BS}{l:aO}(h:(Aai A t l).eval σ=some B):TLe A B/\B.ptrs=A.ptrs:=by
 have hinv:=oI h;clear h
 rcases hinv with ⟨x,rfl,rfl,rfl⟩|⟨nie,rfl,h⟩|⟨d,rfl,h⟩|⟨rfl,-,rfl⟩
 ·exact⟨⟨⟨_,rfl⟩,fun _ h=>h,fun _ h=>h,⟨[],by simp⟩,⟨[],by simp⟩⟩,rfl⟩
 ·refine⟨Nac h,?_⟩
  unfold qA at h;simp only[aA,Qb0,aC,Option.some.injEq]at h;obtain⟨s,h1,rfl⟩:=h;rfl
 ·exact⟨Ma9 h,Qad h⟩
 ·exact⟨.refl _,rfl⟩
theorem Nad (hR:R E.ntmps F σ ρ a w G)(hg:gOn ρ g=true)(aj:aL cf ρ g nv Z.lets)(hk:Kah s Z){A B:Take}{t:BS}{l:aO}(h:(Aai A t l).eval σ=some B)(hZ:TLe B Z){v:Value}(hl:aB σ ρ G w l v) :
  wR (callG ρ G w s Z) w (Z.xs.map (·.val ρ)) A.xs.length A.rts.length t v/\B.xs.length=A.xs.length+t.cnt/\B.rts.length=A.rts.length+t.rcnt:=by
 have hinv:=oI h;clear h
 rcases hinv with ⟨x,rfl,rfl,rfl⟩|⟨nie,rfl,h⟩|⟨d,rfl,h⟩|⟨rfl,hs,rfl⟩
 ·refine⟨?_,by simp[BS.cnt],rfl⟩
  simp only[wR];rw[hZ.get (l:=A.xs) rfl];simpa[aB] using hl
 ·obtain⟨h1,h2,h3,h4⟩:=Ia8 hR hg aj hk h hZ hl
  exact⟨⟨h1,h2⟩,h3,by rw[h4];rfl⟩
 ·obtain⟨h1,h2,h3,h4⟩:=Ia5 hR hk h hZ hl
  exact⟨⟨h1,h2⟩,h3,h4⟩
 ·exact⟨hl.one hs,rfl,rfl⟩
theorem oH:∀ {ss:List (BS×BO)} {ls:List aO} {A B:Take},(dQ A ss ls).eval σ=some B->TLe A B/\B.ptrs=A.ptrs
 | [], ls, A, B, h => by
  simp only[dQ,aC,Option.some.injEq]at h;subst h;exact⟨.refl _,rfl⟩
 |_::_,[],A,B,h=>by simp[dQ,bK]at h
 | (t, o) :: ss, l :: ls, A, B, h => by
  simp only[dQ,aA,Qb0]at h;obtain⟨C,h1,h2⟩:=h;obtain⟨h3,h4⟩:=Qag h1;obtain⟨h5,h6⟩:=oH h2;exact⟨h3.trans h5,h6.trans h4⟩
theorem Aag (hR:R E.ntmps F σ ρ a w G)(hg:gOn ρ g=true)(aj:aL cf ρ g nv Z.lets)(hk:Kah s Z){ad:Addr}:∀ {ss:List (BS×BO)} {ls:List aO} {A B:Take} {off:Nat},(dQ A ss ls).eval σ=some B->TLe B Z ->
  (∀ j l,ls[j]?=some l->∃ v,w.cell? (ad.add (off+j))=some v/\w.frozen? (ad.add (off+j))=false/\aB σ ρ G w l v) ->
  Fao (callG ρ G w s Z) w (Z.xs.map (·.val ρ)) ad off A.xs.length A.rts.length ss/\B.xs.length=A.xs.length+Za4 ss/\B.rts.length=A.rts.length+vG ss
 | [], ls, A, B, off, h, _, _ => by
  simp only[dQ,aC,Option.some.injEq]at h;subst h;exact⟨trivial,rfl,rfl⟩
 |_::_,[],A,B,off,h,_,_=>by simp[dQ,bK]at h
 | (t, o) :: ss, l :: ls, A, B, off, h, hZ, hl => by
  simp only[dQ,aA,Qb0]at h;obtain⟨C,h1,h2⟩:=h;obtain⟨v,h3,h4,h5⟩:=hl 0 l rfl;obtain⟨h6,h7,h8⟩:=Nad hR hg aj hk h1 ((oH h2).1.trans hZ) h5
  obtain⟨h9,bo,b9⟩:=Aag hR hg aj hk (off:=off+1) h2 hZ fun j l' hj=>by
   have:=hl (j+1) l' (by simpa using hj);rwa[show off+(j+1)=off+1+j by omega]at this
  rw[h7,h8]at h9;exact⟨⟨⟨v,h3,h4,h6⟩,h9⟩,by rw[bo,h7];simp only[Za4];omega,by rw[b9,h8];simp only[vG];omega⟩
def Pbg (σ:Nat->Option aP)(ptrs:List (Nat×Nat×Nat))(b:Nat)(ro:Bool)(cs:List (BS×BO)):Prop :=
 ∃ c off gp ls,nE b ptrs=some (c,off)/\σ (kB c)=some (.box gp ls)/\off+cs.length<=ls.length/\(ro=false->gp=false/\0<cs.length)
theorem jX {ptrs:List (Nat×Nat×Nat)}:∀ {bs:List (Bool×List (BS×BO))} {b:Nat} {A B:Take},(eB ptrs A b bs).eval σ=some B->TLe A B/\B.ptrs=A.ptrs/\∀ j ro cs,bs[j]?=some (ro,cs)->Pbg σ ptrs (b+j) ro cs
 | [], b, A, B, h => by
  simp only[eB,aC,Option.some.injEq]at h;subst h;exact⟨.refl _,rfl,by simp⟩
 | (ro, cs) :: bs, b, A, B, h => by
  simp only[eB]at h;split at h
  case h_2=>cases h
  rename_i c off hp;simp only[aA,aQ,Qb7]at h;split at h
  case h_2=>cases h
  rename_i gp ls jj;simp only[aA,aH,Qb0]at h;obtain⟨_,h0,C,h1,h2⟩:=h;split at h0
  case isFalse=>cases h0
  rename_i hb;simp only[Qb1,Sbe,Rbp,Sbb]at hb;obtain⟨h3,h4⟩:=oH h1;obtain⟨h5,h6,h7⟩:=jX h2;refine⟨h3.trans h5,h6.trans h4,fun j ro2 cs2 hj=>?_⟩
  cases j with
  | zero =>
   simp only[Qb9,Option.some.injEq,Prod.mk.injEq]at hj;obtain⟨rfl,rfl⟩:=hj;refine⟨c,off,gp,ls,hp,jj,hb.2,fun e=>?_⟩
   rcases hb.1 with h8|h8
   ·rw[e]at h8;cases h8.1
   ·refine⟨h8.1.2,?_⟩
    cases cs with
    |nil=>have:=h8.2;simp at this
    |cons=>simp
  | succ j =>
   rw[show b+(j+1)=b+1+j by omega];exact h7 j ro2 cs2 (by simpa using hj)
theorem Ta0 {ad:Addr}{n:Nat}(h:ad.spot=none):(ad.add n).spot=none:=by
 unfold Addr.add;split
 ·exact h
 ·rfl
theorem Ra9 {ad:Addr}{n:Nat}:(ad.add n).off=ad.off+n:=by
 unfold Addr.add;split
 ·rename_i h;rw[h];rfl
 ·rfl
theorem Aaj (hR:R E.ntmps F σ ρ a w G)(hg:gOn ρ g=true)(aj:aL cf ρ g nv Z.lets)(hk:Kah s Z):∀ {bs:List (Bool×List (BS×BO))} {b:Nat} {A B:Take},(∀ j x,bs[j]?=some x->s.boxes[b+j]?=some x)->(eB Z.ptrs A b bs).eval σ=some B->TLe B Z ->
  Fap (callG ρ G w s Z) w (Z.xs.map (·.val ρ)) b A.xs.length A.rts.length bs/\B.xs.length=A.xs.length+Za5 bs
 | [], b, A, B, _, h, _ => by
  simp only[eB,aC,Option.some.injEq]at h;subst h;exact⟨trivial,rfl⟩
 | (ro, cs) :: bs, b, A, B, vm, h, hZ => by
  simp only[eB]at h;split at h
  case h_2=>cases h
  rename_i c off hp;simp only[aA,aQ,Qb7]at h;split at h
  case h_2=>cases h
  rename_i gp ls jj;simp only[aA,aH,Qb0]at h;obtain⟨_,h0,C,h1,h2⟩:=h;split at h0
  case isFalse=>cases h0
  rename_i hb;simp only[Qb1,Sbe,Rbp,Sbb]at hb;have xu:=(jX h2).1.trans hZ;obtain⟨h3,h4,h5⟩:=hR.box jj;have cT:(callG ρ G w s Z).bx b=(G.bx c).add off:=by simp only[callG,hp]
  have sB:=vm 0 _ rfl;rw[Rbx]at sB;have km:nE (0+b) Z.ptrs=some (c,off):=by rw[Rby];exact hp
  obtain⟨h6,h7,h8⟩:=Aag hR hg aj hk (ad:=(G.bx c).add off) (off:=0) h1 xu fun j l hj=>by
   rw[Rb3]at hj;obtain⟨v,h9,bo,b9⟩:=h5 _ l hj;exact⟨v,by rw[add_add,Rby];exact h9,by rw[add_add,Rby];exact bo,b9⟩
  obtain⟨h9,bo⟩:=Aaj hR hg aj hk (b:=b+1) (fun j x hj=>by
   rw[show b+1+j=b+(j+1) by omega];exact vm (j+1) x (by simpa using hj)) h2 hZ
  rw[h7,h8]at h9;refine⟨⟨by rw[cT];exact Ta0 h3,?_,by rw[cT];exact h6,h9⟩,by rw[bo,h7];simp only[Za5];omega⟩;rw[cT,add_block]
  cases ro with
  | true =>
   simp only[if_true];have hm:=tF (wr:=true) sB km
   cases gp with
   |true=>simp only[callG,h4,if_true]
   | false =>
    simp only[Qb4,if_false]at h4;simp only[callG,h4];rw[Aar fun te=>nH hk.ro te hm]
  | false =>
   simp only[Qb4,if_false]
   rcases hb.1 with b9|b9
   ·cases b9.1
   ·have nF:gp=false:=b9.1.2
    subst nF;simp only[Qb4,if_false]at h4;simp only[callG,h4];rw[qF hk.wr sB km];simp
theorem Cb1 (hR:R E.ntmps F σ ρ a w G)(hg:gOn ρ g=true)(aj:aL cf ρ g nv Z.lets)(hk:Kah s Z){T:Take}{vs:List SV}(h1:(eG g Take.empty s.params vs).eval σ=some T)(h2:(eB T.ptrs T 0 s.boxes).eval σ=some Z)
  {us:List Value} (hu:rD σ ρ G w vs us):Za2 s us w (callG ρ G w s Z) (Z.xs.map (·.val ρ)):=by
 obtain⟨h3,h4,h5⟩:=jX h2;obtain⟨h6,h7,h8⟩:=Dav hR hg aj hk h1 h3 hu;rw[<- h4]at h2;obtain⟨h9,bo⟩:=Aaj hR hg aj hk (by simp) h2 (.refl _);have e1:Take.empty.xs.length=0:=rfl;have e2:Take.empty.rts.length=0:=rfl;rw[e1,e2]at h6;rw[e1,Rby]at h7;rw[e2,Rby]at h8;rw[h7,h8]at h9;refine⟨h6,h9,by rw[Rbh,bo,h7],fun b hb=>nX (hR.frame.fresh b hb),fun b j hb hj=>?_⟩
 cases e:G.own b with
 | slc r p =>
  exfalso;simp only[callG,e]at hj
  have:∀ (rts:List RT) (ν:Nat),lH ρ (Z.deps.map (·.1)) ν rts r p≠.box j:=by
   intro rts
   induction rts with
   |nil=>intro ν h;simp only[lH]at h;split at h<;>cases h
   | cons x t ih =>
    intro ν h
    cases x with
    |nil=>exact ih _ h
    | own s d =>
     simp only[lH]at h;split at h
     ·split at h<;>cases h
     ·exact ih _ h
    | mu s d q X =>
     simp only[lH]at h;split at h
     ·split at h
      ·split at h<;>cases h
      ·cases h
     ·exact ih _ h
  exact this _ _ hj
 | box c =>
  simp only[callG,e]at hj;split at hj
  case h_2=>cases hj
  rename_i x hx;split at hj
  case isFalse=>cases hj
  rename_i n2
  injection hj with hj
  subst hj;obtain⟨j,cs,off,e1,e2,e3⟩:=Ea8 hx;rw[Rby]at e1;subst e1;refine⟨(List.getElem?_eq_some_iff.1 e2).1,?_⟩;rw[h4]at e3;have:=h5 x _ _ e2;rw[Rby]at this;obtain⟨c',gk,gp,ls,b9,cL,fp,gj⟩:=this;rw[e3]at b9;obtain⟨rfl,rfl⟩:c=c'/\off=gk:=by simpa using b9
  obtain⟨-,-,ij⟩:=hR.box cL;have hlt:0<ls.length:=by have:=(gj rfl).2;omega
  obtain⟨v,je,-,-⟩:=ij 0 _ (Qb3 hlt);rw[n2];unfold World.cell? at je;rw[add_block]at je
  cases hh:w.heap[(G.bx c).block]? with
  |none=>rw[hh]at je;cases je
  | some dq =>
   rw[hh]at je
   cases dq with
   |cells c0 e fr=>exact⟨c0,e,fr,rfl⟩
   |_=>simp at je
 |frz=>rw[nX e]at hj;cases hj
 |oth=>simp only[callG,e]at hj;cases hj
end
def Lau:Ow->Bool
 |.slc _ _=>true
 |_=>false
def mF (r:Nat):List RT->Option RT
 |[]=>none
 |.nil::t=>mF r t
 |.own s d::t=>if r=s then some (.own s d) else mF r t
 |.mu s d q X::t=>if r=s then some (.mu s d q X) else mF r t
def zL (ρ:List D)(rts:List RT):Ow->Ow
 | .slc r p => match mF r rts with
  |some (.own _ _)=>.frz
  | some (.mu _ d q _) => match strip (aZ ρ q) p with
   |some t=>if t.length<d then .slc r p else .frz
   |none=>.slc r p
  |_=>.slc r p
 |o=>o
def tJ (gd:Bool)(ρ:List D)(nr nb nbx:Nat)(mus:List RT):Ow->Ow
 | .slc t p => if t % 2 = 0 then (if gd = true then .frz else if t / 2 < bP then .slc (nr + t / 2) p else .oth) else (match mus[t / 2]? with
  |some (.mu r _ q _)=>.slc r (aZ ρ q++p)
  |_=>.oth)
 |.box β=>if β=nbx then .box nb else .oth
 |o=>o
def eQ (gd:Bool)(ρ:List D)(G:Gh)(w:World)(s:Sig)(Z:Take)(nr nb:Nat)(own':Nat->Ow)(hs:List Value)(adn:Addr):Gh:={
 own:=fun b=>if b<w.heap.size/\Lau ((callG ρ G w s Z).own b)=false then zL ρ Z.rts (G.own b) else tJ gd ρ nr nb s.boxes.length (Z.rts.filter vT) (own' b)
 hdr:=fun r=>if nr<=r/\r<nr+bP then hs.getD (r-nr) undef else G.hdr r
 bx:=fun b=>if b=nb then adn else G.bx b }
theorem rZ {r:Nat}:∀ {rts:List RT},r∉bV rts->mF r rts=none
 |[],_=>rfl
 |.nil::t,h=>rZ (rts:=t) h
 | .own s d :: t, h => by
  simp only[bV,Rb2,not_or]at h;simp only[mF,if_neg h.1];exact rZ h.2
 | .mu s d q X :: t, h => by
  simp only[bV,Rb2,not_or]at h;simp only[mF,if_neg h.1];exact rZ h.2
theorem rY {r:Nat}:∀ {rts:List RT},r∈bV rts->∃ (ν:Nat) (x:RT),rts[ν]?=some x/\mF r rts=some x/\((∃ d,x=.own r d)\/∃ d q X,x=.mu r d q X)
 |[],h=>by simp[bV]at h
 | .nil :: t, h => by
  obtain⟨ν,x,h1,h2⟩:=rY (rts:=t) h;exact⟨ν+1,x,by simpa using h1,h2⟩
 | .own s d :: t, h => by
  by_cases e:r=s
  ·subst e
   exact⟨0,_,rfl,by simp[mF],.inl ⟨d,rfl⟩⟩
  ·simp only[bV,Rb2,e,false_or]at h
   obtain⟨ν,x,h1,h2⟩:=rY h;exact⟨ν+1,x,by simpa using h1,by simp only[mF,if_neg e];exact h2⟩
 | .mu s d q X :: t, h => by
  by_cases e:r=s
  ·subst e
   exact⟨0,_,rfl,by simp[mF],.inr ⟨d,q,X,rfl⟩⟩
  ·simp only[bV,Rb2,e,false_or]at h
   obtain⟨ν,x,h1,h2⟩:=rY h;exact⟨ν+1,x,by simpa using h1,by simp only[mF,if_neg e];exact h2⟩
theorem Aaw {r d:Nat}{q:List (aI×Nat×Nat)}{X:aI}:∀ {rts:List RT} {ν:Nat},distinct (bV rts)=true->rts[ν]?=some (.mu r d q X)->mF r rts=some (.mu r d q X)
 |[],ν,_,h=>by simp at h
 | x :: t, 0, hd, h => by
  simp only[Qb9,Option.some.injEq]at h;subst h;simp[mF]
 | x :: t, ν + 1, hd, h => by
  simp only[Rb7]at h;have hm:=rX (.inr ⟨d,q,X,h⟩)
  cases x with
  |nil=>exact Aaw (rts:=t) hd h
  | own s d' =>
   simp only[bV,distinct,Qb1,Rbp]at hd;have bh:r≠s:=fun e=>by rw[e,<- lL,hd.1]at hm;cases hm
   simp only[mF,if_neg bh];exact Aaw hd.2 h
  | mu s d' q' X' =>
   simp only[bV,distinct,Qb1,Rbp]at hd;have bh:r≠s:=fun e=>by rw[e,<- lL,hd.1]at hm;cases hm
   simp only[mF,if_neg bh];exact Aaw hd.2 h
theorem Faa {ρ:List D}{dr:List Nat}{r:Nat}{p:List Nat}:∀ (rts:List RT) (ν:Nat),(∃ ν' t,lH ρ dr ν rts r p=.slc ν' t)\/lH ρ dr ν rts r p=.frz\/lH ρ dr ν rts r p=.oth
 | [], ν => by
  simp only[lH];split
  ·exact .inr (.inl rfl)
  ·exact .inr (.inr rfl)
 |.nil::t,ν=>Faa t (ν+1)
 | .own s d :: t, ν => by
  simp only[lH];split
  ·split
   ·exact .inl ⟨_,_,rfl⟩
   ·exact .inr (.inl rfl)
  ·exact Faa t (ν+1)
 | .mu s d q X :: t, ν => by
  simp only[lH];split
  ·split
   ·split
    ·exact .inl ⟨_,_,rfl⟩
    ·exact .inr (.inl rfl)
   ·exact .inr (.inr rfl)
  ·exact Faa t (ν+1)
theorem Rp.remap {own own':Nat->Ow}{w:World}{r r':Nat}{q q':List Nat}{p:List Nat}{m:Nat}{v:Value}{d:D}(h:Rp own w r p m v d)
  (hs:∀ b t,own b=.slc r (q++t)->own' b=.slc r' (q'++t)):∀ s,p=q++s->((∀ b,own b=.frz->b<w.heap.size->own' b=.frz)\/nT m d=true)->Rp own' w r' (q'++s) m v d:=by
 induction h with
 |sc h=>exact fun _ _ _=>.sc h
 |hole v h1=>exact fun _ _ _=>.hole v h1
 | fz h =>
  intro s _ hz
  rcases hz with hz|hz
  ·exact .fz (h.mono' fun b hb hlt=>⟨hz b hb hlt,rfl⟩)
  ·cases h with
   |sc h=>exact .sc h
   |hole _ h1=>exact .hole _ h1
   |rows=>simp[nT,D.isSc]at hz
 | sl A a n c sz rs vs hn hc hA b7 ab aq bd ih =>
  rename_i p m;intro s hp hz;refine .sl A a n c sz rs vs hn hc hA b7 (fun e=>?_) aq (fun i row hi j d hj=>?_)
  ·obtain⟨h1,h2,h3⟩:=ab e
   rw[hp]at h2;exact⟨h1,hs _ _ h2,h3⟩
  ·have:=ih i row hi j d hj (s++[i*sz+j]) (by rw[hp,Rba]) (hz.imp id fun hz=>by
    simp only[nT,Rbu]at hz;exact hz row (Rbi hi) d (Rbi hj))
   rwa[<- Rba]at this
theorem Rp.updM {own own':Nat->Ow}{w w':World}{r M:Nat}{full:List Nat}{y:D}{u:Value}
  (hz:∀ b,own b=.frz->b<w.heap.size->own' b=.frz/\w'.heap[b]?=w.heap[b]?)
  (hs:∀ b t,own b=.slc r t->¬ full <+: t->own' b=.slc r t/\w'.heap[b]?=w.heap[b]?)
  (hM:full.length<=M) (de:Rp own' w' r full (M-full.length) u y) :
  ∀ (p q:List Nat) (v:Value) (x x':D),full=q++p->Rp own w r q (M-q.length) v x->yG own w r q v p u->Upd p x y x'->Rp own' w' r q (M-q.length) v x'
 | [], q, v, x, x', hf, hx, hn, hu => by
  cases hu;simp only[yG]at hn;rw[Rbs]at hf;subst hf hn;exact de
 | k :: p, q, v, x, x', hf, hx, hn, hu => by
  generalize hk:k::p=kp at hu
  cases hu with
  |here=>cases hk
  | down sz rs i j row z z' y p' hi hj hu =>
   obtain⟨rfl,rfl⟩:=List.cons.inj hk;have hlen:full.length=q.length+(p.length+1):=by rw[hf];simp
   obtain⟨m,hm⟩:∃ m,M-q.length=m+1:=⟨M-q.length-1,by omega⟩;rw[hm]at hx;rw[hm];obtain⟨A,a,n,c,vs,rfl,h1,h2,h3,h4,h5,h6,h7⟩:=hx.sl_inv;have gC:i<rs.length:=(List.getElem?_eq_some_iff.1 hi).1
   have hA:A=some a:=by
    rcases h3 with e|⟨e,e'⟩
    ·exact e
    ·omega
   subst hA;obtain⟨h8,h9,bo⟩:=h5 rfl;obtain⟨a',n',c',u',e1,e2,e3,e4⟩:=hn;obtain⟨rfl,rfl,rfl⟩:a=a'/\n=n'/\c=c':=by injection e1 with a b c;exact⟨Option.some.inj a,b,c⟩
   have du:=h6 i row hi j z hj;rw[du]at e3;obtain rfl:=Option.some.inj e3
   have hq:¬ full <+: q:=by
    intro e;have:=e.length_le;omega
   obtain⟨cF,bg⟩:=hs _ _ h9 hq;have cH:∀ k,w'.cell? (a.add k)=w.cell? (a.add k):=fun k=>eF (w:=w) (w':=w') (by rw[add_block];exact bg)
   have lR:∀ k,w'.frozen? (a.add k)=w.frozen? (a.add k):=fun k=>jT (w:=w) (w':=w') (by rw[add_block];exact bg)
   have bd:=Rp.updM hz hs hM de p (q++[i*sz+j]) (vs i j) z z' (by rw[hf];simp) (by
    have:=h7 i row hi j z hj;rwa[show M-(q++[i*sz+j]).length=m by simp;omega]) e4 hu
   rw[show M-(q++[i*sz+j]).length=m by simp;omega]at bd;have fX:row.length=sz:=h4 row (Rbi hi);have hlt:j<sz:=by rw[<- fX];exact (List.getElem?_eq_some_iff.1 hj).1
   have jl:∀ i' cz,(rs.set i (row.set j z'))[i']?=some cz->∀ j' d,cz[j']?=some d->(i'=i/\j'=j/\d=z')\/(∃ row0,rs[i']?=some row0/\row0[j']?=some d/\¬ (i'=i/\j'=j)):=by
    intro i' cz cu j' d dv;rw[Sb0]at cu;by_cases mB:i=i'
    ·subst mB
     rw[if_pos rfl,if_pos gC]at cu;obtain rfl:=Option.some.inj cu;rw[Sb0]at dv;by_cases qt:j=j'
     ·subst qt
      rw[if_pos rfl,if_pos (by omega)]at dv;exact .inl ⟨rfl,rfl,(Option.some.inj dv).symm⟩
     ·rw[if_neg qt]at dv
      exact .inr ⟨row,hi,dv,fun e=>qt e.2.symm⟩
    ·rw[if_neg mB]at cu
     exact .inr ⟨cz,cu,dv,fun e=>mB e.1.symm⟩
   refine .sl _ a n c sz _ vs (by simpa using h1) h2 (.inl rfl) (fun cz hr=>?_) (fun _=>⟨h8,cF,fun k hk=>?_⟩) (fun i' cz cu j' d dv=>?_) (fun i' cz cu j' d dv=>?_)
   ·rcases List.mem_or_eq_of_mem_set hr with hr|rfl
    ·exact h4 _ hr
    ·simpa using fX
   ·rw[cH,lR]
    exact bo k hk
   ·rw[cH]
    rcases jl i' cz cu j' d dv with ⟨rfl,rfl,rfl⟩|⟨row0,b9,cL,-⟩
    ·exact du
    ·exact h6 _ _ b9 _ _ cL
   ·rcases jl i' cz cu j' d dv with ⟨rfl,rfl,rfl⟩|⟨row0,b9,cL,bh⟩
    ·exact bd
    ·have:=(h7 _ _ b9 _ _ cL).mono' (own':=own') (w':=w') (r':=r) (q:=q++[i'*sz+j']) (q':=q++[i'*sz+j']) hz [] (by simp) fun b t hb=>by
      have y6:¬ full <+: q++[i'*sz+j']++t:=by
       intro e;rw[hf,Rba,List.prefix_append_right_inj]at e;have e':=(List.cons_prefix_cons.1 e).1
       have qu:j'<sz:=by
        have:=(List.getElem?_eq_some_iff.1 cL).1;rw[h4 row0 (Rbi b9)]at this;exact this
       obtain⟨ij,je⟩:=Dbr qu hlt e'.symm;exact bh ⟨ij,je⟩
      exact hs b _ hb y6
     simpa using this
theorem Rp.deeper {own:Nat->Ow}{w:World}{r:Nat}{p:List Nat}{m:Nat}{v:Value}{d:D}(h:Rp own w r p m v d):∀ {m':Nat},m<=m'->nT m d=true->Rp own w r p m' v d:=by
 induction h with
 |sc h=>exact fun _ _=>.sc h
 |hole v h1=>exact fun _ _=>.hole v h1
 | fz h =>
  intro m' _ hz
  cases h with
  |sc h=>exact .sc h
  |hole _ h1=>exact .hole _ h1
  |rows=>simp[nT,D.isSc]at hz
 | sl A a n c sz rs vs hn hc hA b7 ab aq bd ih =>
  rename_i p m;intro m' hm hz;obtain⟨k,rfl⟩:∃ k,m'=k+1:=⟨m'-1,by omega⟩;refine .sl A a n c sz rs vs hn hc hA b7 ab aq (fun i row hi j d hj=>ih i row hi j d hj (by omega) ?_);simp only[nT,Rbu]at hz;exact hz row (Rbi hi) d (Rbi hj)
section
variable {E:Env} {F:bE} {σ:Nat->Option aP} {ρ:List D} {a:Act} {w w':World} {G G':Gh} {s:Sig} {Z:Take} {gd:Bool} {nr nb:Nat} {hs:List Value} {adn:Addr}
structure Pa1 (E:Env) (F:bE) (σ:Nat->Option aP) (ρ:List D) (a:Act) (w:World) (G:Gh) (s:Sig) (Z:Take) (G':Gh) (w':World):Prop where
 hR:R E.ntmps F σ ρ a w G
 hk:Kah s Z
 hF:lM (nY s (callG ρ G w s Z) w) G' w'
 bx:∀ j ro cs,s.boxes[j]?=some (ro,cs)->Pbg σ Z.ptrs j ro cs
 deps:∀ z∈Z.deps,Lak σ z.1 z.2
 mus:∀ (ν r d:Nat) (q:List (aI×Nat×Nat)) (X:aI),Z.rts[ν]?=some (RT.mu r d q X)->∃ m an u,σ (kR r)=some (.root X m an .live)/\q.length+d<=m/\yG G.own w r [] (G.hdr r) (aZ ρ q) u
 owns:∀ (ν r d:Nat),Z.rts[ν]?=some (RT.own r d)->∃ x m an,σ (kR r)=some (.root x m an .live)
variable (B:Pa1 E F σ ρ a w G s Z G' w')
include B
theorem Pa1.keep {b:Nat}(hb:b<w.heap.size)(h:(callG ρ G w s Z).own b=.frz\/(callG ρ G w s Z).own b=.oth):w'.heap[b]?=w.heap[b]?/\G'.own b=(callG ρ G w s Z).own b:=B.hF.keep b hb h
theorem Pa1.lt {b r:Nat}{p:List Nat}(h:G.own b=.slc r p):b<w.heap.size:=by
 rcases Rbo b w.heap.size with h1|h1
 ·exact h1
 ·rw[B.hR.frame.fresh b h1]at h;cases h
theorem Pa1.own_eq {b:Nat}(hb:b<w.heap.size)(h:Lau ((callG ρ G w s Z).own b)=false):(eQ gd ρ G w s Z nr nb G'.own hs adn).own b=zL ρ Z.rts (G.own b):=by
 simp only[eQ];rw[if_pos ⟨hb,h⟩]
theorem Pa1.frz {b:Nat}(h:G.own b=.frz)(hb:b<w.heap.size):(eQ gd ρ G w s Z nr nb G'.own hs adn).own b=.frz/\w'.heap[b]?=w.heap[b]?:=by
 have h1:(callG ρ G w s Z).own b=.frz:=nX h;refine⟨?_,(B.keep hb (.inl h1)).1⟩;rw[B.own_eq hb (by rw[h1];rfl),h];rfl
theorem Pa1.other {b r:Nat}{p:List Nat}(hr:r∉bV Z.rts)(h:G.own b=.slc r p):(eQ gd ρ G w s Z nr nb G'.own hs adn).own b=.slc r p/\w'.heap[b]?=w.heap[b]?:=by
 have hb:=B.lt h
 have h1:(callG ρ G w s Z).own b=if r∈Z.deps.map (·.1) then .frz else .oth:=by
  simp only[callG,h];exact qG hr
 have h2:(callG ρ G w s Z).own b=.frz\/(callG ρ G w s Z).own b=.oth:=by
  rw[h1];split
  ·exact .inl rfl
  ·exact .inr rfl
 refine⟨?_,(B.keep hb h2).1⟩;rw[B.own_eq hb (by rcases h2 with e|e<;>rw[e]<;>rfl),h];simp only[zL,rZ hr]
theorem Pa1.oth {b:Nat}(h:G.own b=.oth)(hb:b<w.heap.size):(eQ gd ρ G w s Z nr nb G'.own hs adn).own b=.oth/\w'.heap[b]?=w.heap[b]?:=by
 have h1:(callG ρ G w s Z).own b=.oth:=by simp only[callG,h]
 refine⟨?_,(B.keep hb (.inr h1)).1⟩;rw[B.own_eq hb (by rw[h1];rfl),h];rfl
theorem Pa1.boxes {b c:Nat}(h:G.own b=.box c)(hb:b<w.heap.size):(eQ gd ρ G w s Z nr nb G'.own hs adn).own b=.box c /\
  (w'.heap[b]?=w.heap[b]?\/∃ j cs off ls c0 c1 e fr,s.boxes[j]?=some (false,cs)/\nE j Z.ptrs=some (c,off)/\b=(G.bx c).block/\σ (kB c)=some (.box false ls)/\off+cs.length<=ls.length /\
   w.heap[b]?=some (.cells c0 e fr)/\w'.heap[b]?=some (.cells c1 e fr)/\c1.size=c0.size/\∀ k,k<(G.bx c).off+off\/(G.bx c).off+off+cs.length<=k->c1[k]?=c0[k]?):=by
 have key:((callG ρ G w s Z).own b=.oth)\/∃ j,Qav Z.ptrs c 0 s.boxes=some j/\b=(G.bx c).block/\(callG ρ G w s Z).own b=.box j:=by
  simp only[callG,h];split
  ·rename_i j hj
   split
   ·rename_i n2
    exact .inr ⟨j,hj,n2,rfl⟩
   ·exact .inl rfl
  ·exact .inl rfl
 rcases key with h1|⟨j,hj,n2,h1⟩
 ·refine⟨?_,.inl (B.keep hb (.inr h1)).1⟩
  rw[B.own_eq hb (by rw[h1];rfl),h];rfl
 ·refine⟨by rw[B.own_eq hb (by rw[h1];rfl),h];rfl,.inr ?_⟩
  obtain⟨j',cs,off,e1,e2,e3⟩:=Ea8 hj;rw[Rby]at e1;subst e1;obtain⟨c',gk,gp,ls,h2,h3,h4,h5⟩:=B.bx j false cs e2;rw[e3]at h2;obtain⟨rfl,rfl⟩:c=c'/\off=gk:=by simpa using h2
  obtain rfl:=(h5 rfl).1;obtain⟨-,c0,c1,e,fr,h6,h7,h8,h9⟩:=B.hF.boxes b j hb h1;refine⟨j,cs,off,ls,c0,c1,e,fr,e2,e3,n2,h3,h4,h6,h7,h8,fun k hk=>h9 k ?_⟩
  have e4:(nY s (callG ρ G w s Z) w).rng j=((G.bx c).off+off,(G.bx c).off+off+cs.length):=by
   simp only[nY,callG,e3,Ra9,Qb8,e2,Sbv]
  rw[e4];exact hk
theorem Pa1.allow {b:Nat}(h:G'.own b=.frz):allow (eQ gd ρ G w s Z nr nb G'.own hs adn) Z.deps b:=by
 by_cases hb:b<w.heap.size
 ·cases dj:Lau ((callG ρ G w s Z).own b) with
  | true =>
   refine .inl ?_;simp only[eQ];rw[if_neg (by rw[dj];simp),h];rfl
  | false =>
   have ab:=B.own_eq (gd:=gd) (nr:=nr) (nb:=nb) (hs:=hs) (adn:=adn) hb dj
   cases hg:G.own b with
   |frz=>exact .inl (B.frz hg hb).1
   | oth =>
    have h1:(callG ρ G w s Z).own b=.oth:=by simp only[callG,hg]
    have:=(B.keep hb (.inr h1)).2;rw[h,h1]at this;cases this
   | box c =>
    have n2:=(B.boxes (gd:=gd) (nr:=nr) (nb:=nb) (hs:=hs) (adn:=adn) hg hb);exfalso
    have key:((callG ρ G w s Z).own b=.oth)\/∃ j,(callG ρ G w s Z).own b=.box j:=by
     simp only[callG,hg];split
     ·split
      ·exact .inr ⟨_,rfl⟩
      ·exact .inl rfl
     ·exact .inl rfl
    rcases key with h1|⟨j,h1⟩
    ·have:=(B.keep hb (.inr h1)).2
     rw[h,h1]at this;cases this
    ·have:=(B.hF.boxes b j hb h1).1
     rw[h]at this;cases this
   | slc r p =>
    by_cases hr:r∈bV Z.rts
    ·refine .inl ?_
     rw[ab,hg];obtain⟨ν,x,h1,h2,h3⟩:=rY hr;simp only[zL,h2]
     rcases h3 with ⟨d,rfl⟩|⟨d,q,X,rfl⟩
     ·rfl
     ·have h4:=Mak (ρ:=ρ) (G:=G) (w:=w) B.hk h1 hg
      dsimp only;rw[h4]at dj
      cases aj:strip (aZ ρ q) p with
      | some t' =>
       rw[aj]at dj;dsimp only at dj ⊢;split at dj
       ·cases dj
       ·rename_i hle
        rw[if_neg hle]
      | none =>
       have h5:(callG ρ G w s Z).own b=.oth:=by rw[h4,aj]
       have:=(B.keep hb (.inr h5)).2;rw[h,h5]at this;cases this
    ·have h1:(callG ρ G w s Z).own b=if r∈Z.deps.map (·.1) then .frz else .oth:=by
      simp only[callG,hg];exact qG hr
     by_cases hd:r∈Z.deps.map (·.1)
     ·obtain⟨z,hz,e⟩:=List.mem_map.1 hd
      refine .inr ⟨r,z.2,p,by rw[<- e];exact hz,(B.other hr hg).1⟩
     ·rw[if_neg hd]at h1
      have:=(B.keep hb (.inr h1)).2;rw[h,h1]at this;cases this
 ·refine .inl ?_
  simp only[eQ];rw[if_neg (by simp[hb]),h];rfl
theorem Pa1.rd {v:Value}{d:D}(h:Rd (fun b=>G'.own b=.frz) w' v d):Rd (Go.Proofs.YtpgnlmfmlffjcaaGreat.Rf.allow (eQ gd ρ G w s Z nr nb G'.own hs adn) Z.deps) w' v d :=
 h.mono fun b hb=>⟨B.allow hb,rfl⟩
theorem Pa1.slc {b t:Nat}{p:List Nat}(h:G'.own b=.slc t p):(eQ gd ρ G w s Z nr nb G'.own hs adn).own b=tJ gd ρ nr nb s.boxes.length (Z.rts.filter vT) (.slc t p):=by
 simp only[eQ];rw[if_neg,h]
 rintro⟨hb,dj⟩
 cases hg:(callG ρ G w s Z).own b with
 |frz=>have:=(B.keep hb (.inl hg)).2;rw[h,hg]at this;cases this
 |oth=>have:=(B.keep hb (.inr hg)).2;rw[h,hg]at this;cases this
 |slc _ _=>rw[hg]at dj;cases dj
 |box j=>have:=(B.hF.boxes b j hb hg).1;rw[h]at this;cases this
theorem Pa1.give {q m:Nat}{v:Value}{d:D}(h:Rp G'.own w' (2*q) [] m v d)(cE:Z.deps=[]\/nT m d=true)(cR:gd=false)(hq:q<bP):Rp (eQ gd ρ G w s Z nr nb G'.own hs adn).own w' (nr+q) [] m v d:=by
 have:=h.remap (own':=(eQ gd ρ G w s Z nr nb G'.own hs adn).own) (r':=nr+q) (q:=[]) (q':=[]) (fun b t hb=>by
  rw[B.slc hb,cR];simp only[tJ,Sba]
  rw[if_pos (by omega),if_neg (by simp),show 2*q / 2=q by omega,if_pos hq]) [] rfl (cE.imp (fun e b hb _=>by
   rcases B.allow (gd:=gd) (nr:=nr) (nb:=nb) (hs:=hs) (adn:=adn) hb with h1|⟨r,k,p,h1,-⟩
   ·exact h1
   ·rw[e]at h1;simp at h1) id)
 simpa using this
theorem Pa1.giveGd {q m:Nat}{v:Value}{d:D}(h:Rp G'.own w' (2*q) [] m v d)(cR:gd=true):Rd (Go.Proofs.YtpgnlmfmlffjcaaGreat.Rf.allow (eQ gd ρ G w s Z nr nb G'.own hs adn) Z.deps) w' v d:=by
 refine h.rd.mono fun b hb=>⟨?_,rfl⟩
 rcases hb with hb|⟨p,hb⟩
 ·exact B.allow hb
 ·refine .inl ?_
  rw[B.slc hb,cR];simp only[tJ];rw[if_pos (by omega),if_pos trivial]
theorem Pa1.mu {ν j r d m an:Nat}{q:List (aI×Nat×Nat)}{X y X' X0:aI}(hm:σ (kR r)=some (.root X0 m an .live))(hdm:q.length+d=m\/nT d (y.val ρ)=true)(qi:Z.rts[ν]?=some (.mu r d q X))(hj:(Z.rts.filter vT)[j]?=some (.mu r d q X)){u:Value}(hu:∀ u',yG G.own w r [] (G.hdr r) (aZ ρ q) u'->u=u')
  (h:Rp G'.own w' (2*j+1) [] d u (y.val ρ)) (cE:Z.deps=[]\/nT d (y.val ρ)=true) (jy:Upd (aZ ρ q) (X.val ρ) (y.val ρ) (X'.val ρ)) :
  Rp (eQ gd ρ G w s Z nr nb G'.own hs adn).own w' r [] m (G.hdr r) (X'.val ρ):=by
 obtain⟨m',rK,u',hσ,hle,hn⟩:=B.mus ν r d q X qi;rw[hm]at hσ
 obtain⟨rfl,rfl,rfl⟩:X0=X/\m=m'/\an=rK:=by
  have:=Option.some.inj hσ
  injection this with e1 e2 e3
  exact⟨e1,e2,e3⟩
 obtain rfl:=hu u' hn;have hlen:(aZ ρ q).length=q.length:=by simp[aZ]
 have de:Rp (eQ gd ρ G w s Z nr nb G'.own hs adn).own w' r (aZ ρ q) d u (y.val ρ):=by
  have:=h.remap (own':=(eQ gd ρ G w s Z nr nb G'.own hs adn).own) (r':=r) (q:=[]) (q':=aZ ρ q) (fun b t hb=>by
   rw[B.slc hb];simp only[tJ,Sba]
   rw[if_neg (by omega),show (2*j+1) / 2=j by omega,hj]) [] rfl (cE.imp (fun e b hb _=>by
    rcases B.allow (gd:=gd) (nr:=nr) (nb:=nb) (hs:=hs) (adn:=adn) hb with h1|⟨r,k,p,h1,-⟩
    ·exact h1
    ·rw[e]at h1;simp at h1) id)
  simpa using this
 have zq:Rp (eQ gd ρ G w s Z nr nb G'.own hs adn).own w' r (aZ ρ q) (m-(aZ ρ q).length) u (y.val ρ):=by
  rcases hdm with e|e
  ·rwa[hlen,show m-q.length=d by omega]
  ·exact de.deeper (by omega) e
 have cw:=B.hR.root hm;simp only[bM]at cw
 have:=Rp.updM (own:=G.own) (own':=(eQ gd ρ G w s Z nr nb G'.own hs adn).own) (w:=w) (w':=w') (r:=r) (M:=m) (full:=aZ ρ q) (y:=y.val ρ) (u:=u)
  (fun b hb hlt=>B.frz hb hlt) (fun b t hb y6=>?_) (by omega) zq (aZ ρ q) [] (G.hdr r) (X0.val ρ) (X'.val ρ) (by simp) (by simpa using cw) hn jy
 ·simpa using this
 ·have hlt:=B.lt hb
  have h1:=Mak (ρ:=ρ) (G:=G) (w:=w) B.hk qi hb
  have aj:strip (aZ ρ q) t=none:=by
   cases e:strip (aZ ρ q) t with
   |none=>rfl
   |some t'=>exact absurd ⟨t',(Jab e).symm⟩ y6
  rw[aj]at h1;refine⟨?_,(B.keep hlt (.inr h1)).1⟩;rw[B.own_eq hlt (by rw[h1];rfl),hb];simp only[zL,Aaw B.hk.dist qi,aj]
theorem Pa1.frame:lM F (eQ gd ρ G w s Z nr nb G'.own hs adn) w':=by
 have b7:w.heap.size<=w'.heap.size:=B.hF.size;refine⟨B.hF.os.trans B.hR.frame.os,B.hF.tape.trans B.hR.frame.tape,B.hF.output.trans B.hR.frame.output,Nat.le_trans B.hR.frame.size b7,fun b hb ho=>?_,fun b j hb ho=>?_,fun b hb=>?_⟩
 ·obtain⟨h1,h2⟩:=B.hR.frame.keep b hb ho
  have hlt:b<w.heap.size:=Nat.lt_of_lt_of_le hb B.hR.frame.size
  rcases ho with ho|ho
  ·rw[ho]at h2 ⊢
   obtain⟨h3,h4⟩:=B.frz (gd:=gd) (nr:=nr) (nb:=nb) (hs:=hs) (adn:=adn) h2 hlt;exact⟨h4.trans h1,h3⟩
  ·rw[ho]at h2 ⊢
   obtain⟨h3,h4⟩:=B.oth (gd:=gd) (nr:=nr) (nb:=nb) (hs:=hs) (adn:=adn) h2 hlt;exact⟨h4.trans h1,h3⟩
 ·obtain⟨h1,c0,c1,e,fr,h2,h3,h4,h5⟩:=B.hR.frame.boxes b j hb ho
  have hlt:b<w.heap.size:=Nat.lt_of_lt_of_le hb B.hR.frame.size;obtain⟨h6,h7⟩:=B.boxes (gd:=gd) (nr:=nr) (nb:=nb) (hs:=hs) (adn:=adn) h1 hlt;refine⟨h6,?_⟩
  rcases h7 with h7|⟨i,cs,off,ls,d0,d1,e',fr',h8,h9,bo,b9,cL,fp,gj,ij,je⟩
  ·exact⟨c0,c1,e,fr,h2,h7.trans h3,h4,h5⟩
  ·rw[h3]at fp
   obtain⟨rfl,rfl,rfl⟩:c1=d0/\e=e'/\fr=fr':=by
    have:=Option.some.inj fp
    injection this with e1 e2 e3
    exact⟨e1,e2,e3⟩
   have sg:=B.hR.rng j ls b9 (by rw[<- bo];exact hb) (by rw[<- bo];exact ho);refine⟨c0,d1,e,fr,h2,gj,ij.trans h4,fun k hk=>?_⟩;rw[sg]at hk;dsimp only at hk;rw[je k (by omega),h5 k (by rw[sg];exact hk)]
 ·simp only[eQ]
  rw[if_neg (by omega),B.hF.fresh b hb];rfl
end
end Go.Proofs.YtpgnlmfmlffjcaaGreat.Rf
