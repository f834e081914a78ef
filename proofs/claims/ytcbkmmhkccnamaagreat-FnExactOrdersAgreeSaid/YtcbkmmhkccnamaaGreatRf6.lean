/- Terms for s6 program's functions, and nj they are right: part 6 of 10. -/
import Derived.Test.YtcbkmmhkccnamaaGreatRf5
open Bool renaming and_eq_true → Zbd, false_eq_true → Zbg, not_eq_true' → Zb3, or_eq_true → Acp
open List renaming mem_append_left → Zbe, getElem?_eq_getElem → Zbf, mem_append_right → Zbh, getD_eq_getElem?_getD → Zbk, getElem?_cons_zero → Zbl, append_assoc → Zbm, mem_cons_of_mem → Zbn, mem_singleton → Zbp, length_cons → Zbs, length_map → Zbt, mem_cons_self → Zbu, mem_of_getElem? → Zbv, getElem?_append_right → Zbw, length_nil → Zby, getElem?_map → Zb2, append_nil → Zb4, map_cons → Zb5, all_eq_true → Zb6, map_nil → Acb, mem_cons → Acf, getElem?_drop → Acg, getElem?_cons_succ → Acl, nil_append → Aco, mem_map_of_mem → Acx, getElem?_set → Bci, any_eq_false → Ccf
open Nat renaming le_refl → Zbr, lt_or_ge → Zbz, add_assoc → Zb0, beq_eq → Zb8, add_zero → Zb9, zero_add → Aca, add_sub_cancel_left → Ace, blt_eq → Ach, ble_eq → Acr, zero_le → Bca
open Option renaming bind_eq_some_iff → Zbc, bind_some → Zbj, map_some → Acm, getD_some → Bcd
set_option linter.unusedSimpArgs false
set_option linter.unusedVariables false
set_option linter.unnecessarySimpa false
set_option linter.unusedSectionVars false
namespace Go.Proofs.YtcbkmmhkccnamaaGreat.Rf
def LS.cnt:LS->Nat
 |.px _=>0
 |.clo _ _=>0
 |_=>1
def LS.rcnt:LS->Nat
 |.mu _=>1
 |.ow _=>1
 |_=>0
def Yat:List LS->Nat
 |[]=>0
 |s::ss=>s.cnt+Yat ss
def kF:List LS->Nat
 |[]=>0
 |s::ss=>s.rcnt+kF ss
def Mac:List (Bool×List LS)->Nat
 |[]=>0
 |(_,ss)::ps=>Yat ss+Mac ps
def jL:List (Bool×List LS)->Nat
 |[]=>0
 |(_,ss)::ps=>kF ss+jL ps
def BS.cnt:BS->Nat
 |.ot=>0
 |_=>1
def BS.rcnt:BS->Nat
 |.ow _=>1
 |_=>0
def Cb4:List (BS×BO)->Nat
 |[]=>0
 |(s,_)::ss=>s.cnt+Cb4 ss
def wE:List (BS×BO)->Nat
 |[]=>0
 |(s,_)::ss=>s.rcnt+wE ss
def Cb5:List (Bool×List (BS×BO))->Nat
 |[]=>0
 |(_,cs)::bs=>Cb4 cs+Cb5 bs
def wF:List (Bool×List (BS×BO))->Nat
 |[]=>0
 |(_,cs)::bs=>wE cs+wF bs
section
variable (G:Gh) (w:World) (ρ:List D) (nbx:Nat)
def Cbt (ok:Nat->Prop)(w:World)(v:Value)(d:D):Prop :=
 (v=.pointer none/\∃ z,d=.rows z [])\/∃ a row,v=.pointer (some a)/\d=.rows row.length [row]/\Rd ok w (.slice (some a) 1 1) (.rows row.length [row])
def xW:List LS->List Value->Prop
 |[],vs=>vs=[]
 |c::cs,vs=>∃ u us,vs=u::us/\(match c with | .px b=>u=.pointer (some (G.bx b))/\b<nbx | _=>u.oneCell'=true)/\xW cs us
def kV (i nr:Nat):LS->Value->Prop
 |.sc,v=>Sc v ((aL.v i).val ρ)
 |.fz nie,v=>Rd (fun b=>G.own b=.frz) w v ((aL.v i).val ρ)/\(nie=true->∀ z,(aL.v i).val ρ=.rows z []->v=.slice none 0 0)
 |.mu m,v=>v=G.hdr nr/\Rp G.own w nr [] m v ((aL.v i).val ρ)
 |.ow m,v=>v=G.hdr nr/\Rp G.own w nr [] m v ((aL.v i).val ρ)
 |.px b,v=>v=.pointer (some (G.bx b))/\b<nbx
 |.clo f cs,v=>∃ vs,v=.func (.func f) #[] vs.toArray/\xW G nbx cs vs
 |.rp _,v=>v.oneCell'=true/\Cbt (fun b=>G.own b=.frz) w v ((aL.v i).val ρ)
def sQ:Nat->Nat->List LS->List Value->Prop
 |_,_,[],vs=>vs=[]
 |i,nr,s::ss,vs=>∃ u us,vs=u::us/\kV G w ρ nbx i nr s u/\sQ (i+s.cnt) (nr+s.rcnt) ss us
def kL:Nat->Nat->List (Bool×List LS)->List Value->Prop
 |_,_,[],us=>us=[]
 |i,nr,(a,ss)::ps,us=>∃ u cW vs,us=u::cW/\sQ G w ρ nbx i nr ss vs/\(if a=true then u=.agg vs.toArray else vs=[u])/\kL (i+Yat ss) (nr+kF ss) ps cW
def xV (i nr:Nat):BS->Value->Prop
 |.sc,v=>Sc v ((aL.v i).val ρ)
 |.fz nie,v=>Rd (fun b=>G.own b=.frz) w v ((aL.v i).val ρ)/\(nie=true->∀ z,(aL.v i).val ρ=.rows z []->v=.slice none 0 0)
 |.ow m,v=>v=G.hdr nr/\Rp G.own w nr [] m v ((aL.v i).val ρ)
 |.ot,v=>v.oneCell'=true
def Ga5 (ad:Addr):Nat->Nat->Nat->List (BS×BO)->Prop
 |_,_,_,[]=>True
 |off,i,nr,(s,_)::ss=>(∃ v,w.cell? (ad.add off)=some v/\w.frozen? (ad.add off)=false/\xV G w ρ i nr s v)/\Ga5 ad (off+1) (i+s.cnt) (nr+s.rcnt) ss
def Ga6:Nat->Nat->Nat->List (Bool×List (BS×BO))->Prop
 |_,_,_,[]=>True
 |b,i,nr,(ro,cs)::bs=>(G.bx b).spot=none/\G.own (G.bx b).block=(if ro=true then .oth else .box b)/\Ga5 G w ρ (G.bx b) 0 i nr cs/\Ga6 (b+1) (i+Cb4 cs) (nr+wE cs) bs
end
structure Cb2 (s:Sig) (vals:List Value) (w:World) (G:Gh) (ds:List D):Prop where
 params:kL G w ds s.boxes.length 0 0 s.params vals
 boxes:Ga6 G w ds 0 (Mac s.params) (jL s.params) s.boxes
 len:ds.length=Mac s.params+Cb5 s.boxes
 fresh:∀ b,w.heap.size<=b->G.own b=.frz
 cells:∀ b j,b<w.heap.size->G.own b=.box j->j<s.boxes.length/\∃ c e fr,w.heap[b]?=some (.cells c e fr)
def Iaz (s:Sig)(G:Gh):List Value:=(eQ 0 (s.params.flatMap (·.2))).map G.hdr++(range 0 s.boxes.length).map fun b=>Value.pointer (some (G.bx b))
def pK (s:Sig)(G:Gh)(w:World):bH :=
 ⟨w,G.own,fun j=>(Iaz s G).getD j undef,fun b=>((G.bx b).off,(G.bx b).off+(s.boxes.getD b (true,[])).2.length)⟩
theorem Rag {i nr:Nat}(s:LS):∃ l u,iW i nr s=(l,u,i+s.cnt,nr+s.rcnt)/\∀ k c,(k,c)∈u->∃ m,s.rcnt=1/\k=kR nr/\c=.root (.v i) m 0 .live/\(s=.mu m\/s=.ow m)/\l=.ex nr:=by
 cases s with
 | mu m =>
  refine⟨_,_,rfl,fun k c h=>?_⟩;simp only[Zbp,Prod.mk.injEq]at h;exact⟨m,rfl,h.1,h.2,.inl rfl,rfl⟩
 | ow m =>
  refine⟨_,_,rfl,fun k c h=>?_⟩;simp only[Zbp,Prod.mk.injEq]at h;exact⟨m,rfl,h.1,h.2,.inr rfl,rfl⟩
 |_=>exact⟨_,_,rfl,by simp⟩
section
variable {G:Gh} {w:World} {ρ:List D} {nbx:Nat} {σ:Nat->Option aS}
theorem Faz (gi:∀ b,b<nbx->(σ (kB b)).isSome):∀ {cs:List LS} {vs:List Value},xW G nbx cs vs->aG σ ρ G w (cs.map fun c=>match c with|.px b=>.px b 0|_=>.dead) vs
 |[],vs,h=>by simpa[xW,aG] using h
 | c :: cs, vs, h => by
  obtain⟨u,us,rfl,h1,h2⟩:=h;simp only[Zb5,aG];refine⟨u,us,rfl,?_,Faz gi h2⟩
  cases c with
  | px b =>
   simp only[aB];exact⟨by rw[h1.1];rfl,gi b h1.2⟩
  |_=>simp only[aB];exact h1
def mF (σ:Nat->Option aS)(G:Gh)(w:World)(ρ:List D)(u:List (Nat×aS)):Prop:=∀ k c,(k,c)∈u->∃ r m i,k=kR r/\c=.root (.v i) m 0 .live/\Rp G.own w r [] m (G.hdr r) ((aL.v i).val ρ)
theorem Taq (gi:∀ b,b<nbx->(σ (kB b)).isSome){i nr:Nat}{s:LS}{v:Value}(h:kV G w ρ nbx i nr s v)(oT:s.rcnt=1->(σ (kR nr)).isSome) :
  aB σ ρ G w (iW i nr s).1 v/\mF σ G w ρ (iW i nr s).2.1:=by
 cases s with
 |sc=>exact⟨by simpa[iW,aB,kV] using h,by simp[mF,iW]⟩
 | fz nie =>
  refine⟨?_,by simp[mF,iW]⟩;simp only[kV]at h;simp only[iW,aB];exact⟨⟨h.1.one,by simp⟩,fun _=>⟨h.1.mono fun b hb=>⟨.inl hb,rfl⟩,h.2,trivial⟩⟩
 | mu m =>
  simp only[kV]at h;refine⟨?_,?_⟩
  ·simp only[iW,aB]
   exact⟨h.1,oT rfl,h.2.one⟩
  ·intro k c hc
   simp only[iW,Zbp,Prod.mk.injEq]at hc;exact⟨nr,m,i,hc.1,hc.2,by rw[<- h.1];exact h.2⟩
 | ow m =>
  simp only[kV]at h;refine⟨?_,?_⟩
  ·simp only[iW,aB]
   exact⟨h.1,oT rfl,h.2.one⟩
  ·intro k c hc
   simp only[iW,Zbp,Prod.mk.injEq]at hc;exact⟨nr,m,i,hc.1,hc.2,by rw[<- h.1];exact h.2⟩
 | px b =>
  refine⟨?_,by simp[mF,iW]⟩;simp only[kV]at h;simp only[iW,aB];exact⟨by rw[h.1];rfl,gi b h.2⟩
 | clo f cs =>
  refine⟨?_,by simp[mF,iW]⟩;simp only[kV]at h;obtain⟨vs,h1,h2⟩:=h;simp only[iW,aB];exact⟨vs,h1,Faz gi h2⟩
 | rp z =>
  refine⟨?_,by simp[mF,iW]⟩;simp only[kV]at h;simp only[iW,aB];refine⟨⟨h.1,by simp⟩,fun _=>?_⟩
  rcases h.2 with h1|⟨a,row,h1,h2,h3⟩
  ·exact .inl h1
  ·exact .inr ⟨a,row,h1,h2,h3.mono fun b hb=>⟨.inl hb,rfl⟩⟩
theorem mF.append {u v:List (Nat×aS)}(h:mF σ G w ρ u)(h':mF σ G w ρ v):mF σ G w ρ (u++v):=fun k c hc=>(List.mem_append.1 hc).elim (h k c) (h' k c)
theorem Aa2:∀ (ss:List LS) (i nr:Nat),(dU i nr ss).2.2=(i+Yat ss,nr+kF ss)/\(dU i nr ss).1.length=ss.length/\∀ r,nr<=r->r<nr+kF ss->∃ c,(kR r,c)∈(dU i nr ss).2.1
 |[],i,nr=>⟨rfl,rfl,fun r h1 h2=>by simp only[kF]at h2;omega⟩
 | s :: ss, i, nr => by
  obtain⟨l,u,h1,h2⟩:=Rag (i:=i) (nr:=nr) s;obtain⟨h3,h4,h5⟩:=Aa2 ss (i+s.cnt) (nr+s.rcnt);simp only[dU,h1];refine⟨h3.trans (by simp only[Yat,kF,Zb0]),by simp[h4],fun r pP rv=>?_⟩;simp only[kF]at rv
  rcases Zbz r (nr+s.rcnt) with h6|h6
  ·have hs:s.rcnt=1:=by cases s<;>simp[LS.rcnt]at h6 ⊢<;>omega
   have:r=nr:=by omega
   subst this;cases s<;>simp[LS.rcnt]at hs
   all_goals
    simp only[iW,Prod.mk.injEq]at h1;obtain⟨-,rfl,-⟩:=h1;exact⟨_,Zbe _ (List.mem_singleton.2 rfl)⟩
  ·obtain⟨c,hc⟩:=h5 r h6 (by omega)
   exact⟨c,Zbh _ hc⟩
theorem Ca8 (gi:∀ b,b<nbx->(σ (kB b)).isSome):∀ {ss:List LS} {i nr:Nat} {vs:List Value},sQ G w ρ nbx i nr ss vs->(∀ r,nr<=r->r<nr+kF ss->(σ (kR r)).isSome) ->
  aG σ ρ G w (dU i nr ss).1 vs/\mF σ G w ρ (dU i nr ss).2.1
 |[],i,nr,vs,h,_=>⟨by simpa[sQ,dU,aG] using h,by simp[mF,dU]⟩
 | s :: ss, i, nr, vs, h, hr => by
  obtain⟨u,us,rfl,h1,h2⟩:=h;obtain⟨l,up,h3,h4⟩:=Rag (i:=i) (nr:=nr) s;obtain⟨h5,h6⟩:=Taq gi h1 fun e=>hr nr (Zbr _) (by simp only[kF];omega)
  obtain⟨h7,h8⟩:=Ca8 gi h2 fun r pP rv=>hr r (by omega) (by simp only[kF];omega)
  simp only[dU,h3]at h5 h6 ⊢;exact⟨by simp only[aG];exact⟨u,us,rfl,h5,h7⟩,h6.append h8⟩
theorem uI:∀ (ps:List (Bool×List LS)) (t i nr:Nat),(jR t i nr ps).2=(i+Mac ps,nr+jL ps)/\∀ r,nr<=r->r<nr+jL ps->∃ c,(kR r,c)∈(jR t i nr ps).1
 |[],t,i,nr=>⟨rfl,fun r h1 h2=>by simp only[jL]at h2;omega⟩
 | (a, ss) :: ps, t, i, nr => by
  obtain⟨h1,-,h2⟩:=Aa2 ss i nr;obtain⟨h3,h4⟩:=uI ps (t+1) (i+Yat ss) (nr+kF ss);have e:dU i nr ss=((dU i nr ss).1,(dU i nr ss).2.1,i+Yat ss,nr+kF ss):=by rw[<- h1]
  simp only[jR];rw[e];dsimp only;refine⟨h3.trans (by simp only[Mac,jL,Zb0]),fun r pP rv=>?_⟩;simp only[jL]at rv
  rcases Zbz r (nr+kF ss) with h6|h6
  ·obtain⟨c,hc⟩:=h2 r pP h6
   exact⟨c,Zbn _ (Zbe _ hc)⟩
  ·obtain⟨c,hc⟩:=h4 r h6 (by omega)
   exact⟨c,Zbn _ (Zbh _ hc)⟩
def Obq (σ:Nat->Option aS)(G:Gh)(w:World)(ρ:List D)(val:Nat->Option Value)(u:List (Nat×aS)):Prop :=
 ∀ k c,(k,c)∈u->(∃ t v sv,k=kT t/\c=.slot none sv/\val t=some v/\cB σ ρ G w sv v)\/(∃ r m i,k=kR r/\c=.root (.v i) m 0 .live/\Rp G.own w r [] m (G.hdr r) ((aL.v i).val ρ))
theorem Ca7 (gi:∀ b,b<nbx->(σ (kB b)).isSome):∀ {ps:List (Bool×List LS)} {t i nr:Nat} {us:List Value},kL G w ρ nbx i nr ps us->(∀ r,nr<=r->r<nr+jL ps->(σ (kR r)).isSome) ->
  us.length=ps.length/\Obq σ G w ρ (fun j=>if t<=j then us[j-t]? else none) (jR t i nr ps).1
 | [], t, i, nr, us, h, _ => by
  simp only[kL]at h;subst h;exact⟨rfl,by simp[Obq,jR]⟩
 | (a, ss) :: ps, t, i, nr, us, h, hr => by
  obtain⟨u,cW,vs,rfl,h1,h2,h3⟩:=h;obtain⟨h4,h5,-⟩:=Aa2 ss i nr;obtain⟨h6,h7⟩:=Ca8 gi h1 fun r pP rv=>hr r pP (by simp only[jL];omega)
  obtain⟨h8,h9⟩:=Ca7 gi (t:=t+1) h3 fun r pP rv=>hr r (by omega) (by simp only[jL];omega)
  have e:dU i nr ss=((dU i nr ss).1,(dU i nr ss).2.1,i+Yat ss,nr+kF ss):=by rw[<- h4]
  simp only[jR];rw[e];dsimp only;refine⟨by simp[h8],fun k c hc=>?_⟩
  rcases List.mem_cons.1 hc with hc|hc
  ·obtain⟨rfl,rfl⟩:=Prod.mk.inj hc
   refine .inl ⟨t,u,_,rfl,rfl,by simp,?_⟩
   cases gE:Uar a (dU i nr ss).1 with
   |none=>trivial
   |some sv=>exact tF gE h6 h2
  ·rcases List.mem_append.1 hc with hc|hc
   ·exact .inr (h7 k c hc)
   ·rcases h9 k c hc with ⟨t',v,sv,e1,e2,e3,e4⟩|cL
    ·refine .inl ⟨t',v,sv,e1,e2,?_,e4⟩
     dsimp only at e3 ⊢;split at e3
     ·rename_i hle
      rw[if_pos (by omega)];rw[show t'-t=(t'-(t+1))+1 by omega];exact e3
     ·cases e3
    ·exact .inr cL
theorem Tar {i nr:Nat}{s:BS}{v:Value}(h:xV G w ρ i nr s v)(oT:s.rcnt=1->(σ (kR nr)).isSome) :
  aB σ ρ G w (gT i nr s).1 v/\mF σ G w ρ (gT i nr s).2.1/\(gT i nr s).2.2=(i+s.cnt,nr+s.rcnt)/\(s.rcnt=1->∃ c,(kR nr,c)∈(gT i nr s).2.1):=by
 cases s with
 |sc=>exact⟨by simpa[gT,aB,xV] using h,by simp[mF,gT],rfl,fun e=>by cases e⟩
 | fz nie =>
  refine⟨?_,by simp[mF,gT],rfl,fun e=>by cases e⟩;simp only[xV]at h;simp only[gT,aB];exact⟨⟨h.1.one,by simp⟩,fun _=>⟨h.1.mono fun b hb=>⟨.inl hb,rfl⟩,h.2,trivial⟩⟩
 | ow m =>
  simp only[xV]at h;refine⟨?_,?_,rfl,fun _=>⟨_,List.mem_singleton.2 rfl⟩⟩
  ·simp only[gT,aB]
   exact⟨h.1,oT rfl,h.2.one⟩
  ·intro k c hc
   simp only[gT,Zbp,Prod.mk.injEq]at hc;exact⟨nr,m,i,hc.1,hc.2,by rw[<- h.1];exact h.2⟩
 |ot=>exact⟨by simpa[gT,aB,xV] using h,by simp[mF,gT],rfl,fun e=>by cases e⟩
theorem Bbr {i nr:Nat}(s:BS):(gT i nr s).2.2=(i+s.cnt,nr+s.rcnt)/\(s.rcnt=1->∃ c,(kR nr,c)∈(gT i nr s).2.1):=by
 cases s<;>refine⟨rfl,fun e=>?_⟩<;>first|cases e|skip
 exact⟨_,List.mem_singleton.2 rfl⟩
theorem Eal:∀ (ss:List (BS×BO)) (i nr:Nat),(gL i nr ss).2.2=(i+Cb4 ss,nr+wE ss)/\(gL i nr ss).1.length=ss.length/\∀ r,nr<=r->r<nr+wE ss->∃ c,(kR r,c)∈(gL i nr ss).2.1
 |[],i,nr=>⟨rfl,rfl,fun r h1 h2=>by simp only[wE]at h2;omega⟩
 | (s, o) :: ss, i, nr => by
  obtain⟨h1,h2⟩:=Bbr (i:=i) (nr:=nr) s;obtain⟨h3,h4,h5⟩:=Eal ss (i+s.cnt) (nr+s.rcnt);have e:gT i nr s=((gT i nr s).1,(gT i nr s).2.1,i+s.cnt,nr+s.rcnt):=by rw[<- h1]
  simp only[gL];rw[e];dsimp only;refine⟨h3.trans (by simp only[Cb4,wE,Zb0]),by simp[h4],fun r pP rv=>?_⟩;simp only[wE]at rv
  rcases Zbz r (nr+s.rcnt) with h6|h6
  ·have hs:s.rcnt=1:=by cases s<;>simp[BS.rcnt]at h6 ⊢<;>omega
   have:r=nr:=by omega
   subst this;obtain⟨c,hc⟩:=h2 hs;exact⟨c,Zbe _ hc⟩
  ·obtain⟨c,hc⟩:=h5 r h6 (by omega)
   exact⟨c,Zbh _ hc⟩
theorem Fat {ad:Addr}:∀ {ss:List (BS×BO)} {off i nr:Nat},Ga5 G w ρ ad off i nr ss->(∀ r,nr<=r->r<nr+wE ss->(σ (kR r)).isSome) ->
  (∀ j l,(gL i nr ss).1[j]?=some l->∃ v,w.cell? (ad.add (off+j))=some v/\w.frozen? (ad.add (off+j))=false/\aB σ ρ G w l v)/\mF σ G w ρ (gL i nr ss).2.1
 |[],off,i,nr,_,_=>⟨by simp[gL],by simp[mF,gL]⟩
 | (s, o) :: ss, off, i, nr, h, hr => by
  obtain⟨⟨v,h1,h2,h3⟩,h4⟩:=h;obtain⟨h5,h6,h7,-⟩:=Tar h3 fun e=>hr nr (Zbr _) (by simp only[wE];omega)
  obtain⟨h8,h9⟩:=Fat h4 fun r pP rv=>hr r (by omega) (by simp only[wE];omega)
  have e:gT i nr s=((gT i nr s).1,(gT i nr s).2.1,i+s.cnt,nr+s.rcnt):=by rw[<- h7]
  simp only[gL];rw[e];dsimp only;refine⟨fun j l hj=>?_,h6.append h9⟩
  cases j with
  | zero =>
   simp only[Zbl,Option.some.injEq]at hj;subst hj;exact⟨v,h1,h2,h5⟩
  | succ j =>
   obtain⟨v',cL,ef,fW⟩:=h8 j l (by simpa using hj);rw[show off+(j+1)=off+1+j by omega];exact⟨v',cL,ef,fW⟩
def Ob3 (σ:Nat->Option aS)(G:Gh)(w:World)(ρ:List D)(bs:Nat->Option (Bool×List (BS×BO)))(u:List (Nat×aS)):Prop :=
 ∀ k c,(k,c)∈u->(∃ b ro ls cs,k=kB b/\c=.box ro ls/\bs b=some (ro,cs)/\ls.length=cs.length/\Mal σ ρ G w b ro ls)\/(∃ r m i,k=kR r/\c=.root (.v i) m 0 .live/\Rp G.own w r [] m (G.hdr r) ((aL.v i).val ρ))
theorem yV:∀ (bs:List (Bool×List (BS×BO))) (b i nr:Nat),(kQ b i nr bs).2=(i+Cb5 bs,nr+wF bs)/\(∀ r,nr<=r->r<nr+wF bs->∃ c,(kR r,c)∈(kQ b i nr bs).1)/\∀ j,b<=j->j<b+bs.length->∃ c,(kB j,c)∈(kQ b i nr bs).1
 |[],b,i,nr=>⟨rfl,fun r h1 h2=>by simp only[wF]at h2;omega,fun j h1 h2=>by simp only[Zby]at h2;omega⟩
 | (ro, cs) :: bs, b, i, nr => by
  obtain⟨h1,-,h2⟩:=Eal cs i nr;obtain⟨h3,h4,h5⟩:=yV bs (b+1) (i+Cb4 cs) (nr+wE cs);have e:gL i nr cs=((gL i nr cs).1,(gL i nr cs).2.1,i+Cb4 cs,nr+wE cs):=by rw[<- h1]
  simp only[kQ];rw[e];dsimp only;refine⟨h3.trans (by simp only[Cb5,wF,Zb0]),fun r pP rv=>?_,fun j hj1 jo=>?_⟩
  ·simp only[wF]at rv
   rcases Zbz r (nr+wE cs) with h6|h6
   ·obtain⟨c,hc⟩:=h2 r pP h6
    exact⟨c,Zbn _ (Zbe _ hc)⟩
   ·obtain⟨c,hc⟩:=h4 r h6 (by omega)
    exact⟨c,Zbn _ (Zbh _ hc)⟩
  ·simp only[Zbs]at jo
   rcases Zbz j (b+1) with h6|h6
   ·obtain rfl:j=b:=by omega
    exact⟨_,Zbu⟩
   ·obtain⟨c,hc⟩:=h5 j h6 (by omega)
    exact⟨c,Zbn _ (Zbh _ hc)⟩
theorem Fau:∀ {bs:List (Bool×List (BS×BO))} {b i nr:Nat},Ga6 G w ρ b i nr bs->(∀ r,nr<=r->r<nr+wF bs->(σ (kR r)).isSome) ->
  Ob3 σ G w ρ (fun j=>if b<=j then bs[j-b]? else none) (kQ b i nr bs).1
 |[],b,i,nr,_,_=>by simp[Ob3,kQ]
 | (ro, cs) :: bs, b, i, nr, h, hr => by
  obtain⟨h1,h2,h3,h4⟩:=h;obtain⟨h5,h6,-⟩:=Eal cs i nr;obtain⟨h7,h8⟩:=Fat h3 fun r pP rv=>hr r pP (by simp only[wF];omega)
  have h9:=Fau (b:=b+1) h4 fun r pP rv=>hr r (by omega) (by simp only[wF];omega)
  have e:gL i nr cs=((gL i nr cs).1,(gL i nr cs).2.1,i+Cb4 cs,nr+wE cs):=by rw[<- h5]
  simp only[kQ];rw[e];dsimp only;intro k c hc
  rcases List.mem_cons.1 hc with hc|hc
  ·obtain⟨rfl,rfl⟩:=Prod.mk.inj hc
   refine .inl ⟨b,ro,_,cs,rfl,rfl,by simp,h6,h1,h2,fun j l hj=>?_⟩;have:=h7 j l hj;rwa[Aca]at this
  ·rcases List.mem_append.1 hc with hc|hc
   ·exact .inr (h8 k c hc)
   ·rcases h9 k c hc with ⟨j,lv,ls,oS,e1,e2,e3,e4⟩|cL
    ·refine .inl ⟨j,lv,ls,oS,e1,e2,?_,e4⟩
     dsimp only at e3 ⊢;split at e3
     ·rename_i hle
      rw[if_pos (by omega),show j-b=(j-(b+1))+1 by omega];exact e3
     ·cases e3
    ·exact .inr cL
end
theorem yP:∀ (ss:List LS) (r:Nat),∀ q∈eQ r ss,r<=q/\q<r+kF ss
 |[],r,q,h=>by simp[eQ]at h
 | s :: ss, r, q, h => by
  cases s with
  | mu m =>
   simp only[eQ,Acf]at h;simp only[kF,LS.rcnt]
   rcases h with rfl|h
   ·omega
   ·have:=yP ss (r+1) q h;omega
  | ow m =>
   simp only[eQ]at h;simp only[kF,LS.rcnt];have:=yP ss (r+1) q h;omega
  | _ =>
   simp only[eQ]at h;simp only[kF,LS.rcnt];have:=yP ss r q h;omega
theorem Fad:∀ (a b:List LS),kF (a++b)=kF a+kF b
 |[],b=>by simp[kF]
 |s::a,b=>by simp only[List.cons_append,kF,Fad a b,Zb0]
theorem Lal:∀ (ps:List (Bool×List LS)),kF (ps.flatMap (·.2))=jL ps
 |[]=>rfl
 |(a,ss)::ps=>by simp only[List.flatMap_cons,Fad,jL,Lal ps]
theorem uJ:∀ (ls:List aR) (t k:Nat) (c:aS),(k,c)∈sJ t ls->∃ j l,ls[j]?=some l/\k=kT (t+j)/\c=.slot none (.one l)
 |[],t,k,c,h=>by simp[sJ]at h
 | l :: ls, t, k, c, h => by
  simp only[sJ,Acf,Prod.mk.injEq]at h
  rcases h with ⟨rfl,rfl⟩|h
  ·exact⟨0,l,rfl,rfl,rfl⟩
  ·obtain⟨j,l',h1,rfl,rfl⟩:=uJ ls (t+1) k c h
   exact⟨j+1,l',by simpa using h1,by rw[show t+(j+1)=t+1+j by omega],rfl⟩
theorem Xax {s:Sig}{G:Gh}{j:Nat}{l:aR}(h:(Qa0 s)[j]?=some l) :
  (∃ r,(eQ 0 (s.params.flatMap (·.2)))[j]?=some r/\l=.ex r/\(Iaz s G).getD j undef=G.hdr r)\/(∃ b,b<s.boxes.length/\l=.px b 0/\(Iaz s G).getD j undef=.pointer (some (G.bx b))):=by
 unfold Qa0 at h;unfold Iaz;rw[Zbk]
 rcases Zbz j (eQ 0 (s.params.flatMap (·.2))).length with h1|h1
 ·rw[List.getElem?_append_left (by simpa using h1)]at h ⊢
  rw[Zb2]at h ⊢;rw[Zbf h1]at h ⊢;simp only[Acm,Option.some.injEq]at h;exact .inl ⟨_,rfl,h.symm,rfl⟩
 ·rw[Zbw (by simpa using h1)]at h ⊢
  simp only[Zbt]at h ⊢;rw[Zb2]at h ⊢
  cases hb:(range 0 s.boxes.length)[j-(eQ 0 (s.params.flatMap (·.2))).length]? with
  |none=>rw[hb]at h;cases h
  | some b =>
   rw[hb]at h;simp only[Acm,Option.some.injEq]at h;have:=mem_range.1 (Zbv hb);exact .inr ⟨b,by omega,h.symm,rfl⟩
def Gbr (s:Sig)(n:Nat):List (Nat×aS) :=
 (jR 0 0 0 s.params).1++(kQ 0 (Mac s.params) (jL s.params) s.boxes).1++sJ n (Qa0 s)
theorem entry_eq (s:Sig)(n:Nat):entry s n=St.puts ⟨.nil,Mac s.params+Cb5 s.boxes,s.boxes.length,jL s.params+wF s.boxes,n+nD s⟩ (Gbr s n):=by
 have h1:=(uI s.params 0 0 0).1;have h2:=(yV s.boxes 0 (Mac s.params) (jL s.params)).1;rw[Aca,Aca]at h1;have e:jR 0 0 0 s.params=((jR 0 0 0 s.params).1,Mac s.params,jL s.params):=by rw[<- h1]
 have e2:kQ 0 (Mac s.params) (jL s.params) s.boxes=((kQ 0 (Mac s.params) (jL s.params) s.boxes).1,Mac s.params+Cb5 s.boxes,jL s.params+wF s.boxes):=by rw[<- h2]
 unfold entry Gbr;rw[e];dsimp only;rw[e2]
theorem Eak (s:Sig)(n:Nat):(entry s n).nv=Mac s.params+Cb5 s.boxes/\(entry s n).nb=s.boxes.length/\(entry s n).nr=jL s.params+wF s.boxes/\(entry s n).nt=n+nD s:=by
 rw[entry_eq];obtain⟨h1,h2,h3,h4⟩:=jA (Gbr s n) ⟨.nil,Mac s.params+Cb5 s.boxes,s.boxes.length,jL s.params+wF s.boxes,n+nD s⟩;exact⟨h1,h2,h3,h4⟩
theorem Rae (s:Sig)(n:Nat)(k:Nat):(entry s n).get k=bif vJ (n+nD s) s.boxes.length (jL s.params+wF s.boxes) k then upds (fun _=>none) (Gbr s n) k else none:=by
 obtain⟨h1,h2,h3,h4⟩:=Eak s n;unfold St.get;rw[h2,h3,h4]
 have:(entry s n).tr.get k=upds (fun _=>none) (Gbr s n) k:=by
  rw[entry_eq,Nab];exact rG _ _ _ _ rfl
 rw[this]
theorem Rad {s:Sig}{n k:Nat}{c:aS}(h:(entry s n).get k=some c):(k,c)∈Gbr s n:=by
 rw[Rae]at h
 revert h
 cases vJ (n+nD s) s.boxes.length (jL s.params+wF s.boxes) k with
 |false=>intro h;cases h
 | true =>
  intro h
  rcases pW _ _ _ _ h with h1|⟨-,h1⟩
  ·exact h1
  ·cases h1
theorem Maa {s:Sig}{n k:Nat}(hb:vJ (n+nD s) s.boxes.length (jL s.params+wF s.boxes) k=true)(h:∃ c,(k,c)∈Gbr s n):((entry s n).get k).isSome:=by
 rw[Rae,hb,cond_true];exact eD _ _ _ (.inr h)
theorem Gbc {nt nb nr b:Nat}(h:b<nb):vJ nt nb nr (kB b)=true:=by
 unfold vJ;rw[Qan];have:kB b / 3=b:=by unfold kB;omega
 rw[this];simpa using h
theorem Yab (s:Sig)(n r:Nat)(h:r<jL s.params+wF s.boxes):((entry s n).get (kR r)).isSome:=by
 refine Maa (Qal h) ?_
 rcases Zbz r (jL s.params) with h1|h1
 ·obtain⟨c,hc⟩:=(uI s.params 0 0 0).2 r (Bca _) (by omega)
  exact⟨c,Zbe _ (Zbe _ hc)⟩
 ·obtain⟨c,hc⟩:=(yV s.boxes 0 (Mac s.params) (jL s.params)).2.1 r h1 h
  exact⟨c,Zbe _ (Zbh _ hc)⟩
theorem Bbq (s:Sig)(n b:Nat)(h:b<s.boxes.length):((entry s n).get (kB b)).isSome:=by
 refine Maa (Gbc h) ?_;obtain⟨c,hc⟩:=(yV s.boxes 0 (Mac s.params) (jL s.params)).2.2 b (Bca _) (by omega);exact⟨c,Zbe _ (Zbh _ hc)⟩
theorem Kbd {s:Sig}{vals:List Value}{w:World}{G:Gh}{ds:List D}{n:Nat}(h:Cb2 s vals w G ds)(hn:s.params.length<=n) :
  vals.length=s.params.length/\R n (pK s G w) (entry s n).get ds ⟨vals.toArray++Array.replicate (n-vals.length) undef,[]⟩ w G:=by
 have gi:∀ b,b<s.boxes.length->((entry s n).get (kB b)).isSome:=fun b hb=>Bbq s n b hb
 have oT:=Yab s n;obtain⟨hlen,od⟩:=Ca7 (σ:=(entry s n).get) gi (t:=0) h.params fun r _ hr=>oT r (by omega)
 have qk:=Fau (σ:=(entry s n).get) h.boxes fun r _ hr=>oT r hr
 have eW:∀ r,r<jL s.params->(G.hdr r).oneCell'=true:=by
  intro r hr;obtain⟨c,hc⟩:=(uI s.params 0 0 0).2 r (Bca _) (by omega)
  rcases od _ c hc with ⟨t,v,sv,e,-⟩|⟨r',m,i,e,-,fm⟩
  ·exact absurd e.symm iU
  ·obtain rfl:=eZ e
   exact fm.one
 have dv:∀ t v,vals[t]?=some v->Bae n ⟨vals.toArray++Array.replicate (n-vals.length) undef,[]⟩ (pK s G w).gh t=v:=by
  intro t v hv;have hlt:=(List.getElem?_eq_some_iff.1 hv).1;unfold Bae;rw[if_pos (by omega)];simp only[Array.getD_eq_getD_getElem?];rw[Array.getElem?_append_left (by simpa using hlt)];simp[hv]
 refine⟨hlen,?_,rfl,fun k c hk=>?_,?_,fun b ls hk hb ho=>?_⟩
 ·simp;omega
 ·have hm:=Rad hk
  unfold Gbr at hm
  rcases List.mem_append.1 hm with hm|hm
  ·rcases List.mem_append.1 hm with hm|hm
   ·rcases od k c hm with ⟨t,v,sv,rfl,rfl,hv,gE⟩|⟨r,m,i,rfl,rfl,fm⟩
    ·refine⟨t,rfl,fun _=>?_⟩
     simp only[Bca,if_true,Nat.sub_zero]at hv;rw[dv t v hv];exact gE
    ·exact⟨r,rfl,by rw[hk];rfl,fm⟩
   ·rcases qk k c hm with ⟨b,ro,ls,cs,rfl,rfl,-,-,hbr⟩|⟨r,m,i,rfl,rfl,fm⟩
    ·exact⟨b,rfl,hbr⟩
    ·exact⟨r,rfl,by rw[hk];rfl,fm⟩
  ·obtain⟨j,l,hj,rfl,rfl⟩:=uJ _ _ _ _ hm
   refine⟨n+j,rfl,fun _=>?_⟩
   have e:Bae n ⟨vals.toArray++Array.replicate (n-vals.length) undef,[]⟩ (pK s G w).gh (n+j)=(Iaz s G).getD j undef:=by
    unfold Bae;rw[if_neg (by omega),Ace];rfl
   rw[e];simp only[cB]
   rcases Xax (G:=G) hj with ⟨r,h1,rfl,h2⟩|⟨b,h1,rfl,h2⟩
   ·have hr:=yP _ _ r (Zbv h1)
    rw[Lal]at hr;simp only[aB];rw[h2];exact⟨rfl,oT r (by omega),eW r (by omega)⟩
   ·simp only[aB]
    rw[h2];exact⟨rfl,gi b h1⟩
 ·exact⟨rfl,rfl,rfl,Zbr _,fun b hb ho=>⟨rfl,rfl⟩,fun b j hb ho=>⟨ho,by
   obtain⟨-,c,e,fr,hc⟩:=h.cells b j hb ho;exact⟨c,c,e,fr,hc,hc,rfl,fun _ _=>rfl⟩⟩,h.fresh⟩
 ·have hm:=Rad hk
  unfold Gbr at hm
  rcases List.mem_append.1 hm with hm|hm
  ·rcases List.mem_append.1 hm with hm|hm
   ·rcases od _ _ hm with ⟨t,v,sv,e,-⟩|⟨r,m,i,e,-⟩
    ·exact absurd e.symm lT
    ·exact absurd e fE
   ·rcases qk _ _ hm with ⟨b',ro,kk,cs,e,e2,e3,e4,hbr⟩|⟨r,m,i,e,-⟩
    ·obtain rfl:=Cas e
     injection e2 with e5 e6
     subst e5 e6;simp only[Bca,if_true,Nat.sub_zero]at e3;simp only[pK,Zbk,e3,Bcd];rw[e4]
    ·exact absurd e fE
  ·obtain⟨j,r,hj,e,-⟩:=uJ _ _ _ _ hm
   exact absurd e.symm lT
theorem Bbp {s:Sig}{n eK:Nat}(h:Ga9 (entry s n) eK ((range 0 (entry s n).nt).map kT++(range 0 (entry s n).nb).map kB++(range 0 (entry s n).nr).map kR)=true){E:Env}(hE:E.ntmps=n):Dan E (entry s n):=by
 refine⟨by rw[(Eak s n).2.2.2,hE];omega,fun k c hk=>?_⟩
 have hm:k∈(range 0 (entry s n).nt).map kT++(range 0 (entry s n).nb).map kB++(range 0 (entry s n).nr).map kR:=by
  rcases Aay hk with ⟨t,rfl,ht⟩|⟨b,rfl,hb⟩|⟨r,rfl,hr⟩
  ·exact Zbe _ (Zbe _ (List.mem_map.2 ⟨t,mem_range.2 ⟨by omega,by omega⟩,rfl⟩))
  ·exact Zbe _ (Zbh _ (List.mem_map.2 ⟨b,mem_range.2 ⟨by omega,by omega⟩,rfl⟩))
  ·exact Zbh _ (List.mem_map.2 ⟨r,mem_range.2 ⟨by omega,by omega⟩,rfl⟩)
 have:=Dav h k hm;rw[hk]at this;exact uK this
def BO.q:BO->Nat
 |.ow _=>1
 |_=>0
def qC:List BO->Nat
 |[]=>0
 |s::ss=>s.q+qC ss
def LR.q:LR->Nat
 |.ow _=>1
 |.bx cs=>qC cs
 |_=>0
def qL:List LR->Nat
 |[]=>0
 |s::ss=>s.q+qL ss
def qR:List (Bool×List LR)->Nat
 |[]=>0
 |(_,ss)::rs=>qL ss+qR rs
section
variable (own:Nat->Ow) (w:World) (ds:List D) (nbx:Nat)
def Ea1 (i q:Nat):BO->Value->Prop
 |.sc,v=>Sc v (ds.getD i .undef)
 |.fz,v=>Rd (fun b=>own b=.frz) w v (ds.getD i .undef)
 |.ow m,v=>Rp own w (2*q) [] m v (ds.getD i .undef)
 |.dead,v=>v.oneCell'=true
def Dap (ad:Addr):Nat->Nat->Nat->List BO->Prop
 |_,_,_,[]=>True
 |off,i,q,s::ss=>(∃ v,w.cell? (ad.add off)=some v/\w.frozen? (ad.add off)=false/\Ea1 own w ds i q s v)/\Dap ad (off+1) (i+1) (q+s.q) ss
def lZ (i q:Nat):LR->Value->Prop
 |.sc,v=>Sc v (ds.getD i .undef)
 |.fz,v=>Rd (fun b=>own b=.frz) w v (ds.getD i .undef)
 |.ow m,v=>Rp own w (2*q) [] m v (ds.getD i .undef)
 |.rp _,v=>v.oneCell'=true/\Cbt (fun b=>own b=.frz) w v (ds.getD i .undef)
 |.bx cs,v=>∃ ad,v=.pointer (some ad)/\ad.spot=none/\own ad.block=.box nbx/\Dap own w ds ad 0 i q cs
def pR:Nat->Nat->List LR->List Value->Prop
 |_,_,[],vs=>vs=[]
 |i,q,s::ss,vs=>∃ u us,vs=u::us/\lZ own w ds nbx i q s u/\pR (i+s.n) (q+s.q) ss us
def Maj:Nat->Nat->List (Bool×List LR)->List Value->Prop
 |_,_,[],us=>us=[]
 |i,q,(a,ss)::rs,us=>∃ u cW vs,us=u::cW/\pR own w ds nbx i q ss vs/\(if a=true then u=.agg vs.toArray else vs=[u])/\Maj (i+mZ ss) (q+qL ss) rs cW
def Wai (gh:Nat->Value):Nat->Nat->List Nat->Prop
 |_,_,[]=>True
 |i,j,d::ms=>Rp own w (2*j+1) [] d (gh j) (ds.getD i .undef)/\Wai gh (i+1) (j+1) ms
def mD (bx:Nat->Addr):Nat->Nat->Nat->List (Bool×List (BS×BO))->Prop
 |_,_,_,[]=>True
 |b,i,q,(ro,cs)::r=>if ro=true then mD bx (b+1) i q r else Dap own w ds (bx b) 0 i q (cs.map (·.2))/\mD bx (b+1) (i+cs.length) (q+qC (cs.map (·.2))) r
end
def Fab:List Value->Value
 |[u]=>u
 |us=>.tuple us.toArray
def Oaq (s:Sig)(F:bH)(bx:Nat->Addr)(v:Value)(w:World)(ds:List D):Prop :=
 ∃ G us,v=Fab us/\mP F G w/\Maj G.own w ds s.boxes.length 0 0 s.results us/\Wai G.own w ds F.gh (bL s.results) 0 (dY (s.params.flatMap (·.2))) /\
  mD G.own w ds bx 0 (bL s.results+(dY (s.params.flatMap (·.2))).length) (qR s.results) s.boxes
structure FLe (A B:Fin):Prop where
 xs:∃ l,B.xs=A.xs++l
 own:∀ z∈A.own,z∈B.own
 frz:∀ z∈A.frz,z∈B.frz
 lets:∃ l,B.lets=A.lets++l
 bxs:∀ z∈A.bxs,z∈B.bxs
theorem FLe.refl (A:Fin):FLe A A:=⟨⟨[],by simp⟩,fun _ h=>h,fun _ h=>h,⟨[],by simp⟩,fun _ h=>h⟩
theorem FLe.trans {A B C:Fin}(h:FLe A B)(h':FLe B C):FLe A C:=by
 obtain⟨⟨l,h1⟩,h2,h3,⟨m,h4⟩,h5⟩:=h;obtain⟨⟨l',vn⟩,uz,h3',⟨m',ve⟩,u5⟩:=h';exact⟨⟨l++l',by rw[vn,h1,Zbm]⟩,fun z hz=>uz z (h2 z hz),fun z hz=>h3' z (h3 z hz),⟨m++m',by rw[ve,h4,Zbm]⟩,fun z hz=>u5 z (h5 z hz)⟩
structure Yaw (Z:Fin) (nbx:Nat) (G G':Gh):Prop where
 frz:∀ b,G.own b=.frz->G'.own b=.frz
 own:∀ r t m,(r,t,m)∈Z.own->∀ b p,G.own b=.slc r p->G'.own b=if p.length<m then .slc t p else .frz
 fr:∀ r,r∈Z.frz->∀ b p,G.own b=.slc r p->G'.own b=.frz
 bxs:∀ β,β∈Z.bxs->∀ b,G.own b=.box β->G'.own b=.box nbx
section
variable {E:Env} {F:bH} {σ:Nat->Option aS} {ρ:List D} {a:Act} {w:World} {G G':Gh} {cf:Nat->List D->Option (List D)} {Z:Fin} {nbx nv:Nat}
theorem FLe.get {A B:Fin}(h:FLe A B){ρ:List D}{x:aL}{l:List aL}(hx:A.xs=l++[x]):(B.xs.map (·.val ρ)).getD l.length .undef=x.val ρ:=by
 obtain⟨m,h1⟩:=h.xs;rw[h1,hx,Zbk];simp
theorem Rp.give (hG:Yaw Z nbx G G'){r t m m':Nat}(hz:(r,t,m)∈Z.own)(hm:m<=m'){v:Value}{d:D}(h:Rp G.own w r [] m' v d):Rp G'.own w t [] m v d:=by
 let jr:Nat->Ow:=fun b=>match G.own b with
  |.slc s p=>if s=r then (if p.length<m then .slc s p else .frz) else .slc s p
  |o=>o
 have h1:=h.weaken (own':=jr) (fun b hb=>by simp only[jr,hb]) m hm (fun b q hb=>by simp only[jr,hb,Aco,if_true]);have:=h1.mono (own':=G'.own) (w':=w) (q:=[]) (q':=[]) (r':=t) (fun b hb=>⟨?_,rfl⟩) [] rfl (fun b q hb=>⟨?_,rfl⟩)
 ·simpa using this
 ·simp only[jr]at hb
  split at hb
  ·rename_i s p e
   split at hb
   ·rename_i hs
    subst hs;split at hb
    ·cases hb
    ·rename_i hp
     rw[hG.own s t m hz b p e,if_neg hp]
   ·cases hb
  ·exact hG.frz b hb
 ·simp only[jr]at hb
  split at hb
  ·rename_i s p e
   split at hb
   ·rename_i hs
    subst hs;split at hb
    ·rename_i hp
     injection hb with e1 e2
     simp only[Aco]at e2 ⊢;subst e2;rw[hG.own s t m hz b p e,if_pos hp]
    ·cases hb
   ·rename_i hs
    injection hb with e1 e2
    exact absurd e1 hs
  ·rename_i vv
   exact absurd hb (vv _ _)
theorem Rd.give (hG:Yaw Z nbx G G'){deps:List (Nat×Nat)}(hz:∀ z∈deps,z.1∈Z.frz){v:Value}{d:D}(h:Rd (allow G deps) w v d):Rd (fun b=>G'.own b=.frz) w v d:=by
 refine h.mono fun b hb=>⟨?_,rfl⟩
 rcases hb with hb|⟨r,k,p,hm,hb⟩
 ·exact hG.frz b hb
 ·exact hG.fr r (hz _ hm) b p hb
theorem Qa6 (hR:R E.ntmps F σ ρ a w G){A B:Fin}{m:Nat}{l:aR}(h:(Qa7 A m l).eval σ=some B)(hZ:FLe B Z)(hG:Yaw Z nbx G G'){v:Value}(hl:aB σ ρ G w l v) :
  Rp G'.own w (2*A.q) [] m v ((Z.xs.map (·.val ρ)).getD A.xs.length .undef)/\FLe A B/\B.xs.length=A.xs.length+1/\B.q=A.q+1:=by
 unfold Qa7 at h;split at h
 ·rename_i nie z
  simp only[aF,Option.some.injEq]at h;subst h;refine⟨?_,⟨⟨_,rfl⟩,fun _ h=>h,fun _ h=>h,⟨[],by simp[Vay]⟩,fun _ h=>h⟩,by simp[Vay],rfl⟩;rw[hZ.get (l:=A.xs) rfl];simp only[aB]at hl;have hv:=(hl.2 (by simp)).2.1 trivial z rfl;rw[hv]
  cases m with
  |zero=>exact .fz (.rows none ⟨0,0,none⟩ 0 0 z [] (fun _ _=>undef) rfl (Zbr _) (.inl rfl) (by simp) (by simp) (by simp))
  |succ m=>exact .sl none ⟨0,0,none⟩ 0 0 z [] (fun _ _=>undef) rfl (Zbr _) (.inr ⟨rfl,rfl⟩) (by simp) (fun e=>by cases e) (by simp) (by simp)
 ·rename_i r
  simp only[aA,aT,Zbj]at h;split at h
  ·rename_i x m' bc hk
   simp only[aA,aK,Zbc,aF,Option.some.injEq]at h;obtain⟨_,h1,rfl⟩:=h;split at h1
   case isFalse=>cases h1
   rename_i hb;simp only[Acr]at hb;refine⟨?_,⟨⟨_,rfl⟩,fun _ h=>Zbe _ h,fun _ h=>h,⟨[],by simp[Aae]⟩,fun _ h=>h⟩,by simp[Aae],rfl⟩;rw[hZ.get (l:=A.xs) rfl];simp only[aB]at hl;rw[hl.1];have hr:=hR.root hk;simp only[bS]at hr;exact hr.give hG (hZ.own _ (by simp[Aae])) hb
  ·cases h
 ·rename_i r k nie x
  simp only[aA,aT,Zbj]at h;split at h
  ·rename_i x' m' bc hk
   simp only[aA,aK,Zbc,aF,Option.some.injEq]at h;obtain⟨_,h1,rfl⟩:=h;split at h1
   case isFalse=>cases h1
   rename_i hb;simp only[Zbd,Acr,Zb8]at hb;obtain⟨hb,rfl⟩:=hb;refine⟨?_,⟨⟨_,rfl⟩,fun _ h=>Zbe _ h,fun _ h=>h,⟨[],by simp[Aae]⟩,fun _ h=>h⟩,by simp[Aae],rfl⟩;rw[hZ.get (l:=A.xs) rfl];simp only[aB]at hl
   have hp:=(hl.2 fun z hz=>by
    simp only[Zbp]at hz;subst hz;exact⟨x',m',.live,hk,.inl rfl⟩).2.2
   exact (hp r bc m' rfl ⟨x',hk⟩).give hG (hZ.own _ (by simp[Aae])) hb
  ·cases h
 ·cases h
theorem Qa8 (hR:R E.ntmps F σ ρ a w G){A B:Fin}{l:aR}(h:(Qa9 A l).eval σ=some B)(hZ:FLe B Z)(hG:Yaw Z nbx G G'){v:Value}(hl:aB σ ρ G w l v) :
  Rd (fun b=>G'.own b=.frz) w v ((Z.xs.map (·.val ρ)).getD A.xs.length .undef)/\FLe A B/\B.xs.length=A.xs.length+1/\B.q=A.q:=by
 unfold Qa9 at h;simp only[aA,Zbc,aF,Option.some.injEq]at h;obtain⟨s,h1,rfl⟩:=h;refine⟨?_,⟨⟨_,rfl⟩,fun _ h=>h,fun _ h=>Zbe _ h,⟨[],by simp⟩,fun _ h=>h⟩,by simp,rfl⟩;rw[hZ.get (l:=A.xs) rfl];have hs:=dX hR h1 hl;exact hs.rd.give hG fun z hz=>hZ.frz _ (Zbh _ (Acx hz))
theorem Tap (hR:R E.ntmps F σ ρ a w G){A B:Fin}{s:BO}{l:aR}(h:(Eaj A s l).eval σ=some B)(hZ:FLe B Z)(hG:Yaw Z nbx G G'){v:Value}(hl:aB σ ρ G w l v) :
  Ea1 G'.own w (Z.xs.map (·.val ρ)) A.xs.length A.q s v/\FLe A B/\B.xs.length=A.xs.length+1/\B.q=A.q+s.q:=by
 cases s with
 | sc =>
  cases l<;>simp only[Eaj,bQ,reduceCtorEq]at h
  rename_i x;simp only[aF,Option.some.injEq]at h;subst h;refine⟨?_,⟨⟨_,rfl⟩,fun _ h=>h,fun _ h=>h,⟨[],by simp⟩,fun _ h=>h⟩,by simp,rfl⟩;simp only[Ea1];rw[hZ.get (l:=A.xs) rfl];simpa[aB] using hl
 | fz =>
  have h':(Qa9 A l).eval σ=some B:=by cases l<;>exact h
  exact Qa8 hR h' hZ hG hl
 | ow m =>
  have h':(Qa7 A m l).eval σ=some B:=by cases l<;>exact h
  exact Qa6 hR h' hZ hG hl
 | dead =>
  have h':(bif Pac l then RdM.ret { A with xs:=A.xs++[.c .hole] } else .no:RdM Fin).eval σ=some B:=by cases l<;>exact h
  cases hb:Pac l with
  |false=>rw[hb]at h';cases h'
  | true =>
   rw[hb,cond_true]at h';simp only[aF,Option.some.injEq]at h';subst h';exact⟨hl.one hb,⟨⟨_,rfl⟩,fun _ h=>h,fun _ h=>h,⟨[],by simp⟩,fun _ h=>h⟩,by simp,rfl⟩
theorem Ca4:∀ {ss:List BO} {ls:List aR} {A B:Fin},(jH A ss ls).eval σ=some B->(∀ {A B:Fin} {s:BO} {l:aR},(Eaj A s l).eval σ=some B->FLe A B)->FLe A B
 | [], [], A, B, h, _ => by
  simp only[jH,aF,Option.some.injEq]at h;subst h;exact .refl _
 |[],_::_,A,B,h,_=>by simp[jH,bQ]at h
 |_::_,[],A,B,h,_=>by simp[jH,bQ]at h
 | s :: ss, l :: ls, A, B, h, hc => by
  simp only[jH,aA,Zbc]at h;obtain⟨C,h1,h2⟩:=h;exact (hc h1).trans (Ca4 h2 hc)
theorem Vax {A B:Fin}{m:Nat}{l:aR}(h:(Qa7 A m l).eval σ=some B):FLe A B:=by
 unfold Qa7 at h;split at h
 ·simp only[aF,Option.some.injEq]at h
  subst h;exact⟨⟨_,rfl⟩,fun _ h=>h,fun _ h=>h,⟨[],by simp[Vay]⟩,fun _ h=>h⟩
 ·simp only[aA,aT,Zbj]at h
  split at h
  ·simp only[aA,aK,Zbc,aF,Option.some.injEq]at h
   obtain⟨_,-,rfl⟩:=h;exact⟨⟨_,rfl⟩,fun _ h=>Zbe _ h,fun _ h=>h,⟨[],by simp[Aae]⟩,fun _ h=>h⟩
  ·cases h
 ·simp only[aA,aT,Zbj]at h
  split at h
  ·simp only[aA,aK,Zbc,aF,Option.some.injEq]at h
   obtain⟨_,-,rfl⟩:=h;exact⟨⟨_,rfl⟩,fun _ h=>Zbe _ h,fun _ h=>h,⟨[],by simp[Aae]⟩,fun _ h=>h⟩
  ·cases h
 ·cases h
theorem Vaz {A B:Fin}{l:aR}(h:(Qa9 A l).eval σ=some B):FLe A B:=by
 unfold Qa9 at h;simp only[aA,Zbc,aF,Option.some.injEq]at h;obtain⟨s,h1,rfl⟩:=h;exact⟨⟨_,rfl⟩,fun _ h=>h,fun _ h=>Zbe _ h,⟨[],by simp⟩,fun _ h=>h⟩
theorem Xa9 {A B:Fin}{s:BO}{l:aR}(h:(Eaj A s l).eval σ=some B):FLe A B:=by
 cases s with
 | sc =>
  cases l<;>simp only[Eaj,bQ,reduceCtorEq]at h
  simp only[aF,Option.some.injEq]at h;subst h;exact⟨⟨_,rfl⟩,fun _ h=>h,fun _ h=>h,⟨[],by simp⟩,fun _ h=>h⟩
 | fz =>
  have h':(Qa9 A l).eval σ=some B:=by cases l<;>exact h
  exact Vaz h'
 | ow m =>
  have h':(Qa7 A m l).eval σ=some B:=by cases l<;>exact h
  exact Vax h'
 | dead =>
  have h':(bif Pac l then RdM.ret { A with xs:=A.xs++[.c .hole] } else .no:RdM Fin).eval σ=some B:=by cases l<;>exact h
  cases hb:Pac l with
  |false=>rw[hb]at h';cases h'
  | true =>
   rw[hb,cond_true]at h';simp only[aF,Option.some.injEq]at h';subst h';exact⟨⟨_,rfl⟩,fun _ h=>h,fun _ h=>h,⟨[],by simp⟩,fun _ h=>h⟩
theorem uG {ss:List BO}{ls:List aR}{A B:Fin}(h:(jH A ss ls).eval σ=some B):FLe A B:=Ca4 h fun h=>Xa9 h
theorem xH (hR:R E.ntmps F σ ρ a w G)(hG:Yaw Z nbx G G'){ad:Addr}:∀ {ss:List BO} {ls:List aR} {A B:Fin} {off:Nat},(jH A ss ls).eval σ=some B->FLe B Z ->
  (∀ j l,ls[j]?=some l->∃ v,w.cell? (ad.add (off+j))=some v/\w.frozen? (ad.add (off+j))=false/\aB σ ρ G w l v) ->
  Dap G'.own w (Z.xs.map (·.val ρ)) ad off A.xs.length A.q ss/\B.xs.length=A.xs.length+ss.length/\B.q=A.q+qC ss
 | [], [], A, B, off, h, _, _ => by
  simp only[jH,aF,Option.some.injEq]at h;subst h;exact⟨trivial,rfl,rfl⟩
 |[],_::_,A,B,off,h,_,_=>by simp[jH,bQ]at h
 |_::_,[],A,B,off,h,_,_=>by simp[jH,bQ]at h
 | s :: ss, l :: ls, A, B, off, h, hZ, hl => by
  simp only[jH,aA,Zbc]at h;obtain⟨C,h1,h2⟩:=h;obtain⟨v,h3,h4,h5⟩:=hl 0 l rfl;obtain⟨h6,h7,h8,h9⟩:=Tap hR h1 ((uG h2).trans hZ) hG h5
  obtain⟨cL,ef,fW⟩:=xH hR hG (off:=off+1) h2 hZ fun j l' hj=>by
   have:=hl (j+1) l' (by simpa using hj);rwa[show off+(j+1)=off+1+j by omega]at this
  rw[h8,h9]at cL;exact⟨⟨⟨v,h3,h4,h6⟩,cL⟩,by rw[ef,h8];simp;omega,by rw[fW,h9];simp only[qC];omega⟩
end
def Ibj (tmps:Array Value):ResultVar->Sem Value
 |.tmp t=>pure (tmps.getD t undef)
 |.cell a t=>do loadVar t (<- asAddr (tmps.getD a undef))
def Fac (P:Program)(tmps:Array Value)(w:World)(x:ResultVar):Value:=match (Ibj tmps x).run P w with
 |.ok v _=>v
 |_=>undef
theorem Paz {P:Program}{tmps:Array Value}{w:World}{x:ResultVar}{v:Value}(h:(Ibj tmps x).run P w=.ok v w):Fac P tmps w x=v/\(Ibj tmps x).run P w=.ok (Fac P tmps w x) w:=by
 have:Fac P tmps w x=v:=by unfold Fac;rw[h]
 exact⟨this,by rw[this];exact h⟩
theorem Zap (vs:Array Value):(if h:vs.size=1 then vs[0] else Value.tuple vs)=Fab vs.toList:=by
 obtain⟨l⟩:=vs
 match l with
 |[]=>rfl
 |[u]=>rfl
 |u::v::r=>simp[Fab]
section
variable {P:Program} {E:Env} {F:bH} {σ:Nat->Option aS} {ρ:List D} {a:Act} {w:World} {G G':Gh} {cf:Nat->List D->Option (List D)} {Z:Fin} {nbx nv:Nat}
theorem Xa8 {A B:Fin}{s:LR}{l:aR}(h:(Jaa nv A s l).eval σ=some B):FLe A B:=by
 unfold Jaa at h;split at h
 ·simp only[aF,Option.some.injEq]at h
  subst h;exact⟨⟨_,rfl⟩,fun _ h=>h,fun _ h=>h,⟨[],by simp⟩,fun _ h=>h⟩
 ·exact Vaz h
 ·exact Vax h
 ·simp only[aF,Option.some.injEq]at h
  subst h;exact⟨⟨_,rfl⟩,fun _ h=>h,fun _ h=>h,⟨[],by simp⟩,fun _ h=>h⟩
 ·simp only[aA,Zbc,aF,Option.some.injEq]at h
  obtain⟨d,-,rfl⟩:=h;exact⟨⟨_,rfl⟩,fun _ h=>h,fun _ h=>Zbe _ h,⟨[],by simp⟩,fun _ h=>h⟩
 ·simp only[aA,Zbc,aF,Option.some.injEq]at h
  obtain⟨d,-,rfl⟩:=h;exact⟨⟨_,rfl⟩,fun _ h=>h,fun _ h=>Zbe _ h,⟨_,rfl⟩,fun _ h=>h⟩
 ·cases h
theorem Tao (hR:R E.ntmps F σ ρ a w G)(aE:aN cf ρ none nv Z.lets){A B:Fin}{s:LR}{l:aR}(h:(Jaa nv A s l).eval σ=some B)(hZ:FLe B Z)(hG:Yaw Z nbx G G'){v:Value}(hl:aB σ ρ G w l v) :
  lZ G'.own w (Z.xs.map (·.val ρ)) nbx A.xs.length A.q s v/\B.xs.length=A.xs.length+s.n/\B.q=A.q+s.q:=by
 unfold Jaa at h;split at h
 ·simp only[aF,Option.some.injEq]at h
  subst h;refine⟨?_,by simp[LR.n],rfl⟩;simp only[lZ];rw[hZ.get (l:=A.xs) rfl];simpa[aB] using hl
 ·obtain⟨h1,-,h2,h3⟩:=Qa8 hR h hZ hG hl
  exact⟨h1,h2,h3⟩
 ·obtain⟨h1,-,h2,h3⟩:=Qa6 hR h hZ hG hl
  exact⟨h1,h2,h3⟩
 ·simp only[aF,Option.some.injEq]at h
  subst h;refine⟨?_,by simp[LR.n],rfl⟩;simp only[lZ];rw[hZ.get (l:=A.xs) rfl];simp only[aB]at hl;exact⟨by rw[hl];rfl,.inl ⟨hl,_,rfl⟩⟩
 ·rename_i z deps z' x
  simp only[aA,Zbc,aF,Option.some.injEq]at h;obtain⟨ds,h1,rfl⟩:=h;refine⟨?_,by simp[LR.n],rfl⟩;simp only[lZ];rw[hZ.get (l:=A.xs) rfl];simp only[aB]at hl;obtain⟨h3,h4,h5⟩:=jC h1;refine⟨hl.1.1,?_⟩
  rcases hl.2 h3 with h6|⟨ad,row,h6,h7,h8⟩
  ·exact .inl h6
  ·exact .inr ⟨ad,row,h6,h7,(h8.drop hR h5).give hG fun z hz=>hZ.frz _ (Zbh _ (Acx hz))⟩
 ·rename_i z l' z' ix
  simp only[aA,Zbc,aF,Option.some.injEq]at h;obtain⟨sl,h1,rfl⟩:=h;refine⟨?_,by simp[LR.n],rfl⟩;simp only[lZ];rw[hZ.get (l:=A.xs) rfl];simp only[aB]at hl;obtain⟨ad,n,cp,ik,iv,h3,h4,h5,h6,h7⟩:=hl;have hs:=dX hR h1 h3;obtain⟨lr,hlr⟩:=hZ.lets;dsimp only at hlr;rw[hlr,Zbm]at aE;have tv:=(aN.append aE).2;have mm:aN cf ρ none (nv+bI A.lets) [.prim (.one z') [sl.x,ix] 1]:=(aN.append tv).1;obtain⟨d,bj,hd⟩:=fV mm rfl;simp only[Zb5,Acb,h4]at bj
  have ie:∃ sz rs r,sl.x.val ρ=.rows sz rs/\sz=z'/\rs[iv.toNat]?=some r/\d=.rows z' [r]:=by
   cases hx:sl.x.val ρ with
   | rows sz rs =>
    rw[hx]at bj;simp only[aU.run]at bj;split at bj
    ·rename_i hc
     split at bj
     ·rename_i r hr
      simp only[Option.some.injEq,List.cons.injEq,and_true]at bj;exact⟨sz,rs,r,rfl,hc.1,hr,bj.symm⟩
     ·cases bj
    ·cases bj
   |_=>rw[hx]at bj;simp[aU.run]at bj
  obtain⟨sz,rs,r,hx,rfl,hr,rfl⟩:=ie;have im:=hs.rd;rw[hx]at im;obtain⟨A',b,n',c',vs,e1,e2,e3,e4,e5,e6,e7⟩:=im.inv
  injection e1 with e1 e1' e1''
  have hlt:iv.toNat<rs.length:=(List.getElem?_eq_some_iff.1 hr).1;have hA:some ad=some b:=by rw[e1];exact e4.resolve_left (by omega)
  obtain rfl:=Option.some.inj hA;have sa:r.length=sz:=e5 r (Zbv hr);refine⟨by rw[h7];rfl,.inr ⟨_,r,h7,by rw[hd,sa],?_⟩⟩
  have:Rd (allow G sl.deps) w (.slice (some (ad.add (iv.toNat*sz+0))) 1 1) (.rows r.length [r]):=by
   refine .rows _ (ad.add (iv.toNat*sz+0)) 1 1 r.length [r] (fun _ j=>vs iv.toNat j) rfl (Zbr _) (.inr rfl) (by simp) (fun i0 r0 n9 j d0 hj=>?_) (fun i0 r0 n9 j d0 hj=>?_)
   ·cases i0 with
    | zero =>
     simp only[Zbl,Option.some.injEq]at n9;subst n9;obtain⟨k1,k2⟩:=e6 _ _ hr j d0 hj;refine⟨by rw[add_block];exact k1,?_⟩;rw[add_add];rw[show iv.toNat*sz+0+(0*r.length+j)=iv.toNat*sz+j by omega];exact k2
    |succ i0=>simp at n9
   ·cases i0 with
    | zero =>
     simp only[Zbl,Option.some.injEq]at n9;subst n9;exact e7 _ _ hr j d0 hj
    |succ i0=>simp at n9
  exact this.give hG fun z hz=>hZ.frz _ (Zbh _ (Acx hz))
 ·cases h
theorem qK:∀ {ss:List LR} {ls:List aR} {A B:Fin},(iH nv A ss ls).eval σ=some B->FLe A B
 | [], [], A, B, h => by
  simp only[iH,aF,Option.some.injEq]at h;subst h;exact .refl _
 |[],_::_,A,B,h=>by simp[iH,bQ]at h
 |_::_,[],A,B,h=>by simp[iH,bQ]at h
 | s :: ss, l :: ls, A, B, h => by
  simp only[iH,aA,Zbc]at h;obtain⟨C,h1,h2⟩:=h;refine FLe.trans ?_ (qK h2);split at h1
  ·rename_i cs b
   simp only[aA,aT,Zbj]at h1;split at h1
   ·have h0:FLe A { A with bxs:=A.bxs++[b] }:=⟨⟨[],by simp⟩,fun _ h=>h,fun _ h=>h,⟨[],by simp⟩,fun _ h=>Zbe _ h⟩
    exact FLe.trans h0 (uG h1)
   ·cases h1
  ·exact Xa8 h1
theorem uF (hR:R E.ntmps F σ ρ a w G)(aE:aN cf ρ none nv Z.lets)(hG:Yaw Z nbx G G'):∀ {ss:List LR} {ls:List aR} {A B:Fin} {vs:List Value},(iH nv A ss ls).eval σ=some B->FLe B Z->aG σ ρ G w ls vs ->
  pR G'.own w (Z.xs.map (·.val ρ)) nbx A.xs.length A.q ss vs/\B.xs.length=A.xs.length+mZ ss/\B.q=A.q+qL ss
 | [], [], A, B, vs, h, _, hl => by
  simp only[iH,aF,Option.some.injEq]at h;subst h;simp only[aG]at hl;exact⟨hl,rfl,rfl⟩
 |[],_::_,A,B,vs,h,_,_=>by simp[iH,bQ]at h
 |_::_,[],A,B,vs,h,_,_=>by simp[iH,bQ]at h
 | s :: ss, l :: ls, A, B, vs, h, hZ, hl => by
  simp only[iH,aA,Zbc]at h;obtain⟨C,h1,h2⟩:=h;simp only[aG]at hl;obtain⟨u,us,rfl,h3,h4⟩:=hl;have hCZ:FLe C Z:=(qK h2).trans hZ
  have key:lZ G'.own w (Z.xs.map (·.val ρ)) nbx A.xs.length A.q s u/\C.xs.length=A.xs.length+s.n/\C.q=A.q+s.q:=by
   split at h1
   ·rename_i cs b
    simp only[aA,aT,Zbj]at h1;split at h1
    ·rename_i bs hk
     obtain⟨h5,h6,h7⟩:=hR.box hk;simp only[Zbg,if_false]at h6;obtain⟨h8,h9,cL⟩:=xH hR hG (ad:=G.bx b) (off:=0) h1 hCZ fun j l hj=>by rw[Aca];exact h7 j l hj
     refine⟨?_,h9,cL⟩;simp only[aB]at h3;simp only[lZ];exact⟨G.bx b,h3.1,h5,hG.bxs b (hCZ.bxs _ ((uG h1).bxs _ (Zbh _ (List.mem_singleton.2 rfl)))) _ h6,h8⟩
    ·cases h1
   ·exact Tao hR aE h1 hCZ hG h3
  obtain⟨h5,h6,h7⟩:=key;obtain⟨h8,h9,cL⟩:=uF hR aE hG h2 hZ h4;rw[h6,h7]at h8;exact⟨⟨u,us,rfl,h5,h8⟩,by rw[h9,h6];simp only[mZ];omega,by rw[cL,h7];simp only[qL];omega⟩
theorem Ca3:∀ {rs:List (Bool×List LR)} {vars:List ResultVar} {A B:Fin},(pE E nv A rs vars).eval σ=some B->FLe A B
 | [], [], A, B, h => by
  simp only[pE,aF,Option.some.injEq]at h;subst h;exact .refl _
 |[],_::_,A,B,h=>by simp[pE,bQ]at h
 |_::_,[],A,B,h=>by simp[pE,bQ]at h
 | (ag, ss) :: rs, .tmp t :: vars, A, B, h => by
  simp only[pE,aA,aT,Zbj]at h;split at h
  ·simp only[aA,Zbc]at h
   obtain⟨_,-,ls,-,C,h1,h2⟩:=h;exact (qK h1).trans (Ca3 h2)
  ·cases h
 | (ag, ss) :: rs, .cell t ty :: vars, A, B, h => by
  simp only[pE,aA,Zbc]at h;obtain⟨ti,-,_,-,_,-,h⟩:=h;split at h
  ·simp only[aA,aT,Zbj]at h
   split at h
   ·simp only[aA,Zbc]at h
    obtain⟨C,h1,h2⟩:=h;exact (qK h1).trans (Ca3 h2)
   ·cases h
  ·cases h
theorem Qa1 {n t:Nat}{gh:Nat->Value}(h:t<n):a.tmps.getD t undef=Bae n a gh t:=by
 unfold Bae;rw[if_pos h]
theorem Eai (hti:vN P E.ti)(hR:R E.ntmps F σ ρ a w G)(aE:aN cf ρ none nv Z.lets)(hG:Yaw Z nbx G G'):∀ {rs:List (Bool×List LR)} {vars:List ResultVar} {A B:Fin},(pE E nv A rs vars).eval σ=some B->FLe B Z ->
  (∀ x∈vars,(Ibj a.tmps x).run P w=.ok (Fac P a.tmps w x) w)/\Maj G'.own w (Z.xs.map (·.val ρ)) nbx A.xs.length A.q rs (vars.map (Fac P a.tmps w))/\B.xs.length=A.xs.length+bL rs/\B.q=A.q+qR rs
 | [], [], A, B, h, _ => by
  simp only[pE,aF,Option.some.injEq]at h;subst h;exact⟨by simp,rfl,rfl,rfl⟩
 |[],_::_,A,B,h,_=>by simp[pE,bQ]at h
 |_::_,[],A,B,h,_=>by simp[pE,bQ]at h
 | (ag, ss) :: rs, .tmp t :: vars, A, B, h, hZ => by
  simp only[pE,aA,aT,Zbj]at h;split at h
  case h_2=>cases h
  rename_i sv hk;simp only[aA,Zbc,aK,aW]at h;obtain⟨_,h0,ls,h1,C,h2,h3⟩:=h;split at h0
  case isFalse=>cases h0
  rename_i ht;simp only[Ach]at ht;have hv:=hR.slot hk rfl;rw[<- Qa1 ht]at hv;have bj:(Ibj a.tmps (.tmp t)).run P w=.ok (a.tmps.getD t undef) w:=rfl;obtain⟨e1,e2⟩:=Paz bj;have hC:=(Ca3 h3).trans hZ;obtain⟨h4,h5,h6⟩:=uF hR aE hG h2 hC (iN h1 hv);obtain⟨h7,h8,h9,cL⟩:=Eai hti hR aE hG h3 hZ;rw[h5,h6]at h8;refine⟨fun x hx=>?_,⟨_,_,_,rfl,h4,?_,h8⟩,by rw[h9,h5];simp only[bL];omega,by rw[cL,h6];simp only[qR];omega⟩
  ·rcases List.mem_cons.1 hx with rfl|hx
   ·exact e2
   ·exact h7 x hx
  ·rw[e1]
   unfold kD at h1;split at h1
   ·cases ag with
    |true=>cases h1
    | false =>
     rw[aB.cells hv];simp
   ·cases ag with
    |false=>cases h1
    | true =>
     obtain⟨us,e,-⟩:=hv;rw[e];simp[Value.cells]
   ·cases h1
 | (ag, ss) :: rs, .cell t ty :: vars, A, B, h, hZ => by
  simp only[pE,aA,Zbc,aW,aK,aT]at h;obtain⟨ti,h0,_,h1,c,hc,h⟩:=h;obtain rfl:=Option.some.inj hc;split at h1
  case isFalse=>cases h1
  rename_i hb;simp only[Zbd,beq_iff_eq,Zb8,Acp,Ach]at hb;obtain⟨⟨⟨uj,dw⟩,lA⟩,ht⟩:=hb;split at h
  case h_2=>cases h
  rename_i b off hk;simp only[aA,aT,Zbj]at h;split at h
  case h_2=>cases h
  rename_i ro ls nw;simp only[aA,Zbc]at h;obtain⟨C,h2,h3⟩:=h;have hv:aB σ ρ G w (.px b off) _:=hR.slot hk rfl;rw[<- Qa1 ht]at hv;simp only[aB]at hv;obtain⟨qc,gR,tq⟩:=hR.box nw
  obtain⟨vs,h4,h5⟩:=lS (σ:=σ) (ρ:=ρ) (G:=G) (w:=w) ((G.bx b).add off) ((ls.drop off).take ti.size) 0 fun j l hj=>by
   rw[List.getElem?_take]at hj;split at hj
   ·rw[Acg]at hj
    obtain⟨v,h6,-,h7⟩:=tq _ _ hj;exact⟨v,by rw[add_add,Aca];exact h6,h7⟩
   ·cases hj
  have hC:=(Ca3 h3).trans hZ;obtain⟨h6,h7,h8⟩:=uF hR aE hG h2 hC h4
  have hlen:vs.length=ti.size:=by
   have fX:∀ {ss:List LR} {vs:List Value} {i q:Nat},pR G'.own w (Z.xs.map (·.val ρ)) nbx i q ss vs->vs.length=ss.length:=by
    intro ss
    induction ss with
    |nil=>intro vs i q h;simp only[pR]at h;subst h;rfl
    | cons s ss ih =>
     intro vs i q h;obtain⟨u,us,rfl,-,h⟩:=h;simp[ih h]
   rw[fX h6,dw]
  obtain⟨info,ud,hf⟩:=aX (hti.ok _ _ h0)
  have dv:∃ v,if ti.agg=true then v=.agg vs.toArray else vs=[v]:=by
   cases zi:ti.agg with
   |true=>exact⟨_,by rw[if_pos rfl]⟩
   | false =>
    rw[zi]at lA;simp only[Zbg,false_or]at lA;rw[lA]at hlen
    match vs,hlen with
    |[v],_=>exact⟨v,by simp⟩
  obtain⟨v,dv⟩:=dv;have tp:=kN hf ((G.bx b).add off) vs hlen (fun j u hj=>by have:=h5 j u hj;rwa[Aca]at this) dv
  have bj:(Ibj a.tmps (.cell t ty)).run P w=.ok v w:=by
   show (do loadVar ty (<- asAddr (a.tmps.getD t undef)):Sem Value).run P w=.ok v w
   rw[hv.1];simp only[asAddr,Sem.run_bind,Sem.run_pure,Result.andThen_ok];exact tp
  obtain⟨e1,e2⟩:=Paz bj;obtain⟨h9,cL,ef,fW⟩:=Eai hti hR aE hG h3 hZ;rw[h7,h8]at cL;refine⟨fun x hx=>?_,⟨_,_,vs,rfl,h6,?_,cL⟩,by rw[ef,h7];simp only[bL];omega,by rw[fW,h8];simp only[qR];omega⟩
  ·rcases List.mem_cons.1 hx with rfl|hx
   ·exact e2
   ·exact h9 x hx
  ·rw[e1,uj];exact dv
theorem Ia9 {t:Nat}:∀ {ms:List Nat} {j:Nat} {A B:Fin},(Fap t j ms A).eval σ=some B->FLe A B
 | [], j, A, B, h => by
  simp only[Fap,aF,Option.some.injEq]at h;subst h;exact .refl _
 | d :: ms, j, A, B, h => by
  simp only[Fap,aA,aT,Zbj]at h;split at h
  case h_2=>cases h
  rename_i r hk;simp only[aA,aT,Zbj]at h;split at h
  case h_2=>cases h
  rename_i x m bc oi;simp only[aA,Zbc]at h;obtain⟨_,-,h⟩:=h;have h0:FLe A { A with xs:=A.xs++[x],own:=A.own++[(r,2*j+1,d)] }:=⟨⟨_,rfl⟩,fun _ h=>Zbe _ h,fun _ h=>h,⟨[],by simp⟩,fun _ h=>h⟩;exact h0.trans (Ia9 h)
theorem La9 (hR:R E.ntmps F σ ρ a w G)(hG:Yaw Z nbx G G'):∀ {ms:List Nat} {j:Nat} {A B:Fin},(Fap E.ntmps j ms A).eval σ=some B->FLe B Z ->
  Wai G'.own w (Z.xs.map (·.val ρ)) F.gh A.xs.length j ms/\B.xs.length=A.xs.length+ms.length/\B.q=A.q
 | [], j, A, B, h, _ => by
  simp only[Fap,aF,Option.some.injEq]at h;subst h;exact⟨trivial,rfl,rfl⟩
 | d :: ms, j, A, B, h, hZ => by
  simp only[Fap,aA,aT,Zbj]at h;split at h
  case h_2=>cases h
  rename_i r hk;simp only[aA,aT,Zbj]at h;split at h
  case h_2=>cases h
  rename_i x m bc oi;simp only[aA,Zbc,aK]at h;obtain⟨_,h0,h⟩:=h;split at h0
  case isFalse=>cases h0
  rename_i hb;simp only[Acr]at hb;have hv:aB σ ρ G w (.ex r) _:=hR.slot hk rfl
  have e:Bae E.ntmps a F.gh (E.ntmps+j)=F.gh j:=by
   unfold Bae;rw[if_neg (by omega),Ace]
  rw[e]at hv;simp only[aB]at hv;have hC:=(Ia9 h).trans hZ;obtain⟨h1,h2,h3⟩:=La9 hR hG h hZ;simp only[List.length_append,List.length_singleton]at h1 h2;refine⟨⟨?_,h1⟩,by rw[h2];simp;omega,h3⟩;rw[hC.get (l:=A.xs) rfl,hv.1];have hr:=hR.root oi;simp only[bS]at hr;exact hr.give hG (hC.own _ (Zbh _ (List.mem_singleton.2 rfl))) hb
theorem uH {t:Nat}:∀ {bs:List (Bool×List (BS×BO))} {b:Nat} {A B:Fin},(qM t A b bs).eval σ=some B->FLe A B
 | [], b, A, B, h => by
  simp only[qM,aF,Option.some.injEq]at h;subst h;exact .refl _
 | (ro, cs) :: bs, b, A, B, h => by
  simp only[qM]at h
  cases ro with
  |true=>exact uH h
  | false =>
   simp only[cond_false,aA,aT,Zbj]at h;split at h
   ·simp only[aA,aT,Zbj,Zbc]at h
    obtain⟨_,-,h⟩:=h;split at h
    ·simp only[aA,Zbc]at h
     obtain⟨C,h1,h2⟩:=h;exact (uG h1).trans (uH h2)
    ·cases h
   ·cases h
theorem xI (hR:R E.ntmps F σ ρ a w G)(hG:Yaw Z nbx G G'){nm:Nat}{bx:Nat->Addr}{nb:Nat}(zm:∀ b,b<nb->F.gh (nm+b)=.pointer (some (bx b))):∀ {bs:List (Bool×List (BS×BO))} {b:Nat} {A B:Fin},b+bs.length<=nb->(qM (E.ntmps+nm) A b bs).eval σ=some B->FLe B Z ->
  mD G'.own w (Z.xs.map (·.val ρ)) bx b A.xs.length A.q bs
 |[],b,A,B,_,h,_=>trivial
 | (ro, cs) :: bs, b, A, B, ux, h, hZ => by
  simp only[Zbs]at ux;simp only[qM]at h
  cases ro with
  | true =>
   simp only[mD,if_true];exact xI hR hG zm (by omega) h hZ
  | false =>
   simp only[mD,Zbg,if_false];simp only[cond_false,aA,aT,Zbj]at h;split at h
   case h_2=>cases h
   rename_i b' hk;simp only[aA,aT,Zbj,Zbc,aK]at h;obtain⟨_,h0,h⟩:=h;split at h0
   case isFalse=>cases h0
   rename_i hb;simp only[Zb8]at hb;subst hb;split at h
   case h_2=>cases h
   rename_i ls nw;simp only[aA,Zbc]at h;obtain⟨C,h1,h2⟩:=h;have hv:aB σ ρ G w (.px b' 0) _:=hR.slot hk rfl
   have e:Bae E.ntmps a F.gh (E.ntmps+nm+b')=F.gh (nm+b'):=by
    unfold Bae;rw[if_neg (by omega)];congr 1;omega
   rw[e,zm b' (by omega)]at hv;simp only[aB]at hv
   have gi:bx b'=G.bx b':=by
    have:=hv.1
    injection this with this
    injection this
   obtain⟨h5,h6,h7⟩:=hR.box nw;obtain⟨h8,h9,cL⟩:=xH hR hG (ad:=G.bx b') (off:=0) h1 ((uH h2).trans hZ) fun j l hj=>by rw[Aca];exact h7 j l hj
   have ef:=xI hR hG zm (b:=b'+1) (by omega) h2 hZ;rw[h9,cL,Zbt]at ef;rw[gi];exact⟨h8,ef⟩
end
theorem Dab:∀ {l:List (Nat×Nat×Nat)} {r t m:Nat},distinct (l.map (·.1))=true->(r,t,m)∈l->l.find? (fun z=>Nat.beq z.1 r)=some (r,t,m)
 |[],r,t,m,_,h=>by simp at h
 | (r', t', m') :: l, r, t, m, hd, h => by
  simp only[Zb5,distinct,Zbd,Zb3]at hd
  rcases List.mem_cons.1 h with h1|h1
  ·obtain⟨rfl,rfl,rfl⟩:r=r'/\t=t'/\m=m':=by simpa using h1
   simp
  ·have cJ:Nat.beq r' r=false:=by
    cases e:Nat.beq r' r with
    |false=>rfl
    | true =>
     simp only[Zb8]at e;subst e;have:has (l.map (·.1)) r'=true:=mO.2 (List.mem_map.2 ⟨_,h1,rfl⟩);rw[hd.1]at this;cases this
   rw[List.find?_cons_of_neg (by simp[cJ])];exact Dab hd.2 h1
def Na3 (Z:Fin)(nbx:Nat)(G:Gh):Gh:={ G with own:=fun b=>match G.own b with
 | .slc r p => (match Z.own.find? (fun z => Nat.beq z.1 r) with
  |some (_,t,m)=>if p.length<m then .slc t p else .frz
  |none=>if r∈Z.frz then .frz else .oth)
 |.box β=>if β<nbx then .box β else if β∈Z.bxs then .box nbx else .oth
 |o=>o }
theorem Gbm {Z:Fin}{nbx:Nat}{G:Gh}(hd:distinct (Z.own.map (·.1))=true)(hm:meets (Z.own.map (·.1)) Z.frz=false)(hb:(Z.bxs.any fun b=>Nat.blt b nbx)=false):Yaw Z nbx G (Na3 Z nbx G):=by
 refine⟨fun b hb=>by simp only[Na3,hb],fun r t m hz b p hb=>?_,fun r hr b p hb=>?_,fun β hβ b hbb=>?_⟩
 ·simp only[Na3,hb,Dab hd hz]
 ·have:Z.own.find? (fun z=>Nat.beq z.1 r)=none:=by
   rw[List.find?_eq_none];intro z hz e;simp only[Zb8]at e;exact oK hm (List.mem_map.2 ⟨z,hz,rfl⟩) (by rw[e];exact hr)
  simp only[Na3,hb,this,if_pos hr]
 ·rw[Ccf]at hb
  have:=hb β hβ;simp only[Ach]at this;simp only[Na3,hbb,if_neg this,if_pos hβ]
section
variable {P:Program} {E:Env} {F:bH} {ρ:List D} {cf:Nat->List D->Option (List D)}
theorem Xa7 (hti:vN P E.ti){s:Sig}{xx:List ResultVar}{st:St}{t:Tm St}(h:finish E s xx st=some t){o:Out St}(ho:Ec cf t ρ=some o)(hl:ρ.length=st.nv)(hi:Dan E st) :
  o.kind=.ret/\∀ a w G (fn:Func) (bx:Nat->Addr),fn.results.toList=xx->(∀ b,b<s.boxes.length->F.gh ((dY (s.params.flatMap (·.2))).length+b)=.pointer (some (bx b))) ->
   (∀ b j,b<F.w0.heap.size->F.own0 b=.box j->j<s.boxes.length)->R E.ntmps F st.get ρ a w G ->
   ∃ v,(results fn a.tmps).run P w=.ok v w/\Oaq s F bx v w o.vals:=by
 unfold finish at h;split at h
 case h_2=>cases h
 rename_i Z hZ;generalize hb:(distinct (Z.own.map (·.1))&&!(meets (Z.own.map (·.1)) Z.frz)&&!(Z.bxs.any fun b=>Nat.blt b s.boxes.length)&&eP st.nv Z.lets)=b at h
 cases b with
 |false=>cases h
 | true =>
  rw[cond_true]at h;obtain rfl:=Option.some.inj h;simp only[Zbd,Zb3]at hb;obtain⟨⟨⟨qc,gR⟩,tq⟩,hb4⟩:=hb;obtain⟨ds,h4,h5,h6⟩:=vQ (g:=none) rfl (by rw[hl];exact hb4) ho;rw[fU]at h5;obtain rfl:=Option.some.inj h5;refine⟨rfl,fun a w G fn bx hfn zm qk hR=>?_⟩;have aE:=h6 [];rw[Zb4,hl]at aE;have hR:=hR.ext hi.sc (by omega) ds;have hG:=Gbm (G:=G) qc gR tq;simp only[Ibk,aA,Zbc]at hZ;obtain⟨A,h7,B,h8,h9⟩:=hZ;have hB:=uH h9;have hA:=(Ia9 h8).trans hB;obtain⟨cL,ef,fW,jd⟩:=Eai (cf:=cf) hti hR aE hG h7 hA;obtain⟨k7,mA,nf⟩:=La9 hR hG h8 hB;have h17:=xI hR hG zm (b:=0) (by omega) h9 (.refl _);simp only[Zby,Aca]at ef fW jd;rw[fW]at k7 mA;rw[mA,nf,jd]at h17;refine⟨Fab (fn.results.toList.map (Fac P a.tmps w)),?_,Na3 Z s.boxes.length G,_,by rw[hfn],?_,ef,k7,h17⟩
  ·have hm:(fn.results.mapM (Ibj a.tmps)).run P w=.ok (fn.results.map (Fac P a.tmps w)) w:=zS _ _ _ (by rw[hfn];exact cL)
   have e:results fn a.tmps=(do let vs <- fn.results.mapM (Ibj a.tmps);pure (if h:vs.size=1 then vs[0] else Value.tuple vs)):=rfl;rw[e,Sem.run_bind,hm];simp only[Result.andThen_ok,Sem.run_pure];rw[Zap,Array.toList_map]
  ·refine⟨hR.frame.os,hR.frame.tape,hR.frame.output,hR.frame.size,fun b hb ho=>?_,fun b j hb ho=>?_,fun b hb=>?_⟩
   ·obtain⟨h18,h19⟩:=hR.frame.keep b hb ho
    refine⟨h18,?_⟩
    rcases ho with ho|ho<;>rw[ho]at h19 ⊢<;>simp only[Na3,h19]
   ·obtain⟨h18,h19⟩:=hR.frame.boxes b j hb ho
    refine⟨?_,h19⟩;simp only[Na3,h18,if_pos (qk b j hb ho)]
   ·simp only[Na3,hR.frame.fresh b hb]
end
def Goes (P:Program)(f:Nat)(args:Array Value)(w:World)(K:Value->World->Prop):Prop :=
 ((callFunc f args).run P w=.ok (.enter f args) w/\Calls P f args w fun
  |.returned v,w'=>K v w'
  |_,_=>False)\/∃ v w',(callFunc f args).run P w=.ok (.value v) w'/\K v w'
def uS (P:Program)(T:Nat->Ent)(n key:Nat)(s:Sig):Prop :=
 ∀ vals w G ds gy,Cb2 s vals w G ds->kH T n key ds=some gy->Goes P s.fn vals.toArray w fun v w'=>Oaq s (pK s G w) G.bx v w' gy
def Daq (P:Program)(X:(Nat->Ow)->World->Prop)(T:Nat->Ent)(n key:Nat)(s:Sig):Prop :=
 ∀ vals w G ds gy,Cb2 s vals w G ds->X G.own w->kH T n key ds=some gy->Goes P s.fn vals.toArray w fun v w'=>Oaq s (pK s G w) G.bx v w' gy
def Stable (X:(Nat->Ow)->World->Prop):Prop :=
 ∀ (own0:Nat->Ow) (w0:World) (own:Nat->Ow) (w:World),w0.heap.size<=w.heap.size->(∀ b,b<w0.heap.size->own0 b=.frz->w.heap[b]?=w0.heap[b]?/\own b=.frz)->X own0 w0->X own w
theorem iM {P : Program} {f : FuncId} {fn : Func} {c : Code} (hf : P.funcs[f]? = some fn) (hname : (fn.name == "runtime.NumGoroutine") = false) (hb : fn.body = some c) (args : Array Value) (w : World) :
  (callFunc f args).run P w=.ok (.enter f args) w:=by
 have h1 : fn.name ≠ "runtime.NumGoroutine" := by simpa using hname
 simp[callFunc,hf,h1,hb]
theorem Aba:∀ (ss:List LS) (r:Nat),(eQ r ss).length=(dY ss).length
 |[],r=>rfl
 | s :: ss, r => by
  cases s<;>simp[eQ,dY,Aba ss]
theorem Pa6:∀ (n a j:Nat),j<n->(range a n)[j]?=some (a+j)
 |0,a,j,h=>by omega
 |n+1,a,0,h=>rfl
 | n + 1, a, j + 1, h => by
  simp only[range,Acl];rw[Pa6 n (a+1) j (by omega)];congr 1;omega
theorem Cbo {s:Sig}{G:Gh}{w:World}{b:Nat}(h:b<s.boxes.length):(pK s G w).gh ((dY (s.params.flatMap (·.2))).length+b)=.pointer (some (G.bx b)):=by
 simp only[pK,Iaz,Zbk];rw[Zbw (by simp[Aba]),Zbt,Aba,Ace,Zb2,Pa6 _ _ _ h];simp
theorem Naz {P : Program} {X : (Nat -> Ow) -> World -> Prop} {E : Env} {T : Nat -> Ent} {n key : Nat} {s : Sig} {fn : Func} {tm : Tm Unit} (hti : vN P E.ti) (hm : P.follows .mixedOrders = true) (hfn : P.funcs[s.fn]? = some fn) (hname : (fn.name == "runtime.NumGoroutine") = false)
  (hx:Waw E s fn=some tm) (hT:T key=.tm tm) (cI:∀ F,X F.own0 F.w0->Bad P { E with ntmps:=fn.ntmps,ngh:=nD s,nbx:=s.boxes.length } F (kH T n)):Daq P X T (n+1) key s:=by
 intro vals w G ds gy da hX bj;simp only[kH,hT,Zbc]at bj;obtain⟨o,bj,vr⟩:=bj;unfold Jbj at vr;split at vr
 case isFalse=>cases vr
 rename_i hk;obtain rfl:=Option.some.inj vr;unfold Waw at hx;split at hx
 case h_1=>cases hx
 rename_i c hbody
 cases hle:Nat.ble s.params.length fn.ntmps with
 |false=>rw[hle]at hx;cases hx
 | true =>
  rw[hle]at hx;simp only[Bool.not_true,cond_false,bind,Zbc,Option.some.injEq]at hx;obtain⟨tc,htc,t,ht,rfl⟩:=hx;simp only[Acr]at hle;rw[Xaa,Option.map_eq_some_iff]at bj;obtain⟨o0,bj,rfl⟩:=bj;have hev:Ec (kH T n) t ds=some o0:=Ja3.2 ⟨n,bj⟩
  obtain⟨o1,h1,h2⟩:=lI (fun st r hr ρ o ho=>by
   split at hr
   ·rename_i t' hf
    obtain rfl:=Option.some.inj hr;unfold finish at hf;split at hf
    case h_2=>cases hf
    rename_i Z hZ
    revert hf
    generalize (distinct (Z.own.map (·.1))&&!(meets (Z.own.map (·.1)) Z.frz)&&!(Z.bxs.any fun b=>Nat.blt b s.boxes.length)&&eP st.nv Z.lets)=b;intro hf
    cases b with
    |false=>cases hf
    | true =>
     rw[cond_true]at hf;obtain rfl:=Option.some.inj hf;exact mG ho
   ·obtain rfl:=Option.some.inj hr
    rw[jI]at ho;cases ho) rfl (fun _=>rfl) ht hev
  rcases h2 with ⟨h2,h3,r,h4,h5⟩|⟨h2,h3⟩
  case inr =>
   subst h3;have kb:o0.kind=.ret:=hk;rw[kb]at h2;cases h2
  unfold Hb6 at htc;dsimp only at htc;generalize mf:Ga9 (entry s fn.ntmps) (entry s fn.ntmps).nr _=b at htc
  cases b with
  |false=>simp[kG]at htc
  | true =>
   rw[cond_true]at htc;have hinv:Dan { E with ntmps:=fn.ntmps,ngh:=nD s,nbx:=s.boxes.length } (entry s fn.ntmps):=Bbp mf rfl;obtain⟨hlen,hR⟩:=Kbd (n:=fn.ntmps) da hle;have oX:ds.length=(entry s fn.ntmps).nv:=by rw[(Eak s fn.ntmps).1];exact da.len
   obtain⟨hp,hw⟩:=qV (E:={ E with ntmps:=fn.ntmps,ngh:=nD s,nbx:=s.boxes.length }) (F:=pK s G w) (fun x j hx ho=>(da.cells x j hx ho).1) hti (cI _ hX) hm c htc h1 oX hinv;refine .inl ⟨iM hfn hname hbody _ _,?_⟩;refine calls_of_wp hfn hbody ?_;rw[show vals.toArray.size=vals.length by simp];refine hw _ w G _ hR fun a' w' G' iw=>?_
   split at h4
   case h_2 =>
    obtain rfl:=Option.some.inj h4;rw[jI]at h5;cases h5
   rename_i t' hf;obtain rfl:=Option.some.inj h4;obtain⟨h6,h7⟩:=Xa7 (E:={ E with ntmps:=fn.ntmps,ngh:=nD s,nbx:=s.boxes.length }) (F:=pK s G w) hti hf h5 hp.len hp.inv;obtain⟨v,h8,h9⟩:=h7 a' w' G' fn G.bx rfl (fun b hb=>Cbo hb) (fun b j hb ho=>(da.cells b j hb ho).1) iw;have hd:=iw.defers
   revert h2
   cases o1.kind with
   |fall=>exact fun _=>⟨hd,v,h8,h9⟩
   |ret=>exact fun _=>⟨hd,v,h8,h9⟩
   |exit i=>intro h;cases h
   |cont=>intro h;cases h
   |yield i=>intro h;cases h
def strip:List Nat->List Nat->Option (List Nat)
 |[],p=>some p
 |a::q,b::p=>if a=b then strip q p else none
 |_::_,[]=>none
theorem Ea7:∀ (q t:List Nat),strip q (q++t)=some t
 |[],t=>rfl
 |a::q,t=>by simp[strip,Ea7 q t]
theorem Ka3:∀ {q p t:List Nat},strip q p=some t->p=q++t
 |[],p,t,h=>by simpa[strip] using h
 |a::q,[],t,h=>by simp[strip]at h
 | a :: q, b :: p, t, h => by
  simp only[strip]at h;split at h
  ·rename_i e
   rw[e,Ka3 h];rfl
  ·cases h
def Za8 (w:World):Value->List Nat->Value
 |v,[]=>v
 |.slice (some a) _ _,k::p=>Za8 w ((w.cell? (a.add k)).getD undef) p
 |_,_::_=>undef
theorem Da9 {own:Nat->Ow}{w:World}{r:Nat}:∀ {p q:List Nat} {v u:Value},zN own w r q v p u->Za8 w v p=u
 |[],q,v,u,h=>by simp only[zN]at h;rw[h];cases v<;>rfl
 | k :: p, q, v, u, h => by
  obtain⟨a,n,c,u',rfl,-,h2,h3⟩:=h;simp only[Za8,h2,Bcd];exact Da9 h3
section
variable (ρ:List D) (dr:List Nat)
def mK:Nat->List RT->Nat->List Nat->Ow
 |_,[],r,_=>if r∈dr then .frz else .oth
 |ν,.nil::t,r,p=>mK (ν+1) t r p
 |ν,.own s d::t,r,p=>if r=s then (if p.length<d then .slc ν p else .frz) else mK (ν+1) t r p
 |ν,.mu s d q _::t,r,p=>if r=s then (match strip (bD ρ q) p with | some t'=>if t'.length<d then .slc ν t' else .frz | none=>.oth) else mK (ν+1) t r p
end
def Saw (ptrs:List (Nat×Nat×Nat))(c:Nat):Nat->List (Bool×List (BS×BO))->Option Nat
 |_,[]=>none
 | b, (ro, _) :: r => if ro = true then Saw ptrs c (b + 1) r else match oH b ptrs with
  |some (c',_)=>if c'=c then some b else Saw ptrs c (b+1) r
  |none=>Saw ptrs c (b+1) r
def Nb2 (ρ:List D)(G:Gh)(w:World):RT->Value
 |.nil=>.slice none 0 0
 |.own r _=>G.hdr r
 |.mu r _ q _=>Za8 w (G.hdr r) (bD ρ q)
def callG (ρ:List D)(G:Gh)(w:World)(s:Sig)(Z:Take):Gh:={
 own:=fun b=>match G.own b with
  |.slc r p=>mK ρ (Z.deps.map (·.1)) 0 Z.rts r p
  | .box c => (match Saw Z.ptrs c 0 s.boxes with
   |some j=>if b=(G.bx c).block then .box j else .oth
   |none=>.oth)
  |o=>o
 hdr:=fun ν=>((Z.rts[ν]?).map (Nb2 ρ G w)).getD undef
 bx:=fun b=>match oH b Z.ptrs with
  |some (c,off)=>(G.bx c).add off
  |none=>⟨0,0,none⟩ }
theorem rU {ρ:List D}{dr:List Nat}{r:Nat}{p:List Nat}:∀ {rts:List RT} {ν:Nat},r∉cK rts->mK ρ dr ν rts r p=if r∈dr then .frz else .oth
 |[],ν,h=>rfl
 |.nil::t,ν,h=>rU (rts:=t) h
 | .own s d :: t, ν, h => by
  simp only[cK,Acf,not_or]at h;simp only[mK,if_neg h.1];exact rU h.2
 | .mu s d q X :: t, ν, h => by
  simp only[cK,Acf,not_or]at h;simp only[mK,if_neg h.1];exact rU h.2
theorem tN:∀ {rts:List RT} {ν r:Nat},(∃ d,rts[ν]?=some (.own r d))\/(∃ d q X,rts[ν]?=some (.mu r d q X))->r∈cK rts
 |[],ν,r,h=>by simp at h
 | x :: t, 0, r, h => by
  simp only[Zbl,Option.some.injEq]at h
  rcases h with ⟨d,rfl⟩|⟨d,q,X,rfl⟩<;>exact Zbu
 | x :: t, ν + 1, r, h => by
  have:=tN (rts:=t) (ν:=ν) (r:=r) (by simpa using h)
  cases x with
  |nil=>exact this
  |own s d=>exact Zbn _ this
  |mu s d q X=>exact Zbn _ this
theorem Baz {ρ:List D}{dr:List Nat}{r d:Nat}{p:List Nat}:∀ {rts:List RT} {gk ν:Nat},distinct (cK rts)=true->rts[ν]?=some (.own r d)->mK ρ dr gk rts r p=if p.length<d then .slc (gk+ν) p else .frz
 |[],gk,ν,_,h=>by simp at h
 | x :: t, gk, 0, hd, h => by
  simp only[Zbl,Option.some.injEq]at h;subst h;simp[mK]
 | x :: t, gk, ν + 1, hd, h => by
  simp only[Acl]at h;have hm:=tN (.inl ⟨d,h⟩)
  cases x with
  | nil =>
   simp only[mK];rw[Baz (rts:=t) hd h,show gk+1+ν=gk+(ν+1) by omega]
  | own s d' =>
   simp only[cK,distinct,Zbd,Zb3]at hd;have cJ:r≠s:=fun e=>by rw[e,<- mO,hd.1]at hm;cases hm
   simp only[mK,if_neg cJ];rw[Baz hd.2 h,show gk+1+ν=gk+(ν+1) by omega]
  | mu s d' q X =>
   simp only[cK,distinct,Zbd,Zb3]at hd;have cJ:r≠s:=fun e=>by rw[e,<- mO,hd.1]at hm;cases hm
   simp only[mK,if_neg cJ];rw[Baz hd.2 h,show gk+1+ν=gk+(ν+1) by omega]
theorem Gaq {ρ:List D}{dr:List Nat}{r d:Nat}{q:List (aL×Nat×Nat)}{X:aL}{p:List Nat}:∀ {rts:List RT} {gk ν:Nat},distinct (cK rts)=true->rts[ν]?=some (.mu r d q X) ->
  mK ρ dr gk rts r p=match strip (bD ρ q) p with|some t'=>if t'.length<d then .slc (gk+ν) t' else .frz|none=>.oth
 |[],gk,ν,_,h=>by simp at h
 | x :: t, gk, 0, hd, h => by
  simp only[Zbl,Option.some.injEq]at h;subst h;simp[mK]
 | x :: t, gk, ν + 1, hd, h => by
  simp only[Acl]at h;have hm:=tN (.inr ⟨d,q,X,h⟩)
  cases x with
  | nil =>
   simp only[mK];rw[Gaq (rts:=t) hd h,show gk+1+ν=gk+(ν+1) by omega]
  | own s d' =>
   simp only[cK,distinct,Zbd,Zb3]at hd;have cJ:r≠s:=fun e=>by rw[e,<- mO,hd.1]at hm;cases hm
   simp only[mK,if_neg cJ];rw[Gaq hd.2 h,show gk+1+ν=gk+(ν+1) by omega]
  | mu s d' q' X' =>
   simp only[cK,distinct,Zbd,Zb3]at hd;have cJ:r≠s:=fun e=>by rw[e,<- mO,hd.1]at hm;cases hm
   simp only[mK,if_neg cJ];rw[Gaq hd.2 h,show gk+1+ν=gk+(ν+1) by omega]
structure TLe (A B:Take):Prop where
 xs:∃ l,B.xs=A.xs++l
 ptrs:∀ z∈A.ptrs,z∈B.ptrs
 deps:∀ z∈A.deps,z∈B.deps
 lets:∃ l,B.lets=A.lets++l
 rts:∃ l,B.rts=A.rts++l
theorem TLe.refl (A:Take):TLe A A:=⟨⟨[],by simp⟩,fun _ h=>h,fun _ h=>h,⟨[],by simp⟩,⟨[],by simp⟩⟩
theorem TLe.trans {A B C:Take}(h:TLe A B)(h':TLe B C):TLe A C:=by
 obtain⟨⟨l,h1⟩,h2,h3,⟨m,h4⟩,⟨k,h5⟩⟩:=h;obtain⟨⟨l',vn⟩,uz,h3',⟨m',ve⟩,⟨k',u5⟩⟩:=h';exact⟨⟨l++l',by rw[vn,h1,Zbm]⟩,fun z hz=>uz z (h2 z hz),fun z hz=>h3' z (h3 z hz),⟨m++m',by rw[ve,h4,Zbm]⟩,⟨k++k',by rw[u5,h5,Zbm]⟩⟩
theorem TLe.get {A B:Take}(h:TLe A B){ρ:List D}{x:aL}{l:List aL}(hx:A.xs=l++[x]):(aL.v l.length).val (B.xs.map (·.val ρ))=x.val ρ:=by
 obtain⟨m,h1⟩:=h.xs;rw[h1,hx];simp only[aL.val,Zbk];simp
theorem TLe.rt {A B:Take}(h:TLe A B){x:RT}{l:List RT}(hx:A.rts=l++[x]):B.rts[l.length]?=some x:=by
 obtain⟨m,h1⟩:=h.rts;rw[h1,hx];simp
structure Mah (s:Sig) (Z:Take):Prop where
 ptrs:∀ b c off,(b,c,off)∈Z.ptrs->b<s.boxes.length/\oH b Z.ptrs=some (c,off)
 dist:distinct (cK Z.rts)=true
 deps:∀ z∈Z.deps,z.1∉cK Z.rts
 wr:distinct (iX false Z.ptrs 0 s.boxes)=true
 ro:meets (iX false Z.ptrs 0 s.boxes) (iX true Z.ptrs 0 s.boxes)=false
theorem Ha4 {nbx:Nat}{ptrs:List (Nat×Nat×Nat)}:∀ {l:List (Nat×Nat×Nat)},Ua7 nbx ptrs l=true->∀ b c off,(b,c,off)∈l->b<nbx/\oH b ptrs=some (c,off)
 |[],_,b,c,off,h=>by simp at h
 | (b', c', kO) :: l, h, b, c, off, hm => by
  simp only[Ua7,Zbd,Ach]at h
  rcases List.mem_cons.1 hm with e|hm
  ·obtain⟨rfl,rfl,rfl⟩:b=b'/\c=c'/\off=kO:=by simpa using e
   refine⟨h.1.1,?_⟩;have h2:=h.1.2;split at h2
   ·rename_i e
    simp only[Zbd,Zb8]at h2;rw[e,h2.1,h2.2]
   ·cases h2
  ·exact Ha4 h.2 b c off hm
theorem Saf {s:Sig}{Z:Take}(h:Ya2 s Z=true):Mah s Z:=by
 simp only[Ya2,Zbd,Zb3]at h;obtain⟨⟨⟨⟨h1,h2⟩,h3⟩,h4⟩,h5⟩:=h;refine⟨Ha4 h1,h2,fun z hz hm=>?_,h4,h5⟩;rw[Ccf]at h3;exact h3 z hz (mO.2 hm)
section
variable {E:Env} {F:bH} {σ:Nat->Option aS} {ρ:List D} {a:Act} {w:World} {G:Gh} {g:Option (aL×Bool)} {cf:Nat->List D->Option (List D)} {s:Sig} {Z:Take} {nv:Nat}
theorem pJ {b:Nat}(h:G.own b=.frz):(callG ρ G w s Z).own b=.frz:=by simp only[callG,h]
theorem Cbn (hk:Mah s Z){b r k:Nat}{p:List Nat}(hz:(r,k)∈Z.deps)(h:G.own b=.slc r p):(callG ρ G w s Z).own b=.frz:=by
 simp only[callG,h];rw[rU (hk.deps _ hz),if_pos (List.mem_map.2 ⟨_,hz,rfl⟩)]
theorem Cbm (hk:Mah s Z){b r d ν:Nat}{p:List Nat}(hz:Z.rts[ν]?=some (.own r d))(h:G.own b=.slc r p):(callG ρ G w s Z).own b=if p.length<d then .slc ν p else .frz:=by
 simp only[callG,h];rw[Baz hk.dist hz,Aca]
theorem Oac (hk:Mah s Z){b r d ν:Nat}{q:List (aL×Nat×Nat)}{X:aL}{p:List Nat}(hz:Z.rts[ν]?=some (.mu r d q X))(h:G.own b=.slc r p) :
  (callG ρ G w s Z).own b=match strip (bD ρ q) p with|some t'=>if t'.length<d then .slc ν t' else .frz|none=>.oth:=by
 simp only[callG,h];rw[Gaq hk.dist hz,Aca]
theorem Daj {ν:Nat}{x:RT}(h:Z.rts[ν]?=some x):(callG ρ G w s Z).hdr ν=Nb2 ρ G w x:=by
 simp only[callG,h];rfl
theorem Rd.callG (hk:Mah s Z){deps:List (Nat×Nat)}(hd:∀ z∈deps,z∈Z.deps){v:Value}{d:D}(h:Rd (allow G deps) w v d):Rd (fun b=>(Go.Proofs.YtcbkmmhkccnamaaGreat.Rf.callG ρ G w s Z).own b=.frz) w v d:=by
 refine h.mono fun b hb=>⟨?_,rfl⟩
 rcases hb with hb|⟨r,k,p,hm,hb⟩
 ·exact pJ hb
 ·exact Cbn hk (hd _ hm) hb
theorem Waq (hg:gOn ρ g=true){A B:Take}{l:aR}(h:(Oa0 g A l).eval σ=some B){v:Value}(hl:aB σ ρ G w l v) :
  ∃ x,B={ A with xs:=A.xs++[x] }/\Sc v (x.val ρ):=by
 simp only[Oa0,aA,Zbc,aW,aF,Option.some.injEq]at h;obtain⟨x,h1,rfl⟩:=h;exact⟨x,rfl,jZ hg h1 hl⟩
theorem Oa4 {A B:Take}{nie:Bool}{l:aR}(h:(rH A nie l).eval σ=some B):TLe A B:=by
 simp only[rH,aA,Zbc,aF,Option.some.injEq]at h;obtain⟨s,h1,rfl⟩:=h;exact⟨⟨_,rfl⟩,fun _ h=>h,fun _ h=>Zbe _ h,⟨_,rfl⟩,⟨[],by simp⟩⟩
theorem Ka0 (hR:R E.ntmps F σ ρ a w G)(hg:gOn ρ g=true)(aE:aN cf ρ g nv Z.lets)(hk:Mah s Z){A B:Take}{nie:Bool}{l:aR}(h:(rH A nie l).eval σ=some B)(hZ:TLe B Z){v:Value}(hl:aB σ ρ G w l v) :
  Rd (fun b=>(callG ρ G w s Z).own b=.frz) w v ((aL.v A.xs.length).val (Z.xs.map (·.val ρ)))/\(nie=true->∀ z,(aL.v A.xs.length).val (Z.xs.map (·.val ρ))=.rows z []->v=.slice none 0 0) /\
  B.xs.length=A.xs.length+1/\B.rts=A.rts:=by
 simp only[rH,aA,Zbc,aF,Option.some.injEq]at h;obtain⟨sl,h1,rfl⟩:=h;have hs:=dX hR h1 hl;rw[hZ.get (l:=A.xs) rfl];refine⟨hs.rd.callG hk fun z hz=>hZ.deps _ (Zbh _ hz),fun hn z hz=>?_,by simp,rfl⟩
 cases hsn:sl.nie with
 |true=>exact hs.nie hsn z hz
 | false =>
  exfalso;obtain⟨lr,hlr⟩:=hZ.lets;dsimp only at hlr;rw[hlr,hn,hsn]at aE;simp only[Bool.not_false,Bool.and_self,cond_true]at aE;rw[Zbm]at aE;have mm:=(aN.append (aN.append aE).2).1;obtain⟨ds,h2,-,-⟩:=step1 mm hg;simp only[Zb5,Acb,hz,aU.run]at h2;simp at h2
theorem Oa1 {A B:Take}{d:Nat}{l:aR}(h:(uV A d l).eval σ=some B):TLe A B:=by
 unfold uV at h;split at h
 ·simp only[aA,aT,Zbj]at h
  split at h
  ·simp only[aA,aK,Zbc,aF,Option.some.injEq]at h
   obtain⟨_,-,rfl⟩:=h;exact⟨⟨_,rfl⟩,fun _ h=>h,fun _ h=>h,⟨[],by simp⟩,⟨_,rfl⟩⟩
  ·cases h
 ·simp only[aF,Option.some.injEq]at h
  subst h;exact⟨⟨_,rfl⟩,fun _ h=>h,fun _ h=>h,⟨[],by simp⟩,⟨_,rfl⟩⟩
 ·cases h
theorem Kax (hR:R E.ntmps F σ ρ a w G)(hk:Mah s Z){A B:Take}{d:Nat}{l:aR}(h:(uV A d l).eval σ=some B)(hZ:TLe B Z){v:Value}(hl:aB σ ρ G w l v) :
  v=(callG ρ G w s Z).hdr A.rts.length/\Rp (callG ρ G w s Z).own w A.rts.length [] d v ((aL.v A.xs.length).val (Z.xs.map (·.val ρ)))/\B.xs.length=A.xs.length+1/\B.rts.length=A.rts.length+1:=by
 unfold uV at h;split at h
 ·rename_i r
  simp only[aA,aT,Zbj]at h;split at h
  ·rename_i x m bc oi
   simp only[aA,aK,Zbc,aF,Option.some.injEq]at h;obtain⟨_,h1,rfl⟩:=h;split at h1
   case isFalse=>cases h1
   rename_i hb;simp only[Acr]at hb;simp only[aB]at hl;have oT:=hZ.rt (l:=A.rts) rfl;rw[hZ.get (l:=A.xs) rfl];refine⟨by rw[Daj oT];exact hl.1,?_,by simp,by simp⟩;rw[hl.1];have hr:=hR.root oi;simp only[bS]at hr;exact hr.move (fun b hb _=>⟨pJ hb,rfl⟩) [] d hb fun b t hb=>⟨by rw[Cbm hk oT hb];rfl,rfl⟩
  ·cases h
 ·rename_i nie z
  simp only[aF,Option.some.injEq]at h;subst h;simp only[aB]at hl;have hv:=(hl.2 (by simp)).2.1 trivial z rfl;have oT:=hZ.rt (l:=A.rts) rfl;rw[hZ.get (l:=A.xs) rfl];refine⟨by rw[Daj oT];exact hv,?_,by simp,by simp⟩;rw[hv]
  cases d with
  |zero=>exact .fz (.rows none ⟨0,0,none⟩ 0 0 z [] (fun _ _=>undef) rfl (Zbr _) (.inl rfl) (by simp) (by simp) (by simp))
  |succ m=>exact .sl none ⟨0,0,none⟩ 0 0 z [] (fun _ _=>undef) rfl (Zbr _) (.inr ⟨rfl,rfl⟩) (by simp) (fun e=>by cases e) (by simp) (by simp)
 ·cases h
theorem Ya3 {A B:Take}{d:Nat}{l:aR}(h:(Kaz A d l).eval σ=some B):TLe A B:=by
 simp only[Kaz,aA,Zbc]at h;obtain⟨sl,h1,h⟩:=h;split at h
 ·simp only[aA,aK,aT,Zbj,Zbc]at h
  obtain⟨_,-,h⟩:=h;split at h
  ·simp only[aF,Option.some.injEq]at h
   subst h;exact⟨⟨_,rfl⟩,fun _ h=>h,fun _ h=>h,⟨[],by simp⟩,⟨_,rfl⟩⟩
  ·cases h
 ·cases h
theorem Wat (hR:R E.ntmps F σ ρ a w G)(hk:Mah s Z){A B:Take}{d:Nat}{l:aR}(h:(Kaz A d l).eval σ=some B)(hZ:TLe B Z){v:Value}(hl:aB σ ρ G w l v) :
  v=(callG ρ G w s Z).hdr A.rts.length/\Rp (callG ρ G w s Z).own w A.rts.length [] d v ((aL.v A.xs.length).val (Z.xs.map (·.val ρ)))/\B.xs.length=A.xs.length+1/\B.rts.length=A.rts.length+1:=by
 simp only[Kaz,aA,Zbc]at h;obtain⟨sl,h1,h⟩:=h;have hs:=dX hR h1 hl;split at h
 case h_2=>cases h
 rename_i r k m q ho;simp only[aA,aK,aT,Zbj,Zbc]at h;obtain⟨_,h2,h⟩:=h;split at h2
 case isFalse=>cases h2
 rename_i hb;simp only[Acr]at hb;split at h
 case h_2=>cases h
 rename_i X m' v' oi;simp only[aF,Option.some.injEq]at h;subst h;have a7:=hs.own;unfold vH at a7;rw[ho]at a7;obtain⟨h3,h4,h5,h6,h7⟩:=a7;have oT:=hZ.rt (l:=A.rts) rfl;rw[hZ.get (l:=A.xs) rfl];refine⟨by rw[Daj oT];exact (Da9 h7).symm,?_,by simp,by simp⟩;refine h6.move (fun b hb _=>⟨pJ hb,rfl⟩) [] d (by omega) fun b t hb=>⟨?_,rfl⟩
 rw[Oac hk oT hb,Ea7];rfl
theorem Ya1 {A B:Take}{z:Nat}{l:aR}(h:(Hag A z l).eval σ=some B):TLe A B:=by
 unfold Hag at h;split at h
 ·simp only[aA,Zbc,aF,Option.some.injEq]at h
  obtain⟨_,-,rfl⟩:=h;exact⟨⟨_,rfl⟩,fun _ h=>h,fun _ h=>Zbe _ h,⟨[],by simp⟩,⟨[],by simp⟩⟩
 ·simp only[aF,Option.some.injEq]at h
  subst h;exact⟨⟨_,rfl⟩,fun _ h=>h,fun _ h=>h,⟨[],by simp⟩,⟨[],by simp⟩⟩
 ·cases h
theorem War (hR:R E.ntmps F σ ρ a w G)(hk:Mah s Z){A B:Take}{z:Nat}{l:aR}(h:(Hag A z l).eval σ=some B)(hZ:TLe B Z){v:Value}(hl:aB σ ρ G w l v) :
  v.oneCell'=true/\Cbt (fun b=>(callG ρ G w s Z).own b=.frz) w v ((aL.v A.xs.length).val (Z.xs.map (·.val ρ)))/\B.xs.length=A.xs.length+1/\B.rts=A.rts:=by
 unfold Hag at h;split at h
 ·rename_i deps pg x
  simp only[aA,Zbc,aF,Option.some.injEq]at h;obtain⟨ds,h1,rfl⟩:=h;simp only[aB]at hl;obtain⟨h3,h4,h5⟩:=jC h1;rw[hZ.get (l:=A.xs) rfl];refine⟨hl.1.1,?_,by simp,rfl⟩
  rcases hl.2 h3 with h6|⟨ad,row,h6,h7,h8⟩
  ·exact .inl h6
  ·exact .inr ⟨ad,row,h6,h7,(h8.drop hR h5).callG hk fun z hz=>hZ.deps _ (Zbh _ hz)⟩
 ·simp only[aF,Option.some.injEq]at h
  subst h;simp only[aB]at hl;rw[hZ.get (l:=A.xs) rfl];exact⟨by rw[hl];rfl,.inl ⟨hl,_,rfl⟩,by simp,rfl⟩
 ·cases h
theorem Rav (hk:Mah s Z){b c off:Nat}(h:(b,c,off)∈Z.ptrs):(callG ρ G w s Z).bx b=(G.bx c).add off/\b<s.boxes.length:=by
 obtain⟨h1,h2⟩:=hk.ptrs b c off h;refine⟨?_,h1⟩;simp only[callG,h2]
theorem Dai:∀ {cs:List LS} {ls:List aR} {acc l:List (Nat×Nat×Nat)},jT cs ls acc=some l->∀ z∈acc,z∈l
 | [], [], acc, l, h, z, hz => by
  simp only[jT,Option.some.injEq]at h;rw[<- h];exact hz
 |[],_::_,acc,l,h,z,hz=>by simp[jT]at h
 |c::cs,[],acc,l,h,z,hz=>by cases c<;>simp[jT]at h
 | c :: cs, x :: ls, acc, l, h, z, hz => by
  cases c<;>cases x<;>simp only[jT,reduceCtorEq]at h
  exact Dai h z (Zbn _ hz)
theorem Dah (hk:Mah s Z):∀ {cs:List LS} {ls:List aR} {acc l:List (Nat×Nat×Nat)},jT cs ls acc=some l->(∀ z∈l,z∈Z.ptrs)->∀ {vs:List Value},aG σ ρ G w ls vs->xW (callG ρ G w s Z) s.boxes.length cs vs
 |[],[],acc,l,h,_,vs,hl=>by simpa[xW,aG] using hl
 |[],_::_,acc,l,h,_,_,_=>by simp[jT]at h
 |c::cs,[],acc,l,h,_,_,_=>by cases c<;>simp[jT]at h
 | c :: cs, x :: ls, acc, l, h, hz, vs, hl => by
  cases c<;>cases x<;>simp only[jT,reduceCtorEq]at h
  rename_i b c off;simp only[aG]at hl;obtain⟨u,us,rfl,h1,h2⟩:=hl;obtain⟨h3,h4⟩:=Rav (ρ:=ρ) (G:=G) (w:=w) hk (hz _ (Dai h _ Zbu));simp only[aB]at h1;exact⟨u,us,rfl,⟨by rw[h3];exact h1.1,h4⟩,Dah hk h hz h2⟩
theorem Sag {A B:Take}{t:LS}{l:aR}(h:(sZ g A t l).eval σ=some B):TLe A B:=by
 unfold sZ at h;split at h
 ·simp only[Oa0,aA,Zbc,aF,Option.some.injEq]at h
  obtain⟨x,-,rfl⟩:=h;exact⟨⟨_,rfl⟩,fun _ h=>h,fun _ h=>h,⟨[],by simp⟩,⟨[],by simp⟩⟩
 ·exact Oa4 h
 ·exact Ya3 h
 ·exact Oa1 h
 ·simp only[aF,Option.some.injEq]at h
  subst h;exact⟨⟨[],by simp⟩,fun _ h=>Zbe _ h,fun _ h=>h,⟨[],by simp⟩,⟨[],by simp⟩⟩
 ·split at h
  ·rw[iA]at h
   split at h
   ·simp only[aF,Option.some.injEq]at h
    subst h;exact⟨⟨[],by simp⟩,fun _ h=>Zbe _ h,fun _ h=>h,⟨[],by simp⟩,⟨[],by simp⟩⟩
   ·cases h
  ·cases h
 ·exact Ya1 h
 ·cases h
theorem Oa2 (hR:R E.ntmps F σ ρ a w G)(hg:gOn ρ g=true)(aE:aN cf ρ g nv Z.lets)(hk:Mah s Z){A B:Take}{t:LS}{l:aR}(h:(sZ g A t l).eval σ=some B)(hZ:TLe B Z){v:Value}(hl:aB σ ρ G w l v) :
  kV (callG ρ G w s Z) w (Z.xs.map (·.val ρ)) s.boxes.length A.xs.length A.rts.length t v/\B.xs.length=A.xs.length+t.cnt/\B.rts.length=A.rts.length+t.rcnt:=by
 unfold sZ at h;split at h
 ·obtain⟨x,rfl,h1⟩:=Waq hg h hl
  refine⟨?_,by simp[LS.cnt],rfl⟩;simp only[kV];rw[hZ.get (l:=A.xs) rfl];exact h1
 ·obtain⟨h1,h2,h3,h4⟩:=Ka0 hR hg aE hk h hZ hl
  exact⟨⟨h1,h2⟩,h3,by rw[h4];rfl⟩
 ·obtain⟨h1,h2,h3,h4⟩:=Wat hR hk h hZ hl
  exact⟨⟨h1,h2⟩,h3,h4⟩
 ·obtain⟨h1,h2,h3,h4⟩:=Kax hR hk h hZ hl
  exact⟨⟨h1,h2⟩,h3,h4⟩
 ·rename_i b c off
  simp only[aF,Option.some.injEq]at h;subst h;obtain⟨h1,h2⟩:=Rav (ρ:=ρ) (G:=G) (w:=w) hk (hZ.ptrs _ (Zbh _ (List.mem_singleton.2 rfl)));simp only[aB]at hl;exact⟨⟨by rw[h1];exact hl.1,h2⟩,rfl,rfl⟩
 ·rename_i f cs f' ls
  split at h
  ·rename_i l' hc
   rw[iA]at h;split at h
   ·rename_i hf
    simp only[Zb8]at hf;subst hf;simp only[aF,Option.some.injEq]at h;subst h;simp only[aB]at hl;obtain⟨vs,h1,h2⟩:=hl;exact⟨⟨vs,h1,Dah hk hc (fun z hz=>hZ.ptrs _ (Zbh _ hz)) h2⟩,rfl,rfl⟩
   ·cases h
  ·cases h
 ·obtain⟨h1,h2,h3,h4⟩:=War hR hk h hZ hl
  exact⟨⟨h1,h2⟩,h3,by rw[h4];rfl⟩
 ·cases h
theorem sW:∀ {ss:List LS} {ls:List aR} {A B:Take},(dI g A ss ls).eval σ=some B->TLe A B
 | [], [], A, B, h => by
  simp only[dI,aF,Option.some.injEq]at h;subst h;exact .refl _
 |[],_::_,A,B,h=>by simp[dI,bQ]at h
 |_::_,[],A,B,h=>by simp[dI,bQ]at h
 | t :: ss, l :: ls, A, B, h => by
  simp only[dI,aA,Zbc]at h;obtain⟨C,h1,h2⟩:=h;exact (Sag h1).trans (sW h2)
theorem zP (hR:R E.ntmps F σ ρ a w G)(hg:gOn ρ g=true)(aE:aN cf ρ g nv Z.lets)(hk:Mah s Z):∀ {ss:List LS} {ls:List aR} {A B:Take},(dI g A ss ls).eval σ=some B->TLe B Z->∀ {vs:List Value},aG σ ρ G w ls vs ->
  sQ (callG ρ G w s Z) w (Z.xs.map (·.val ρ)) s.boxes.length A.xs.length A.rts.length ss vs/\B.xs.length=A.xs.length+Yat ss/\B.rts.length=A.rts.length+kF ss
 | [], [], A, B, h, _, vs, hl => by
  simp only[dI,aF,Option.some.injEq]at h;subst h;simp only[aG]at hl;exact⟨hl,rfl,rfl⟩
 |[],_::_,A,B,h,_,_,_=>by simp[dI,bQ]at h
 |_::_,[],A,B,h,_,_,_=>by simp[dI,bQ]at h
 | t :: ss, l :: ls, A, B, h, hZ, vs, hl => by
  simp only[dI,aA,Zbc]at h;obtain⟨C,h1,h2⟩:=h;simp only[aG]at hl;obtain⟨u,us,rfl,h3,h4⟩:=hl;obtain⟨h5,h6,h7⟩:=Oa2 hR hg aE hk h1 ((sW h2).trans hZ) h3;obtain⟨h8,h9,cL⟩:=zP hR hg aE hk h2 hZ h4;rw[h6,h7]at h8;exact⟨⟨u,us,rfl,h5,h8⟩,by rw[h9,h6];simp only[Yat];omega,by rw[cL,h7];simp only[kF];omega⟩
theorem Hah:∀ {ps:List (Bool×List LS)} {vs:List SV} {A B:Take},(fC g A ps vs).eval σ=some B->TLe A B
 | [], [], A, B, h => by
  simp only[fC,aF,Option.some.injEq]at h;subst h;exact .refl _
 |[],_::_,A,B,h=>by simp[fC,bQ]at h
 |_::_,[],A,B,h=>by simp[fC,bQ]at h
 | (ag, ss) :: ps, v :: vs, A, B, h => by
  simp only[fC,aA,Zbc]at h;obtain⟨ls,-,C,h1,h2⟩:=h;exact (sW h1).trans (Hah h2)
def sP (σ:Nat->Option aS)(ρ:List D)(G:Gh)(w:World):List SV->List Value->Prop
 |[],us=>us=[]
 |v::vs,us=>∃ u cW,us=u::cW/\cB σ ρ G w v u/\sP σ ρ G w vs cW
theorem Kag {ag:Bool}{v:SV}{ls:List aR}{u:Value}(h:kD ag v=some ls)(hv:cB σ ρ G w v u):if ag=true then u=.agg u.cells.toList.toArray else u.cells.toList=[u]:=by
 unfold kD at h;split at h
 ·cases ag with
  |true=>cases h
  | false =>
   rw[aB.cells hv];simp
 ·cases ag with
  |false=>cases h
  | true =>
   obtain⟨us,rfl,-⟩:=hv;simp[Value.cells]
 ·cases h
theorem Ea6 (hR:R E.ntmps F σ ρ a w G)(hg:gOn ρ g=true)(aE:aN cf ρ g nv Z.lets)(hk:Mah s Z):∀ {ps:List (Bool×List LS)} {vs:List SV} {A B:Take},(fC g A ps vs).eval σ=some B->TLe B Z->∀ {us:List Value},sP σ ρ G w vs us ->
  kL (callG ρ G w s Z) w (Z.xs.map (·.val ρ)) s.boxes.length A.xs.length A.rts.length ps us/\B.xs.length=A.xs.length+Mac ps/\B.rts.length=A.rts.length+jL ps
 | [], [], A, B, h, _, us, hl => by
  simp only[fC,aF,Option.some.injEq]at h;subst h;simp only[sP]at hl;exact⟨hl,rfl,rfl⟩
 |[],_::_,A,B,h,_,_,_=>by simp[fC,bQ]at h
 |_::_,[],A,B,h,_,_,_=>by simp[fC,bQ]at h
 | (ag, ss) :: ps, v :: vs, A, B, h, hZ, us, hl => by
  simp only[fC,aA,Zbc,aW]at h;obtain⟨ls,h0,C,h1,h2⟩:=h;obtain⟨u,cW,rfl,h3,h4⟩:=hl;obtain⟨h5,h6,h7⟩:=zP hR hg aE hk h1 ((Hah h2).trans hZ) (iN h0 h3);obtain⟨h8,h9,cL⟩:=Ea6 hR hg aE hk h2 hZ h4;rw[h6,h7]at h8;exact⟨⟨u,cW,_,rfl,h5,Kag h0 h3,h8⟩,by rw[h9,h6];simp only[Mac];omega,by rw[cL,h7];simp only[jL];omega⟩
end
theorem uM {wr:Bool}{ptrs:List (Nat×Nat×Nat)}:∀ {bs:List (Bool×List (BS×BO))} {b j c off:Nat} {cs:List (BS×BO)},bs[j]?=some (wr,cs)->oH (b+j) ptrs=some (c,off)->c∈iX wr ptrs b bs
 |[],b,j,c,off,cs,h,_=>by simp at h
 | (ro, ds) :: bs, b, 0, c, off, cs, h, hp => by
  simp only[Zbl,Option.some.injEq,Prod.mk.injEq]at h;rw[Zb9]at hp;simp only[iX,h.1,hp];simp
 | (ro, ds) :: bs, b, j + 1, c, off, cs, h, hp => by
  have:=uM (bs:=bs) (b:=b+1) (j:=j) (by simpa using h) (by rw[show b+1+j=b+(j+1) by omega];exact hp);simp only[iX]
  cases (ro==wr) with
  |false=>exact this
  | true =>
   simp only[cond_true];split
   ·exact Zbn _ this
   ·exact this
theorem Bav {ptrs:List (Nat×Nat×Nat)}{c:Nat}:∀ {bs:List (Bool×List (BS×BO))} {b:Nat},c∉iX false ptrs b bs->Saw ptrs c b bs=none
 |[],b,h=>rfl
 | (ro, cs) :: bs, b, h => by
  simp only[iX]at h;simp only[Saw]
  cases ro with
  |true=>simp only[if_true];exact Bav h
  | false =>
   simp only[Zbg,if_false];have e:(false==false)=true:=rfl;rw[e,cond_true]at h;split
   ·rename_i c' off hp
    rw[hp]at h;simp only[Acf,not_or]at h;rw[if_neg fun e=>h.1 e.symm];exact Bav h.2
   ·rename_i hp
    rw[hp]at h;exact Bav h
theorem rR {ptrs:List (Nat×Nat×Nat)}{c off:Nat}{cs:List (BS×BO)}:∀ {bs:List (Bool×List (BS×BO))} {b j:Nat},distinct (iX false ptrs b bs)=true->bs[j]?=some (false,cs)->oH (b+j) ptrs=some (c,off)->Saw ptrs c b bs=some (b+j)
 |[],b,j,_,h,_=>by simp at h
 | (ro, ds) :: bs, b, 0, hd, h, hp => by
  simp only[Zbl,Option.some.injEq,Prod.mk.injEq]at h;rw[Zb9]at hp;simp only[Saw,h.1,hp];simp
 | (ro, ds) :: bs, b, j + 1, hd, h, hp => by
  have pa:oH (b+1+j) ptrs=some (c,off):=by rw[show b+1+j=b+(j+1) by omega];exact hp
  have hm:=uM (wr:=false) (bs:=bs) (b:=b+1) (j:=j) (by simpa using h) pa;simp only[iX]at hd;simp only[Saw]
  cases ro with
  | true =>
   have e:(true==false)=false:=rfl;rw[e,cond_false]at hd;simp only[if_true];rw[rR hd (by simpa using h) pa,show b+1+j=b+(j+1) by omega]
  | false =>
   have e:(false==false)=true:=rfl;rw[e,cond_true]at hd;simp only[Zbg,if_false];split
   ·rename_i c' kO zw
    rw[zw]at hd;simp only[distinct,Zbd,Zb3]at hd;have cJ:c'≠c:=fun e=>by rw[<- e,<- mO,hd.1]at hm;cases hm
    rw[if_neg cJ,rR hd.2 (by simpa using h) pa,show b+1+j=b+(j+1) by omega]
   ·rename_i zw
    rw[zw]at hd;rw[rR hd (by simpa using h) pa,show b+1+j=b+(j+1) by omega]
theorem Gao {ptrs:List (Nat×Nat×Nat)}{c x:Nat}:∀ {bs:List (Bool×List (BS×BO))} {b:Nat},Saw ptrs c b bs=some x->∃ j cs off,x=b+j/\bs[j]?=some (false,cs)/\oH x ptrs=some (c,off)
 |[],b,h=>by simp[Saw]at h
 | (ro, cs) :: bs, b, h => by
  simp only[Saw]at h
  have next:Saw ptrs c (b+1) bs=some x->∃ j oS off,x=b+j/\((ro,cs)::bs)[j]?=some (false,oS)/\oH x ptrs=some (c,off):=by
   intro h;obtain⟨j,oS,off,h1,h2,h3⟩:=Gao h;exact⟨j+1,oS,off,by omega,by simpa using h2,h3⟩
  split at h
  ·exact next h
  ·rename_i sk
   split at h
   ·rename_i c' off hp
    split at h
    ·rename_i e
     subst e;obtain rfl:=Option.some.inj h;refine⟨0,cs,off,rfl,?_,hp⟩
     cases ro with
     |true=>exact absurd rfl sk
     |false=>rfl
    ·exact next h
   ·exact next h
section
variable {E:Env} {F:bH} {σ:Nat->Option aS} {ρ:List D} {a:Act} {w:World} {G:Gh} {g:Option (aL×Bool)} {cf:Nat->List D->Option (List D)} {s:Sig} {Z:Take} {nv:Nat}
theorem Sae {A B:Take}{d:Nat}{l:aR}(h:(uV A d l).eval σ=some B):B.ptrs=A.ptrs:=by
 unfold uV at h;split at h
 ·simp only[aA,aT,Zbj]at h
  split at h
  ·simp only[aA,aK,Zbc,aF,Option.some.injEq]at h
   obtain⟨_,-,rfl⟩:=h;rfl
  ·cases h
 ·simp only[aF,Option.some.injEq]at h
  subst h;rfl
 ·cases h
theorem pY {A B:Take}{t:BS}{l:aR}(h:(Bai A t l).eval σ=some B):(∃ x,t=.sc/\l=.sc x/\B={ A with xs:=A.xs++[x] })\/(∃ nie,t=.fz nie/\(rH A nie l).eval σ=some B)\/(∃ d,t=.ow d/\(uV A d l).eval σ=some B)\/(t=.ot/\Pac l=true/\B=A):=by
 cases t with
 | sc =>
  cases l<;>simp only[Bai,bQ,reduceCtorEq]at h
  simp only[aF,Option.some.injEq]at h;exact .inl ⟨_,rfl,rfl,h.symm⟩
 | fz nie =>
  have h':(rH A nie l).eval σ=some B:=by cases l<;>exact h
  exact .inr (.inl ⟨nie,rfl,h'⟩)
 | ow d =>
  have h':(uV A d l).eval σ=some B:=by cases l<;>exact h
  exact .inr (.inr (.inl ⟨d,rfl,h'⟩))
 | ot =>
  have h':(bif Pac l then RdM.ret A else .no:RdM Take).eval σ=some B:=by cases l<;>exact h
  rw[iA]at h';split at h'
  ·rename_i hb
   simp only[aF,Option.some.injEq]at h';exact .inr (.inr (.inr ⟨rfl,hb,h'.symm⟩))
  ·cases h'
theorem Sah {A B:Take}{t:BS}{l:aR}(h:(Bai A t l).eval σ=some B):TLe A B/\B.ptrs=A.ptrs:=by
 have hinv:=pY h;clear h
 rcases hinv with ⟨x,rfl,rfl,rfl⟩|⟨nie,rfl,h⟩|⟨d,rfl,h⟩|⟨rfl,-,rfl⟩
 ·exact⟨⟨⟨_,rfl⟩,fun _ h=>h,fun _ h=>h,⟨[],by simp⟩,⟨[],by simp⟩⟩,rfl⟩
 ·refine⟨Oa4 h,?_⟩
  unfold rH at h;simp only[aA,Zbc,aF,Option.some.injEq]at h;obtain⟨s,h1,rfl⟩:=h;rfl
 ·exact⟨Oa1 h,Sae h⟩
 ·exact⟨.refl _,rfl⟩
theorem Oa5 (hR:R E.ntmps F σ ρ a w G)(hg:gOn ρ g=true)(aE:aN cf ρ g nv Z.lets)(hk:Mah s Z){A B:Take}{t:BS}{l:aR}(h:(Bai A t l).eval σ=some B)(hZ:TLe B Z){v:Value}(hl:aB σ ρ G w l v) :
  xV (callG ρ G w s Z) w (Z.xs.map (·.val ρ)) A.xs.length A.rts.length t v/\B.xs.length=A.xs.length+t.cnt/\B.rts.length=A.rts.length+t.rcnt:=by
 have hinv:=pY h;clear h
 rcases hinv with ⟨x,rfl,rfl,rfl⟩|⟨nie,rfl,h⟩|⟨d,rfl,h⟩|⟨rfl,hs,rfl⟩
 ·refine⟨?_,by simp[BS.cnt],rfl⟩
  simp only[xV];rw[hZ.get (l:=A.xs) rfl];simpa[aB] using hl
 ·obtain⟨h1,h2,h3,h4⟩:=Ka0 hR hg aE hk h hZ hl
  exact⟨⟨h1,h2⟩,h3,by rw[h4];rfl⟩
 ·obtain⟨h1,h2,h3,h4⟩:=Kax hR hk h hZ hl
  exact⟨⟨h1,h2⟩,h3,h4⟩
 ·exact⟨hl.one hs,rfl,rfl⟩
theorem pX:∀ {ss:List (BS×BO)} {ls:List aR} {A B:Take},(eG A ss ls).eval σ=some B->TLe A B/\B.ptrs=A.ptrs
 | [], ls, A, B, h => by
  simp only[eG,aF,Option.some.injEq]at h;subst h;exact⟨.refl _,rfl⟩
 |_::_,[],A,B,h=>by simp[eG,bQ]at h
 | (t, o) :: ss, l :: ls, A, B, h => by
  simp only[eG,aA,Zbc]at h;obtain⟨C,h1,h2⟩:=h;obtain⟨h3,h4⟩:=Sah h1;obtain⟨h5,h6⟩:=pX h2;exact⟨h3.trans h5,h6.trans h4⟩
theorem Bag (hR:R E.ntmps F σ ρ a w G)(hg:gOn ρ g=true)(aE:aN cf ρ g nv Z.lets)(hk:Mah s Z){ad:Addr}:∀ {ss:List (BS×BO)} {ls:List aR} {A B:Take} {off:Nat},(eG A ss ls).eval σ=some B->TLe B Z ->
  (∀ j l,ls[j]?=some l->∃ v,w.cell? (ad.add (off+j))=some v/\w.frozen? (ad.add (off+j))=false/\aB σ ρ G w l v) ->
  Ga5 (callG ρ G w s Z) w (Z.xs.map (·.val ρ)) ad off A.xs.length A.rts.length ss/\B.xs.length=A.xs.length+Cb4 ss/\B.rts.length=A.rts.length+wE ss
 | [], ls, A, B, off, h, _, _ => by
  simp only[eG,aF,Option.some.injEq]at h;subst h;exact⟨trivial,rfl,rfl⟩
 |_::_,[],A,B,off,h,_,_=>by simp[eG,bQ]at h
 | (t, o) :: ss, l :: ls, A, B, off, h, hZ, hl => by
  simp only[eG,aA,Zbc]at h;obtain⟨C,h1,h2⟩:=h;obtain⟨v,h3,h4,h5⟩:=hl 0 l rfl;obtain⟨h6,h7,h8⟩:=Oa5 hR hg aE hk h1 ((pX h2).1.trans hZ) h5
  obtain⟨h9,cL,ef⟩:=Bag hR hg aE hk (off:=off+1) h2 hZ fun j l' hj=>by
   have:=hl (j+1) l' (by simpa using hj);rwa[show off+(j+1)=off+1+j by omega]at this
  rw[h7,h8]at h9;exact⟨⟨⟨v,h3,h4,h6⟩,h9⟩,by rw[cL,h7];simp only[Cb4];omega,by rw[ef,h8];simp only[wE];omega⟩
def Vbv (σ:Nat->Option aS)(ptrs:List (Nat×Nat×Nat))(b:Nat)(ro:Bool)(cs:List (BS×BO)):Prop :=
 ∃ c off lv ls,oH b ptrs=some (c,off)/\σ (kB c)=some (.box lv ls)/\off+cs.length<=ls.length/\(ro=false->lv=false/\0<cs.length)
theorem kX {ptrs:List (Nat×Nat×Nat)}:∀ {bs:List (Bool×List (BS×BO))} {b:Nat} {A B:Take},(eY ptrs A b bs).eval σ=some B->TLe A B/\B.ptrs=A.ptrs/\∀ j ro cs,bs[j]?=some (ro,cs)->Vbv σ ptrs (b+j) ro cs
 | [], b, A, B, h => by
  simp only[eY,aF,Option.some.injEq]at h;subst h;exact⟨.refl _,rfl,by simp⟩
 | (ro, cs) :: bs, b, A, B, h => by
  simp only[eY]at h;split at h
  case h_2=>cases h
  rename_i c off hp;simp only[aA,aT,Zbj]at h;split at h
  case h_2=>cases h
  rename_i lv ls nw;simp only[aA,aK,Zbc]at h;obtain⟨_,h0,C,h1,h2⟩:=h;split at h0
  case isFalse=>cases h0
  rename_i hb;simp only[Zbd,Acp,Zb3,Acr]at hb;obtain⟨h3,h4⟩:=pX h1;obtain⟨h5,h6,h7⟩:=kX h2;refine⟨h3.trans h5,h6.trans h4,fun j ro2 cs2 hj=>?_⟩
  cases j with
  | zero =>
   simp only[Zbl,Option.some.injEq,Prod.mk.injEq]at hj;obtain⟨rfl,rfl⟩:=hj;refine⟨c,off,lv,ls,hp,nw,hb.2,fun e=>?_⟩
   rcases hb.1 with h8|h8
   ·rw[e]at h8;cases h8.1
   ·refine⟨h8.1.2,?_⟩
    cases cs with
    |nil=>have:=h8.2;simp at this
    |cons=>simp
  | succ j =>
   rw[show b+(j+1)=b+1+j by omega];exact h7 j ro2 cs2 (by simpa using hj)
theorem Wad {ad:Addr}{n:Nat}(h:ad.spot=none):(ad.add n).spot=none:=by
 unfold Addr.add;split
 ·exact h
 ·rfl
theorem Ta6 {ad:Addr}{n:Nat}:(ad.add n).off=ad.off+n:=by
 unfold Addr.add;split
 ·rename_i h;rw[h];rfl
 ·rfl
theorem Baj (hR:R E.ntmps F σ ρ a w G)(hg:gOn ρ g=true)(aE:aN cf ρ g nv Z.lets)(hk:Mah s Z):∀ {bs:List (Bool×List (BS×BO))} {b:Nat} {A B:Take},(∀ j x,bs[j]?=some x->s.boxes[b+j]?=some x)->(eY Z.ptrs A b bs).eval σ=some B->TLe B Z ->
  Ga6 (callG ρ G w s Z) w (Z.xs.map (·.val ρ)) b A.xs.length A.rts.length bs/\B.xs.length=A.xs.length+Cb5 bs
 | [], b, A, B, _, h, _ => by
  simp only[eY,aF,Option.some.injEq]at h;subst h;exact⟨trivial,rfl⟩
 | (ro, cs) :: bs, b, A, B, zo, h, hZ => by
  simp only[eY]at h;split at h
  case h_2=>cases h
  rename_i c off hp;simp only[aA,aT,Zbj]at h;split at h
  case h_2=>cases h
  rename_i lv ls nw;simp only[aA,aK,Zbc]at h;obtain⟨_,h0,C,h1,h2⟩:=h;split at h0
  case isFalse=>cases h0
  rename_i hb;simp only[Zbd,Acp,Zb3,Acr]at hb;have hCZ:=(kX h2).1.trans hZ;obtain⟨h3,h4,h5⟩:=hR.box nw;have gi:(callG ρ G w s Z).bx b=(G.bx c).add off:=by simp only[callG,hp]
  have xy:=zo 0 _ rfl;rw[Zb9]at xy;have pa:oH (0+b) Z.ptrs=some (c,off):=by rw[Aca];exact hp
  obtain⟨h6,h7,h8⟩:=Bag hR hg aE hk (ad:=(G.bx c).add off) (off:=0) h1 hCZ fun j l hj=>by
   rw[Acg]at hj;obtain⟨v,h9,cL,ef⟩:=h5 _ l hj;exact⟨v,by rw[add_add,Aca];exact h9,by rw[add_add,Aca];exact cL,ef⟩
  obtain⟨h9,cL⟩:=Baj hR hg aE hk (b:=b+1) (fun j x hj=>by
   rw[show b+1+j=b+(j+1) by omega];exact zo (j+1) x (by simpa using hj)) h2 hZ
  rw[h7,h8]at h9;refine⟨⟨by rw[gi];exact Wad h3,?_,by rw[gi];exact h6,h9⟩,by rw[cL,h7];simp only[Cb5];omega⟩;rw[gi,add_block]
  cases ro with
  | true =>
   simp only[if_true];have hm:=uM (wr:=true) xy pa
   cases lv with
   |true=>simp only[callG,h4,if_true]
   | false =>
    simp only[Zbg,if_false]at h4;simp only[callG,h4];rw[Bav fun oA=>oK hk.ro oA hm]
  | false =>
   simp only[Zbg,if_false]
   rcases hb.1 with ef|ef
   ·cases ef.1
   ·have sk:lv=false:=ef.1.2
    subst sk;simp only[Zbg,if_false]at h4;simp only[callG,h4];rw[rR hk.wr xy pa];simp
theorem Hbj (hR:R E.ntmps F σ ρ a w G)(hg:gOn ρ g=true)(aE:aN cf ρ g nv Z.lets)(hk:Mah s Z){T:Take}{vs:List SV}(h1:(fC g Take.empty s.params vs).eval σ=some T)(h2:(eY T.ptrs T 0 s.boxes).eval σ=some Z)
  {us:List Value} (hu:sP σ ρ G w vs us):Cb2 s us w (callG ρ G w s Z) (Z.xs.map (·.val ρ)):=by
 obtain⟨h3,h4,h5⟩:=kX h2;obtain⟨h6,h7,h8⟩:=Ea6 hR hg aE hk h1 h3 hu;rw[<- h4]at h2;obtain⟨h9,cL⟩:=Baj hR hg aE hk (by simp) h2 (.refl _);have e1:Take.empty.xs.length=0:=rfl;have e2:Take.empty.rts.length=0:=rfl;rw[e1,e2]at h6;rw[e1,Aca]at h7;rw[e2,Aca]at h8;rw[h7,h8]at h9;refine⟨h6,h9,by rw[Zbt,cL,h7],fun b hb=>pJ (hR.frame.fresh b hb),fun b j hb hj=>?_⟩
 cases e:G.own b with
 | slc r p =>
  exfalso;simp only[callG,e]at hj
  have:∀ (rts:List RT) (ν:Nat),mK ρ (Z.deps.map (·.1)) ν rts r p≠.box j:=by
   intro rts
   induction rts with
   |nil=>intro ν h;simp only[mK]at h;split at h<;>cases h
   | cons x t ih =>
    intro ν h
    cases x with
    |nil=>exact ih _ h
    | own s d =>
     simp only[mK]at h;split at h
     ·split at h<;>cases h
     ·exact ih _ h
    | mu s d q X =>
     simp only[mK]at h;split at h
     ·split at h
      ·split at h<;>cases h
      ·cases h
     ·exact ih _ h
  exact this _ _ hj
 | box c =>
  simp only[callG,e]at hj;split at hj
  case h_2=>cases hj
  rename_i x hx;split at hj
  case isFalse=>cases hj
  rename_i qa
  injection hj with hj
  subst hj;obtain⟨j,cs,off,e1,e2,e3⟩:=Gao hx;rw[Aca]at e1;subst e1;refine⟨(List.getElem?_eq_some_iff.1 e2).1,?_⟩;rw[h4]at e3;have:=h5 x _ _ e2;rw[Aca]at this;obtain⟨c',kO,lv,ls,ef,fW,jd,k7⟩:=this;rw[e3]at ef;obtain⟨rfl,rfl⟩:c=c'/\off=kO:=by simpa using ef
  obtain⟨-,-,mA⟩:=hR.box fW;have hlt:0<ls.length:=by have:=(k7 rfl).2;omega
  obtain⟨v,nf,-,-⟩:=mA 0 _ (Zbf hlt);rw[qa];unfold World.cell? at nf;rw[add_block]at nf
  cases hh:w.heap[(G.bx c).block]? with
  |none=>rw[hh]at nf;cases nf
  | some ic =>
   rw[hh]at nf
   cases ic with
   |cells c0 e fr=>exact⟨c0,e,fr,rfl⟩
   |_=>simp at nf
 |frz=>rw[pJ e]at hj;cases hj
 |oth=>simp only[callG,e]at hj;cases hj
end
def Nav:Ow->Bool
 |.slc _ _=>true
 |_=>false
def nG (r:Nat):List RT->Option RT
 |[]=>none
 |.nil::t=>nG r t
 |.own s d::t=>if r=s then some (.own s d) else nG r t
 |.mu s d q X::t=>if r=s then some (.mu s d q X) else nG r t
def Aas (ρ:List D)(rts:List RT):Ow->Ow
 | .slc r p => match nG r rts with
  |some (.own _ _)=>.frz
  | some (.mu _ d q _) => match strip (bD ρ q) p with
   |some t=>if t.length<d then .slc r p else .frz
   |none=>.slc r p
  |_=>.slc r p
 |o=>o
def uO (gd:Bool)(ρ:List D)(nr nb nbx:Nat)(mus:List RT):Ow->Ow
 | .slc t p => if t % 2 = 0 then (if gd = true then .frz else if t / 2 < bW then .slc (nr + t / 2) p else .oth) else (match mus[t / 2]? with
  |some (.mu r _ q _)=>.slc r (bD ρ q++p)
  |_=>.oth)
 |.box β=>if β=nbx then .box nb else .oth
 |o=>o
def fF (gd:Bool)(ρ:List D)(G:Gh)(w:World)(s:Sig)(Z:Take)(nr nb:Nat)(own':Nat->Ow)(hs:List Value)(adn:Addr):Gh:={
 own:=fun b=>if b<w.heap.size/\Nav ((callG ρ G w s Z).own b)=false then Aas ρ Z.rts (G.own b) else uO gd ρ nr nb s.boxes.length (Z.rts.filter wT) (own' b)
 hdr:=fun r=>if nr<=r/\r<nr+bW then hs.getD (r-nr) undef else G.hdr r
 bx:=fun b=>if b=nb then adn else G.bx b }
theorem tQ {r:Nat}:∀ {rts:List RT},r∉cK rts->nG r rts=none
 |[],_=>rfl
 |.nil::t,h=>tQ (rts:=t) h
 | .own s d :: t, h => by
  simp only[cK,Acf,not_or]at h;simp only[nG,if_neg h.1];exact tQ h.2
 | .mu s d q X :: t, h => by
  simp only[cK,Acf,not_or]at h;simp only[nG,if_neg h.1];exact tQ h.2
theorem tO {r:Nat}:∀ {rts:List RT},r∈cK rts->∃ (ν:Nat) (x:RT),rts[ν]?=some x/\nG r rts=some x/\((∃ d,x=.own r d)\/∃ d q X,x=.mu r d q X)
 |[],h=>by simp[cK]at h
 | .nil :: t, h => by
  obtain⟨ν,x,h1,h2⟩:=tO (rts:=t) h;exact⟨ν+1,x,by simpa using h1,h2⟩
 | .own s d :: t, h => by
  by_cases e:r=s
  ·subst e
   exact⟨0,_,rfl,by simp[nG],.inl ⟨d,rfl⟩⟩
  ·simp only[cK,Acf,e,false_or]at h
   obtain⟨ν,x,h1,h2⟩:=tO h;exact⟨ν+1,x,by simpa using h1,by simp only[nG,if_neg e];exact h2⟩
 | .mu s d q X :: t, h => by
  by_cases e:r=s
  ·subst e
   exact⟨0,_,rfl,by simp[nG],.inr ⟨d,q,X,rfl⟩⟩
  ·simp only[cK,Acf,e,false_or]at h
   obtain⟨ν,x,h1,h2⟩:=tO h;exact⟨ν+1,x,by simpa using h1,by simp only[nG,if_neg e];exact h2⟩
theorem Ba0 {r d:Nat}{q:List (aL×Nat×Nat)}{X:aL}:∀ {rts:List RT} {ν:Nat},distinct (cK rts)=true->rts[ν]?=some (.mu r d q X)->nG r rts=some (.mu r d q X)
 |[],ν,_,h=>by simp at h
 | x :: t, 0, hd, h => by
  simp only[Zbl,Option.some.injEq]at h;subst h;simp[nG]
 | x :: t, ν + 1, hd, h => by
  simp only[Acl]at h;have hm:=tN (.inr ⟨d,q,X,h⟩)
  cases x with
  |nil=>exact Ba0 (rts:=t) hd h
  | own s d' =>
   simp only[cK,distinct,Zbd,Zb3]at hd;have cJ:r≠s:=fun e=>by rw[e,<- mO,hd.1]at hm;cases hm
   simp only[nG,if_neg cJ];exact Ba0 hd.2 h
  | mu s d' q' X' =>
   simp only[cK,distinct,Zbd,Zb3]at hd;have cJ:r≠s:=fun e=>by rw[e,<- mO,hd.1]at hm;cases hm
   simp only[nG,if_neg cJ];exact Ba0 hd.2 h
theorem Gap {ρ:List D}{dr:List Nat}{r:Nat}{p:List Nat}:∀ (rts:List RT) (ν:Nat),(∃ ν' t,mK ρ dr ν rts r p=.slc ν' t)\/mK ρ dr ν rts r p=.frz\/mK ρ dr ν rts r p=.oth
 | [], ν => by
  simp only[mK];split
  ·exact .inr (.inl rfl)
  ·exact .inr (.inr rfl)
 |.nil::t,ν=>Gap t (ν+1)
 | .own s d :: t, ν => by
  simp only[mK];split
  ·split
   ·exact .inl ⟨_,_,rfl⟩
   ·exact .inr (.inl rfl)
  ·exact Gap t (ν+1)
 | .mu s d q X :: t, ν => by
  simp only[mK];split
  ·split
   ·split
    ·exact .inl ⟨_,_,rfl⟩
    ·exact .inr (.inl rfl)
   ·exact .inr (.inr rfl)
  ·exact Gap t (ν+1)
theorem Rp.remap {own own':Nat->Ow}{w:World}{r r':Nat}{q q':List Nat}{p:List Nat}{m:Nat}{v:Value}{d:D}(h:Rp own w r p m v d)
  (hs:∀ b t,own b=.slc r (q++t)->own' b=.slc r' (q'++t)):∀ s,p=q++s->((∀ b,own b=.frz->b<w.heap.size->own' b=.frz)\/oZ m d=true)->Rp own' w r' (q'++s) m v d:=by
 induction h with
 |sc h=>exact fun _ _ _=>.sc h
 |hole v h1=>exact fun _ _ _=>.hole v h1
 | fz h =>
  intro s _ hz
  rcases hz with hz|hz
  ·exact .fz (h.mono' fun b hb hlt=>⟨hz b hb hlt,rfl⟩)
  ·cases h with
   |sc h=>exact .sc h
   |hole _ h1=>exact .hole _ h1
   |rows=>simp[oZ,D.isSc]at hz
 | sl A a n c sz rs vs hn hc hA dw a7 bd cq ih =>
  rename_i p m;intro s hp hz;refine .sl A a n c sz rs vs hn hc hA dw (fun e=>?_) bd (fun i row hi j d hj=>?_)
  ·obtain⟨h1,h2,h3⟩:=a7 e
   rw[hp]at h2;exact⟨h1,hs _ _ h2,h3⟩
  ·have:=ih i row hi j d hj (s++[i*sz+j]) (by rw[hp,Zbm]) (hz.imp id fun hz=>by
    simp only[oZ,Zb6]at hz;exact hz row (Zbv hi) d (Zbv hj))
   rwa[<- Zbm]at this
theorem Rp.updM {own own':Nat->Ow}{w w':World}{r M:Nat}{full:List Nat}{y:D}{u:Value}
  (hz:∀ b,own b=.frz->b<w.heap.size->own' b=.frz/\w'.heap[b]?=w.heap[b]?)
  (hs:∀ b t,own b=.slc r t->¬ full <+: t->own' b=.slc r t/\w'.heap[b]?=w.heap[b]?)
  (hM:full.length<=M) (gw:Rp own' w' r full (M-full.length) u y) :
  ∀ (p q:List Nat) (v:Value) (x x':D),full=q++p->Rp own w r q (M-q.length) v x->zN own w r q v p u->Upd p x y x'->Rp own' w' r q (M-q.length) v x'
 | [], q, v, x, x', hf, hx, hn, hu => by
  cases hu;simp only[zN]at hn;rw[Zb4]at hf;subst hf hn;exact gw
 | k :: p, q, v, x, x', hf, hx, hn, hu => by
  generalize hk:k::p=kp at hu
  cases hu with
  |here=>cases hk
  | down sz rs i j row z z' y p' hi hj hu =>
   obtain⟨rfl,rfl⟩:=List.cons.inj hk;have hlen:full.length=q.length+(p.length+1):=by rw[hf];simp
   obtain⟨m,hm⟩:∃ m,M-q.length=m+1:=⟨M-q.length-1,by omega⟩;rw[hm]at hx;rw[hm];obtain⟨A,a,n,c,vs,rfl,h1,h2,h3,h4,h5,h6,h7⟩:=hx.sl_inv;have lO:i<rs.length:=(List.getElem?_eq_some_iff.1 hi).1
   have hA:A=some a:=by
    rcases h3 with e|⟨e,e'⟩
    ·exact e
    ·omega
   subst hA;obtain⟨h8,h9,cL⟩:=h5 rfl;obtain⟨a',n',c',u',e1,e2,e3,e4⟩:=hn;obtain⟨rfl,rfl,rfl⟩:a=a'/\n=n'/\c=c':=by injection e1 with a b c;exact⟨Option.some.inj a,b,c⟩
   have ij:=h6 i row hi j z hj;rw[ij]at e3;obtain rfl:=Option.some.inj e3
   have hq:¬ full <+: q:=by
    intro e;have:=e.length_le;omega
   obtain⟨fN,cA⟩:=hs _ _ h9 hq;have fR:∀ k,w'.cell? (a.add k)=w.cell? (a.add k):=fun k=>fA (w:=w) (w':=w') (by rw[add_block];exact cA)
   have qe:∀ k,w'.frozen? (a.add k)=w.frozen? (a.add k):=fun k=>kS (w:=w) (w':=w') (by rw[add_block];exact cA)
   have cq:=Rp.updM hz hs hM gw p (q++[i*sz+j]) (vs i j) z z' (by rw[hf];simp) (by
    have:=h7 i row hi j z hj;rwa[show M-(q++[i*sz+j]).length=m by simp;omega]) e4 hu
   rw[show M-(q++[i*sz+j]).length=m by simp;omega]at cq;have kq:row.length=sz:=h4 row (Zbv hi);have hlt:j<sz:=by rw[<- kq];exact (List.getElem?_eq_some_iff.1 hj).1
   have np:∀ i' fa,(rs.set i (row.set j z'))[i']?=some fa->∀ j' d,fa[j']?=some d->(i'=i/\j'=j/\d=z')\/(∃ row0,rs[i']?=some row0/\row0[j']?=some d/\¬ (i'=i/\j'=j)):=by
    intro i' fa eS j' d il;rw[Bci]at eS;by_cases qp:i=i'
    ·subst qp
     rw[if_pos rfl,if_pos lO]at eS;obtain rfl:=Option.some.inj eS;rw[Bci]at il;by_cases wu:j=j'
     ·subst wu
      rw[if_pos rfl,if_pos (by omega)]at il;exact .inl ⟨rfl,rfl,(Option.some.inj il).symm⟩
     ·rw[if_neg wu]at il
      exact .inr ⟨row,hi,il,fun e=>wu e.2.symm⟩
    ·rw[if_neg qp]at eS
     exact .inr ⟨fa,eS,il,fun e=>qp e.1.symm⟩
   refine .sl _ a n c sz _ vs (by simpa using h1) h2 (.inl rfl) (fun fa hr=>?_) (fun _=>⟨h8,fN,fun k hk=>?_⟩) (fun i' fa eS j' d il=>?_) (fun i' fa eS j' d il=>?_)
   ·rcases List.mem_or_eq_of_mem_set hr with hr|rfl
    ·exact h4 _ hr
    ·simpa using kq
   ·rw[fR,qe]
    exact cL k hk
   ·rw[fR]
    rcases np i' fa eS j' d il with ⟨rfl,rfl,rfl⟩|⟨row0,ef,fW,-⟩
    ·exact ij
    ·exact h6 _ _ ef _ _ fW
   ·rcases np i' fa eS j' d il with ⟨rfl,rfl,rfl⟩|⟨row0,ef,fW,cJ⟩
    ·exact cq
    ·have:=(h7 _ _ ef _ _ fW).mono' (own':=own') (w':=w') (r':=r) (q:=q++[i'*sz+j']) (q':=q++[i'*sz+j']) hz [] (by simp) fun b t hb=>by
      have hnp:¬ full <+: q++[i'*sz+j']++t:=by
       intro e;rw[hf,Zbm,List.prefix_append_right_inj]at e;have e':=(List.cons_prefix_cons.1 e).1
       have vw:j'<sz:=by
        have:=(List.getElem?_eq_some_iff.1 fW).1;rw[h4 row0 (Zbv ef)]at this;exact this
       obtain⟨mA,nf⟩:=Ibh vw hlt e'.symm;exact cJ ⟨mA,nf⟩
      exact hs b _ hb hnp
     simpa using this
theorem Rp.deeper {own:Nat->Ow}{w:World}{r:Nat}{p:List Nat}{m:Nat}{v:Value}{d:D}(h:Rp own w r p m v d):∀ {m':Nat},m<=m'->oZ m d=true->Rp own w r p m' v d:=by
 induction h with
 |sc h=>exact fun _ _=>.sc h
 |hole v h1=>exact fun _ _=>.hole v h1
 | fz h =>
  intro m' _ hz
  cases h with
  |sc h=>exact .sc h
  |hole _ h1=>exact .hole _ h1
  |rows=>simp[oZ,D.isSc]at hz
 | sl A a n c sz rs vs hn hc hA dw a7 bd cq ih =>
  rename_i p m;intro m' hm hz;obtain⟨k,rfl⟩:∃ k,m'=k+1:=⟨m'-1,by omega⟩;refine .sl A a n c sz rs vs hn hc hA dw a7 bd (fun i row hi j d hj=>ih i row hi j d hj (by omega) ?_);simp only[oZ,Zb6]at hz;exact hz row (Zbv hi) d (Zbv hj)
section
variable {E:Env} {F:bH} {σ:Nat->Option aS} {ρ:List D} {a:Act} {w w':World} {G G':Gh} {s:Sig} {Z:Take} {gd:Bool} {nr nb:Nat} {hs:List Value} {adn:Addr}
structure Ra4 (E:Env) (F:bH) (σ:Nat->Option aS) (ρ:List D) (a:Act) (w:World) (G:Gh) (s:Sig) (Z:Take) (G':Gh) (w':World):Prop where
 hR:R E.ntmps F σ ρ a w G
 hk:Mah s Z
 hF:mP (pK s (callG ρ G w s Z) w) G' w'
 bx:∀ j ro cs,s.boxes[j]?=some (ro,cs)->Vbv σ Z.ptrs j ro cs
 deps:∀ z∈Z.deps,Nal σ z.1 z.2
 mus:∀ (ν r d:Nat) (q:List (aL×Nat×Nat)) (X:aL),Z.rts[ν]?=some (RT.mu r d q X)->∃ m bc u,σ (kR r)=some (.root X m bc .live)/\q.length+d<=m/\zN G.own w r [] (G.hdr r) (bD ρ q) u
 owns:∀ (ν r d:Nat),Z.rts[ν]?=some (RT.own r d)->∃ x m bc,σ (kR r)=some (.root x m bc .live)
variable (B:Ra4 E F σ ρ a w G s Z G' w')
include B
theorem Ra4.keep {b:Nat}(hb:b<w.heap.size)(h:(callG ρ G w s Z).own b=.frz\/(callG ρ G w s Z).own b=.oth):w'.heap[b]?=w.heap[b]?/\G'.own b=(callG ρ G w s Z).own b:=B.hF.keep b hb h
theorem Ra4.lt {b r:Nat}{p:List Nat}(h:G.own b=.slc r p):b<w.heap.size:=by
 rcases Zbz b w.heap.size with h1|h1
 ·exact h1
 ·rw[B.hR.frame.fresh b h1]at h;cases h
theorem Ra4.own_eq {b:Nat}(hb:b<w.heap.size)(h:Nav ((callG ρ G w s Z).own b)=false):(fF gd ρ G w s Z nr nb G'.own hs adn).own b=Aas ρ Z.rts (G.own b):=by
 simp only[fF];rw[if_pos ⟨hb,h⟩]
theorem Ra4.frz {b:Nat}(h:G.own b=.frz)(hb:b<w.heap.size):(fF gd ρ G w s Z nr nb G'.own hs adn).own b=.frz/\w'.heap[b]?=w.heap[b]?:=by
 have h1:(callG ρ G w s Z).own b=.frz:=pJ h;refine⟨?_,(B.keep hb (.inl h1)).1⟩;rw[B.own_eq hb (by rw[h1];rfl),h];rfl
theorem Ra4.other {b r:Nat}{p:List Nat}(hr:r∉cK Z.rts)(h:G.own b=.slc r p):(fF gd ρ G w s Z nr nb G'.own hs adn).own b=.slc r p/\w'.heap[b]?=w.heap[b]?:=by
 have hb:=B.lt h
 have h1:(callG ρ G w s Z).own b=if r∈Z.deps.map (·.1) then .frz else .oth:=by
  simp only[callG,h];exact rU hr
 have h2:(callG ρ G w s Z).own b=.frz\/(callG ρ G w s Z).own b=.oth:=by
  rw[h1];split
  ·exact .inl rfl
  ·exact .inr rfl
 refine⟨?_,(B.keep hb h2).1⟩;rw[B.own_eq hb (by rcases h2 with e|e<;>rw[e]<;>rfl),h];simp only[Aas,tQ hr]
theorem Ra4.oth {b:Nat}(h:G.own b=.oth)(hb:b<w.heap.size):(fF gd ρ G w s Z nr nb G'.own hs adn).own b=.oth/\w'.heap[b]?=w.heap[b]?:=by
 have h1:(callG ρ G w s Z).own b=.oth:=by simp only[callG,h]
 refine⟨?_,(B.keep hb (.inr h1)).1⟩;rw[B.own_eq hb (by rw[h1];rfl),h];rfl
theorem Ra4.boxes {b c:Nat}(h:G.own b=.box c)(hb:b<w.heap.size):(fF gd ρ G w s Z nr nb G'.own hs adn).own b=.box c /\
  (w'.heap[b]?=w.heap[b]?\/∃ j cs off ls c0 c1 e fr,s.boxes[j]?=some (false,cs)/\oH j Z.ptrs=some (c,off)/\b=(G.bx c).block/\σ (kB c)=some (.box false ls)/\off+cs.length<=ls.length /\
   w.heap[b]?=some (.cells c0 e fr)/\w'.heap[b]?=some (.cells c1 e fr)/\c1.size=c0.size/\∀ k,k<(G.bx c).off+off\/(G.bx c).off+off+cs.length<=k->c1[k]?=c0[k]?):=by
 have key:((callG ρ G w s Z).own b=.oth)\/∃ j,Saw Z.ptrs c 0 s.boxes=some j/\b=(G.bx c).block/\(callG ρ G w s Z).own b=.box j:=by
  simp only[callG,h];split
  ·rename_i j hj
   split
   ·rename_i qa
    exact .inr ⟨j,hj,qa,rfl⟩
   ·exact .inl rfl
  ·exact .inl rfl
 rcases key with h1|⟨j,hj,qa,h1⟩
 ·refine⟨?_,.inl (B.keep hb (.inr h1)).1⟩
  rw[B.own_eq hb (by rw[h1];rfl),h];rfl
 ·refine⟨by rw[B.own_eq hb (by rw[h1];rfl),h];rfl,.inr ?_⟩
  obtain⟨j',cs,off,e1,e2,e3⟩:=Gao hj;rw[Aca]at e1;subst e1;obtain⟨c',kO,lv,ls,h2,h3,h4,h5⟩:=B.bx j false cs e2;rw[e3]at h2;obtain⟨rfl,rfl⟩:c=c'/\off=kO:=by simpa using h2
  obtain rfl:=(h5 rfl).1;obtain⟨-,c0,c1,e,fr,h6,h7,h8,h9⟩:=B.hF.boxes b j hb h1;refine⟨j,cs,off,ls,c0,c1,e,fr,e2,e3,qa,h3,h4,h6,h7,h8,fun k hk=>h9 k ?_⟩
  have e4:(pK s (callG ρ G w s Z) w).rng j=((G.bx c).off+off,(G.bx c).off+off+cs.length):=by
   simp only[pK,callG,e3,Ta6,Zbk,e2,Bcd]
  rw[e4];exact hk
theorem Ra4.allow {b:Nat}(h:G'.own b=.frz):allow (fF gd ρ G w s Z nr nb G'.own hs adn) Z.deps b:=by
 by_cases hb:b<w.heap.size
 ·cases hL:Nav ((callG ρ G w s Z).own b) with
  | true =>
   refine .inl ?_;simp only[fF];rw[if_neg (by rw[hL];simp),h];rfl
  | false =>
   have a7:=B.own_eq (gd:=gd) (nr:=nr) (nb:=nb) (hs:=hs) (adn:=adn) hb hL
   cases hg:G.own b with
   |frz=>exact .inl (B.frz hg hb).1
   | oth =>
    have h1:(callG ρ G w s Z).own b=.oth:=by simp only[callG,hg]
    have:=(B.keep hb (.inr h1)).2;rw[h,h1]at this;cases this
   | box c =>
    have qa:=(B.boxes (gd:=gd) (nr:=nr) (nb:=nb) (hs:=hs) (adn:=adn) hg hb);exfalso
    have key:((callG ρ G w s Z).own b=.oth)\/∃ j,(callG ρ G w s Z).own b=.box j:=by
     simp only[callG,hg];split
     ·split
      ·exact .inr ⟨_,rfl⟩
      ·exact .inl rfl
     ·exact .inl rfl
    rcases key with h1|⟨j,h1⟩
    ·have:=(B.keep hb (.inr h1)).2
     rw[h,h1]at this;cases this
    ·have:=(B.hF.boxes b j hb h1).1
     rw[h]at this;cases this
   | slc r p =>
    by_cases hr:r∈cK Z.rts
    ·refine .inl ?_
     rw[a7,hg];obtain⟨ν,x,h1,h2,h3⟩:=tO hr;simp only[Aas,h2]
     rcases h3 with ⟨d,rfl⟩|⟨d,q,X,rfl⟩
     ·rfl
     ·have h4:=Oac (ρ:=ρ) (G:=G) (w:=w) B.hk h1 hg
      dsimp only;rw[h4]at hL
      cases aE:strip (bD ρ q) p with
      | some t' =>
       rw[aE]at hL;dsimp only at hL ⊢;split at hL
       ·cases hL
       ·rename_i hle
        rw[if_neg hle]
      | none =>
       have h5:(callG ρ G w s Z).own b=.oth:=by rw[h4,aE]
       have:=(B.keep hb (.inr h5)).2;rw[h,h5]at this;cases this
    ·have h1:(callG ρ G w s Z).own b=if r∈Z.deps.map (·.1) then .frz else .oth:=by
      simp only[callG,hg];exact rU hr
     by_cases hd:r∈Z.deps.map (·.1)
     ·obtain⟨z,hz,e⟩:=List.mem_map.1 hd
      refine .inr ⟨r,z.2,p,by rw[<- e];exact hz,(B.other hr hg).1⟩
     ·rw[if_neg hd]at h1
      have:=(B.keep hb (.inr h1)).2;rw[h,h1]at this;cases this
 ·refine .inl ?_
  simp only[fF];rw[if_neg (by simp[hb]),h];rfl
theorem Ra4.rd {v:Value}{d:D}(h:Rd (fun b=>G'.own b=.frz) w' v d):Rd (Go.Proofs.YtcbkmmhkccnamaaGreat.Rf.allow (fF gd ρ G w s Z nr nb G'.own hs adn) Z.deps) w' v d :=
 h.mono fun b hb=>⟨B.allow hb,rfl⟩
theorem Ra4.slc {b t:Nat}{p:List Nat}(h:G'.own b=.slc t p):(fF gd ρ G w s Z nr nb G'.own hs adn).own b=uO gd ρ nr nb s.boxes.length (Z.rts.filter wT) (.slc t p):=by
 simp only[fF];rw[if_neg,h]
 rintro⟨hb,hL⟩
 cases hg:(callG ρ G w s Z).own b with
 |frz=>have:=(B.keep hb (.inl hg)).2;rw[h,hg]at this;cases this
 |oth=>have:=(B.keep hb (.inr hg)).2;rw[h,hg]at this;cases this
 |slc _ _=>rw[hg]at hL;cases hL
 |box j=>have:=(B.hF.boxes b j hb hg).1;rw[h]at this;cases this
theorem Ra4.give {q m:Nat}{v:Value}{d:D}(h:Rp G'.own w' (2*q) [] m v d)(fv:Z.deps=[]\/oZ m d=true)(gb:gd=false)(hq:q<bW):Rp (fF gd ρ G w s Z nr nb G'.own hs adn).own w' (nr+q) [] m v d:=by
 have:=h.remap (own':=(fF gd ρ G w s Z nr nb G'.own hs adn).own) (r':=nr+q) (q:=[]) (q':=[]) (fun b t hb=>by
  rw[B.slc hb,gb];simp only[uO,Aco]
  rw[if_pos (by omega),if_neg (by simp),show 2*q / 2=q by omega,if_pos hq]) [] rfl (fv.imp (fun e b hb _=>by
   rcases B.allow (gd:=gd) (nr:=nr) (nb:=nb) (hs:=hs) (adn:=adn) hb with h1|⟨r,k,p,h1,-⟩
   ·exact h1
   ·rw[e]at h1;simp at h1) id)
 simpa using this
theorem Ra4.giveGd {q m:Nat}{v:Value}{d:D}(h:Rp G'.own w' (2*q) [] m v d)(gb:gd=true):Rd (Go.Proofs.YtcbkmmhkccnamaaGreat.Rf.allow (fF gd ρ G w s Z nr nb G'.own hs adn) Z.deps) w' v d:=by
 refine h.rd.mono fun b hb=>⟨?_,rfl⟩
 rcases hb with hb|⟨p,hb⟩
 ·exact B.allow hb
 ·refine .inl ?_
  rw[B.slc hb,gb];simp only[uO];rw[if_pos (by omega),if_pos trivial]
theorem Ra4.mu {ν j r d m bc:Nat}{q:List (aL×Nat×Nat)}{X y X' X0:aL}(hm:σ (kR r)=some (.root X0 m bc .live))(hdm:q.length+d=m\/oZ d (y.val ρ)=true)(uq:Z.rts[ν]?=some (.mu r d q X))(hj:(Z.rts.filter wT)[j]?=some (.mu r d q X)){u:Value}(hu:∀ u',zN G.own w r [] (G.hdr r) (bD ρ q) u'->u=u')
  (h:Rp G'.own w' (2*j+1) [] d u (y.val ρ)) (fv:Z.deps=[]\/oZ d (y.val ρ)=true) (oh:Upd (bD ρ q) (X.val ρ) (y.val ρ) (X'.val ρ)) :
  Rp (fF gd ρ G w s Z nr nb G'.own hs adn).own w' r [] m (G.hdr r) (X'.val ρ):=by
 obtain⟨m',vj,u',hσ,hle,hn⟩:=B.mus ν r d q X uq;rw[hm]at hσ
 obtain⟨rfl,rfl,rfl⟩:X0=X/\m=m'/\bc=vj:=by
  have:=Option.some.inj hσ
  injection this with e1 e2 e3
  exact⟨e1,e2,e3⟩
 obtain rfl:=hu u' hn;have hlen:(bD ρ q).length=q.length:=by simp[bD]
 have gw:Rp (fF gd ρ G w s Z nr nb G'.own hs adn).own w' r (bD ρ q) d u (y.val ρ):=by
  have:=h.remap (own':=(fF gd ρ G w s Z nr nb G'.own hs adn).own) (r':=r) (q:=[]) (q':=bD ρ q) (fun b t hb=>by
   rw[B.slc hb];simp only[uO,Aco]
   rw[if_neg (by omega),show (2*j+1) / 2=j by omega,hj]) [] rfl (fv.imp (fun e b hb _=>by
    rcases B.allow (gd:=gd) (nr:=nr) (nb:=nb) (hs:=hs) (adn:=adn) hb with h1|⟨r,k,p,h1,-⟩
    ·exact h1
    ·rw[e]at h1;simp at h1) id)
  simpa using this
 have a2a:Rp (fF gd ρ G w s Z nr nb G'.own hs adn).own w' r (bD ρ q) (m-(bD ρ q).length) u (y.val ρ):=by
  rcases hdm with e|e
  ·rwa[hlen,show m-q.length=d by omega]
  ·exact gw.deeper (by omega) e
 have eW:=B.hR.root hm;simp only[bS]at eW
 have:=Rp.updM (own:=G.own) (own':=(fF gd ρ G w s Z nr nb G'.own hs adn).own) (w:=w) (w':=w') (r:=r) (M:=m) (full:=bD ρ q) (y:=y.val ρ) (u:=u)
  (fun b hb hlt=>B.frz hb hlt) (fun b t hb hnp=>?_) (by omega) a2a (bD ρ q) [] (G.hdr r) (X0.val ρ) (X'.val ρ) (by simp) (by simpa using eW) hn oh
 ·simpa using this
 ·have hlt:=B.lt hb
  have h1:=Oac (ρ:=ρ) (G:=G) (w:=w) B.hk uq hb
  have aE:strip (bD ρ q) t=none:=by
   cases e:strip (bD ρ q) t with
   |none=>rfl
   |some t'=>exact absurd ⟨t',(Ka3 e).symm⟩ hnp
  rw[aE]at h1;refine⟨?_,(B.keep hlt (.inr h1)).1⟩;rw[B.own_eq hlt (by rw[h1];rfl),hb];simp only[Aas,Ba0 B.hk.dist uq,aE]
theorem Ra4.frame:mP F (fF gd ρ G w s Z nr nb G'.own hs adn) w':=by
 have dw:w.heap.size<=w'.heap.size:=B.hF.size;refine⟨B.hF.os.trans B.hR.frame.os,B.hF.tape.trans B.hR.frame.tape,B.hF.output.trans B.hR.frame.output,Nat.le_trans B.hR.frame.size dw,fun b hb ho=>?_,fun b j hb ho=>?_,fun b hb=>?_⟩
 ·obtain⟨h1,h2⟩:=B.hR.frame.keep b hb ho
  have hlt:b<w.heap.size:=Nat.lt_of_lt_of_le hb B.hR.frame.size
  rcases ho with ho|ho
  ·rw[ho]at h2 ⊢
   obtain⟨h3,h4⟩:=B.frz (gd:=gd) (nr:=nr) (nb:=nb) (hs:=hs) (adn:=adn) h2 hlt;exact⟨h4.trans h1,h3⟩
  ·rw[ho]at h2 ⊢
   obtain⟨h3,h4⟩:=B.oth (gd:=gd) (nr:=nr) (nb:=nb) (hs:=hs) (adn:=adn) h2 hlt;exact⟨h4.trans h1,h3⟩
 ·obtain⟨h1,c0,c1,e,fr,h2,h3,h4,h5⟩:=B.hR.frame.boxes b j hb ho
  have hlt:b<w.heap.size:=Nat.lt_of_lt_of_le hb B.hR.frame.size;obtain⟨h6,h7⟩:=B.boxes (gd:=gd) (nr:=nr) (nb:=nb) (hs:=hs) (adn:=adn) h1 hlt;refine⟨h6,?_⟩
  rcases h7 with h7|⟨i,cs,off,ls,d0,d1,e',fr',h8,h9,cL,ef,fW,jd,k7,mA,nf⟩
  ·exact⟨c0,c1,e,fr,h2,h7.trans h3,h4,h5⟩
  ·rw[h3]at jd
   obtain⟨rfl,rfl,rfl⟩:c1=d0/\e=e'/\fr=fr':=by
    have:=Option.some.inj jd
    injection this with e1 e2 e3
    exact⟨e1,e2,e3⟩
   have wo:=B.hR.rng j ls ef (by rw[<- cL];exact hb) (by rw[<- cL];exact ho);refine⟨c0,d1,e,fr,h2,k7,mA.trans h4,fun k hk=>?_⟩;rw[wo]at hk;dsimp only at hk;rw[nf k (by omega),h5 k (by rw[wo];exact hk)]
 ·simp only[fF]
  rw[if_neg (by omega),B.hF.fresh b hb];rfl
end
end Go.Proofs.YtcbkmmhkccnamaaGreat.Rf
