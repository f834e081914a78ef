/- Terms for so program's functions, and nh they are right: part 6 of 10. -/
import Derived.Test.YtcbkmmhkccnamaaGreatRf5
open Bool renaming and_eq_true → Zbo, false_eq_true → Zbr, not_eq_true' → Ach, or_eq_true → Ac1
open List renaming mem_append_left → Zbp, getElem?_eq_getElem → Zbq, mem_append_right → Zbs, getD_eq_getElem?_getD → Zbu, getElem?_cons_zero → Zbw, append_assoc → Zbx, mem_cons_of_mem → Zby, mem_singleton → Zb0, length_cons → Zb1, length_map → Zb3, mem_of_getElem? → Zb4, mem_cons_self → Zb5, length_nil → Zb7, getElem?_append_right → Zb8, all_eq_true → Acd, getElem?_map → Ace, append_nil → Acf, map_cons → Acg, map_nil → Acm, mem_cons → Acu, getElem?_drop → Acv, getElem?_cons_succ → Acy, nil_append → Ac0, mem_map_of_mem → Bci, getElem?_set → Bcr, any_eq_false → Cci
open Nat renaming le_refl → Zb2, lt_or_ge → Aca, add_assoc → Acb, beq_eq → Acj, add_zero → Ack, zero_add → Acl, add_sub_cancel_left → Acs, blt_eq → Acw, ble_eq → Ac2, zero_le → Bch
open Option renaming bind_eq_some_iff → Zbn, bind_some → Zbv, map_some → Acz, getD_some → Bcn
set_option linter.unusedSimpArgs false
set_option linter.unusedVariables false
set_option linter.unnecessarySimpa false
set_option linter.unusedSectionVars false
namespace Go.Proofs.YtcbkmmhkccnamaaGreat.Rf
def LS.cnt:LS->Nat
 |.px _=>0
 |.clo _ _=>0
 |_=>1
def LS.rcnt:LS->Nat
 |.mu _=>1
 |.ow _=>1
 |_=>0
def Ya6:List LS->Nat
 |[]=>0
 |s::ss=>s.cnt+Ya6 ss
def kC:List LS->Nat
 |[]=>0
 |s::ss=>s.rcnt+kC ss
def La3:List (Bool×List LS)->Nat
 |[]=>0
 |(_,ss)::ps=>Ya6 ss+La3 ps
def jH:List (Bool×List LS)->Nat
 |[]=>0
 |(_,ss)::ps=>kC ss+jH ps
def BS.cnt:BS->Nat
 |.ot=>0
 |_=>1
def BS.rcnt:BS->Nat
 |.ow _=>1
 |_=>0
def Dbs:List (BS×BO)->Nat
 |[]=>0
 |(s,_)::ss=>s.cnt+Dbs ss
def vY:List (BS×BO)->Nat
 |[]=>0
 |(s,_)::ss=>s.rcnt+vY ss
def Dbt:List (Bool×List (BS×BO))->Nat
 |[]=>0
 |(_,cs)::bs=>Dbs cs+Dbt bs
def vZ:List (Bool×List (BS×BO))->Nat
 |[]=>0
 |(_,cs)::bs=>vY cs+vZ bs
section
variable (G:Gh) (w:World) (ρ:List D) (nbx:Nat)
def Dbh (ok:Nat->Prop)(w:World)(v:Value)(d:D):Prop :=
 (v=.pointer none/\∃ z,d=.rows z [])\/∃ a row,v=.pointer (some a)/\d=.rows row.length [row]/\Rd ok w (.slice (some a) 1 1) (.rows row.length [row])
def xP:List LS->List Value->Prop
 |[],vs=>vs=[]
 |c::cs,vs=>∃ u us,vs=u::us/\(match c with | .px b=>u=.pointer (some (G.bx b))/\b<nbx | _=>u.oneCell'=true)/\xP cs us
def kS (i nr:Nat):LS->Value->Prop
 |.sc,v=>Sc v ((aK.v i).val ρ)
 |.fz nie,v=>Rd (fun b=>G.own b=.frz) w v ((aK.v i).val ρ)/\(nie=true->∀ z,(aK.v i).val ρ=.rows z []->v=.slice none 0 0)
 |.mu m,v=>v=G.hdr nr/\Rp G.own w nr [] m v ((aK.v i).val ρ)
 |.ow m,v=>v=G.hdr nr/\Rp G.own w nr [] m v ((aK.v i).val ρ)
 |.px b,v=>v=.pointer (some (G.bx b))/\b<nbx
 |.clo f cs,v=>∃ vs,v=.func (.func f) #[] vs.toArray/\xP G nbx cs vs
 |.rp _,v=>v.oneCell'=true/\Dbh (fun b=>G.own b=.frz) w v ((aK.v i).val ρ)
def sU:Nat->Nat->List LS->List Value->Prop
 |_,_,[],vs=>vs=[]
 |i,nr,s::ss,vs=>∃ u us,vs=u::us/\kS G w ρ nbx i nr s u/\sU (i+s.cnt) (nr+s.rcnt) ss us
def jQ:Nat->Nat->List (Bool×List LS)->List Value->Prop
 |_,_,[],us=>us=[]
 |i,nr,(a,ss)::ps,us=>∃ u da vs,us=u::da/\sU G w ρ nbx i nr ss vs/\(if a=true then u=.agg vs.toArray else vs=[u])/\jQ (i+Ya6 ss) (nr+kC ss) ps da
def xO (i nr:Nat):BS->Value->Prop
 |.sc,v=>Sc v ((aK.v i).val ρ)
 |.fz nie,v=>Rd (fun b=>G.own b=.frz) w v ((aK.v i).val ρ)/\(nie=true->∀ z,(aK.v i).val ρ=.rows z []->v=.slice none 0 0)
 |.ow m,v=>v=G.hdr nr/\Rp G.own w nr [] m v ((aK.v i).val ρ)
 |.ot,v=>v.oneCell'=true
def Gax (ad:Addr):Nat->Nat->Nat->List (BS×BO)->Prop
 |_,_,_,[]=>True
 |off,i,nr,(s,_)::ss=>(∃ v,w.cell? (ad.add off)=some v/\w.frozen? (ad.add off)=false/\xO G w ρ i nr s v)/\Gax ad (off+1) (i+s.cnt) (nr+s.rcnt) ss
def Gay:Nat->Nat->Nat->List (Bool×List (BS×BO))->Prop
 |_,_,_,[]=>True
 |b,i,nr,(ro,cs)::bs=>(G.bx b).spot=none/\G.own (G.bx b).block=(if ro=true then .oth else .box b)/\Gax G w ρ (G.bx b) 0 i nr cs/\Gay (b+1) (i+Dbs cs) (nr+vY cs) bs
end
structure Dbo (s:Sig) (vals:List Value) (w:World) (G:Gh) (ds:List D):Prop where
 params:jQ G w ds s.boxes.length 0 0 s.params vals
 boxes:Gay G w ds 0 (La3 s.params) (jH s.params) s.boxes
 len:ds.length=La3 s.params+Dbt s.boxes
 fresh:∀ b,w.heap.size<=b->G.own b=.frz
 cells:∀ b j,b<w.heap.size->G.own b=.box j->j<s.boxes.length/\∃ c e fr,w.heap[b]?=some (.cells c e fr)
def Iao (s:Sig)(G:Gh):List Value:=(eH 0 (s.params.flatMap (·.2))).map G.hdr++(range 0 s.boxes.length).map fun b=>Value.pointer (some (G.bx b))
def pO (s:Sig)(G:Gh)(w:World):bG :=
 ⟨w,G.own,fun j=>(Iao s G).getD j undef,fun b=>((G.bx b).off,(G.bx b).off+(s.boxes.getD b (true,[])).2.length)⟩
theorem Raj {i nr:Nat}(s:LS):∃ l u,iO i nr s=(l,u,i+s.cnt,nr+s.rcnt)/\∀ k c,(k,c)∈u->∃ m,s.rcnt=1/\k=kR nr/\c=.root (.v i) m 0 .live/\(s=.mu m\/s=.ow m)/\l=.ex nr:=by
 cases s with
 | mu m =>
  refine⟨_,_,rfl,fun k c h=>?_⟩;simp only[Zb0,Prod.mk.injEq]at h;exact⟨m,rfl,h.1,h.2,.inl rfl,rfl⟩
 | ow m =>
  refine⟨_,_,rfl,fun k c h=>?_⟩;simp only[Zb0,Prod.mk.injEq]at h;exact⟨m,rfl,h.1,h.2,.inr rfl,rfl⟩
 |_=>exact⟨_,_,rfl,by simp⟩
section
variable {G:Gh} {w:World} {ρ:List D} {nbx:Nat} {σ:Nat->Option aS}
theorem Fau (gb:∀ b,b<nbx->(σ (kB b)).isSome):∀ {cs:List LS} {vs:List Value},xP G nbx cs vs->aG σ ρ G w (cs.map fun c=>match c with|.px b=>.px b 0|_=>.dead) vs
 |[],vs,h=>by simpa[xP,aG] using h
 | c :: cs, vs, h => by
  obtain⟨u,us,rfl,h1,h2⟩:=h;simp only[Acg,aG];refine⟨u,us,rfl,?_,Fau gb h2⟩
  cases c with
  | px b =>
   simp only[aB];exact⟨by rw[h1.1];rfl,gb b h1.2⟩
  |_=>simp only[aB];exact h1
def lZ (σ:Nat->Option aS)(G:Gh)(w:World)(ρ:List D)(u:List (Nat×aS)):Prop:=∀ k c,(k,c)∈u->∃ r m i,k=kR r/\c=.root (.v i) m 0 .live/\Rp G.own w r [] m (G.hdr r) ((aK.v i).val ρ)
theorem Taw (gb:∀ b,b<nbx->(σ (kB b)).isSome){i nr:Nat}{s:LS}{v:Value}(h:kS G w ρ nbx i nr s v)(oR:s.rcnt=1->(σ (kR nr)).isSome) :
  aB σ ρ G w (iO i nr s).1 v/\lZ σ G w ρ (iO i nr s).2.1:=by
 cases s with
 |sc=>exact⟨by simpa[iO,aB,kS] using h,by simp[lZ,iO]⟩
 | fz nie =>
  refine⟨?_,by simp[lZ,iO]⟩;simp only[kS]at h;simp only[iO,aB];exact⟨⟨h.1.one,by simp⟩,fun _=>⟨h.1.mono fun b hb=>⟨.inl hb,rfl⟩,h.2,trivial⟩⟩
 | mu m =>
  simp only[kS]at h;refine⟨?_,?_⟩
  ·simp only[iO,aB]
   exact⟨h.1,oR rfl,h.2.one⟩
  ·intro k c hc
   simp only[iO,Zb0,Prod.mk.injEq]at hc;exact⟨nr,m,i,hc.1,hc.2,by rw[<- h.1];exact h.2⟩
 | ow m =>
  simp only[kS]at h;refine⟨?_,?_⟩
  ·simp only[iO,aB]
   exact⟨h.1,oR rfl,h.2.one⟩
  ·intro k c hc
   simp only[iO,Zb0,Prod.mk.injEq]at hc;exact⟨nr,m,i,hc.1,hc.2,by rw[<- h.1];exact h.2⟩
 | px b =>
  refine⟨?_,by simp[lZ,iO]⟩;simp only[kS]at h;simp only[iO,aB];exact⟨by rw[h.1];rfl,gb b h.2⟩
 | clo f cs =>
  refine⟨?_,by simp[lZ,iO]⟩;simp only[kS]at h;obtain⟨vs,h1,h2⟩:=h;simp only[iO,aB];exact⟨vs,h1,Fau gb h2⟩
 | rp z =>
  refine⟨?_,by simp[lZ,iO]⟩;simp only[kS]at h;simp only[iO,aB];refine⟨⟨h.1,by simp⟩,fun _=>?_⟩
  rcases h.2 with h1|⟨a,row,h1,h2,h3⟩
  ·exact .inl h1
  ·exact .inr ⟨a,row,h1,h2,h3.mono fun b hb=>⟨.inl hb,rfl⟩⟩
theorem lZ.append {u v:List (Nat×aS)}(h:lZ σ G w ρ u)(h':lZ σ G w ρ v):lZ σ G w ρ (u++v):=fun k c hc=>(List.mem_append.1 hc).elim (h k c) (h' k c)
theorem Aax:∀ (ss:List LS) (i nr:Nat),(dR i nr ss).2.2=(i+Ya6 ss,nr+kC ss)/\(dR i nr ss).1.length=ss.length/\∀ r,nr<=r->r<nr+kC ss->∃ c,(kR r,c)∈(dR i nr ss).2.1
 |[],i,nr=>⟨rfl,rfl,fun r h1 h2=>by simp only[kC]at h2;omega⟩
 | s :: ss, i, nr => by
  obtain⟨l,u,h1,h2⟩:=Raj (i:=i) (nr:=nr) s;obtain⟨h3,h4,h5⟩:=Aax ss (i+s.cnt) (nr+s.rcnt);simp only[dR,h1];refine⟨h3.trans (by simp only[Ya6,kC,Acb]),by simp[h4],fun r pS se=>?_⟩;simp only[kC]at se
  rcases Aca r (nr+s.rcnt) with h6|h6
  ·have hs:s.rcnt=1:=by cases s<;>simp[LS.rcnt]at h6 ⊢<;>omega
   have:r=nr:=by omega
   subst this;cases s<;>simp[LS.rcnt]at hs
   all_goals
    simp only[iO,Prod.mk.injEq]at h1;obtain⟨-,rfl,-⟩:=h1;exact⟨_,Zbp _ (List.mem_singleton.2 rfl)⟩
  ·obtain⟨c,hc⟩:=h5 r h6 (by omega)
   exact⟨c,Zbs _ hc⟩
theorem Cay (gb:∀ b,b<nbx->(σ (kB b)).isSome):∀ {ss:List LS} {i nr:Nat} {vs:List Value},sU G w ρ nbx i nr ss vs->(∀ r,nr<=r->r<nr+kC ss->(σ (kR r)).isSome) ->
  aG σ ρ G w (dR i nr ss).1 vs/\lZ σ G w ρ (dR i nr ss).2.1
 |[],i,nr,vs,h,_=>⟨by simpa[sU,dR,aG] using h,by simp[lZ,dR]⟩
 | s :: ss, i, nr, vs, h, hr => by
  obtain⟨u,us,rfl,h1,h2⟩:=h;obtain⟨l,up,h3,h4⟩:=Raj (i:=i) (nr:=nr) s;obtain⟨h5,h6⟩:=Taw gb h1 fun e=>hr nr (Zb2 _) (by simp only[kC];omega)
  obtain⟨h7,h8⟩:=Cay gb h2 fun r pS se=>hr r (by omega) (by simp only[kC];omega)
  simp only[dR,h3]at h5 h6 ⊢;exact⟨by simp only[aG];exact⟨u,us,rfl,h5,h7⟩,h6.append h8⟩
theorem uG:∀ (ps:List (Bool×List LS)) (t i nr:Nat),(jL t i nr ps).2=(i+La3 ps,nr+jH ps)/\∀ r,nr<=r->r<nr+jH ps->∃ c,(kR r,c)∈(jL t i nr ps).1
 |[],t,i,nr=>⟨rfl,fun r h1 h2=>by simp only[jH]at h2;omega⟩
 | (a, ss) :: ps, t, i, nr => by
  obtain⟨h1,-,h2⟩:=Aax ss i nr;obtain⟨h3,h4⟩:=uG ps (t+1) (i+Ya6 ss) (nr+kC ss);have e:dR i nr ss=((dR i nr ss).1,(dR i nr ss).2.1,i+Ya6 ss,nr+kC ss):=by rw[<- h1]
  simp only[jL];rw[e];dsimp only;refine⟨h3.trans (by simp only[La3,jH,Acb]),fun r pS se=>?_⟩;simp only[jH]at se
  rcases Aca r (nr+kC ss) with h6|h6
  ·obtain⟨c,hc⟩:=h2 r pS h6
   exact⟨c,Zby _ (Zbp _ hc)⟩
  ·obtain⟨c,hc⟩:=h4 r h6 (by omega)
   exact⟨c,Zby _ (Zbs _ hc)⟩
def Ob1 (σ:Nat->Option aS)(G:Gh)(w:World)(ρ:List D)(val:Nat->Option Value)(u:List (Nat×aS)):Prop :=
 ∀ k c,(k,c)∈u->(∃ t v sv,k=kT t/\c=.slot none sv/\val t=some v/\bY σ ρ G w sv v)\/(∃ r m i,k=kR r/\c=.root (.v i) m 0 .live/\Rp G.own w r [] m (G.hdr r) ((aK.v i).val ρ))
theorem Cax (gb:∀ b,b<nbx->(σ (kB b)).isSome):∀ {ps:List (Bool×List LS)} {t i nr:Nat} {us:List Value},jQ G w ρ nbx i nr ps us->(∀ r,nr<=r->r<nr+jH ps->(σ (kR r)).isSome) ->
  us.length=ps.length/\Ob1 σ G w ρ (fun j=>if t<=j then us[j-t]? else none) (jL t i nr ps).1
 | [], t, i, nr, us, h, _ => by
  simp only[jQ]at h;subst h;exact⟨rfl,by simp[Ob1,jL]⟩
 | (a, ss) :: ps, t, i, nr, us, h, hr => by
  obtain⟨u,da,vs,rfl,h1,h2,h3⟩:=h;obtain⟨h4,h5,-⟩:=Aax ss i nr;obtain⟨h6,h7⟩:=Cay gb h1 fun r pS se=>hr r pS (by simp only[jH];omega)
  obtain⟨h8,h9⟩:=Cax gb (t:=t+1) h3 fun r pS se=>hr r (by omega) (by simp only[jH];omega)
  have e:dR i nr ss=((dR i nr ss).1,(dR i nr ss).2.1,i+Ya6 ss,nr+kC ss):=by rw[<- h4]
  simp only[jL];rw[e];dsimp only;refine⟨by simp[h8],fun k c hc=>?_⟩
  rcases List.mem_cons.1 hc with hc|hc
  ·obtain⟨rfl,rfl⟩:=Prod.mk.inj hc
   refine .inl ⟨t,u,_,rfl,rfl,by simp,?_⟩
   cases gx:Uaz a (dR i nr ss).1 with
   |none=>trivial
   |some sv=>exact tF gx h6 h2
  ·rcases List.mem_append.1 hc with hc|hc
   ·exact .inr (h7 k c hc)
   ·rcases h9 k c hc with ⟨t',v,sv,e1,e2,e3,e4⟩|cQ
    ·refine .inl ⟨t',v,sv,e1,e2,?_,e4⟩
     dsimp only at e3 ⊢;split at e3
     ·rename_i hle
      rw[if_pos (by omega)];rw[show t'-t=(t'-(t+1))+1 by omega];exact e3
     ·cases e3
    ·exact .inr cQ
theorem Tax {i nr:Nat}{s:BS}{v:Value}(h:xO G w ρ i nr s v)(oR:s.rcnt=1->(σ (kR nr)).isSome) :
  aB σ ρ G w (gP i nr s).1 v/\lZ σ G w ρ (gP i nr s).2.1/\(gP i nr s).2.2=(i+s.cnt,nr+s.rcnt)/\(s.rcnt=1->∃ c,(kR nr,c)∈(gP i nr s).2.1):=by
 cases s with
 |sc=>exact⟨by simpa[gP,aB,xO] using h,by simp[lZ,gP],rfl,fun e=>by cases e⟩
 | fz nie =>
  refine⟨?_,by simp[lZ,gP],rfl,fun e=>by cases e⟩;simp only[xO]at h;simp only[gP,aB];exact⟨⟨h.1.one,by simp⟩,fun _=>⟨h.1.mono fun b hb=>⟨.inl hb,rfl⟩,h.2,trivial⟩⟩
 | ow m =>
  simp only[xO]at h;refine⟨?_,?_,rfl,fun _=>⟨_,List.mem_singleton.2 rfl⟩⟩
  ·simp only[gP,aB]
   exact⟨h.1,oR rfl,h.2.one⟩
  ·intro k c hc
   simp only[gP,Zb0,Prod.mk.injEq]at hc;exact⟨nr,m,i,hc.1,hc.2,by rw[<- h.1];exact h.2⟩
 |ot=>exact⟨by simpa[gP,aB,xO] using h,by simp[lZ,gP],rfl,fun e=>by cases e⟩
theorem Cbc {i nr:Nat}(s:BS):(gP i nr s).2.2=(i+s.cnt,nr+s.rcnt)/\(s.rcnt=1->∃ c,(kR nr,c)∈(gP i nr s).2.1):=by
 cases s<;>refine⟨rfl,fun e=>?_⟩<;>first|cases e|skip
 exact⟨_,List.mem_singleton.2 rfl⟩
theorem Eab:∀ (ss:List (BS×BO)) (i nr:Nat),(gJ i nr ss).2.2=(i+Dbs ss,nr+vY ss)/\(gJ i nr ss).1.length=ss.length/\∀ r,nr<=r->r<nr+vY ss->∃ c,(kR r,c)∈(gJ i nr ss).2.1
 |[],i,nr=>⟨rfl,rfl,fun r h1 h2=>by simp only[vY]at h2;omega⟩
 | (s, o) :: ss, i, nr => by
  obtain⟨h1,h2⟩:=Cbc (i:=i) (nr:=nr) s;obtain⟨h3,h4,h5⟩:=Eab ss (i+s.cnt) (nr+s.rcnt);have e:gP i nr s=((gP i nr s).1,(gP i nr s).2.1,i+s.cnt,nr+s.rcnt):=by rw[<- h1]
  simp only[gJ];rw[e];dsimp only;refine⟨h3.trans (by simp only[Dbs,vY,Acb]),by simp[h4],fun r pS se=>?_⟩;simp only[vY]at se
  rcases Aca r (nr+s.rcnt) with h6|h6
  ·have hs:s.rcnt=1:=by cases s<;>simp[BS.rcnt]at h6 ⊢<;>omega
   have:r=nr:=by omega
   subst this;obtain⟨c,hc⟩:=h2 hs;exact⟨c,Zbp _ hc⟩
  ·obtain⟨c,hc⟩:=h5 r h6 (by omega)
   exact⟨c,Zbs _ hc⟩
theorem Fao {ad:Addr}:∀ {ss:List (BS×BO)} {off i nr:Nat},Gax G w ρ ad off i nr ss->(∀ r,nr<=r->r<nr+vY ss->(σ (kR r)).isSome) ->
  (∀ j l,(gJ i nr ss).1[j]?=some l->∃ v,w.cell? (ad.add (off+j))=some v/\w.frozen? (ad.add (off+j))=false/\aB σ ρ G w l v)/\lZ σ G w ρ (gJ i nr ss).2.1
 |[],off,i,nr,_,_=>⟨by simp[gJ],by simp[lZ,gJ]⟩
 | (s, o) :: ss, off, i, nr, h, hr => by
  obtain⟨⟨v,h1,h2,h3⟩,h4⟩:=h;obtain⟨h5,h6,h7,-⟩:=Tax h3 fun e=>hr nr (Zb2 _) (by simp only[vY];omega)
  obtain⟨h8,h9⟩:=Fao h4 fun r pS se=>hr r (by omega) (by simp only[vY];omega)
  have e:gP i nr s=((gP i nr s).1,(gP i nr s).2.1,i+s.cnt,nr+s.rcnt):=by rw[<- h7]
  simp only[gJ];rw[e];dsimp only;refine⟨fun j l hj=>?_,h6.append h9⟩
  cases j with
  | zero =>
   simp only[Zbw,Option.some.injEq]at hj;subst hj;exact⟨v,h1,h2,h5⟩
  | succ j =>
   obtain⟨v',cQ,dz,fy⟩:=h8 j l (by simpa using hj);rw[show off+(j+1)=off+1+j by omega];exact⟨v',cQ,dz,fy⟩
def Pbe (σ:Nat->Option aS)(G:Gh)(w:World)(ρ:List D)(bs:Nat->Option (Bool×List (BS×BO)))(u:List (Nat×aS)):Prop :=
 ∀ k c,(k,c)∈u->(∃ b ro ls cs,k=kB b/\c=.box ro ls/\bs b=some (ro,cs)/\ls.length=cs.length/\Mad σ ρ G w b ro ls)\/(∃ r m i,k=kR r/\c=.root (.v i) m 0 .live/\Rp G.own w r [] m (G.hdr r) ((aK.v i).val ρ))
theorem yP:∀ (bs:List (Bool×List (BS×BO))) (b i nr:Nat),(kM b i nr bs).2=(i+Dbt bs,nr+vZ bs)/\(∀ r,nr<=r->r<nr+vZ bs->∃ c,(kR r,c)∈(kM b i nr bs).1)/\∀ j,b<=j->j<b+bs.length->∃ c,(kB j,c)∈(kM b i nr bs).1
 |[],b,i,nr=>⟨rfl,fun r h1 h2=>by simp only[vZ]at h2;omega,fun j h1 h2=>by simp only[Zb7]at h2;omega⟩
 | (ro, cs) :: bs, b, i, nr => by
  obtain⟨h1,-,h2⟩:=Eab cs i nr;obtain⟨h3,h4,h5⟩:=yP bs (b+1) (i+Dbs cs) (nr+vY cs);have e:gJ i nr cs=((gJ i nr cs).1,(gJ i nr cs).2.1,i+Dbs cs,nr+vY cs):=by rw[<- h1]
  simp only[kM];rw[e];dsimp only;refine⟨h3.trans (by simp only[Dbt,vZ,Acb]),fun r pS se=>?_,fun j hj1 jn=>?_⟩
  ·simp only[vZ]at se
   rcases Aca r (nr+vY cs) with h6|h6
   ·obtain⟨c,hc⟩:=h2 r pS h6
    exact⟨c,Zby _ (Zbp _ hc)⟩
   ·obtain⟨c,hc⟩:=h4 r h6 (by omega)
    exact⟨c,Zby _ (Zbs _ hc)⟩
  ·simp only[Zb1]at jn
   rcases Aca j (b+1) with h6|h6
   ·obtain rfl:j=b:=by omega
    exact⟨_,Zb5⟩
   ·obtain⟨c,hc⟩:=h5 j h6 (by omega)
    exact⟨c,Zby _ (Zbs _ hc)⟩
theorem Fap:∀ {bs:List (Bool×List (BS×BO))} {b i nr:Nat},Gay G w ρ b i nr bs->(∀ r,nr<=r->r<nr+vZ bs->(σ (kR r)).isSome) ->
  Pbe σ G w ρ (fun j=>if b<=j then bs[j-b]? else none) (kM b i nr bs).1
 |[],b,i,nr,_,_=>by simp[Pbe,kM]
 | (ro, cs) :: bs, b, i, nr, h, hr => by
  obtain⟨h1,h2,h3,h4⟩:=h;obtain⟨h5,h6,-⟩:=Eab cs i nr;obtain⟨h7,h8⟩:=Fao h3 fun r pS se=>hr r pS (by simp only[vZ];omega)
  have h9:=Fap (b:=b+1) h4 fun r pS se=>hr r (by omega) (by simp only[vZ];omega)
  have e:gJ i nr cs=((gJ i nr cs).1,(gJ i nr cs).2.1,i+Dbs cs,nr+vY cs):=by rw[<- h5]
  simp only[kM];rw[e];dsimp only;intro k c hc
  rcases List.mem_cons.1 hc with hc|hc
  ·obtain⟨rfl,rfl⟩:=Prod.mk.inj hc
   refine .inl ⟨b,ro,_,cs,rfl,rfl,by simp,h6,h1,h2,fun j l hj=>?_⟩;have:=h7 j l hj;rwa[Acl]at this
  ·rcases List.mem_append.1 hc with hc|hc
   ·exact .inr (h8 k c hc)
   ·rcases h9 k c hc with ⟨j,la,ls,oE,e1,e2,e3,e4⟩|cQ
    ·refine .inl ⟨j,la,ls,oE,e1,e2,?_,e4⟩
     dsimp only at e3 ⊢;split at e3
     ·rename_i hle
      rw[if_pos (by omega),show j-b=(j-(b+1))+1 by omega];exact e3
     ·cases e3
    ·exact .inr cQ
end
theorem yI:∀ (ss:List LS) (r:Nat),∀ q∈eH r ss,r<=q/\q<r+kC ss
 |[],r,q,h=>by simp[eH]at h
 | s :: ss, r, q, h => by
  cases s with
  | mu m =>
   simp only[eH,Acu]at h;simp only[kC,LS.rcnt]
   rcases h with rfl|h
   ·omega
   ·have:=yI ss (r+1) q h;omega
  | ow m =>
   simp only[eH]at h;simp only[kC,LS.rcnt];have:=yI ss (r+1) q h;omega
  | _ =>
   simp only[eH]at h;simp only[kC,LS.rcnt];have:=yI ss r q h;omega
theorem Ea7:∀ (a b:List LS),kC (a++b)=kC a+kC b
 |[],b=>by simp[kC]
 |s::a,b=>by simp only[List.cons_append,kC,Ea7 a b,Acb]
theorem Lab:∀ (ps:List (Bool×List LS)),kC (ps.flatMap (·.2))=jH ps
 |[]=>rfl
 |(a,ss)::ps=>by simp only[List.flatMap_cons,Ea7,jH,Lab ps]
theorem uH:∀ (ls:List aR) (t k:Nat) (c:aS),(k,c)∈sM t ls->∃ j l,ls[j]?=some l/\k=kT (t+j)/\c=.slot none (.one l)
 |[],t,k,c,h=>by simp[sM]at h
 | l :: ls, t, k, c, h => by
  simp only[sM,Acu,Prod.mk.injEq]at h
  rcases h with ⟨rfl,rfl⟩|h
  ·exact⟨0,l,rfl,rfl,rfl⟩
  ·obtain⟨j,l',h1,rfl,rfl⟩:=uH ls (t+1) k c h
   exact⟨j+1,l',by simpa using h1,by rw[show t+(j+1)=t+1+j by omega],rfl⟩
theorem Xa9 {s:Sig}{G:Gh}{j:Nat}{l:aR}(h:(Qa0 s)[j]?=some l) :
  (∃ r,(eH 0 (s.params.flatMap (·.2)))[j]?=some r/\l=.ex r/\(Iao s G).getD j undef=G.hdr r)\/(∃ b,b<s.boxes.length/\l=.px b 0/\(Iao s G).getD j undef=.pointer (some (G.bx b))):=by
 unfold Qa0 at h;unfold Iao;rw[Zbu]
 rcases Aca j (eH 0 (s.params.flatMap (·.2))).length with h1|h1
 ·rw[List.getElem?_append_left (by simpa using h1)]at h ⊢
  rw[Ace]at h ⊢;rw[Zbq h1]at h ⊢;simp only[Acz,Option.some.injEq]at h;exact .inl ⟨_,rfl,h.symm,rfl⟩
 ·rw[Zb8 (by simpa using h1)]at h ⊢
  simp only[Zb3]at h ⊢;rw[Ace]at h ⊢
  cases hb:(range 0 s.boxes.length)[j-(eH 0 (s.params.flatMap (·.2))).length]? with
  |none=>rw[hb]at h;cases h
  | some b =>
   rw[hb]at h;simp only[Acz,Option.some.injEq]at h;have:=mem_range.1 (Zb4 hb);exact .inr ⟨b,by omega,h.symm,rfl⟩
def Hba (s:Sig)(n:Nat):List (Nat×aS) :=
 (jL 0 0 0 s.params).1++(kM 0 (La3 s.params) (jH s.params) s.boxes).1++sM n (Qa0 s)
theorem entry_eq (s:Sig)(n:Nat):entry s n=St.puts ⟨.nil,La3 s.params+Dbt s.boxes,s.boxes.length,jH s.params+vZ s.boxes,n+nD s⟩ (Hba s n):=by
 have h1:=(uG s.params 0 0 0).1;have h2:=(yP s.boxes 0 (La3 s.params) (jH s.params)).1;rw[Acl,Acl]at h1;have e:jL 0 0 0 s.params=((jL 0 0 0 s.params).1,La3 s.params,jH s.params):=by rw[<- h1]
 have e2:kM 0 (La3 s.params) (jH s.params) s.boxes=((kM 0 (La3 s.params) (jH s.params) s.boxes).1,La3 s.params+Dbt s.boxes,jH s.params+vZ s.boxes):=by rw[<- h2]
 unfold entry Hba;rw[e];dsimp only;rw[e2]
theorem Eaa (s:Sig)(n:Nat):(entry s n).nv=La3 s.params+Dbt s.boxes/\(entry s n).nb=s.boxes.length/\(entry s n).nr=jH s.params+vZ s.boxes/\(entry s n).nt=n+nD s:=by
 rw[entry_eq];obtain⟨h1,h2,h3,h4⟩:=iV (Hba s n) ⟨.nil,La3 s.params+Dbt s.boxes,s.boxes.length,jH s.params+vZ s.boxes,n+nD s⟩;exact⟨h1,h2,h3,h4⟩
theorem Raf (s:Sig)(n:Nat)(k:Nat):(entry s n).get k=bif vG (n+nD s) s.boxes.length (jH s.params+vZ s.boxes) k then upds (fun _=>none) (Hba s n) k else none:=by
 obtain⟨h1,h2,h3,h4⟩:=Eaa s n;unfold St.get;rw[h2,h3,h4]
 have:(entry s n).tr.get k=upds (fun _=>none) (Hba s n) k:=by
  rw[entry_eq,Ma5];exact rM _ _ _ _ rfl
 rw[this]
theorem Rae {s:Sig}{n k:Nat}{c:aS}(h:(entry s n).get k=some c):(k,c)∈Hba s n:=by
 rw[Raf]at h
 revert h
 cases vG (n+nD s) s.boxes.length (jH s.params+vZ s.boxes) k with
 |false=>intro h;cases h
 | true =>
  intro h
  rcases pX _ _ _ _ h with h1|⟨-,h1⟩
  ·exact h1
  ·cases h1
theorem La1 {s:Sig}{n k:Nat}(hb:vG (n+nD s) s.boxes.length (jH s.params+vZ s.boxes) k=true)(h:∃ c,(k,c)∈Hba s n):((entry s n).get k).isSome:=by
 rw[Raf,hb,cond_true];exact dX _ _ _ (.inr h)
theorem Gbw {nt nb nr b:Nat}(h:b<nb):vG nt nb nr (kB b)=true:=by
 unfold vG;rw[Qam];have:kB b / 3=b:=by unfold kB;omega
 rw[this];simpa using h
theorem Yan (s:Sig)(n r:Nat)(h:r<jH s.params+vZ s.boxes):((entry s n).get (kR r)).isSome:=by
 refine La1 (Qak h) ?_
 rcases Aca r (jH s.params) with h1|h1
 ·obtain⟨c,hc⟩:=(uG s.params 0 0 0).2 r (Bch _) (by omega)
  exact⟨c,Zbp _ (Zbp _ hc)⟩
 ·obtain⟨c,hc⟩:=(yP s.boxes 0 (La3 s.params) (jH s.params)).2.1 r h1 h
  exact⟨c,Zbp _ (Zbs _ hc)⟩
theorem Bb9 (s:Sig)(n b:Nat)(h:b<s.boxes.length):((entry s n).get (kB b)).isSome:=by
 refine La1 (Gbw h) ?_;obtain⟨c,hc⟩:=(yP s.boxes 0 (La3 s.params) (jH s.params)).2.2 b (Bch _) (by omega);exact⟨c,Zbp _ (Zbs _ hc)⟩
theorem Kbu {s:Sig}{vals:List Value}{w:World}{G:Gh}{ds:List D}{n:Nat}(h:Dbo s vals w G ds)(hn:s.params.length<=n) :
  vals.length=s.params.length/\R n (pO s G w) (entry s n).get ds ⟨vals.toArray++Array.replicate (n-vals.length) undef,[]⟩ w G:=by
 have gb:∀ b,b<s.boxes.length->((entry s n).get (kB b)).isSome:=fun b hb=>Bb9 s n b hb
 have oR:=Yan s n;obtain⟨hlen,nB⟩:=Cax (σ:=(entry s n).get) gb (t:=0) h.params fun r _ hr=>oR r (by omega)
 have qk:=Fap (σ:=(entry s n).get) h.boxes fun r _ hr=>oR r hr
 have eV:∀ r,r<jH s.params->(G.hdr r).oneCell'=true:=by
  intro r hr;obtain⟨c,hc⟩:=(uG s.params 0 0 0).2 r (Bch _) (by omega)
  rcases nB _ c hc with ⟨t,v,sv,e,-⟩|⟨r',m,i,e,-,fg⟩
  ·exact absurd e.symm iM
  ·obtain rfl:=eT e
   exact fg.one
 have dm:∀ t v,vals[t]?=some v->Aa7 n ⟨vals.toArray++Array.replicate (n-vals.length) undef,[]⟩ (pO s G w).gh t=v:=by
  intro t v hv;have hlt:=(List.getElem?_eq_some_iff.1 hv).1;unfold Aa7;rw[if_pos (by omega)];simp only[Array.getD_eq_getD_getElem?];rw[Array.getElem?_append_left (by simpa using hlt)];simp[hv]
 refine⟨hlen,?_,rfl,fun k c hk=>?_,?_,fun b ls hk hb ho=>?_⟩
 ·simp;omega
 ·have hm:=Rae hk
  unfold Hba at hm
  rcases List.mem_append.1 hm with hm|hm
  ·rcases List.mem_append.1 hm with hm|hm
   ·rcases nB k c hm with ⟨t,v,sv,rfl,rfl,hv,gx⟩|⟨r,m,i,rfl,rfl,fg⟩
    ·refine⟨t,rfl,fun _=>?_⟩
     simp only[Bch,if_true,Nat.sub_zero]at hv;rw[dm t v hv];exact gx
    ·exact⟨r,rfl,by rw[hk];rfl,fg⟩
   ·rcases qk k c hm with ⟨b,ro,ls,cs,rfl,rfl,-,-,hbr⟩|⟨r,m,i,rfl,rfl,fg⟩
    ·exact⟨b,rfl,hbr⟩
    ·exact⟨r,rfl,by rw[hk];rfl,fg⟩
  ·obtain⟨j,l,hj,rfl,rfl⟩:=uH _ _ _ _ hm
   refine⟨n+j,rfl,fun _=>?_⟩
   have e:Aa7 n ⟨vals.toArray++Array.replicate (n-vals.length) undef,[]⟩ (pO s G w).gh (n+j)=(Iao s G).getD j undef:=by
    unfold Aa7;rw[if_neg (by omega),Acs];rfl
   rw[e];simp only[bY]
   rcases Xa9 (G:=G) hj with ⟨r,h1,rfl,h2⟩|⟨b,h1,rfl,h2⟩
   ·have hr:=yI _ _ r (Zb4 h1)
    rw[Lab]at hr;simp only[aB];rw[h2];exact⟨rfl,oR r (by omega),eV r (by omega)⟩
   ·simp only[aB]
    rw[h2];exact⟨rfl,gb b h1⟩
 ·exact⟨rfl,rfl,rfl,Zb2 _,fun b hb ho=>⟨rfl,rfl⟩,fun b j hb ho=>⟨ho,by
   obtain⟨-,c,e,fr,hc⟩:=h.cells b j hb ho;exact⟨c,c,e,fr,hc,hc,rfl,fun _ _=>rfl⟩⟩,h.fresh⟩
 ·have hm:=Rae hk
  unfold Hba at hm
  rcases List.mem_append.1 hm with hm|hm
  ·rcases List.mem_append.1 hm with hm|hm
   ·rcases nB _ _ hm with ⟨t,v,sv,e,-⟩|⟨r,m,i,e,-⟩
    ·exact absurd e.symm lQ
    ·exact absurd e fB
   ·rcases qk _ _ hm with ⟨b',ro,jv,cs,e,e2,e3,e4,hbr⟩|⟨r,m,i,e,-⟩
    ·obtain rfl:=Caj e
     injection e2 with e5 e6
     subst e5 e6;simp only[Bch,if_true,Nat.sub_zero]at e3;simp only[pO,Zbu,e3,Bcn];rw[e4]
    ·exact absurd e fB
  ·obtain⟨j,r,hj,e,-⟩:=uH _ _ _ _ hm
   exact absurd e.symm lQ
theorem Bb8 {s:Sig}{n eK:Nat}(h:Ga0 (entry s n) eK ((range 0 (entry s n).nt).map kT++(range 0 (entry s n).nb).map kB++(range 0 (entry s n).nr).map kR)=true){E:Env}(hE:E.ntmps=n):Dag E (entry s n):=by
 refine⟨by rw[(Eaa s n).2.2.2,hE];omega,fun k c hk=>?_⟩
 have hm:k∈(range 0 (entry s n).nt).map kT++(range 0 (entry s n).nb).map kB++(range 0 (entry s n).nr).map kR:=by
  rcases Aas hk with ⟨t,rfl,ht⟩|⟨b,rfl,hb⟩|⟨r,rfl,hr⟩
  ·exact Zbp _ (Zbp _ (List.mem_map.2 ⟨t,mem_range.2 ⟨by omega,by omega⟩,rfl⟩))
  ·exact Zbp _ (Zbs _ (List.mem_map.2 ⟨b,mem_range.2 ⟨by omega,by omega⟩,rfl⟩))
  ·exact Zbs _ (List.mem_map.2 ⟨r,mem_range.2 ⟨by omega,by omega⟩,rfl⟩)
 have:=Dam h k hm;rw[hk]at this;exact uI this
def BO.q:BO->Nat
 |.ow _=>1
 |_=>0
def qC:List BO->Nat
 |[]=>0
 |s::ss=>s.q+qC ss
def LR.q:LR->Nat
 |.ow _=>1
 |.bx cs=>qC cs
 |_=>0
def qL:List LR->Nat
 |[]=>0
 |s::ss=>s.q+qL ss
def qR:List (Bool×List LR)->Nat
 |[]=>0
 |(_,ss)::rs=>qL ss+qR rs
section
variable (own:Nat->Ow) (w:World) (ds:List D) (nbx:Nat)
def Eat (i q:Nat):BO->Value->Prop
 |.sc,v=>Sc v (ds.getD i .undef)
 |.fz,v=>Rd (fun b=>own b=.frz) w v (ds.getD i .undef)
 |.ow m,v=>Rp own w (2*q) [] m v (ds.getD i .undef)
 |.dead,v=>v.oneCell'=true
def Dai (ad:Addr):Nat->Nat->Nat->List BO->Prop
 |_,_,_,[]=>True
 |off,i,q,s::ss=>(∃ v,w.cell? (ad.add off)=some v/\w.frozen? (ad.add off)=false/\Eat own w ds i q s v)/\Dai ad (off+1) (i+1) (q+s.q) ss
def lW (i q:Nat):LR->Value->Prop
 |.sc,v=>Sc v (ds.getD i .undef)
 |.fz,v=>Rd (fun b=>own b=.frz) w v (ds.getD i .undef)
 |.ow m,v=>Rp own w (2*q) [] m v (ds.getD i .undef)
 |.rp _,v=>v.oneCell'=true/\Dbh (fun b=>own b=.frz) w v (ds.getD i .undef)
 |.bx cs,v=>∃ ad,v=.pointer (some ad)/\ad.spot=none/\own ad.block=.box nbx/\Dai own w ds ad 0 i q cs
def pV:Nat->Nat->List LR->List Value->Prop
 |_,_,[],vs=>vs=[]
 |i,q,s::ss,vs=>∃ u us,vs=u::us/\lW own w ds nbx i q s u/\pV (i+s.n) (q+s.q) ss us
def Mab:Nat->Nat->List (Bool×List LR)->List Value->Prop
 |_,_,[],us=>us=[]
 |i,q,(a,ss)::rs,us=>∃ u da vs,us=u::da/\pV own w ds nbx i q ss vs/\(if a=true then u=.agg vs.toArray else vs=[u])/\Mab (i+mZ ss) (q+qL ss) rs da
def Wat (gh:Nat->Value):Nat->Nat->List Nat->Prop
 |_,_,[]=>True
 |i,j,d::ms=>Rp own w (2*j+1) [] d (gh j) (ds.getD i .undef)/\Wat gh (i+1) (j+1) ms
def lX (bx:Nat->Addr):Nat->Nat->Nat->List (Bool×List (BS×BO))->Prop
 |_,_,_,[]=>True
 |b,i,q,(ro,cs)::r=>if ro=true then lX bx (b+1) i q r else Dai own w ds (bx b) 0 i q (cs.map (·.2))/\lX bx (b+1) (i+cs.length) (q+qC (cs.map (·.2))) r
end
def Ea5:List Value->Value
 |[u]=>u
 |us=>.tuple us.toArray
def Oak (s:Sig)(F:bG)(bx:Nat->Addr)(v:Value)(w:World)(ds:List D):Prop :=
 ∃ G us,v=Ea5 us/\mJ F G w/\Mab G.own w ds s.boxes.length 0 0 s.results us/\Wat G.own w ds F.gh (bK s.results) 0 (dV (s.params.flatMap (·.2))) /\
  lX G.own w ds bx 0 (bK s.results+(dV (s.params.flatMap (·.2))).length) (qR s.results) s.boxes
structure FLe (A B:Fin):Prop where
 xs:∃ l,B.xs=A.xs++l
 own:∀ z∈A.own,z∈B.own
 frz:∀ z∈A.frz,z∈B.frz
 lets:∃ l,B.lets=A.lets++l
 bxs:∀ z∈A.bxs,z∈B.bxs
theorem FLe.refl (A:Fin):FLe A A:=⟨⟨[],by simp⟩,fun _ h=>h,fun _ h=>h,⟨[],by simp⟩,fun _ h=>h⟩
theorem FLe.trans {A B C:Fin}(h:FLe A B)(h':FLe B C):FLe A C:=by
 obtain⟨⟨l,h1⟩,h2,h3,⟨m,h4⟩,h5⟩:=h;obtain⟨⟨l',wc⟩,vz,h3',⟨m',vp⟩,uw⟩:=h';exact⟨⟨l++l',by rw[wc,h1,Zbx]⟩,fun z hz=>vz z (h2 z hz),fun z hz=>h3' z (h3 z hz),⟨m++m',by rw[vp,h4,Zbx]⟩,fun z hz=>uw z (h5 z hz)⟩
structure Ya8 (Z:Fin) (nbx:Nat) (G G':Gh):Prop where
 frz:∀ b,G.own b=.frz->G'.own b=.frz
 own:∀ r t m,(r,t,m)∈Z.own->∀ b p,G.own b=.slc r p->G'.own b=if p.length<m then .slc t p else .frz
 fr:∀ r,r∈Z.frz->∀ b p,G.own b=.slc r p->G'.own b=.frz
 bxs:∀ β,β∈Z.bxs->∀ b,G.own b=.box β->G'.own b=.box nbx
section
variable {E:Env} {F:bG} {σ:Nat->Option aS} {ρ:List D} {a:Act} {w:World} {G G':Gh} {cf:Nat->List D->Option (List D)} {Z:Fin} {nbx nv:Nat}
theorem FLe.get {A B:Fin}(h:FLe A B){ρ:List D}{x:aK}{l:List aK}(hx:A.xs=l++[x]):(B.xs.map (·.val ρ)).getD l.length .undef=x.val ρ:=by
 obtain⟨m,h1⟩:=h.xs;rw[h1,hx,Zbu];simp
theorem Rp.give (hG:Ya8 Z nbx G G'){r t m m':Nat}(hz:(r,t,m)∈Z.own)(hm:m<=m'){v:Value}{d:D}(h:Rp G.own w r [] m' v d):Rp G'.own w t [] m v d:=by
 let jf:Nat->Ow:=fun b=>match G.own b with
  |.slc s p=>if s=r then (if p.length<m then .slc s p else .frz) else .slc s p
  |o=>o
 have h1:=h.weaken (own':=jf) (fun b hb=>by simp only[jf,hb]) m hm (fun b q hb=>by simp only[jf,hb,Ac0,if_true]);have:=h1.mono (own':=G'.own) (w':=w) (q:=[]) (q':=[]) (r':=t) (fun b hb=>⟨?_,rfl⟩) [] rfl (fun b q hb=>⟨?_,rfl⟩)
 ·simpa using this
 ·simp only[jf]at hb
  split at hb
  ·rename_i s p e
   split at hb
   ·rename_i hs
    subst hs;split at hb
    ·cases hb
    ·rename_i hp
     rw[hG.own s t m hz b p e,if_neg hp]
   ·cases hb
  ·exact hG.frz b hb
 ·simp only[jf]at hb
  split at hb
  ·rename_i s p e
   split at hb
   ·rename_i hs
    subst hs;split at hb
    ·rename_i hp
     injection hb with e1 e2
     simp only[Ac0]at e2 ⊢;subst e2;rw[hG.own s t m hz b p e,if_pos hp]
    ·cases hb
   ·rename_i hs
    injection hb with e1 e2
    exact absurd e1 hs
  ·rename_i vv
   exact absurd hb (vv _ _)
theorem Rd.give (hG:Ya8 Z nbx G G'){deps:List (Nat×Nat)}(hz:∀ z∈deps,z.1∈Z.frz){v:Value}{d:D}(h:Rd (allow G deps) w v d):Rd (fun b=>G'.own b=.frz) w v d:=by
 refine h.mono fun b hb=>⟨?_,rfl⟩
 rcases hb with hb|⟨r,k,p,hm,hb⟩
 ·exact hG.frz b hb
 ·exact hG.fr r (hz _ hm) b p hb
theorem Qa7 (hR:R E.ntmps F σ ρ a w G){A B:Fin}{m:Nat}{l:aR}(h:(Qa8 A m l).eval σ=some B)(hZ:FLe B Z)(hG:Ya8 Z nbx G G'){v:Value}(hl:aB σ ρ G w l v) :
  Rp G'.own w (2*A.q) [] m v ((Z.xs.map (·.val ρ)).getD A.xs.length .undef)/\FLe A B/\B.xs.length=A.xs.length+1/\B.q=A.q+1:=by
 unfold Qa8 at h;split at h
 ·rename_i nie z
  simp only[aF,Option.some.injEq]at h;subst h;refine⟨?_,⟨⟨_,rfl⟩,fun _ h=>h,fun _ h=>h,⟨[],by simp[Va5]⟩,fun _ h=>h⟩,by simp[Va5],rfl⟩;rw[hZ.get (l:=A.xs) rfl];simp only[aB]at hl;have hv:=(hl.2 (by simp)).2.1 trivial z rfl;rw[hv]
  cases m with
  |zero=>exact .fz (.rows none ⟨0,0,none⟩ 0 0 z [] (fun _ _=>undef) rfl (Zb2 _) (.inl rfl) (by simp) (by simp) (by simp))
  |succ m=>exact .sl none ⟨0,0,none⟩ 0 0 z [] (fun _ _=>undef) rfl (Zb2 _) (.inr ⟨rfl,rfl⟩) (by simp) (fun e=>by cases e) (by simp) (by simp)
 ·rename_i r
  simp only[aA,aU,Zbv]at h;split at h
  ·rename_i x m' bc hk
   simp only[aA,aJ,Zbn,aF,Option.some.injEq]at h;obtain⟨_,h1,rfl⟩:=h;split at h1
   case isFalse=>cases h1
   rename_i hb;simp only[Ac2]at hb;refine⟨?_,⟨⟨_,rfl⟩,fun _ h=>Zbp _ h,fun _ h=>h,⟨[],by simp[zX]⟩,fun _ h=>h⟩,by simp[zX],rfl⟩;rw[hZ.get (l:=A.xs) rfl];simp only[aB]at hl;rw[hl.1];have hr:=hR.root hk;simp only[bP]at hr;exact hr.give hG (hZ.own _ (by simp[zX])) hb
  ·cases h
 ·rename_i r k nie x
  simp only[aA,aU,Zbv]at h;split at h
  ·rename_i x' m' bc hk
   simp only[aA,aJ,Zbn,aF,Option.some.injEq]at h;obtain⟨_,h1,rfl⟩:=h;split at h1
   case isFalse=>cases h1
   rename_i hb;simp only[Zbo,Ac2,Acj]at hb;obtain⟨hb,rfl⟩:=hb;refine⟨?_,⟨⟨_,rfl⟩,fun _ h=>Zbp _ h,fun _ h=>h,⟨[],by simp[zX]⟩,fun _ h=>h⟩,by simp[zX],rfl⟩;rw[hZ.get (l:=A.xs) rfl];simp only[aB]at hl
   have hp:=(hl.2 fun z hz=>by
    simp only[Zb0]at hz;subst hz;exact⟨x',m',.live,hk,.inl rfl⟩).2.2
   exact (hp r bc m' rfl ⟨x',hk⟩).give hG (hZ.own _ (by simp[zX])) hb
  ·cases h
 ·cases h
theorem Qa9 (hR:R E.ntmps F σ ρ a w G){A B:Fin}{l:aR}(h:(Raa A l).eval σ=some B)(hZ:FLe B Z)(hG:Ya8 Z nbx G G'){v:Value}(hl:aB σ ρ G w l v) :
  Rd (fun b=>G'.own b=.frz) w v ((Z.xs.map (·.val ρ)).getD A.xs.length .undef)/\FLe A B/\B.xs.length=A.xs.length+1/\B.q=A.q:=by
 unfold Raa at h;simp only[aA,Zbn,aF,Option.some.injEq]at h;obtain⟨s,h1,rfl⟩:=h;refine⟨?_,⟨⟨_,rfl⟩,fun _ h=>h,fun _ h=>Zbp _ h,⟨[],by simp⟩,fun _ h=>h⟩,by simp,rfl⟩;rw[hZ.get (l:=A.xs) rfl];have hs:=dU hR h1 hl;exact hs.rd.give hG fun z hz=>hZ.frz _ (Zbs _ (Bci hz))
theorem Tau (hR:R E.ntmps F σ ρ a w G){A B:Fin}{s:BO}{l:aR}(h:(Da9 A s l).eval σ=some B)(hZ:FLe B Z)(hG:Ya8 Z nbx G G'){v:Value}(hl:aB σ ρ G w l v) :
  Eat G'.own w (Z.xs.map (·.val ρ)) A.xs.length A.q s v/\FLe A B/\B.xs.length=A.xs.length+1/\B.q=A.q+s.q:=by
 cases s with
 | sc =>
  cases l<;>simp only[Da9,bO,reduceCtorEq]at h
  rename_i x;simp only[aF,Option.some.injEq]at h;subst h;refine⟨?_,⟨⟨_,rfl⟩,fun _ h=>h,fun _ h=>h,⟨[],by simp⟩,fun _ h=>h⟩,by simp,rfl⟩;simp only[Eat];rw[hZ.get (l:=A.xs) rfl];simpa[aB] using hl
 | fz =>
  have h':(Raa A l).eval σ=some B:=by cases l<;>exact h
  exact Qa9 hR h' hZ hG hl
 | ow m =>
  have h':(Qa8 A m l).eval σ=some B:=by cases l<;>exact h
  exact Qa7 hR h' hZ hG hl
 | dead =>
  have h':(bif Oa5 l then RdM.ret { A with xs:=A.xs++[.c .hole] } else .no:RdM Fin).eval σ=some B:=by cases l<;>exact h
  cases hb:Oa5 l with
  |false=>rw[hb]at h';cases h'
  | true =>
   rw[hb,cond_true]at h';simp only[aF,Option.some.injEq]at h';subst h';exact⟨hl.one hb,⟨⟨_,rfl⟩,fun _ h=>h,fun _ h=>h,⟨[],by simp⟩,fun _ h=>h⟩,by simp,rfl⟩
theorem Cau:∀ {ss:List BO} {ls:List aR} {A B:Fin},(jC A ss ls).eval σ=some B->(∀ {A B:Fin} {s:BO} {l:aR},(Da9 A s l).eval σ=some B->FLe A B)->FLe A B
 | [], [], A, B, h, _ => by
  simp only[jC,aF,Option.some.injEq]at h;subst h;exact .refl _
 |[],_::_,A,B,h,_=>by simp[jC,bO]at h
 |_::_,[],A,B,h,_=>by simp[jC,bO]at h
 | s :: ss, l :: ls, A, B, h, hc => by
  simp only[jC,aA,Zbn]at h;obtain⟨C,h1,h2⟩:=h;exact (hc h1).trans (Cau h2 hc)
theorem Va4 {A B:Fin}{m:Nat}{l:aR}(h:(Qa8 A m l).eval σ=some B):FLe A B:=by
 unfold Qa8 at h;split at h
 ·simp only[aF,Option.some.injEq]at h
  subst h;exact⟨⟨_,rfl⟩,fun _ h=>h,fun _ h=>h,⟨[],by simp[Va5]⟩,fun _ h=>h⟩
 ·simp only[aA,aU,Zbv]at h
  split at h
  ·simp only[aA,aJ,Zbn,aF,Option.some.injEq]at h
   obtain⟨_,-,rfl⟩:=h;exact⟨⟨_,rfl⟩,fun _ h=>Zbp _ h,fun _ h=>h,⟨[],by simp[zX]⟩,fun _ h=>h⟩
  ·cases h
 ·simp only[aA,aU,Zbv]at h
  split at h
  ·simp only[aA,aJ,Zbn,aF,Option.some.injEq]at h
   obtain⟨_,-,rfl⟩:=h;exact⟨⟨_,rfl⟩,fun _ h=>Zbp _ h,fun _ h=>h,⟨[],by simp[zX]⟩,fun _ h=>h⟩
  ·cases h
 ·cases h
theorem Va6 {A B:Fin}{l:aR}(h:(Raa A l).eval σ=some B):FLe A B:=by
 unfold Raa at h;simp only[aA,Zbn,aF,Option.some.injEq]at h;obtain⟨s,h1,rfl⟩:=h;exact⟨⟨_,rfl⟩,fun _ h=>h,fun _ h=>Zbp _ h,⟨[],by simp⟩,fun _ h=>h⟩
theorem Yal {A B:Fin}{s:BO}{l:aR}(h:(Da9 A s l).eval σ=some B):FLe A B:=by
 cases s with
 | sc =>
  cases l<;>simp only[Da9,bO,reduceCtorEq]at h
  simp only[aF,Option.some.injEq]at h;subst h;exact⟨⟨_,rfl⟩,fun _ h=>h,fun _ h=>h,⟨[],by simp⟩,fun _ h=>h⟩
 | fz =>
  have h':(Raa A l).eval σ=some B:=by cases l<;>exact h
  exact Va6 h'
 | ow m =>
  have h':(Qa8 A m l).eval σ=some B:=by cases l<;>exact h
  exact Va4 h'
 | dead =>
  have h':(bif Oa5 l then RdM.ret { A with xs:=A.xs++[.c .hole] } else .no:RdM Fin).eval σ=some B:=by cases l<;>exact h
  cases hb:Oa5 l with
  |false=>rw[hb]at h';cases h'
  | true =>
   rw[hb,cond_true]at h';simp only[aF,Option.some.injEq]at h';subst h';exact⟨⟨_,rfl⟩,fun _ h=>h,fun _ h=>h,⟨[],by simp⟩,fun _ h=>h⟩
theorem uE {ss:List BO}{ls:List aR}{A B:Fin}(h:(jC A ss ls).eval σ=some B):FLe A B:=Cau h fun h=>Yal h
theorem wZ (hR:R E.ntmps F σ ρ a w G)(hG:Ya8 Z nbx G G'){ad:Addr}:∀ {ss:List BO} {ls:List aR} {A B:Fin} {off:Nat},(jC A ss ls).eval σ=some B->FLe B Z ->
  (∀ j l,ls[j]?=some l->∃ v,w.cell? (ad.add (off+j))=some v/\w.frozen? (ad.add (off+j))=false/\aB σ ρ G w l v) ->
  Dai G'.own w (Z.xs.map (·.val ρ)) ad off A.xs.length A.q ss/\B.xs.length=A.xs.length+ss.length/\B.q=A.q+qC ss
 | [], [], A, B, off, h, _, _ => by
  simp only[jC,aF,Option.some.injEq]at h;subst h;exact⟨trivial,rfl,rfl⟩
 |[],_::_,A,B,off,h,_,_=>by simp[jC,bO]at h
 |_::_,[],A,B,off,h,_,_=>by simp[jC,bO]at h
 | s :: ss, l :: ls, A, B, off, h, hZ, hl => by
  simp only[jC,aA,Zbn]at h;obtain⟨C,h1,h2⟩:=h;obtain⟨v,h3,h4,h5⟩:=hl 0 l rfl;obtain⟨h6,h7,h8,h9⟩:=Tau hR h1 ((uE h2).trans hZ) hG h5
  obtain⟨cQ,dz,fy⟩:=wZ hR hG (off:=off+1) h2 hZ fun j l' hj=>by
   have:=hl (j+1) l' (by simpa using hj);rwa[show off+(j+1)=off+1+j by omega]at this
  rw[h8,h9]at cQ;exact⟨⟨⟨v,h3,h4,h6⟩,cQ⟩,by rw[dz,h8];simp;omega,by rw[fy,h9];simp only[qC];omega⟩
end
def Ib1 (tmps:Array Value):ResultVar->Sem Value
 |.tmp t=>pure (tmps.getD t undef)
 |.cell a t=>do loadVar t (<- asAddr (tmps.getD a undef))
def Ea6 (P:Program)(tmps:Array Value)(w:World)(x:ResultVar):Value:=match (Ib1 tmps x).run P w with
 |.ok v _=>v
 |_=>undef
theorem Pav {P:Program}{tmps:Array Value}{w:World}{x:ResultVar}{v:Value}(h:(Ib1 tmps x).run P w=.ok v w):Ea6 P tmps w x=v/\(Ib1 tmps x).run P w=.ok (Ea6 P tmps w x) w:=by
 have:Ea6 P tmps w x=v:=by unfold Ea6;rw[h]
 exact⟨this,by rw[this];exact h⟩
theorem Za4 (vs:Array Value):(if h:vs.size=1 then vs[0] else Value.tuple vs)=Ea5 vs.toList:=by
 obtain⟨l⟩:=vs
 match l with
 |[]=>rfl
 |[u]=>rfl
 |u::v::r=>simp[Ea5]
section
variable {P:Program} {E:Env} {F:bG} {σ:Nat->Option aS} {ρ:List D} {a:Act} {w:World} {G G':Gh} {cf:Nat->List D->Option (List D)} {Z:Fin} {nbx nv:Nat}
theorem Yak {A B:Fin}{s:LR}{l:aR}(h:(Ia1 nv A s l).eval σ=some B):FLe A B:=by
 unfold Ia1 at h;split at h
 ·simp only[aF,Option.some.injEq]at h
  subst h;exact⟨⟨_,rfl⟩,fun _ h=>h,fun _ h=>h,⟨[],by simp⟩,fun _ h=>h⟩
 ·exact Va6 h
 ·exact Va4 h
 ·simp only[aF,Option.some.injEq]at h
  subst h;exact⟨⟨_,rfl⟩,fun _ h=>h,fun _ h=>h,⟨[],by simp⟩,fun _ h=>h⟩
 ·simp only[aA,Zbn,aF,Option.some.injEq]at h
  obtain⟨d,-,rfl⟩:=h;exact⟨⟨_,rfl⟩,fun _ h=>h,fun _ h=>Zbp _ h,⟨[],by simp⟩,fun _ h=>h⟩
 ·simp only[aA,Zbn,aF,Option.some.injEq]at h
  obtain⟨d,-,rfl⟩:=h;exact⟨⟨_,rfl⟩,fun _ h=>h,fun _ h=>Zbp _ h,⟨_,rfl⟩,fun _ h=>h⟩
 ·cases h
theorem Tat (hR:R E.ntmps F σ ρ a w G)(aE:aN cf ρ none nv Z.lets){A B:Fin}{s:LR}{l:aR}(h:(Ia1 nv A s l).eval σ=some B)(hZ:FLe B Z)(hG:Ya8 Z nbx G G'){v:Value}(hl:aB σ ρ G w l v) :
  lW G'.own w (Z.xs.map (·.val ρ)) nbx A.xs.length A.q s v/\B.xs.length=A.xs.length+s.n/\B.q=A.q+s.q:=by
 unfold Ia1 at h;split at h
 ·simp only[aF,Option.some.injEq]at h
  subst h;refine⟨?_,by simp[LR.n],rfl⟩;simp only[lW];rw[hZ.get (l:=A.xs) rfl];simpa[aB] using hl
 ·obtain⟨h1,-,h2,h3⟩:=Qa9 hR h hZ hG hl
  exact⟨h1,h2,h3⟩
 ·obtain⟨h1,-,h2,h3⟩:=Qa7 hR h hZ hG hl
  exact⟨h1,h2,h3⟩
 ·simp only[aF,Option.some.injEq]at h
  subst h;refine⟨?_,by simp[LR.n],rfl⟩;simp only[lW];rw[hZ.get (l:=A.xs) rfl];simp only[aB]at hl;exact⟨by rw[hl];rfl,.inl ⟨hl,_,rfl⟩⟩
 ·rename_i z deps z' x
  simp only[aA,Zbn,aF,Option.some.injEq]at h;obtain⟨ds,h1,rfl⟩:=h;refine⟨?_,by simp[LR.n],rfl⟩;simp only[lW];rw[hZ.get (l:=A.xs) rfl];simp only[aB]at hl;obtain⟨h3,h4,h5⟩:=iY h1;refine⟨hl.1.1,?_⟩
  rcases hl.2 h3 with h6|⟨ad,row,h6,h7,h8⟩
  ·exact .inl h6
  ·exact .inr ⟨ad,row,h6,h7,(h8.drop hR h5).give hG fun z hz=>hZ.frz _ (Zbs _ (Bci hz))⟩
 ·rename_i z l' z' ix
  simp only[aA,Zbn,aF,Option.some.injEq]at h;obtain⟨sl,h1,rfl⟩:=h;refine⟨?_,by simp[LR.n],rfl⟩;simp only[lW];rw[hZ.get (l:=A.xs) rfl];simp only[aB]at hl;obtain⟨ad,n,cp,ik,iv,h3,h4,h5,h6,h7⟩:=hl;have hs:=dU hR h1 h3;obtain⟨lr,hlr⟩:=hZ.lets;dsimp only at hlr;rw[hlr,Zbx]at aE;have sB:=(aN.append aE).2;have mj:aN cf ρ none (nv+bH A.lets) [.prim (.one z') [sl.x,ix] 1]:=(aN.append sB).1;obtain⟨d,bh,hd⟩:=fP mj rfl;simp only[Acg,Acm,h4]at bh
  have fL:∃ sz rs r,sl.x.val ρ=.rows sz rs/\sz=z'/\rs[iv.toNat]?=some r/\d=.rows z' [r]:=by
   cases hx:sl.x.val ρ with
   | rows sz rs =>
    rw[hx]at bh;simp only[aT.run]at bh;split at bh
    ·rename_i hc
     split at bh
     ·rename_i r hr
      simp only[Option.some.injEq,List.cons.injEq,and_true]at bh;exact⟨sz,rs,r,rfl,hc.1,hr,bh.symm⟩
     ·cases bh
    ·cases bh
   |_=>rw[hx]at bh;simp[aT.run]at bh
  obtain⟨sz,rs,r,hx,rfl,hr,rfl⟩:=fL;have gE:=hs.rd;rw[hx]at gE;obtain⟨A',b,n',c',vs,e1,e2,e3,e4,e5,e6,e7⟩:=gE.inv
  injection e1 with e1 e1' e1''
  have hlt:iv.toNat<rs.length:=(List.getElem?_eq_some_iff.1 hr).1;have hA:some ad=some b:=by rw[e1];exact e4.resolve_left (by omega)
  obtain rfl:=Option.some.inj hA;have qo:r.length=sz:=e5 r (Zb4 hr);refine⟨by rw[h7];rfl,.inr ⟨_,r,h7,by rw[hd,qo],?_⟩⟩
  have:Rd (allow G sl.deps) w (.slice (some (ad.add (iv.toNat*sz+0))) 1 1) (.rows r.length [r]):=by
   refine .rows _ (ad.add (iv.toNat*sz+0)) 1 1 r.length [r] (fun _ j=>vs iv.toNat j) rfl (Zb2 _) (.inr rfl) (by simp) (fun i0 r0 nq j d0 hj=>?_) (fun i0 r0 nq j d0 hj=>?_)
   ·cases i0 with
    | zero =>
     simp only[Zbw,Option.some.injEq]at nq;subst nq;obtain⟨k1,k2⟩:=e6 _ _ hr j d0 hj;refine⟨by rw[add_block];exact k1,?_⟩;rw[add_add];rw[show iv.toNat*sz+0+(0*r.length+j)=iv.toNat*sz+j by omega];exact k2
    |succ i0=>simp at nq
   ·cases i0 with
    | zero =>
     simp only[Zbw,Option.some.injEq]at nq;subst nq;exact e7 _ _ hr j d0 hj
    |succ i0=>simp at nq
  exact this.give hG fun z hz=>hZ.frz _ (Zbs _ (Bci hz))
 ·cases h
theorem qN:∀ {ss:List LR} {ls:List aR} {A B:Fin},(iD nv A ss ls).eval σ=some B->FLe A B
 | [], [], A, B, h => by
  simp only[iD,aF,Option.some.injEq]at h;subst h;exact .refl _
 |[],_::_,A,B,h=>by simp[iD,bO]at h
 |_::_,[],A,B,h=>by simp[iD,bO]at h
 | s :: ss, l :: ls, A, B, h => by
  simp only[iD,aA,Zbn]at h;obtain⟨C,h1,h2⟩:=h;refine FLe.trans ?_ (qN h2);split at h1
  ·rename_i cs b
   simp only[aA,aU,Zbv]at h1;split at h1
   ·have h0:FLe A { A with bxs:=A.bxs++[b] }:=⟨⟨[],by simp⟩,fun _ h=>h,fun _ h=>h,⟨[],by simp⟩,fun _ h=>Zbp _ h⟩
    exact FLe.trans h0 (uE h1)
   ·cases h1
  ·exact Yak h1
theorem uD (hR:R E.ntmps F σ ρ a w G)(aE:aN cf ρ none nv Z.lets)(hG:Ya8 Z nbx G G'):∀ {ss:List LR} {ls:List aR} {A B:Fin} {vs:List Value},(iD nv A ss ls).eval σ=some B->FLe B Z->aG σ ρ G w ls vs ->
  pV G'.own w (Z.xs.map (·.val ρ)) nbx A.xs.length A.q ss vs/\B.xs.length=A.xs.length+mZ ss/\B.q=A.q+qL ss
 | [], [], A, B, vs, h, _, hl => by
  simp only[iD,aF,Option.some.injEq]at h;subst h;simp only[aG]at hl;exact⟨hl,rfl,rfl⟩
 |[],_::_,A,B,vs,h,_,_=>by simp[iD,bO]at h
 |_::_,[],A,B,vs,h,_,_=>by simp[iD,bO]at h
 | s :: ss, l :: ls, A, B, vs, h, hZ, hl => by
  simp only[iD,aA,Zbn]at h;obtain⟨C,h1,h2⟩:=h;simp only[aG]at hl;obtain⟨u,us,rfl,h3,h4⟩:=hl;have hCZ:FLe C Z:=(qN h2).trans hZ
  have key:lW G'.own w (Z.xs.map (·.val ρ)) nbx A.xs.length A.q s u/\C.xs.length=A.xs.length+s.n/\C.q=A.q+s.q:=by
   split at h1
   ·rename_i cs b
    simp only[aA,aU,Zbv]at h1;split at h1
    ·rename_i bs hk
     obtain⟨h5,h6,h7⟩:=hR.box hk;simp only[Zbr,if_false]at h6;obtain⟨h8,h9,cQ⟩:=wZ hR hG (ad:=G.bx b) (off:=0) h1 hCZ fun j l hj=>by rw[Acl];exact h7 j l hj
     refine⟨?_,h9,cQ⟩;simp only[aB]at h3;simp only[lW];exact⟨G.bx b,h3.1,h5,hG.bxs b (hCZ.bxs _ ((uE h1).bxs _ (Zbs _ (List.mem_singleton.2 rfl)))) _ h6,h8⟩
    ·cases h1
   ·exact Tat hR aE h1 hCZ hG h3
  obtain⟨h5,h6,h7⟩:=key;obtain⟨h8,h9,cQ⟩:=uD hR aE hG h2 hZ h4;rw[h6,h7]at h8;exact⟨⟨u,us,rfl,h5,h8⟩,by rw[h9,h6];simp only[mZ];omega,by rw[cQ,h7];simp only[qL];omega⟩
theorem Cat:∀ {rs:List (Bool×List LR)} {vars:List ResultVar} {A B:Fin},(pE E nv A rs vars).eval σ=some B->FLe A B
 | [], [], A, B, h => by
  simp only[pE,aF,Option.some.injEq]at h;subst h;exact .refl _
 |[],_::_,A,B,h=>by simp[pE,bO]at h
 |_::_,[],A,B,h=>by simp[pE,bO]at h
 | (ag, ss) :: rs, .tmp t :: vars, A, B, h => by
  simp only[pE,aA,aU,Zbv]at h;split at h
  ·simp only[aA,Zbn]at h
   obtain⟨_,-,ls,-,C,h1,h2⟩:=h;exact (qN h1).trans (Cat h2)
  ·cases h
 | (ag, ss) :: rs, .cell t ty :: vars, A, B, h => by
  simp only[pE,aA,Zbn]at h;obtain⟨ti,-,_,-,_,-,h⟩:=h;split at h
  ·simp only[aA,aU,Zbv]at h
   split at h
   ·simp only[aA,Zbn]at h
    obtain⟨C,h1,h2⟩:=h;exact (qN h1).trans (Cat h2)
   ·cases h
  ·cases h
theorem Qa1 {n t:Nat}{gh:Nat->Value}(h:t<n):a.tmps.getD t undef=Aa7 n a gh t:=by
 unfold Aa7;rw[if_pos h]
theorem Da8 (hti:vJ P E.ti)(hR:R E.ntmps F σ ρ a w G)(aE:aN cf ρ none nv Z.lets)(hG:Ya8 Z nbx G G'):∀ {rs:List (Bool×List LR)} {vars:List ResultVar} {A B:Fin},(pE E nv A rs vars).eval σ=some B->FLe B Z ->
  (∀ x∈vars,(Ib1 a.tmps x).run P w=.ok (Ea6 P a.tmps w x) w)/\Mab G'.own w (Z.xs.map (·.val ρ)) nbx A.xs.length A.q rs (vars.map (Ea6 P a.tmps w))/\B.xs.length=A.xs.length+bK rs/\B.q=A.q+qR rs
 | [], [], A, B, h, _ => by
  simp only[pE,aF,Option.some.injEq]at h;subst h;exact⟨by simp,rfl,rfl,rfl⟩
 |[],_::_,A,B,h,_=>by simp[pE,bO]at h
 |_::_,[],A,B,h,_=>by simp[pE,bO]at h
 | (ag, ss) :: rs, .tmp t :: vars, A, B, h, hZ => by
  simp only[pE,aA,aU,Zbv]at h;split at h
  case h_2=>cases h
  rename_i sv hk;simp only[aA,Zbn,aJ,aW]at h;obtain⟨_,h0,ls,h1,C,h2,h3⟩:=h;split at h0
  case isFalse=>cases h0
  rename_i ht;simp only[Acw]at ht;have hv:=hR.slot hk rfl;rw[<- Qa1 ht]at hv;have bh:(Ib1 a.tmps (.tmp t)).run P w=.ok (a.tmps.getD t undef) w:=rfl;obtain⟨e1,e2⟩:=Pav bh;have hC:=(Cat h3).trans hZ;obtain⟨h4,h5,h6⟩:=uD hR aE hG h2 hC (iG h1 hv);obtain⟨h7,h8,h9,cQ⟩:=Da8 hti hR aE hG h3 hZ;rw[h5,h6]at h8;refine⟨fun x hx=>?_,⟨_,_,_,rfl,h4,?_,h8⟩,by rw[h9,h5];simp only[bK];omega,by rw[cQ,h6];simp only[qR];omega⟩
  ·rcases List.mem_cons.1 hx with rfl|hx
   ·exact e2
   ·exact h7 x hx
  ·rw[e1]
   unfold jY at h1;split at h1
   ·cases ag with
    |true=>cases h1
    | false =>
     rw[aB.cells hv];simp
   ·cases ag with
    |false=>cases h1
    | true =>
     obtain⟨us,e,-⟩:=hv;rw[e];simp[Value.cells]
   ·cases h1
 | (ag, ss) :: rs, .cell t ty :: vars, A, B, h, hZ => by
  simp only[pE,aA,Zbn,aW,aJ,aU]at h;obtain⟨ti,h0,_,h1,c,hc,h⟩:=h;obtain rfl:=Option.some.inj hc;split at h1
  case isFalse=>cases h1
  rename_i hb;simp only[Zbo,beq_iff_eq,Acj,Ac1,Acw]at hb;obtain⟨⟨⟨vf,df⟩,lh⟩,ht⟩:=hb;split at h
  case h_2=>cases h
  rename_i b off hk;simp only[aA,aU,Zbv]at h;split at h
  case h_2=>cases h
  rename_i ro ls nf;simp only[aA,Zbn]at h;obtain⟨C,h2,h3⟩:=h;have hv:aB σ ρ G w (.px b off) _:=hR.slot hk rfl;rw[<- Qa1 ht]at hv;simp only[aB]at hv;obtain⟨qc,im,te⟩:=hR.box nf
  obtain⟨vs,h4,h5⟩:=lN (σ:=σ) (ρ:=ρ) (G:=G) (w:=w) ((G.bx b).add off) ((ls.drop off).take ti.size) 0 fun j l hj=>by
   rw[List.getElem?_take]at hj;split at hj
   ·rw[Acv]at hj
    obtain⟨v,h6,-,h7⟩:=te _ _ hj;exact⟨v,by rw[add_add,Acl];exact h6,h7⟩
   ·cases hj
  have hC:=(Cat h3).trans hZ;obtain⟨h6,h7,h8⟩:=uD hR aE hG h2 hC h4
  have hlen:vs.length=ti.size:=by
   have fR:∀ {ss:List LR} {vs:List Value} {i q:Nat},pV G'.own w (Z.xs.map (·.val ρ)) nbx i q ss vs->vs.length=ss.length:=by
    intro ss
    induction ss with
    |nil=>intro vs i q h;simp only[pV]at h;subst h;rfl
    | cons s ss ih =>
     intro vs i q h;obtain⟨u,us,rfl,-,h⟩:=h;simp[ih h]
   rw[fR h6,df]
  obtain⟨info,ud,hf⟩:=aX (hti.ok _ _ h0)
  have dm:∃ v,if ti.agg=true then v=.agg vs.toArray else vs=[v]:=by
   cases hta:ti.agg with
   |true=>exact⟨_,by rw[if_pos rfl]⟩
   | false =>
    rw[hta]at lh;simp only[Zbr,false_or]at lh;rw[lh]at hlen
    match vs,hlen with
    |[v],_=>exact⟨v,by simp⟩
  obtain⟨v,dm⟩:=dm;have sY:=kK hf ((G.bx b).add off) vs hlen (fun j u hj=>by have:=h5 j u hj;rwa[Acl]at this) dm
  have bh:(Ib1 a.tmps (.cell t ty)).run P w=.ok v w:=by
   show (do loadVar ty (<- asAddr (a.tmps.getD t undef)):Sem Value).run P w=.ok v w
   rw[hv.1];simp only[asAddr,Sem.run_bind,Sem.run_pure,Result.andThen_ok];exact sY
  obtain⟨e1,e2⟩:=Pav bh;obtain⟨h9,cQ,dz,fy⟩:=Da8 hti hR aE hG h3 hZ;rw[h7,h8]at cQ;refine⟨fun x hx=>?_,⟨_,_,vs,rfl,h6,?_,cQ⟩,by rw[dz,h7];simp only[bK];omega,by rw[fy,h8];simp only[qR];omega⟩
  ·rcases List.mem_cons.1 hx with rfl|hx
   ·exact e2
   ·exact h9 x hx
  ·rw[e1,vf];exact dm
theorem Ia0 {t:Nat}:∀ {ms:List Nat} {j:Nat} {A B:Fin},(Fak t j ms A).eval σ=some B->FLe A B
 | [], j, A, B, h => by
  simp only[Fak,aF,Option.some.injEq]at h;subst h;exact .refl _
 | d :: ms, j, A, B, h => by
  simp only[Fak,aA,aU,Zbv]at h;split at h
  case h_2=>cases h
  rename_i r hk;simp only[aA,aU,Zbv]at h;split at h
  case h_2=>cases h
  rename_i x m bc oa;simp only[aA,Zbn]at h;obtain⟨_,-,h⟩:=h;have h0:FLe A { A with xs:=A.xs++[x],own:=A.own++[(r,2*j+1,d)] }:=⟨⟨_,rfl⟩,fun _ h=>Zbp _ h,fun _ h=>h,⟨[],by simp⟩,fun _ h=>h⟩;exact h0.trans (Ia0 h)
theorem La0 (hR:R E.ntmps F σ ρ a w G)(hG:Ya8 Z nbx G G'):∀ {ms:List Nat} {j:Nat} {A B:Fin},(Fak E.ntmps j ms A).eval σ=some B->FLe B Z ->
  Wat G'.own w (Z.xs.map (·.val ρ)) F.gh A.xs.length j ms/\B.xs.length=A.xs.length+ms.length/\B.q=A.q
 | [], j, A, B, h, _ => by
  simp only[Fak,aF,Option.some.injEq]at h;subst h;exact⟨trivial,rfl,rfl⟩
 | d :: ms, j, A, B, h, hZ => by
  simp only[Fak,aA,aU,Zbv]at h;split at h
  case h_2=>cases h
  rename_i r hk;simp only[aA,aU,Zbv]at h;split at h
  case h_2=>cases h
  rename_i x m bc oa;simp only[aA,Zbn,aJ]at h;obtain⟨_,h0,h⟩:=h;split at h0
  case isFalse=>cases h0
  rename_i hb;simp only[Ac2]at hb;have hv:aB σ ρ G w (.ex r) _:=hR.slot hk rfl
  have e:Aa7 E.ntmps a F.gh (E.ntmps+j)=F.gh j:=by
   unfold Aa7;rw[if_neg (by omega),Acs]
  rw[e]at hv;simp only[aB]at hv;have hC:=(Ia0 h).trans hZ;obtain⟨h1,h2,h3⟩:=La0 hR hG h hZ;simp only[List.length_append,List.length_singleton]at h1 h2;refine⟨⟨?_,h1⟩,by rw[h2];simp;omega,h3⟩;rw[hC.get (l:=A.xs) rfl,hv.1];have hr:=hR.root oa;simp only[bP]at hr;exact hr.give hG (hC.own _ (Zbs _ (List.mem_singleton.2 rfl))) hb
theorem uF {t:Nat}:∀ {bs:List (Bool×List (BS×BO))} {b:Nat} {A B:Fin},(qO t A b bs).eval σ=some B->FLe A B
 | [], b, A, B, h => by
  simp only[qO,aF,Option.some.injEq]at h;subst h;exact .refl _
 | (ro, cs) :: bs, b, A, B, h => by
  simp only[qO]at h
  cases ro with
  |true=>exact uF h
  | false =>
   simp only[cond_false,aA,aU,Zbv]at h;split at h
   ·simp only[aA,aU,Zbv,Zbn]at h
    obtain⟨_,-,h⟩:=h;split at h
    ·simp only[aA,Zbn]at h
     obtain⟨C,h1,h2⟩:=h;exact (uE h1).trans (uF h2)
    ·cases h
   ·cases h
theorem xA (hR:R E.ntmps F σ ρ a w G)(hG:Ya8 Z nbx G G'){nm:Nat}{bx:Nat->Addr}{nb:Nat}(zf:∀ b,b<nb->F.gh (nm+b)=.pointer (some (bx b))):∀ {bs:List (Bool×List (BS×BO))} {b:Nat} {A B:Fin},b+bs.length<=nb->(qO (E.ntmps+nm) A b bs).eval σ=some B->FLe B Z ->
  lX G'.own w (Z.xs.map (·.val ρ)) bx b A.xs.length A.q bs
 |[],b,A,B,_,h,_=>trivial
 | (ro, cs) :: bs, b, A, B, uz, h, hZ => by
  simp only[Zb1]at uz;simp only[qO]at h
  cases ro with
  | true =>
   simp only[lX,if_true];exact xA hR hG zf (by omega) h hZ
  | false =>
   simp only[lX,Zbr,if_false];simp only[cond_false,aA,aU,Zbv]at h;split at h
   case h_2=>cases h
   rename_i b' hk;simp only[aA,aU,Zbv,Zbn,aJ]at h;obtain⟨_,h0,h⟩:=h;split at h0
   case isFalse=>cases h0
   rename_i hb;simp only[Acj]at hb;subst hb;split at h
   case h_2=>cases h
   rename_i ls nf;simp only[aA,Zbn]at h;obtain⟨C,h1,h2⟩:=h;have hv:aB σ ρ G w (.px b' 0) _:=hR.slot hk rfl
   have e:Aa7 E.ntmps a F.gh (E.ntmps+nm+b')=F.gh (nm+b'):=by
    unfold Aa7;rw[if_neg (by omega)];congr 1;omega
   rw[e,zf b' (by omega)]at hv;simp only[aB]at hv
   have gb:bx b'=G.bx b':=by
    have:=hv.1
    injection this with this
    injection this
   obtain⟨h5,h6,h7⟩:=hR.box nf;obtain⟨h8,h9,cQ⟩:=wZ hR hG (ad:=G.bx b') (off:=0) h1 ((uF h2).trans hZ) fun j l hj=>by rw[Acl];exact h7 j l hj
   have dz:=xA hR hG zf (b:=b'+1) (by omega) h2 hZ;rw[h9,cQ,Zb3]at dz;rw[gb];exact⟨h8,dz⟩
end
theorem Ca1:∀ {l:List (Nat×Nat×Nat)} {r t m:Nat},distinct (l.map (·.1))=true->(r,t,m)∈l->l.find? (fun z=>Nat.beq z.1 r)=some (r,t,m)
 |[],r,t,m,_,h=>by simp at h
 | (r', t', m') :: l, r, t, m, hd, h => by
  simp only[Acg,distinct,Zbo,Ach]at hd
  rcases List.mem_cons.1 h with h1|h1
  ·obtain⟨rfl,rfl,rfl⟩:r=r'/\t=t'/\m=m':=by simpa using h1
   simp
  ·have cL:Nat.beq r' r=false:=by
    cases e:Nat.beq r' r with
    |false=>rfl
    | true =>
     simp only[Acj]at e;subst e;have:has (l.map (·.1)) r'=true:=mI.2 (List.mem_map.2 ⟨_,h1,rfl⟩);rw[hd.1]at this;cases this
   rw[List.find?_cons_of_neg (by simp[cL])];exact Ca1 hd.2 h1
def Nax (Z:Fin)(nbx:Nat)(G:Gh):Gh:={ G with own:=fun b=>match G.own b with
 | .slc r p => (match Z.own.find? (fun z => Nat.beq z.1 r) with
  |some (_,t,m)=>if p.length<m then .slc t p else .frz
  |none=>if r∈Z.frz then .frz else .oth)
 |.box β=>if β<nbx then .box β else if β∈Z.bxs then .box nbx else .oth
 |o=>o }
theorem Gb6 {Z:Fin}{nbx:Nat}{G:Gh}(hd:distinct (Z.own.map (·.1))=true)(hm:meets (Z.own.map (·.1)) Z.frz=false)(hb:(Z.bxs.any fun b=>Nat.blt b nbx)=false):Ya8 Z nbx G (Nax Z nbx G):=by
 refine⟨fun b hb=>by simp only[Nax,hb],fun r t m hz b p hb=>?_,fun r hr b p hb=>?_,fun β hβ b hbb=>?_⟩
 ·simp only[Nax,hb,Ca1 hd hz]
 ·have:Z.own.find? (fun z=>Nat.beq z.1 r)=none:=by
   rw[List.find?_eq_none];intro z hz e;simp only[Acj]at e;exact oL hm (List.mem_map.2 ⟨z,hz,rfl⟩) (by rw[e];exact hr)
  simp only[Nax,hb,this,if_pos hr]
 ·rw[Cci]at hb
  have:=hb β hβ;simp only[Acw]at this;simp only[Nax,hbb,if_neg this,if_pos hβ]
section
variable {P:Program} {E:Env} {F:bG} {ρ:List D} {cf:Nat->List D->Option (List D)}
theorem Yaj (hti:vJ P E.ti){s:Sig}{xz:List ResultVar}{st:St}{t:Tm St}(h:finish E s xz st=some t){o:Out St}(ho:Ec cf t ρ=some o)(hl:ρ.length=st.nv)(hi:Dag E st) :
  o.kind=.ret/\∀ a w G (fn:Func) (bx:Nat->Addr),fn.results.toList=xz->(∀ b,b<s.boxes.length->F.gh ((dV (s.params.flatMap (·.2))).length+b)=.pointer (some (bx b))) ->
   (∀ b j,b<F.w0.heap.size->F.own0 b=.box j->j<s.boxes.length)->R E.ntmps F st.get ρ a w G ->
   ∃ v,(results fn a.tmps).run P w=.ok v w/\Oak s F bx v w o.vals:=by
 unfold finish at h;split at h
 case h_2=>cases h
 rename_i Z hZ;generalize hb:(distinct (Z.own.map (·.1))&&!(meets (Z.own.map (·.1)) Z.frz)&&!(Z.bxs.any fun b=>Nat.blt b s.boxes.length)&&eF st.nv Z.lets)=b at h
 cases b with
 |false=>cases h
 | true =>
  rw[cond_true]at h;obtain rfl:=Option.some.inj h;simp only[Zbo,Ach]at hb;obtain⟨⟨⟨qc,im⟩,te⟩,hb4⟩:=hb;obtain⟨ds,h4,h5,h6⟩:=vM (g:=none) rfl (by rw[hl];exact hb4) ho;rw[fO]at h5;obtain rfl:=Option.some.inj h5;refine⟨rfl,fun a w G fn bx hfn zf qk hR=>?_⟩;have aE:=h6 [];rw[Acf,hl]at aE;have hR:=hR.ext hi.sc (by omega) ds;have hG:=Gb6 (G:=G) qc im te;simp only[Ib2,aA,Zbn]at hZ;obtain⟨A,h7,B,h8,h9⟩:=hZ;have hB:=uF h9;have hA:=(Ia0 h8).trans hB;obtain⟨cQ,dz,fy,iq⟩:=Da8 (cf:=cf) hti hR aE hG h7 hA;obtain⟨ko,mm,mL⟩:=La0 hR hG h8 hB;have h17:=xA hR hG zf (b:=0) (by omega) h9 (.refl _);simp only[Zb7,Acl]at dz fy iq;rw[fy]at ko mm;rw[mm,mL,iq]at h17;refine⟨Ea5 (fn.results.toList.map (Ea6 P a.tmps w)),?_,Nax Z s.boxes.length G,_,by rw[hfn],?_,dz,ko,h17⟩
  ·have hm:(fn.results.mapM (Ib1 a.tmps)).run P w=.ok (fn.results.map (Ea6 P a.tmps w)) w:=zN _ _ _ (by rw[hfn];exact cQ)
   have e:results fn a.tmps=(do let vs <- fn.results.mapM (Ib1 a.tmps);pure (if h:vs.size=1 then vs[0] else Value.tuple vs)):=rfl;rw[e,Sem.run_bind,hm];simp only[Result.andThen_ok,Sem.run_pure];rw[Za4,Array.toList_map]
  ·refine⟨hR.frame.os,hR.frame.tape,hR.frame.output,hR.frame.size,fun b hb ho=>?_,fun b j hb ho=>?_,fun b hb=>?_⟩
   ·obtain⟨h18,h19⟩:=hR.frame.keep b hb ho
    refine⟨h18,?_⟩
    rcases ho with ho|ho<;>rw[ho]at h19 ⊢<;>simp only[Nax,h19]
   ·obtain⟨h18,h19⟩:=hR.frame.boxes b j hb ho
    refine⟨?_,h19⟩;simp only[Nax,h18,if_pos (qk b j hb ho)]
   ·simp only[Nax,hR.frame.fresh b hb]
end
def Goes (P:Program)(f:Nat)(args:Array Value)(w:World)(K:Value->World->Prop):Prop :=
 ((callFunc f args).run P w=.ok (.enter f args) w/\Calls P f args w fun
  |.returned v,w'=>K v w'
  |_,_=>False)\/∃ v w',(callFunc f args).run P w=.ok (.value v) w'/\K v w'
def uR (P:Program)(T:Nat->Ent)(n key:Nat)(s:Sig):Prop :=
 ∀ vals w G ds ga,Dbo s vals w G ds->kE T n key ds=some ga->Goes P s.fn vals.toArray w fun v w'=>Oak s (pO s G w) G.bx v w' ga
def Daj (P:Program)(X:(Nat->Ow)->World->Prop)(T:Nat->Ent)(n key:Nat)(s:Sig):Prop :=
 ∀ vals w G ds ga,Dbo s vals w G ds->X G.own w->kE T n key ds=some ga->Goes P s.fn vals.toArray w fun v w'=>Oak s (pO s G w) G.bx v w' ga
def Stable (X:(Nat->Ow)->World->Prop):Prop :=
 ∀ (own0:Nat->Ow) (w0:World) (own:Nat->Ow) (w:World),w0.heap.size<=w.heap.size->(∀ b,b<w0.heap.size->own0 b=.frz->w.heap[b]?=w0.heap[b]?/\own b=.frz)->X own0 w0->X own w
theorem fU {P : Program} {f : FuncId} {fn : Func} {c : Code} (hf : P.funcs[f]? = some fn) (hname : (fn.name == "runtime.NumGoroutine") = false) (hb : fn.body = some c) (args : Array Value) (w : World) :
  (callFunc f args).run P w=.ok (.enter f args) w:=by
 have h1 : fn.name ≠ "runtime.NumGoroutine" := by simpa using hname
 simp[callFunc,hf,h1,hb]
theorem Abt:∀ (ss:List LS) (r:Nat),(eH r ss).length=(dV ss).length
 |[],r=>rfl
 | s :: ss, r => by
  cases s<;>simp[eH,dV,Abt ss]
theorem Pa2:∀ (n a j:Nat),j<n->(range a n)[j]?=some (a+j)
 |0,a,j,h=>by omega
 |n+1,a,0,h=>rfl
 | n + 1, a, j + 1, h => by
  simp only[range,Acy];rw[Pa2 n (a+1) j (by omega)];congr 1;omega
theorem Dbc {s:Sig}{G:Gh}{w:World}{b:Nat}(h:b<s.boxes.length):(pO s G w).gh ((dV (s.params.flatMap (·.2))).length+b)=.pointer (some (G.bx b)):=by
 simp only[pO,Iao,Zbu];rw[Zb8 (by simp[Abt]),Zb3,Abt,Acs,Ace,Pa2 _ _ _ h];simp
theorem Nau {P : Program} {X : (Nat -> Ow) -> World -> Prop} {E : Env} {T : Nat -> Ent} {n key : Nat} {s : Sig} {fn : Func} {tm : Tm Unit} (hti : vJ P E.ti) (hm : P.follows .mixedOrders = true) (hfn : P.funcs[s.fn]? = some fn) (hname : (fn.name == "runtime.NumGoroutine") = false)
  (hx:Wa8 E s fn=some tm) (hT:T key=.tm tm) (cJ:∀ F,X F.own0 F.w0->Aa6 P { E with ntmps:=fn.ntmps,ngh:=nD s,nbx:=s.boxes.length } F (kE T n)):Daj P X T (n+1) key s:=by
 intro vals w G ds ga cN hX bh;simp only[kE,hT,Zbn]at bh;obtain⟨o,bh,wg⟩:=bh;unfold Jb1 at wg;split at wg
 case isFalse=>cases wg
 rename_i hk;obtain rfl:=Option.some.inj wg;unfold Wa8 at hx;split at hx
 case h_1=>cases hx
 rename_i c hbody
 cases hle:Nat.ble s.params.length fn.ntmps with
 |false=>rw[hle]at hx;cases hx
 | true =>
  rw[hle]at hx;simp only[Bool.not_true,cond_false,bind,Zbn,Option.some.injEq]at hx;obtain⟨tc,htc,t,ht,rfl⟩:=hx;simp only[Ac2]at hle;rw[Xan,Option.map_eq_some_iff]at bh;obtain⟨o0,bh,rfl⟩:=bh;have hev:Ec (kE T n) t ds=some o0:=Jaw.2 ⟨n,bh⟩
  obtain⟨o1,h1,h2⟩:=lF (fun st r hr ρ o ho=>by
   split at hr
   ·rename_i t' hf
    obtain rfl:=Option.some.inj hr;unfold finish at hf;split at hf
    case h_2=>cases hf
    rename_i Z hZ
    revert hf
    generalize (distinct (Z.own.map (·.1))&&!(meets (Z.own.map (·.1)) Z.frz)&&!(Z.bxs.any fun b=>Nat.blt b s.boxes.length)&&eF st.nv Z.lets)=b;intro hf
    cases b with
    |false=>cases hf
    | true =>
     rw[cond_true]at hf;obtain rfl:=Option.some.inj hf;exact mD ho
   ·obtain rfl:=Option.some.inj hr
    rw[jD]at ho;cases ho) rfl (fun _=>rfl) ht hev
  rcases h2 with ⟨h2,h3,r,h4,h5⟩|⟨h2,h3⟩
  case inr =>
   subst h3;have jt:o0.kind=.ret:=hk;rw[jt]at h2;cases h2
  unfold Ibp at htc;dsimp only at htc;generalize ln:Ga0 (entry s fn.ntmps) (entry s fn.ntmps).nr _=b at htc
  cases b with
  |false=>simp[kD]at htc
  | true =>
   rw[cond_true]at htc;have hinv:Dag { E with ntmps:=fn.ntmps,ngh:=nD s,nbx:=s.boxes.length } (entry s fn.ntmps):=Bb8 ln rfl;obtain⟨hlen,hR⟩:=Kbu (n:=fn.ntmps) cN hle;have oB:ds.length=(entry s fn.ntmps).nv:=by rw[(Eaa s fn.ntmps).1];exact cN.len
   obtain⟨hp,hw⟩:=qX (E:={ E with ntmps:=fn.ntmps,ngh:=nD s,nbx:=s.boxes.length }) (F:=pO s G w) (fun x j hx ho=>(cN.cells x j hx ho).1) hti (cJ _ hX) hm c htc h1 oB hinv;refine .inl ⟨fU hfn hname hbody _ _,?_⟩;refine calls_of_wp hfn hbody ?_;rw[show vals.toArray.size=vals.length by simp];refine hw _ w G _ hR fun a' w' G' ie=>?_
   split at h4
   case h_2 =>
    obtain rfl:=Option.some.inj h4;rw[jD]at h5;cases h5
   rename_i t' hf;obtain rfl:=Option.some.inj h4;obtain⟨h6,h7⟩:=Yaj (E:={ E with ntmps:=fn.ntmps,ngh:=nD s,nbx:=s.boxes.length }) (F:=pO s G w) hti hf h5 hp.len hp.inv;obtain⟨v,h8,h9⟩:=h7 a' w' G' fn G.bx rfl (fun b hb=>Dbc hb) (fun b j hb ho=>(cN.cells b j hb ho).1) ie;have hd:=ie.defers
   revert h2
   cases o1.kind with
   |fall=>exact fun _=>⟨hd,v,h8,h9⟩
   |ret=>exact fun _=>⟨hd,v,h8,h9⟩
   |exit i=>intro h;cases h
   |cont=>intro h;cases h
   |yield i=>intro h;cases h
def strip:List Nat->List Nat->Option (List Nat)
 |[],p=>some p
 |a::q,b::p=>if a=b then strip q p else none
 |_::_,[]=>none
theorem Eaz:∀ (q t:List Nat),strip q (q++t)=some t
 |[],t=>rfl
 |a::q,t=>by simp[strip,Eaz q t]
theorem Kav:∀ {q p t:List Nat},strip q p=some t->p=q++t
 |[],p,t,h=>by simpa[strip] using h
 |a::q,[],t,h=>by simp[strip]at h
 | a :: q, b :: p, t, h => by
  simp only[strip]at h;split at h
  ·rename_i e
   rw[e,Kav h];rfl
  ·cases h
def Abr (w:World):Value->List Nat->Value
 |v,[]=>v
 |.slice (some a) _ _,k::p=>Abr w ((w.cell? (a.add k)).getD undef) p
 |_,_::_=>undef
theorem Da1 {own:Nat->Ow}{w:World}{r:Nat}:∀ {p q:List Nat} {v u:Value},zI own w r q v p u->Abr w v p=u
 |[],q,v,u,h=>by simp only[zI]at h;rw[h];cases v<;>rfl
 | k :: p, q, v, u, h => by
  obtain⟨a,n,c,u',rfl,-,h2,h3⟩:=h;simp only[Abr,h2,Bcn];exact Da1 h3
section
variable (ρ:List D) (dr:List Nat)
def mF:Nat->List RT->Nat->List Nat->Ow
 |_,[],r,_=>if r∈dr then .frz else .oth
 |ν,.nil::t,r,p=>mF (ν+1) t r p
 |ν,.own s d::t,r,p=>if r=s then (if p.length<d then .slc ν p else .frz) else mF (ν+1) t r p
 |ν,.mu s d q _::t,r,p=>if r=s then (match strip (bB ρ q) p with | some t'=>if t'.length<d then .slc ν t' else .frz | none=>.oth) else mF (ν+1) t r p
end
def Sa2 (ptrs:List (Nat×Nat×Nat))(c:Nat):Nat->List (Bool×List (BS×BO))->Option Nat
 |_,[]=>none
 | b, (ro, _) :: r => if ro = true then Sa2 ptrs c (b + 1) r else match oJ b ptrs with
  |some (c',_)=>if c'=c then some b else Sa2 ptrs c (b+1) r
  |none=>Sa2 ptrs c (b+1) r
def Obc (ρ:List D)(G:Gh)(w:World):RT->Value
 |.nil=>.slice none 0 0
 |.own r _=>G.hdr r
 |.mu r _ q _=>Abr w (G.hdr r) (bB ρ q)
def callG (ρ:List D)(G:Gh)(w:World)(s:Sig)(Z:Take):Gh:={
 own:=fun b=>match G.own b with
  |.slc r p=>mF ρ (Z.deps.map (·.1)) 0 Z.rts r p
  | .box c => (match Sa2 Z.ptrs c 0 s.boxes with
   |some j=>if b=(G.bx c).block then .box j else .oth
   |none=>.oth)
  |o=>o
 hdr:=fun ν=>((Z.rts[ν]?).map (Obc ρ G w)).getD undef
 bx:=fun b=>match oJ b Z.ptrs with
  |some (c,off)=>(G.bx c).add off
  |none=>⟨0,0,none⟩ }
theorem rX {ρ:List D}{dr:List Nat}{r:Nat}{p:List Nat}:∀ {rts:List RT} {ν:Nat},r∉bZ rts->mF ρ dr ν rts r p=if r∈dr then .frz else .oth
 |[],ν,h=>rfl
 |.nil::t,ν,h=>rX (rts:=t) h
 | .own s d :: t, ν, h => by
  simp only[bZ,Acu,not_or]at h;simp only[mF,if_neg h.1];exact rX h.2
 | .mu s d q X :: t, ν, h => by
  simp only[bZ,Acu,not_or]at h;simp only[mF,if_neg h.1];exact rX h.2
theorem tL:∀ {rts:List RT} {ν r:Nat},(∃ d,rts[ν]?=some (.own r d))\/(∃ d q X,rts[ν]?=some (.mu r d q X))->r∈bZ rts
 |[],ν,r,h=>by simp at h
 | x :: t, 0, r, h => by
  simp only[Zbw,Option.some.injEq]at h
  rcases h with ⟨d,rfl⟩|⟨d,q,X,rfl⟩<;>exact Zb5
 | x :: t, ν + 1, r, h => by
  have:=tL (rts:=t) (ν:=ν) (r:=r) (by simpa using h)
  cases x with
  |nil=>exact this
  |own s d=>exact Zby _ this
  |mu s d q X=>exact Zby _ this
theorem Baq {ρ:List D}{dr:List Nat}{r d:Nat}{p:List Nat}:∀ {rts:List RT} {gj ν:Nat},distinct (bZ rts)=true->rts[ν]?=some (.own r d)->mF ρ dr gj rts r p=if p.length<d then .slc (gj+ν) p else .frz
 |[],gj,ν,_,h=>by simp at h
 | x :: t, gj, 0, hd, h => by
  simp only[Zbw,Option.some.injEq]at h;subst h;simp[mF]
 | x :: t, gj, ν + 1, hd, h => by
  simp only[Acy]at h;have hm:=tL (.inl ⟨d,h⟩)
  cases x with
  | nil =>
   simp only[mF];rw[Baq (rts:=t) hd h,show gj+1+ν=gj+(ν+1) by omega]
  | own s d' =>
   simp only[bZ,distinct,Zbo,Ach]at hd;have cL:r≠s:=fun e=>by rw[e,<- mI,hd.1]at hm;cases hm
   simp only[mF,if_neg cL];rw[Baq hd.2 h,show gj+1+ν=gj+(ν+1) by omega]
  | mu s d' q X =>
   simp only[bZ,distinct,Zbo,Ach]at hd;have cL:r≠s:=fun e=>by rw[e,<- mI,hd.1]at hm;cases hm
   simp only[mF,if_neg cL];rw[Baq hd.2 h,show gj+1+ν=gj+(ν+1) by omega]
theorem Gah {ρ:List D}{dr:List Nat}{r d:Nat}{q:List (aK×Nat×Nat)}{X:aK}{p:List Nat}:∀ {rts:List RT} {gj ν:Nat},distinct (bZ rts)=true->rts[ν]?=some (.mu r d q X) ->
  mF ρ dr gj rts r p=match strip (bB ρ q) p with|some t'=>if t'.length<d then .slc (gj+ν) t' else .frz|none=>.oth
 |[],gj,ν,_,h=>by simp at h
 | x :: t, gj, 0, hd, h => by
  simp only[Zbw,Option.some.injEq]at h;subst h;simp[mF]
 | x :: t, gj, ν + 1, hd, h => by
  simp only[Acy]at h;have hm:=tL (.inr ⟨d,q,X,h⟩)
  cases x with
  | nil =>
   simp only[mF];rw[Gah (rts:=t) hd h,show gj+1+ν=gj+(ν+1) by omega]
  | own s d' =>
   simp only[bZ,distinct,Zbo,Ach]at hd;have cL:r≠s:=fun e=>by rw[e,<- mI,hd.1]at hm;cases hm
   simp only[mF,if_neg cL];rw[Gah hd.2 h,show gj+1+ν=gj+(ν+1) by omega]
  | mu s d' q' X' =>
   simp only[bZ,distinct,Zbo,Ach]at hd;have cL:r≠s:=fun e=>by rw[e,<- mI,hd.1]at hm;cases hm
   simp only[mF,if_neg cL];rw[Gah hd.2 h,show gj+1+ν=gj+(ν+1) by omega]
structure TLe (A B:Take):Prop where
 xs:∃ l,B.xs=A.xs++l
 ptrs:∀ z∈A.ptrs,z∈B.ptrs
 deps:∀ z∈A.deps,z∈B.deps
 lets:∃ l,B.lets=A.lets++l
 rts:∃ l,B.rts=A.rts++l
theorem TLe.refl (A:Take):TLe A A:=⟨⟨[],by simp⟩,fun _ h=>h,fun _ h=>h,⟨[],by simp⟩,⟨[],by simp⟩⟩
theorem TLe.trans {A B C:Take}(h:TLe A B)(h':TLe B C):TLe A C:=by
 obtain⟨⟨l,h1⟩,h2,h3,⟨m,h4⟩,⟨k,h5⟩⟩:=h;obtain⟨⟨l',wc⟩,vz,h3',⟨m',vp⟩,⟨k',uw⟩⟩:=h';exact⟨⟨l++l',by rw[wc,h1,Zbx]⟩,fun z hz=>vz z (h2 z hz),fun z hz=>h3' z (h3 z hz),⟨m++m',by rw[vp,h4,Zbx]⟩,⟨k++k',by rw[uw,h5,Zbx]⟩⟩
theorem TLe.get {A B:Take}(h:TLe A B){ρ:List D}{x:aK}{l:List aK}(hx:A.xs=l++[x]):(aK.v l.length).val (B.xs.map (·.val ρ))=x.val ρ:=by
 obtain⟨m,h1⟩:=h.xs;rw[h1,hx];simp only[aK.val,Zbu];simp
theorem TLe.rt {A B:Take}(h:TLe A B){x:RT}{l:List RT}(hx:A.rts=l++[x]):B.rts[l.length]?=some x:=by
 obtain⟨m,h1⟩:=h.rts;rw[h1,hx];simp
structure La9 (s:Sig) (Z:Take):Prop where
 ptrs:∀ b c off,(b,c,off)∈Z.ptrs->b<s.boxes.length/\oJ b Z.ptrs=some (c,off)
 dist:distinct (bZ Z.rts)=true
 deps:∀ z∈Z.deps,z.1∉bZ Z.rts
 wr:distinct (iP false Z.ptrs 0 s.boxes)=true
 ro:meets (iP false Z.ptrs 0 s.boxes) (iP true Z.ptrs 0 s.boxes)=false
theorem Har {nbx:Nat}{ptrs:List (Nat×Nat×Nat)}:∀ {l:List (Nat×Nat×Nat)},Vaf nbx ptrs l=true->∀ b c off,(b,c,off)∈l->b<nbx/\oJ b ptrs=some (c,off)
 |[],_,b,c,off,h=>by simp at h
 | (b', c', kq) :: l, h, b, c, off, hm => by
  simp only[Vaf,Zbo,Acw]at h
  rcases List.mem_cons.1 hm with e|hm
  ·obtain⟨rfl,rfl,rfl⟩:b=b'/\c=c'/\off=kq:=by simpa using e
   refine⟨h.1.1,?_⟩;have h2:=h.1.2;split at h2
   ·rename_i e
    simp only[Zbo,Acj]at h2;rw[e,h2.1,h2.2]
   ·cases h2
  ·exact Har h.2 b c off hm
theorem Sam {s:Sig}{Z:Take}(h:Zah s Z=true):La9 s Z:=by
 simp only[Zah,Zbo,Ach]at h;obtain⟨⟨⟨⟨h1,h2⟩,h3⟩,h4⟩,h5⟩:=h;refine⟨Har h1,h2,fun z hz hm=>?_,h4,h5⟩;rw[Cci]at h3;exact h3 z hz (mI.2 hm)
section
variable {E:Env} {F:bG} {σ:Nat->Option aS} {ρ:List D} {a:Act} {w:World} {G:Gh} {g:Option (aK×Bool)} {cf:Nat->List D->Option (List D)} {s:Sig} {Z:Take} {nv:Nat}
theorem pM {b:Nat}(h:G.own b=.frz):(callG ρ G w s Z).own b=.frz:=by simp only[callG,h]
theorem Dbb (hk:La9 s Z){b r k:Nat}{p:List Nat}(hz:(r,k)∈Z.deps)(h:G.own b=.slc r p):(callG ρ G w s Z).own b=.frz:=by
 simp only[callG,h];rw[rX (hk.deps _ hz),if_pos (List.mem_map.2 ⟨_,hz,rfl⟩)]
theorem Dba (hk:La9 s Z){b r d ν:Nat}{p:List Nat}(hz:Z.rts[ν]?=some (.own r d))(h:G.own b=.slc r p):(callG ρ G w s Z).own b=if p.length<d then .slc ν p else .frz:=by
 simp only[callG,h];rw[Baq hk.dist hz,Acl]
theorem Na7 (hk:La9 s Z){b r d ν:Nat}{q:List (aK×Nat×Nat)}{X:aK}{p:List Nat}(hz:Z.rts[ν]?=some (.mu r d q X))(h:G.own b=.slc r p) :
  (callG ρ G w s Z).own b=match strip (bB ρ q) p with|some t'=>if t'.length<d then .slc ν t' else .frz|none=>.oth:=by
 simp only[callG,h];rw[Gah hk.dist hz,Acl]
theorem Daa {ν:Nat}{x:RT}(h:Z.rts[ν]?=some x):(callG ρ G w s Z).hdr ν=Obc ρ G w x:=by
 simp only[callG,h];rfl
theorem Rd.callG (hk:La9 s Z){deps:List (Nat×Nat)}(hd:∀ z∈deps,z∈Z.deps){v:Value}{d:D}(h:Rd (allow G deps) w v d):Rd (fun b=>(Go.Proofs.YtcbkmmhkccnamaaGreat.Rf.callG ρ G w s Z).own b=.frz) w v d:=by
 refine h.mono fun b hb=>⟨?_,rfl⟩
 rcases hb with hb|⟨r,k,p,hm,hb⟩
 ·exact pM hb
 ·exact Dbb hk (hd _ hm) hb
theorem Wa2 (hg:gOn ρ g=true){A B:Take}{l:aR}(h:(Oat g A l).eval σ=some B){v:Value}(hl:aB σ ρ G w l v) :
  ∃ x,B={ A with xs:=A.xs++[x] }/\Sc v (x.val ρ):=by
 simp only[Oat,aA,Zbn,aW,aF,Option.some.injEq]at h;obtain⟨x,h1,rfl⟩:=h;exact⟨x,rfl,jW hg h1 hl⟩
theorem Oax {A B:Take}{nie:Bool}{l:aR}(h:(rO A nie l).eval σ=some B):TLe A B:=by
 simp only[rO,aA,Zbn,aF,Option.some.injEq]at h;obtain⟨s,h1,rfl⟩:=h;exact⟨⟨_,rfl⟩,fun _ h=>h,fun _ h=>Zbp _ h,⟨_,rfl⟩,⟨[],by simp⟩⟩
theorem Kas (hR:R E.ntmps F σ ρ a w G)(hg:gOn ρ g=true)(aE:aN cf ρ g nv Z.lets)(hk:La9 s Z){A B:Take}{nie:Bool}{l:aR}(h:(rO A nie l).eval σ=some B)(hZ:TLe B Z){v:Value}(hl:aB σ ρ G w l v) :
  Rd (fun b=>(callG ρ G w s Z).own b=.frz) w v ((aK.v A.xs.length).val (Z.xs.map (·.val ρ)))/\(nie=true->∀ z,(aK.v A.xs.length).val (Z.xs.map (·.val ρ))=.rows z []->v=.slice none 0 0) /\
  B.xs.length=A.xs.length+1/\B.rts=A.rts:=by
 simp only[rO,aA,Zbn,aF,Option.some.injEq]at h;obtain⟨sl,h1,rfl⟩:=h;have hs:=dU hR h1 hl;rw[hZ.get (l:=A.xs) rfl];refine⟨hs.rd.callG hk fun z hz=>hZ.deps _ (Zbs _ hz),fun hn z hz=>?_,by simp,rfl⟩
 cases hsn:sl.nie with
 |true=>exact hs.nie hsn z hz
 | false =>
  exfalso;obtain⟨lr,hlr⟩:=hZ.lets;dsimp only at hlr;rw[hlr,hn,hsn]at aE;simp only[Bool.not_false,Bool.and_self,cond_true]at aE;rw[Zbx]at aE;have mj:=(aN.append (aN.append aE).2).1;obtain⟨ds,h2,-,-⟩:=step1 mj hg;simp only[Acg,Acm,hz,aT.run]at h2;simp at h2
theorem Oau {A B:Take}{d:Nat}{l:aR}(h:(uU A d l).eval σ=some B):TLe A B:=by
 unfold uU at h;split at h
 ·simp only[aA,aU,Zbv]at h
  split at h
  ·simp only[aA,aJ,Zbn,aF,Option.some.injEq]at h
   obtain⟨_,-,rfl⟩:=h;exact⟨⟨_,rfl⟩,fun _ h=>h,fun _ h=>h,⟨[],by simp⟩,⟨_,rfl⟩⟩
  ·cases h
 ·simp only[aF,Option.some.injEq]at h
  subst h;exact⟨⟨_,rfl⟩,fun _ h=>h,fun _ h=>h,⟨[],by simp⟩,⟨_,rfl⟩⟩
 ·cases h
theorem Kap (hR:R E.ntmps F σ ρ a w G)(hk:La9 s Z){A B:Take}{d:Nat}{l:aR}(h:(uU A d l).eval σ=some B)(hZ:TLe B Z){v:Value}(hl:aB σ ρ G w l v) :
  v=(callG ρ G w s Z).hdr A.rts.length/\Rp (callG ρ G w s Z).own w A.rts.length [] d v ((aK.v A.xs.length).val (Z.xs.map (·.val ρ)))/\B.xs.length=A.xs.length+1/\B.rts.length=A.rts.length+1:=by
 unfold uU at h;split at h
 ·rename_i r
  simp only[aA,aU,Zbv]at h;split at h
  ·rename_i x m bc oa
   simp only[aA,aJ,Zbn,aF,Option.some.injEq]at h;obtain⟨_,h1,rfl⟩:=h;split at h1
   case isFalse=>cases h1
   rename_i hb;simp only[Ac2]at hb;simp only[aB]at hl;have oR:=hZ.rt (l:=A.rts) rfl;rw[hZ.get (l:=A.xs) rfl];refine⟨by rw[Daa oR];exact hl.1,?_,by simp,by simp⟩;rw[hl.1];have hr:=hR.root oa;simp only[bP]at hr;exact hr.move (fun b hb _=>⟨pM hb,rfl⟩) [] d hb fun b t hb=>⟨by rw[Dba hk oR hb];rfl,rfl⟩
  ·cases h
 ·rename_i nie z
  simp only[aF,Option.some.injEq]at h;subst h;simp only[aB]at hl;have hv:=(hl.2 (by simp)).2.1 trivial z rfl;have oR:=hZ.rt (l:=A.rts) rfl;rw[hZ.get (l:=A.xs) rfl];refine⟨by rw[Daa oR];exact hv,?_,by simp,by simp⟩;rw[hv]
  cases d with
  |zero=>exact .fz (.rows none ⟨0,0,none⟩ 0 0 z [] (fun _ _=>undef) rfl (Zb2 _) (.inl rfl) (by simp) (by simp) (by simp))
  |succ m=>exact .sl none ⟨0,0,none⟩ 0 0 z [] (fun _ _=>undef) rfl (Zb2 _) (.inr ⟨rfl,rfl⟩) (by simp) (fun e=>by cases e) (by simp) (by simp)
 ·cases h
theorem Zai {A B:Take}{d:Nat}{l:aR}(h:(Kar A d l).eval σ=some B):TLe A B:=by
 simp only[Kar,aA,Zbn]at h;obtain⟨sl,h1,h⟩:=h;split at h
 ·simp only[aA,aJ,aU,Zbv,Zbn]at h
  obtain⟨_,-,h⟩:=h;split at h
  ·simp only[aF,Option.some.injEq]at h
   subst h;exact⟨⟨_,rfl⟩,fun _ h=>h,fun _ h=>h,⟨[],by simp⟩,⟨_,rfl⟩⟩
  ·cases h
 ·cases h
theorem Wa5 (hR:R E.ntmps F σ ρ a w G)(hk:La9 s Z){A B:Take}{d:Nat}{l:aR}(h:(Kar A d l).eval σ=some B)(hZ:TLe B Z){v:Value}(hl:aB σ ρ G w l v) :
  v=(callG ρ G w s Z).hdr A.rts.length/\Rp (callG ρ G w s Z).own w A.rts.length [] d v ((aK.v A.xs.length).val (Z.xs.map (·.val ρ)))/\B.xs.length=A.xs.length+1/\B.rts.length=A.rts.length+1:=by
 simp only[Kar,aA,Zbn]at h;obtain⟨sl,h1,h⟩:=h;have hs:=dU hR h1 hl;split at h
 case h_2=>cases h
 rename_i r k m q ho;simp only[aA,aJ,aU,Zbv,Zbn]at h;obtain⟨_,h2,h⟩:=h;split at h2
 case isFalse=>cases h2
 rename_i hb;simp only[Ac2]at hb;split at h
 case h_2=>cases h
 rename_i X m' v' oa;simp only[aF,Option.some.injEq]at h;subst h;have az:=hs.own;unfold vF at az;rw[ho]at az;obtain⟨h3,h4,h5,h6,h7⟩:=az;have oR:=hZ.rt (l:=A.rts) rfl;rw[hZ.get (l:=A.xs) rfl];refine⟨by rw[Daa oR];exact (Da1 h7).symm,?_,by simp,by simp⟩;refine h6.move (fun b hb _=>⟨pM hb,rfl⟩) [] d (by omega) fun b t hb=>⟨?_,rfl⟩
 rw[Na7 hk oR hb,Eaz];rfl
theorem Zag {A B:Take}{z:Nat}{l:aR}(h:(Ga6 A z l).eval σ=some B):TLe A B:=by
 unfold Ga6 at h;split at h
 ·simp only[aA,Zbn,aF,Option.some.injEq]at h
  obtain⟨_,-,rfl⟩:=h;exact⟨⟨_,rfl⟩,fun _ h=>h,fun _ h=>Zbp _ h,⟨[],by simp⟩,⟨[],by simp⟩⟩
 ·simp only[aF,Option.some.injEq]at h
  subst h;exact⟨⟨_,rfl⟩,fun _ h=>h,fun _ h=>h,⟨[],by simp⟩,⟨[],by simp⟩⟩
 ·cases h
theorem Wa3 (hR:R E.ntmps F σ ρ a w G)(hk:La9 s Z){A B:Take}{z:Nat}{l:aR}(h:(Ga6 A z l).eval σ=some B)(hZ:TLe B Z){v:Value}(hl:aB σ ρ G w l v) :
  v.oneCell'=true/\Dbh (fun b=>(callG ρ G w s Z).own b=.frz) w v ((aK.v A.xs.length).val (Z.xs.map (·.val ρ)))/\B.xs.length=A.xs.length+1/\B.rts=A.rts:=by
 unfold Ga6 at h;split at h
 ·rename_i deps pd x
  simp only[aA,Zbn,aF,Option.some.injEq]at h;obtain⟨ds,h1,rfl⟩:=h;simp only[aB]at hl;obtain⟨h3,h4,h5⟩:=iY h1;rw[hZ.get (l:=A.xs) rfl];refine⟨hl.1.1,?_,by simp,rfl⟩
  rcases hl.2 h3 with h6|⟨ad,row,h6,h7,h8⟩
  ·exact .inl h6
  ·exact .inr ⟨ad,row,h6,h7,(h8.drop hR h5).callG hk fun z hz=>hZ.deps _ (Zbs _ hz)⟩
 ·simp only[aF,Option.some.injEq]at h
  subst h;simp only[aB]at hl;rw[hZ.get (l:=A.xs) rfl];exact⟨by rw[hl];rfl,.inl ⟨hl,_,rfl⟩,by simp,rfl⟩
 ·cases h
theorem Ra1 (hk:La9 s Z){b c off:Nat}(h:(b,c,off)∈Z.ptrs):(callG ρ G w s Z).bx b=(G.bx c).add off/\b<s.boxes.length:=by
 obtain⟨h1,h2⟩:=hk.ptrs b c off h;refine⟨?_,h1⟩;simp only[callG,h2]
theorem Ca9:∀ {cs:List LS} {ls:List aR} {acc l:List (Nat×Nat×Nat)},jO cs ls acc=some l->∀ z∈acc,z∈l
 | [], [], acc, l, h, z, hz => by
  simp only[jO,Option.some.injEq]at h;rw[<- h];exact hz
 |[],_::_,acc,l,h,z,hz=>by simp[jO]at h
 |c::cs,[],acc,l,h,z,hz=>by cases c<;>simp[jO]at h
 | c :: cs, x :: ls, acc, l, h, z, hz => by
  cases c<;>cases x<;>simp only[jO,reduceCtorEq]at h
  exact Ca9 h z (Zby _ hz)
theorem Ca8 (hk:La9 s Z):∀ {cs:List LS} {ls:List aR} {acc l:List (Nat×Nat×Nat)},jO cs ls acc=some l->(∀ z∈l,z∈Z.ptrs)->∀ {vs:List Value},aG σ ρ G w ls vs->xP (callG ρ G w s Z) s.boxes.length cs vs
 |[],[],acc,l,h,_,vs,hl=>by simpa[xP,aG] using hl
 |[],_::_,acc,l,h,_,_,_=>by simp[jO]at h
 |c::cs,[],acc,l,h,_,_,_=>by cases c<;>simp[jO]at h
 | c :: cs, x :: ls, acc, l, h, hz, vs, hl => by
  cases c<;>cases x<;>simp only[jO,reduceCtorEq]at h
  rename_i b c off;simp only[aG]at hl;obtain⟨u,us,rfl,h1,h2⟩:=hl;obtain⟨h3,h4⟩:=Ra1 (ρ:=ρ) (G:=G) (w:=w) hk (hz _ (Ca9 h _ Zb5));simp only[aB]at h1;exact⟨u,us,rfl,⟨by rw[h3];exact h1.1,h4⟩,Ca8 hk h hz h2⟩
theorem San {A B:Take}{t:LS}{l:aR}(h:(sZ g A t l).eval σ=some B):TLe A B:=by
 unfold sZ at h;split at h
 ·simp only[Oat,aA,Zbn,aF,Option.some.injEq]at h
  obtain⟨x,-,rfl⟩:=h;exact⟨⟨_,rfl⟩,fun _ h=>h,fun _ h=>h,⟨[],by simp⟩,⟨[],by simp⟩⟩
 ·exact Oax h
 ·exact Zai h
 ·exact Oau h
 ·simp only[aF,Option.some.injEq]at h
  subst h;exact⟨⟨[],by simp⟩,fun _ h=>Zbp _ h,fun _ h=>h,⟨[],by simp⟩,⟨[],by simp⟩⟩
 ·split at h
  ·rw[gW]at h
   split at h
   ·simp only[aF,Option.some.injEq]at h
    subst h;exact⟨⟨[],by simp⟩,fun _ h=>Zbp _ h,fun _ h=>h,⟨[],by simp⟩,⟨[],by simp⟩⟩
   ·cases h
  ·cases h
 ·exact Zag h
 ·cases h
theorem Oav (hR:R E.ntmps F σ ρ a w G)(hg:gOn ρ g=true)(aE:aN cf ρ g nv Z.lets)(hk:La9 s Z){A B:Take}{t:LS}{l:aR}(h:(sZ g A t l).eval σ=some B)(hZ:TLe B Z){v:Value}(hl:aB σ ρ G w l v) :
  kS (callG ρ G w s Z) w (Z.xs.map (·.val ρ)) s.boxes.length A.xs.length A.rts.length t v/\B.xs.length=A.xs.length+t.cnt/\B.rts.length=A.rts.length+t.rcnt:=by
 unfold sZ at h;split at h
 ·obtain⟨x,rfl,h1⟩:=Wa2 hg h hl
  refine⟨?_,by simp[LS.cnt],rfl⟩;simp only[kS];rw[hZ.get (l:=A.xs) rfl];exact h1
 ·obtain⟨h1,h2,h3,h4⟩:=Kas hR hg aE hk h hZ hl
  exact⟨⟨h1,h2⟩,h3,by rw[h4];rfl⟩
 ·obtain⟨h1,h2,h3,h4⟩:=Wa5 hR hk h hZ hl
  exact⟨⟨h1,h2⟩,h3,h4⟩
 ·obtain⟨h1,h2,h3,h4⟩:=Kap hR hk h hZ hl
  exact⟨⟨h1,h2⟩,h3,h4⟩
 ·rename_i b c off
  simp only[aF,Option.some.injEq]at h;subst h;obtain⟨h1,h2⟩:=Ra1 (ρ:=ρ) (G:=G) (w:=w) hk (hZ.ptrs _ (Zbs _ (List.mem_singleton.2 rfl)));simp only[aB]at hl;exact⟨⟨by rw[h1];exact hl.1,h2⟩,rfl,rfl⟩
 ·rename_i f cs f' ls
  split at h
  ·rename_i l' hc
   rw[gW]at h;split at h
   ·rename_i hf
    simp only[Acj]at hf;subst hf;simp only[aF,Option.some.injEq]at h;subst h;simp only[aB]at hl;obtain⟨vs,h1,h2⟩:=hl;exact⟨⟨vs,h1,Ca8 hk hc (fun z hz=>hZ.ptrs _ (Zbs _ hz)) h2⟩,rfl,rfl⟩
   ·cases h
  ·cases h
 ·obtain⟨h1,h2,h3,h4⟩:=Wa3 hR hk h hZ hl
  exact⟨⟨h1,h2⟩,h3,by rw[h4];rfl⟩
 ·cases h
theorem sW:∀ {ss:List LS} {ls:List aR} {A B:Take},(dD g A ss ls).eval σ=some B->TLe A B
 | [], [], A, B, h => by
  simp only[dD,aF,Option.some.injEq]at h;subst h;exact .refl _
 |[],_::_,A,B,h=>by simp[dD,bO]at h
 |_::_,[],A,B,h=>by simp[dD,bO]at h
 | t :: ss, l :: ls, A, B, h => by
  simp only[dD,aA,Zbn]at h;obtain⟨C,h1,h2⟩:=h;exact (San h1).trans (sW h2)
theorem zK (hR:R E.ntmps F σ ρ a w G)(hg:gOn ρ g=true)(aE:aN cf ρ g nv Z.lets)(hk:La9 s Z):∀ {ss:List LS} {ls:List aR} {A B:Take},(dD g A ss ls).eval σ=some B->TLe B Z->∀ {vs:List Value},aG σ ρ G w ls vs ->
  sU (callG ρ G w s Z) w (Z.xs.map (·.val ρ)) s.boxes.length A.xs.length A.rts.length ss vs/\B.xs.length=A.xs.length+Ya6 ss/\B.rts.length=A.rts.length+kC ss
 | [], [], A, B, h, _, vs, hl => by
  simp only[dD,aF,Option.some.injEq]at h;subst h;simp only[aG]at hl;exact⟨hl,rfl,rfl⟩
 |[],_::_,A,B,h,_,_,_=>by simp[dD,bO]at h
 |_::_,[],A,B,h,_,_,_=>by simp[dD,bO]at h
 | t :: ss, l :: ls, A, B, h, hZ, vs, hl => by
  simp only[dD,aA,Zbn]at h;obtain⟨C,h1,h2⟩:=h;simp only[aG]at hl;obtain⟨u,us,rfl,h3,h4⟩:=hl;obtain⟨h5,h6,h7⟩:=Oav hR hg aE hk h1 ((sW h2).trans hZ) h3;obtain⟨h8,h9,cQ⟩:=zK hR hg aE hk h2 hZ h4;rw[h6,h7]at h8;exact⟨⟨u,us,rfl,h5,h8⟩,by rw[h9,h6];simp only[Ya6];omega,by rw[cQ,h7];simp only[kC];omega⟩
theorem Ga7:∀ {ps:List (Bool×List LS)} {vs:List SV} {A B:Take},(eZ g A ps vs).eval σ=some B->TLe A B
 | [], [], A, B, h => by
  simp only[eZ,aF,Option.some.injEq]at h;subst h;exact .refl _
 |[],_::_,A,B,h=>by simp[eZ,bO]at h
 |_::_,[],A,B,h=>by simp[eZ,bO]at h
 | (ag, ss) :: ps, v :: vs, A, B, h => by
  simp only[eZ,aA,Zbn]at h;obtain⟨ls,-,C,h1,h2⟩:=h;exact (sW h1).trans (Ga7 h2)
def sS (σ:Nat->Option aS)(ρ:List D)(G:Gh)(w:World):List SV->List Value->Prop
 |[],us=>us=[]
 |v::vs,us=>∃ u da,us=u::da/\bY σ ρ G w v u/\sS σ ρ G w vs da
theorem Ja9 {ag:Bool}{v:SV}{ls:List aR}{u:Value}(h:jY ag v=some ls)(hv:bY σ ρ G w v u):if ag=true then u=.agg u.cells.toList.toArray else u.cells.toList=[u]:=by
 unfold jY at h;split at h
 ·cases ag with
  |true=>cases h
  | false =>
   rw[aB.cells hv];simp
 ·cases ag with
  |false=>cases h
  | true =>
   obtain⟨us,rfl,-⟩:=hv;simp[Value.cells]
 ·cases h
theorem Eay (hR:R E.ntmps F σ ρ a w G)(hg:gOn ρ g=true)(aE:aN cf ρ g nv Z.lets)(hk:La9 s Z):∀ {ps:List (Bool×List LS)} {vs:List SV} {A B:Take},(eZ g A ps vs).eval σ=some B->TLe B Z->∀ {us:List Value},sS σ ρ G w vs us ->
  jQ (callG ρ G w s Z) w (Z.xs.map (·.val ρ)) s.boxes.length A.xs.length A.rts.length ps us/\B.xs.length=A.xs.length+La3 ps/\B.rts.length=A.rts.length+jH ps
 | [], [], A, B, h, _, us, hl => by
  simp only[eZ,aF,Option.some.injEq]at h;subst h;simp only[sS]at hl;exact⟨hl,rfl,rfl⟩
 |[],_::_,A,B,h,_,_,_=>by simp[eZ,bO]at h
 |_::_,[],A,B,h,_,_,_=>by simp[eZ,bO]at h
 | (ag, ss) :: ps, v :: vs, A, B, h, hZ, us, hl => by
  simp only[eZ,aA,Zbn,aW]at h;obtain⟨ls,h0,C,h1,h2⟩:=h;obtain⟨u,da,rfl,h3,h4⟩:=hl;obtain⟨h5,h6,h7⟩:=zK hR hg aE hk h1 ((Ga7 h2).trans hZ) (iG h0 h3);obtain⟨h8,h9,cQ⟩:=Eay hR hg aE hk h2 hZ h4;rw[h6,h7]at h8;exact⟨⟨u,da,_,rfl,h5,Ja9 h0 h3,h8⟩,by rw[h9,h6];simp only[La3];omega,by rw[cQ,h7];simp only[jH];omega⟩
end
theorem uK {wr:Bool}{ptrs:List (Nat×Nat×Nat)}:∀ {bs:List (Bool×List (BS×BO))} {b j c off:Nat} {cs:List (BS×BO)},bs[j]?=some (wr,cs)->oJ (b+j) ptrs=some (c,off)->c∈iP wr ptrs b bs
 |[],b,j,c,off,cs,h,_=>by simp at h
 | (ro, ds) :: bs, b, 0, c, off, cs, h, hp => by
  simp only[Zbw,Option.some.injEq,Prod.mk.injEq]at h;rw[Ack]at hp;simp only[iP,h.1,hp];simp
 | (ro, ds) :: bs, b, j + 1, c, off, cs, h, hp => by
  have:=uK (bs:=bs) (b:=b+1) (j:=j) (by simpa using h) (by rw[show b+1+j=b+(j+1) by omega];exact hp);simp only[iP]
  cases (ro==wr) with
  |false=>exact this
  | true =>
   simp only[cond_true];split
   ·exact Zby _ this
   ·exact this
theorem Bam {ptrs:List (Nat×Nat×Nat)}{c:Nat}:∀ {bs:List (Bool×List (BS×BO))} {b:Nat},c∉iP false ptrs b bs->Sa2 ptrs c b bs=none
 |[],b,h=>rfl
 | (ro, cs) :: bs, b, h => by
  simp only[iP]at h;simp only[Sa2]
  cases ro with
  |true=>simp only[if_true];exact Bam h
  | false =>
   simp only[Zbr,if_false];have e:(false==false)=true:=rfl;rw[e,cond_true]at h;split
   ·rename_i c' off hp
    rw[hp]at h;simp only[Acu,not_or]at h;rw[if_neg fun e=>h.1 e.symm];exact Bam h.2
   ·rename_i hp
    rw[hp]at h;exact Bam h
theorem rW {ptrs:List (Nat×Nat×Nat)}{c off:Nat}{cs:List (BS×BO)}:∀ {bs:List (Bool×List (BS×BO))} {b j:Nat},distinct (iP false ptrs b bs)=true->bs[j]?=some (false,cs)->oJ (b+j) ptrs=some (c,off)->Sa2 ptrs c b bs=some (b+j)
 |[],b,j,_,h,_=>by simp at h
 | (ro, ds) :: bs, b, 0, hd, h, hp => by
  simp only[Zbw,Option.some.injEq,Prod.mk.injEq]at h;rw[Ack]at hp;simp only[Sa2,h.1,hp];simp
 | (ro, ds) :: bs, b, j + 1, hd, h, hp => by
  have oA:oJ (b+1+j) ptrs=some (c,off):=by rw[show b+1+j=b+(j+1) by omega];exact hp
  have hm:=uK (wr:=false) (bs:=bs) (b:=b+1) (j:=j) (by simpa using h) oA;simp only[iP]at hd;simp only[Sa2]
  cases ro with
  | true =>
   have e:(true==false)=false:=rfl;rw[e,cond_false]at hd;simp only[if_true];rw[rW hd (by simpa using h) oA,show b+1+j=b+(j+1) by omega]
  | false =>
   have e:(false==false)=true:=rfl;rw[e,cond_true]at hd;simp only[Zbr,if_false];split
   ·rename_i c' kq zn
    rw[zn]at hd;simp only[distinct,Zbo,Ach]at hd;have cL:c'≠c:=fun e=>by rw[<- e,<- mI,hd.1]at hm;cases hm
    rw[if_neg cL,rW hd.2 (by simpa using h) oA,show b+1+j=b+(j+1) by omega]
   ·rename_i zn
    rw[zn]at hd;rw[rW hd (by simpa using h) oA,show b+1+j=b+(j+1) by omega]
theorem Gaf {ptrs:List (Nat×Nat×Nat)}{c x:Nat}:∀ {bs:List (Bool×List (BS×BO))} {b:Nat},Sa2 ptrs c b bs=some x->∃ j cs off,x=b+j/\bs[j]?=some (false,cs)/\oJ x ptrs=some (c,off)
 |[],b,h=>by simp[Sa2]at h
 | (ro, cs) :: bs, b, h => by
  simp only[Sa2]at h
  have next:Sa2 ptrs c (b+1) bs=some x->∃ j oE off,x=b+j/\((ro,cs)::bs)[j]?=some (false,oE)/\oJ x ptrs=some (c,off):=by
   intro h;obtain⟨j,oE,off,h1,h2,h3⟩:=Gaf h;exact⟨j+1,oE,off,by omega,by simpa using h2,h3⟩
  split at h
  ·exact next h
  ·rename_i s5
   split at h
   ·rename_i c' off hp
    split at h
    ·rename_i e
     subst e;obtain rfl:=Option.some.inj h;refine⟨0,cs,off,rfl,?_,hp⟩
     cases ro with
     |true=>exact absurd rfl s5
     |false=>rfl
    ·exact next h
   ·exact next h
section
variable {E:Env} {F:bG} {σ:Nat->Option aS} {ρ:List D} {a:Act} {w:World} {G:Gh} {g:Option (aK×Bool)} {cf:Nat->List D->Option (List D)} {s:Sig} {Z:Take} {nv:Nat}
theorem Sal {A B:Take}{d:Nat}{l:aR}(h:(uU A d l).eval σ=some B):B.ptrs=A.ptrs:=by
 unfold uU at h;split at h
 ·simp only[aA,aU,Zbv]at h
  split at h
  ·simp only[aA,aJ,Zbn,aF,Option.some.injEq]at h
   obtain⟨_,-,rfl⟩:=h;rfl
  ·cases h
 ·simp only[aF,Option.some.injEq]at h
  subst h;rfl
 ·cases h
theorem qB {A B:Take}{t:BS}{l:aR}(h:(Bab A t l).eval σ=some B):(∃ x,t=.sc/\l=.sc x/\B={ A with xs:=A.xs++[x] })\/(∃ nie,t=.fz nie/\(rO A nie l).eval σ=some B)\/(∃ d,t=.ow d/\(uU A d l).eval σ=some B)\/(t=.ot/\Oa5 l=true/\B=A):=by
 cases t with
 | sc =>
  cases l<;>simp only[Bab,bO,reduceCtorEq]at h
  simp only[aF,Option.some.injEq]at h;exact .inl ⟨_,rfl,rfl,h.symm⟩
 | fz nie =>
  have h':(rO A nie l).eval σ=some B:=by cases l<;>exact h
  exact .inr (.inl ⟨nie,rfl,h'⟩)
 | ow d =>
  have h':(uU A d l).eval σ=some B:=by cases l<;>exact h
  exact .inr (.inr (.inl ⟨d,rfl,h'⟩))
 | ot =>
  have h':(bif Oa5 l then RdM.ret A else .no:RdM Take).eval σ=some B:=by cases l<;>exact h
  rw[gW]at h';split at h'
  ·rename_i hb
   simp only[aF,Option.some.injEq]at h';exact .inr (.inr (.inr ⟨rfl,hb,h'.symm⟩))
  ·cases h'
theorem Sao {A B:Take}{t:BS}{l:aR}(h:(Bab A t l).eval σ=some B):TLe A B/\B.ptrs=A.ptrs:=by
 have hinv:=qB h;clear h
 rcases hinv with ⟨x,rfl,rfl,rfl⟩|⟨nie,rfl,h⟩|⟨d,rfl,h⟩|⟨rfl,-,rfl⟩
 ·exact⟨⟨⟨_,rfl⟩,fun _ h=>h,fun _ h=>h,⟨[],by simp⟩,⟨[],by simp⟩⟩,rfl⟩
 ·refine⟨Oax h,?_⟩
  unfold rO at h;simp only[aA,Zbn,aF,Option.some.injEq]at h;obtain⟨s,h1,rfl⟩:=h;rfl
 ·exact⟨Oau h,Sal h⟩
 ·exact⟨.refl _,rfl⟩
theorem Oay (hR:R E.ntmps F σ ρ a w G)(hg:gOn ρ g=true)(aE:aN cf ρ g nv Z.lets)(hk:La9 s Z){A B:Take}{t:BS}{l:aR}(h:(Bab A t l).eval σ=some B)(hZ:TLe B Z){v:Value}(hl:aB σ ρ G w l v) :
  xO (callG ρ G w s Z) w (Z.xs.map (·.val ρ)) A.xs.length A.rts.length t v/\B.xs.length=A.xs.length+t.cnt/\B.rts.length=A.rts.length+t.rcnt:=by
 have hinv:=qB h;clear h
 rcases hinv with ⟨x,rfl,rfl,rfl⟩|⟨nie,rfl,h⟩|⟨d,rfl,h⟩|⟨rfl,hs,rfl⟩
 ·refine⟨?_,by simp[BS.cnt],rfl⟩
  simp only[xO];rw[hZ.get (l:=A.xs) rfl];simpa[aB] using hl
 ·obtain⟨h1,h2,h3,h4⟩:=Kas hR hg aE hk h hZ hl
  exact⟨⟨h1,h2⟩,h3,by rw[h4];rfl⟩
 ·obtain⟨h1,h2,h3,h4⟩:=Kap hR hk h hZ hl
  exact⟨⟨h1,h2⟩,h3,h4⟩
 ·exact⟨hl.one hs,rfl,rfl⟩
theorem qA:∀ {ss:List (BS×BO)} {ls:List aR} {A B:Take},(dY A ss ls).eval σ=some B->TLe A B/\B.ptrs=A.ptrs
 | [], ls, A, B, h => by
  simp only[dY,aF,Option.some.injEq]at h;subst h;exact⟨.refl _,rfl⟩
 |_::_,[],A,B,h=>by simp[dY,bO]at h
 | (t, o) :: ss, l :: ls, A, B, h => by
  simp only[dY,aA,Zbn]at h;obtain⟨C,h1,h2⟩:=h;obtain⟨h3,h4⟩:=Sao h1;obtain⟨h5,h6⟩:=qA h2;exact⟨h3.trans h5,h6.trans h4⟩
theorem Aa9 (hR:R E.ntmps F σ ρ a w G)(hg:gOn ρ g=true)(aE:aN cf ρ g nv Z.lets)(hk:La9 s Z){ad:Addr}:∀ {ss:List (BS×BO)} {ls:List aR} {A B:Take} {off:Nat},(dY A ss ls).eval σ=some B->TLe B Z ->
  (∀ j l,ls[j]?=some l->∃ v,w.cell? (ad.add (off+j))=some v/\w.frozen? (ad.add (off+j))=false/\aB σ ρ G w l v) ->
  Gax (callG ρ G w s Z) w (Z.xs.map (·.val ρ)) ad off A.xs.length A.rts.length ss/\B.xs.length=A.xs.length+Dbs ss/\B.rts.length=A.rts.length+vY ss
 | [], ls, A, B, off, h, _, _ => by
  simp only[dY,aF,Option.some.injEq]at h;subst h;exact⟨trivial,rfl,rfl⟩
 |_::_,[],A,B,off,h,_,_=>by simp[dY,bO]at h
 | (t, o) :: ss, l :: ls, A, B, off, h, hZ, hl => by
  simp only[dY,aA,Zbn]at h;obtain⟨C,h1,h2⟩:=h;obtain⟨v,h3,h4,h5⟩:=hl 0 l rfl;obtain⟨h6,h7,h8⟩:=Oay hR hg aE hk h1 ((qA h2).1.trans hZ) h5
  obtain⟨h9,cQ,dz⟩:=Aa9 hR hg aE hk (off:=off+1) h2 hZ fun j l' hj=>by
   have:=hl (j+1) l' (by simpa using hj);rwa[show off+(j+1)=off+1+j by omega]at this
  rw[h7,h8]at h9;exact⟨⟨⟨v,h3,h4,h6⟩,h9⟩,by rw[cQ,h7];simp only[Dbs];omega,by rw[dz,h8];simp only[vY];omega⟩
def Wba (σ:Nat->Option aS)(ptrs:List (Nat×Nat×Nat))(b:Nat)(ro:Bool)(cs:List (BS×BO)):Prop :=
 ∃ c off la ls,oJ b ptrs=some (c,off)/\σ (kB c)=some (.box la ls)/\off+cs.length<=ls.length/\(ro=false->la=false/\0<cs.length)
theorem kU {ptrs:List (Nat×Nat×Nat)}:∀ {bs:List (Bool×List (BS×BO))} {b:Nat} {A B:Take},(eQ ptrs A b bs).eval σ=some B->TLe A B/\B.ptrs=A.ptrs/\∀ j ro cs,bs[j]?=some (ro,cs)->Wba σ ptrs (b+j) ro cs
 | [], b, A, B, h => by
  simp only[eQ,aF,Option.some.injEq]at h;subst h;exact⟨.refl _,rfl,by simp⟩
 | (ro, cs) :: bs, b, A, B, h => by
  simp only[eQ]at h;split at h
  case h_2=>cases h
  rename_i c off hp;simp only[aA,aU,Zbv]at h;split at h
  case h_2=>cases h
  rename_i la ls nf;simp only[aA,aJ,Zbn]at h;obtain⟨_,h0,C,h1,h2⟩:=h;split at h0
  case isFalse=>cases h0
  rename_i hb;simp only[Zbo,Ac1,Ach,Ac2]at hb;obtain⟨h3,h4⟩:=qA h1;obtain⟨h5,h6,h7⟩:=kU h2;refine⟨h3.trans h5,h6.trans h4,fun j ro2 cs2 hj=>?_⟩
  cases j with
  | zero =>
   simp only[Zbw,Option.some.injEq,Prod.mk.injEq]at hj;obtain⟨rfl,rfl⟩:=hj;refine⟨c,off,la,ls,hp,nf,hb.2,fun e=>?_⟩
   rcases hb.1 with h8|h8
   ·rw[e]at h8;cases h8.1
   ·refine⟨h8.1.2,?_⟩
    cases cs with
    |nil=>have:=h8.2;simp at this
    |cons=>simp
  | succ j =>
   rw[show b+(j+1)=b+1+j by omega];exact h7 j ro2 cs2 (by simpa using hj)
theorem Wap {ad:Addr}{n:Nat}(h:ad.spot=none):(ad.add n).spot=none:=by
 unfold Addr.add;split
 ·exact h
 ·rfl
theorem Uac {ad:Addr}{n:Nat}:(ad.add n).off=ad.off+n:=by
 unfold Addr.add;split
 ·rename_i h;rw[h];rfl
 ·rfl
theorem Bac (hR:R E.ntmps F σ ρ a w G)(hg:gOn ρ g=true)(aE:aN cf ρ g nv Z.lets)(hk:La9 s Z):∀ {bs:List (Bool×List (BS×BO))} {b:Nat} {A B:Take},(∀ j x,bs[j]?=some x->s.boxes[b+j]?=some x)->(eQ Z.ptrs A b bs).eval σ=some B->TLe B Z ->
  Gay (callG ρ G w s Z) w (Z.xs.map (·.val ρ)) b A.xs.length A.rts.length bs/\B.xs.length=A.xs.length+Dbt bs
 | [], b, A, B, _, h, _ => by
  simp only[eQ,aF,Option.some.injEq]at h;subst h;exact⟨trivial,rfl⟩
 | (ro, cs) :: bs, b, A, B, zh, h, hZ => by
  simp only[eQ]at h;split at h
  case h_2=>cases h
  rename_i c off hp;simp only[aA,aU,Zbv]at h;split at h
  case h_2=>cases h
  rename_i la ls nf;simp only[aA,aJ,Zbn]at h;obtain⟨_,h0,C,h1,h2⟩:=h;split at h0
  case isFalse=>cases h0
  rename_i hb;simp only[Zbo,Ac1,Ach,Ac2]at hb;have hCZ:=(kU h2).1.trans hZ;obtain⟨h3,h4,h5⟩:=hR.box nf;have gb:(callG ρ G w s Z).bx b=(G.bx c).add off:=by simp only[callG,hp]
  have ya:=zh 0 _ rfl;rw[Ack]at ya;have oA:oJ (0+b) Z.ptrs=some (c,off):=by rw[Acl];exact hp
  obtain⟨h6,h7,h8⟩:=Aa9 hR hg aE hk (ad:=(G.bx c).add off) (off:=0) h1 hCZ fun j l hj=>by
   rw[Acv]at hj;obtain⟨v,h9,cQ,dz⟩:=h5 _ l hj;exact⟨v,by rw[add_add,Acl];exact h9,by rw[add_add,Acl];exact cQ,dz⟩
  obtain⟨h9,cQ⟩:=Bac hR hg aE hk (b:=b+1) (fun j x hj=>by
   rw[show b+1+j=b+(j+1) by omega];exact zh (j+1) x (by simpa using hj)) h2 hZ
  rw[h7,h8]at h9;refine⟨⟨by rw[gb];exact Wap h3,?_,by rw[gb];exact h6,h9⟩,by rw[cQ,h7];simp only[Dbt];omega⟩;rw[gb,add_block]
  cases ro with
  | true =>
   simp only[if_true];have hm:=uK (wr:=true) ya oA
   cases la with
   |true=>simp only[callG,h4,if_true]
   | false =>
    simp only[Zbr,if_false]at h4;simp only[callG,h4];rw[Bam fun oz=>oL hk.ro oz hm]
  | false =>
   simp only[Zbr,if_false]
   rcases hb.1 with dz|dz
   ·cases dz.1
   ·have s5:la=false:=dz.1.2
    subst s5;simp only[Zbr,if_false]at h4;simp only[callG,h4];rw[rW hk.wr ya oA];simp
theorem Hb8 (hR:R E.ntmps F σ ρ a w G)(hg:gOn ρ g=true)(aE:aN cf ρ g nv Z.lets)(hk:La9 s Z){T:Take}{vs:List SV}(h1:(eZ g Take.empty s.params vs).eval σ=some T)(h2:(eQ T.ptrs T 0 s.boxes).eval σ=some Z)
  {us:List Value} (hu:sS σ ρ G w vs us):Dbo s us w (callG ρ G w s Z) (Z.xs.map (·.val ρ)):=by
 obtain⟨h3,h4,h5⟩:=kU h2;obtain⟨h6,h7,h8⟩:=Eay hR hg aE hk h1 h3 hu;rw[<- h4]at h2;obtain⟨h9,cQ⟩:=Bac hR hg aE hk (by simp) h2 (.refl _);have e1:Take.empty.xs.length=0:=rfl;have e2:Take.empty.rts.length=0:=rfl;rw[e1,e2]at h6;rw[e1,Acl]at h7;rw[e2,Acl]at h8;rw[h7,h8]at h9;refine⟨h6,h9,by rw[Zb3,cQ,h7],fun b hb=>pM (hR.frame.fresh b hb),fun b j hb hj=>?_⟩
 cases e:G.own b with
 | slc r p =>
  exfalso;simp only[callG,e]at hj
  have:∀ (rts:List RT) (ν:Nat),mF ρ (Z.deps.map (·.1)) ν rts r p≠.box j:=by
   intro rts
   induction rts with
   |nil=>intro ν h;simp only[mF]at h;split at h<;>cases h
   | cons x t ih =>
    intro ν h
    cases x with
    |nil=>exact ih _ h
    | own s d =>
     simp only[mF]at h;split at h
     ·split at h<;>cases h
     ·exact ih _ h
    | mu s d q X =>
     simp only[mF]at h;split at h
     ·split at h
      ·split at h<;>cases h
      ·cases h
     ·exact ih _ h
  exact this _ _ hj
 | box c =>
  simp only[callG,e]at hj;split at hj
  case h_2=>cases hj
  rename_i x hx;split at hj
  case isFalse=>cases hj
  rename_i sk
  injection hj with hj
  subst hj;obtain⟨j,cs,off,e1,e2,e3⟩:=Gaf hx;rw[Acl]at e1;subst e1;refine⟨(List.getElem?_eq_some_iff.1 e2).1,?_⟩;rw[h4]at e3;have:=h5 x _ _ e2;rw[Acl]at this;obtain⟨c',kq,la,ls,dz,fy,iq,ko⟩:=this;rw[e3]at dz;obtain⟨rfl,rfl⟩:c=c'/\off=kq:=by simpa using dz
  obtain⟨-,-,mm⟩:=hR.box fy;have hlt:0<ls.length:=by have:=(ko rfl).2;omega
  obtain⟨v,mL,-,-⟩:=mm 0 _ (Zbq hlt);rw[sk];unfold World.cell? at mL;rw[add_block]at mL
  cases hh:w.heap[(G.bx c).block]? with
  |none=>rw[hh]at mL;cases mL
  | some gC =>
   rw[hh]at mL
   cases gC with
   |cells c0 e fr=>exact⟨c0,e,fr,rfl⟩
   |_=>simp at mL
 |frz=>rw[pM e]at hj;cases hj
 |oth=>simp only[callG,e]at hj;cases hj
end
def Nan:Ow->Bool
 |.slc _ _=>true
 |_=>false
def nG (r:Nat):List RT->Option RT
 |[]=>none
 |.nil::t=>nG r t
 |.own s d::t=>if r=s then some (.own s d) else nG r t
 |.mu s d q X::t=>if r=s then some (.mu s d q X) else nG r t
def Aam (ρ:List D)(rts:List RT):Ow->Ow
 | .slc r p => match nG r rts with
  |some (.own _ _)=>.frz
  | some (.mu _ d q _) => match strip (bB ρ q) p with
   |some t=>if t.length<d then .slc r p else .frz
   |none=>.slc r p
  |_=>.slc r p
 |o=>o
def uN (gd:Bool)(ρ:List D)(nr nb nbx:Nat)(mus:List RT):Ow->Ow
 | .slc t p => if t % 2 = 0 then (if gd = true then .frz else if t / 2 < bU then .slc (nr + t / 2) p else .oth) else (match mus[t / 2]? with
  |some (.mu r _ q _)=>.slc r (bB ρ q++p)
  |_=>.oth)
 |.box β=>if β=nbx then .box nb else .oth
 |o=>o
def fC (gd:Bool)(ρ:List D)(G:Gh)(w:World)(s:Sig)(Z:Take)(nr nb:Nat)(own':Nat->Ow)(hs:List Value)(adn:Addr):Gh:={
 own:=fun b=>if b<w.heap.size/\Nan ((callG ρ G w s Z).own b)=false then Aam ρ Z.rts (G.own b) else uN gd ρ nr nb s.boxes.length (Z.rts.filter wP) (own' b)
 hdr:=fun r=>if nr<=r/\r<nr+bU then hs.getD (r-nr) undef else G.hdr r
 bx:=fun b=>if b=nb then adn else G.bx b }
theorem tO {r:Nat}:∀ {rts:List RT},r∉bZ rts->nG r rts=none
 |[],_=>rfl
 |.nil::t,h=>tO (rts:=t) h
 | .own s d :: t, h => by
  simp only[bZ,Acu,not_or]at h;simp only[nG,if_neg h.1];exact tO h.2
 | .mu s d q X :: t, h => by
  simp only[bZ,Acu,not_or]at h;simp only[nG,if_neg h.1];exact tO h.2
theorem tN {r:Nat}:∀ {rts:List RT},r∈bZ rts->∃ (ν:Nat) (x:RT),rts[ν]?=some x/\nG r rts=some x/\((∃ d,x=.own r d)\/∃ d q X,x=.mu r d q X)
 |[],h=>by simp[bZ]at h
 | .nil :: t, h => by
  obtain⟨ν,x,h1,h2⟩:=tN (rts:=t) h;exact⟨ν+1,x,by simpa using h1,h2⟩
 | .own s d :: t, h => by
  by_cases e:r=s
  ·subst e
   exact⟨0,_,rfl,by simp[nG],.inl ⟨d,rfl⟩⟩
  ·simp only[bZ,Acu,e,false_or]at h
   obtain⟨ν,x,h1,h2⟩:=tN h;exact⟨ν+1,x,by simpa using h1,by simp only[nG,if_neg e];exact h2⟩
 | .mu s d q X :: t, h => by
  by_cases e:r=s
  ·subst e
   exact⟨0,_,rfl,by simp[nG],.inr ⟨d,q,X,rfl⟩⟩
  ·simp only[bZ,Acu,e,false_or]at h
   obtain⟨ν,x,h1,h2⟩:=tN h;exact⟨ν+1,x,by simpa using h1,by simp only[nG,if_neg e];exact h2⟩
theorem Bar {r d:Nat}{q:List (aK×Nat×Nat)}{X:aK}:∀ {rts:List RT} {ν:Nat},distinct (bZ rts)=true->rts[ν]?=some (.mu r d q X)->nG r rts=some (.mu r d q X)
 |[],ν,_,h=>by simp at h
 | x :: t, 0, hd, h => by
  simp only[Zbw,Option.some.injEq]at h;subst h;simp[nG]
 | x :: t, ν + 1, hd, h => by
  simp only[Acy]at h;have hm:=tL (.inr ⟨d,q,X,h⟩)
  cases x with
  |nil=>exact Bar (rts:=t) hd h
  | own s d' =>
   simp only[bZ,distinct,Zbo,Ach]at hd;have cL:r≠s:=fun e=>by rw[e,<- mI,hd.1]at hm;cases hm
   simp only[nG,if_neg cL];exact Bar hd.2 h
  | mu s d' q' X' =>
   simp only[bZ,distinct,Zbo,Ach]at hd;have cL:r≠s:=fun e=>by rw[e,<- mI,hd.1]at hm;cases hm
   simp only[nG,if_neg cL];exact Bar hd.2 h
theorem Gag {ρ:List D}{dr:List Nat}{r:Nat}{p:List Nat}:∀ (rts:List RT) (ν:Nat),(∃ ν' t,mF ρ dr ν rts r p=.slc ν' t)\/mF ρ dr ν rts r p=.frz\/mF ρ dr ν rts r p=.oth
 | [], ν => by
  simp only[mF];split
  ·exact .inr (.inl rfl)
  ·exact .inr (.inr rfl)
 |.nil::t,ν=>Gag t (ν+1)
 | .own s d :: t, ν => by
  simp only[mF];split
  ·split
   ·exact .inl ⟨_,_,rfl⟩
   ·exact .inr (.inl rfl)
  ·exact Gag t (ν+1)
 | .mu s d q X :: t, ν => by
  simp only[mF];split
  ·split
   ·split
    ·exact .inl ⟨_,_,rfl⟩
    ·exact .inr (.inl rfl)
   ·exact .inr (.inr rfl)
  ·exact Gag t (ν+1)
theorem Rp.remap {own own':Nat->Ow}{w:World}{r r':Nat}{q q':List Nat}{p:List Nat}{m:Nat}{v:Value}{d:D}(h:Rp own w r p m v d)
  (hs:∀ b t,own b=.slc r (q++t)->own' b=.slc r' (q'++t)):∀ s,p=q++s->((∀ b,own b=.frz->b<w.heap.size->own' b=.frz)\/oZ m d=true)->Rp own' w r' (q'++s) m v d:=by
 induction h with
 |sc h=>exact fun _ _ _=>.sc h
 |hole v h1=>exact fun _ _ _=>.hole v h1
 | fz h =>
  intro s _ hz
  rcases hz with hz|hz
  ·exact .fz (h.mono' fun b hb hlt=>⟨hz b hb hlt,rfl⟩)
  ·cases h with
   |sc h=>exact .sc h
   |hole _ h1=>exact .hole _ h1
   |rows=>simp[oZ,D.isSc]at hz
 | sl A a n c sz rs vs hn hc hA df az bb cq ih =>
  rename_i p m;intro s hp hz;refine .sl A a n c sz rs vs hn hc hA df (fun e=>?_) bb (fun i row hi j d hj=>?_)
  ·obtain⟨h1,h2,h3⟩:=az e
   rw[hp]at h2;exact⟨h1,hs _ _ h2,h3⟩
  ·have:=ih i row hi j d hj (s++[i*sz+j]) (by rw[hp,Zbx]) (hz.imp id fun hz=>by
    simp only[oZ,Acd]at hz;exact hz row (Zb4 hi) d (Zb4 hj))
   rwa[<- Zbx]at this
theorem Rp.updM {own own':Nat->Ow}{w w':World}{r M:Nat}{full:List Nat}{y:D}{u:Value}
  (hz:∀ b,own b=.frz->b<w.heap.size->own' b=.frz/\w'.heap[b]?=w.heap[b]?)
  (hs:∀ b t,own b=.slc r t->¬ full <+: t->own' b=.slc r t/\w'.heap[b]?=w.heap[b]?)
  (hM:full.length<=M) (gn:Rp own' w' r full (M-full.length) u y) :
  ∀ (p q:List Nat) (v:Value) (x x':D),full=q++p->Rp own w r q (M-q.length) v x->zI own w r q v p u->Upd p x y x'->Rp own' w' r q (M-q.length) v x'
 | [], q, v, x, x', hf, hx, hn, hu => by
  cases hu;simp only[zI]at hn;rw[Acf]at hf;subst hf hn;exact gn
 | k :: p, q, v, x, x', hf, hx, hn, hu => by
  generalize hk:k::p=kp at hu
  cases hu with
  |here=>cases hk
  | down sz rs i j row z z' y p' hi hj hu =>
   obtain⟨rfl,rfl⟩:=List.cons.inj hk;have hlen:full.length=q.length+(p.length+1):=by rw[hf];simp
   obtain⟨m,hm⟩:∃ m,M-q.length=m+1:=⟨M-q.length-1,by omega⟩;rw[hm]at hx;rw[hm];obtain⟨A,a,n,c,vs,rfl,h1,h2,h3,h4,h5,h6,h7⟩:=hx.sl_inv;have lg:i<rs.length:=(List.getElem?_eq_some_iff.1 hi).1
   have hA:A=some a:=by
    rcases h3 with e|⟨e,e'⟩
    ·exact e
    ·omega
   subst hA;obtain⟨h8,h9,cQ⟩:=h5 rfl;obtain⟨a',n',c',u',e1,e2,e3,e4⟩:=hn;obtain⟨rfl,rfl,rfl⟩:a=a'/\n=n'/\c=c':=by injection e1 with a b c;exact⟨Option.some.inj a,b,c⟩
   have gA:=h6 i row hi j z hj;rw[gA]at e3;obtain rfl:=Option.some.inj e3
   have hq:¬ full <+: q:=by
    intro e;have:=e.length_le;omega
   obtain⟨fv,b7⟩:=hs _ _ h9 hq;have fu:∀ k,w'.cell? (a.add k)=w.cell? (a.add k):=fun k=>eU (w:=w) (w':=w') (by rw[add_block];exact b7)
   have qi:∀ k,w'.frozen? (a.add k)=w.frozen? (a.add k):=fun k=>kN (w:=w) (w':=w') (by rw[add_block];exact b7)
   have cq:=Rp.updM hz hs hM gn p (q++[i*sz+j]) (vs i j) z z' (by rw[hf];simp) (by
    have:=h7 i row hi j z hj;rwa[show M-(q++[i*sz+j]).length=m by simp;omega]) e4 hu
   rw[show M-(q++[i*sz+j]).length=m by simp;omega]at cq;have j9:row.length=sz:=h4 row (Zb4 hi);have hlt:j<sz:=by rw[<- j9];exact (List.getElem?_eq_some_iff.1 hj).1
   have mN:∀ i' eW,(rs.set i (row.set j z'))[i']?=some eW->∀ j' d,eW[j']?=some d->(i'=i/\j'=j/\d=z')\/(∃ row0,rs[i']?=some row0/\row0[j']?=some d/\¬ (i'=i/\j'=j)):=by
    intro i' eW eS j' d gR;rw[Bcr]at eS;by_cases q0:i=i'
    ·subst q0
     rw[if_pos rfl,if_pos lg]at eS;obtain rfl:=Option.some.inj eS;rw[Bcr]at gR;by_cases v8:j=j'
     ·subst v8
      rw[if_pos rfl,if_pos (by omega)]at gR;exact .inl ⟨rfl,rfl,(Option.some.inj gR).symm⟩
     ·rw[if_neg v8]at gR
      exact .inr ⟨row,hi,gR,fun e=>v8 e.2.symm⟩
    ·rw[if_neg q0]at eS
     exact .inr ⟨eW,eS,gR,fun e=>q0 e.1.symm⟩
   refine .sl _ a n c sz _ vs (by simpa using h1) h2 (.inl rfl) (fun eW hr=>?_) (fun _=>⟨h8,fv,fun k hk=>?_⟩) (fun i' eW eS j' d gR=>?_) (fun i' eW eS j' d gR=>?_)
   ·rcases List.mem_or_eq_of_mem_set hr with hr|rfl
    ·exact h4 _ hr
    ·simpa using j9
   ·rw[fu,qi]
    exact cQ k hk
   ·rw[fu]
    rcases mN i' eW eS j' d gR with ⟨rfl,rfl,rfl⟩|⟨row0,dz,fy,-⟩
    ·exact gA
    ·exact h6 _ _ dz _ _ fy
   ·rcases mN i' eW eS j' d gR with ⟨rfl,rfl,rfl⟩|⟨row0,dz,fy,cL⟩
    ·exact cq
    ·have:=(h7 _ _ dz _ _ fy).mono' (own':=own') (w':=w') (r':=r) (q:=q++[i'*sz+j']) (q':=q++[i'*sz+j']) hz [] (by simp) fun b t hb=>by
      have hnp:¬ full <+: q++[i'*sz+j']++t:=by
       intro e;rw[hf,Zbx,List.prefix_append_right_inj]at e;have e':=(List.cons_prefix_cons.1 e).1
       have vt:j'<sz:=by
        have:=(List.getElem?_eq_some_iff.1 fy).1;rw[h4 row0 (Zb4 dz)]at this;exact this
       obtain⟨mm,mL⟩:=Ibz vt hlt e'.symm;exact cL ⟨mm,mL⟩
      exact hs b _ hb hnp
     simpa using this
theorem Rp.deeper {own:Nat->Ow}{w:World}{r:Nat}{p:List Nat}{m:Nat}{v:Value}{d:D}(h:Rp own w r p m v d):∀ {m':Nat},m<=m'->oZ m d=true->Rp own w r p m' v d:=by
 induction h with
 |sc h=>exact fun _ _=>.sc h
 |hole v h1=>exact fun _ _=>.hole v h1
 | fz h =>
  intro m' _ hz
  cases h with
  |sc h=>exact .sc h
  |hole _ h1=>exact .hole _ h1
  |rows=>simp[oZ,D.isSc]at hz
 | sl A a n c sz rs vs hn hc hA df az bb cq ih =>
  rename_i p m;intro m' hm hz;obtain⟨k,rfl⟩:∃ k,m'=k+1:=⟨m'-1,by omega⟩;refine .sl A a n c sz rs vs hn hc hA df az bb (fun i row hi j d hj=>ih i row hi j d hj (by omega) ?_);simp only[oZ,Acd]at hz;exact hz row (Zb4 hi) d (Zb4 hj)
section
variable {E:Env} {F:bG} {σ:Nat->Option aS} {ρ:List D} {a:Act} {w w':World} {G G':Gh} {s:Sig} {Z:Take} {gd:Bool} {nr nb:Nat} {hs:List Value} {adn:Addr}
structure Saa (E:Env) (F:bG) (σ:Nat->Option aS) (ρ:List D) (a:Act) (w:World) (G:Gh) (s:Sig) (Z:Take) (G':Gh) (w':World):Prop where
 hR:R E.ntmps F σ ρ a w G
 hk:La9 s Z
 hF:mJ (pO s (callG ρ G w s Z) w) G' w'
 bx:∀ j ro cs,s.boxes[j]?=some (ro,cs)->Wba σ Z.ptrs j ro cs
 deps:∀ z∈Z.deps,Naf σ z.1 z.2
 mus:∀ (ν r d:Nat) (q:List (aK×Nat×Nat)) (X:aK),Z.rts[ν]?=some (RT.mu r d q X)->∃ m bc u,σ (kR r)=some (.root X m bc .live)/\q.length+d<=m/\zI G.own w r [] (G.hdr r) (bB ρ q) u
 owns:∀ (ν r d:Nat),Z.rts[ν]?=some (RT.own r d)->∃ x m bc,σ (kR r)=some (.root x m bc .live)
variable (B:Saa E F σ ρ a w G s Z G' w')
include B
theorem Saa.keep {b:Nat}(hb:b<w.heap.size)(h:(callG ρ G w s Z).own b=.frz\/(callG ρ G w s Z).own b=.oth):w'.heap[b]?=w.heap[b]?/\G'.own b=(callG ρ G w s Z).own b:=B.hF.keep b hb h
theorem Saa.lt {b r:Nat}{p:List Nat}(h:G.own b=.slc r p):b<w.heap.size:=by
 rcases Aca b w.heap.size with h1|h1
 ·exact h1
 ·rw[B.hR.frame.fresh b h1]at h;cases h
theorem Saa.own_eq {b:Nat}(hb:b<w.heap.size)(h:Nan ((callG ρ G w s Z).own b)=false):(fC gd ρ G w s Z nr nb G'.own hs adn).own b=Aam ρ Z.rts (G.own b):=by
 simp only[fC];rw[if_pos ⟨hb,h⟩]
theorem Saa.frz {b:Nat}(h:G.own b=.frz)(hb:b<w.heap.size):(fC gd ρ G w s Z nr nb G'.own hs adn).own b=.frz/\w'.heap[b]?=w.heap[b]?:=by
 have h1:(callG ρ G w s Z).own b=.frz:=pM h;refine⟨?_,(B.keep hb (.inl h1)).1⟩;rw[B.own_eq hb (by rw[h1];rfl),h];rfl
theorem Saa.other {b r:Nat}{p:List Nat}(hr:r∉bZ Z.rts)(h:G.own b=.slc r p):(fC gd ρ G w s Z nr nb G'.own hs adn).own b=.slc r p/\w'.heap[b]?=w.heap[b]?:=by
 have hb:=B.lt h
 have h1:(callG ρ G w s Z).own b=if r∈Z.deps.map (·.1) then .frz else .oth:=by
  simp only[callG,h];exact rX hr
 have h2:(callG ρ G w s Z).own b=.frz\/(callG ρ G w s Z).own b=.oth:=by
  rw[h1];split
  ·exact .inl rfl
  ·exact .inr rfl
 refine⟨?_,(B.keep hb h2).1⟩;rw[B.own_eq hb (by rcases h2 with e|e<;>rw[e]<;>rfl),h];simp only[Aam,tO hr]
theorem Saa.oth {b:Nat}(h:G.own b=.oth)(hb:b<w.heap.size):(fC gd ρ G w s Z nr nb G'.own hs adn).own b=.oth/\w'.heap[b]?=w.heap[b]?:=by
 have h1:(callG ρ G w s Z).own b=.oth:=by simp only[callG,h]
 refine⟨?_,(B.keep hb (.inr h1)).1⟩;rw[B.own_eq hb (by rw[h1];rfl),h];rfl
theorem Saa.boxes {b c:Nat}(h:G.own b=.box c)(hb:b<w.heap.size):(fC gd ρ G w s Z nr nb G'.own hs adn).own b=.box c /\
  (w'.heap[b]?=w.heap[b]?\/∃ j cs off ls c0 c1 e fr,s.boxes[j]?=some (false,cs)/\oJ j Z.ptrs=some (c,off)/\b=(G.bx c).block/\σ (kB c)=some (.box false ls)/\off+cs.length<=ls.length /\
   w.heap[b]?=some (.cells c0 e fr)/\w'.heap[b]?=some (.cells c1 e fr)/\c1.size=c0.size/\∀ k,k<(G.bx c).off+off\/(G.bx c).off+off+cs.length<=k->c1[k]?=c0[k]?):=by
 have key:((callG ρ G w s Z).own b=.oth)\/∃ j,Sa2 Z.ptrs c 0 s.boxes=some j/\b=(G.bx c).block/\(callG ρ G w s Z).own b=.box j:=by
  simp only[callG,h];split
  ·rename_i j hj
   split
   ·rename_i sk
    exact .inr ⟨j,hj,sk,rfl⟩
   ·exact .inl rfl
  ·exact .inl rfl
 rcases key with h1|⟨j,hj,sk,h1⟩
 ·refine⟨?_,.inl (B.keep hb (.inr h1)).1⟩
  rw[B.own_eq hb (by rw[h1];rfl),h];rfl
 ·refine⟨by rw[B.own_eq hb (by rw[h1];rfl),h];rfl,.inr ?_⟩
  obtain⟨j',cs,off,e1,e2,e3⟩:=Gaf hj;rw[Acl]at e1;subst e1;obtain⟨c',kq,la,ls,h2,h3,h4,h5⟩:=B.bx j false cs e2;rw[e3]at h2;obtain⟨rfl,rfl⟩:c=c'/\off=kq:=by simpa using h2
  obtain rfl:=(h5 rfl).1;obtain⟨-,c0,c1,e,fr,h6,h7,h8,h9⟩:=B.hF.boxes b j hb h1;refine⟨j,cs,off,ls,c0,c1,e,fr,e2,e3,sk,h3,h4,h6,h7,h8,fun k hk=>h9 k ?_⟩
  have e4:(pO s (callG ρ G w s Z) w).rng j=((G.bx c).off+off,(G.bx c).off+off+cs.length):=by
   simp only[pO,callG,e3,Uac,Zbu,e2,Bcn]
  rw[e4];exact hk
theorem Saa.allow {b:Nat}(h:G'.own b=.frz):allow (fC gd ρ G w s Z nr nb G'.own hs adn) Z.deps b:=by
 by_cases hb:b<w.heap.size
 ·cases gw:Nan ((callG ρ G w s Z).own b) with
  | true =>
   refine .inl ?_;simp only[fC];rw[if_neg (by rw[gw];simp),h];rfl
  | false =>
   have az:=B.own_eq (gd:=gd) (nr:=nr) (nb:=nb) (hs:=hs) (adn:=adn) hb gw
   cases hg:G.own b with
   |frz=>exact .inl (B.frz hg hb).1
   | oth =>
    have h1:(callG ρ G w s Z).own b=.oth:=by simp only[callG,hg]
    have:=(B.keep hb (.inr h1)).2;rw[h,h1]at this;cases this
   | box c =>
    have sk:=(B.boxes (gd:=gd) (nr:=nr) (nb:=nb) (hs:=hs) (adn:=adn) hg hb);exfalso
    have key:((callG ρ G w s Z).own b=.oth)\/∃ j,(callG ρ G w s Z).own b=.box j:=by
     simp only[callG,hg];split
     ·split
      ·exact .inr ⟨_,rfl⟩
      ·exact .inl rfl
     ·exact .inl rfl
    rcases key with h1|⟨j,h1⟩
    ·have:=(B.keep hb (.inr h1)).2
     rw[h,h1]at this;cases this
    ·have:=(B.hF.boxes b j hb h1).1
     rw[h]at this;cases this
   | slc r p =>
    by_cases hr:r∈bZ Z.rts
    ·refine .inl ?_
     rw[az,hg];obtain⟨ν,x,h1,h2,h3⟩:=tN hr;simp only[Aam,h2]
     rcases h3 with ⟨d,rfl⟩|⟨d,q,X,rfl⟩
     ·rfl
     ·have h4:=Na7 (ρ:=ρ) (G:=G) (w:=w) B.hk h1 hg
      dsimp only;rw[h4]at gw
      cases aE:strip (bB ρ q) p with
      | some t' =>
       rw[aE]at gw;dsimp only at gw ⊢;split at gw
       ·cases gw
       ·rename_i hle
        rw[if_neg hle]
      | none =>
       have h5:(callG ρ G w s Z).own b=.oth:=by rw[h4,aE]
       have:=(B.keep hb (.inr h5)).2;rw[h,h5]at this;cases this
    ·have h1:(callG ρ G w s Z).own b=if r∈Z.deps.map (·.1) then .frz else .oth:=by
      simp only[callG,hg];exact rX hr
     by_cases hd:r∈Z.deps.map (·.1)
     ·obtain⟨z,hz,e⟩:=List.mem_map.1 hd
      refine .inr ⟨r,z.2,p,by rw[<- e];exact hz,(B.other hr hg).1⟩
     ·rw[if_neg hd]at h1
      have:=(B.keep hb (.inr h1)).2;rw[h,h1]at this;cases this
 ·refine .inl ?_
  simp only[fC];rw[if_neg (by simp[hb]),h];rfl
theorem Saa.rd {v:Value}{d:D}(h:Rd (fun b=>G'.own b=.frz) w' v d):Rd (Go.Proofs.YtcbkmmhkccnamaaGreat.Rf.allow (fC gd ρ G w s Z nr nb G'.own hs adn) Z.deps) w' v d :=
 h.mono fun b hb=>⟨B.allow hb,rfl⟩
theorem Saa.slc {b t:Nat}{p:List Nat}(h:G'.own b=.slc t p):(fC gd ρ G w s Z nr nb G'.own hs adn).own b=uN gd ρ nr nb s.boxes.length (Z.rts.filter wP) (.slc t p):=by
 simp only[fC];rw[if_neg,h]
 rintro⟨hb,gw⟩
 cases hg:(callG ρ G w s Z).own b with
 |frz=>have:=(B.keep hb (.inl hg)).2;rw[h,hg]at this;cases this
 |oth=>have:=(B.keep hb (.inr hg)).2;rw[h,hg]at this;cases this
 |slc _ _=>rw[hg]at gw;cases gw
 |box j=>have:=(B.hF.boxes b j hb hg).1;rw[h]at this;cases this
theorem Saa.give {q m:Nat}{v:Value}{d:D}(h:Rp G'.own w' (2*q) [] m v d)(fp:Z.deps=[]\/oZ m d=true)(fX:gd=false)(hq:q<bU):Rp (fC gd ρ G w s Z nr nb G'.own hs adn).own w' (nr+q) [] m v d:=by
 have:=h.remap (own':=(fC gd ρ G w s Z nr nb G'.own hs adn).own) (r':=nr+q) (q:=[]) (q':=[]) (fun b t hb=>by
  rw[B.slc hb,fX];simp only[uN,Ac0]
  rw[if_pos (by omega),if_neg (by simp),show 2*q / 2=q by omega,if_pos hq]) [] rfl (fp.imp (fun e b hb _=>by
   rcases B.allow (gd:=gd) (nr:=nr) (nb:=nb) (hs:=hs) (adn:=adn) hb with h1|⟨r,k,p,h1,-⟩
   ·exact h1
   ·rw[e]at h1;simp at h1) id)
 simpa using this
theorem Saa.giveGd {q m:Nat}{v:Value}{d:D}(h:Rp G'.own w' (2*q) [] m v d)(fX:gd=true):Rd (Go.Proofs.YtcbkmmhkccnamaaGreat.Rf.allow (fC gd ρ G w s Z nr nb G'.own hs adn) Z.deps) w' v d:=by
 refine h.rd.mono fun b hb=>⟨?_,rfl⟩
 rcases hb with hb|⟨p,hb⟩
 ·exact B.allow hb
 ·refine .inl ?_
  rw[B.slc hb,fX];simp only[uN];rw[if_pos (by omega),if_pos trivial]
theorem Saa.mu {ν j r d m bc:Nat}{q:List (aK×Nat×Nat)}{X y X' X0:aK}(hm:σ (kR r)=some (.root X0 m bc .live))(hdm:q.length+d=m\/oZ d (y.val ρ)=true)(u6:Z.rts[ν]?=some (.mu r d q X))(hj:(Z.rts.filter wP)[j]?=some (.mu r d q X)){u:Value}(hu:∀ u',zI G.own w r [] (G.hdr r) (bB ρ q) u'->u=u')
  (h:Rp G'.own w' (2*j+1) [] d u (y.val ρ)) (fp:Z.deps=[]\/oZ d (y.val ρ)=true) (nF:Upd (bB ρ q) (X.val ρ) (y.val ρ) (X'.val ρ)) :
  Rp (fC gd ρ G w s Z nr nb G'.own hs adn).own w' r [] m (G.hdr r) (X'.val ρ):=by
 obtain⟨m',we,u',hσ,hle,hn⟩:=B.mus ν r d q X u6;rw[hm]at hσ
 obtain⟨rfl,rfl,rfl⟩:X0=X/\m=m'/\bc=we:=by
  have:=Option.some.inj hσ
  injection this with e1 e2 e3
  exact⟨e1,e2,e3⟩
 obtain rfl:=hu u' hn;have hlen:(bB ρ q).length=q.length:=by simp[bB]
 have gn:Rp (fC gd ρ G w s Z nr nb G'.own hs adn).own w' r (bB ρ q) d u (y.val ρ):=by
  have:=h.remap (own':=(fC gd ρ G w s Z nr nb G'.own hs adn).own) (r':=r) (q:=[]) (q':=bB ρ q) (fun b t hb=>by
   rw[B.slc hb];simp only[uN,Ac0]
   rw[if_neg (by omega),show (2*j+1) / 2=j by omega,hj]) [] rfl (fp.imp (fun e b hb _=>by
    rcases B.allow (gd:=gd) (nr:=nr) (nb:=nb) (hs:=hs) (adn:=adn) hb with h1|⟨r,k,p,h1,-⟩
    ·exact h1
    ·rw[e]at h1;simp at h1) id)
  simpa using this
 have a2r:Rp (fC gd ρ G w s Z nr nb G'.own hs adn).own w' r (bB ρ q) (m-(bB ρ q).length) u (y.val ρ):=by
  rcases hdm with e|e
  ·rwa[hlen,show m-q.length=d by omega]
  ·exact gn.deeper (by omega) e
 have eV:=B.hR.root hm;simp only[bP]at eV
 have:=Rp.updM (own:=G.own) (own':=(fC gd ρ G w s Z nr nb G'.own hs adn).own) (w:=w) (w':=w') (r:=r) (M:=m) (full:=bB ρ q) (y:=y.val ρ) (u:=u)
  (fun b hb hlt=>B.frz hb hlt) (fun b t hb hnp=>?_) (by omega) a2r (bB ρ q) [] (G.hdr r) (X0.val ρ) (X'.val ρ) (by simp) (by simpa using eV) hn nF
 ·simpa using this
 ·have hlt:=B.lt hb
  have h1:=Na7 (ρ:=ρ) (G:=G) (w:=w) B.hk u6 hb
  have aE:strip (bB ρ q) t=none:=by
   cases e:strip (bB ρ q) t with
   |none=>rfl
   |some t'=>exact absurd ⟨t',(Kav e).symm⟩ hnp
  rw[aE]at h1;refine⟨?_,(B.keep hlt (.inr h1)).1⟩;rw[B.own_eq hlt (by rw[h1];rfl),hb];simp only[Aam,Bar B.hk.dist u6,aE]
theorem Saa.frame:mJ F (fC gd ρ G w s Z nr nb G'.own hs adn) w':=by
 have df:w.heap.size<=w'.heap.size:=B.hF.size;refine⟨B.hF.os.trans B.hR.frame.os,B.hF.tape.trans B.hR.frame.tape,B.hF.output.trans B.hR.frame.output,Nat.le_trans B.hR.frame.size df,fun b hb ho=>?_,fun b j hb ho=>?_,fun b hb=>?_⟩
 ·obtain⟨h1,h2⟩:=B.hR.frame.keep b hb ho
  have hlt:b<w.heap.size:=Nat.lt_of_lt_of_le hb B.hR.frame.size
  rcases ho with ho|ho
  ·rw[ho]at h2 ⊢
   obtain⟨h3,h4⟩:=B.frz (gd:=gd) (nr:=nr) (nb:=nb) (hs:=hs) (adn:=adn) h2 hlt;exact⟨h4.trans h1,h3⟩
  ·rw[ho]at h2 ⊢
   obtain⟨h3,h4⟩:=B.oth (gd:=gd) (nr:=nr) (nb:=nb) (hs:=hs) (adn:=adn) h2 hlt;exact⟨h4.trans h1,h3⟩
 ·obtain⟨h1,c0,c1,e,fr,h2,h3,h4,h5⟩:=B.hR.frame.boxes b j hb ho
  have hlt:b<w.heap.size:=Nat.lt_of_lt_of_le hb B.hR.frame.size;obtain⟨h6,h7⟩:=B.boxes (gd:=gd) (nr:=nr) (nb:=nb) (hs:=hs) (adn:=adn) h1 hlt;refine⟨h6,?_⟩
  rcases h7 with h7|⟨i,cs,off,ls,d0,d1,e',fr',h8,h9,cQ,dz,fy,iq,ko,mm,mL⟩
  ·exact⟨c0,c1,e,fr,h2,h7.trans h3,h4,h5⟩
  ·rw[h3]at iq
   obtain⟨rfl,rfl,rfl⟩:c1=d0/\e=e'/\fr=fr':=by
    have:=Option.some.inj iq
    injection this with e1 e2 e3
    exact⟨e1,e2,e3⟩
   have wv:=B.hR.rng j ls dz (by rw[<- cQ];exact hb) (by rw[<- cQ];exact ho);refine⟨c0,d1,e,fr,h2,ko,mm.trans h4,fun k hk=>?_⟩;rw[wv]at hk;dsimp only at hk;rw[mL k (by omega),h5 k (by rw[wv];exact hk)]
 ·simp only[fC]
  rw[if_neg (by omega),B.hF.fresh b hb];rfl
end
end Go.Proofs.YtcbkmmhkccnamaaGreat.Rf
