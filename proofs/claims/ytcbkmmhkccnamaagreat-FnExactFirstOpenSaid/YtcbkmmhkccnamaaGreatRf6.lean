import Derived.Test.YtcbkmmhkccnamaaGreatRf5
set_option linter.all false
open Bool renaming and_eq_true → Obz, false_eq_true → Ob9, not_eq_true' → Pbs, or_eq_true → Qbb
open List renaming mem_append_left → Ob1, getElem?_eq_some_iff → Ob2, mem_singleton → Ob3, mem_append_right → Ob4, getElem?_eq_getElem → Ob5, getElem?_cons_zero → Ob7, mem_cons → Ob8, getD_eq_getElem?_getD → Pba, mem_cons_of_mem → Pbb, append_assoc → Pbd, mem_append → Pbe, mem_cons_self → Pbf, mem_of_getElem? → Pbh, getElem?_append_right → Pbk, map_cons → Pbn, getElem?_map → Pbr, length_map → Pbt, all_eq_true → Pbv, map_nil → Pbx, append_nil → Pbz, getElem?_cons_succ → Pb4, mem_map → Pb5, getElem?_drop → Pb7, length_cons → Pb9, nil_append → Qbc, mem_map_of_mem → Qbi, getElem?_set → Qb0, length_nil → Qb4, any_eq_false → Rbi
open Nat renaming le_refl → Pbj, add_assoc → Pbm, lt_or_ge → Pbo, beq_eq → Pbq, zero_add → Pbw, add_zero → Pby, add_sub_cancel_left → Pb1, blt_eq → Pb2, ble_eq → Qba, zero_le → Qbn
open Option renaming bind_eq_some_iff → Oby, bind_some → Ob6, map_some → Pb6, getD_some → Qbt
open Option.some renaming injEq → Ob0, inj → Pbu
open Prod.mk renaming injEq → Pbl, inj → Qb9
namespace Go.Proofs.YtcbkmmhkccnamaaGreat.Rf
def LS.cnt:LS->Nat
 |.px _=>0
 |.clo _ _=>0
 |_=>1
def LS.rcnt:LS->Nat
 |.mu _=>1
 |.ow _=>1
 |_=>0
def Sa3:List LS->Nat
 |[]=>0
 |s::ss=>s.cnt+Sa3 ss
def jC:List LS->Nat
 |[]=>0
 |s::ss=>s.rcnt+jC ss
def Haz:List (Bool×List LS)->Nat
 |[]=>0
 |(_,ss)::ps=>Sa3 ss+Haz ps
def iO:List (Bool×List LS)->Nat
 |[]=>0
 |(_,ss)::ps=>jC ss+iO ps
def BS.cnt:BS->Nat
 |.ot=>0
 |_=>1
def BS.rcnt:BS->Nat
 |.ow _=>1
 |_=>0
def Wav:List (BS×BO)->Nat
 |[]=>0
 |(s,_)::ss=>s.cnt+Wav ss
def tH:List (BS×BO)->Nat
 |[]=>0
 |(s,_)::ss=>s.rcnt+tH ss
def Waw:List (Bool×List (BS×BO))->Nat
 |[]=>0
 |(_,cs)::bs=>Wav cs+Waw bs
def tJ:List (Bool×List (BS×BO))->Nat
 |[]=>0
 |(_,cs)::bs=>tH cs+tJ bs
section
variable (G:Gh) (w:World) (ρ:List D) (nbx:Nat)
def Wak (ok:Nat->Prop)(w:World)(v:Value)(d:D):Prop :=
 (v=.pointer none/\∃ z,d=.rows z [])\/∃ a row,v=.pointer (some a)/\d=.rows row.length [row]/\Rd ok w (.slice (some a) 1 1) (.rows row.length [row])
def xY:List LS->List Value->Prop
 |[],vs=>vs=[]
 |c::cs,vs=>∃ u us,vs=u::us/\(match c with | .px b=>u=.pointer (some (G.bx b))/\b<nbx | _=>u.oneCell'=true)/\xY cs us
def jN (i nr:Nat):LS->Value->Prop
 |.sc,v=>Sc v ((aI.v i).val ρ)
 |.fz nie,v=>Rd (fun b=>G.own b=.frz) w v ((aI.v i).val ρ)/\(nie=true->∀ z,(aI.v i).val ρ=.rows z []->v=.slice none 0 0)
 |.mu m,v=>v=G.hdr nr/\Rp G.own w nr [] m v ((aI.v i).val ρ)
 |.ow m,v=>v=G.hdr nr/\Rp G.own w nr [] m v ((aI.v i).val ρ)
 |.px b,v=>v=.pointer (some (G.bx b))/\b<nbx
 |.clo f cs,v=>∃ vs,v=.func (.func f) #[] vs.toArray/\xY G nbx cs vs
 |.rp _,v=>v.oneCell'=true/\Wak (fun b=>G.own b=.frz) w v ((aI.v i).val ρ)
def pK:Nat->Nat->List LS->List Value->Prop
 |_,_,[],vs=>vs=[]
 |i,nr,s::ss,vs=>∃ u us,vs=u::us/\jN G w ρ nbx i nr s u/\pK (i+s.cnt) (nr+s.rcnt) ss us
def lD:Nat->Nat->List (Bool×List LS)->List Value->Prop
 |_,_,[],us=>us=[]
 |i,nr,(a,ss)::ps,us=>∃ u cD vs,us=u::cD/\pK G w ρ nbx i nr ss vs/\(if a=true then u=.agg vs.toArray else vs=[u])/\lD (i+Sa3 ss) (nr+jC ss) ps cD
def uX (i nr:Nat):BS->Value->Prop
 |.sc,v=>Sc v ((aI.v i).val ρ)
 |.fz nie,v=>Rd (fun b=>G.own b=.frz) w v ((aI.v i).val ρ)/\(nie=true->∀ z,(aI.v i).val ρ=.rows z []->v=.slice none 0 0)
 |.ow m,v=>v=G.hdr nr/\Rp G.own w nr [] m v ((aI.v i).val ρ)
 |.ot,v=>v.oneCell'=true
def Daq (ad:Addr):Nat->Nat->Nat->List (BS×BO)->Prop
 |_,_,_,[]=>True
 |off,i,nr,(s,_)::ss=>(∃ v,w.cell? (ad.add off)=some v/\w.frozen? (ad.add off)=false/\uX G w ρ i nr s v)/\Daq ad (off+1) (i+s.cnt) (nr+s.rcnt) ss
def Dar:Nat->Nat->Nat->List (Bool×List (BS×BO))->Prop
 |_,_,_,[]=>True
 |b,i,nr,(ro,cs)::bs=>(G.bx b).spot=none/\G.own (G.bx b).block=(if ro=true then .oth else .box b)/\Daq G w ρ (G.bx b) 0 i nr cs/\Dar (b+1) (i+Wav cs) (nr+tH cs) bs
end
structure War (s:Sig) (vals:List Value) (w:World) (G:Gh) (ds:List D):Prop where
 params:lD G w ds s.boxes.length 0 0 s.params vals
 boxes:Dar G w ds 0 (Haz s.params) (iO s.params) s.boxes
 len:ds.length=Haz s.params+Waw s.boxes
 fresh:∀ b,w.heap.size<=b->G.own b=.frz
 cells:∀ b j,b<w.heap.size->G.own b=.box j->j<s.boxes.length/\∃ c e fr,w.heap[b]?=some (.cells c e fr)
def Ea9 (s:Sig)(G:Gh):List Value:=(dU 0 (s.params.flatMap (·.2))).map G.hdr++(range 0 s.boxes.length).map fun b=>Value.pointer (some (G.bx b))
def nE (s:Sig)(G:Gh)(w:World):bC :=
 ⟨w,G.own,fun j=>(Ea9 s G).getD j undef,fun b=>((G.bx b).off,(G.bx b).off+(s.boxes.getD b (true,[])).2.length)⟩
theorem Maq {i nr:Nat}(s:LS):∃ l u,iB i nr s=(l,u,i+s.cnt,nr+s.rcnt)/\∀ k c,(k,c)∈u->∃ m,s.rcnt=1/\k=kR nr/\c=.root (.v i) m 0 .live/\(s=.mu m\/s=.ow m)/\l=.ex nr:=by
 cases s with
 | mu m =>
  refine⟨_,_,rfl,fun k c h=>?_⟩;simp only[Ob3,Pbl]at h;exact⟨m,rfl,h.1,h.2,.inl rfl,rfl⟩
 | ow m =>
  refine⟨_,_,rfl,fun k c h=>?_⟩;simp only[Ob3,Pbl]at h;exact⟨m,rfl,h.1,h.2,.inr rfl,rfl⟩
 |_=>exact⟨_,_,rfl,by simp⟩
section
variable {G:Gh} {w:World} {ρ:List D} {nbx:Nat} {σ:Nat->Option aN}
theorem Car (fv:∀ b,b<nbx->(σ (kB b)).isSome):∀ {cs:List LS} {vs:List Value},xY G nbx cs vs->aG σ ρ G w (cs.map fun c=>match c with|.px b=>.px b 0|_=>.dead) vs
 |[],vs,h=>by simpa[xY,aG] using h
 | c :: cs, vs, h => by
  obtain⟨u,us,rfl,h1,h2⟩:=h;simp only[Pbn,aG];refine⟨u,us,rfl,?_,Car fv h2⟩
  cases c with
  | px b =>
   simp only[aB];exact⟨by rw[h1.1];rfl,fv b h1.2⟩
  |_=>simp only[aB];exact h1
def kM (σ:Nat->Option aN)(G:Gh)(w:World)(ρ:List D)(u:List (Nat×aN)):Prop:=∀ k c,(k,c)∈u->∃ r m i,k=kR r/\c=.root (.v i) m 0 .live/\Rp G.own w r [] m (G.hdr r) ((aI.v i).val ρ)
theorem Oar (fv:∀ b,b<nbx->(σ (kB b)).isSome){i nr:Nat}{s:LS}{v:Value}(h:jN G w ρ nbx i nr s v)(mT:s.rcnt=1->(σ (kR nr)).isSome) :
  aB σ ρ G w (iB i nr s).1 v/\kM σ G w ρ (iB i nr s).2.1:=by
 cases s with
 |sc=>exact⟨by simpa[iB,aB,jN] using h,by simp[kM,iB]⟩
 | fz nie =>
  refine⟨?_,by simp[kM,iB]⟩;simp only[jN]at h;simp only[iB,aB];exact⟨⟨h.1.one,by simp⟩,fun _=>⟨h.1.mono fun b hb=>⟨.inl hb,rfl⟩,h.2,trivial⟩⟩
 | mu m =>
  simp only[jN]at h;refine⟨?_,?_⟩
  ·simp only[iB,aB]
   exact⟨h.1,mT rfl,h.2.one⟩
  ·intro k c hc
   simp only[iB,Ob3,Pbl]at hc;exact⟨nr,m,i,hc.1,hc.2,by rw[<- h.1];exact h.2⟩
 | ow m =>
  simp only[jN]at h;refine⟨?_,?_⟩
  ·simp only[iB,aB]
   exact⟨h.1,mT rfl,h.2.one⟩
  ·intro k c hc
   simp only[iB,Ob3,Pbl]at hc;exact⟨nr,m,i,hc.1,hc.2,by rw[<- h.1];exact h.2⟩
 | px b =>
  refine⟨?_,by simp[kM,iB]⟩;simp only[jN]at h;simp only[iB,aB];exact⟨by rw[h.1];rfl,fv b h.2⟩
 | clo f cs =>
  refine⟨?_,by simp[kM,iB]⟩;simp only[jN]at h;obtain⟨vs,h1,h2⟩:=h;simp only[iB,aB];exact⟨vs,h1,Car fv h2⟩
 | rp z =>
  refine⟨?_,by simp[kM,iB]⟩;simp only[jN]at h;simp only[iB,aB];refine⟨⟨h.1,by simp⟩,fun _=>?_⟩
  rcases h.2 with h1|⟨a,row,h1,h2,h3⟩
  ·exact .inl h1
  ·exact .inr ⟨a,row,h1,h2,h3.mono fun b hb=>⟨.inl hb,rfl⟩⟩
theorem kM.append {u v:List (Nat×aN)}(h:kM σ G w ρ u)(h':kM σ G w ρ v):kM σ G w ρ (u++v):=fun k c hc=>(Pbe.1 hc).elim (h k c) (h' k c)
theorem xP:∀ (ss:List LS) (i nr:Nat),(dE i nr ss).2.2=(i+Sa3 ss,nr+jC ss)/\(dE i nr ss).1.length=ss.length/\∀ r,nr<=r->r<nr+jC ss->∃ c,(kR r,c)∈(dE i nr ss).2.1
 |[],i,nr=>⟨rfl,rfl,fun r h1 h2=>by simp only[jC]at h2;omega⟩
 | s :: ss, i, nr => by
  obtain⟨l,u,h1,h2⟩:=Maq (i:=i) (nr:=nr) s;obtain⟨h3,h4,h5⟩:=xP ss (i+s.cnt) (nr+s.rcnt);simp only[dE,h1];refine⟨h3.trans (by simp only[Sa3,jC,Pbm]),by simp[h4],fun r ov jy=>?_⟩;simp only[jC]at jy
  rcases Pbo r (nr+s.rcnt) with h6|h6
  ·have hs:s.rcnt=1:=by cases s<;>simp[LS.rcnt]at h6 ⊢<;>omega
   have:r=nr:=by omega
   subst this;cases s<;>simp[LS.rcnt]at hs
   all_goals
    simp only[iB,Pbl]at h1;obtain⟨-,rfl,-⟩:=h1;exact⟨_,Ob1 _ (Ob3.2 rfl)⟩
  ·obtain⟨c,hc⟩:=h5 r h6 (by omega)
   exact⟨c,Ob4 _ hc⟩
theorem Aag (fv:∀ b,b<nbx->(σ (kB b)).isSome):∀ {ss:List LS} {i nr:Nat} {vs:List Value},pK G w ρ nbx i nr ss vs->(∀ r,nr<=r->r<nr+jC ss->(σ (kR r)).isSome) ->
  aG σ ρ G w (dE i nr ss).1 vs/\kM σ G w ρ (dE i nr ss).2.1
 |[],i,nr,vs,h,_=>⟨by simpa[pK,dE,aG] using h,by simp[kM,dE]⟩
 | s :: ss, i, nr, vs, h, hr => by
  obtain⟨u,us,rfl,h1,h2⟩:=h;obtain⟨l,up,h3,h4⟩:=Maq (i:=i) (nr:=nr) s;obtain⟨h5,h6⟩:=Oar fv h1 fun e=>hr nr (Pbj _) (by simp only[jC];omega)
  obtain⟨h7,h8⟩:=Aag fv h2 fun r ov jy=>hr r (by omega) (by simp only[jC];omega)
  simp only[dE,h3]at h5 h6 ⊢;exact⟨by simp only[aG];exact⟨u,us,rfl,h5,h7⟩,h6.append h8⟩
theorem qV:∀ (ps:List (Bool×List LS)) (t i nr:Nat),(iR t i nr ps).2=(i+Haz ps,nr+iO ps)/\∀ r,nr<=r->r<nr+iO ps->∃ c,(kR r,c)∈(iR t i nr ps).1
 |[],t,i,nr=>⟨rfl,fun r h1 h2=>by simp only[iO]at h2;omega⟩
 | (a, ss) :: ps, t, i, nr => by
  obtain⟨h1,-,h2⟩:=xP ss i nr;obtain⟨h3,h4⟩:=qV ps (t+1) (i+Sa3 ss) (nr+jC ss);have e:dE i nr ss=((dE i nr ss).1,(dE i nr ss).2.1,i+Sa3 ss,nr+jC ss):=by rw[<- h1]
  simp only[iR];rw[e];dsimp only;refine⟨h3.trans (by simp only[Haz,iO,Pbm]),fun r ov jy=>?_⟩;simp only[iO]at jy
  rcases Pbo r (nr+jC ss) with h6|h6
  ·obtain⟨c,hc⟩:=h2 r ov h6
   exact⟨c,Pbb _ (Ob1 _ hc)⟩
  ·obtain⟨c,hc⟩:=h4 r h6 (by omega)
   exact⟨c,Pbb _ (Ob4 _ hc)⟩
def Fbj (σ:Nat->Option aN)(G:Gh)(w:World)(ρ:List D)(val:Nat->Option Value)(u:List (Nat×aN)):Prop :=
 ∀ k c,(k,c)∈u->(∃ t v sv,k=kT t/\c=.slot none sv/\val t=some v/\bS σ ρ G w sv v)\/(∃ r m i,k=kR r/\c=.root (.v i) m 0 .live/\Rp G.own w r [] m (G.hdr r) ((aI.v i).val ρ))
theorem Aaf (fv:∀ b,b<nbx->(σ (kB b)).isSome):∀ {ps:List (Bool×List LS)} {t i nr:Nat} {us:List Value},lD G w ρ nbx i nr ps us->(∀ r,nr<=r->r<nr+iO ps->(σ (kR r)).isSome) ->
  us.length=ps.length/\Fbj σ G w ρ (fun j=>if t<=j then us[j-t]? else none) (iR t i nr ps).1
 | [], t, i, nr, us, h, _ => by
  simp only[lD]at h;subst h;exact⟨rfl,by simp[Fbj,iR]⟩
 | (a, ss) :: ps, t, i, nr, us, h, hr => by
  obtain⟨u,cD,vs,rfl,h1,h2,h3⟩:=h;obtain⟨h4,h5,-⟩:=xP ss i nr;obtain⟨h6,h7⟩:=Aag fv h1 fun r ov jy=>hr r ov (by simp only[iO];omega)
  obtain⟨h8,h9⟩:=Aaf fv (t:=t+1) h3 fun r ov jy=>hr r (by omega) (by simp only[iO];omega)
  have e:dE i nr ss=((dE i nr ss).1,(dE i nr ss).2.1,i+Sa3 ss,nr+jC ss):=by rw[<- h4]
  simp only[iR];rw[e];dsimp only;refine⟨by simp[h8],fun k c hc=>?_⟩
  rcases Ob8.1 hc with hc|hc
  ·obtain⟨rfl,rfl⟩:=Qb9 hc
   refine .inl ⟨t,u,_,rfl,rfl,by simp,?_⟩
   cases gg:Paj a (dE i nr ss).1 with
   |none=>trivial
   |some sv=>exact pR gg h6 h2
  ·rcases Pbe.1 hc with hc|hc
   ·exact .inr (h7 k c hc)
   ·rcases h9 k c hc with ⟨t',v,sv,e1,e2,e3,e4⟩|cd
    ·refine .inl ⟨t',v,sv,e1,e2,?_,e4⟩
     dsimp only at e3 ⊢;split at e3
     ·rename_i hle
      rw[if_pos (by omega)];rw[show t'-t=(t'-(t+1))+1 by omega];exact e3
     ·cases e3
    ·exact .inr cd
theorem Oas {i nr:Nat}{s:BS}{v:Value}(h:uX G w ρ i nr s v)(mT:s.rcnt=1->(σ (kR nr)).isSome) :
  aB σ ρ G w (gB i nr s).1 v/\kM σ G w ρ (gB i nr s).2.1/\(gB i nr s).2.2=(i+s.cnt,nr+s.rcnt)/\(s.rcnt=1->∃ c,(kR nr,c)∈(gB i nr s).2.1):=by
 cases s with
 |sc=>exact⟨by simpa[gB,aB,uX] using h,by simp[kM,gB],rfl,fun e=>by cases e⟩
 | fz nie =>
  refine⟨?_,by simp[kM,gB],rfl,fun e=>by cases e⟩;simp only[uX]at h;simp only[gB,aB];exact⟨⟨h.1.one,by simp⟩,fun _=>⟨h.1.mono fun b hb=>⟨.inl hb,rfl⟩,h.2,trivial⟩⟩
 | ow m =>
  simp only[uX]at h;refine⟨?_,?_,rfl,fun _=>⟨_,Ob3.2 rfl⟩⟩
  ·simp only[gB,aB]
   exact⟨h.1,mT rfl,h.2.one⟩
  ·intro k c hc
   simp only[gB,Ob3,Pbl]at hc;exact⟨nr,m,i,hc.1,hc.2,by rw[<- h.1];exact h.2⟩
 |ot=>exact⟨by simpa[gB,aB,uX] using h,by simp[kM,gB],rfl,fun e=>by cases e⟩
theorem Vas {i nr:Nat}(s:BS):(gB i nr s).2.2=(i+s.cnt,nr+s.rcnt)/\(s.rcnt=1->∃ c,(kR nr,c)∈(gB i nr s).2.1):=by
 cases s<;>refine⟨rfl,fun e=>?_⟩<;>first|cases e|skip
 exact⟨_,Ob3.2 rfl⟩
theorem Bai:∀ (ss:List (BS×BO)) (i nr:Nat),(fT i nr ss).2.2=(i+Wav ss,nr+tH ss)/\(fT i nr ss).1.length=ss.length/\∀ r,nr<=r->r<nr+tH ss->∃ c,(kR r,c)∈(fT i nr ss).2.1
 |[],i,nr=>⟨rfl,rfl,fun r h1 h2=>by simp only[tH]at h2;omega⟩
 | (s, o) :: ss, i, nr => by
  obtain⟨h1,h2⟩:=Vas (i:=i) (nr:=nr) s;obtain⟨h3,h4,h5⟩:=Bai ss (i+s.cnt) (nr+s.rcnt);have e:gB i nr s=((gB i nr s).1,(gB i nr s).2.1,i+s.cnt,nr+s.rcnt):=by rw[<- h1]
  simp only[fT];rw[e];dsimp only;refine⟨h3.trans (by simp only[Wav,tH,Pbm]),by simp[h4],fun r ov jy=>?_⟩;simp only[tH]at jy
  rcases Pbo r (nr+s.rcnt) with h6|h6
  ·have hs:s.rcnt=1:=by cases s<;>simp[BS.rcnt]at h6 ⊢<;>omega
   have:r=nr:=by omega
   subst this;obtain⟨c,hc⟩:=h2 hs;exact⟨c,Ob1 _ hc⟩
  ·obtain⟨c,hc⟩:=h5 r h6 (by omega)
   exact⟨c,Ob4 _ hc⟩
theorem Caj {ad:Addr}:∀ {ss:List (BS×BO)} {off i nr:Nat},Daq G w ρ ad off i nr ss->(∀ r,nr<=r->r<nr+tH ss->(σ (kR r)).isSome) ->
  (∀ j l,(fT i nr ss).1[j]?=some l->∃ v,w.cell? (ad.add (off+j))=some v/\w.frozen? (ad.add (off+j))=false/\aB σ ρ G w l v)/\kM σ G w ρ (fT i nr ss).2.1
 |[],off,i,nr,_,_=>⟨by simp[fT],by simp[kM,fT]⟩
 | (s, o) :: ss, off, i, nr, h, hr => by
  obtain⟨⟨v,h1,h2,h3⟩,h4⟩:=h;obtain⟨h5,h6,h7,-⟩:=Oas h3 fun e=>hr nr (Pbj _) (by simp only[tH];omega)
  obtain⟨h8,h9⟩:=Caj h4 fun r ov jy=>hr r (by omega) (by simp only[tH];omega)
  have e:gB i nr s=((gB i nr s).1,(gB i nr s).2.1,i+s.cnt,nr+s.rcnt):=by rw[<- h7]
  simp only[fT];rw[e];dsimp only;refine⟨fun j l hj=>?_,h6.append h9⟩
  cases j with
  | zero =>
   simp only[Ob7,Ob0]at hj;subst hj;exact⟨v,h1,h2,h5⟩
  | succ j =>
   obtain⟨v',cd,db,fj⟩:=h8 j l (by simpa using hj);rw[show off+(j+1)=off+1+j by omega];exact⟨v',cd,db,fj⟩
def Fbv (σ:Nat->Option aN)(G:Gh)(w:World)(ρ:List D)(bs:Nat->Option (Bool×List (BS×BO)))(u:List (Nat×aN)):Prop :=
 ∀ k c,(k,c)∈u->(∃ b ro ls cs,k=kB b/\c=.box ro ls/\bs b=some (ro,cs)/\ls.length=cs.length/\Ha9 σ ρ G w b ro ls)\/(∃ r m i,k=kR r/\c=.root (.v i) m 0 .live/\Rp G.own w r [] m (G.hdr r) ((aI.v i).val ρ))
theorem vU:∀ (bs:List (Bool×List (BS×BO))) (b i nr:Nat),(jK b i nr bs).2=(i+Waw bs,nr+tJ bs)/\(∀ r,nr<=r->r<nr+tJ bs->∃ c,(kR r,c)∈(jK b i nr bs).1)/\∀ j,b<=j->j<b+bs.length->∃ c,(kB j,c)∈(jK b i nr bs).1
 |[],b,i,nr=>⟨rfl,fun r h1 h2=>by simp only[tJ]at h2;omega,fun j h1 h2=>by simp only[Qb4]at h2;omega⟩
 | (ro, cs) :: bs, b, i, nr => by
  obtain⟨h1,-,h2⟩:=Bai cs i nr;obtain⟨h3,h4,h5⟩:=vU bs (b+1) (i+Wav cs) (nr+tH cs);have e:fT i nr cs=((fT i nr cs).1,(fT i nr cs).2.1,i+Wav cs,nr+tH cs):=by rw[<- h1]
  simp only[jK];rw[e];dsimp only;refine⟨h3.trans (by simp only[Waw,tJ,Pbm]),fun r ov jy=>?_,fun j hj1 jg=>?_⟩
  ·simp only[tJ]at jy
   rcases Pbo r (nr+tH cs) with h6|h6
   ·obtain⟨c,hc⟩:=h2 r ov h6
    exact⟨c,Pbb _ (Ob1 _ hc)⟩
   ·obtain⟨c,hc⟩:=h4 r h6 (by omega)
    exact⟨c,Pbb _ (Ob4 _ hc)⟩
  ·simp only[Pb9]at jg
   rcases Pbo j (b+1) with h6|h6
   ·obtain rfl:j=b:=by omega
    exact⟨_,Pbf⟩
   ·obtain⟨c,hc⟩:=h5 j h6 (by omega)
    exact⟨c,Pbb _ (Ob4 _ hc)⟩
theorem Cak:∀ {bs:List (Bool×List (BS×BO))} {b i nr:Nat},Dar G w ρ b i nr bs->(∀ r,nr<=r->r<nr+tJ bs->(σ (kR r)).isSome) ->
  Fbv σ G w ρ (fun j=>if b<=j then bs[j-b]? else none) (jK b i nr bs).1
 |[],b,i,nr,_,_=>by simp[Fbv,jK]
 | (ro, cs) :: bs, b, i, nr, h, hr => by
  obtain⟨h1,h2,h3,h4⟩:=h;obtain⟨h5,h6,-⟩:=Bai cs i nr;obtain⟨h7,h8⟩:=Caj h3 fun r ov jy=>hr r ov (by simp only[tJ];omega)
  have h9:=Cak (b:=b+1) h4 fun r ov jy=>hr r (by omega) (by simp only[tJ];omega)
  have e:fT i nr cs=((fT i nr cs).1,(fT i nr cs).2.1,i+Wav cs,nr+tH cs):=by rw[<- h5]
  simp only[jK];rw[e];dsimp only;intro k c hc
  rcases Ob8.1 hc with hc|hc
  ·obtain⟨rfl,rfl⟩:=Qb9 hc
   refine .inl ⟨b,ro,_,cs,rfl,rfl,by simp,h6,h1,h2,fun j l hj=>?_⟩;have:=h7 j l hj;rwa[Pbw]at this
  ·rcases Pbe.1 hc with hc|hc
   ·exact .inr (h8 k c hc)
   ·rcases h9 k c hc with ⟨j,kk,ls,nj,e1,e2,e3,e4⟩|cd
    ·refine .inl ⟨j,kk,ls,nj,e1,e2,?_,e4⟩
     dsimp only at e3 ⊢;split at e3
     ·rename_i hle
      rw[if_pos (by omega),show j-b=(j-(b+1))+1 by omega];exact e3
     ·cases e3
    ·exact .inr cd
end
theorem vN:∀ (ss:List LS) (r:Nat),∀ q∈dU r ss,r<=q/\q<r+jC ss
 |[],r,q,h=>by simp[dU]at h
 | s :: ss, r, q, h => by
  cases s with
  | mu m =>
   simp only[dU,Ob8]at h;simp only[jC,LS.rcnt]
   rcases h with rfl|h
   ·omega
   ·have:=vN ss (r+1) q h;omega
  | ow m =>
   simp only[dU]at h;simp only[jC,LS.rcnt];have:=vN ss (r+1) q h;omega
  | _ =>
   simp only[dU]at h;simp only[jC,LS.rcnt];have:=vN ss r q h;omega
theorem Ba8:∀ (a b:List LS),jC (a++b)=jC a+jC b
 |[],b=>by simp[jC]
 |s::a,b=>by simp only[List.cons_append,jC,Ba8 a b,Pbm]
theorem Had:∀ (ps:List (Bool×List LS)),jC (ps.flatMap (·.2))=iO ps
 |[]=>rfl
 |(a,ss)::ps=>by simp only[List.flatMap_cons,Ba8,iO,Had ps]
theorem qW:∀ (ls:List aM) (t k:Nat) (c:aN),(k,c)∈pF t ls->∃ j l,ls[j]?=some l/\k=kT (t+j)/\c=.slot none (.one l)
 |[],t,k,c,h=>by simp[pF]at h
 | l :: ls, t, k, c, h => by
  simp only[pF,Ob8,Pbl]at h
  rcases h with ⟨rfl,rfl⟩|h
  ·exact⟨0,l,rfl,rfl,rfl⟩
  ·obtain⟨j,l',h1,rfl,rfl⟩:=qW ls (t+1) k c h
   exact⟨j+1,l',by simpa using h1,by rw[show t+(j+1)=t+1+j by omega],rfl⟩
theorem Sab {s:Sig}{G:Gh}{j:Nat}{l:aM}(h:(La8 s)[j]?=some l) :
  (∃ r,(dU 0 (s.params.flatMap (·.2)))[j]?=some r/\l=.ex r/\(Ea9 s G).getD j undef=G.hdr r)\/(∃ b,b<s.boxes.length/\l=.px b 0/\(Ea9 s G).getD j undef=.pointer (some (G.bx b))):=by
 unfold La8 at h;unfold Ea9;rw[Pba]
 rcases Pbo j (dU 0 (s.params.flatMap (·.2))).length with h1|h1
 ·rw[List.getElem?_append_left (by simpa using h1)]at h ⊢
  rw[Pbr]at h ⊢;rw[Ob5 h1]at h ⊢;simp only[Pb6,Ob0]at h;exact .inl ⟨_,rfl,h.symm,rfl⟩
 ·rw[Pbk (by simpa using h1)]at h ⊢
  simp only[Pbt]at h ⊢;rw[Pbr]at h ⊢
  cases hb:(range 0 s.boxes.length)[j-(dU 0 (s.params.flatMap (·.2))).length]? with
  |none=>rw[hb]at h;cases h
  | some b =>
   rw[hb]at h;simp only[Pb6,Ob0]at h;have:=mem_range.1 (Pbh hb);exact .inr ⟨b,by omega,h.symm,rfl⟩
def Ya5 (s:Sig)(n:Nat):List (Nat×aN) :=
 (iR 0 0 0 s.params).1++(jK 0 (Haz s.params) (iO s.params) s.boxes).1++pF n (La8 s)
theorem entry_eq (s:Sig)(n:Nat):entry s n=St.puts ⟨.nil,Haz s.params+Waw s.boxes,s.boxes.length,iO s.params+tJ s.boxes,n+lH s⟩ (Ya5 s n):=by
 have h1:=(qV s.params 0 0 0).1;have h2:=(vU s.boxes 0 (Haz s.params) (iO s.params)).1;rw[Pbw,Pbw]at h1;have e:iR 0 0 0 s.params=((iR 0 0 0 s.params).1,Haz s.params,iO s.params):=by rw[<- h1]
 have e2:jK 0 (Haz s.params) (iO s.params) s.boxes=((jK 0 (Haz s.params) (iO s.params) s.boxes).1,Haz s.params+Waw s.boxes,iO s.params+tJ s.boxes):=by rw[<- h2]
 unfold entry Ya5;rw[e];dsimp only;rw[e2]
theorem Bah (s:Sig)(n:Nat):(entry s n).nv=Haz s.params+Waw s.boxes/\(entry s n).nb=s.boxes.length/\(entry s n).nr=iO s.params+tJ s.boxes/\(entry s n).nt=n+lH s:=by
 rw[entry_eq];obtain⟨h1,h2,h3,h4⟩:=iE (Ya5 s n) ⟨.nil,Haz s.params+Waw s.boxes,s.boxes.length,iO s.params+tJ s.boxes,n+lH s⟩;exact⟨h1,h2,h3,h4⟩
theorem Man (s:Sig)(n:Nat)(k:Nat):(entry s n).get k=bif sJ (n+lH s) s.boxes.length (iO s.params+tJ s.boxes) k then upds (fun _=>none) (Ya5 s n) k else none:=by
 obtain⟨h1,h2,h3,h4⟩:=Bah s n;unfold St.get;rw[h2,h3,h4]
 have:(entry s n).tr.get k=upds (fun _=>none) (Ya5 s n) k:=by
  rw[entry_eq,Iax];exact oJ _ _ _ _ rfl
 rw[this]
theorem Mam {s:Sig}{n k:Nat}{c:aN}(h:(entry s n).get k=some c):(k,c)∈Ya5 s n:=by
 rw[Man]at h
 revert h
 cases sJ (n+lH s) s.boxes.length (iO s.params+tJ s.boxes) k with
 |false=>intro h;cases h
 | true =>
  intro h
  rcases nI _ _ _ _ h with h1|⟨-,h1⟩
  ·exact h1
  ·cases h1
theorem Hax {s:Sig}{n k:Nat}(hb:sJ (n+lH s) s.boxes.length (iO s.params+tJ s.boxes) k=true)(h:∃ c,(k,c)∈Ya5 s n):((entry s n).get k).isSome:=by
 rw[Man,hb,cond_true];exact dL _ _ _ (.inr h)
theorem Yav {nt nb nr b:Nat}(h:b<nb):sJ nt nb nr (kB b)=true:=by
 unfold sJ;rw[Law];have:kB b / 3=b:=by unfold kB;omega
 rw[this];simpa using h
theorem Saj (s:Sig)(n r:Nat)(h:r<iO s.params+tJ s.boxes):((entry s n).get (kR r)).isSome:=by
 refine Hax (Lau h) ?_
 rcases Pbo r (iO s.params) with h1|h1
 ·obtain⟨c,hc⟩:=(qV s.params 0 0 0).2 r (Qbn _) (by omega)
  exact⟨c,Ob1 _ (Ob1 _ hc)⟩
 ·obtain⟨c,hc⟩:=(vU s.boxes 0 (Haz s.params) (iO s.params)).2.1 r h1 h
  exact⟨c,Ob1 _ (Ob4 _ hc)⟩
theorem Vaq (s:Sig)(n b:Nat)(h:b<s.boxes.length):((entry s n).get (kB b)).isSome:=by
 refine Hax (Yav h) ?_;obtain⟨c,hc⟩:=(vU s.boxes 0 (Haz s.params) (iO s.params)).2.2 b (Qbn _) (by omega);exact⟨c,Ob1 _ (Ob4 _ hc)⟩
theorem Bb8 {s:Sig}{vals:List Value}{w:World}{G:Gh}{ds:List D}{n:Nat}(h:War s vals w G ds)(hn:s.params.length<=n) :
  vals.length=s.params.length/\R n (nE s G w) (entry s n).get ds ⟨vals.toArray++Array.replicate (n-vals.length) undef,[]⟩ w G:=by
 have fv:∀ b,b<s.boxes.length->((entry s n).get (kB b)).isSome:=fun b hb=>Vaq s n b hb
 have mT:=Saj s n;obtain⟨hlen,mC⟩:=Aaf (σ:=(entry s n).get) fv (t:=0) h.params fun r _ hr=>mT r (by omega)
 have pa:=Cak (σ:=(entry s n).get) h.boxes fun r _ hr=>mT r hr
 have e9:∀ r,r<iO s.params->(G.hdr r).oneCell'=true:=by
  intro r hr;obtain⟨c,hc⟩:=(qV s.params 0 0 0).2 r (Qbn _) (by omega)
  rcases mC _ c hc with ⟨t,v,sv,e,-⟩|⟨r',m,i,e,-,fa⟩
  ·exact absurd e.symm iA
  ·obtain rfl:=dY e
   exact fa.one
 have dt:∀ t v,vals[t]?=some v->yA n ⟨vals.toArray++Array.replicate (n-vals.length) undef,[]⟩ (nE s G w).gh t=v:=by
  intro t v hv;have aq:=(Ob2.1 hv).1;unfold yA;rw[if_pos (by omega)];simp only[Array.getD_eq_getD_getElem?];rw[Array.getElem?_append_left (by simpa using aq)];simp[hv]
 refine⟨hlen,?_,rfl,fun k c hk=>?_,?_,fun b ls hk hb ho=>?_⟩
 ·simp;omega
 ·have hm:=Mam hk
  unfold Ya5 at hm
  rcases Pbe.1 hm with hm|hm
  ·rcases Pbe.1 hm with hm|hm
   ·rcases mC k c hm with ⟨t,v,sv,rfl,rfl,hv,gg⟩|⟨r,m,i,rfl,rfl,fa⟩
    ·refine⟨t,rfl,fun _=>?_⟩
     simp only[Qbn,if_true,Nat.sub_zero]at hv;rw[dt t v hv];exact gg
    ·exact⟨r,rfl,by rw[hk];rfl,fa⟩
   ·rcases pa k c hm with ⟨b,ro,ls,cs,rfl,rfl,-,-,qy⟩|⟨r,m,i,rfl,rfl,fa⟩
    ·exact⟨b,rfl,qy⟩
    ·exact⟨r,rfl,by rw[hk];rfl,fa⟩
  ·obtain⟨j,l,hj,rfl,rfl⟩:=qW _ _ _ _ hm
   refine⟨n+j,rfl,fun _=>?_⟩
   have e:yA n ⟨vals.toArray++Array.replicate (n-vals.length) undef,[]⟩ (nE s G w).gh (n+j)=(Ea9 s G).getD j undef:=by
    unfold yA;rw[if_neg (by omega),Pb1];rfl
   rw[e];simp only[bS]
   rcases Sab (G:=G) hj with ⟨r,h1,rfl,h2⟩|⟨b,h1,rfl,h2⟩
   ·have hr:=vN _ _ r (Pbh h1)
    rw[Had]at hr;simp only[aB];rw[h2];exact⟨rfl,mT r (by omega),e9 r (by omega)⟩
   ·simp only[aB]
    rw[h2];exact⟨rfl,fv b h1⟩
 ·exact⟨rfl,rfl,rfl,Pbj _,fun b hb ho=>⟨rfl,rfl⟩,fun b j hb ho=>⟨ho,by
   obtain⟨-,c,e,fr,hc⟩:=h.cells b j hb ho;exact⟨c,c,e,fr,hc,hc,rfl,fun _ _=>rfl⟩⟩,h.fresh⟩
 ·have hm:=Mam hk
  unfold Ya5 at hm
  rcases Pbe.1 hm with hm|hm
  ·rcases Pbe.1 hm with hm|hm
   ·rcases mC _ _ hm with ⟨t,v,sv,e,-⟩|⟨r,m,i,e,-⟩
    ·exact absurd e.symm kF
    ·exact absurd e eD
   ·rcases pa _ _ hm with ⟨b',ro,jn,cs,e,e2,e3,e4,qy⟩|⟨r,m,i,e,-⟩
    ·obtain rfl:=zT e
     injection e2 with e5 e6
     subst e5 e6;simp only[Qbn,if_true,Nat.sub_zero]at e3;simp only[nE,Pba,e3,Qbt];rw[e4]
    ·exact absurd e eD
  ·obtain⟨j,r,hj,e,-⟩:=qW _ _ _ _ hm
   exact absurd e.symm kF
theorem Vap {s:Sig}{n dw:Nat}(h:Dau (entry s n) dw ((range 0 (entry s n).nt).map kT++(range 0 (entry s n).nb).map kB++(range 0 (entry s n).nr).map kR)=true){E:Env}(hE:E.ntmps=n):Aar E (entry s n):=by
 refine⟨by rw[(Bah s n).2.2.2,hE];omega,fun k c hk=>?_⟩
 have hm:k∈(range 0 (entry s n).nt).map kT++(range 0 (entry s n).nb).map kB++(range 0 (entry s n).nr).map kR:=by
  rcases xM hk with ⟨t,rfl,ht⟩|⟨b,rfl,hb⟩|⟨r,rfl,hr⟩
  ·exact Ob1 _ (Ob1 _ (Pb5.2 ⟨t,mem_range.2 ⟨by omega,by omega⟩,rfl⟩))
  ·exact Ob1 _ (Ob4 _ (Pb5.2 ⟨b,mem_range.2 ⟨by omega,by omega⟩,rfl⟩))
  ·exact Ob4 _ (Pb5.2 ⟨r,mem_range.2 ⟨by omega,by omega⟩,rfl⟩)
 have:=Aax h k hm;rw[hk]at this;exact qX this
def BO.q:BO->Nat
 |.ow _=>1
 |_=>0
def qC:List BO->Nat
 |[]=>0
 |s::ss=>s.q+qC ss
def LR.q:LR->Nat
 |.ow _=>1
 |.bx cs=>qC cs
 |_=>0
def qL:List LR->Nat
 |[]=>0
 |s::ss=>s.q+qL ss
def qR:List (Bool×List LR)->Nat
 |[]=>0
 |(_,ss)::rs=>qL ss+qR rs
section
variable (own:Nat->Ow) (w:World) (ds:List D) (nbx:Nat)
def Bav (i q:Nat):BO->Value->Prop
 |.sc,v=>Sc v (ds.getD i .undef)
 |.fz,v=>Rd (fun b=>own b=.frz) w v (ds.getD i .undef)
 |.ow m,v=>Rp own w (2*q) [] m v (ds.getD i .undef)
 |.dead,v=>v.oneCell'=true
def Aat (ad:Addr):Nat->Nat->Nat->List BO->Prop
 |_,_,_,[]=>True
 |off,i,q,s::ss=>(∃ v,w.cell? (ad.add off)=some v/\w.frozen? (ad.add off)=false/\Bav own w ds i q s v)/\Aat ad (off+1) (i+1) (q+s.q) ss
def kJ (i q:Nat):LR->Value->Prop
 |.sc,v=>Sc v (ds.getD i .undef)
 |.fz,v=>Rd (fun b=>own b=.frz) w v (ds.getD i .undef)
 |.ow m,v=>Rp own w (2*q) [] m v (ds.getD i .undef)
 |.rp _,v=>v.oneCell'=true/\Wak (fun b=>own b=.frz) w v (ds.getD i .undef)
 |.bx cs,v=>∃ ad,v=.pointer (some ad)/\ad.spot=none/\own ad.block=.box nbx/\Aat own w ds ad 0 i q cs
def nH:Nat->Nat->List LR->List Value->Prop
 |_,_,[],vs=>vs=[]
 |i,q,s::ss,vs=>∃ u us,vs=u::us/\kJ own w ds nbx i q s u/\nH (i+s.n) (q+s.q) ss us
def Ha7:Nat->Nat->List (Bool×List LR)->List Value->Prop
 |_,_,[],us=>us=[]
 |i,q,(a,ss)::rs,us=>∃ u cD vs,us=u::cD/\nH own w ds nbx i q ss vs/\(if a=true then u=.agg vs.toArray else vs=[u])/\Ha7 (i+lF ss) (q+qL ss) rs cD
def Qay (gh:Nat->Value):Nat->Nat->List Nat->Prop
 |_,_,[]=>True
 |i,j,d::ms=>Rp own w (2*j+1) [] d (gh j) (ds.getD i .undef)/\Qay gh (i+1) (j+1) ms
def kK (bx:Nat->Addr):Nat->Nat->Nat->List (Bool×List (BS×BO))->Prop
 |_,_,_,[]=>True
 |b,i,q,(ro,cs)::r=>if ro=true then kK bx (b+1) i q r else Aat own w ds (bx b) 0 i q (cs.map (·.2))/\kK bx (b+1) (i+cs.length) (q+qC (cs.map (·.2))) r
end
def Ba6:List Value->Value
 |[u]=>u
 |us=>.tuple us.toArray
def Ja7 (s:Sig)(F:bC)(bx:Nat->Addr)(v:Value)(w:World)(ds:List D):Prop :=
 ∃ G us,v=Ba6 us/\kW F G w/\Ha7 G.own w ds s.boxes.length 0 0 s.results us/\Qay G.own w ds F.gh (bF s.results) 0 (dJ (s.params.flatMap (·.2))) /\
  kK G.own w ds bx 0 (bF s.results+(dJ (s.params.flatMap (·.2))).length) (qR s.results) s.boxes
structure FLe (A B:Fin):Prop where
 xs:∃ l,B.xs=A.xs++l
 own:∀ z∈A.own,z∈B.own
 frz:∀ z∈A.frz,z∈B.frz
 lets:∃ l,B.lets=A.lets++l
 bxs:∀ z∈A.bxs,z∈B.bxs
theorem FLe.refl (A:Fin):FLe A A:=⟨⟨[],by simp⟩,fun _ h=>h,fun _ h=>h,⟨[],by simp⟩,fun _ h=>h⟩
theorem FLe.trans {A B C:Fin}(h:FLe A B)(h':FLe B C):FLe A C:=by
 obtain⟨⟨l,h1⟩,h2,h3,⟨m,h4⟩,h5⟩:=h;obtain⟨⟨l',uk⟩,tS,zv,⟨m',uf⟩,sR⟩:=h';exact⟨⟨l++l',by rw[uk,h1,Pbd]⟩,fun z hz=>tS z (h2 z hz),fun z hz=>zv z (h3 z hz),⟨m++m',by rw[uf,h4,Pbd]⟩,fun z hz=>sR z (h5 z hz)⟩
structure Sa5 (Z:Fin) (nbx:Nat) (G G':Gh):Prop where
 frz:∀ b,G.own b=.frz->G'.own b=.frz
 own:∀ r t m,(r,t,m)∈Z.own->∀ b p,G.own b=.slc r p->G'.own b=if p.length<m then .slc t p else .frz
 fr:∀ r,r∈Z.frz->∀ b p,G.own b=.slc r p->G'.own b=.frz
 bxs:∀ β,β∈Z.bxs->∀ b,G.own b=.box β->G'.own b=.box nbx
section
variable {E:Env} {F:bC} {σ:Nat->Option aN} {ρ:List D} {a:Act} {w:World} {G G':Gh} {cf:Nat->List D->Option (List D)} {Z:Fin} {nbx nv:Nat}
theorem FLe.get {A B:Fin}(h:FLe A B){ρ:List D}{x:aI}{l:List aI}(hx:A.xs=l++[x]):(B.xs.map (·.val ρ)).getD l.length .undef=x.val ρ:=by
 obtain⟨m,h1⟩:=h.xs;rw[h1,hx,Pba];simp
theorem Rp.give (hG:Sa5 Z nbx G G'){r t m m':Nat}(hz:(r,t,m)∈Z.own)(hm:m<=m'){v:Value}{d:D}(h:Rp G.own w r [] m' v d):Rp G'.own w t [] m v d:=by
 let iw:Nat->Ow:=fun b=>match G.own b with
  |.slc s p=>if s=r then (if p.length<m then .slc s p else .frz) else .slc s p
  |o=>o
 have h1:=h.weaken (own':=iw) (fun b hb=>by simp only[iw,hb]) m hm (fun b q hb=>by simp only[iw,hb,Qbc,if_true]);have:=h1.mono (own':=G'.own) (w':=w) (q:=[]) (q':=[]) (r':=t) (fun b hb=>⟨?_,rfl⟩) [] rfl (fun b q hb=>⟨?_,rfl⟩)
 ·simpa using this
 ·simp only[iw]at hb
  split at hb
  ·rename_i s p e
   split at hb
   ·rename_i hs
    subst hs;split at hb
    ·cases hb
    ·rename_i hp
     rw[hG.own s t m hz b p e,if_neg hp]
   ·cases hb
  ·exact hG.frz b hb
 ·simp only[iw]at hb
  split at hb
  ·rename_i s p e
   split at hb
   ·rename_i hs
    subst hs;split at hb
    ·rename_i hp
     injection hb with e1 e2
     simp only[Qbc]at e2 ⊢;subst e2;rw[hG.own s t m hz b p e,if_pos hp]
    ·cases hb
   ·rename_i hs
    injection hb with e1 e2
    exact absurd e1 hs
  ·rename_i ub
   exact absurd hb (ub _ _)
theorem Rd.give (hG:Sa5 Z nbx G G'){deps:List (Nat×Nat)}(hz:∀ z∈deps,z.1∈Z.frz){v:Value}{d:D}(h:Rd (allow G deps) w v d):Rd (fun b=>G'.own b=.frz) w v d:=by
 refine h.mono fun b hb=>⟨?_,rfl⟩
 rcases hb with hb|⟨r,k,p,hm,hb⟩
 ·exact hG.frz b hb
 ·exact hG.fr r (hz _ hm) b p hb
theorem Maf (hR:R E.ntmps F σ ρ a w G){A B:Fin}{m:Nat}{l:aM}(h:(Mag A m l).eval σ=some B)(hZ:FLe B Z)(hG:Sa5 Z nbx G G'){v:Value}(hl:aB σ ρ G w l v) :
  Rp G'.own w (2*A.q) [] m v ((Z.xs.map (·.val ρ)).getD A.xs.length .undef)/\FLe A B/\B.xs.length=A.xs.length+1/\B.q=A.q+1:=by
 unfold Mag at h;split at h
 ·rename_i nie z
  simp only[aF,Ob0]at h;subst h;refine⟨?_,⟨⟨_,rfl⟩,fun _ h=>h,fun _ h=>h,⟨[],by simp[Qam]⟩,fun _ h=>h⟩,by simp[Qam],rfl⟩;rw[hZ.get (l:=A.xs) rfl];simp only[aB]at hl;have hv:=(hl.2 (by simp)).2.1 trivial z rfl;rw[hv]
  cases m with
  |zero=>exact .fz (.rows none ⟨0,0,none⟩ 0 0 z [] (fun _ _=>undef) rfl (Pbj _) (.inl rfl) (by simp) (by simp) (by simp))
  |succ m=>exact .sl none ⟨0,0,none⟩ 0 0 z [] (fun _ _=>undef) rfl (Pbj _) (.inr ⟨rfl,rfl⟩) (by simp) (fun e=>by cases e) (by simp) (by simp)
 ·rename_i r
  simp only[aA,aP,Ob6]at h;split at h
  ·rename_i x m' aE hk
   simp only[aA,aH,Oby,aF,Ob0]at h;obtain⟨_,h1,rfl⟩:=h;split at h1
   case isFalse=>cases h1
   rename_i hb;simp only[Qba]at hb;refine⟨?_,⟨⟨_,rfl⟩,fun _ h=>Ob1 _ h,fun _ h=>h,⟨[],by simp[wV]⟩,fun _ h=>h⟩,by simp[wV],rfl⟩;rw[hZ.get (l:=A.xs) rfl];simp only[aB]at hl;rw[hl.1];have hr:=hR.root hk;simp only[bK]at hr;exact hr.give hG (hZ.own _ (by simp[wV])) hb
  ·cases h
 ·rename_i r k nie x
  simp only[aA,aP,Ob6]at h;split at h
  ·rename_i x' m' aE hk
   simp only[aA,aH,Oby,aF,Ob0]at h;obtain⟨_,h1,rfl⟩:=h;split at h1
   case isFalse=>cases h1
   rename_i hb;simp only[Obz,Qba,Pbq]at hb;obtain⟨hb,rfl⟩:=hb;refine⟨?_,⟨⟨_,rfl⟩,fun _ h=>Ob1 _ h,fun _ h=>h,⟨[],by simp[wV]⟩,fun _ h=>h⟩,by simp[wV],rfl⟩;rw[hZ.get (l:=A.xs) rfl];simp only[aB]at hl
   have hp:=(hl.2 fun z hz=>by
    simp only[Ob3]at hz;subst hz;exact⟨x',m',.live,hk,.inl rfl⟩).2.2
   exact (hp r aE m' rfl ⟨x',hk⟩).give hG (hZ.own _ (by simp[wV])) hb
  ·cases h
 ·cases h
theorem Mah (hR:R E.ntmps F σ ρ a w G){A B:Fin}{l:aM}(h:(Mai A l).eval σ=some B)(hZ:FLe B Z)(hG:Sa5 Z nbx G G'){v:Value}(hl:aB σ ρ G w l v) :
  Rd (fun b=>G'.own b=.frz) w v ((Z.xs.map (·.val ρ)).getD A.xs.length .undef)/\FLe A B/\B.xs.length=A.xs.length+1/\B.q=A.q:=by
 unfold Mai at h;simp only[aA,Oby,aF,Ob0]at h;obtain⟨s,h1,rfl⟩:=h;refine⟨?_,⟨⟨_,rfl⟩,fun _ h=>h,fun _ h=>Ob1 _ h,⟨[],by simp⟩,fun _ h=>h⟩,by simp,rfl⟩;rw[hZ.get (l:=A.xs) rfl];have hs:=dI hR h1 hl;exact hs.rd.give hG fun z hz=>hZ.frz _ (Ob4 _ (Qbi hz))
theorem Oaq (hR:R E.ntmps F σ ρ a w G){A B:Fin}{s:BO}{l:aM}(h:(Bag A s l).eval σ=some B)(hZ:FLe B Z)(hG:Sa5 Z nbx G G'){v:Value}(hl:aB σ ρ G w l v) :
  Bav G'.own w (Z.xs.map (·.val ρ)) A.xs.length A.q s v/\FLe A B/\B.xs.length=A.xs.length+1/\B.q=A.q+s.q:=by
 cases s with
 | sc =>
  cases l<;>simp only[Bag,bJ,reduceCtorEq]at h
  rename_i x;simp only[aF,Ob0]at h;subst h;refine⟨?_,⟨⟨_,rfl⟩,fun _ h=>h,fun _ h=>h,⟨[],by simp⟩,fun _ h=>h⟩,by simp,rfl⟩;simp only[Bav];rw[hZ.get (l:=A.xs) rfl];simpa[aB] using hl
 | fz =>
  have h':(Mai A l).eval σ=some B:=by cases l<;>exact h
  exact Mah hR h' hZ hG hl
 | ow m =>
  have h':(Mag A m l).eval σ=some B:=by cases l<;>exact h
  exact Maf hR h' hZ hG hl
 | dead =>
  have h':(bif Kap l then RdM.ret { A with xs:=A.xs++[.c .hole] } else .no:RdM Fin).eval σ=some B:=by cases l<;>exact h
  cases hb:Kap l with
  |false=>rw[hb]at h';cases h'
  | true =>
   rw[hb,cond_true]at h';simp only[aF,Ob0]at h';subst h';exact⟨hl.one hb,⟨⟨_,rfl⟩,fun _ h=>h,fun _ h=>h,⟨[],by simp⟩,fun _ h=>h⟩,by simp,rfl⟩
theorem Aac:∀ {ss:List BO} {ls:List aM} {A B:Fin},(iL A ss ls).eval σ=some B->(∀ {A B:Fin} {s:BO} {l:aM},(Bag A s l).eval σ=some B->FLe A B)->FLe A B
 | [], [], A, B, h, _ => by
  simp only[iL,aF,Ob0]at h;subst h;exact .refl _
 |[],_::_,A,B,h,_=>by simp[iL,bJ]at h
 |_::_,[],A,B,h,_=>by simp[iL,bJ]at h
 | s :: ss, l :: ls, A, B, h, hc => by
  simp only[iL,aA,Oby]at h;obtain⟨C,h1,h2⟩:=h;exact (hc h1).trans (Aac h2 hc)
theorem Qal {A B:Fin}{m:Nat}{l:aM}(h:(Mag A m l).eval σ=some B):FLe A B:=by
 unfold Mag at h;split at h
 ·simp only[aF,Ob0]at h
  subst h;exact⟨⟨_,rfl⟩,fun _ h=>h,fun _ h=>h,⟨[],by simp[Qam]⟩,fun _ h=>h⟩
 ·simp only[aA,aP,Ob6]at h
  split at h
  ·simp only[aA,aH,Oby,aF,Ob0]at h
   obtain⟨_,-,rfl⟩:=h;exact⟨⟨_,rfl⟩,fun _ h=>Ob1 _ h,fun _ h=>h,⟨[],by simp[wV]⟩,fun _ h=>h⟩
  ·cases h
 ·simp only[aA,aP,Ob6]at h
  split at h
  ·simp only[aA,aH,Oby,aF,Ob0]at h
   obtain⟨_,-,rfl⟩:=h;exact⟨⟨_,rfl⟩,fun _ h=>Ob1 _ h,fun _ h=>h,⟨[],by simp[wV]⟩,fun _ h=>h⟩
  ·cases h
 ·cases h
theorem Qan {A B:Fin}{l:aM}(h:(Mai A l).eval σ=some B):FLe A B:=by
 unfold Mai at h;simp only[aA,Oby,aF,Ob0]at h;obtain⟨s,h1,rfl⟩:=h;exact⟨⟨_,rfl⟩,fun _ h=>h,fun _ h=>Ob1 _ h,⟨[],by simp⟩,fun _ h=>h⟩
theorem Sah {A B:Fin}{s:BO}{l:aM}(h:(Bag A s l).eval σ=some B):FLe A B:=by
 cases s with
 | sc =>
  cases l<;>simp only[Bag,bJ,reduceCtorEq]at h
  simp only[aF,Ob0]at h;subst h;exact⟨⟨_,rfl⟩,fun _ h=>h,fun _ h=>h,⟨[],by simp⟩,fun _ h=>h⟩
 | fz =>
  have h':(Mai A l).eval σ=some B:=by cases l<;>exact h
  exact Qan h'
 | ow m =>
  have h':(Mag A m l).eval σ=some B:=by cases l<;>exact h
  exact Qal h'
 | dead =>
  have h':(bif Kap l then RdM.ret { A with xs:=A.xs++[.c .hole] } else .no:RdM Fin).eval σ=some B:=by cases l<;>exact h
  cases hb:Kap l with
  |false=>rw[hb]at h';cases h'
  | true =>
   rw[hb,cond_true]at h';simp only[aF,Ob0]at h';subst h';exact⟨⟨_,rfl⟩,fun _ h=>h,fun _ h=>h,⟨[],by simp⟩,fun _ h=>h⟩
theorem qQ {ss:List BO}{ls:List aM}{A B:Fin}(h:(iL A ss ls).eval σ=some B):FLe A B:=Aac h fun h=>Sah h
theorem uK (hR:R E.ntmps F σ ρ a w G)(hG:Sa5 Z nbx G G'){ad:Addr}:∀ {ss:List BO} {ls:List aM} {A B:Fin} {off:Nat},(iL A ss ls).eval σ=some B->FLe B Z ->
  (∀ j l,ls[j]?=some l->∃ v,w.cell? (ad.add (off+j))=some v/\w.frozen? (ad.add (off+j))=false/\aB σ ρ G w l v) ->
  Aat G'.own w (Z.xs.map (·.val ρ)) ad off A.xs.length A.q ss/\B.xs.length=A.xs.length+ss.length/\B.q=A.q+qC ss
 | [], [], A, B, off, h, _, _ => by
  simp only[iL,aF,Ob0]at h;subst h;exact⟨trivial,rfl,rfl⟩
 |[],_::_,A,B,off,h,_,_=>by simp[iL,bJ]at h
 |_::_,[],A,B,off,h,_,_=>by simp[iL,bJ]at h
 | s :: ss, l :: ls, A, B, off, h, hZ, hl => by
  simp only[iL,aA,Oby]at h;obtain⟨C,h1,h2⟩:=h;obtain⟨v,h3,h4,h5⟩:=hl 0 l rfl;obtain⟨h6,h7,h8,h9⟩:=Oaq hR h1 ((qQ h2).trans hZ) hG h5
  obtain⟨cd,db,fj⟩:=uK hR hG (off:=off+1) h2 hZ fun j l' hj=>by
   have:=hl (j+1) l' (by simpa using hj);rwa[show off+(j+1)=off+1+j by omega]at this
  rw[h8,h9]at cd;exact⟨⟨⟨v,h3,h4,h6⟩,cd⟩,by rw[db,h8];simp;omega,by rw[fj,h9];simp only[qC];omega⟩
end
def Abe (tmps:Array Value):ResultVar->Sem Value
 |.tmp t=>pure (tmps.getD t undef)
 |.cell a t=>do loadVar t (<- asAddr (tmps.getD a undef))
def Ba7 (P:Program)(tmps:Array Value)(w:World)(x:ResultVar):Value:=match (Abe tmps x).run P w with
 |.ok v _=>v
 |_=>undef
theorem Ka5 {P:Program}{tmps:Array Value}{w:World}{x:ResultVar}{v:Value}(h:(Abe tmps x).run P w=.ok v w):Ba7 P tmps w x=v/\(Abe tmps x).run P w=.ok (Ba7 P tmps w x) w:=by
 have:Ba7 P tmps w x=v:=by unfold Ba7;rw[h]
 exact⟨this,by rw[this];exact h⟩
theorem Ta1 (vs:Array Value):(if h:vs.size=1 then vs[0] else Value.tuple vs)=Ba6 vs.toList:=by
 obtain⟨l⟩:=vs
 match l with
 |[]=>rfl
 |[u]=>rfl
 |u::v::r=>simp[Ba6]
section
variable {P:Program} {E:Env} {F:bC} {σ:Nat->Option aN} {ρ:List D} {a:Act} {w:World} {G G':Gh} {cf:Nat->List D->Option (List D)} {Z:Fin} {nbx nv:Nat}
theorem Sag {A B:Fin}{s:LR}{l:aM}(h:(Fai nv A s l).eval σ=some B):FLe A B:=by
 unfold Fai at h;split at h
 ·simp only[aF,Ob0]at h
  subst h;exact⟨⟨_,rfl⟩,fun _ h=>h,fun _ h=>h,⟨[],by simp⟩,fun _ h=>h⟩
 ·exact Qan h
 ·exact Qal h
 ·simp only[aF,Ob0]at h
  subst h;exact⟨⟨_,rfl⟩,fun _ h=>h,fun _ h=>h,⟨[],by simp⟩,fun _ h=>h⟩
 ·simp only[aA,Oby,aF,Ob0]at h
  obtain⟨d,-,rfl⟩:=h;exact⟨⟨_,rfl⟩,fun _ h=>h,fun _ h=>Ob1 _ h,⟨[],by simp⟩,fun _ h=>h⟩
 ·simp only[aA,Oby,aF,Ob0]at h
  obtain⟨d,-,rfl⟩:=h;exact⟨⟨_,rfl⟩,fun _ h=>h,fun _ h=>Ob1 _ h,⟨_,rfl⟩,fun _ h=>h⟩
 ·cases h
theorem Oap (hR:R E.ntmps F σ ρ a w G)(ba:aJ cf ρ none nv Z.lets){A B:Fin}{s:LR}{l:aM}(h:(Fai nv A s l).eval σ=some B)(hZ:FLe B Z)(hG:Sa5 Z nbx G G'){v:Value}(hl:aB σ ρ G w l v) :
  kJ G'.own w (Z.xs.map (·.val ρ)) nbx A.xs.length A.q s v/\B.xs.length=A.xs.length+s.n/\B.q=A.q+s.q:=by
 unfold Fai at h;split at h
 ·simp only[aF,Ob0]at h
  subst h;refine⟨?_,by simp[LR.n],rfl⟩;simp only[kJ];rw[hZ.get (l:=A.xs) rfl];simpa[aB] using hl
 ·obtain⟨h1,-,h2,h3⟩:=Mah hR h hZ hG hl
  exact⟨h1,h2,h3⟩
 ·obtain⟨h1,-,h2,h3⟩:=Maf hR h hZ hG hl
  exact⟨h1,h2,h3⟩
 ·simp only[aF,Ob0]at h
  subst h;refine⟨?_,by simp[LR.n],rfl⟩;simp only[kJ];rw[hZ.get (l:=A.xs) rfl];simp only[aB]at hl;exact⟨by rw[hl];rfl,.inl ⟨hl,_,rfl⟩⟩
 ·rename_i z deps z' x
  simp only[aA,Oby,aF,Ob0]at h;obtain⟨ds,h1,rfl⟩:=h;refine⟨?_,by simp[LR.n],rfl⟩;simp only[kJ];rw[hZ.get (l:=A.xs) rfl];simp only[aB]at hl;obtain⟨h3,h4,h5⟩:=iG h1;refine⟨hl.1.1,?_⟩
  rcases hl.2 h3 with h6|⟨ad,row,h6,h7,h8⟩
  ·exact .inl h6
  ·exact .inr ⟨ad,row,h6,h7,(h8.drop hR h5).give hG fun z hz=>hZ.frz _ (Ob4 _ (Qbi hz))⟩
 ·rename_i z l' z' ix
  simp only[aA,Oby,aF,Ob0]at h;obtain⟨sl,h1,rfl⟩:=h;refine⟨?_,by simp[LR.n],rfl⟩;simp only[kJ];rw[hZ.get (l:=A.xs) rfl];simp only[aB]at hl;obtain⟨ad,n,cp,ik,iv,h3,h4,h5,h6,h7⟩:=hl;have hs:=dI hR h1 h3;obtain⟨lr,uy⟩:=hZ.lets;dsimp only at uy;rw[uy,Pbd]at ba;have q0:=(aJ.append ba).2;have lf:aJ cf ρ none (nv+bD A.lets) [.prim (.one z') [sl.x,ix] 1]:=(aJ.append q0).1;obtain⟨d,bd,hd⟩:=fF lf rfl;simp only[Pbn,Pbx,h4]at bd
  have gR:∃ sz rs r,sl.x.val ρ=.rows sz rs/\sz=z'/\rs[iv.toNat]?=some r/\d=.rows z' [r]:=by
   cases hx:sl.x.val ρ with
   | rows sz rs =>
    rw[hx]at bd;simp only[aY.run]at bd;split at bd
    ·rename_i hc
     split at bd
     ·rename_i r hr
      simp only[Ob0,List.cons.injEq,and_true]at bd;exact⟨sz,rs,r,rfl,hc.1,hr,bd.symm⟩
     ·cases bd
    ·cases bd
   |_=>rw[hx]at bd;simp[aY.run]at bd
  obtain⟨sz,rs,r,hx,rfl,hr,rfl⟩:=gR;have gA:=hs.rd;rw[hx]at gA;obtain⟨A',b,n',c',vs,e1,e2,e3,e4,e5,e6,e7⟩:=gA.inv
  injection e1 with e1 e1' e1''
  have aq:iv.toNat<rs.length:=(Ob2.1 hr).1;have hA:some ad=some b:=by rw[e1];exact e4.resolve_left (by omega)
  obtain rfl:=Pbu hA;have xg:r.length=sz:=e5 r (Pbh hr);refine⟨by rw[h7];rfl,.inr ⟨_,r,h7,by rw[hd,xg],?_⟩⟩
  have:Rd (allow G sl.deps) w (.slice (some (ad.add (iv.toNat*sz+0))) 1 1) (.rows r.length [r]):=by
   refine .rows _ (ad.add (iv.toNat*sz+0)) 1 1 r.length [r] (fun _ j=>vs iv.toNat j) rfl (Pbj _) (.inr rfl) (by simp) (fun i0 r0 nk j d0 hj=>?_) (fun i0 r0 nk j d0 hj=>?_)
   ·cases i0 with
    | zero =>
     simp only[Ob7,Ob0]at nk;subst nk;obtain⟨k1,k2⟩:=e6 _ _ hr j d0 hj;refine⟨by rw[add_block];exact k1,?_⟩;rw[add_add];rw[show iv.toNat*sz+0+(0*r.length+j)=iv.toNat*sz+j by omega];exact k2
    |succ i0=>simp at nk
   ·cases i0 with
    | zero =>
     simp only[Ob7,Ob0]at nk;subst nk;exact e7 _ _ hr j d0 hj
    |succ i0=>simp at nk
  exact this.give hG fun z hz=>hZ.frz _ (Ob4 _ (Qbi hz))
 ·cases h
theorem nR:∀ {ss:List LR} {ls:List aM} {A B:Fin},(gQ nv A ss ls).eval σ=some B->FLe A B
 | [], [], A, B, h => by
  simp only[gQ,aF,Ob0]at h;subst h;exact .refl _
 |[],_::_,A,B,h=>by simp[gQ,bJ]at h
 |_::_,[],A,B,h=>by simp[gQ,bJ]at h
 | s :: ss, l :: ls, A, B, h => by
  simp only[gQ,aA,Oby]at h;obtain⟨C,h1,h2⟩:=h;refine FLe.trans ?_ (nR h2);split at h1
  ·rename_i cs b
   simp only[aA,aP,Ob6]at h1;split at h1
   ·have h0:FLe A { A with bxs:=A.bxs++[b] }:=⟨⟨[],by simp⟩,fun _ h=>h,fun _ h=>h,⟨[],by simp⟩,fun _ h=>Ob1 _ h⟩
    exact FLe.trans h0 (qQ h1)
   ·cases h1
  ·exact Sag h1
theorem qP (hR:R E.ntmps F σ ρ a w G)(ba:aJ cf ρ none nv Z.lets)(hG:Sa5 Z nbx G G'):∀ {ss:List LR} {ls:List aM} {A B:Fin} {vs:List Value},(gQ nv A ss ls).eval σ=some B->FLe B Z->aG σ ρ G w ls vs ->
  nH G'.own w (Z.xs.map (·.val ρ)) nbx A.xs.length A.q ss vs/\B.xs.length=A.xs.length+lF ss/\B.q=A.q+qL ss
 | [], [], A, B, vs, h, _, hl => by
  simp only[gQ,aF,Ob0]at h;subst h;simp only[aG]at hl;exact⟨hl,rfl,rfl⟩
 |[],_::_,A,B,vs,h,_,_=>by simp[gQ,bJ]at h
 |_::_,[],A,B,vs,h,_,_=>by simp[gQ,bJ]at h
 | s :: ss, l :: ls, A, B, vs, h, hZ, hl => by
  simp only[gQ,aA,Oby]at h;obtain⟨C,h1,h2⟩:=h;simp only[aG]at hl;obtain⟨u,us,rfl,h3,h4⟩:=hl;have hCZ:FLe C Z:=(nR h2).trans hZ
  have key:kJ G'.own w (Z.xs.map (·.val ρ)) nbx A.xs.length A.q s u/\C.xs.length=A.xs.length+s.n/\C.q=A.q+s.q:=by
   split at h1
   ·rename_i cs b
    simp only[aA,aP,Ob6]at h1;split at h1
    ·rename_i bs hk
     obtain⟨h5,h6,h7⟩:=hR.box hk;simp only[Ob9,if_false]at h6;obtain⟨h8,h9,cd⟩:=uK hR hG (ad:=G.bx b) (off:=0) h1 hCZ fun j l hj=>by rw[Pbw];exact h7 j l hj
     refine⟨?_,h9,cd⟩;simp only[aB]at h3;simp only[kJ];exact⟨G.bx b,h3.1,h5,hG.bxs b (hCZ.bxs _ ((qQ h1).bxs _ (Ob4 _ (Ob3.2 rfl)))) _ h6,h8⟩
    ·cases h1
   ·exact Oap hR ba h1 hCZ hG h3
  obtain⟨h5,h6,h7⟩:=key;obtain⟨h8,h9,cd⟩:=qP hR ba hG h2 hZ h4;rw[h6,h7]at h8;exact⟨⟨u,us,rfl,h5,h8⟩,by rw[h9,h6];simp only[lF];omega,by rw[cd,h7];simp only[qL];omega⟩
theorem Aab:∀ {rs:List (Bool×List LR)} {vars:List ResultVar} {A B:Fin},(mZ E nv A rs vars).eval σ=some B->FLe A B
 | [], [], A, B, h => by
  simp only[mZ,aF,Ob0]at h;subst h;exact .refl _
 |[],_::_,A,B,h=>by simp[mZ,bJ]at h
 |_::_,[],A,B,h=>by simp[mZ,bJ]at h
 | (ag, ss) :: rs, .tmp t :: vars, A, B, h => by
  simp only[mZ,aA,aP,Ob6]at h;split at h
  ·simp only[aA,Oby]at h
   obtain⟨_,-,ls,-,C,h1,h2⟩:=h;exact (nR h1).trans (Aab h2)
  ·cases h
 | (ag, ss) :: rs, .cell t ty :: vars, A, B, h => by
  simp only[mZ,aA,Oby]at h;obtain⟨ti,-,_,-,_,-,h⟩:=h;split at h
  ·simp only[aA,aP,Ob6]at h
   split at h
   ·simp only[aA,Oby]at h
    obtain⟨C,h1,h2⟩:=h;exact (nR h1).trans (Aab h2)
   ·cases h
  ·cases h
theorem La9 {n t:Nat}{gh:Nat->Value}(h:t<n):a.tmps.getD t undef=yA n a gh t:=by
 unfold yA;rw[if_pos h]
theorem Baf (hti:sM P E.ti)(hR:R E.ntmps F σ ρ a w G)(ba:aJ cf ρ none nv Z.lets)(hG:Sa5 Z nbx G G'):∀ {rs:List (Bool×List LR)} {vars:List ResultVar} {A B:Fin},(mZ E nv A rs vars).eval σ=some B->FLe B Z ->
  (∀ x∈vars,(Abe a.tmps x).run P w=.ok (Ba7 P a.tmps w x) w)/\Ha7 G'.own w (Z.xs.map (·.val ρ)) nbx A.xs.length A.q rs (vars.map (Ba7 P a.tmps w))/\B.xs.length=A.xs.length+bF rs/\B.q=A.q+qR rs
 | [], [], A, B, h, _ => by
  simp only[mZ,aF,Ob0]at h;subst h;exact⟨by simp,rfl,rfl,rfl⟩
 |[],_::_,A,B,h,_=>by simp[mZ,bJ]at h
 |_::_,[],A,B,h,_=>by simp[mZ,bJ]at h
 | (ag, ss) :: rs, .tmp t :: vars, A, B, h, hZ => by
  simp only[mZ,aA,aP,Ob6]at h;split at h
  case h_2=>cases h
  rename_i sv hk;simp only[aA,Oby,aH,aT]at h;obtain⟨_,h0,ls,h1,C,h2,h3⟩:=h;split at h0
  case isFalse=>cases h0
  rename_i ht;simp only[Pb2]at ht;have hv:=hR.slot hk rfl;rw[<- La9 ht]at hv;have bd:(Abe a.tmps (.tmp t)).run P w=.ok (a.tmps.getD t undef) w:=rfl;obtain⟨e1,e2⟩:=Ka5 bd;have hC:=(Aab h3).trans hZ;obtain⟨h4,h5,h6⟩:=qP hR ba hG h2 hC (gW h1 hv);obtain⟨h7,h8,h9,cd⟩:=Baf hti hR ba hG h3 hZ;rw[h5,h6]at h8;refine⟨fun x hx=>?_,⟨_,_,_,rfl,h4,?_,h8⟩,by rw[h9,h5];simp only[bF];omega,by rw[cd,h6];simp only[qR];omega⟩
  ·rcases Ob8.1 hx with rfl|hx
   ·exact e2
   ·exact h7 x hx
  ·rw[e1]
   unfold jB at h1;split at h1
   ·cases ag with
    |true=>cases h1
    | false =>
     rw[aB.cells hv];simp
   ·cases ag with
    |false=>cases h1
    | true =>
     obtain⟨us,e,-⟩:=hv;rw[e];simp[Value.cells]
   ·cases h1
 | (ag, ss) :: rs, .cell t ty :: vars, A, B, h, hZ => by
  simp only[mZ,aA,Oby,aT,aH,aP]at h;obtain⟨ti,h0,_,h1,c,hc,h⟩:=h;obtain rfl:=Pbu hc;split at h1
  case isFalse=>cases h1
  rename_i hb;simp only[Obz,beq_iff_eq,Pbq,Qbb,Pb2]at hb;obtain⟨⟨⟨td,dm⟩,mb⟩,ht⟩:=hb;split at h
  case h_2=>cases h
  rename_i b off hk;simp only[aA,aP,Ob6]at h;split at h
  case h_2=>cases h
  rename_i ro ls ny;simp only[aA,Oby]at h;obtain⟨C,h2,h3⟩:=h;have hv:aB σ ρ G w (.px b off) _:=hR.slot hk rfl;rw[<- La9 ht]at hv;simp only[aB]at hv;obtain⟨oo,kA,sE⟩:=hR.box ny
  obtain⟨vs,h4,h5⟩:=kE (σ:=σ) (ρ:=ρ) (G:=G) (w:=w) ((G.bx b).add off) ((ls.drop off).take ti.size) 0 fun j l hj=>by
   rw[List.getElem?_take]at hj;split at hj
   ·rw[Pb7]at hj
    obtain⟨v,h6,-,h7⟩:=sE _ _ hj;exact⟨v,by rw[add_add,Pbw];exact h6,h7⟩
   ·cases hj
  have hC:=(Aab h3).trans hZ;obtain⟨h6,h7,h8⟩:=qP hR ba hG h2 hC h4
  have hlen:vs.length=ti.size:=by
   have fX:∀ {ss:List LR} {vs:List Value} {i q:Nat},nH G'.own w (Z.xs.map (·.val ρ)) nbx i q ss vs->vs.length=ss.length:=by
    intro ss
    induction ss with
    |nil=>intro vs i q h;simp only[nH]at h;subst h;rfl
    | cons s ss ih =>
     intro vs i q h;obtain⟨u,us,rfl,-,h⟩:=h;simp[ih h]
   rw[fX h6,dm]
  obtain⟨info,ud,hf⟩:=aV (hti.ok _ _ h0)
  have dt:∃ v,if ti.agg=true then v=.agg vs.toArray else vs=[v]:=by
   cases hta:ti.agg with
   |true=>exact⟨_,by rw[if_pos rfl]⟩
   | false =>
    rw[hta]at mb;simp only[Ob9,false_or]at mb;rw[mb]at hlen
    match vs,hlen with
    |[v],_=>exact⟨v,by simp⟩
  obtain⟨v,dt⟩:=dt;have sf:=jI hf ((G.bx b).add off) vs hlen (fun j u hj=>by have:=h5 j u hj;rwa[Pbw]at this) dt
  have bd:(Abe a.tmps (.cell t ty)).run P w=.ok v w:=by
   show (do loadVar ty (<- asAddr (a.tmps.getD t undef)):Sem Value).run P w=.ok v w
   rw[hv.1];simp only[asAddr,Sem.run_bind,Sem.run_pure,Result.andThen_ok];exact sf
  obtain⟨e1,e2⟩:=Ka5 bd;obtain⟨h9,cd,db,fj⟩:=Baf hti hR ba hG h3 hZ;rw[h7,h8]at cd;refine⟨fun x hx=>?_,⟨_,_,vs,rfl,h6,?_,cd⟩,by rw[db,h7];simp only[bF];omega,by rw[fj,h8];simp only[qR];omega⟩
  ·rcases Ob8.1 hx with rfl|hx
   ·exact e2
   ·exact h9 x hx
  ·rw[e1,td];exact dt
theorem Fah {t:Nat}:∀ {ms:List Nat} {j:Nat} {A B:Fin},(Caf t j ms A).eval σ=some B->FLe A B
 | [], j, A, B, h => by
  simp only[Caf,aF,Ob0]at h;subst h;exact .refl _
 | d :: ms, j, A, B, h => by
  simp only[Caf,aA,aP,Ob6]at h;split at h
  case h_2=>cases h
  rename_i r hk;simp only[aA,aP,Ob6]at h;split at h
  case h_2=>cases h
  rename_i x m aE lE;simp only[aA,Oby]at h;obtain⟨_,-,h⟩:=h;have h0:FLe A { A with xs:=A.xs++[x],own:=A.own++[(r,2*j+1,d)] }:=⟨⟨_,rfl⟩,fun _ h=>Ob1 _ h,fun _ h=>h,⟨[],by simp⟩,fun _ h=>h⟩;exact h0.trans (Fah h)
theorem Haw (hR:R E.ntmps F σ ρ a w G)(hG:Sa5 Z nbx G G'):∀ {ms:List Nat} {j:Nat} {A B:Fin},(Caf E.ntmps j ms A).eval σ=some B->FLe B Z ->
  Qay G'.own w (Z.xs.map (·.val ρ)) F.gh A.xs.length j ms/\B.xs.length=A.xs.length+ms.length/\B.q=A.q
 | [], j, A, B, h, _ => by
  simp only[Caf,aF,Ob0]at h;subst h;exact⟨trivial,rfl,rfl⟩
 | d :: ms, j, A, B, h, hZ => by
  simp only[Caf,aA,aP,Ob6]at h;split at h
  case h_2=>cases h
  rename_i r hk;simp only[aA,aP,Ob6]at h;split at h
  case h_2=>cases h
  rename_i x m aE lE;simp only[aA,Oby,aH]at h;obtain⟨_,h0,h⟩:=h;split at h0
  case isFalse=>cases h0
  rename_i hb;simp only[Qba]at hb;have hv:aB σ ρ G w (.ex r) _:=hR.slot hk rfl
  have e:yA E.ntmps a F.gh (E.ntmps+j)=F.gh j:=by
   unfold yA;rw[if_neg (by omega),Pb1]
  rw[e]at hv;simp only[aB]at hv;have hC:=(Fah h).trans hZ;obtain⟨h1,h2,h3⟩:=Haw hR hG h hZ;simp only[List.length_append,List.length_singleton]at h1 h2;refine⟨⟨?_,h1⟩,by rw[h2];simp;omega,h3⟩;rw[hC.get (l:=A.xs) rfl,hv.1];have hr:=hR.root lE;simp only[bK]at hr;exact hr.give hG (hC.own _ (Ob4 _ (Ob3.2 rfl))) hb
theorem qU {t:Nat}:∀ {bs:List (Bool×List (BS×BO))} {b:Nat} {A B:Fin},(nS t A b bs).eval σ=some B->FLe A B
 | [], b, A, B, h => by
  simp only[nS,aF,Ob0]at h;subst h;exact .refl _
 | (ro, cs) :: bs, b, A, B, h => by
  simp only[nS]at h
  cases ro with
  |true=>exact qU h
  | false =>
   simp only[cond_false,aA,aP,Ob6]at h;split at h
   ·simp only[aA,aP,Ob6,Oby]at h
    obtain⟨_,-,h⟩:=h;split at h
    ·simp only[aA,Oby]at h
     obtain⟨C,h1,h2⟩:=h;exact (qQ h1).trans (qU h2)
    ·cases h
   ·cases h
theorem uL (hR:R E.ntmps F σ ρ a w G)(hG:Sa5 Z nbx G G'){nm:Nat}{bx:Nat->Addr}{nb:Nat}(xo:∀ b,b<nb->F.gh (nm+b)=.pointer (some (bx b))):∀ {bs:List (Bool×List (BS×BO))} {b:Nat} {A B:Fin},b+bs.length<=nb->(nS (E.ntmps+nm) A b bs).eval σ=some B->FLe B Z ->
  kK G'.own w (Z.xs.map (·.val ρ)) bx b A.xs.length A.q bs
 |[],b,A,B,_,h,_=>trivial
 | (ro, cs) :: bs, b, A, B, sY, h, hZ => by
  simp only[Pb9]at sY;simp only[nS]at h
  cases ro with
  | true =>
   simp only[kK,if_true];exact uL hR hG xo (by omega) h hZ
  | false =>
   simp only[kK,Ob9,if_false];simp only[cond_false,aA,aP,Ob6]at h;split at h
   case h_2=>cases h
   rename_i b' hk;simp only[aA,aP,Ob6,Oby,aH]at h;obtain⟨_,h0,h⟩:=h;split at h0
   case isFalse=>cases h0
   rename_i hb;simp only[Pbq]at hb;subst hb;split at h
   case h_2=>cases h
   rename_i ls ny;simp only[aA,Oby]at h;obtain⟨C,h1,h2⟩:=h;have hv:aB σ ρ G w (.px b' 0) _:=hR.slot hk rfl
   have e:yA E.ntmps a F.gh (E.ntmps+nm+b')=F.gh (nm+b'):=by
    unfold yA;rw[if_neg (by omega)];congr 1;omega
   rw[e,xo b' (by omega)]at hv;simp only[aB]at hv
   have fv:bx b'=G.bx b':=by
    have:=hv.1
    injection this with this
    injection this
   obtain⟨h5,h6,h7⟩:=hR.box ny;obtain⟨h8,h9,cd⟩:=uK hR hG (ad:=G.bx b') (off:=0) h1 ((qU h2).trans hZ) fun j l hj=>by rw[Pbw];exact h7 j l hj
   have db:=uL hR hG xo (b:=b'+1) (by omega) h2 hZ;rw[h9,cd,Pbt]at db;rw[fv];exact⟨h8,db⟩
end
theorem Aaj:∀ {l:List (Nat×Nat×Nat)} {r t m:Nat},distinct (l.map (·.1))=true->(r,t,m)∈l->l.find? (fun z=>Nat.beq z.1 r)=some (r,t,m)
 |[],r,t,m,_,h=>by simp at h
 | (r', t', m') :: l, r, t, m, hd, h => by
  simp only[Pbn,distinct,Obz,Pbs]at hd
  rcases Ob8.1 h with h1|h1
  ·obtain⟨rfl,rfl,rfl⟩:r=r'/\t=t'/\m=m':=by simpa using h1
   simp
  ·have ct:Nat.beq r' r=false:=by
    cases e:Nat.beq r' r with
    |false=>rfl
    | true =>
     simp only[Pbq]at e;subst e;have:has (l.map (·.1)) r'=true:=kV.2 (Pb5.2 ⟨_,h1,rfl⟩);rw[hd.1]at this;cases this
   rw[List.find?_cons_of_neg (by simp[ct])];exact Aaj hd.2 h1
def Jao (Z:Fin)(nbx:Nat)(G:Gh):Gh:={ G with own:=fun b=>match G.own b with
 | .slc r p => (match Z.own.find? (fun z => Nat.beq z.1 r) with
  |some (_,t,m)=>if p.length<m then .slc t p else .frz
  |none=>if r∈Z.frz then .frz else .oth)
 |.box β=>if β<nbx then .box β else if β∈Z.bxs then .box nbx else .oth
 |o=>o }
theorem Yaz {Z:Fin}{nbx:Nat}{G:Gh}(hd:distinct (Z.own.map (·.1))=true)(hm:meets (Z.own.map (·.1)) Z.frz=false)(hb:(Z.bxs.any fun b=>Nat.blt b nbx)=false):Sa5 Z nbx G (Jao Z nbx G):=by
 refine⟨fun b hb=>by simp only[Jao,hb],fun r t m hz b p hb=>?_,fun r hr b p hb=>?_,fun β hβ b ze=>?_⟩
 ·simp only[Jao,hb,Aaj hd hz]
 ·have:Z.own.find? (fun z=>Nat.beq z.1 r)=none:=by
   rw[List.find?_eq_none];intro z hz e;simp only[Pbq]at e;exact mQ hm (Pb5.2 ⟨z,hz,rfl⟩) (by rw[e];exact hr)
  simp only[Jao,hb,this,if_pos hr]
 ·rw[Rbi]at hb
  have:=hb β hβ;simp only[Pb2]at this;simp only[Jao,ze,if_neg this,if_pos hβ]
section
variable {P:Program} {E:Env} {F:bC} {ρ:List D} {cf:Nat->List D->Option (List D)}
theorem Saf (hti:sM P E.ti){s:Sig}{vv:List ResultVar}{st:St}{t:Tm St}(h:finish E s vv st=some t){o:Out St}(ho:Ec cf t ρ=some o)(hl:ρ.length=st.nv)(hi:Aar E st) :
  o.kind=.ret/\∀ a w G (fn:Func) (bx:Nat->Addr),fn.results.toList=vv->(∀ b,b<s.boxes.length->F.gh ((dJ (s.params.flatMap (·.2))).length+b)=.pointer (some (bx b))) ->
   (∀ b j,b<F.w0.heap.size->F.own0 b=.box j->j<s.boxes.length)->R E.ntmps F st.get ρ a w G ->
   ∃ v,(results fn a.tmps).run P w=.ok v w/\Ja7 s F bx v w o.vals:=by
 unfold finish at h;split at h
 case h_2=>cases h
 rename_i Z hZ;generalize hb:(distinct (Z.own.map (·.1))&&!(meets (Z.own.map (·.1)) Z.frz)&&!(Z.bxs.any fun b=>Nat.blt b s.boxes.length)&&dR st.nv Z.lets)=b at h
 cases b with
 |false=>cases h
 | true =>
  rw[cond_true]at h;obtain rfl:=Pbu h;simp only[Obz,Pbs]at hb;obtain⟨⟨⟨oo,kA⟩,sE⟩,hb4⟩:=hb;obtain⟨ds,h4,h5,h6⟩:=sQ (g:=none) rfl (by rw[hl];exact hb4) ho;rw[fD]at h5;obtain rfl:=Pbu h5;refine⟨rfl,fun a w G fn bx hfn xo pa hR=>?_⟩;have ba:=h6 [];rw[Pbz,hl]at ba;have hR:=hR.ext hi.sc (by omega) ds;have hG:=Yaz (G:=G) oo kA sE;simp only[Abf,aA,Oby]at hZ;obtain⟨A,h7,B,h8,h9⟩:=hZ;have hB:=qU h9;have hA:=(Fah h8).trans hB;obtain⟨cd,db,fj,hJ⟩:=Baf (cf:=cf) hti hR ba hG h7 hA;obtain⟨j9,ll,l8⟩:=Haw hR hG h8 hB;have h17:=uL hR hG xo (b:=0) (by omega) h9 (.refl _);simp only[Qb4,Pbw]at db fj hJ;rw[fj]at j9 ll;rw[ll,l8,hJ]at h17;refine⟨Ba6 (fn.results.toList.map (Ba7 P a.tmps w)),?_,Jao Z s.boxes.length G,_,by rw[hfn],?_,db,j9,h17⟩
  ·have hm:(fn.results.mapM (Abe a.tmps)).run P w=.ok (fn.results.map (Ba7 P a.tmps w)) w:=wL _ _ _ (by rw[hfn];exact cd)
   have e:results fn a.tmps=(do let vs <- fn.results.mapM (Abe a.tmps);pure (if h:vs.size=1 then vs[0] else Value.tuple vs)):=rfl;rw[e,Sem.run_bind,hm];simp only[Result.andThen_ok,Sem.run_pure];rw[Ta1,Array.toList_map]
  ·refine⟨hR.frame.os,hR.frame.tape,hR.frame.output,hR.frame.size,fun b hb ho=>?_,fun b j hb ho=>?_,fun b hb=>?_⟩
   ·obtain⟨h18,h19⟩:=hR.frame.keep b hb ho
    refine⟨h18,?_⟩
    rcases ho with ho|ho<;>rw[ho]at h19 ⊢<;>simp only[Jao,h19]
   ·obtain⟨h18,h19⟩:=hR.frame.boxes b j hb ho
    refine⟨?_,h19⟩;simp only[Jao,h18,if_pos (pa b j hb ho)]
   ·simp only[Jao,hR.frame.fresh b hb]
end
def Goes (P:Program)(f:Nat)(args:Array Value)(w:World)(K:Value->World->Prop):Prop :=
 ((callFunc f args).run P w=.ok (.enter f args) w/\Calls P f args w fun
  |.returned v,w'=>K v w'
  |_,_=>False)\/∃ v w',(callFunc f args).run P w=.ok (.value v) w'/\K v w'
def rH (P:Program)(T:Nat->Ent)(n key:Nat)(s:Sig):Prop :=
 ∀ vals w G ds gq,War s vals w G ds->jE T n key ds=some gq->Goes P s.fn vals.toArray w fun v w'=>Ja7 s (nE s G w) G.bx v w' gq
def Aau (P:Program)(X:(Nat->Ow)->World->Prop)(T:Nat->Ent)(n key:Nat)(s:Sig):Prop :=
 ∀ vals w G ds gq,War s vals w G ds->X G.own w->jE T n key ds=some gq->Goes P s.fn vals.toArray w fun v w'=>Ja7 s (nE s G w) G.bx v w' gq
def Stable (X:(Nat->Ow)->World->Prop):Prop :=
 ∀ (own0:Nat->Ow) (w0:World) (own:Nat->Ow) (w:World),w0.heap.size<=w.heap.size->(∀ b,b<w0.heap.size->own0 b=.frz->w.heap[b]?=w0.heap[b]?/\own b=.frz)->X own0 w0->X own w
theorem kY {P : Program} {f : FuncId} {fn : Func} {c : Code} (hf : P.funcs[f]? = some fn) (hname : (fn.name == "runtime.NumGoroutine") = false) (hb : fn.body = some c) (args : Array Value) (w : World) :
  (callFunc f args).run P w=.ok (.enter f args) w:=by
 have h1 : fn.name ≠ "runtime.NumGoroutine" := by simpa using hname
 simp[callFunc,hf,h1,hb]
theorem Uag:∀ (ss:List LS) (r:Nat),(dU r ss).length=(dJ ss).length
 |[],r=>rfl
 | s :: ss, r => by
  cases s<;>simp[dU,dJ,Uag ss]
theorem Lad:∀ (n a j:Nat),j<n->(range a n)[j]?=some (a+j)
 |0,a,j,h=>by omega
 |n+1,a,0,h=>rfl
 | n + 1, a, j + 1, h => by
  simp only[range,Pb4];rw[Lad n (a+1) j (by omega)];congr 1;omega
theorem Waf {s:Sig}{G:Gh}{w:World}{b:Nat}(h:b<s.boxes.length):(nE s G w).gh ((dJ (s.params.flatMap (·.2))).length+b)=.pointer (some (G.bx b)):=by
 simp only[nE,Ea9,Pba];rw[Pbk (by simp[Uag]),Pbt,Uag,Pb1,Pbr,Lad _ _ _ h];simp
theorem Jal {P : Program} {X : (Nat -> Ow) -> World -> Prop} {E : Env} {T : Nat -> Ent} {n key : Nat} {s : Sig} {fn : Func} {tm : Tm Unit} (hti : sM P E.ti) (hm : P.follows .mixedOrders = true) (hfn : P.funcs[s.fn]? = some fn) (hname : (fn.name == "runtime.NumGoroutine") = false)
  (hx:Rac E s fn=some tm) (hT:T key=.tm tm) (b7:∀ F,X F.own0 F.w0->xZ P { E with ntmps:=fn.ntmps,ngh:=lH s,nbx:=s.boxes.length } F (jE T n)):Aau P X T (n+1) key s:=by
 intro vals w G ds gq ew hX bd;simp only[jE,hT,Oby]at bd;obtain⟨o,bd,th⟩:=bd;unfold Bbe at th;split at th
 case isFalse=>cases th
 rename_i hk;obtain rfl:=Pbu th;unfold Rac at hx;split at hx
 case h_1=>cases hx
 rename_i c hbody
 cases hle:Nat.ble s.params.length fn.ntmps with
 |false=>rw[hle]at hx;cases hx
 | true =>
  rw[hle]at hx;simp only[Bool.not_true,cond_false,bind,Oby,Ob0]at hx;obtain⟨tc,yo,t,ht,rfl⟩:=hx;simp only[Qba]at hle;rw[Rao,Option.map_eq_some_iff]at bd;obtain⟨o0,bd,rfl⟩:=bd;have hev:Ec (jE T n) t ds=some o0:=Fa6.2 ⟨n,bd⟩
  obtain⟨o1,h1,h2⟩:=jW (fun st r hr ρ o ho=>by
   split at hr
   ·rename_i t' hf
    obtain rfl:=Pbu hr;unfold finish at hf;split at hf
    case h_2=>cases hf
    rename_i Z hZ
    revert hf
    generalize (distinct (Z.own.map (·.1))&&!(meets (Z.own.map (·.1)) Z.frz)&&!(Z.bxs.any fun b=>Nat.blt b s.boxes.length)&&dR st.nv Z.lets)=b;intro hf
    cases b with
    |false=>cases hf
    | true =>
     rw[cond_true]at hf;obtain rfl:=Pbu hf;exact kP ho
   ·obtain rfl:=Pbu hr
    rw[iM]at ho;cases ho) rfl (fun _=>rfl) ht hev
  rcases h2 with ⟨h2,h3,r,h4,h5⟩|⟨h2,h3⟩
  case inr =>
   subst h3;have jh:o0.kind=.ret:=hk;rw[jh]at h2;cases h2
  unfold Za6 at yo;dsimp only at yo;generalize ku:Dau (entry s fn.ntmps) (entry s fn.ntmps).nr _=b at yo
  cases b with
  |false=>simp[jD]at yo
  | true =>
   rw[cond_true]at yo;have hinv:Aar { E with ntmps:=fn.ntmps,ngh:=lH s,nbx:=s.boxes.length } (entry s fn.ntmps):=Vap ku rfl;obtain⟨hlen,hR⟩:=Bb8 (n:=fn.ntmps) ew hle;have ni:ds.length=(entry s fn.ntmps).nv:=by rw[(Bah s fn.ntmps).1];exact ew.len
   obtain⟨hp,hw⟩:=nY (E:={ E with ntmps:=fn.ntmps,ngh:=lH s,nbx:=s.boxes.length }) (F:=nE s G w) (fun x j hx ho=>(ew.cells x j hx ho).1) hti (b7 _ hX) hm c yo h1 ni hinv;refine .inl ⟨kY hfn hname hbody _ _,?_⟩;refine calls_of_wp hfn hbody ?_;rw[show vals.toArray.size=vals.length by simp];refine hw _ w G _ hR fun a' w' G' gw=>?_
   split at h4
   case h_2 =>
    obtain rfl:=Pbu h4;rw[iM]at h5;cases h5
   rename_i t' hf;obtain rfl:=Pbu h4;obtain⟨h6,h7⟩:=Saf (E:={ E with ntmps:=fn.ntmps,ngh:=lH s,nbx:=s.boxes.length }) (F:=nE s G w) hti hf h5 hp.len hp.inv;obtain⟨v,h8,h9⟩:=h7 a' w' G' fn G.bx rfl (fun b hb=>Waf hb) (fun b j hb ho=>(ew.cells b j hb ho).1) gw;have hd:=gw.defers
   revert h2
   cases o1.kind with
   |fall=>exact fun _=>⟨hd,v,h8,h9⟩
   |ret=>exact fun _=>⟨hd,v,h8,h9⟩
   |exit i=>intro h;cases h
   |cont=>intro h;cases h
   |yield i=>intro h;cases h
def strip:List Nat->List Nat->Option (List Nat)
 |[],p=>some p
 |a::q,b::p=>if a=b then strip q p else none
 |_::_,[]=>none
theorem Ba1:∀ (q t:List Nat),strip q (q++t)=some t
 |[],t=>rfl
 |a::q,t=>by simp[strip,Ba1 q t]
theorem Ga0:∀ {q p t:List Nat},strip q p=some t->p=q++t
 |[],p,t,h=>by simpa[strip] using h
 |a::q,[],t,h=>by simp[strip]at h
 | a :: q, b :: p, t, h => by
  simp only[strip]at h;split at h
  ·rename_i e
   rw[e,Ga0 h];rfl
  ·cases h
def Uaf (w:World):Value->List Nat->Value
 |v,[]=>v
 |.slice (some a) _ _,k::p=>Uaf w ((w.cell? (a.add k)).getD undef) p
 |_,_::_=>undef
theorem Baa {own:Nat->Ow}{w:World}{r:Nat}:∀ {p q:List Nat} {v u:Value},wG own w r q v p u->Uaf w v p=u
 |[],q,v,u,h=>by simp only[wG]at h;rw[h];cases v<;>rfl
 | k :: p, q, v, u, h => by
  obtain⟨a,n,c,u',rfl,-,h2,h3⟩:=h;simp only[Uaf,h2,Qbt];exact Baa h3
section
variable (ρ:List D) (dr:List Nat)
def kS:Nat->List RT->Nat->List Nat->Ow
 |_,[],r,_=>if r∈dr then .frz else .oth
 |ν,.nil::t,r,p=>kS (ν+1) t r p
 |ν,.own s d::t,r,p=>if r=s then (if p.length<d then .slc ν p else .frz) else kS (ν+1) t r p
 |ν,.mu s d q _::t,r,p=>if r=s then (match strip (aZ ρ q) p with | some t'=>if t'.length<d then .slc ν t' else .frz | none=>.oth) else kS (ν+1) t r p
end
def Na3 (ptrs:List (Nat×Nat×Nat))(c:Nat):Nat->List (Bool×List (BS×BO))->Option Nat
 |_,[]=>none
 | b, (ro, _) :: r => if ro = true then Na3 ptrs c (b + 1) r else match mP b ptrs with
  |some (c',_)=>if c'=c then some b else Na3 ptrs c (b+1) r
  |none=>Na3 ptrs c (b+1) r
def Ebr (ρ:List D)(G:Gh)(w:World):RT->Value
 |.nil=>.slice none 0 0
 |.own r _=>G.hdr r
 |.mu r _ q _=>Uaf w (G.hdr r) (aZ ρ q)
def callG (ρ:List D)(G:Gh)(w:World)(s:Sig)(Z:Take):Gh:={
 own:=fun b=>match G.own b with
  |.slc r p=>kS ρ (Z.deps.map (·.1)) 0 Z.rts r p
  | .box c => (match Na3 Z.ptrs c 0 s.boxes with
   |some j=>if b=(G.bx c).block then .box j else .oth
   |none=>.oth)
  |o=>o
 hdr:=fun ν=>((Z.rts[ν]?).map (Ebr ρ G w)).getD undef
 bx:=fun b=>match mP b Z.ptrs with
  |some (c,off)=>(G.bx c).add off
  |none=>⟨0,0,none⟩ }
theorem oO {ρ:List D}{dr:List Nat}{r:Nat}{p:List Nat}:∀ {rts:List RT} {ν:Nat},r∉bT rts->kS ρ dr ν rts r p=if r∈dr then .frz else .oth
 |[],ν,h=>rfl
 |.nil::t,ν,h=>oO (rts:=t) h
 | .own s d :: t, ν, h => by
  simp only[bT,Ob8,not_or]at h;simp only[kS,if_neg h.1];exact oO h.2
 | .mu s d q X :: t, ν, h => by
  simp only[bT,Ob8,not_or]at h;simp only[kS,if_neg h.1];exact oO h.2
theorem qA:∀ {rts:List RT} {ν r:Nat},(∃ d,rts[ν]?=some (.own r d))\/(∃ d q X,rts[ν]?=some (.mu r d q X))->r∈bT rts
 |[],ν,r,h=>by simp at h
 | x :: t, 0, r, h => by
  simp only[Ob7,Ob0]at h
  rcases h with ⟨d,rfl⟩|⟨d,q,X,rfl⟩<;>exact Pbf
 | x :: t, ν + 1, r, h => by
  have:=qA (rts:=t) (ν:=ν) (r:=r) (by simpa using h)
  cases x with
  |nil=>exact this
  |own s d=>exact Pbb _ this
  |mu s d q X=>exact Pbb _ this
theorem yS {ρ:List D}{dr:List Nat}{r d:Nat}{p:List Nat}:∀ {rts:List RT} {fN ν:Nat},distinct (bT rts)=true->rts[ν]?=some (.own r d)->kS ρ dr fN rts r p=if p.length<d then .slc (fN+ν) p else .frz
 |[],fN,ν,_,h=>by simp at h
 | x :: t, fN, 0, hd, h => by
  simp only[Ob7,Ob0]at h;subst h;simp[kS]
 | x :: t, fN, ν + 1, hd, h => by
  simp only[Pb4]at h;have hm:=qA (.inl ⟨d,h⟩)
  cases x with
  | nil =>
   simp only[kS];rw[yS (rts:=t) hd h,show fN+1+ν=fN+(ν+1) by omega]
  | own s d' =>
   simp only[bT,distinct,Obz,Pbs]at hd;have ct:r≠s:=fun e=>by rw[e,<- kV,hd.1]at hm;cases hm
   simp only[kS,if_neg ct];rw[yS hd.2 h,show fN+1+ν=fN+(ν+1) by omega]
  | mu s d' q X =>
   simp only[bT,distinct,Obz,Pbs]at hd;have ct:r≠s:=fun e=>by rw[e,<- kV,hd.1]at hm;cases hm
   simp only[kS,if_neg ct];rw[yS hd.2 h,show fN+1+ν=fN+(ν+1) by omega]
theorem Dae {ρ:List D}{dr:List Nat}{r d:Nat}{q:List (aI×Nat×Nat)}{X:aI}{p:List Nat}:∀ {rts:List RT} {fN ν:Nat},distinct (bT rts)=true->rts[ν]?=some (.mu r d q X) ->
  kS ρ dr fN rts r p=match strip (aZ ρ q) p with|some t'=>if t'.length<d then .slc (fN+ν) t' else .frz|none=>.oth
 |[],fN,ν,_,h=>by simp at h
 | x :: t, fN, 0, hd, h => by
  simp only[Ob7,Ob0]at h;subst h;simp[kS]
 | x :: t, fN, ν + 1, hd, h => by
  simp only[Pb4]at h;have hm:=qA (.inr ⟨d,q,X,h⟩)
  cases x with
  | nil =>
   simp only[kS];rw[Dae (rts:=t) hd h,show fN+1+ν=fN+(ν+1) by omega]
  | own s d' =>
   simp only[bT,distinct,Obz,Pbs]at hd;have ct:r≠s:=fun e=>by rw[e,<- kV,hd.1]at hm;cases hm
   simp only[kS,if_neg ct];rw[Dae hd.2 h,show fN+1+ν=fN+(ν+1) by omega]
  | mu s d' q' X' =>
   simp only[bT,distinct,Obz,Pbs]at hd;have ct:r≠s:=fun e=>by rw[e,<- kV,hd.1]at hm;cases hm
   simp only[kS,if_neg ct];rw[Dae hd.2 h,show fN+1+ν=fN+(ν+1) by omega]
structure TLe (A B:Take):Prop where
 xs:∃ l,B.xs=A.xs++l
 ptrs:∀ z∈A.ptrs,z∈B.ptrs
 deps:∀ z∈A.deps,z∈B.deps
 lets:∃ l,B.lets=A.lets++l
 rts:∃ l,B.rts=A.rts++l
theorem TLe.refl (A:Take):TLe A A:=⟨⟨[],by simp⟩,fun _ h=>h,fun _ h=>h,⟨[],by simp⟩,⟨[],by simp⟩⟩
theorem TLe.trans {A B C:Take}(h:TLe A B)(h':TLe B C):TLe A C:=by
 obtain⟨⟨l,h1⟩,h2,h3,⟨m,h4⟩,⟨k,h5⟩⟩:=h;obtain⟨⟨l',uk⟩,tS,zv,⟨m',uf⟩,⟨k',sR⟩⟩:=h';exact⟨⟨l++l',by rw[uk,h1,Pbd]⟩,fun z hz=>tS z (h2 z hz),fun z hz=>zv z (h3 z hz),⟨m++m',by rw[uf,h4,Pbd]⟩,⟨k++k',by rw[sR,h5,Pbd]⟩⟩
theorem TLe.get {A B:Take}(h:TLe A B){ρ:List D}{x:aI}{l:List aI}(hx:A.xs=l++[x]):(aI.v l.length).val (B.xs.map (·.val ρ))=x.val ρ:=by
 obtain⟨m,h1⟩:=h.xs;rw[h1,hx];simp only[aI.val,Pba];simp
theorem TLe.rt {A B:Take}(h:TLe A B){x:RT}{l:List RT}(hx:A.rts=l++[x]):B.rts[l.length]?=some x:=by
 obtain⟨m,h1⟩:=h.rts;rw[h1,hx];simp
structure Ha6 (s:Sig) (Z:Take):Prop where
 ptrs:∀ b c off,(b,c,off)∈Z.ptrs->b<s.boxes.length/\mP b Z.ptrs=some (c,off)
 dist:distinct (bT Z.rts)=true
 deps:∀ z∈Z.deps,z.1∉bT Z.rts
 wr:distinct (iC false Z.ptrs 0 s.boxes)=true
 ro:meets (iC false Z.ptrs 0 s.boxes) (iC true Z.ptrs 0 s.boxes)=false
theorem Eap {nbx:Nat}{ptrs:List (Nat×Nat×Nat)}:∀ {l:List (Nat×Nat×Nat)},Pax nbx ptrs l=true->∀ b c off,(b,c,off)∈l->b<nbx/\mP b ptrs=some (c,off)
 |[],_,b,c,off,h=>by simp at h
 | (b', c', ka) :: l, h, b, c, off, hm => by
  simp only[Pax,Obz,Pb2]at h
  rcases Ob8.1 hm with e|hm
  ·obtain⟨rfl,rfl,rfl⟩:b=b'/\c=c'/\off=ka:=by simpa using e
   refine⟨h.1.1,?_⟩;have h2:=h.1.2;split at h2
   ·rename_i e
    simp only[Obz,Pbq]at h2;rw[e,h2.1,h2.2]
   ·cases h2
  ·exact Eap h.2 b c off hm
theorem Nal {s:Sig}{Z:Take}(h:Tah s Z=true):Ha6 s Z:=by
 simp only[Tah,Obz,Pbs]at h;obtain⟨⟨⟨⟨h1,h2⟩,h3⟩,h4⟩,h5⟩:=h;refine⟨Eap h1,h2,fun z hz hm=>?_,h4,h5⟩;rw[Rbi]at h3;exact h3 z hz (kV.2 hm)
section
variable {E:Env} {F:bC} {σ:Nat->Option aN} {ρ:List D} {a:Act} {w:World} {G:Gh} {g:Option (aI×Bool)} {cf:Nat->List D->Option (List D)} {s:Sig} {Z:Take} {nv:Nat}
theorem nD {b:Nat}(h:G.own b=.frz):(callG ρ G w s Z).own b=.frz:=by simp only[callG,h]
theorem Wae (hk:Ha6 s Z){b r k:Nat}{p:List Nat}(hz:(r,k)∈Z.deps)(h:G.own b=.slc r p):(callG ρ G w s Z).own b=.frz:=by
 simp only[callG,h];rw[oO (hk.deps _ hz),if_pos (Pb5.2 ⟨_,hz,rfl⟩)]
theorem Wad (hk:Ha6 s Z){b r d ν:Nat}{p:List Nat}(hz:Z.rts[ν]?=some (.own r d))(h:G.own b=.slc r p):(callG ρ G w s Z).own b=if p.length<d then .slc ν p else .frz:=by
 simp only[callG,h];rw[yS hk.dist hz,Pbw]
theorem Jaw (hk:Ha6 s Z){b r d ν:Nat}{q:List (aI×Nat×Nat)}{X:aI}{p:List Nat}(hz:Z.rts[ν]?=some (.mu r d q X))(h:G.own b=.slc r p) :
  (callG ρ G w s Z).own b=match strip (aZ ρ q) p with|some t'=>if t'.length<d then .slc ν t' else .frz|none=>.oth:=by
 simp only[callG,h];rw[Dae hk.dist hz,Pbw]
theorem Aao {ν:Nat}{x:RT}(h:Z.rts[ν]?=some x):(callG ρ G w s Z).hdr ν=Ebr ρ G w x:=by
 simp only[callG,h];rfl
theorem Rd.callG (hk:Ha6 s Z){deps:List (Nat×Nat)}(hd:∀ z∈deps,z∈Z.deps){v:Value}{d:D}(h:Rd (allow G deps) w v d):Rd (fun b=>(Go.Proofs.YtcbkmmhkccnamaaGreat.Rf.callG ρ G w s Z).own b=.frz) w v d:=by
 refine h.mono fun b hb=>⟨?_,rfl⟩
 rcases hb with hb|⟨r,k,p,hm,hb⟩
 ·exact nD hb
 ·exact Wae hk (hd _ hm) hb
theorem Qa6 (hg:gOn ρ g=true){A B:Take}{l:aM}(h:(Kad g A l).eval σ=some B){v:Value}(hl:aB σ ρ G w l v) :
  ∃ x,B={ A with xs:=A.xs++[x] }/\Sc v (x.val ρ):=by
 simp only[Kad,aA,Oby,aT,aF,Ob0]at h;obtain⟨x,h1,rfl⟩:=h;exact⟨x,rfl,iZ hg h1 hl⟩
theorem Kah {A B:Take}{nie:Bool}{l:aM}(h:(oK A nie l).eval σ=some B):TLe A B:=by
 simp only[oK,aA,Oby,aF,Ob0]at h;obtain⟨s,h1,rfl⟩:=h;exact⟨⟨_,rfl⟩,fun _ h=>h,fun _ h=>Ob1 _ h,⟨_,rfl⟩,⟨[],by simp⟩⟩
theorem Gax (hR:R E.ntmps F σ ρ a w G)(hg:gOn ρ g=true)(ba:aJ cf ρ g nv Z.lets)(hk:Ha6 s Z){A B:Take}{nie:Bool}{l:aM}(h:(oK A nie l).eval σ=some B)(hZ:TLe B Z){v:Value}(hl:aB σ ρ G w l v) :
  Rd (fun b=>(callG ρ G w s Z).own b=.frz) w v ((aI.v A.xs.length).val (Z.xs.map (·.val ρ)))/\(nie=true->∀ z,(aI.v A.xs.length).val (Z.xs.map (·.val ρ))=.rows z []->v=.slice none 0 0) /\
  B.xs.length=A.xs.length+1/\B.rts=A.rts:=by
 simp only[oK,aA,Oby,aF,Ob0]at h;obtain⟨sl,h1,rfl⟩:=h;have hs:=dI hR h1 hl;rw[hZ.get (l:=A.xs) rfl];refine⟨hs.rd.callG hk fun z hz=>hZ.deps _ (Ob4 _ hz),fun hn z hz=>?_,by simp,rfl⟩
 cases y7:sl.nie with
 |true=>exact hs.nie y7 z hz
 | false =>
  exfalso;obtain⟨lr,uy⟩:=hZ.lets;dsimp only at uy;rw[uy,hn,y7]at ba;simp only[Bool.not_false,Bool.and_self,cond_true]at ba;rw[Pbd]at ba;have lf:=(aJ.append (aJ.append ba).2).1;obtain⟨ds,h2,-,-⟩:=step1 lf hg;simp only[Pbn,Pbx,hz,aY.run]at h2;simp at h2
theorem Kae {A B:Take}{d:Nat}{l:aM}(h:(rR A d l).eval σ=some B):TLe A B:=by
 unfold rR at h;split at h
 ·simp only[aA,aP,Ob6]at h
  split at h
  ·simp only[aA,aH,Oby,aF,Ob0]at h
   obtain⟨_,-,rfl⟩:=h;exact⟨⟨_,rfl⟩,fun _ h=>h,fun _ h=>h,⟨[],by simp⟩,⟨_,rfl⟩⟩
  ·cases h
 ·simp only[aF,Ob0]at h
  subst h;exact⟨⟨_,rfl⟩,fun _ h=>h,fun _ h=>h,⟨[],by simp⟩,⟨_,rfl⟩⟩
 ·cases h
theorem Gau (hR:R E.ntmps F σ ρ a w G)(hk:Ha6 s Z){A B:Take}{d:Nat}{l:aM}(h:(rR A d l).eval σ=some B)(hZ:TLe B Z){v:Value}(hl:aB σ ρ G w l v) :
  v=(callG ρ G w s Z).hdr A.rts.length/\Rp (callG ρ G w s Z).own w A.rts.length [] d v ((aI.v A.xs.length).val (Z.xs.map (·.val ρ)))/\B.xs.length=A.xs.length+1/\B.rts.length=A.rts.length+1:=by
 unfold rR at h;split at h
 ·rename_i r
  simp only[aA,aP,Ob6]at h;split at h
  ·rename_i x m aE lE
   simp only[aA,aH,Oby,aF,Ob0]at h;obtain⟨_,h1,rfl⟩:=h;split at h1
   case isFalse=>cases h1
   rename_i hb;simp only[Qba]at hb;simp only[aB]at hl;have mT:=hZ.rt (l:=A.rts) rfl;rw[hZ.get (l:=A.xs) rfl];refine⟨by rw[Aao mT];exact hl.1,?_,by simp,by simp⟩;rw[hl.1];have hr:=hR.root lE;simp only[bK]at hr;exact hr.move (fun b hb _=>⟨nD hb,rfl⟩) [] d hb fun b t hb=>⟨by rw[Wad hk mT hb];rfl,rfl⟩
  ·cases h
 ·rename_i nie z
  simp only[aF,Ob0]at h;subst h;simp only[aB]at hl;have hv:=(hl.2 (by simp)).2.1 trivial z rfl;have mT:=hZ.rt (l:=A.rts) rfl;rw[hZ.get (l:=A.xs) rfl];refine⟨by rw[Aao mT];exact hv,?_,by simp,by simp⟩;rw[hv]
  cases d with
  |zero=>exact .fz (.rows none ⟨0,0,none⟩ 0 0 z [] (fun _ _=>undef) rfl (Pbj _) (.inl rfl) (by simp) (by simp) (by simp))
  |succ m=>exact .sl none ⟨0,0,none⟩ 0 0 z [] (fun _ _=>undef) rfl (Pbj _) (.inr ⟨rfl,rfl⟩) (by simp) (fun e=>by cases e) (by simp) (by simp)
 ·cases h
theorem Tai {A B:Take}{d:Nat}{l:aM}(h:(Gaw A d l).eval σ=some B):TLe A B:=by
 simp only[Gaw,aA,Oby]at h;obtain⟨sl,h1,h⟩:=h;split at h
 ·simp only[aA,aH,aP,Ob6,Oby]at h
  obtain⟨_,-,h⟩:=h;split at h
  ·simp only[aF,Ob0]at h
   subst h;exact⟨⟨_,rfl⟩,fun _ h=>h,fun _ h=>h,⟨[],by simp⟩,⟨_,rfl⟩⟩
  ·cases h
 ·cases h
theorem Qa9 (hR:R E.ntmps F σ ρ a w G)(hk:Ha6 s Z){A B:Take}{d:Nat}{l:aM}(h:(Gaw A d l).eval σ=some B)(hZ:TLe B Z){v:Value}(hl:aB σ ρ G w l v) :
  v=(callG ρ G w s Z).hdr A.rts.length/\Rp (callG ρ G w s Z).own w A.rts.length [] d v ((aI.v A.xs.length).val (Z.xs.map (·.val ρ)))/\B.xs.length=A.xs.length+1/\B.rts.length=A.rts.length+1:=by
 simp only[Gaw,aA,Oby]at h;obtain⟨sl,h1,h⟩:=h;have hs:=dI hR h1 hl;split at h
 case h_2=>cases h
 rename_i r k m q ho;simp only[aA,aH,aP,Ob6,Oby]at h;obtain⟨_,h2,h⟩:=h;split at h2
 case isFalse=>cases h2
 rename_i hb;simp only[Qba]at hb;split at h
 case h_2=>cases h
 rename_i X m' v' lE;simp only[aF,Ob0]at h;subst h;have a7:=hs.own;unfold sD at a7;rw[ho]at a7;obtain⟨h3,h4,h5,h6,h7⟩:=a7;have mT:=hZ.rt (l:=A.rts) rfl;rw[hZ.get (l:=A.xs) rfl];refine⟨by rw[Aao mT];exact (Baa h7).symm,?_,by simp,by simp⟩;refine h6.move (fun b hb _=>⟨nD hb,rfl⟩) [] d (by omega) fun b t hb=>⟨?_,rfl⟩
 rw[Jaw hk mT hb,Ba1];rfl
theorem Taf {A B:Take}{z:Nat}{l:aM}(h:(Da1 A z l).eval σ=some B):TLe A B:=by
 unfold Da1 at h;split at h
 ·simp only[aA,Oby,aF,Ob0]at h
  obtain⟨_,-,rfl⟩:=h;exact⟨⟨_,rfl⟩,fun _ h=>h,fun _ h=>Ob1 _ h,⟨[],by simp⟩,⟨[],by simp⟩⟩
 ·simp only[aF,Ob0]at h
  subst h;exact⟨⟨_,rfl⟩,fun _ h=>h,fun _ h=>h,⟨[],by simp⟩,⟨[],by simp⟩⟩
 ·cases h
theorem Qa7 (hR:R E.ntmps F σ ρ a w G)(hk:Ha6 s Z){A B:Take}{z:Nat}{l:aM}(h:(Da1 A z l).eval σ=some B)(hZ:TLe B Z){v:Value}(hl:aB σ ρ G w l v) :
  v.oneCell'=true/\Wak (fun b=>(callG ρ G w s Z).own b=.frz) w v ((aI.v A.xs.length).val (Z.xs.map (·.val ρ)))/\B.xs.length=A.xs.length+1/\B.rts=A.rts:=by
 unfold Da1 at h;split at h
 ·rename_i deps ob x
  simp only[aA,Oby,aF,Ob0]at h;obtain⟨ds,h1,rfl⟩:=h;simp only[aB]at hl;obtain⟨h3,h4,h5⟩:=iG h1;rw[hZ.get (l:=A.xs) rfl];refine⟨hl.1.1,?_,by simp,rfl⟩
  rcases hl.2 h3 with h6|⟨ad,row,h6,h7,h8⟩
  ·exact .inl h6
  ·exact .inr ⟨ad,row,h6,h7,(h8.drop hR h5).callG hk fun z hz=>hZ.deps _ (Ob4 _ hz)⟩
 ·simp only[aF,Ob0]at h
  subst h;simp only[aB]at hl;rw[hZ.get (l:=A.xs) rfl];exact⟨by rw[hl];rfl,.inl ⟨hl,_,rfl⟩,by simp,rfl⟩
 ·cases h
theorem Ma3 (hk:Ha6 s Z){b c off:Nat}(h:(b,c,off)∈Z.ptrs):(callG ρ G w s Z).bx b=(G.bx c).add off/\b<s.boxes.length:=by
 obtain⟨h1,h2⟩:=hk.ptrs b c off h;refine⟨?_,h1⟩;simp only[callG,h2]
theorem Aan:∀ {cs:List LS} {ls:List aM} {acc l:List (Nat×Nat×Nat)},iU cs ls acc=some l->∀ z∈acc,z∈l
 | [], [], acc, l, h, z, hz => by
  simp only[iU,Ob0]at h;rw[<- h];exact hz
 |[],_::_,acc,l,h,z,hz=>by simp[iU]at h
 |c::cs,[],acc,l,h,z,hz=>by cases c<;>simp[iU]at h
 | c :: cs, x :: ls, acc, l, h, z, hz => by
  cases c<;>cases x<;>simp only[iU,reduceCtorEq]at h
  exact Aan h z (Pbb _ hz)
theorem Aam (hk:Ha6 s Z):∀ {cs:List LS} {ls:List aM} {acc l:List (Nat×Nat×Nat)},iU cs ls acc=some l->(∀ z∈l,z∈Z.ptrs)->∀ {vs:List Value},aG σ ρ G w ls vs->xY (callG ρ G w s Z) s.boxes.length cs vs
 |[],[],acc,l,h,_,vs,hl=>by simpa[xY,aG] using hl
 |[],_::_,acc,l,h,_,_,_=>by simp[iU]at h
 |c::cs,[],acc,l,h,_,_,_=>by cases c<;>simp[iU]at h
 | c :: cs, x :: ls, acc, l, h, hz, vs, hl => by
  cases c<;>cases x<;>simp only[iU,reduceCtorEq]at h
  rename_i b c off;simp only[aG]at hl;obtain⟨u,us,rfl,h1,h2⟩:=hl;obtain⟨h3,h4⟩:=Ma3 (ρ:=ρ) (G:=G) (w:=w) hk (hz _ (Aan h _ Pbf));simp only[aB]at h1;exact⟨u,us,rfl,⟨by rw[h3];exact h1.1,h4⟩,Aam hk h hz h2⟩
theorem Nam {A B:Take}{t:LS}{l:aM}(h:(pO g A t l).eval σ=some B):TLe A B:=by
 unfold pO at h;split at h
 ·simp only[Kad,aA,Oby,aF,Ob0]at h
  obtain⟨x,-,rfl⟩:=h;exact⟨⟨_,rfl⟩,fun _ h=>h,fun _ h=>h,⟨[],by simp⟩,⟨[],by simp⟩⟩
 ·exact Kah h
 ·exact Tai h
 ·exact Kae h
 ·simp only[aF,Ob0]at h
  subst h;exact⟨⟨[],by simp⟩,fun _ h=>Ob1 _ h,fun _ h=>h,⟨[],by simp⟩,⟨[],by simp⟩⟩
 ·split at h
  ·rw[gG]at h
   split at h
   ·simp only[aF,Ob0]at h
    subst h;exact⟨⟨[],by simp⟩,fun _ h=>Ob1 _ h,fun _ h=>h,⟨[],by simp⟩,⟨[],by simp⟩⟩
   ·cases h
  ·cases h
 ·exact Taf h
 ·cases h
theorem Kaf (hR:R E.ntmps F σ ρ a w G)(hg:gOn ρ g=true)(ba:aJ cf ρ g nv Z.lets)(hk:Ha6 s Z){A B:Take}{t:LS}{l:aM}(h:(pO g A t l).eval σ=some B)(hZ:TLe B Z){v:Value}(hl:aB σ ρ G w l v) :
  jN (callG ρ G w s Z) w (Z.xs.map (·.val ρ)) s.boxes.length A.xs.length A.rts.length t v/\B.xs.length=A.xs.length+t.cnt/\B.rts.length=A.rts.length+t.rcnt:=by
 unfold pO at h;split at h
 ·obtain⟨x,rfl,h1⟩:=Qa6 hg h hl
  refine⟨?_,by simp[LS.cnt],rfl⟩;simp only[jN];rw[hZ.get (l:=A.xs) rfl];exact h1
 ·obtain⟨h1,h2,h3,h4⟩:=Gax hR hg ba hk h hZ hl
  exact⟨⟨h1,h2⟩,h3,by rw[h4];rfl⟩
 ·obtain⟨h1,h2,h3,h4⟩:=Qa9 hR hk h hZ hl
  exact⟨⟨h1,h2⟩,h3,h4⟩
 ·obtain⟨h1,h2,h3,h4⟩:=Gau hR hk h hZ hl
  exact⟨⟨h1,h2⟩,h3,h4⟩
 ·rename_i b c off
  simp only[aF,Ob0]at h;subst h;obtain⟨h1,h2⟩:=Ma3 (ρ:=ρ) (G:=G) (w:=w) hk (hZ.ptrs _ (Ob4 _ (Ob3.2 rfl)));simp only[aB]at hl;exact⟨⟨by rw[h1];exact hl.1,h2⟩,rfl,rfl⟩
 ·rename_i f cs f' ls
  split at h
  ·rename_i l' hc
   rw[gG]at h;split at h
   ·rename_i hf
    simp only[Pbq]at hf;subst hf;simp only[aF,Ob0]at h;subst h;simp only[aB]at hl;obtain⟨vs,h1,h2⟩:=hl;exact⟨⟨vs,h1,Aam hk hc (fun z hz=>hZ.ptrs _ (Ob4 _ hz)) h2⟩,rfl,rfl⟩
   ·cases h
  ·cases h
 ·obtain⟨h1,h2,h3,h4⟩:=Qa7 hR hk h hZ hl
  exact⟨⟨h1,h2⟩,h3,by rw[h4];rfl⟩
 ·cases h
theorem pM:∀ {ss:List LS} {ls:List aM} {A B:Take},(bY g A ss ls).eval σ=some B->TLe A B
 | [], [], A, B, h => by
  simp only[bY,aF,Ob0]at h;subst h;exact .refl _
 |[],_::_,A,B,h=>by simp[bY,bJ]at h
 |_::_,[],A,B,h=>by simp[bY,bJ]at h
 | t :: ss, l :: ls, A, B, h => by
  simp only[bY,aA,Oby]at h;obtain⟨C,h1,h2⟩:=h;exact (Nam h1).trans (pM h2)
theorem wI (hR:R E.ntmps F σ ρ a w G)(hg:gOn ρ g=true)(ba:aJ cf ρ g nv Z.lets)(hk:Ha6 s Z):∀ {ss:List LS} {ls:List aM} {A B:Take},(bY g A ss ls).eval σ=some B->TLe B Z->∀ {vs:List Value},aG σ ρ G w ls vs ->
  pK (callG ρ G w s Z) w (Z.xs.map (·.val ρ)) s.boxes.length A.xs.length A.rts.length ss vs/\B.xs.length=A.xs.length+Sa3 ss/\B.rts.length=A.rts.length+jC ss
 | [], [], A, B, h, _, vs, hl => by
  simp only[bY,aF,Ob0]at h;subst h;simp only[aG]at hl;exact⟨hl,rfl,rfl⟩
 |[],_::_,A,B,h,_,_,_=>by simp[bY,bJ]at h
 |_::_,[],A,B,h,_,_,_=>by simp[bY,bJ]at h
 | t :: ss, l :: ls, A, B, h, hZ, vs, hl => by
  simp only[bY,aA,Oby]at h;obtain⟨C,h1,h2⟩:=h;simp only[aG]at hl;obtain⟨u,us,rfl,h3,h4⟩:=hl;obtain⟨h5,h6,h7⟩:=Kaf hR hg ba hk h1 ((pM h2).trans hZ) h3;obtain⟨h8,h9,cd⟩:=wI hR hg ba hk h2 hZ h4;rw[h6,h7]at h8;exact⟨⟨u,us,rfl,h5,h8⟩,by rw[h9,h6];simp only[Sa3];omega,by rw[cd,h7];simp only[jC];omega⟩
theorem Da2:∀ {ps:List (Bool×List LS)} {vs:List SV} {A B:Take},(dZ g A ps vs).eval σ=some B->TLe A B
 | [], [], A, B, h => by
  simp only[dZ,aF,Ob0]at h;subst h;exact .refl _
 |[],_::_,A,B,h=>by simp[dZ,bJ]at h
 |_::_,[],A,B,h=>by simp[dZ,bJ]at h
 | (ag, ss) :: ps, v :: vs, A, B, h => by
  simp only[dZ,aA,Oby]at h;obtain⟨ls,-,C,h1,h2⟩:=h;exact (pM h1).trans (Da2 h2)
def pJ (σ:Nat->Option aN)(ρ:List D)(G:Gh)(w:World):List SV->List Value->Prop
 |[],us=>us=[]
 |v::vs,us=>∃ u cD,us=u::cD/\bS σ ρ G w v u/\pJ σ ρ G w vs cD
theorem Gag {ag:Bool}{v:SV}{ls:List aM}{u:Value}(h:jB ag v=some ls)(hv:bS σ ρ G w v u):if ag=true then u=.agg u.cells.toList.toArray else u.cells.toList=[u]:=by
 unfold jB at h;split at h
 ·cases ag with
  |true=>cases h
  | false =>
   rw[aB.cells hv];simp
 ·cases ag with
  |false=>cases h
  | true =>
   obtain⟨us,rfl,-⟩:=hv;simp[Value.cells]
 ·cases h
theorem Ba0 (hR:R E.ntmps F σ ρ a w G)(hg:gOn ρ g=true)(ba:aJ cf ρ g nv Z.lets)(hk:Ha6 s Z):∀ {ps:List (Bool×List LS)} {vs:List SV} {A B:Take},(dZ g A ps vs).eval σ=some B->TLe B Z->∀ {us:List Value},pJ σ ρ G w vs us ->
  lD (callG ρ G w s Z) w (Z.xs.map (·.val ρ)) s.boxes.length A.xs.length A.rts.length ps us/\B.xs.length=A.xs.length+Haz ps/\B.rts.length=A.rts.length+iO ps
 | [], [], A, B, h, _, us, hl => by
  simp only[dZ,aF,Ob0]at h;subst h;simp only[pJ]at hl;exact⟨hl,rfl,rfl⟩
 |[],_::_,A,B,h,_,_,_=>by simp[dZ,bJ]at h
 |_::_,[],A,B,h,_,_,_=>by simp[dZ,bJ]at h
 | (ag, ss) :: ps, v :: vs, A, B, h, hZ, us, hl => by
  simp only[dZ,aA,Oby,aT]at h;obtain⟨ls,h0,C,h1,h2⟩:=h;obtain⟨u,cD,rfl,h3,h4⟩:=hl;obtain⟨h5,h6,h7⟩:=wI hR hg ba hk h1 ((Da2 h2).trans hZ) (gW h0 h3);obtain⟨h8,h9,cd⟩:=Ba0 hR hg ba hk h2 hZ h4;rw[h6,h7]at h8;exact⟨⟨u,cD,_,rfl,h5,Gag h0 h3,h8⟩,by rw[h9,h6];simp only[Haz];omega,by rw[cd,h7];simp only[iO];omega⟩
end
theorem qY {wr:Bool}{ptrs:List (Nat×Nat×Nat)}:∀ {bs:List (Bool×List (BS×BO))} {b j c off:Nat} {cs:List (BS×BO)},bs[j]?=some (wr,cs)->mP (b+j) ptrs=some (c,off)->c∈iC wr ptrs b bs
 |[],b,j,c,off,cs,h,_=>by simp at h
 | (ro, ds) :: bs, b, 0, c, off, cs, h, hp => by
  simp only[Ob7,Ob0,Pbl]at h;rw[Pby]at hp;simp only[iC,h.1,hp];simp
 | (ro, ds) :: bs, b, j + 1, c, off, cs, h, hp => by
  have:=qY (bs:=bs) (b:=b+1) (j:=j) (by simpa using h) (by rw[show b+1+j=b+(j+1) by omega];exact hp);simp only[iC]
  cases (ro==wr) with
  |false=>exact this
  | true =>
   simp only[cond_true];split
   ·exact Pbb _ this
   ·exact this
theorem yO {ptrs:List (Nat×Nat×Nat)}{c:Nat}:∀ {bs:List (Bool×List (BS×BO))} {b:Nat},c∉iC false ptrs b bs->Na3 ptrs c b bs=none
 |[],b,h=>rfl
 | (ro, cs) :: bs, b, h => by
  simp only[iC]at h;simp only[Na3]
  cases ro with
  |true=>simp only[if_true];exact yO h
  | false =>
   simp only[Ob9,if_false];have e:(false==false)=true:=rfl;rw[e,cond_true]at h;split
   ·rename_i c' off hp
    rw[hp]at h;simp only[Ob8,not_or]at h;rw[if_neg fun e=>h.1 e.symm];exact yO h.2
   ·rename_i hp
    rw[hp]at h;exact yO h
theorem oN {ptrs:List (Nat×Nat×Nat)}{c off:Nat}{cs:List (BS×BO)}:∀ {bs:List (Bool×List (BS×BO))} {b j:Nat},distinct (iC false ptrs b bs)=true->bs[j]?=some (false,cs)->mP (b+j) ptrs=some (c,off)->Na3 ptrs c b bs=some (b+j)
 |[],b,j,_,h,_=>by simp at h
 | (ro, ds) :: bs, b, 0, hd, h, hp => by
  simp only[Ob7,Ob0,Pbl]at h;rw[Pby]at hp;simp only[Na3,h.1,hp];simp
 | (ro, ds) :: bs, b, j + 1, hd, h, hp => by
  have oA:mP (b+1+j) ptrs=some (c,off):=by rw[show b+1+j=b+(j+1) by omega];exact hp
  have hm:=qY (wr:=false) (bs:=bs) (b:=b+1) (j:=j) (by simpa using h) oA;simp only[iC]at hd;simp only[Na3]
  cases ro with
  | true =>
   have e:(true==false)=false:=rfl;rw[e,cond_false]at hd;simp only[if_true];rw[oN hd (by simpa using h) oA,show b+1+j=b+(j+1) by omega]
  | false =>
   have e:(false==false)=true:=rfl;rw[e,cond_true]at hd;simp only[Ob9,if_false];split
   ·rename_i c' ka mc
    rw[mc]at hd;simp only[distinct,Obz,Pbs]at hd;have ct:c'≠c:=fun e=>by rw[<- e,<- kV,hd.1]at hm;cases hm
    rw[if_neg ct,oN hd.2 (by simpa using h) oA,show b+1+j=b+(j+1) by omega]
   ·rename_i mc
    rw[mc]at hd;rw[oN hd (by simpa using h) oA,show b+1+j=b+(j+1) by omega]
theorem Dac {ptrs:List (Nat×Nat×Nat)}{c x:Nat}:∀ {bs:List (Bool×List (BS×BO))} {b:Nat},Na3 ptrs c b bs=some x->∃ j cs off,x=b+j/\bs[j]?=some (false,cs)/\mP x ptrs=some (c,off)
 |[],b,h=>by simp[Na3]at h
 | (ro, cs) :: bs, b, h => by
  simp only[Na3]at h
  have next:Na3 ptrs c (b+1) bs=some x->∃ j nj off,x=b+j/\((ro,cs)::bs)[j]?=some (false,nj)/\mP x ptrs=some (c,off):=by
   intro h;obtain⟨j,nj,off,h1,h2,h3⟩:=Dac h;exact⟨j+1,nj,off,by omega,by simpa using h2,h3⟩
  split at h
  ·exact next h
  ·rename_i pT
   split at h
   ·rename_i c' off hp
    split at h
    ·rename_i e
     subst e;obtain rfl:=Pbu h;refine⟨0,cs,off,rfl,?_,hp⟩
     cases ro with
     |true=>exact absurd rfl pT
     |false=>rfl
    ·exact next h
   ·exact next h
section
variable {E:Env} {F:bC} {σ:Nat->Option aN} {ρ:List D} {a:Act} {w:World} {G:Gh} {g:Option (aI×Bool)} {cf:Nat->List D->Option (List D)} {s:Sig} {Z:Take} {nv:Nat}
theorem Nak {A B:Take}{d:Nat}{l:aM}(h:(rR A d l).eval σ=some B):B.ptrs=A.ptrs:=by
 unfold rR at h;split at h
 ·simp only[aA,aP,Ob6]at h
  split at h
  ·simp only[aA,aH,Oby,aF,Ob0]at h
   obtain⟨_,-,rfl⟩:=h;rfl
  ·cases h
 ·simp only[aF,Ob0]at h
  subst h;rfl
 ·cases h
theorem nK {A B:Take}{t:BS}{l:aM}(h:(yE A t l).eval σ=some B):(∃ x,t=.sc/\l=.sc x/\B={ A with xs:=A.xs++[x] })\/(∃ nie,t=.fz nie/\(oK A nie l).eval σ=some B)\/(∃ d,t=.ow d/\(rR A d l).eval σ=some B)\/(t=.ot/\Kap l=true/\B=A):=by
 cases t with
 | sc =>
  cases l<;>simp only[yE,bJ,reduceCtorEq]at h
  simp only[aF,Ob0]at h;exact .inl ⟨_,rfl,rfl,h.symm⟩
 | fz nie =>
  have h':(oK A nie l).eval σ=some B:=by cases l<;>exact h
  exact .inr (.inl ⟨nie,rfl,h'⟩)
 | ow d =>
  have h':(rR A d l).eval σ=some B:=by cases l<;>exact h
  exact .inr (.inr (.inl ⟨d,rfl,h'⟩))
 | ot =>
  have h':(bif Kap l then RdM.ret A else .no:RdM Take).eval σ=some B:=by cases l<;>exact h
  rw[gG]at h';split at h'
  ·rename_i hb
   simp only[aF,Ob0]at h';exact .inr (.inr (.inr ⟨rfl,hb,h'.symm⟩))
  ·cases h'
theorem Nan {A B:Take}{t:BS}{l:aM}(h:(yE A t l).eval σ=some B):TLe A B/\B.ptrs=A.ptrs:=by
 have hinv:=nK h;clear h
 rcases hinv with ⟨x,rfl,rfl,rfl⟩|⟨nie,rfl,h⟩|⟨d,rfl,h⟩|⟨rfl,-,rfl⟩
 ·exact⟨⟨⟨_,rfl⟩,fun _ h=>h,fun _ h=>h,⟨[],by simp⟩,⟨[],by simp⟩⟩,rfl⟩
 ·refine⟨Kah h,?_⟩
  unfold oK at h;simp only[aA,Oby,aF,Ob0]at h;obtain⟨s,h1,rfl⟩:=h;rfl
 ·exact⟨Kae h,Nak h⟩
 ·exact⟨.refl _,rfl⟩
theorem Kai (hR:R E.ntmps F σ ρ a w G)(hg:gOn ρ g=true)(ba:aJ cf ρ g nv Z.lets)(hk:Ha6 s Z){A B:Take}{t:BS}{l:aM}(h:(yE A t l).eval σ=some B)(hZ:TLe B Z){v:Value}(hl:aB σ ρ G w l v) :
  uX (callG ρ G w s Z) w (Z.xs.map (·.val ρ)) A.xs.length A.rts.length t v/\B.xs.length=A.xs.length+t.cnt/\B.rts.length=A.rts.length+t.rcnt:=by
 have hinv:=nK h;clear h
 rcases hinv with ⟨x,rfl,rfl,rfl⟩|⟨nie,rfl,h⟩|⟨d,rfl,h⟩|⟨rfl,hs,rfl⟩
 ·refine⟨?_,by simp[BS.cnt],rfl⟩
  simp only[uX];rw[hZ.get (l:=A.xs) rfl];simpa[aB] using hl
 ·obtain⟨h1,h2,h3,h4⟩:=Gax hR hg ba hk h hZ hl
  exact⟨⟨h1,h2⟩,h3,by rw[h4];rfl⟩
 ·obtain⟨h1,h2,h3,h4⟩:=Gau hR hk h hZ hl
  exact⟨⟨h1,h2⟩,h3,h4⟩
 ·exact⟨hl.one hs,rfl,rfl⟩
theorem nJ:∀ {ss:List (BS×BO)} {ls:List aM} {A B:Take},(dM A ss ls).eval σ=some B->TLe A B/\B.ptrs=A.ptrs
 | [], ls, A, B, h => by
  simp only[dM,aF,Ob0]at h;subst h;exact⟨.refl _,rfl⟩
 |_::_,[],A,B,h=>by simp[dM,bJ]at h
 | (t, o) :: ss, l :: ls, A, B, h => by
  simp only[dM,aA,Oby]at h;obtain⟨C,h1,h2⟩:=h;obtain⟨h3,h4⟩:=Nan h1;obtain⟨h5,h6⟩:=nJ h2;exact⟨h3.trans h5,h6.trans h4⟩
theorem yC (hR:R E.ntmps F σ ρ a w G)(hg:gOn ρ g=true)(ba:aJ cf ρ g nv Z.lets)(hk:Ha6 s Z){ad:Addr}:∀ {ss:List (BS×BO)} {ls:List aM} {A B:Take} {off:Nat},(dM A ss ls).eval σ=some B->TLe B Z ->
  (∀ j l,ls[j]?=some l->∃ v,w.cell? (ad.add (off+j))=some v/\w.frozen? (ad.add (off+j))=false/\aB σ ρ G w l v) ->
  Daq (callG ρ G w s Z) w (Z.xs.map (·.val ρ)) ad off A.xs.length A.rts.length ss/\B.xs.length=A.xs.length+Wav ss/\B.rts.length=A.rts.length+tH ss
 | [], ls, A, B, off, h, _, _ => by
  simp only[dM,aF,Ob0]at h;subst h;exact⟨trivial,rfl,rfl⟩
 |_::_,[],A,B,off,h,_,_=>by simp[dM,bJ]at h
 | (t, o) :: ss, l :: ls, A, B, off, h, hZ, hl => by
  simp only[dM,aA,Oby]at h;obtain⟨C,h1,h2⟩:=h;obtain⟨v,h3,h4,h5⟩:=hl 0 l rfl;obtain⟨h6,h7,h8⟩:=Kai hR hg ba hk h1 ((nJ h2).1.trans hZ) h5
  obtain⟨h9,cd,db⟩:=yC hR hg ba hk (off:=off+1) h2 hZ fun j l' hj=>by
   have:=hl (j+1) l' (by simpa using hj);rwa[show off+(j+1)=off+1+j by omega]at this
  rw[h7,h8]at h9;exact⟨⟨⟨v,h3,h4,h6⟩,h9⟩,by rw[cd,h7];simp only[Wav];omega,by rw[db,h8];simp only[tH];omega⟩
def Mbu (σ:Nat->Option aN)(ptrs:List (Nat×Nat×Nat))(b:Nat)(ro:Bool)(cs:List (BS×BO)):Prop :=
 ∃ c off kk ls,mP b ptrs=some (c,off)/\σ (kB c)=some (.box kk ls)/\off+cs.length<=ls.length/\(ro=false->kk=false/\0<cs.length)
theorem jO {ptrs:List (Nat×Nat×Nat)}:∀ {bs:List (Bool×List (BS×BO))} {b:Nat} {A B:Take},(dX ptrs A b bs).eval σ=some B->TLe A B/\B.ptrs=A.ptrs/\∀ j ro cs,bs[j]?=some (ro,cs)->Mbu σ ptrs (b+j) ro cs
 | [], b, A, B, h => by
  simp only[dX,aF,Ob0]at h;subst h;exact⟨.refl _,rfl,by simp⟩
 | (ro, cs) :: bs, b, A, B, h => by
  simp only[dX]at h;split at h
  case h_2=>cases h
  rename_i c off hp;simp only[aA,aP,Ob6]at h;split at h
  case h_2=>cases h
  rename_i kk ls ny;simp only[aA,aH,Oby]at h;obtain⟨_,h0,C,h1,h2⟩:=h;split at h0
  case isFalse=>cases h0
  rename_i hb;simp only[Obz,Qbb,Pbs,Qba]at hb;obtain⟨h3,h4⟩:=nJ h1;obtain⟨h5,h6,h7⟩:=jO h2;refine⟨h3.trans h5,h6.trans h4,fun j ro2 cs2 hj=>?_⟩
  cases j with
  | zero =>
   simp only[Ob7,Ob0,Pbl]at hj;obtain⟨rfl,rfl⟩:=hj;refine⟨c,off,kk,ls,hp,ny,hb.2,fun e=>?_⟩
   rcases hb.1 with h8|h8
   ·rw[e]at h8;cases h8.1
   ·refine⟨h8.1.2,?_⟩
    cases cs with
    |nil=>have:=h8.2;simp at this
    |cons=>simp
  | succ j =>
   rw[show b+(j+1)=b+1+j by omega];exact h7 j ro2 cs2 (by simpa using hj)
theorem Qav {ad:Addr}{n:Nat}(h:ad.spot=none):(ad.add n).spot=none:=by
 unfold Addr.add;split
 ·exact h
 ·rfl
theorem Oa4 {ad:Addr}{n:Nat}:(ad.add n).off=ad.off+n:=by
 unfold Addr.add;split
 ·rename_i h;rw[h];rfl
 ·rfl
theorem yF (hR:R E.ntmps F σ ρ a w G)(hg:gOn ρ g=true)(ba:aJ cf ρ g nv Z.lets)(hk:Ha6 s Z):∀ {bs:List (Bool×List (BS×BO))} {b:Nat} {A B:Take},(∀ j x,bs[j]?=some x->s.boxes[b+j]?=some x)->(dX Z.ptrs A b bs).eval σ=some B->TLe B Z ->
  Dar (callG ρ G w s Z) w (Z.xs.map (·.val ρ)) b A.xs.length A.rts.length bs/\B.xs.length=A.xs.length+Waw bs
 | [], b, A, B, _, h, _ => by
  simp only[dX,aF,Ob0]at h;subst h;exact⟨trivial,rfl⟩
 | (ro, cs) :: bs, b, A, B, hbs, h, hZ => by
  simp only[dX]at h;split at h
  case h_2=>cases h
  rename_i c off hp;simp only[aA,aP,Ob6]at h;split at h
  case h_2=>cases h
  rename_i kk ls ny;simp only[aA,aH,Oby]at h;obtain⟨_,h0,C,h1,h2⟩:=h;split at h0
  case isFalse=>cases h0
  rename_i hb;simp only[Obz,Qbb,Pbs,Qba]at hb;have hCZ:=(jO h2).1.trans hZ;obtain⟨h3,h4,h5⟩:=hR.box ny;have fv:(callG ρ G w s Z).bx b=(G.bx c).add off:=by simp only[callG,hp]
  have vg:=hbs 0 _ rfl;rw[Pby]at vg;have oA:mP (0+b) Z.ptrs=some (c,off):=by rw[Pbw];exact hp
  obtain⟨h6,h7,h8⟩:=yC hR hg ba hk (ad:=(G.bx c).add off) (off:=0) h1 hCZ fun j l hj=>by
   rw[Pb7]at hj;obtain⟨v,h9,cd,db⟩:=h5 _ l hj;exact⟨v,by rw[add_add,Pbw];exact h9,by rw[add_add,Pbw];exact cd,db⟩
  obtain⟨h9,cd⟩:=yF hR hg ba hk (b:=b+1) (fun j x hj=>by
   rw[show b+1+j=b+(j+1) by omega];exact hbs (j+1) x (by simpa using hj)) h2 hZ
  rw[h7,h8]at h9;refine⟨⟨by rw[fv];exact Qav h3,?_,by rw[fv];exact h6,h9⟩,by rw[cd,h7];simp only[Waw];omega⟩;rw[fv,add_block]
  cases ro with
  | true =>
   simp only[if_true];have hm:=qY (wr:=true) vg oA
   cases kk with
   |true=>simp only[callG,h4,if_true]
   | false =>
    simp only[Ob9,if_false]at h4;simp only[callG,h4];rw[yO fun nf=>mQ hk.ro nf hm]
  | false =>
   simp only[Ob9,if_false]
   rcases hb.1 with db|db
   ·cases db.1
   ·have pT:kk=false:=db.1.2
    subst pT;simp only[Ob9,if_false]at h4;simp only[callG,h4];rw[oN hk.wr vg oA];simp
theorem Zaq (hR:R E.ntmps F σ ρ a w G)(hg:gOn ρ g=true)(ba:aJ cf ρ g nv Z.lets)(hk:Ha6 s Z){T:Take}{vs:List SV}(h1:(dZ g Take.empty s.params vs).eval σ=some T)(h2:(dX T.ptrs T 0 s.boxes).eval σ=some Z)
  {us:List Value} (hu:pJ σ ρ G w vs us):War s us w (callG ρ G w s Z) (Z.xs.map (·.val ρ)):=by
 obtain⟨h3,h4,h5⟩:=jO h2;obtain⟨h6,h7,h8⟩:=Ba0 hR hg ba hk h1 h3 hu;rw[<- h4]at h2;obtain⟨h9,cd⟩:=yF hR hg ba hk (by simp) h2 (.refl _);have e1:Take.empty.xs.length=0:=rfl;have e2:Take.empty.rts.length=0:=rfl;rw[e1,e2]at h6;rw[e1,Pbw]at h7;rw[e2,Pbw]at h8;rw[h7,h8]at h9;refine⟨h6,h9,by rw[Pbt,cd,h7],fun b hb=>nD (hR.frame.fresh b hb),fun b j hb hj=>?_⟩
 cases e:G.own b with
 | slc r p =>
  exfalso;simp only[callG,e]at hj
  have:∀ (rts:List RT) (ν:Nat),kS ρ (Z.deps.map (·.1)) ν rts r p≠.box j:=by
   intro rts
   induction rts with
   |nil=>intro ν h;simp only[kS]at h;split at h<;>cases h
   | cons x t ih =>
    intro ν h
    cases x with
    |nil=>exact ih _ h
    | own s d =>
     simp only[kS]at h;split at h
     ·split at h<;>cases h
     ·exact ih _ h
    | mu s d q X =>
     simp only[kS]at h;split at h
     ·split at h
      ·split at h<;>cases h
      ·cases h
     ·exact ih _ h
  exact this _ _ hj
 | box c =>
  simp only[callG,e]at hj;split at hj
  case h_2=>cases hj
  rename_i x hx;split at hj
  case isFalse=>cases hj
  rename_i oB
  injection hj with hj
  subst hj;obtain⟨j,cs,off,e1,e2,e3⟩:=Dac hx;rw[Pbw]at e1;subst e1;refine⟨(Ob2.1 e2).1,?_⟩;rw[h4]at e3;have:=h5 x _ _ e2;rw[Pbw]at this;obtain⟨c',ka,kk,ls,db,fj,hJ,j9⟩:=this;rw[e3]at db;obtain⟨rfl,rfl⟩:c=c'/\off=ka:=by simpa using db
  obtain⟨-,-,ll⟩:=hR.box fj;have aq:0<ls.length:=by have:=(j9 rfl).2;omega
  obtain⟨v,l8,-,-⟩:=ll 0 _ (Ob5 aq);rw[oB];unfold World.cell? at l8;rw[add_block]at l8
  cases hh:w.heap[(G.bx c).block]? with
  |none=>rw[hh]at l8;cases l8
  | some gv =>
   rw[hh]at l8
   cases gv with
   |cells c0 e fr=>exact⟨c0,e,fr,rfl⟩
   |_=>simp at l8
 |frz=>rw[nD e]at hj;cases hj
 |oth=>simp only[callG,e]at hj;cases hj
end
def Jai:Ow->Bool
 |.slc _ _=>true
 |_=>false
def lL (r:Nat):List RT->Option RT
 |[]=>none
 |.nil::t=>lL r t
 |.own s d::t=>if r=s then some (.own s d) else lL r t
 |.mu s d q X::t=>if r=s then some (.mu s d q X) else lL r t
def xI (ρ:List D)(rts:List RT):Ow->Ow
 | .slc r p => match lL r rts with
  |some (.own _ _)=>.frz
  | some (.mu _ d q _) => match strip (aZ ρ q) p with
   |some t=>if t.length<d then .slc r p else .frz
   |none=>.slc r p
  |_=>.slc r p
 |o=>o
def rC (gd:Bool)(ρ:List D)(nr nb nbx:Nat)(mus:List RT):Ow->Ow
 | .slc t p => if t % 2 = 0 then (if gd = true then .frz else if t / 2 < bO then .slc (nr + t / 2) p else .oth) else (match mus[t / 2]? with
  |some (.mu r _ q _)=>.slc r (aZ ρ q++p)
  |_=>.oth)
 |.box β=>if β=nbx then .box nb else .oth
 |o=>o
def eH (gd:Bool)(ρ:List D)(G:Gh)(w:World)(s:Sig)(Z:Take)(nr nb:Nat)(own':Nat->Ow)(hs:List Value)(adn:Addr):Gh:={
 own:=fun b=>if b<w.heap.size/\Jai ((callG ρ G w s Z).own b)=false then xI ρ Z.rts (G.own b) else rC gd ρ nr nb s.boxes.length (Z.rts.filter uB) (own' b)
 hdr:=fun r=>if nr<=r/\r<nr+bO then hs.getD (r-nr) undef else G.hdr r
 bx:=fun b=>if b=nb then adn else G.bx b }
theorem qD {r:Nat}:∀ {rts:List RT},r∉bT rts->lL r rts=none
 |[],_=>rfl
 |.nil::t,h=>qD (rts:=t) h
 | .own s d :: t, h => by
  simp only[bT,Ob8,not_or]at h;simp only[lL,if_neg h.1];exact qD h.2
 | .mu s d q X :: t, h => by
  simp only[bT,Ob8,not_or]at h;simp only[lL,if_neg h.1];exact qD h.2
theorem qB {r:Nat}:∀ {rts:List RT},r∈bT rts->∃ (ν:Nat) (x:RT),rts[ν]?=some x/\lL r rts=some x/\((∃ d,x=.own r d)\/∃ d q X,x=.mu r d q X)
 |[],h=>by simp[bT]at h
 | .nil :: t, h => by
  obtain⟨ν,x,h1,h2⟩:=qB (rts:=t) h;exact⟨ν+1,x,by simpa using h1,h2⟩
 | .own s d :: t, h => by
  by_cases e:r=s
  ·subst e
   exact⟨0,_,rfl,by simp[lL],.inl ⟨d,rfl⟩⟩
  ·simp only[bT,Ob8,e,false_or]at h
   obtain⟨ν,x,h1,h2⟩:=qB h;exact⟨ν+1,x,by simpa using h1,by simp only[lL,if_neg e];exact h2⟩
 | .mu s d q X :: t, h => by
  by_cases e:r=s
  ·subst e
   exact⟨0,_,rfl,by simp[lL],.inr ⟨d,q,X,rfl⟩⟩
  ·simp only[bT,Ob8,e,false_or]at h
   obtain⟨ν,x,h1,h2⟩:=qB h;exact⟨ν+1,x,by simpa using h1,by simp only[lL,if_neg e];exact h2⟩
theorem yT {r d:Nat}{q:List (aI×Nat×Nat)}{X:aI}:∀ {rts:List RT} {ν:Nat},distinct (bT rts)=true->rts[ν]?=some (.mu r d q X)->lL r rts=some (.mu r d q X)
 |[],ν,_,h=>by simp at h
 | x :: t, 0, hd, h => by
  simp only[Ob7,Ob0]at h;subst h;simp[lL]
 | x :: t, ν + 1, hd, h => by
  simp only[Pb4]at h;have hm:=qA (.inr ⟨d,q,X,h⟩)
  cases x with
  |nil=>exact yT (rts:=t) hd h
  | own s d' =>
   simp only[bT,distinct,Obz,Pbs]at hd;have ct:r≠s:=fun e=>by rw[e,<- kV,hd.1]at hm;cases hm
   simp only[lL,if_neg ct];exact yT hd.2 h
  | mu s d' q' X' =>
   simp only[bT,distinct,Obz,Pbs]at hd;have ct:r≠s:=fun e=>by rw[e,<- kV,hd.1]at hm;cases hm
   simp only[lL,if_neg ct];exact yT hd.2 h
theorem Dad {ρ:List D}{dr:List Nat}{r:Nat}{p:List Nat}:∀ (rts:List RT) (ν:Nat),(∃ ν' t,kS ρ dr ν rts r p=.slc ν' t)\/kS ρ dr ν rts r p=.frz\/kS ρ dr ν rts r p=.oth
 | [], ν => by
  simp only[kS];split
  ·exact .inr (.inl rfl)
  ·exact .inr (.inr rfl)
 |.nil::t,ν=>Dad t (ν+1)
 | .own s d :: t, ν => by
  simp only[kS];split
  ·split
   ·exact .inl ⟨_,_,rfl⟩
   ·exact .inr (.inl rfl)
  ·exact Dad t (ν+1)
 | .mu s d q X :: t, ν => by
  simp only[kS];split
  ·split
   ·split
    ·exact .inl ⟨_,_,rfl⟩
    ·exact .inr (.inl rfl)
   ·exact .inr (.inr rfl)
  ·exact Dad t (ν+1)
theorem Rp.remap {own own':Nat->Ow}{w:World}{r r':Nat}{q q':List Nat}{p:List Nat}{m:Nat}{v:Value}{d:D}(h:Rp own w r p m v d)
  (hs:∀ b t,own b=.slc r (q++t)->own' b=.slc r' (q'++t)):∀ s,p=q++s->((∀ b,own b=.frz->b<w.heap.size->own' b=.frz)\/mY m d=true)->Rp own' w r' (q'++s) m v d:=by
 induction h with
 |sc h=>exact fun _ _ _=>.sc h
 |hole v h1=>exact fun _ _ _=>.hole v h1
 | fz h =>
  intro s _ hz
  rcases hz with hz|hz
  ·exact .fz (h.mono' fun b hb aq=>⟨hz b hb aq,rfl⟩)
  ·cases h with
   |sc h=>exact .sc h
   |hole _ h1=>exact .hole _ h1
   |rows=>simp[mY,D.isSc]at hz
 | sl A a n c sz rs vs hn hc hA dm a7 bc b5 ih =>
  rename_i p m;intro s hp hz;refine .sl A a n c sz rs vs hn hc hA dm (fun e=>?_) bc (fun i row hi j d hj=>?_)
  ·obtain⟨h1,h2,h3⟩:=a7 e
   rw[hp]at h2;exact⟨h1,hs _ _ h2,h3⟩
  ·have:=ih i row hi j d hj (s++[i*sz+j]) (by rw[hp,Pbd]) (hz.imp id fun hz=>by
    simp only[mY,Pbv]at hz;exact hz row (Pbh hi) d (Pbh hj))
   rwa[<- Pbd]at this
theorem Rp.updM {own own':Nat->Ow}{w w':World}{r M:Nat}{full:List Nat}{y:D}{u:Value}
  (hz:∀ b,own b=.frz->b<w.heap.size->own' b=.frz/\w'.heap[b]?=w.heap[b]?)
  (hs:∀ b t,own b=.slc r t->¬ full <+: t->own' b=.slc r t/\w'.heap[b]?=w.heap[b]?)
  (hM:full.length<=M) (ga:Rp own' w' r full (M-full.length) u y) :
  ∀ (p q:List Nat) (v:Value) (x x':D),full=q++p->Rp own w r q (M-q.length) v x->wG own w r q v p u->Upd p x y x'->Rp own' w' r q (M-q.length) v x'
 | [], q, v, x, x', hf, hx, hn, hu => by
  cases hu;simp only[wG]at hn;rw[Pbz]at hf;subst hf hn;exact ga
 | k :: p, q, v, x, x', hf, hx, hn, hu => by
  generalize hk:k::p=kp at hu
  cases hu with
  |here=>cases hk
  | down sz rs i j row z z' y p' hi hj hu =>
   obtain⟨rfl,rfl⟩:=List.cons.inj hk;have hlen:full.length=q.length+(p.length+1):=by rw[hf];simp
   obtain⟨m,hm⟩:∃ m,M-q.length=m+1:=⟨M-q.length-1,by omega⟩;rw[hm]at hx;rw[hm];obtain⟨A,a,n,c,vs,rfl,h1,h2,h3,h4,h5,h6,h7⟩:=hx.sl_inv;have nF:i<rs.length:=(Ob2.1 hi).1
   have hA:A=some a:=by
    rcases h3 with e|⟨e,e'⟩
    ·exact e
    ·omega
   subst hA;obtain⟨h8,h9,cd⟩:=h5 rfl;obtain⟨a',n',c',u',e1,e2,e3,e4⟩:=hn;obtain⟨rfl,rfl,rfl⟩:a=a'/\n=n'/\c=c':=by injection e1 with a b c;exact⟨Pbu a,b,c⟩
   have gk:=h6 i row hi j z hj;rw[gk]at e3;obtain rfl:=Pbu e3
   have hq:¬ full <+: q:=by
    intro e;have:=e.length_le;omega
   obtain⟨fg,b8⟩:=hs _ _ h9 hq;have ja:∀ k,w'.cell? (a.add k)=w.cell? (a.add k):=fun k=>eY (w:=w) (w':=w') (by rw[add_block];exact b8)
   have oX:∀ k,w'.frozen? (a.add k)=w.frozen? (a.add k):=fun k=>jL (w:=w) (w':=w') (by rw[add_block];exact b8)
   have b5:=Rp.updM hz hs hM ga p (q++[i*sz+j]) (vs i j) z z' (by rw[hf];simp) (by
    have:=h7 i row hi j z hj;rwa[show M-(q++[i*sz+j]).length=m by simp;omega]) e4 hu
   rw[show M-(q++[i*sz+j]).length=m by simp;omega]at b5;have jo:row.length=sz:=h4 row (Pbh hi);have aq:j<sz:=by rw[<- jo];exact (Ob2.1 hj).1
   have ma:∀ i' eA,(rs.set i (row.set j z'))[i']?=some eA->∀ j' d,eA[j']?=some d->(i'=i/\j'=j/\d=z')\/(∃ row0,rs[i']?=some row0/\row0[j']?=some d/\¬ (i'=i/\j'=j)):=by
    intro i' eA fb j' d gn;rw[Qb0]at fb;by_cases pH:i=i'
    ·subst pH
     rw[if_pos rfl,if_pos nF]at fb;obtain rfl:=Pbu fb;rw[Qb0]at gn;by_cases uo:j=j'
     ·subst uo
      rw[if_pos rfl,if_pos (by omega)]at gn;exact .inl ⟨rfl,rfl,(Pbu gn).symm⟩
     ·rw[if_neg uo]at gn
      exact .inr ⟨row,hi,gn,fun e=>uo e.2.symm⟩
    ·rw[if_neg pH]at fb
     exact .inr ⟨eA,fb,gn,fun e=>pH e.1.symm⟩
   refine .sl _ a n c sz _ vs (by simpa using h1) h2 (.inl rfl) (fun eA hr=>?_) (fun _=>⟨h8,fg,fun k hk=>?_⟩) (fun i' eA fb j' d gn=>?_) (fun i' eA fb j' d gn=>?_)
   ·rcases List.mem_or_eq_of_mem_set hr with hr|rfl
    ·exact h4 _ hr
    ·simpa using jo
   ·rw[ja,oX]
    exact cd k hk
   ·rw[ja]
    rcases ma i' eA fb j' d gn with ⟨rfl,rfl,rfl⟩|⟨row0,db,fj,-⟩
    ·exact gk
    ·exact h6 _ _ db _ _ fj
   ·rcases ma i' eA fb j' d gn with ⟨rfl,rfl,rfl⟩|⟨row0,db,fj,ct⟩
    ·exact b5
    ·have:=(h7 _ _ db _ _ fj).mono' (own':=own') (w':=w') (r':=r) (q:=q++[i'*sz+j']) (q':=q++[i'*sz+j']) hz [] (by simp) fun b t hb=>by
      have hnp:¬ full <+: q++[i'*sz+j']++t:=by
       intro e;rw[hf,Pbd,List.prefix_append_right_inj]at e;have e':=(List.cons_prefix_cons.1 e).1
       have uh:j'<sz:=by
        have:=(Ob2.1 fj).1;rw[h4 row0 (Pbh db)]at this;exact this
       obtain⟨ll,l8⟩:=Abd uh aq e'.symm;exact ct ⟨ll,l8⟩
      exact hs b _ hb hnp
     simpa using this
theorem Rp.deeper {own:Nat->Ow}{w:World}{r:Nat}{p:List Nat}{m:Nat}{v:Value}{d:D}(h:Rp own w r p m v d):∀ {m':Nat},m<=m'->mY m d=true->Rp own w r p m' v d:=by
 induction h with
 |sc h=>exact fun _ _=>.sc h
 |hole v h1=>exact fun _ _=>.hole v h1
 | fz h =>
  intro m' _ hz
  cases h with
  |sc h=>exact .sc h
  |hole _ h1=>exact .hole _ h1
  |rows=>simp[mY,D.isSc]at hz
 | sl A a n c sz rs vs hn hc hA dm a7 bc b5 ih =>
  rename_i p m;intro m' hm hz;obtain⟨k,rfl⟩:∃ k,m'=k+1:=⟨m'-1,by omega⟩;refine .sl A a n c sz rs vs hn hc hA dm a7 bc (fun i row hi j d hj=>ih i row hi j d hj (by omega) ?_);simp only[mY,Pbv]at hz;exact hz row (Pbh hi) d (Pbh hj)
section
variable {E:Env} {F:bC} {σ:Nat->Option aN} {ρ:List D} {a:Act} {w w':World} {G G':Gh} {s:Sig} {Z:Take} {gd:Bool} {nr nb:Nat} {hs:List Value} {adn:Addr}
structure Nac (E:Env) (F:bC) (σ:Nat->Option aN) (ρ:List D) (a:Act) (w:World) (G:Gh) (s:Sig) (Z:Take) (G':Gh) (w':World):Prop where
 hR:R E.ntmps F σ ρ a w G
 hk:Ha6 s Z
 hF:kW (nE s (callG ρ G w s Z) w) G' w'
 bx:∀ j ro cs,s.boxes[j]?=some (ro,cs)->Mbu σ Z.ptrs j ro cs
 deps:∀ z∈Z.deps,Jaa σ z.1 z.2
 mus:∀ (ν r d:Nat) (q:List (aI×Nat×Nat)) (X:aI),Z.rts[ν]?=some (RT.mu r d q X)->∃ m aE u,σ (kR r)=some (.root X m aE .live)/\q.length+d<=m/\wG G.own w r [] (G.hdr r) (aZ ρ q) u
 owns:∀ (ν r d:Nat),Z.rts[ν]?=some (RT.own r d)->∃ x m aE,σ (kR r)=some (.root x m aE .live)
variable (B:Nac E F σ ρ a w G s Z G' w')
include B
theorem Nac.keep {b:Nat}(hb:b<w.heap.size)(h:(callG ρ G w s Z).own b=.frz\/(callG ρ G w s Z).own b=.oth):w'.heap[b]?=w.heap[b]?/\G'.own b=(callG ρ G w s Z).own b:=B.hF.keep b hb h
theorem Nac.lt {b r:Nat}{p:List Nat}(h:G.own b=.slc r p):b<w.heap.size:=by
 rcases Pbo b w.heap.size with h1|h1
 ·exact h1
 ·rw[B.hR.frame.fresh b h1]at h;cases h
theorem Nac.own_eq {b:Nat}(hb:b<w.heap.size)(h:Jai ((callG ρ G w s Z).own b)=false):(eH gd ρ G w s Z nr nb G'.own hs adn).own b=xI ρ Z.rts (G.own b):=by
 simp only[eH];rw[if_pos ⟨hb,h⟩]
theorem Nac.frz {b:Nat}(h:G.own b=.frz)(hb:b<w.heap.size):(eH gd ρ G w s Z nr nb G'.own hs adn).own b=.frz/\w'.heap[b]?=w.heap[b]?:=by
 have h1:(callG ρ G w s Z).own b=.frz:=nD h;refine⟨?_,(B.keep hb (.inl h1)).1⟩;rw[B.own_eq hb (by rw[h1];rfl),h];rfl
theorem Nac.other {b r:Nat}{p:List Nat}(hr:r∉bT Z.rts)(h:G.own b=.slc r p):(eH gd ρ G w s Z nr nb G'.own hs adn).own b=.slc r p/\w'.heap[b]?=w.heap[b]?:=by
 have hb:=B.lt h
 have h1:(callG ρ G w s Z).own b=if r∈Z.deps.map (·.1) then .frz else .oth:=by
  simp only[callG,h];exact oO hr
 have h2:(callG ρ G w s Z).own b=.frz\/(callG ρ G w s Z).own b=.oth:=by
  rw[h1];split
  ·exact .inl rfl
  ·exact .inr rfl
 refine⟨?_,(B.keep hb h2).1⟩;rw[B.own_eq hb (by rcases h2 with e|e<;>rw[e]<;>rfl),h];simp only[xI,qD hr]
theorem Nac.oth {b:Nat}(h:G.own b=.oth)(hb:b<w.heap.size):(eH gd ρ G w s Z nr nb G'.own hs adn).own b=.oth/\w'.heap[b]?=w.heap[b]?:=by
 have h1:(callG ρ G w s Z).own b=.oth:=by simp only[callG,h]
 refine⟨?_,(B.keep hb (.inr h1)).1⟩;rw[B.own_eq hb (by rw[h1];rfl),h];rfl
theorem Nac.boxes {b c:Nat}(h:G.own b=.box c)(hb:b<w.heap.size):(eH gd ρ G w s Z nr nb G'.own hs adn).own b=.box c /\
  (w'.heap[b]?=w.heap[b]?\/∃ j cs off ls c0 c1 e fr,s.boxes[j]?=some (false,cs)/\mP j Z.ptrs=some (c,off)/\b=(G.bx c).block/\σ (kB c)=some (.box false ls)/\off+cs.length<=ls.length /\
   w.heap[b]?=some (.cells c0 e fr)/\w'.heap[b]?=some (.cells c1 e fr)/\c1.size=c0.size/\∀ k,k<(G.bx c).off+off\/(G.bx c).off+off+cs.length<=k->c1[k]?=c0[k]?):=by
 have key:((callG ρ G w s Z).own b=.oth)\/∃ j,Na3 Z.ptrs c 0 s.boxes=some j/\b=(G.bx c).block/\(callG ρ G w s Z).own b=.box j:=by
  simp only[callG,h];split
  ·rename_i j hj
   split
   ·rename_i oB
    exact .inr ⟨j,hj,oB,rfl⟩
   ·exact .inl rfl
  ·exact .inl rfl
 rcases key with h1|⟨j,hj,oB,h1⟩
 ·refine⟨?_,.inl (B.keep hb (.inr h1)).1⟩
  rw[B.own_eq hb (by rw[h1];rfl),h];rfl
 ·refine⟨by rw[B.own_eq hb (by rw[h1];rfl),h];rfl,.inr ?_⟩
  obtain⟨j',cs,off,e1,e2,e3⟩:=Dac hj;rw[Pbw]at e1;subst e1;obtain⟨c',ka,kk,ls,h2,h3,h4,h5⟩:=B.bx j false cs e2;rw[e3]at h2;obtain⟨rfl,rfl⟩:c=c'/\off=ka:=by simpa using h2
  obtain rfl:=(h5 rfl).1;obtain⟨-,c0,c1,e,fr,h6,h7,h8,h9⟩:=B.hF.boxes b j hb h1;refine⟨j,cs,off,ls,c0,c1,e,fr,e2,e3,oB,h3,h4,h6,h7,h8,fun k hk=>h9 k ?_⟩
  have e4:(nE s (callG ρ G w s Z) w).rng j=((G.bx c).off+off,(G.bx c).off+off+cs.length):=by
   simp only[nE,callG,e3,Oa4,Pba,e2,Qbt]
  rw[e4];exact hk
theorem Nac.allow {b:Nat}(h:G'.own b=.frz):allow (eH gd ρ G w s Z nr nb G'.own hs adn) Z.deps b:=by
 by_cases hb:b<w.heap.size
 ·cases gj:Jai ((callG ρ G w s Z).own b) with
  | true =>
   refine .inl ?_;simp only[eH];rw[if_neg (by rw[gj];simp),h];rfl
  | false =>
   have a7:=B.own_eq (gd:=gd) (nr:=nr) (nb:=nb) (hs:=hs) (adn:=adn) hb gj
   cases hg:G.own b with
   |frz=>exact .inl (B.frz hg hb).1
   | oth =>
    have h1:(callG ρ G w s Z).own b=.oth:=by simp only[callG,hg]
    have:=(B.keep hb (.inr h1)).2;rw[h,h1]at this;cases this
   | box c =>
    have oB:=(B.boxes (gd:=gd) (nr:=nr) (nb:=nb) (hs:=hs) (adn:=adn) hg hb);exfalso
    have key:((callG ρ G w s Z).own b=.oth)\/∃ j,(callG ρ G w s Z).own b=.box j:=by
     simp only[callG,hg];split
     ·split
      ·exact .inr ⟨_,rfl⟩
      ·exact .inl rfl
     ·exact .inl rfl
    rcases key with h1|⟨j,h1⟩
    ·have:=(B.keep hb (.inr h1)).2
     rw[h,h1]at this;cases this
    ·have:=(B.hF.boxes b j hb h1).1
     rw[h]at this;cases this
   | slc r p =>
    by_cases hr:r∈bT Z.rts
    ·refine .inl ?_
     rw[a7,hg];obtain⟨ν,x,h1,h2,h3⟩:=qB hr;simp only[xI,h2]
     rcases h3 with ⟨d,rfl⟩|⟨d,q,X,rfl⟩
     ·rfl
     ·have h4:=Jaw (ρ:=ρ) (G:=G) (w:=w) B.hk h1 hg
      dsimp only;rw[h4]at gj
      cases ba:strip (aZ ρ q) p with
      | some t' =>
       rw[ba]at gj;dsimp only at gj ⊢;split at gj
       ·cases gj
       ·rename_i hle
        rw[if_neg hle]
      | none =>
       have h5:(callG ρ G w s Z).own b=.oth:=by rw[h4,ba]
       have:=(B.keep hb (.inr h5)).2;rw[h,h5]at this;cases this
    ·have h1:(callG ρ G w s Z).own b=if r∈Z.deps.map (·.1) then .frz else .oth:=by
      simp only[callG,hg];exact oO hr
     by_cases hd:r∈Z.deps.map (·.1)
     ·obtain⟨z,hz,e⟩:=Pb5.1 hd
      refine .inr ⟨r,z.2,p,by rw[<- e];exact hz,(B.other hr hg).1⟩
     ·rw[if_neg hd]at h1
      have:=(B.keep hb (.inr h1)).2;rw[h,h1]at this;cases this
 ·refine .inl ?_
  simp only[eH];rw[if_neg (by simp[hb]),h];rfl
theorem Nac.rd {v:Value}{d:D}(h:Rd (fun b=>G'.own b=.frz) w' v d):Rd (Go.Proofs.YtcbkmmhkccnamaaGreat.Rf.allow (eH gd ρ G w s Z nr nb G'.own hs adn) Z.deps) w' v d :=
 h.mono fun b hb=>⟨B.allow hb,rfl⟩
theorem Nac.slc {b t:Nat}{p:List Nat}(h:G'.own b=.slc t p):(eH gd ρ G w s Z nr nb G'.own hs adn).own b=rC gd ρ nr nb s.boxes.length (Z.rts.filter uB) (.slc t p):=by
 simp only[eH];rw[if_neg,h]
 rintro⟨hb,gj⟩
 cases hg:(callG ρ G w s Z).own b with
 |frz=>have:=(B.keep hb (.inl hg)).2;rw[h,hg]at this;cases this
 |oth=>have:=(B.keep hb (.inr hg)).2;rw[h,hg]at this;cases this
 |slc _ _=>rw[hg]at gj;cases gj
 |box j=>have:=(B.hF.boxes b j hb hg).1;rw[h]at this;cases this
theorem Nac.give {q m:Nat}{v:Value}{d:D}(h:Rp G'.own w' (2*q) [] m v d)(eR:Z.deps=[]\/mY m d=true)(fp:gd=false)(hq:q<bO):Rp (eH gd ρ G w s Z nr nb G'.own hs adn).own w' (nr+q) [] m v d:=by
 have:=h.remap (own':=(eH gd ρ G w s Z nr nb G'.own hs adn).own) (r':=nr+q) (q:=[]) (q':=[]) (fun b t hb=>by
  rw[B.slc hb,fp];simp only[rC,Qbc]
  rw[if_pos (by omega),if_neg (by simp),show 2*q / 2=q by omega,if_pos hq]) [] rfl (eR.imp (fun e b hb _=>by
   rcases B.allow (gd:=gd) (nr:=nr) (nb:=nb) (hs:=hs) (adn:=adn) hb with h1|⟨r,k,p,h1,-⟩
   ·exact h1
   ·rw[e]at h1;simp at h1) id)
 simpa using this
theorem Nac.giveGd {q m:Nat}{v:Value}{d:D}(h:Rp G'.own w' (2*q) [] m v d)(fp:gd=true):Rd (Go.Proofs.YtcbkmmhkccnamaaGreat.Rf.allow (eH gd ρ G w s Z nr nb G'.own hs adn) Z.deps) w' v d:=by
 refine h.rd.mono fun b hb=>⟨?_,rfl⟩
 rcases hb with hb|⟨p,hb⟩
 ·exact B.allow hb
 ·refine .inl ?_
  rw[B.slc hb,fp];simp only[rC];rw[if_pos (by omega),if_pos trivial]
theorem Nac.mu {ν j r d m aE:Nat}{q:List (aI×Nat×Nat)}{X y X' X0:aI}(hm:σ (kR r)=some (.root X0 m aE .live))(hdm:q.length+d=m\/mY d (y.val ρ)=true)(s9:Z.rts[ν]?=some (.mu r d q X))(hj:(Z.rts.filter uB)[j]?=some (.mu r d q X)){u:Value}(hu:∀ u',wG G.own w r [] (G.hdr r) (aZ ρ q) u'->u=u')
  (h:Rp G'.own w' (2*j+1) [] d u (y.val ρ)) (eR:Z.deps=[]\/mY d (y.val ρ)=true) (mm:Upd (aZ ρ q) (X.val ρ) (y.val ρ) (X'.val ρ)) :
  Rp (eH gd ρ G w s Z nr nb G'.own hs adn).own w' r [] m (G.hdr r) (X'.val ρ):=by
 obtain⟨m',tp,u',hσ,hle,hn⟩:=B.mus ν r d q X s9;rw[hm]at hσ
 obtain⟨rfl,rfl,rfl⟩:X0=X/\m=m'/\aE=tp:=by
  have:=Pbu hσ
  injection this with e1 e2 e3
  exact⟨e1,e2,e3⟩
 obtain rfl:=hu u' hn;have hlen:(aZ ρ q).length=q.length:=by simp[aZ]
 have ga:Rp (eH gd ρ G w s Z nr nb G'.own hs adn).own w' r (aZ ρ q) d u (y.val ρ):=by
  have:=h.remap (own':=(eH gd ρ G w s Z nr nb G'.own hs adn).own) (r':=r) (q:=[]) (q':=aZ ρ q) (fun b t hb=>by
   rw[B.slc hb];simp only[rC,Qbc]
   rw[if_neg (by omega),show (2*j+1) / 2=j by omega,hj]) [] rfl (eR.imp (fun e b hb _=>by
    rcases B.allow (gd:=gd) (nr:=nr) (nb:=nb) (hs:=hs) (adn:=adn) hb with h1|⟨r,k,p,h1,-⟩
    ·exact h1
    ·rw[e]at h1;simp at h1) id)
  simpa using this
 have a1a:Rp (eH gd ρ G w s Z nr nb G'.own hs adn).own w' r (aZ ρ q) (m-(aZ ρ q).length) u (y.val ρ):=by
  rcases hdm with e|e
  ·rwa[hlen,show m-q.length=d by omega]
  ·exact ga.deeper (by omega) e
 have e9:=B.hR.root hm;simp only[bK]at e9
 have:=Rp.updM (own:=G.own) (own':=(eH gd ρ G w s Z nr nb G'.own hs adn).own) (w:=w) (w':=w') (r:=r) (M:=m) (full:=aZ ρ q) (y:=y.val ρ) (u:=u)
  (fun b hb aq=>B.frz hb aq) (fun b t hb hnp=>?_) (by omega) a1a (aZ ρ q) [] (G.hdr r) (X0.val ρ) (X'.val ρ) (by simp) (by simpa using e9) hn mm
 ·simpa using this
 ·have aq:=B.lt hb
  have h1:=Jaw (ρ:=ρ) (G:=G) (w:=w) B.hk s9 hb
  have ba:strip (aZ ρ q) t=none:=by
   cases e:strip (aZ ρ q) t with
   |none=>rfl
   |some t'=>exact absurd ⟨t',(Ga0 e).symm⟩ hnp
  rw[ba]at h1;refine⟨?_,(B.keep aq (.inr h1)).1⟩;rw[B.own_eq aq (by rw[h1];rfl),hb];simp only[xI,yT B.hk.dist s9,ba]
theorem Nac.frame:kW F (eH gd ρ G w s Z nr nb G'.own hs adn) w':=by
 have dm:w.heap.size<=w'.heap.size:=B.hF.size;refine⟨B.hF.os.trans B.hR.frame.os,B.hF.tape.trans B.hR.frame.tape,B.hF.output.trans B.hR.frame.output,Nat.le_trans B.hR.frame.size dm,fun b hb ho=>?_,fun b j hb ho=>?_,fun b hb=>?_⟩
 ·obtain⟨h1,h2⟩:=B.hR.frame.keep b hb ho
  have aq:b<w.heap.size:=Nat.lt_of_lt_of_le hb B.hR.frame.size
  rcases ho with ho|ho
  ·rw[ho]at h2 ⊢
   obtain⟨h3,h4⟩:=B.frz (gd:=gd) (nr:=nr) (nb:=nb) (hs:=hs) (adn:=adn) h2 aq;exact⟨h4.trans h1,h3⟩
  ·rw[ho]at h2 ⊢
   obtain⟨h3,h4⟩:=B.oth (gd:=gd) (nr:=nr) (nb:=nb) (hs:=hs) (adn:=adn) h2 aq;exact⟨h4.trans h1,h3⟩
 ·obtain⟨h1,c0,c1,e,fr,h2,h3,h4,h5⟩:=B.hR.frame.boxes b j hb ho
  have aq:b<w.heap.size:=Nat.lt_of_lt_of_le hb B.hR.frame.size;obtain⟨h6,h7⟩:=B.boxes (gd:=gd) (nr:=nr) (nb:=nb) (hs:=hs) (adn:=adn) h1 aq;refine⟨h6,?_⟩
  rcases h7 with h7|⟨i,cs,off,ls,d0,d1,e',fr',h8,h9,cd,db,fj,hJ,j9,ll,l8⟩
  ·exact⟨c0,c1,e,fr,h2,h7.trans h3,h4,h5⟩
  ·rw[h3]at hJ
   obtain⟨rfl,rfl,rfl⟩:c1=d0/\e=e'/\fr=fr':=by
    have:=Pbu hJ
    injection this with e1 e2 e3
    exact⟨e1,e2,e3⟩
   have qk:=B.hR.rng j ls db (by rw[<- cd];exact hb) (by rw[<- cd];exact ho);refine⟨c0,d1,e,fr,h2,j9,ll.trans h4,fun k hk=>?_⟩;rw[qk]at hk;dsimp only at hk;rw[l8 k (by omega),h5 k (by rw[qk];exact hk)]
 ·simp only[eH]
  rw[if_neg (by omega),B.hF.fresh b hb];rfl
end
end Go.Proofs.YtcbkmmhkccnamaaGreat.Rf
