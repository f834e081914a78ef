/- Terms for the program's functions, and that they are right: part 6 of 10. -/
import Derived.Test.YtpgnlmfmlffjcaaGreatRf5
open Bool renaming and_eq_true → Sbu, false_eq_true → Sbv, not_eq_true' → Tbm, or_eq_true → Uba
open List renaming length_cons → Sbw, length_nil → Sbx, mem_append_left → Sbz, getElem?_eq_getElem → Sb0, mem_append_right → Sb2, append_assoc → Sb3, getD_eq_getElem?_getD → Sb4, length_map → Sb5, getElem?_cons_zero → Sb8, mem_singleton → Sb9, mem_cons_of_mem → Tba, append_nil → Tbb, mem_cons_self → Tbe, getElem?_append_right → Tbf, mem_of_getElem? → Tbg, map_cons → Tbn, getElem?_map → Tbo, all_eq_true → Tbp, map_nil → Tbw, nil_append → Tb2, getElem?_drop → Tb5, mem_cons → Tb7, getElem?_cons_succ → Tb9, mem_map_of_mem → Ubt, getElem?_set → Ub5, any_eq_false → Vbw
open Nat renaming le_refl → Sb7, lt_or_ge → Tbi, add_assoc → Tbl, add_zero → Tbs, zero_add → Tbt, beq_eq → Tbv, add_sub_cancel_left → Tb4, blt_eq → Ube, ble_eq → Ubf, zero_le → Ubo
open Option renaming bind_eq_some_iff → Sbt, bind_some → Sb6, map_some → Ubd, getD_some → Ub1
set_option linter.unusedSimpArgs false
set_option linter.unusedVariables false
set_option linter.unnecessarySimpa false
set_option linter.unusedSectionVars false
namespace Go.Proofs.YtpgnlmfmlffjcaaGreat.Rf
set_option linter.unusedVariables false
set_option linter.unusedSimpArgs false
def LS.cnt:LS->Nat
 |.px _=>0
 |.clo _ _=>0
 |_=>1
def LS.rcnt:LS->Nat
 |.mu _=>1
 |.ow _=>1
 |_=>0
def Cb8:List LS->Nat
 |[]=>0
 |s::ss=>s.cnt+Cb8 ss
def nN:List LS->Nat
 |[]=>0
 |s::ss=>s.rcnt+nN ss
def Pac:List (Bool×List LS)->Nat
 |[]=>0
 |(_,ss)::ps=>Cb8 ss+Pac ps
def mH:List (Bool×List LS)->Nat
 |[]=>0
 |(_,ss)::ps=>nN ss+mH ps
def BS.cnt:BS->Nat
 |.ot=>0
 |_=>1
def BS.rcnt:BS->Nat
 |.ow _=>1
 |_=>0
def Gby:List (BS×BO)->Nat
 |[]=>0
 |(s,_)::ss=>s.cnt+Gby ss
def Aa3:List (BS×BO)->Nat
 |[]=>0
 |(s,_)::ss=>s.rcnt+Aa3 ss
def Gbz:List (Bool×List (BS×BO))->Nat
 |[]=>0
 |(_,cs)::bs=>Gby cs+Gbz bs
def Aa4:List (Bool×List (BS×BO))->Nat
 |[]=>0
 |(_,cs)::bs=>Aa3 cs+Aa4 bs
section
variable (G:Gh) (w:World) (ρ:List D) (nbx:Nat)
def Gbk (ok:Nat->Prop)(w:World)(v:Value)(d:D):Prop :=
 (v=.pointer none/\∃ z,d=.rows z [])\/∃ a row,v=.pointer (some a)/\d=.rows row.length [row]/\Rd ok w (.slice (some a) 1 1) (.rows row.length [row])
def Ba7:List LS->List Value->Prop
 |[],vs=>vs=[]
 |c::cs,vs=>∃ u us,vs=u::us/\(match c with | .px b=>u=.pointer (some (G.bx b))/\b<nbx | _=>u.oneCell'=true)/\Ba7 cs us
def oO (i nr:Nat):LS->Value->Prop
 |.sc,v=>Sc v ((aO.v i).val ρ)
 |.fz nie,v=>Rd (fun b=>G.own b=.frz) w v ((aO.v i).val ρ)/\(nie=true->∀ z,(aO.v i).val ρ=.rows z []->v=.slice none 0 0)
 |.mu m,v=>v=G.hdr nr/\Rp G.own w nr [] m v ((aO.v i).val ρ)
 |.ow m,v=>v=G.hdr nr/\Rp G.own w nr [] m v ((aO.v i).val ρ)
 |.px b,v=>v=.pointer (some (G.bx b))/\b<nbx
 |.clo f cs,v=>∃ vs,v=.func (.func f) #[] vs.toArray/\Ba7 G nbx cs vs
 |.rp _,v=>v.oneCell'=true/\Gbk (fun b=>G.own b=.frz) w v ((aO.v i).val ρ)
def yJ:Nat->Nat->List LS->List Value->Prop
 |_,_,[],vs=>vs=[]
 |i,nr,s::ss,vs=>∃ u us,vs=u::us/\oO G w ρ nbx i nr s u/\yJ (i+s.cnt) (nr+s.rcnt) ss us
def mZ:Nat->Nat->List (Bool×List LS)->List Value->Prop
 |_,_,[],us=>us=[]
 |i,nr,(a,ss)::ps,us=>∃ u us' vs,us=u::us'/\yJ G w ρ nbx i nr ss vs/\(if a=true then u=.agg vs.toArray else vs=[u])/\mZ (i+Cb8 ss) (nr+nN ss) ps us'
def Ba6 (i nr:Nat):BS->Value->Prop
 |.sc,v=>Sc v ((aO.v i).val ρ)
 |.fz nie,v=>Rd (fun b=>G.own b=.frz) w v ((aO.v i).val ρ)/\(nie=true->∀ z,(aO.v i).val ρ=.rows z []->v=.slice none 0 0)
 |.ow m,v=>v=G.hdr nr/\Rp G.own w nr [] m v ((aO.v i).val ρ)
 |.ot,v=>v.oneCell'=true
def Kaj (ad:Addr):Nat->Nat->Nat->List (BS×BO)->Prop
 |_,_,_,[]=>True
 |off,i,nr,(s,_)::ss=>(∃ v,w.cell? (ad.add off)=some v/\w.frozen? (ad.add off)=false/\Ba6 G w ρ i nr s v)/\Kaj ad (off+1) (i+s.cnt) (nr+s.rcnt) ss
def Kak:Nat->Nat->Nat->List (Bool×List (BS×BO))->Prop
 |_,_,_,[]=>True
 |b,i,nr,(ro,cs)::bs=>(G.bx b).spot=none/\G.own (G.bx b).block=(if ro=true then .oth else .box b)/\Kaj G w ρ (G.bx b) 0 i nr cs/\Kak (b+1) (i+Gby cs) (nr+Aa3 cs) bs
end
structure Gbq (s:Sig) (vals:List Value) (w:World) (G:Gh) (ds:List D):Prop where
 params:mZ G w ds s.boxes.length 0 0 s.params vals
 boxes:Kak G w ds 0 (Pac s.params) (mH s.params) s.boxes
 len:ds.length=Pac s.params+Gbz s.boxes
 fresh:∀ b,w.heap.size<=b->G.own b=.frz
 cells:∀ b j,b<w.heap.size->G.own b=.box j->j<s.boxes.length/\∃ c e fr,w.heap[b]?=some (.cells c e fr)
def La4 (s:Sig)(G:Gh):List Value:=(gW 0 (s.params.flatMap (·.2))).map G.hdr++(range 0 s.boxes.length).map fun b=>Value.pointer (some (G.bx b))
def vK (s:Sig)(G:Gh)(w:World):cB :=
 ⟨w,G.own,fun j=>(La4 s G).getD j undef,fun b=>((G.bx b).off,(G.bx b).off+(s.boxes.getD b (true,[])).2.length)⟩
theorem Vab {i nr:Nat}(s:LS):∃ l u,kV i nr s=(l,u,i+s.cnt,nr+s.rcnt)/\∀ k c,(k,c)∈u->∃ m,s.rcnt=1/\k=kR nr/\c=.root (.v i) m 0 .live/\(s=.mu m\/s=.ow m)/\l=.ex nr:=by
 cases s with
 | mu m =>
  refine⟨_,_,rfl,fun k c h=>?_⟩
  simp only[Sb9,Prod.mk.injEq]at h
  exact⟨m,rfl,h.1,h.2,.inl rfl,rfl⟩
 | ow m =>
  refine⟨_,_,rfl,fun k c h=>?_⟩
  simp only[Sb9,Prod.mk.injEq]at h
  exact⟨m,rfl,h.1,h.2,.inr rfl,rfl⟩
 |_=>exact⟨_,_,rfl,by simp⟩
section
variable {G:Gh} {w:World} {ρ:List D} {nbx:Nat} {σ:Nat->Option aW}
theorem Jap (hbx:∀ b,b<nbx->(σ (kB b)).isSome):∀ {cs:List LS} {vs:List Value},Ba7 G nbx cs vs->aK σ ρ G w (cs.map fun c=>match c with|.px b=>.px b 0|_=>.dead) vs
 |[],vs,h=>by simpa[Ba7,aK] using h
 | c :: cs, vs, h => by
  obtain⟨u,us,rfl,h1,h2⟩:=h
  simp only[Tbn,aK]
  refine⟨u,us,rfl,?_,Jap hbx h2⟩
  cases c with
  | px b =>
   simp only[aD]
   exact⟨by rw[h1.1];rfl,hbx b h1.2⟩
  |_=>simp only[aD];exact h1
def qP (σ:Nat->Option aW)(G:Gh)(w:World)(ρ:List D)(u:List (Nat×aW)):Prop:=∀ k c,(k,c)∈u->∃ r m i,k=kR r/\c=.root (.v i) m 0 .live/\Rp G.own w r [] m (G.hdr r) ((aO.v i).val ρ)
theorem Xak (hbx:∀ b,b<nbx->(σ (kB b)).isSome){i nr:Nat}{s:LS}{v:Value}(h:oO G w ρ nbx i nr s v)(hrt:s.rcnt=1->(σ (kR nr)).isSome) :
  aD σ ρ G w (kV i nr s).1 v/\qP σ G w ρ (kV i nr s).2.1:=by
 cases s with
 |sc=>exact⟨by simpa[kV,aD,oO] using h,by simp[qP,kV]⟩
 | fz nie =>
  refine⟨?_,by simp[qP,kV]⟩
  simp only[oO]at h
  simp only[kV,aD]
  exact⟨⟨h.1.one,by simp⟩,fun _=>⟨h.1.mono fun b hb=>⟨.inl hb,rfl⟩,h.2,trivial⟩⟩
 | mu m =>
  simp only[oO]at h
  refine⟨?_,?_⟩
  ·simp only[kV,aD]
   exact⟨h.1,hrt rfl,h.2.one⟩
  ·intro k c hc
   simp only[kV,Sb9,Prod.mk.injEq]at hc
   exact⟨nr,m,i,hc.1,hc.2,by rw[<- h.1];exact h.2⟩
 | ow m =>
  simp only[oO]at h
  refine⟨?_,?_⟩
  ·simp only[kV,aD]
   exact⟨h.1,hrt rfl,h.2.one⟩
  ·intro k c hc
   simp only[kV,Sb9,Prod.mk.injEq]at hc
   exact⟨nr,m,i,hc.1,hc.2,by rw[<- h.1];exact h.2⟩
 | px b =>
  refine⟨?_,by simp[qP,kV]⟩
  simp only[oO]at h
  simp only[kV,aD]
  exact⟨by rw[h.1];rfl,hbx b h.2⟩
 | clo f cs =>
  refine⟨?_,by simp[qP,kV]⟩
  simp only[oO]at h
  obtain⟨vs,h1,h2⟩:=h
  simp only[kV,aD]
  exact⟨vs,h1,Jap hbx h2⟩
 | rp z =>
  refine⟨?_,by simp[qP,kV]⟩
  simp only[oO]at h
  simp only[kV,aD]
  refine⟨⟨h.1,by simp⟩,fun _=>?_⟩
  rcases h.2 with h1|⟨a,row,h1,h2,h3⟩
  ·exact .inl h1
  ·exact .inr ⟨a,row,h1,h2,h3.mono fun b hb=>⟨.inl hb,rfl⟩⟩
theorem qP.append {u v:List (Nat×aW)}(h:qP σ G w ρ u)(h':qP σ G w ρ v):qP σ G w ρ (u++v):=fun k c hc=>(List.mem_append.1 hc).elim (h k c) (h' k c)
theorem Eah:∀ (ss:List LS) (i nr:Nat),(fP i nr ss).2.2=(i+Cb8 ss,nr+nN ss)/\(fP i nr ss).1.length=ss.length/\∀ r,nr<=r->r<nr+nN ss->∃ c,(kR r,c)∈(fP i nr ss).2.1
 |[],i,nr=>⟨rfl,rfl,fun r h1 h2=>by simp only[nN]at h2;omega⟩
 | s :: ss, i, nr => by
  obtain⟨l,u,h1,h2⟩:=Vab (i:=i) (nr:=nr) s
  obtain⟨h3,h4,h5⟩:=Eah ss (i+s.cnt) (nr+s.rcnt)
  simp only[fP,h1]
  refine⟨h3.trans (by simp only[Cb8,nN,Tbl]),by simp[h4],fun r hr1 hr2=>?_⟩
  simp only[nN]at hr2
  rcases Tbi r (nr+s.rcnt) with h6|h6
  ·have hs:s.rcnt=1:=by cases s<;>simp[LS.rcnt]at h6 ⊢<;>omega
   have:r=nr:=by omega
   subst this
   cases s<;>simp[LS.rcnt]at hs
   all_goals
    simp only[kV,Prod.mk.injEq]at h1
    obtain⟨-,rfl,-⟩:=h1
    exact⟨_,Sbz _ (List.mem_singleton.2 rfl)⟩
  ·obtain⟨c,hc⟩:=h5 r h6 (by omega)
   exact⟨c,Sb2 _ hc⟩
theorem Gax (hbx:∀ b,b<nbx->(σ (kB b)).isSome):∀ {ss:List LS} {i nr:Nat} {vs:List Value},yJ G w ρ nbx i nr ss vs->(∀ r,nr<=r->r<nr+nN ss->(σ (kR r)).isSome) ->
  aK σ ρ G w (fP i nr ss).1 vs/\qP σ G w ρ (fP i nr ss).2.1
 |[],i,nr,vs,h,_=>⟨by simpa[yJ,fP,aK] using h,by simp[qP,fP]⟩
 | s :: ss, i, nr, vs, h, hr => by
  obtain⟨u,us,rfl,h1,h2⟩:=h
  obtain⟨l,up,h3,h4⟩:=Vab (i:=i) (nr:=nr) s
  obtain⟨h5,h6⟩:=Xak hbx h1 fun e=>hr nr (Sb7 _) (by simp only[nN];omega)
  obtain⟨h7,h8⟩:=Gax hbx h2 fun r hr1 hr2=>hr r (by omega) (by simp only[nN];omega)
  simp only[fP,h3]at h5 h6 ⊢
  exact⟨by simp only[aK];exact⟨u,us,rfl,h5,h7⟩,h6.append h8⟩
theorem zP:∀ (ps:List (Bool×List LS)) (t i nr:Nat),(mR t i nr ps).2=(i+Pac ps,nr+mH ps)/\∀ r,nr<=r->r<nr+mH ps->∃ c,(kR r,c)∈(mR t i nr ps).1
 |[],t,i,nr=>⟨rfl,fun r h1 h2=>by simp only[mH]at h2;omega⟩
 | (a, ss) :: ps, t, i, nr => by
  obtain⟨h1,-,h2⟩:=Eah ss i nr
  obtain⟨h3,h4⟩:=zP ps (t+1) (i+Cb8 ss) (nr+nN ss)
  have e:fP i nr ss=((fP i nr ss).1,(fP i nr ss).2.1,i+Cb8 ss,nr+nN ss):=by rw[<- h1]
  simp only[mR]
  rw[e]
  dsimp only
  refine⟨h3.trans (by simp only[Pac,mH,Tbl]),fun r hr1 hr2=>?_⟩
  simp only[mH]at hr2
  rcases Tbi r (nr+nN ss) with h6|h6
  ·obtain⟨c,hc⟩:=h2 r hr1 h6
   exact⟨c,Tba _ (Sbz _ hc)⟩
  ·obtain⟨c,hc⟩:=h4 r h6 (by omega)
   exact⟨c,Tba _ (Sb2 _ hc)⟩
def Qbg (σ:Nat->Option aW)(G:Gh)(w:World)(ρ:List D)(val:Nat->Option Value)(u:List (Nat×aW)):Prop :=
 ∀ k c,(k,c)∈u->(∃ t v sv,k=kT t/\c=.slot none sv/\val t=some v/\eB σ ρ G w sv v)\/(∃ r m i,k=kR r/\c=.root (.v i) m 0 .live/\Rp G.own w r [] m (G.hdr r) ((aO.v i).val ρ))
theorem Gav (hbx:∀ b,b<nbx->(σ (kB b)).isSome):∀ {ps:List (Bool×List LS)} {t i nr:Nat} {us:List Value},mZ G w ρ nbx i nr ps us->(∀ r,nr<=r->r<nr+mH ps->(σ (kR r)).isSome) ->
  us.length=ps.length/\Qbg σ G w ρ (fun j=>if t<=j then us[j-t]? else none) (mR t i nr ps).1
 | [], t, i, nr, us, h, _ => by
  simp only[mZ]at h
  subst h
  exact⟨rfl,by simp[Qbg,mR]⟩
 | (a, ss) :: ps, t, i, nr, us, h, hr => by
  obtain⟨u,us',vs,rfl,h1,h2,h3⟩:=h
  obtain⟨h4,h5,-⟩:=Eah ss i nr
  obtain⟨h6,h7⟩:=Gax hbx h1 fun r hr1 hr2=>hr r hr1 (by simp only[mH];omega)
  obtain⟨h8,h9⟩:=Gav hbx (t:=t+1) h3 fun r hr1 hr2=>hr r (by omega) (by simp only[mH];omega)
  have e:fP i nr ss=((fP i nr ss).1,(fP i nr ss).2.1,i+Cb8 ss,nr+nN ss):=by rw[<- h4]
  simp only[mR]
  rw[e]
  dsimp only
  refine⟨by simp[h8],fun k c hc=>?_⟩
  rcases List.mem_cons.1 hc with hc|hc
  ·obtain⟨rfl,rfl⟩:=Prod.mk.inj hc
   refine .inl ⟨t,u,_,rfl,rfl,by simp,?_⟩
   cases hsv:Abd a (fP i nr ss).1 with
   |none=>trivial
   |some sv=>exact yO hsv h6 h2
  ·rcases List.mem_append.1 hc with hc|hc
   ·exact .inr (h7 k c hc)
   ·rcases h9 k c hc with ⟨t',v,sv,e1,e2,e3,e4⟩|h10
    ·refine .inl ⟨t',v,sv,e1,e2,?_,e4⟩
     dsimp only at e3 ⊢
     split at e3
     ·rename_i hle
      rw[if_pos (by omega)]
      rw[show t'-t=(t'-(t+1))+1 by omega]
      exact e3
     ·cases e3
    ·exact .inr h10
theorem Xal {i nr:Nat}{s:BS}{v:Value}(h:Ba6 G w ρ i nr s v)(hrt:s.rcnt=1->(σ (kR nr)).isSome) :
  aD σ ρ G w (jQ i nr s).1 v/\qP σ G w ρ (jQ i nr s).2.1/\(jQ i nr s).2.2=(i+s.cnt,nr+s.rcnt)/\(s.rcnt=1->∃ c,(kR nr,c)∈(jQ i nr s).2.1):=by
 cases s with
 |sc=>exact⟨by simpa[jQ,aD,Ba6] using h,by simp[qP,jQ],rfl,fun e=>by cases e⟩
 | fz nie =>
  refine⟨?_,by simp[qP,jQ],rfl,fun e=>by cases e⟩
  simp only[Ba6]at h
  simp only[jQ,aD]
  exact⟨⟨h.1.one,by simp⟩,fun _=>⟨h.1.mono fun b hb=>⟨.inl hb,rfl⟩,h.2,trivial⟩⟩
 | ow m =>
  simp only[Ba6]at h
  refine⟨?_,?_,rfl,fun _=>⟨_,List.mem_singleton.2 rfl⟩⟩
  ·simp only[jQ,aD]
   exact⟨h.1,hrt rfl,h.2.one⟩
  ·intro k c hc
   simp only[jQ,Sb9,Prod.mk.injEq]at hc
   exact⟨nr,m,i,hc.1,hc.2,by rw[<- h.1];exact h.2⟩
 |ot=>exact⟨by simpa[jQ,aD,Ba6] using h,by simp[qP,jQ],rfl,fun e=>by cases e⟩
theorem Fbq {i nr:Nat}(s:BS):(jQ i nr s).2.2=(i+s.cnt,nr+s.rcnt)/\(s.rcnt=1->∃ c,(kR nr,c)∈(jQ i nr s).2.1):=by
 cases s<;>refine⟨rfl,fun e=>?_⟩<;>first|cases e|skip
 exact⟨_,List.mem_singleton.2 rfl⟩
theorem Iaf:∀ (ss:List (BS×BO)) (i nr:Nat),(jN i nr ss).2.2=(i+Gby ss,nr+Aa3 ss)/\(jN i nr ss).1.length=ss.length/\∀ r,nr<=r->r<nr+Aa3 ss->∃ c,(kR r,c)∈(jN i nr ss).2.1
 |[],i,nr=>⟨rfl,rfl,fun r h1 h2=>by simp only[Aa3]at h2;omega⟩
 | (s, o) :: ss, i, nr => by
  obtain⟨h1,h2⟩:=Fbq (i:=i) (nr:=nr) s
  obtain⟨h3,h4,h5⟩:=Iaf ss (i+s.cnt) (nr+s.rcnt)
  have e:jQ i nr s=((jQ i nr s).1,(jQ i nr s).2.1,i+s.cnt,nr+s.rcnt):=by rw[<- h1]
  simp only[jN]
  rw[e]
  dsimp only
  refine⟨h3.trans (by simp only[Gby,Aa3,Tbl]),by simp[h4],fun r hr1 hr2=>?_⟩
  simp only[Aa3]at hr2
  rcases Tbi r (nr+s.rcnt) with h6|h6
  ·have hs:s.rcnt=1:=by cases s<;>simp[BS.rcnt]at h6 ⊢<;>omega
   have:r=nr:=by omega
   subst this
   obtain⟨c,hc⟩:=h2 hs
   exact⟨c,Sbz _ hc⟩
  ·obtain⟨c,hc⟩:=h5 r h6 (by omega)
   exact⟨c,Sb2 _ hc⟩
theorem Jah {ad:Addr}:∀ {ss:List (BS×BO)} {off i nr:Nat},Kaj G w ρ ad off i nr ss->(∀ r,nr<=r->r<nr+Aa3 ss->(σ (kR r)).isSome) ->
  (∀ j l,(jN i nr ss).1[j]?=some l->∃ v,w.cell? (ad.add (off+j))=some v/\w.frozen? (ad.add (off+j))=false/\aD σ ρ G w l v)/\qP σ G w ρ (jN i nr ss).2.1
 |[],off,i,nr,_,_=>⟨by simp[jN],by simp[qP,jN]⟩
 | (s, o) :: ss, off, i, nr, h, hr => by
  obtain⟨⟨v,h1,h2,h3⟩,h4⟩:=h
  obtain⟨h5,h6,h7,-⟩:=Xal h3 fun e=>hr nr (Sb7 _) (by simp only[Aa3];omega)
  obtain⟨h8,h9⟩:=Jah h4 fun r hr1 hr2=>hr r (by omega) (by simp only[Aa3];omega)
  have e:jQ i nr s=((jQ i nr s).1,(jQ i nr s).2.1,i+s.cnt,nr+s.rcnt):=by rw[<- h7]
  simp only[jN]
  rw[e]
  dsimp only
  refine⟨fun j l hj=>?_,h6.append h9⟩
  cases j with
  | zero =>
   simp only[Sb8,Option.some.injEq]at hj
   subst hj
   exact⟨v,h1,h2,h5⟩
  | succ j =>
   obtain⟨v',h10,h11,h12⟩:=h8 j l (by simpa using hj)
   rw[show off+(j+1)=off+1+j by omega]
   exact⟨v',h10,h11,h12⟩
def Qbs (σ:Nat->Option aW)(G:Gh)(w:World)(ρ:List D)(bs:Nat->Option (Bool×List (BS×BO)))(u:List (Nat×aW)):Prop :=
 ∀ k c,(k,c)∈u->(∃ b ro ls cs,k=kB b/\c=.box ro ls/\bs b=some (ro,cs)/\ls.length=cs.length/\Pan σ ρ G w b ro ls)\/(∃ r m i,k=kR r/\c=.root (.v i) m 0 .live/\Rp G.own w r [] m (G.hdr r) ((aO.v i).val ρ))
theorem Caw:∀ (bs:List (Bool×List (BS×BO))) (b i nr:Nat),(oG b i nr bs).2=(i+Gbz bs,nr+Aa4 bs)/\(∀ r,nr<=r->r<nr+Aa4 bs->∃ c,(kR r,c)∈(oG b i nr bs).1)/\∀ j,b<=j->j<b+bs.length->∃ c,(kB j,c)∈(oG b i nr bs).1
 |[],b,i,nr=>⟨rfl,fun r h1 h2=>by simp only[Aa4]at h2;omega,fun j h1 h2=>by simp only[Sbx]at h2;omega⟩
 | (ro, cs) :: bs, b, i, nr => by
  obtain⟨h1,-,h2⟩:=Iaf cs i nr
  obtain⟨h3,h4,h5⟩:=Caw bs (b+1) (i+Gby cs) (nr+Aa3 cs)
  have e:jN i nr cs=((jN i nr cs).1,(jN i nr cs).2.1,i+Gby cs,nr+Aa3 cs):=by rw[<- h1]
  simp only[oG]
  rw[e]
  dsimp only
  refine⟨h3.trans (by simp only[Gbz,Aa4,Tbl]),fun r hr1 hr2=>?_,fun j hj1 hj2=>?_⟩
  ·simp only[Aa4]at hr2
   rcases Tbi r (nr+Aa3 cs) with h6|h6
   ·obtain⟨c,hc⟩:=h2 r hr1 h6
    exact⟨c,Tba _ (Sbz _ hc)⟩
   ·obtain⟨c,hc⟩:=h4 r h6 (by omega)
    exact⟨c,Tba _ (Sb2 _ hc)⟩
  ·simp only[Sbw]at hj2
   rcases Tbi j (b+1) with h6|h6
   ·obtain rfl:j=b:=by omega
    exact⟨_,Tbe⟩
   ·obtain⟨c,hc⟩:=h5 j h6 (by omega)
    exact⟨c,Tba _ (Sb2 _ hc)⟩
theorem Jai:∀ {bs:List (Bool×List (BS×BO))} {b i nr:Nat},Kak G w ρ b i nr bs->(∀ r,nr<=r->r<nr+Aa4 bs->(σ (kR r)).isSome) ->
  Qbs σ G w ρ (fun j=>if b<=j then bs[j-b]? else none) (oG b i nr bs).1
 |[],b,i,nr,_,_=>by simp[Qbs,oG]
 | (ro, cs) :: bs, b, i, nr, h, hr => by
  obtain⟨h1,h2,h3,h4⟩:=h
  obtain⟨h5,h6,-⟩:=Iaf cs i nr
  obtain⟨h7,h8⟩:=Jah h3 fun r hr1 hr2=>hr r hr1 (by simp only[Aa4];omega)
  have h9:=Jai (b:=b+1) h4 fun r hr1 hr2=>hr r (by omega) (by simp only[Aa4];omega)
  have e:jN i nr cs=((jN i nr cs).1,(jN i nr cs).2.1,i+Gby cs,nr+Aa3 cs):=by rw[<- h5]
  simp only[oG]
  rw[e]
  dsimp only
  intro k c hc
  rcases List.mem_cons.1 hc with hc|hc
  ·obtain⟨rfl,rfl⟩:=Prod.mk.inj hc
   refine .inl ⟨b,ro,_,cs,rfl,rfl,by simp,h6,h1,h2,fun j l hj=>?_⟩
   have:=h7 j l hj
   rwa[Tbt]at this
  ·rcases List.mem_append.1 hc with hc|hc
   ·exact .inr (h8 k c hc)
   ·rcases h9 k c hc with ⟨j,ro',ls,cs',e1,e2,e3,e4⟩|h10
    ·refine .inl ⟨j,ro',ls,cs',e1,e2,?_,e4⟩
     dsimp only at e3 ⊢
     split at e3
     ·rename_i hle
      rw[if_pos (by omega),show j-b=(j-(b+1))+1 by omega]
      exact e3
     ·cases e3
    ·exact .inr h10
end
theorem Cak:∀ (ss:List LS) (r:Nat),∀ q∈gW r ss,r<=q/\q<r+nN ss
 |[],r,q,h=>by simp[gW]at h
 | s :: ss, r, q, h => by
  cases s with
  | mu m =>
   simp only[gW,Tb7]at h
   simp only[nN,LS.rcnt]
   rcases h with rfl|h
   ·omega
   ·have:=Cak ss (r+1) q h;omega
  | ow m =>
   simp only[gW]at h
   simp only[nN,LS.rcnt]
   have:=Cak ss (r+1) q h;omega
  | _ =>
   simp only[gW]at h
   simp only[nN,LS.rcnt]
   have:=Cak ss r q h;omega
theorem Ia3:∀ (a b:List LS),nN (a++b)=nN a+nN b
 |[],b=>by simp[nN]
 |s::a,b=>by simp only[List.cons_append,nN,Ia3 a b,Tbl]
theorem Oaq:∀ (ps:List (Bool×List LS)),nN (ps.flatMap (·.2))=mH ps
 |[]=>rfl
 |(a,ss)::ps=>by simp only[List.flatMap_cons,Ia3,mH,Oaq ps]
theorem zR:∀ (ls:List aZ) (t k:Nat) (c:aW),(k,c)∈xW t ls->∃ j l,ls[j]?=some l/\k=kT (t+j)/\c=.slot none (.one l)
 |[],t,k,c,h=>by simp[xW]at h
 | l :: ls, t, k, c, h => by
  simp only[xW,Tb7,Prod.mk.injEq]at h
  rcases h with ⟨rfl,rfl⟩|h
  ·exact⟨0,l,rfl,rfl,rfl⟩
  ·obtain⟨j,l',h1,rfl,rfl⟩:=zR ls (t+1) k c h
   exact⟨j+1,l',by simpa using h1,by rw[show t+(j+1)=t+1+j by omega],rfl⟩
theorem Cbj {s:Sig}{G:Gh}{j:Nat}{l:aZ}(h:(Uav s)[j]?=some l) :
  (∃ r,(gW 0 (s.params.flatMap (·.2)))[j]?=some r/\l=.ex r/\(La4 s G).getD j undef=G.hdr r)\/(∃ b,b<s.boxes.length/\l=.px b 0/\(La4 s G).getD j undef=.pointer (some (G.bx b))):=by
 unfold Uav at h
 unfold La4
 rw[Sb4]
 rcases Tbi j (gW 0 (s.params.flatMap (·.2))).length with h1|h1
 ·rw[List.getElem?_append_left (by simpa using h1)]at h ⊢
  rw[Tbo]at h ⊢
  rw[Sb0 h1]at h ⊢
  simp only[Ubd,Option.some.injEq]at h
  exact .inl ⟨_,rfl,h.symm,rfl⟩
 ·rw[Tbf (by simpa using h1)]at h ⊢
  simp only[Sb5]at h ⊢
  rw[Tbo]at h ⊢
  cases hb:(range 0 s.boxes.length)[j-(gW 0 (s.params.flatMap (·.2))).length]? with
  |none=>rw[hb]at h;cases h
  | some b =>
   rw[hb]at h
   simp only[Ubd,Option.some.injEq]at h
   have:=mem_range.1 (Tbg hb)
   exact .inr ⟨b,by omega,h.symm,rfl⟩
end Go.Proofs.YtpgnlmfmlffjcaaGreat.Rf

namespace Go.Proofs.YtpgnlmfmlffjcaaGreat.Rf
set_option linter.unusedVariables false
set_option linter.unusedSimpArgs false
def Hb9 (s:Sig)(n:Nat):List (Nat×aW) :=
 (mR 0 0 0 s.params).1++(oG 0 (Pac s.params) (mH s.params) s.boxes).1++xW n (Uav s)
theorem entry_eq (s:Sig)(n:Nat):entry s n=St.puts ⟨.nil,Pac s.params+Gbz s.boxes,s.boxes.length,mH s.params+Aa4 s.boxes,n+sU s⟩ (Hb9 s n):=by
 have h1:=(zP s.params 0 0 0).1
 have h2:=(Caw s.boxes 0 (Pac s.params) (mH s.params)).1
 rw[Tbt,Tbt]at h1
 have e:mR 0 0 0 s.params=((mR 0 0 0 s.params).1,Pac s.params,mH s.params):=by rw[<- h1]
 have e2:oG 0 (Pac s.params) (mH s.params) s.boxes=((oG 0 (Pac s.params) (mH s.params) s.boxes).1,Pac s.params+Gbz s.boxes,mH s.params+Aa4 s.boxes):=by rw[<- h2]
 unfold entry Hb9
 rw[e]
 dsimp only
 rw[e2]
theorem Iae (s:Sig)(n:Nat):(entry s n).nv=Pac s.params+Gbz s.boxes/\(entry s n).nb=s.boxes.length/\(entry s n).nr=mH s.params+Aa4 s.boxes/\(entry s n).nt=n+sU s:=by
 rw[entry_eq]
 obtain⟨h1,h2,h3,h4⟩:=lD (Hb9 s n) ⟨.nil,Pac s.params+Gbz s.boxes,s.boxes.length,mH s.params+Aa4 s.boxes,n+sU s⟩
 exact⟨h1,h2,h3,h4⟩
theorem Vaa (s:Sig)(n:Nat)(k:Nat):(entry s n).get k=bif Ear (n+sU s) s.boxes.length (mH s.params+Aa4 s.boxes) k then upds (fun _=>none) (Hb9 s n) k else none:=by
 obtain⟨h1,h2,h3,h4⟩:=Iae s n
 unfold St.get
 rw[h2,h3,h4]
 have:(entry s n).tr.get k=upds (fun _=>none) (Hb9 s n) k:=by
  rw[entry_eq,Pa7]
  exact wQ _ _ _ _ rfl
 rw[this]
theorem Ua9 {s:Sig}{n k:Nat}{c:aW}(h:(entry s n).get k=some c):(k,c)∈Hb9 s n:=by
 rw[Vaa]at h
 revert h
 cases Ear (n+sU s) s.boxes.length (mH s.params+Aa4 s.boxes) k with
 |false=>intro h;cases h
 | true =>
  intro h
  rcases vQ _ _ _ _ h with h1|⟨-,h1⟩
  ·exact h1
  ·cases h1
theorem Oa7 {s:Sig}{n k:Nat}(hb:Ear (n+sU s) s.boxes.length (mH s.params+Aa4 s.boxes) k=true)(h:∃ c,(k,c)∈Hb9 s n):((entry s n).get k).isSome:=by
 rw[Vaa,hb,cond_true]
 exact gD _ _ _ (.inr h)
theorem Hbu {nt nb nr b:Nat}(h:b<nb):Ear nt nb nr (kB b)=true:=by
 unfold Ear
 rw[Uai]
 have:kB b / 3=b:=by unfold kB;omega
 rw[this]
 simpa using h
theorem Cbr (s:Sig)(n r:Nat)(h:r<mH s.params+Aa4 s.boxes):((entry s n).get (kR r)).isSome:=by
 refine Oa7 (Uag h) ?_
 rcases Tbi r (mH s.params) with h1|h1
 ·obtain⟨c,hc⟩:=(zP s.params 0 0 0).2 r (Ubo _) (by omega)
  exact⟨c,Sbz _ (Sbz _ hc)⟩
 ·obtain⟨c,hc⟩:=(Caw s.boxes 0 (Pac s.params) (mH s.params)).2.1 r h1 h
  exact⟨c,Sbz _ (Sb2 _ hc)⟩
theorem Fbp (s:Sig)(n b:Nat)(h:b<s.boxes.length):((entry s n).get (kB b)).isSome:=by
 refine Oa7 (Hbu h) ?_
 obtain⟨c,hc⟩:=(Caw s.boxes 0 (Pac s.params) (mH s.params)).2.2 b (Ubo _) (by omega)
 exact⟨c,Sbz _ (Sb2 _ hc)⟩
theorem Nbh {s:Sig}{vals:List Value}{w:World}{G:Gh}{ds:List D}{n:Nat}(h:Gbq s vals w G ds)(hn:s.params.length<=n) :
  vals.length=s.params.length/\R n (vK s G w) (entry s n).get ds ⟨vals.toArray++Array.replicate (n-vals.length) undef,[]⟩ w G:=by
 have hbx:∀ b,b<s.boxes.length->((entry s n).get (kB b)).isSome:=fun b hb=>Fbp s n b hb
 have hrt:=Cbr s n
 obtain⟨hlen,hpar⟩:=Gav (σ:=(entry s n).get) hbx (t:=0) h.params fun r _ hr=>hrt r (by omega)
 have hbox:=Jai (σ:=(entry s n).get) h.boxes fun r _ hr=>hrt r hr
 have hroot:∀ r,r<mH s.params->(G.hdr r).oneCell'=true:=by
  intro r hr
  obtain⟨c,hc⟩:=(zP s.params 0 0 0).2 r (Ubo _) (by omega)
  rcases hpar _ c hc with ⟨t,v,sv,e,-⟩|⟨r',m,i,e,-,hrp⟩
  ·exact absurd e.symm kU
  ·obtain rfl:=iB e
   exact hrp.one
 have hval:∀ t v,vals[t]?=some v->Eaq n ⟨vals.toArray++Array.replicate (n-vals.length) undef,[]⟩ (vK s G w).gh t=v:=by
  intro t v hv
  have hlt:=(List.getElem?_eq_some_iff.1 hv).1
  unfold Eaq
  rw[if_pos (by omega)]
  simp only[Array.getD_eq_getD_getElem?]
  rw[Array.getElem?_append_left (by simpa using hlt)]
  simp[hv]
 refine⟨hlen,?_,rfl,fun k c hk=>?_,?_,fun b ls hk hb ho=>?_⟩
 ·simp;omega
 ·have hm:=Ua9 hk
  unfold Hb9 at hm
  rcases List.mem_append.1 hm with hm|hm
  ·rcases List.mem_append.1 hm with hm|hm
   ·rcases hpar k c hm with ⟨t,v,sv,rfl,rfl,hv,hsv⟩|⟨r,m,i,rfl,rfl,hrp⟩
    ·refine⟨t,rfl,fun _=>?_⟩
     simp only[Ubo,if_true,Nat.sub_zero]at hv
     rw[hval t v hv]
     exact hsv
    ·exact⟨r,rfl,by rw[hk];rfl,hrp⟩
   ·rcases hbox k c hm with ⟨b,ro,ls,cs,rfl,rfl,-,-,hbr⟩|⟨r,m,i,rfl,rfl,hrp⟩
    ·exact⟨b,rfl,hbr⟩
    ·exact⟨r,rfl,by rw[hk];rfl,hrp⟩
  ·obtain⟨j,l,hj,rfl,rfl⟩:=zR _ _ _ _ hm
   refine⟨n+j,rfl,fun _=>?_⟩
   have e:Eaq n ⟨vals.toArray++Array.replicate (n-vals.length) undef,[]⟩ (vK s G w).gh (n+j)=(La4 s G).getD j undef:=by
    unfold Eaq
    rw[if_neg (by omega),Tb4]
    rfl
   rw[e]
   simp only[eB]
   rcases Cbj (G:=G) hj with ⟨r,h1,rfl,h2⟩|⟨b,h1,rfl,h2⟩
   ·have hr:=Cak _ _ r (Tbg h1)
    rw[Oaq]at hr
    simp only[aD]
    rw[h2]
    exact⟨rfl,hrt r (by omega),hroot r (by omega)⟩
   ·simp only[aD]
    rw[h2]
    exact⟨rfl,hbx b h1⟩
 ·exact⟨rfl,rfl,rfl,Sb7 _,fun b hb ho=>⟨rfl,rfl⟩,fun b j hb ho=>⟨ho,by
   obtain⟨-,c,e,fr,hc⟩:=h.cells b j hb ho
   exact⟨c,c,e,fr,hc,hc,rfl,fun _ _=>rfl⟩⟩,h.fresh⟩
 ·have hm:=Ua9 hk
  unfold Hb9 at hm
  rcases List.mem_append.1 hm with hm|hm
  ·rcases List.mem_append.1 hm with hm|hm
   ·rcases hpar _ _ hm with ⟨t,v,sv,e,-⟩|⟨r,m,i,e,-⟩
    ·exact absurd e.symm rO
    ·exact absurd e iX
   ·rcases hbox _ _ hm with ⟨b',ro,ls',cs,e,e2,e3,e4,hbr⟩|⟨r,m,i,e,-⟩
    ·obtain rfl:=Ia6 e
     injection e2 with e5 e6
     subst e5 e6
     simp only[Ubo,if_true,Nat.sub_zero]at e3
     simp only[vK,Sb4,e3,Ub1]
     rw[e4]
    ·exact absurd e iX
  ·obtain⟨j,r,hj,e,-⟩:=zR _ _ _ _ hm
   exact absurd e.symm rO
theorem Fbo {s:Sig}{n nr0:Nat}(h:Kal (entry s n) nr0 ((range 0 (entry s n).nt).map kT++(range 0 (entry s n).nb).map kB++(range 0 (entry s n).nr).map kR)=true){E:Env}(hE:E.ntmps=n):Nad E (entry s n):=by
 refine⟨by rw[(Iae s n).2.2.2,hE];omega,fun k c hk=>?_⟩
 have hm:k∈(range 0 (entry s n).nt).map kT++(range 0 (entry s n).nb).map kB++(range 0 (entry s n).nr).map kR:=by
  rcases Eac hk with ⟨t,rfl,ht⟩|⟨b,rfl,hb⟩|⟨r,rfl,hr⟩
  ·exact Sbz _ (Sbz _ (List.mem_map.2 ⟨t,mem_range.2 ⟨by omega,by omega⟩,rfl⟩))
  ·exact Sbz _ (Sb2 _ (List.mem_map.2 ⟨b,mem_range.2 ⟨by omega,by omega⟩,rfl⟩))
  ·exact Sb2 _ (List.mem_map.2 ⟨r,mem_range.2 ⟨by omega,by omega⟩,rfl⟩)
 have:=Hai h k hm
 rw[hk]at this
 exact zT this
end Go.Proofs.YtpgnlmfmlffjcaaGreat.Rf

namespace Go.Proofs.YtpgnlmfmlffjcaaGreat.Rf
set_option linter.unusedVariables false
set_option linter.unusedSimpArgs false
def BO.q:BO->Nat
 |.ow _=>1
 |_=>0
def qC:List BO->Nat
 |[]=>0
 |s::ss=>s.q+qC ss
def LR.q:LR->Nat
 |.ow _=>1
 |.bx cs=>qC cs
 |_=>0
def qL:List LR->Nat
 |[]=>0
 |s::ss=>s.q+qL ss
def qR:List (Bool×List LR)->Nat
 |[]=>0
 |(_,ss)::rs=>qL ss+qR rs
section
variable (own:Nat->Ow) (w:World) (ds:List D) (nbx:Nat)
def Iar (i q:Nat):BO->Value->Prop
 |.sc,v=>Sc v (ds.getD i .undef)
 |.fz,v=>Rd (fun b=>own b=.frz) w v (ds.getD i .undef)
 |.ow m,v=>Rp own w (2*q) [] m v (ds.getD i .undef)
 |.dead,v=>v.oneCell'=true
def Hag (ad:Addr):Nat->Nat->Nat->List BO->Prop
 |_,_,_,[]=>True
 |off,i,q,s::ss=>(∃ v,w.cell? (ad.add off)=some v/\w.frozen? (ad.add off)=false/\Iar own w ds i q s v)/\Hag ad (off+1) (i+1) (q+s.q) ss
def qJ (i q:Nat):LR->Value->Prop
 |.sc,v=>Sc v (ds.getD i .undef)
 |.fz,v=>Rd (fun b=>own b=.frz) w v (ds.getD i .undef)
 |.ow m,v=>Rp own w (2*q) [] m v (ds.getD i .undef)
 |.rp _,v=>v.oneCell'=true/\Gbk (fun b=>own b=.frz) w v (ds.getD i .undef)
 |.bx cs,v=>∃ ad,v=.pointer (some ad)/\ad.spot=none/\own ad.block=.box nbx/\Hag own w ds ad 0 i q cs
def vN:Nat->Nat->List LR->List Value->Prop
 |_,_,[],vs=>vs=[]
 |i,q,s::ss,vs=>∃ u us,vs=u::us/\qJ own w ds nbx i q s u/\vN (i+s.n) (q+s.q) ss us
def Pal:Nat->Nat->List (Bool×List LR)->List Value->Prop
 |_,_,[],us=>us=[]
 |i,q,(a,ss)::rs,us=>∃ u us' vs,us=u::us'/\vN own w ds nbx i q ss vs/\(if a=true then u=.agg vs.toArray else vs=[u])/\Pal (i+sP ss) (q+qL ss) rs us'
def Bbn (gh:Nat->Value):Nat->Nat->List Nat->Prop
 |_,_,[]=>True
 |i,j,d::ms=>Rp own w (2*j+1) [] d (gh j) (ds.getD i .undef)/\Bbn gh (i+1) (j+1) ms
def qK (bx:Nat->Addr):Nat->Nat->Nat->List (Bool×List (BS×BO))->Prop
 |_,_,_,[]=>True
 |b,i,q,(ro,cs)::r=>if ro=true then qK bx (b+1) i q r else Hag own w ds (bx b) 0 i q (cs.map (·.2))/\qK bx (b+1) (i+cs.length) (q+qC (cs.map (·.2))) r
end
def Ia1:List Value->Value
 |[u]=>u
 |us=>.tuple us.toArray
def Ra3 (s:Sig)(F:cB)(bx:Nat->Addr)(v:Value)(w:World)(ds:List D):Prop :=
 ∃ G us,v=Ia1 us/\rH F G w/\Pal G.own w ds s.boxes.length 0 0 s.results us/\Bbn G.own w ds F.gh (cZ s.results) 0 (fZ (s.params.flatMap (·.2))) /\
  qK G.own w ds bx 0 (cZ s.results+(fZ (s.params.flatMap (·.2))).length) (qR s.results) s.boxes
structure FLe (A B:Fin):Prop where
 xs:∃ l,B.xs=A.xs++l
 own:∀ z∈A.own,z∈B.own
 frz:∀ z∈A.frz,z∈B.frz
 lets:∃ l,B.lets=A.lets++l
 bxs:∀ z∈A.bxs,z∈B.bxs
theorem FLe.refl (A:Fin):FLe A A:=⟨⟨[],by simp⟩,fun _ h=>h,fun _ h=>h,⟨[],by simp⟩,fun _ h=>h⟩
theorem FLe.trans {A B C:Fin}(h:FLe A B)(h':FLe B C):FLe A C:=by
 obtain⟨⟨l,h1⟩,h2,h3,⟨m,h4⟩,h5⟩:=h
 obtain⟨⟨l',h1'⟩,h2',h3',⟨m',h4'⟩,h5'⟩:=h'
 exact⟨⟨l++l',by rw[h1',h1,Sb3]⟩,fun z hz=>h2' z (h2 z hz),fun z hz=>h3' z (h3 z hz),⟨m++m',by rw[h4',h4,Sb3]⟩,fun z hz=>h5' z (h5 z hz)⟩
structure Dba (Z:Fin) (nbx:Nat) (G G':Gh):Prop where
 frz:∀ b,G.own b=.frz->G'.own b=.frz
 own:∀ r t m,(r,t,m)∈Z.own->∀ b p,G.own b=.slc r p->G'.own b=if p.length<m then .slc t p else .frz
 fr:∀ r,r∈Z.frz->∀ b p,G.own b=.slc r p->G'.own b=.frz
 bxs:∀ β,β∈Z.bxs->∀ b,G.own b=.box β->G'.own b=.box nbx
section
variable {E:Env} {F:cB} {σ:Nat->Option aW} {ρ:List D} {a:Act} {w:World} {G G':Gh} {cf:Nat->List D->Option (List D)} {Z:Fin} {nbx nv:Nat}
theorem FLe.get {A B:Fin}(h:FLe A B){ρ:List D}{x:aO}{l:List aO}(hx:A.xs=l++[x]):(B.xs.map (·.val ρ)).getD l.length .undef=x.val ρ:=by
 obtain⟨m,h1⟩:=h.xs
 rw[h1,hx,Sb4]
 simp
theorem Rp.give (hG:Dba Z nbx G G'){r t m m':Nat}(hz:(r,t,m)∈Z.own)(hm:m<=m'){v:Value}{d:D}(h:Rp G.own w r [] m' v d):Rp G'.own w t [] m v d:=by
 let own1:Nat->Ow:=fun b=>match G.own b with
  |.slc s p=>if s=r then (if p.length<m then .slc s p else .frz) else .slc s p
  |o=>o
 have h1:=h.weaken (own':=own1) (fun b hb=>by simp only[own1,hb]) m hm (fun b q hb=>by simp only[own1,hb,Tb2,if_true])
 have:=h1.mono (own':=G'.own) (w':=w) (q:=[]) (q':=[]) (r':=t) (fun b hb=>⟨?_,rfl⟩) [] rfl (fun b q hb=>⟨?_,rfl⟩)
 ·simpa using this
 ·simp only[own1]at hb
  split at hb
  ·rename_i s p e
   split at hb
   ·rename_i hs
    subst hs
    split at hb
    ·cases hb
    ·rename_i hp
     rw[hG.own s t m hz b p e,if_neg hp]
   ·cases hb
  ·exact hG.frz b hb
 ·simp only[own1]at hb
  split at hb
  ·rename_i s p e
   split at hb
   ·rename_i hs
    subst hs
    split at hb
    ·rename_i hp
     injection hb with e1 e2
     simp only[Tb2]at e2 ⊢
     subst e2
     rw[hG.own s t m hz b p e,if_pos hp]
    ·cases hb
   ·rename_i hs
    injection hb with e1 e2
    exact absurd e1 hs
  ·rename_i hno
   exact absurd hb (hno _ _)
theorem Rd.give (hG:Dba Z nbx G G'){deps:List (Nat×Nat)}(hz:∀ z∈deps,z.1∈Z.frz){v:Value}{d:D}(h:Rd (allow G deps) w v d):Rd (fun b=>G'.own b=.frz) w v d:=by
 refine h.mono fun b hb=>⟨?_,rfl⟩
 rcases hb with hb|⟨r,k,p,hm,hb⟩
 ·exact hG.frz b hb
 ·exact hG.fr r (hz _ hm) b p hb
theorem Ua2 (hR:R E.ntmps F σ ρ a w G){A B:Fin}{m:Nat}{l:aZ}(h:(Ua3 A m l).eval σ=some B)(hZ:FLe B Z)(hG:Dba Z nbx G G'){v:Value}(hl:aD σ ρ G w l v) :
  Rp G'.own w (2*A.q) [] m v ((Z.xs.map (·.val ρ)).getD A.xs.length .undef)/\FLe A B/\B.xs.length=A.xs.length+1/\B.q=A.q+1:=by
 unfold Ua3 at h
 split at h
 ·rename_i nie z
  simp only[aH,Option.some.injEq]at h
  subst h
  refine⟨?_,⟨⟨_,rfl⟩,fun _ h=>h,fun _ h=>h,⟨[],by simp[Ab7]⟩,fun _ h=>h⟩,by simp[Ab7],rfl⟩
  rw[hZ.get (l:=A.xs) rfl]
  simp only[aD]at hl
  have hv:=(hl.2 (by simp)).2.1 trivial z rfl
  rw[hv]
  cases m with
  |zero=>exact .fz (.rows none ⟨0,0,none⟩ 0 0 z [] (fun _ _=>undef) rfl (Sb7 _) (.inl rfl) (by simp) (by simp) (by simp))
  |succ m=>exact .sl none ⟨0,0,none⟩ 0 0 z [] (fun _ _=>undef) rfl (Sb7 _) (.inr ⟨rfl,rfl⟩) (by simp) (fun e=>by cases e) (by simp) (by simp)
 ·rename_i r
  simp only[aC,aX,Sb6]at h
  split at h
  ·rename_i x m' ver hk
   simp only[aC,aP,Sbt,aH,Option.some.injEq]at h
   obtain⟨_,h1,rfl⟩:=h
   split at h1
   case isFalse=>cases h1
   rename_i hb
   simp only[Ubf]at hb
   refine⟨?_,⟨⟨_,rfl⟩,fun _ h=>Sbz _ h,fun _ h=>h,⟨[],by simp[Dao]⟩,fun _ h=>h⟩,by simp[Dao],rfl⟩
   rw[hZ.get (l:=A.xs) rfl]
   simp only[aD]at hl
   rw[hl.1]
   have hr:=hR.root hk
   simp only[dJ]at hr
   exact hr.give hG (hZ.own _ (by simp[Dao])) hb
  ·cases h
 ·rename_i r k nie x
  simp only[aC,aX,Sb6]at h
  split at h
  ·rename_i x' m' ver hk
   simp only[aC,aP,Sbt,aH,Option.some.injEq]at h
   obtain⟨_,h1,rfl⟩:=h
   split at h1
   case isFalse=>cases h1
   rename_i hb
   simp only[Sbu,Ubf,Tbv]at hb
   obtain⟨hb,rfl⟩:=hb
   refine⟨?_,⟨⟨_,rfl⟩,fun _ h=>Sbz _ h,fun _ h=>h,⟨[],by simp[Dao]⟩,fun _ h=>h⟩,by simp[Dao],rfl⟩
   rw[hZ.get (l:=A.xs) rfl]
   simp only[aD]at hl
   have hp:=(hl.2 fun z hz=>by
    simp only[Sb9]at hz
    subst hz
    exact⟨x',m',.live,hk,.inl rfl⟩).2.2
   exact (hp r ver m' rfl ⟨x',hk⟩).give hG (hZ.own _ (by simp[Dao])) hb
  ·cases h
 ·cases h
theorem Ua4 (hR:R E.ntmps F σ ρ a w G){A B:Fin}{l:aZ}(h:(Ua5 A l).eval σ=some B)(hZ:FLe B Z)(hG:Dba Z nbx G G'){v:Value}(hl:aD σ ρ G w l v) :
  Rd (fun b=>G'.own b=.frz) w v ((Z.xs.map (·.val ρ)).getD A.xs.length .undef)/\FLe A B/\B.xs.length=A.xs.length+1/\B.q=A.q:=by
 unfold Ua5 at h
 simp only[aC,Sbt,aH,Option.some.injEq]at h
 obtain⟨s,h1,rfl⟩:=h
 refine⟨?_,⟨⟨_,rfl⟩,fun _ h=>h,fun _ h=>Sbz _ h,⟨[],by simp⟩,fun _ h=>h⟩,by simp,rfl⟩
 rw[hZ.get (l:=A.xs) rfl]
 have hs:=fV hR h1 hl
 exact hs.rd.give hG fun z hz=>hZ.frz _ (Sb2 _ (Ubt hz))
theorem Xaj (hR:R E.ntmps F σ ρ a w G){A B:Fin}{s:BO}{l:aZ}(h:(Iac A s l).eval σ=some B)(hZ:FLe B Z)(hG:Dba Z nbx G G'){v:Value}(hl:aD σ ρ G w l v) :
  Iar G'.own w (Z.xs.map (·.val ρ)) A.xs.length A.q s v/\FLe A B/\B.xs.length=A.xs.length+1/\B.q=A.q+s.q:=by
 cases s with
 | sc =>
  cases l<;>simp only[Iac,dI,reduceCtorEq]at h
  rename_i x
  simp only[aH,Option.some.injEq]at h
  subst h
  refine⟨?_,⟨⟨_,rfl⟩,fun _ h=>h,fun _ h=>h,⟨[],by simp⟩,fun _ h=>h⟩,by simp,rfl⟩
  simp only[Iar]
  rw[hZ.get (l:=A.xs) rfl]
  simpa[aD] using hl
 | fz =>
  have h':(Ua5 A l).eval σ=some B:=by cases l<;>exact h
  exact Ua4 hR h' hZ hG hl
 | ow m =>
  have h':(Ua3 A m l).eval σ=some B:=by cases l<;>exact h
  exact Ua2 hR h' hZ hG hl
 | dead =>
  have h':(bif Sao l then RdM.ret { A with xs:=A.xs++[.c .hole] } else .no:RdM Fin).eval σ=some B:=by cases l<;>exact h
  cases hb:Sao l with
  |false=>rw[hb]at h';cases h'
  | true =>
   rw[hb,cond_true]at h'
   simp only[aH,Option.some.injEq]at h'
   subst h'
   exact⟨hl.one hb,⟨⟨_,rfl⟩,fun _ h=>h,fun _ h=>h,⟨[],by simp⟩,fun _ h=>h⟩,by simp,rfl⟩
theorem Gat:∀ {ss:List BO} {ls:List aZ} {A B:Fin},(lW A ss ls).eval σ=some B->(∀ {A B:Fin} {s:BO} {l:aZ},(Iac A s l).eval σ=some B->FLe A B)->FLe A B
 | [], [], A, B, h, _ => by
  simp only[lW,aH,Option.some.injEq]at h
  subst h
  exact .refl _
 |[],_::_,A,B,h,_=>by simp[lW,dI]at h
 |_::_,[],A,B,h,_=>by simp[lW,dI]at h
 | s :: ss, l :: ls, A, B, h, hc => by
  simp only[lW,aC,Sbt]at h
  obtain⟨C,h1,h2⟩:=h
  exact (hc h1).trans (Gat h2 hc)
theorem Ab6 {A B:Fin}{m:Nat}{l:aZ}(h:(Ua3 A m l).eval σ=some B):FLe A B:=by
 unfold Ua3 at h
 split at h
 ·simp only[aH,Option.some.injEq]at h
  subst h
  exact⟨⟨_,rfl⟩,fun _ h=>h,fun _ h=>h,⟨[],by simp[Ab7]⟩,fun _ h=>h⟩
 ·simp only[aC,aX,Sb6]at h
  split at h
  ·simp only[aC,aP,Sbt,aH,Option.some.injEq]at h
   obtain⟨_,-,rfl⟩:=h
   exact⟨⟨_,rfl⟩,fun _ h=>Sbz _ h,fun _ h=>h,⟨[],by simp[Dao]⟩,fun _ h=>h⟩
  ·cases h
 ·simp only[aC,aX,Sb6]at h
  split at h
  ·simp only[aC,aP,Sbt,aH,Option.some.injEq]at h
   obtain⟨_,-,rfl⟩:=h
   exact⟨⟨_,rfl⟩,fun _ h=>Sbz _ h,fun _ h=>h,⟨[],by simp[Dao]⟩,fun _ h=>h⟩
  ·cases h
 ·cases h
theorem Ab8 {A B:Fin}{l:aZ}(h:(Ua5 A l).eval σ=some B):FLe A B:=by
 unfold Ua5 at h
 simp only[aC,Sbt,aH,Option.some.injEq]at h
 obtain⟨s,h1,rfl⟩:=h
 exact⟨⟨_,rfl⟩,fun _ h=>h,fun _ h=>Sbz _ h,⟨[],by simp⟩,fun _ h=>h⟩
theorem Cbp {A B:Fin}{s:BO}{l:aZ}(h:(Iac A s l).eval σ=some B):FLe A B:=by
 cases s with
 | sc =>
  cases l<;>simp only[Iac,dI,reduceCtorEq]at h
  simp only[aH,Option.some.injEq]at h
  subst h
  exact⟨⟨_,rfl⟩,fun _ h=>h,fun _ h=>h,⟨[],by simp⟩,fun _ h=>h⟩
 | fz =>
  have h':(Ua5 A l).eval σ=some B:=by cases l<;>exact h
  exact Ab8 h'
 | ow m =>
  have h':(Ua3 A m l).eval σ=some B:=by cases l<;>exact h
  exact Ab6 h'
 | dead =>
  have h':(bif Sao l then RdM.ret { A with xs:=A.xs++[.c .hole] } else .no:RdM Fin).eval σ=some B:=by cases l<;>exact h
  cases hb:Sao l with
  |false=>rw[hb]at h';cases h'
  | true =>
   rw[hb,cond_true]at h'
   simp only[aH,Option.some.injEq]at h'
   subst h'
   exact⟨⟨_,rfl⟩,fun _ h=>h,fun _ h=>h,⟨[],by simp⟩,fun _ h=>h⟩
theorem zN {ss:List BO}{ls:List aZ}{A B:Fin}(h:(lW A ss ls).eval σ=some B):FLe A B:=Gat h fun h=>Cbp h
theorem Bas (hR:R E.ntmps F σ ρ a w G)(hG:Dba Z nbx G G'){ad:Addr}:∀ {ss:List BO} {ls:List aZ} {A B:Fin} {off:Nat},(lW A ss ls).eval σ=some B->FLe B Z ->
  (∀ j l,ls[j]?=some l->∃ v,w.cell? (ad.add (off+j))=some v/\w.frozen? (ad.add (off+j))=false/\aD σ ρ G w l v) ->
  Hag G'.own w (Z.xs.map (·.val ρ)) ad off A.xs.length A.q ss/\B.xs.length=A.xs.length+ss.length/\B.q=A.q+qC ss
 | [], [], A, B, off, h, _, _ => by
  simp only[lW,aH,Option.some.injEq]at h
  subst h
  exact⟨trivial,rfl,rfl⟩
 |[],_::_,A,B,off,h,_,_=>by simp[lW,dI]at h
 |_::_,[],A,B,off,h,_,_=>by simp[lW,dI]at h
 | s :: ss, l :: ls, A, B, off, h, hZ, hl => by
  simp only[lW,aC,Sbt]at h
  obtain⟨C,h1,h2⟩:=h
  obtain⟨v,h3,h4,h5⟩:=hl 0 l rfl
  obtain⟨h6,h7,h8,h9⟩:=Xaj hR h1 ((zN h2).trans hZ) hG h5
  obtain⟨h10,h11,h12⟩:=Bas hR hG (off:=off+1) h2 hZ fun j l' hj=>by
   have:=hl (j+1) l' (by simpa using hj)
   rwa[show off+(j+1)=off+1+j by omega]at this
  rw[h8,h9]at h10
  exact⟨⟨⟨v,h3,h4,h6⟩,h10⟩,by rw[h11,h8];simp;omega,by rw[h12,h9];simp only[qC];omega⟩
end
end Go.Proofs.YtpgnlmfmlffjcaaGreat.Rf

namespace Go.Proofs.YtpgnlmfmlffjcaaGreat.Rf
set_option linter.unusedVariables false
set_option linter.unusedSimpArgs false
def Lbp (tmps:Array Value):ResultVar->Sem Value
 |.tmp t=>pure (tmps.getD t undef)
 |.cell a t=>do loadVar t (<- asAddr (tmps.getD a undef))
def Ia2 (P:Program)(tmps:Array Value)(w:World)(x:ResultVar):Value:=match (Lbp tmps x).run P w with
 |.ok v _=>v
 |_=>undef
theorem Taw {P:Program}{tmps:Array Value}{w:World}{x:ResultVar}{v:Value}(h:(Lbp tmps x).run P w=.ok v w):Ia2 P tmps w x=v/\(Lbp tmps x).run P w=.ok (Ia2 P tmps w x) w:=by
 have:Ia2 P tmps w x=v:=by unfold Ia2;rw[h]
 exact⟨this,by rw[this];exact h⟩
theorem Db3 (vs:Array Value):(if h:vs.size=1 then vs[0] else Value.tuple vs)=Ia1 vs.toList:=by
 obtain⟨l⟩:=vs
 match l with
 |[]=>rfl
 |[u]=>rfl
 |u::v::r=>simp[Ia1]
section
variable {P:Program} {E:Env} {F:cB} {σ:Nat->Option aW} {ρ:List D} {a:Act} {w:World} {G G':Gh} {cf:Nat->List D->Option (List D)} {Z:Fin} {nbx nv:Nat}
theorem Cbo {A B:Fin}{s:LR}{l:aZ}(h:(Mag nv A s l).eval σ=some B):FLe A B:=by
 unfold Mag at h
 split at h
 ·simp only[aH,Option.some.injEq]at h
  subst h
  exact⟨⟨_,rfl⟩,fun _ h=>h,fun _ h=>h,⟨[],by simp⟩,fun _ h=>h⟩
 ·exact Ab8 h
 ·exact Ab6 h
 ·simp only[aH,Option.some.injEq]at h
  subst h
  exact⟨⟨_,rfl⟩,fun _ h=>h,fun _ h=>h,⟨[],by simp⟩,fun _ h=>h⟩
 ·simp only[aC,Sbt,aH,Option.some.injEq]at h
  obtain⟨d,-,rfl⟩:=h
  exact⟨⟨_,rfl⟩,fun _ h=>h,fun _ h=>Sbz _ h,⟨[],by simp⟩,fun _ h=>h⟩
 ·simp only[aC,Sbt,aH,Option.some.injEq]at h
  obtain⟨d,-,rfl⟩:=h
  exact⟨⟨_,rfl⟩,fun _ h=>h,fun _ h=>Sbz _ h,⟨_,rfl⟩,fun _ h=>h⟩
 ·cases h
theorem Xai (hR:R E.ntmps F σ ρ a w G)(hst:aR cf ρ none nv Z.lets){A B:Fin}{s:LR}{l:aZ}(h:(Mag nv A s l).eval σ=some B)(hZ:FLe B Z)(hG:Dba Z nbx G G'){v:Value}(hl:aD σ ρ G w l v) :
  qJ G'.own w (Z.xs.map (·.val ρ)) nbx A.xs.length A.q s v/\B.xs.length=A.xs.length+s.n/\B.q=A.q+s.q:=by
 unfold Mag at h
 split at h
 ·simp only[aH,Option.some.injEq]at h
  subst h
  refine⟨?_,by simp[LR.n],rfl⟩
  simp only[qJ]
  rw[hZ.get (l:=A.xs) rfl]
  simpa[aD] using hl
 ·obtain⟨h1,-,h2,h3⟩:=Ua4 hR h hZ hG hl
  exact⟨h1,h2,h3⟩
 ·obtain⟨h1,-,h2,h3⟩:=Ua2 hR h hZ hG hl
  exact⟨h1,h2,h3⟩
 ·simp only[aH,Option.some.injEq]at h
  subst h
  refine⟨?_,by simp[LR.n],rfl⟩
  simp only[qJ]
  rw[hZ.get (l:=A.xs) rfl]
  simp only[aD]at hl
  exact⟨by rw[hl];rfl,.inl ⟨hl,_,rfl⟩⟩
 ·rename_i z deps z' x
  simp only[aC,Sbt,aH,Option.some.injEq]at h
  obtain⟨ds,h1,rfl⟩:=h
  refine⟨?_,by simp[LR.n],rfl⟩
  simp only[qJ]
  rw[hZ.get (l:=A.xs) rfl]
  simp only[aD]at hl
  obtain⟨h3,h4,h5⟩:=lN h1
  refine⟨hl.1.1,?_⟩
  rcases hl.2 h3 with h6|⟨ad,row,h6,h7,h8⟩
  ·exact .inl h6
  ·exact .inr ⟨ad,row,h6,h7,(h8.drop hR h5).give hG fun z hz=>hZ.frz _ (Sb2 _ (Ubt hz))⟩
 ·rename_i z l' z' ix
  simp only[aC,Sbt,aH,Option.some.injEq]at h
  obtain⟨sl,h1,rfl⟩:=h
  refine⟨?_,by simp[LR.n],rfl⟩
  simp only[qJ]
  rw[hZ.get (l:=A.xs) rfl]
  simp only[aD]at hl
  obtain⟨ad,n,cp,ik,iv,h3,h4,h5,h6,h7⟩:=hl
  have hs:=fV hR h1 h3
  obtain⟨lr,hlr⟩:=hZ.lets
  dsimp only at hlr
  rw[hlr,Sb3]at hst
  have hst1:=(aR.append hst).2
  have hst2:aR cf ρ none (nv+bZ A.lets) [.prim (.one z') [sl.x,ix] 1]:=(aR.append hst1).1
  obtain⟨d,hrun,hd⟩:=jD hst2 rfl
  simp only[Tbn,Tbw,h4]at hrun
  have hrow:∃ sz rs r,sl.x.val ρ=.rows sz rs/\sz=z'/\rs[iv.toNat]?=some r/\d=.rows z' [r]:=by
   cases hx:sl.x.val ρ with
   | rows sz rs =>
    rw[hx]at hrun
    simp only[aN.run]at hrun
    split at hrun
    ·rename_i hc
     split at hrun
     ·rename_i r hr
      simp only[Option.some.injEq,List.cons.injEq,and_true]at hrun
      exact⟨sz,rs,r,rfl,hc.1,hr,hrun.symm⟩
     ·cases hrun
    ·cases hrun
   |_=>rw[hx]at hrun;simp[aN.run]at hrun
  obtain⟨sz,rs,r,hx,rfl,hr,rfl⟩:=hrow
  have hrd:=hs.rd
  rw[hx]at hrd
  obtain⟨A',b,n',c',vs,e1,e2,e3,e4,e5,e6,e7⟩:=hrd.inv
  injection e1 with e1 e1' e1''
  have hlt:iv.toNat<rs.length:=(List.getElem?_eq_some_iff.1 hr).1
  have hA:some ad=some b:=by rw[e1];exact e4.resolve_left (by omega)
  obtain rfl:=Option.some.inj hA
  have hrl:r.length=sz:=e5 r (Tbg hr)
  refine⟨by rw[h7];rfl,.inr ⟨_,r,h7,by rw[hd,hrl],?_⟩⟩
  have:Rd (allow G sl.deps) w (.slice (some (ad.add (iv.toNat*sz+0))) 1 1) (.rows r.length [r]):=by
   refine .rows _ (ad.add (iv.toNat*sz+0)) 1 1 r.length [r] (fun _ j=>vs iv.toNat j) rfl (Sb7 _) (.inr rfl) (by simp) (fun i0 r0 hi0 j d0 hj=>?_) (fun i0 r0 hi0 j d0 hj=>?_)
   ·cases i0 with
    | zero =>
     simp only[Sb8,Option.some.injEq]at hi0
     subst hi0
     obtain⟨k1,k2⟩:=e6 _ _ hr j d0 hj
     refine⟨by rw[add_block];exact k1,?_⟩
     rw[add_add]
     rw[show iv.toNat*sz+0+(0*r.length+j)=iv.toNat*sz+j by omega]
     exact k2
    |succ i0=>simp at hi0
   ·cases i0 with
    | zero =>
     simp only[Sb8,Option.some.injEq]at hi0
     subst hi0
     exact e7 _ _ hr j d0 hj
    |succ i0=>simp at hi0
  exact this.give hG fun z hz=>hZ.frz _ (Sb2 _ (Ubt hz))
 ·cases h
theorem wD:∀ {ss:List LR} {ls:List aZ} {A B:Fin},(kG nv A ss ls).eval σ=some B->FLe A B
 | [], [], A, B, h => by
  simp only[kG,aH,Option.some.injEq]at h
  subst h
  exact .refl _
 |[],_::_,A,B,h=>by simp[kG,dI]at h
 |_::_,[],A,B,h=>by simp[kG,dI]at h
 | s :: ss, l :: ls, A, B, h => by
  simp only[kG,aC,Sbt]at h
  obtain⟨C,h1,h2⟩:=h
  refine FLe.trans ?_ (wD h2)
  split at h1
  ·rename_i cs b
   simp only[aC,aX,Sb6]at h1
   split at h1
   ·have h0:FLe A { A with bxs:=A.bxs++[b] }:=⟨⟨[],by simp⟩,fun _ h=>h,fun _ h=>h,⟨[],by simp⟩,fun _ h=>Sbz _ h⟩
    exact FLe.trans h0 (zN h1)
   ·cases h1
  ·exact Cbo h1
theorem zM (hR:R E.ntmps F σ ρ a w G)(hst:aR cf ρ none nv Z.lets)(hG:Dba Z nbx G G'):∀ {ss:List LR} {ls:List aZ} {A B:Fin} {vs:List Value},(kG nv A ss ls).eval σ=some B->FLe B Z->aK σ ρ G w ls vs ->
  vN G'.own w (Z.xs.map (·.val ρ)) nbx A.xs.length A.q ss vs/\B.xs.length=A.xs.length+sP ss/\B.q=A.q+qL ss
 | [], [], A, B, vs, h, _, hl => by
  simp only[kG,aH,Option.some.injEq]at h
  subst h
  simp only[aK]at hl
  exact⟨hl,rfl,rfl⟩
 |[],_::_,A,B,vs,h,_,_=>by simp[kG,dI]at h
 |_::_,[],A,B,vs,h,_,_=>by simp[kG,dI]at h
 | s :: ss, l :: ls, A, B, vs, h, hZ, hl => by
  simp only[kG,aC,Sbt]at h
  obtain⟨C,h1,h2⟩:=h
  simp only[aK]at hl
  obtain⟨u,us,rfl,h3,h4⟩:=hl
  have hCZ:FLe C Z:=(wD h2).trans hZ
  have key:qJ G'.own w (Z.xs.map (·.val ρ)) nbx A.xs.length A.q s u/\C.xs.length=A.xs.length+s.n/\C.q=A.q+s.q:=by
   split at h1
   ·rename_i cs b
    simp only[aC,aX,Sb6]at h1
    split at h1
    ·rename_i bs hk
     obtain⟨h5,h6,h7⟩:=hR.box hk
     simp only[Sbv,if_false]at h6
     obtain⟨h8,h9,h10⟩:=Bas hR hG (ad:=G.bx b) (off:=0) h1 hCZ fun j l hj=>by rw[Tbt];exact h7 j l hj
     refine⟨?_,h9,h10⟩
     simp only[aD]at h3
     simp only[qJ]
     exact⟨G.bx b,h3.1,h5,hG.bxs b (hCZ.bxs _ ((zN h1).bxs _ (Sb2 _ (List.mem_singleton.2 rfl)))) _ h6,h8⟩
    ·cases h1
   ·exact Xai hR hst h1 hCZ hG h3
  obtain⟨h5,h6,h7⟩:=key
  obtain⟨h8,h9,h10⟩:=zM hR hst hG h2 hZ h4
  rw[h6,h7]at h8
  exact⟨⟨u,us,rfl,h5,h8⟩,by rw[h9,h6];simp only[sP];omega,by rw[h10,h7];simp only[qL];omega⟩
theorem Gas:∀ {rs:List (Bool×List LR)} {vars:List ResultVar} {A B:Fin},(vE E nv A rs vars).eval σ=some B->FLe A B
 | [], [], A, B, h => by
  simp only[vE,aH,Option.some.injEq]at h
  subst h
  exact .refl _
 |[],_::_,A,B,h=>by simp[vE,dI]at h
 |_::_,[],A,B,h=>by simp[vE,dI]at h
 | (ag, ss) :: rs, .tmp t :: vars, A, B, h => by
  simp only[vE,aC,aX,Sb6]at h
  split at h
  ·simp only[aC,Sbt]at h
   obtain⟨_,-,ls,-,C,h1,h2⟩:=h
   exact (wD h1).trans (Gas h2)
  ·cases h
 | (ag, ss) :: rs, .cell t ty :: vars, A, B, h => by
  simp only[vE,aC,Sbt]at h
  obtain⟨ti,-,_,-,_,-,h⟩:=h
  split at h
  ·simp only[aC,aX,Sb6]at h
   split at h
   ·simp only[aC,Sbt]at h
    obtain⟨C,h1,h2⟩:=h
    exact (wD h1).trans (Gas h2)
   ·cases h
  ·cases h
theorem Uaw {n t:Nat}{gh:Nat->Value}(h:t<n):a.tmps.getD t undef=Eaq n a gh t:=by
 unfold Eaq
 rw[if_pos h]
theorem Iab (hti:Aaj P E.ti)(hR:R E.ntmps F σ ρ a w G)(hst:aR cf ρ none nv Z.lets)(hG:Dba Z nbx G G'):∀ {rs:List (Bool×List LR)} {vars:List ResultVar} {A B:Fin},(vE E nv A rs vars).eval σ=some B->FLe B Z ->
  (∀ x∈vars,(Lbp a.tmps x).run P w=.ok (Ia2 P a.tmps w x) w)/\Pal G'.own w (Z.xs.map (·.val ρ)) nbx A.xs.length A.q rs (vars.map (Ia2 P a.tmps w))/\B.xs.length=A.xs.length+cZ rs/\B.q=A.q+qR rs
 | [], [], A, B, h, _ => by
  simp only[vE,aH,Option.some.injEq]at h
  subst h
  exact⟨by simp,rfl,rfl,rfl⟩
 |[],_::_,A,B,h,_=>by simp[vE,dI]at h
 |_::_,[],A,B,h,_=>by simp[vE,dI]at h
 | (ag, ss) :: rs, .tmp t :: vars, A, B, h, hZ => by
  simp only[vE,aC,aX,Sb6]at h
  split at h
  case h_2=>cases h
  rename_i sv hk
  simp only[aC,Sbt,aP,bF]at h
  obtain⟨_,h0,ls,h1,C,h2,h3⟩:=h
  split at h0
  case isFalse=>cases h0
  rename_i ht
  simp only[Ube]at ht
  have hv:=hR.slot hk rfl
  rw[<- Uaw ht]at hv
  have hrun:(Lbp a.tmps (.tmp t)).run P w=.ok (a.tmps.getD t undef) w:=rfl
  obtain⟨e1,e2⟩:=Taw hrun
  have hC:=(Gas h3).trans hZ
  obtain⟨h4,h5,h6⟩:=zM hR hst hG h2 hC (kL h1 hv)
  obtain⟨h7,h8,h9,h10⟩:=Iab hti hR hst hG h3 hZ
  rw[h5,h6]at h8
  refine⟨fun x hx=>?_,⟨_,_,_,rfl,h4,?_,h8⟩,by rw[h9,h5];simp only[cZ];omega,by rw[h10,h6];simp only[qR];omega⟩
  ·rcases List.mem_cons.1 hx with rfl|hx
   ·exact e2
   ·exact h7 x hx
  ·rw[e1]
   unfold nH at h1
   split at h1
   ·cases ag with
    |true=>cases h1
    | false =>
     rw[aD.cells hv]
     simp
   ·cases ag with
    |false=>cases h1
    | true =>
     obtain⟨us,e,-⟩:=hv
     rw[e]
     simp[Value.cells]
   ·cases h1
 | (ag, ss) :: rs, .cell t ty :: vars, A, B, h, hZ => by
  simp only[vE,aC,Sbt,bF,aP,aX]at h
  obtain⟨ti,h0,_,h1,c,hc,h⟩:=h
  obtain rfl:=Option.some.inj hc
  split at h1
  case isFalse=>cases h1
  rename_i hb
  simp only[Sbu,beq_iff_eq,Tbv,Uba,Ube]at hb
  obtain⟨⟨⟨hag,hsz⟩,hone⟩,ht⟩:=hb
  split at h
  case h_2=>cases h
  rename_i b off hk
  simp only[aC,aX,Sb6]at h
  split at h
  case h_2=>cases h
  rename_i ro ls hkb
  simp only[aC,Sbt]at h
  obtain⟨C,h2,h3⟩:=h
  have hv:aD σ ρ G w (.px b off) _:=hR.slot hk rfl
  rw[<- Uaw ht]at hv
  simp only[aD]at hv
  obtain⟨hb1,hb2,hb3⟩:=hR.box hkb
  obtain⟨vs,h4,h5⟩:=pW (σ:=σ) (ρ:=ρ) (G:=G) (w:=w) ((G.bx b).add off) ((ls.drop off).take ti.size) 0 fun j l hj=>by
   rw[List.getElem?_take]at hj
   split at hj
   ·rw[Tb5]at hj
    obtain⟨v,h6,-,h7⟩:=hb3 _ _ hj
    exact⟨v,by rw[add_add,Tbt];exact h6,h7⟩
   ·cases hj
  have hC:=(Gas h3).trans hZ
  obtain⟨h6,h7,h8⟩:=zM hR hst hG h2 hC h4
  have hlen:vs.length=ti.size:=by
   have hfl:∀ {ss:List LR} {vs:List Value} {i q:Nat},vN G'.own w (Z.xs.map (·.val ρ)) nbx i q ss vs->vs.length=ss.length:=by
    intro ss
    induction ss with
    |nil=>intro vs i q h;simp only[vN]at h;subst h;rfl
    | cons s ss ih =>
     intro vs i q h
     obtain⟨u,us,rfl,-,h⟩:=h
     simp[ih h]
   rw[hfl h6,hsz]
  obtain⟨info,ud,hf⟩:=bG (hti.ok _ _ h0)
  have hval:∃ v,if ti.agg=true then v=.agg vs.toArray else vs=[v]:=by
   cases hta:ti.agg with
   |true=>exact⟨_,by rw[if_pos rfl]⟩
   | false =>
    rw[hta]at hone
    simp only[Sbv,false_or]at hone
    rw[hone]at hlen
    match vs,hlen with
    |[v],_=>exact⟨v,by simp⟩
  obtain⟨v,hval⟩:=hval
  have hload:=oD hf ((G.bx b).add off) vs hlen (fun j u hj=>by have:=h5 j u hj;rwa[Tbt]at this) hval
  have hrun:(Lbp a.tmps (.cell t ty)).run P w=.ok v w:=by
   show (do loadVar ty (<- asAddr (a.tmps.getD t undef)):Sem Value).run P w=.ok v w
   rw[hv.1]
   simp only[asAddr,Sem.run_bind,Sem.run_pure,Result.andThen_ok]
   exact hload
  obtain⟨e1,e2⟩:=Taw hrun
  obtain⟨h9,h10,h11,h12⟩:=Iab hti hR hst hG h3 hZ
  rw[h7,h8]at h10
  refine⟨fun x hx=>?_,⟨_,_,vs,rfl,h6,?_,h10⟩,by rw[h11,h7];simp only[cZ];omega,by rw[h12,h8];simp only[qR];omega⟩
  ·rcases List.mem_cons.1 hx with rfl|hx
   ·exact e2
   ·exact h9 x hx
  ·rw[e1,hag];exact hval
theorem Maf {t:Nat}:∀ {ms:List Nat} {j:Nat} {A B:Fin},(Jad t j ms A).eval σ=some B->FLe A B
 | [], j, A, B, h => by
  simp only[Jad,aH,Option.some.injEq]at h
  subst h
  exact .refl _
 | d :: ms, j, A, B, h => by
  simp only[Jad,aC,aX,Sb6]at h
  split at h
  case h_2=>cases h
  rename_i r hk
  simp only[aC,aX,Sb6]at h
  split at h
  case h_2=>cases h
  rename_i x m ver hkr
  simp only[aC,Sbt]at h
  obtain⟨_,-,h⟩:=h
  have h0:FLe A { A with xs:=A.xs++[x],own:=A.own++[(r,2*j+1,d)] }:=⟨⟨_,rfl⟩,fun _ h=>Sbz _ h,fun _ h=>h,⟨[],by simp⟩,fun _ h=>h⟩
  exact h0.trans (Maf h)
theorem Oa6 (hR:R E.ntmps F σ ρ a w G)(hG:Dba Z nbx G G'):∀ {ms:List Nat} {j:Nat} {A B:Fin},(Jad E.ntmps j ms A).eval σ=some B->FLe B Z ->
  Bbn G'.own w (Z.xs.map (·.val ρ)) F.gh A.xs.length j ms/\B.xs.length=A.xs.length+ms.length/\B.q=A.q
 | [], j, A, B, h, _ => by
  simp only[Jad,aH,Option.some.injEq]at h
  subst h
  exact⟨trivial,rfl,rfl⟩
 | d :: ms, j, A, B, h, hZ => by
  simp only[Jad,aC,aX,Sb6]at h
  split at h
  case h_2=>cases h
  rename_i r hk
  simp only[aC,aX,Sb6]at h
  split at h
  case h_2=>cases h
  rename_i x m ver hkr
  simp only[aC,Sbt,aP]at h
  obtain⟨_,h0,h⟩:=h
  split at h0
  case isFalse=>cases h0
  rename_i hb
  simp only[Ubf]at hb
  have hv:aD σ ρ G w (.ex r) _:=hR.slot hk rfl
  have e:Eaq E.ntmps a F.gh (E.ntmps+j)=F.gh j:=by
   unfold Eaq
   rw[if_neg (by omega),Tb4]
  rw[e]at hv
  simp only[aD]at hv
  have hC:=(Maf h).trans hZ
  obtain⟨h1,h2,h3⟩:=Oa6 hR hG h hZ
  simp only[List.length_append,List.length_singleton]at h1 h2
  refine⟨⟨?_,h1⟩,by rw[h2];simp;omega,h3⟩
  rw[hC.get (l:=A.xs) rfl,hv.1]
  have hr:=hR.root hkr
  simp only[dJ]at hr
  exact hr.give hG (hC.own _ (Sb2 _ (List.mem_singleton.2 rfl))) hb
theorem zO {t:Nat}:∀ {bs:List (Bool×List (BS×BO))} {b:Nat} {A B:Fin},(wE t A b bs).eval σ=some B->FLe A B
 | [], b, A, B, h => by
  simp only[wE,aH,Option.some.injEq]at h
  subst h
  exact .refl _
 | (ro, cs) :: bs, b, A, B, h => by
  simp only[wE]at h
  cases ro with
  |true=>exact zO h
  | false =>
   simp only[cond_false,aC,aX,Sb6]at h
   split at h
   ·simp only[aC,aX,Sb6,Sbt]at h
    obtain⟨_,-,h⟩:=h
    split at h
    ·simp only[aC,Sbt]at h
     obtain⟨C,h1,h2⟩:=h
     exact (zN h1).trans (zO h2)
    ·cases h
   ·cases h
theorem Bat (hR:R E.ntmps F σ ρ a w G)(hG:Dba Z nbx G G'){nm:Nat}{bx:Nat->Addr}{nb:Nat}(hgh:∀ b,b<nb->F.gh (nm+b)=.pointer (some (bx b))):∀ {bs:List (Bool×List (BS×BO))} {b:Nat} {A B:Fin},b+bs.length<=nb->(wE (E.ntmps+nm) A b bs).eval σ=some B->FLe B Z ->
  qK G'.own w (Z.xs.map (·.val ρ)) bx b A.xs.length A.q bs
 |[],b,A,B,_,h,_=>trivial
 | (ro, cs) :: bs, b, A, B, hnb, h, hZ => by
  simp only[Sbw]at hnb
  simp only[wE]at h
  cases ro with
  | true =>
   simp only[qK,if_true]
   exact Bat hR hG hgh (by omega) h hZ
  | false =>
   simp only[qK,Sbv,if_false]
   simp only[cond_false,aC,aX,Sb6]at h
   split at h
   case h_2=>cases h
   rename_i b' hk
   simp only[aC,aX,Sb6,Sbt,aP]at h
   obtain⟨_,h0,h⟩:=h
   split at h0
   case isFalse=>cases h0
   rename_i hb
   simp only[Tbv]at hb
   subst hb
   split at h
   case h_2=>cases h
   rename_i ls hkb
   simp only[aC,Sbt]at h
   obtain⟨C,h1,h2⟩:=h
   have hv:aD σ ρ G w (.px b' 0) _:=hR.slot hk rfl
   have e:Eaq E.ntmps a F.gh (E.ntmps+nm+b')=F.gh (nm+b'):=by
    unfold Eaq
    rw[if_neg (by omega)]
    congr 1
    omega
   rw[e,hgh b' (by omega)]at hv
   simp only[aD]at hv
   have hbx:bx b'=G.bx b':=by
    have:=hv.1
    injection this with this
    injection this
   obtain⟨h5,h6,h7⟩:=hR.box hkb
   obtain⟨h8,h9,h10⟩:=Bas hR hG (ad:=G.bx b') (off:=0) h1 ((zO h2).trans hZ) fun j l hj=>by rw[Tbt];exact h7 j l hj
   have h11:=Bat hR hG hgh (b:=b'+1) (by omega) h2 hZ
   rw[h9,h10,Sb5]at h11
   rw[hbx]
   exact⟨h8,h11⟩
end
theorem Ga0:∀ {l:List (Nat×Nat×Nat)} {r t m:Nat},distinct (l.map (·.1))=true->(r,t,m)∈l->l.find? (fun z=>Nat.beq z.1 r)=some (r,t,m)
 |[],r,t,m,_,h=>by simp at h
 | (r', t', m') :: l, r, t, m, hd, h => by
  simp only[Tbn,distinct,Sbu,Tbm]at hd
  rcases List.mem_cons.1 h with h1|h1
  ·obtain⟨rfl,rfl,rfl⟩:r=r'/\t=t'/\m=m':=by simpa using h1
   simp
  ·have hne:Nat.beq r' r=false:=by
    cases e:Nat.beq r' r with
    |false=>rfl
    | true =>
     simp only[Tbv]at e
     subst e
     have:has (l.map (·.1)) r'=true:=rC.2 (List.mem_map.2 ⟨_,h1,rfl⟩)
     rw[hd.1]at this
     cases this
   rw[List.find?_cons_of_neg (by simp[hne])]
   exact Ga0 hd.2 h1
def Qa9 (Z:Fin)(nbx:Nat)(G:Gh):Gh:={ G with own:=fun b=>match G.own b with
 | .slc r p => (match Z.own.find? (fun z => Nat.beq z.1 r) with
  |some (_,t,m)=>if p.length<m then .slc t p else .frz
  |none=>if r∈Z.frz then .frz else .oth)
 |.box β=>if β<nbx then .box β else if β∈Z.bxs then .box nbx else .oth
 |o=>o }
theorem Hbz {Z:Fin}{nbx:Nat}{G:Gh}(hd:distinct (Z.own.map (·.1))=true)(hm:meets (Z.own.map (·.1)) Z.frz=false)(hb:(Z.bxs.any fun b=>Nat.blt b nbx)=false):Dba Z nbx G (Qa9 Z nbx G):=by
 refine⟨fun b hb=>by simp only[Qa9,hb],fun r t m hz b p hb=>?_,fun r hr b p hb=>?_,fun β hβ b hbb=>?_⟩
 ·simp only[Qa9,hb,Ga0 hd hz]
 ·have:Z.own.find? (fun z=>Nat.beq z.1 r)=none:=by
   rw[List.find?_eq_none]
   intro z hz e
   simp only[Tbv]at e
   exact uV hm (List.mem_map.2 ⟨z,hz,rfl⟩) (by rw[e];exact hr)
  simp only[Qa9,hb,this,if_pos hr]
 ·rw[Vbw]at hb
  have:=hb β hβ
  simp only[Ube]at this
  simp only[Qa9,hbb,if_neg this,if_pos hβ]
section
variable {P:Program} {E:Env} {F:cB} {ρ:List D} {cf:Nat->List D->Option (List D)}
theorem Cbn (hti:Aaj P E.ti){s:Sig}{rvars:List ResultVar}{st:St}{t:Tm St}(h:finish E s rvars st=some t){o:Out St}(ho:Ec cf t ρ=some o)(hl:ρ.length=st.nv)(hi:Nad E st) :
  o.kind=.ret/\∀ a w G (fn:Func) (bx:Nat->Addr),fn.results.toList=rvars->(∀ b,b<s.boxes.length->F.gh ((fZ (s.params.flatMap (·.2))).length+b)=.pointer (some (bx b))) ->
   (∀ b j,b<F.w0.heap.size->F.own0 b=.box j->j<s.boxes.length)->R E.ntmps F st.get ρ a w G ->
   ∃ v,(results fn a.tmps).run P w=.ok v w/\Ra3 s F bx v w o.vals:=by
 unfold finish at h
 split at h
 case h_2=>cases h
 rename_i Z hZ
 generalize hb:(distinct (Z.own.map (·.1))&&!(meets (Z.own.map (·.1)) Z.frz)&&!(Z.bxs.any fun b=>Nat.blt b s.boxes.length)&&gU st.nv Z.lets)=b at h
 cases b with
 |false=>cases h
 | true =>
  rw[cond_true]at h
  obtain rfl:=Option.some.inj h
  simp only[Sbu,Tbm]at hb
  obtain⟨⟨⟨hb1,hb2⟩,hb3⟩,hb4⟩:=hb
  obtain⟨ds,h4,h5,h6⟩:=Aap (g:=none) rfl (by rw[hl];exact hb4) ho
  rw[jB]at h5
  obtain rfl:=Option.some.inj h5
  refine⟨rfl,fun a w G fn bx hfn hgh hbox hR=>?_⟩
  have hst:=h6 []
  rw[Tbb,hl]at hst
  have hR:=hR.ext hi.sc (by omega) ds
  have hG:=Hbz (G:=G) hb1 hb2 hb3
  simp only[Lbq,aC,Sbt]at hZ
  obtain⟨A,h7,B,h8,h9⟩:=hZ
  have hB:=zO h9
  have hA:=(Maf h8).trans hB
  obtain⟨h10,h11,h12,h13⟩:=Iab (cf:=cf) hti hR hst hG h7 hA
  obtain⟨h14,h15,h16⟩:=Oa6 hR hG h8 hB
  have h17:=Bat hR hG hgh (b:=0) (by omega) h9 (.refl _)
  simp only[Sbx,Tbt]at h11 h12 h13
  rw[h12]at h14 h15
  rw[h15,h16,h13]at h17
  refine⟨Ia1 (fn.results.toList.map (Ia2 P a.tmps w)),?_,Qa9 Z s.boxes.length G,_,by rw[hfn],?_,h11,h14,h17⟩
  ·have hm:(fn.results.mapM (Lbp a.tmps)).run P w=.ok (fn.results.map (Ia2 P a.tmps w)) w:=Daf _ _ _ (by rw[hfn];exact h10)
   have e:results fn a.tmps=(do let vs <- fn.results.mapM (Lbp a.tmps);pure (if h:vs.size=1 then vs[0] else Value.tuple vs)):=rfl
   rw[e,Sem.run_bind,hm]
   simp only[Result.andThen_ok,Sem.run_pure]
   rw[Db3,Array.toList_map]
  ·refine⟨hR.frame.os,hR.frame.tape,hR.frame.output,hR.frame.size,fun b hb ho=>?_,fun b j hb ho=>?_,fun b hb=>?_⟩
   ·obtain⟨h18,h19⟩:=hR.frame.keep b hb ho
    refine⟨h18,?_⟩
    rcases ho with ho|ho<;>rw[ho]at h19 ⊢<;>simp only[Qa9,h19]
   ·obtain⟨h18,h19⟩:=hR.frame.boxes b j hb ho
    refine⟨?_,h19⟩
    simp only[Qa9,h18,if_pos (hbox b j hb ho)]
   ·simp only[Qa9,hR.frame.fresh b hb]
end
end Go.Proofs.YtpgnlmfmlffjcaaGreat.Rf

namespace Go.Proofs.YtpgnlmfmlffjcaaGreat.Rf
set_option linter.unusedVariables false
set_option linter.unusedSimpArgs false
def Goes (P:Program)(f:Nat)(args:Array Value)(w:World)(K:Value->World->Prop):Prop :=
 ((callFunc f args).run P w=.ok (.enter f args) w/\Calls P f args w fun
  |.returned v,w'=>K v w'
  |_,_=>False)\/∃ v w',(callFunc f args).run P w=.ok (.value v) w'/\K v w'
def qM (P:Program)(T:Nat->Ent)(n key:Nat)(s:Sig):Prop :=
 ∀ vals w G ds ds',Gbq s vals w G ds->mX T n key ds=some ds'->Goes P s.fn vals.toArray w fun v w'=>Ra3 s (vK s G w) G.bx v w' ds'
def Hah (P:Program)(X:(Nat->Ow)->World->Prop)(T:Nat->Ent)(n key:Nat)(s:Sig):Prop :=
 ∀ vals w G ds ds',Gbq s vals w G ds->X G.own w->mX T n key ds=some ds'->Goes P s.fn vals.toArray w fun v w'=>Ra3 s (vK s G w) G.bx v w' ds'
def Stable (X:(Nat->Ow)->World->Prop):Prop :=
 ∀ (own0:Nat->Ow) (w0:World) (own:Nat->Ow) (w:World),w0.heap.size<=w.heap.size->(∀ b,b<w0.heap.size->own0 b=.frz->w.heap[b]?=w0.heap[b]?/\own b=.frz)->X own0 w0->X own w
theorem jF {P : Program} {f : FuncId} {fn : Func} {c : Code} (hf : P.funcs[f]? = some fn) (hname : (fn.name == "runtime.NumGoroutine") = false) (hb : fn.body = some c) (args : Array Value) (w : World) :
  (callFunc f args).run P w=.ok (.enter f args) w:=by
 have h1 : fn.name ≠ "runtime.NumGoroutine" := by simpa using hname
 simp[callFunc,hf,h1,hb]
theorem Ebn:∀ (ss:List LS) (r:Nat),(gW r ss).length=(fZ ss).length
 |[],r=>rfl
 | s :: ss, r => by
  cases s<;>simp[gW,fZ,Ebn ss]
theorem Ta4:∀ (n a j:Nat),j<n->(range a n)[j]?=some (a+j)
 |0,a,j,h=>by omega
 |n+1,a,0,h=>rfl
 | n + 1, a, j + 1, h => by
  simp only[range,Tb9]
  rw[Ta4 n (a+1) j (by omega)]
  congr 1
  omega
theorem Gbe {s:Sig}{G:Gh}{w:World}{b:Nat}(h:b<s.boxes.length):(vK s G w).gh ((fZ (s.params.flatMap (·.2))).length+b)=.pointer (some (G.bx b)):=by
 simp only[vK,La4,Sb4]
 rw[Tbf (by simp[Ebn]),Sb5,Ebn,Tb4,Tbo,Ta4 _ _ _ h]
 simp
theorem Qa2 {P : Program} {X : (Nat -> Ow) -> World -> Prop} {E : Env} {T : Nat -> Ent} {n key : Nat} {s : Sig} {fn : Func} {tm : Tm Unit} (hti : Aaj P E.ti) (hm : P.follows .mixedOrders = true) (hfn : P.funcs[s.fn]? = some fn) (hname : (fn.name == "runtime.NumGoroutine") = false)
  (hx:Bbz E s fn=some tm) (hT:T key=.tm tm) (hcalls:∀ F,X F.own0 F.w0->Eap P { E with ntmps:=fn.ntmps,ngh:=sU s } F (mX T n)):Hah P X T (n+1) key s:=by
 intro vals w G ds ds' hpre hX hrun
 simp only[mX,hT,Sbt]at hrun
 obtain⟨o,hrun,hret⟩:=hrun
 unfold Mbv at hret
 split at hret
 case isFalse=>cases hret
 rename_i hk
 obtain rfl:=Option.some.inj hret
 unfold Bbz at hx
 split at hx
 case h_1=>cases hx
 rename_i c hbody
 cases hle:Nat.ble s.params.length fn.ntmps with
 |false=>rw[hle]at hx;cases hx
 | true =>
  rw[hle]at hx
  simp only[Bool.not_true,cond_false,bind,Sbt,Option.some.injEq]at hx
  obtain⟨tc,htc,t,ht,rfl⟩:=hx
  simp only[Ubf]at hle
  rw[Bb9,Option.map_eq_some_iff]at hrun
  obtain⟨o0,hrun,rfl⟩:=hrun
  have hev:Ec (mX T n) t ds=some o0:=Naf.2 ⟨n,hrun⟩
  obtain⟨o1,h1,h2⟩:=pK (fun st r hr ρ o ho=>by
   split at hr
   ·rename_i t' hf
    obtain rfl:=Option.some.inj hr
    unfold finish at hf
    split at hf
    case h_2=>cases hf
    rename_i Z hZ
    revert hf
    generalize (distinct (Z.own.map (·.1))&&!(meets (Z.own.map (·.1)) Z.frz)&&!(Z.bxs.any fun b=>Nat.blt b s.boxes.length)&&gU st.nv Z.lets)=b
    intro hf
    cases b with
    |false=>cases hf
    | true =>
     rw[cond_true]at hf
     obtain rfl:=Option.some.inj hf
     exact qV ho
   ·obtain rfl:=Option.some.inj hr
    rw[lY]at ho;cases ho) rfl (fun _=>rfl) ht hev
  rcases h2 with ⟨h2,h3,r,h4,h5⟩|⟨h2,h3⟩
  case inr =>
   subst h3
   have hk':o0.kind=.ret:=hk
   rw[hk']at h2
   cases h2
  unfold Ib3 at htc
  dsimp only at htc
  generalize hwf:Kal (entry s fn.ntmps) (entry s fn.ntmps).nr _=b at htc
  cases b with
  |false=>simp[nO]at htc
  | true =>
   rw[cond_true]at htc
   have hinv:Nad { E with ntmps:=fn.ntmps,ngh:=sU s } (entry s fn.ntmps):=Fbo hwf rfl
   obtain⟨hlen,hR⟩:=Nbh (n:=fn.ntmps) hpre hle
   have hds:ds.length=(entry s fn.ntmps).nv:=by rw[(Iae s fn.ntmps).1];exact hpre.len
   obtain⟨hp,hw⟩:=wJ (E:={ E with ntmps:=fn.ntmps,ngh:=sU s }) (F:=vK s G w) hti (hcalls _ hX) hm c htc h1 hds hinv
   refine .inl ⟨jF hfn hname hbody _ _,?_⟩
   refine calls_of_wp hfn hbody ?_
   rw[show vals.toArray.size=vals.length by simp]
   refine hw _ w G _ hR fun a' w' G' hR'=>?_
   split at h4
   case h_2 =>
    obtain rfl:=Option.some.inj h4
    rw[lY]at h5;cases h5
   rename_i t' hf
   obtain rfl:=Option.some.inj h4
   obtain⟨h6,h7⟩:=Cbn (E:={ E with ntmps:=fn.ntmps,ngh:=sU s }) (F:=vK s G w) hti hf h5 hp.len hp.inv
   obtain⟨v,h8,h9⟩:=h7 a' w' G' fn G.bx rfl (fun b hb=>Gbe hb) (fun b j hb ho=>(hpre.cells b j hb ho).1) hR'
   have hd:=hR'.defers
   revert h2
   cases o1.kind with
   |fall=>exact fun _=>⟨hd,v,h8,h9⟩
   |ret=>exact fun _=>⟨hd,v,h8,h9⟩
   |exit i=>intro h;cases h
   |cont=>intro h;cases h
   |yield i=>intro h;cases h
end Go.Proofs.YtpgnlmfmlffjcaaGreat.Rf

namespace Go.Proofs.YtpgnlmfmlffjcaaGreat.Rf
set_option linter.unusedVariables false
set_option linter.unusedSimpArgs false
def strip:List Nat->List Nat->Option (List Nat)
 |[],p=>some p
 |a::q,b::p=>if a=b then strip q p else none
 |_::_,[]=>none
theorem Iay:∀ (q t:List Nat),strip q (q++t)=some t
 |[],t=>rfl
 |a::q,t=>by simp[strip,Iay q t]
theorem Oae:∀ {q p t:List Nat},strip q p=some t->p=q++t
 |[],p,t,h=>by simpa[strip] using h
 |a::q,[],t,h=>by simp[strip]at h
 | a :: q, b :: p, t, h => by
  simp only[strip]at h
  split at h
  ·rename_i e
   rw[e,Oae h];rfl
  ·cases h
def Ebk (w:World):Value->List Nat->Value
 |v,[]=>v
 |.slice (some a) _ _,k::p=>Ebk w ((w.cell? (a.add k)).getD undef) p
 |_,_::_=>undef
theorem Hau {own:Nat->Ow}{w:World}{r:Nat}:∀ {p q:List Nat} {v u:Value},Eas own w r q v p u->Ebk w v p=u
 |[],q,v,u,h=>by simp only[Eas]at h;rw[h];cases v<;>rfl
 | k :: p, q, v, u, h => by
  obtain⟨a,n,c,u',rfl,-,h2,h3⟩:=h
  simp only[Ebk,h2,Ub1]
  exact Hau h3
section
variable (ρ:List D) (dr:List Nat)
def qX:Nat->List RT->Nat->List Nat->Ow
 |_,[],r,_=>if r∈dr then .frz else .oth
 |ν,.nil::t,r,p=>qX (ν+1) t r p
 |ν,.own s d::t,r,p=>if r=s then (if p.length<d then .slc ν p else .frz) else qX (ν+1) t r p
 |ν,.mu s d q _::t,r,p=>if r=s then (match strip (bM ρ q) p with | some t'=>if t'.length<d then .slc ν t' else .frz | none=>.oth) else qX (ν+1) t r p
end
def War (ptrs:List (Nat×Nat×Nat))(c:Nat):Nat->List (Bool×List (BS×BO))->Option Nat
 |_,[]=>none
 | b, (ro, _) :: r => if ro = true then War ptrs c (b + 1) r else match uS b ptrs with
  |some (c',_)=>if c'=c then some b else War ptrs c (b+1) r
  |none=>War ptrs c (b+1) r
def Ob5 (ρ:List D)(G:Gh)(w:World):RT->Value
 |.nil=>.slice none 0 0
 |.own r _=>G.hdr r
 |.mu r _ q _=>Ebk w (G.hdr r) (bM ρ q)
def callG (ρ:List D)(G:Gh)(w:World)(s:Sig)(Z:Take):Gh:={
 own:=fun b=>match G.own b with
  |.slc r p=>qX ρ (Z.deps.map (·.1)) 0 Z.rts r p
  | .box c => (match War Z.ptrs c 0 s.boxes with
   |some j=>if b=(G.bx c).block then .box j else .oth
   |none=>.oth)
  |o=>o
 hdr:=fun ν=>((Z.rts[ν]?).map (Ob5 ρ G w)).getD undef
 bx:=fun b=>match uS b Z.ptrs with
  |some (c,off)=>(G.bx c).add off
  |none=>⟨0,0,none⟩ }
theorem xC {ρ:List D}{dr:List Nat}{r:Nat}{p:List Nat}:∀ {rts:List RT} {ν:Nat},r∉dS rts->qX ρ dr ν rts r p=if r∈dr then .frz else .oth
 |[],ν,h=>rfl
 |.nil::t,ν,h=>xC (rts:=t) h
 | .own s d :: t, ν, h => by
  simp only[dS,Tb7,not_or]at h
  simp only[qX,if_neg h.1]
  exact xC h.2
 | .mu s d q X :: t, ν, h => by
  simp only[dS,Tb7,not_or]at h
  simp only[qX,if_neg h.1]
  exact xC h.2
theorem yT:∀ {rts:List RT} {ν r:Nat},(∃ d,rts[ν]?=some (.own r d))\/(∃ d q X,rts[ν]?=some (.mu r d q X))->r∈dS rts
 |[],ν,r,h=>by simp at h
 | x :: t, 0, r, h => by
  simp only[Sb8,Option.some.injEq]at h
  rcases h with ⟨d,rfl⟩|⟨d,q,X,rfl⟩<;>exact Tbe
 | x :: t, ν + 1, r, h => by
  have:=yT (rts:=t) (ν:=ν) (r:=r) (by simpa using h)
  cases x with
  |nil=>exact this
  |own s d=>exact Tba _ this
  |mu s d q X=>exact Tba _ this
theorem Fa0 {ρ:List D}{dr:List Nat}{r d:Nat}{p:List Nat}:∀ {rts:List RT} {ν0 ν:Nat},distinct (dS rts)=true->rts[ν]?=some (.own r d)->qX ρ dr ν0 rts r p=if p.length<d then .slc (ν0+ν) p else .frz
 |[],ν0,ν,_,h=>by simp at h
 | x :: t, ν0, 0, hd, h => by
  simp only[Sb8,Option.some.injEq]at h
  subst h
  simp[qX]
 | x :: t, ν0, ν + 1, hd, h => by
  simp only[Tb9]at h
  have hm:=yT (.inl ⟨d,h⟩)
  cases x with
  | nil =>
   simp only[qX]
   rw[Fa0 (rts:=t) hd h,show ν0+1+ν=ν0+(ν+1) by omega]
  | own s d' =>
   simp only[dS,distinct,Sbu,Tbm]at hd
   have hne:r≠s:=fun e=>by rw[e,<- rC,hd.1]at hm;cases hm
   simp only[qX,if_neg hne]
   rw[Fa0 hd.2 h,show ν0+1+ν=ν0+(ν+1) by omega]
  | mu s d' q X =>
   simp only[dS,distinct,Sbu,Tbm]at hd
   have hne:r≠s:=fun e=>by rw[e,<- rC,hd.1]at hm;cases hm
   simp only[qX,if_neg hne]
   rw[Fa0 hd.2 h,show ν0+1+ν=ν0+(ν+1) by omega]
theorem Ja5 {ρ:List D}{dr:List Nat}{r d:Nat}{q:List (aO×Nat×Nat)}{X:aO}{p:List Nat}:∀ {rts:List RT} {ν0 ν:Nat},distinct (dS rts)=true->rts[ν]?=some (.mu r d q X) ->
  qX ρ dr ν0 rts r p=match strip (bM ρ q) p with|some t'=>if t'.length<d then .slc (ν0+ν) t' else .frz|none=>.oth
 |[],ν0,ν,_,h=>by simp at h
 | x :: t, ν0, 0, hd, h => by
  simp only[Sb8,Option.some.injEq]at h
  subst h
  simp[qX]
 | x :: t, ν0, ν + 1, hd, h => by
  simp only[Tb9]at h
  have hm:=yT (.inr ⟨d,q,X,h⟩)
  cases x with
  | nil =>
   simp only[qX]
   rw[Ja5 (rts:=t) hd h,show ν0+1+ν=ν0+(ν+1) by omega]
  | own s d' =>
   simp only[dS,distinct,Sbu,Tbm]at hd
   have hne:r≠s:=fun e=>by rw[e,<- rC,hd.1]at hm;cases hm
   simp only[qX,if_neg hne]
   rw[Ja5 hd.2 h,show ν0+1+ν=ν0+(ν+1) by omega]
  | mu s d' q' X' =>
   simp only[dS,distinct,Sbu,Tbm]at hd
   have hne:r≠s:=fun e=>by rw[e,<- rC,hd.1]at hm;cases hm
   simp only[qX,if_neg hne]
   rw[Ja5 hd.2 h,show ν0+1+ν=ν0+(ν+1) by omega]
structure TLe (A B:Take):Prop where
 xs:∃ l,B.xs=A.xs++l
 ptrs:∀ z∈A.ptrs,z∈B.ptrs
 deps:∀ z∈A.deps,z∈B.deps
 lets:∃ l,B.lets=A.lets++l
 rts:∃ l,B.rts=A.rts++l
theorem TLe.refl (A:Take):TLe A A:=⟨⟨[],by simp⟩,fun _ h=>h,fun _ h=>h,⟨[],by simp⟩,⟨[],by simp⟩⟩
theorem TLe.trans {A B C:Take}(h:TLe A B)(h':TLe B C):TLe A C:=by
 obtain⟨⟨l,h1⟩,h2,h3,⟨m,h4⟩,⟨k,h5⟩⟩:=h
 obtain⟨⟨l',h1'⟩,h2',h3',⟨m',h4'⟩,⟨k',h5'⟩⟩:=h'
 exact⟨⟨l++l',by rw[h1',h1,Sb3]⟩,fun z hz=>h2' z (h2 z hz),fun z hz=>h3' z (h3 z hz),⟨m++m',by rw[h4',h4,Sb3]⟩,⟨k++k',by rw[h5',h5,Sb3]⟩⟩
theorem TLe.get {A B:Take}(h:TLe A B){ρ:List D}{x:aO}{l:List aO}(hx:A.xs=l++[x]):(aO.v l.length).val (B.xs.map (·.val ρ))=x.val ρ:=by
 obtain⟨m,h1⟩:=h.xs
 rw[h1,hx]
 simp only[aO.val,Sb4]
 simp
theorem TLe.rt {A B:Take}(h:TLe A B){x:RT}{l:List RT}(hx:A.rts=l++[x]):B.rts[l.length]?=some x:=by
 obtain⟨m,h1⟩:=h.rts
 rw[h1,hx]
 simp
structure Pak (s:Sig) (Z:Take):Prop where
 ptrs:∀ b c off,(b,c,off)∈Z.ptrs->b<s.boxes.length/\uS b Z.ptrs=some (c,off)
 dist:distinct (dS Z.rts)=true
 deps:∀ z∈Z.deps,z.1∉dS Z.rts
 wr:distinct (kY false Z.ptrs 0 s.boxes)=true
 ro:meets (kY false Z.ptrs 0 s.boxes) (kY true Z.ptrs 0 s.boxes)=false
theorem Lad {nbx:Nat}{ptrs:List (Nat×Nat×Nat)}:∀ {l:List (Nat×Nat×Nat)},Abp nbx ptrs l=true->∀ b c off,(b,c,off)∈l->b<nbx/\uS b ptrs=some (c,off)
 |[],_,b,c,off,h=>by simp at h
 | (b', c', off') :: l, h, b, c, off, hm => by
  simp only[Abp,Sbu,Ube]at h
  rcases List.mem_cons.1 hm with e|hm
  ·obtain⟨rfl,rfl,rfl⟩:b=b'/\c=c'/\off=off':=by simpa using e
   refine⟨h.1.1,?_⟩
   have h2:=h.1.2
   split at h2
   ·rename_i e
    simp only[Sbu,Tbv]at h2
    rw[e,h2.1,h2.2]
   ·cases h2
  ·exact Lad h.2 b c off hm
theorem Va9 {s:Sig}{Z:Take}(h:Dbj s Z=true):Pak s Z:=by
 simp only[Dbj,Sbu,Tbm]at h
 obtain⟨⟨⟨⟨h1,h2⟩,h3⟩,h4⟩,h5⟩:=h
 refine⟨Lad h1,h2,fun z hz hm=>?_,h4,h5⟩
 rw[Vbw]at h3
 exact h3 z hz (rC.2 hm)
section
variable {E:Env} {F:cB} {σ:Nat->Option aW} {ρ:List D} {a:Act} {w:World} {G:Gh} {g:Option (aO×Bool)} {cf:Nat->List D->Option (List D)} {s:Sig} {Z:Take} {nv:Nat}
theorem vJ {b:Nat}(h:G.own b=.frz):(callG ρ G w s Z).own b=.frz:=by simp only[callG,h]
theorem Gbd (hk:Pak s Z){b r k:Nat}{p:List Nat}(hz:(r,k)∈Z.deps)(h:G.own b=.slc r p):(callG ρ G w s Z).own b=.frz:=by
 simp only[callG,h]
 rw[xC (hk.deps _ hz),if_pos (List.mem_map.2 ⟨_,hz,rfl⟩)]
theorem Gbc (hk:Pak s Z){b r d ν:Nat}{p:List Nat}(hz:Z.rts[ν]?=some (.own r d))(h:G.own b=.slc r p):(callG ρ G w s Z).own b=if p.length<d then .slc ν p else .frz:=by
 simp only[callG,h]
 rw[Fa0 hk.dist hz,Tbt]
theorem Rap (hk:Pak s Z){b r d ν:Nat}{q:List (aO×Nat×Nat)}{X:aO}{p:List Nat}(hz:Z.rts[ν]?=some (.mu r d q X))(h:G.own b=.slc r p) :
  (callG ρ G w s Z).own b=match strip (bM ρ q) p with|some t'=>if t'.length<d then .slc ν t' else .frz|none=>.oth:=by
 simp only[callG,h]
 rw[Ja5 hk.dist hz,Tbt]
theorem Ga8 {ν:Nat}{x:RT}(h:Z.rts[ν]?=some x):(callG ρ G w s Z).hdr ν=Ob5 ρ G w x:=by
 simp only[callG,h];rfl
theorem Rd.callG (hk:Pak s Z){deps:List (Nat×Nat)}(hd:∀ z∈deps,z∈Z.deps){v:Value}{d:D}(h:Rd (allow G deps) w v d):Rd (fun b=>(Go.Proofs.YtpgnlmfmlffjcaaGreat.Rf.callG ρ G w s Z).own b=.frz) w v d:=by
 refine h.mono fun b hb=>⟨?_,rfl⟩
 rcases hb with hb|⟨r,k,p,hm,hb⟩
 ·exact vJ hb
 ·exact Gbd hk (hd _ hm) hb
theorem Bbu (hg:gOn ρ g=true){A B:Take}{l:aZ}(h:(Saf g A l).eval σ=some B){v:Value}(hl:aD σ ρ G w l v) :
  ∃ x,B={ A with xs:=A.xs++[x] }/\Sc v (x.val ρ):=by
 simp only[Saf,aC,Sbt,bF,aH,Option.some.injEq]at h
 obtain⟨x,h1,rfl⟩:=h
 exact⟨x,rfl,nE hg h1 hl⟩
theorem Saj {A B:Take}{nie:Bool}{l:aZ}(h:(wS A nie l).eval σ=some B):TLe A B:=by
 simp only[wS,aC,Sbt,aH,Option.some.injEq]at h
 obtain⟨s,h1,rfl⟩:=h
 exact⟨⟨_,rfl⟩,fun _ h=>h,fun _ h=>Sbz _ h,⟨_,rfl⟩,⟨[],by simp⟩⟩
theorem Na9 (hR:R E.ntmps F σ ρ a w G)(hg:gOn ρ g=true)(hst:aR cf ρ g nv Z.lets)(hk:Pak s Z){A B:Take}{nie:Bool}{l:aZ}(h:(wS A nie l).eval σ=some B)(hZ:TLe B Z){v:Value}(hl:aD σ ρ G w l v) :
  Rd (fun b=>(callG ρ G w s Z).own b=.frz) w v ((aO.v A.xs.length).val (Z.xs.map (·.val ρ)))/\(nie=true->∀ z,(aO.v A.xs.length).val (Z.xs.map (·.val ρ))=.rows z []->v=.slice none 0 0) /\
  B.xs.length=A.xs.length+1/\B.rts=A.rts:=by
 simp only[wS,aC,Sbt,aH,Option.some.injEq]at h
 obtain⟨sl,h1,rfl⟩:=h
 have hs:=fV hR h1 hl
 rw[hZ.get (l:=A.xs) rfl]
 refine⟨hs.rd.callG hk fun z hz=>hZ.deps _ (Sb2 _ hz),fun hn z hz=>?_,by simp,rfl⟩
 cases hsn:sl.nie with
 |true=>exact hs.nie hsn z hz
 | false =>
  exfalso
  obtain⟨lr,hlr⟩:=hZ.lets
  dsimp only at hlr
  rw[hlr,hn,hsn]at hst
  simp only[Bool.not_false,Bool.and_self,cond_true]at hst
  rw[Sb3]at hst
  have hst2:=(aR.append (aR.append hst).2).1
  obtain⟨ds,h2,-,-⟩:=step1 hst2 hg
  simp only[Tbn,Tbw,hz,aN.run]at h2
  simp at h2
theorem Sag {A B:Take}{d:Nat}{l:aZ}(h:(Aab A d l).eval σ=some B):TLe A B:=by
 unfold Aab at h
 split at h
 ·simp only[aC,aX,Sb6]at h
  split at h
  ·simp only[aC,aP,Sbt,aH,Option.some.injEq]at h
   obtain⟨_,-,rfl⟩:=h
   exact⟨⟨_,rfl⟩,fun _ h=>h,fun _ h=>h,⟨[],by simp⟩,⟨_,rfl⟩⟩
  ·cases h
 ·simp only[aH,Option.some.injEq]at h
  subst h
  exact⟨⟨_,rfl⟩,fun _ h=>h,fun _ h=>h,⟨[],by simp⟩,⟨_,rfl⟩⟩
 ·cases h
theorem Na6 (hR:R E.ntmps F σ ρ a w G)(hk:Pak s Z){A B:Take}{d:Nat}{l:aZ}(h:(Aab A d l).eval σ=some B)(hZ:TLe B Z){v:Value}(hl:aD σ ρ G w l v) :
  v=(callG ρ G w s Z).hdr A.rts.length/\Rp (callG ρ G w s Z).own w A.rts.length [] d v ((aO.v A.xs.length).val (Z.xs.map (·.val ρ)))/\B.xs.length=A.xs.length+1/\B.rts.length=A.rts.length+1:=by
 unfold Aab at h
 split at h
 ·rename_i r
  simp only[aC,aX,Sb6]at h
  split at h
  ·rename_i x m ver hkr
   simp only[aC,aP,Sbt,aH,Option.some.injEq]at h
   obtain⟨_,h1,rfl⟩:=h
   split at h1
   case isFalse=>cases h1
   rename_i hb
   simp only[Ubf]at hb
   simp only[aD]at hl
   have hrt:=hZ.rt (l:=A.rts) rfl
   rw[hZ.get (l:=A.xs) rfl]
   refine⟨by rw[Ga8 hrt];exact hl.1,?_,by simp,by simp⟩
   rw[hl.1]
   have hr:=hR.root hkr
   simp only[dJ]at hr
   exact hr.move (fun b hb _=>⟨vJ hb,rfl⟩) [] d hb fun b t hb=>⟨by rw[Gbc hk hrt hb];rfl,rfl⟩
  ·cases h
 ·rename_i nie z
  simp only[aH,Option.some.injEq]at h
  subst h
  simp only[aD]at hl
  have hv:=(hl.2 (by simp)).2.1 trivial z rfl
  have hrt:=hZ.rt (l:=A.rts) rfl
  rw[hZ.get (l:=A.xs) rfl]
  refine⟨by rw[Ga8 hrt];exact hv,?_,by simp,by simp⟩
  rw[hv]
  cases d with
  |zero=>exact .fz (.rows none ⟨0,0,none⟩ 0 0 z [] (fun _ _=>undef) rfl (Sb7 _) (.inl rfl) (by simp) (by simp) (by simp))
  |succ m=>exact .sl none ⟨0,0,none⟩ 0 0 z [] (fun _ _=>undef) rfl (Sb7 _) (.inr ⟨rfl,rfl⟩) (by simp) (fun e=>by cases e) (by simp) (by simp)
 ·cases h
theorem Dbk {A B:Take}{d:Nat}{l:aZ}(h:(Na8 A d l).eval σ=some B):TLe A B:=by
 simp only[Na8,aC,Sbt]at h
 obtain⟨sl,h1,h⟩:=h
 split at h
 ·simp only[aC,aP,aX,Sb6,Sbt]at h
  obtain⟨_,-,h⟩:=h
  split at h
  ·simp only[aH,Option.some.injEq]at h
   subst h
   exact⟨⟨_,rfl⟩,fun _ h=>h,fun _ h=>h,⟨[],by simp⟩,⟨_,rfl⟩⟩
  ·cases h
 ·cases h
theorem Bbx (hR:R E.ntmps F σ ρ a w G)(hk:Pak s Z){A B:Take}{d:Nat}{l:aZ}(h:(Na8 A d l).eval σ=some B)(hZ:TLe B Z){v:Value}(hl:aD σ ρ G w l v) :
  v=(callG ρ G w s Z).hdr A.rts.length/\Rp (callG ρ G w s Z).own w A.rts.length [] d v ((aO.v A.xs.length).val (Z.xs.map (·.val ρ)))/\B.xs.length=A.xs.length+1/\B.rts.length=A.rts.length+1:=by
 simp only[Na8,aC,Sbt]at h
 obtain⟨sl,h1,h⟩:=h
 have hs:=fV hR h1 hl
 split at h
 case h_2=>cases h
 rename_i r k m q ho
 simp only[aC,aP,aX,Sb6,Sbt]at h
 obtain⟨_,h2,h⟩:=h
 split at h2
 case isFalse=>cases h2
 rename_i hb
 simp only[Ubf]at hb
 split at h
 case h_2=>cases h
 rename_i X m' v' hkr
 simp only[aH,Option.some.injEq]at h
 subst h
 have hown:=hs.own
 unfold Aak at hown
 rw[ho]at hown
 obtain⟨h3,h4,h5,h6,h7⟩:=hown
 have hrt:=hZ.rt (l:=A.rts) rfl
 rw[hZ.get (l:=A.xs) rfl]
 refine⟨by rw[Ga8 hrt];exact (Hau h7).symm,?_,by simp,by simp⟩
 refine h6.move (fun b hb _=>⟨vJ hb,rfl⟩) [] d (by omega) fun b t hb=>⟨?_,rfl⟩
 rw[Rap hk hrt hb,Iay]
 rfl
theorem Dbi {A B:Take}{z:Nat}{l:aZ}(h:(Kaq A z l).eval σ=some B):TLe A B:=by
 unfold Kaq at h
 split at h
 ·simp only[aC,Sbt,aH,Option.some.injEq]at h
  obtain⟨_,-,rfl⟩:=h
  exact⟨⟨_,rfl⟩,fun _ h=>h,fun _ h=>Sbz _ h,⟨[],by simp⟩,⟨[],by simp⟩⟩
 ·simp only[aH,Option.some.injEq]at h
  subst h
  exact⟨⟨_,rfl⟩,fun _ h=>h,fun _ h=>h,⟨[],by simp⟩,⟨[],by simp⟩⟩
 ·cases h
theorem Bbv (hR:R E.ntmps F σ ρ a w G)(hk:Pak s Z){A B:Take}{z:Nat}{l:aZ}(h:(Kaq A z l).eval σ=some B)(hZ:TLe B Z){v:Value}(hl:aD σ ρ G w l v) :
  v.oneCell'=true/\Gbk (fun b=>(callG ρ G w s Z).own b=.frz) w v ((aO.v A.xs.length).val (Z.xs.map (·.val ρ)))/\B.xs.length=A.xs.length+1/\B.rts=A.rts:=by
 unfold Kaq at h
 split at h
 ·rename_i deps sz' x
  simp only[aC,Sbt,aH,Option.some.injEq]at h
  obtain⟨ds,h1,rfl⟩:=h
  simp only[aD]at hl
  obtain⟨h3,h4,h5⟩:=lN h1
  rw[hZ.get (l:=A.xs) rfl]
  refine⟨hl.1.1,?_,by simp,rfl⟩
  rcases hl.2 h3 with h6|⟨ad,row,h6,h7,h8⟩
  ·exact .inl h6
  ·exact .inr ⟨ad,row,h6,h7,(h8.drop hR h5).callG hk fun z hz=>hZ.deps _ (Sb2 _ hz)⟩
 ·simp only[aH,Option.some.injEq]at h
  subst h
  simp only[aD]at hl
  rw[hZ.get (l:=A.xs) rfl]
  exact⟨by rw[hl];rfl,.inl ⟨hl,_,rfl⟩,by simp,rfl⟩
 ·cases h
theorem Vam (hk:Pak s Z){b c off:Nat}(h:(b,c,off)∈Z.ptrs):(callG ρ G w s Z).bx b=(G.bx c).add off/\b<s.boxes.length:=by
 obtain⟨h1,h2⟩:=hk.ptrs b c off h
 refine⟨?_,h1⟩
 simp only[callG,h2]
theorem Ga7:∀ {cs:List LS} {ls:List aZ} {acc l:List (Nat×Nat×Nat)},mW cs ls acc=some l->∀ z∈acc,z∈l
 | [], [], acc, l, h, z, hz => by
  simp only[mW,Option.some.injEq]at h
  rw[<- h];exact hz
 |[],_::_,acc,l,h,z,hz=>by simp[mW]at h
 |c::cs,[],acc,l,h,z,hz=>by cases c<;>simp[mW]at h
 | c :: cs, x :: ls, acc, l, h, z, hz => by
  cases c<;>cases x<;>simp only[mW,reduceCtorEq]at h
  exact Ga7 h z (Tba _ hz)
theorem Ga6 (hk:Pak s Z):∀ {cs:List LS} {ls:List aZ} {acc l:List (Nat×Nat×Nat)},mW cs ls acc=some l->(∀ z∈l,z∈Z.ptrs)->∀ {vs:List Value},aK σ ρ G w ls vs->Ba7 (callG ρ G w s Z) s.boxes.length cs vs
 |[],[],acc,l,h,_,vs,hl=>by simpa[Ba7,aK] using hl
 |[],_::_,acc,l,h,_,_,_=>by simp[mW]at h
 |c::cs,[],acc,l,h,_,_,_=>by cases c<;>simp[mW]at h
 | c :: cs, x :: ls, acc, l, h, hz, vs, hl => by
  cases c<;>cases x<;>simp only[mW,reduceCtorEq]at h
  rename_i b c off
  simp only[aK]at hl
  obtain⟨u,us,rfl,h1,h2⟩:=hl
  obtain⟨h3,h4⟩:=Vam (ρ:=ρ) (G:=G) (w:=w) hk (hz _ (Ga7 h _ Tbe))
  simp only[aD]at h1
  exact⟨u,us,rfl,⟨by rw[h3];exact h1.1,h4⟩,Ga6 hk h hz h2⟩
theorem Waa {A B:Take}{t:LS}{l:aZ}(h:(yM g A t l).eval σ=some B):TLe A B:=by
 unfold yM at h
 split at h
 ·simp only[Saf,aC,Sbt,aH,Option.some.injEq]at h
  obtain⟨x,-,rfl⟩:=h
  exact⟨⟨_,rfl⟩,fun _ h=>h,fun _ h=>h,⟨[],by simp⟩,⟨[],by simp⟩⟩
 ·exact Saj h
 ·exact Dbk h
 ·exact Sag h
 ·simp only[aH,Option.some.injEq]at h
  subst h
  exact⟨⟨[],by simp⟩,fun _ h=>Sbz _ h,fun _ h=>h,⟨[],by simp⟩,⟨[],by simp⟩⟩
 ·split at h
  ·rw[jW]at h
   split at h
   ·simp only[aH,Option.some.injEq]at h
    subst h
    exact⟨⟨[],by simp⟩,fun _ h=>Sbz _ h,fun _ h=>h,⟨[],by simp⟩,⟨[],by simp⟩⟩
   ·cases h
  ·cases h
 ·exact Dbi h
 ·cases h
theorem Sah (hR:R E.ntmps F σ ρ a w G)(hg:gOn ρ g=true)(hst:aR cf ρ g nv Z.lets)(hk:Pak s Z){A B:Take}{t:LS}{l:aZ}(h:(yM g A t l).eval σ=some B)(hZ:TLe B Z){v:Value}(hl:aD σ ρ G w l v) :
  oO (callG ρ G w s Z) w (Z.xs.map (·.val ρ)) s.boxes.length A.xs.length A.rts.length t v/\B.xs.length=A.xs.length+t.cnt/\B.rts.length=A.rts.length+t.rcnt:=by
 unfold yM at h
 split at h
 ·obtain⟨x,rfl,h1⟩:=Bbu hg h hl
  refine⟨?_,by simp[LS.cnt],rfl⟩
  simp only[oO]
  rw[hZ.get (l:=A.xs) rfl]
  exact h1
 ·obtain⟨h1,h2,h3,h4⟩:=Na9 hR hg hst hk h hZ hl
  exact⟨⟨h1,h2⟩,h3,by rw[h4];rfl⟩
 ·obtain⟨h1,h2,h3,h4⟩:=Bbx hR hk h hZ hl
  exact⟨⟨h1,h2⟩,h3,h4⟩
 ·obtain⟨h1,h2,h3,h4⟩:=Na6 hR hk h hZ hl
  exact⟨⟨h1,h2⟩,h3,h4⟩
 ·rename_i b c off
  simp only[aH,Option.some.injEq]at h
  subst h
  obtain⟨h1,h2⟩:=Vam (ρ:=ρ) (G:=G) (w:=w) hk (hZ.ptrs _ (Sb2 _ (List.mem_singleton.2 rfl)))
  simp only[aD]at hl
  exact⟨⟨by rw[h1];exact hl.1,h2⟩,rfl,rfl⟩
 ·rename_i f cs f' ls
  split at h
  ·rename_i l' hc
   rw[jW]at h
   split at h
   ·rename_i hf
    simp only[Tbv]at hf
    subst hf
    simp only[aH,Option.some.injEq]at h
    subst h
    simp only[aD]at hl
    obtain⟨vs,h1,h2⟩:=hl
    exact⟨⟨vs,h1,Ga6 hk hc (fun z hz=>hZ.ptrs _ (Sb2 _ hz)) h2⟩,rfl,rfl⟩
   ·cases h
  ·cases h
 ·obtain⟨h1,h2,h3,h4⟩:=Bbv hR hk h hZ hl
  exact⟨⟨h1,h2⟩,h3,by rw[h4];rfl⟩
 ·cases h
theorem yL:∀ {ss:List LS} {ls:List aZ} {A B:Take},(eG g A ss ls).eval σ=some B->TLe A B
 | [], [], A, B, h => by
  simp only[eG,aH,Option.some.injEq]at h
  subst h;exact .refl _
 |[],_::_,A,B,h=>by simp[eG,dI]at h
 |_::_,[],A,B,h=>by simp[eG,dI]at h
 | t :: ss, l :: ls, A, B, h => by
  simp only[eG,aC,Sbt]at h
  obtain⟨C,h1,h2⟩:=h
  exact (Waa h1).trans (yL h2)
theorem Dab (hR:R E.ntmps F σ ρ a w G)(hg:gOn ρ g=true)(hst:aR cf ρ g nv Z.lets)(hk:Pak s Z):∀ {ss:List LS} {ls:List aZ} {A B:Take},(eG g A ss ls).eval σ=some B->TLe B Z->∀ {vs:List Value},aK σ ρ G w ls vs ->
  yJ (callG ρ G w s Z) w (Z.xs.map (·.val ρ)) s.boxes.length A.xs.length A.rts.length ss vs/\B.xs.length=A.xs.length+Cb8 ss/\B.rts.length=A.rts.length+nN ss
 | [], [], A, B, h, _, vs, hl => by
  simp only[eG,aH,Option.some.injEq]at h
  subst h
  simp only[aK]at hl
  exact⟨hl,rfl,rfl⟩
 |[],_::_,A,B,h,_,_,_=>by simp[eG,dI]at h
 |_::_,[],A,B,h,_,_,_=>by simp[eG,dI]at h
 | t :: ss, l :: ls, A, B, h, hZ, vs, hl => by
  simp only[eG,aC,Sbt]at h
  obtain⟨C,h1,h2⟩:=h
  simp only[aK]at hl
  obtain⟨u,us,rfl,h3,h4⟩:=hl
  obtain⟨h5,h6,h7⟩:=Sah hR hg hst hk h1 ((yL h2).trans hZ) h3
  obtain⟨h8,h9,h10⟩:=Dab hR hg hst hk h2 hZ h4
  rw[h6,h7]at h8
  exact⟨⟨u,us,rfl,h5,h8⟩,by rw[h9,h6];simp only[Cb8];omega,by rw[h10,h7];simp only[nN];omega⟩
theorem Kar:∀ {ps:List (Bool×List LS)} {vs:List SV} {A B:Take},(iE g A ps vs).eval σ=some B->TLe A B
 | [], [], A, B, h => by
  simp only[iE,aH,Option.some.injEq]at h
  subst h;exact .refl _
 |[],_::_,A,B,h=>by simp[iE,dI]at h
 |_::_,[],A,B,h=>by simp[iE,dI]at h
 | (ag, ss) :: ps, v :: vs, A, B, h => by
  simp only[iE,aC,Sbt]at h
  obtain⟨ls,-,C,h1,h2⟩:=h
  exact (yL h1).trans (Kar h2)
def yI (σ:Nat->Option aW)(ρ:List D)(G:Gh)(w:World):List SV->List Value->Prop
 |[],us=>us=[]
 |v::vs,us=>∃ u us',us=u::us'/\eB σ ρ G w v u/\yI σ ρ G w vs us'
theorem Nas {ag:Bool}{v:SV}{ls:List aZ}{u:Value}(h:nH ag v=some ls)(hv:eB σ ρ G w v u):if ag=true then u=.agg u.cells.toList.toArray else u.cells.toList=[u]:=by
 unfold nH at h
 split at h
 ·cases ag with
  |true=>cases h
  | false =>
   rw[aD.cells hv]
   simp
 ·cases ag with
  |false=>cases h
  | true =>
   obtain⟨us,rfl,-⟩:=hv
   simp[Value.cells]
 ·cases h
theorem Iax (hR:R E.ntmps F σ ρ a w G)(hg:gOn ρ g=true)(hst:aR cf ρ g nv Z.lets)(hk:Pak s Z):∀ {ps:List (Bool×List LS)} {vs:List SV} {A B:Take},(iE g A ps vs).eval σ=some B->TLe B Z->∀ {us:List Value},yI σ ρ G w vs us ->
  mZ (callG ρ G w s Z) w (Z.xs.map (·.val ρ)) s.boxes.length A.xs.length A.rts.length ps us/\B.xs.length=A.xs.length+Pac ps/\B.rts.length=A.rts.length+mH ps
 | [], [], A, B, h, _, us, hl => by
  simp only[iE,aH,Option.some.injEq]at h
  subst h
  simp only[yI]at hl
  exact⟨hl,rfl,rfl⟩
 |[],_::_,A,B,h,_,_,_=>by simp[iE,dI]at h
 |_::_,[],A,B,h,_,_,_=>by simp[iE,dI]at h
 | (ag, ss) :: ps, v :: vs, A, B, h, hZ, us, hl => by
  simp only[iE,aC,Sbt,bF]at h
  obtain⟨ls,h0,C,h1,h2⟩:=h
  obtain⟨u,us',rfl,h3,h4⟩:=hl
  obtain⟨h5,h6,h7⟩:=Dab hR hg hst hk h1 ((Kar h2).trans hZ) (kL h0 h3)
  obtain⟨h8,h9,h10⟩:=Iax hR hg hst hk h2 hZ h4
  rw[h6,h7]at h8
  exact⟨⟨u,us',_,rfl,h5,Nas h0 h3,h8⟩,by rw[h9,h6];simp only[Pac];omega,by rw[h10,h7];simp only[mH];omega⟩
end
end Go.Proofs.YtpgnlmfmlffjcaaGreat.Rf

namespace Go.Proofs.YtpgnlmfmlffjcaaGreat.Rf
set_option linter.unusedVariables false
set_option linter.unusedSimpArgs false
theorem zU {wr:Bool}{ptrs:List (Nat×Nat×Nat)}:∀ {bs:List (Bool×List (BS×BO))} {b j c off:Nat} {cs:List (BS×BO)},bs[j]?=some (wr,cs)->uS (b+j) ptrs=some (c,off)->c∈kY wr ptrs b bs
 |[],b,j,c,off,cs,h,_=>by simp at h
 | (ro, ds) :: bs, b, 0, c, off, cs, h, hp => by
  simp only[Sb8,Option.some.injEq,Prod.mk.injEq]at h
  rw[Tbs]at hp
  simp only[kY,h.1,hp]
  simp
 | (ro, ds) :: bs, b, j + 1, c, off, cs, h, hp => by
  have:=zU (bs:=bs) (b:=b+1) (j:=j) (by simpa using h) (by rw[show b+1+j=b+(j+1) by omega];exact hp)
  simp only[kY]
  cases (ro==wr) with
  |false=>exact this
  | true =>
   simp only[cond_true]
   split
   ·exact Tba _ this
   ·exact this
theorem Faw {ptrs:List (Nat×Nat×Nat)}{c:Nat}:∀ {bs:List (Bool×List (BS×BO))} {b:Nat},c∉kY false ptrs b bs->War ptrs c b bs=none
 |[],b,h=>rfl
 | (ro, cs) :: bs, b, h => by
  simp only[kY]at h
  simp only[War]
  cases ro with
  |true=>simp only[if_true];exact Faw h
  | false =>
   simp only[Sbv,if_false]
   have e:(false==false)=true:=rfl
   rw[e,cond_true]at h
   split
   ·rename_i c' off hp
    rw[hp]at h
    simp only[Tb7,not_or]at h
    rw[if_neg fun e=>h.1 e.symm]
    exact Faw h.2
   ·rename_i hp
    rw[hp]at h
    exact Faw h
theorem xB {ptrs:List (Nat×Nat×Nat)}{c off:Nat}{cs:List (BS×BO)}:∀ {bs:List (Bool×List (BS×BO))} {b j:Nat},distinct (kY false ptrs b bs)=true->bs[j]?=some (false,cs)->uS (b+j) ptrs=some (c,off)->War ptrs c b bs=some (b+j)
 |[],b,j,_,h,_=>by simp at h
 | (ro, ds) :: bs, b, 0, hd, h, hp => by
  simp only[Sb8,Option.some.injEq,Prod.mk.injEq]at h
  rw[Tbs]at hp
  simp only[War,h.1,hp]
  simp
 | (ro, ds) :: bs, b, j + 1, hd, h, hp => by
  have hp':uS (b+1+j) ptrs=some (c,off):=by rw[show b+1+j=b+(j+1) by omega];exact hp
  have hm:=zU (wr:=false) (bs:=bs) (b:=b+1) (j:=j) (by simpa using h) hp'
  simp only[kY]at hd
  simp only[War]
  cases ro with
  | true =>
   have e:(true==false)=false:=rfl
   rw[e,cond_false]at hd
   simp only[if_true]
   rw[xB hd (by simpa using h) hp',show b+1+j=b+(j+1) by omega]
  | false =>
   have e:(false==false)=true:=rfl
   rw[e,cond_true]at hd
   simp only[Sbv,if_false]
   split
   ·rename_i c' off' hp2
    rw[hp2]at hd
    simp only[distinct,Sbu,Tbm]at hd
    have hne:c'≠c:=fun e=>by rw[<- e,<- rC,hd.1]at hm;cases hm
    rw[if_neg hne,xB hd.2 (by simpa using h) hp',show b+1+j=b+(j+1) by omega]
   ·rename_i hp2
    rw[hp2]at hd
    rw[xB hd (by simpa using h) hp',show b+1+j=b+(j+1) by omega]
theorem Ja2 {ptrs:List (Nat×Nat×Nat)}{c x:Nat}:∀ {bs:List (Bool×List (BS×BO))} {b:Nat},War ptrs c b bs=some x->∃ j cs off,x=b+j/\bs[j]?=some (false,cs)/\uS x ptrs=some (c,off)
 |[],b,h=>by simp[War]at h
 | (ro, cs) :: bs, b, h => by
  simp only[War]at h
  have next:War ptrs c (b+1) bs=some x->∃ j cs' off,x=b+j/\((ro,cs)::bs)[j]?=some (false,cs')/\uS x ptrs=some (c,off):=by
   intro h
   obtain⟨j,cs',off,h1,h2,h3⟩:=Ja2 h
   exact⟨j+1,cs',off,by omega,by simpa using h2,h3⟩
  split at h
  ·exact next h
  ·rename_i hro
   split at h
   ·rename_i c' off hp
    split at h
    ·rename_i e
     subst e
     obtain rfl:=Option.some.inj h
     refine⟨0,cs,off,rfl,?_,hp⟩
     cases ro with
     |true=>exact absurd rfl hro
     |false=>rfl
    ·exact next h
   ·exact next h
section
variable {E:Env} {F:cB} {σ:Nat->Option aW} {ρ:List D} {a:Act} {w:World} {G:Gh} {g:Option (aO×Bool)} {cf:Nat->List D->Option (List D)} {s:Sig} {Z:Take} {nv:Nat}
theorem Va8 {A B:Take}{d:Nat}{l:aZ}(h:(Aab A d l).eval σ=some B):B.ptrs=A.ptrs:=by
 unfold Aab at h
 split at h
 ·simp only[aC,aX,Sb6]at h
  split at h
  ·simp only[aC,aP,Sbt,aH,Option.some.injEq]at h
   obtain⟨_,-,rfl⟩:=h;rfl
  ·cases h
 ·simp only[aH,Option.some.injEq]at h
  subst h;rfl
 ·cases h
theorem vS {A B:Take}{t:BS}{l:aZ}(h:(Fam A t l).eval σ=some B):(∃ x,t=.sc/\l=.sc x/\B={ A with xs:=A.xs++[x] })\/(∃ nie,t=.fz nie/\(wS A nie l).eval σ=some B)\/(∃ d,t=.ow d/\(Aab A d l).eval σ=some B)\/(t=.ot/\Sao l=true/\B=A):=by
 cases t with
 | sc =>
  cases l<;>simp only[Fam,dI,reduceCtorEq]at h
  simp only[aH,Option.some.injEq]at h
  exact .inl ⟨_,rfl,rfl,h.symm⟩
 | fz nie =>
  have h':(wS A nie l).eval σ=some B:=by cases l<;>exact h
  exact .inr (.inl ⟨nie,rfl,h'⟩)
 | ow d =>
  have h':(Aab A d l).eval σ=some B:=by cases l<;>exact h
  exact .inr (.inr (.inl ⟨d,rfl,h'⟩))
 | ot =>
  have h':(bif Sao l then RdM.ret A else .no:RdM Take).eval σ=some B:=by cases l<;>exact h
  rw[jW]at h'
  split at h'
  ·rename_i hb
   simp only[aH,Option.some.injEq]at h'
   exact .inr (.inr (.inr ⟨rfl,hb,h'.symm⟩))
  ·cases h'
theorem Wab {A B:Take}{t:BS}{l:aZ}(h:(Fam A t l).eval σ=some B):TLe A B/\B.ptrs=A.ptrs:=by
 have hinv:=vS h
 clear h
 rcases hinv with ⟨x,rfl,rfl,rfl⟩|⟨nie,rfl,h⟩|⟨d,rfl,h⟩|⟨rfl,-,rfl⟩
 ·exact⟨⟨⟨_,rfl⟩,fun _ h=>h,fun _ h=>h,⟨[],by simp⟩,⟨[],by simp⟩⟩,rfl⟩
 ·refine⟨Saj h,?_⟩
  unfold wS at h
  simp only[aC,Sbt,aH,Option.some.injEq]at h
  obtain⟨s,h1,rfl⟩:=h
  rfl
 ·exact⟨Sag h,Va8 h⟩
 ·exact⟨.refl _,rfl⟩
theorem Sak (hR:R E.ntmps F σ ρ a w G)(hg:gOn ρ g=true)(hst:aR cf ρ g nv Z.lets)(hk:Pak s Z){A B:Take}{t:BS}{l:aZ}(h:(Fam A t l).eval σ=some B)(hZ:TLe B Z){v:Value}(hl:aD σ ρ G w l v) :
  Ba6 (callG ρ G w s Z) w (Z.xs.map (·.val ρ)) A.xs.length A.rts.length t v/\B.xs.length=A.xs.length+t.cnt/\B.rts.length=A.rts.length+t.rcnt:=by
 have hinv:=vS h
 clear h
 rcases hinv with ⟨x,rfl,rfl,rfl⟩|⟨nie,rfl,h⟩|⟨d,rfl,h⟩|⟨rfl,hs,rfl⟩
 ·refine⟨?_,by simp[BS.cnt],rfl⟩
  simp only[Ba6]
  rw[hZ.get (l:=A.xs) rfl]
  simpa[aD] using hl
 ·obtain⟨h1,h2,h3,h4⟩:=Na9 hR hg hst hk h hZ hl
  exact⟨⟨h1,h2⟩,h3,by rw[h4];rfl⟩
 ·obtain⟨h1,h2,h3,h4⟩:=Na6 hR hk h hZ hl
  exact⟨⟨h1,h2⟩,h3,h4⟩
 ·exact⟨hl.one hs,rfl,rfl⟩
theorem vR:∀ {ss:List (BS×BO)} {ls:List aZ} {A B:Take},(gF A ss ls).eval σ=some B->TLe A B/\B.ptrs=A.ptrs
 | [], ls, A, B, h => by
  simp only[gF,aH,Option.some.injEq]at h
  subst h;exact⟨.refl _,rfl⟩
 |_::_,[],A,B,h=>by simp[gF,dI]at h
 | (t, o) :: ss, l :: ls, A, B, h => by
  simp only[gF,aC,Sbt]at h
  obtain⟨C,h1,h2⟩:=h
  obtain⟨h3,h4⟩:=Wab h1
  obtain⟨h5,h6⟩:=vR h2
  exact⟨h3.trans h5,h6.trans h4⟩
theorem Fak (hR:R E.ntmps F σ ρ a w G)(hg:gOn ρ g=true)(hst:aR cf ρ g nv Z.lets)(hk:Pak s Z){ad:Addr}:∀ {ss:List (BS×BO)} {ls:List aZ} {A B:Take} {off:Nat},(gF A ss ls).eval σ=some B->TLe B Z ->
  (∀ j l,ls[j]?=some l->∃ v,w.cell? (ad.add (off+j))=some v/\w.frozen? (ad.add (off+j))=false/\aD σ ρ G w l v) ->
  Kaj (callG ρ G w s Z) w (Z.xs.map (·.val ρ)) ad off A.xs.length A.rts.length ss/\B.xs.length=A.xs.length+Gby ss/\B.rts.length=A.rts.length+Aa3 ss
 | [], ls, A, B, off, h, _, _ => by
  simp only[gF,aH,Option.some.injEq]at h
  subst h
  exact⟨trivial,rfl,rfl⟩
 |_::_,[],A,B,off,h,_,_=>by simp[gF,dI]at h
 | (t, o) :: ss, l :: ls, A, B, off, h, hZ, hl => by
  simp only[gF,aC,Sbt]at h
  obtain⟨C,h1,h2⟩:=h
  obtain⟨v,h3,h4,h5⟩:=hl 0 l rfl
  obtain⟨h6,h7,h8⟩:=Sak hR hg hst hk h1 ((vR h2).1.trans hZ) h5
  obtain⟨h9,h10,h11⟩:=Fak hR hg hst hk (off:=off+1) h2 hZ fun j l' hj=>by
   have:=hl (j+1) l' (by simpa using hj)
   rwa[show off+(j+1)=off+1+j by omega]at this
  rw[h7,h8]at h9
  exact⟨⟨⟨v,h3,h4,h6⟩,h9⟩,by rw[h10,h7];simp only[Gby];omega,by rw[h11,h8];simp only[Aa3];omega⟩
def Sbb (σ:Nat->Option aW)(ptrs:List (Nat×Nat×Nat))(b:Nat)(ro:Bool)(cs:List (BS×BO)):Prop :=
 ∃ c off ro' ls,uS b ptrs=some (c,off)/\σ (kB c)=some (.box ro' ls)/\off+cs.length<=ls.length/\(ro=false->ro'=false/\0<cs.length)
theorem oQ {ptrs:List (Nat×Nat×Nat)}:∀ {bs:List (Bool×List (BS×BO))} {b:Nat} {A B:Take},(iA ptrs A b bs).eval σ=some B->TLe A B/\B.ptrs=A.ptrs/\∀ j ro cs,bs[j]?=some (ro,cs)->Sbb σ ptrs (b+j) ro cs
 | [], b, A, B, h => by
  simp only[iA,aH,Option.some.injEq]at h
  subst h;exact⟨.refl _,rfl,by simp⟩
 | (ro, cs) :: bs, b, A, B, h => by
  simp only[iA]at h
  split at h
  case h_2=>cases h
  rename_i c off hp
  simp only[aC,aX,Sb6]at h
  split at h
  case h_2=>cases h
  rename_i ro' ls hkb
  simp only[aC,aP,Sbt]at h
  obtain⟨_,h0,C,h1,h2⟩:=h
  split at h0
  case isFalse=>cases h0
  rename_i hb
  simp only[Sbu,Uba,Tbm,Ubf]at hb
  obtain⟨h3,h4⟩:=vR h1
  obtain⟨h5,h6,h7⟩:=oQ h2
  refine⟨h3.trans h5,h6.trans h4,fun j ro2 cs2 hj=>?_⟩
  cases j with
  | zero =>
   simp only[Sb8,Option.some.injEq,Prod.mk.injEq]at hj
   obtain⟨rfl,rfl⟩:=hj
   refine⟨c,off,ro',ls,hp,hkb,hb.2,fun e=>?_⟩
   rcases hb.1 with h8|h8
   ·rw[e]at h8;cases h8.1
   ·refine⟨h8.1.2,?_⟩
    cases cs with
    |nil=>have:=h8.2;simp at this
    |cons=>simp
  | succ j =>
   rw[show b+(j+1)=b+1+j by omega]
   exact h7 j ro2 cs2 (by simpa using hj)
theorem Bbk {ad:Addr}{n:Nat}(h:ad.spot=none):(ad.add n).spot=none:=by
 unfold Addr.add
 split
 ·exact h
 ·rfl
theorem Xaz {ad:Addr}{n:Nat}:(ad.add n).off=ad.off+n:=by
 unfold Addr.add
 split
 ·rename_i h;rw[h];rfl
 ·rfl
theorem Fan (hR:R E.ntmps F σ ρ a w G)(hg:gOn ρ g=true)(hst:aR cf ρ g nv Z.lets)(hk:Pak s Z):∀ {bs:List (Bool×List (BS×BO))} {b:Nat} {A B:Take},(∀ j x,bs[j]?=some x->s.boxes[b+j]?=some x)->(iA Z.ptrs A b bs).eval σ=some B->TLe B Z ->
  Kak (callG ρ G w s Z) w (Z.xs.map (·.val ρ)) b A.xs.length A.rts.length bs/\B.xs.length=A.xs.length+Gbz bs
 | [], b, A, B, _, h, _ => by
  simp only[iA,aH,Option.some.injEq]at h
  subst h
  exact⟨trivial,rfl⟩
 | (ro, cs) :: bs, b, A, B, hbs, h, hZ => by
  simp only[iA]at h
  split at h
  case h_2=>cases h
  rename_i c off hp
  simp only[aC,aX,Sb6]at h
  split at h
  case h_2=>cases h
  rename_i ro' ls hkb
  simp only[aC,aP,Sbt]at h
  obtain⟨_,h0,C,h1,h2⟩:=h
  split at h0
  case isFalse=>cases h0
  rename_i hb
  simp only[Sbu,Uba,Tbm,Ubf]at hb
  have hCZ:=(oQ h2).1.trans hZ
  obtain⟨h3,h4,h5⟩:=hR.box hkb
  have hbx:(callG ρ G w s Z).bx b=(G.bx c).add off:=by simp only[callG,hp]
  have hsb:=hbs 0 _ rfl
  rw[Tbs]at hsb
  have hp':uS (0+b) Z.ptrs=some (c,off):=by rw[Tbt];exact hp
  obtain⟨h6,h7,h8⟩:=Fak hR hg hst hk (ad:=(G.bx c).add off) (off:=0) h1 hCZ fun j l hj=>by
   rw[Tb5]at hj
   obtain⟨v,h9,h10,h11⟩:=h5 _ l hj
   exact⟨v,by rw[add_add,Tbt];exact h9,by rw[add_add,Tbt];exact h10,h11⟩
  obtain⟨h9,h10⟩:=Fan hR hg hst hk (b:=b+1) (fun j x hj=>by
   rw[show b+1+j=b+(j+1) by omega]
   exact hbs (j+1) x (by simpa using hj)) h2 hZ
  rw[h7,h8]at h9
  refine⟨⟨by rw[hbx];exact Bbk h3,?_,by rw[hbx];exact h6,h9⟩,by rw[h10,h7];simp only[Gbz];omega⟩
  rw[hbx,add_block]
  cases ro with
  | true =>
   simp only[if_true]
   have hm:=zU (wr:=true) hsb hp'
   cases ro' with
   |true=>simp only[callG,h4,if_true]
   | false =>
    simp only[Sbv,if_false]at h4
    simp only[callG,h4]
    rw[Faw fun hm'=>uV hk.ro hm' hm]
  | false =>
   simp only[Sbv,if_false]
   rcases hb.1 with h11|h11
   ·cases h11.1
   ·have hro:ro'=false:=h11.1.2
    subst hro
    simp only[Sbv,if_false]at h4
    simp only[callG,h4]
    rw[xB hk.wr hsb hp']
    simp
theorem Ibl (hR:R E.ntmps F σ ρ a w G)(hg:gOn ρ g=true)(hst:aR cf ρ g nv Z.lets)(hk:Pak s Z){T:Take}{vs:List SV}(h1:(iE g Take.empty s.params vs).eval σ=some T)(h2:(iA T.ptrs T 0 s.boxes).eval σ=some Z)
  {us:List Value} (hu:yI σ ρ G w vs us):Gbq s us w (callG ρ G w s Z) (Z.xs.map (·.val ρ)):=by
 obtain⟨h3,h4,h5⟩:=oQ h2
 obtain⟨h6,h7,h8⟩:=Iax hR hg hst hk h1 h3 hu
 rw[<- h4]at h2
 obtain⟨h9,h10⟩:=Fan hR hg hst hk (by simp) h2 (.refl _)
 have e1:Take.empty.xs.length=0:=rfl
 have e2:Take.empty.rts.length=0:=rfl
 rw[e1,e2]at h6
 rw[e1,Tbt]at h7
 rw[e2,Tbt]at h8
 rw[h7,h8]at h9
 refine⟨h6,h9,by rw[Sb5,h10,h7],fun b hb=>vJ (hR.frame.fresh b hb),fun b j hb hj=>?_⟩
 cases e:G.own b with
 | slc r p =>
  exfalso
  simp only[callG,e]at hj
  have:∀ (rts:List RT) (ν:Nat),qX ρ (Z.deps.map (·.1)) ν rts r p≠.box j:=by
   intro rts
   induction rts with
   |nil=>intro ν h;simp only[qX]at h;split at h<;>cases h
   | cons x t ih =>
    intro ν h
    cases x with
    |nil=>exact ih _ h
    | own s d =>
     simp only[qX]at h
     split at h
     ·split at h<;>cases h
     ·exact ih _ h
    | mu s d q X =>
     simp only[qX]at h
     split at h
     ·split at h
      ·split at h<;>cases h
      ·cases h
     ·exact ih _ h
  exact this _ _ hj
 | box c =>
  simp only[callG,e]at hj
  split at hj
  case h_2=>cases hj
  rename_i x hx
  split at hj
  case isFalse=>cases hj
  rename_i hbk
  injection hj with hj
  subst hj
  obtain⟨j,cs,off,e1,e2,e3⟩:=Ja2 hx
  rw[Tbt]at e1
  subst e1
  refine⟨(List.getElem?_eq_some_iff.1 e2).1,?_⟩
  rw[h4]at e3
  have:=h5 x _ _ e2
  rw[Tbt]at this
  obtain⟨c',off',ro',ls,h11,h12,h13,h14⟩:=this
  rw[e3]at h11
  obtain⟨rfl,rfl⟩:c=c'/\off=off':=by simpa using h11
  obtain⟨-,-,h15⟩:=hR.box h12
  have hlt:0<ls.length:=by have:=(h14 rfl).2;omega
  obtain⟨v,h16,-,-⟩:=h15 0 _ (Sb0 hlt)
  rw[hbk]
  unfold World.cell? at h16
  rw[add_block]at h16
  cases hh:w.heap[(G.bx c).block]? with
  |none=>rw[hh]at h16;cases h16
  | some blk =>
   rw[hh]at h16
   cases blk with
   |cells c0 e fr=>exact⟨c0,e,fr,rfl⟩
   |_=>simp at h16
 |frz=>rw[vJ e]at hj;cases hj
 |oth=>simp only[callG,e]at hj;cases hj
end
end Go.Proofs.YtpgnlmfmlffjcaaGreat.Rf

namespace Go.Proofs.YtpgnlmfmlffjcaaGreat.Rf
set_option linter.unusedVariables false
set_option linter.unusedSimpArgs false
def Qar:Ow->Bool
 |.slc _ _=>true
 |_=>false
def tC (r:Nat):List RT->Option RT
 |[]=>none
 |.nil::t=>tC r t
 |.own s d::t=>if r=s then some (.own s d) else tC r t
 |.mu s d q X::t=>if r=s then some (.mu s d q X) else tC r t
def Da6 (ρ:List D)(rts:List RT):Ow->Ow
 | .slc r p => match tC r rts with
  |some (.own _ _)=>.frz
  | some (.mu _ d q _) => match strip (bM ρ q) p with
   |some t=>if t.length<d then .slc r p else .frz
   |none=>.slc r p
  |_=>.slc r p
 |o=>o
def zX (gd:Bool)(ρ:List D)(nr nb nbx:Nat)(mus:List RT):Ow->Ow
 | .slc t p => if t % 2 = 0 then (if gd = true then .frz else if t / 2 < dO then .slc (nr + t / 2) p else .oth) else (match mus[t / 2]? with
  |some (.mu r _ q _)=>.slc r (bM ρ q++p)
  |_=>.oth)
 |.box β=>if β=nbx then .box nb else .oth
 |o=>o
def iI (gd:Bool)(ρ:List D)(G:Gh)(w:World)(s:Sig)(Z:Take)(nr nb:Nat)(own':Nat->Ow)(hs:List Value)(adn:Addr):Gh:={
 own:=fun b=>if b<w.heap.size/\Qar ((callG ρ G w s Z).own b)=false then Da6 ρ Z.rts (G.own b) else zX gd ρ nr nb s.boxes.length (Z.rts.filter Bai) (own' b)
 hdr:=fun r=>if nr<=r/\r<nr+dO then hs.getD (r-nr) undef else G.hdr r
 bx:=fun b=>if b=nb then adn else G.bx b }
theorem yV {r:Nat}:∀ {rts:List RT},r∉dS rts->tC r rts=none
 |[],_=>rfl
 |.nil::t,h=>yV (rts:=t) h
 | .own s d :: t, h => by
  simp only[dS,Tb7,not_or]at h
  simp only[tC,if_neg h.1]
  exact yV h.2
 | .mu s d q X :: t, h => by
  simp only[dS,Tb7,not_or]at h
  simp only[tC,if_neg h.1]
  exact yV h.2
theorem yU {r:Nat}:∀ {rts:List RT},r∈dS rts->∃ (ν:Nat) (x:RT),rts[ν]?=some x/\tC r rts=some x/\((∃ d,x=.own r d)\/∃ d q X,x=.mu r d q X)
 |[],h=>by simp[dS]at h
 | .nil :: t, h => by
  obtain⟨ν,x,h1,h2⟩:=yU (rts:=t) h
  exact⟨ν+1,x,by simpa using h1,h2⟩
 | .own s d :: t, h => by
  by_cases e:r=s
  ·subst e
   exact⟨0,_,rfl,by simp[tC],.inl ⟨d,rfl⟩⟩
  ·simp only[dS,Tb7,e,false_or]at h
   obtain⟨ν,x,h1,h2⟩:=yU h
   exact⟨ν+1,x,by simpa using h1,by simp only[tC,if_neg e];exact h2⟩
 | .mu s d q X :: t, h => by
  by_cases e:r=s
  ·subst e
   exact⟨0,_,rfl,by simp[tC],.inr ⟨d,q,X,rfl⟩⟩
  ·simp only[dS,Tb7,e,false_or]at h
   obtain⟨ν,x,h1,h2⟩:=yU h
   exact⟨ν+1,x,by simpa using h1,by simp only[tC,if_neg e];exact h2⟩
theorem Fa1 {r d:Nat}{q:List (aO×Nat×Nat)}{X:aO}:∀ {rts:List RT} {ν:Nat},distinct (dS rts)=true->rts[ν]?=some (.mu r d q X)->tC r rts=some (.mu r d q X)
 |[],ν,_,h=>by simp at h
 | x :: t, 0, hd, h => by
  simp only[Sb8,Option.some.injEq]at h
  subst h
  simp[tC]
 | x :: t, ν + 1, hd, h => by
  simp only[Tb9]at h
  have hm:=yT (.inr ⟨d,q,X,h⟩)
  cases x with
  |nil=>exact Fa1 (rts:=t) hd h
  | own s d' =>
   simp only[dS,distinct,Sbu,Tbm]at hd
   have hne:r≠s:=fun e=>by rw[e,<- rC,hd.1]at hm;cases hm
   simp only[tC,if_neg hne]
   exact Fa1 hd.2 h
  | mu s d' q' X' =>
   simp only[dS,distinct,Sbu,Tbm]at hd
   have hne:r≠s:=fun e=>by rw[e,<- rC,hd.1]at hm;cases hm
   simp only[tC,if_neg hne]
   exact Fa1 hd.2 h
theorem Ja4 {ρ:List D}{dr:List Nat}{r:Nat}{p:List Nat}:∀ (rts:List RT) (ν:Nat),(∃ ν' t,qX ρ dr ν rts r p=.slc ν' t)\/qX ρ dr ν rts r p=.frz\/qX ρ dr ν rts r p=.oth
 | [], ν => by
  simp only[qX]
  split
  ·exact .inr (.inl rfl)
  ·exact .inr (.inr rfl)
 |.nil::t,ν=>Ja4 t (ν+1)
 | .own s d :: t, ν => by
  simp only[qX]
  split
  ·split
   ·exact .inl ⟨_,_,rfl⟩
   ·exact .inr (.inl rfl)
  ·exact Ja4 t (ν+1)
 | .mu s d q X :: t, ν => by
  simp only[qX]
  split
  ·split
   ·split
    ·exact .inl ⟨_,_,rfl⟩
    ·exact .inr (.inl rfl)
   ·exact .inr (.inr rfl)
  ·exact Ja4 t (ν+1)
theorem Rp.remap {own own':Nat->Ow}{w:World}{r r':Nat}{q q':List Nat}{p:List Nat}{m:Nat}{v:Value}{d:D}(h:Rp own w r p m v d)
  (hs:∀ b t,own b=.slc r (q++t)->own' b=.slc r' (q'++t)):∀ s,p=q++s->((∀ b,own b=.frz->b<w.heap.size->own' b=.frz)\/vD m d=true)->Rp own' w r' (q'++s) m v d:=by
 induction h with
 |sc h=>exact fun _ _ _=>.sc h
 |hole v h1=>exact fun _ _ _=>.hole v h1
 | fz h =>
  intro s _ hz
  rcases hz with hz|hz
  ·exact .fz (h.mono' fun b hb hlt=>⟨hz b hb hlt,rfl⟩)
  ·cases h with
   |sc h=>exact .sc h
   |hole _ h1=>exact .hole _ h1
   |rows=>simp[vD,D.isSc]at hz
 | sl A a n c sz rs vs hn hc hA hsz hown hcell hrec ih =>
  rename_i p m
  intro s hp hz
  refine .sl A a n c sz rs vs hn hc hA hsz (fun e=>?_) hcell (fun i row hi j d hj=>?_)
  ·obtain⟨h1,h2,h3⟩:=hown e
   rw[hp]at h2
   exact⟨h1,hs _ _ h2,h3⟩
  ·have:=ih i row hi j d hj (s++[i*sz+j]) (by rw[hp,Sb3]) (hz.imp id fun hz=>by
    simp only[vD,Tbp]at hz
    exact hz row (Tbg hi) d (Tbg hj))
   rwa[<- Sb3]at this
theorem Rp.updM {own own':Nat->Ow}{w w':World}{r M:Nat}{full:List Nat}{y:D}{u:Value}
  (hz:∀ b,own b=.frz->b<w.heap.size->own' b=.frz/\w'.heap[b]?=w.heap[b]?)
  (hs:∀ b t,own b=.slc r t->¬ full <+: t->own' b=.slc r t/\w'.heap[b]?=w.heap[b]?)
  (hM:full.length<=M) (hnew:Rp own' w' r full (M-full.length) u y) :
  ∀ (p q:List Nat) (v:Value) (x x':D),full=q++p->Rp own w r q (M-q.length) v x->Eas own w r q v p u->Upd p x y x'->Rp own' w' r q (M-q.length) v x'
 | [], q, v, x, x', hf, hx, hn, hu => by
  cases hu
  simp only[Eas]at hn
  rw[Tbb]at hf
  subst hf hn
  exact hnew
 | k :: p, q, v, x, x', hf, hx, hn, hu => by
  generalize hk:k::p=kp at hu
  cases hu with
  |here=>cases hk
  | down sz rs i j row z z' y p' hi hj hu =>
   obtain⟨rfl,rfl⟩:=List.cons.inj hk
   have hlen:full.length=q.length+(p.length+1):=by rw[hf];simp
   obtain⟨m,hm⟩:∃ m,M-q.length=m+1:=⟨M-q.length-1,by omega⟩
   rw[hm]at hx
   rw[hm]
   obtain⟨A,a,n,c,vs,rfl,h1,h2,h3,h4,h5,h6,h7⟩:=hx.sl_inv
   have hil:i<rs.length:=(List.getElem?_eq_some_iff.1 hi).1
   have hA:A=some a:=by
    rcases h3 with e|⟨e,e'⟩
    ·exact e
    ·omega
   subst hA
   obtain⟨h8,h9,h10⟩:=h5 rfl
   obtain⟨a',n',c',u',e1,e2,e3,e4⟩:=hn
   obtain⟨rfl,rfl,rfl⟩:a=a'/\n=n'/\c=c':=by injection e1 with a b c;exact⟨Option.some.inj a,b,c⟩
   have hcell0:=h6 i row hi j z hj
   rw[hcell0]at e3
   obtain rfl:=Option.some.inj e3
   have hq:¬ full <+: q:=by
    intro e
    have:=e.length_le
    omega
   obtain⟨hown',hheap⟩:=hs _ _ h9 hq
   have hkeep:∀ k,w'.cell? (a.add k)=w.cell? (a.add k):=fun k=>iC (w:=w) (w':=w') (by rw[add_block];exact hheap)
   have hkeepf:∀ k,w'.frozen? (a.add k)=w.frozen? (a.add k):=fun k=>oK (w:=w) (w':=w') (by rw[add_block];exact hheap)
   have hrec:=Rp.updM hz hs hM hnew p (q++[i*sz+j]) (vs i j) z z' (by rw[hf];simp) (by
    have:=h7 i row hi j z hj
    rwa[show M-(q++[i*sz+j]).length=m by simp;omega]) e4 hu
   rw[show M-(q++[i*sz+j]).length=m by simp;omega]at hrec
   have hrowlen:row.length=sz:=h4 row (Tbg hi)
   have hlt:j<sz:=by rw[<- hrowlen];exact (List.getElem?_eq_some_iff.1 hj).1
   have hget:∀ i' row',(rs.set i (row.set j z'))[i']?=some row'->∀ j' d,row'[j']?=some d->(i'=i/\j'=j/\d=z')\/(∃ row0,rs[i']?=some row0/\row0[j']?=some d/\¬ (i'=i/\j'=j)):=by
    intro i' row' hi' j' d hj'
    rw[Ub5]at hi'
    by_cases hii:i=i'
    ·subst hii
     rw[if_pos rfl,if_pos hil]at hi'
     obtain rfl:=Option.some.inj hi'
     rw[Ub5]at hj'
     by_cases hjj:j=j'
     ·subst hjj
      rw[if_pos rfl,if_pos (by omega)]at hj'
      exact .inl ⟨rfl,rfl,(Option.some.inj hj').symm⟩
     ·rw[if_neg hjj]at hj'
      exact .inr ⟨row,hi,hj',fun e=>hjj e.2.symm⟩
    ·rw[if_neg hii]at hi'
     exact .inr ⟨row',hi',hj',fun e=>hii e.1.symm⟩
   refine .sl _ a n c sz _ vs (by simpa using h1) h2 (.inl rfl) (fun row' hr=>?_) (fun _=>⟨h8,hown',fun k hk=>?_⟩) (fun i' row' hi' j' d hj'=>?_) (fun i' row' hi' j' d hj'=>?_)
   ·rcases List.mem_or_eq_of_mem_set hr with hr|rfl
    ·exact h4 _ hr
    ·simpa using hrowlen
   ·rw[hkeep,hkeepf]
    exact h10 k hk
   ·rw[hkeep]
    rcases hget i' row' hi' j' d hj' with ⟨rfl,rfl,rfl⟩|⟨row0,h11,h12,-⟩
    ·exact hcell0
    ·exact h6 _ _ h11 _ _ h12
   ·rcases hget i' row' hi' j' d hj' with ⟨rfl,rfl,rfl⟩|⟨row0,h11,h12,hne⟩
    ·exact hrec
    ·have:=(h7 _ _ h11 _ _ h12).mono' (own':=own') (w':=w') (r':=r) (q:=q++[i'*sz+j']) (q':=q++[i'*sz+j']) hz [] (by simp) fun b t hb=>by
      have hnp:¬ full <+: q++[i'*sz+j']++t:=by
       intro e
       rw[hf,Sb3,List.prefix_append_right_inj]at e
       have e':=(List.cons_prefix_cons.1 e).1
       have hj'l:j'<sz:=by
        have:=(List.getElem?_eq_some_iff.1 h12).1
        rw[h4 row0 (Tbg h11)]at this
        exact this
       obtain⟨h15,h16⟩:=Lbo hj'l hlt e'.symm
       exact hne ⟨h15,h16⟩
      exact hs b _ hb hnp
     simpa using this
theorem Rp.deeper {own:Nat->Ow}{w:World}{r:Nat}{p:List Nat}{m:Nat}{v:Value}{d:D}(h:Rp own w r p m v d):∀ {m':Nat},m<=m'->vD m d=true->Rp own w r p m' v d:=by
 induction h with
 |sc h=>exact fun _ _=>.sc h
 |hole v h1=>exact fun _ _=>.hole v h1
 | fz h =>
  intro m' _ hz
  cases h with
  |sc h=>exact .sc h
  |hole _ h1=>exact .hole _ h1
  |rows=>simp[vD,D.isSc]at hz
 | sl A a n c sz rs vs hn hc hA hsz hown hcell hrec ih =>
  rename_i p m
  intro m' hm hz
  obtain⟨k,rfl⟩:∃ k,m'=k+1:=⟨m'-1,by omega⟩
  refine .sl A a n c sz rs vs hn hc hA hsz hown hcell (fun i row hi j d hj=>ih i row hi j d hj (by omega) ?_)
  simp only[vD,Tbp]at hz
  exact hz row (Tbg hi) d (Tbg hj)
section
variable {E:Env} {F:cB} {σ:Nat->Option aW} {ρ:List D} {a:Act} {w w':World} {G G':Gh} {s:Sig} {Z:Take} {gd:Bool} {nr nb:Nat} {hs:List Value} {adn:Addr}
structure Vau (E:Env) (F:cB) (σ:Nat->Option aW) (ρ:List D) (a:Act) (w:World) (G:Gh) (s:Sig) (Z:Take) (G':Gh) (w':World):Prop where
 hR:R E.ntmps F σ ρ a w G
 hk:Pak s Z
 hF:rH (vK s (callG ρ G w s Z) w) G' w'
 bx:∀ j ro cs,s.boxes[j]?=some (ro,cs)->Sbb σ Z.ptrs j ro cs
 deps:∀ z∈Z.deps,Qak σ z.1 z.2
 mus:∀ (ν r d:Nat) (q:List (aO×Nat×Nat)) (X:aO),Z.rts[ν]?=some (RT.mu r d q X)->∃ m ver u,σ (kR r)=some (.root X m ver .live)/\q.length+d<=m/\Eas G.own w r [] (G.hdr r) (bM ρ q) u
 owns:∀ (ν r d:Nat),Z.rts[ν]?=some (RT.own r d)->∃ x m ver,σ (kR r)=some (.root x m ver .live)
variable (B:Vau E F σ ρ a w G s Z G' w')
include B
theorem Vau.keep {b:Nat}(hb:b<w.heap.size)(h:(callG ρ G w s Z).own b=.frz\/(callG ρ G w s Z).own b=.oth):w'.heap[b]?=w.heap[b]?/\G'.own b=(callG ρ G w s Z).own b:=B.hF.keep b hb h
theorem Vau.lt {b r:Nat}{p:List Nat}(h:G.own b=.slc r p):b<w.heap.size:=by
 rcases Tbi b w.heap.size with h1|h1
 ·exact h1
 ·rw[B.hR.frame.fresh b h1]at h;cases h
theorem Vau.own_eq {b:Nat}(hb:b<w.heap.size)(h:Qar ((callG ρ G w s Z).own b)=false):(iI gd ρ G w s Z nr nb G'.own hs adn).own b=Da6 ρ Z.rts (G.own b):=by
 simp only[iI]
 rw[if_pos ⟨hb,h⟩]
theorem Vau.frz {b:Nat}(h:G.own b=.frz)(hb:b<w.heap.size):(iI gd ρ G w s Z nr nb G'.own hs adn).own b=.frz/\w'.heap[b]?=w.heap[b]?:=by
 have h1:(callG ρ G w s Z).own b=.frz:=vJ h
 refine⟨?_,(B.keep hb (.inl h1)).1⟩
 rw[B.own_eq hb (by rw[h1];rfl),h];rfl
theorem Vau.other {b r:Nat}{p:List Nat}(hr:r∉dS Z.rts)(h:G.own b=.slc r p):(iI gd ρ G w s Z nr nb G'.own hs adn).own b=.slc r p/\w'.heap[b]?=w.heap[b]?:=by
 have hb:=B.lt h
 have h1:(callG ρ G w s Z).own b=if r∈Z.deps.map (·.1) then .frz else .oth:=by
  simp only[callG,h]
  exact xC hr
 have h2:(callG ρ G w s Z).own b=.frz\/(callG ρ G w s Z).own b=.oth:=by
  rw[h1]
  split
  ·exact .inl rfl
  ·exact .inr rfl
 refine⟨?_,(B.keep hb h2).1⟩
 rw[B.own_eq hb (by rcases h2 with e|e<;>rw[e]<;>rfl),h]
 simp only[Da6,yV hr]
theorem Vau.oth {b:Nat}(h:G.own b=.oth)(hb:b<w.heap.size):(iI gd ρ G w s Z nr nb G'.own hs adn).own b=.oth/\w'.heap[b]?=w.heap[b]?:=by
 have h1:(callG ρ G w s Z).own b=.oth:=by simp only[callG,h]
 refine⟨?_,(B.keep hb (.inr h1)).1⟩
 rw[B.own_eq hb (by rw[h1];rfl),h];rfl
theorem Vau.boxes {b c:Nat}(h:G.own b=.box c)(hb:b<w.heap.size):(iI gd ρ G w s Z nr nb G'.own hs adn).own b=.box c /\
  (w'.heap[b]?=w.heap[b]?\/∃ j cs off ls c0 c1 e fr,s.boxes[j]?=some (false,cs)/\uS j Z.ptrs=some (c,off)/\b=(G.bx c).block/\σ (kB c)=some (.box false ls)/\off+cs.length<=ls.length /\
   w.heap[b]?=some (.cells c0 e fr)/\w'.heap[b]?=some (.cells c1 e fr)/\c1.size=c0.size/\∀ k,k<(G.bx c).off+off\/(G.bx c).off+off+cs.length<=k->c1[k]?=c0[k]?):=by
 have key:((callG ρ G w s Z).own b=.oth)\/∃ j,War Z.ptrs c 0 s.boxes=some j/\b=(G.bx c).block/\(callG ρ G w s Z).own b=.box j:=by
  simp only[callG,h]
  split
  ·rename_i j hj
   split
   ·rename_i hbk
    exact .inr ⟨j,hj,hbk,rfl⟩
   ·exact .inl rfl
  ·exact .inl rfl
 rcases key with h1|⟨j,hj,hbk,h1⟩
 ·refine⟨?_,.inl (B.keep hb (.inr h1)).1⟩
  rw[B.own_eq hb (by rw[h1];rfl),h];rfl
 ·refine⟨by rw[B.own_eq hb (by rw[h1];rfl),h];rfl,.inr ?_⟩
  obtain⟨j',cs,off,e1,e2,e3⟩:=Ja2 hj
  rw[Tbt]at e1
  subst e1
  obtain⟨c',off',ro',ls,h2,h3,h4,h5⟩:=B.bx j false cs e2
  rw[e3]at h2
  obtain⟨rfl,rfl⟩:c=c'/\off=off':=by simpa using h2
  obtain rfl:=(h5 rfl).1
  obtain⟨-,c0,c1,e,fr,h6,h7,h8,h9⟩:=B.hF.boxes b j hb h1
  refine⟨j,cs,off,ls,c0,c1,e,fr,e2,e3,hbk,h3,h4,h6,h7,h8,fun k hk=>h9 k ?_⟩
  have e4:(vK s (callG ρ G w s Z) w).rng j=((G.bx c).off+off,(G.bx c).off+off+cs.length):=by
   simp only[vK,callG,e3,Xaz,Sb4,e2,Ub1]
  rw[e4]
  exact hk
theorem Vau.allow {b:Nat}(h:G'.own b=.frz):allow (iI gd ρ G w s Z nr nb G'.own hs adn) Z.deps b:=by
 by_cases hb:b<w.heap.size
 ·cases hsl:Qar ((callG ρ G w s Z).own b) with
  | true =>
   refine .inl ?_
   simp only[iI]
   rw[if_neg (by rw[hsl];simp),h];rfl
  | false =>
   have hown:=B.own_eq (gd:=gd) (nr:=nr) (nb:=nb) (hs:=hs) (adn:=adn) hb hsl
   cases hg:G.own b with
   |frz=>exact .inl (B.frz hg hb).1
   | oth =>
    have h1:(callG ρ G w s Z).own b=.oth:=by simp only[callG,hg]
    have:=(B.keep hb (.inr h1)).2
    rw[h,h1]at this;cases this
   | box c =>
    have hbk:=(B.boxes (gd:=gd) (nr:=nr) (nb:=nb) (hs:=hs) (adn:=adn) hg hb)
    exfalso
    have key:((callG ρ G w s Z).own b=.oth)\/∃ j,(callG ρ G w s Z).own b=.box j:=by
     simp only[callG,hg]
     split
     ·split
      ·exact .inr ⟨_,rfl⟩
      ·exact .inl rfl
     ·exact .inl rfl
    rcases key with h1|⟨j,h1⟩
    ·have:=(B.keep hb (.inr h1)).2
     rw[h,h1]at this;cases this
    ·have:=(B.hF.boxes b j hb h1).1
     rw[h]at this;cases this
   | slc r p =>
    by_cases hr:r∈dS Z.rts
    ·refine .inl ?_
     rw[hown,hg]
     obtain⟨ν,x,h1,h2,h3⟩:=yU hr
     simp only[Da6,h2]
     rcases h3 with ⟨d,rfl⟩|⟨d,q,X,rfl⟩
     ·rfl
     ·have h4:=Rap (ρ:=ρ) (G:=G) (w:=w) B.hk h1 hg
      dsimp only
      rw[h4]at hsl
      cases hst:strip (bM ρ q) p with
      | some t' =>
       rw[hst]at hsl
       dsimp only at hsl ⊢
       split at hsl
       ·cases hsl
       ·rename_i hle
        rw[if_neg hle]
      | none =>
       have h5:(callG ρ G w s Z).own b=.oth:=by rw[h4,hst]
       have:=(B.keep hb (.inr h5)).2
       rw[h,h5]at this;cases this
    ·have h1:(callG ρ G w s Z).own b=if r∈Z.deps.map (·.1) then .frz else .oth:=by
      simp only[callG,hg]
      exact xC hr
     by_cases hd:r∈Z.deps.map (·.1)
     ·obtain⟨z,hz,e⟩:=List.mem_map.1 hd
      refine .inr ⟨r,z.2,p,by rw[<- e];exact hz,(B.other hr hg).1⟩
     ·rw[if_neg hd]at h1
      have:=(B.keep hb (.inr h1)).2
      rw[h,h1]at this;cases this
 ·refine .inl ?_
  simp only[iI]
  rw[if_neg (by simp[hb]),h];rfl
theorem Vau.rd {v:Value}{d:D}(h:Rd (fun b=>G'.own b=.frz) w' v d):Rd (Go.Proofs.YtpgnlmfmlffjcaaGreat.Rf.allow (iI gd ρ G w s Z nr nb G'.own hs adn) Z.deps) w' v d :=
 h.mono fun b hb=>⟨B.allow hb,rfl⟩
theorem Vau.slc {b t:Nat}{p:List Nat}(h:G'.own b=.slc t p):(iI gd ρ G w s Z nr nb G'.own hs adn).own b=zX gd ρ nr nb s.boxes.length (Z.rts.filter Bai) (.slc t p):=by
 simp only[iI]
 rw[if_neg,h]
 rintro⟨hb,hsl⟩
 cases hg:(callG ρ G w s Z).own b with
 |frz=>have:=(B.keep hb (.inl hg)).2;rw[h,hg]at this;cases this
 |oth=>have:=(B.keep hb (.inr hg)).2;rw[h,hg]at this;cases this
 |slc _ _=>rw[hg]at hsl;cases hsl
 |box j=>have:=(B.hF.boxes b j hb hg).1;rw[h]at this;cases this
theorem Vau.give {q m:Nat}{v:Value}{d:D}(h:Rp G'.own w' (2*q) [] m v d)(hfit:Z.deps=[]\/vD m d=true)(hgd:gd=false)(hq:q<dO):Rp (iI gd ρ G w s Z nr nb G'.own hs adn).own w' (nr+q) [] m v d:=by
 have:=h.remap (own':=(iI gd ρ G w s Z nr nb G'.own hs adn).own) (r':=nr+q) (q:=[]) (q':=[]) (fun b t hb=>by
  rw[B.slc hb,hgd]
  simp only[zX,Tb2]
  rw[if_pos (by omega),if_neg (by simp),show 2*q / 2=q by omega,if_pos hq]) [] rfl (hfit.imp (fun e b hb _=>by
   rcases B.allow (gd:=gd) (nr:=nr) (nb:=nb) (hs:=hs) (adn:=adn) hb with h1|⟨r,k,p,h1,-⟩
   ·exact h1
   ·rw[e]at h1;simp at h1) id)
 simpa using this
theorem Vau.giveGd {q m:Nat}{v:Value}{d:D}(h:Rp G'.own w' (2*q) [] m v d)(hgd:gd=true):Rd (Go.Proofs.YtpgnlmfmlffjcaaGreat.Rf.allow (iI gd ρ G w s Z nr nb G'.own hs adn) Z.deps) w' v d:=by
 refine h.rd.mono fun b hb=>⟨?_,rfl⟩
 rcases hb with hb|⟨p,hb⟩
 ·exact B.allow hb
 ·refine .inl ?_
  rw[B.slc hb,hgd]
  simp only[zX]
  rw[if_pos (by omega),if_pos trivial]
theorem Vau.mu {ν j r d m ver:Nat}{q:List (aO×Nat×Nat)}{X y X' X0:aO}(hm:σ (kR r)=some (.root X0 m ver .live))(hdm:q.length+d=m\/vD d (y.val ρ)=true)(hν:Z.rts[ν]?=some (.mu r d q X))(hj:(Z.rts.filter Bai)[j]?=some (.mu r d q X)){u:Value}(hu:∀ u',Eas G.own w r [] (G.hdr r) (bM ρ q) u'->u=u')
  (h:Rp G'.own w' (2*j+1) [] d u (y.val ρ)) (hfit:Z.deps=[]\/vD d (y.val ρ)=true) (hupd:Upd (bM ρ q) (X.val ρ) (y.val ρ) (X'.val ρ)) :
  Rp (iI gd ρ G w s Z nr nb G'.own hs adn).own w' r [] m (G.hdr r) (X'.val ρ):=by
 obtain⟨m',ver',u',hσ,hle,hn⟩:=B.mus ν r d q X hν
 rw[hm]at hσ
 obtain⟨rfl,rfl,rfl⟩:X0=X/\m=m'/\ver=ver':=by
  have:=Option.some.inj hσ
  injection this with e1 e2 e3
  exact⟨e1,e2,e3⟩
 obtain rfl:=hu u' hn
 have hlen:(bM ρ q).length=q.length:=by simp[bM]
 have hnew:Rp (iI gd ρ G w s Z nr nb G'.own hs adn).own w' r (bM ρ q) d u (y.val ρ):=by
  have:=h.remap (own':=(iI gd ρ G w s Z nr nb G'.own hs adn).own) (r':=r) (q:=[]) (q':=bM ρ q) (fun b t hb=>by
   rw[B.slc hb]
   simp only[zX,Tb2]
   rw[if_neg (by omega),show (2*j+1) / 2=j by omega,hj]) [] rfl (hfit.imp (fun e b hb _=>by
    rcases B.allow (gd:=gd) (nr:=nr) (nb:=nb) (hs:=hs) (adn:=adn) hb with h1|⟨r,k,p,h1,-⟩
    ·exact h1
    ·rw[e]at h1;simp at h1) id)
  simpa using this
 have hnew':Rp (iI gd ρ G w s Z nr nb G'.own hs adn).own w' r (bM ρ q) (m-(bM ρ q).length) u (y.val ρ):=by
  rcases hdm with e|e
  ·rwa[hlen,show m-q.length=d by omega]
  ·exact hnew.deeper (by omega) e
 have hroot:=B.hR.root hm
 simp only[dJ]at hroot
 have:=Rp.updM (own:=G.own) (own':=(iI gd ρ G w s Z nr nb G'.own hs adn).own) (w:=w) (w':=w') (r:=r) (M:=m) (full:=bM ρ q) (y:=y.val ρ) (u:=u)
  (fun b hb hlt=>B.frz hb hlt) (fun b t hb hnp=>?_) (by omega) hnew' (bM ρ q) [] (G.hdr r) (X0.val ρ) (X'.val ρ) (by simp) (by simpa using hroot) hn hupd
 ·simpa using this
 ·have hlt:=B.lt hb
  have h1:=Rap (ρ:=ρ) (G:=G) (w:=w) B.hk hν hb
  have hst:strip (bM ρ q) t=none:=by
   cases e:strip (bM ρ q) t with
   |none=>rfl
   |some t'=>exact absurd ⟨t',(Oae e).symm⟩ hnp
  rw[hst]at h1
  refine⟨?_,(B.keep hlt (.inr h1)).1⟩
  rw[B.own_eq hlt (by rw[h1];rfl),hb]
  simp only[Da6,Fa1 B.hk.dist hν,hst]
theorem Vau.frame:rH F (iI gd ρ G w s Z nr nb G'.own hs adn) w':=by
 have hsz:w.heap.size<=w'.heap.size:=B.hF.size
 refine⟨B.hF.os.trans B.hR.frame.os,B.hF.tape.trans B.hR.frame.tape,B.hF.output.trans B.hR.frame.output,Nat.le_trans B.hR.frame.size hsz,fun b hb ho=>?_,fun b j hb ho=>?_,fun b hb=>?_⟩
 ·obtain⟨h1,h2⟩:=B.hR.frame.keep b hb ho
  have hlt:b<w.heap.size:=Nat.lt_of_lt_of_le hb B.hR.frame.size
  rcases ho with ho|ho
  ·rw[ho]at h2 ⊢
   obtain⟨h3,h4⟩:=B.frz (gd:=gd) (nr:=nr) (nb:=nb) (hs:=hs) (adn:=adn) h2 hlt
   exact⟨h4.trans h1,h3⟩
  ·rw[ho]at h2 ⊢
   obtain⟨h3,h4⟩:=B.oth (gd:=gd) (nr:=nr) (nb:=nb) (hs:=hs) (adn:=adn) h2 hlt
   exact⟨h4.trans h1,h3⟩
 ·obtain⟨h1,c0,c1,e,fr,h2,h3,h4,h5⟩:=B.hR.frame.boxes b j hb ho
  have hlt:b<w.heap.size:=Nat.lt_of_lt_of_le hb B.hR.frame.size
  obtain⟨h6,h7⟩:=B.boxes (gd:=gd) (nr:=nr) (nb:=nb) (hs:=hs) (adn:=adn) h1 hlt
  refine⟨h6,?_⟩
  rcases h7 with h7|⟨i,cs,off,ls,d0,d1,e',fr',h8,h9,h10,h11,h12,h13,h14,h15,h16⟩
  ·exact⟨c0,c1,e,fr,h2,h7.trans h3,h4,h5⟩
  ·rw[h3]at h13
   obtain⟨rfl,rfl,rfl⟩:c1=d0/\e=e'/\fr=fr':=by
    have:=Option.some.inj h13
    injection this with e1 e2 e3
    exact⟨e1,e2,e3⟩
   have hrng:=B.hR.rng j ls h11 (by rw[<- h10];exact hb) (by rw[<- h10];exact ho)
   refine⟨c0,d1,e,fr,h2,h14,h15.trans h4,fun k hk=>?_⟩
   rw[hrng]at hk
   dsimp only at hk
   rw[h16 k (by omega),h5 k (by rw[hrng];exact hk)]
 ·simp only[iI]
  rw[if_neg (by omega),B.hF.fresh b hb];rfl
end
end Go.Proofs.YtpgnlmfmlffjcaaGreat.Rf
