/- Terms for the program's functions, and that they are right: part 6 of 9. -/
import Derived.Test.YtdpfilpckndhcaaGreatDoorRf5
open Bool renaming and_eq_true → Qbq, false_eq_true → Qbr, not_eq_true' → Rbe, or_eq_true → Rbw
open List renaming length_cons → Qbt, length_nil → Qbu, mem_append_left → Qbv, mem_append_right → Qby, getElem?_eq_getElem → Qbz, append_assoc → Qb1, mem_cons_of_mem → Qb2, getElem?_cons_zero → Qb4, getD_eq_getElem?_getD → Qb5, mem_singleton → Qb6, mem_cons_self → Qb7, mem_of_getElem? → Rba, getElem?_append_right → Rbb, length_map → Rbf, all_eq_true → Rbg, map_cons → Rbh, mem_cons → Rbk, append_nil → Rbm, map_nil → Rbq, getElem?_map → Rbu, getElem?_cons_succ → Rbz, getElem?_drop → Rb4, nil_append → Rb9, mem_map_of_mem → Sbl, getElem?_set → Sb1, any_eq_false → Tbj
open Nat renaming le_refl → Qbw, add_assoc → Rbi, lt_or_ge → Rbj, zero_add → Rbt, beq_eq → Rbv, add_zero → Rby, add_sub_cancel_left → Rb1, blt_eq → Rb6, ble_eq → Rb8, zero_le → Sb5, lt_of_lt_of_le → Tbu
open Option renaming bind_eq_some_iff → Qbp, bind_some → Qb3, map_some → Rb5, getD_some → Sbr
set_option linter.unusedSimpArgs false
set_option linter.unusedVariables false
set_option linter.unnecessarySimpa false
set_option linter.unusedSectionVars false
namespace Go.Proofs.YtdpfilpckndhcaaGreatDoor.Rf
set_option linter.unusedVariables false
set_option linter.unusedSimpArgs false
def LS.cnt:LS->Nat
 |.px _=>0
 |.clo _ _=>0
 |_=>1
def LS.rcnt:LS->Nat
 |.mu _=>1
 |.ow _=>1
 |_=>0
def Wa9:List LS->Nat
 |[]=>0
 |s::ss=>s.cnt+Wa9 ss
def kU:List LS->Nat
 |[]=>0
 |s::ss=>s.rcnt+kU ss
def Lag:List (Bool×List LS)->Nat
 |[]=>0
 |(_,ss)::ps=>Wa9 ss+Lag ps
def jV:List (Bool×List LS)->Nat
 |[]=>0
 |(_,ss)::ps=>kU ss+jV ps
def BS.cnt:BS->Nat
 |.ot=>0
 |_=>1
def BS.rcnt:BS->Nat
 |.ow _=>1
 |_=>0
def Bbv:List (BS×BO)->Nat
 |[]=>0
 |(s,_)::ss=>s.cnt+Bbv ss
def yR:List (BS×BO)->Nat
 |[]=>0
 |(s,_)::ss=>s.rcnt+yR ss
def Bbw:List (Bool×List (BS×BO))->Nat
 |[]=>0
 |(_,cs)::bs=>Bbv cs+Bbw bs
def yS:List (Bool×List (BS×BO))->Nat
 |[]=>0
 |(_,cs)::bs=>yR cs+yS bs
section
variable (G:Gh) (w:World) (ρ:List D) (nbx:Nat)
def Bbo (ok:Nat->Prop)(w:World)(v:Value)(d:D):Prop :=
 (v=.pointer none/\∃ z,d=.rows z [])\/∃ a row,v=.pointer (some a)/\d=.rows row.length [row]/\Rd ok w (.slice (some a) 1 1) (.rows row.length [row])
def Fan:List LS->List Value->Prop
 |[],vs=>vs=[]
 |c::cs,vs=>∃ u us,vs=u::us/\(match c with | .px b=>u=.pointer (some (G.bx b))/\b<nbx | _=>u.oneCell'=true)/\Fan cs us
def mD (i nr:Nat):LS->Value->Prop
 |.sc,v=>Sc v ((aM.v i).val ρ)
 |.fz nie,v=>Rd (fun b=>G.own b=.frz) w v ((aM.v i).val ρ)/\(nie=true->∀ z,(aM.v i).val ρ=.rows z []->v=.slice none 0 0)
 |.mu m,v=>v=G.hdr nr/\Rp G.own w nr [] m v ((aM.v i).val ρ)
 |.ow m,v=>v=G.hdr nr/\Rp G.own w nr [] m v ((aM.v i).val ρ)
 |.px b,v=>v=.pointer (some (G.bx b))/\b<nbx
 |.clo f cs,v=>∃ vs,v=.func (.func f) #[] vs.toArray/\Fan G nbx cs vs
 |.rp _,v=>v.oneCell'=true/\Bbo (fun b=>G.own b=.frz) w v ((aM.v i).val ρ)
def vT:Nat->Nat->List LS->List Value->Prop
 |_,_,[],vs=>vs=[]
 |i,nr,s::ss,vs=>∃ u us,vs=u::us/\mD G w ρ nbx i nr s u/\vT (i+s.cnt) (nr+s.rcnt) ss us
def lM:Nat->Nat->List (Bool×List LS)->List Value->Prop
 |_,_,[],us=>us=[]
 |i,nr,(a,ss)::ps,us=>∃ u us' vs,us=u::us'/\vT G w ρ nbx i nr ss vs/\(if a=true then u=.agg vs.toArray else vs=[u])/\lM (i+Wa9 ss) (nr+kU ss) ps us'
def Aab (i nr:Nat):BS->Value->Prop
 |.sc,v=>Sc v ((aM.v i).val ρ)
 |.fz nie,v=>Rd (fun b=>G.own b=.frz) w v ((aM.v i).val ρ)/\(nie=true->∀ z,(aM.v i).val ρ=.rows z []->v=.slice none 0 0)
 |.ow m,v=>v=G.hdr nr/\Rp G.own w nr [] m v ((aM.v i).val ρ)
 |.ot,v=>v.oneCell'=true
def Had (ad:Addr):Nat->Nat->Nat->List (BS×BO)->Prop
 |_,_,_,[]=>True
 |off,i,nr,(s,_)::ss=>(∃ v,w.cell? (ad.add off)=some v/\w.frozen? (ad.add off)=false/\Aab G w ρ i nr s v)/\Had ad (off+1) (i+s.cnt) (nr+s.rcnt) ss
def Hae:Nat->Nat->Nat->List (Bool×List (BS×BO))->Prop
 |_,_,_,[]=>True
 |b,i,nr,(ro,cs)::bs=>(G.bx b).spot=none/\G.own (G.bx b).block=(if ro=true then .oth else .box b)/\Had G w ρ (G.bx b) 0 i nr cs/\Hae (b+1) (i+Bbv cs) (nr+yR cs) bs
end
structure Fbk (s:Sig) (vals:List Value) (w:World) (G:Gh) (ds:List D):Prop where
 params:lM G w ds s.boxes.length 0 0 s.params vals
 boxes:Hae G w ds 0 (Lag s.params) (jV s.params) s.boxes
 len:ds.length=Lag s.params+Bbw s.boxes
 fresh:∀ b,w.heap.size<=b->G.own b=.frz
 cells:∀ b j,b<w.heap.size->G.own b=.box j->j<s.boxes.length/\∃ c e fr,w.heap[b]?=some (.cells c e fr)
def Iao (s:Sig)(G:Gh):List Value:=(fQ 0 (s.params.flatMap (·.2))).map G.hdr++(range 0 s.boxes.length).map fun b=>Value.pointer (some (G.bx b))
def uQ (s:Sig)(G:Gh)(w:World):bU :=
 ⟨w,G.own,fun j=>(Iao s G).getD j undef,fun b=>((G.bx b).off,(G.bx b).off+(s.boxes.getD b (true,[])).2.length)⟩
theorem Qav {i nr:Nat}(s:LS):∃ l u,jG i nr s=(l,u,i+s.cnt,nr+s.rcnt)/\∀ k c,(k,c)∈u->∃ m,s.rcnt=1/\k=kR nr/\c=.root (.v i) m 0 .live/\(s=.mu m\/s=.ow m)/\l=.ex nr:=by
 cases s with
 | mu m =>
  refine⟨_,_,rfl,fun k c h=>?_⟩
  simp only[Qb6,Prod.mk.injEq]at h
  exact⟨m,rfl,h.1,h.2,.inl rfl,rfl⟩
 | ow m =>
  refine⟨_,_,rfl,fun k c h=>?_⟩
  simp only[Qb6,Prod.mk.injEq]at h
  exact⟨m,rfl,h.1,h.2,.inr rfl,rfl⟩
 |_=>exact⟨_,_,rfl,by simp⟩
section
variable {G:Gh} {w:World} {ρ:List D} {nbx:Nat} {σ:Nat->Option aU}
theorem Gah (hbx:∀ b,b<nbx->(σ (kB b)).isSome):∀ {cs:List LS} {vs:List Value},Fan G nbx cs vs->aD σ ρ G w (cs.map fun c=>match c with|.px b=>.px b 0|_=>.dead) vs
 |[],vs,h=>by simpa[Fan,aD] using h
 | c :: cs, vs, h => by
  obtain⟨u,us,rfl,h1,h2⟩:=h
  simp only[Rbh,aD]
  refine⟨u,us,rfl,?_,Gah hbx h2⟩
  cases c with
  | px b =>
   simp only[aB]
   exact⟨by rw[h1.1];rfl,hbx b h1.2⟩
  |_=>simp only[aB];exact h1
def nW (σ:Nat->Option aU)(G:Gh)(w:World)(ρ:List D)(u:List (Nat×aU)):Prop:=∀ k c,(k,c)∈u->∃ r m i,k=kR r/\c=.root (.v i) m 0 .live/\Rp G.own w r [] m (G.hdr r) ((aM.v i).val ρ)
theorem Sa2 (hbx:∀ b,b<nbx->(σ (kB b)).isSome){i nr:Nat}{s:LS}{v:Value}(h:mD G w ρ nbx i nr s v)(hrt:s.rcnt=1->(σ (kR nr)).isSome) :
  aB σ ρ G w (jG i nr s).1 v/\nW σ G w ρ (jG i nr s).2.1:=by
 cases s with
 |sc=>exact⟨by simpa[jG,aB,mD] using h,by simp[nW,jG]⟩
 | fz nie =>
  refine⟨?_,by simp[nW,jG]⟩
  simp only[mD]at h
  simp only[jG,aB]
  exact⟨⟨h.1.one,by simp⟩,fun _=>⟨h.1.mono fun b hb=>⟨.inl hb,rfl⟩,h.2,trivial⟩⟩
 | mu m =>
  simp only[mD]at h
  refine⟨?_,?_⟩
  ·simp only[jG,aB]
   exact⟨h.1,hrt rfl,h.2.one⟩
  ·intro k c hc
   simp only[jG,Qb6,Prod.mk.injEq]at hc
   exact⟨nr,m,i,hc.1,hc.2,by rw[<- h.1];exact h.2⟩
 | ow m =>
  simp only[mD]at h
  refine⟨?_,?_⟩
  ·simp only[jG,aB]
   exact⟨h.1,hrt rfl,h.2.one⟩
  ·intro k c hc
   simp only[jG,Qb6,Prod.mk.injEq]at hc
   exact⟨nr,m,i,hc.1,hc.2,by rw[<- h.1];exact h.2⟩
 | px b =>
  refine⟨?_,by simp[nW,jG]⟩
  simp only[mD]at h
  simp only[jG,aB]
  exact⟨by rw[h.1];rfl,hbx b h.2⟩
 | clo f cs =>
  refine⟨?_,by simp[nW,jG]⟩
  simp only[mD]at h
  obtain⟨vs,h1,h2⟩:=h
  simp only[jG,aB]
  exact⟨vs,h1,Gah hbx h2⟩
 | rp z =>
  refine⟨?_,by simp[nW,jG]⟩
  simp only[mD]at h
  simp only[jG,aB]
  refine⟨⟨h.1,by simp⟩,fun _=>?_⟩
  rcases h.2 with h1|⟨a,row,h1,h2,h3⟩
  ·exact .inl h1
  ·exact .inr ⟨a,row,h1,h2,h3.mono fun b hb=>⟨.inl hb,rfl⟩⟩
theorem nW.append {u v:List (Nat×aU)}(h:nW σ G w ρ u)(h':nW σ G w ρ v):nW σ G w ρ (u++v):=fun k c hc=>(List.mem_append.1 hc).elim (h k c) (h' k c)
theorem Ba4:∀ (ss:List LS) (i nr:Nat),(eZ i nr ss).2.2=(i+Wa9 ss,nr+kU ss)/\(eZ i nr ss).1.length=ss.length/\∀ r,nr<=r->r<nr+kU ss->∃ c,(kR r,c)∈(eZ i nr ss).2.1
 |[],i,nr=>⟨rfl,rfl,fun r h1 h2=>by simp only[kU]at h2;omega⟩
 | s :: ss, i, nr => by
  obtain⟨l,u,h1,h2⟩:=Qav (i:=i) (nr:=nr) s
  obtain⟨h3,h4,h5⟩:=Ba4 ss (i+s.cnt) (nr+s.rcnt)
  simp only[eZ,h1]
  refine⟨h3.trans (by simp only[Wa9,kU,Rbi]),by simp[h4],fun r hr1 hr2=>?_⟩
  simp only[kU]at hr2
  rcases Rbj r (nr+s.rcnt) with h6|h6
  ·have hs:s.rcnt=1:=by cases s<;>simp[LS.rcnt]at h6 ⊢<;>omega
   have:r=nr:=by omega
   subst this
   cases s<;>simp[LS.rcnt]at hs
   all_goals
    simp only[jG,Prod.mk.injEq]at h1
    obtain⟨-,rfl,-⟩:=h1
    exact⟨_,Qbv _ (List.mem_singleton.2 rfl)⟩
  ·obtain⟨c,hc⟩:=h5 r h6 (by omega)
   exact⟨c,Qby _ hc⟩
theorem Dax (hbx:∀ b,b<nbx->(σ (kB b)).isSome):∀ {ss:List LS} {i nr:Nat} {vs:List Value},vT G w ρ nbx i nr ss vs->(∀ r,nr<=r->r<nr+kU ss->(σ (kR r)).isSome) ->
  aD σ ρ G w (eZ i nr ss).1 vs/\nW σ G w ρ (eZ i nr ss).2.1
 |[],i,nr,vs,h,_=>⟨by simpa[vT,eZ,aD] using h,by simp[nW,eZ]⟩
 | s :: ss, i, nr, vs, h, hr => by
  obtain⟨u,us,rfl,h1,h2⟩:=h
  obtain⟨l,up,h3,h4⟩:=Qav (i:=i) (nr:=nr) s
  obtain⟨h5,h6⟩:=Sa2 hbx h1 fun e=>hr nr (Qbw _) (by simp only[kU];omega)
  obtain⟨h7,h8⟩:=Dax hbx h2 fun r hr1 hr2=>hr r (by omega) (by simp only[kU];omega)
  simp only[eZ,h3]at h5 h6 ⊢
  exact⟨by simp only[aD];exact⟨u,us,rfl,h5,h7⟩,h6.append h8⟩
theorem xE:∀ (ps:List (Bool×List LS)) (t i nr:Nat),(kF t i nr ps).2=(i+Lag ps,nr+jV ps)/\∀ r,nr<=r->r<nr+jV ps->∃ c,(kR r,c)∈(kF t i nr ps).1
 |[],t,i,nr=>⟨rfl,fun r h1 h2=>by simp only[jV]at h2;omega⟩
 | (a, ss) :: ps, t, i, nr => by
  obtain⟨h1,-,h2⟩:=Ba4 ss i nr
  obtain⟨h3,h4⟩:=xE ps (t+1) (i+Wa9 ss) (nr+kU ss)
  have e:eZ i nr ss=((eZ i nr ss).1,(eZ i nr ss).2.1,i+Wa9 ss,nr+kU ss):=by rw[<- h1]
  simp only[kF]
  rw[e]
  dsimp only
  refine⟨h3.trans (by simp only[Lag,jV,Rbi]),fun r hr1 hr2=>?_⟩
  simp only[jV]at hr2
  rcases Rbj r (nr+kU ss) with h6|h6
  ·obtain⟨c,hc⟩:=h2 r hr1 h6
   exact⟨c,Qb2 _ (Qbv _ hc)⟩
  ·obtain⟨c,hc⟩:=h4 r h6 (by omega)
   exact⟨c,Qb2 _ (Qby _ hc)⟩
def Mbg (σ:Nat->Option aU)(G:Gh)(w:World)(ρ:List D)(val:Nat->Option Value)(u:List (Nat×aU)):Prop :=
 ∀ k c,(k,c)∈u->(∃ t v sv,k=kT t/\c=.slot none sv/\val t=some v/\dV σ ρ G w sv v)\/(∃ r m i,k=kR r/\c=.root (.v i) m 0 .live/\Rp G.own w r [] m (G.hdr r) ((aM.v i).val ρ))
theorem Daw (hbx:∀ b,b<nbx->(σ (kB b)).isSome):∀ {ps:List (Bool×List LS)} {t i nr:Nat} {us:List Value},lM G w ρ nbx i nr ps us->(∀ r,nr<=r->r<nr+jV ps->(σ (kR r)).isSome) ->
  us.length=ps.length/\Mbg σ G w ρ (fun j=>if t<=j then us[j-t]? else none) (kF t i nr ps).1
 | [], t, i, nr, us, h, _ => by
  simp only[lM]at h
  subst h
  exact⟨rfl,by simp[Mbg,kF]⟩
 | (a, ss) :: ps, t, i, nr, us, h, hr => by
  obtain⟨u,us',vs,rfl,h1,h2,h3⟩:=h
  obtain⟨h4,h5,-⟩:=Ba4 ss i nr
  obtain⟨h6,h7⟩:=Dax hbx h1 fun r hr1 hr2=>hr r hr1 (by simp only[jV];omega)
  obtain⟨h8,h9⟩:=Daw hbx (t:=t+1) h3 fun r hr1 hr2=>hr r (by omega) (by simp only[jV];omega)
  have e:eZ i nr ss=((eZ i nr ss).1,(eZ i nr ss).2.1,i+Wa9 ss,nr+kU ss):=by rw[<- h4]
  simp only[kF]
  rw[e]
  dsimp only
  refine⟨by simp[h8],fun k c hc=>?_⟩
  rcases List.mem_cons.1 hc with hc|hc
  ·obtain⟨rfl,rfl⟩:=Prod.mk.inj hc
   refine .inl ⟨t,u,_,rfl,rfl,by simp,?_⟩
   cases hsv:Ta0 a (eZ i nr ss).1 with
   |none=>trivial
   |some sv=>exact vY hsv h6 h2
  ·rcases List.mem_append.1 hc with hc|hc
   ·exact .inr (h7 k c hc)
   ·rcases h9 k c hc with ⟨t',v,sv,e1,e2,e3,e4⟩|h10
    ·refine .inl ⟨t',v,sv,e1,e2,?_,e4⟩
     dsimp only at e3 ⊢
     split at e3
     ·rename_i hle
      rw[if_pos (by omega)]
      rw[show t'-t=(t'-(t+1))+1 by omega]
      exact e3
     ·cases e3
    ·exact .inr h10
theorem Sa3 {i nr:Nat}{s:BS}{v:Value}(h:Aab G w ρ i nr s v)(hrt:s.rcnt=1->(σ (kR nr)).isSome) :
  aB σ ρ G w (iO i nr s).1 v/\nW σ G w ρ (iO i nr s).2.1/\(iO i nr s).2.2=(i+s.cnt,nr+s.rcnt)/\(s.rcnt=1->∃ c,(kR nr,c)∈(iO i nr s).2.1):=by
 cases s with
 |sc=>exact⟨by simpa[iO,aB,Aab] using h,by simp[nW,iO],rfl,fun e=>by cases e⟩
 | fz nie =>
  refine⟨?_,by simp[nW,iO],rfl,fun e=>by cases e⟩
  simp only[Aab]at h
  simp only[iO,aB]
  exact⟨⟨h.1.one,by simp⟩,fun _=>⟨h.1.mono fun b hb=>⟨.inl hb,rfl⟩,h.2,trivial⟩⟩
 | ow m =>
  simp only[Aab]at h
  refine⟨?_,?_,rfl,fun _=>⟨_,List.mem_singleton.2 rfl⟩⟩
  ·simp only[iO,aB]
   exact⟨h.1,hrt rfl,h.2.one⟩
  ·intro k c hc
   simp only[iO,Qb6,Prod.mk.injEq]at hc
   exact⟨nr,m,i,hc.1,hc.2,by rw[<- h.1];exact h.2⟩
 |ot=>exact⟨by simpa[iO,aB,Aab] using h,by simp[nW,iO],rfl,fun e=>by cases e⟩
theorem Aby {i nr:Nat}(s:BS):(iO i nr s).2.2=(i+s.cnt,nr+s.rcnt)/\(s.rcnt=1->∃ c,(kR nr,c)∈(iO i nr s).2.1):=by
 cases s<;>refine⟨rfl,fun e=>?_⟩<;>first|cases e|skip
 exact⟨_,List.mem_singleton.2 rfl⟩
theorem Fag:∀ (ss:List (BS×BO)) (i nr:Nat),(iK i nr ss).2.2=(i+Bbv ss,nr+yR ss)/\(iK i nr ss).1.length=ss.length/\∀ r,nr<=r->r<nr+yR ss->∃ c,(kR r,c)∈(iK i nr ss).2.1
 |[],i,nr=>⟨rfl,rfl,fun r h1 h2=>by simp only[yR]at h2;omega⟩
 | (s, o) :: ss, i, nr => by
  obtain⟨h1,h2⟩:=Aby (i:=i) (nr:=nr) s
  obtain⟨h3,h4,h5⟩:=Fag ss (i+s.cnt) (nr+s.rcnt)
  have e:iO i nr s=((iO i nr s).1,(iO i nr s).2.1,i+s.cnt,nr+s.rcnt):=by rw[<- h1]
  simp only[iK]
  rw[e]
  dsimp only
  refine⟨h3.trans (by simp only[Bbv,yR,Rbi]),by simp[h4],fun r hr1 hr2=>?_⟩
  simp only[yR]at hr2
  rcases Rbj r (nr+s.rcnt) with h6|h6
  ·have hs:s.rcnt=1:=by cases s<;>simp[BS.rcnt]at h6 ⊢<;>omega
   have:r=nr:=by omega
   subst this
   obtain⟨c,hc⟩:=h2 hs
   exact⟨c,Qbv _ hc⟩
  ·obtain⟨c,hc⟩:=h5 r h6 (by omega)
   exact⟨c,Qby _ hc⟩
theorem Gab {ad:Addr}:∀ {ss:List (BS×BO)} {off i nr:Nat},Had G w ρ ad off i nr ss->(∀ r,nr<=r->r<nr+yR ss->(σ (kR r)).isSome) ->
  (∀ j l,(iK i nr ss).1[j]?=some l->∃ v,w.cell? (ad.add (off+j))=some v/\w.frozen? (ad.add (off+j))=false/\aB σ ρ G w l v)/\nW σ G w ρ (iK i nr ss).2.1
 |[],off,i,nr,_,_=>⟨by simp[iK],by simp[nW,iK]⟩
 | (s, o) :: ss, off, i, nr, h, hr => by
  obtain⟨⟨v,h1,h2,h3⟩,h4⟩:=h
  obtain⟨h5,h6,h7,-⟩:=Sa3 h3 fun e=>hr nr (Qbw _) (by simp only[yR];omega)
  obtain⟨h8,h9⟩:=Gab h4 fun r hr1 hr2=>hr r (by omega) (by simp only[yR];omega)
  have e:iO i nr s=((iO i nr s).1,(iO i nr s).2.1,i+s.cnt,nr+s.rcnt):=by rw[<- h7]
  simp only[iK]
  rw[e]
  dsimp only
  refine⟨fun j l hj=>?_,h6.append h9⟩
  cases j with
  | zero =>
   simp only[Qb4,Option.some.injEq]at hj
   subst hj
   exact⟨v,h1,h2,h5⟩
  | succ j =>
   obtain⟨v',h10,h11,h12⟩:=h8 j l (by simpa using hj)
   rw[show off+(j+1)=off+1+j by omega]
   exact⟨v',h10,h11,h12⟩
def Mbr (σ:Nat->Option aU)(G:Gh)(w:World)(ρ:List D)(bs:Nat->Option (Bool×List (BS×BO)))(u:List (Nat×aU)):Prop :=
 ∀ k c,(k,c)∈u->(∃ b ro ls cs,k=kB b/\c=.box ro ls/\bs b=some (ro,cs)/\ls.length=cs.length/\Lau σ ρ G w b ro ls)\/(∃ r m i,k=kR r/\c=.root (.v i) m 0 .live/\Rp G.own w r [] m (G.hdr r) ((aM.v i).val ρ))
theorem Aay:∀ (bs:List (Bool×List (BS×BO))) (b i nr:Nat),(lT b i nr bs).2=(i+Bbw bs,nr+yS bs)/\(∀ r,nr<=r->r<nr+yS bs->∃ c,(kR r,c)∈(lT b i nr bs).1)/\∀ j,b<=j->j<b+bs.length->∃ c,(kB j,c)∈(lT b i nr bs).1
 |[],b,i,nr=>⟨rfl,fun r h1 h2=>by simp only[yS]at h2;omega,fun j h1 h2=>by simp only[Qbu]at h2;omega⟩
 | (ro, cs) :: bs, b, i, nr => by
  obtain⟨h1,-,h2⟩:=Fag cs i nr
  obtain⟨h3,h4,h5⟩:=Aay bs (b+1) (i+Bbv cs) (nr+yR cs)
  have e:iK i nr cs=((iK i nr cs).1,(iK i nr cs).2.1,i+Bbv cs,nr+yR cs):=by rw[<- h1]
  simp only[lT]
  rw[e]
  dsimp only
  refine⟨h3.trans (by simp only[Bbw,yS,Rbi]),fun r hr1 hr2=>?_,fun j hj1 hj2=>?_⟩
  ·simp only[yS]at hr2
   rcases Rbj r (nr+yR cs) with h6|h6
   ·obtain⟨c,hc⟩:=h2 r hr1 h6
    exact⟨c,Qb2 _ (Qbv _ hc)⟩
   ·obtain⟨c,hc⟩:=h4 r h6 (by omega)
    exact⟨c,Qb2 _ (Qby _ hc)⟩
  ·simp only[Qbt]at hj2
   rcases Rbj j (b+1) with h6|h6
   ·obtain rfl:j=b:=by omega
    exact⟨_,Qb7⟩
   ·obtain⟨c,hc⟩:=h5 j h6 (by omega)
    exact⟨c,Qb2 _ (Qby _ hc)⟩
theorem Gac:∀ {bs:List (Bool×List (BS×BO))} {b i nr:Nat},Hae G w ρ b i nr bs->(∀ r,nr<=r->r<nr+yS bs->(σ (kR r)).isSome) ->
  Mbr σ G w ρ (fun j=>if b<=j then bs[j-b]? else none) (lT b i nr bs).1
 |[],b,i,nr,_,_=>by simp[Mbr,lT]
 | (ro, cs) :: bs, b, i, nr, h, hr => by
  obtain⟨h1,h2,h3,h4⟩:=h
  obtain⟨h5,h6,-⟩:=Fag cs i nr
  obtain⟨h7,h8⟩:=Gab h3 fun r hr1 hr2=>hr r hr1 (by simp only[yS];omega)
  have h9:=Gac (b:=b+1) h4 fun r hr1 hr2=>hr r (by omega) (by simp only[yS];omega)
  have e:iK i nr cs=((iK i nr cs).1,(iK i nr cs).2.1,i+Bbv cs,nr+yR cs):=by rw[<- h5]
  simp only[lT]
  rw[e]
  dsimp only
  intro k c hc
  rcases List.mem_cons.1 hc with hc|hc
  ·obtain⟨rfl,rfl⟩:=Prod.mk.inj hc
   refine .inl ⟨b,ro,_,cs,rfl,rfl,by simp,h6,h1,h2,fun j l hj=>?_⟩
   have:=h7 j l hj
   rwa[Rbt]at this
  ·rcases List.mem_append.1 hc with hc|hc
   ·exact .inr (h8 k c hc)
   ·rcases h9 k c hc with ⟨j,ro',ls,cs',e1,e2,e3,e4⟩|h10
    ·refine .inl ⟨j,ro',ls,cs',e1,e2,?_,e4⟩
     dsimp only at e3 ⊢
     split at e3
     ·rename_i hle
      rw[if_pos (by omega),show j-b=(j-(b+1))+1 by omega]
      exact e3
     ·cases e3
    ·exact .inr h10
end
theorem Aap:∀ (ss:List LS) (r:Nat),∀ q∈fQ r ss,r<=q/\q<r+kU ss
 |[],r,q,h=>by simp[fQ]at h
 | s :: ss, r, q, h => by
  cases s with
  | mu m =>
   simp only[fQ,Rbk]at h
   simp only[kU,LS.rcnt]
   rcases h with rfl|h
   ·omega
   ·have:=Aap ss (r+1) q h;omega
  | ow m =>
   simp only[fQ]at h
   simp only[kU,LS.rcnt]
   have:=Aap ss (r+1) q h;omega
  | _ =>
   simp only[fQ]at h
   simp only[kU,LS.rcnt]
   have:=Aap ss r q h;omega
theorem Faz:∀ (a b:List LS),kU (a++b)=kU a+kU b
 |[],b=>by simp[kU]
 |s::a,b=>by simp only[List.cons_append,kU,Faz a b,Rbi]
theorem Ka0:∀ (ps:List (Bool×List LS)),kU (ps.flatMap (·.2))=jV ps
 |[]=>rfl
 |(a,ss)::ps=>by simp only[List.flatMap_cons,Faz,jV,Ka0 ps]
theorem xG:∀ (ls:List aW) (t k:Nat) (c:aU),(k,c)∈vM t ls->∃ j l,ls[j]?=some l/\k=kT (t+j)/\c=.slot none (.one l)
 |[],t,k,c,h=>by simp[vM]at h
 | l :: ls, t, k, c, h => by
  simp only[vM,Rbk,Prod.mk.injEq]at h
  rcases h with ⟨rfl,rfl⟩|h
  ·exact⟨0,l,rfl,rfl,rfl⟩
  ·obtain⟨j,l',h1,rfl,rfl⟩:=xG ls (t+1) k c h
   exact⟨j+1,l',by simpa using h1,by rw[show t+(j+1)=t+1+j by omega],rfl⟩
theorem Wah {s:Sig}{G:Gh}{j:Nat}{l:aW}(h:(Qab s)[j]?=some l) :
  (∃ r,(fQ 0 (s.params.flatMap (·.2)))[j]?=some r/\l=.ex r/\(Iao s G).getD j undef=G.hdr r)\/(∃ b,b<s.boxes.length/\l=.px b 0/\(Iao s G).getD j undef=.pointer (some (G.bx b))):=by
 unfold Qab at h
 unfold Iao
 rw[Qb5]
 rcases Rbj j (fQ 0 (s.params.flatMap (·.2))).length with h1|h1
 ·rw[List.getElem?_append_left (by simpa using h1)]at h ⊢
  rw[Rbu]at h ⊢
  rw[Qbz h1]at h ⊢
  simp only[Rb5,Option.some.injEq]at h
  exact .inl ⟨_,rfl,h.symm,rfl⟩
 ·rw[Rbb (by simpa using h1)]at h ⊢
  simp only[Rbf]at h ⊢
  rw[Rbu]at h ⊢
  cases hb:(range 0 s.boxes.length)[j-(fQ 0 (s.params.flatMap (·.2))).length]? with
  |none=>rw[hb]at h;cases h
  | some b =>
   rw[hb]at h
   simp only[Rb5,Option.some.injEq]at h
   have:=mem_range.1 (Rba hb)
   exact .inr ⟨b,by omega,h.symm,rfl⟩
end Go.Proofs.YtdpfilpckndhcaaGreatDoor.Rf

namespace Go.Proofs.YtdpfilpckndhcaaGreatDoor.Rf
set_option linter.unusedVariables false
set_option linter.unusedSimpArgs false
def Ebu (s:Sig)(n:Nat):List (Nat×aU) :=
 (kF 0 0 0 s.params).1++(lT 0 (Lag s.params) (jV s.params) s.boxes).1++vM n (Qab s)
theorem entry_eq (s:Sig)(n:Nat):entry s n=St.puts ⟨.nil,Lag s.params+Bbw s.boxes,s.boxes.length,jV s.params+yS s.boxes,n+pY s⟩ (Ebu s n):=by
 have h1:=(xE s.params 0 0 0).1
 have h2:=(Aay s.boxes 0 (Lag s.params) (jV s.params)).1
 rw[Rbt,Rbt]at h1
 have e:kF 0 0 0 s.params=((kF 0 0 0 s.params).1,Lag s.params,jV s.params):=by rw[<- h1]
 have e2:lT 0 (Lag s.params) (jV s.params) s.boxes=((lT 0 (Lag s.params) (jV s.params) s.boxes).1,Lag s.params+Bbw s.boxes,jV s.params+yS s.boxes):=by rw[<- h2]
 unfold entry Ebu
 rw[e]
 dsimp only
 rw[e2]
theorem Faf (s:Sig)(n:Nat):(entry s n).nv=Lag s.params+Bbw s.boxes/\(entry s n).nb=s.boxes.length/\(entry s n).nr=jV s.params+yS s.boxes/\(entry s n).nt=n+pY s:=by
 rw[entry_eq]
 obtain⟨h1,h2,h3,h4⟩:=jK (Ebu s n) ⟨.nil,Lag s.params+Bbw s.boxes,s.boxes.length,jV s.params+yS s.boxes,n+pY s⟩
 exact⟨h1,h2,h3,h4⟩
theorem Qau (s:Sig)(n:Nat)(k:Nat):(entry s n).get k=bif Cad (n+pY s) s.boxes.length (jV s.params+yS s.boxes) k then upds (fun _=>none) (Ebu s n) k else none:=by
 obtain⟨h1,h2,h3,h4⟩:=Faf s n
 unfold St.get
 rw[h2,h3,h4]
 have:(entry s n).tr.get k=upds (fun _=>none) (Ebu s n) k:=by
  rw[entry_eq,Ma7]
  exact uU _ _ _ _ rfl
 rw[this]
theorem Qat {s:Sig}{n k:Nat}{c:aU}(h:(entry s n).get k=some c):(k,c)∈Ebu s n:=by
 rw[Qau]at h
 revert h
 cases Cad (n+pY s) s.boxes.length (jV s.params+yS s.boxes) k with
 |false=>intro h;cases h
 | true =>
  intro h
  rcases sW _ _ _ _ h with h1|⟨-,h1⟩
  ·exact h1
  ·cases h1
theorem Lad {s:Sig}{n k:Nat}(hb:Cad (n+pY s) s.boxes.length (jV s.params+yS s.boxes) k=true)(h:∃ c,(k,c)∈Ebu s n):((entry s n).get k).isSome:=by
 rw[Qau,hb,cond_true]
 exact fI _ _ _ (.inr h)
theorem Ebd {nt nb nr b:Nat}(h:b<nb):Cad nt nb nr (kB b)=true:=by
 unfold Cad
 rw[Pa6]
 have:kB b / 3=b:=by unfold kB;omega
 rw[this]
 simpa using h
theorem Waq (s:Sig)(n r:Nat)(h:r<jV s.params+yS s.boxes):((entry s n).get (kR r)).isSome:=by
 refine Lad (Pa4 h) ?_
 rcases Rbj r (jV s.params) with h1|h1
 ·obtain⟨c,hc⟩:=(xE s.params 0 0 0).2 r (Sb5 _) (by omega)
  exact⟨c,Qbv _ (Qbv _ hc)⟩
 ·obtain⟨c,hc⟩:=(Aay s.boxes 0 (Lag s.params) (jV s.params)).2.1 r h1 h
  exact⟨c,Qbv _ (Qby _ hc)⟩
theorem Abx (s:Sig)(n b:Nat)(h:b<s.boxes.length):((entry s n).get (kB b)).isSome:=by
 refine Lad (Ebd h) ?_
 obtain⟨c,hc⟩:=(Aay s.boxes 0 (Lag s.params) (jV s.params)).2.2 b (Sb5 _) (by omega)
 exact⟨c,Qbv _ (Qby _ hc)⟩
theorem Hbu {s:Sig}{vals:List Value}{w:World}{G:Gh}{ds:List D}{n:Nat}(h:Fbk s vals w G ds)(hn:s.params.length<=n) :
  vals.length=s.params.length/\R n (uQ s G w) (entry s n).get ds ⟨vals.toArray++Array.replicate (n-vals.length) undef,[]⟩ w G:=by
 have hbx:∀ b,b<s.boxes.length->((entry s n).get (kB b)).isSome:=fun b hb=>Abx s n b hb
 have hrt:=Waq s n
 obtain⟨hlen,hpar⟩:=Daw (σ:=(entry s n).get) hbx (t:=0) h.params fun r _ hr=>hrt r (by omega)
 have hbox:=Gac (σ:=(entry s n).get) h.boxes fun r _ hr=>hrt r hr
 have hroot:∀ r,r<jV s.params->(G.hdr r).oneCell'=true:=by
  intro r hr
  obtain⟨c,hc⟩:=(xE s.params 0 0 0).2 r (Sb5 _) (by omega)
  rcases hpar _ c hc with ⟨t,v,sv,e,-⟩|⟨r',m,i,e,-,hrp⟩
  ·exact absurd e.symm jE
  ·obtain rfl:=gD e
   exact hrp.one
 have hval:∀ t v,vals[t]?=some v->Cab n ⟨vals.toArray++Array.replicate (n-vals.length) undef,[]⟩ (uQ s G w).gh t=v:=by
  intro t v hv
  have hlt:=(List.getElem?_eq_some_iff.1 hv).1
  unfold Cab
  rw[if_pos (by omega)]
  simp only[Array.getD_eq_getD_getElem?]
  rw[Array.getElem?_append_left (by simpa using hlt)]
  simp[hv]
 refine⟨hlen,?_,rfl,fun k c hk=>?_,?_,fun b ls hk hb ho=>?_⟩
 ·simp;omega
 ·have hm:=Qat hk
  unfold Ebu at hm
  rcases List.mem_append.1 hm with hm|hm
  ·rcases List.mem_append.1 hm with hm|hm
   ·rcases hpar k c hm with ⟨t,v,sv,rfl,rfl,hv,hsv⟩|⟨r,m,i,rfl,rfl,hrp⟩
    ·refine⟨t,rfl,fun _=>?_⟩
     simp only[Sb5,if_true,Nat.sub_zero]at hv
     rw[hval t v hv]
     exact hsv
    ·exact⟨r,rfl,by rw[hk];rfl,hrp⟩
   ·rcases hbox k c hm with ⟨b,ro,ls,cs,rfl,rfl,-,-,hbr⟩|⟨r,m,i,rfl,rfl,hrp⟩
    ·exact⟨b,rfl,hbr⟩
    ·exact⟨r,rfl,by rw[hk];rfl,hrp⟩
  ·obtain⟨j,l,hj,rfl,rfl⟩:=xG _ _ _ _ hm
   refine⟨n+j,rfl,fun _=>?_⟩
   have e:Cab n ⟨vals.toArray++Array.replicate (n-vals.length) undef,[]⟩ (uQ s G w).gh (n+j)=(Iao s G).getD j undef:=by
    unfold Cab
    rw[if_neg (by omega),Rb1]
    rfl
   rw[e]
   simp only[dV]
   rcases Wah (G:=G) hj with ⟨r,h1,rfl,h2⟩|⟨b,h1,rfl,h2⟩
   ·have hr:=Aap _ _ r (Rba h1)
    rw[Ka0]at hr
    simp only[aB]
    rw[h2]
    exact⟨rfl,hrt r (by omega),hroot r (by omega)⟩
   ·simp only[aB]
    rw[h2]
    exact⟨rfl,hbx b h1⟩
 ·exact⟨rfl,rfl,rfl,Qbw _,fun b hb ho=>⟨rfl,rfl⟩,fun b j hb ho=>⟨ho,by
   obtain⟨-,c,e,fr,hc⟩:=h.cells b j hb ho
   exact⟨c,c,e,fr,hc,hc,rfl,fun _ _=>rfl⟩⟩,h.fresh⟩
 ·have hm:=Qat hk
  unfold Ebu at hm
  rcases List.mem_append.1 hm with hm|hm
  ·rcases List.mem_append.1 hm with hm|hm
   ·rcases hpar _ _ hm with ⟨t,v,sv,e,-⟩|⟨r,m,i,e,-⟩
    ·exact absurd e.symm oP
    ·exact absurd e gV
   ·rcases hbox _ _ hm with ⟨b',ro,ls',cs,e,e2,e3,e4,hbr⟩|⟨r,m,i,e,-⟩
    ·obtain rfl:=Fa2 e
     injection e2 with e5 e6
     subst e5 e6
     simp only[Sb5,if_true,Nat.sub_zero]at e3
     simp only[uQ,Qb5,e3,Sbr]
     rw[e4]
    ·exact absurd e gV
  ·obtain⟨j,r,hj,e,-⟩:=xG _ _ _ _ hm
   exact absurd e.symm oP
theorem Abw {s:Sig}{n nr0:Nat}(h:Haf (entry s n) nr0 ((range 0 (entry s n).nt).map kT++(range 0 (entry s n).nb).map kB++(range 0 (entry s n).nr).map kR)=true){E:Env}(hE:E.ntmps=n):Jam E (entry s n):=by
 refine⟨by rw[(Faf s n).2.2.2,hE];omega,fun k c hk=>?_⟩
 have hm:k∈(range 0 (entry s n).nt).map kT++(range 0 (entry s n).nb).map kB++(range 0 (entry s n).nr).map kR:=by
  rcases Ba1 hk with ⟨t,rfl,ht⟩|⟨b,rfl,hb⟩|⟨r,rfl,hr⟩
  ·exact Qbv _ (Qbv _ (List.mem_map.2 ⟨t,mem_range.2 ⟨by omega,by omega⟩,rfl⟩))
  ·exact Qbv _ (Qby _ (List.mem_map.2 ⟨b,mem_range.2 ⟨by omega,by omega⟩,rfl⟩))
  ·exact Qby _ (List.mem_map.2 ⟨r,mem_range.2 ⟨by omega,by omega⟩,rfl⟩)
 have:=Eaj h k hm
 rw[hk]at this
 exact xJ this
end Go.Proofs.YtdpfilpckndhcaaGreatDoor.Rf

namespace Go.Proofs.YtdpfilpckndhcaaGreatDoor.Rf
set_option linter.unusedVariables false
set_option linter.unusedSimpArgs false
def BO.q:BO->Nat
 |.ow _=>1
 |_=>0
def qC:List BO->Nat
 |[]=>0
 |s::ss=>s.q+qC ss
def LR.q:LR->Nat
 |.ow _=>1
 |.bx cs=>qC cs
 |_=>0
def qL:List LR->Nat
 |[]=>0
 |s::ss=>s.q+qL ss
def qR:List (Bool×List LR)->Nat
 |[]=>0
 |(_,ss)::rs=>qL ss+qR rs
section
variable (own:Nat->Ow) (w:World) (ds:List D) (nbx:Nat)
def Fam (i q:Nat):BO->Value->Prop
 |.sc,v=>Sc v (ds.getD i .undef)
 |.fz,v=>Rd (fun b=>own b=.frz) w v (ds.getD i .undef)
 |.ow m,v=>Rp own w (2*q) [] m v (ds.getD i .undef)
 |.dead,v=>v.oneCell'=true
def Eaf (ad:Addr):Nat->Nat->Nat->List BO->Prop
 |_,_,_,[]=>True
 |off,i,q,s::ss=>(∃ v,w.cell? (ad.add off)=some v/\w.frozen? (ad.add off)=false/\Fam own w ds i q s v)/\Eaf ad (off+1) (i+1) (q+s.q) ss
def nT (i q:Nat):LR->Value->Prop
 |.sc,v=>Sc v (ds.getD i .undef)
 |.fz,v=>Rd (fun b=>own b=.frz) w v (ds.getD i .undef)
 |.ow m,v=>Rp own w (2*q) [] m v (ds.getD i .undef)
 |.rp _,v=>v.oneCell'=true/\Bbo (fun b=>own b=.frz) w v (ds.getD i .undef)
 |.bx cs,v=>∃ ad,v=.pointer (some ad)/\ad.spot=none/\own ad.block=.box nbx/\Eaf own w ds ad 0 i q cs
def sS:Nat->Nat->List LR->List Value->Prop
 |_,_,[],vs=>vs=[]
 |i,q,s::ss,vs=>∃ u us,vs=u::us/\nT own w ds nbx i q s u/\sS (i+s.n) (q+s.q) ss us
def Las:Nat->Nat->List (Bool×List LR)->List Value->Prop
 |_,_,[],us=>us=[]
 |i,q,(a,ss)::rs,us=>∃ u us' vs,us=u::us'/\sS own w ds nbx i q ss vs/\(if a=true then u=.agg vs.toArray else vs=[u])/\Las (i+pU ss) (q+qL ss) rs us'
def Vaf (gh:Nat->Value):Nat->Nat->List Nat->Prop
 |_,_,[]=>True
 |i,j,d::ms=>Rp own w (2*j+1) [] d (gh j) (ds.getD i .undef)/\Vaf gh (i+1) (j+1) ms
def qV (bx:Nat->Addr):Nat->Nat->Nat->List (Bool×List (BS×BO))->Prop
 |_,_,_,[]=>True
 |b,i,q,(ro,cs)::r=>if ro=true then qV bx (b+1) i q r else Eaf own w ds (bx b) 0 i q (cs.map (·.2))/\qV bx (b+1) (i+cs.length) (q+qC (cs.map (·.2))) r
end
def Fax:List Value->Value
 |[u]=>u
 |us=>.tuple us.toArray
def Tan (s:Sig)(F:bU)(bx:Nat->Addr)(v:Value)(w:World)(ds:List D):Prop :=
 ∃ G us,v=Fax us/\oK F G w/\Las G.own w ds s.boxes.length 0 0 s.results us/\Vaf G.own w ds F.gh (bW s.results) 0 (fG (s.params.flatMap (·.2))) /\
  qV G.own w ds bx 0 (bW s.results+(fG (s.params.flatMap (·.2))).length) (qR s.results) s.boxes
structure FLe (A B:Fin):Prop where
 xs:∃ l,B.xs=A.xs++l
 own:∀ z∈A.own,z∈B.own
 frz:∀ z∈A.frz,z∈B.frz
 lets:∃ l,B.lets=A.lets++l
 bxs:∀ z∈A.bxs,z∈B.bxs
theorem FLe.refl (A:Fin):FLe A A:=⟨⟨[],by simp⟩,fun _ h=>h,fun _ h=>h,⟨[],by simp⟩,fun _ h=>h⟩
theorem FLe.trans {A B C:Fin}(h:FLe A B)(h':FLe B C):FLe A C:=by
 obtain⟨⟨l,h1⟩,h2,h3,⟨m,h4⟩,h5⟩:=h
 obtain⟨⟨l',h1'⟩,h2',h3',⟨m',h4'⟩,h5'⟩:=h'
 exact⟨⟨l++l',by rw[h1',h1,Qb1]⟩,fun z hz=>h2' z (h2 z hz),fun z hz=>h3' z (h3 z hz),⟨m++m',by rw[h4',h4,Qb1]⟩,fun z hz=>h5' z (h5 z hz)⟩
structure Xad (Z:Fin) (nbx:Nat) (G G':Gh):Prop where
 frz:∀ b,G.own b=.frz->G'.own b=.frz
 own:∀ r t m,(r,t,m)∈Z.own->∀ b p,G.own b=.slc r p->G'.own b=if p.length<m then .slc t p else .frz
 fr:∀ r,r∈Z.frz->∀ b p,G.own b=.slc r p->G'.own b=.frz
 bxs:∀ β,β∈Z.bxs->∀ b,G.own b=.box β->G'.own b=.box nbx
section
variable {E:Env} {F:bU} {σ:Nat->Option aU} {ρ:List D} {a:Act} {w:World} {G G':Gh} {cf:Nat->List D->Option (List D)} {Z:Fin} {nbx nv:Nat}
theorem FLe.get {A B:Fin}(h:FLe A B){ρ:List D}{x:aM}{l:List aM}(hx:A.xs=l++[x]):(B.xs.map (·.val ρ)).getD l.length .undef=x.val ρ:=by
 obtain⟨m,h1⟩:=h.xs
 rw[h1,hx,Qb5]
 simp
theorem Rp.give (hG:Xad Z nbx G G'){r t m m':Nat}(hz:(r,t,m)∈Z.own)(hm:m<=m'){v:Value}{d:D}(h:Rp G.own w r [] m' v d):Rp G'.own w t [] m v d:=by
 let own1:Nat->Ow:=fun b=>match G.own b with
  |.slc s p=>if s=r then (if p.length<m then .slc s p else .frz) else .slc s p
  |o=>o
 have h1:=h.weaken (own':=own1) (fun b hb=>by simp only[own1,hb]) m hm (fun b q hb=>by simp only[own1,hb,Rb9,if_true])
 have:=h1.mono (own':=G'.own) (w':=w) (q:=[]) (q':=[]) (r':=t) (fun b hb=>⟨?_,rfl⟩) [] rfl (fun b q hb=>⟨?_,rfl⟩)
 ·simpa using this
 ·simp only[own1]at hb
  split at hb
  ·rename_i s p e
   split at hb
   ·rename_i hs
    subst hs
    split at hb
    ·cases hb
    ·rename_i hp
     rw[hG.own s t m hz b p e,if_neg hp]
   ·cases hb
  ·exact hG.frz b hb
 ·simp only[own1]at hb
  split at hb
  ·rename_i s p e
   split at hb
   ·rename_i hs
    subst hs
    split at hb
    ·rename_i hp
     injection hb with e1 e2
     simp only[Rb9]at e2 ⊢
     subst e2
     rw[hG.own s t m hz b p e,if_pos hp]
    ·cases hb
   ·rename_i hs
    injection hb with e1 e2
    exact absurd e1 hs
  ·rename_i hno
   exact absurd hb (hno _ _)
theorem Rd.give (hG:Xad Z nbx G G'){deps:List (Nat×Nat)}(hz:∀ z∈deps,z.1∈Z.frz){v:Value}{d:D}(h:Rd (allow G deps) w v d):Rd (fun b=>G'.own b=.frz) w v d:=by
 refine h.mono fun b hb=>⟨?_,rfl⟩
 rcases hb with hb|⟨r,k,p,hm,hb⟩
 ·exact hG.frz b hb
 ·exact hG.fr r (hz _ hm) b p hb
theorem Qam (hR:R E.ntmps F σ ρ a w G){A B:Fin}{m:Nat}{l:aW}(h:(Qan A m l).eval σ=some B)(hZ:FLe B Z)(hG:Xad Z nbx G G'){v:Value}(hl:aB σ ρ G w l v) :
  Rp G'.own w (2*A.q) [] m v ((Z.xs.map (·.val ρ)).getD A.xs.length .undef)/\FLe A B/\B.xs.length=A.xs.length+1/\B.q=A.q+1:=by
 unfold Qan at h
 split at h
 ·rename_i nie z
  simp only[aC,Option.some.injEq]at h
  subst h
  refine⟨?_,⟨⟨_,rfl⟩,fun _ h=>h,fun _ h=>h,⟨[],by simp[Uaz]⟩,fun _ h=>h⟩,by simp[Uaz],rfl⟩
  rw[hZ.get (l:=A.xs) rfl]
  simp only[aB]at hl
  have hv:=(hl.2 (by simp)).2.1 trivial z rfl
  rw[hv]
  cases m with
  |zero=>exact .fz (.rows none ⟨0,0,none⟩ 0 0 z [] (fun _ _=>undef) rfl (Qbw _) (.inl rfl) (by simp) (by simp) (by simp))
  |succ m=>exact .sl none ⟨0,0,none⟩ 0 0 z [] (fun _ _=>undef) rfl (Qbw _) (.inr ⟨rfl,rfl⟩) (by simp) (fun e=>by cases e) (by simp) (by simp)
 ·rename_i r
  simp only[aA,aV,Qb3]at h
  split at h
  ·rename_i x m' ver hk
   simp only[aA,aL,Qbp,aC,Option.some.injEq]at h
   obtain⟨_,h1,rfl⟩:=h
   split at h1
   case isFalse=>cases h1
   rename_i hb
   simp only[Rb8]at hb
   refine⟨?_,⟨⟨_,rfl⟩,fun _ h=>Qbv _ h,fun _ h=>h,⟨[],by simp[Bai]⟩,fun _ h=>h⟩,by simp[Bai],rfl⟩
   rw[hZ.get (l:=A.xs) rfl]
   simp only[aB]at hl
   rw[hl.1]
   have hr:=hR.root hk
   simp only[dJ]at hr
   exact hr.give hG (hZ.own _ (by simp[Bai])) hb
  ·cases h
 ·rename_i r k nie x
  simp only[aA,aV,Qb3]at h
  split at h
  ·rename_i x' m' ver hk
   simp only[aA,aL,Qbp,aC,Option.some.injEq]at h
   obtain⟨_,h1,rfl⟩:=h
   split at h1
   case isFalse=>cases h1
   rename_i hb
   simp only[Qbq,Rb8,Rbv]at hb
   obtain⟨hb,rfl⟩:=hb
   refine⟨?_,⟨⟨_,rfl⟩,fun _ h=>Qbv _ h,fun _ h=>h,⟨[],by simp[Bai]⟩,fun _ h=>h⟩,by simp[Bai],rfl⟩
   rw[hZ.get (l:=A.xs) rfl]
   simp only[aB]at hl
   have hp:=(hl.2 fun z hz=>by
    simp only[Qb6]at hz
    subst hz
    exact⟨x',m',.live,hk,.inl rfl⟩).2.2
   exact (hp r ver m' rfl ⟨x',hk⟩).give hG (hZ.own _ (by simp[Bai])) hb
  ·cases h
 ·cases h
theorem Qao (hR:R E.ntmps F σ ρ a w G){A B:Fin}{l:aW}(h:(Qap A l).eval σ=some B)(hZ:FLe B Z)(hG:Xad Z nbx G G'){v:Value}(hl:aB σ ρ G w l v) :
  Rd (fun b=>G'.own b=.frz) w v ((Z.xs.map (·.val ρ)).getD A.xs.length .undef)/\FLe A B/\B.xs.length=A.xs.length+1/\B.q=A.q:=by
 unfold Qap at h
 simp only[aA,Qbp,aC,Option.some.injEq]at h
 obtain⟨s,h1,rfl⟩:=h
 refine⟨?_,⟨⟨_,rfl⟩,fun _ h=>h,fun _ h=>Qbv _ h,⟨[],by simp⟩,fun _ h=>h⟩,by simp,rfl⟩
 rw[hZ.get (l:=A.xs) rfl]
 have hs:=fF hR h1 hl
 exact hs.rd.give hG fun z hz=>hZ.frz _ (Qby _ (Sbl hz))
theorem Sa1 (hR:R E.ntmps F σ ρ a w G){A B:Fin}{s:BO}{l:aW}(h:(Fae A s l).eval σ=some B)(hZ:FLe B Z)(hG:Xad Z nbx G G'){v:Value}(hl:aB σ ρ G w l v) :
  Fam G'.own w (Z.xs.map (·.val ρ)) A.xs.length A.q s v/\FLe A B/\B.xs.length=A.xs.length+1/\B.q=A.q+s.q:=by
 cases s with
 | sc =>
  cases l<;>simp only[Fae,dF,reduceCtorEq]at h
  rename_i x
  simp only[aC,Option.some.injEq]at h
  subst h
  refine⟨?_,⟨⟨_,rfl⟩,fun _ h=>h,fun _ h=>h,⟨[],by simp⟩,fun _ h=>h⟩,by simp,rfl⟩
  simp only[Fam]
  rw[hZ.get (l:=A.xs) rfl]
  simpa[aB] using hl
 | fz =>
  have h':(Qap A l).eval σ=some B:=by cases l<;>exact h
  exact Qao hR h' hZ hG hl
 | ow m =>
  have h':(Qan A m l).eval σ=some B:=by cases l<;>exact h
  exact Qam hR h' hZ hG hl
 | dead =>
  have h':(bif Oa3 l then RdM.ret { A with xs:=A.xs++[.c .hole] } else .no:RdM Fin).eval σ=some B:=by cases l<;>exact h
  cases hb:Oa3 l with
  |false=>rw[hb]at h';cases h'
  | true =>
   rw[hb,cond_true]at h'
   simp only[aC,Option.some.injEq]at h'
   subst h'
   exact⟨hl.one hb,⟨⟨_,rfl⟩,fun _ h=>h,fun _ h=>h,⟨[],by simp⟩,fun _ h=>h⟩,by simp,rfl⟩
theorem Das:∀ {ss:List BO} {ls:List aW} {A B:Fin},(jP A ss ls).eval σ=some B->(∀ {A B:Fin} {s:BO} {l:aW},(Fae A s l).eval σ=some B->FLe A B)->FLe A B
 | [], [], A, B, h, _ => by
  simp only[jP,aC,Option.some.injEq]at h
  subst h
  exact .refl _
 |[],_::_,A,B,h,_=>by simp[jP,dF]at h
 |_::_,[],A,B,h,_=>by simp[jP,dF]at h
 | s :: ss, l :: ls, A, B, h, hc => by
  simp only[jP,aA,Qbp]at h
  obtain⟨C,h1,h2⟩:=h
  exact (hc h1).trans (Das h2 hc)
theorem Uay {A B:Fin}{m:Nat}{l:aW}(h:(Qan A m l).eval σ=some B):FLe A B:=by
 unfold Qan at h
 split at h
 ·simp only[aC,Option.some.injEq]at h
  subst h
  exact⟨⟨_,rfl⟩,fun _ h=>h,fun _ h=>h,⟨[],by simp[Uaz]⟩,fun _ h=>h⟩
 ·simp only[aA,aV,Qb3]at h
  split at h
  ·simp only[aA,aL,Qbp,aC,Option.some.injEq]at h
   obtain⟨_,-,rfl⟩:=h
   exact⟨⟨_,rfl⟩,fun _ h=>Qbv _ h,fun _ h=>h,⟨[],by simp[Bai]⟩,fun _ h=>h⟩
  ·cases h
 ·simp only[aA,aV,Qb3]at h
  split at h
  ·simp only[aA,aL,Qbp,aC,Option.some.injEq]at h
   obtain⟨_,-,rfl⟩:=h
   exact⟨⟨_,rfl⟩,fun _ h=>Qbv _ h,fun _ h=>h,⟨[],by simp[Bai]⟩,fun _ h=>h⟩
  ·cases h
 ·cases h
theorem Ua0 {A B:Fin}{l:aW}(h:(Qap A l).eval σ=some B):FLe A B:=by
 unfold Qap at h
 simp only[aA,Qbp,aC,Option.some.injEq]at h
 obtain⟨s,h1,rfl⟩:=h
 exact⟨⟨_,rfl⟩,fun _ h=>h,fun _ h=>Qbv _ h,⟨[],by simp⟩,fun _ h=>h⟩
theorem Wao {A B:Fin}{s:BO}{l:aW}(h:(Fae A s l).eval σ=some B):FLe A B:=by
 cases s with
 | sc =>
  cases l<;>simp only[Fae,dF,reduceCtorEq]at h
  simp only[aC,Option.some.injEq]at h
  subst h
  exact⟨⟨_,rfl⟩,fun _ h=>h,fun _ h=>h,⟨[],by simp⟩,fun _ h=>h⟩
 | fz =>
  have h':(Qap A l).eval σ=some B:=by cases l<;>exact h
  exact Ua0 h'
 | ow m =>
  have h':(Qan A m l).eval σ=some B:=by cases l<;>exact h
  exact Uay h'
 | dead =>
  have h':(bif Oa3 l then RdM.ret { A with xs:=A.xs++[.c .hole] } else .no:RdM Fin).eval σ=some B:=by cases l<;>exact h
  cases hb:Oa3 l with
  |false=>rw[hb]at h';cases h'
  | true =>
   rw[hb,cond_true]at h'
   simp only[aC,Option.some.injEq]at h'
   subst h'
   exact⟨⟨_,rfl⟩,fun _ h=>h,fun _ h=>h,⟨[],by simp⟩,fun _ h=>h⟩
theorem xC {ss:List BO}{ls:List aW}{A B:Fin}(h:(jP A ss ls).eval σ=some B):FLe A B:=Das h fun h=>Wao h
theorem zP (hR:R E.ntmps F σ ρ a w G)(hG:Xad Z nbx G G'){ad:Addr}:∀ {ss:List BO} {ls:List aW} {A B:Fin} {off:Nat},(jP A ss ls).eval σ=some B->FLe B Z ->
  (∀ j l,ls[j]?=some l->∃ v,w.cell? (ad.add (off+j))=some v/\w.frozen? (ad.add (off+j))=false/\aB σ ρ G w l v) ->
  Eaf G'.own w (Z.xs.map (·.val ρ)) ad off A.xs.length A.q ss/\B.xs.length=A.xs.length+ss.length/\B.q=A.q+qC ss
 | [], [], A, B, off, h, _, _ => by
  simp only[jP,aC,Option.some.injEq]at h
  subst h
  exact⟨trivial,rfl,rfl⟩
 |[],_::_,A,B,off,h,_,_=>by simp[jP,dF]at h
 |_::_,[],A,B,off,h,_,_=>by simp[jP,dF]at h
 | s :: ss, l :: ls, A, B, off, h, hZ, hl => by
  simp only[jP,aA,Qbp]at h
  obtain⟨C,h1,h2⟩:=h
  obtain⟨v,h3,h4,h5⟩:=hl 0 l rfl
  obtain⟨h6,h7,h8,h9⟩:=Sa1 hR h1 ((xC h2).trans hZ) hG h5
  obtain⟨h10,h11,h12⟩:=zP hR hG (off:=off+1) h2 hZ fun j l' hj=>by
   have:=hl (j+1) l' (by simpa using hj)
   rwa[show off+(j+1)=off+1+j by omega]at this
  rw[h8,h9]at h10
  exact⟨⟨⟨v,h3,h4,h6⟩,h10⟩,by rw[h11,h8];simp;omega,by rw[h12,h9];simp only[qC];omega⟩
end
end Go.Proofs.YtdpfilpckndhcaaGreatDoor.Rf

namespace Go.Proofs.YtdpfilpckndhcaaGreatDoor.Rf
set_option linter.unusedVariables false
set_option linter.unusedSimpArgs false
def Fby (tmps:Array Value):ResultVar->Sem Value
 |.tmp t=>pure (tmps.getD t undef)
 |.cell a t=>do loadVar t (<- asAddr (tmps.getD a undef))
def Fay (P:Program)(tmps:Array Value)(w:World)(x:ResultVar):Value:=match (Fby tmps x).run P w with
 |.ok v _=>v
 |_=>undef
theorem Pak {P:Program}{tmps:Array Value}{w:World}{x:ResultVar}{v:Value}(h:(Fby tmps x).run P w=.ok v w):Fay P tmps w x=v/\(Fby tmps x).run P w=.ok (Fay P tmps w x) w:=by
 have:Fay P tmps w x=v:=by unfold Fay;rw[h]
 exact⟨this,by rw[this];exact h⟩
theorem Ya4 (vs:Array Value):(if h:vs.size=1 then vs[0] else Value.tuple vs)=Fax vs.toList:=by
 obtain⟨l⟩:=vs
 match l with
 |[]=>rfl
 |[u]=>rfl
 |u::v::r=>simp[Fax]
section
variable {P:Program} {E:Env} {F:bU} {σ:Nat->Option aU} {ρ:List D} {a:Act} {w:World} {G G':Gh} {cf:Nat->List D->Option (List D)} {Z:Fin} {nbx nv:Nat}
theorem Wan {A B:Fin}{s:LR}{l:aW}(h:(Iax nv A s l).eval σ=some B):FLe A B:=by
 unfold Iax at h
 split at h
 ·simp only[aC,Option.some.injEq]at h
  subst h
  exact⟨⟨_,rfl⟩,fun _ h=>h,fun _ h=>h,⟨[],by simp⟩,fun _ h=>h⟩
 ·exact Ua0 h
 ·exact Uay h
 ·simp only[aC,Option.some.injEq]at h
  subst h
  exact⟨⟨_,rfl⟩,fun _ h=>h,fun _ h=>h,⟨[],by simp⟩,fun _ h=>h⟩
 ·simp only[aA,Qbp,aC,Option.some.injEq]at h
  obtain⟨d,-,rfl⟩:=h
  exact⟨⟨_,rfl⟩,fun _ h=>h,fun _ h=>Qbv _ h,⟨[],by simp⟩,fun _ h=>h⟩
 ·simp only[aA,Qbp,aC,Option.some.injEq]at h
  obtain⟨d,-,rfl⟩:=h
  exact⟨⟨_,rfl⟩,fun _ h=>h,fun _ h=>Qbv _ h,⟨_,rfl⟩,fun _ h=>h⟩
 ·cases h
theorem Sa0 (hR:R E.ntmps F σ ρ a w G)(hst:aQ cf ρ none nv Z.lets){A B:Fin}{s:LR}{l:aW}(h:(Iax nv A s l).eval σ=some B)(hZ:FLe B Z)(hG:Xad Z nbx G G'){v:Value}(hl:aB σ ρ G w l v) :
  nT G'.own w (Z.xs.map (·.val ρ)) nbx A.xs.length A.q s v/\B.xs.length=A.xs.length+s.n/\B.q=A.q+s.q:=by
 unfold Iax at h
 split at h
 ·simp only[aC,Option.some.injEq]at h
  subst h
  refine⟨?_,by simp[LR.n],rfl⟩
  simp only[nT]
  rw[hZ.get (l:=A.xs) rfl]
  simpa[aB] using hl
 ·obtain⟨h1,-,h2,h3⟩:=Qao hR h hZ hG hl
  exact⟨h1,h2,h3⟩
 ·obtain⟨h1,-,h2,h3⟩:=Qam hR h hZ hG hl
  exact⟨h1,h2,h3⟩
 ·simp only[aC,Option.some.injEq]at h
  subst h
  refine⟨?_,by simp[LR.n],rfl⟩
  simp only[nT]
  rw[hZ.get (l:=A.xs) rfl]
  simp only[aB]at hl
  exact⟨by rw[hl];rfl,.inl ⟨hl,_,rfl⟩⟩
 ·rename_i z deps z' x
  simp only[aA,Qbp,aC,Option.some.injEq]at h
  obtain⟨ds,h1,rfl⟩:=h
  refine⟨?_,by simp[LR.n],rfl⟩
  simp only[nT]
  rw[hZ.get (l:=A.xs) rfl]
  simp only[aB]at hl
  obtain⟨h3,h4,h5⟩:=jL h1
  refine⟨hl.1.1,?_⟩
  rcases hl.2 h3 with h6|⟨ad,row,h6,h7,h8⟩
  ·exact .inl h6
  ·exact .inr ⟨ad,row,h6,h7,(h8.drop hR h5).give hG fun z hz=>hZ.frz _ (Qby _ (Sbl hz))⟩
 ·rename_i z l' z' ix
  simp only[aA,Qbp,aC,Option.some.injEq]at h
  obtain⟨sl,h1,rfl⟩:=h
  refine⟨?_,by simp[LR.n],rfl⟩
  simp only[nT]
  rw[hZ.get (l:=A.xs) rfl]
  simp only[aB]at hl
  obtain⟨ad,n,cp,ik,iv,h3,h4,h5,h6,h7⟩:=hl
  have hs:=fF hR h1 h3
  obtain⟨lr,hlr⟩:=hZ.lets
  dsimp only at hlr
  rw[hlr,Qb1]at hst
  have hst1:=(aQ.append hst).2
  have hst2:aQ cf ρ none (nv+bT A.lets) [.prim (.one z') [sl.x,ix] 1]:=(aQ.append hst1).1
  obtain⟨d,hrun,hd⟩:=iB hst2 rfl
  simp only[Rbh,Rbq,h4]at hrun
  have hrow:∃ sz rs r,sl.x.val ρ=.rows sz rs/\sz=z'/\rs[iv.toNat]?=some r/\d=.rows z' [r]:=by
   cases hx:sl.x.val ρ with
   | rows sz rs =>
    rw[hx]at hrun
    simp only[aO.run]at hrun
    split at hrun
    ·rename_i hc
     split at hrun
     ·rename_i r hr
      simp only[Option.some.injEq,List.cons.injEq,and_true]at hrun
      exact⟨sz,rs,r,rfl,hc.1,hr,hrun.symm⟩
     ·cases hrun
    ·cases hrun
   |_=>rw[hx]at hrun;simp[aO.run]at hrun
  obtain⟨sz,rs,r,hx,rfl,hr,rfl⟩:=hrow
  have hrd:=hs.rd
  rw[hx]at hrd
  obtain⟨A',b,n',c',vs,e1,e2,e3,e4,e5,e6,e7⟩:=hrd.inv
  injection e1 with e1 e1' e1''
  have hlt:iv.toNat<rs.length:=(List.getElem?_eq_some_iff.1 hr).1
  have hA:some ad=some b:=by rw[e1];exact e4.resolve_left (by omega)
  obtain rfl:=Option.some.inj hA
  have hrl:r.length=sz:=e5 r (Rba hr)
  refine⟨by rw[h7];rfl,.inr ⟨_,r,h7,by rw[hd,hrl],?_⟩⟩
  have:Rd (allow G sl.deps) w (.slice (some (ad.add (iv.toNat*sz+0))) 1 1) (.rows r.length [r]):=by
   refine .rows _ (ad.add (iv.toNat*sz+0)) 1 1 r.length [r] (fun _ j=>vs iv.toNat j) rfl (Qbw _) (.inr rfl) (by simp) (fun i0 r0 hi0 j d0 hj=>?_) (fun i0 r0 hi0 j d0 hj=>?_)
   ·cases i0 with
    | zero =>
     simp only[Qb4,Option.some.injEq]at hi0
     subst hi0
     obtain⟨k1,k2⟩:=e6 _ _ hr j d0 hj
     refine⟨by rw[add_block];exact k1,?_⟩
     rw[add_add]
     rw[show iv.toNat*sz+0+(0*r.length+j)=iv.toNat*sz+j by omega]
     exact k2
    |succ i0=>simp at hi0
   ·cases i0 with
    | zero =>
     simp only[Qb4,Option.some.injEq]at hi0
     subst hi0
     exact e7 _ _ hr j d0 hj
    |succ i0=>simp at hi0
  exact this.give hG fun z hz=>hZ.frz _ (Qby _ (Sbl hz))
 ·cases h
theorem tY:∀ {ss:List LR} {ls:List aW} {A B:Fin},(iX nv A ss ls).eval σ=some B->FLe A B
 | [], [], A, B, h => by
  simp only[iX,aC,Option.some.injEq]at h
  subst h
  exact .refl _
 |[],_::_,A,B,h=>by simp[iX,dF]at h
 |_::_,[],A,B,h=>by simp[iX,dF]at h
 | s :: ss, l :: ls, A, B, h => by
  simp only[iX,aA,Qbp]at h
  obtain⟨C,h1,h2⟩:=h
  refine FLe.trans ?_ (tY h2)
  split at h1
  ·rename_i cs b
   simp only[aA,aV,Qb3]at h1
   split at h1
   ·have h0:FLe A { A with bxs:=A.bxs++[b] }:=⟨⟨[],by simp⟩,fun _ h=>h,fun _ h=>h,⟨[],by simp⟩,fun _ h=>Qbv _ h⟩
    exact FLe.trans h0 (xC h1)
   ·cases h1
  ·exact Wan h1
theorem xB (hR:R E.ntmps F σ ρ a w G)(hst:aQ cf ρ none nv Z.lets)(hG:Xad Z nbx G G'):∀ {ss:List LR} {ls:List aW} {A B:Fin} {vs:List Value},(iX nv A ss ls).eval σ=some B->FLe B Z->aD σ ρ G w ls vs ->
  sS G'.own w (Z.xs.map (·.val ρ)) nbx A.xs.length A.q ss vs/\B.xs.length=A.xs.length+pU ss/\B.q=A.q+qL ss
 | [], [], A, B, vs, h, _, hl => by
  simp only[iX,aC,Option.some.injEq]at h
  subst h
  simp only[aD]at hl
  exact⟨hl,rfl,rfl⟩
 |[],_::_,A,B,vs,h,_,_=>by simp[iX,dF]at h
 |_::_,[],A,B,vs,h,_,_=>by simp[iX,dF]at h
 | s :: ss, l :: ls, A, B, vs, h, hZ, hl => by
  simp only[iX,aA,Qbp]at h
  obtain⟨C,h1,h2⟩:=h
  simp only[aD]at hl
  obtain⟨u,us,rfl,h3,h4⟩:=hl
  have hCZ:FLe C Z:=(tY h2).trans hZ
  have key:nT G'.own w (Z.xs.map (·.val ρ)) nbx A.xs.length A.q s u/\C.xs.length=A.xs.length+s.n/\C.q=A.q+s.q:=by
   split at h1
   ·rename_i cs b
    simp only[aA,aV,Qb3]at h1
    split at h1
    ·rename_i bs hk
     obtain⟨h5,h6,h7⟩:=hR.box hk
     simp only[Qbr,if_false]at h6
     obtain⟨h8,h9,h10⟩:=zP hR hG (ad:=G.bx b) (off:=0) h1 hCZ fun j l hj=>by rw[Rbt];exact h7 j l hj
     refine⟨?_,h9,h10⟩
     simp only[aB]at h3
     simp only[nT]
     exact⟨G.bx b,h3.1,h5,hG.bxs b (hCZ.bxs _ ((xC h1).bxs _ (Qby _ (List.mem_singleton.2 rfl)))) _ h6,h8⟩
    ·cases h1
   ·exact Sa0 hR hst h1 hCZ hG h3
  obtain⟨h5,h6,h7⟩:=key
  obtain⟨h8,h9,h10⟩:=xB hR hst hG h2 hZ h4
  rw[h6,h7]at h8
  exact⟨⟨u,us,rfl,h5,h8⟩,by rw[h9,h6];simp only[pU];omega,by rw[h10,h7];simp only[qL];omega⟩
theorem Dar:∀ {rs:List (Bool×List LR)} {vars:List ResultVar} {A B:Fin},(sJ E nv A rs vars).eval σ=some B->FLe A B
 | [], [], A, B, h => by
  simp only[sJ,aC,Option.some.injEq]at h
  subst h
  exact .refl _
 |[],_::_,A,B,h=>by simp[sJ,dF]at h
 |_::_,[],A,B,h=>by simp[sJ,dF]at h
 | (ag, ss) :: rs, .tmp t :: vars, A, B, h => by
  simp only[sJ,aA,aV,Qb3]at h
  split at h
  ·simp only[aA,Qbp]at h
   obtain⟨_,-,ls,-,C,h1,h2⟩:=h
   exact (tY h1).trans (Dar h2)
  ·cases h
 | (ag, ss) :: rs, .cell t ty :: vars, A, B, h => by
  simp only[sJ,aA,Qbp]at h
  obtain⟨ti,-,_,-,_,-,h⟩:=h
  split at h
  ·simp only[aA,aV,Qb3]at h
   split at h
   ·simp only[aA,Qbp]at h
    obtain⟨C,h1,h2⟩:=h
    exact (tY h1).trans (Dar h2)
   ·cases h
  ·cases h
theorem Qac {n t:Nat}{gh:Nat->Value}(h:t<n):a.tmps.getD t undef=Cab n a gh t:=by
 unfold Cab
 rw[if_pos h]
theorem Fad (hti:yA P E.ti)(hR:R E.ntmps F σ ρ a w G)(hst:aQ cf ρ none nv Z.lets)(hG:Xad Z nbx G G'):∀ {rs:List (Bool×List LR)} {vars:List ResultVar} {A B:Fin},(sJ E nv A rs vars).eval σ=some B->FLe B Z ->
  (∀ x∈vars,(Fby a.tmps x).run P w=.ok (Fay P a.tmps w x) w)/\Las G'.own w (Z.xs.map (·.val ρ)) nbx A.xs.length A.q rs (vars.map (Fay P a.tmps w))/\B.xs.length=A.xs.length+bW rs/\B.q=A.q+qR rs
 | [], [], A, B, h, _ => by
  simp only[sJ,aC,Option.some.injEq]at h
  subst h
  exact⟨by simp,rfl,rfl,rfl⟩
 |[],_::_,A,B,h,_=>by simp[sJ,dF]at h
 |_::_,[],A,B,h,_=>by simp[sJ,dF]at h
 | (ag, ss) :: rs, .tmp t :: vars, A, B, h, hZ => by
  simp only[sJ,aA,aV,Qb3]at h
  split at h
  case h_2=>cases h
  rename_i sv hk
  simp only[aA,Qbp,aL,bA]at h
  obtain⟨_,h0,ls,h1,C,h2,h3⟩:=h
  split at h0
  case isFalse=>cases h0
  rename_i ht
  simp only[Rb6]at ht
  have hv:=hR.slot hk rfl
  rw[<- Qac ht]at hv
  have hrun:(Fby a.tmps (.tmp t)).run P w=.ok (a.tmps.getD t undef) w:=rfl
  obtain⟨e1,e2⟩:=Pak hrun
  have hC:=(Dar h3).trans hZ
  obtain⟨h4,h5,h6⟩:=xB hR hst hG h2 hC (jC h1 hv)
  obtain⟨h7,h8,h9,h10⟩:=Fad hti hR hst hG h3 hZ
  rw[h5,h6]at h8
  refine⟨fun x hx=>?_,⟨_,_,_,rfl,h4,?_,h8⟩,by rw[h9,h5];simp only[bW];omega,by rw[h10,h6];simp only[qR];omega⟩
  ·rcases List.mem_cons.1 hx with rfl|hx
   ·exact e2
   ·exact h7 x hx
  ·rw[e1]
   unfold kP at h1
   split at h1
   ·cases ag with
    |true=>cases h1
    | false =>
     rw[aB.cells hv]
     simp
   ·cases ag with
    |false=>cases h1
    | true =>
     obtain⟨us,e,-⟩:=hv
     rw[e]
     simp[Value.cells]
   ·cases h1
 | (ag, ss) :: rs, .cell t ty :: vars, A, B, h, hZ => by
  simp only[sJ,aA,Qbp,bA,aL,aV]at h
  obtain⟨ti,h0,_,h1,c,hc,h⟩:=h
  obtain rfl:=Option.some.inj hc
  split at h1
  case isFalse=>cases h1
  rename_i hb
  simp only[Qbq,beq_iff_eq,Rbv,Rbw,Rb6]at hb
  obtain⟨⟨⟨hag,hsz⟩,hone⟩,ht⟩:=hb
  split at h
  case h_2=>cases h
  rename_i b off hk
  simp only[aA,aV,Qb3]at h
  split at h
  case h_2=>cases h
  rename_i ro ls hkb
  simp only[aA,Qbp]at h
  obtain⟨C,h2,h3⟩:=h
  have hv:aB σ ρ G w (.px b off) _:=hR.slot hk rfl
  rw[<- Qac ht]at hv
  simp only[aB]at hv
  obtain⟨hb1,hb2,hb3⟩:=hR.box hkb
  obtain⟨vs,h4,h5⟩:=nK (σ:=σ) (ρ:=ρ) (G:=G) (w:=w) ((G.bx b).add off) ((ls.drop off).take ti.size) 0 fun j l hj=>by
   rw[List.getElem?_take]at hj
   split at hj
   ·rw[Rb4]at hj
    obtain⟨v,h6,-,h7⟩:=hb3 _ _ hj
    exact⟨v,by rw[add_add,Rbt];exact h6,h7⟩
   ·cases hj
  have hC:=(Dar h3).trans hZ
  obtain⟨h6,h7,h8⟩:=xB hR hst hG h2 hC h4
  have hlen:vs.length=ti.size:=by
   have hfl:∀ {ss:List LR} {vs:List Value} {i q:Nat},sS G'.own w (Z.xs.map (·.val ρ)) nbx i q ss vs->vs.length=ss.length:=by
    intro ss
    induction ss with
    |nil=>intro vs i q h;simp only[sS]at h;subst h;rfl
    | cons s ss ih =>
     intro vs i q h
     obtain⟨u,us,rfl,-,h⟩:=h
     simp[ih h]
   rw[hfl h6,hsz]
  obtain⟨info,ud,hf⟩:=bB (hti.ok _ _ h0)
  have hval:∃ v,if ti.agg=true then v=.agg vs.toArray else vs=[v]:=by
   cases hta:ti.agg with
   |true=>exact⟨_,by rw[if_pos rfl]⟩
   | false =>
    rw[hta]at hone
    simp only[Qbr,false_or]at hone
    rw[hone]at hlen
    match vs,hlen with
    |[v],_=>exact⟨v,by simp⟩
  obtain⟨v,hval⟩:=hval
  have hload:=lN hf ((G.bx b).add off) vs hlen (fun j u hj=>by have:=h5 j u hj;rwa[Rbt]at this) hval
  have hrun:(Fby a.tmps (.cell t ty)).run P w=.ok v w:=by
   show (do loadVar ty (<- asAddr (a.tmps.getD t undef)):Sem Value).run P w=.ok v w
   rw[hv.1]
   simp only[asAddr,Sem.run_bind,Sem.run_pure,Result.andThen_ok]
   exact hload
  obtain⟨e1,e2⟩:=Pak hrun
  obtain⟨h9,h10,h11,h12⟩:=Fad hti hR hst hG h3 hZ
  rw[h7,h8]at h10
  refine⟨fun x hx=>?_,⟨_,_,vs,rfl,h6,?_,h10⟩,by rw[h11,h7];simp only[bW];omega,by rw[h12,h8];simp only[qR];omega⟩
  ·rcases List.mem_cons.1 hx with rfl|hx
   ·exact e2
   ·exact h9 x hx
  ·rw[e1,hag];exact hval
theorem Iaw {t:Nat}:∀ {ms:List Nat} {j:Nat} {A B:Fin},(Fa7 t j ms A).eval σ=some B->FLe A B
 | [], j, A, B, h => by
  simp only[Fa7,aC,Option.some.injEq]at h
  subst h
  exact .refl _
 | d :: ms, j, A, B, h => by
  simp only[Fa7,aA,aV,Qb3]at h
  split at h
  case h_2=>cases h
  rename_i r hk
  simp only[aA,aV,Qb3]at h
  split at h
  case h_2=>cases h
  rename_i x m ver hkr
  simp only[aA,Qbp]at h
  obtain⟨_,-,h⟩:=h
  have h0:FLe A { A with xs:=A.xs++[x],own:=A.own++[(r,2*j+1,d)] }:=⟨⟨_,rfl⟩,fun _ h=>Qbv _ h,fun _ h=>h,⟨[],by simp⟩,fun _ h=>h⟩
  exact h0.trans (Iaw h)
theorem Lac (hR:R E.ntmps F σ ρ a w G)(hG:Xad Z nbx G G'):∀ {ms:List Nat} {j:Nat} {A B:Fin},(Fa7 E.ntmps j ms A).eval σ=some B->FLe B Z ->
  Vaf G'.own w (Z.xs.map (·.val ρ)) F.gh A.xs.length j ms/\B.xs.length=A.xs.length+ms.length/\B.q=A.q
 | [], j, A, B, h, _ => by
  simp only[Fa7,aC,Option.some.injEq]at h
  subst h
  exact⟨trivial,rfl,rfl⟩
 | d :: ms, j, A, B, h, hZ => by
  simp only[Fa7,aA,aV,Qb3]at h
  split at h
  case h_2=>cases h
  rename_i r hk
  simp only[aA,aV,Qb3]at h
  split at h
  case h_2=>cases h
  rename_i x m ver hkr
  simp only[aA,Qbp,aL]at h
  obtain⟨_,h0,h⟩:=h
  split at h0
  case isFalse=>cases h0
  rename_i hb
  simp only[Rb8]at hb
  have hv:aB σ ρ G w (.ex r) _:=hR.slot hk rfl
  have e:Cab E.ntmps a F.gh (E.ntmps+j)=F.gh j:=by
   unfold Cab
   rw[if_neg (by omega),Rb1]
  rw[e]at hv
  simp only[aB]at hv
  have hC:=(Iaw h).trans hZ
  obtain⟨h1,h2,h3⟩:=Lac hR hG h hZ
  simp only[List.length_append,List.length_singleton]at h1 h2
  refine⟨⟨?_,h1⟩,by rw[h2];simp;omega,h3⟩
  rw[hC.get (l:=A.xs) rfl,hv.1]
  have hr:=hR.root hkr
  simp only[dJ]at hr
  exact hr.give hG (hC.own _ (Qby _ (List.mem_singleton.2 rfl))) hb
theorem xD {t:Nat}:∀ {bs:List (Bool×List (BS×BO))} {b:Nat} {A B:Fin},(tZ t A b bs).eval σ=some B->FLe A B
 | [], b, A, B, h => by
  simp only[tZ,aC,Option.some.injEq]at h
  subst h
  exact .refl _
 | (ro, cs) :: bs, b, A, B, h => by
  simp only[tZ]at h
  cases ro with
  |true=>exact xD h
  | false =>
   simp only[cond_false,aA,aV,Qb3]at h
   split at h
   ·simp only[aA,aV,Qb3,Qbp]at h
    obtain⟨_,-,h⟩:=h
    split at h
    ·simp only[aA,Qbp]at h
     obtain⟨C,h1,h2⟩:=h
     exact (xC h1).trans (xD h2)
    ·cases h
   ·cases h
theorem zQ (hR:R E.ntmps F σ ρ a w G)(hG:Xad Z nbx G G'){nm:Nat}{bx:Nat->Addr}{nb:Nat}(hgh:∀ b,b<nb->F.gh (nm+b)=.pointer (some (bx b))):∀ {bs:List (Bool×List (BS×BO))} {b:Nat} {A B:Fin},b+bs.length<=nb->(tZ (E.ntmps+nm) A b bs).eval σ=some B->FLe B Z ->
  qV G'.own w (Z.xs.map (·.val ρ)) bx b A.xs.length A.q bs
 |[],b,A,B,_,h,_=>trivial
 | (ro, cs) :: bs, b, A, B, hnb, h, hZ => by
  simp only[Qbt]at hnb
  simp only[tZ]at h
  cases ro with
  | true =>
   simp only[qV,if_true]
   exact zQ hR hG hgh (by omega) h hZ
  | false =>
   simp only[qV,Qbr,if_false]
   simp only[cond_false,aA,aV,Qb3]at h
   split at h
   case h_2=>cases h
   rename_i b' hk
   simp only[aA,aV,Qb3,Qbp,aL]at h
   obtain⟨_,h0,h⟩:=h
   split at h0
   case isFalse=>cases h0
   rename_i hb
   simp only[Rbv]at hb
   subst hb
   split at h
   case h_2=>cases h
   rename_i ls hkb
   simp only[aA,Qbp]at h
   obtain⟨C,h1,h2⟩:=h
   have hv:aB σ ρ G w (.px b' 0) _:=hR.slot hk rfl
   have e:Cab E.ntmps a F.gh (E.ntmps+nm+b')=F.gh (nm+b'):=by
    unfold Cab
    rw[if_neg (by omega)]
    congr 1
    omega
   rw[e,hgh b' (by omega)]at hv
   simp only[aB]at hv
   have hbx:bx b'=G.bx b':=by
    have:=hv.1
    injection this with this
    injection this
   obtain⟨h5,h6,h7⟩:=hR.box hkb
   obtain⟨h8,h9,h10⟩:=zP hR hG (ad:=G.bx b') (off:=0) h1 ((xD h2).trans hZ) fun j l hj=>by rw[Rbt];exact h7 j l hj
   have h11:=zQ hR hG hgh (b:=b'+1) (by omega) h2 hZ
   rw[h9,h10,Rbf]at h11
   rw[hbx]
   exact⟨h8,h11⟩
end
theorem Da2:∀ {l:List (Nat×Nat×Nat)} {r t m:Nat},distinct (l.map (·.1))=true->(r,t,m)∈l->l.find? (fun z=>Nat.beq z.1 r)=some (r,t,m)
 |[],r,t,m,_,h=>by simp at h
 | (r', t', m') :: l, r, t, m, hd, h => by
  simp only[Rbh,distinct,Qbq,Rbe]at hd
  rcases List.mem_cons.1 h with h1|h1
  ·obtain⟨rfl,rfl,rfl⟩:r=r'/\t=t'/\m=m':=by simpa using h1
   simp
  ·have hne:Nat.beq r' r=false:=by
    cases e:Nat.beq r' r with
    |false=>rfl
    | true =>
     simp only[Rbv]at e
     subst e
     have:has (l.map (·.1)) r'=true:=oJ.2 (List.mem_map.2 ⟨_,h1,rfl⟩)
     rw[hd.1]at this
     cases this
   rw[List.find?_cons_of_neg (by simp[hne])]
   exact Da2 hd.2 h1
def Na1 (Z:Fin)(nbx:Nat)(G:Gh):Gh:={ G with own:=fun b=>match G.own b with
 | .slc r p => (match Z.own.find? (fun z => Nat.beq z.1 r) with
  |some (_,t,m)=>if p.length<m then .slc t p else .frz
  |none=>if r∈Z.frz then .frz else .oth)
 |.box β=>if β<nbx then .box β else if β∈Z.bxs then .box nbx else .oth
 |o=>o }
theorem Ebo {Z:Fin}{nbx:Nat}{G:Gh}(hd:distinct (Z.own.map (·.1))=true)(hm:meets (Z.own.map (·.1)) Z.frz=false)(hb:(Z.bxs.any fun b=>Nat.blt b nbx)=false):Xad Z nbx G (Na1 Z nbx G):=by
 refine⟨fun b hb=>by simp only[Na1,hb],fun r t m hz b p hb=>?_,fun r hr b p hb=>?_,fun β hβ b hbb=>?_⟩
 ·simp only[Na1,hb,Da2 hd hz]
 ·have:Z.own.find? (fun z=>Nat.beq z.1 r)=none:=by
   rw[List.find?_eq_none]
   intro z hz e
   simp only[Rbv]at e
   exact rV hm (List.mem_map.2 ⟨z,hz,rfl⟩) (by rw[e];exact hr)
  simp only[Na1,hb,this,if_pos hr]
 ·rw[Tbj]at hb
  have:=hb β hβ
  simp only[Rb6]at this
  simp only[Na1,hbb,if_neg this,if_pos hβ]
section
variable {P:Program} {E:Env} {F:bU} {ρ:List D} {cf:Nat->List D->Option (List D)}
theorem Wam (hti:yA P E.ti){s:Sig}{rvars:List ResultVar}{st:St}{t:Tm St}(h:finish E s rvars st=some t){o:Out St}(ho:Ec cf t ρ=some o)(hl:ρ.length=st.nv)(hi:Jam E st) :
  o.kind=.ret/\∀ a w G (fn:Func) (bx:Nat->Addr),fn.results.toList=rvars->(∀ b,b<s.boxes.length->F.gh ((fG (s.params.flatMap (·.2))).length+b)=.pointer (some (bx b))) ->
   (∀ b j,b<F.w0.heap.size->F.own0 b=.box j->j<s.boxes.length)->R E.ntmps F st.get ρ a w G ->
   ∃ v,(results fn a.tmps).run P w=.ok v w/\Tan s F bx v w o.vals:=by
 unfold finish at h
 split at h
 case h_2=>cases h
 rename_i Z hZ
 generalize hb:(distinct (Z.own.map (·.1))&&!(meets (Z.own.map (·.1)) Z.frz)&&!(Z.bxs.any fun b=>Nat.blt b s.boxes.length)&&fP st.nv Z.lets)=b at h
 cases b with
 |false=>cases h
 | true =>
  rw[cond_true]at h
  obtain rfl:=Option.some.inj h
  simp only[Qbq,Rbe]at hb
  obtain⟨⟨⟨hb1,hb2⟩,hb3⟩,hb4⟩:=hb
  obtain⟨ds,h4,h5,h6⟩:=yF (g:=none) rfl (by rw[hl];exact hb4) ho
  rw[gY]at h5
  obtain rfl:=Option.some.inj h5
  refine⟨rfl,fun a w G fn bx hfn hgh hbox hR=>?_⟩
  have hst:=h6 []
  rw[Rbm,hl]at hst
  have hR:=hR.ext hi.sc (by omega) ds
  have hG:=Ebo (G:=G) hb1 hb2 hb3
  simp only[Fb0,aA,Qbp]at hZ
  obtain⟨A,h7,B,h8,h9⟩:=hZ
  have hB:=xD h9
  have hA:=(Iaw h8).trans hB
  obtain⟨h10,h11,h12,h13⟩:=Fad (cf:=cf) hti hR hst hG h7 hA
  obtain⟨h14,h15,h16⟩:=Lac hR hG h8 hB
  have h17:=zQ hR hG hgh (b:=0) (by omega) h9 (.refl _)
  simp only[Qbu,Rbt]at h11 h12 h13
  rw[h12]at h14 h15
  rw[h15,h16,h13]at h17
  refine⟨Fax (fn.results.toList.map (Fay P a.tmps w)),?_,Na1 Z s.boxes.length G,_,by rw[hfn],?_,h11,h14,h17⟩
  ·have hm:(fn.results.mapM (Fby a.tmps)).run P w=.ok (fn.results.map (Fay P a.tmps w)) w:=Bab _ _ _ (by rw[hfn];exact h10)
   have e:results fn a.tmps=(do let vs <- fn.results.mapM (Fby a.tmps);pure (if h:vs.size=1 then vs[0] else Value.tuple vs)):=rfl
   rw[e,Sem.run_bind,hm]
   simp only[Result.andThen_ok,Sem.run_pure]
   rw[Ya4,Array.toList_map]
  ·refine⟨hR.frame.os,hR.frame.tape,hR.frame.output,hR.frame.size,fun b hb ho=>?_,fun b j hb ho=>?_,fun b hb=>?_⟩
   ·obtain⟨h18,h19⟩:=hR.frame.keep b hb ho
    refine⟨h18,?_⟩
    rcases ho with ho|ho<;>rw[ho]at h19 ⊢<;>simp only[Na1,h19]
   ·obtain⟨h18,h19⟩:=hR.frame.boxes b j hb ho
    refine⟨?_,h19⟩
    simp only[Na1,h18,if_pos (hbox b j hb ho)]
   ·simp only[Na1,hR.frame.fresh b hb]
end
end Go.Proofs.YtdpfilpckndhcaaGreatDoor.Rf

namespace Go.Proofs.YtdpfilpckndhcaaGreatDoor.Rf
set_option linter.unusedVariables false
set_option linter.unusedSimpArgs false
def Goes (P:Program)(f:Nat)(args:Array Value)(w:World)(K:Value->World->Prop):Prop :=
 ((callFunc f args).run P w=.ok (.enter f args) w/\Calls P f args w fun
  |.returned v,w'=>K v w'
  |_,_=>False)\/∃ v w',(callFunc f args).run P w=.ok (.value v) w'/\K v w'
def Eag (P:Program)(T:Nat->Ent)(n key:Nat)(s:Sig):Prop :=
 ∀ vals w G ds ds',Fbk s vals w G ds->kY T n key ds=some ds'->Goes P s.fn vals.toArray w fun v w'=>Tan s (uQ s G w) G.bx v w' ds'
def sU (P:Program)(X:(Nat->Ow)->World->Prop)(T:Nat->Ent)(n key:Nat)(s:Sig):Prop :=
 ∀ vals w G ds ds',Fbk s vals w G ds->X G.own w->kY T n key ds=some ds'->Goes P s.fn vals.toArray w fun v w'=>Tan s (uQ s G w) G.bx v w' ds'
def Stable (X:(Nat->Ow)->World->Prop):Prop :=
 ∀ (own0:Nat->Ow) (w0:World) (own:Nat->Ow) (w:World),w0.heap.size<=w.heap.size->(∀ b,b<w0.heap.size->own0 b=.frz->w.heap[b]?=w0.heap[b]?/\own b=.frz)->X own0 w0->X own w
theorem oU {P : Program} {f : FuncId} {fn : Func} {c : Code} (hf : P.funcs[f]? = some fn) (hname : (fn.name == "runtime.NumGoroutine") = false) (hb : fn.body = some c) (args : Array Value) (w : World) :
  (callFunc f args).run P w=.ok (.enter f args) w:=by
 have h1 : fn.name ≠ "runtime.NumGoroutine" := by simpa using hname
 simp[callFunc,hf,h1,hb]
theorem Zar:∀ (ss:List LS) (r:Nat),(fQ r ss).length=(fG ss).length
 |[],r=>rfl
 | s :: ss, r => by
  cases s<;>simp[fQ,fG,Zar ss]
theorem Paq:∀ (n a j:Nat),j<n->(range a n)[j]?=some (a+j)
 |0,a,j,h=>by omega
 |n+1,a,0,h=>rfl
 | n + 1, a, j + 1, h => by
  simp only[range,Rbz]
  rw[Paq n (a+1) j (by omega)]
  congr 1
  omega
theorem Bbj {s:Sig}{G:Gh}{w:World}{b:Nat}(h:b<s.boxes.length):(uQ s G w).gh ((fG (s.params.flatMap (·.2))).length+b)=.pointer (some (G.bx b)):=by
 simp only[uQ,Iao,Qb5]
 rw[Rbb (by simp[Zar]),Rbf,Zar,Rb1,Rbu,Paq _ _ _ h]
 simp
theorem Naw {P : Program} {X : (Nat -> Ow) -> World -> Prop} {E : Env} {T : Nat -> Ent} {n key : Nat} {s : Sig} {fn : Func} {tm : Tm Unit} (hti : yA P E.ti) (hm : P.follows .mixedOrders = true) (hfn : P.funcs[s.fn]? = some fn) (hname : (fn.name == "runtime.NumGoroutine") = false)
  (hx:Vav E s fn=some tm) (hT:T key=.tm tm) (hcalls:∀ F,X F.own0 F.w0->Caa P { E with ntmps:=fn.ntmps,ngh:=pY s } F (kY T n)):sU P X T (n+1) key s:=by
 intro vals w G ds ds' hpre hX hrun
 simp only[kY,hT,Qbp]at hrun
 obtain⟨o,hrun,hret⟩:=hrun
 unfold Gb3 at hret
 split at hret
 case isFalse=>cases hret
 rename_i hk
 obtain rfl:=Option.some.inj hret
 unfold Vav at hx
 split at hx
 case h_1=>cases hx
 rename_i c hbody
 cases hle:Nat.ble s.params.length fn.ntmps with
 |false=>rw[hle]at hx;cases hx
 | true =>
  rw[hle]at hx
  simp only[Bool.not_true,cond_false,bind,Qbp,Option.some.injEq]at hx
  obtain⟨tc,htc,t,ht,rfl⟩:=hx
  simp only[Rb8]at hle
  rw[Va5,Option.map_eq_some_iff]at hrun
  obtain⟨o0,hrun,rfl⟩:=hrun
  have hev:Ec (kY T n) t ds=some o0:=Jan.2 ⟨n,hrun⟩
  obtain⟨o1,h1,h2⟩:=mV (fun st r hr ρ o ho=>by
   split at hr
   ·rename_i t' hf
    obtain rfl:=Option.some.inj hr
    unfold finish at hf
    split at hf
    case h_2=>cases hf
    rename_i Z hZ
    revert hf
    generalize (distinct (Z.own.map (·.1))&&!(meets (Z.own.map (·.1)) Z.frz)&&!(Z.bxs.any fun b=>Nat.blt b s.boxes.length)&&fP st.nv Z.lets)=b
    intro hf
    cases b with
    |false=>cases hf
    | true =>
     rw[cond_true]at hf
     obtain rfl:=Option.some.inj hf
     exact nY ho
   ·obtain rfl:=Option.some.inj hr
    rw[jR]at ho;cases ho) rfl (fun _=>rfl) ht hev
  rcases h2 with ⟨h2,h3,r,h4,h5⟩|⟨h2,h3⟩
  case inr =>
   subst h3
   have hk':o0.kind=.ret:=hk
   rw[hk']at h2
   cases h2
  unfold Fbn at htc
  dsimp only at htc
  generalize hwf:Haf (entry s fn.ntmps) (entry s fn.ntmps).nr _=b at htc
  cases b with
  |false=>simp[kX]at htc
  | true =>
   rw[cond_true]at htc
   have hinv:Jam { E with ntmps:=fn.ntmps,ngh:=pY s } (entry s fn.ntmps):=Abw hwf rfl
   obtain⟨hlen,hR⟩:=Hbu (n:=fn.ntmps) hpre hle
   have hds:ds.length=(entry s fn.ntmps).nv:=by rw[(Faf s fn.ntmps).1];exact hpre.len
   obtain⟨hp,hw⟩:=uK (E:={ E with ntmps:=fn.ntmps,ngh:=pY s }) (F:=uQ s G w) hti (hcalls _ hX) hm c htc h1 hds hinv
   refine .inl ⟨oU hfn hname hbody _ _,?_⟩
   refine calls_of_wp hfn hbody ?_
   rw[show vals.toArray.size=vals.length by simp]
   refine hw _ w G _ hR fun a' w' G' hR'=>?_
   split at h4
   case h_2 =>
    obtain rfl:=Option.some.inj h4
    rw[jR]at h5;cases h5
   rename_i t' hf
   obtain rfl:=Option.some.inj h4
   obtain⟨h6,h7⟩:=Wam (E:={ E with ntmps:=fn.ntmps,ngh:=pY s }) (F:=uQ s G w) hti hf h5 hp.len hp.inv
   obtain⟨v,h8,h9⟩:=h7 a' w' G' fn G.bx rfl (fun b hb=>Bbj hb) (fun b j hb ho=>(hpre.cells b j hb ho).1) hR'
   have hd:=hR'.defers
   revert h2
   cases o1.kind with
   |fall=>exact fun _=>⟨hd,v,h8,h9⟩
   |ret=>exact fun _=>⟨hd,v,h8,h9⟩
   |exit i=>intro h;cases h
   |cont=>intro h;cases h
   |yield i=>intro h;cases h
end Go.Proofs.YtdpfilpckndhcaaGreatDoor.Rf

namespace Go.Proofs.YtdpfilpckndhcaaGreatDoor.Rf
set_option linter.unusedVariables false
set_option linter.unusedSimpArgs false
def strip:List Nat->List Nat->Option (List Nat)
 |[],p=>some p
 |a::q,b::p=>if a=b then strip q p else none
 |_::_,[]=>none
theorem Fat:∀ (q t:List Nat),strip q (q++t)=some t
 |[],t=>rfl
 |a::q,t=>by simp[strip,Fat q t]
theorem Kal:∀ {q p t:List Nat},strip q p=some t->p=q++t
 |[],p,t,h=>by simpa[strip] using h
 |a::q,[],t,h=>by simp[strip]at h
 | a :: q, b :: p, t, h => by
  simp only[strip]at h
  split at h
  ·rename_i e
   rw[e,Kal h];rfl
  ·cases h
def Zaq (w:World):Value->List Nat->Value
 |v,[]=>v
 |.slice (some a) _ _,k::p=>Zaq w ((w.cell? (a.add k)).getD undef) p
 |_,_::_=>undef
theorem Ea4 {own:Nat->Ow}{w:World}{r:Nat}:∀ {p q:List Nat} {v u:Value},Cae own w r q v p u->Zaq w v p=u
 |[],q,v,u,h=>by simp only[Cae]at h;rw[h];cases v<;>rfl
 | k :: p, q, v, u, h => by
  obtain⟨a,n,c,u',rfl,-,h2,h3⟩:=h
  simp only[Zaq,h2,Sbr]
  exact Ea4 h3
section
variable (ρ:List D) (dr:List Nat)
def oD:Nat->List RT->Nat->List Nat->Ow
 |_,[],r,_=>if r∈dr then .frz else .oth
 |ν,.nil::t,r,p=>oD (ν+1) t r p
 |ν,.own s d::t,r,p=>if r=s then (if p.length<d then .slc ν p else .frz) else oD (ν+1) t r p
 |ν,.mu s d q _::t,r,p=>if r=s then (match strip (bJ ρ q) p with | some t'=>if t'.length<d then .slc ν t' else .frz | none=>.oth) else oD (ν+1) t r p
end
def Sac (ptrs:List (Nat×Nat×Nat))(c:Nat):Nat->List (Bool×List (BS×BO))->Option Nat
 |_,[]=>none
 | b, (ro, _) :: r => if ro = true then Sac ptrs c (b + 1) r else match rR b ptrs with
  |some (c',_)=>if c'=c then some b else Sac ptrs c (b+1) r
  |none=>Sac ptrs c (b+1) r
def Lbn (ρ:List D)(G:Gh)(w:World):RT->Value
 |.nil=>.slice none 0 0
 |.own r _=>G.hdr r
 |.mu r _ q _=>Zaq w (G.hdr r) (bJ ρ q)
def callG (ρ:List D)(G:Gh)(w:World)(s:Sig)(Z:Take):Gh:={
 own:=fun b=>match G.own b with
  |.slc r p=>oD ρ (Z.deps.map (·.1)) 0 Z.rts r p
  | .box c => (match Sac Z.ptrs c 0 s.boxes with
   |some j=>if b=(G.bx c).block then .box j else .oth
   |none=>.oth)
  |o=>o
 hdr:=fun ν=>((Z.rts[ν]?).map (Lbn ρ G w)).getD undef
 bx:=fun b=>match rR b Z.ptrs with
  |some (c,off)=>(G.bx c).add off
  |none=>⟨0,0,none⟩ }
theorem vD {ρ:List D}{dr:List Nat}{r:Nat}{p:List Nat}:∀ {rts:List RT} {ν:Nat},r∉dO rts->oD ρ dr ν rts r p=if r∈dr then .frz else .oth
 |[],ν,h=>rfl
 |.nil::t,ν,h=>vD (rts:=t) h
 | .own s d :: t, ν, h => by
  simp only[dO,Rbk,not_or]at h
  simp only[oD,if_neg h.1]
  exact vD h.2
 | .mu s d q X :: t, ν, h => by
  simp only[dO,Rbk,not_or]at h
  simp only[oD,if_neg h.1]
  exact vD h.2
theorem wI:∀ {rts:List RT} {ν r:Nat},(∃ d,rts[ν]?=some (.own r d))\/(∃ d q X,rts[ν]?=some (.mu r d q X))->r∈dO rts
 |[],ν,r,h=>by simp at h
 | x :: t, 0, r, h => by
  simp only[Qb4,Option.some.injEq]at h
  rcases h with ⟨d,rfl⟩|⟨d,q,X,rfl⟩<;>exact Qb7
 | x :: t, ν + 1, r, h => by
  have:=wI (rts:=t) (ν:=ν) (r:=r) (by simpa using h)
  cases x with
  |nil=>exact this
  |own s d=>exact Qb2 _ this
  |mu s d q X=>exact Qb2 _ this
theorem Caz {ρ:List D}{dr:List Nat}{r d:Nat}{p:List Nat}:∀ {rts:List RT} {ν0 ν:Nat},distinct (dO rts)=true->rts[ν]?=some (.own r d)->oD ρ dr ν0 rts r p=if p.length<d then .slc (ν0+ν) p else .frz
 |[],ν0,ν,_,h=>by simp at h
 | x :: t, ν0, 0, hd, h => by
  simp only[Qb4,Option.some.injEq]at h
  subst h
  simp[oD]
 | x :: t, ν0, ν + 1, hd, h => by
  simp only[Rbz]at h
  have hm:=wI (.inl ⟨d,h⟩)
  cases x with
  | nil =>
   simp only[oD]
   rw[Caz (rts:=t) hd h,show ν0+1+ν=ν0+(ν+1) by omega]
  | own s d' =>
   simp only[dO,distinct,Qbq,Rbe]at hd
   have hne:r≠s:=fun e=>by rw[e,<- oJ,hd.1]at hm;cases hm
   simp only[oD,if_neg hne]
   rw[Caz hd.2 h,show ν0+1+ν=ν0+(ν+1) by omega]
  | mu s d' q X =>
   simp only[dO,distinct,Qbq,Rbe]at hd
   have hne:r≠s:=fun e=>by rw[e,<- oJ,hd.1]at hm;cases hm
   simp only[oD,if_neg hne]
   rw[Caz hd.2 h,show ν0+1+ν=ν0+(ν+1) by omega]
theorem Ga1 {ρ:List D}{dr:List Nat}{r d:Nat}{q:List (aM×Nat×Nat)}{X:aM}{p:List Nat}:∀ {rts:List RT} {ν0 ν:Nat},distinct (dO rts)=true->rts[ν]?=some (.mu r d q X) ->
  oD ρ dr ν0 rts r p=match strip (bJ ρ q) p with|some t'=>if t'.length<d then .slc (ν0+ν) t' else .frz|none=>.oth
 |[],ν0,ν,_,h=>by simp at h
 | x :: t, ν0, 0, hd, h => by
  simp only[Qb4,Option.some.injEq]at h
  subst h
  simp[oD]
 | x :: t, ν0, ν + 1, hd, h => by
  simp only[Rbz]at h
  have hm:=wI (.inr ⟨d,q,X,h⟩)
  cases x with
  | nil =>
   simp only[oD]
   rw[Ga1 (rts:=t) hd h,show ν0+1+ν=ν0+(ν+1) by omega]
  | own s d' =>
   simp only[dO,distinct,Qbq,Rbe]at hd
   have hne:r≠s:=fun e=>by rw[e,<- oJ,hd.1]at hm;cases hm
   simp only[oD,if_neg hne]
   rw[Ga1 hd.2 h,show ν0+1+ν=ν0+(ν+1) by omega]
  | mu s d' q' X' =>
   simp only[dO,distinct,Qbq,Rbe]at hd
   have hne:r≠s:=fun e=>by rw[e,<- oJ,hd.1]at hm;cases hm
   simp only[oD,if_neg hne]
   rw[Ga1 hd.2 h,show ν0+1+ν=ν0+(ν+1) by omega]
structure TLe (A B:Take):Prop where
 xs:∃ l,B.xs=A.xs++l
 ptrs:∀ z∈A.ptrs,z∈B.ptrs
 deps:∀ z∈A.deps,z∈B.deps
 lets:∃ l,B.lets=A.lets++l
 rts:∃ l,B.rts=A.rts++l
theorem TLe.refl (A:Take):TLe A A:=⟨⟨[],by simp⟩,fun _ h=>h,fun _ h=>h,⟨[],by simp⟩,⟨[],by simp⟩⟩
theorem TLe.trans {A B C:Take}(h:TLe A B)(h':TLe B C):TLe A C:=by
 obtain⟨⟨l,h1⟩,h2,h3,⟨m,h4⟩,⟨k,h5⟩⟩:=h
 obtain⟨⟨l',h1'⟩,h2',h3',⟨m',h4'⟩,⟨k',h5'⟩⟩:=h'
 exact⟨⟨l++l',by rw[h1',h1,Qb1]⟩,fun z hz=>h2' z (h2 z hz),fun z hz=>h3' z (h3 z hz),⟨m++m',by rw[h4',h4,Qb1]⟩,⟨k++k',by rw[h5',h5,Qb1]⟩⟩
theorem TLe.get {A B:Take}(h:TLe A B){ρ:List D}{x:aM}{l:List aM}(hx:A.xs=l++[x]):(aM.v l.length).val (B.xs.map (·.val ρ))=x.val ρ:=by
 obtain⟨m,h1⟩:=h.xs
 rw[h1,hx]
 simp only[aM.val,Qb5]
 simp
theorem TLe.rt {A B:Take}(h:TLe A B){x:RT}{l:List RT}(hx:A.rts=l++[x]):B.rts[l.length]?=some x:=by
 obtain⟨m,h1⟩:=h.rts
 rw[h1,hx]
 simp
structure Lar (s:Sig) (Z:Take):Prop where
 ptrs:∀ b c off,(b,c,off)∈Z.ptrs->b<s.boxes.length/\rR b Z.ptrs=some (c,off)
 dist:distinct (dO Z.rts)=true
 deps:∀ z∈Z.deps,z.1∉dO Z.rts
 wr:distinct (jH false Z.ptrs 0 s.boxes)=true
 ro:meets (jH false Z.ptrs 0 s.boxes) (jH true Z.ptrs 0 s.boxes)=false
theorem Iaa {nbx:Nat}{ptrs:List (Nat×Nat×Nat)}:∀ {l:List (Nat×Nat×Nat)},Uac nbx ptrs l=true->∀ b c off,(b,c,off)∈l->b<nbx/\rR b ptrs=some (c,off)
 |[],_,b,c,off,h=>by simp at h
 | (b', c', off') :: l, h, b, c, off, hm => by
  simp only[Uac,Qbq,Rb6]at h
  rcases List.mem_cons.1 hm with e|hm
  ·obtain⟨rfl,rfl,rfl⟩:b=b'/\c=c'/\off=off':=by simpa using e
   refine⟨h.1.1,?_⟩
   have h2:=h.1.2
   split at h2
   ·rename_i e
    simp only[Qbq,Rbv]at h2
    rw[e,h2.1,h2.2]
   ·cases h2
  ·exact Iaa h.2 b c off hm
theorem Rat {s:Sig}{Z:Take}(h:Xas s Z=true):Lar s Z:=by
 simp only[Xas,Qbq,Rbe]at h
 obtain⟨⟨⟨⟨h1,h2⟩,h3⟩,h4⟩,h5⟩:=h
 refine⟨Iaa h1,h2,fun z hz hm=>?_,h4,h5⟩
 rw[Tbj]at h3
 exact h3 z hz (oJ.2 hm)
section
variable {E:Env} {F:bU} {σ:Nat->Option aU} {ρ:List D} {a:Act} {w:World} {G:Gh} {g:Option (aM×Bool)} {cf:Nat->List D->Option (List D)} {s:Sig} {Z:Take} {nv:Nat}
theorem sM {b:Nat}(h:G.own b=.frz):(callG ρ G w s Z).own b=.frz:=by simp only[callG,h]
theorem Bbi (hk:Lar s Z){b r k:Nat}{p:List Nat}(hz:(r,k)∈Z.deps)(h:G.own b=.slc r p):(callG ρ G w s Z).own b=.frz:=by
 simp only[callG,h]
 rw[vD (hk.deps _ hz),if_pos (List.mem_map.2 ⟨_,hz,rfl⟩)]
theorem Bbh (hk:Lar s Z){b r d ν:Nat}{p:List Nat}(hz:Z.rts[ν]?=some (.own r d))(h:G.own b=.slc r p):(callG ρ G w s Z).own b=if p.length<d then .slc ν p else .frz:=by
 simp only[callG,h]
 rw[Caz hk.dist hz,Rbt]
theorem Na6 (hk:Lar s Z){b r d ν:Nat}{q:List (aM×Nat×Nat)}{X:aM}{p:List Nat}(hz:Z.rts[ν]?=some (.mu r d q X))(h:G.own b=.slc r p) :
  (callG ρ G w s Z).own b=match strip (bJ ρ q) p with|some t'=>if t'.length<d then .slc ν t' else .frz|none=>.oth:=by
 simp only[callG,h]
 rw[Ga1 hk.dist hz,Rbt]
theorem Da7 {ν:Nat}{x:RT}(h:Z.rts[ν]?=some x):(callG ρ G w s Z).hdr ν=Lbn ρ G w x:=by
 simp only[callG,h];rfl
theorem Rd.callG (hk:Lar s Z){deps:List (Nat×Nat)}(hd:∀ z∈deps,z∈Z.deps){v:Value}{d:D}(h:Rd (allow G deps) w v d):Rd (fun b=>(Go.Proofs.YtdpfilpckndhcaaGreatDoor.Rf.callG ρ G w s Z).own b=.frz) w v d:=by
 refine h.mono fun b hb=>⟨?_,rfl⟩
 rcases hb with hb|⟨r,k,p,hm,hb⟩
 ·exact sM hb
 ·exact Bbi hk (hd _ hm) hb
theorem Vap (hg:gOn ρ g=true){A B:Take}{l:aW}(h:(Oar g A l).eval σ=some B){v:Value}(hl:aB σ ρ G w l v) :
  ∃ x,B={ A with xs:=A.xs++[x] }/\Sc v (x.val ρ):=by
 simp only[Oar,aA,Qbp,bA,aC,Option.some.injEq]at h
 obtain⟨x,h1,rfl⟩:=h
 exact⟨x,rfl,kL hg h1 hl⟩
theorem Oav {A B:Take}{nie:Bool}{l:aW}(h:(uV A nie l).eval σ=some B):TLe A B:=by
 simp only[uV,aA,Qbp,aC,Option.some.injEq]at h
 obtain⟨s,h1,rfl⟩:=h
 exact⟨⟨_,rfl⟩,fun _ h=>h,fun _ h=>Qbv _ h,⟨_,rfl⟩,⟨[],by simp⟩⟩
theorem Kah (hR:R E.ntmps F σ ρ a w G)(hg:gOn ρ g=true)(hst:aQ cf ρ g nv Z.lets)(hk:Lar s Z){A B:Take}{nie:Bool}{l:aW}(h:(uV A nie l).eval σ=some B)(hZ:TLe B Z){v:Value}(hl:aB σ ρ G w l v) :
  Rd (fun b=>(callG ρ G w s Z).own b=.frz) w v ((aM.v A.xs.length).val (Z.xs.map (·.val ρ)))/\(nie=true->∀ z,(aM.v A.xs.length).val (Z.xs.map (·.val ρ))=.rows z []->v=.slice none 0 0) /\
  B.xs.length=A.xs.length+1/\B.rts=A.rts:=by
 simp only[uV,aA,Qbp,aC,Option.some.injEq]at h
 obtain⟨sl,h1,rfl⟩:=h
 have hs:=fF hR h1 hl
 rw[hZ.get (l:=A.xs) rfl]
 refine⟨hs.rd.callG hk fun z hz=>hZ.deps _ (Qby _ hz),fun hn z hz=>?_,by simp,rfl⟩
 cases hsn:sl.nie with
 |true=>exact hs.nie hsn z hz
 | false =>
  exfalso
  obtain⟨lr,hlr⟩:=hZ.lets
  dsimp only at hlr
  rw[hlr,hn,hsn]at hst
  simp only[Bool.not_false,Bool.and_self,cond_true]at hst
  rw[Qb1]at hst
  have hst2:=(aQ.append (aQ.append hst).2).1
  obtain⟨ds,h2,-,-⟩:=step1 hst2 hg
  simp only[Rbh,Rbq,hz,aO.run]at h2
  simp at h2
theorem Oas {A B:Take}{d:Nat}{l:aW}(h:(xQ A d l).eval σ=some B):TLe A B:=by
 unfold xQ at h
 split at h
 ·simp only[aA,aV,Qb3]at h
  split at h
  ·simp only[aA,aL,Qbp,aC,Option.some.injEq]at h
   obtain⟨_,-,rfl⟩:=h
   exact⟨⟨_,rfl⟩,fun _ h=>h,fun _ h=>h,⟨[],by simp⟩,⟨_,rfl⟩⟩
  ·cases h
 ·simp only[aC,Option.some.injEq]at h
  subst h
  exact⟨⟨_,rfl⟩,fun _ h=>h,fun _ h=>h,⟨[],by simp⟩,⟨_,rfl⟩⟩
 ·cases h
theorem Kae (hR:R E.ntmps F σ ρ a w G)(hk:Lar s Z){A B:Take}{d:Nat}{l:aW}(h:(xQ A d l).eval σ=some B)(hZ:TLe B Z){v:Value}(hl:aB σ ρ G w l v) :
  v=(callG ρ G w s Z).hdr A.rts.length/\Rp (callG ρ G w s Z).own w A.rts.length [] d v ((aM.v A.xs.length).val (Z.xs.map (·.val ρ)))/\B.xs.length=A.xs.length+1/\B.rts.length=A.rts.length+1:=by
 unfold xQ at h
 split at h
 ·rename_i r
  simp only[aA,aV,Qb3]at h
  split at h
  ·rename_i x m ver hkr
   simp only[aA,aL,Qbp,aC,Option.some.injEq]at h
   obtain⟨_,h1,rfl⟩:=h
   split at h1
   case isFalse=>cases h1
   rename_i hb
   simp only[Rb8]at hb
   simp only[aB]at hl
   have hrt:=hZ.rt (l:=A.rts) rfl
   rw[hZ.get (l:=A.xs) rfl]
   refine⟨by rw[Da7 hrt];exact hl.1,?_,by simp,by simp⟩
   rw[hl.1]
   have hr:=hR.root hkr
   simp only[dJ]at hr
   exact hr.move (fun b hb _=>⟨sM hb,rfl⟩) [] d hb fun b t hb=>⟨by rw[Bbh hk hrt hb];rfl,rfl⟩
  ·cases h
 ·rename_i nie z
  simp only[aC,Option.some.injEq]at h
  subst h
  simp only[aB]at hl
  have hv:=(hl.2 (by simp)).2.1 trivial z rfl
  have hrt:=hZ.rt (l:=A.rts) rfl
  rw[hZ.get (l:=A.xs) rfl]
  refine⟨by rw[Da7 hrt];exact hv,?_,by simp,by simp⟩
  rw[hv]
  cases d with
  |zero=>exact .fz (.rows none ⟨0,0,none⟩ 0 0 z [] (fun _ _=>undef) rfl (Qbw _) (.inl rfl) (by simp) (by simp) (by simp))
  |succ m=>exact .sl none ⟨0,0,none⟩ 0 0 z [] (fun _ _=>undef) rfl (Qbw _) (.inr ⟨rfl,rfl⟩) (by simp) (fun e=>by cases e) (by simp) (by simp)
 ·cases h
theorem Xat {A B:Take}{d:Nat}{l:aW}(h:(Kag A d l).eval σ=some B):TLe A B:=by
 simp only[Kag,aA,Qbp]at h
 obtain⟨sl,h1,h⟩:=h
 split at h
 ·simp only[aA,aL,aV,Qb3,Qbp]at h
  obtain⟨_,-,h⟩:=h
  split at h
  ·simp only[aC,Option.some.injEq]at h
   subst h
   exact⟨⟨_,rfl⟩,fun _ h=>h,fun _ h=>h,⟨[],by simp⟩,⟨_,rfl⟩⟩
  ·cases h
 ·cases h
theorem Vat (hR:R E.ntmps F σ ρ a w G)(hk:Lar s Z){A B:Take}{d:Nat}{l:aW}(h:(Kag A d l).eval σ=some B)(hZ:TLe B Z){v:Value}(hl:aB σ ρ G w l v) :
  v=(callG ρ G w s Z).hdr A.rts.length/\Rp (callG ρ G w s Z).own w A.rts.length [] d v ((aM.v A.xs.length).val (Z.xs.map (·.val ρ)))/\B.xs.length=A.xs.length+1/\B.rts.length=A.rts.length+1:=by
 simp only[Kag,aA,Qbp]at h
 obtain⟨sl,h1,h⟩:=h
 have hs:=fF hR h1 hl
 split at h
 case h_2=>cases h
 rename_i r k m q ho
 simp only[aA,aL,aV,Qb3,Qbp]at h
 obtain⟨_,h2,h⟩:=h
 split at h2
 case isFalse=>cases h2
 rename_i hb
 simp only[Rb8]at hb
 split at h
 case h_2=>cases h
 rename_i X m' v' hkr
 simp only[aC,Option.some.injEq]at h
 subst h
 have hown:=hs.own
 unfold xZ at hown
 rw[ho]at hown
 obtain⟨h3,h4,h5,h6,h7⟩:=hown
 have hrt:=hZ.rt (l:=A.rts) rfl
 rw[hZ.get (l:=A.xs) rfl]
 refine⟨by rw[Da7 hrt];exact (Ea4 h7).symm,?_,by simp,by simp⟩
 refine h6.move (fun b hb _=>⟨sM hb,rfl⟩) [] d (by omega) fun b t hb=>⟨?_,rfl⟩
 rw[Na6 hk hrt hb,Fat]
 rfl
theorem Xar {A B:Take}{z:Nat}{l:aW}(h:(Hap A z l).eval σ=some B):TLe A B:=by
 unfold Hap at h
 split at h
 ·simp only[aA,Qbp,aC,Option.some.injEq]at h
  obtain⟨_,-,rfl⟩:=h
  exact⟨⟨_,rfl⟩,fun _ h=>h,fun _ h=>Qbv _ h,⟨[],by simp⟩,⟨[],by simp⟩⟩
 ·simp only[aC,Option.some.injEq]at h
  subst h
  exact⟨⟨_,rfl⟩,fun _ h=>h,fun _ h=>h,⟨[],by simp⟩,⟨[],by simp⟩⟩
 ·cases h
theorem Vaq (hR:R E.ntmps F σ ρ a w G)(hk:Lar s Z){A B:Take}{z:Nat}{l:aW}(h:(Hap A z l).eval σ=some B)(hZ:TLe B Z){v:Value}(hl:aB σ ρ G w l v) :
  v.oneCell'=true/\Bbo (fun b=>(callG ρ G w s Z).own b=.frz) w v ((aM.v A.xs.length).val (Z.xs.map (·.val ρ)))/\B.xs.length=A.xs.length+1/\B.rts=A.rts:=by
 unfold Hap at h
 split at h
 ·rename_i deps sz' x
  simp only[aA,Qbp,aC,Option.some.injEq]at h
  obtain⟨ds,h1,rfl⟩:=h
  simp only[aB]at hl
  obtain⟨h3,h4,h5⟩:=jL h1
  rw[hZ.get (l:=A.xs) rfl]
  refine⟨hl.1.1,?_,by simp,rfl⟩
  rcases hl.2 h3 with h6|⟨ad,row,h6,h7,h8⟩
  ·exact .inl h6
  ·exact .inr ⟨ad,row,h6,h7,(h8.drop hR h5).callG hk fun z hz=>hZ.deps _ (Qby _ hz)⟩
 ·simp only[aC,Option.some.injEq]at h
  subst h
  simp only[aB]at hl
  rw[hZ.get (l:=A.xs) rfl]
  exact⟨by rw[hl];rfl,.inl ⟨hl,_,rfl⟩,by simp,rfl⟩
 ·cases h
theorem Qa7 (hk:Lar s Z){b c off:Nat}(h:(b,c,off)∈Z.ptrs):(callG ρ G w s Z).bx b=(G.bx c).add off/\b<s.boxes.length:=by
 obtain⟨h1,h2⟩:=hk.ptrs b c off h
 refine⟨?_,h1⟩
 simp only[callG,h2]
theorem Da6:∀ {cs:List LS} {ls:List aW} {acc l:List (Nat×Nat×Nat)},kH cs ls acc=some l->∀ z∈acc,z∈l
 | [], [], acc, l, h, z, hz => by
  simp only[kH,Option.some.injEq]at h
  rw[<- h];exact hz
 |[],_::_,acc,l,h,z,hz=>by simp[kH]at h
 |c::cs,[],acc,l,h,z,hz=>by cases c<;>simp[kH]at h
 | c :: cs, x :: ls, acc, l, h, z, hz => by
  cases c<;>cases x<;>simp only[kH,reduceCtorEq]at h
  exact Da6 h z (Qb2 _ hz)
theorem Da5 (hk:Lar s Z):∀ {cs:List LS} {ls:List aW} {acc l:List (Nat×Nat×Nat)},kH cs ls acc=some l->(∀ z∈l,z∈Z.ptrs)->∀ {vs:List Value},aD σ ρ G w ls vs->Fan (callG ρ G w s Z) s.boxes.length cs vs
 |[],[],acc,l,h,_,vs,hl=>by simpa[Fan,aD] using hl
 |[],_::_,acc,l,h,_,_,_=>by simp[kH]at h
 |c::cs,[],acc,l,h,_,_,_=>by cases c<;>simp[kH]at h
 | c :: cs, x :: ls, acc, l, h, hz, vs, hl => by
  cases c<;>cases x<;>simp only[kH,reduceCtorEq]at h
  rename_i b c off
  simp only[aD]at hl
  obtain⟨u,us,rfl,h1,h2⟩:=hl
  obtain⟨h3,h4⟩:=Qa7 (ρ:=ρ) (G:=G) (w:=w) hk (hz _ (Da6 h _ Qb7))
  simp only[aB]at h1
  exact⟨u,us,rfl,⟨by rw[h3];exact h1.1,h4⟩,Da5 hk h hz h2⟩
theorem Rau {A B:Take}{t:LS}{l:aW}(h:(vW g A t l).eval σ=some B):TLe A B:=by
 unfold vW at h
 split at h
 ·simp only[Oar,aA,Qbp,aC,Option.some.injEq]at h
  obtain⟨x,-,rfl⟩:=h
  exact⟨⟨_,rfl⟩,fun _ h=>h,fun _ h=>h,⟨[],by simp⟩,⟨[],by simp⟩⟩
 ·exact Oav h
 ·exact Xat h
 ·exact Oas h
 ·simp only[aC,Option.some.injEq]at h
  subst h
  exact⟨⟨[],by simp⟩,fun _ h=>Qbv _ h,fun _ h=>h,⟨[],by simp⟩,⟨[],by simp⟩⟩
 ·split at h
  ·rw[iR]at h
   split at h
   ·simp only[aC,Option.some.injEq]at h
    subst h
    exact⟨⟨[],by simp⟩,fun _ h=>Qbv _ h,fun _ h=>h,⟨[],by simp⟩,⟨[],by simp⟩⟩
   ·cases h
  ·cases h
 ·exact Xar h
 ·cases h
theorem Oat (hR:R E.ntmps F σ ρ a w G)(hg:gOn ρ g=true)(hst:aQ cf ρ g nv Z.lets)(hk:Lar s Z){A B:Take}{t:LS}{l:aW}(h:(vW g A t l).eval σ=some B)(hZ:TLe B Z){v:Value}(hl:aB σ ρ G w l v) :
  mD (callG ρ G w s Z) w (Z.xs.map (·.val ρ)) s.boxes.length A.xs.length A.rts.length t v/\B.xs.length=A.xs.length+t.cnt/\B.rts.length=A.rts.length+t.rcnt:=by
 unfold vW at h
 split at h
 ·obtain⟨x,rfl,h1⟩:=Vap hg h hl
  refine⟨?_,by simp[LS.cnt],rfl⟩
  simp only[mD]
  rw[hZ.get (l:=A.xs) rfl]
  exact h1
 ·obtain⟨h1,h2,h3,h4⟩:=Kah hR hg hst hk h hZ hl
  exact⟨⟨h1,h2⟩,h3,by rw[h4];rfl⟩
 ·obtain⟨h1,h2,h3,h4⟩:=Vat hR hk h hZ hl
  exact⟨⟨h1,h2⟩,h3,h4⟩
 ·obtain⟨h1,h2,h3,h4⟩:=Kae hR hk h hZ hl
  exact⟨⟨h1,h2⟩,h3,h4⟩
 ·rename_i b c off
  simp only[aC,Option.some.injEq]at h
  subst h
  obtain⟨h1,h2⟩:=Qa7 (ρ:=ρ) (G:=G) (w:=w) hk (hZ.ptrs _ (Qby _ (List.mem_singleton.2 rfl)))
  simp only[aB]at hl
  exact⟨⟨by rw[h1];exact hl.1,h2⟩,rfl,rfl⟩
 ·rename_i f cs f' ls
  split at h
  ·rename_i l' hc
   rw[iR]at h
   split at h
   ·rename_i hf
    simp only[Rbv]at hf
    subst hf
    simp only[aC,Option.some.injEq]at h
    subst h
    simp only[aB]at hl
    obtain⟨vs,h1,h2⟩:=hl
    exact⟨⟨vs,h1,Da5 hk hc (fun z hz=>hZ.ptrs _ (Qby _ hz)) h2⟩,rfl,rfl⟩
   ·cases h
  ·cases h
 ·obtain⟨h1,h2,h3,h4⟩:=Vaq hR hk h hZ hl
  exact⟨⟨h1,h2⟩,h3,by rw[h4];rfl⟩
 ·cases h
theorem vV:∀ {ss:List LS} {ls:List aW} {A B:Take},(dW g A ss ls).eval σ=some B->TLe A B
 | [], [], A, B, h => by
  simp only[dW,aC,Option.some.injEq]at h
  subst h;exact .refl _
 |[],_::_,A,B,h=>by simp[dW,dF]at h
 |_::_,[],A,B,h=>by simp[dW,dF]at h
 | t :: ss, l :: ls, A, B, h => by
  simp only[dW,aA,Qbp]at h
  obtain⟨C,h1,h2⟩:=h
  exact (Rau h1).trans (vV h2)
theorem Aa8 (hR:R E.ntmps F σ ρ a w G)(hg:gOn ρ g=true)(hst:aQ cf ρ g nv Z.lets)(hk:Lar s Z):∀ {ss:List LS} {ls:List aW} {A B:Take},(dW g A ss ls).eval σ=some B->TLe B Z->∀ {vs:List Value},aD σ ρ G w ls vs ->
  vT (callG ρ G w s Z) w (Z.xs.map (·.val ρ)) s.boxes.length A.xs.length A.rts.length ss vs/\B.xs.length=A.xs.length+Wa9 ss/\B.rts.length=A.rts.length+kU ss
 | [], [], A, B, h, _, vs, hl => by
  simp only[dW,aC,Option.some.injEq]at h
  subst h
  simp only[aD]at hl
  exact⟨hl,rfl,rfl⟩
 |[],_::_,A,B,h,_,_,_=>by simp[dW,dF]at h
 |_::_,[],A,B,h,_,_,_=>by simp[dW,dF]at h
 | t :: ss, l :: ls, A, B, h, hZ, vs, hl => by
  simp only[dW,aA,Qbp]at h
  obtain⟨C,h1,h2⟩:=h
  simp only[aD]at hl
  obtain⟨u,us,rfl,h3,h4⟩:=hl
  obtain⟨h5,h6,h7⟩:=Oat hR hg hst hk h1 ((vV h2).trans hZ) h3
  obtain⟨h8,h9,h10⟩:=Aa8 hR hg hst hk h2 hZ h4
  rw[h6,h7]at h8
  exact⟨⟨u,us,rfl,h5,h8⟩,by rw[h9,h6];simp only[Wa9];omega,by rw[h10,h7];simp only[kU];omega⟩
theorem Haq:∀ {ps:List (Bool×List LS)} {vs:List SV} {A B:Take},(gH g A ps vs).eval σ=some B->TLe A B
 | [], [], A, B, h => by
  simp only[gH,aC,Option.some.injEq]at h
  subst h;exact .refl _
 |[],_::_,A,B,h=>by simp[gH,dF]at h
 |_::_,[],A,B,h=>by simp[gH,dF]at h
 | (ag, ss) :: ps, v :: vs, A, B, h => by
  simp only[gH,aA,Qbp]at h
  obtain⟨ls,-,C,h1,h2⟩:=h
  exact (vV h1).trans (Haq h2)
def vS (σ:Nat->Option aU)(ρ:List D)(G:Gh)(w:World):List SV->List Value->Prop
 |[],us=>us=[]
 |v::vs,us=>∃ u us',us=u::us'/\dV σ ρ G w v u/\vS σ ρ G w vs us'
theorem Jaz {ag:Bool}{v:SV}{ls:List aW}{u:Value}(h:kP ag v=some ls)(hv:dV σ ρ G w v u):if ag=true then u=.agg u.cells.toList.toArray else u.cells.toList=[u]:=by
 unfold kP at h
 split at h
 ·cases ag with
  |true=>cases h
  | false =>
   rw[aB.cells hv]
   simp
 ·cases ag with
  |false=>cases h
  | true =>
   obtain⟨us,rfl,-⟩:=hv
   simp[Value.cells]
 ·cases h
theorem Fas (hR:R E.ntmps F σ ρ a w G)(hg:gOn ρ g=true)(hst:aQ cf ρ g nv Z.lets)(hk:Lar s Z):∀ {ps:List (Bool×List LS)} {vs:List SV} {A B:Take},(gH g A ps vs).eval σ=some B->TLe B Z->∀ {us:List Value},vS σ ρ G w vs us ->
  lM (callG ρ G w s Z) w (Z.xs.map (·.val ρ)) s.boxes.length A.xs.length A.rts.length ps us/\B.xs.length=A.xs.length+Lag ps/\B.rts.length=A.rts.length+jV ps
 | [], [], A, B, h, _, us, hl => by
  simp only[gH,aC,Option.some.injEq]at h
  subst h
  simp only[vS]at hl
  exact⟨hl,rfl,rfl⟩
 |[],_::_,A,B,h,_,_,_=>by simp[gH,dF]at h
 |_::_,[],A,B,h,_,_,_=>by simp[gH,dF]at h
 | (ag, ss) :: ps, v :: vs, A, B, h, hZ, us, hl => by
  simp only[gH,aA,Qbp,bA]at h
  obtain⟨ls,h0,C,h1,h2⟩:=h
  obtain⟨u,us',rfl,h3,h4⟩:=hl
  obtain⟨h5,h6,h7⟩:=Aa8 hR hg hst hk h1 ((Haq h2).trans hZ) (jC h0 h3)
  obtain⟨h8,h9,h10⟩:=Fas hR hg hst hk h2 hZ h4
  rw[h6,h7]at h8
  exact⟨⟨u,us',_,rfl,h5,Jaz h0 h3,h8⟩,by rw[h9,h6];simp only[Lag];omega,by rw[h10,h7];simp only[jV];omega⟩
end
end Go.Proofs.YtdpfilpckndhcaaGreatDoor.Rf

namespace Go.Proofs.YtdpfilpckndhcaaGreatDoor.Rf
set_option linter.unusedVariables false
set_option linter.unusedSimpArgs false
theorem xK {wr:Bool}{ptrs:List (Nat×Nat×Nat)}:∀ {bs:List (Bool×List (BS×BO))} {b j c off:Nat} {cs:List (BS×BO)},bs[j]?=some (wr,cs)->rR (b+j) ptrs=some (c,off)->c∈jH wr ptrs b bs
 |[],b,j,c,off,cs,h,_=>by simp at h
 | (ro, ds) :: bs, b, 0, c, off, cs, h, hp => by
  simp only[Qb4,Option.some.injEq,Prod.mk.injEq]at h
  rw[Rby]at hp
  simp only[jH,h.1,hp]
  simp
 | (ro, ds) :: bs, b, j + 1, c, off, cs, h, hp => by
  have:=xK (bs:=bs) (b:=b+1) (j:=j) (by simpa using h) (by rw[show b+1+j=b+(j+1) by omega];exact hp)
  simp only[jH]
  cases (ro==wr) with
  |false=>exact this
  | true =>
   simp only[cond_true]
   split
   ·exact Qb2 _ this
   ·exact this
theorem Cav {ptrs:List (Nat×Nat×Nat)}{c:Nat}:∀ {bs:List (Bool×List (BS×BO))} {b:Nat},c∉jH false ptrs b bs->Sac ptrs c b bs=none
 |[],b,h=>rfl
 | (ro, cs) :: bs, b, h => by
  simp only[jH]at h
  simp only[Sac]
  cases ro with
  |true=>simp only[if_true];exact Cav h
  | false =>
   simp only[Qbr,if_false]
   have e:(false==false)=true:=rfl
   rw[e,cond_true]at h
   split
   ·rename_i c' off hp
    rw[hp]at h
    simp only[Rbk,not_or]at h
    rw[if_neg fun e=>h.1 e.symm]
    exact Cav h.2
   ·rename_i hp
    rw[hp]at h
    exact Cav h
theorem vC {ptrs:List (Nat×Nat×Nat)}{c off:Nat}{cs:List (BS×BO)}:∀ {bs:List (Bool×List (BS×BO))} {b j:Nat},distinct (jH false ptrs b bs)=true->bs[j]?=some (false,cs)->rR (b+j) ptrs=some (c,off)->Sac ptrs c b bs=some (b+j)
 |[],b,j,_,h,_=>by simp at h
 | (ro, ds) :: bs, b, 0, hd, h, hp => by
  simp only[Qb4,Option.some.injEq,Prod.mk.injEq]at h
  rw[Rby]at hp
  simp only[Sac,h.1,hp]
  simp
 | (ro, ds) :: bs, b, j + 1, hd, h, hp => by
  have hp':rR (b+1+j) ptrs=some (c,off):=by rw[show b+1+j=b+(j+1) by omega];exact hp
  have hm:=xK (wr:=false) (bs:=bs) (b:=b+1) (j:=j) (by simpa using h) hp'
  simp only[jH]at hd
  simp only[Sac]
  cases ro with
  | true =>
   have e:(true==false)=false:=rfl
   rw[e,cond_false]at hd
   simp only[if_true]
   rw[vC hd (by simpa using h) hp',show b+1+j=b+(j+1) by omega]
  | false =>
   have e:(false==false)=true:=rfl
   rw[e,cond_true]at hd
   simp only[Qbr,if_false]
   split
   ·rename_i c' off' hp2
    rw[hp2]at hd
    simp only[distinct,Qbq,Rbe]at hd
    have hne:c'≠c:=fun e=>by rw[<- e,<- oJ,hd.1]at hm;cases hm
    rw[if_neg hne,vC hd.2 (by simpa using h) hp',show b+1+j=b+(j+1) by omega]
   ·rename_i hp2
    rw[hp2]at hd
    rw[vC hd (by simpa using h) hp',show b+1+j=b+(j+1) by omega]
theorem Gaz {ptrs:List (Nat×Nat×Nat)}{c x:Nat}:∀ {bs:List (Bool×List (BS×BO))} {b:Nat},Sac ptrs c b bs=some x->∃ j cs off,x=b+j/\bs[j]?=some (false,cs)/\rR x ptrs=some (c,off)
 |[],b,h=>by simp[Sac]at h
 | (ro, cs) :: bs, b, h => by
  simp only[Sac]at h
  have next:Sac ptrs c (b+1) bs=some x->∃ j cs' off,x=b+j/\((ro,cs)::bs)[j]?=some (false,cs')/\rR x ptrs=some (c,off):=by
   intro h
   obtain⟨j,cs',off,h1,h2,h3⟩:=Gaz h
   exact⟨j+1,cs',off,by omega,by simpa using h2,h3⟩
  split at h
  ·exact next h
  ·rename_i hro
   split at h
   ·rename_i c' off hp
    split at h
    ·rename_i e
     subst e
     obtain rfl:=Option.some.inj h
     refine⟨0,cs,off,rfl,?_,hp⟩
     cases ro with
     |true=>exact absurd rfl hro
     |false=>rfl
    ·exact next h
   ·exact next h
section
variable {E:Env} {F:bU} {σ:Nat->Option aU} {ρ:List D} {a:Act} {w:World} {G:Gh} {g:Option (aM×Bool)} {cf:Nat->List D->Option (List D)} {s:Sig} {Z:Take} {nv:Nat}
theorem Ras {A B:Take}{d:Nat}{l:aW}(h:(xQ A d l).eval σ=some B):B.ptrs=A.ptrs:=by
 unfold xQ at h
 split at h
 ·simp only[aA,aV,Qb3]at h
  split at h
  ·simp only[aA,aL,Qbp,aC,Option.some.injEq]at h
   obtain⟨_,-,rfl⟩:=h;rfl
  ·cases h
 ·simp only[aC,Option.some.injEq]at h
  subst h;rfl
 ·cases h
theorem tF {A B:Take}{t:BS}{l:aW}(h:(Caj A t l).eval σ=some B):(∃ x,t=.sc/\l=.sc x/\B={ A with xs:=A.xs++[x] })\/(∃ nie,t=.fz nie/\(uV A nie l).eval σ=some B)\/(∃ d,t=.ow d/\(xQ A d l).eval σ=some B)\/(t=.ot/\Oa3 l=true/\B=A):=by
 cases t with
 | sc =>
  cases l<;>simp only[Caj,dF,reduceCtorEq]at h
  simp only[aC,Option.some.injEq]at h
  exact .inl ⟨_,rfl,rfl,h.symm⟩
 | fz nie =>
  have h':(uV A nie l).eval σ=some B:=by cases l<;>exact h
  exact .inr (.inl ⟨nie,rfl,h'⟩)
 | ow d =>
  have h':(xQ A d l).eval σ=some B:=by cases l<;>exact h
  exact .inr (.inr (.inl ⟨d,rfl,h'⟩))
 | ot =>
  have h':(bif Oa3 l then RdM.ret A else .no:RdM Take).eval σ=some B:=by cases l<;>exact h
  rw[iR]at h'
  split at h'
  ·rename_i hb
   simp only[aC,Option.some.injEq]at h'
   exact .inr (.inr (.inr ⟨rfl,hb,h'.symm⟩))
  ·cases h'
theorem Rav {A B:Take}{t:BS}{l:aW}(h:(Caj A t l).eval σ=some B):TLe A B/\B.ptrs=A.ptrs:=by
 have hinv:=tF h
 clear h
 rcases hinv with ⟨x,rfl,rfl,rfl⟩|⟨nie,rfl,h⟩|⟨d,rfl,h⟩|⟨rfl,-,rfl⟩
 ·exact⟨⟨⟨_,rfl⟩,fun _ h=>h,fun _ h=>h,⟨[],by simp⟩,⟨[],by simp⟩⟩,rfl⟩
 ·refine⟨Oav h,?_⟩
  unfold uV at h
  simp only[aA,Qbp,aC,Option.some.injEq]at h
  obtain⟨s,h1,rfl⟩:=h
  rfl
 ·exact⟨Oas h,Ras h⟩
 ·exact⟨.refl _,rfl⟩
theorem Oaw (hR:R E.ntmps F σ ρ a w G)(hg:gOn ρ g=true)(hst:aQ cf ρ g nv Z.lets)(hk:Lar s Z){A B:Take}{t:BS}{l:aW}(h:(Caj A t l).eval σ=some B)(hZ:TLe B Z){v:Value}(hl:aB σ ρ G w l v) :
  Aab (callG ρ G w s Z) w (Z.xs.map (·.val ρ)) A.xs.length A.rts.length t v/\B.xs.length=A.xs.length+t.cnt/\B.rts.length=A.rts.length+t.rcnt:=by
 have hinv:=tF h
 clear h
 rcases hinv with ⟨x,rfl,rfl,rfl⟩|⟨nie,rfl,h⟩|⟨d,rfl,h⟩|⟨rfl,hs,rfl⟩
 ·refine⟨?_,by simp[BS.cnt],rfl⟩
  simp only[Aab]
  rw[hZ.get (l:=A.xs) rfl]
  simpa[aB] using hl
 ·obtain⟨h1,h2,h3,h4⟩:=Kah hR hg hst hk h hZ hl
  exact⟨⟨h1,h2⟩,h3,by rw[h4];rfl⟩
 ·obtain⟨h1,h2,h3,h4⟩:=Kae hR hk h hZ hl
  exact⟨⟨h1,h2⟩,h3,h4⟩
 ·exact⟨hl.one hs,rfl,rfl⟩
theorem tC:∀ {ss:List (BS×BO)} {ls:List aW} {A B:Take},(fJ A ss ls).eval σ=some B->TLe A B/\B.ptrs=A.ptrs
 | [], ls, A, B, h => by
  simp only[fJ,aC,Option.some.injEq]at h
  subst h;exact⟨.refl _,rfl⟩
 |_::_,[],A,B,h=>by simp[fJ,dF]at h
 | (t, o) :: ss, l :: ls, A, B, h => by
  simp only[fJ,aA,Qbp]at h
  obtain⟨C,h1,h2⟩:=h
  obtain⟨h3,h4⟩:=Rav h1
  obtain⟨h5,h6⟩:=tC h2
  exact⟨h3.trans h5,h6.trans h4⟩
theorem Cah (hR:R E.ntmps F σ ρ a w G)(hg:gOn ρ g=true)(hst:aQ cf ρ g nv Z.lets)(hk:Lar s Z){ad:Addr}:∀ {ss:List (BS×BO)} {ls:List aW} {A B:Take} {off:Nat},(fJ A ss ls).eval σ=some B->TLe B Z ->
  (∀ j l,ls[j]?=some l->∃ v,w.cell? (ad.add (off+j))=some v/\w.frozen? (ad.add (off+j))=false/\aB σ ρ G w l v) ->
  Had (callG ρ G w s Z) w (Z.xs.map (·.val ρ)) ad off A.xs.length A.rts.length ss/\B.xs.length=A.xs.length+Bbv ss/\B.rts.length=A.rts.length+yR ss
 | [], ls, A, B, off, h, _, _ => by
  simp only[fJ,aC,Option.some.injEq]at h
  subst h
  exact⟨trivial,rfl,rfl⟩
 |_::_,[],A,B,off,h,_,_=>by simp[fJ,dF]at h
 | (t, o) :: ss, l :: ls, A, B, off, h, hZ, hl => by
  simp only[fJ,aA,Qbp]at h
  obtain⟨C,h1,h2⟩:=h
  obtain⟨v,h3,h4,h5⟩:=hl 0 l rfl
  obtain⟨h6,h7,h8⟩:=Oaw hR hg hst hk h1 ((tC h2).1.trans hZ) h5
  obtain⟨h9,h10,h11⟩:=Cah hR hg hst hk (off:=off+1) h2 hZ fun j l' hj=>by
   have:=hl (j+1) l' (by simpa using hj)
   rwa[show off+(j+1)=off+1+j by omega]at this
  rw[h7,h8]at h9
  exact⟨⟨⟨v,h3,h4,h6⟩,h9⟩,by rw[h10,h7];simp only[Bbv];omega,by rw[h11,h8];simp only[yR];omega⟩
def Pb8 (σ:Nat->Option aU)(ptrs:List (Nat×Nat×Nat))(b:Nat)(ro:Bool)(cs:List (BS×BO)):Prop :=
 ∃ c off ro' ls,rR b ptrs=some (c,off)/\σ (kB c)=some (.box ro' ls)/\off+cs.length<=ls.length/\(ro=false->ro'=false/\0<cs.length)
theorem mE {ptrs:List (Nat×Nat×Nat)}:∀ {bs:List (Bool×List (BS×BO))} {b:Nat} {A B:Take},(fZ ptrs A b bs).eval σ=some B->TLe A B/\B.ptrs=A.ptrs/\∀ j ro cs,bs[j]?=some (ro,cs)->Pb8 σ ptrs (b+j) ro cs
 | [], b, A, B, h => by
  simp only[fZ,aC,Option.some.injEq]at h
  subst h;exact⟨.refl _,rfl,by simp⟩
 | (ro, cs) :: bs, b, A, B, h => by
  simp only[fZ]at h
  split at h
  case h_2=>cases h
  rename_i c off hp
  simp only[aA,aV,Qb3]at h
  split at h
  case h_2=>cases h
  rename_i ro' ls hkb
  simp only[aA,aL,Qbp]at h
  obtain⟨_,h0,C,h1,h2⟩:=h
  split at h0
  case isFalse=>cases h0
  rename_i hb
  simp only[Qbq,Rbw,Rbe,Rb8]at hb
  obtain⟨h3,h4⟩:=tC h1
  obtain⟨h5,h6,h7⟩:=mE h2
  refine⟨h3.trans h5,h6.trans h4,fun j ro2 cs2 hj=>?_⟩
  cases j with
  | zero =>
   simp only[Qb4,Option.some.injEq,Prod.mk.injEq]at hj
   obtain⟨rfl,rfl⟩:=hj
   refine⟨c,off,ro',ls,hp,hkb,hb.2,fun e=>?_⟩
   rcases hb.1 with h8|h8
   ·rw[e]at h8;cases h8.1
   ·refine⟨h8.1.2,?_⟩
    cases cs with
    |nil=>have:=h8.2;simp at this
    |cons=>simp
  | succ j =>
   rw[show b+(j+1)=b+1+j by omega]
   exact h7 j ro2 cs2 (by simpa using hj)
theorem Vac {ad:Addr}{n:Nat}(h:ad.spot=none):(ad.add n).spot=none:=by
 unfold Addr.add
 split
 ·exact h
 ·rfl
theorem Tal {ad:Addr}{n:Nat}:(ad.add n).off=ad.off+n:=by
 unfold Addr.add
 split
 ·rename_i h;rw[h];rfl
 ·rfl
theorem Cak (hR:R E.ntmps F σ ρ a w G)(hg:gOn ρ g=true)(hst:aQ cf ρ g nv Z.lets)(hk:Lar s Z):∀ {bs:List (Bool×List (BS×BO))} {b:Nat} {A B:Take},(∀ j x,bs[j]?=some x->s.boxes[b+j]?=some x)->(fZ Z.ptrs A b bs).eval σ=some B->TLe B Z ->
  Hae (callG ρ G w s Z) w (Z.xs.map (·.val ρ)) b A.xs.length A.rts.length bs/\B.xs.length=A.xs.length+Bbw bs
 | [], b, A, B, _, h, _ => by
  simp only[fZ,aC,Option.some.injEq]at h
  subst h
  exact⟨trivial,rfl⟩
 | (ro, cs) :: bs, b, A, B, hbs, h, hZ => by
  simp only[fZ]at h
  split at h
  case h_2=>cases h
  rename_i c off hp
  simp only[aA,aV,Qb3]at h
  split at h
  case h_2=>cases h
  rename_i ro' ls hkb
  simp only[aA,aL,Qbp]at h
  obtain⟨_,h0,C,h1,h2⟩:=h
  split at h0
  case isFalse=>cases h0
  rename_i hb
  simp only[Qbq,Rbw,Rbe,Rb8]at hb
  have hCZ:=(mE h2).1.trans hZ
  obtain⟨h3,h4,h5⟩:=hR.box hkb
  have hbx:(callG ρ G w s Z).bx b=(G.bx c).add off:=by simp only[callG,hp]
  have hsb:=hbs 0 _ rfl
  rw[Rby]at hsb
  have hp':rR (0+b) Z.ptrs=some (c,off):=by rw[Rbt];exact hp
  obtain⟨h6,h7,h8⟩:=Cah hR hg hst hk (ad:=(G.bx c).add off) (off:=0) h1 hCZ fun j l hj=>by
   rw[Rb4]at hj
   obtain⟨v,h9,h10,h11⟩:=h5 _ l hj
   exact⟨v,by rw[add_add,Rbt];exact h9,by rw[add_add,Rbt];exact h10,h11⟩
  obtain⟨h9,h10⟩:=Cak hR hg hst hk (b:=b+1) (fun j x hj=>by
   rw[show b+1+j=b+(j+1) by omega]
   exact hbs (j+1) x (by simpa using hj)) h2 hZ
  rw[h7,h8]at h9
  refine⟨⟨by rw[hbx];exact Vac h3,?_,by rw[hbx];exact h6,h9⟩,by rw[h10,h7];simp only[Bbw];omega⟩
  rw[hbx,add_block]
  cases ro with
  | true =>
   simp only[if_true]
   have hm:=xK (wr:=true) hsb hp'
   cases ro' with
   |true=>simp only[callG,h4,if_true]
   | false =>
    simp only[Qbr,if_false]at h4
    simp only[callG,h4]
    rw[Cav fun hm'=>rV hk.ro hm' hm]
  | false =>
   simp only[Qbr,if_false]
   rcases hb.1 with h11|h11
   ·cases h11.1
   ·have hro:ro'=false:=h11.1.2
    subst hro
    simp only[Qbr,if_false]at h4
    simp only[callG,h4]
    rw[vC hk.wr hsb hp']
    simp
theorem Eb4 (hR:R E.ntmps F σ ρ a w G)(hg:gOn ρ g=true)(hst:aQ cf ρ g nv Z.lets)(hk:Lar s Z){T:Take}{vs:List SV}(h1:(gH g Take.empty s.params vs).eval σ=some T)(h2:(fZ T.ptrs T 0 s.boxes).eval σ=some Z)
  {us:List Value} (hu:vS σ ρ G w vs us):Fbk s us w (callG ρ G w s Z) (Z.xs.map (·.val ρ)):=by
 obtain⟨h3,h4,h5⟩:=mE h2
 obtain⟨h6,h7,h8⟩:=Fas hR hg hst hk h1 h3 hu
 rw[<- h4]at h2
 obtain⟨h9,h10⟩:=Cak hR hg hst hk (by simp) h2 (.refl _)
 have e1:Take.empty.xs.length=0:=rfl
 have e2:Take.empty.rts.length=0:=rfl
 rw[e1,e2]at h6
 rw[e1,Rbt]at h7
 rw[e2,Rbt]at h8
 rw[h7,h8]at h9
 refine⟨h6,h9,by rw[Rbf,h10,h7],fun b hb=>sM (hR.frame.fresh b hb),fun b j hb hj=>?_⟩
 cases e:G.own b with
 | slc r p =>
  exfalso
  simp only[callG,e]at hj
  have:∀ (rts:List RT) (ν:Nat),oD ρ (Z.deps.map (·.1)) ν rts r p≠.box j:=by
   intro rts
   induction rts with
   |nil=>intro ν h;simp only[oD]at h;split at h<;>cases h
   | cons x t ih =>
    intro ν h
    cases x with
    |nil=>exact ih _ h
    | own s d =>
     simp only[oD]at h
     split at h
     ·split at h<;>cases h
     ·exact ih _ h
    | mu s d q X =>
     simp only[oD]at h
     split at h
     ·split at h
      ·split at h<;>cases h
      ·cases h
     ·exact ih _ h
  exact this _ _ hj
 | box c =>
  simp only[callG,e]at hj
  split at hj
  case h_2=>cases hj
  rename_i x hx
  split at hj
  case isFalse=>cases hj
  rename_i hbk
  injection hj with hj
  subst hj
  obtain⟨j,cs,off,e1,e2,e3⟩:=Gaz hx
  rw[Rbt]at e1
  subst e1
  refine⟨(List.getElem?_eq_some_iff.1 e2).1,?_⟩
  rw[h4]at e3
  have:=h5 x _ _ e2
  rw[Rbt]at this
  obtain⟨c',off',ro',ls,h11,h12,h13,h14⟩:=this
  rw[e3]at h11
  obtain⟨rfl,rfl⟩:c=c'/\off=off':=by simpa using h11
  obtain⟨-,-,h15⟩:=hR.box h12
  have hlt:0<ls.length:=by have:=(h14 rfl).2;omega
  obtain⟨v,h16,-,-⟩:=h15 0 _ (Qbz hlt)
  rw[hbk]
  unfold World.cell? at h16
  rw[add_block]at h16
  cases hh:w.heap[(G.bx c).block]? with
  |none=>rw[hh]at h16;cases h16
  | some blk =>
   rw[hh]at h16
   cases blk with
   |cells c0 e fr=>exact⟨c0,e,fr,rfl⟩
   |_=>simp at h16
 |frz=>rw[sM e]at hj;cases hj
 |oth=>simp only[callG,e]at hj;cases hj
end
end Go.Proofs.YtdpfilpckndhcaaGreatDoor.Rf

namespace Go.Proofs.YtdpfilpckndhcaaGreatDoor.Rf
set_option linter.unusedVariables false
set_option linter.unusedSimpArgs false
def Nar:Ow->Bool
 |.slc _ _=>true
 |_=>false
def qD (r:Nat):List RT->Option RT
 |[]=>none
 |.nil::t=>qD r t
 |.own s d::t=>if r=s then some (.own s d) else qD r t
 |.mu s d q X::t=>if r=s then some (.mu s d q X) else qD r t
def Bax (ρ:List D)(rts:List RT):Ow->Ow
 | .slc r p => match qD r rts with
  |some (.own _ _)=>.frz
  | some (.mu _ d q _) => match strip (bJ ρ q) p with
   |some t=>if t.length<d then .slc r p else .frz
   |none=>.slc r p
  |_=>.slc r p
 |o=>o
def xM (gd:Bool)(ρ:List D)(nr nb nbx:Nat)(mus:List RT):Ow->Ow
 | .slc t p => if t % 2 = 0 then (if gd = true then .frz else if t / 2 < dM then .slc (nr + t / 2) p else .oth) else (match mus[t / 2]? with
  |some (.mu r _ q _)=>.slc r (bJ ρ q++p)
  |_=>.oth)
 |.box β=>if β=nbx then .box nb else .oth
 |o=>o
def gK (gd:Bool)(ρ:List D)(G:Gh)(w:World)(s:Sig)(Z:Take)(nr nb:Nat)(own':Nat->Ow)(hs:List Value)(adn:Addr):Gh:={
 own:=fun b=>if b<w.heap.size/\Nar ((callG ρ G w s Z).own b)=false then Bax ρ Z.rts (G.own b) else xM gd ρ nr nb s.boxes.length (Z.rts.filter zI) (own' b)
 hdr:=fun r=>if nr<=r/\r<nr+dM then hs.getD (r-nr) undef else G.hdr r
 bx:=fun b=>if b=nb then adn else G.bx b }
theorem wK {r:Nat}:∀ {rts:List RT},r∉dO rts->qD r rts=none
 |[],_=>rfl
 |.nil::t,h=>wK (rts:=t) h
 | .own s d :: t, h => by
  simp only[dO,Rbk,not_or]at h
  simp only[qD,if_neg h.1]
  exact wK h.2
 | .mu s d q X :: t, h => by
  simp only[dO,Rbk,not_or]at h
  simp only[qD,if_neg h.1]
  exact wK h.2
theorem wJ {r:Nat}:∀ {rts:List RT},r∈dO rts->∃ (ν:Nat) (x:RT),rts[ν]?=some x/\qD r rts=some x/\((∃ d,x=.own r d)\/∃ d q X,x=.mu r d q X)
 |[],h=>by simp[dO]at h
 | .nil :: t, h => by
  obtain⟨ν,x,h1,h2⟩:=wJ (rts:=t) h
  exact⟨ν+1,x,by simpa using h1,h2⟩
 | .own s d :: t, h => by
  by_cases e:r=s
  ·subst e
   exact⟨0,_,rfl,by simp[qD],.inl ⟨d,rfl⟩⟩
  ·simp only[dO,Rbk,e,false_or]at h
   obtain⟨ν,x,h1,h2⟩:=wJ h
   exact⟨ν+1,x,by simpa using h1,by simp only[qD,if_neg e];exact h2⟩
 | .mu s d q X :: t, h => by
  by_cases e:r=s
  ·subst e
   exact⟨0,_,rfl,by simp[qD],.inr ⟨d,q,X,rfl⟩⟩
  ·simp only[dO,Rbk,e,false_or]at h
   obtain⟨ν,x,h1,h2⟩:=wJ h
   exact⟨ν+1,x,by simpa using h1,by simp only[qD,if_neg e];exact h2⟩
theorem Ca0 {r d:Nat}{q:List (aM×Nat×Nat)}{X:aM}:∀ {rts:List RT} {ν:Nat},distinct (dO rts)=true->rts[ν]?=some (.mu r d q X)->qD r rts=some (.mu r d q X)
 |[],ν,_,h=>by simp at h
 | x :: t, 0, hd, h => by
  simp only[Qb4,Option.some.injEq]at h
  subst h
  simp[qD]
 | x :: t, ν + 1, hd, h => by
  simp only[Rbz]at h
  have hm:=wI (.inr ⟨d,q,X,h⟩)
  cases x with
  |nil=>exact Ca0 (rts:=t) hd h
  | own s d' =>
   simp only[dO,distinct,Qbq,Rbe]at hd
   have hne:r≠s:=fun e=>by rw[e,<- oJ,hd.1]at hm;cases hm
   simp only[qD,if_neg hne]
   exact Ca0 hd.2 h
  | mu s d' q' X' =>
   simp only[dO,distinct,Qbq,Rbe]at hd
   have hne:r≠s:=fun e=>by rw[e,<- oJ,hd.1]at hm;cases hm
   simp only[qD,if_neg hne]
   exact Ca0 hd.2 h
theorem Ga0 {ρ:List D}{dr:List Nat}{r:Nat}{p:List Nat}:∀ (rts:List RT) (ν:Nat),(∃ ν' t,oD ρ dr ν rts r p=.slc ν' t)\/oD ρ dr ν rts r p=.frz\/oD ρ dr ν rts r p=.oth
 | [], ν => by
  simp only[oD]
  split
  ·exact .inr (.inl rfl)
  ·exact .inr (.inr rfl)
 |.nil::t,ν=>Ga0 t (ν+1)
 | .own s d :: t, ν => by
  simp only[oD]
  split
  ·split
   ·exact .inl ⟨_,_,rfl⟩
   ·exact .inr (.inl rfl)
  ·exact Ga0 t (ν+1)
 | .mu s d q X :: t, ν => by
  simp only[oD]
  split
  ·split
   ·split
    ·exact .inl ⟨_,_,rfl⟩
    ·exact .inr (.inl rfl)
   ·exact .inr (.inr rfl)
  ·exact Ga0 t (ν+1)
theorem Rp.remap {own own':Nat->Ow}{w:World}{r r':Nat}{q q':List Nat}{p:List Nat}{m:Nat}{v:Value}{d:D}(h:Rp own w r p m v d)
  (hs:∀ b t,own b=.slc r (q++t)->own' b=.slc r' (q'++t)):∀ s,p=q++s->((∀ b,own b=.frz->b<w.heap.size->own' b=.frz)\/sI m d=true)->Rp own' w r' (q'++s) m v d:=by
 induction h with
 |sc h=>exact fun _ _ _=>.sc h
 |hole v h1=>exact fun _ _ _=>.hole v h1
 | fz h =>
  intro s _ hz
  rcases hz with hz|hz
  ·exact .fz (h.mono' fun b hb hlt=>⟨hz b hb hlt,rfl⟩)
  ·cases h with
   |sc h=>exact .sc h
   |hole _ h1=>exact .hole _ h1
   |rows=>simp[sI,D.isSc]at hz
 | sl A a n c sz rs vs hn hc hA hsz hown hcell hrec ih =>
  rename_i p m
  intro s hp hz
  refine .sl A a n c sz rs vs hn hc hA hsz (fun e=>?_) hcell (fun i row hi j d hj=>?_)
  ·obtain⟨h1,h2,h3⟩:=hown e
   rw[hp]at h2
   exact⟨h1,hs _ _ h2,h3⟩
  ·have:=ih i row hi j d hj (s++[i*sz+j]) (by rw[hp,Qb1]) (hz.imp id fun hz=>by
    simp only[sI,Rbg]at hz
    exact hz row (Rba hi) d (Rba hj))
   rwa[<- Qb1]at this
theorem Rp.updM {own own':Nat->Ow}{w w':World}{r M:Nat}{full:List Nat}{y:D}{u:Value}
  (hz:∀ b,own b=.frz->b<w.heap.size->own' b=.frz/\w'.heap[b]?=w.heap[b]?)
  (hs:∀ b t,own b=.slc r t->¬ full <+: t->own' b=.slc r t/\w'.heap[b]?=w.heap[b]?)
  (hM:full.length<=M) (hnew:Rp own' w' r full (M-full.length) u y) :
  ∀ (p q:List Nat) (v:Value) (x x':D),full=q++p->Rp own w r q (M-q.length) v x->Cae own w r q v p u->Upd p x y x'->Rp own' w' r q (M-q.length) v x'
 | [], q, v, x, x', hf, hx, hn, hu => by
  cases hu
  simp only[Cae]at hn
  rw[Rbm]at hf
  subst hf hn
  exact hnew
 | k :: p, q, v, x, x', hf, hx, hn, hu => by
  generalize hk:k::p=kp at hu
  cases hu with
  |here=>cases hk
  | down sz rs i j row z z' y p' hi hj hu =>
   obtain⟨rfl,rfl⟩:=List.cons.inj hk
   have hlen:full.length=q.length+(p.length+1):=by rw[hf];simp
   obtain⟨m,hm⟩:∃ m,M-q.length=m+1:=⟨M-q.length-1,by omega⟩
   rw[hm]at hx
   rw[hm]
   obtain⟨A,a,n,c,vs,rfl,h1,h2,h3,h4,h5,h6,h7⟩:=hx.sl_inv
   have hil:i<rs.length:=(List.getElem?_eq_some_iff.1 hi).1
   have hA:A=some a:=by
    rcases h3 with e|⟨e,e'⟩
    ·exact e
    ·omega
   subst hA
   obtain⟨h8,h9,h10⟩:=h5 rfl
   obtain⟨a',n',c',u',e1,e2,e3,e4⟩:=hn
   obtain⟨rfl,rfl,rfl⟩:a=a'/\n=n'/\c=c':=by injection e1 with a b c;exact⟨Option.some.inj a,b,c⟩
   have hcell0:=h6 i row hi j z hj
   rw[hcell0]at e3
   obtain rfl:=Option.some.inj e3
   have hq:¬ full <+: q:=by
    intro e
    have:=e.length_le
    omega
   obtain⟨hown',hheap⟩:=hs _ _ h9 hq
   have hkeep:∀ k,w'.cell? (a.add k)=w.cell? (a.add k):=fun k=>iH (w:=w) (w':=w') (by rw[add_block];exact hheap)
   have hkeepf:∀ k,w'.frozen? (a.add k)=w.frozen? (a.add k):=fun k=>lY (w:=w) (w':=w') (by rw[add_block];exact hheap)
   have hrec:=Rp.updM hz hs hM hnew p (q++[i*sz+j]) (vs i j) z z' (by rw[hf];simp) (by
    have:=h7 i row hi j z hj
    rwa[show M-(q++[i*sz+j]).length=m by simp;omega]) e4 hu
   rw[show M-(q++[i*sz+j]).length=m by simp;omega]at hrec
   have hrowlen:row.length=sz:=h4 row (Rba hi)
   have hlt:j<sz:=by rw[<- hrowlen];exact (List.getElem?_eq_some_iff.1 hj).1
   have hget:∀ i' row',(rs.set i (row.set j z'))[i']?=some row'->∀ j' d,row'[j']?=some d->(i'=i/\j'=j/\d=z')\/(∃ row0,rs[i']?=some row0/\row0[j']?=some d/\¬ (i'=i/\j'=j)):=by
    intro i' row' hi' j' d hj'
    rw[Sb1]at hi'
    by_cases hii:i=i'
    ·subst hii
     rw[if_pos rfl,if_pos hil]at hi'
     obtain rfl:=Option.some.inj hi'
     rw[Sb1]at hj'
     by_cases hjj:j=j'
     ·subst hjj
      rw[if_pos rfl,if_pos (by omega)]at hj'
      exact .inl ⟨rfl,rfl,(Option.some.inj hj').symm⟩
     ·rw[if_neg hjj]at hj'
      exact .inr ⟨row,hi,hj',fun e=>hjj e.2.symm⟩
    ·rw[if_neg hii]at hi'
     exact .inr ⟨row',hi',hj',fun e=>hii e.1.symm⟩
   refine .sl _ a n c sz _ vs (by simpa using h1) h2 (.inl rfl) (fun row' hr=>?_) (fun _=>⟨h8,hown',fun k hk=>?_⟩) (fun i' row' hi' j' d hj'=>?_) (fun i' row' hi' j' d hj'=>?_)
   ·rcases List.mem_or_eq_of_mem_set hr with hr|rfl
    ·exact h4 _ hr
    ·simpa using hrowlen
   ·rw[hkeep,hkeepf]
    exact h10 k hk
   ·rw[hkeep]
    rcases hget i' row' hi' j' d hj' with ⟨rfl,rfl,rfl⟩|⟨row0,h11,h12,-⟩
    ·exact hcell0
    ·exact h6 _ _ h11 _ _ h12
   ·rcases hget i' row' hi' j' d hj' with ⟨rfl,rfl,rfl⟩|⟨row0,h11,h12,hne⟩
    ·exact hrec
    ·have:=(h7 _ _ h11 _ _ h12).mono' (own':=own') (w':=w') (r':=r) (q:=q++[i'*sz+j']) (q':=q++[i'*sz+j']) hz [] (by simp) fun b t hb=>by
      have hnp:¬ full <+: q++[i'*sz+j']++t:=by
       intro e
       rw[hf,Qb1,List.prefix_append_right_inj]at e
       have e':=(List.cons_prefix_cons.1 e).1
       have hj'l:j'<sz:=by
        have:=(List.getElem?_eq_some_iff.1 h12).1
        rw[h4 row0 (Rba h11)]at this
        exact this
       obtain⟨h15,h16⟩:=Fbx hj'l hlt e'.symm
       exact hne ⟨h15,h16⟩
      exact hs b _ hb hnp
     simpa using this
theorem Rp.deeper {own:Nat->Ow}{w:World}{r:Nat}{p:List Nat}{m:Nat}{v:Value}{d:D}(h:Rp own w r p m v d):∀ {m':Nat},m<=m'->sI m d=true->Rp own w r p m' v d:=by
 induction h with
 |sc h=>exact fun _ _=>.sc h
 |hole v h1=>exact fun _ _=>.hole v h1
 | fz h =>
  intro m' _ hz
  cases h with
  |sc h=>exact .sc h
  |hole _ h1=>exact .hole _ h1
  |rows=>simp[sI,D.isSc]at hz
 | sl A a n c sz rs vs hn hc hA hsz hown hcell hrec ih =>
  rename_i p m
  intro m' hm hz
  obtain⟨k,rfl⟩:∃ k,m'=k+1:=⟨m'-1,by omega⟩
  refine .sl A a n c sz rs vs hn hc hA hsz hown hcell (fun i row hi j d hj=>ih i row hi j d hj (by omega) ?_)
  simp only[sI,Rbg]at hz
  exact hz row (Rba hi) d (Rba hj)
section
variable {E:Env} {F:bU} {σ:Nat->Option aU} {ρ:List D} {a:Act} {w w':World} {G G':Gh} {s:Sig} {Z:Take} {gd:Bool} {nr nb:Nat} {hs:List Value} {adn:Addr}
structure Raj (E:Env) (F:bU) (σ:Nat->Option aU) (ρ:List D) (a:Act) (w:World) (G:Gh) (s:Sig) (Z:Take) (G':Gh) (w':World):Prop where
 hR:R E.ntmps F σ ρ a w G
 hk:Lar s Z
 hF:oK (uQ s (callG ρ G w s Z) w) G' w'
 bx:∀ j ro cs,s.boxes[j]?=some (ro,cs)->Pb8 σ Z.ptrs j ro cs
 deps:∀ z∈Z.deps,Nah σ z.1 z.2
 mus:∀ (ν r d:Nat) (q:List (aM×Nat×Nat)) (X:aM),Z.rts[ν]?=some (RT.mu r d q X)->∃ m ver u,σ (kR r)=some (.root X m ver .live)/\q.length+d<=m/\Cae G.own w r [] (G.hdr r) (bJ ρ q) u
 owns:∀ (ν r d:Nat),Z.rts[ν]?=some (RT.own r d)->∃ x m ver,σ (kR r)=some (.root x m ver .live)
variable (B:Raj E F σ ρ a w G s Z G' w')
include B
theorem Raj.keep {b:Nat}(hb:b<w.heap.size)(h:(callG ρ G w s Z).own b=.frz\/(callG ρ G w s Z).own b=.oth):w'.heap[b]?=w.heap[b]?/\G'.own b=(callG ρ G w s Z).own b:=B.hF.keep b hb h
theorem Raj.lt {b r:Nat}{p:List Nat}(h:G.own b=.slc r p):b<w.heap.size:=by
 rcases Rbj b w.heap.size with h1|h1
 ·exact h1
 ·rw[B.hR.frame.fresh b h1]at h;cases h
theorem Raj.own_eq {b:Nat}(hb:b<w.heap.size)(h:Nar ((callG ρ G w s Z).own b)=false):(gK gd ρ G w s Z nr nb G'.own hs adn).own b=Bax ρ Z.rts (G.own b):=by
 simp only[gK]
 rw[if_pos ⟨hb,h⟩]
theorem Raj.frz {b:Nat}(h:G.own b=.frz)(hb:b<w.heap.size):(gK gd ρ G w s Z nr nb G'.own hs adn).own b=.frz/\w'.heap[b]?=w.heap[b]?:=by
 have h1:(callG ρ G w s Z).own b=.frz:=sM h
 refine⟨?_,(B.keep hb (.inl h1)).1⟩
 rw[B.own_eq hb (by rw[h1];rfl),h];rfl
theorem Raj.other {b r:Nat}{p:List Nat}(hr:r∉dO Z.rts)(h:G.own b=.slc r p):(gK gd ρ G w s Z nr nb G'.own hs adn).own b=.slc r p/\w'.heap[b]?=w.heap[b]?:=by
 have hb:=B.lt h
 have h1:(callG ρ G w s Z).own b=if r∈Z.deps.map (·.1) then .frz else .oth:=by
  simp only[callG,h]
  exact vD hr
 have h2:(callG ρ G w s Z).own b=.frz\/(callG ρ G w s Z).own b=.oth:=by
  rw[h1]
  split
  ·exact .inl rfl
  ·exact .inr rfl
 refine⟨?_,(B.keep hb h2).1⟩
 rw[B.own_eq hb (by rcases h2 with e|e<;>rw[e]<;>rfl),h]
 simp only[Bax,wK hr]
theorem Raj.oth {b:Nat}(h:G.own b=.oth)(hb:b<w.heap.size):(gK gd ρ G w s Z nr nb G'.own hs adn).own b=.oth/\w'.heap[b]?=w.heap[b]?:=by
 have h1:(callG ρ G w s Z).own b=.oth:=by simp only[callG,h]
 refine⟨?_,(B.keep hb (.inr h1)).1⟩
 rw[B.own_eq hb (by rw[h1];rfl),h];rfl
theorem Raj.boxes {b c:Nat}(h:G.own b=.box c)(hb:b<w.heap.size):(gK gd ρ G w s Z nr nb G'.own hs adn).own b=.box c /\
  (w'.heap[b]?=w.heap[b]?\/∃ j cs off ls c0 c1 e fr,s.boxes[j]?=some (false,cs)/\rR j Z.ptrs=some (c,off)/\b=(G.bx c).block/\σ (kB c)=some (.box false ls)/\off+cs.length<=ls.length /\
   w.heap[b]?=some (.cells c0 e fr)/\w'.heap[b]?=some (.cells c1 e fr)/\c1.size=c0.size/\∀ k,k<(G.bx c).off+off\/(G.bx c).off+off+cs.length<=k->c1[k]?=c0[k]?):=by
 have key:((callG ρ G w s Z).own b=.oth)\/∃ j,Sac Z.ptrs c 0 s.boxes=some j/\b=(G.bx c).block/\(callG ρ G w s Z).own b=.box j:=by
  simp only[callG,h]
  split
  ·rename_i j hj
   split
   ·rename_i hbk
    exact .inr ⟨j,hj,hbk,rfl⟩
   ·exact .inl rfl
  ·exact .inl rfl
 rcases key with h1|⟨j,hj,hbk,h1⟩
 ·refine⟨?_,.inl (B.keep hb (.inr h1)).1⟩
  rw[B.own_eq hb (by rw[h1];rfl),h];rfl
 ·refine⟨by rw[B.own_eq hb (by rw[h1];rfl),h];rfl,.inr ?_⟩
  obtain⟨j',cs,off,e1,e2,e3⟩:=Gaz hj
  rw[Rbt]at e1
  subst e1
  obtain⟨c',off',ro',ls,h2,h3,h4,h5⟩:=B.bx j false cs e2
  rw[e3]at h2
  obtain⟨rfl,rfl⟩:c=c'/\off=off':=by simpa using h2
  obtain rfl:=(h5 rfl).1
  obtain⟨-,c0,c1,e,fr,h6,h7,h8,h9⟩:=B.hF.boxes b j hb h1
  refine⟨j,cs,off,ls,c0,c1,e,fr,e2,e3,hbk,h3,h4,h6,h7,h8,fun k hk=>h9 k ?_⟩
  have e4:(uQ s (callG ρ G w s Z) w).rng j=((G.bx c).off+off,(G.bx c).off+off+cs.length):=by
   simp only[uQ,callG,e3,Tal,Qb5,e2,Sbr]
  rw[e4]
  exact hk
theorem Raj.allow {b:Nat}(h:G'.own b=.frz):allow (gK gd ρ G w s Z nr nb G'.own hs adn) Z.deps b:=by
 by_cases hb:b<w.heap.size
 ·cases hsl:Nar ((callG ρ G w s Z).own b) with
  | true =>
   refine .inl ?_
   simp only[gK]
   rw[if_neg (by rw[hsl];simp),h];rfl
  | false =>
   have hown:=B.own_eq (gd:=gd) (nr:=nr) (nb:=nb) (hs:=hs) (adn:=adn) hb hsl
   cases hg:G.own b with
   |frz=>exact .inl (B.frz hg hb).1
   | oth =>
    have h1:(callG ρ G w s Z).own b=.oth:=by simp only[callG,hg]
    have:=(B.keep hb (.inr h1)).2
    rw[h,h1]at this;cases this
   | box c =>
    have hbk:=(B.boxes (gd:=gd) (nr:=nr) (nb:=nb) (hs:=hs) (adn:=adn) hg hb)
    exfalso
    have key:((callG ρ G w s Z).own b=.oth)\/∃ j,(callG ρ G w s Z).own b=.box j:=by
     simp only[callG,hg]
     split
     ·split
      ·exact .inr ⟨_,rfl⟩
      ·exact .inl rfl
     ·exact .inl rfl
    rcases key with h1|⟨j,h1⟩
    ·have:=(B.keep hb (.inr h1)).2
     rw[h,h1]at this;cases this
    ·have:=(B.hF.boxes b j hb h1).1
     rw[h]at this;cases this
   | slc r p =>
    by_cases hr:r∈dO Z.rts
    ·refine .inl ?_
     rw[hown,hg]
     obtain⟨ν,x,h1,h2,h3⟩:=wJ hr
     simp only[Bax,h2]
     rcases h3 with ⟨d,rfl⟩|⟨d,q,X,rfl⟩
     ·rfl
     ·have h4:=Na6 (ρ:=ρ) (G:=G) (w:=w) B.hk h1 hg
      dsimp only
      rw[h4]at hsl
      cases hst:strip (bJ ρ q) p with
      | some t' =>
       rw[hst]at hsl
       dsimp only at hsl ⊢
       split at hsl
       ·cases hsl
       ·rename_i hle
        rw[if_neg hle]
      | none =>
       have h5:(callG ρ G w s Z).own b=.oth:=by rw[h4,hst]
       have:=(B.keep hb (.inr h5)).2
       rw[h,h5]at this;cases this
    ·have h1:(callG ρ G w s Z).own b=if r∈Z.deps.map (·.1) then .frz else .oth:=by
      simp only[callG,hg]
      exact vD hr
     by_cases hd:r∈Z.deps.map (·.1)
     ·obtain⟨z,hz,e⟩:=List.mem_map.1 hd
      refine .inr ⟨r,z.2,p,by rw[<- e];exact hz,(B.other hr hg).1⟩
     ·rw[if_neg hd]at h1
      have:=(B.keep hb (.inr h1)).2
      rw[h,h1]at this;cases this
 ·refine .inl ?_
  simp only[gK]
  rw[if_neg (by simp[hb]),h];rfl
theorem Raj.rd {v:Value}{d:D}(h:Rd (fun b=>G'.own b=.frz) w' v d):Rd (Go.Proofs.YtdpfilpckndhcaaGreatDoor.Rf.allow (gK gd ρ G w s Z nr nb G'.own hs adn) Z.deps) w' v d :=
 h.mono fun b hb=>⟨B.allow hb,rfl⟩
theorem Raj.slc {b t:Nat}{p:List Nat}(h:G'.own b=.slc t p):(gK gd ρ G w s Z nr nb G'.own hs adn).own b=xM gd ρ nr nb s.boxes.length (Z.rts.filter zI) (.slc t p):=by
 simp only[gK]
 rw[if_neg,h]
 rintro⟨hb,hsl⟩
 cases hg:(callG ρ G w s Z).own b with
 |frz=>have:=(B.keep hb (.inl hg)).2;rw[h,hg]at this;cases this
 |oth=>have:=(B.keep hb (.inr hg)).2;rw[h,hg]at this;cases this
 |slc _ _=>rw[hg]at hsl;cases hsl
 |box j=>have:=(B.hF.boxes b j hb hg).1;rw[h]at this;cases this
theorem Raj.give {q m:Nat}{v:Value}{d:D}(h:Rp G'.own w' (2*q) [] m v d)(hfit:Z.deps=[]\/sI m d=true)(hgd:gd=false)(hq:q<dM):Rp (gK gd ρ G w s Z nr nb G'.own hs adn).own w' (nr+q) [] m v d:=by
 have:=h.remap (own':=(gK gd ρ G w s Z nr nb G'.own hs adn).own) (r':=nr+q) (q:=[]) (q':=[]) (fun b t hb=>by
  rw[B.slc hb,hgd]
  simp only[xM,Rb9]
  rw[if_pos (by omega),if_neg (by simp),show 2*q / 2=q by omega,if_pos hq]) [] rfl (hfit.imp (fun e b hb _=>by
   rcases B.allow (gd:=gd) (nr:=nr) (nb:=nb) (hs:=hs) (adn:=adn) hb with h1|⟨r,k,p,h1,-⟩
   ·exact h1
   ·rw[e]at h1;simp at h1) id)
 simpa using this
theorem Raj.giveGd {q m:Nat}{v:Value}{d:D}(h:Rp G'.own w' (2*q) [] m v d)(hgd:gd=true):Rd (Go.Proofs.YtdpfilpckndhcaaGreatDoor.Rf.allow (gK gd ρ G w s Z nr nb G'.own hs adn) Z.deps) w' v d:=by
 refine h.rd.mono fun b hb=>⟨?_,rfl⟩
 rcases hb with hb|⟨p,hb⟩
 ·exact B.allow hb
 ·refine .inl ?_
  rw[B.slc hb,hgd]
  simp only[xM]
  rw[if_pos (by omega),if_pos trivial]
theorem Raj.mu {ν j r d m ver:Nat}{q:List (aM×Nat×Nat)}{X y X' X0:aM}(hm:σ (kR r)=some (.root X0 m ver .live))(hdm:q.length+d=m\/sI d (y.val ρ)=true)(hν:Z.rts[ν]?=some (.mu r d q X))(hj:(Z.rts.filter zI)[j]?=some (.mu r d q X)){u:Value}(hu:∀ u',Cae G.own w r [] (G.hdr r) (bJ ρ q) u'->u=u')
  (h:Rp G'.own w' (2*j+1) [] d u (y.val ρ)) (hfit:Z.deps=[]\/sI d (y.val ρ)=true) (hupd:Upd (bJ ρ q) (X.val ρ) (y.val ρ) (X'.val ρ)) :
  Rp (gK gd ρ G w s Z nr nb G'.own hs adn).own w' r [] m (G.hdr r) (X'.val ρ):=by
 obtain⟨m',ver',u',hσ,hle,hn⟩:=B.mus ν r d q X hν
 rw[hm]at hσ
 obtain⟨rfl,rfl,rfl⟩:X0=X/\m=m'/\ver=ver':=by
  have:=Option.some.inj hσ
  injection this with e1 e2 e3
  exact⟨e1,e2,e3⟩
 obtain rfl:=hu u' hn
 have hlen:(bJ ρ q).length=q.length:=by simp[bJ]
 have hnew:Rp (gK gd ρ G w s Z nr nb G'.own hs adn).own w' r (bJ ρ q) d u (y.val ρ):=by
  have:=h.remap (own':=(gK gd ρ G w s Z nr nb G'.own hs adn).own) (r':=r) (q:=[]) (q':=bJ ρ q) (fun b t hb=>by
   rw[B.slc hb]
   simp only[xM,Rb9]
   rw[if_neg (by omega),show (2*j+1) / 2=j by omega,hj]) [] rfl (hfit.imp (fun e b hb _=>by
    rcases B.allow (gd:=gd) (nr:=nr) (nb:=nb) (hs:=hs) (adn:=adn) hb with h1|⟨r,k,p,h1,-⟩
    ·exact h1
    ·rw[e]at h1;simp at h1) id)
  simpa using this
 have hnew':Rp (gK gd ρ G w s Z nr nb G'.own hs adn).own w' r (bJ ρ q) (m-(bJ ρ q).length) u (y.val ρ):=by
  rcases hdm with e|e
  ·rwa[hlen,show m-q.length=d by omega]
  ·exact hnew.deeper (by omega) e
 have hroot:=B.hR.root hm
 simp only[dJ]at hroot
 have:=Rp.updM (own:=G.own) (own':=(gK gd ρ G w s Z nr nb G'.own hs adn).own) (w:=w) (w':=w') (r:=r) (M:=m) (full:=bJ ρ q) (y:=y.val ρ) (u:=u)
  (fun b hb hlt=>B.frz hb hlt) (fun b t hb hnp=>?_) (by omega) hnew' (bJ ρ q) [] (G.hdr r) (X0.val ρ) (X'.val ρ) (by simp) (by simpa using hroot) hn hupd
 ·simpa using this
 ·have hlt:=B.lt hb
  have h1:=Na6 (ρ:=ρ) (G:=G) (w:=w) B.hk hν hb
  have hst:strip (bJ ρ q) t=none:=by
   cases e:strip (bJ ρ q) t with
   |none=>rfl
   |some t'=>exact absurd ⟨t',(Kal e).symm⟩ hnp
  rw[hst]at h1
  refine⟨?_,(B.keep hlt (.inr h1)).1⟩
  rw[B.own_eq hlt (by rw[h1];rfl),hb]
  simp only[Bax,Ca0 B.hk.dist hν,hst]
theorem Raj.frame:oK F (gK gd ρ G w s Z nr nb G'.own hs adn) w':=by
 have hsz:w.heap.size<=w'.heap.size:=B.hF.size
 refine⟨B.hF.os.trans B.hR.frame.os,B.hF.tape.trans B.hR.frame.tape,B.hF.output.trans B.hR.frame.output,Nat.le_trans B.hR.frame.size hsz,fun b hb ho=>?_,fun b j hb ho=>?_,fun b hb=>?_⟩
 ·obtain⟨h1,h2⟩:=B.hR.frame.keep b hb ho
  have hlt:b<w.heap.size:=Tbu hb B.hR.frame.size
  rcases ho with ho|ho
  ·rw[ho]at h2 ⊢
   obtain⟨h3,h4⟩:=B.frz (gd:=gd) (nr:=nr) (nb:=nb) (hs:=hs) (adn:=adn) h2 hlt
   exact⟨h4.trans h1,h3⟩
  ·rw[ho]at h2 ⊢
   obtain⟨h3,h4⟩:=B.oth (gd:=gd) (nr:=nr) (nb:=nb) (hs:=hs) (adn:=adn) h2 hlt
   exact⟨h4.trans h1,h3⟩
 ·obtain⟨h1,c0,c1,e,fr,h2,h3,h4,h5⟩:=B.hR.frame.boxes b j hb ho
  have hlt:b<w.heap.size:=Tbu hb B.hR.frame.size
  obtain⟨h6,h7⟩:=B.boxes (gd:=gd) (nr:=nr) (nb:=nb) (hs:=hs) (adn:=adn) h1 hlt
  refine⟨h6,?_⟩
  rcases h7 with h7|⟨i,cs,off,ls,d0,d1,e',fr',h8,h9,h10,h11,h12,h13,h14,h15,h16⟩
  ·exact⟨c0,c1,e,fr,h2,h7.trans h3,h4,h5⟩
  ·rw[h3]at h13
   obtain⟨rfl,rfl,rfl⟩:c1=d0/\e=e'/\fr=fr':=by
    have:=Option.some.inj h13
    injection this with e1 e2 e3
    exact⟨e1,e2,e3⟩
   have hrng:=B.hR.rng j ls h11 (by rw[<- h10];exact hb) (by rw[<- h10];exact ho)
   refine⟨c0,d1,e,fr,h2,h14,h15.trans h4,fun k hk=>?_⟩
   rw[hrng]at hk
   dsimp only at hk
   rw[h16 k (by omega),h5 k (by rw[hrng];exact hk)]
 ·simp only[gK]
  rw[if_neg (by omega),B.hF.fresh b hb];rfl
end
end Go.Proofs.YtdpfilpckndhcaaGreatDoor.Rf
