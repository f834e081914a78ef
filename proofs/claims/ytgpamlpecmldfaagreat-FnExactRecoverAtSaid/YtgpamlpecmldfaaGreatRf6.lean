import Derived.Test.YtgpamlpecmldfaaGreatRf5
set_option linter.all false
open Bool renaming and_eq_true → Qb6, false_eq_true → Rbk, not_eq_true' → Rb0, or_eq_true → Sbv
open List renaming getElem?_eq_some_iff → Qb8, mem_append_left → Qb9, getElem?_eq_getElem → Rba, mem_singleton → Rbb, mem_append_right → Rbc, append_assoc → Rbd, getElem?_cons_zero → Rbf, mem_cons → Rbg, getD_eq_getElem?_getD → Rbi, getElem?_append_right → Rbj, mem_cons_of_mem → Rbl, mem_of_getElem? → Rbn, mem_append → Rbq, mem_cons_self → Rbr, length_cons → Rbw, map_cons → Rby, append_nil → Rb1, length_map → Rb4, all_eq_true → Rb6, length_nil → Rb8, getElem?_drop → Sba, map_nil → Sbc, getElem?_map → Sbd, getElem?_cons_succ → Sbl, nil_append → Sbm, mem_map → Sbp, mem_map_of_mem → Sb1, any_eq_false → Tbe, getElem?_set → Tbj
open Nat renaming add_assoc → Rbp, le_refl → Rbt, lt_or_ge → Rbu, zero_add → Rb2, beq_eq → Rb3, add_zero → Sbg, add_sub_cancel_left → Sbi, blt_eq → Sbn, ble_eq → Sbr, zero_le → Tbm, lt_of_lt_of_le → Ubl
open Option renaming bind_eq_some_iff → Qb5, bind_some → Rbe, map_some → Sbq, getD_some → Tbd
open Option.some renaming injEq → Qb7, inj → Rb5
open Prod.mk renaming injEq → Rbx, inj → Tbw
namespace Go.Proofs.YtgpamlpecmldfaaGreat.Rf
def LS.cnt:LS->Nat
 |.px _=>0
 |.clo _ _=>0
 |_=>1
def LS.rcnt:LS->Nat
 |.mu _=>1
 |.ow _=>1
 |_=>0
def Wau:List LS->Nat
 |[]=>0
 |s::ss=>s.cnt+Wau ss
def lL:List LS->Nat
 |[]=>0
 |s::ss=>s.rcnt+lL ss
def Ka1:List (Bool×List LS)->Nat
 |[]=>0
 |(_,ss)::ps=>Wau ss+Ka1 ps
def kM:List (Bool×List LS)->Nat
 |[]=>0
 |(_,ss)::ps=>lL ss+kM ps
def BS.cnt:BS->Nat
 |.ot=>0
 |_=>1
def BS.rcnt:BS->Nat
 |.ow _=>1
 |_=>0
def Bbr:List (BS×BO)->Nat
 |[]=>0
 |(s,_)::ss=>s.cnt+Bbr ss
def xJ:List (BS×BO)->Nat
 |[]=>0
 |(s,_)::ss=>s.rcnt+xJ ss
def Bbs:List (Bool×List (BS×BO))->Nat
 |[]=>0
 |(_,cs)::bs=>Bbr cs+Bbs bs
def xK:List (Bool×List (BS×BO))->Nat
 |[]=>0
 |(_,cs)::bs=>xJ cs+xK bs
section
variable (G:Gh) (w:World) (ρ:List D) (nbx:Nat)
def Bbi (ok:Nat->Prop)(w:World)(v:Value)(d:D):Prop :=
 (v=.pointer none/\∃ z,d=.rows z [])\/∃ a row,v=.pointer (some a)/\d=.rows row.length [row]/\Rd ok w (.slice (some a) 1 1) (.rows row.length [row])
def Faf:List LS->List Value->Prop
 |[],vs=>vs=[]
 |c::cs,vs=>∃ u us,vs=u::us/\(match c with | .px b=>u=.pointer (some (G.bx b))/\b<nbx | _=>u.oneCell'=true)/\Faf cs us
def mF (i nr:Nat):LS->Value->Prop
 |.sc,v=>Sc v ((aP.v i).val ρ)
 |.fz nie,v=>Rd (fun b=>G.own b=.frz) w v ((aP.v i).val ρ)/\(nie=true->∀ z,(aP.v i).val ρ=.rows z []->v=.slice none 0 0)
 |.mu m,v=>v=G.hdr nr/\Rp G.own w nr [] m v ((aP.v i).val ρ)
 |.ow m,v=>v=G.hdr nr/\Rp G.own w nr [] m v ((aP.v i).val ρ)
 |.px b,v=>v=.pointer (some (G.bx b))/\b<nbx
 |.clo f cs,v=>∃ vs,v=.func (.func f) #[] vs.toArray/\Faf G nbx cs vs
 |.rp _,v=>v.oneCell'=true/\Bbi (fun b=>G.own b=.frz) w v ((aP.v i).val ρ)
def uS:Nat->Nat->List LS->List Value->Prop
 |_,_,[],vs=>vs=[]
 |i,nr,s::ss,vs=>∃ u us,vs=u::us/\mF G w ρ nbx i nr s u/\uS (i+s.cnt) (nr+s.rcnt) ss us
def nJ:Nat->Nat->List (Bool×List LS)->List Value->Prop
 |_,_,[],us=>us=[]
 |i,nr,(a,ss)::ps,us=>∃ u eE vs,us=u::eE/\uS G w ρ nbx i nr ss vs/\(if a=true then u=.agg vs.toArray else vs=[u])/\nJ (i+Wau ss) (nr+lL ss) ps eE
def yV (i nr:Nat):BS->Value->Prop
 |.sc,v=>Sc v ((aP.v i).val ρ)
 |.fz nie,v=>Rd (fun b=>G.own b=.frz) w v ((aP.v i).val ρ)/\(nie=true->∀ z,(aP.v i).val ρ=.rows z []->v=.slice none 0 0)
 |.ow m,v=>v=G.hdr nr/\Rp G.own w nr [] m v ((aP.v i).val ρ)
 |.ot,v=>v.oneCell'=true
def Ga3 (ad:Addr):Nat->Nat->Nat->List (BS×BO)->Prop
 |_,_,_,[]=>True
 |off,i,nr,(s,_)::ss=>(∃ v,w.cell? (ad.add off)=some v/\w.frozen? (ad.add off)=false/\yV G w ρ i nr s v)/\Ga3 ad (off+1) (i+s.cnt) (nr+s.rcnt) ss
def Ga4:Nat->Nat->Nat->List (Bool×List (BS×BO))->Prop
 |_,_,_,[]=>True
 |b,i,nr,(ro,cs)::bs=>(G.bx b).spot=none/\G.own (G.bx b).block=(if ro=true then .oth else .box b)/\Ga3 G w ρ (G.bx b) 0 i nr cs/\Ga4 (b+1) (i+Bbr cs) (nr+xJ cs) bs
end
structure Fb6 (s:Sig) (vals:List Value) (w:World) (G:Gh) (ds:List D):Prop where
 params:nJ G w ds s.boxes.length 0 0 s.params vals
 boxes:Ga4 G w ds 0 (Ka1 s.params) (kM s.params) s.boxes
 len:ds.length=Ka1 s.params+Bbs s.boxes
 fresh:∀ b,w.heap.size<=b->G.own b=.frz
 cells:∀ b j,b<w.heap.size->G.own b=.box j->j<s.boxes.length/\∃ c e fr,w.heap[b]?=some (.cells c e fr)
def Iai (s:Sig)(G:Gh):List Value:=(fI 0 (s.params.flatMap (·.2))).map G.hdr++(range 0 s.boxes.length).map fun b=>Value.pointer (some (G.bx b))
def tL (s:Sig)(G:Gh)(w:World):bQ :=
 ⟨w,G.own,fun j=>(Iai s G).getD j undef,fun b=>((G.bx b).off,(G.bx b).off+(s.boxes.getD b (true,[])).2.length)⟩
theorem Qay {i nr:Nat}(s:LS):∃ l u,jN i nr s=(l,u,i+s.cnt,nr+s.rcnt)/\∀ k c,(k,c)∈u->∃ m,s.rcnt=1/\k=kR nr/\c=.root (.v i) m 0 .live/\(s=.mu m\/s=.ow m)/\l=.ex nr:=by
 cases s with
 | mu m =>
  refine⟨_,_,rfl,fun k c h=>?_⟩;simp only[Rbb,Rbx]at h;exact⟨m,rfl,h.1,h.2,.inl rfl,rfl⟩
 | ow m =>
  refine⟨_,_,rfl,fun k c h=>?_⟩;simp only[Rbb,Rbx]at h;exact⟨m,rfl,h.1,h.2,.inr rfl,rfl⟩
 |_=>exact⟨_,_,rfl,by simp⟩
section
variable {G:Gh} {w:World} {ρ:List D} {nbx:Nat} {σ:Nat->Option aU}
theorem Gae (gz:∀ b,b<nbx->(σ (kB b)).isSome):∀ {cs:List LS} {vs:List Value},Faf G nbx cs vs->aH σ ρ G w (cs.map fun c=>match c with|.px b=>.px b 0|_=>.dead) vs
 |[],vs,h=>by simpa[Faf,aH] using h
 | c :: cs, vs, h => by
  obtain⟨u,us,rfl,h1,h2⟩:=h;simp only[Rby,aH];refine⟨u,us,rfl,?_,Gae gz h2⟩
  cases c with
  | px b =>
   simp only[aD];exact⟨by rw[h1.1];rfl,gz b h1.2⟩
  |_=>simp only[aD];exact h1
def nM (σ:Nat->Option aU)(G:Gh)(w:World)(ρ:List D)(u:List (Nat×aU)):Prop:=∀ k c,(k,c)∈u->∃ r m i,k=kR r/\c=.root (.v i) m 0 .live/\Rp G.own w r [] m (G.hdr r) ((aP.v i).val ρ)
theorem Saz (gz:∀ b,b<nbx->(σ (kB b)).isSome){i nr:Nat}{s:LS}{v:Value}(h:mF G w ρ nbx i nr s v)(oA:s.rcnt=1->(σ (kR nr)).isSome) :
  aD σ ρ G w (jN i nr s).1 v/\nM σ G w ρ (jN i nr s).2.1:=by
 cases s with
 |sc=>exact⟨by simpa[jN,aD,mF] using h,by simp[nM,jN]⟩
 | fz nie =>
  refine⟨?_,by simp[nM,jN]⟩;simp only[mF]at h;simp only[jN,aD];exact⟨⟨h.1.one,by simp⟩,fun _=>⟨h.1.mono fun b hb=>⟨.inl hb,rfl⟩,h.2,trivial⟩⟩
 | mu m =>
  simp only[mF]at h;refine⟨?_,?_⟩
  ·simp only[jN,aD]
   exact⟨h.1,oA rfl,h.2.one⟩
  ·intro k c hc
   simp only[jN,Rbb,Rbx]at hc;exact⟨nr,m,i,hc.1,hc.2,by rw[<- h.1];exact h.2⟩
 | ow m =>
  simp only[mF]at h;refine⟨?_,?_⟩
  ·simp only[jN,aD]
   exact⟨h.1,oA rfl,h.2.one⟩
  ·intro k c hc
   simp only[jN,Rbb,Rbx]at hc;exact⟨nr,m,i,hc.1,hc.2,by rw[<- h.1];exact h.2⟩
 | px b =>
  refine⟨?_,by simp[nM,jN]⟩;simp only[mF]at h;simp only[jN,aD];exact⟨by rw[h.1];rfl,gz b h.2⟩
 | clo f cs =>
  refine⟨?_,by simp[nM,jN]⟩;simp only[mF]at h;obtain⟨vs,h1,h2⟩:=h;simp only[jN,aD];exact⟨vs,h1,Gae gz h2⟩
 | rp z =>
  refine⟨?_,by simp[nM,jN]⟩;simp only[mF]at h;simp only[jN,aD];refine⟨⟨h.1,by simp⟩,fun _=>?_⟩
  rcases h.2 with h1|⟨a,row,h1,h2,h3⟩
  ·exact .inl h1
  ·exact .inr ⟨a,row,h1,h2,h3.mono fun b hb=>⟨.inl hb,rfl⟩⟩
theorem nM.append {u v:List (Nat×aU)}(h:nM σ G w ρ u)(h':nM σ G w ρ v):nM σ G w ρ (u++v):=fun k c hc=>(Rbq.1 hc).elim (h k c) (h' k c)
theorem Bah:∀ (ss:List LS) (i nr:Nat),(eG i nr ss).2.2=(i+Wau ss,nr+lL ss)/\(eG i nr ss).1.length=ss.length/\∀ r,nr<=r->r<nr+lL ss->∃ c,(kR r,c)∈(eG i nr ss).2.1
 |[],i,nr=>⟨rfl,rfl,fun r h1 h2=>by simp only[lL]at h2;omega⟩
 | s :: ss, i, nr => by
  obtain⟨l,u,h1,h2⟩:=Qay (i:=i) (nr:=nr) s;obtain⟨h3,h4,h5⟩:=Bah ss (i+s.cnt) (nr+s.rcnt);simp only[eG,h1];refine⟨h3.trans (by simp only[Wau,lL,Rbp]),by simp[h4],fun r pk pP=>?_⟩;simp only[lL]at pP
  rcases Rbu r (nr+s.rcnt) with h6|h6
  ·have hs:s.rcnt=1:=by cases s<;>simp[LS.rcnt]at h6 ⊢<;>omega
   have:r=nr:=by omega
   subst this;cases s<;>simp[LS.rcnt]at hs
   all_goals
    simp only[jN,Rbx]at h1;obtain⟨-,rfl,-⟩:=h1;exact⟨_,Qb9 _ (Rbb.2 rfl)⟩
  ·obtain⟨c,hc⟩:=h5 r h6 (by omega)
   exact⟨c,Rbc _ hc⟩
theorem Dal (gz:∀ b,b<nbx->(σ (kB b)).isSome):∀ {ss:List LS} {i nr:Nat} {vs:List Value},uS G w ρ nbx i nr ss vs->(∀ r,nr<=r->r<nr+lL ss->(σ (kR r)).isSome) ->
  aH σ ρ G w (eG i nr ss).1 vs/\nM σ G w ρ (eG i nr ss).2.1
 |[],i,nr,vs,h,_=>⟨by simpa[uS,eG,aH] using h,by simp[nM,eG]⟩
 | s :: ss, i, nr, vs, h, hr => by
  obtain⟨u,us,rfl,h1,h2⟩:=h;obtain⟨l,up,h3,h4⟩:=Qay (i:=i) (nr:=nr) s;obtain⟨h5,h6⟩:=Saz gz h1 fun e=>hr nr (Rbt _) (by simp only[lL];omega)
  obtain⟨h7,h8⟩:=Dal gz h2 fun r pk pP=>hr r (by omega) (by simp only[lL];omega)
  simp only[eG,h3]at h5 h6 ⊢;exact⟨by simp only[aH];exact⟨u,us,rfl,h5,h7⟩,h6.append h8⟩
theorem vT:∀ (ps:List (Bool×List LS)) (t i nr:Nat),(kV t i nr ps).2=(i+Ka1 ps,nr+kM ps)/\∀ r,nr<=r->r<nr+kM ps->∃ c,(kR r,c)∈(kV t i nr ps).1
 |[],t,i,nr=>⟨rfl,fun r h1 h2=>by simp only[kM]at h2;omega⟩
 | (a, ss) :: ps, t, i, nr => by
  obtain⟨h1,-,h2⟩:=Bah ss i nr;obtain⟨h3,h4⟩:=vT ps (t+1) (i+Wau ss) (nr+lL ss);have e:eG i nr ss=((eG i nr ss).1,(eG i nr ss).2.1,i+Wau ss,nr+lL ss):=by rw[<- h1]
  simp only[kV];rw[e];dsimp only;refine⟨h3.trans (by simp only[Ka1,kM,Rbp]),fun r pk pP=>?_⟩;simp only[kM]at pP
  rcases Rbu r (nr+lL ss) with h6|h6
  ·obtain⟨c,hc⟩:=h2 r pk h6
   exact⟨c,Rbl _ (Qb9 _ hc)⟩
  ·obtain⟨c,hc⟩:=h4 r h6 (by omega)
   exact⟨c,Rbl _ (Rbc _ hc)⟩
def Mb5 (σ:Nat->Option aU)(G:Gh)(w:World)(ρ:List D)(val:Nat->Option Value)(u:List (Nat×aU)):Prop :=
 ∀ k c,(k,c)∈u->(∃ t v sv,k=kT t/\c=.slot none sv/\val t=some v/\dI σ ρ G w sv v)\/(∃ r m i,k=kR r/\c=.root (.v i) m 0 .live/\Rp G.own w r [] m (G.hdr r) ((aP.v i).val ρ))
theorem Dak (gz:∀ b,b<nbx->(σ (kB b)).isSome):∀ {ps:List (Bool×List LS)} {t i nr:Nat} {us:List Value},nJ G w ρ nbx i nr ps us->(∀ r,nr<=r->r<nr+kM ps->(σ (kR r)).isSome) ->
  us.length=ps.length/\Mb5 σ G w ρ (fun j=>if t<=j then us[j-t]? else none) (kV t i nr ps).1
 | [], t, i, nr, us, h, _ => by
  simp only[nJ]at h;subst h;exact⟨rfl,by simp[Mb5,kV]⟩
 | (a, ss) :: ps, t, i, nr, us, h, hr => by
  obtain⟨u,eE,vs,rfl,h1,h2,h3⟩:=h;obtain⟨h4,h5,-⟩:=Bah ss i nr;obtain⟨h6,h7⟩:=Dal gz h1 fun r pk pP=>hr r pk (by simp only[kM];omega)
  obtain⟨h8,h9⟩:=Dak gz (t:=t+1) h3 fun r pk pP=>hr r (by omega) (by simp only[kM];omega)
  have e:eG i nr ss=((eG i nr ss).1,(eG i nr ss).2.1,i+Wau ss,nr+lL ss):=by rw[<- h4]
  simp only[kV];rw[e];dsimp only;refine⟨by simp[h8],fun k c hc=>?_⟩
  rcases Rbg.1 hc with hc|hc
  ·obtain⟨rfl,rfl⟩:=Tbw hc
   refine .inl ⟨t,u,_,rfl,rfl,by simp,?_⟩
   cases iq:Tat a (eG i nr ss).1 with
   |none=>trivial
   |some sv=>exact uY iq h6 h2
  ·rcases Rbq.1 hc with hc|hc
   ·exact .inr (h7 k c hc)
   ·rcases h9 k c hc with ⟨t',v,sv,e1,e2,e3,e4⟩|eo
    ·refine .inl ⟨t',v,sv,e1,e2,?_,e4⟩
     dsimp only at e3 ⊢;split at e3
     ·rename_i hle
      rw[if_pos (by omega)];rw[show t'-t=(t'-(t+1))+1 by omega];exact e3
     ·cases e3
    ·exact .inr eo
theorem Sa0 {i nr:Nat}{s:BS}{v:Value}(h:yV G w ρ i nr s v)(oA:s.rcnt=1->(σ (kR nr)).isSome) :
  aD σ ρ G w (iK i nr s).1 v/\nM σ G w ρ (iK i nr s).2.1/\(iK i nr s).2.2=(i+s.cnt,nr+s.rcnt)/\(s.rcnt=1->∃ c,(kR nr,c)∈(iK i nr s).2.1):=by
 cases s with
 |sc=>exact⟨by simpa[iK,aD,yV] using h,by simp[nM,iK],rfl,fun e=>by cases e⟩
 | fz nie =>
  refine⟨?_,by simp[nM,iK],rfl,fun e=>by cases e⟩;simp only[yV]at h;simp only[iK,aD];exact⟨⟨h.1.one,by simp⟩,fun _=>⟨h.1.mono fun b hb=>⟨.inl hb,rfl⟩,h.2,trivial⟩⟩
 | ow m =>
  simp only[yV]at h;refine⟨?_,?_,rfl,fun _=>⟨_,Rbb.2 rfl⟩⟩
  ·simp only[iK,aD]
   exact⟨h.1,oA rfl,h.2.one⟩
  ·intro k c hc
   simp only[iK,Rbb,Rbx]at hc;exact⟨nr,m,i,hc.1,hc.2,by rw[<- h.1];exact h.2⟩
 |ot=>exact⟨by simpa[iK,aD,yV] using h,by simp[nM,iK],rfl,fun e=>by cases e⟩
theorem Abm {i nr:Nat}(s:BS):(iK i nr s).2.2=(i+s.cnt,nr+s.rcnt)/\(s.rcnt=1->∃ c,(kR nr,c)∈(iK i nr s).2.1):=by
 cases s<;>refine⟨rfl,fun e=>?_⟩<;>first|cases e|skip
 exact⟨_,Rbb.2 rfl⟩
theorem Ea3:∀ (ss:List (BS×BO)) (i nr:Nat),(iG i nr ss).2.2=(i+Bbr ss,nr+xJ ss)/\(iG i nr ss).1.length=ss.length/\∀ r,nr<=r->r<nr+xJ ss->∃ c,(kR r,c)∈(iG i nr ss).2.1
 |[],i,nr=>⟨rfl,rfl,fun r h1 h2=>by simp only[xJ]at h2;omega⟩
 | (s, o) :: ss, i, nr => by
  obtain⟨h1,h2⟩:=Abm (i:=i) (nr:=nr) s;obtain⟨h3,h4,h5⟩:=Ea3 ss (i+s.cnt) (nr+s.rcnt);have e:iK i nr s=((iK i nr s).1,(iK i nr s).2.1,i+s.cnt,nr+s.rcnt):=by rw[<- h1]
  simp only[iG];rw[e];dsimp only;refine⟨h3.trans (by simp only[Bbr,xJ,Rbp]),by simp[h4],fun r pk pP=>?_⟩;simp only[xJ]at pP
  rcases Rbu r (nr+s.rcnt) with h6|h6
  ·have hs:s.rcnt=1:=by cases s<;>simp[BS.rcnt]at h6 ⊢<;>omega
   have:r=nr:=by omega
   subst this;obtain⟨c,hc⟩:=h2 hs;exact⟨c,Qb9 _ hc⟩
  ·obtain⟨c,hc⟩:=h5 r h6 (by omega)
   exact⟨c,Rbc _ hc⟩
theorem Fa8 {ad:Addr}:∀ {ss:List (BS×BO)} {off i nr:Nat},Ga3 G w ρ ad off i nr ss->(∀ r,nr<=r->r<nr+xJ ss->(σ (kR r)).isSome) ->
  (∀ j l,(iG i nr ss).1[j]?=some l->∃ v,w.cell? (ad.add (off+j))=some v/\w.frozen? (ad.add (off+j))=false/\aD σ ρ G w l v)/\nM σ G w ρ (iG i nr ss).2.1
 |[],off,i,nr,_,_=>⟨by simp[iG],by simp[nM,iG]⟩
 | (s, o) :: ss, off, i, nr, h, hr => by
  obtain⟨⟨v,h1,h2,h3⟩,h4⟩:=h;obtain⟨h5,h6,h7,-⟩:=Sa0 h3 fun e=>hr nr (Rbt _) (by simp only[xJ];omega)
  obtain⟨h8,h9⟩:=Fa8 h4 fun r pk pP=>hr r (by omega) (by simp only[xJ];omega)
  have e:iK i nr s=((iK i nr s).1,(iK i nr s).2.1,i+s.cnt,nr+s.rcnt):=by rw[<- h7]
  simp only[iG];rw[e];dsimp only;refine⟨fun j l hj=>?_,h6.append h9⟩
  cases j with
  | zero =>
   simp only[Rbf,Qb7]at hj;subst hj;exact⟨v,h1,h2,h5⟩
  | succ j =>
   obtain⟨v',eo,fb,gq⟩:=h8 j l (by simpa using hj);rw[show off+(j+1)=off+1+j by omega];exact⟨v',eo,fb,gq⟩
def Nbj (σ:Nat->Option aU)(G:Gh)(w:World)(ρ:List D)(bs:Nat->Option (Bool×List (BS×BO)))(u:List (Nat×aU)):Prop :=
 ∀ k c,(k,c)∈u->(∃ b ro ls cs,k=kB b/\c=.box ro ls/\bs b=some (ro,cs)/\ls.length=cs.length/\Lac σ ρ G w b ro ls)\/(∃ r m i,k=kR r/\c=.root (.v i) m 0 .live/\Rp G.own w r [] m (G.hdr r) ((aP.v i).val ρ))
theorem zT:∀ (bs:List (Bool×List (BS×BO))) (b i nr:Nat),(lV b i nr bs).2=(i+Bbs bs,nr+xK bs)/\(∀ r,nr<=r->r<nr+xK bs->∃ c,(kR r,c)∈(lV b i nr bs).1)/\∀ j,b<=j->j<b+bs.length->∃ c,(kB j,c)∈(lV b i nr bs).1
 |[],b,i,nr=>⟨rfl,fun r h1 h2=>by simp only[xK]at h2;omega,fun j h1 h2=>by simp only[Rb8]at h2;omega⟩
 | (ro, cs) :: bs, b, i, nr => by
  obtain⟨h1,-,h2⟩:=Ea3 cs i nr;obtain⟨h3,h4,h5⟩:=zT bs (b+1) (i+Bbr cs) (nr+xJ cs);have e:iG i nr cs=((iG i nr cs).1,(iG i nr cs).2.1,i+Bbr cs,nr+xJ cs):=by rw[<- h1]
  simp only[lV];rw[e];dsimp only;refine⟨h3.trans (by simp only[Bbs,xK,Rbp]),fun r pk pP=>?_,fun j zb kq=>?_⟩
  ·simp only[xK]at pP
   rcases Rbu r (nr+xJ cs) with h6|h6
   ·obtain⟨c,hc⟩:=h2 r pk h6
    exact⟨c,Rbl _ (Qb9 _ hc)⟩
   ·obtain⟨c,hc⟩:=h4 r h6 (by omega)
    exact⟨c,Rbl _ (Rbc _ hc)⟩
  ·simp only[Rbw]at kq
   rcases Rbu j (b+1) with h6|h6
   ·obtain rfl:j=b:=by omega
    exact⟨_,Rbr⟩
   ·obtain⟨c,hc⟩:=h5 j h6 (by omega)
    exact⟨c,Rbl _ (Rbc _ hc)⟩
theorem Fa9:∀ {bs:List (Bool×List (BS×BO))} {b i nr:Nat},Ga4 G w ρ b i nr bs->(∀ r,nr<=r->r<nr+xK bs->(σ (kR r)).isSome) ->
  Nbj σ G w ρ (fun j=>if b<=j then bs[j-b]? else none) (lV b i nr bs).1
 |[],b,i,nr,_,_=>by simp[Nbj,lV]
 | (ro, cs) :: bs, b, i, nr, h, hr => by
  obtain⟨h1,h2,h3,h4⟩:=h;obtain⟨h5,h6,-⟩:=Ea3 cs i nr;obtain⟨h7,h8⟩:=Fa8 h3 fun r pk pP=>hr r pk (by simp only[xK];omega)
  have h9:=Fa9 (b:=b+1) h4 fun r pk pP=>hr r (by omega) (by simp only[xK];omega)
  have e:iG i nr cs=((iG i nr cs).1,(iG i nr cs).2.1,i+Bbr cs,nr+xJ cs):=by rw[<- h5]
  simp only[lV];rw[e];dsimp only;intro k c hc
  rcases Rbg.1 hc with hc|hc
  ·obtain⟨rfl,rfl⟩:=Tbw hc
   refine .inl ⟨b,ro,_,cs,rfl,rfl,by simp,h6,h1,h2,fun j l hj=>?_⟩;have:=h7 j l hj;rwa[Rb2]at this
  ·rcases Rbq.1 hc with hc|hc
   ·exact .inr (h8 k c hc)
   ·rcases h9 k c hc with ⟨j,lP,ls,oX,e1,e2,e3,e4⟩|eo
    ·refine .inl ⟨j,lP,ls,oX,e1,e2,?_,e4⟩
     dsimp only at e3 ⊢;split at e3
     ·rename_i hle
      rw[if_pos (by omega),show j-b=(j-(b+1))+1 by omega];exact e3
     ·cases e3
    ·exact .inr eo
end
theorem zL:∀ (ss:List LS) (r:Nat),∀ q∈fI r ss,r<=q/\q<r+lL ss
 |[],r,q,h=>by simp[fI]at h
 | s :: ss, r, q, h => by
  cases s with
  | mu m =>
   simp only[fI,Rbg]at h;simp only[lL,LS.rcnt]
   rcases h with rfl|h
   ·omega
   ·have:=zL ss (r+1) q h;omega
  | ow m =>
   simp only[fI]at h;simp only[lL,LS.rcnt];have:=zL ss (r+1) q h;omega
  | _ =>
   simp only[fI]at h;simp only[lL,LS.rcnt];have:=zL ss r q h;omega
theorem Fas:∀ (a b:List LS),lL (a++b)=lL a+lL b
 |[],b=>by simp[lL]
 |s::a,b=>by simp only[List.cons_append,lL,Fas a b,Rbp]
theorem Kai:∀ (ps:List (Bool×List LS)),lL (ps.flatMap (·.2))=kM ps
 |[]=>rfl
 |(a,ss)::ps=>by simp only[List.flatMap_cons,Fas,kM,Kai ps]
theorem vU:∀ (ls:List aT) (t k:Nat) (c:aU),(k,c)∈uP t ls->∃ j l,ls[j]?=some l/\k=kT (t+j)/\c=.slot none (.one l)
 |[],t,k,c,h=>by simp[uP]at h
 | l :: ls, t, k, c, h => by
  simp only[uP,Rbg,Rbx]at h
  rcases h with ⟨rfl,rfl⟩|h
  ·exact⟨0,l,rfl,rfl,rfl⟩
  ·obtain⟨j,l',h1,rfl,rfl⟩:=vU ls (t+1) k c h
   exact⟨j+1,l',by simpa using h1,by rw[show t+(j+1)=t+1+j by omega],rfl⟩
theorem Va9 {s:Sig}{G:Gh}{j:Nat}{l:aT}(h:(Qaj s)[j]?=some l) :
  (∃ r,(fI 0 (s.params.flatMap (·.2)))[j]?=some r/\l=.ex r/\(Iai s G).getD j undef=G.hdr r)\/(∃ b,b<s.boxes.length/\l=.px b 0/\(Iai s G).getD j undef=.pointer (some (G.bx b))):=by
 unfold Qaj at h;unfold Iai;rw[Rbi]
 rcases Rbu j (fI 0 (s.params.flatMap (·.2))).length with h1|h1
 ·rw[List.getElem?_append_left (by simpa using h1)]at h ⊢
  rw[Sbd]at h ⊢;rw[Rba h1]at h ⊢;simp only[Sbq,Qb7]at h;exact .inl ⟨_,rfl,h.symm,rfl⟩
 ·rw[Rbj (by simpa using h1)]at h ⊢
  simp only[Rb4]at h ⊢;rw[Sbd]at h ⊢
  cases hb:(range 0 s.boxes.length)[j-(fI 0 (s.params.flatMap (·.2))).length]? with
  |none=>rw[hb]at h;cases h
  | some b =>
   rw[hb]at h;simp only[Sbq,Qb7]at h;have:=mem_range.1 (Rbn hb);exact .inr ⟨b,by omega,h.symm,rfl⟩
def Fbd (s:Sig)(n:Nat):List (Nat×aU) :=
 (kV 0 0 0 s.params).1++(lV 0 (Ka1 s.params) (kM s.params) s.boxes).1++uP n (Qaj s)
theorem entry_eq (s:Sig)(n:Nat):entry s n=St.puts ⟨.nil,Ka1 s.params+Bbs s.boxes,s.boxes.length,kM s.params+xK s.boxes,n+oZ s⟩ (Fbd s n):=by
 have h1:=(vT s.params 0 0 0).1;have h2:=(zT s.boxes 0 (Ka1 s.params) (kM s.params)).1;rw[Rb2,Rb2]at h1;have e:kV 0 0 0 s.params=((kV 0 0 0 s.params).1,Ka1 s.params,kM s.params):=by rw[<- h1]
 have e2:lV 0 (Ka1 s.params) (kM s.params) s.boxes=((lV 0 (Ka1 s.params) (kM s.params) s.boxes).1,Ka1 s.params+Bbs s.boxes,kM s.params+xK s.boxes):=by rw[<- h2]
 unfold entry Fbd;rw[e];dsimp only;rw[e2]
theorem Ea2 (s:Sig)(n:Nat):(entry s n).nv=Ka1 s.params+Bbs s.boxes/\(entry s n).nb=s.boxes.length/\(entry s n).nr=kM s.params+xK s.boxes/\(entry s n).nt=n+oZ s:=by
 rw[entry_eq];obtain⟨h1,h2,h3,h4⟩:=jS (Fbd s n) ⟨.nil,Ka1 s.params+Bbs s.boxes,s.boxes.length,kM s.params+xK s.boxes,n+oZ s⟩;exact⟨h1,h2,h3,h4⟩
theorem Qax (s:Sig)(n:Nat)(k:Nat):(entry s n).get k=bif wS (n+oZ s) s.boxes.length (kM s.params+xK s.boxes) k then upds (fun _=>none) (Fbd s n) k else none:=by
 obtain⟨h1,h2,h3,h4⟩:=Ea2 s n;unfold St.get;rw[h2,h3,h4]
 have:(entry s n).tr.get k=upds (fun _=>none) (Fbd s n) k:=by
  rw[entry_eq,Naa];exact tT _ _ _ _ rfl
 rw[this]
theorem Qaw {s:Sig}{n k:Nat}{c:aU}(h:(entry s n).get k=some c):(k,c)∈Fbd s n:=by
 rw[Qax]at h
 revert h
 cases wS (n+oZ s) s.boxes.length (kM s.params+xK s.boxes) k with
 |false=>intro h;cases h
 | true =>
  intro h
  rcases sD _ _ _ _ h with h1|⟨-,h1⟩
  ·exact h1
  ·cases h1
theorem Kax {s:Sig}{n k:Nat}(hb:wS (n+oZ s) s.boxes.length (kM s.params+xK s.boxes) k=true)(h:∃ c,(k,c)∈Fbd s n):((entry s n).get k).isSome:=by
 rw[Qax,hb,cond_true];exact eZ _ _ _ (.inr h)
theorem Eb0 {nt nb nr b:Nat}(h:b<nb):wS nt nb nr (kB b)=true:=by
 unfold wS;rw[Qaa];have:kB b / 3=b:=by unfold kB;omega
 rw[this];simpa using h
theorem Wah (s:Sig)(n r:Nat)(h:r<kM s.params+xK s.boxes):((entry s n).get (kR r)).isSome:=by
 refine Kax (Pa8 h) ?_
 rcases Rbu r (kM s.params) with h1|h1
 ·obtain⟨c,hc⟩:=(vT s.params 0 0 0).2 r (Tbm _) (by omega)
  exact⟨c,Qb9 _ (Qb9 _ hc)⟩
 ·obtain⟨c,hc⟩:=(zT s.boxes 0 (Ka1 s.params) (kM s.params)).2.1 r h1 h
  exact⟨c,Qb9 _ (Rbc _ hc)⟩
theorem Abl (s:Sig)(n b:Nat)(h:b<s.boxes.length):((entry s n).get (kB b)).isSome:=by
 refine Kax (Eb0 h) ?_;obtain⟨c,hc⟩:=(zT s.boxes 0 (Ka1 s.params) (kM s.params)).2.2 b (Tbm _) (by omega);exact⟨c,Qb9 _ (Rbc _ hc)⟩
theorem Ibp {s:Sig}{vals:List Value}{w:World}{G:Gh}{ds:List D}{n:Nat}(h:Fb6 s vals w G ds)(hn:s.params.length<=n) :
  vals.length=s.params.length/\R n (tL s G w) (entry s n).get ds ⟨vals.toArray++Array.replicate (n-vals.length) undef,[]⟩ w G:=by
 have gz:∀ b,b<s.boxes.length->((entry s n).get (kB b)).isSome:=fun b hb=>Abl s n b hb
 have oA:=Wah s n;obtain⟨hlen,oi⟩:=Dak (σ:=(entry s n).get) gz (t:=0) h.params fun r _ hr=>oA r (by omega)
 have pT:=Fa9 (σ:=(entry s n).get) h.boxes fun r _ hr=>oA r hr
 have fR:∀ r,r<kM s.params->(G.hdr r).oneCell'=true:=by
  intro r hr;obtain⟨c,hc⟩:=(vT s.params 0 0 0).2 r (Tbm _) (by omega)
  rcases oi _ c hc with ⟨t,v,sv,e,-⟩|⟨r',m,i,e,-,gj⟩
  ·exact absurd e.symm jL
  ·obtain rfl:=fT e
   exact gj.one
 have fk:∀ t v,vals[t]?=some v->Bap n ⟨vals.toArray++Array.replicate (n-vals.length) undef,[]⟩ (tL s G w).gh t=v:=by
  intro t v hv;have bh:=(Qb8.1 hv).1;unfold Bap;rw[if_pos (by omega)];simp only[Array.getD_eq_getD_getElem?];rw[Array.getElem?_append_left (by simpa using bh)];simp[hv]
 refine⟨hlen,?_,rfl,fun k c hk=>?_,?_,fun b ls hk hb ho=>?_⟩
 ·simp;omega
 ·have hm:=Qaw hk
  unfold Fbd at hm
  rcases Rbq.1 hm with hm|hm
  ·rcases Rbq.1 hm with hm|hm
   ·rcases oi k c hm with ⟨t,v,sv,rfl,rfl,hv,iq⟩|⟨r,m,i,rfl,rfl,gj⟩
    ·refine⟨t,rfl,fun _=>?_⟩
     simp only[Tbm,if_true,Nat.sub_zero]at hv;rw[fk t v hv];exact iq
    ·exact⟨r,rfl,by rw[hk];rfl,gj⟩
   ·rcases pT k c hm with ⟨b,ro,ls,cs,rfl,rfl,-,-,hbr⟩|⟨r,m,i,rfl,rfl,gj⟩
    ·exact⟨b,rfl,hbr⟩
    ·exact⟨r,rfl,by rw[hk];rfl,gj⟩
  ·obtain⟨j,l,hj,rfl,rfl⟩:=vU _ _ _ _ hm
   refine⟨n+j,rfl,fun _=>?_⟩
   have e:Bap n ⟨vals.toArray++Array.replicate (n-vals.length) undef,[]⟩ (tL s G w).gh (n+j)=(Iai s G).getD j undef:=by
    unfold Bap;rw[if_neg (by omega),Sbi];rfl
   rw[e];simp only[dI]
   rcases Va9 (G:=G) hj with ⟨r,h1,rfl,h2⟩|⟨b,h1,rfl,h2⟩
   ·have hr:=zL _ _ r (Rbn h1)
    rw[Kai]at hr;simp only[aD];rw[h2];exact⟨rfl,oA r (by omega),fR r (by omega)⟩
   ·simp only[aD]
    rw[h2];exact⟨rfl,gz b h1⟩
 ·exact⟨rfl,rfl,rfl,Rbt _,fun b hb ho=>⟨rfl,rfl⟩,fun b j hb ho=>⟨ho,by
   obtain⟨-,c,e,fr,hc⟩:=h.cells b j hb ho;exact⟨c,c,e,fr,hc,hc,rfl,fun _ _=>rfl⟩⟩,h.fresh⟩
 ·have hm:=Qaw hk
  unfold Fbd at hm
  rcases Rbq.1 hm with hm|hm
  ·rcases Rbq.1 hm with hm|hm
   ·rcases oi _ _ hm with ⟨t,v,sv,e,-⟩|⟨r,m,i,e,-⟩
    ·exact absurd e.symm nC
    ·exact absurd e gB
   ·rcases pT _ _ hm with ⟨b',ro,lh,cs,e,e2,e3,e4,hbr⟩|⟨r,m,i,e,-⟩
    ·obtain rfl:=Ca6 e
     injection e2 with e5 e6
     subst e5 e6;simp only[Tbm,if_true,Nat.sub_zero]at e3;simp only[tL,Rbi,e3,Tbd];rw[e4]
    ·exact absurd e gB
  ·obtain⟨j,r,hj,e,-⟩:=vU _ _ _ _ hm
   exact absurd e.symm nC
theorem Abk {s:Sig}{n fu:Nat}(h:Ga5 (entry s n) fu ((range 0 (entry s n).nt).map kT++(range 0 (entry s n).nb).map kB++(range 0 (entry s n).nr).map kR)=true){E:Env}(hE:E.ntmps=n):Da1 E (entry s n):=by
 refine⟨by rw[(Ea2 s n).2.2.2,hE];omega,fun k c hk=>?_⟩
 have hm:k∈(range 0 (entry s n).nt).map kT++(range 0 (entry s n).nb).map kB++(range 0 (entry s n).nr).map kR:=by
  rcases Bae hk with ⟨t,rfl,ht⟩|⟨b,rfl,hb⟩|⟨r,rfl,hr⟩
  ·exact Qb9 _ (Qb9 _ (Sbp.2 ⟨t,mem_range.2 ⟨by omega,by omega⟩,rfl⟩))
  ·exact Qb9 _ (Rbc _ (Sbp.2 ⟨b,mem_range.2 ⟨by omega,by omega⟩,rfl⟩))
  ·exact Rbc _ (Sbp.2 ⟨r,mem_range.2 ⟨by omega,by omega⟩,rfl⟩)
 have:=Da5 h k hm;rw[hk]at this;exact vZ this
def BO.q:BO->Nat
 |.ow _=>1
 |_=>0
def qC:List BO->Nat
 |[]=>0
 |s::ss=>s.q+qC ss
def LR.q:LR->Nat
 |.ow _=>1
 |.bx cs=>qC cs
 |_=>0
def qL:List LR->Nat
 |[]=>0
 |s::ss=>s.q+qL ss
def qR:List (Bool×List LR)->Nat
 |[]=>0
 |(_,ss)::rs=>qL ss+qR rs
section
variable (own:Nat->Ow) (w:World) (ds:List D) (nbx:Nat)
def Fae (i q:Nat):BO->Value->Prop
 |.sc,v=>Sc v (ds.getD i .undef)
 |.fz,v=>Rd (fun b=>own b=.frz) w v (ds.getD i .undef)
 |.ow m,v=>Rp own w (2*q) [] m v (ds.getD i .undef)
 |.dead,v=>v.oneCell'=true
def Da3 (ad:Addr):Nat->Nat->Nat->List BO->Prop
 |_,_,_,[]=>True
 |off,i,q,s::ss=>(∃ v,w.cell? (ad.add off)=some v/\w.frozen? (ad.add off)=false/\Fae own w ds i q s v)/\Da3 ad (off+1) (i+1) (q+s.q) ss
def nI (i q:Nat):LR->Value->Prop
 |.sc,v=>Sc v (ds.getD i .undef)
 |.fz,v=>Rd (fun b=>own b=.frz) w v (ds.getD i .undef)
 |.ow m,v=>Rp own w (2*q) [] m v (ds.getD i .undef)
 |.rp _,v=>v.oneCell'=true/\Bbi (fun b=>own b=.frz) w v (ds.getD i .undef)
 |.bx cs,v=>∃ ad,v=.pointer (some ad)/\ad.spot=none/\own ad.block=.box nbx/\Da3 own w ds ad 0 i q cs
def rY:Nat->Nat->List LR->List Value->Prop
 |_,_,[],vs=>vs=[]
 |i,q,s::ss,vs=>∃ u us,vs=u::us/\nI own w ds nbx i q s u/\rY (i+s.n) (q+s.q) ss us
def Laa:Nat->Nat->List (Bool×List LR)->List Value->Prop
 |_,_,[],us=>us=[]
 |i,q,(a,ss)::rs,us=>∃ u eE vs,us=u::eE/\rY own w ds nbx i q ss vs/\(if a=true then u=.agg vs.toArray else vs=[u])/\Laa (i+oQ ss) (q+qL ss) rs eE
def Ua5 (gh:Nat->Value):Nat->Nat->List Nat->Prop
 |_,_,[]=>True
 |i,j,d::ms=>Rp own w (2*j+1) [] d (gh j) (ds.getD i .undef)/\Ua5 gh (i+1) (j+1) ms
def qF (bx:Nat->Addr):Nat->Nat->Nat->List (Bool×List (BS×BO))->Prop
 |_,_,_,[]=>True
 |b,i,q,(ro,cs)::r=>if ro=true then qF bx (b+1) i q r else Da3 own w ds (bx b) 0 i q (cs.map (·.2))/\qF bx (b+1) (i+cs.length) (q+qC (cs.map (·.2))) r
end
def Faq:List Value->Value
 |[u]=>u
 |us=>.tuple us.toArray
def Taf (s:Sig)(F:bQ)(bx:Nat->Addr)(v:Value)(w:World)(ds:List D):Prop :=
 ∃ G us,v=Faq us/\nX F G w/\Laa G.own w ds s.boxes.length 0 0 s.results us/\Ua5 G.own w ds F.gh (bU s.results) 0 (eU (s.params.flatMap (·.2))) /\
  qF G.own w ds bx 0 (bU s.results+(eU (s.params.flatMap (·.2))).length) (qR s.results) s.boxes
structure FLe (A B:Fin):Prop where
 xs:∃ l,B.xs=A.xs++l
 own:∀ z∈A.own,z∈B.own
 frz:∀ z∈A.frz,z∈B.frz
 lets:∃ l,B.lets=A.lets++l
 bxs:∀ z∈A.bxs,z∈B.bxs
theorem FLe.refl (A:Fin):FLe A A:=⟨⟨[],by simp⟩,fun _ h=>h,fun _ h=>h,⟨[],by simp⟩,fun _ h=>h⟩
theorem FLe.trans {A B C:Fin}(h:FLe A B)(h':FLe B C):FLe A C:=by
 obtain⟨⟨l,h1⟩,h2,h3,⟨m,h4⟩,h5⟩:=h;obtain⟨⟨l',tw⟩,tg,zt,⟨m',um⟩,tE⟩:=h';exact⟨⟨l++l',by rw[tw,h1,Rbd]⟩,fun z hz=>tg z (h2 z hz),fun z hz=>zt z (h3 z hz),⟨m++m',by rw[um,h4,Rbd]⟩,fun z hz=>tE z (h5 z hz)⟩
structure Wa0 (Z:Fin) (nbx:Nat) (G G':Gh):Prop where
 frz:∀ b,G.own b=.frz->G'.own b=.frz
 own:∀ r t m,(r,t,m)∈Z.own->∀ b p,G.own b=.slc r p->G'.own b=if p.length<m then .slc t p else .frz
 fr:∀ r,r∈Z.frz->∀ b p,G.own b=.slc r p->G'.own b=.frz
 bxs:∀ β,β∈Z.bxs->∀ b,G.own b=.box β->G'.own b=.box nbx
section
variable {E:Env} {F:bQ} {σ:Nat->Option aU} {ρ:List D} {a:Act} {w:World} {G G':Gh} {cf:Nat->List D->Option (List D)} {Z:Fin} {nbx nv:Nat}
theorem FLe.get {A B:Fin}(h:FLe A B){ρ:List D}{x:aP}{l:List aP}(hx:A.xs=l++[x]):(B.xs.map (·.val ρ)).getD l.length .undef=x.val ρ:=by
 obtain⟨m,h1⟩:=h.xs;rw[h1,hx,Rbi];simp
theorem Rp.give (hG:Wa0 Z nbx G G'){r t m m':Nat}(hz:(r,t,m)∈Z.own)(hm:m<=m'){v:Value}{d:D}(h:Rp G.own w r [] m' v d):Rp G'.own w t [] m v d:=by
 let own1:Nat->Ow:=fun b=>match G.own b with
  |.slc s p=>if s=r then (if p.length<m then .slc s p else .frz) else .slc s p
  |o=>o
 have h1:=h.weaken (own':=own1) (fun b hb=>by simp only[own1,hb]) m hm (fun b q hb=>by simp only[own1,hb,Sbm,if_true]);have:=h1.mono (own':=G'.own) (w':=w) (q:=[]) (q':=[]) (r':=t) (fun b hb=>⟨?_,rfl⟩) [] rfl (fun b q hb=>⟨?_,rfl⟩)
 ·simpa using this
 ·simp only[own1]at hb
  split at hb
  ·rename_i s p e
   split at hb
   ·rename_i hs
    subst hs;split at hb
    ·cases hb
    ·rename_i hp
     rw[hG.own s t m hz b p e,if_neg hp]
   ·cases hb
  ·exact hG.frz b hb
 ·simp only[own1]at hb
  split at hb
  ·rename_i s p e
   split at hb
   ·rename_i hs
    subst hs;split at hb
    ·rename_i hp
     injection hb with e1 e2
     simp only[Sbm]at e2 ⊢;subst e2;rw[hG.own s t m hz b p e,if_pos hp]
    ·cases hb
   ·rename_i hs
    injection hb with e1 e2
    exact absurd e1 hs
  ·rename_i vk
   exact absurd hb (vk _ _)
theorem Rd.give (hG:Wa0 Z nbx G G'){deps:List (Nat×Nat)}(hz:∀ z∈deps,z.1∈Z.frz){v:Value}{d:D}(h:Rd (allow G deps) w v d):Rd (fun b=>G'.own b=.frz) w v d:=by
 refine h.mono fun b hb=>⟨?_,rfl⟩
 rcases hb with hb|⟨r,k,p,hm,hb⟩
 ·exact hG.frz b hb
 ·exact hG.fr r (hz _ hm) b p hb
theorem Qap (hR:R E.ntmps F σ ρ a w G){A B:Fin}{m:Nat}{l:aT}(h:(Qaq A m l).eval σ=some B)(hZ:FLe B Z)(hG:Wa0 Z nbx G G'){v:Value}(hl:aD σ ρ G w l v) :
  Rp G'.own w (2*A.q) [] m v ((Z.xs.map (·.val ρ)).getD A.xs.length .undef)/\FLe A B/\B.xs.length=A.xs.length+1/\B.q=A.q+1:=by
 unfold Qaq at h;split at h
 ·rename_i nie z
  simp only[aF,Qb7]at h;subst h;refine⟨?_,⟨⟨_,rfl⟩,fun _ h=>h,fun _ h=>h,⟨[],by simp[Uap]⟩,fun _ h=>h⟩,by simp[Uap],rfl⟩;rw[hZ.get (l:=A.xs) rfl];simp only[aD]at hl;have hv:=(hl.2 (by simp)).2.1 trivial z rfl;rw[hv]
  cases m with
  |zero=>exact .fz (.rows none ⟨0,0,none⟩ 0 0 z [] (fun _ _=>undef) rfl (Rbt _) (.inl rfl) (by simp) (by simp) (by simp))
  |succ m=>exact .sl none ⟨0,0,none⟩ 0 0 z [] (fun _ _=>undef) rfl (Rbt _) (.inr ⟨rfl,rfl⟩) (by simp) (fun e=>by cases e) (by simp) (by simp)
 ·rename_i r
  simp only[aC,aW,Rbe]at h;split at h
  ·rename_i x m' cQ hk
   simp only[aC,aO,Qb5,aF,Qb7]at h;obtain⟨_,h1,rfl⟩:=h;split at h1
   case isFalse=>cases h1
   rename_i hb;simp only[Sbr]at hb;refine⟨?_,⟨⟨_,rfl⟩,fun _ h=>Qb9 _ h,fun _ h=>h,⟨[],by simp[Aas]⟩,fun _ h=>h⟩,by simp[Aas],rfl⟩;rw[hZ.get (l:=A.xs) rfl];simp only[aD]at hl;rw[hl.1];have hr:=hR.root hk;simp only[dB]at hr;exact hr.give hG (hZ.own _ (by simp[Aas])) hb
  ·cases h
 ·rename_i r k nie x
  simp only[aC,aW,Rbe]at h;split at h
  ·rename_i x' m' cQ hk
   simp only[aC,aO,Qb5,aF,Qb7]at h;obtain⟨_,h1,rfl⟩:=h;split at h1
   case isFalse=>cases h1
   rename_i hb;simp only[Qb6,Sbr,Rb3]at hb;obtain⟨hb,rfl⟩:=hb;refine⟨?_,⟨⟨_,rfl⟩,fun _ h=>Qb9 _ h,fun _ h=>h,⟨[],by simp[Aas]⟩,fun _ h=>h⟩,by simp[Aas],rfl⟩;rw[hZ.get (l:=A.xs) rfl];simp only[aD]at hl
   have hp:=(hl.2 fun z hz=>by
    simp only[Rbb]at hz;subst hz;exact⟨x',m',.live,hk,.inl rfl⟩).2.2
   exact (hp r cQ m' rfl ⟨x',hk⟩).give hG (hZ.own _ (by simp[Aas])) hb
  ·cases h
 ·cases h
theorem Qar (hR:R E.ntmps F σ ρ a w G){A B:Fin}{l:aT}(h:(Qas A l).eval σ=some B)(hZ:FLe B Z)(hG:Wa0 Z nbx G G'){v:Value}(hl:aD σ ρ G w l v) :
  Rd (fun b=>G'.own b=.frz) w v ((Z.xs.map (·.val ρ)).getD A.xs.length .undef)/\FLe A B/\B.xs.length=A.xs.length+1/\B.q=A.q:=by
 unfold Qas at h;simp only[aC,Qb5,aF,Qb7]at h;obtain⟨s,h1,rfl⟩:=h;refine⟨?_,⟨⟨_,rfl⟩,fun _ h=>h,fun _ h=>Qb9 _ h,⟨[],by simp⟩,fun _ h=>h⟩,by simp,rfl⟩;rw[hZ.get (l:=A.xs) rfl];have hs:=eT hR h1 hl;exact hs.rd.give hG fun z hz=>hZ.frz _ (Rbc _ (Sb1 hz))
theorem Say (hR:R E.ntmps F σ ρ a w G){A B:Fin}{s:BO}{l:aT}(h:(Ea0 A s l).eval σ=some B)(hZ:FLe B Z)(hG:Wa0 Z nbx G G'){v:Value}(hl:aD σ ρ G w l v) :
  Fae G'.own w (Z.xs.map (·.val ρ)) A.xs.length A.q s v/\FLe A B/\B.xs.length=A.xs.length+1/\B.q=A.q+s.q:=by
 cases s with
 | sc =>
  cases l<;>simp only[Ea0,cZ,reduceCtorEq]at h
  rename_i x;simp only[aF,Qb7]at h;subst h;refine⟨?_,⟨⟨_,rfl⟩,fun _ h=>h,fun _ h=>h,⟨[],by simp⟩,fun _ h=>h⟩,by simp,rfl⟩;simp only[Fae];rw[hZ.get (l:=A.xs) rfl];simpa[aD] using hl
 | fz =>
  have h':(Qas A l).eval σ=some B:=by cases l<;>exact h
  exact Qar hR h' hZ hG hl
 | ow m =>
  have h':(Qaq A m l).eval σ=some B:=by cases l<;>exact h
  exact Qap hR h' hZ hG hl
 | dead =>
  have h':(bif Oa4 l then RdM.ret { A with xs:=A.xs++[.c .hole] } else .no:RdM Fin).eval σ=some B:=by cases l<;>exact h
  cases hb:Oa4 l with
  |false=>rw[hb]at h';cases h'
  | true =>
   rw[hb,cond_true]at h';simp only[aF,Qb7]at h';subst h';exact⟨hl.one hb,⟨⟨_,rfl⟩,fun _ h=>h,fun _ h=>h,⟨[],by simp⟩,fun _ h=>h⟩,by simp,rfl⟩
theorem Dah:∀ {ss:List BO} {ls:List aT} {A B:Fin},(kH A ss ls).eval σ=some B->(∀ {A B:Fin} {s:BO} {l:aT},(Ea0 A s l).eval σ=some B->FLe A B)->FLe A B
 | [], [], A, B, h, _ => by
  simp only[kH,aF,Qb7]at h;subst h;exact .refl _
 |[],_::_,A,B,h,_=>by simp[kH,cZ]at h
 |_::_,[],A,B,h,_=>by simp[kH,cZ]at h
 | s :: ss, l :: ls, A, B, h, hc => by
  simp only[kH,aC,Qb5]at h;obtain⟨C,h1,h2⟩:=h;exact (hc h1).trans (Dah h2 hc)
theorem Uao {A B:Fin}{m:Nat}{l:aT}(h:(Qaq A m l).eval σ=some B):FLe A B:=by
 unfold Qaq at h;split at h
 ·simp only[aF,Qb7]at h
  subst h;exact⟨⟨_,rfl⟩,fun _ h=>h,fun _ h=>h,⟨[],by simp[Uap]⟩,fun _ h=>h⟩
 ·simp only[aC,aW,Rbe]at h
  split at h
  ·simp only[aC,aO,Qb5,aF,Qb7]at h
   obtain⟨_,-,rfl⟩:=h;exact⟨⟨_,rfl⟩,fun _ h=>Qb9 _ h,fun _ h=>h,⟨[],by simp[Aas]⟩,fun _ h=>h⟩
  ·cases h
 ·simp only[aC,aW,Rbe]at h
  split at h
  ·simp only[aC,aO,Qb5,aF,Qb7]at h
   obtain⟨_,-,rfl⟩:=h;exact⟨⟨_,rfl⟩,fun _ h=>Qb9 _ h,fun _ h=>h,⟨[],by simp[Aas]⟩,fun _ h=>h⟩
  ·cases h
 ·cases h
theorem Uaq {A B:Fin}{l:aT}(h:(Qas A l).eval σ=some B):FLe A B:=by
 unfold Qas at h;simp only[aC,Qb5,aF,Qb7]at h;obtain⟨s,h1,rfl⟩:=h;exact⟨⟨_,rfl⟩,fun _ h=>h,fun _ h=>Qb9 _ h,⟨[],by simp⟩,fun _ h=>h⟩
theorem Waf {A B:Fin}{s:BO}{l:aT}(h:(Ea0 A s l).eval σ=some B):FLe A B:=by
 cases s with
 | sc =>
  cases l<;>simp only[Ea0,cZ,reduceCtorEq]at h
  simp only[aF,Qb7]at h;subst h;exact⟨⟨_,rfl⟩,fun _ h=>h,fun _ h=>h,⟨[],by simp⟩,fun _ h=>h⟩
 | fz =>
  have h':(Qas A l).eval σ=some B:=by cases l<;>exact h
  exact Uaq h'
 | ow m =>
  have h':(Qaq A m l).eval σ=some B:=by cases l<;>exact h
  exact Uao h'
 | dead =>
  have h':(bif Oa4 l then RdM.ret { A with xs:=A.xs++[.c .hole] } else .no:RdM Fin).eval σ=some B:=by cases l<;>exact h
  cases hb:Oa4 l with
  |false=>rw[hb]at h';cases h'
  | true =>
   rw[hb,cond_true]at h';simp only[aF,Qb7]at h';subst h';exact⟨⟨_,rfl⟩,fun _ h=>h,fun _ h=>h,⟨[],by simp⟩,fun _ h=>h⟩
theorem vR {ss:List BO}{ls:List aT}{A B:Fin}(h:(kH A ss ls).eval σ=some B):FLe A B:=Dah h fun h=>Waf h
theorem yJ (hR:R E.ntmps F σ ρ a w G)(hG:Wa0 Z nbx G G'){ad:Addr}:∀ {ss:List BO} {ls:List aT} {A B:Fin} {off:Nat},(kH A ss ls).eval σ=some B->FLe B Z ->
  (∀ j l,ls[j]?=some l->∃ v,w.cell? (ad.add (off+j))=some v/\w.frozen? (ad.add (off+j))=false/\aD σ ρ G w l v) ->
  Da3 G'.own w (Z.xs.map (·.val ρ)) ad off A.xs.length A.q ss/\B.xs.length=A.xs.length+ss.length/\B.q=A.q+qC ss
 | [], [], A, B, off, h, _, _ => by
  simp only[kH,aF,Qb7]at h;subst h;exact⟨trivial,rfl,rfl⟩
 |[],_::_,A,B,off,h,_,_=>by simp[kH,cZ]at h
 |_::_,[],A,B,off,h,_,_=>by simp[kH,cZ]at h
 | s :: ss, l :: ls, A, B, off, h, hZ, hl => by
  simp only[kH,aC,Qb5]at h;obtain⟨C,h1,h2⟩:=h;obtain⟨v,h3,h4,h5⟩:=hl 0 l rfl;obtain⟨h6,h7,h8,h9⟩:=Say hR h1 ((vR h2).trans hZ) hG h5
  obtain⟨eo,fb,gq⟩:=yJ hR hG (off:=off+1) h2 hZ fun j l' hj=>by
   have:=hl (j+1) l' (by simpa using hj);rwa[show off+(j+1)=off+1+j by omega]at this
  rw[h8,h9]at eo;exact⟨⟨⟨v,h3,h4,h6⟩,eo⟩,by rw[fb,h8];simp;omega,by rw[gq,h9];simp only[qC];omega⟩
end
def Gbm (tmps:Array Value):ResultVar->Sem Value
 |.tmp t=>pure (tmps.getD t undef)
 |.cell a t=>do loadVar t (<- asAddr (tmps.getD a undef))
def Far (P:Program)(tmps:Array Value)(w:World)(x:ResultVar):Value:=match (Gbm tmps x).run P w with
 |.ok v _=>v
 |_=>undef
theorem Paj {P:Program}{tmps:Array Value}{w:World}{x:ResultVar}{v:Value}(h:(Gbm tmps x).run P w=.ok v w):Far P tmps w x=v/\(Gbm tmps x).run P w=.ok (Far P tmps w x) w:=by
 have:Far P tmps w x=v:=by unfold Far;rw[h]
 exact⟨this,by rw[this];exact h⟩
theorem Ya0 (vs:Array Value):(if h:vs.size=1 then vs[0] else Value.tuple vs)=Faq vs.toList:=by
 obtain⟨l⟩:=vs
 match l with
 |[]=>rfl
 |[u]=>rfl
 |u::v::r=>simp[Faq]
section
variable {P:Program} {E:Env} {F:bQ} {σ:Nat->Option aU} {ρ:List D} {a:Act} {w:World} {G G':Gh} {cf:Nat->List D->Option (List D)} {Z:Fin} {nbx nv:Nat}
theorem Wae {A B:Fin}{s:LR}{l:aT}(h:(Iar nv A s l).eval σ=some B):FLe A B:=by
 unfold Iar at h;split at h
 ·simp only[aF,Qb7]at h
  subst h;exact⟨⟨_,rfl⟩,fun _ h=>h,fun _ h=>h,⟨[],by simp⟩,fun _ h=>h⟩
 ·exact Uaq h
 ·exact Uao h
 ·simp only[aF,Qb7]at h
  subst h;exact⟨⟨_,rfl⟩,fun _ h=>h,fun _ h=>h,⟨[],by simp⟩,fun _ h=>h⟩
 ·simp only[aC,Qb5,aF,Qb7]at h
  obtain⟨d,-,rfl⟩:=h;exact⟨⟨_,rfl⟩,fun _ h=>h,fun _ h=>Qb9 _ h,⟨[],by simp⟩,fun _ h=>h⟩
 ·simp only[aC,Qb5,aF,Qb7]at h
  obtain⟨d,-,rfl⟩:=h;exact⟨⟨_,rfl⟩,fun _ h=>h,fun _ h=>Qb9 _ h,⟨_,rfl⟩,fun _ h=>h⟩
 ·cases h
theorem Sax (hR:R E.ntmps F σ ρ a w G)(cT:aR cf ρ none nv Z.lets){A B:Fin}{s:LR}{l:aT}(h:(Iar nv A s l).eval σ=some B)(hZ:FLe B Z)(hG:Wa0 Z nbx G G'){v:Value}(hl:aD σ ρ G w l v) :
  nI G'.own w (Z.xs.map (·.val ρ)) nbx A.xs.length A.q s v/\B.xs.length=A.xs.length+s.n/\B.q=A.q+s.q:=by
 unfold Iar at h;split at h
 ·simp only[aF,Qb7]at h
  subst h;refine⟨?_,by simp[LR.n],rfl⟩;simp only[nI];rw[hZ.get (l:=A.xs) rfl];simpa[aD] using hl
 ·obtain⟨h1,-,h2,h3⟩:=Qar hR h hZ hG hl
  exact⟨h1,h2,h3⟩
 ·obtain⟨h1,-,h2,h3⟩:=Qap hR h hZ hG hl
  exact⟨h1,h2,h3⟩
 ·simp only[aF,Qb7]at h
  subst h;refine⟨?_,by simp[LR.n],rfl⟩;simp only[nI];rw[hZ.get (l:=A.xs) rfl];simp only[aD]at hl;exact⟨by rw[hl];rfl,.inl ⟨hl,_,rfl⟩⟩
 ·rename_i z deps z' x
  simp only[aC,Qb5,aF,Qb7]at h;obtain⟨ds,h1,rfl⟩:=h;refine⟨?_,by simp[LR.n],rfl⟩;simp only[nI];rw[hZ.get (l:=A.xs) rfl];simp only[aD]at hl;obtain⟨h3,h4,h5⟩:=jX h1;refine⟨hl.1.1,?_⟩
  rcases hl.2 h3 with h6|⟨ad,row,h6,h7,h8⟩
  ·exact .inl h6
  ·exact .inr ⟨ad,row,h6,h7,(h8.drop hR h5).give hG fun z hz=>hZ.frz _ (Rbc _ (Sb1 hz))⟩
 ·rename_i z l' z' ix
  simp only[aC,Qb5,aF,Qb7]at h;obtain⟨sl,h1,rfl⟩:=h;refine⟨?_,by simp[LR.n],rfl⟩;simp only[nI];rw[hZ.get (l:=A.xs) rfl];simp only[aD]at hl;obtain⟨ad,n,cp,ik,iv,h3,h4,h5,h6,h7⟩:=hl;have hs:=eT hR h1 h3;obtain⟨lr,pt⟩:=hZ.lets;dsimp only at pt;rw[pt,Rbd]at cT;have sj:=(aR.append cT).2;have mT:aR cf ρ none (nv+bT A.lets) [.prim (.one z') [sl.x,ix] 1]:=(aR.append sj).1;obtain⟨d,cP,hd⟩:=gW mT rfl;simp only[Rby,Sbc,h4]at cP
  have gr:∃ sz rs r,sl.x.val ρ=.rows sz rs/\sz=z'/\rs[iv.toNat]?=some r/\d=.rows z' [r]:=by
   cases hx:sl.x.val ρ with
   | rows sz rs =>
    rw[hx]at cP;simp only[aS.run]at cP;split at cP
    ·rename_i hc
     split at cP
     ·rename_i r hr
      simp only[Qb7,List.cons.injEq,and_true]at cP;exact⟨sz,rs,r,rfl,hc.1,hr,cP.symm⟩
     ·cases cP
    ·cases cP
   |_=>rw[hx]at cP;simp[aS.run]at cP
  obtain⟨sz,rs,r,hx,rfl,hr,rfl⟩:=gr;have jq:=hs.rd;rw[hx]at jq;obtain⟨A',b,n',c',vs,e1,e2,e3,e4,e5,e6,e7⟩:=jq.inv
  injection e1 with e1 e1' e1''
  have bh:iv.toNat<rs.length:=(Qb8.1 hr).1;have hA:some ad=some b:=by rw[e1];exact e4.resolve_left (by omega)
  obtain rfl:=Rb5 hA;have tl:r.length=sz:=e5 r (Rbn hr);refine⟨by rw[h7];rfl,.inr ⟨_,r,h7,by rw[hd,tl],?_⟩⟩
  have:Rd (allow G sl.deps) w (.slice (some (ad.add (iv.toNat*sz+0))) 1 1) (.rows r.length [r]):=by
   refine .rows _ (ad.add (iv.toNat*sz+0)) 1 1 r.length [r] (fun _ j=>vs iv.toNat j) rfl (Rbt _) (.inr rfl) (by simp) (fun i0 r0 ju j d0 hj=>?_) (fun i0 r0 ju j d0 hj=>?_)
   ·cases i0 with
    | zero =>
     simp only[Rbf,Qb7]at ju;subst ju;obtain⟨k1,k2⟩:=e6 _ _ hr j d0 hj;refine⟨by rw[add_block];exact k1,?_⟩;rw[add_add];rw[show iv.toNat*sz+0+(0*r.length+j)=iv.toNat*sz+j by omega];exact k2
    |succ i0=>simp at ju
   ·cases i0 with
    | zero =>
     simp only[Rbf,Qb7]at ju;subst ju;exact e7 _ _ hr j d0 hj
    |succ i0=>simp at ju
  exact this.give hG fun z hz=>hZ.frz _ (Rbc _ (Sb1 hz))
 ·cases h
theorem sN:∀ {ss:List LR} {ls:List aT} {A B:Fin},(jA nv A ss ls).eval σ=some B->FLe A B
 | [], [], A, B, h => by
  simp only[jA,aF,Qb7]at h;subst h;exact .refl _
 |[],_::_,A,B,h=>by simp[jA,cZ]at h
 |_::_,[],A,B,h=>by simp[jA,cZ]at h
 | s :: ss, l :: ls, A, B, h => by
  simp only[jA,aC,Qb5]at h;obtain⟨C,h1,h2⟩:=h;refine FLe.trans ?_ (sN h2);split at h1
  ·rename_i cs b
   simp only[aC,aW,Rbe]at h1;split at h1
   ·have h0:FLe A { A with bxs:=A.bxs++[b] }:=⟨⟨[],by simp⟩,fun _ h=>h,fun _ h=>h,⟨[],by simp⟩,fun _ h=>Qb9 _ h⟩
    exact FLe.trans h0 (vR h1)
   ·cases h1
  ·exact Wae h1
theorem vQ (hR:R E.ntmps F σ ρ a w G)(cT:aR cf ρ none nv Z.lets)(hG:Wa0 Z nbx G G'):∀ {ss:List LR} {ls:List aT} {A B:Fin} {vs:List Value},(jA nv A ss ls).eval σ=some B->FLe B Z->aH σ ρ G w ls vs ->
  rY G'.own w (Z.xs.map (·.val ρ)) nbx A.xs.length A.q ss vs/\B.xs.length=A.xs.length+oQ ss/\B.q=A.q+qL ss
 | [], [], A, B, vs, h, _, hl => by
  simp only[jA,aF,Qb7]at h;subst h;simp only[aH]at hl;exact⟨hl,rfl,rfl⟩
 |[],_::_,A,B,vs,h,_,_=>by simp[jA,cZ]at h
 |_::_,[],A,B,vs,h,_,_=>by simp[jA,cZ]at h
 | s :: ss, l :: ls, A, B, vs, h, hZ, hl => by
  simp only[jA,aC,Qb5]at h;obtain⟨C,h1,h2⟩:=h;simp only[aH]at hl;obtain⟨u,us,rfl,h3,h4⟩:=hl;have hCZ:FLe C Z:=(sN h2).trans hZ
  have key:nI G'.own w (Z.xs.map (·.val ρ)) nbx A.xs.length A.q s u/\C.xs.length=A.xs.length+s.n/\C.q=A.q+s.q:=by
   split at h1
   ·rename_i cs b
    simp only[aC,aW,Rbe]at h1;split at h1
    ·rename_i bs hk
     obtain⟨h5,h6,h7⟩:=hR.box hk;simp only[Rbk,if_false]at h6;obtain⟨h8,h9,eo⟩:=yJ hR hG (ad:=G.bx b) (off:=0) h1 hCZ fun j l hj=>by rw[Rb2];exact h7 j l hj
     refine⟨?_,h9,eo⟩;simp only[aD]at h3;simp only[nI];exact⟨G.bx b,h3.1,h5,hG.bxs b (hCZ.bxs _ ((vR h1).bxs _ (Rbc _ (Rbb.2 rfl)))) _ h6,h8⟩
    ·cases h1
   ·exact Sax hR cT h1 hCZ hG h3
  obtain⟨h5,h6,h7⟩:=key;obtain⟨h8,h9,eo⟩:=vQ hR cT hG h2 hZ h4;rw[h6,h7]at h8;exact⟨⟨u,us,rfl,h5,h8⟩,by rw[h9,h6];simp only[oQ];omega,by rw[eo,h7];simp only[qL];omega⟩
theorem Dag:∀ {rs:List (Bool×List LR)} {vars:List ResultVar} {A B:Fin},(rM E nv A rs vars).eval σ=some B->FLe A B
 | [], [], A, B, h => by
  simp only[rM,aF,Qb7]at h;subst h;exact .refl _
 |[],_::_,A,B,h=>by simp[rM,cZ]at h
 |_::_,[],A,B,h=>by simp[rM,cZ]at h
 | (ag, ss) :: rs, .tmp t :: vars, A, B, h => by
  simp only[rM,aC,aW,Rbe]at h;split at h
  ·simp only[aC,Qb5]at h
   obtain⟨_,-,ls,-,C,h1,h2⟩:=h;exact (sN h1).trans (Dag h2)
  ·cases h
 | (ag, ss) :: rs, .cell t ty :: vars, A, B, h => by
  simp only[rM,aC,Qb5]at h;obtain⟨ti,-,_,-,_,-,h⟩:=h;split at h
  ·simp only[aC,aW,Rbe]at h
   split at h
   ·simp only[aC,Qb5]at h
    obtain⟨C,h1,h2⟩:=h;exact (sN h1).trans (Dag h2)
   ·cases h
  ·cases h
theorem Qak {n t:Nat}{gh:Nat->Value}(h:t<n):a.tmps.getD t undef=Bap n a gh t:=by
 unfold Bap;rw[if_pos h]
theorem Eaz (hti:wU P E.ti)(hR:R E.ntmps F σ ρ a w G)(cT:aR cf ρ none nv Z.lets)(hG:Wa0 Z nbx G G'):∀ {rs:List (Bool×List LR)} {vars:List ResultVar} {A B:Fin},(rM E nv A rs vars).eval σ=some B->FLe B Z ->
  (∀ x∈vars,(Gbm a.tmps x).run P w=.ok (Far P a.tmps w x) w)/\Laa G'.own w (Z.xs.map (·.val ρ)) nbx A.xs.length A.q rs (vars.map (Far P a.tmps w))/\B.xs.length=A.xs.length+bU rs/\B.q=A.q+qR rs
 | [], [], A, B, h, _ => by
  simp only[rM,aF,Qb7]at h;subst h;exact⟨by simp,rfl,rfl,rfl⟩
 |[],_::_,A,B,h,_=>by simp[rM,cZ]at h
 |_::_,[],A,B,h,_=>by simp[rM,cZ]at h
 | (ag, ss) :: rs, .tmp t :: vars, A, B, h, hZ => by
  simp only[rM,aC,aW,Rbe]at h;split at h
  case h_2=>cases h
  rename_i sv hk;simp only[aC,Qb5,aO,bA]at h;obtain⟨_,h0,ls,h1,C,h2,h3⟩:=h;split at h0
  case isFalse=>cases h0
  rename_i ht;simp only[Sbn]at ht;have hv:=hR.slot hk rfl;rw[<- Qak ht]at hv;have cP:(Gbm a.tmps (.tmp t)).run P w=.ok (a.tmps.getD t undef) w:=rfl;obtain⟨e1,e2⟩:=Paj cP;have hC:=(Dag h3).trans hZ;obtain⟨h4,h5,h6⟩:=vQ hR cT hG h2 hC (jF h1 hv);obtain⟨h7,h8,h9,eo⟩:=Eaz hti hR cT hG h3 hZ;rw[h5,h6]at h8;refine⟨fun x hx=>?_,⟨_,_,_,rfl,h4,?_,h8⟩,by rw[h9,h5];simp only[bU];omega,by rw[eo,h6];simp only[qR];omega⟩
  ·rcases Rbg.1 hx with rfl|hx
   ·exact e2
   ·exact h7 x hx
  ·rw[e1]
   unfold lI at h1;split at h1
   ·cases ag with
    |true=>cases h1
    | false =>
     rw[aD.cells hv];simp
   ·cases ag with
    |false=>cases h1
    | true =>
     obtain⟨us,e,-⟩:=hv;rw[e];simp[Value.cells]
   ·cases h1
 | (ag, ss) :: rs, .cell t ty :: vars, A, B, h, hZ => by
  simp only[rM,aC,Qb5,bA,aO,aW]at h;obtain⟨ti,h0,_,h1,c,hc,h⟩:=h;obtain rfl:=Rb5 hc;split at h1
  case isFalse=>cases h1
  rename_i hb;simp only[Qb6,beq_iff_eq,Rb3,Sbv,Sbn]at hb;obtain⟨⟨⟨uw,ej⟩,kr⟩,ht⟩:=hb;split at h
  case h_2=>cases h
  rename_i b off hk;simp only[aC,aW,Rbe]at h;split at h
  case h_2=>cases h
  rename_i ro ls pj;simp only[aC,Qb5]at h;obtain⟨C,h2,h3⟩:=h;have hv:aD σ ρ G w (.px b off) _:=hR.slot hk rfl;rw[<- Qak ht]at hv;simp only[aD]at hv;obtain⟨ox,gC,oY⟩:=hR.box pj
  obtain⟨vs,h4,h5⟩:=nA (σ:=σ) (ρ:=ρ) (G:=G) (w:=w) ((G.bx b).add off) ((ls.drop off).take ti.size) 0 fun j l hj=>by
   rw[List.getElem?_take]at hj;split at hj
   ·rw[Sba]at hj
    obtain⟨v,h6,-,h7⟩:=oY _ _ hj;exact⟨v,by rw[add_add,Rb2];exact h6,h7⟩
   ·cases hj
  have hC:=(Dag h3).trans hZ;obtain⟨h6,h7,h8⟩:=vQ hR cT hG h2 hC h4
  have hlen:vs.length=ti.size:=by
   have ic:∀ {ss:List LR} {vs:List Value} {i q:Nat},rY G'.own w (Z.xs.map (·.val ρ)) nbx i q ss vs->vs.length=ss.length:=by
    intro ss
    induction ss with
    |nil=>intro vs i q h;simp only[rY]at h;subst h;rfl
    | cons s ss ih =>
     intro vs i q h;obtain⟨u,us,rfl,-,h⟩:=h;simp[ih h]
   rw[ic h6,ej]
  obtain⟨info,ud,hf⟩:=bD (hti.ok _ _ h0)
  have fk:∃ v,if ti.agg=true then v=.agg vs.toArray else vs=[v]:=by
   cases la:ti.agg with
   |true=>exact⟨_,by rw[if_pos rfl]⟩
   | false =>
    rw[la]at kr;simp only[Rbk,false_or]at kr;rw[kr]at hlen
    match vs,hlen with
    |[v],_=>exact⟨v,by simp⟩
  obtain⟨v,fk⟩:=fk;have tD:=lT hf ((G.bx b).add off) vs hlen (fun j u hj=>by have:=h5 j u hj;rwa[Rb2]at this) fk
  have cP:(Gbm a.tmps (.cell t ty)).run P w=.ok v w:=by
   show (do loadVar ty (<- asAddr (a.tmps.getD t undef)):Sem Value).run P w=.ok v w
   rw[hv.1];simp only[asAddr,Sem.run_bind,Sem.run_pure,Result.andThen_ok];exact tD
  obtain⟨e1,e2⟩:=Paj cP;obtain⟨h9,eo,fb,gq⟩:=Eaz hti hR cT hG h3 hZ;rw[h7,h8]at eo;refine⟨fun x hx=>?_,⟨_,_,vs,rfl,h6,?_,eo⟩,by rw[fb,h7];simp only[bU];omega,by rw[gq,h8];simp only[qR];omega⟩
  ·rcases Rbg.1 hx with rfl|hx
   ·exact e2
   ·exact h9 x hx
  ·rw[e1,uw];exact fk
theorem Iaq {t:Nat}:∀ {ms:List Nat} {j:Nat} {A B:Fin},(Fa4 t j ms A).eval σ=some B->FLe A B
 | [], j, A, B, h => by
  simp only[Fa4,aF,Qb7]at h;subst h;exact .refl _
 | d :: ms, j, A, B, h => by
  simp only[Fa4,aC,aW,Rbe]at h;split at h
  case h_2=>cases h
  rename_i r hk;simp only[aC,aW,Rbe]at h;split at h
  case h_2=>cases h
  rename_i x m cQ rv;simp only[aC,Qb5]at h;obtain⟨_,-,h⟩:=h;have h0:FLe A { A with xs:=A.xs++[x],own:=A.own++[(r,2*j+1,d)] }:=⟨⟨_,rfl⟩,fun _ h=>Qb9 _ h,fun _ h=>h,⟨[],by simp⟩,fun _ h=>h⟩;exact h0.trans (Iaq h)
theorem Kaw (hR:R E.ntmps F σ ρ a w G)(hG:Wa0 Z nbx G G'):∀ {ms:List Nat} {j:Nat} {A B:Fin},(Fa4 E.ntmps j ms A).eval σ=some B->FLe B Z ->
  Ua5 G'.own w (Z.xs.map (·.val ρ)) F.gh A.xs.length j ms/\B.xs.length=A.xs.length+ms.length/\B.q=A.q
 | [], j, A, B, h, _ => by
  simp only[Fa4,aF,Qb7]at h;subst h;exact⟨trivial,rfl,rfl⟩
 | d :: ms, j, A, B, h, hZ => by
  simp only[Fa4,aC,aW,Rbe]at h;split at h
  case h_2=>cases h
  rename_i r hk;simp only[aC,aW,Rbe]at h;split at h
  case h_2=>cases h
  rename_i x m cQ rv;simp only[aC,Qb5,aO]at h;obtain⟨_,h0,h⟩:=h;split at h0
  case isFalse=>cases h0
  rename_i hb;simp only[Sbr]at hb;have hv:aD σ ρ G w (.ex r) _:=hR.slot hk rfl
  have e:Bap E.ntmps a F.gh (E.ntmps+j)=F.gh j:=by
   unfold Bap;rw[if_neg (by omega),Sbi]
  rw[e]at hv;simp only[aD]at hv;have hC:=(Iaq h).trans hZ;obtain⟨h1,h2,h3⟩:=Kaw hR hG h hZ;simp only[List.length_append,List.length_singleton]at h1 h2;refine⟨⟨?_,h1⟩,by rw[h2];simp;omega,h3⟩;rw[hC.get (l:=A.xs) rfl,hv.1];have hr:=hR.root rv;simp only[dB]at hr;exact hr.give hG (hC.own _ (Rbc _ (Rbb.2 rfl))) hb
theorem vS {t:Nat}:∀ {bs:List (Bool×List (BS×BO))} {b:Nat} {A B:Fin},(sO t A b bs).eval σ=some B->FLe A B
 | [], b, A, B, h => by
  simp only[sO,aF,Qb7]at h;subst h;exact .refl _
 | (ro, cs) :: bs, b, A, B, h => by
  simp only[sO]at h
  cases ro with
  |true=>exact vS h
  | false =>
   simp only[cond_false,aC,aW,Rbe]at h;split at h
   ·simp only[aC,aW,Rbe,Qb5]at h
    obtain⟨_,-,h⟩:=h;split at h
    ·simp only[aC,Qb5]at h
     obtain⟨C,h1,h2⟩:=h;exact (vR h1).trans (vS h2)
    ·cases h
   ·cases h
theorem yK (hR:R E.ntmps F σ ρ a w G)(hG:Wa0 Z nbx G G'){nm:Nat}{bx:Nat->Addr}{nb:Nat}(y4:∀ b,b<nb->F.gh (nm+b)=.pointer (some (bx b))):∀ {bs:List (Bool×List (BS×BO))} {b:Nat} {A B:Fin},b+bs.length<=nb->(sO (E.ntmps+nm) A b bs).eval σ=some B->FLe B Z ->
  qF G'.own w (Z.xs.map (·.val ρ)) bx b A.xs.length A.q bs
 |[],b,A,B,_,h,_=>trivial
 | (ro, cs) :: bs, b, A, B, oo, h, hZ => by
  simp only[Rbw]at oo;simp only[sO]at h
  cases ro with
  | true =>
   simp only[qF,if_true];exact yK hR hG y4 (by omega) h hZ
  | false =>
   simp only[qF,Rbk,if_false];simp only[cond_false,aC,aW,Rbe]at h;split at h
   case h_2=>cases h
   rename_i b' hk;simp only[aC,aW,Rbe,Qb5,aO]at h;obtain⟨_,h0,h⟩:=h;split at h0
   case isFalse=>cases h0
   rename_i hb;simp only[Rb3]at hb;subst hb;split at h
   case h_2=>cases h
   rename_i ls pj;simp only[aC,Qb5]at h;obtain⟨C,h1,h2⟩:=h;have hv:aD σ ρ G w (.px b' 0) _:=hR.slot hk rfl
   have e:Bap E.ntmps a F.gh (E.ntmps+nm+b')=F.gh (nm+b'):=by
    unfold Bap;rw[if_neg (by omega)];congr 1;omega
   rw[e,y4 b' (by omega)]at hv;simp only[aD]at hv
   have gz:bx b'=G.bx b':=by
    have:=hv.1
    injection this with this
    injection this
   obtain⟨h5,h6,h7⟩:=hR.box pj;obtain⟨h8,h9,eo⟩:=yJ hR hG (ad:=G.bx b') (off:=0) h1 ((vS h2).trans hZ) fun j l hj=>by rw[Rb2];exact h7 j l hj
   have fb:=yK hR hG y4 (b:=b'+1) (by omega) h2 hZ;rw[h9,eo,Rb4]at fb;rw[gz];exact⟨h8,fb⟩
end
theorem Dap:∀ {l:List (Nat×Nat×Nat)} {r t m:Nat},distinct (l.map (·.1))=true->(r,t,m)∈l->l.find? (fun z=>Nat.beq z.1 r)=some (r,t,m)
 |[],r,t,m,_,h=>by simp at h
 | (r', t', m') :: l, r, t, m, hd, h => by
  simp only[Rby,distinct,Qb6,Rb0]at hd
  rcases Rbg.1 h with h1|h1
  ·obtain⟨rfl,rfl,rfl⟩:r=r'/\t=t'/\m=m':=by simpa using h1
   simp
  ·have dz:Nat.beq r' r=false:=by
    cases e:Nat.beq r' r with
    |false=>rfl
    | true =>
     simp only[Rb3]at e;subst e;have:has (l.map (·.1)) r'=true:=nV.2 (Sbp.2 ⟨_,h1,rfl⟩);rw[hd.1]at this;cases this
   rw[List.find?_cons_of_neg (by simp[dz])];exact Dap hd.2 h1
def Na3 (Z:Fin)(nbx:Nat)(G:Gh):Gh:={ G with own:=fun b=>match G.own b with
 | .slc r p => (match Z.own.find? (fun z => Nat.beq z.1 r) with
  |some (_,t,m)=>if p.length<m then .slc t p else .frz
  |none=>if r∈Z.frz then .frz else .oth)
 |.box β=>if β<nbx then .box β else if β∈Z.bxs then .box nbx else .oth
 |o=>o }
theorem Eb7 {Z:Fin}{nbx:Nat}{G:Gh}(hd:distinct (Z.own.map (·.1))=true)(hm:meets (Z.own.map (·.1)) Z.frz=false)(hb:(Z.bxs.any fun b=>Nat.blt b nbx)=false):Wa0 Z nbx G (Na3 Z nbx G):=by
 refine⟨fun b hb=>by simp only[Na3,hb],fun r t m hz b p hb=>?_,fun r hr b p hb=>?_,fun β hβ b hbb=>?_⟩
 ·simp only[Na3,hb,Dap hd hz]
 ·have:Z.own.find? (fun z=>Nat.beq z.1 r)=none:=by
   rw[List.find?_eq_none];intro z hz e;simp only[Rb3]at e;exact qQ hm (Sbp.2 ⟨z,hz,rfl⟩) (by rw[e];exact hr)
  simp only[Na3,hb,this,if_pos hr]
 ·rw[Tbe]at hb
  have:=hb β hβ;simp only[Sbn]at this;simp only[Na3,hbb,if_neg this,if_pos hβ]
section
variable {P:Program} {E:Env} {F:bQ} {ρ:List D} {cf:Nat->List D->Option (List D)}
theorem Wad (hti:wU P E.ti){s:Sig}{yb:List ResultVar}{st:St}{t:Tm St}(h:finish E s yb st=some t){o:Out St}(ho:Ec cf t ρ=some o)(hl:ρ.length=st.nv)(hi:Da1 E st) :
  o.kind=.ret/\∀ a w G (fn:Func) (bx:Nat->Addr),fn.results.toList=yb->(∀ b,b<s.boxes.length->F.gh ((eU (s.params.flatMap (·.2))).length+b)=.pointer (some (bx b))) ->
   (∀ b j,b<F.w0.heap.size->F.own0 b=.box j->j<s.boxes.length)->R E.ntmps F st.get ρ a w G ->
   ∃ v,(results fn a.tmps).run P w=.ok v w/\Taf s F bx v w o.vals:=by
 unfold finish at h;split at h
 case h_2=>cases h
 rename_i Z hZ;generalize hb:(distinct (Z.own.map (·.1))&&!(meets (Z.own.map (·.1)) Z.frz)&&!(Z.bxs.any fun b=>Nat.blt b s.boxes.length)&&fG st.nv Z.lets)=b at h
 cases b with
 |false=>cases h
 | true =>
  rw[cond_true]at h;obtain rfl:=Rb5 h;simp only[Qb6,Rb0]at hb;obtain⟨⟨⟨ox,gC⟩,oY⟩,hb4⟩:=hb;obtain⟨ds,h4,h5,h6⟩:=xB (g:=none) rfl (by rw[hl];exact hb4) ho;rw[gU]at h5;obtain rfl:=Rb5 h5;refine⟨rfl,fun a w G fn bx hfn y4 pT hR=>?_⟩;have cT:=h6 [];rw[Rb1,hl]at cT;have hR:=hR.ext hi.sc (by omega) ds;have hG:=Eb7 (G:=G) ox gC oY;simp only[Gbn,aC,Qb5]at hZ;obtain⟨A,h7,B,h8,h9⟩:=hZ;have hB:=vS h9;have hA:=(Iaq h8).trans hB;obtain⟨eo,fb,gq,jg⟩:=Eaz (cf:=cf) hti hR cT hG h7 hA;obtain⟨lq,mz,nn⟩:=Kaw hR hG h8 hB;have h17:=yK hR hG y4 (b:=0) (by omega) h9 (.refl _);simp only[Rb8,Rb2]at fb gq jg;rw[gq]at lq mz;rw[mz,nn,jg]at h17;refine⟨Faq (fn.results.toList.map (Far P a.tmps w)),?_,Na3 Z s.boxes.length G,_,by rw[hfn],?_,fb,lq,h17⟩
  ·have hm:(fn.results.mapM (Gbm a.tmps)).run P w=.ok (fn.results.map (Far P a.tmps w)) w:=Aak _ _ _ (by rw[hfn];exact eo)
   have e:results fn a.tmps=(do let vs <- fn.results.mapM (Gbm a.tmps);pure (if h:vs.size=1 then vs[0] else Value.tuple vs)):=rfl;rw[e,Sem.run_bind,hm];simp only[Result.andThen_ok,Sem.run_pure];rw[Ya0,Array.toList_map]
  ·refine⟨hR.frame.os,hR.frame.tape,hR.frame.output,hR.frame.size,fun b hb ho=>?_,fun b j hb ho=>?_,fun b hb=>?_⟩
   ·obtain⟨h18,h19⟩:=hR.frame.keep b hb ho
    refine⟨h18,?_⟩
    rcases ho with ho|ho<;>rw[ho]at h19 ⊢<;>simp only[Na3,h19]
   ·obtain⟨h18,h19⟩:=hR.frame.boxes b j hb ho
    refine⟨?_,h19⟩;simp only[Na3,h18,if_pos (pT b j hb ho)]
   ·simp only[Na3,hR.frame.fresh b hb]
end
def Goes (P:Program)(f:Nat)(args:Array Value)(w:World)(K:Value->World->Prop):Prop :=
 ((callFunc f args).run P w=.ok (.enter f args) w/\Calls P f args w fun
  |.returned v,w'=>K v w'
  |_,_=>False)\/∃ v w',(callFunc f args).run P w=.ok (.value v) w'/\K v w'
def qG (P:Program)(T:Nat->Ent)(n key:Nat)(s:Sig):Prop :=
 ∀ vals w G ds ir,Fb6 s vals w G ds->lK T n key ds=some ir->Goes P s.fn vals.toArray w fun v w'=>Taf s (tL s G w) G.bx v w' ir
def Da4 (P:Program)(X:(Nat->Ow)->World->Prop)(T:Nat->Ent)(n key:Nat)(s:Sig):Prop :=
 ∀ vals w G ds ir,Fb6 s vals w G ds->X G.own w->lK T n key ds=some ir->Goes P s.fn vals.toArray w fun v w'=>Taf s (tL s G w) G.bx v w' ir
def Stable (X:(Nat->Ow)->World->Prop):Prop :=
 ∀ (own0:Nat->Ow) (w0:World) (own:Nat->Ow) (w:World),w0.heap.size<=w.heap.size->(∀ b,b<w0.heap.size->own0 b=.frz->w.heap[b]?=w0.heap[b]?/\own b=.frz)->X own0 w0->X own w
theorem oG {P : Program} {f : FuncId} {fn : Func} {c : Code} (hf : P.funcs[f]? = some fn) (hname : (fn.name == "runtime.NumGoroutine") = false) (hb : fn.body = some c) (args : Array Value) (w : World) :
  (callFunc f args).run P w=.ok (.enter f args) w:=by
 have h1 : fn.name ≠ "runtime.NumGoroutine" := by simpa using hname
 simp[callFunc,hf,h1,hb]
theorem Zaj:∀ (ss:List LS) (r:Nat),(fI r ss).length=(eU ss).length
 |[],r=>rfl
 | s :: ss, r => by
  cases s<;>simp[fI,eU,Zaj ss]
theorem Pat:∀ (n a j:Nat),j<n->(range a n)[j]?=some (a+j)
 |0,a,j,h=>by omega
 |n+1,a,0,h=>rfl
 | n + 1, a, j + 1, h => by
  simp only[range,Sbl];rw[Pat n (a+1) j (by omega)];congr 1;omega
theorem Bbe {s:Sig}{G:Gh}{w:World}{b:Nat}(h:b<s.boxes.length):(tL s G w).gh ((eU (s.params.flatMap (·.2))).length+b)=.pointer (some (G.bx b)):=by
 simp only[tL,Iai,Rbi];rw[Rbj (by simp[Zaj]),Rb4,Zaj,Sbi,Sbd,Pat _ _ _ h];simp
theorem Na0 {P : Program} {X : (Nat -> Ow) -> World -> Prop} {E : Env} {T : Nat -> Ent} {n key : Nat} {s : Sig} {fn : Func} {tm : Tm Unit} (hti : wU P E.ti) (hm : P.follows .mixedOrders = true) (hfn : P.funcs[s.fn]? = some fn) (hname : (fn.name == "runtime.NumGoroutine") = false)
  (hx:Vai E s fn=some tm) (hT:T key=.tm tm) (eh:∀ F,X F.own0 F.w0->Bao P { E with ntmps:=fn.ntmps,ngh:=oZ s,nbx:=s.boxes.length } F (lK T n)):Da4 P X T (n+1) key s:=by
 intro vals w G ds ir fL hX cP;simp only[lK,hT,Qb5]at cP;obtain⟨o,cP,vz⟩:=cP;unfold Hbv at vz;split at vz
 case isFalse=>cases vz
 rename_i hk;obtain rfl:=Rb5 vz;unfold Vai at hx;split at hx
 case h_1=>cases hx
 rename_i c hbody
 cases hle:Nat.ble s.params.length fn.ntmps with
 |false=>rw[hle]at hx;cases hx
 | true =>
  rw[hle]at hx;simp only[Bool.not_true,cond_false,bind,Qb5,Qb7]at hx;obtain⟨tc,htc,t,ht,rfl⟩:=hx;simp only[Sbr]at hle;rw[Vav,Option.map_eq_some_iff]at cP;obtain⟨o0,cP,rfl⟩:=cP;have hev:Ec (lK T n) t ds=some o0:=Jae.2 ⟨n,cP⟩
  obtain⟨o1,h1,h2⟩:=mU (fun st r hr ρ o ho=>by
   split at hr
   ·rename_i t' hf
    obtain rfl:=Rb5 hr;unfold finish at hf;split at hf
    case h_2=>cases hf
    rename_i Z hZ
    revert hf
    generalize (distinct (Z.own.map (·.1))&&!(meets (Z.own.map (·.1)) Z.frz)&&!(Z.bxs.any fun b=>Nat.blt b s.boxes.length)&&fG st.nv Z.lets)=b;intro hf
    cases b with
    |false=>cases hf
    | true =>
     rw[cond_true]at hf;obtain rfl:=Rb5 hf;exact nN ho
   ·obtain rfl:=Rb5 hr
    rw[kI]at ho;cases ho) rfl (fun _=>rfl) ht hev
  rcases h2 with ⟨h2,h3,r,h4,h5⟩|⟨h2,h3⟩
  case inr =>
   subst h3;have kd:o0.kind=.ret:=hk;rw[kd]at h2;cases h2
  unfold Fb9 at htc;dsimp only at htc;generalize mm:Ga5 (entry s fn.ntmps) (entry s fn.ntmps).nr _=b at htc
  cases b with
  |false=>simp[lM]at htc
  | true =>
   rw[cond_true]at htc;have hinv:Da1 { E with ntmps:=fn.ntmps,ngh:=oZ s,nbx:=s.boxes.length } (entry s fn.ntmps):=Abk mm rfl;obtain⟨hlen,hR⟩:=Ibp (n:=fn.ntmps) fL hle;have od:ds.length=(entry s fn.ntmps).nv:=by rw[(Ea2 s fn.ntmps).1];exact fL.len
   obtain⟨hp,hw⟩:=sW (E:={ E with ntmps:=fn.ntmps,ngh:=oZ s,nbx:=s.boxes.length }) (F:=tL s G w) (fun x j hx ho=>(fL.cells x j hx ho).1) hti (eh _ hX) hm c htc h1 od hinv;refine .inl ⟨oG hfn hname hbody _ _,?_⟩;refine calls_of_wp hfn hbody ?_;rw[show vals.toArray.size=vals.length by simp];refine hw _ w G _ hR fun a' w' G' jf=>?_
   split at h4
   case h_2 =>
    obtain rfl:=Rb5 h4;rw[kI]at h5;cases h5
   rename_i t' hf;obtain rfl:=Rb5 h4;obtain⟨h6,h7⟩:=Wad (E:={ E with ntmps:=fn.ntmps,ngh:=oZ s,nbx:=s.boxes.length }) (F:=tL s G w) hti hf h5 hp.len hp.inv;obtain⟨v,h8,h9⟩:=h7 a' w' G' fn G.bx rfl (fun b hb=>Bbe hb) (fun b j hb ho=>(fL.cells b j hb ho).1) jf;have hd:=jf.defers
   revert h2
   cases o1.kind with
   |fall=>exact fun _=>⟨hd,v,h8,h9⟩
   |ret=>exact fun _=>⟨hd,v,h8,h9⟩
   |exit i=>intro h;cases h
   |cont=>intro h;cases h
   |yield i=>intro h;cases h
def strip:List Nat->List Nat->Option (List Nat)
 |[],p=>some p
 |a::q,b::p=>if a=b then strip q p else none
 |_::_,[]=>none
theorem Fam:∀ (q t:List Nat),strip q (q++t)=some t
 |[],t=>rfl
 |a::q,t=>by simp[strip,Fam q t]
theorem Ja3:∀ {q p t:List Nat},strip q p=some t->p=q++t
 |[],p,t,h=>by simpa[strip] using h
 |a::q,[],t,h=>by simp[strip]at h
 | a :: q, b :: p, t, h => by
  simp only[strip]at h;split at h
  ·rename_i e
   rw[e,Ja3 h];rfl
  ·cases h
def Zai (w:World):Value->List Nat->Value
 |v,[]=>v
 |.slice (some a) _ _,k::p=>Zai w ((w.cell? (a.add k)).getD undef) p
 |_,_::_=>undef
theorem Eai {own:Nat->Ow}{w:World}{r:Nat}:∀ {p q:List Nat} {v u:Value},Aaf own w r q v p u->Zai w v p=u
 |[],q,v,u,h=>by simp only[Aaf]at h;rw[h];cases v<;>rfl
 | k :: p, q, v, u, h => by
  obtain⟨a,n,c,u',rfl,-,h2,h3⟩:=h;simp only[Zai,h2,Tbd];exact Eai h3
section
variable (ρ:List D) (dr:List Nat)
def nP:Nat->List RT->Nat->List Nat->Ow
 |_,[],r,_=>if r∈dr then .frz else .oth
 |ν,.nil::t,r,p=>nP (ν+1) t r p
 |ν,.own s d::t,r,p=>if r=s then (if p.length<d then .slc ν p else .frz) else nP (ν+1) t r p
 |ν,.mu s d q _::t,r,p=>if r=s then (match strip (bG ρ q) p with | some t'=>if t'.length<d then .slc ν t' else .frz | none=>.oth) else nP (ν+1) t r p
end
def Sac (ptrs:List (Nat×Nat×Nat))(c:Nat):Nat->List (Bool×List (BS×BO))->Option Nat
 |_,[]=>none
 | b, (ro, _) :: r => if ro = true then Sac ptrs c (b + 1) r else match qO b ptrs with
  |some (c',_)=>if c'=c then some b else Sac ptrs c (b+1) r
  |none=>Sac ptrs c (b+1) r
def Mbd (ρ:List D)(G:Gh)(w:World):RT->Value
 |.nil=>.slice none 0 0
 |.own r _=>G.hdr r
 |.mu r _ q _=>Zai w (G.hdr r) (bG ρ q)
def callG (ρ:List D)(G:Gh)(w:World)(s:Sig)(Z:Take):Gh:={
 own:=fun b=>match G.own b with
  |.slc r p=>nP ρ (Z.deps.map (·.1)) 0 Z.rts r p
  | .box c => (match Sac Z.ptrs c 0 s.boxes with
   |some j=>if b=(G.bx c).block then .box j else .oth
   |none=>.oth)
  |o=>o
 hdr:=fun ν=>((Z.rts[ν]?).map (Mbd ρ G w)).getD undef
 bx:=fun b=>match qO b Z.ptrs with
  |some (c,off)=>(G.bx c).add off
  |none=>⟨0,0,none⟩ }
theorem uD {ρ:List D}{dr:List Nat}{r:Nat}{p:List Nat}:∀ {rts:List RT} {ν:Nat},r∉dL rts->nP ρ dr ν rts r p=if r∈dr then .frz else .oth
 |[],ν,h=>rfl
 |.nil::t,ν,h=>uD (rts:=t) h
 | .own s d :: t, ν, h => by
  simp only[dL,Rbg,not_or]at h;simp only[nP,if_neg h.1];exact uD h.2
 | .mu s d q X :: t, ν, h => by
  simp only[dL,Rbg,not_or]at h;simp only[nP,if_neg h.1];exact uD h.2
theorem vC:∀ {rts:List RT} {ν r:Nat},(∃ d,rts[ν]?=some (.own r d))\/(∃ d q X,rts[ν]?=some (.mu r d q X))->r∈dL rts
 |[],ν,r,h=>by simp at h
 | x :: t, 0, r, h => by
  simp only[Rbf,Qb7]at h
  rcases h with ⟨d,rfl⟩|⟨d,q,X,rfl⟩<;>exact Rbr
 | x :: t, ν + 1, r, h => by
  have:=vC (rts:=t) (ν:=ν) (r:=r) (by simpa using h)
  cases x with
  |nil=>exact this
  |own s d=>exact Rbl _ this
  |mu s d q X=>exact Rbl _ this
theorem Cac {ρ:List D}{dr:List Nat}{r d:Nat}{p:List Nat}:∀ {rts:List RT} {ib ν:Nat},distinct (dL rts)=true->rts[ν]?=some (.own r d)->nP ρ dr ib rts r p=if p.length<d then .slc (ib+ν) p else .frz
 |[],ib,ν,_,h=>by simp at h
 | x :: t, ib, 0, hd, h => by
  simp only[Rbf,Qb7]at h;subst h;simp[nP]
 | x :: t, ib, ν + 1, hd, h => by
  simp only[Sbl]at h;have hm:=vC (.inl ⟨d,h⟩)
  cases x with
  | nil =>
   simp only[nP];rw[Cac (rts:=t) hd h,show ib+1+ν=ib+(ν+1) by omega]
  | own s d' =>
   simp only[dL,distinct,Qb6,Rb0]at hd;have dz:r≠s:=fun e=>by rw[e,<- nV,hd.1]at hm;cases hm
   simp only[nP,if_neg dz];rw[Cac hd.2 h,show ib+1+ν=ib+(ν+1) by omega]
  | mu s d' q X =>
   simp only[dL,distinct,Qb6,Rb0]at hd;have dz:r≠s:=fun e=>by rw[e,<- nV,hd.1]at hm;cases hm
   simp only[nP,if_neg dz];rw[Cac hd.2 h,show ib+1+ν=ib+(ν+1) by omega]
theorem Gap {ρ:List D}{dr:List Nat}{r d:Nat}{q:List (aP×Nat×Nat)}{X:aP}{p:List Nat}:∀ {rts:List RT} {ib ν:Nat},distinct (dL rts)=true->rts[ν]?=some (.mu r d q X) ->
  nP ρ dr ib rts r p=match strip (bG ρ q) p with|some t'=>if t'.length<d then .slc (ib+ν) t' else .frz|none=>.oth
 |[],ib,ν,_,h=>by simp at h
 | x :: t, ib, 0, hd, h => by
  simp only[Rbf,Qb7]at h;subst h;simp[nP]
 | x :: t, ib, ν + 1, hd, h => by
  simp only[Sbl]at h;have hm:=vC (.inr ⟨d,q,X,h⟩)
  cases x with
  | nil =>
   simp only[nP];rw[Gap (rts:=t) hd h,show ib+1+ν=ib+(ν+1) by omega]
  | own s d' =>
   simp only[dL,distinct,Qb6,Rb0]at hd;have dz:r≠s:=fun e=>by rw[e,<- nV,hd.1]at hm;cases hm
   simp only[nP,if_neg dz];rw[Gap hd.2 h,show ib+1+ν=ib+(ν+1) by omega]
  | mu s d' q' X' =>
   simp only[dL,distinct,Qb6,Rb0]at hd;have dz:r≠s:=fun e=>by rw[e,<- nV,hd.1]at hm;cases hm
   simp only[nP,if_neg dz];rw[Gap hd.2 h,show ib+1+ν=ib+(ν+1) by omega]
structure TLe (A B:Take):Prop where
 xs:∃ l,B.xs=A.xs++l
 ptrs:∀ z∈A.ptrs,z∈B.ptrs
 deps:∀ z∈A.deps,z∈B.deps
 lets:∃ l,B.lets=A.lets++l
 rts:∃ l,B.rts=A.rts++l
theorem TLe.refl (A:Take):TLe A A:=⟨⟨[],by simp⟩,fun _ h=>h,fun _ h=>h,⟨[],by simp⟩,⟨[],by simp⟩⟩
theorem TLe.trans {A B C:Take}(h:TLe A B)(h':TLe B C):TLe A C:=by
 obtain⟨⟨l,h1⟩,h2,h3,⟨m,h4⟩,⟨k,h5⟩⟩:=h;obtain⟨⟨l',tw⟩,tg,zt,⟨m',um⟩,⟨k',tE⟩⟩:=h';exact⟨⟨l++l',by rw[tw,h1,Rbd]⟩,fun z hz=>tg z (h2 z hz),fun z hz=>zt z (h3 z hz),⟨m++m',by rw[um,h4,Rbd]⟩,⟨k++k',by rw[tE,h5,Rbd]⟩⟩
theorem TLe.get {A B:Take}(h:TLe A B){ρ:List D}{x:aP}{l:List aP}(hx:A.xs=l++[x]):(aP.v l.length).val (B.xs.map (·.val ρ))=x.val ρ:=by
 obtain⟨m,h1⟩:=h.xs;rw[h1,hx];simp only[aP.val,Rbi];simp
theorem TLe.rt {A B:Take}(h:TLe A B){x:RT}{l:List RT}(hx:A.rts=l++[x]):B.rts[l.length]?=some x:=by
 obtain⟨m,h1⟩:=h.rts;rw[h1,hx];simp
structure Ka8 (s:Sig) (Z:Take):Prop where
 ptrs:∀ b c off,(b,c,off)∈Z.ptrs->b<s.boxes.length/\qO b Z.ptrs=some (c,off)
 dist:distinct (dL Z.rts)=true
 deps:∀ z∈Z.deps,z.1∉dL Z.rts
 wr:distinct (jO false Z.ptrs 0 s.boxes)=true
 ro:meets (jO false Z.ptrs 0 s.boxes) (jO true Z.ptrs 0 s.boxes)=false
theorem Hax {nbx:Nat}{ptrs:List (Nat×Nat×Nat)}:∀ {l:List (Nat×Nat×Nat)},Ta8 nbx ptrs l=true->∀ b c off,(b,c,off)∈l->b<nbx/\qO b ptrs=some (c,off)
 |[],_,b,c,off,h=>by simp at h
 | (b', c', lz) :: l, h, b, c, off, hm => by
  simp only[Ta8,Qb6,Sbn]at h
  rcases Rbg.1 hm with e|hm
  ·obtain⟨rfl,rfl,rfl⟩:b=b'/\c=c'/\off=lz:=by simpa using e
   refine⟨h.1.1,?_⟩;have h2:=h.1.2;split at h2
   ·rename_i e
    simp only[Qb6,Rb3]at h2;rw[e,h2.1,h2.2]
   ·cases h2
  ·exact Hax h.2 b c off hm
theorem Rau {s:Sig}{Z:Take}(h:Xag s Z=true):Ka8 s Z:=by
 simp only[Xag,Qb6,Rb0]at h;obtain⟨⟨⟨⟨h1,h2⟩,h3⟩,h4⟩,h5⟩:=h;refine⟨Hax h1,h2,fun z hz hm=>?_,h4,h5⟩;rw[Tbe]at h3;exact h3 z hz (nV.2 hm)
section
variable {E:Env} {F:bQ} {σ:Nat->Option aU} {ρ:List D} {a:Act} {w:World} {G:Gh} {g:Option (aP×Bool)} {cf:Nat->List D->Option (List D)} {s:Sig} {Z:Take} {nv:Nat}
theorem rW {b:Nat}(h:G.own b=.frz):(callG ρ G w s Z).own b=.frz:=by simp only[callG,h]
theorem Bbd (hk:Ka8 s Z){b r k:Nat}{p:List Nat}(hz:(r,k)∈Z.deps)(h:G.own b=.slc r p):(callG ρ G w s Z).own b=.frz:=by
 simp only[callG,h];rw[uD (hk.deps _ hz),if_pos (Sbp.2 ⟨_,hz,rfl⟩)]
theorem Bbc (hk:Ka8 s Z){b r d ν:Nat}{p:List Nat}(hz:Z.rts[ν]?=some (.own r d))(h:G.own b=.slc r p):(callG ρ G w s Z).own b=if p.length<d then .slc ν p else .frz:=by
 simp only[callG,h];rw[Cac hk.dist hz,Rb2]
theorem Oab (hk:Ka8 s Z){b r d ν:Nat}{q:List (aP×Nat×Nat)}{X:aP}{p:List Nat}(hz:Z.rts[ν]?=some (.mu r d q X))(h:G.own b=.slc r p) :
  (callG ρ G w s Z).own b=match strip (bG ρ q) p with|some t'=>if t'.length<d then .slc ν t' else .frz|none=>.oth:=by
 simp only[callG,h];rw[Gap hk.dist hz,Rb2]
theorem Dax {ν:Nat}{x:RT}(h:Z.rts[ν]?=some x):(callG ρ G w s Z).hdr ν=Mbd ρ G w x:=by
 simp only[callG,h];rfl
theorem Rd.callG (hk:Ka8 s Z){deps:List (Nat×Nat)}(hd:∀ z∈deps,z∈Z.deps){v:Value}{d:D}(h:Rd (allow G deps) w v d):Rd (fun b=>(Go.Proofs.YtgpamlpecmldfaaGreat.Rf.callG ρ G w s Z).own b=.frz) w v d:=by
 refine h.mono fun b hb=>⟨?_,rfl⟩
 rcases hb with hb|⟨r,k,p,hm,hb⟩
 ·exact rW hb
 ·exact Bbd hk (hd _ hm) hb
theorem Vad (hg:gOn ρ g=true){A B:Take}{l:aT}(h:(Oau g A l).eval σ=some B){v:Value}(hl:aD σ ρ G w l v) :
  ∃ x,B={ A with xs:=A.xs++[x] }/\Sc v (x.val ρ):=by
 simp only[Oau,aC,Qb5,bA,aF,Qb7]at h;obtain⟨x,h1,rfl⟩:=h;exact⟨x,rfl,lG hg h1 hl⟩
theorem Oay {A B:Take}{nie:Bool}{l:aT}(h:(tV A nie l).eval σ=some B):TLe A B:=by
 simp only[tV,aC,Qb5,aF,Qb7]at h;obtain⟨s,h1,rfl⟩:=h;exact⟨⟨_,rfl⟩,fun _ h=>h,fun _ h=>Qb9 _ h,⟨_,rfl⟩,⟨[],by simp⟩⟩
theorem Jax (hR:R E.ntmps F σ ρ a w G)(hg:gOn ρ g=true)(cT:aR cf ρ g nv Z.lets)(hk:Ka8 s Z){A B:Take}{nie:Bool}{l:aT}(h:(tV A nie l).eval σ=some B)(hZ:TLe B Z){v:Value}(hl:aD σ ρ G w l v) :
  Rd (fun b=>(callG ρ G w s Z).own b=.frz) w v ((aP.v A.xs.length).val (Z.xs.map (·.val ρ)))/\(nie=true->∀ z,(aP.v A.xs.length).val (Z.xs.map (·.val ρ))=.rows z []->v=.slice none 0 0) /\
  B.xs.length=A.xs.length+1/\B.rts=A.rts:=by
 simp only[tV,aC,Qb5,aF,Qb7]at h;obtain⟨sl,h1,rfl⟩:=h;have hs:=eT hR h1 hl;rw[hZ.get (l:=A.xs) rfl];refine⟨hs.rd.callG hk fun z hz=>hZ.deps _ (Rbc _ hz),fun hn z hz=>?_,by simp,rfl⟩
 cases hsn:sl.nie with
 |true=>exact hs.nie hsn z hz
 | false =>
  exfalso;obtain⟨lr,pt⟩:=hZ.lets;dsimp only at pt;rw[pt,hn,hsn]at cT;simp only[Bool.not_false,Bool.and_self,cond_true]at cT;rw[Rbd]at cT;have mT:=(aR.append (aR.append cT).2).1;obtain⟨ds,h2,-,-⟩:=step1 mT hg;simp only[Rby,Sbc,hz,aS.run]at h2;simp at h2
theorem Oav {A B:Take}{d:Nat}{l:aT}(h:(wL A d l).eval σ=some B):TLe A B:=by
 unfold wL at h;split at h
 ·simp only[aC,aW,Rbe]at h
  split at h
  ·simp only[aC,aO,Qb5,aF,Qb7]at h
   obtain⟨_,-,rfl⟩:=h;exact⟨⟨_,rfl⟩,fun _ h=>h,fun _ h=>h,⟨[],by simp⟩,⟨_,rfl⟩⟩
  ·cases h
 ·simp only[aF,Qb7]at h
  subst h;exact⟨⟨_,rfl⟩,fun _ h=>h,fun _ h=>h,⟨[],by simp⟩,⟨_,rfl⟩⟩
 ·cases h
theorem Jau (hR:R E.ntmps F σ ρ a w G)(hk:Ka8 s Z){A B:Take}{d:Nat}{l:aT}(h:(wL A d l).eval σ=some B)(hZ:TLe B Z){v:Value}(hl:aD σ ρ G w l v) :
  v=(callG ρ G w s Z).hdr A.rts.length/\Rp (callG ρ G w s Z).own w A.rts.length [] d v ((aP.v A.xs.length).val (Z.xs.map (·.val ρ)))/\B.xs.length=A.xs.length+1/\B.rts.length=A.rts.length+1:=by
 unfold wL at h;split at h
 ·rename_i r
  simp only[aC,aW,Rbe]at h;split at h
  ·rename_i x m cQ rv
   simp only[aC,aO,Qb5,aF,Qb7]at h;obtain⟨_,h1,rfl⟩:=h;split at h1
   case isFalse=>cases h1
   rename_i hb;simp only[Sbr]at hb;simp only[aD]at hl;have oA:=hZ.rt (l:=A.rts) rfl;rw[hZ.get (l:=A.xs) rfl];refine⟨by rw[Dax oA];exact hl.1,?_,by simp,by simp⟩;rw[hl.1];have hr:=hR.root rv;simp only[dB]at hr;exact hr.move (fun b hb _=>⟨rW hb,rfl⟩) [] d hb fun b t hb=>⟨by rw[Bbc hk oA hb];rfl,rfl⟩
  ·cases h
 ·rename_i nie z
  simp only[aF,Qb7]at h;subst h;simp only[aD]at hl;have hv:=(hl.2 (by simp)).2.1 trivial z rfl;have oA:=hZ.rt (l:=A.rts) rfl;rw[hZ.get (l:=A.xs) rfl];refine⟨by rw[Dax oA];exact hv,?_,by simp,by simp⟩;rw[hv]
  cases d with
  |zero=>exact .fz (.rows none ⟨0,0,none⟩ 0 0 z [] (fun _ _=>undef) rfl (Rbt _) (.inl rfl) (by simp) (by simp) (by simp))
  |succ m=>exact .sl none ⟨0,0,none⟩ 0 0 z [] (fun _ _=>undef) rfl (Rbt _) (.inr ⟨rfl,rfl⟩) (by simp) (fun e=>by cases e) (by simp) (by simp)
 ·cases h
theorem Xah {A B:Take}{d:Nat}{l:aT}(h:(Jaw A d l).eval σ=some B):TLe A B:=by
 simp only[Jaw,aC,Qb5]at h;obtain⟨sl,h1,h⟩:=h;split at h
 ·simp only[aC,aO,aW,Rbe,Qb5]at h
  obtain⟨_,-,h⟩:=h;split at h
  ·simp only[aF,Qb7]at h
   subst h;exact⟨⟨_,rfl⟩,fun _ h=>h,fun _ h=>h,⟨[],by simp⟩,⟨_,rfl⟩⟩
  ·cases h
 ·cases h
theorem Vag (hR:R E.ntmps F σ ρ a w G)(hk:Ka8 s Z){A B:Take}{d:Nat}{l:aT}(h:(Jaw A d l).eval σ=some B)(hZ:TLe B Z){v:Value}(hl:aD σ ρ G w l v) :
  v=(callG ρ G w s Z).hdr A.rts.length/\Rp (callG ρ G w s Z).own w A.rts.length [] d v ((aP.v A.xs.length).val (Z.xs.map (·.val ρ)))/\B.xs.length=A.xs.length+1/\B.rts.length=A.rts.length+1:=by
 simp only[Jaw,aC,Qb5]at h;obtain⟨sl,h1,h⟩:=h;have hs:=eT hR h1 hl;split at h
 case h_2=>cases h
 rename_i r k m q ho;simp only[aC,aO,aW,Rbe,Qb5]at h;obtain⟨_,h2,h⟩:=h;split at h2
 case isFalse=>cases h2
 rename_i hb;simp only[Sbr]at hb;split at h
 case h_2=>cases h
 rename_i X m' v' rv;simp only[aF,Qb7]at h;subst h;have cI:=hs.own;unfold wR at cI;rw[ho]at cI;obtain⟨h3,h4,h5,h6,h7⟩:=cI;have oA:=hZ.rt (l:=A.rts) rfl;rw[hZ.get (l:=A.xs) rfl];refine⟨by rw[Dax oA];exact (Eai h7).symm,?_,by simp,by simp⟩;refine h6.move (fun b hb _=>⟨rW hb,rfl⟩) [] d (by omega) fun b t hb=>⟨?_,rfl⟩
 rw[Oab hk oA hb,Fam];rfl
theorem Xaf {A B:Take}{z:Nat}{l:aT}(h:(Hab A z l).eval σ=some B):TLe A B:=by
 unfold Hab at h;split at h
 ·simp only[aC,Qb5,aF,Qb7]at h
  obtain⟨_,-,rfl⟩:=h;exact⟨⟨_,rfl⟩,fun _ h=>h,fun _ h=>Qb9 _ h,⟨[],by simp⟩,⟨[],by simp⟩⟩
 ·simp only[aF,Qb7]at h
  subst h;exact⟨⟨_,rfl⟩,fun _ h=>h,fun _ h=>h,⟨[],by simp⟩,⟨[],by simp⟩⟩
 ·cases h
theorem Vae (hR:R E.ntmps F σ ρ a w G)(hk:Ka8 s Z){A B:Take}{z:Nat}{l:aT}(h:(Hab A z l).eval σ=some B)(hZ:TLe B Z){v:Value}(hl:aD σ ρ G w l v) :
  v.oneCell'=true/\Bbi (fun b=>(callG ρ G w s Z).own b=.frz) w v ((aP.v A.xs.length).val (Z.xs.map (·.val ρ)))/\B.xs.length=A.xs.length+1/\B.rts=A.rts:=by
 unfold Hab at h;split at h
 ·rename_i deps n9 x
  simp only[aC,Qb5,aF,Qb7]at h;obtain⟨ds,h1,rfl⟩:=h;simp only[aD]at hl;obtain⟨h3,h4,h5⟩:=jX h1;rw[hZ.get (l:=A.xs) rfl];refine⟨hl.1.1,?_,by simp,rfl⟩
  rcases hl.2 h3 with h6|⟨ad,row,h6,h7,h8⟩
  ·exact .inl h6
  ·exact .inr ⟨ad,row,h6,h7,(h8.drop hR h5).callG hk fun z hz=>hZ.deps _ (Rbc _ hz)⟩
 ·simp only[aF,Qb7]at h
  subst h;simp only[aD]at hl;rw[hZ.get (l:=A.xs) rfl];exact⟨by rw[hl];rfl,.inl ⟨hl,_,rfl⟩,by simp,rfl⟩
 ·cases h
theorem Qa8 (hk:Ka8 s Z){b c off:Nat}(h:(b,c,off)∈Z.ptrs):(callG ρ G w s Z).bx b=(G.bx c).add off/\b<s.boxes.length:=by
 obtain⟨h1,h2⟩:=hk.ptrs b c off h;refine⟨?_,h1⟩;simp only[callG,h2]
theorem Daw:∀ {cs:List LS} {ls:List aT} {acc l:List (Nat×Nat×Nat)},kX cs ls acc=some l->∀ z∈acc,z∈l
 | [], [], acc, l, h, z, hz => by
  simp only[kX,Qb7]at h;rw[<- h];exact hz
 |[],_::_,acc,l,h,z,hz=>by simp[kX]at h
 |c::cs,[],acc,l,h,z,hz=>by cases c<;>simp[kX]at h
 | c :: cs, x :: ls, acc, l, h, z, hz => by
  cases c<;>cases x<;>simp only[kX,reduceCtorEq]at h
  exact Daw h z (Rbl _ hz)
theorem Dav (hk:Ka8 s Z):∀ {cs:List LS} {ls:List aT} {acc l:List (Nat×Nat×Nat)},kX cs ls acc=some l->(∀ z∈l,z∈Z.ptrs)->∀ {vs:List Value},aH σ ρ G w ls vs->Faf (callG ρ G w s Z) s.boxes.length cs vs
 |[],[],acc,l,h,_,vs,hl=>by simpa[Faf,aH] using hl
 |[],_::_,acc,l,h,_,_,_=>by simp[kX]at h
 |c::cs,[],acc,l,h,_,_,_=>by cases c<;>simp[kX]at h
 | c :: cs, x :: ls, acc, l, h, hz, vs, hl => by
  cases c<;>cases x<;>simp only[kX,reduceCtorEq]at h
  rename_i b c off;simp only[aH]at hl;obtain⟨u,us,rfl,h1,h2⟩:=hl;obtain⟨h3,h4⟩:=Qa8 (ρ:=ρ) (G:=G) (w:=w) hk (hz _ (Daw h _ Rbr));simp only[aD]at h1;exact⟨u,us,rfl,⟨by rw[h3];exact h1.1,h4⟩,Dav hk h hz h2⟩
theorem Rav {A B:Take}{t:LS}{l:aT}(h:(uW g A t l).eval σ=some B):TLe A B:=by
 unfold uW at h;split at h
 ·simp only[Oau,aC,Qb5,aF,Qb7]at h
  obtain⟨x,-,rfl⟩:=h;exact⟨⟨_,rfl⟩,fun _ h=>h,fun _ h=>h,⟨[],by simp⟩,⟨[],by simp⟩⟩
 ·exact Oay h
 ·exact Xah h
 ·exact Oav h
 ·simp only[aF,Qb7]at h
  subst h;exact⟨⟨[],by simp⟩,fun _ h=>Qb9 _ h,fun _ h=>h,⟨[],by simp⟩,⟨[],by simp⟩⟩
 ·split at h
  ·rw[iR]at h
   split at h
   ·simp only[aF,Qb7]at h
    subst h;exact⟨⟨[],by simp⟩,fun _ h=>Qb9 _ h,fun _ h=>h,⟨[],by simp⟩,⟨[],by simp⟩⟩
   ·cases h
  ·cases h
 ·exact Xaf h
 ·cases h
theorem Oaw (hR:R E.ntmps F σ ρ a w G)(hg:gOn ρ g=true)(cT:aR cf ρ g nv Z.lets)(hk:Ka8 s Z){A B:Take}{t:LS}{l:aT}(h:(uW g A t l).eval σ=some B)(hZ:TLe B Z){v:Value}(hl:aD σ ρ G w l v) :
  mF (callG ρ G w s Z) w (Z.xs.map (·.val ρ)) s.boxes.length A.xs.length A.rts.length t v/\B.xs.length=A.xs.length+t.cnt/\B.rts.length=A.rts.length+t.rcnt:=by
 unfold uW at h;split at h
 ·obtain⟨x,rfl,h1⟩:=Vad hg h hl
  refine⟨?_,by simp[LS.cnt],rfl⟩;simp only[mF];rw[hZ.get (l:=A.xs) rfl];exact h1
 ·obtain⟨h1,h2,h3,h4⟩:=Jax hR hg cT hk h hZ hl
  exact⟨⟨h1,h2⟩,h3,by rw[h4];rfl⟩
 ·obtain⟨h1,h2,h3,h4⟩:=Vag hR hk h hZ hl
  exact⟨⟨h1,h2⟩,h3,h4⟩
 ·obtain⟨h1,h2,h3,h4⟩:=Jau hR hk h hZ hl
  exact⟨⟨h1,h2⟩,h3,h4⟩
 ·rename_i b c off
  simp only[aF,Qb7]at h;subst h;obtain⟨h1,h2⟩:=Qa8 (ρ:=ρ) (G:=G) (w:=w) hk (hZ.ptrs _ (Rbc _ (Rbb.2 rfl)));simp only[aD]at hl;exact⟨⟨by rw[h1];exact hl.1,h2⟩,rfl,rfl⟩
 ·rename_i f cs f' ls
  split at h
  ·rename_i l' hc
   rw[iR]at h;split at h
   ·rename_i hf
    simp only[Rb3]at hf;subst hf;simp only[aF,Qb7]at h;subst h;simp only[aD]at hl;obtain⟨vs,h1,h2⟩:=hl;exact⟨⟨vs,h1,Dav hk hc (fun z hz=>hZ.ptrs _ (Rbc _ hz)) h2⟩,rfl,rfl⟩
   ·cases h
  ·cases h
 ·obtain⟨h1,h2,h3,h4⟩:=Vae hR hk h hZ hl
  exact⟨⟨h1,h2⟩,h3,by rw[h4];rfl⟩
 ·cases h
theorem uV:∀ {ss:List LS} {ls:List aT} {A B:Take},(dQ g A ss ls).eval σ=some B->TLe A B
 | [], [], A, B, h => by
  simp only[dQ,aF,Qb7]at h;subst h;exact .refl _
 |[],_::_,A,B,h=>by simp[dQ,cZ]at h
 |_::_,[],A,B,h=>by simp[dQ,cZ]at h
 | t :: ss, l :: ls, A, B, h => by
  simp only[dQ,aC,Qb5]at h;obtain⟨C,h1,h2⟩:=h;exact (Rav h1).trans (uV h2)
theorem Aah (hR:R E.ntmps F σ ρ a w G)(hg:gOn ρ g=true)(cT:aR cf ρ g nv Z.lets)(hk:Ka8 s Z):∀ {ss:List LS} {ls:List aT} {A B:Take},(dQ g A ss ls).eval σ=some B->TLe B Z->∀ {vs:List Value},aH σ ρ G w ls vs ->
  uS (callG ρ G w s Z) w (Z.xs.map (·.val ρ)) s.boxes.length A.xs.length A.rts.length ss vs/\B.xs.length=A.xs.length+Wau ss/\B.rts.length=A.rts.length+lL ss
 | [], [], A, B, h, _, vs, hl => by
  simp only[dQ,aF,Qb7]at h;subst h;simp only[aH]at hl;exact⟨hl,rfl,rfl⟩
 |[],_::_,A,B,h,_,_,_=>by simp[dQ,cZ]at h
 |_::_,[],A,B,h,_,_,_=>by simp[dQ,cZ]at h
 | t :: ss, l :: ls, A, B, h, hZ, vs, hl => by
  simp only[dQ,aC,Qb5]at h;obtain⟨C,h1,h2⟩:=h;simp only[aH]at hl;obtain⟨u,us,rfl,h3,h4⟩:=hl;obtain⟨h5,h6,h7⟩:=Oaw hR hg cT hk h1 ((uV h2).trans hZ) h3;obtain⟨h8,h9,eo⟩:=Aah hR hg cT hk h2 hZ h4;rw[h6,h7]at h8;exact⟨⟨u,us,rfl,h5,h8⟩,by rw[h9,h6];simp only[Wau];omega,by rw[eo,h7];simp only[lL];omega⟩
theorem Hac:∀ {ps:List (Bool×List LS)} {vs:List SV} {A B:Take},(fU g A ps vs).eval σ=some B->TLe A B
 | [], [], A, B, h => by
  simp only[fU,aF,Qb7]at h;subst h;exact .refl _
 |[],_::_,A,B,h=>by simp[fU,cZ]at h
 |_::_,[],A,B,h=>by simp[fU,cZ]at h
 | (ag, ss) :: ps, v :: vs, A, B, h => by
  simp only[fU,aC,Qb5]at h;obtain⟨ls,-,C,h1,h2⟩:=h;exact (uV h1).trans (Hac h2)
def uR (σ:Nat->Option aU)(ρ:List D)(G:Gh)(w:World):List SV->List Value->Prop
 |[],us=>us=[]
 |v::vs,us=>∃ u eE,us=u::eE/\dI σ ρ G w v u/\uR σ ρ G w vs eE
theorem Jam {ag:Bool}{v:SV}{ls:List aT}{u:Value}(h:lI ag v=some ls)(hv:dI σ ρ G w v u):if ag=true then u=.agg u.cells.toList.toArray else u.cells.toList=[u]:=by
 unfold lI at h;split at h
 ·cases ag with
  |true=>cases h
  | false =>
   rw[aD.cells hv];simp
 ·cases ag with
  |false=>cases h
  | true =>
   obtain⟨us,rfl,-⟩:=hv;simp[Value.cells]
 ·cases h
theorem Fal (hR:R E.ntmps F σ ρ a w G)(hg:gOn ρ g=true)(cT:aR cf ρ g nv Z.lets)(hk:Ka8 s Z):∀ {ps:List (Bool×List LS)} {vs:List SV} {A B:Take},(fU g A ps vs).eval σ=some B->TLe B Z->∀ {us:List Value},uR σ ρ G w vs us ->
  nJ (callG ρ G w s Z) w (Z.xs.map (·.val ρ)) s.boxes.length A.xs.length A.rts.length ps us/\B.xs.length=A.xs.length+Ka1 ps/\B.rts.length=A.rts.length+kM ps
 | [], [], A, B, h, _, us, hl => by
  simp only[fU,aF,Qb7]at h;subst h;simp only[uR]at hl;exact⟨hl,rfl,rfl⟩
 |[],_::_,A,B,h,_,_,_=>by simp[fU,cZ]at h
 |_::_,[],A,B,h,_,_,_=>by simp[fU,cZ]at h
 | (ag, ss) :: ps, v :: vs, A, B, h, hZ, us, hl => by
  simp only[fU,aC,Qb5,bA]at h;obtain⟨ls,h0,C,h1,h2⟩:=h;obtain⟨u,eE,rfl,h3,h4⟩:=hl;obtain⟨h5,h6,h7⟩:=Aah hR hg cT hk h1 ((Hac h2).trans hZ) (jF h0 h3);obtain⟨h8,h9,eo⟩:=Fal hR hg cT hk h2 hZ h4;rw[h6,h7]at h8;exact⟨⟨u,eE,_,rfl,h5,Jam h0 h3,h8⟩,by rw[h9,h6];simp only[Ka1];omega,by rw[eo,h7];simp only[kM];omega⟩
end
theorem wB {wr:Bool}{ptrs:List (Nat×Nat×Nat)}:∀ {bs:List (Bool×List (BS×BO))} {b j c off:Nat} {cs:List (BS×BO)},bs[j]?=some (wr,cs)->qO (b+j) ptrs=some (c,off)->c∈jO wr ptrs b bs
 |[],b,j,c,off,cs,h,_=>by simp at h
 | (ro, ds) :: bs, b, 0, c, off, cs, h, hp => by
  simp only[Rbf,Qb7,Rbx]at h;rw[Sbg]at hp;simp only[jO,h.1,hp];simp
 | (ro, ds) :: bs, b, j + 1, c, off, cs, h, hp => by
  have:=wB (bs:=bs) (b:=b+1) (j:=j) (by simpa using h) (by rw[show b+1+j=b+(j+1) by omega];exact hp);simp only[jO]
  cases (ro==wr) with
  |false=>exact this
  | true =>
   simp only[cond_true];split
   ·exact Rbl _ this
   ·exact this
theorem Ba8 {ptrs:List (Nat×Nat×Nat)}{c:Nat}:∀ {bs:List (Bool×List (BS×BO))} {b:Nat},c∉jO false ptrs b bs->Sac ptrs c b bs=none
 |[],b,h=>rfl
 | (ro, cs) :: bs, b, h => by
  simp only[jO]at h;simp only[Sac]
  cases ro with
  |true=>simp only[if_true];exact Ba8 h
  | false =>
   simp only[Rbk,if_false];have e:(false==false)=true:=rfl;rw[e,cond_true]at h;split
   ·rename_i c' off hp
    rw[hp]at h;simp only[Rbg,not_or]at h;rw[if_neg fun e=>h.1 e.symm];exact Ba8 h.2
   ·rename_i hp
    rw[hp]at h;exact Ba8 h
theorem uC {ptrs:List (Nat×Nat×Nat)}{c off:Nat}{cs:List (BS×BO)}:∀ {bs:List (Bool×List (BS×BO))} {b j:Nat},distinct (jO false ptrs b bs)=true->bs[j]?=some (false,cs)->qO (b+j) ptrs=some (c,off)->Sac ptrs c b bs=some (b+j)
 |[],b,j,_,h,_=>by simp at h
 | (ro, ds) :: bs, b, 0, hd, h, hp => by
  simp only[Rbf,Qb7,Rbx]at h;rw[Sbg]at hp;simp only[Sac,h.1,hp];simp
 | (ro, ds) :: bs, b, j + 1, hd, h, hp => by
  have qi:qO (b+1+j) ptrs=some (c,off):=by rw[show b+1+j=b+(j+1) by omega];exact hp
  have hm:=wB (wr:=false) (bs:=bs) (b:=b+1) (j:=j) (by simpa using h) qi;simp only[jO]at hd;simp only[Sac]
  cases ro with
  | true =>
   have e:(true==false)=false:=rfl;rw[e,cond_false]at hd;simp only[if_true];rw[uC hd (by simpa using h) qi,show b+1+j=b+(j+1) by omega]
  | false =>
   have e:(false==false)=true:=rfl;rw[e,cond_true]at hd;simp only[Rbk,if_false];split
   ·rename_i c' lz hp2
    rw[hp2]at hd;simp only[distinct,Qb6,Rb0]at hd;have dz:c'≠c:=fun e=>by rw[<- e,<- nV,hd.1]at hm;cases hm
    rw[if_neg dz,uC hd.2 (by simpa using h) qi,show b+1+j=b+(j+1) by omega]
   ·rename_i hp2
    rw[hp2]at hd;rw[uC hd (by simpa using h) qi,show b+1+j=b+(j+1) by omega]
theorem Gan {ptrs:List (Nat×Nat×Nat)}{c x:Nat}:∀ {bs:List (Bool×List (BS×BO))} {b:Nat},Sac ptrs c b bs=some x->∃ j cs off,x=b+j/\bs[j]?=some (false,cs)/\qO x ptrs=some (c,off)
 |[],b,h=>by simp[Sac]at h
 | (ro, cs) :: bs, b, h => by
  simp only[Sac]at h
  have next:Sac ptrs c (b+1) bs=some x->∃ j oX off,x=b+j/\((ro,cs)::bs)[j]?=some (false,oX)/\qO x ptrs=some (c,off):=by
   intro h;obtain⟨j,oX,off,h1,h2,h3⟩:=Gan h;exact⟨j+1,oX,off,by omega,by simpa using h2,h3⟩
  split at h
  ·exact next h
  ·rename_i xr
   split at h
   ·rename_i c' off hp
    split at h
    ·rename_i e
     subst e;obtain rfl:=Rb5 h;refine⟨0,cs,off,rfl,?_,hp⟩
     cases ro with
     |true=>exact absurd rfl xr
     |false=>rfl
    ·exact next h
   ·exact next h
section
variable {E:Env} {F:bQ} {σ:Nat->Option aU} {ρ:List D} {a:Act} {w:World} {G:Gh} {g:Option (aP×Bool)} {cf:Nat->List D->Option (List D)} {s:Sig} {Z:Take} {nv:Nat}
theorem Ras {A B:Take}{d:Nat}{l:aT}(h:(wL A d l).eval σ=some B):B.ptrs=A.ptrs:=by
 unfold wL at h;split at h
 ·simp only[aC,aW,Rbe]at h
  split at h
  ·simp only[aC,aO,Qb5,aF,Qb7]at h
   obtain⟨_,-,rfl⟩:=h;rfl
  ·cases h
 ·simp only[aF,Qb7]at h
  subst h;rfl
 ·cases h
theorem sG {A B:Take}{t:BS}{l:aT}(h:(Bat A t l).eval σ=some B):(∃ x,t=.sc/\l=.sc x/\B={ A with xs:=A.xs++[x] })\/(∃ nie,t=.fz nie/\(tV A nie l).eval σ=some B)\/(∃ d,t=.ow d/\(wL A d l).eval σ=some B)\/(t=.ot/\Oa4 l=true/\B=A):=by
 cases t with
 | sc =>
  cases l<;>simp only[Bat,cZ,reduceCtorEq]at h
  simp only[aF,Qb7]at h;exact .inl ⟨_,rfl,rfl,h.symm⟩
 | fz nie =>
  have h':(tV A nie l).eval σ=some B:=by cases l<;>exact h
  exact .inr (.inl ⟨nie,rfl,h'⟩)
 | ow d =>
  have h':(wL A d l).eval σ=some B:=by cases l<;>exact h
  exact .inr (.inr (.inl ⟨d,rfl,h'⟩))
 | ot =>
  have h':(bif Oa4 l then RdM.ret A else .no:RdM Take).eval σ=some B:=by cases l<;>exact h
  rw[iR]at h';split at h'
  ·rename_i hb
   simp only[aF,Qb7]at h';exact .inr (.inr (.inr ⟨rfl,hb,h'.symm⟩))
  ·cases h'
theorem Rax {A B:Take}{t:BS}{l:aT}(h:(Bat A t l).eval σ=some B):TLe A B/\B.ptrs=A.ptrs:=by
 have hinv:=sG h;clear h
 rcases hinv with ⟨x,rfl,rfl,rfl⟩|⟨nie,rfl,h⟩|⟨d,rfl,h⟩|⟨rfl,-,rfl⟩
 ·exact⟨⟨⟨_,rfl⟩,fun _ h=>h,fun _ h=>h,⟨[],by simp⟩,⟨[],by simp⟩⟩,rfl⟩
 ·refine⟨Oay h,?_⟩
  unfold tV at h;simp only[aC,Qb5,aF,Qb7]at h;obtain⟨s,h1,rfl⟩:=h;rfl
 ·exact⟨Oav h,Ras h⟩
 ·exact⟨.refl _,rfl⟩
theorem Oaz (hR:R E.ntmps F σ ρ a w G)(hg:gOn ρ g=true)(cT:aR cf ρ g nv Z.lets)(hk:Ka8 s Z){A B:Take}{t:BS}{l:aT}(h:(Bat A t l).eval σ=some B)(hZ:TLe B Z){v:Value}(hl:aD σ ρ G w l v) :
  yV (callG ρ G w s Z) w (Z.xs.map (·.val ρ)) A.xs.length A.rts.length t v/\B.xs.length=A.xs.length+t.cnt/\B.rts.length=A.rts.length+t.rcnt:=by
 have hinv:=sG h;clear h
 rcases hinv with ⟨x,rfl,rfl,rfl⟩|⟨nie,rfl,h⟩|⟨d,rfl,h⟩|⟨rfl,hs,rfl⟩
 ·refine⟨?_,by simp[BS.cnt],rfl⟩
  simp only[yV];rw[hZ.get (l:=A.xs) rfl];simpa[aD] using hl
 ·obtain⟨h1,h2,h3,h4⟩:=Jax hR hg cT hk h hZ hl
  exact⟨⟨h1,h2⟩,h3,by rw[h4];rfl⟩
 ·obtain⟨h1,h2,h3,h4⟩:=Jau hR hk h hZ hl
  exact⟨⟨h1,h2⟩,h3,h4⟩
 ·exact⟨hl.one hs,rfl,rfl⟩
theorem sF:∀ {ss:List (BS×BO)} {ls:List aT} {A B:Take},(fA A ss ls).eval σ=some B->TLe A B/\B.ptrs=A.ptrs
 | [], ls, A, B, h => by
  simp only[fA,aF,Qb7]at h;subst h;exact⟨.refl _,rfl⟩
 |_::_,[],A,B,h=>by simp[fA,cZ]at h
 | (t, o) :: ss, l :: ls, A, B, h => by
  simp only[fA,aC,Qb5]at h;obtain⟨C,h1,h2⟩:=h;obtain⟨h3,h4⟩:=Rax h1;obtain⟨h5,h6⟩:=sF h2;exact⟨h3.trans h5,h6.trans h4⟩
theorem Bar (hR:R E.ntmps F σ ρ a w G)(hg:gOn ρ g=true)(cT:aR cf ρ g nv Z.lets)(hk:Ka8 s Z){ad:Addr}:∀ {ss:List (BS×BO)} {ls:List aT} {A B:Take} {off:Nat},(fA A ss ls).eval σ=some B->TLe B Z ->
  (∀ j l,ls[j]?=some l->∃ v,w.cell? (ad.add (off+j))=some v/\w.frozen? (ad.add (off+j))=false/\aD σ ρ G w l v) ->
  Ga3 (callG ρ G w s Z) w (Z.xs.map (·.val ρ)) ad off A.xs.length A.rts.length ss/\B.xs.length=A.xs.length+Bbr ss/\B.rts.length=A.rts.length+xJ ss
 | [], ls, A, B, off, h, _, _ => by
  simp only[fA,aF,Qb7]at h;subst h;exact⟨trivial,rfl,rfl⟩
 |_::_,[],A,B,off,h,_,_=>by simp[fA,cZ]at h
 | (t, o) :: ss, l :: ls, A, B, off, h, hZ, hl => by
  simp only[fA,aC,Qb5]at h;obtain⟨C,h1,h2⟩:=h;obtain⟨v,h3,h4,h5⟩:=hl 0 l rfl;obtain⟨h6,h7,h8⟩:=Oaz hR hg cT hk h1 ((sF h2).1.trans hZ) h5
  obtain⟨h9,eo,fb⟩:=Bar hR hg cT hk (off:=off+1) h2 hZ fun j l' hj=>by
   have:=hl (j+1) l' (by simpa using hj);rwa[show off+(j+1)=off+1+j by omega]at this
  rw[h7,h8]at h9;exact⟨⟨⟨v,h3,h4,h6⟩,h9⟩,by rw[eo,h7];simp only[Bbr];omega,by rw[fb,h8];simp only[xJ];omega⟩
def Qbq (σ:Nat->Option aU)(ptrs:List (Nat×Nat×Nat))(b:Nat)(ro:Bool)(cs:List (BS×BO)):Prop :=
 ∃ c off lP ls,qO b ptrs=some (c,off)/\σ (kB c)=some (.box lP ls)/\off+cs.length<=ls.length/\(ro=false->lP=false/\0<cs.length)
theorem mG {ptrs:List (Nat×Nat×Nat)}:∀ {bs:List (Bool×List (BS×BO))} {b:Nat} {A B:Take},(fQ ptrs A b bs).eval σ=some B->TLe A B/\B.ptrs=A.ptrs/\∀ j ro cs,bs[j]?=some (ro,cs)->Qbq σ ptrs (b+j) ro cs
 | [], b, A, B, h => by
  simp only[fQ,aF,Qb7]at h;subst h;exact⟨.refl _,rfl,by simp⟩
 | (ro, cs) :: bs, b, A, B, h => by
  simp only[fQ]at h;split at h
  case h_2=>cases h
  rename_i c off hp;simp only[aC,aW,Rbe]at h;split at h
  case h_2=>cases h
  rename_i lP ls pj;simp only[aC,aO,Qb5]at h;obtain⟨_,h0,C,h1,h2⟩:=h;split at h0
  case isFalse=>cases h0
  rename_i hb;simp only[Qb6,Sbv,Rb0,Sbr]at hb;obtain⟨h3,h4⟩:=sF h1;obtain⟨h5,h6,h7⟩:=mG h2;refine⟨h3.trans h5,h6.trans h4,fun j ro2 cs2 hj=>?_⟩
  cases j with
  | zero =>
   simp only[Rbf,Qb7,Rbx]at hj;obtain⟨rfl,rfl⟩:=hj;refine⟨c,off,lP,ls,hp,pj,hb.2,fun e=>?_⟩
   rcases hb.1 with h8|h8
   ·rw[e]at h8;cases h8.1
   ·refine⟨h8.1.2,?_⟩
    cases cs with
    |nil=>have:=h8.2;simp at this
    |cons=>simp
  | succ j =>
   rw[show b+(j+1)=b+1+j by omega];exact h7 j ro2 cs2 (by simpa using hj)
theorem Ua2 {ad:Addr}{n:Nat}(h:ad.spot=none):(ad.add n).spot=none:=by
 unfold Addr.add;split
 ·exact h
 ·rfl
theorem Tac {ad:Addr}{n:Nat}:(ad.add n).off=ad.off+n:=by
 unfold Addr.add;split
 ·rename_i h;rw[h];rfl
 ·rfl
theorem Bau (hR:R E.ntmps F σ ρ a w G)(hg:gOn ρ g=true)(cT:aR cf ρ g nv Z.lets)(hk:Ka8 s Z):∀ {bs:List (Bool×List (BS×BO))} {b:Nat} {A B:Take},(∀ j x,bs[j]?=some x->s.boxes[b+j]?=some x)->(fQ Z.ptrs A b bs).eval σ=some B->TLe B Z ->
  Ga4 (callG ρ G w s Z) w (Z.xs.map (·.val ρ)) b A.xs.length A.rts.length bs/\B.xs.length=A.xs.length+Bbs bs
 | [], b, A, B, _, h, _ => by
  simp only[fQ,aF,Qb7]at h;subst h;exact⟨trivial,rfl⟩
 | (ro, cs) :: bs, b, A, B, yx, h, hZ => by
  simp only[fQ]at h;split at h
  case h_2=>cases h
  rename_i c off hp;simp only[aC,aW,Rbe]at h;split at h
  case h_2=>cases h
  rename_i lP ls pj;simp only[aC,aO,Qb5]at h;obtain⟨_,h0,C,h1,h2⟩:=h;split at h0
  case isFalse=>cases h0
  rename_i hb;simp only[Qb6,Sbv,Rb0,Sbr]at hb;have hCZ:=(mG h2).1.trans hZ;obtain⟨h3,h4,h5⟩:=hR.box pj;have gz:(callG ρ G w s Z).bx b=(G.bx c).add off:=by simp only[callG,hp]
  have oz:=yx 0 _ rfl;rw[Sbg]at oz;have qi:qO (0+b) Z.ptrs=some (c,off):=by rw[Rb2];exact hp
  obtain⟨h6,h7,h8⟩:=Bar hR hg cT hk (ad:=(G.bx c).add off) (off:=0) h1 hCZ fun j l hj=>by
   rw[Sba]at hj;obtain⟨v,h9,eo,fb⟩:=h5 _ l hj;exact⟨v,by rw[add_add,Rb2];exact h9,by rw[add_add,Rb2];exact eo,fb⟩
  obtain⟨h9,eo⟩:=Bau hR hg cT hk (b:=b+1) (fun j x hj=>by
   rw[show b+1+j=b+(j+1) by omega];exact yx (j+1) x (by simpa using hj)) h2 hZ
  rw[h7,h8]at h9;refine⟨⟨by rw[gz];exact Ua2 h3,?_,by rw[gz];exact h6,h9⟩,by rw[eo,h7];simp only[Bbs];omega⟩;rw[gz,add_block]
  cases ro with
  | true =>
   simp only[if_true];have hm:=wB (wr:=true) oz qi
   cases lP with
   |true=>simp only[callG,h4,if_true]
   | false =>
    simp only[Rbk,if_false]at h4;simp only[callG,h4];rw[Ba8 fun n2=>qQ hk.ro n2 hm]
  | false =>
   simp only[Rbk,if_false]
   rcases hb.1 with fb|fb
   ·cases fb.1
   ·have xr:lP=false:=fb.1.2
    subst xr;simp only[Rbk,if_false]at h4;simp only[callG,h4];rw[uC hk.wr oz qi];simp
theorem Fbq (hR:R E.ntmps F σ ρ a w G)(hg:gOn ρ g=true)(cT:aR cf ρ g nv Z.lets)(hk:Ka8 s Z){T:Take}{vs:List SV}(h1:(fU g Take.empty s.params vs).eval σ=some T)(h2:(fQ T.ptrs T 0 s.boxes).eval σ=some Z)
  {us:List Value} (hu:uR σ ρ G w vs us):Fb6 s us w (callG ρ G w s Z) (Z.xs.map (·.val ρ)):=by
 obtain⟨h3,h4,h5⟩:=mG h2;obtain⟨h6,h7,h8⟩:=Fal hR hg cT hk h1 h3 hu;rw[<- h4]at h2;obtain⟨h9,eo⟩:=Bau hR hg cT hk (by simp) h2 (.refl _);have e1:Take.empty.xs.length=0:=rfl;have e2:Take.empty.rts.length=0:=rfl;rw[e1,e2]at h6;rw[e1,Rb2]at h7;rw[e2,Rb2]at h8;rw[h7,h8]at h9;refine⟨h6,h9,by rw[Rb4,eo,h7],fun b hb=>rW (hR.frame.fresh b hb),fun b j hb hj=>?_⟩
 cases e:G.own b with
 | slc r p =>
  exfalso;simp only[callG,e]at hj
  have:∀ (rts:List RT) (ν:Nat),nP ρ (Z.deps.map (·.1)) ν rts r p≠.box j:=by
   intro rts
   induction rts with
   |nil=>intro ν h;simp only[nP]at h;split at h<;>cases h
   | cons x t ih =>
    intro ν h
    cases x with
    |nil=>exact ih _ h
    | own s d =>
     simp only[nP]at h;split at h
     ·split at h<;>cases h
     ·exact ih _ h
    | mu s d q X =>
     simp only[nP]at h;split at h
     ·split at h
      ·split at h<;>cases h
      ·cases h
     ·exact ih _ h
  exact this _ _ hj
 | box c =>
  simp only[callG,e]at hj;split at hj
  case h_2=>cases hj
  rename_i x hx;split at hj
  case isFalse=>cases hj
  rename_i hbk
  injection hj with hj
  subst hj;obtain⟨j,cs,off,e1,e2,e3⟩:=Gan hx;rw[Rb2]at e1;subst e1;refine⟨(Qb8.1 e2).1,?_⟩;rw[h4]at e3;have:=h5 x _ _ e2;rw[Rb2]at this;obtain⟨c',lz,lP,ls,fb,gq,jg,lq⟩:=this;rw[e3]at fb;obtain⟨rfl,rfl⟩:c=c'/\off=lz:=by simpa using fb
  obtain⟨-,-,mz⟩:=hR.box gq;have bh:0<ls.length:=by have:=(lq rfl).2;omega
  obtain⟨v,nn,-,-⟩:=mz 0 _ (Rba bh);rw[hbk];unfold World.cell? at nn;rw[add_block]at nn
  cases hh:w.heap[(G.bx c).block]? with
  |none=>rw[hh]at nn;cases nn
  | some lg =>
   rw[hh]at nn
   cases lg with
   |cells c0 e fr=>exact⟨c0,e,fr,rfl⟩
   |_=>simp at nn
 |frz=>rw[rW e]at hj;cases hj
 |oth=>simp only[callG,e]at hj;cases hj
end
def Nau:Ow->Bool
 |.slc _ _=>true
 |_=>false
def pI (r:Nat):List RT->Option RT
 |[]=>none
 |.nil::t=>pI r t
 |.own s d::t=>if r=s then some (.own s d) else pI r t
 |.mu s d q X::t=>if r=s then some (.mu s d q X) else pI r t
def Aa9 (ρ:List D)(rts:List RT):Ow->Ow
 | .slc r p => match pI r rts with
  |some (.own _ _)=>.frz
  | some (.mu _ d q _) => match strip (bG ρ q) p with
   |some t=>if t.length<d then .slc r p else .frz
   |none=>.slc r p
  |_=>.slc r p
 |o=>o
def wD (gd:Bool)(ρ:List D)(nr nb nbx:Nat)(mus:List RT):Ow->Ow
 | .slc t p => if t % 2 = 0 then (if gd = true then .frz else if t / 2 < dE then .slc (nr + t / 2) p else .oth) else (match mus[t / 2]? with
  |some (.mu r _ q _)=>.slc r (bG ρ q++p)
  |_=>.oth)
 |.box β=>if β=nbx then .box nb else .oth
 |o=>o
def gF (gd:Bool)(ρ:List D)(G:Gh)(w:World)(s:Sig)(Z:Take)(nr nb:Nat)(own':Nat->Ow)(hs:List Value)(adn:Addr):Gh:={
 own:=fun b=>if b<w.heap.size/\Nau ((callG ρ G w s Z).own b)=false then Aa9 ρ Z.rts (G.own b) else wD gd ρ nr nb s.boxes.length (Z.rts.filter yD) (own' b)
 hdr:=fun r=>if nr<=r/\r<nr+dE then hs.getD (r-nr) undef else G.hdr r
 bx:=fun b=>if b=nb then adn else G.bx b }
theorem vE {r:Nat}:∀ {rts:List RT},r∉dL rts->pI r rts=none
 |[],_=>rfl
 |.nil::t,h=>vE (rts:=t) h
 | .own s d :: t, h => by
  simp only[dL,Rbg,not_or]at h;simp only[pI,if_neg h.1];exact vE h.2
 | .mu s d q X :: t, h => by
  simp only[dL,Rbg,not_or]at h;simp only[pI,if_neg h.1];exact vE h.2
theorem vD {r:Nat}:∀ {rts:List RT},r∈dL rts->∃ (ν:Nat) (x:RT),rts[ν]?=some x/\pI r rts=some x/\((∃ d,x=.own r d)\/∃ d q X,x=.mu r d q X)
 |[],h=>by simp[dL]at h
 | .nil :: t, h => by
  obtain⟨ν,x,h1,h2⟩:=vD (rts:=t) h;exact⟨ν+1,x,by simpa using h1,h2⟩
 | .own s d :: t, h => by
  by_cases e:r=s
  ·subst e
   exact⟨0,_,rfl,by simp[pI],.inl ⟨d,rfl⟩⟩
  ·simp only[dL,Rbg,e,false_or]at h
   obtain⟨ν,x,h1,h2⟩:=vD h;exact⟨ν+1,x,by simpa using h1,by simp only[pI,if_neg e];exact h2⟩
 | .mu s d q X :: t, h => by
  by_cases e:r=s
  ·subst e
   exact⟨0,_,rfl,by simp[pI],.inr ⟨d,q,X,rfl⟩⟩
  ·simp only[dL,Rbg,e,false_or]at h
   obtain⟨ν,x,h1,h2⟩:=vD h;exact⟨ν+1,x,by simpa using h1,by simp only[pI,if_neg e];exact h2⟩
theorem Cad {r d:Nat}{q:List (aP×Nat×Nat)}{X:aP}:∀ {rts:List RT} {ν:Nat},distinct (dL rts)=true->rts[ν]?=some (.mu r d q X)->pI r rts=some (.mu r d q X)
 |[],ν,_,h=>by simp at h
 | x :: t, 0, hd, h => by
  simp only[Rbf,Qb7]at h;subst h;simp[pI]
 | x :: t, ν + 1, hd, h => by
  simp only[Sbl]at h;have hm:=vC (.inr ⟨d,q,X,h⟩)
  cases x with
  |nil=>exact Cad (rts:=t) hd h
  | own s d' =>
   simp only[dL,distinct,Qb6,Rb0]at hd;have dz:r≠s:=fun e=>by rw[e,<- nV,hd.1]at hm;cases hm
   simp only[pI,if_neg dz];exact Cad hd.2 h
  | mu s d' q' X' =>
   simp only[dL,distinct,Qb6,Rb0]at hd;have dz:r≠s:=fun e=>by rw[e,<- nV,hd.1]at hm;cases hm
   simp only[pI,if_neg dz];exact Cad hd.2 h
theorem Gao {ρ:List D}{dr:List Nat}{r:Nat}{p:List Nat}:∀ (rts:List RT) (ν:Nat),(∃ ν' t,nP ρ dr ν rts r p=.slc ν' t)\/nP ρ dr ν rts r p=.frz\/nP ρ dr ν rts r p=.oth
 | [], ν => by
  simp only[nP];split
  ·exact .inr (.inl rfl)
  ·exact .inr (.inr rfl)
 |.nil::t,ν=>Gao t (ν+1)
 | .own s d :: t, ν => by
  simp only[nP];split
  ·split
   ·exact .inl ⟨_,_,rfl⟩
   ·exact .inr (.inl rfl)
  ·exact Gao t (ν+1)
 | .mu s d q X :: t, ν => by
  simp only[nP];split
  ·split
   ·split
    ·exact .inl ⟨_,_,rfl⟩
    ·exact .inr (.inl rfl)
   ·exact .inr (.inr rfl)
  ·exact Gao t (ν+1)
theorem Rp.remap {own own':Nat->Ow}{w:World}{r r':Nat}{q q':List Nat}{p:List Nat}{m:Nat}{v:Value}{d:D}(h:Rp own w r p m v d)
  (hs:∀ b t,own b=.slc r (q++t)->own' b=.slc r' (q'++t)):∀ s,p=q++s->((∀ b,own b=.frz->b<w.heap.size->own' b=.frz)\/rJ m d=true)->Rp own' w r' (q'++s) m v d:=by
 induction h with
 |sc h=>exact fun _ _ _=>.sc h
 |hole v h1=>exact fun _ _ _=>.hole v h1
 | fz h =>
  intro s _ hz
  rcases hz with hz|hz
  ·exact .fz (h.mono' fun b hb bh=>⟨hz b hb bh,rfl⟩)
  ·cases h with
   |sc h=>exact .sc h
   |hole _ h1=>exact .hole _ h1
   |rows=>simp[rJ,D.isSc]at hz
 | sl A a n c sz rs vs hn hc hA ej cI cV dq ih =>
  rename_i p m;intro s hp hz;refine .sl A a n c sz rs vs hn hc hA ej (fun e=>?_) cV (fun i row hi j d hj=>?_)
  ·obtain⟨h1,h2,h3⟩:=cI e
   rw[hp]at h2;exact⟨h1,hs _ _ h2,h3⟩
  ·have:=ih i row hi j d hj (s++[i*sz+j]) (by rw[hp,Rbd]) (hz.imp id fun hz=>by
    simp only[rJ,Rb6]at hz;exact hz row (Rbn hi) d (Rbn hj))
   rwa[<- Rbd]at this
theorem Rp.updM {own own':Nat->Ow}{w w':World}{r M:Nat}{full:List Nat}{y:D}{u:Value}
  (hz:∀ b,own b=.frz->b<w.heap.size->own' b=.frz/\w'.heap[b]?=w.heap[b]?)
  (hs:∀ b t,own b=.slc r t->¬ full <+: t->own' b=.slc r t/\w'.heap[b]?=w.heap[b]?)
  (hM:full.length<=M) (ij:Rp own' w' r full (M-full.length) u y) :
  ∀ (p q:List Nat) (v:Value) (x x':D),full=q++p->Rp own w r q (M-q.length) v x->Aaf own w r q v p u->Upd p x y x'->Rp own' w' r q (M-q.length) v x'
 | [], q, v, x, x', hf, hx, hn, hu => by
  cases hu;simp only[Aaf]at hn;rw[Rb1]at hf;subst hf hn;exact ij
 | k :: p, q, v, x, x', hf, hx, hn, hu => by
  generalize hk:k::p=kp at hu
  cases hu with
  |here=>cases hk
  | down sz rs i j row z z' y p' hi hj hu =>
   obtain⟨rfl,rfl⟩:=List.cons.inj hk;have hlen:full.length=q.length+(p.length+1):=by rw[hf];simp
   obtain⟨m,hm⟩:∃ m,M-q.length=m+1:=⟨M-q.length-1,by omega⟩;rw[hm]at hx;rw[hm];obtain⟨A,a,n,c,vs,rfl,h1,h2,h3,h4,h5,h6,h7⟩:=hx.sl_inv;have pr:i<rs.length:=(Qb8.1 hi).1
   have hA:A=some a:=by
    rcases h3 with e|⟨e,e'⟩
    ·exact e
    ·omega
   subst hA;obtain⟨h8,h9,eo⟩:=h5 rfl;obtain⟨a',n',c',u',e1,e2,e3,e4⟩:=hn;obtain⟨rfl,rfl,rfl⟩:a=a'/\n=n'/\c=c':=by injection e1 with a b c;exact⟨Rb5 a,b,c⟩
   have iu:=h6 i row hi j z hj;rw[iu]at e3;obtain rfl:=Rb5 e3
   have hq:¬ full <+: q:=by
    intro e;have:=e.length_le;omega
   obtain⟨fy,dk⟩:=hs _ _ h9 hq;have p8:∀ k,w'.cell? (a.add k)=w.cell? (a.add k):=fun k=>iD (w:=w) (w':=w') (by rw[add_block];exact dk)
   have pS:∀ k,fzq w' (a.add k)=fzq w (a.add k):=fun k=>Ca9 (w:=w) (w':=w') (by rw[add_block];exact dk)
   have dq:=Rp.updM hz hs hM ij p (q++[i*sz+j]) (vs i j) z z' (by rw[hf];simp) (by
    have:=h7 i row hi j z hj;rwa[show M-(q++[i*sz+j]).length=m by simp;omega]) e4 hu
   rw[show M-(q++[i*sz+j]).length=m by simp;omega]at dq;have k8:row.length=sz:=h4 row (Rbn hi);have bh:j<sz:=by rw[<- k8];exact (Qb8.1 hj).1
   have nz:∀ i' fW,(rs.set i (row.set j z'))[i']?=some fW->∀ j' d,fW[j']?=some d->(i'=i/\j'=j/\d=z')\/(∃ row0,rs[i']?=some row0/\row0[j']?=some d/\¬ (i'=i/\j'=j)):=by
    intro i' fW gA j' d jd;rw[Tbj]at gA;by_cases qq:i=i'
    ·subst qq
     rw[if_pos rfl,if_pos pr]at gA;obtain rfl:=Rb5 gA;rw[Tbj]at jd;by_cases v7:j=j'
     ·subst v7
      rw[if_pos rfl,if_pos (by omega)]at jd;exact .inl ⟨rfl,rfl,(Rb5 jd).symm⟩
     ·rw[if_neg v7]at jd
      exact .inr ⟨row,hi,jd,fun e=>v7 e.2.symm⟩
    ·rw[if_neg qq]at gA
     exact .inr ⟨fW,gA,jd,fun e=>qq e.1.symm⟩
   refine .sl _ a n c sz _ vs (by simpa using h1) h2 (.inl rfl) (fun fW hr=>?_) (fun _=>⟨h8,fy,fun k hk=>?_⟩) (fun i' fW gA j' d jd=>?_) (fun i' fW gA j' d jd=>?_)
   ·rcases List.mem_or_eq_of_mem_set hr with hr|rfl
    ·exact h4 _ hr
    ·simpa using k8
   ·rw[p8,pS]
    exact eo k hk
   ·rw[p8]
    rcases nz i' fW gA j' d jd with ⟨rfl,rfl,rfl⟩|⟨row0,fb,gq,-⟩
    ·exact iu
    ·exact h6 _ _ fb _ _ gq
   ·rcases nz i' fW gA j' d jd with ⟨rfl,rfl,rfl⟩|⟨row0,fb,gq,dz⟩
    ·exact dq
    ·have:=(h7 _ _ fb _ _ gq).mono' (own':=own') (w':=w') (r':=r) (q:=q++[i'*sz+j']) (q':=q++[i'*sz+j']) hz [] (by simp) fun b t hb=>by
      have hnp:¬ full <+: q++[i'*sz+j']++t:=by
       intro e;rw[hf,Rbd,List.prefix_append_right_inj]at e;have e':=(List.cons_prefix_cons.1 e).1
       have vw:j'<sz:=by
        have:=(Qb8.1 gq).1;rw[h4 row0 (Rbn fb)]at this;exact this
       obtain⟨mz,nn⟩:=Gbk vw bh e'.symm;exact dz ⟨mz,nn⟩
      exact hs b _ hb hnp
     simpa using this
theorem Rp.deeper {own:Nat->Ow}{w:World}{r:Nat}{p:List Nat}{m:Nat}{v:Value}{d:D}(h:Rp own w r p m v d):∀ {m':Nat},m<=m'->rJ m d=true->Rp own w r p m' v d:=by
 induction h with
 |sc h=>exact fun _ _=>.sc h
 |hole v h1=>exact fun _ _=>.hole v h1
 | fz h =>
  intro m' _ hz
  cases h with
  |sc h=>exact .sc h
  |hole _ h1=>exact .hole _ h1
  |rows=>simp[rJ,D.isSc]at hz
 | sl A a n c sz rs vs hn hc hA ej cI cV dq ih =>
  rename_i p m;intro m' hm hz;obtain⟨k,rfl⟩:∃ k,m'=k+1:=⟨m'-1,by omega⟩;refine .sl A a n c sz rs vs hn hc hA ej cI cV (fun i row hi j d hj=>ih i row hi j d hj (by omega) ?_);simp only[rJ,Rb6]at hz;exact hz row (Rbn hi) d (Rbn hj)
section
variable {E:Env} {F:bQ} {σ:Nat->Option aU} {ρ:List D} {a:Act} {w w':World} {G G':Gh} {s:Sig} {Z:Take} {gd:Bool} {nr nb:Nat} {hs:List Value} {adn:Addr}
structure Raj (E:Env) (F:bQ) (σ:Nat->Option aU) (ρ:List D) (a:Act) (w:World) (G:Gh) (s:Sig) (Z:Take) (G':Gh) (w':World):Prop where
 hR:R E.ntmps F σ ρ a w G
 hk:Ka8 s Z
 hF:nX (tL s (callG ρ G w s Z) w) G' w'
 bx:∀ j ro cs,s.boxes[j]?=some (ro,cs)->Qbq σ Z.ptrs j ro cs
 deps:∀ z∈Z.deps,Nam σ z.1 z.2
 mus:∀ (ν r d:Nat) (q:List (aP×Nat×Nat)) (X:aP),Z.rts[ν]?=some (RT.mu r d q X)->∃ m cQ u,σ (kR r)=some (.root X m cQ .live)/\q.length+d<=m/\Aaf G.own w r [] (G.hdr r) (bG ρ q) u
 owns:∀ (ν r d:Nat),Z.rts[ν]?=some (RT.own r d)->∃ x m cQ,σ (kR r)=some (.root x m cQ .live)
variable (B:Raj E F σ ρ a w G s Z G' w')
include B
theorem Raj.keep {b:Nat}(hb:b<w.heap.size)(h:(callG ρ G w s Z).own b=.frz\/(callG ρ G w s Z).own b=.oth):w'.heap[b]?=w.heap[b]?/\G'.own b=(callG ρ G w s Z).own b:=B.hF.keep b hb h
theorem Raj.lt {b r:Nat}{p:List Nat}(h:G.own b=.slc r p):b<w.heap.size:=by
 rcases Rbu b w.heap.size with h1|h1
 ·exact h1
 ·rw[B.hR.frame.fresh b h1]at h;cases h
theorem Raj.own_eq {b:Nat}(hb:b<w.heap.size)(h:Nau ((callG ρ G w s Z).own b)=false):(gF gd ρ G w s Z nr nb G'.own hs adn).own b=Aa9 ρ Z.rts (G.own b):=by
 simp only[gF];rw[if_pos ⟨hb,h⟩]
theorem Raj.frz {b:Nat}(h:G.own b=.frz)(hb:b<w.heap.size):(gF gd ρ G w s Z nr nb G'.own hs adn).own b=.frz/\w'.heap[b]?=w.heap[b]?:=by
 have h1:(callG ρ G w s Z).own b=.frz:=rW h;refine⟨?_,(B.keep hb (.inl h1)).1⟩;rw[B.own_eq hb (by rw[h1];rfl),h];rfl
theorem Raj.other {b r:Nat}{p:List Nat}(hr:r∉dL Z.rts)(h:G.own b=.slc r p):(gF gd ρ G w s Z nr nb G'.own hs adn).own b=.slc r p/\w'.heap[b]?=w.heap[b]?:=by
 have hb:=B.lt h
 have h1:(callG ρ G w s Z).own b=if r∈Z.deps.map (·.1) then .frz else .oth:=by
  simp only[callG,h];exact uD hr
 have h2:(callG ρ G w s Z).own b=.frz\/(callG ρ G w s Z).own b=.oth:=by
  rw[h1];split
  ·exact .inl rfl
  ·exact .inr rfl
 refine⟨?_,(B.keep hb h2).1⟩;rw[B.own_eq hb (by rcases h2 with e|e<;>rw[e]<;>rfl),h];simp only[Aa9,vE hr]
theorem Raj.oth {b:Nat}(h:G.own b=.oth)(hb:b<w.heap.size):(gF gd ρ G w s Z nr nb G'.own hs adn).own b=.oth/\w'.heap[b]?=w.heap[b]?:=by
 have h1:(callG ρ G w s Z).own b=.oth:=by simp only[callG,h]
 refine⟨?_,(B.keep hb (.inr h1)).1⟩;rw[B.own_eq hb (by rw[h1];rfl),h];rfl
theorem Raj.boxes {b c:Nat}(h:G.own b=.box c)(hb:b<w.heap.size):(gF gd ρ G w s Z nr nb G'.own hs adn).own b=.box c /\
  (w'.heap[b]?=w.heap[b]?\/∃ j cs off ls c0 c1 e fr,s.boxes[j]?=some (false,cs)/\qO j Z.ptrs=some (c,off)/\b=(G.bx c).block/\σ (kB c)=some (.box false ls)/\off+cs.length<=ls.length /\
   w.heap[b]?=some (.cells c0 e fr)/\w'.heap[b]?=some (.cells c1 e fr)/\c1.size=c0.size/\∀ k,k<(G.bx c).off+off\/(G.bx c).off+off+cs.length<=k->c1[k]?=c0[k]?):=by
 have key:((callG ρ G w s Z).own b=.oth)\/∃ j,Sac Z.ptrs c 0 s.boxes=some j/\b=(G.bx c).block/\(callG ρ G w s Z).own b=.box j:=by
  simp only[callG,h];split
  ·rename_i j hj
   split
   ·rename_i hbk
    exact .inr ⟨j,hj,hbk,rfl⟩
   ·exact .inl rfl
  ·exact .inl rfl
 rcases key with h1|⟨j,hj,hbk,h1⟩
 ·refine⟨?_,.inl (B.keep hb (.inr h1)).1⟩
  rw[B.own_eq hb (by rw[h1];rfl),h];rfl
 ·refine⟨by rw[B.own_eq hb (by rw[h1];rfl),h];rfl,.inr ?_⟩
  obtain⟨j',cs,off,e1,e2,e3⟩:=Gan hj;rw[Rb2]at e1;subst e1;obtain⟨c',lz,lP,ls,h2,h3,h4,h5⟩:=B.bx j false cs e2;rw[e3]at h2;obtain⟨rfl,rfl⟩:c=c'/\off=lz:=by simpa using h2
  obtain rfl:=(h5 rfl).1;obtain⟨-,c0,c1,e,fr,h6,h7,h8,h9⟩:=B.hF.boxes b j hb h1;refine⟨j,cs,off,ls,c0,c1,e,fr,e2,e3,hbk,h3,h4,h6,h7,h8,fun k hk=>h9 k ?_⟩
  have e4:(tL s (callG ρ G w s Z) w).rng j=((G.bx c).off+off,(G.bx c).off+off+cs.length):=by
   simp only[tL,callG,e3,Tac,Rbi,e2,Tbd]
  rw[e4];exact hk
theorem Raj.allow {b:Nat}(h:G'.own b=.frz):allow (gF gd ρ G w s Z nr nb G'.own hs adn) Z.deps b:=by
 by_cases hb:b<w.heap.size
 ·cases im:Nau ((callG ρ G w s Z).own b) with
  | true =>
   refine .inl ?_;simp only[gF];rw[if_neg (by rw[im];simp),h];rfl
  | false =>
   have cI:=B.own_eq (gd:=gd) (nr:=nr) (nb:=nb) (hs:=hs) (adn:=adn) hb im
   cases hg:G.own b with
   |frz=>exact .inl (B.frz hg hb).1
   | oth =>
    have h1:(callG ρ G w s Z).own b=.oth:=by simp only[callG,hg]
    have:=(B.keep hb (.inr h1)).2;rw[h,h1]at this;cases this
   | box c =>
    have hbk:=(B.boxes (gd:=gd) (nr:=nr) (nb:=nb) (hs:=hs) (adn:=adn) hg hb);exfalso
    have key:((callG ρ G w s Z).own b=.oth)\/∃ j,(callG ρ G w s Z).own b=.box j:=by
     simp only[callG,hg];split
     ·split
      ·exact .inr ⟨_,rfl⟩
      ·exact .inl rfl
     ·exact .inl rfl
    rcases key with h1|⟨j,h1⟩
    ·have:=(B.keep hb (.inr h1)).2
     rw[h,h1]at this;cases this
    ·have:=(B.hF.boxes b j hb h1).1
     rw[h]at this;cases this
   | slc r p =>
    by_cases hr:r∈dL Z.rts
    ·refine .inl ?_
     rw[cI,hg];obtain⟨ν,x,h1,h2,h3⟩:=vD hr;simp only[Aa9,h2]
     rcases h3 with ⟨d,rfl⟩|⟨d,q,X,rfl⟩
     ·rfl
     ·have h4:=Oab (ρ:=ρ) (G:=G) (w:=w) B.hk h1 hg
      dsimp only;rw[h4]at im
      cases cT:strip (bG ρ q) p with
      | some t' =>
       rw[cT]at im;dsimp only at im ⊢;split at im
       ·cases im
       ·rename_i hle
        rw[if_neg hle]
      | none =>
       have h5:(callG ρ G w s Z).own b=.oth:=by rw[h4,cT]
       have:=(B.keep hb (.inr h5)).2;rw[h,h5]at this;cases this
    ·have h1:(callG ρ G w s Z).own b=if r∈Z.deps.map (·.1) then .frz else .oth:=by
      simp only[callG,hg];exact uD hr
     by_cases hd:r∈Z.deps.map (·.1)
     ·obtain⟨z,hz,e⟩:=Sbp.1 hd
      refine .inr ⟨r,z.2,p,by rw[<- e];exact hz,(B.other hr hg).1⟩
     ·rw[if_neg hd]at h1
      have:=(B.keep hb (.inr h1)).2;rw[h,h1]at this;cases this
 ·refine .inl ?_
  simp only[gF];rw[if_neg (by simp[hb]),h];rfl
theorem Raj.rd {v:Value}{d:D}(h:Rd (fun b=>G'.own b=.frz) w' v d):Rd (Go.Proofs.YtgpamlpecmldfaaGreat.Rf.allow (gF gd ρ G w s Z nr nb G'.own hs adn) Z.deps) w' v d :=
 h.mono fun b hb=>⟨B.allow hb,rfl⟩
theorem Raj.slc {b t:Nat}{p:List Nat}(h:G'.own b=.slc t p):(gF gd ρ G w s Z nr nb G'.own hs adn).own b=wD gd ρ nr nb s.boxes.length (Z.rts.filter yD) (.slc t p):=by
 simp only[gF];rw[if_neg,h]
 rintro⟨hb,im⟩
 cases hg:(callG ρ G w s Z).own b with
 |frz=>have:=(B.keep hb (.inl hg)).2;rw[h,hg]at this;cases this
 |oth=>have:=(B.keep hb (.inr hg)).2;rw[h,hg]at this;cases this
 |slc _ _=>rw[hg]at im;cases im
 |box j=>have:=(B.hF.boxes b j hb hg).1;rw[h]at this;cases this
theorem Raj.give {q m:Nat}{v:Value}{d:D}(h:Rp G'.own w' (2*q) [] m v d)(fh:Z.deps=[]\/rJ m d=true)(gv:gd=false)(hq:q<dE):Rp (gF gd ρ G w s Z nr nb G'.own hs adn).own w' (nr+q) [] m v d:=by
 have:=h.remap (own':=(gF gd ρ G w s Z nr nb G'.own hs adn).own) (r':=nr+q) (q:=[]) (q':=[]) (fun b t hb=>by
  rw[B.slc hb,gv];simp only[wD,Sbm]
  rw[if_pos (by omega),if_neg (by simp),show 2*q / 2=q by omega,if_pos hq]) [] rfl (fh.imp (fun e b hb _=>by
   rcases B.allow (gd:=gd) (nr:=nr) (nb:=nb) (hs:=hs) (adn:=adn) hb with h1|⟨r,k,p,h1,-⟩
   ·exact h1
   ·rw[e]at h1;simp at h1) id)
 simpa using this
theorem Raj.giveGd {q m:Nat}{v:Value}{d:D}(h:Rp G'.own w' (2*q) [] m v d)(gv:gd=true):Rd (Go.Proofs.YtgpamlpecmldfaaGreat.Rf.allow (gF gd ρ G w s Z nr nb G'.own hs adn) Z.deps) w' v d:=by
 refine h.rd.mono fun b hb=>⟨?_,rfl⟩
 rcases hb with hb|⟨p,hb⟩
 ·exact B.allow hb
 ·refine .inl ?_
  rw[B.slc hb,gv];simp only[wD];rw[if_pos (by omega),if_pos trivial]
theorem Raj.mu {ν j r d m cQ:Nat}{q:List (aP×Nat×Nat)}{X y X' X0:aP}(hm:σ (kR r)=some (.root X0 m cQ .live))(hdm:q.length+d=m\/rJ d (y.val ρ)=true)(uo:Z.rts[ν]?=some (.mu r d q X))(hj:(Z.rts.filter yD)[j]?=some (.mu r d q X)){u:Value}(hu:∀ u',Aaf G.own w r [] (G.hdr r) (bG ρ q) u'->u=u')
  (h:Rp G'.own w' (2*j+1) [] d u (y.val ρ)) (fh:Z.deps=[]\/rJ d (y.val ρ)=true) (oh:Upd (bG ρ q) (X.val ρ) (y.val ρ) (X'.val ρ)) :
  Rp (gF gd ρ G w s Z nr nb G'.own hs adn).own w' r [] m (G.hdr r) (X'.val ρ):=by
 obtain⟨m',v8,u',hσ,hle,hn⟩:=B.mus ν r d q X uo;rw[hm]at hσ
 obtain⟨rfl,rfl,rfl⟩:X0=X/\m=m'/\cQ=v8:=by
  have:=Rb5 hσ
  injection this with e1 e2 e3
  exact⟨e1,e2,e3⟩
 obtain rfl:=hu u' hn;have hlen:(bG ρ q).length=q.length:=by simp[bG]
 have ij:Rp (gF gd ρ G w s Z nr nb G'.own hs adn).own w' r (bG ρ q) d u (y.val ρ):=by
  have:=h.remap (own':=(gF gd ρ G w s Z nr nb G'.own hs adn).own) (r':=r) (q:=[]) (q':=bG ρ q) (fun b t hb=>by
   rw[B.slc hb];simp only[wD,Sbm]
   rw[if_neg (by omega),show (2*j+1) / 2=j by omega,hj]) [] rfl (fh.imp (fun e b hb _=>by
    rcases B.allow (gd:=gd) (nr:=nr) (nb:=nb) (hs:=hs) (adn:=adn) hb with h1|⟨r,k,p,h1,-⟩
    ·exact h1
    ·rw[e]at h1;simp at h1) id)
  simpa using this
 have a1p:Rp (gF gd ρ G w s Z nr nb G'.own hs adn).own w' r (bG ρ q) (m-(bG ρ q).length) u (y.val ρ):=by
  rcases hdm with e|e
  ·rwa[hlen,show m-q.length=d by omega]
  ·exact ij.deeper (by omega) e
 have fR:=B.hR.root hm;simp only[dB]at fR
 have:=Rp.updM (own:=G.own) (own':=(gF gd ρ G w s Z nr nb G'.own hs adn).own) (w:=w) (w':=w') (r:=r) (M:=m) (full:=bG ρ q) (y:=y.val ρ) (u:=u)
  (fun b hb bh=>B.frz hb bh) (fun b t hb hnp=>?_) (by omega) a1p (bG ρ q) [] (G.hdr r) (X0.val ρ) (X'.val ρ) (by simp) (by simpa using fR) hn oh
 ·simpa using this
 ·have bh:=B.lt hb
  have h1:=Oab (ρ:=ρ) (G:=G) (w:=w) B.hk uo hb
  have cT:strip (bG ρ q) t=none:=by
   cases e:strip (bG ρ q) t with
   |none=>rfl
   |some t'=>exact absurd ⟨t',(Ja3 e).symm⟩ hnp
  rw[cT]at h1;refine⟨?_,(B.keep bh (.inr h1)).1⟩;rw[B.own_eq bh (by rw[h1];rfl),hb];simp only[Aa9,Cad B.hk.dist uo,cT]
theorem Raj.frame:nX F (gF gd ρ G w s Z nr nb G'.own hs adn) w':=by
 have ej:w.heap.size<=w'.heap.size:=B.hF.size;refine⟨B.hF.os.trans B.hR.frame.os,B.hF.tape.trans B.hR.frame.tape,B.hF.output.trans B.hR.frame.output,Nat.le_trans B.hR.frame.size ej,fun b hb ho=>?_,fun b j hb ho=>?_,fun b hb=>?_⟩
 ·obtain⟨h1,h2⟩:=B.hR.frame.keep b hb ho
  have bh:b<w.heap.size:=Ubl hb B.hR.frame.size
  rcases ho with ho|ho
  ·rw[ho]at h2 ⊢
   obtain⟨h3,h4⟩:=B.frz (gd:=gd) (nr:=nr) (nb:=nb) (hs:=hs) (adn:=adn) h2 bh;exact⟨h4.trans h1,h3⟩
  ·rw[ho]at h2 ⊢
   obtain⟨h3,h4⟩:=B.oth (gd:=gd) (nr:=nr) (nb:=nb) (hs:=hs) (adn:=adn) h2 bh;exact⟨h4.trans h1,h3⟩
 ·obtain⟨h1,c0,c1,e,fr,h2,h3,h4,h5⟩:=B.hR.frame.boxes b j hb ho
  have bh:b<w.heap.size:=Ubl hb B.hR.frame.size;obtain⟨h6,h7⟩:=B.boxes (gd:=gd) (nr:=nr) (nb:=nb) (hs:=hs) (adn:=adn) h1 bh;refine⟨h6,?_⟩
  rcases h7 with h7|⟨i,cs,off,ls,d0,d1,e',fr',h8,h9,eo,fb,gq,jg,lq,mz,nn⟩
  ·exact⟨c0,c1,e,fr,h2,h7.trans h3,h4,h5⟩
  ·rw[h3]at jg
   obtain⟨rfl,rfl,rfl⟩:c1=d0/\e=e'/\fr=fr':=by
    have:=Rb5 jg
    injection this with e1 e2 e3
    exact⟨e1,e2,e3⟩
   have vf:=B.hR.rng j ls fb (by rw[<- eo];exact hb) (by rw[<- eo];exact ho);refine⟨c0,d1,e,fr,h2,lq,mz.trans h4,fun k hk=>?_⟩;rw[vf]at hk;dsimp only at hk;rw[nn k (by omega),h5 k (by rw[vf];exact hk)]
 ·simp only[gF]
  rw[if_neg (by omega),B.hF.fresh b hb];rfl
end
end Go.Proofs.YtgpamlpecmldfaaGreat.Rf
