import Derived.Test.YtgpamlpecmldfaaGreatRf5
set_option linter.all false
open Bool renaming and_eq_true → Rbu, false_eq_true → Sbb, not_eq_true' → Sbl, or_eq_true → Tbk
open List renaming getElem?_eq_some_iff → Rbw, mem_append_left → Rbx, mem_singleton → Rby, getElem?_eq_getElem → Rbz, mem_append_right → Rb0, getElem?_cons_zero → Rb2, append_assoc → Rb3, mem_cons → Rb4, getD_eq_getElem?_getD → Rb5, getElem?_append_right → Rb6, mem_cons_of_mem → Rb7, mem_of_getElem? → Sba, mem_append → Sbd, mem_cons_self → Sbe, map_cons → Sbk, length_cons → Sbm, all_eq_true → Sbp, length_map → Sbr, append_nil → Sbu, map_nil → Sbw, getElem?_map → Sbx, getElem?_drop → Sby, getElem?_cons_succ → Sb4, mem_map → Sb7, nil_append → Tba, length_nil → Tbb, mem_map_of_mem → Tbi, getElem?_set → Tb0, any_eq_false → Tb1
open Nat renaming add_assoc → Sbf, le_refl → Sbg, lt_or_ge → Sbh, zero_add → Sbo, beq_eq → Sbq, add_zero → Sbz, add_sub_cancel_left → Sb2, blt_eq → Sb5, ble_eq → Tbc, zero_le → Tb5, lt_of_lt_of_le → Ub3
open Option renaming bind_eq_some_iff → Rbt, bind_some → Rb1, map_some → Sb9, getD_some → Tbw
open Option.some renaming injEq → Rbv, inj → Sbs
open Prod.mk renaming injEq → Sbj, inj → Ubb
namespace Go.Proofs.YtgpamlpecmldfaaGreat.Rf
def LS.cnt:LS->Nat
 |.px _=>0
 |.clo _ _=>0
 |_=>1
def LS.rcnt:LS->Nat
 |.mu _=>1
 |.ow _=>1
 |_=>0
def Uai:List LS->Nat
 |[]=>0
 |s::ss=>s.cnt+Uai ss
def jG:List LS->Nat
 |[]=>0
 |s::ss=>s.rcnt+jG ss
def Ia2:List (Bool×List LS)->Nat
 |[]=>0
 |(_,ss)::ps=>Uai ss+Ia2 ps
def iQ:List (Bool×List LS)->Nat
 |[]=>0
 |(_,ss)::ps=>jG ss+iQ ps
def BS.cnt:BS->Nat
 |.ot=>0
 |_=>1
def BS.rcnt:BS->Nat
 |.ow _=>1
 |_=>0
def Yar:List (BS×BO)->Nat
 |[]=>0
 |(s,_)::ss=>s.cnt+Yar ss
def uG:List (BS×BO)->Nat
 |[]=>0
 |(s,_)::ss=>s.rcnt+uG ss
def Yas:List (Bool×List (BS×BO))->Nat
 |[]=>0
 |(_,cs)::bs=>Yar cs+Yas bs
def uH:List (Bool×List (BS×BO))->Nat
 |[]=>0
 |(_,cs)::bs=>uG cs+uH bs
section
variable (G:Gh) (w:World) (ρ:List D) (nbx:Nat)
def Yak (ok:Nat->Prop)(w:World)(v:Value)(d:D):Prop :=
 (v=.pointer none/\∃ z,d=.rows z [])\/∃ a row,v=.pointer (some a)/\d=.rows row.length [row]/\Rd ok w (.slice (some a) 1 1) (.rows row.length [row])
def Cak:List LS->List Value->Prop
 |[],vs=>vs=[]
 |c::cs,vs=>∃ u us,vs=u::us/\(match c with | .px b=>u=.pointer (some (G.bx b))/\b<nbx | _=>u.oneCell'=true)/\Cak cs us
def jS (i nr:Nat):LS->Value->Prop
 |.sc,v=>Sc v ((aJ.v i).val ρ)
 |.fz nie,v=>Rd (fun b=>G.own b=.frz) w v ((aJ.v i).val ρ)/\(nie=true->∀ z,(aJ.v i).val ρ=.rows z []->v=.slice none 0 0)
 |.mu m,v=>v=G.hdr nr/\Rp G.own w nr [] m v ((aJ.v i).val ρ)
 |.ow m,v=>v=G.hdr nr/\Rp G.own w nr [] m v ((aJ.v i).val ρ)
 |.px b,v=>v=.pointer (some (G.bx b))/\b<nbx
 |.clo f cs,v=>∃ vs,v=.func (.func f) #[] vs.toArray/\Cak G nbx cs vs
 |.rp _,v=>v.oneCell'=true/\Yak (fun b=>G.own b=.frz) w v ((aJ.v i).val ρ)
def qK:Nat->Nat->List LS->List Value->Prop
 |_,_,[],vs=>vs=[]
 |i,nr,s::ss,vs=>∃ u us,vs=u::us/\jS G w ρ nbx i nr s u/\qK (i+s.cnt) (nr+s.rcnt) ss us
def kN:Nat->Nat->List (Bool×List LS)->List Value->Prop
 |_,_,[],us=>us=[]
 |i,nr,(a,ss)::ps,us=>∃ u ee vs,us=u::ee/\qK G w ρ nbx i nr ss vs/\(if a=true then u=.agg vs.toArray else vs=[u])/\kN (i+Uai ss) (nr+jG ss) ps ee
def vP (i nr:Nat):BS->Value->Prop
 |.sc,v=>Sc v ((aJ.v i).val ρ)
 |.fz nie,v=>Rd (fun b=>G.own b=.frz) w v ((aJ.v i).val ρ)/\(nie=true->∀ z,(aJ.v i).val ρ=.rows z []->v=.slice none 0 0)
 |.ow m,v=>v=G.hdr nr/\Rp G.own w nr [] m v ((aJ.v i).val ρ)
 |.ot,v=>v.oneCell'=true
def Eam (ad:Addr):Nat->Nat->Nat->List (BS×BO)->Prop
 |_,_,_,[]=>True
 |off,i,nr,(s,_)::ss=>(∃ v,w.cell? (ad.add off)=some v/\w.frozen? (ad.add off)=false/\vP G w ρ i nr s v)/\Eam ad (off+1) (i+s.cnt) (nr+s.rcnt) ss
def Ean:Nat->Nat->Nat->List (Bool×List (BS×BO))->Prop
 |_,_,_,[]=>True
 |b,i,nr,(ro,cs)::bs=>(G.bx b).spot=none/\G.own (G.bx b).block=(if ro=true then .oth else .box b)/\Eam G w ρ (G.bx b) 0 i nr cs/\Ean (b+1) (i+Yar cs) (nr+uG cs) bs
end
structure Cbh (s:Sig) (vals:List Value) (w:World) (G:Gh) (ds:List D):Prop where
 params:kN G w ds s.boxes.length 0 0 s.params vals
 boxes:Ean G w ds 0 (Ia2 s.params) (iQ s.params) s.boxes
 len:ds.length=Ia2 s.params+Yas s.boxes
 fresh:∀ b,w.heap.size<=b->G.own b=.frz
 cells:∀ b j,b<w.heap.size->G.own b=.box j->j<s.boxes.length/\∃ c e fr,w.heap[b]?=some (.cells c e fr)
def Faz (s:Sig)(G:Gh):List Value:=(dY 0 (s.params.flatMap (·.2))).map G.hdr++(range 0 s.boxes.length).map fun b=>Value.pointer (some (G.bx b))
def pE (s:Sig)(G:Gh)(w:World):bE :=
 ⟨w,G.own,fun j=>(Faz s G).getD j undef,fun b=>((G.bx b).off,(G.bx b).off+(s.boxes.getD b (true,[])).2.length)⟩
theorem Naz {i nr:Nat}(s:LS):∃ l u,gY i nr s=(l,u,i+s.cnt,nr+s.rcnt)/\∀ k c,(k,c)∈u->∃ m,s.rcnt=1/\k=kR nr/\c=.root (.v i) m 0 .live/\(s=.mu m\/s=.ow m)/\l=.ex nr:=by
 cases s with
 | mu m =>
  refine⟨_,_,rfl,fun k c h=>?_⟩;simp only[Rby,Sbj]at h;exact⟨m,rfl,h.1,h.2,.inl rfl,rfl⟩
 | ow m =>
  refine⟨_,_,rfl,fun k c h=>?_⟩;simp only[Rby,Sbj]at h;exact⟨m,rfl,h.1,h.2,.inr rfl,rfl⟩
 |_=>exact⟨_,_,rfl,by simp⟩
section
variable {G:Gh} {w:World} {ρ:List D} {nbx:Nat} {σ:Nat->Option aP}
theorem Dam (gw:∀ b,b<nbx->(σ (kB b)).isSome):∀ {cs:List LS} {vs:List Value},Cak G nbx cs vs->aG σ ρ G w (cs.map fun c=>match c with|.px b=>.px b 0|_=>.dead) vs
 |[],vs,h=>by simpa[Cak,aG] using h
 | c :: cs, vs, h => by
  obtain⟨u,us,rfl,h1,h2⟩:=h;simp only[Sbk,aG];refine⟨u,us,rfl,?_,Dam gw h2⟩
  cases c with
  | px b =>
   simp only[aB];exact⟨by rw[h1.1];rfl,gw b h1.2⟩
  |_=>simp only[aB];exact h1
def kS (σ:Nat->Option aP)(G:Gh)(w:World)(ρ:List D)(u:List (Nat×aP)):Prop:=∀ k c,(k,c)∈u->∃ r m i,k=kR r/\c=.root (.v i) m 0 .live/\Rp G.own w r [] m (G.hdr r) ((aJ.v i).val ρ)
theorem Pa1 (gw:∀ b,b<nbx->(σ (kB b)).isSome){i nr:Nat}{s:LS}{v:Value}(h:jS G w ρ nbx i nr s v)(oq:s.rcnt=1->(σ (kR nr)).isSome) :
  aB σ ρ G w (gY i nr s).1 v/\kS σ G w ρ (gY i nr s).2.1:=by
 cases s with
 |sc=>exact⟨by simpa[gY,aB,jS] using h,by simp[kS,gY]⟩
 | fz nie =>
  refine⟨?_,by simp[kS,gY]⟩;simp only[jS]at h;simp only[gY,aB];exact⟨⟨h.1.one,by simp⟩,fun _=>⟨h.1.mono fun b hb=>⟨.inl hb,rfl⟩,h.2,trivial⟩⟩
 | mu m =>
  simp only[jS]at h;refine⟨?_,?_⟩
  ·simp only[gY,aB]
   exact⟨h.1,oq rfl,h.2.one⟩
  ·intro k c hc
   simp only[gY,Rby,Sbj]at hc;exact⟨nr,m,i,hc.1,hc.2,by rw[<- h.1];exact h.2⟩
 | ow m =>
  simp only[jS]at h;refine⟨?_,?_⟩
  ·simp only[gY,aB]
   exact⟨h.1,oq rfl,h.2.one⟩
  ·intro k c hc
   simp only[gY,Rby,Sbj]at hc;exact⟨nr,m,i,hc.1,hc.2,by rw[<- h.1];exact h.2⟩
 | px b =>
  refine⟨?_,by simp[kS,gY]⟩;simp only[jS]at h;simp only[gY,aB];exact⟨by rw[h.1];rfl,gw b h.2⟩
 | clo f cs =>
  refine⟨?_,by simp[kS,gY]⟩;simp only[jS]at h;obtain⟨vs,h1,h2⟩:=h;simp only[gY,aB];exact⟨vs,h1,Dam gw h2⟩
 | rp z =>
  refine⟨?_,by simp[kS,gY]⟩;simp only[jS]at h;simp only[gY,aB];refine⟨⟨h.1,by simp⟩,fun _=>?_⟩
  rcases h.2 with h1|⟨a,row,h1,h2,h3⟩
  ·exact .inl h1
  ·exact .inr ⟨a,row,h1,h2,h3.mono fun b hb=>⟨.inl hb,rfl⟩⟩
theorem kS.append {u v:List (Nat×aP)}(h:kS σ G w ρ u)(h':kS σ G w ρ v):kS σ G w ρ (u++v):=fun k c hc=>(Sbd.1 hc).elim (h k c) (h' k c)
theorem yG:∀ (ss:List LS) (i nr:Nat),(dL i nr ss).2.2=(i+Uai ss,nr+jG ss)/\(dL i nr ss).1.length=ss.length/\∀ r,nr<=r->r<nr+jG ss->∃ c,(kR r,c)∈(dL i nr ss).2.1
 |[],i,nr=>⟨rfl,rfl,fun r h1 h2=>by simp only[jG]at h2;omega⟩
 | s :: ss, i, nr => by
  obtain⟨l,u,h1,h2⟩:=Naz (i:=i) (nr:=nr) s;obtain⟨h3,h4,h5⟩:=yG ss (i+s.cnt) (nr+s.rcnt);simp only[dL,h1];refine⟨h3.trans (by simp only[Uai,jG,Sbf]),by simp[h4],fun r pb q9=>?_⟩;simp only[jG]at q9
  rcases Sbh r (nr+s.rcnt) with h6|h6
  ·have hs:s.rcnt=1:=by cases s<;>simp[LS.rcnt]at h6 ⊢<;>omega
   have:r=nr:=by omega
   subst this;cases s<;>simp[LS.rcnt]at hs
   all_goals
    simp only[gY,Sbj]at h1;obtain⟨-,rfl,-⟩:=h1;exact⟨_,Rbx _ (Rby.2 rfl)⟩
  ·obtain⟨c,hc⟩:=h5 r h6 (by omega)
   exact⟨c,Rb0 _ hc⟩
theorem Aaz (gw:∀ b,b<nbx->(σ (kB b)).isSome):∀ {ss:List LS} {i nr:Nat} {vs:List Value},qK G w ρ nbx i nr ss vs->(∀ r,nr<=r->r<nr+jG ss->(σ (kR r)).isSome) ->
  aG σ ρ G w (dL i nr ss).1 vs/\kS σ G w ρ (dL i nr ss).2.1
 |[],i,nr,vs,h,_=>⟨by simpa[qK,dL,aG] using h,by simp[kS,dL]⟩
 | s :: ss, i, nr, vs, h, hr => by
  obtain⟨u,us,rfl,h1,h2⟩:=h;obtain⟨l,up,h3,h4⟩:=Naz (i:=i) (nr:=nr) s;obtain⟨h5,h6⟩:=Pa1 gw h1 fun e=>hr nr (Sbg _) (by simp only[jG];omega)
  obtain⟨h7,h8⟩:=Aaz gw h2 fun r pb q9=>hr r (by omega) (by simp only[jG];omega)
  simp only[dL,h3]at h5 h6 ⊢;exact⟨by simp only[aG];exact⟨u,us,rfl,h5,h7⟩,h6.append h8⟩
theorem sD:∀ (ps:List (Bool×List LS)) (t i nr:Nat),(iW t i nr ps).2=(i+Ia2 ps,nr+iQ ps)/\∀ r,nr<=r->r<nr+iQ ps->∃ c,(kR r,c)∈(iW t i nr ps).1
 |[],t,i,nr=>⟨rfl,fun r h1 h2=>by simp only[iQ]at h2;omega⟩
 | (a, ss) :: ps, t, i, nr => by
  obtain⟨h1,-,h2⟩:=yG ss i nr;obtain⟨h3,h4⟩:=sD ps (t+1) (i+Uai ss) (nr+jG ss);have e:dL i nr ss=((dL i nr ss).1,(dL i nr ss).2.1,i+Uai ss,nr+jG ss):=by rw[<- h1]
  simp only[iW];rw[e];dsimp only;refine⟨h3.trans (by simp only[Ia2,iQ,Sbf]),fun r pb q9=>?_⟩;simp only[iQ]at q9
  rcases Sbh r (nr+jG ss) with h6|h6
  ·obtain⟨c,hc⟩:=h2 r pb h6
   exact⟨c,Rb7 _ (Rbx _ hc)⟩
  ·obtain⟨c,hc⟩:=h4 r h6 (by omega)
   exact⟨c,Rb7 _ (Rb0 _ hc)⟩
def Ibd (σ:Nat->Option aP)(G:Gh)(w:World)(ρ:List D)(val:Nat->Option Value)(u:List (Nat×aP)):Prop :=
 ∀ k c,(k,c)∈u->(∃ t v sv,k=kT t/\c=.slot none sv/\val t=some v/\bV σ ρ G w sv v)\/(∃ r m i,k=kR r/\c=.root (.v i) m 0 .live/\Rp G.own w r [] m (G.hdr r) ((aJ.v i).val ρ))
theorem Aay (gw:∀ b,b<nbx->(σ (kB b)).isSome):∀ {ps:List (Bool×List LS)} {t i nr:Nat} {us:List Value},kN G w ρ nbx i nr ps us->(∀ r,nr<=r->r<nr+iQ ps->(σ (kR r)).isSome) ->
  us.length=ps.length/\Ibd σ G w ρ (fun j=>if t<=j then us[j-t]? else none) (iW t i nr ps).1
 | [], t, i, nr, us, h, _ => by
  simp only[kN]at h;subst h;exact⟨rfl,by simp[Ibd,iW]⟩
 | (a, ss) :: ps, t, i, nr, us, h, hr => by
  obtain⟨u,ee,vs,rfl,h1,h2,h3⟩:=h;obtain⟨h4,h5,-⟩:=yG ss i nr;obtain⟨h6,h7⟩:=Aaz gw h1 fun r pb q9=>hr r pb (by simp only[iQ];omega)
  obtain⟨h8,h9⟩:=Aay gw (t:=t+1) h3 fun r pb q9=>hr r (by omega) (by simp only[iQ];omega)
  have e:dL i nr ss=((dL i nr ss).1,(dL i nr ss).2.1,i+Uai ss,nr+jG ss):=by rw[<- h4]
  simp only[iW];rw[e];dsimp only;refine⟨by simp[h8],fun k c hc=>?_⟩
  rcases Rb4.1 hc with hc|hc
  ·obtain⟨rfl,rfl⟩:=Ubb hc
   refine .inl ⟨t,u,_,rfl,rfl,by simp,?_⟩
   cases iq:Qaz a (dL i nr ss).1 with
   |none=>trivial
   |some sv=>exact qP iq h6 h2
  ·rcases Sbd.1 hc with hc|hc
   ·exact .inr (h7 k c hc)
   ·rcases h9 k c hc with ⟨t',v,sv,e1,e2,e3,e4⟩|du
    ·refine .inl ⟨t',v,sv,e1,e2,?_,e4⟩
     dsimp only at e3 ⊢;split at e3
     ·rename_i hle
      rw[if_pos (by omega)];rw[show t'-t=(t'-(t+1))+1 by omega];exact e3
     ·cases e3
    ·exact .inr du
theorem Pa2 {i nr:Nat}{s:BS}{v:Value}(h:vP G w ρ i nr s v)(oq:s.rcnt=1->(σ (kR nr)).isSome) :
  aB σ ρ G w (fV i nr s).1 v/\kS σ G w ρ (fV i nr s).2.1/\(fV i nr s).2.2=(i+s.cnt,nr+s.rcnt)/\(s.rcnt=1->∃ c,(kR nr,c)∈(fV i nr s).2.1):=by
 cases s with
 |sc=>exact⟨by simpa[fV,aB,vP] using h,by simp[kS,fV],rfl,fun e=>by cases e⟩
 | fz nie =>
  refine⟨?_,by simp[kS,fV],rfl,fun e=>by cases e⟩;simp only[vP]at h;simp only[fV,aB];exact⟨⟨h.1.one,by simp⟩,fun _=>⟨h.1.mono fun b hb=>⟨.inl hb,rfl⟩,h.2,trivial⟩⟩
 | ow m =>
  simp only[vP]at h;refine⟨?_,?_,rfl,fun _=>⟨_,Rby.2 rfl⟩⟩
  ·simp only[fV,aB]
   exact⟨h.1,oq rfl,h.2.one⟩
  ·intro k c hc
   simp only[fV,Rby,Sbj]at hc;exact⟨nr,m,i,hc.1,hc.2,by rw[<- h.1];exact h.2⟩
 |ot=>exact⟨by simpa[fV,aB,vP] using h,by simp[kS,fV],rfl,fun e=>by cases e⟩
theorem Xaj {i nr:Nat}(s:BS):(fV i nr s).2.2=(i+s.cnt,nr+s.rcnt)/\(s.rcnt=1->∃ c,(kR nr,c)∈(fV i nr s).2.1):=by
 cases s<;>refine⟨rfl,fun e=>?_⟩<;>first|cases e|skip
 exact⟨_,Rby.2 rfl⟩
theorem Ba8:∀ (ss:List (BS×BO)) (i nr:Nat),(fT i nr ss).2.2=(i+Yar ss,nr+uG ss)/\(fT i nr ss).1.length=ss.length/\∀ r,nr<=r->r<nr+uG ss->∃ c,(kR r,c)∈(fT i nr ss).2.1
 |[],i,nr=>⟨rfl,rfl,fun r h1 h2=>by simp only[uG]at h2;omega⟩
 | (s, o) :: ss, i, nr => by
  obtain⟨h1,h2⟩:=Xaj (i:=i) (nr:=nr) s;obtain⟨h3,h4,h5⟩:=Ba8 ss (i+s.cnt) (nr+s.rcnt);have e:fV i nr s=((fV i nr s).1,(fV i nr s).2.1,i+s.cnt,nr+s.rcnt):=by rw[<- h1]
  simp only[fT];rw[e];dsimp only;refine⟨h3.trans (by simp only[Yar,uG,Sbf]),by simp[h4],fun r pb q9=>?_⟩;simp only[uG]at q9
  rcases Sbh r (nr+s.rcnt) with h6|h6
  ·have hs:s.rcnt=1:=by cases s<;>simp[BS.rcnt]at h6 ⊢<;>omega
   have:r=nr:=by omega
   subst this;obtain⟨c,hc⟩:=h2 hs;exact⟨c,Rbx _ hc⟩
  ·obtain⟨c,hc⟩:=h5 r h6 (by omega)
   exact⟨c,Rb0 _ hc⟩
theorem Dag {ad:Addr}:∀ {ss:List (BS×BO)} {off i nr:Nat},Eam G w ρ ad off i nr ss->(∀ r,nr<=r->r<nr+uG ss->(σ (kR r)).isSome) ->
  (∀ j l,(fT i nr ss).1[j]?=some l->∃ v,w.cell? (ad.add (off+j))=some v/\w.frozen? (ad.add (off+j))=false/\aB σ ρ G w l v)/\kS σ G w ρ (fT i nr ss).2.1
 |[],off,i,nr,_,_=>⟨by simp[fT],by simp[kS,fT]⟩
 | (s, o) :: ss, off, i, nr, h, hr => by
  obtain⟨⟨v,h1,h2,h3⟩,h4⟩:=h;obtain⟨h5,h6,h7,-⟩:=Pa2 h3 fun e=>hr nr (Sbg _) (by simp only[uG];omega)
  obtain⟨h8,h9⟩:=Dag h4 fun r pb q9=>hr r (by omega) (by simp only[uG];omega)
  have e:fV i nr s=((fV i nr s).1,(fV i nr s).2.1,i+s.cnt,nr+s.rcnt):=by rw[<- h7]
  simp only[fT];rw[e];dsimp only;refine⟨fun j l hj=>?_,h6.append h9⟩
  cases j with
  | zero =>
   simp only[Rb2,Rbv]at hj;subst hj;exact⟨v,h1,h2,h5⟩
  | succ j =>
   obtain⟨v',du,eC,gi⟩:=h8 j l (by simpa using hj);rw[show off+(j+1)=off+1+j by omega];exact⟨v',du,eC,gi⟩
def Ibr (σ:Nat->Option aP)(G:Gh)(w:World)(ρ:List D)(bs:Nat->Option (Bool×List (BS×BO)))(u:List (Nat×aP)):Prop :=
 ∀ k c,(k,c)∈u->(∃ b ro ls cs,k=kB b/\c=.box ro ls/\bs b=some (ro,cs)/\ls.length=cs.length/\Jad σ ρ G w b ro ls)\/(∃ r m i,k=kR r/\c=.root (.v i) m 0 .live/\Rp G.own w r [] m (G.hdr r) ((aJ.v i).val ρ))
theorem wM:∀ (bs:List (Bool×List (BS×BO))) (b i nr:Nat),(jN b i nr bs).2=(i+Yas bs,nr+uH bs)/\(∀ r,nr<=r->r<nr+uH bs->∃ c,(kR r,c)∈(jN b i nr bs).1)/\∀ j,b<=j->j<b+bs.length->∃ c,(kB j,c)∈(jN b i nr bs).1
 |[],b,i,nr=>⟨rfl,fun r h1 h2=>by simp only[uH]at h2;omega,fun j h1 h2=>by simp only[Tbb]at h2;omega⟩
 | (ro, cs) :: bs, b, i, nr => by
  obtain⟨h1,-,h2⟩:=Ba8 cs i nr;obtain⟨h3,h4,h5⟩:=wM bs (b+1) (i+Yar cs) (nr+uG cs);have e:fT i nr cs=((fT i nr cs).1,(fT i nr cs).2.1,i+Yar cs,nr+uG cs):=by rw[<- h1]
  simp only[jN];rw[e];dsimp only;refine⟨h3.trans (by simp only[Yas,uH,Sbf]),fun r pb q9=>?_,fun j hj1 lR=>?_⟩
  ·simp only[uH]at q9
   rcases Sbh r (nr+uG cs) with h6|h6
   ·obtain⟨c,hc⟩:=h2 r pb h6
    exact⟨c,Rb7 _ (Rbx _ hc)⟩
   ·obtain⟨c,hc⟩:=h4 r h6 (by omega)
    exact⟨c,Rb7 _ (Rb0 _ hc)⟩
  ·simp only[Sbm]at lR
   rcases Sbh j (b+1) with h6|h6
   ·obtain rfl:j=b:=by omega
    exact⟨_,Sbe⟩
   ·obtain⟨c,hc⟩:=h5 j h6 (by omega)
    exact⟨c,Rb7 _ (Rb0 _ hc)⟩
theorem Dah:∀ {bs:List (Bool×List (BS×BO))} {b i nr:Nat},Ean G w ρ b i nr bs->(∀ r,nr<=r->r<nr+uH bs->(σ (kR r)).isSome) ->
  Ibr σ G w ρ (fun j=>if b<=j then bs[j-b]? else none) (jN b i nr bs).1
 |[],b,i,nr,_,_=>by simp[Ibr,jN]
 | (ro, cs) :: bs, b, i, nr, h, hr => by
  obtain⟨h1,h2,h3,h4⟩:=h;obtain⟨h5,h6,-⟩:=Ba8 cs i nr;obtain⟨h7,h8⟩:=Dag h3 fun r pb q9=>hr r pb (by simp only[uH];omega)
  have h9:=Dah (b:=b+1) h4 fun r pb q9=>hr r (by omega) (by simp only[uH];omega)
  have e:fT i nr cs=((fT i nr cs).1,(fT i nr cs).2.1,i+Yar cs,nr+uG cs):=by rw[<- h5]
  simp only[jN];rw[e];dsimp only;intro k c hc
  rcases Rb4.1 hc with hc|hc
  ·obtain⟨rfl,rfl⟩:=Ubb hc
   refine .inl ⟨b,ro,_,cs,rfl,rfl,by simp,h6,h1,h2,fun j l hj=>?_⟩;have:=h7 j l hj;rwa[Sbo]at this
  ·rcases Sbd.1 hc with hc|hc
   ·exact .inr (h8 k c hc)
   ·rcases h9 k c hc with ⟨j,l8,ls,oo,e1,e2,e3,e4⟩|du
    ·refine .inl ⟨j,l8,ls,oo,e1,e2,?_,e4⟩
     dsimp only at e3 ⊢;split at e3
     ·rename_i hle
      rw[if_pos (by omega),show j-b=(j-(b+1))+1 by omega];exact e3
     ·cases e3
    ·exact .inr du
end
theorem wF:∀ (ss:List LS) (r:Nat),∀ q∈dY r ss,r<=q/\q<r+jG ss
 |[],r,q,h=>by simp[dY]at h
 | s :: ss, r, q, h => by
  cases s with
  | mu m =>
   simp only[dY,Rb4]at h;simp only[jG,LS.rcnt]
   rcases h with rfl|h
   ·omega
   ·have:=wF ss (r+1) q h;omega
  | ow m =>
   simp only[dY]at h;simp only[jG,LS.rcnt];have:=wF ss (r+1) q h;omega
  | _ =>
   simp only[dY]at h;simp only[jG,LS.rcnt];have:=wF ss r q h;omega
theorem Caz:∀ (a b:List LS),jG (a++b)=jG a+jG b
 |[],b=>by simp[jG]
 |s::a,b=>by simp only[List.cons_append,jG,Caz a b,Sbf]
theorem Iak:∀ (ps:List (Bool×List LS)),jG (ps.flatMap (·.2))=iQ ps
 |[]=>rfl
 |(a,ss)::ps=>by simp only[List.flatMap_cons,Caz,iQ,Iak ps]
theorem sF:∀ (ls:List aO) (t k:Nat) (c:aP),(k,c)∈qE t ls->∃ j l,ls[j]?=some l/\k=kT (t+j)/\c=.slot none (.one l)
 |[],t,k,c,h=>by simp[qE]at h
 | l :: ls, t, k, c, h => by
  simp only[qE,Rb4,Sbj]at h
  rcases h with ⟨rfl,rfl⟩|h
  ·exact⟨0,l,rfl,rfl,rfl⟩
  ·obtain⟨j,l',h1,rfl,rfl⟩:=sF ls (t+1) k c h
   exact⟨j+1,l',by simpa using h1,by rw[show t+(j+1)=t+1+j by omega],rfl⟩
theorem Tau {s:Sig}{G:Gh}{j:Nat}{l:aO}(h:(Nai s)[j]?=some l) :
  (∃ r,(dY 0 (s.params.flatMap (·.2)))[j]?=some r/\l=.ex r/\(Faz s G).getD j undef=G.hdr r)\/(∃ b,b<s.boxes.length/\l=.px b 0/\(Faz s G).getD j undef=.pointer (some (G.bx b))):=by
 unfold Nai at h;unfold Faz;rw[Rb5]
 rcases Sbh j (dY 0 (s.params.flatMap (·.2))).length with h1|h1
 ·rw[List.getElem?_append_left (by simpa using h1)]at h ⊢
  rw[Sbx]at h ⊢;rw[Rbz h1]at h ⊢;simp only[Sb9,Rbv]at h;exact .inl ⟨_,rfl,h.symm,rfl⟩
 ·rw[Rb6 (by simpa using h1)]at h ⊢
  simp only[Sbr]at h ⊢;rw[Sbx]at h ⊢
  cases hb:(range 0 s.boxes.length)[j-(dY 0 (s.params.flatMap (·.2))).length]? with
  |none=>rw[hb]at h;cases h
  | some b =>
   rw[hb]at h;simp only[Sb9,Rbv]at h;have:=mem_range.1 (Sba hb);exact .inr ⟨b,by omega,h.symm,rfl⟩
def Bbk (s:Sig)(n:Nat):List (Nat×aP) :=
 (iW 0 0 0 s.params).1++(jN 0 (Ia2 s.params) (iQ s.params) s.boxes).1++qE n (Nai s)
theorem entry_eq (s:Sig)(n:Nat):entry s n=St.puts ⟨.nil,Ia2 s.params+Yas s.boxes,s.boxes.length,iQ s.params+uH s.boxes,n+lT s⟩ (Bbk s n):=by
 have h1:=(sD s.params 0 0 0).1;have h2:=(wM s.boxes 0 (Ia2 s.params) (iQ s.params)).1;rw[Sbo,Sbo]at h1;have e:iW 0 0 0 s.params=((iW 0 0 0 s.params).1,Ia2 s.params,iQ s.params):=by rw[<- h1]
 have e2:jN 0 (Ia2 s.params) (iQ s.params) s.boxes=((jN 0 (Ia2 s.params) (iQ s.params) s.boxes).1,Ia2 s.params+Yas s.boxes,iQ s.params+uH s.boxes):=by rw[<- h2]
 unfold entry Bbk;rw[e];dsimp only;rw[e2]
theorem Ba7 (s:Sig)(n:Nat):(entry s n).nv=Ia2 s.params+Yas s.boxes/\(entry s n).nb=s.boxes.length/\(entry s n).nr=iQ s.params+uH s.boxes/\(entry s n).nt=n+lT s:=by
 rw[entry_eq];obtain⟨h1,h2,h3,h4⟩:=iC (Bbk s n) ⟨.nil,Ia2 s.params+Yas s.boxes,s.boxes.length,iQ s.params+uH s.boxes,n+lT s⟩;exact⟨h1,h2,h3,h4⟩
theorem Nax (s:Sig)(n:Nat)(k:Nat):(entry s n).get k=bif tL (n+lT s) s.boxes.length (iQ s.params+uH s.boxes) k then upds (fun _=>none) (Bbk s n) k else none:=by
 obtain⟨h1,h2,h3,h4⟩:=Ba7 s n;unfold St.get;rw[h2,h3,h4]
 have:(entry s n).tr.get k=upds (fun _=>none) (Bbk s n) k:=by
  rw[entry_eq,Ja3];exact pJ _ _ _ _ rfl
 rw[this]
theorem Naw {s:Sig}{n k:Nat}{c:aP}(h:(entry s n).get k=some c):(k,c)∈Bbk s n:=by
 rw[Nax]at h
 revert h
 cases tL (n+lT s) s.boxes.length (iQ s.params+uH s.boxes) k with
 |false=>intro h;cases h
 | true =>
  intro h
  rcases nW _ _ _ _ h with h1|⟨-,h1⟩
  ·exact h1
  ·cases h1
theorem Iaz {s:Sig}{n k:Nat}(hb:tL (n+lT s) s.boxes.length (iQ s.params+uH s.boxes) k=true)(h:∃ c,(k,c)∈Bbk s n):((entry s n).get k).isSome:=by
 rw[Nax,hb,cond_true];exact dP _ _ _ (.inr h)
theorem Ab4 {nt nb nr b:Nat}(h:b<nb):tL nt nb nr (kB b)=true:=by
 unfold tL;rw[Ma8];have:kB b / 3=b:=by unfold kB;omega
 rw[this];simpa using h
theorem Ta2 (s:Sig)(n r:Nat)(h:r<iQ s.params+uH s.boxes):((entry s n).get (kR r)).isSome:=by
 refine Iaz (Ma6 h) ?_
 rcases Sbh r (iQ s.params) with h1|h1
 ·obtain⟨c,hc⟩:=(sD s.params 0 0 0).2 r (Tb5 _) (by omega)
  exact⟨c,Rbx _ (Rbx _ hc)⟩
 ·obtain⟨c,hc⟩:=(wM s.boxes 0 (Ia2 s.params) (iQ s.params)).2.1 r h1 h
  exact⟨c,Rbx _ (Rb0 _ hc)⟩
theorem Xai (s:Sig)(n b:Nat)(h:b<s.boxes.length):((entry s n).get (kB b)).isSome:=by
 refine Iaz (Ab4 h) ?_;obtain⟨c,hc⟩:=(wM s.boxes 0 (Ia2 s.params) (iQ s.params)).2.2 b (Tb5 _) (by omega);exact⟨c,Rbx _ (Rb0 _ hc)⟩
theorem Ebt {s:Sig}{vals:List Value}{w:World}{G:Gh}{ds:List D}{n:Nat}(h:Cbh s vals w G ds)(hn:s.params.length<=n) :
  vals.length=s.params.length/\R n (pE s G w) (entry s n).get ds ⟨vals.toArray++Array.replicate (n-vals.length) undef,[]⟩ w G:=by
 have gw:∀ b,b<s.boxes.length->((entry s n).get (kB b)).isSome:=fun b hb=>Xai s n b hb
 have oq:=Ta2 s n;obtain⟨hlen,oc⟩:=Aay (σ:=(entry s n).get) gw (t:=0) h.params fun r _ hr=>oq r (by omega)
 have pB:=Dah (σ:=(entry s n).get) h.boxes fun r _ hr=>oq r hr
 have fx:∀ r,r<iQ s.params->(G.hdr r).oneCell'=true:=by
  intro r hr;obtain⟨c,hc⟩:=(sD s.params 0 0 0).2 r (Tb5 _) (by omega)
  rcases oc _ c hc with ⟨t,v,sv,e,-⟩|⟨r',m,i,e,-,fX⟩
  ·exact absurd e.symm gW
  ·obtain rfl:=eF e
   exact fX.one
 have eM:∀ t v,vals[t]?=some v->yP n ⟨vals.toArray++Array.replicate (n-vals.length) undef,[]⟩ (pE s G w).gh t=v:=by
  intro t v hv;have aw:=(Rbw.1 hv).1;unfold yP;rw[if_pos (by omega)];simp only[Array.getD_eq_getD_getElem?];rw[Array.getElem?_append_left (by simpa using aw)];simp[hv]
 refine⟨hlen,?_,rfl,fun k c hk=>?_,?_,fun b ls hk hb ho=>?_⟩
 ·simp;omega
 ·have hm:=Naw hk
  unfold Bbk at hm
  rcases Sbd.1 hm with hm|hm
  ·rcases Sbd.1 hm with hm|hm
   ·rcases oc k c hm with ⟨t,v,sv,rfl,rfl,hv,iq⟩|⟨r,m,i,rfl,rfl,fX⟩
    ·refine⟨t,rfl,fun _=>?_⟩
     simp only[Tb5,if_true,Nat.sub_zero]at hv;rw[eM t v hv];exact iq
    ·exact⟨r,rfl,by rw[hk];rfl,fX⟩
   ·rcases pB k c hm with ⟨b,ro,ls,cs,rfl,rfl,-,-,hbr⟩|⟨r,m,i,rfl,rfl,fX⟩
    ·exact⟨b,rfl,hbr⟩
    ·exact⟨r,rfl,by rw[hk];rfl,fX⟩
  ·obtain⟨j,l,hj,rfl,rfl⟩:=sF _ _ _ _ hm
   refine⟨n+j,rfl,fun _=>?_⟩
   have e:yP n ⟨vals.toArray++Array.replicate (n-vals.length) undef,[]⟩ (pE s G w).gh (n+j)=(Faz s G).getD j undef:=by
    unfold yP;rw[if_neg (by omega),Sb2];rfl
   rw[e];simp only[bV]
   rcases Tau (G:=G) hj with ⟨r,h1,rfl,h2⟩|⟨b,h1,rfl,h2⟩
   ·have hr:=wF _ _ r (Sba h1)
    rw[Iak]at hr;simp only[aB];rw[h2];exact⟨rfl,oq r (by omega),fx r (by omega)⟩
   ·simp only[aB]
    rw[h2];exact⟨rfl,gw b h1⟩
 ·exact⟨rfl,rfl,rfl,Sbg _,fun b hb ho=>⟨rfl,rfl⟩,fun b j hb ho=>⟨ho,by
   obtain⟨-,c,e,fr,hc⟩:=h.cells b j hb ho;exact⟨c,c,e,fr,hc,hc,rfl,fun _ _=>rfl⟩⟩,h.fresh⟩
 ·have hm:=Naw hk
  unfold Bbk at hm
  rcases Sbd.1 hm with hm|hm
  ·rcases Sbd.1 hm with hm|hm
   ·rcases oc _ _ hm with ⟨t,v,sv,e,-⟩|⟨r,m,i,e,-⟩
    ·exact absurd e.symm kK
    ·exact absurd e eO
   ·rcases pB _ _ hm with ⟨b',ro,kt,cs,e,e2,e3,e4,hbr⟩|⟨r,m,i,e,-⟩
    ·obtain rfl:=Aak e
     injection e2 with e5 e6
     subst e5 e6;simp only[Tb5,if_true,Nat.sub_zero]at e3;simp only[pE,Rb5,e3,Tbw];rw[e4]
    ·exact absurd e eO
  ·obtain⟨j,r,hj,e,-⟩:=sF _ _ _ _ hm
   exact absurd e.symm kK
theorem Xah {s:Sig}{n fk:Nat}(h:Eap (entry s n) fk ((range 0 (entry s n).nt).map kT++(range 0 (entry s n).nb).map kB++(range 0 (entry s n).nr).map kR)=true){E:Env}(hE:E.ntmps=n):Bag E (entry s n):=by
 refine⟨by rw[(Ba7 s n).2.2.2,hE];omega,fun k c hk=>?_⟩
 have hm:k∈(range 0 (entry s n).nt).map kT++(range 0 (entry s n).nb).map kB++(range 0 (entry s n).nr).map kR:=by
  rcases yE hk with ⟨t,rfl,ht⟩|⟨b,rfl,hb⟩|⟨r,rfl,hr⟩
  ·exact Rbx _ (Rbx _ (Sb7.2 ⟨t,mem_range.2 ⟨by omega,by omega⟩,rfl⟩))
  ·exact Rbx _ (Rb0 _ (Sb7.2 ⟨b,mem_range.2 ⟨by omega,by omega⟩,rfl⟩))
  ·exact Rb0 _ (Sb7.2 ⟨r,mem_range.2 ⟨by omega,by omega⟩,rfl⟩)
 have:=Bal h k hm;rw[hk]at this;exact sG this
def BO.q:BO->Nat
 |.ow _=>1
 |_=>0
def qC:List BO->Nat
 |[]=>0
 |s::ss=>s.q+qC ss
def LR.q:LR->Nat
 |.ow _=>1
 |.bx cs=>qC cs
 |_=>0
def qL:List LR->Nat
 |[]=>0
 |s::ss=>s.q+qL ss
def qR:List (Bool×List LR)->Nat
 |[]=>0
 |(_,ss)::rs=>qL ss+qR rs
section
variable (own:Nat->Ow) (w:World) (ds:List D) (nbx:Nat)
def Caj (i q:Nat):BO->Value->Prop
 |.sc,v=>Sc v (ds.getD i .undef)
 |.fz,v=>Rd (fun b=>own b=.frz) w v (ds.getD i .undef)
 |.ow m,v=>Rp own w (2*q) [] m v (ds.getD i .undef)
 |.dead,v=>v.oneCell'=true
def Bai (ad:Addr):Nat->Nat->Nat->List BO->Prop
 |_,_,_,[]=>True
 |off,i,q,s::ss=>(∃ v,w.cell? (ad.add off)=some v/\w.frozen? (ad.add off)=false/\Caj own w ds i q s v)/\Bai ad (off+1) (i+1) (q+s.q) ss
def kM (i q:Nat):LR->Value->Prop
 |.sc,v=>Sc v (ds.getD i .undef)
 |.fz,v=>Rd (fun b=>own b=.frz) w v (ds.getD i .undef)
 |.ow m,v=>Rp own w (2*q) [] m v (ds.getD i .undef)
 |.rp _,v=>v.oneCell'=true/\Yak (fun b=>own b=.frz) w v (ds.getD i .undef)
 |.bx cs,v=>∃ ad,v=.pointer (some ad)/\ad.spot=none/\own ad.block=.box nbx/\Bai own w ds ad 0 i q cs
def nU:Nat->Nat->List LR->List Value->Prop
 |_,_,[],vs=>vs=[]
 |i,q,s::ss,vs=>∃ u us,vs=u::us/\kM own w ds nbx i q s u/\nU (i+s.n) (q+s.q) ss us
def Jab:Nat->Nat->List (Bool×List LR)->List Value->Prop
 |_,_,[],us=>us=[]
 |i,q,(a,ss)::rs,us=>∃ u ee vs,us=u::ee/\nU own w ds nbx i q ss vs/\(if a=true then u=.agg vs.toArray else vs=[u])/\Jab (i+lN ss) (q+qL ss) rs ee
def Sac (gh:Nat->Value):Nat->Nat->List Nat->Prop
 |_,_,[]=>True
 |i,j,d::ms=>Rp own w (2*j+1) [] d (gh j) (ds.getD i .undef)/\Sac gh (i+1) (j+1) ms
def mR (bx:Nat->Addr):Nat->Nat->Nat->List (Bool×List (BS×BO))->Prop
 |_,_,_,[]=>True
 |b,i,q,(ro,cs)::r=>if ro=true then mR bx (b+1) i q r else Bai own w ds (bx b) 0 i q (cs.map (·.2))/\mR bx (b+1) (i+cs.length) (q+qC (cs.map (·.2))) r
end
def Cax:List Value->Value
 |[u]=>u
 |us=>.tuple us.toArray
def Qah (s:Sig)(F:bE)(bx:Nat->Addr)(v:Value)(w:World)(ds:List D):Prop :=
 ∃ G us,v=Cax us/\lC F G w/\Jab G.own w ds s.boxes.length 0 0 s.results us/\Sac G.own w ds F.gh (bI s.results) 0 (dO (s.params.flatMap (·.2))) /\
  mR G.own w ds bx 0 (bI s.results+(dO (s.params.flatMap (·.2))).length) (qR s.results) s.boxes
structure FLe (A B:Fin):Prop where
 xs:∃ l,B.xs=A.xs++l
 own:∀ z∈A.own,z∈B.own
 frz:∀ z∈A.frz,z∈B.frz
 lets:∃ l,B.lets=A.lets++l
 bxs:∀ z∈A.bxs,z∈B.bxs
theorem FLe.refl (A:Fin):FLe A A:=⟨⟨[],by simp⟩,fun _ h=>h,fun _ h=>h,⟨[],by simp⟩,fun _ h=>h⟩
theorem FLe.trans {A B C:Fin}(h:FLe A B)(h':FLe B C):FLe A C:=by
 obtain⟨⟨l,h1⟩,h2,h3,⟨m,h4⟩,h5⟩:=h;obtain⟨⟨l',u6⟩,vg,z8,⟨m',uu⟩,tE⟩:=h';exact⟨⟨l++l',by rw[u6,h1,Rb3]⟩,fun z hz=>vg z (h2 z hz),fun z hz=>z8 z (h3 z hz),⟨m++m',by rw[uu,h4,Rb3]⟩,fun z hz=>tE z (h5 z hz)⟩
structure Ual (Z:Fin) (nbx:Nat) (G G':Gh):Prop where
 frz:∀ b,G.own b=.frz->G'.own b=.frz
 own:∀ r t m,(r,t,m)∈Z.own->∀ b p,G.own b=.slc r p->G'.own b=if p.length<m then .slc t p else .frz
 fr:∀ r,r∈Z.frz->∀ b p,G.own b=.slc r p->G'.own b=.frz
 bxs:∀ β,β∈Z.bxs->∀ b,G.own b=.box β->G'.own b=.box nbx
section
variable {E:Env} {F:bE} {σ:Nat->Option aP} {ρ:List D} {a:Act} {w:World} {G G':Gh} {cf:Nat->List D->Option (List D)} {Z:Fin} {nbx nv:Nat}
theorem FLe.get {A B:Fin}(h:FLe A B){ρ:List D}{x:aJ}{l:List aJ}(hx:A.xs=l++[x]):(B.xs.map (·.val ρ)).getD l.length .undef=x.val ρ:=by
 obtain⟨m,h1⟩:=h.xs;rw[h1,hx,Rb5];simp
theorem Rp.give (hG:Ual Z nbx G G'){r t m m':Nat}(hz:(r,t,m)∈Z.own)(hm:m<=m'){v:Value}{d:D}(h:Rp G.own w r [] m' v d):Rp G'.own w t [] m v d:=by
 let own1:Nat->Ow:=fun b=>match G.own b with
  |.slc s p=>if s=r then (if p.length<m then .slc s p else .frz) else .slc s p
  |o=>o
 have h1:=h.weaken (own':=own1) (fun b hb=>by simp only[own1,hb]) m hm (fun b q hb=>by simp only[own1,hb,Tba,if_true]);have:=h1.mono (own':=G'.own) (w':=w) (q:=[]) (q':=[]) (r':=t) (fun b hb=>⟨?_,rfl⟩) [] rfl (fun b q hb=>⟨?_,rfl⟩)
 ·simpa using this
 ·simp only[own1]at hb
  split at hb
  ·rename_i s p e
   split at hb
   ·rename_i hs
    subst hs;split at hb
    ·cases hb
    ·rename_i hp
     rw[hG.own s t m hz b p e,if_neg hp]
   ·cases hb
  ·exact hG.frz b hb
 ·simp only[own1]at hb
  split at hb
  ·rename_i s p e
   split at hb
   ·rename_i hs
    subst hs;split at hb
    ·rename_i hp
     injection hb with e1 e2
     simp only[Tba]at e2 ⊢;subst e2;rw[hG.own s t m hz b p e,if_pos hp]
    ·cases hb
   ·rename_i hs
    injection hb with e1 e2
    exact absurd e1 hs
  ·rename_i vd
   exact absurd hb (vd _ _)
theorem Rd.give (hG:Ual Z nbx G G'){deps:List (Nat×Nat)}(hz:∀ z∈deps,z.1∈Z.frz){v:Value}{d:D}(h:Rd (allow G deps) w v d):Rd (fun b=>G'.own b=.frz) w v d:=by
 refine h.mono fun b hb=>⟨?_,rfl⟩
 rcases hb with hb|⟨r,k,p,hm,hb⟩
 ·exact hG.frz b hb
 ·exact hG.fr r (hz _ hm) b p hb
theorem Nao (hR:R E.ntmps F σ ρ a w G){A B:Fin}{m:Nat}{l:aO}(h:(Nap A m l).eval σ=some B)(hZ:FLe B Z)(hG:Ual Z nbx G G'){v:Value}(hl:aB σ ρ G w l v) :
  Rp G'.own w (2*A.q) [] m v ((Z.xs.map (·.val ρ)).getD A.xs.length .undef)/\FLe A B/\B.xs.length=A.xs.length+1/\B.q=A.q+1:=by
 unfold Nap at h;split at h
 ·rename_i nie z
  simp only[aC,Rbv]at h;subst h;refine⟨?_,⟨⟨_,rfl⟩,fun _ h=>h,fun _ h=>h,⟨[],by simp[Ra0]⟩,fun _ h=>h⟩,by simp[Ra0],rfl⟩;rw[hZ.get (l:=A.xs) rfl];simp only[aB]at hl;have hv:=(hl.2 (by simp)).2.1 trivial z rfl;rw[hv]
  cases m with
  |zero=>exact .fz (.rows none ⟨0,0,none⟩ 0 0 z [] (fun _ _=>undef) rfl (Sbg _) (.inl rfl) (by simp) (by simp) (by simp))
  |succ m=>exact .sl none ⟨0,0,none⟩ 0 0 z [] (fun _ _=>undef) rfl (Sbg _) (.inr ⟨rfl,rfl⟩) (by simp) (fun e=>by cases e) (by simp) (by simp)
 ·rename_i r
  simp only[aA,aS,Rb1]at h;split at h
  ·rename_i x m' b9 hk
   simp only[aA,aI,Rbt,aC,Rbv]at h;obtain⟨_,h1,rfl⟩:=h;split at h1
   case isFalse=>cases h1
   rename_i hb;simp only[Tbc]at hb;refine⟨?_,⟨⟨_,rfl⟩,fun _ h=>Rbx _ h,fun _ h=>h,⟨[],by simp[xM]⟩,fun _ h=>h⟩,by simp[xM],rfl⟩;rw[hZ.get (l:=A.xs) rfl];simp only[aB]at hl;rw[hl.1];have hr:=hR.root hk;simp only[bP]at hr;exact hr.give hG (hZ.own _ (by simp[xM])) hb
  ·cases h
 ·rename_i r k nie x
  simp only[aA,aS,Rb1]at h;split at h
  ·rename_i x' m' b9 hk
   simp only[aA,aI,Rbt,aC,Rbv]at h;obtain⟨_,h1,rfl⟩:=h;split at h1
   case isFalse=>cases h1
   rename_i hb;simp only[Rbu,Tbc,Sbq]at hb;obtain⟨hb,rfl⟩:=hb;refine⟨?_,⟨⟨_,rfl⟩,fun _ h=>Rbx _ h,fun _ h=>h,⟨[],by simp[xM]⟩,fun _ h=>h⟩,by simp[xM],rfl⟩;rw[hZ.get (l:=A.xs) rfl];simp only[aB]at hl
   have hp:=(hl.2 fun z hz=>by
    simp only[Rby]at hz;subst hz;exact⟨x',m',.live,hk,.inl rfl⟩).2.2
   exact (hp r b9 m' rfl ⟨x',hk⟩).give hG (hZ.own _ (by simp[xM])) hb
  ·cases h
 ·cases h
theorem Naq (hR:R E.ntmps F σ ρ a w G){A B:Fin}{l:aO}(h:(Nar A l).eval σ=some B)(hZ:FLe B Z)(hG:Ual Z nbx G G'){v:Value}(hl:aB σ ρ G w l v) :
  Rd (fun b=>G'.own b=.frz) w v ((Z.xs.map (·.val ρ)).getD A.xs.length .undef)/\FLe A B/\B.xs.length=A.xs.length+1/\B.q=A.q:=by
 unfold Nar at h;simp only[aA,Rbt,aC,Rbv]at h;obtain⟨s,h1,rfl⟩:=h;refine⟨?_,⟨⟨_,rfl⟩,fun _ h=>h,fun _ h=>Rbx _ h,⟨[],by simp⟩,fun _ h=>h⟩,by simp,rfl⟩;rw[hZ.get (l:=A.xs) rfl];have hs:=dN hR h1 hl;exact hs.rd.give hG fun z hz=>hZ.frz _ (Rb0 _ (Tbi hz))
theorem Pa0 (hR:R E.ntmps F σ ρ a w G){A B:Fin}{s:BO}{l:aO}(h:(Ba6 A s l).eval σ=some B)(hZ:FLe B Z)(hG:Ual Z nbx G G'){v:Value}(hl:aB σ ρ G w l v) :
  Caj G'.own w (Z.xs.map (·.val ρ)) A.xs.length A.q s v/\FLe A B/\B.xs.length=A.xs.length+1/\B.q=A.q+s.q:=by
 cases s with
 | sc =>
  cases l<;>simp only[Ba6,bN,reduceCtorEq]at h
  rename_i x;simp only[aC,Rbv]at h;subst h;refine⟨?_,⟨⟨_,rfl⟩,fun _ h=>h,fun _ h=>h,⟨[],by simp⟩,fun _ h=>h⟩,by simp,rfl⟩;simp only[Caj];rw[hZ.get (l:=A.xs) rfl];simpa[aB] using hl
 | fz =>
  have h':(Nar A l).eval σ=some B:=by cases l<;>exact h
  exact Naq hR h' hZ hG hl
 | ow m =>
  have h':(Nap A m l).eval σ=some B:=by cases l<;>exact h
  exact Nao hR h' hZ hG hl
 | dead =>
  have h':(bif Law l then RdM.ret { A with xs:=A.xs++[.c .hole] } else .no:RdM Fin).eval σ=some B:=by cases l<;>exact h
  cases hb:Law l with
  |false=>rw[hb]at h';cases h'
  | true =>
   rw[hb,cond_true]at h';simp only[aC,Rbv]at h';subst h';exact⟨hl.one hb,⟨⟨_,rfl⟩,fun _ h=>h,fun _ h=>h,⟨[],by simp⟩,fun _ h=>h⟩,by simp,rfl⟩
theorem Aaw:∀ {ss:List BO} {ls:List aO} {A B:Fin},(iM A ss ls).eval σ=some B->(∀ {A B:Fin} {s:BO} {l:aO},(Ba6 A s l).eval σ=some B->FLe A B)->FLe A B
 | [], [], A, B, h, _ => by
  simp only[iM,aC,Rbv]at h;subst h;exact .refl _
 |[],_::_,A,B,h,_=>by simp[iM,bN]at h
 |_::_,[],A,B,h,_=>by simp[iM,bN]at h
 | s :: ss, l :: ls, A, B, h, hc => by
  simp only[iM,aA,Rbt]at h;obtain⟨C,h1,h2⟩:=h;exact (hc h1).trans (Aaw h2 hc)
theorem Raz {A B:Fin}{m:Nat}{l:aO}(h:(Nap A m l).eval σ=some B):FLe A B:=by
 unfold Nap at h;split at h
 ·simp only[aC,Rbv]at h
  subst h;exact⟨⟨_,rfl⟩,fun _ h=>h,fun _ h=>h,⟨[],by simp[Ra0]⟩,fun _ h=>h⟩
 ·simp only[aA,aS,Rb1]at h
  split at h
  ·simp only[aA,aI,Rbt,aC,Rbv]at h
   obtain⟨_,-,rfl⟩:=h;exact⟨⟨_,rfl⟩,fun _ h=>Rbx _ h,fun _ h=>h,⟨[],by simp[xM]⟩,fun _ h=>h⟩
  ·cases h
 ·simp only[aA,aS,Rb1]at h
  split at h
  ·simp only[aA,aI,Rbt,aC,Rbv]at h
   obtain⟨_,-,rfl⟩:=h;exact⟨⟨_,rfl⟩,fun _ h=>Rbx _ h,fun _ h=>h,⟨[],by simp[xM]⟩,fun _ h=>h⟩
  ·cases h
 ·cases h
theorem Ra1 {A B:Fin}{l:aO}(h:(Nar A l).eval σ=some B):FLe A B:=by
 unfold Nar at h;simp only[aA,Rbt,aC,Rbv]at h;obtain⟨s,h1,rfl⟩:=h;exact⟨⟨_,rfl⟩,fun _ h=>h,fun _ h=>Rbx _ h,⟨[],by simp⟩,fun _ h=>h⟩
theorem Ta0 {A B:Fin}{s:BO}{l:aO}(h:(Ba6 A s l).eval σ=some B):FLe A B:=by
 cases s with
 | sc =>
  cases l<;>simp only[Ba6,bN,reduceCtorEq]at h
  simp only[aC,Rbv]at h;subst h;exact⟨⟨_,rfl⟩,fun _ h=>h,fun _ h=>h,⟨[],by simp⟩,fun _ h=>h⟩
 | fz =>
  have h':(Nar A l).eval σ=some B:=by cases l<;>exact h
  exact Ra1 h'
 | ow m =>
  have h':(Nap A m l).eval σ=some B:=by cases l<;>exact h
  exact Raz h'
 | dead =>
  have h':(bif Law l then RdM.ret { A with xs:=A.xs++[.c .hole] } else .no:RdM Fin).eval σ=some B:=by cases l<;>exact h
  cases hb:Law l with
  |false=>rw[hb]at h';cases h'
  | true =>
   rw[hb,cond_true]at h';simp only[aC,Rbv]at h';subst h';exact⟨⟨_,rfl⟩,fun _ h=>h,fun _ h=>h,⟨[],by simp⟩,fun _ h=>h⟩
theorem rY {ss:List BO}{ls:List aO}{A B:Fin}(h:(iM A ss ls).eval σ=some B):FLe A B:=Aaw h fun h=>Ta0 h
theorem vB (hR:R E.ntmps F σ ρ a w G)(hG:Ual Z nbx G G'){ad:Addr}:∀ {ss:List BO} {ls:List aO} {A B:Fin} {off:Nat},(iM A ss ls).eval σ=some B->FLe B Z ->
  (∀ j l,ls[j]?=some l->∃ v,w.cell? (ad.add (off+j))=some v/\w.frozen? (ad.add (off+j))=false/\aB σ ρ G w l v) ->
  Bai G'.own w (Z.xs.map (·.val ρ)) ad off A.xs.length A.q ss/\B.xs.length=A.xs.length+ss.length/\B.q=A.q+qC ss
 | [], [], A, B, off, h, _, _ => by
  simp only[iM,aC,Rbv]at h;subst h;exact⟨trivial,rfl,rfl⟩
 |[],_::_,A,B,off,h,_,_=>by simp[iM,bN]at h
 |_::_,[],A,B,off,h,_,_=>by simp[iM,bN]at h
 | s :: ss, l :: ls, A, B, off, h, hZ, hl => by
  simp only[iM,aA,Rbt]at h;obtain⟨C,h1,h2⟩:=h;obtain⟨v,h3,h4,h5⟩:=hl 0 l rfl;obtain⟨h6,h7,h8,h9⟩:=Pa0 hR h1 ((rY h2).trans hZ) hG h5
  obtain⟨du,eC,gi⟩:=vB hR hG (off:=off+1) h2 hZ fun j l' hj=>by
   have:=hl (j+1) l' (by simpa using hj);rwa[show off+(j+1)=off+1+j by omega]at this
  rw[h8,h9]at du;exact⟨⟨⟨v,h3,h4,h6⟩,du⟩,by rw[eC,h8];simp;omega,by rw[gi,h9];simp only[qC];omega⟩
end
def Cbw (tmps:Array Value):ResultVar->Sem Value
 |.tmp t=>pure (tmps.getD t undef)
 |.cell a t=>do loadVar t (<- asAddr (tmps.getD a undef))
def Cay (P:Program)(tmps:Array Value)(w:World)(x:ResultVar):Value:=match (Cbw tmps x).run P w with
 |.ok v _=>v
 |_=>undef
theorem Mab {P:Program}{tmps:Array Value}{w:World}{x:ResultVar}{v:Value}(h:(Cbw tmps x).run P w=.ok v w):Cay P tmps w x=v/\(Cbw tmps x).run P w=.ok (Cay P tmps w x) w:=by
 have:Cay P tmps w x=v:=by unfold Cay;rw[h]
 exact⟨this,by rw[this];exact h⟩
theorem Vaf (vs:Array Value):(if h:vs.size=1 then vs[0] else Value.tuple vs)=Cax vs.toList:=by
 obtain⟨l⟩:=vs
 match l with
 |[]=>rfl
 |[u]=>rfl
 |u::v::r=>simp[Cax]
section
variable {P:Program} {E:Env} {F:bE} {σ:Nat->Option aP} {ρ:List D} {a:Act} {w:World} {G G':Gh} {cf:Nat->List D->Option (List D)} {Z:Fin} {nbx nv:Nat}
theorem Taz {A B:Fin}{s:LR}{l:aO}(h:(Fa8 nv A s l).eval σ=some B):FLe A B:=by
 unfold Fa8 at h;split at h
 ·simp only[aC,Rbv]at h
  subst h;exact⟨⟨_,rfl⟩,fun _ h=>h,fun _ h=>h,⟨[],by simp⟩,fun _ h=>h⟩
 ·exact Ra1 h
 ·exact Raz h
 ·simp only[aC,Rbv]at h
  subst h;exact⟨⟨_,rfl⟩,fun _ h=>h,fun _ h=>h,⟨[],by simp⟩,fun _ h=>h⟩
 ·simp only[aA,Rbt,aC,Rbv]at h
  obtain⟨d,-,rfl⟩:=h;exact⟨⟨_,rfl⟩,fun _ h=>h,fun _ h=>Rbx _ h,⟨[],by simp⟩,fun _ h=>h⟩
 ·simp only[aA,Rbt,aC,Rbv]at h
  obtain⟨d,-,rfl⟩:=h;exact⟨⟨_,rfl⟩,fun _ h=>h,fun _ h=>Rbx _ h,⟨_,rfl⟩,fun _ h=>h⟩
 ·cases h
theorem Paz (hR:R E.ntmps F σ ρ a w G)(cj:aK cf ρ none nv Z.lets){A B:Fin}{s:LR}{l:aO}(h:(Fa8 nv A s l).eval σ=some B)(hZ:FLe B Z)(hG:Ual Z nbx G G'){v:Value}(hl:aB σ ρ G w l v) :
  kM G'.own w (Z.xs.map (·.val ρ)) nbx A.xs.length A.q s v/\B.xs.length=A.xs.length+s.n/\B.q=A.q+s.q:=by
 unfold Fa8 at h;split at h
 ·simp only[aC,Rbv]at h
  subst h;refine⟨?_,by simp[LR.n],rfl⟩;simp only[kM];rw[hZ.get (l:=A.xs) rfl];simpa[aB] using hl
 ·obtain⟨h1,-,h2,h3⟩:=Naq hR h hZ hG hl
  exact⟨h1,h2,h3⟩
 ·obtain⟨h1,-,h2,h3⟩:=Nao hR h hZ hG hl
  exact⟨h1,h2,h3⟩
 ·simp only[aC,Rbv]at h
  subst h;refine⟨?_,by simp[LR.n],rfl⟩;simp only[kM];rw[hZ.get (l:=A.xs) rfl];simp only[aB]at hl;exact⟨by rw[hl];rfl,.inl ⟨hl,_,rfl⟩⟩
 ·rename_i z deps z' x
  simp only[aA,Rbt,aC,Rbv]at h;obtain⟨ds,h1,rfl⟩:=h;refine⟨?_,by simp[LR.n],rfl⟩;simp only[kM];rw[hZ.get (l:=A.xs) rfl];simp only[aB]at hl;obtain⟨h3,h4,h5⟩:=iH h1;refine⟨hl.1.1,?_⟩
  rcases hl.2 h3 with h6|⟨ad,row,h6,h7,h8⟩
  ·exact .inl h6
  ·exact .inr ⟨ad,row,h6,h7,(h8.drop hR h5).give hG fun z hz=>hZ.frz _ (Rb0 _ (Tbi hz))⟩
 ·rename_i z l' z' ix
  simp only[aA,Rbt,aC,Rbv]at h;obtain⟨sl,h1,rfl⟩:=h;refine⟨?_,by simp[LR.n],rfl⟩;simp only[kM];rw[hZ.get (l:=A.xs) rfl];simp only[aB]at hl;obtain⟨ad,n,cp,ik,iv,h3,h4,h5,h6,h7⟩:=hl;have hs:=dN hR h1 h3;obtain⟨lr,tk⟩:=hZ.lets;dsimp only at tk;rw[tk,Rb3]at cj;have sC:=(aK.append cj).2;have mz:aK cf ρ none (nv+bF A.lets) [.prim (.one z') [sl.x,ix] 1]:=(aK.append sC).1;obtain⟨d,cr,hd⟩:=fI mz rfl;simp only[Sbk,Sbw,h4]at cr
  have gq:∃ sz rs r,sl.x.val ρ=.rows sz rs/\sz=z'/\rs[iv.toNat]?=some r/\d=.rows z' [r]:=by
   cases hx:sl.x.val ρ with
   | rows sz rs =>
    rw[hx]at cr;simp only[aN.run]at cr;split at cr
    ·rename_i hc
     split at cr
     ·rename_i r hr
      simp only[Rbv,List.cons.injEq,and_true]at cr;exact⟨sz,rs,r,rfl,hc.1,hr,cr.symm⟩
     ·cases cr
    ·cases cr
   |_=>rw[hx]at cr;simp[aN.run]at cr
  obtain⟨sz,rs,r,hx,rfl,hr,rfl⟩:=gq;have jk:=hs.rd;rw[hx]at jk;obtain⟨A',b,n',c',vs,e1,e2,e3,e4,e5,e6,e7⟩:=jk.inv
  injection e1 with e1 e1' e1''
  have aw:iv.toNat<rs.length:=(Rbw.1 hr).1;have hA:some ad=some b:=by rw[e1];exact e4.resolve_left (by omega)
  obtain rfl:=Sbs hA;have pz:r.length=sz:=e5 r (Sba hr);refine⟨by rw[h7];rfl,.inr ⟨_,r,h7,by rw[hd,pz],?_⟩⟩
  have:Rd (allow G sl.deps) w (.slice (some (ad.add (iv.toNat*sz+0))) 1 1) (.rows r.length [r]):=by
   refine .rows _ (ad.add (iv.toNat*sz+0)) 1 1 r.length [r] (fun _ j=>vs iv.toNat j) rfl (Sbg _) (.inr rfl) (by simp) (fun i0 r0 kq j d0 hj=>?_) (fun i0 r0 kq j d0 hj=>?_)
   ·cases i0 with
    | zero =>
     simp only[Rb2,Rbv]at kq;subst kq;obtain⟨k1,k2⟩:=e6 _ _ hr j d0 hj;refine⟨by rw[add_block];exact k1,?_⟩;rw[add_add];rw[show iv.toNat*sz+0+(0*r.length+j)=iv.toNat*sz+j by omega];exact k2
    |succ i0=>simp at kq
   ·cases i0 with
    | zero =>
     simp only[Rb2,Rbv]at kq;subst kq;exact e7 _ _ hr j d0 hj
    |succ i0=>simp at kq
  exact this.give hG fun z hz=>hZ.frz _ (Rb0 _ (Tbi hz))
 ·cases h
theorem oK:∀ {ss:List LR} {ls:List aO} {A B:Fin},(gN nv A ss ls).eval σ=some B->FLe A B
 | [], [], A, B, h => by
  simp only[gN,aC,Rbv]at h;subst h;exact .refl _
 |[],_::_,A,B,h=>by simp[gN,bN]at h
 |_::_,[],A,B,h=>by simp[gN,bN]at h
 | s :: ss, l :: ls, A, B, h => by
  simp only[gN,aA,Rbt]at h;obtain⟨C,h1,h2⟩:=h;refine FLe.trans ?_ (oK h2);split at h1
  ·rename_i cs b
   simp only[aA,aS,Rb1]at h1;split at h1
   ·have h0:FLe A { A with bxs:=A.bxs++[b] }:=⟨⟨[],by simp⟩,fun _ h=>h,fun _ h=>h,⟨[],by simp⟩,fun _ h=>Rbx _ h⟩
    exact FLe.trans h0 (rY h1)
   ·cases h1
  ·exact Taz h1
theorem rX (hR:R E.ntmps F σ ρ a w G)(cj:aK cf ρ none nv Z.lets)(hG:Ual Z nbx G G'):∀ {ss:List LR} {ls:List aO} {A B:Fin} {vs:List Value},(gN nv A ss ls).eval σ=some B->FLe B Z->aG σ ρ G w ls vs ->
  nU G'.own w (Z.xs.map (·.val ρ)) nbx A.xs.length A.q ss vs/\B.xs.length=A.xs.length+lN ss/\B.q=A.q+qL ss
 | [], [], A, B, vs, h, _, hl => by
  simp only[gN,aC,Rbv]at h;subst h;simp only[aG]at hl;exact⟨hl,rfl,rfl⟩
 |[],_::_,A,B,vs,h,_,_=>by simp[gN,bN]at h
 |_::_,[],A,B,vs,h,_,_=>by simp[gN,bN]at h
 | s :: ss, l :: ls, A, B, vs, h, hZ, hl => by
  simp only[gN,aA,Rbt]at h;obtain⟨C,h1,h2⟩:=h;simp only[aG]at hl;obtain⟨u,us,rfl,h3,h4⟩:=hl;have hCZ:FLe C Z:=(oK h2).trans hZ
  have key:kM G'.own w (Z.xs.map (·.val ρ)) nbx A.xs.length A.q s u/\C.xs.length=A.xs.length+s.n/\C.q=A.q+s.q:=by
   split at h1
   ·rename_i cs b
    simp only[aA,aS,Rb1]at h1;split at h1
    ·rename_i bs hk
     obtain⟨h5,h6,h7⟩:=hR.box hk;simp only[Sbb,if_false]at h6;obtain⟨h8,h9,du⟩:=vB hR hG (ad:=G.bx b) (off:=0) h1 hCZ fun j l hj=>by rw[Sbo];exact h7 j l hj
     refine⟨?_,h9,du⟩;simp only[aB]at h3;simp only[kM];exact⟨G.bx b,h3.1,h5,hG.bxs b (hCZ.bxs _ ((rY h1).bxs _ (Rb0 _ (Rby.2 rfl)))) _ h6,h8⟩
    ·cases h1
   ·exact Paz hR cj h1 hCZ hG h3
  obtain⟨h5,h6,h7⟩:=key;obtain⟨h8,h9,du⟩:=rX hR cj hG h2 hZ h4;rw[h6,h7]at h8;exact⟨⟨u,us,rfl,h5,h8⟩,by rw[h9,h6];simp only[lN];omega,by rw[du,h7];simp only[qL];omega⟩
theorem Aav:∀ {rs:List (Bool×List LR)} {vars:List ResultVar} {A B:Fin},(nP E nv A rs vars).eval σ=some B->FLe A B
 | [], [], A, B, h => by
  simp only[nP,aC,Rbv]at h;subst h;exact .refl _
 |[],_::_,A,B,h=>by simp[nP,bN]at h
 |_::_,[],A,B,h=>by simp[nP,bN]at h
 | (ag, ss) :: rs, .tmp t :: vars, A, B, h => by
  simp only[nP,aA,aS,Rb1]at h;split at h
  ·simp only[aA,Rbt]at h
   obtain⟨_,-,ls,-,C,h1,h2⟩:=h;exact (oK h1).trans (Aav h2)
  ·cases h
 | (ag, ss) :: rs, .cell t ty :: vars, A, B, h => by
  simp only[nP,aA,Rbt]at h;obtain⟨ti,-,_,-,_,-,h⟩:=h;split at h
  ·simp only[aA,aS,Rb1]at h
   split at h
   ·simp only[aA,Rbt]at h
    obtain⟨C,h1,h2⟩:=h;exact (oK h1).trans (Aav h2)
   ·cases h
  ·cases h
theorem Naj {n t:Nat}{gh:Nat->Value}(h:t<n):a.tmps.getD t undef=yP n a gh t:=by
 unfold yP;rw[if_pos h]
theorem Ba5 (hti:tQ P E.ti)(hR:R E.ntmps F σ ρ a w G)(cj:aK cf ρ none nv Z.lets)(hG:Ual Z nbx G G'):∀ {rs:List (Bool×List LR)} {vars:List ResultVar} {A B:Fin},(nP E nv A rs vars).eval σ=some B->FLe B Z ->
  (∀ x∈vars,(Cbw a.tmps x).run P w=.ok (Cay P a.tmps w x) w)/\Jab G'.own w (Z.xs.map (·.val ρ)) nbx A.xs.length A.q rs (vars.map (Cay P a.tmps w))/\B.xs.length=A.xs.length+bI rs/\B.q=A.q+qR rs
 | [], [], A, B, h, _ => by
  simp only[nP,aC,Rbv]at h;subst h;exact⟨by simp,rfl,rfl,rfl⟩
 |[],_::_,A,B,h,_=>by simp[nP,bN]at h
 |_::_,[],A,B,h,_=>by simp[nP,bN]at h
 | (ag, ss) :: rs, .tmp t :: vars, A, B, h, hZ => by
  simp only[nP,aA,aS,Rb1]at h;split at h
  case h_2=>cases h
  rename_i sv hk;simp only[aA,Rbt,aI,aV]at h;obtain⟨_,h0,ls,h1,C,h2,h3⟩:=h;split at h0
  case isFalse=>cases h0
  rename_i ht;simp only[Sb5]at ht;have hv:=hR.slot hk rfl;rw[<- Naj ht]at hv;have cr:(Cbw a.tmps (.tmp t)).run P w=.ok (a.tmps.getD t undef) w:=rfl;obtain⟨e1,e2⟩:=Mab cr;have hC:=(Aav h3).trans hZ;obtain⟨h4,h5,h6⟩:=rX hR cj hG h2 hC (gT h1 hv);obtain⟨h7,h8,h9,du⟩:=Ba5 hti hR cj hG h3 hZ;rw[h5,h6]at h8;refine⟨fun x hx=>?_,⟨_,_,_,rfl,h4,?_,h8⟩,by rw[h9,h5];simp only[bI];omega,by rw[du,h6];simp only[qR];omega⟩
  ·rcases Rb4.1 hx with rfl|hx
   ·exact e2
   ·exact h7 x hx
  ·rw[e1]
   unfold jF at h1;split at h1
   ·cases ag with
    |true=>cases h1
    | false =>
     rw[aB.cells hv];simp
   ·cases ag with
    |false=>cases h1
    | true =>
     obtain⟨us,e,-⟩:=hv;rw[e];simp[Value.cells]
   ·cases h1
 | (ag, ss) :: rs, .cell t ty :: vars, A, B, h, hZ => by
  simp only[nP,aA,Rbt,aV,aI,aS]at h;obtain⟨ti,h0,_,h1,c,hc,h⟩:=h;obtain rfl:=Sbs hc;split at h1
  case isFalse=>cases h1
  rename_i hb;simp only[Rbu,beq_iff_eq,Sbq,Tbk,Sb5]at hb;obtain⟨⟨⟨tM,ef⟩,ke⟩,ht⟩:=hb;split at h
  case h_2=>cases h
  rename_i b off hk;simp only[aA,aS,Rb1]at h;split at h
  case h_2=>cases h
  rename_i ro ls pg;simp only[aA,Rbt]at h;obtain⟨C,h2,h3⟩:=h;have hv:aB σ ρ G w (.px b off) _:=hR.slot hk rfl;rw[<- Naj ht]at hv;simp only[aB]at hv;obtain⟨np,jw,q5⟩:=hR.box pg
  obtain⟨vs,h4,h5⟩:=kJ (σ:=σ) (ρ:=ρ) (G:=G) (w:=w) ((G.bx b).add off) ((ls.drop off).take ti.size) 0 fun j l hj=>by
   rw[List.getElem?_take]at hj;split at hj
   ·rw[Sby]at hj
    obtain⟨v,h6,-,h7⟩:=q5 _ _ hj;exact⟨v,by rw[add_add,Sbo];exact h6,h7⟩
   ·cases hj
  have hC:=(Aav h3).trans hZ;obtain⟨h6,h7,h8⟩:=rX hR cj hG h2 hC h4
  have hlen:vs.length=ti.size:=by
   have ie:∀ {ss:List LR} {vs:List Value} {i q:Nat},nU G'.own w (Z.xs.map (·.val ρ)) nbx i q ss vs->vs.length=ss.length:=by
    intro ss
    induction ss with
    |nil=>intro vs i q h;simp only[nU]at h;subst h;rfl
    | cons s ss ih =>
     intro vs i q h;obtain⟨u,us,rfl,-,h⟩:=h;simp[ih h]
   rw[ie h6,ef]
  obtain⟨info,ud,hf⟩:=aX (hti.ok _ _ h0)
  have eM:∃ v,if ti.agg=true then v=.agg vs.toArray else vs=[v]:=by
   cases ox:ti.agg with
   |true=>exact⟨_,by rw[if_pos rfl]⟩
   | false =>
    rw[ox]at ke;simp only[Sbb,false_or]at ke;rw[ke]at hlen
    match vs,hlen with
    |[v],_=>exact⟨v,by simp⟩
  obtain⟨v,eM⟩:=eM;have tj:=jK hf ((G.bx b).add off) vs hlen (fun j u hj=>by have:=h5 j u hj;rwa[Sbo]at this) eM
  have cr:(Cbw a.tmps (.cell t ty)).run P w=.ok v w:=by
   show (do loadVar ty (<- asAddr (a.tmps.getD t undef)):Sem Value).run P w=.ok v w
   rw[hv.1];simp only[asAddr,Sem.run_bind,Sem.run_pure,Result.andThen_ok];exact tj
  obtain⟨e1,e2⟩:=Mab cr;obtain⟨h9,du,eC,gi⟩:=Ba5 hti hR cj hG h3 hZ;rw[h7,h8]at du;refine⟨fun x hx=>?_,⟨_,_,vs,rfl,h6,?_,du⟩,by rw[eC,h7];simp only[bI];omega,by rw[gi,h8];simp only[qR];omega⟩
  ·rcases Rb4.1 hx with rfl|hx
   ·exact e2
   ·exact h9 x hx
  ·rw[e1,tM];exact eM
theorem Fa7 {t:Nat}:∀ {ms:List Nat} {j:Nat} {A B:Fin},(Dac t j ms A).eval σ=some B->FLe A B
 | [], j, A, B, h => by
  simp only[Dac,aC,Rbv]at h;subst h;exact .refl _
 | d :: ms, j, A, B, h => by
  simp only[Dac,aA,aS,Rb1]at h;split at h
  case h_2=>cases h
  rename_i r hk;simp only[aA,aS,Rb1]at h;split at h
  case h_2=>cases h
  rename_i x m b9 ru;simp only[aA,Rbt]at h;obtain⟨_,-,h⟩:=h;have h0:FLe A { A with xs:=A.xs++[x],own:=A.own++[(r,2*j+1,d)] }:=⟨⟨_,rfl⟩,fun _ h=>Rbx _ h,fun _ h=>h,⟨[],by simp⟩,fun _ h=>h⟩;exact h0.trans (Fa7 h)
theorem Iay (hR:R E.ntmps F σ ρ a w G)(hG:Ual Z nbx G G'):∀ {ms:List Nat} {j:Nat} {A B:Fin},(Dac E.ntmps j ms A).eval σ=some B->FLe B Z ->
  Sac G'.own w (Z.xs.map (·.val ρ)) F.gh A.xs.length j ms/\B.xs.length=A.xs.length+ms.length/\B.q=A.q
 | [], j, A, B, h, _ => by
  simp only[Dac,aC,Rbv]at h;subst h;exact⟨trivial,rfl,rfl⟩
 | d :: ms, j, A, B, h, hZ => by
  simp only[Dac,aA,aS,Rb1]at h;split at h
  case h_2=>cases h
  rename_i r hk;simp only[aA,aS,Rb1]at h;split at h
  case h_2=>cases h
  rename_i x m b9 ru;simp only[aA,Rbt,aI]at h;obtain⟨_,h0,h⟩:=h;split at h0
  case isFalse=>cases h0
  rename_i hb;simp only[Tbc]at hb;have hv:aB σ ρ G w (.ex r) _:=hR.slot hk rfl
  have e:yP E.ntmps a F.gh (E.ntmps+j)=F.gh j:=by
   unfold yP;rw[if_neg (by omega),Sb2]
  rw[e]at hv;simp only[aB]at hv;have hC:=(Fa7 h).trans hZ;obtain⟨h1,h2,h3⟩:=Iay hR hG h hZ;simp only[List.length_append,List.length_singleton]at h1 h2;refine⟨⟨?_,h1⟩,by rw[h2];simp;omega,h3⟩;rw[hC.get (l:=A.xs) rfl,hv.1];have hr:=hR.root ru;simp only[bP]at hr;exact hr.give hG (hC.own _ (Rb0 _ (Rby.2 rfl))) hb
theorem rZ {t:Nat}:∀ {bs:List (Bool×List (BS×BO))} {b:Nat} {A B:Fin},(oL t A b bs).eval σ=some B->FLe A B
 | [], b, A, B, h => by
  simp only[oL,aC,Rbv]at h;subst h;exact .refl _
 | (ro, cs) :: bs, b, A, B, h => by
  simp only[oL]at h
  cases ro with
  |true=>exact rZ h
  | false =>
   simp only[cond_false,aA,aS,Rb1]at h;split at h
   ·simp only[aA,aS,Rb1,Rbt]at h
    obtain⟨_,-,h⟩:=h;split at h
    ·simp only[aA,Rbt]at h
     obtain⟨C,h1,h2⟩:=h;exact (rY h1).trans (rZ h2)
    ·cases h
   ·cases h
theorem vC (hR:R E.ntmps F σ ρ a w G)(hG:Ual Z nbx G G'){nm:Nat}{bx:Nat->Addr}{nb:Nat}(ye:∀ b,b<nb->F.gh (nm+b)=.pointer (some (bx b))):∀ {bs:List (Bool×List (BS×BO))} {b:Nat} {A B:Fin},b+bs.length<=nb->(oL (E.ntmps+nm) A b bs).eval σ=some B->FLe B Z ->
  mR G'.own w (Z.xs.map (·.val ρ)) bx b A.xs.length A.q bs
 |[],b,A,B,_,h,_=>trivial
 | (ro, cs) :: bs, b, A, B, tS, h, hZ => by
  simp only[Sbm]at tS;simp only[oL]at h
  cases ro with
  | true =>
   simp only[mR,if_true];exact vC hR hG ye (by omega) h hZ
  | false =>
   simp only[mR,Sbb,if_false];simp only[cond_false,aA,aS,Rb1]at h;split at h
   case h_2=>cases h
   rename_i b' hk;simp only[aA,aS,Rb1,Rbt,aI]at h;obtain⟨_,h0,h⟩:=h;split at h0
   case isFalse=>cases h0
   rename_i hb;simp only[Sbq]at hb;subst hb;split at h
   case h_2=>cases h
   rename_i ls pg;simp only[aA,Rbt]at h;obtain⟨C,h1,h2⟩:=h;have hv:aB σ ρ G w (.px b' 0) _:=hR.slot hk rfl
   have e:yP E.ntmps a F.gh (E.ntmps+nm+b')=F.gh (nm+b'):=by
    unfold yP;rw[if_neg (by omega)];congr 1;omega
   rw[e,ye b' (by omega)]at hv;simp only[aB]at hv
   have gw:bx b'=G.bx b':=by
    have:=hv.1
    injection this with this
    injection this
   obtain⟨h5,h6,h7⟩:=hR.box pg;obtain⟨h8,h9,du⟩:=vB hR hG (ad:=G.bx b') (off:=0) h1 ((rZ h2).trans hZ) fun j l hj=>by rw[Sbo];exact h7 j l hj
   have eC:=vC hR hG ye (b:=b'+1) (by omega) h2 hZ;rw[h9,du,Sbr]at eC;rw[gw];exact⟨h8,eC⟩
end
theorem Aa3:∀ {l:List (Nat×Nat×Nat)} {r t m:Nat},distinct (l.map (·.1))=true->(r,t,m)∈l->l.find? (fun z=>Nat.beq z.1 r)=some (r,t,m)
 |[],r,t,m,_,h=>by simp at h
 | (r', t', m') :: l, r, t, m, hd, h => by
  simp only[Sbk,distinct,Rbu,Sbl]at hd
  rcases Rb4.1 h with h1|h1
  ·obtain⟨rfl,rfl,rfl⟩:r=r'/\t=t'/\m=m':=by simpa using h1
   simp
  ·have dk:Nat.beq r' r=false:=by
    cases e:Nat.beq r' r with
    |false=>rfl
    | true =>
     simp only[Sbq]at e;subst e;have:has (l.map (·.1)) r'=true:=kY.2 (Sb7.2 ⟨_,h1,rfl⟩);rw[hd.1]at this;cases this
   rw[List.find?_cons_of_neg (by simp[dk])];exact Aa3 hd.2 h1
def Kat (Z:Fin)(nbx:Nat)(G:Gh):Gh:={ G with own:=fun b=>match G.own b with
 | .slc r p => (match Z.own.find? (fun z => Nat.beq z.1 r) with
  |some (_,t,m)=>if p.length<m then .slc t p else .frz
  |none=>if r∈Z.frz then .frz else .oth)
 |.box β=>if β<nbx then .box β else if β∈Z.bxs then .box nbx else .oth
 |o=>o }
theorem Bbe {Z:Fin}{nbx:Nat}{G:Gh}(hd:distinct (Z.own.map (·.1))=true)(hm:meets (Z.own.map (·.1)) Z.frz=false)(hb:(Z.bxs.any fun b=>Nat.blt b nbx)=false):Ual Z nbx G (Kat Z nbx G):=by
 refine⟨fun b hb=>by simp only[Kat,hb],fun r t m hz b p hb=>?_,fun r hr b p hb=>?_,fun β hβ b hbb=>?_⟩
 ·simp only[Kat,hb,Aa3 hd hz]
 ·have:Z.own.find? (fun z=>Nat.beq z.1 r)=none:=by
   rw[List.find?_eq_none];intro z hz e;simp only[Sbq]at e;exact nH hm (Sb7.2 ⟨z,hz,rfl⟩) (by rw[e];exact hr)
  simp only[Kat,hb,this,if_pos hr]
 ·rw[Tb1]at hb
  have:=hb β hβ;simp only[Sb5]at this;simp only[Kat,hbb,if_neg this,if_pos hβ]
section
variable {P:Program} {E:Env} {F:bE} {ρ:List D} {cf:Nat->List D->Option (List D)}
theorem Tay (hti:tQ P E.ti){s:Sig}{vn:List ResultVar}{st:St}{t:Tm St}(h:finish E s vn st=some t){o:Out St}(ho:Ec cf t ρ=some o)(hl:ρ.length=st.nv)(hi:Bag E st) :
  o.kind=.ret/\∀ a w G (fn:Func) (bx:Nat->Addr),fn.results.toList=vn->(∀ b,b<s.boxes.length->F.gh ((dO (s.params.flatMap (·.2))).length+b)=.pointer (some (bx b))) ->
   (∀ b j,b<F.w0.heap.size->F.own0 b=.box j->j<s.boxes.length)->R E.ntmps F st.get ρ a w G ->
   ∃ v,(results fn a.tmps).run P w=.ok v w/\Qah s F bx v w o.vals:=by
 unfold finish at h;split at h
 case h_2=>cases h
 rename_i Z hZ;generalize hb:(distinct (Z.own.map (·.1))&&!(meets (Z.own.map (·.1)) Z.frz)&&!(Z.bxs.any fun b=>Nat.blt b s.boxes.length)&&dW st.nv Z.lets)=b at h
 cases b with
 |false=>cases h
 | true =>
  rw[cond_true]at h;obtain rfl:=Sbs h;simp only[Rbu,Sbl]at hb;obtain⟨⟨⟨np,jw⟩,q5⟩,hb4⟩:=hb;obtain⟨ds,h4,h5,h6⟩:=tY (g:=none) rfl (by rw[hl];exact hb4) ho;rw[fG]at h5;obtain rfl:=Sbs h5;refine⟨rfl,fun a w G fn bx hfn ye pB hR=>?_⟩;have cj:=h6 [];rw[Sbu,hl]at cj;have hR:=hR.ext hi.sc (by omega) ds;have hG:=Bbe (G:=G) np jw q5;simp only[Cbx,aA,Rbt]at hZ;obtain⟨A,h7,B,h8,h9⟩:=hZ;have hB:=rZ h9;have hA:=(Fa7 h8).trans hB;obtain⟨du,eC,gi,jm⟩:=Ba5 (cf:=cf) hti hR cj hG h7 hA;obtain⟨lg,nc,nf⟩:=Iay hR hG h8 hB;have h17:=vC hR hG ye (b:=0) (by omega) h9 (.refl _);simp only[Tbb,Sbo]at eC gi jm;rw[gi]at lg nc;rw[nc,nf,jm]at h17;refine⟨Cax (fn.results.toList.map (Cay P a.tmps w)),?_,Kat Z s.boxes.length G,_,by rw[hfn],?_,eC,lg,h17⟩
  ·have hm:(fn.results.mapM (Cbw a.tmps)).run P w=.ok (fn.results.map (Cay P a.tmps w)) w:=xD _ _ _ (by rw[hfn];exact du)
   have e:results fn a.tmps=(do let vs <- fn.results.mapM (Cbw a.tmps);pure (if h:vs.size=1 then vs[0] else Value.tuple vs)):=rfl;rw[e,Sem.run_bind,hm];simp only[Result.andThen_ok,Sem.run_pure];rw[Vaf,Array.toList_map]
  ·refine⟨hR.frame.os,hR.frame.tape,hR.frame.output,hR.frame.size,fun b hb ho=>?_,fun b j hb ho=>?_,fun b hb=>?_⟩
   ·obtain⟨h18,h19⟩:=hR.frame.keep b hb ho
    refine⟨h18,?_⟩
    rcases ho with ho|ho<;>rw[ho]at h19 ⊢<;>simp only[Kat,h19]
   ·obtain⟨h18,h19⟩:=hR.frame.boxes b j hb ho
    refine⟨?_,h19⟩;simp only[Kat,h18,if_pos (pB b j hb ho)]
   ·simp only[Kat,hR.frame.fresh b hb]
end
def Goes (P:Program)(f:Nat)(args:Array Value)(w:World)(K:Value->World->Prop):Prop :=
 ((callFunc f args).run P w=.ok (.enter f args) w/\Calls P f args w fun
  |.returned v,w'=>K v w'
  |_,_=>False)\/∃ v w',(callFunc f args).run P w=.ok (.value v) w'/\K v w'
def sO (P:Program)(T:Nat->Ent)(n key:Nat)(s:Sig):Prop :=
 ∀ vals w G ds iy,Cbh s vals w G ds->jI T n key ds=some iy->Goes P s.fn vals.toArray w fun v w'=>Qah s (pE s G w) G.bx v w' iy
def Baj (P:Program)(X:(Nat->Ow)->World->Prop)(T:Nat->Ent)(n key:Nat)(s:Sig):Prop :=
 ∀ vals w G ds iy,Cbh s vals w G ds->X G.own w->jI T n key ds=some iy->Goes P s.fn vals.toArray w fun v w'=>Qah s (pE s G w) G.bx v w' iy
def Stable (X:(Nat->Ow)->World->Prop):Prop :=
 ∀ (own0:Nat->Ow) (w0:World) (own:Nat->Ow) (w:World),w0.heap.size<=w.heap.size->(∀ b,b<w0.heap.size->own0 b=.frz->w.heap[b]?=w0.heap[b]?/\own b=.frz)->X own0 w0->X own w
theorem lI {P : Program} {f : FuncId} {fn : Func} {c : Code} (hf : P.funcs[f]? = some fn) (hname : (fn.name == "runtime.NumGoroutine") = false) (hb : fn.body = some c) (args : Array Value) (w : World) :
  (callFunc f args).run P w=.ok (.enter f args) w:=by
 have h1 : fn.name ≠ "runtime.NumGoroutine" := by simpa using hname
 simp[callFunc,hf,h1,hb]
theorem Va3:∀ (ss:List LS) (r:Nat),(dY r ss).length=(dO ss).length
 |[],r=>rfl
 | s :: ss, r => by
  cases s<;>simp[dY,dO,Va3 ss]
theorem Mai:∀ (n a j:Nat),j<n->(range a n)[j]?=some (a+j)
 |0,a,j,h=>by omega
 |n+1,a,0,h=>rfl
 | n + 1, a, j + 1, h => by
  simp only[range,Sb4];rw[Mai n (a+1) j (by omega)];congr 1;omega
theorem Yac {s:Sig}{G:Gh}{w:World}{b:Nat}(h:b<s.boxes.length):(pE s G w).gh ((dO (s.params.flatMap (·.2))).length+b)=.pointer (some (G.bx b)):=by
 simp only[pE,Faz,Rb5];rw[Rb6 (by simp[Va3]),Sbr,Va3,Sb2,Sbx,Mai _ _ _ h];simp
theorem Kap {P : Program} {X : (Nat -> Ow) -> World -> Prop} {E : Env} {T : Nat -> Ent} {n key : Nat} {s : Sig} {fn : Func} {tm : Tm Unit} (hti : tQ P E.ti) (hm : P.follows .mixedOrders = true) (hfn : P.funcs[s.fn]? = some fn) (hname : (fn.name == "runtime.NumGoroutine") = false)
  (hx:Saq E s fn=some tm) (hT:T key=.tm tm) (dm:∀ F,X F.own0 F.w0->yO P { E with ntmps:=fn.ntmps,ngh:=lT s,nbx:=s.boxes.length } F (jI T n)):Baj P X T (n+1) key s:=by
 intro vals w G ds iy fq hX cr;simp only[jI,hT,Rbt]at cr;obtain⟨o,cr,vi⟩:=cr;unfold Db0 at vi;split at vi
 case isFalse=>cases vi
 rename_i hk;obtain rfl:=Sbs vi;unfold Saq at hx;split at hx
 case h_1=>cases hx
 rename_i c hbody
 cases hle:Nat.ble s.params.length fn.ntmps with
 |false=>rw[hle]at hx;cases hx
 | true =>
  rw[hle]at hx;simp only[Bool.not_true,cond_false,bind,Rbt,Rbv]at hx;obtain⟨tc,zx,t,ht,rfl⟩:=hx;simp only[Tbc]at hle;rw[Sa4,Option.map_eq_some_iff]at cr;obtain⟨o0,cr,rfl⟩:=cr;have hev:Ec (jI T n) t ds=some o0:=Ga5.2 ⟨n,cr⟩
  obtain⟨o1,h1,h2⟩:=kE (fun st r hr ρ o ho=>by
   split at hr
   ·rename_i t' hf
    obtain rfl:=Sbs hr;unfold finish at hf;split at hf
    case h_2=>cases hf
    rename_i Z hZ
    revert hf
    generalize (distinct (Z.own.map (·.1))&&!(meets (Z.own.map (·.1)) Z.frz)&&!(Z.bxs.any fun b=>Nat.blt b s.boxes.length)&&dW st.nv Z.lets)=b;intro hf
    cases b with
    |false=>cases hf
    | true =>
     rw[cond_true]at hf;obtain rfl:=Sbs hf;exact kU ho
   ·obtain rfl:=Sbs hr
    rw[iN]at ho;cases ho) rfl (fun _=>rfl) ht hev
  rcases h2 with ⟨h2,h3,r,h4,h5⟩|⟨h2,h3⟩
  case inr =>
   subst h3;have kk:o0.kind=.ret:=hk;rw[kk]at h2;cases h2
  unfold Cbk at zx;dsimp only at zx;generalize mf:Eap (entry s fn.ntmps) (entry s fn.ntmps).nr _=b at zx
  cases b with
  |false=>simp[jH]at zx
  | true =>
   rw[cond_true]at zx;have hinv:Bag { E with ntmps:=fn.ntmps,ngh:=lT s,nbx:=s.boxes.length } (entry s fn.ntmps):=Xah mf rfl;obtain⟨hlen,hR⟩:=Ebt (n:=fn.ntmps) fq hle;have py:ds.length=(entry s fn.ntmps).nv:=by rw[(Ba7 s fn.ntmps).1];exact fq.len
   obtain⟨hp,hw⟩:=oU (E:={ E with ntmps:=fn.ntmps,ngh:=lT s,nbx:=s.boxes.length }) (F:=pE s G w) (fun x j hx ho=>(fq.cells x j hx ho).1) hti (dm _ hX) hm c zx h1 py hinv;refine .inl ⟨lI hfn hname hbody _ _,?_⟩;refine calls_of_wp hfn hbody ?_;rw[show vals.toArray.size=vals.length by simp];refine hw _ w G _ hR fun a' w' G' jg=>?_
   split at h4
   case h_2 =>
    obtain rfl:=Sbs h4;rw[iN]at h5;cases h5
   rename_i t' hf;obtain rfl:=Sbs h4;obtain⟨h6,h7⟩:=Tay (E:={ E with ntmps:=fn.ntmps,ngh:=lT s,nbx:=s.boxes.length }) (F:=pE s G w) hti hf h5 hp.len hp.inv;obtain⟨v,h8,h9⟩:=h7 a' w' G' fn G.bx rfl (fun b hb=>Yac hb) (fun b j hb ho=>(fq.cells b j hb ho).1) jg;have hd:=jg.defers
   revert h2
   cases o1.kind with
   |fall=>exact fun _=>⟨hd,v,h8,h9⟩
   |ret=>exact fun _=>⟨hd,v,h8,h9⟩
   |exit i=>intro h;cases h
   |cont=>intro h;cases h
   |yield i=>intro h;cases h
def strip:List Nat->List Nat->Option (List Nat)
 |[],p=>some p
 |a::q,b::p=>if a=b then strip q p else none
 |_::_,[]=>none
theorem Cat:∀ (q t:List Nat),strip q (q++t)=some t
 |[],t=>rfl
 |a::q,t=>by simp[strip,Cat q t]
theorem Ha1:∀ {q p t:List Nat},strip q p=some t->p=q++t
 |[],p,t,h=>by simpa[strip] using h
 |a::q,[],t,h=>by simp[strip]at h
 | a :: q, b :: p, t, h => by
  simp only[strip]at h;split at h
  ·rename_i e
   rw[e,Ha1 h];rfl
  ·cases h
def Va2 (w:World):Value->List Nat->Value
 |v,[]=>v
 |.slice (some a) _ _,k::p=>Va2 w ((w.cell? (a.add k)).getD undef) p
 |_,_::_=>undef
theorem Baw {own:Nat->Ow}{w:World}{r:Nat}:∀ {p q:List Nat} {v u:Value},wW own w r q v p u->Va2 w v p=u
 |[],q,v,u,h=>by simp only[wW]at h;rw[h];cases v<;>rfl
 | k :: p, q, v, u, h => by
  obtain⟨a,n,c,u',rfl,-,h2,h3⟩:=h;simp only[Va2,h2,Tbw];exact Baw h3
section
variable (ρ:List D) (dr:List Nat)
def kW:Nat->List RT->Nat->List Nat->Ow
 |_,[],r,_=>if r∈dr then .frz else .oth
 |ν,.nil::t,r,p=>kW (ν+1) t r p
 |ν,.own s d::t,r,p=>if r=s then (if p.length<d then .slc ν p else .frz) else kW (ν+1) t r p
 |ν,.mu s d q _::t,r,p=>if r=s then (match strip (bA ρ q) p with | some t'=>if t'.length<d then .slc ν t' else .frz | none=>.oth) else kW (ν+1) t r p
end
def Pae (ptrs:List (Nat×Nat×Nat))(c:Nat):Nat->List (Bool×List (BS×BO))->Option Nat
 |_,[]=>none
 | b, (ro, _) :: r => if ro = true then Pae ptrs c (b + 1) r else match nE b ptrs with
  |some (c',_)=>if c'=c then some b else Pae ptrs c (b+1) r
  |none=>Pae ptrs c (b+1) r
def Hbg (ρ:List D)(G:Gh)(w:World):RT->Value
 |.nil=>.slice none 0 0
 |.own r _=>G.hdr r
 |.mu r _ q _=>Va2 w (G.hdr r) (bA ρ q)
def callG (ρ:List D)(G:Gh)(w:World)(s:Sig)(Z:Take):Gh:={
 own:=fun b=>match G.own b with
  |.slc r p=>kW ρ (Z.deps.map (·.1)) 0 Z.rts r p
  | .box c => (match Pae Z.ptrs c 0 s.boxes with
   |some j=>if b=(G.bx c).block then .box j else .oth
   |none=>.oth)
  |o=>o
 hdr:=fun ν=>((Z.rts[ν]?).map (Hbg ρ G w)).getD undef
 bx:=fun b=>match nE b Z.ptrs with
  |some (c,off)=>(G.bx c).add off
  |none=>⟨0,0,none⟩ }
theorem pR {ρ:List D}{dr:List Nat}{r:Nat}{p:List Nat}:∀ {rts:List RT} {ν:Nat},r∉bW rts->kW ρ dr ν rts r p=if r∈dr then .frz else .oth
 |[],ν,h=>rfl
 |.nil::t,ν,h=>pR (rts:=t) h
 | .own s d :: t, ν, h => by
  simp only[bW,Rb4,not_or]at h;simp only[kW,if_neg h.1];exact pR h.2
 | .mu s d q X :: t, ν, h => by
  simp only[bW,Rb4,not_or]at h;simp only[kW,if_neg h.1];exact pR h.2
theorem rD:∀ {rts:List RT} {ν r:Nat},(∃ d,rts[ν]?=some (.own r d))\/(∃ d q X,rts[ν]?=some (.mu r d q X))->r∈bW rts
 |[],ν,r,h=>by simp at h
 | x :: t, 0, r, h => by
  simp only[Rb2,Rbv]at h
  rcases h with ⟨d,rfl⟩|⟨d,q,X,rfl⟩<;>exact Sbe
 | x :: t, ν + 1, r, h => by
  have:=rD (rts:=t) (ν:=ν) (r:=r) (by simpa using h)
  cases x with
  |nil=>exact this
  |own s d=>exact Rb7 _ this
  |mu s d q X=>exact Rb7 _ this
theorem zM {ρ:List D}{dr:List Nat}{r d:Nat}{p:List Nat}:∀ {rts:List RT} {hS ν:Nat},distinct (bW rts)=true->rts[ν]?=some (.own r d)->kW ρ dr hS rts r p=if p.length<d then .slc (hS+ν) p else .frz
 |[],hS,ν,_,h=>by simp at h
 | x :: t, hS, 0, hd, h => by
  simp only[Rb2,Rbv]at h;subst h;simp[kW]
 | x :: t, hS, ν + 1, hd, h => by
  simp only[Sb4]at h;have hm:=rD (.inl ⟨d,h⟩)
  cases x with
  | nil =>
   simp only[kW];rw[zM (rts:=t) hd h,show hS+1+ν=hS+(ν+1) by omega]
  | own s d' =>
   simp only[bW,distinct,Rbu,Sbl]at hd;have dk:r≠s:=fun e=>by rw[e,<- kY,hd.1]at hm;cases hm
   simp only[kW,if_neg dk];rw[zM hd.2 h,show hS+1+ν=hS+(ν+1) by omega]
  | mu s d' q X =>
   simp only[bW,distinct,Rbu,Sbl]at hd;have dk:r≠s:=fun e=>by rw[e,<- kY,hd.1]at hm;cases hm
   simp only[kW,if_neg dk];rw[zM hd.2 h,show hS+1+ν=hS+(ν+1) by omega]
theorem Eaa {ρ:List D}{dr:List Nat}{r d:Nat}{q:List (aJ×Nat×Nat)}{X:aJ}{p:List Nat}:∀ {rts:List RT} {hS ν:Nat},distinct (bW rts)=true->rts[ν]?=some (.mu r d q X) ->
  kW ρ dr hS rts r p=match strip (bA ρ q) p with|some t'=>if t'.length<d then .slc (hS+ν) t' else .frz|none=>.oth
 |[],hS,ν,_,h=>by simp at h
 | x :: t, hS, 0, hd, h => by
  simp only[Rb2,Rbv]at h;subst h;simp[kW]
 | x :: t, hS, ν + 1, hd, h => by
  simp only[Sb4]at h;have hm:=rD (.inr ⟨d,q,X,h⟩)
  cases x with
  | nil =>
   simp only[kW];rw[Eaa (rts:=t) hd h,show hS+1+ν=hS+(ν+1) by omega]
  | own s d' =>
   simp only[bW,distinct,Rbu,Sbl]at hd;have dk:r≠s:=fun e=>by rw[e,<- kY,hd.1]at hm;cases hm
   simp only[kW,if_neg dk];rw[Eaa hd.2 h,show hS+1+ν=hS+(ν+1) by omega]
  | mu s d' q' X' =>
   simp only[bW,distinct,Rbu,Sbl]at hd;have dk:r≠s:=fun e=>by rw[e,<- kY,hd.1]at hm;cases hm
   simp only[kW,if_neg dk];rw[Eaa hd.2 h,show hS+1+ν=hS+(ν+1) by omega]
structure TLe (A B:Take):Prop where
 xs:∃ l,B.xs=A.xs++l
 ptrs:∀ z∈A.ptrs,z∈B.ptrs
 deps:∀ z∈A.deps,z∈B.deps
 lets:∃ l,B.lets=A.lets++l
 rts:∃ l,B.rts=A.rts++l
theorem TLe.refl (A:Take):TLe A A:=⟨⟨[],by simp⟩,fun _ h=>h,fun _ h=>h,⟨[],by simp⟩,⟨[],by simp⟩⟩
theorem TLe.trans {A B C:Take}(h:TLe A B)(h':TLe B C):TLe A C:=by
 obtain⟨⟨l,h1⟩,h2,h3,⟨m,h4⟩,⟨k,h5⟩⟩:=h;obtain⟨⟨l',u6⟩,vg,z8,⟨m',uu⟩,⟨k',tE⟩⟩:=h';exact⟨⟨l++l',by rw[u6,h1,Rb3]⟩,fun z hz=>vg z (h2 z hz),fun z hz=>z8 z (h3 z hz),⟨m++m',by rw[uu,h4,Rb3]⟩,⟨k++k',by rw[tE,h5,Rb3]⟩⟩
theorem TLe.get {A B:Take}(h:TLe A B){ρ:List D}{x:aJ}{l:List aJ}(hx:A.xs=l++[x]):(aJ.v l.length).val (B.xs.map (·.val ρ))=x.val ρ:=by
 obtain⟨m,h1⟩:=h.xs;rw[h1,hx];simp only[aJ.val,Rb5];simp
theorem TLe.rt {A B:Take}(h:TLe A B){x:RT}{l:List RT}(hx:A.rts=l++[x]):B.rts[l.length]?=some x:=by
 obtain⟨m,h1⟩:=h.rts;rw[h1,hx];simp
structure Ia9 (s:Sig) (Z:Take):Prop where
 ptrs:∀ b c off,(b,c,off)∈Z.ptrs->b<s.boxes.length/\nE b Z.ptrs=some (c,off)
 dist:distinct (bW Z.rts)=true
 deps:∀ z∈Z.deps,z.1∉bW Z.rts
 wr:distinct (gZ false Z.ptrs 0 s.boxes)=true
 ro:meets (gZ false Z.ptrs 0 s.boxes) (gZ true Z.ptrs 0 s.boxes)=false
theorem Fah {nbx:Nat}{ptrs:List (Nat×Nat×Nat)}:∀ {l:List (Nat×Nat×Nat)},Rae nbx ptrs l=true->∀ b c off,(b,c,off)∈l->b<nbx/\nE b ptrs=some (c,off)
 |[],_,b,c,off,h=>by simp at h
 | (b', c', lk) :: l, h, b, c, off, hm => by
  simp only[Rae,Rbu,Sb5]at h
  rcases Rb4.1 hm with e|hm
  ·obtain⟨rfl,rfl,rfl⟩:b=b'/\c=c'/\off=lk:=by simpa using e
   refine⟨h.1.1,?_⟩;have h2:=h.1.2;split at h2
   ·rename_i e
    simp only[Rbu,Sbq]at h2;rw[e,h2.1,h2.2]
   ·cases h2
  ·exact Fah h.2 b c off hm
theorem Oau {s:Sig}{Z:Take}(h:Uav s Z=true):Ia9 s Z:=by
 simp only[Uav,Rbu,Sbl]at h;obtain⟨⟨⟨⟨h1,h2⟩,h3⟩,h4⟩,h5⟩:=h;refine⟨Fah h1,h2,fun z hz hm=>?_,h4,h5⟩;rw[Tb1]at h3;exact h3 z hz (kY.2 hm)
section
variable {E:Env} {F:bE} {σ:Nat->Option aP} {ρ:List D} {a:Act} {w:World} {G:Gh} {g:Option (aJ×Bool)} {cf:Nat->List D->Option (List D)} {s:Sig} {Z:Take} {nv:Nat}
theorem nS {b:Nat}(h:G.own b=.frz):(callG ρ G w s Z).own b=.frz:=by simp only[callG,h]
theorem Yab (hk:Ia9 s Z){b r k:Nat}{p:List Nat}(hz:(r,k)∈Z.deps)(h:G.own b=.slc r p):(callG ρ G w s Z).own b=.frz:=by
 simp only[callG,h];rw[pR (hk.deps _ hz),if_pos (Sb7.2 ⟨_,hz,rfl⟩)]
theorem Yaa (hk:Ia9 s Z){b r d ν:Nat}{p:List Nat}(hz:Z.rts[ν]?=some (.own r d))(h:G.own b=.slc r p):(callG ρ G w s Z).own b=if p.length<d then .slc ν p else .frz:=by
 simp only[callG,h];rw[zM hk.dist hz,Sbo]
theorem Ka6 (hk:Ia9 s Z){b r d ν:Nat}{q:List (aJ×Nat×Nat)}{X:aJ}{p:List Nat}(hz:Z.rts[ν]?=some (.mu r d q X))(h:G.own b=.slc r p) :
  (callG ρ G w s Z).own b=match strip (bA ρ q) p with|some t'=>if t'.length<d then .slc ν t' else .frz|none=>.oth:=by
 simp only[callG,h];rw[Eaa hk.dist hz,Sbo]
theorem Bac {ν:Nat}{x:RT}(h:Z.rts[ν]?=some x):(callG ρ G w s Z).hdr ν=Hbg ρ G w x:=by
 simp only[callG,h];rfl
theorem Rd.callG (hk:Ia9 s Z){deps:List (Nat×Nat)}(hd:∀ z∈deps,z∈Z.deps){v:Value}{d:D}(h:Rd (allow G deps) w v d):Rd (fun b=>(Go.Proofs.YtgpamlpecmldfaaGreat.Rf.callG ρ G w s Z).own b=.frz) w v d:=by
 refine h.mono fun b hb=>⟨?_,rfl⟩
 rcases hb with hb|⟨r,k,p,hm,hb⟩
 ·exact nS hb
 ·exact Yab hk (hd _ hm) hb
theorem Sal (hg:gOn ρ g=true){A B:Take}{l:aO}(h:(Lam g A l).eval σ=some B){v:Value}(hl:aB σ ρ G w l v) :
  ∃ x,B={ A with xs:=A.xs++[x] }/\Sc v (x.val ρ):=by
 simp only[Lam,aA,Rbt,aV,aC,Rbv]at h;obtain⟨x,h1,rfl⟩:=h;exact⟨x,rfl,jD hg h1 hl⟩
theorem Laq {A B:Take}{nie:Bool}{l:aO}(h:(pK A nie l).eval σ=some B):TLe A B:=by
 simp only[pK,aA,Rbt,aC,Rbv]at h;obtain⟨s,h1,rfl⟩:=h;exact⟨⟨_,rfl⟩,fun _ h=>h,fun _ h=>Rbx _ h,⟨_,rfl⟩,⟨[],by simp⟩⟩
theorem Haw (hR:R E.ntmps F σ ρ a w G)(hg:gOn ρ g=true)(cj:aK cf ρ g nv Z.lets)(hk:Ia9 s Z){A B:Take}{nie:Bool}{l:aO}(h:(pK A nie l).eval σ=some B)(hZ:TLe B Z){v:Value}(hl:aB σ ρ G w l v) :
  Rd (fun b=>(callG ρ G w s Z).own b=.frz) w v ((aJ.v A.xs.length).val (Z.xs.map (·.val ρ)))/\(nie=true->∀ z,(aJ.v A.xs.length).val (Z.xs.map (·.val ρ))=.rows z []->v=.slice none 0 0) /\
  B.xs.length=A.xs.length+1/\B.rts=A.rts:=by
 simp only[pK,aA,Rbt,aC,Rbv]at h;obtain⟨sl,h1,rfl⟩:=h;have hs:=dN hR h1 hl;rw[hZ.get (l:=A.xs) rfl];refine⟨hs.rd.callG hk fun z hz=>hZ.deps _ (Rb0 _ hz),fun hn z hz=>?_,by simp,rfl⟩
 cases zi:sl.nie with
 |true=>exact hs.nie zi z hz
 | false =>
  exfalso;obtain⟨lr,tk⟩:=hZ.lets;dsimp only at tk;rw[tk,hn,zi]at cj;simp only[Bool.not_false,Bool.and_self,cond_true]at cj;rw[Rb3]at cj;have mz:=(aK.append (aK.append cj).2).1;obtain⟨ds,h2,-,-⟩:=step1 mz hg;simp only[Sbk,Sbw,hz,aN.run]at h2;simp at h2
theorem Lan {A B:Take}{d:Nat}{l:aO}(h:(sS A d l).eval σ=some B):TLe A B:=by
 unfold sS at h;split at h
 ·simp only[aA,aS,Rb1]at h
  split at h
  ·simp only[aA,aI,Rbt,aC,Rbv]at h
   obtain⟨_,-,rfl⟩:=h;exact⟨⟨_,rfl⟩,fun _ h=>h,fun _ h=>h,⟨[],by simp⟩,⟨_,rfl⟩⟩
  ·cases h
 ·simp only[aC,Rbv]at h
  subst h;exact⟨⟨_,rfl⟩,fun _ h=>h,fun _ h=>h,⟨[],by simp⟩,⟨_,rfl⟩⟩
 ·cases h
theorem Hat (hR:R E.ntmps F σ ρ a w G)(hk:Ia9 s Z){A B:Take}{d:Nat}{l:aO}(h:(sS A d l).eval σ=some B)(hZ:TLe B Z){v:Value}(hl:aB σ ρ G w l v) :
  v=(callG ρ G w s Z).hdr A.rts.length/\Rp (callG ρ G w s Z).own w A.rts.length [] d v ((aJ.v A.xs.length).val (Z.xs.map (·.val ρ)))/\B.xs.length=A.xs.length+1/\B.rts.length=A.rts.length+1:=by
 unfold sS at h;split at h
 ·rename_i r
  simp only[aA,aS,Rb1]at h;split at h
  ·rename_i x m b9 ru
   simp only[aA,aI,Rbt,aC,Rbv]at h;obtain⟨_,h1,rfl⟩:=h;split at h1
   case isFalse=>cases h1
   rename_i hb;simp only[Tbc]at hb;simp only[aB]at hl;have oq:=hZ.rt (l:=A.rts) rfl;rw[hZ.get (l:=A.xs) rfl];refine⟨by rw[Bac oq];exact hl.1,?_,by simp,by simp⟩;rw[hl.1];have hr:=hR.root ru;simp only[bP]at hr;exact hr.move (fun b hb _=>⟨nS hb,rfl⟩) [] d hb fun b t hb=>⟨by rw[Yaa hk oq hb];rfl,rfl⟩
  ·cases h
 ·rename_i nie z
  simp only[aC,Rbv]at h;subst h;simp only[aB]at hl;have hv:=(hl.2 (by simp)).2.1 trivial z rfl;have oq:=hZ.rt (l:=A.rts) rfl;rw[hZ.get (l:=A.xs) rfl];refine⟨by rw[Bac oq];exact hv,?_,by simp,by simp⟩;rw[hv]
  cases d with
  |zero=>exact .fz (.rows none ⟨0,0,none⟩ 0 0 z [] (fun _ _=>undef) rfl (Sbg _) (.inl rfl) (by simp) (by simp) (by simp))
  |succ m=>exact .sl none ⟨0,0,none⟩ 0 0 z [] (fun _ _=>undef) rfl (Sbg _) (.inr ⟨rfl,rfl⟩) (by simp) (fun e=>by cases e) (by simp) (by simp)
 ·cases h
theorem Uaw {A B:Take}{d:Nat}{l:aO}(h:(Hav A d l).eval σ=some B):TLe A B:=by
 simp only[Hav,aA,Rbt]at h;obtain⟨sl,h1,h⟩:=h;split at h
 ·simp only[aA,aI,aS,Rb1,Rbt]at h
  obtain⟨_,-,h⟩:=h;split at h
  ·simp only[aC,Rbv]at h
   subst h;exact⟨⟨_,rfl⟩,fun _ h=>h,fun _ h=>h,⟨[],by simp⟩,⟨_,rfl⟩⟩
  ·cases h
 ·cases h
theorem Sao (hR:R E.ntmps F σ ρ a w G)(hk:Ia9 s Z){A B:Take}{d:Nat}{l:aO}(h:(Hav A d l).eval σ=some B)(hZ:TLe B Z){v:Value}(hl:aB σ ρ G w l v) :
  v=(callG ρ G w s Z).hdr A.rts.length/\Rp (callG ρ G w s Z).own w A.rts.length [] d v ((aJ.v A.xs.length).val (Z.xs.map (·.val ρ)))/\B.xs.length=A.xs.length+1/\B.rts.length=A.rts.length+1:=by
 simp only[Hav,aA,Rbt]at h;obtain⟨sl,h1,h⟩:=h;have hs:=dN hR h1 hl;split at h
 case h_2=>cases h
 rename_i r k m q ho;simp only[aA,aI,aS,Rb1,Rbt]at h;obtain⟨_,h2,h⟩:=h;split at h2
 case isFalse=>cases h2
 rename_i hb;simp only[Tbc]at hb;split at h
 case h_2=>cases h
 rename_i X m' v' ru;simp only[aC,Rbv]at h;subst h;have bz:=hs.own;unfold tJ at bz;rw[ho]at bz;obtain⟨h3,h4,h5,h6,h7⟩:=bz;have oq:=hZ.rt (l:=A.rts) rfl;rw[hZ.get (l:=A.xs) rfl];refine⟨by rw[Bac oq];exact (Baw h7).symm,?_,by simp,by simp⟩;refine h6.move (fun b hb _=>⟨nS hb,rfl⟩) [] d (by omega) fun b t hb=>⟨?_,rfl⟩
 rw[Ka6 hk oq hb,Cat];rfl
theorem Uau {A B:Take}{z:Nat}{l:aO}(h:(Eau A z l).eval σ=some B):TLe A B:=by
 unfold Eau at h;split at h
 ·simp only[aA,Rbt,aC,Rbv]at h
  obtain⟨_,-,rfl⟩:=h;exact⟨⟨_,rfl⟩,fun _ h=>h,fun _ h=>Rbx _ h,⟨[],by simp⟩,⟨[],by simp⟩⟩
 ·simp only[aC,Rbv]at h
  subst h;exact⟨⟨_,rfl⟩,fun _ h=>h,fun _ h=>h,⟨[],by simp⟩,⟨[],by simp⟩⟩
 ·cases h
theorem Sam (hR:R E.ntmps F σ ρ a w G)(hk:Ia9 s Z){A B:Take}{z:Nat}{l:aO}(h:(Eau A z l).eval σ=some B)(hZ:TLe B Z){v:Value}(hl:aB σ ρ G w l v) :
  v.oneCell'=true/\Yak (fun b=>(callG ρ G w s Z).own b=.frz) w v ((aJ.v A.xs.length).val (Z.xs.map (·.val ρ)))/\B.xs.length=A.xs.length+1/\B.rts=A.rts:=by
 unfold Eau at h;split at h
 ·rename_i deps nx x
  simp only[aA,Rbt,aC,Rbv]at h;obtain⟨ds,h1,rfl⟩:=h;simp only[aB]at hl;obtain⟨h3,h4,h5⟩:=iH h1;rw[hZ.get (l:=A.xs) rfl];refine⟨hl.1.1,?_,by simp,rfl⟩
  rcases hl.2 h3 with h6|⟨ad,row,h6,h7,h8⟩
  ·exact .inl h6
  ·exact .inr ⟨ad,row,h6,h7,(h8.drop hR h5).callG hk fun z hz=>hZ.deps _ (Rb0 _ hz)⟩
 ·simp only[aC,Rbv]at h
  subst h;simp only[aB]at hl;rw[hZ.get (l:=A.xs) rfl];exact⟨by rw[hl];rfl,.inl ⟨hl,_,rfl⟩,by simp,rfl⟩
 ·cases h
theorem Na7 (hk:Ia9 s Z){b c off:Nat}(h:(b,c,off)∈Z.ptrs):(callG ρ G w s Z).bx b=(G.bx c).add off/\b<s.boxes.length:=by
 obtain⟨h1,h2⟩:=hk.ptrs b c off h;refine⟨?_,h1⟩;simp only[callG,h2]
theorem Bab:∀ {cs:List LS} {ls:List aO} {acc l:List (Nat×Nat×Nat)},iY cs ls acc=some l->∀ z∈acc,z∈l
 | [], [], acc, l, h, z, hz => by
  simp only[iY,Rbv]at h;rw[<- h];exact hz
 |[],_::_,acc,l,h,z,hz=>by simp[iY]at h
 |c::cs,[],acc,l,h,z,hz=>by cases c<;>simp[iY]at h
 | c :: cs, x :: ls, acc, l, h, z, hz => by
  cases c<;>cases x<;>simp only[iY,reduceCtorEq]at h
  exact Bab h z (Rb7 _ hz)
theorem Baa (hk:Ia9 s Z):∀ {cs:List LS} {ls:List aO} {acc l:List (Nat×Nat×Nat)},iY cs ls acc=some l->(∀ z∈l,z∈Z.ptrs)->∀ {vs:List Value},aG σ ρ G w ls vs->Cak (callG ρ G w s Z) s.boxes.length cs vs
 |[],[],acc,l,h,_,vs,hl=>by simpa[Cak,aG] using hl
 |[],_::_,acc,l,h,_,_,_=>by simp[iY]at h
 |c::cs,[],acc,l,h,_,_,_=>by cases c<;>simp[iY]at h
 | c :: cs, x :: ls, acc, l, h, hz, vs, hl => by
  cases c<;>cases x<;>simp only[iY,reduceCtorEq]at h
  rename_i b c off;simp only[aG]at hl;obtain⟨u,us,rfl,h1,h2⟩:=hl;obtain⟨h3,h4⟩:=Na7 (ρ:=ρ) (G:=G) (w:=w) hk (hz _ (Bab h _ Sbe));simp only[aB]at h1;exact⟨u,us,rfl,⟨by rw[h3];exact h1.1,h4⟩,Baa hk h hz h2⟩
theorem Oav {A B:Take}{t:LS}{l:aO}(h:(qN g A t l).eval σ=some B):TLe A B:=by
 unfold qN at h;split at h
 ·simp only[Lam,aA,Rbt,aC,Rbv]at h
  obtain⟨x,-,rfl⟩:=h;exact⟨⟨_,rfl⟩,fun _ h=>h,fun _ h=>h,⟨[],by simp⟩,⟨[],by simp⟩⟩
 ·exact Laq h
 ·exact Uaw h
 ·exact Lan h
 ·simp only[aC,Rbv]at h
  subst h;exact⟨⟨[],by simp⟩,fun _ h=>Rbx _ h,fun _ h=>h,⟨[],by simp⟩,⟨[],by simp⟩⟩
 ·split at h
  ·rw[gG]at h
   split at h
   ·simp only[aC,Rbv]at h
    subst h;exact⟨⟨[],by simp⟩,fun _ h=>Rbx _ h,fun _ h=>h,⟨[],by simp⟩,⟨[],by simp⟩⟩
   ·cases h
  ·cases h
 ·exact Uau h
 ·cases h
theorem Lao (hR:R E.ntmps F σ ρ a w G)(hg:gOn ρ g=true)(cj:aK cf ρ g nv Z.lets)(hk:Ia9 s Z){A B:Take}{t:LS}{l:aO}(h:(qN g A t l).eval σ=some B)(hZ:TLe B Z){v:Value}(hl:aB σ ρ G w l v) :
  jS (callG ρ G w s Z) w (Z.xs.map (·.val ρ)) s.boxes.length A.xs.length A.rts.length t v/\B.xs.length=A.xs.length+t.cnt/\B.rts.length=A.rts.length+t.rcnt:=by
 unfold qN at h;split at h
 ·obtain⟨x,rfl,h1⟩:=Sal hg h hl
  refine⟨?_,by simp[LS.cnt],rfl⟩;simp only[jS];rw[hZ.get (l:=A.xs) rfl];exact h1
 ·obtain⟨h1,h2,h3,h4⟩:=Haw hR hg cj hk h hZ hl
  exact⟨⟨h1,h2⟩,h3,by rw[h4];rfl⟩
 ·obtain⟨h1,h2,h3,h4⟩:=Sao hR hk h hZ hl
  exact⟨⟨h1,h2⟩,h3,h4⟩
 ·obtain⟨h1,h2,h3,h4⟩:=Hat hR hk h hZ hl
  exact⟨⟨h1,h2⟩,h3,h4⟩
 ·rename_i b c off
  simp only[aC,Rbv]at h;subst h;obtain⟨h1,h2⟩:=Na7 (ρ:=ρ) (G:=G) (w:=w) hk (hZ.ptrs _ (Rb0 _ (Rby.2 rfl)));simp only[aB]at hl;exact⟨⟨by rw[h1];exact hl.1,h2⟩,rfl,rfl⟩
 ·rename_i f cs f' ls
  split at h
  ·rename_i l' hc
   rw[gG]at h;split at h
   ·rename_i hf
    simp only[Sbq]at hf;subst hf;simp only[aC,Rbv]at h;subst h;simp only[aB]at hl;obtain⟨vs,h1,h2⟩:=hl;exact⟨⟨vs,h1,Baa hk hc (fun z hz=>hZ.ptrs _ (Rb0 _ hz)) h2⟩,rfl,rfl⟩
   ·cases h
  ·cases h
 ·obtain⟨h1,h2,h3,h4⟩:=Sam hR hk h hZ hl
  exact⟨⟨h1,h2⟩,h3,by rw[h4];rfl⟩
 ·cases h
theorem qM:∀ {ss:List LS} {ls:List aO} {A B:Take},(dA g A ss ls).eval σ=some B->TLe A B
 | [], [], A, B, h => by
  simp only[dA,aC,Rbv]at h;subst h;exact .refl _
 |[],_::_,A,B,h=>by simp[dA,bN]at h
 |_::_,[],A,B,h=>by simp[dA,bN]at h
 | t :: ss, l :: ls, A, B, h => by
  simp only[dA,aA,Rbt]at h;obtain⟨C,h1,h2⟩:=h;exact (Oav h1).trans (qM h2)
theorem wY (hR:R E.ntmps F σ ρ a w G)(hg:gOn ρ g=true)(cj:aK cf ρ g nv Z.lets)(hk:Ia9 s Z):∀ {ss:List LS} {ls:List aO} {A B:Take},(dA g A ss ls).eval σ=some B->TLe B Z->∀ {vs:List Value},aG σ ρ G w ls vs ->
  qK (callG ρ G w s Z) w (Z.xs.map (·.val ρ)) s.boxes.length A.xs.length A.rts.length ss vs/\B.xs.length=A.xs.length+Uai ss/\B.rts.length=A.rts.length+jG ss
 | [], [], A, B, h, _, vs, hl => by
  simp only[dA,aC,Rbv]at h;subst h;simp only[aG]at hl;exact⟨hl,rfl,rfl⟩
 |[],_::_,A,B,h,_,_,_=>by simp[dA,bN]at h
 |_::_,[],A,B,h,_,_,_=>by simp[dA,bN]at h
 | t :: ss, l :: ls, A, B, h, hZ, vs, hl => by
  simp only[dA,aA,Rbt]at h;obtain⟨C,h1,h2⟩:=h;simp only[aG]at hl;obtain⟨u,us,rfl,h3,h4⟩:=hl;obtain⟨h5,h6,h7⟩:=Lao hR hg cj hk h1 ((qM h2).trans hZ) h3;obtain⟨h8,h9,du⟩:=wY hR hg cj hk h2 hZ h4;rw[h6,h7]at h8;exact⟨⟨u,us,rfl,h5,h8⟩,by rw[h9,h6];simp only[Uai];omega,by rw[du,h7];simp only[jG];omega⟩
theorem Eav:∀ {ps:List (Bool×List LS)} {vs:List SV} {A B:Take},(eG g A ps vs).eval σ=some B->TLe A B
 | [], [], A, B, h => by
  simp only[eG,aC,Rbv]at h;subst h;exact .refl _
 |[],_::_,A,B,h=>by simp[eG,bN]at h
 |_::_,[],A,B,h=>by simp[eG,bN]at h
 | (ag, ss) :: ps, v :: vs, A, B, h => by
  simp only[eG,aA,Rbt]at h;obtain⟨ls,-,C,h1,h2⟩:=h;exact (qM h1).trans (Eav h2)
def qJ (σ:Nat->Option aP)(ρ:List D)(G:Gh)(w:World):List SV->List Value->Prop
 |[],us=>us=[]
 |v::vs,us=>∃ u ee,us=u::ee/\bV σ ρ G w v u/\qJ σ ρ G w vs ee
theorem Hae {ag:Bool}{v:SV}{ls:List aO}{u:Value}(h:jF ag v=some ls)(hv:bV σ ρ G w v u):if ag=true then u=.agg u.cells.toList.toArray else u.cells.toList=[u]:=by
 unfold jF at h;split at h
 ·cases ag with
  |true=>cases h
  | false =>
   rw[aB.cells hv];simp
 ·cases ag with
  |false=>cases h
  | true =>
   obtain⟨us,rfl,-⟩:=hv;simp[Value.cells]
 ·cases h
theorem Cas (hR:R E.ntmps F σ ρ a w G)(hg:gOn ρ g=true)(cj:aK cf ρ g nv Z.lets)(hk:Ia9 s Z):∀ {ps:List (Bool×List LS)} {vs:List SV} {A B:Take},(eG g A ps vs).eval σ=some B->TLe B Z->∀ {us:List Value},qJ σ ρ G w vs us ->
  kN (callG ρ G w s Z) w (Z.xs.map (·.val ρ)) s.boxes.length A.xs.length A.rts.length ps us/\B.xs.length=A.xs.length+Ia2 ps/\B.rts.length=A.rts.length+iQ ps
 | [], [], A, B, h, _, us, hl => by
  simp only[eG,aC,Rbv]at h;subst h;simp only[qJ]at hl;exact⟨hl,rfl,rfl⟩
 |[],_::_,A,B,h,_,_,_=>by simp[eG,bN]at h
 |_::_,[],A,B,h,_,_,_=>by simp[eG,bN]at h
 | (ag, ss) :: ps, v :: vs, A, B, h, hZ, us, hl => by
  simp only[eG,aA,Rbt,aV]at h;obtain⟨ls,h0,C,h1,h2⟩:=h;obtain⟨u,ee,rfl,h3,h4⟩:=hl;obtain⟨h5,h6,h7⟩:=wY hR hg cj hk h1 ((Eav h2).trans hZ) (gT h0 h3);obtain⟨h8,h9,du⟩:=Cas hR hg cj hk h2 hZ h4;rw[h6,h7]at h8;exact⟨⟨u,ee,_,rfl,h5,Hae h0 h3,h8⟩,by rw[h9,h6];simp only[Ia2];omega,by rw[du,h7];simp only[iQ];omega⟩
end
theorem sH {wr:Bool}{ptrs:List (Nat×Nat×Nat)}:∀ {bs:List (Bool×List (BS×BO))} {b j c off:Nat} {cs:List (BS×BO)},bs[j]?=some (wr,cs)->nE (b+j) ptrs=some (c,off)->c∈gZ wr ptrs b bs
 |[],b,j,c,off,cs,h,_=>by simp at h
 | (ro, ds) :: bs, b, 0, c, off, cs, h, hp => by
  simp only[Rb2,Rbv,Sbj]at h;rw[Sbz]at hp;simp only[gZ,h.1,hp];simp
 | (ro, ds) :: bs, b, j + 1, c, off, cs, h, hp => by
  have:=sH (bs:=bs) (b:=b+1) (j:=j) (by simpa using h) (by rw[show b+1+j=b+(j+1) by omega];exact hp);simp only[gZ]
  cases (ro==wr) with
  |false=>exact this
  | true =>
   simp only[cond_true];split
   ·exact Rb7 _ this
   ·exact this
theorem zI {ptrs:List (Nat×Nat×Nat)}{c:Nat}:∀ {bs:List (Bool×List (BS×BO))} {b:Nat},c∉gZ false ptrs b bs->Pae ptrs c b bs=none
 |[],b,h=>rfl
 | (ro, cs) :: bs, b, h => by
  simp only[gZ]at h;simp only[Pae]
  cases ro with
  |true=>simp only[if_true];exact zI h
  | false =>
   simp only[Sbb,if_false];have e:(false==false)=true:=rfl;rw[e,cond_true]at h;split
   ·rename_i c' off hp
    rw[hp]at h;simp only[Rb4,not_or]at h;rw[if_neg fun e=>h.1 e.symm];exact zI h.2
   ·rename_i hp
    rw[hp]at h;exact zI h
theorem pQ {ptrs:List (Nat×Nat×Nat)}{c off:Nat}{cs:List (BS×BO)}:∀ {bs:List (Bool×List (BS×BO))} {b j:Nat},distinct (gZ false ptrs b bs)=true->bs[j]?=some (false,cs)->nE (b+j) ptrs=some (c,off)->Pae ptrs c b bs=some (b+j)
 |[],b,j,_,h,_=>by simp at h
 | (ro, ds) :: bs, b, 0, hd, h, hp => by
  simp only[Rb2,Rbv,Sbj]at h;rw[Sbz]at hp;simp only[Pae,h.1,hp];simp
 | (ro, ds) :: bs, b, j + 1, hd, h, hp => by
  have p5:nE (b+1+j) ptrs=some (c,off):=by rw[show b+1+j=b+(j+1) by omega];exact hp
  have hm:=sH (wr:=false) (bs:=bs) (b:=b+1) (j:=j) (by simpa using h) p5;simp only[gZ]at hd;simp only[Pae]
  cases ro with
  | true =>
   have e:(true==false)=false:=rfl;rw[e,cond_false]at hd;simp only[if_true];rw[pQ hd (by simpa using h) p5,show b+1+j=b+(j+1) by omega]
  | false =>
   have e:(false==false)=true:=rfl;rw[e,cond_true]at hd;simp only[Sbb,if_false];split
   ·rename_i c' lk hp2
    rw[hp2]at hd;simp only[distinct,Rbu,Sbl]at hd;have dk:c'≠c:=fun e=>by rw[<- e,<- kY,hd.1]at hm;cases hm
    rw[if_neg dk,pQ hd.2 (by simpa using h) p5,show b+1+j=b+(j+1) by omega]
   ·rename_i hp2
    rw[hp2]at hd;rw[pQ hd (by simpa using h) p5,show b+1+j=b+(j+1) by omega]
theorem Da8 {ptrs:List (Nat×Nat×Nat)}{c x:Nat}:∀ {bs:List (Bool×List (BS×BO))} {b:Nat},Pae ptrs c b bs=some x->∃ j cs off,x=b+j/\bs[j]?=some (false,cs)/\nE x ptrs=some (c,off)
 |[],b,h=>by simp[Pae]at h
 | (ro, cs) :: bs, b, h => by
  simp only[Pae]at h
  have next:Pae ptrs c (b+1) bs=some x->∃ j oo off,x=b+j/\((ro,cs)::bs)[j]?=some (false,oo)/\nE x ptrs=some (c,off):=by
   intro h;obtain⟨j,oo,off,h1,h2,h3⟩:=Da8 h;exact⟨j+1,oo,off,by omega,by simpa using h2,h3⟩
  split at h
  ·exact next h
  ·rename_i ql
   split at h
   ·rename_i c' off hp
    split at h
    ·rename_i e
     subst e;obtain rfl:=Sbs h;refine⟨0,cs,off,rfl,?_,hp⟩
     cases ro with
     |true=>exact absurd rfl ql
     |false=>rfl
    ·exact next h
   ·exact next h
section
variable {E:Env} {F:bE} {σ:Nat->Option aP} {ρ:List D} {a:Act} {w:World} {G:Gh} {g:Option (aJ×Bool)} {cf:Nat->List D->Option (List D)} {s:Sig} {Z:Take} {nv:Nat}
theorem Oat {A B:Take}{d:Nat}{l:aO}(h:(sS A d l).eval σ=some B):B.ptrs=A.ptrs:=by
 unfold sS at h;split at h
 ·simp only[aA,aS,Rb1]at h
  split at h
  ·simp only[aA,aI,Rbt,aC,Rbv]at h
   obtain⟨_,-,rfl⟩:=h;rfl
  ·cases h
 ·simp only[aC,Rbv]at h
  subst h;rfl
 ·cases h
theorem nY {A B:Take}{t:BS}{l:aO}(h:(yV A t l).eval σ=some B):(∃ x,t=.sc/\l=.sc x/\B={ A with xs:=A.xs++[x] })\/(∃ nie,t=.fz nie/\(pK A nie l).eval σ=some B)\/(∃ d,t=.ow d/\(sS A d l).eval σ=some B)\/(t=.ot/\Law l=true/\B=A):=by
 cases t with
 | sc =>
  cases l<;>simp only[yV,bN,reduceCtorEq]at h
  simp only[aC,Rbv]at h;exact .inl ⟨_,rfl,rfl,h.symm⟩
 | fz nie =>
  have h':(pK A nie l).eval σ=some B:=by cases l<;>exact h
  exact .inr (.inl ⟨nie,rfl,h'⟩)
 | ow d =>
  have h':(sS A d l).eval σ=some B:=by cases l<;>exact h
  exact .inr (.inr (.inl ⟨d,rfl,h'⟩))
 | ot =>
  have h':(bif Law l then RdM.ret A else .no:RdM Take).eval σ=some B:=by cases l<;>exact h
  rw[gG]at h';split at h'
  ·rename_i hb
   simp only[aC,Rbv]at h';exact .inr (.inr (.inr ⟨rfl,hb,h'.symm⟩))
  ·cases h'
theorem Oaw {A B:Take}{t:BS}{l:aO}(h:(yV A t l).eval σ=some B):TLe A B/\B.ptrs=A.ptrs:=by
 have hinv:=nY h;clear h
 rcases hinv with ⟨x,rfl,rfl,rfl⟩|⟨nie,rfl,h⟩|⟨d,rfl,h⟩|⟨rfl,-,rfl⟩
 ·exact⟨⟨⟨_,rfl⟩,fun _ h=>h,fun _ h=>h,⟨[],by simp⟩,⟨[],by simp⟩⟩,rfl⟩
 ·refine⟨Laq h,?_⟩
  unfold pK at h;simp only[aA,Rbt,aC,Rbv]at h;obtain⟨s,h1,rfl⟩:=h;rfl
 ·exact⟨Lan h,Oat h⟩
 ·exact⟨.refl _,rfl⟩
theorem Lar (hR:R E.ntmps F σ ρ a w G)(hg:gOn ρ g=true)(cj:aK cf ρ g nv Z.lets)(hk:Ia9 s Z){A B:Take}{t:BS}{l:aO}(h:(yV A t l).eval σ=some B)(hZ:TLe B Z){v:Value}(hl:aB σ ρ G w l v) :
  vP (callG ρ G w s Z) w (Z.xs.map (·.val ρ)) A.xs.length A.rts.length t v/\B.xs.length=A.xs.length+t.cnt/\B.rts.length=A.rts.length+t.rcnt:=by
 have hinv:=nY h;clear h
 rcases hinv with ⟨x,rfl,rfl,rfl⟩|⟨nie,rfl,h⟩|⟨d,rfl,h⟩|⟨rfl,hs,rfl⟩
 ·refine⟨?_,by simp[BS.cnt],rfl⟩
  simp only[vP];rw[hZ.get (l:=A.xs) rfl];simpa[aB] using hl
 ·obtain⟨h1,h2,h3,h4⟩:=Haw hR hg cj hk h hZ hl
  exact⟨⟨h1,h2⟩,h3,by rw[h4];rfl⟩
 ·obtain⟨h1,h2,h3,h4⟩:=Hat hR hk h hZ hl
  exact⟨⟨h1,h2⟩,h3,h4⟩
 ·exact⟨hl.one hs,rfl,rfl⟩
theorem nX:∀ {ss:List (BS×BO)} {ls:List aO} {A B:Take},(dQ A ss ls).eval σ=some B->TLe A B/\B.ptrs=A.ptrs
 | [], ls, A, B, h => by
  simp only[dQ,aC,Rbv]at h;subst h;exact⟨.refl _,rfl⟩
 |_::_,[],A,B,h=>by simp[dQ,bN]at h
 | (t, o) :: ss, l :: ls, A, B, h => by
  simp only[dQ,aA,Rbt]at h;obtain⟨C,h1,h2⟩:=h;obtain⟨h3,h4⟩:=Oaw h1;obtain⟨h5,h6⟩:=nX h2;exact⟨h3.trans h5,h6.trans h4⟩
theorem yT (hR:R E.ntmps F σ ρ a w G)(hg:gOn ρ g=true)(cj:aK cf ρ g nv Z.lets)(hk:Ia9 s Z){ad:Addr}:∀ {ss:List (BS×BO)} {ls:List aO} {A B:Take} {off:Nat},(dQ A ss ls).eval σ=some B->TLe B Z ->
  (∀ j l,ls[j]?=some l->∃ v,w.cell? (ad.add (off+j))=some v/\w.frozen? (ad.add (off+j))=false/\aB σ ρ G w l v) ->
  Eam (callG ρ G w s Z) w (Z.xs.map (·.val ρ)) ad off A.xs.length A.rts.length ss/\B.xs.length=A.xs.length+Yar ss/\B.rts.length=A.rts.length+uG ss
 | [], ls, A, B, off, h, _, _ => by
  simp only[dQ,aC,Rbv]at h;subst h;exact⟨trivial,rfl,rfl⟩
 |_::_,[],A,B,off,h,_,_=>by simp[dQ,bN]at h
 | (t, o) :: ss, l :: ls, A, B, off, h, hZ, hl => by
  simp only[dQ,aA,Rbt]at h;obtain⟨C,h1,h2⟩:=h;obtain⟨v,h3,h4,h5⟩:=hl 0 l rfl;obtain⟨h6,h7,h8⟩:=Lar hR hg cj hk h1 ((nX h2).1.trans hZ) h5
  obtain⟨h9,du,eC⟩:=yT hR hg cj hk (off:=off+1) h2 hZ fun j l' hj=>by
   have:=hl (j+1) l' (by simpa using hj);rwa[show off+(j+1)=off+1+j by omega]at this
  rw[h7,h8]at h9;exact⟨⟨⟨v,h3,h4,h6⟩,h9⟩,by rw[du,h7];simp only[Yar];omega,by rw[eC,h8];simp only[uG];omega⟩
def Pbh (σ:Nat->Option aP)(ptrs:List (Nat×Nat×Nat))(b:Nat)(ro:Bool)(cs:List (BS×BO)):Prop :=
 ∃ c off l8 ls,nE b ptrs=some (c,off)/\σ (kB c)=some (.box l8 ls)/\off+cs.length<=ls.length/\(ro=false->l8=false/\0<cs.length)
theorem jU {ptrs:List (Nat×Nat×Nat)}:∀ {bs:List (Bool×List (BS×BO))} {b:Nat} {A B:Take},(eD ptrs A b bs).eval σ=some B->TLe A B/\B.ptrs=A.ptrs/\∀ j ro cs,bs[j]?=some (ro,cs)->Pbh σ ptrs (b+j) ro cs
 | [], b, A, B, h => by
  simp only[eD,aC,Rbv]at h;subst h;exact⟨.refl _,rfl,by simp⟩
 | (ro, cs) :: bs, b, A, B, h => by
  simp only[eD]at h;split at h
  case h_2=>cases h
  rename_i c off hp;simp only[aA,aS,Rb1]at h;split at h
  case h_2=>cases h
  rename_i l8 ls pg;simp only[aA,aI,Rbt]at h;obtain⟨_,h0,C,h1,h2⟩:=h;split at h0
  case isFalse=>cases h0
  rename_i hb;simp only[Rbu,Tbk,Sbl,Tbc]at hb;obtain⟨h3,h4⟩:=nX h1;obtain⟨h5,h6,h7⟩:=jU h2;refine⟨h3.trans h5,h6.trans h4,fun j ro2 cs2 hj=>?_⟩
  cases j with
  | zero =>
   simp only[Rb2,Rbv,Sbj]at hj;obtain⟨rfl,rfl⟩:=hj;refine⟨c,off,l8,ls,hp,pg,hb.2,fun e=>?_⟩
   rcases hb.1 with h8|h8
   ·rw[e]at h8;cases h8.1
   ·refine⟨h8.1.2,?_⟩
    cases cs with
    |nil=>have:=h8.2;simp at this
    |cons=>simp
  | succ j =>
   rw[show b+(j+1)=b+1+j by omega];exact h7 j ro2 cs2 (by simpa using hj)
theorem Saa {ad:Addr}{n:Nat}(h:ad.spot=none):(ad.add n).spot=none:=by
 unfold Addr.add;split
 ·exact h
 ·rfl
theorem Qad {ad:Addr}{n:Nat}:(ad.add n).off=ad.off+n:=by
 unfold Addr.add;split
 ·rename_i h;rw[h];rfl
 ·rfl
theorem yX (hR:R E.ntmps F σ ρ a w G)(hg:gOn ρ g=true)(cj:aK cf ρ g nv Z.lets)(hk:Ia9 s Z):∀ {bs:List (Bool×List (BS×BO))} {b:Nat} {A B:Take},(∀ j x,bs[j]?=some x->s.boxes[b+j]?=some x)->(eD Z.ptrs A b bs).eval σ=some B->TLe B Z ->
  Ean (callG ρ G w s Z) w (Z.xs.map (·.val ρ)) b A.xs.length A.rts.length bs/\B.xs.length=A.xs.length+Yas bs
 | [], b, A, B, _, h, _ => by
  simp only[eD,aC,Rbv]at h;subst h;exact⟨trivial,rfl⟩
 | (ro, cs) :: bs, b, A, B, zt, h, hZ => by
  simp only[eD]at h;split at h
  case h_2=>cases h
  rename_i c off hp;simp only[aA,aS,Rb1]at h;split at h
  case h_2=>cases h
  rename_i l8 ls pg;simp only[aA,aI,Rbt]at h;obtain⟨_,h0,C,h1,h2⟩:=h;split at h0
  case isFalse=>cases h0
  rename_i hb;simp only[Rbu,Tbk,Sbl,Tbc]at hb;have hCZ:=(jU h2).1.trans hZ;obtain⟨h3,h4,h5⟩:=hR.box pg;have gw:(callG ρ G w s Z).bx b=(G.bx c).add off:=by simp only[callG,hp]
  have q0:=zt 0 _ rfl;rw[Sbz]at q0;have p5:nE (0+b) Z.ptrs=some (c,off):=by rw[Sbo];exact hp
  obtain⟨h6,h7,h8⟩:=yT hR hg cj hk (ad:=(G.bx c).add off) (off:=0) h1 hCZ fun j l hj=>by
   rw[Sby]at hj;obtain⟨v,h9,du,eC⟩:=h5 _ l hj;exact⟨v,by rw[add_add,Sbo];exact h9,by rw[add_add,Sbo];exact du,eC⟩
  obtain⟨h9,du⟩:=yX hR hg cj hk (b:=b+1) (fun j x hj=>by
   rw[show b+1+j=b+(j+1) by omega];exact zt (j+1) x (by simpa using hj)) h2 hZ
  rw[h7,h8]at h9;refine⟨⟨by rw[gw];exact Saa h3,?_,by rw[gw];exact h6,h9⟩,by rw[du,h7];simp only[Yas];omega⟩;rw[gw,add_block]
  cases ro with
  | true =>
   simp only[if_true];have hm:=sH (wr:=true) q0 p5
   cases l8 with
   |true=>simp only[callG,h4,if_true]
   | false =>
    simp only[Sbb,if_false]at h4;simp only[callG,h4];rw[zI fun qc=>nH hk.ro qc hm]
  | false =>
   simp only[Sbb,if_false]
   rcases hb.1 with eC|eC
   ·cases eC.1
   ·have ql:l8=false:=eC.1.2
    subst ql;simp only[Sbb,if_false]at h4;simp only[callG,h4];rw[pQ hk.wr q0 p5];simp
theorem Bb4 (hR:R E.ntmps F σ ρ a w G)(hg:gOn ρ g=true)(cj:aK cf ρ g nv Z.lets)(hk:Ia9 s Z){T:Take}{vs:List SV}(h1:(eG g Take.empty s.params vs).eval σ=some T)(h2:(eD T.ptrs T 0 s.boxes).eval σ=some Z)
  {us:List Value} (hu:qJ σ ρ G w vs us):Cbh s us w (callG ρ G w s Z) (Z.xs.map (·.val ρ)):=by
 obtain⟨h3,h4,h5⟩:=jU h2;obtain⟨h6,h7,h8⟩:=Cas hR hg cj hk h1 h3 hu;rw[<- h4]at h2;obtain⟨h9,du⟩:=yX hR hg cj hk (by simp) h2 (.refl _);have e1:Take.empty.xs.length=0:=rfl;have e2:Take.empty.rts.length=0:=rfl;rw[e1,e2]at h6;rw[e1,Sbo]at h7;rw[e2,Sbo]at h8;rw[h7,h8]at h9;refine⟨h6,h9,by rw[Sbr,du,h7],fun b hb=>nS (hR.frame.fresh b hb),fun b j hb hj=>?_⟩
 cases e:G.own b with
 | slc r p =>
  exfalso;simp only[callG,e]at hj
  have:∀ (rts:List RT) (ν:Nat),kW ρ (Z.deps.map (·.1)) ν rts r p≠.box j:=by
   intro rts
   induction rts with
   |nil=>intro ν h;simp only[kW]at h;split at h<;>cases h
   | cons x t ih =>
    intro ν h
    cases x with
    |nil=>exact ih _ h
    | own s d =>
     simp only[kW]at h;split at h
     ·split at h<;>cases h
     ·exact ih _ h
    | mu s d q X =>
     simp only[kW]at h;split at h
     ·split at h
      ·split at h<;>cases h
      ·cases h
     ·exact ih _ h
  exact this _ _ hj
 | box c =>
  simp only[callG,e]at hj;split at hj
  case h_2=>cases hj
  rename_i x hx;split at hj
  case isFalse=>cases hj
  rename_i vp
  injection hj with hj
  subst hj;obtain⟨j,cs,off,e1,e2,e3⟩:=Da8 hx;rw[Sbo]at e1;subst e1;refine⟨(Rbw.1 e2).1,?_⟩;rw[h4]at e3;have:=h5 x _ _ e2;rw[Sbo]at this;obtain⟨c',lk,l8,ls,eC,gi,jm,lg⟩:=this;rw[e3]at eC;obtain⟨rfl,rfl⟩:c=c'/\off=lk:=by simpa using eC
  obtain⟨-,-,nc⟩:=hR.box gi;have aw:0<ls.length:=by have:=(lg rfl).2;omega
  obtain⟨v,nf,-,-⟩:=nc 0 _ (Rbz aw);rw[vp];unfold World.cell? at nf;rw[add_block]at nf
  cases hh:w.heap[(G.bx c).block]? with
  |none=>rw[hh]at nf;cases nf
  | some k9 =>
   rw[hh]at nf
   cases k9 with
   |cells c0 e fr=>exact⟨c0,e,fr,rfl⟩
   |_=>simp at nf
 |frz=>rw[nS e]at hj;cases hj
 |oth=>simp only[callG,e]at hj;cases hj
end
def Kal:Ow->Bool
 |.slc _ _=>true
 |_=>false
def lX (r:Nat):List RT->Option RT
 |[]=>none
 |.nil::t=>lX r t
 |.own s d::t=>if r=s then some (.own s d) else lX r t
 |.mu s d q X::t=>if r=s then some (.mu s d q X) else lX r t
def xZ (ρ:List D)(rts:List RT):Ow->Ow
 | .slc r p => match lX r rts with
  |some (.own _ _)=>.frz
  | some (.mu _ d q _) => match strip (bA ρ q) p with
   |some t=>if t.length<d then .slc r p else .frz
   |none=>.slc r p
  |_=>.slc r p
 |o=>o
def sJ (gd:Bool)(ρ:List D)(nr nb nbx:Nat)(mus:List RT):Ow->Ow
 | .slc t p => if t % 2 = 0 then (if gd = true then .frz else if t / 2 < bR then .slc (nr + t / 2) p else .oth) else (match mus[t / 2]? with
  |some (.mu r _ q _)=>.slc r (bA ρ q++p)
  |_=>.oth)
 |.box β=>if β=nbx then .box nb else .oth
 |o=>o
def eT (gd:Bool)(ρ:List D)(G:Gh)(w:World)(s:Sig)(Z:Take)(nr nb:Nat)(own':Nat->Ow)(hs:List Value)(adn:Addr):Gh:={
 own:=fun b=>if b<w.heap.size/\Kal ((callG ρ G w s Z).own b)=false then xZ ρ Z.rts (G.own b) else sJ gd ρ nr nb s.boxes.length (Z.rts.filter uR) (own' b)
 hdr:=fun r=>if nr<=r/\r<nr+bR then hs.getD (r-nr) undef else G.hdr r
 bx:=fun b=>if b=nb then adn else G.bx b }
theorem rG {r:Nat}:∀ {rts:List RT},r∉bW rts->lX r rts=none
 |[],_=>rfl
 |.nil::t,h=>rG (rts:=t) h
 | .own s d :: t, h => by
  simp only[bW,Rb4,not_or]at h;simp only[lX,if_neg h.1];exact rG h.2
 | .mu s d q X :: t, h => by
  simp only[bW,Rb4,not_or]at h;simp only[lX,if_neg h.1];exact rG h.2
theorem rF {r:Nat}:∀ {rts:List RT},r∈bW rts->∃ (ν:Nat) (x:RT),rts[ν]?=some x/\lX r rts=some x/\((∃ d,x=.own r d)\/∃ d q X,x=.mu r d q X)
 |[],h=>by simp[bW]at h
 | .nil :: t, h => by
  obtain⟨ν,x,h1,h2⟩:=rF (rts:=t) h;exact⟨ν+1,x,by simpa using h1,h2⟩
 | .own s d :: t, h => by
  by_cases e:r=s
  ·subst e
   exact⟨0,_,rfl,by simp[lX],.inl ⟨d,rfl⟩⟩
  ·simp only[bW,Rb4,e,false_or]at h
   obtain⟨ν,x,h1,h2⟩:=rF h;exact⟨ν+1,x,by simpa using h1,by simp only[lX,if_neg e];exact h2⟩
 | .mu s d q X :: t, h => by
  by_cases e:r=s
  ·subst e
   exact⟨0,_,rfl,by simp[lX],.inr ⟨d,q,X,rfl⟩⟩
  ·simp only[bW,Rb4,e,false_or]at h
   obtain⟨ν,x,h1,h2⟩:=rF h;exact⟨ν+1,x,by simpa using h1,by simp only[lX,if_neg e];exact h2⟩
theorem zN {r d:Nat}{q:List (aJ×Nat×Nat)}{X:aJ}:∀ {rts:List RT} {ν:Nat},distinct (bW rts)=true->rts[ν]?=some (.mu r d q X)->lX r rts=some (.mu r d q X)
 |[],ν,_,h=>by simp at h
 | x :: t, 0, hd, h => by
  simp only[Rb2,Rbv]at h;subst h;simp[lX]
 | x :: t, ν + 1, hd, h => by
  simp only[Sb4]at h;have hm:=rD (.inr ⟨d,q,X,h⟩)
  cases x with
  |nil=>exact zN (rts:=t) hd h
  | own s d' =>
   simp only[bW,distinct,Rbu,Sbl]at hd;have dk:r≠s:=fun e=>by rw[e,<- kY,hd.1]at hm;cases hm
   simp only[lX,if_neg dk];exact zN hd.2 h
  | mu s d' q' X' =>
   simp only[bW,distinct,Rbu,Sbl]at hd;have dk:r≠s:=fun e=>by rw[e,<- kY,hd.1]at hm;cases hm
   simp only[lX,if_neg dk];exact zN hd.2 h
theorem Da9 {ρ:List D}{dr:List Nat}{r:Nat}{p:List Nat}:∀ (rts:List RT) (ν:Nat),(∃ ν' t,kW ρ dr ν rts r p=.slc ν' t)\/kW ρ dr ν rts r p=.frz\/kW ρ dr ν rts r p=.oth
 | [], ν => by
  simp only[kW];split
  ·exact .inr (.inl rfl)
  ·exact .inr (.inr rfl)
 |.nil::t,ν=>Da9 t (ν+1)
 | .own s d :: t, ν => by
  simp only[kW];split
  ·split
   ·exact .inl ⟨_,_,rfl⟩
   ·exact .inr (.inl rfl)
  ·exact Da9 t (ν+1)
 | .mu s d q X :: t, ν => by
  simp only[kW];split
  ·split
   ·split
    ·exact .inl ⟨_,_,rfl⟩
    ·exact .inr (.inl rfl)
   ·exact .inr (.inr rfl)
  ·exact Da9 t (ν+1)
theorem Rp.remap {own own':Nat->Ow}{w:World}{r r':Nat}{q q':List Nat}{p:List Nat}{m:Nat}{v:Value}{d:D}(h:Rp own w r p m v d)
  (hs:∀ b t,own b=.slc r (q++t)->own' b=.slc r' (q'++t)):∀ s,p=q++s->((∀ b,own b=.frz->b<w.heap.size->own' b=.frz)\/nO m d=true)->Rp own' w r' (q'++s) m v d:=by
 induction h with
 |sc h=>exact fun _ _ _=>.sc h
 |hole v h1=>exact fun _ _ _=>.hole v h1
 | fz h =>
  intro s _ hz
  rcases hz with hz|hz
  ·exact .fz (h.mono' fun b hb aw=>⟨hz b hb aw,rfl⟩)
  ·cases h with
   |sc h=>exact .sc h
   |hole _ h1=>exact .hole _ h1
   |rows=>simp[nO,D.isSc]at hz
 | sl A a n c sz rs vs hn hc hA ef bz cu cL ih =>
  rename_i p m;intro s hp hz;refine .sl A a n c sz rs vs hn hc hA ef (fun e=>?_) cu (fun i row hi j d hj=>?_)
  ·obtain⟨h1,h2,h3⟩:=bz e
   rw[hp]at h2;exact⟨h1,hs _ _ h2,h3⟩
  ·have:=ih i row hi j d hj (s++[i*sz+j]) (by rw[hp,Rb3]) (hz.imp id fun hz=>by
    simp only[nO,Sbp]at hz;exact hz row (Sba hi) d (Sba hj))
   rwa[<- Rb3]at this
theorem Rp.updM {own own':Nat->Ow}{w w':World}{r M:Nat}{full:List Nat}{y:D}{u:Value}
  (hz:∀ b,own b=.frz->b<w.heap.size->own' b=.frz/\w'.heap[b]?=w.heap[b]?)
  (hs:∀ b t,own b=.slc r t->¬ full <+: t->own' b=.slc r t/\w'.heap[b]?=w.heap[b]?)
  (hM:full.length<=M) (ij:Rp own' w' r full (M-full.length) u y) :
  ∀ (p q:List Nat) (v:Value) (x x':D),full=q++p->Rp own w r q (M-q.length) v x->wW own w r q v p u->Upd p x y x'->Rp own' w' r q (M-q.length) v x'
 | [], q, v, x, x', hf, hx, hn, hu => by
  cases hu;simp only[wW]at hn;rw[Sbu]at hf;subst hf hn;exact ij
 | k :: p, q, v, x, x', hf, hx, hn, hu => by
  generalize hk:k::p=kp at hu
  cases hu with
  |here=>cases hk
  | down sz rs i j row z z' y p' hi hj hu =>
   obtain⟨rfl,rfl⟩:=List.cons.inj hk;have hlen:full.length=q.length+(p.length+1):=by rw[hf];simp
   obtain⟨m,hm⟩:∃ m,M-q.length=m+1:=⟨M-q.length-1,by omega⟩;rw[hm]at hx;rw[hm];obtain⟨A,a,n,c,vs,rfl,h1,h2,h3,h4,h5,h6,h7⟩:=hx.sl_inv;have oy:i<rs.length:=(Rbw.1 hi).1
   have hA:A=some a:=by
    rcases h3 with e|⟨e,e'⟩
    ·exact e
    ·omega
   subst hA;obtain⟨h8,h9,du⟩:=h5 rfl;obtain⟨a',n',c',u',e1,e2,e3,e4⟩:=hn;obtain⟨rfl,rfl,rfl⟩:a=a'/\n=n'/\c=c':=by injection e1 with a b c;exact⟨Sbs a,b,c⟩
   have iu:=h6 i row hi j z hj;rw[iu]at e3;obtain rfl:=Sbs e3
   have hq:¬ full <+: q:=by
    intro e;have:=e.length_le;omega
   obtain⟨fv,cI⟩:=hs _ _ h9 hq;have pc:∀ k,w'.cell? (a.add k)=w.cell? (a.add k):=fun k=>fO (w:=w) (w':=w') (by rw[add_block];exact cI)
   have pH:∀ k,fzq w' (a.add k)=fzq w (a.add k):=fun k=>Aao (w:=w) (w':=w') (by rw[add_block];exact cI)
   have cL:=Rp.updM hz hs hM ij p (q++[i*sz+j]) (vs i j) z z' (by rw[hf];simp) (by
    have:=h7 i row hi j z hj;rwa[show M-(q++[i*sz+j]).length=m by simp;omega]) e4 hu
   rw[show M-(q++[i*sz+j]).length=m by simp;omega]at cL;have k7:row.length=sz:=h4 row (Sba hi);have aw:j<sz:=by rw[<- k7];exact (Rbw.1 hj).1
   have nq:∀ i' fy,(rs.set i (row.set j z'))[i']?=some fy->∀ j' d,fy[j']?=some d->(i'=i/\j'=j/\d=z')\/(∃ row0,rs[i']?=some row0/\row0[j']?=some d/\¬ (i'=i/\j'=j)):=by
    intro i' fy gy j' d jf;rw[Tb0]at gy;by_cases qd:i=i'
    ·subst qd
     rw[if_pos rfl,if_pos oy]at gy;obtain rfl:=Sbs gy;rw[Tb0]at jf;by_cases uh:j=j'
     ·subst uh
      rw[if_pos rfl,if_pos (by omega)]at jf;exact .inl ⟨rfl,rfl,(Sbs jf).symm⟩
     ·rw[if_neg uh]at jf
      exact .inr ⟨row,hi,jf,fun e=>uh e.2.symm⟩
    ·rw[if_neg qd]at gy
     exact .inr ⟨fy,gy,jf,fun e=>qd e.1.symm⟩
   refine .sl _ a n c sz _ vs (by simpa using h1) h2 (.inl rfl) (fun fy hr=>?_) (fun _=>⟨h8,fv,fun k hk=>?_⟩) (fun i' fy gy j' d jf=>?_) (fun i' fy gy j' d jf=>?_)
   ·rcases List.mem_or_eq_of_mem_set hr with hr|rfl
    ·exact h4 _ hr
    ·simpa using k7
   ·rw[pc,pH]
    exact du k hk
   ·rw[pc]
    rcases nq i' fy gy j' d jf with ⟨rfl,rfl,rfl⟩|⟨row0,eC,gi,-⟩
    ·exact iu
    ·exact h6 _ _ eC _ _ gi
   ·rcases nq i' fy gy j' d jf with ⟨rfl,rfl,rfl⟩|⟨row0,eC,gi,dk⟩
    ·exact cL
    ·have:=(h7 _ _ eC _ _ gi).mono' (own':=own') (w':=w') (r':=r) (q:=q++[i'*sz+j']) (q':=q++[i'*sz+j']) hz [] (by simp) fun b t hb=>by
      have z6:¬ full <+: q++[i'*sz+j']++t:=by
       intro e;rw[hf,Rb3,List.prefix_append_right_inj]at e;have e':=(List.cons_prefix_cons.1 e).1
       have vj:j'<sz:=by
        have:=(Rbw.1 gi).1;rw[h4 row0 (Sba eC)]at this;exact this
       obtain⟨nc,nf⟩:=Cbu vj aw e'.symm;exact dk ⟨nc,nf⟩
      exact hs b _ hb z6
     simpa using this
theorem Rp.deeper {own:Nat->Ow}{w:World}{r:Nat}{p:List Nat}{m:Nat}{v:Value}{d:D}(h:Rp own w r p m v d):∀ {m':Nat},m<=m'->nO m d=true->Rp own w r p m' v d:=by
 induction h with
 |sc h=>exact fun _ _=>.sc h
 |hole v h1=>exact fun _ _=>.hole v h1
 | fz h =>
  intro m' _ hz
  cases h with
  |sc h=>exact .sc h
  |hole _ h1=>exact .hole _ h1
  |rows=>simp[nO,D.isSc]at hz
 | sl A a n c sz rs vs hn hc hA ef bz cu cL ih =>
  rename_i p m;intro m' hm hz;obtain⟨k,rfl⟩:∃ k,m'=k+1:=⟨m'-1,by omega⟩;refine .sl A a n c sz rs vs hn hc hA ef bz cu (fun i row hi j d hj=>ih i row hi j d hj (by omega) ?_);simp only[nO,Sbp]at hz;exact hz row (Sba hi) d (Sba hj)
section
variable {E:Env} {F:bE} {σ:Nat->Option aP} {ρ:List D} {a:Act} {w w':World} {G G':Gh} {s:Sig} {Z:Take} {gd:Bool} {nr nb:Nat} {hs:List Value} {adn:Addr}
structure Oak (E:Env) (F:bE) (σ:Nat->Option aP) (ρ:List D) (a:Act) (w:World) (G:Gh) (s:Sig) (Z:Take) (G':Gh) (w':World):Prop where
 hR:R E.ntmps F σ ρ a w G
 hk:Ia9 s Z
 hF:lC (pE s (callG ρ G w s Z) w) G' w'
 bx:∀ j ro cs,s.boxes[j]?=some (ro,cs)->Pbh σ Z.ptrs j ro cs
 deps:∀ z∈Z.deps,Kad σ z.1 z.2
 mus:∀ (ν r d:Nat) (q:List (aJ×Nat×Nat)) (X:aJ),Z.rts[ν]?=some (RT.mu r d q X)->∃ m b9 u,σ (kR r)=some (.root X m b9 .live)/\q.length+d<=m/\wW G.own w r [] (G.hdr r) (bA ρ q) u
 owns:∀ (ν r d:Nat),Z.rts[ν]?=some (RT.own r d)->∃ x m b9,σ (kR r)=some (.root x m b9 .live)
variable (B:Oak E F σ ρ a w G s Z G' w')
include B
theorem Oak.keep {b:Nat}(hb:b<w.heap.size)(h:(callG ρ G w s Z).own b=.frz\/(callG ρ G w s Z).own b=.oth):w'.heap[b]?=w.heap[b]?/\G'.own b=(callG ρ G w s Z).own b:=B.hF.keep b hb h
theorem Oak.lt {b r:Nat}{p:List Nat}(h:G.own b=.slc r p):b<w.heap.size:=by
 rcases Sbh b w.heap.size with h1|h1
 ·exact h1
 ·rw[B.hR.frame.fresh b h1]at h;cases h
theorem Oak.own_eq {b:Nat}(hb:b<w.heap.size)(h:Kal ((callG ρ G w s Z).own b)=false):(eT gd ρ G w s Z nr nb G'.own hs adn).own b=xZ ρ Z.rts (G.own b):=by
 simp only[eT];rw[if_pos ⟨hb,h⟩]
theorem Oak.frz {b:Nat}(h:G.own b=.frz)(hb:b<w.heap.size):(eT gd ρ G w s Z nr nb G'.own hs adn).own b=.frz/\w'.heap[b]?=w.heap[b]?:=by
 have h1:(callG ρ G w s Z).own b=.frz:=nS h;refine⟨?_,(B.keep hb (.inl h1)).1⟩;rw[B.own_eq hb (by rw[h1];rfl),h];rfl
theorem Oak.other {b r:Nat}{p:List Nat}(hr:r∉bW Z.rts)(h:G.own b=.slc r p):(eT gd ρ G w s Z nr nb G'.own hs adn).own b=.slc r p/\w'.heap[b]?=w.heap[b]?:=by
 have hb:=B.lt h
 have h1:(callG ρ G w s Z).own b=if r∈Z.deps.map (·.1) then .frz else .oth:=by
  simp only[callG,h];exact pR hr
 have h2:(callG ρ G w s Z).own b=.frz\/(callG ρ G w s Z).own b=.oth:=by
  rw[h1];split
  ·exact .inl rfl
  ·exact .inr rfl
 refine⟨?_,(B.keep hb h2).1⟩;rw[B.own_eq hb (by rcases h2 with e|e<;>rw[e]<;>rfl),h];simp only[xZ,rG hr]
theorem Oak.oth {b:Nat}(h:G.own b=.oth)(hb:b<w.heap.size):(eT gd ρ G w s Z nr nb G'.own hs adn).own b=.oth/\w'.heap[b]?=w.heap[b]?:=by
 have h1:(callG ρ G w s Z).own b=.oth:=by simp only[callG,h]
 refine⟨?_,(B.keep hb (.inr h1)).1⟩;rw[B.own_eq hb (by rw[h1];rfl),h];rfl
theorem Oak.boxes {b c:Nat}(h:G.own b=.box c)(hb:b<w.heap.size):(eT gd ρ G w s Z nr nb G'.own hs adn).own b=.box c /\
  (w'.heap[b]?=w.heap[b]?\/∃ j cs off ls c0 c1 e fr,s.boxes[j]?=some (false,cs)/\nE j Z.ptrs=some (c,off)/\b=(G.bx c).block/\σ (kB c)=some (.box false ls)/\off+cs.length<=ls.length /\
   w.heap[b]?=some (.cells c0 e fr)/\w'.heap[b]?=some (.cells c1 e fr)/\c1.size=c0.size/\∀ k,k<(G.bx c).off+off\/(G.bx c).off+off+cs.length<=k->c1[k]?=c0[k]?):=by
 have key:((callG ρ G w s Z).own b=.oth)\/∃ j,Pae Z.ptrs c 0 s.boxes=some j/\b=(G.bx c).block/\(callG ρ G w s Z).own b=.box j:=by
  simp only[callG,h];split
  ·rename_i j hj
   split
   ·rename_i vp
    exact .inr ⟨j,hj,vp,rfl⟩
   ·exact .inl rfl
  ·exact .inl rfl
 rcases key with h1|⟨j,hj,vp,h1⟩
 ·refine⟨?_,.inl (B.keep hb (.inr h1)).1⟩
  rw[B.own_eq hb (by rw[h1];rfl),h];rfl
 ·refine⟨by rw[B.own_eq hb (by rw[h1];rfl),h];rfl,.inr ?_⟩
  obtain⟨j',cs,off,e1,e2,e3⟩:=Da8 hj;rw[Sbo]at e1;subst e1;obtain⟨c',lk,l8,ls,h2,h3,h4,h5⟩:=B.bx j false cs e2;rw[e3]at h2;obtain⟨rfl,rfl⟩:c=c'/\off=lk:=by simpa using h2
  obtain rfl:=(h5 rfl).1;obtain⟨-,c0,c1,e,fr,h6,h7,h8,h9⟩:=B.hF.boxes b j hb h1;refine⟨j,cs,off,ls,c0,c1,e,fr,e2,e3,vp,h3,h4,h6,h7,h8,fun k hk=>h9 k ?_⟩
  have e4:(pE s (callG ρ G w s Z) w).rng j=((G.bx c).off+off,(G.bx c).off+off+cs.length):=by
   simp only[pE,callG,e3,Qad,Rb5,e2,Tbw]
  rw[e4];exact hk
theorem Oak.allow {b:Nat}(h:G'.own b=.frz):allow (eT gd ρ G w s Z nr nb G'.own hs adn) Z.deps b:=by
 by_cases hb:b<w.heap.size
 ·cases ir:Kal ((callG ρ G w s Z).own b) with
  | true =>
   refine .inl ?_;simp only[eT];rw[if_neg (by rw[ir];simp),h];rfl
  | false =>
   have bz:=B.own_eq (gd:=gd) (nr:=nr) (nb:=nb) (hs:=hs) (adn:=adn) hb ir
   cases hg:G.own b with
   |frz=>exact .inl (B.frz hg hb).1
   | oth =>
    have h1:(callG ρ G w s Z).own b=.oth:=by simp only[callG,hg]
    have:=(B.keep hb (.inr h1)).2;rw[h,h1]at this;cases this
   | box c =>
    have vp:=(B.boxes (gd:=gd) (nr:=nr) (nb:=nb) (hs:=hs) (adn:=adn) hg hb);exfalso
    have key:((callG ρ G w s Z).own b=.oth)\/∃ j,(callG ρ G w s Z).own b=.box j:=by
     simp only[callG,hg];split
     ·split
      ·exact .inr ⟨_,rfl⟩
      ·exact .inl rfl
     ·exact .inl rfl
    rcases key with h1|⟨j,h1⟩
    ·have:=(B.keep hb (.inr h1)).2
     rw[h,h1]at this;cases this
    ·have:=(B.hF.boxes b j hb h1).1
     rw[h]at this;cases this
   | slc r p =>
    by_cases hr:r∈bW Z.rts
    ·refine .inl ?_
     rw[bz,hg];obtain⟨ν,x,h1,h2,h3⟩:=rF hr;simp only[xZ,h2]
     rcases h3 with ⟨d,rfl⟩|⟨d,q,X,rfl⟩
     ·rfl
     ·have h4:=Ka6 (ρ:=ρ) (G:=G) (w:=w) B.hk h1 hg
      dsimp only;rw[h4]at ir
      cases cj:strip (bA ρ q) p with
      | some t' =>
       rw[cj]at ir;dsimp only at ir ⊢;split at ir
       ·cases ir
       ·rename_i hle
        rw[if_neg hle]
      | none =>
       have h5:(callG ρ G w s Z).own b=.oth:=by rw[h4,cj]
       have:=(B.keep hb (.inr h5)).2;rw[h,h5]at this;cases this
    ·have h1:(callG ρ G w s Z).own b=if r∈Z.deps.map (·.1) then .frz else .oth:=by
      simp only[callG,hg];exact pR hr
     by_cases hd:r∈Z.deps.map (·.1)
     ·obtain⟨z,hz,e⟩:=Sb7.1 hd
      refine .inr ⟨r,z.2,p,by rw[<- e];exact hz,(B.other hr hg).1⟩
     ·rw[if_neg hd]at h1
      have:=(B.keep hb (.inr h1)).2;rw[h,h1]at this;cases this
 ·refine .inl ?_
  simp only[eT];rw[if_neg (by simp[hb]),h];rfl
theorem Oak.rd {v:Value}{d:D}(h:Rd (fun b=>G'.own b=.frz) w' v d):Rd (Go.Proofs.YtgpamlpecmldfaaGreat.Rf.allow (eT gd ρ G w s Z nr nb G'.own hs adn) Z.deps) w' v d :=
 h.mono fun b hb=>⟨B.allow hb,rfl⟩
theorem Oak.slc {b t:Nat}{p:List Nat}(h:G'.own b=.slc t p):(eT gd ρ G w s Z nr nb G'.own hs adn).own b=sJ gd ρ nr nb s.boxes.length (Z.rts.filter uR) (.slc t p):=by
 simp only[eT];rw[if_neg,h]
 rintro⟨hb,ir⟩
 cases hg:(callG ρ G w s Z).own b with
 |frz=>have:=(B.keep hb (.inl hg)).2;rw[h,hg]at this;cases this
 |oth=>have:=(B.keep hb (.inr hg)).2;rw[h,hg]at this;cases this
 |slc _ _=>rw[hg]at ir;cases ir
 |box j=>have:=(B.hF.boxes b j hb hg).1;rw[h]at this;cases this
theorem Oak.give {q m:Nat}{v:Value}{d:D}(h:Rp G'.own w' (2*q) [] m v d)(fp:Z.deps=[]\/nO m d=true)(gv:gd=false)(hq:q<bR):Rp (eT gd ρ G w s Z nr nb G'.own hs adn).own w' (nr+q) [] m v d:=by
 have:=h.remap (own':=(eT gd ρ G w s Z nr nb G'.own hs adn).own) (r':=nr+q) (q:=[]) (q':=[]) (fun b t hb=>by
  rw[B.slc hb,gv];simp only[sJ,Tba]
  rw[if_pos (by omega),if_neg (by simp),show 2*q / 2=q by omega,if_pos hq]) [] rfl (fp.imp (fun e b hb _=>by
   rcases B.allow (gd:=gd) (nr:=nr) (nb:=nb) (hs:=hs) (adn:=adn) hb with h1|⟨r,k,p,h1,-⟩
   ·exact h1
   ·rw[e]at h1;simp at h1) id)
 simpa using this
theorem Oak.giveGd {q m:Nat}{v:Value}{d:D}(h:Rp G'.own w' (2*q) [] m v d)(gv:gd=true):Rd (Go.Proofs.YtgpamlpecmldfaaGreat.Rf.allow (eT gd ρ G w s Z nr nb G'.own hs adn) Z.deps) w' v d:=by
 refine h.rd.mono fun b hb=>⟨?_,rfl⟩
 rcases hb with hb|⟨p,hb⟩
 ·exact B.allow hb
 ·refine .inl ?_
  rw[B.slc hb,gv];simp only[sJ];rw[if_pos (by omega),if_pos trivial]
theorem Oak.mu {ν j r d m b9:Nat}{q:List (aJ×Nat×Nat)}{X y X' X0:aJ}(hm:σ (kR r)=some (.root X0 m b9 .live))(hdm:q.length+d=m\/nO d (y.val ρ)=true)(tw:Z.rts[ν]?=some (.mu r d q X))(hj:(Z.rts.filter uR)[j]?=some (.mu r d q X)){u:Value}(hu:∀ u',wW G.own w r [] (G.hdr r) (bA ρ q) u'->u=u')
  (h:Rp G'.own w' (2*j+1) [] d u (y.val ρ)) (fp:Z.deps=[]\/nO d (y.val ρ)=true) (og:Upd (bA ρ q) (X.val ρ) (y.val ρ) (X'.val ρ)) :
  Rp (eT gd ρ G w s Z nr nb G'.own hs adn).own w' r [] m (G.hdr r) (X'.val ρ):=by
 obtain⟨m',ub,u',hσ,hle,hn⟩:=B.mus ν r d q X tw;rw[hm]at hσ
 obtain⟨rfl,rfl,rfl⟩:X0=X/\m=m'/\b9=ub:=by
  have:=Sbs hσ
  injection this with e1 e2 e3
  exact⟨e1,e2,e3⟩
 obtain rfl:=hu u' hn;have hlen:(bA ρ q).length=q.length:=by simp[bA]
 have ij:Rp (eT gd ρ G w s Z nr nb G'.own hs adn).own w' r (bA ρ q) d u (y.val ρ):=by
  have:=h.remap (own':=(eT gd ρ G w s Z nr nb G'.own hs adn).own) (r':=r) (q:=[]) (q':=bA ρ q) (fun b t hb=>by
   rw[B.slc hb];simp only[sJ,Tba]
   rw[if_neg (by omega),show (2*j+1) / 2=j by omega,hj]) [] rfl (fp.imp (fun e b hb _=>by
    rcases B.allow (gd:=gd) (nr:=nr) (nb:=nb) (hs:=hs) (adn:=adn) hb with h1|⟨r,k,p,h1,-⟩
    ·exact h1
    ·rw[e]at h1;simp at h1) id)
  simpa using this
 have a11:Rp (eT gd ρ G w s Z nr nb G'.own hs adn).own w' r (bA ρ q) (m-(bA ρ q).length) u (y.val ρ):=by
  rcases hdm with e|e
  ·rwa[hlen,show m-q.length=d by omega]
  ·exact ij.deeper (by omega) e
 have fx:=B.hR.root hm;simp only[bP]at fx
 have:=Rp.updM (own:=G.own) (own':=(eT gd ρ G w s Z nr nb G'.own hs adn).own) (w:=w) (w':=w') (r:=r) (M:=m) (full:=bA ρ q) (y:=y.val ρ) (u:=u)
  (fun b hb aw=>B.frz hb aw) (fun b t hb z6=>?_) (by omega) a11 (bA ρ q) [] (G.hdr r) (X0.val ρ) (X'.val ρ) (by simp) (by simpa using fx) hn og
 ·simpa using this
 ·have aw:=B.lt hb
  have h1:=Ka6 (ρ:=ρ) (G:=G) (w:=w) B.hk tw hb
  have cj:strip (bA ρ q) t=none:=by
   cases e:strip (bA ρ q) t with
   |none=>rfl
   |some t'=>exact absurd ⟨t',(Ha1 e).symm⟩ z6
  rw[cj]at h1;refine⟨?_,(B.keep aw (.inr h1)).1⟩;rw[B.own_eq aw (by rw[h1];rfl),hb];simp only[xZ,zN B.hk.dist tw,cj]
theorem Oak.frame:lC F (eT gd ρ G w s Z nr nb G'.own hs adn) w':=by
 have ef:w.heap.size<=w'.heap.size:=B.hF.size;refine⟨B.hF.os.trans B.hR.frame.os,B.hF.tape.trans B.hR.frame.tape,B.hF.output.trans B.hR.frame.output,Nat.le_trans B.hR.frame.size ef,fun b hb ho=>?_,fun b j hb ho=>?_,fun b hb=>?_⟩
 ·obtain⟨h1,h2⟩:=B.hR.frame.keep b hb ho
  have aw:b<w.heap.size:=Ub3 hb B.hR.frame.size
  rcases ho with ho|ho
  ·rw[ho]at h2 ⊢
   obtain⟨h3,h4⟩:=B.frz (gd:=gd) (nr:=nr) (nb:=nb) (hs:=hs) (adn:=adn) h2 aw;exact⟨h4.trans h1,h3⟩
  ·rw[ho]at h2 ⊢
   obtain⟨h3,h4⟩:=B.oth (gd:=gd) (nr:=nr) (nb:=nb) (hs:=hs) (adn:=adn) h2 aw;exact⟨h4.trans h1,h3⟩
 ·obtain⟨h1,c0,c1,e,fr,h2,h3,h4,h5⟩:=B.hR.frame.boxes b j hb ho
  have aw:b<w.heap.size:=Ub3 hb B.hR.frame.size;obtain⟨h6,h7⟩:=B.boxes (gd:=gd) (nr:=nr) (nb:=nb) (hs:=hs) (adn:=adn) h1 aw;refine⟨h6,?_⟩
  rcases h7 with h7|⟨i,cs,off,ls,d0,d1,e',fr',h8,h9,du,eC,gi,jm,lg,nc,nf⟩
  ·exact⟨c0,c1,e,fr,h2,h7.trans h3,h4,h5⟩
  ·rw[h3]at jm
   obtain⟨rfl,rfl,rfl⟩:c1=d0/\e=e'/\fr=fr':=by
    have:=Sbs jm
    injection this with e1 e2 e3
    exact⟨e1,e2,e3⟩
   have uo:=B.hR.rng j ls eC (by rw[<- du];exact hb) (by rw[<- du];exact ho);refine⟨c0,d1,e,fr,h2,lg,nc.trans h4,fun k hk=>?_⟩;rw[uo]at hk;dsimp only at hk;rw[nf k (by omega),h5 k (by rw[uo];exact hk)]
 ·simp only[eT]
  rw[if_neg (by omega),B.hF.fresh b hb];rfl
end
end Go.Proofs.YtgpamlpecmldfaaGreat.Rf
