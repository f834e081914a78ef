import Derived.Test.YtgpamlpecmldfaaGreatRf5
set_option linter.all false
open Bool renaming and_eq_true → Vbk, false_eq_true → Vbm, not_eq_true' → Vb9, or_eq_true → Wb9
open List renaming getElem?_eq_some_iff → Vbn, mem_append_left → Vbo, mem_singleton → Vbp, getElem?_eq_getElem → Vbq, mem_append_right → Vbr, mem_cons → Vbu, getElem?_cons_zero → Vbv, append_assoc → Vbx, getD_eq_getElem?_getD → Vby, getElem?_append_right → Vbz, mem_cons_of_mem → Vb1, mem_of_getElem? → Vb3, mem_append → Vb5, mem_cons_self → Vb7, length_cons → Wbb, map_cons → Wbe, all_eq_true → Wbg, length_map → Wbm, append_nil → Wbo, length_nil → Wbp, getElem?_map → Wbs, getElem?_drop → Wbt, map_nil → Wbu, nil_append → Wby, getElem?_cons_succ → Wbz, mem_map → Wb3, mem_map_of_mem → Xbf, any_eq_false → Xbr, getElem?_set → Xbu
open Nat renaming le_refl → Vb6, add_assoc → Vb8, lt_or_ge → Wbc, zero_add → Wbj, beq_eq → Wbl, add_zero → Wbv, add_sub_cancel_left → Wbx, blt_eq → Wb0, ble_eq → Wb6, zero_le → Xby, lt_of_lt_of_le → Ybv
open Option renaming bind_eq_some_iff → Vbj, bind_some → Vbs, map_some → Wb5, getD_some → Xbq
open Option.some renaming injEq → Vbl, inj → Wbk
open Prod.mk renaming injEq → Wbd, inj → Xb5
namespace Go.Proofs.YtgpamlpecmldfaaGreat.Rf
def LS.cnt:LS->Nat
 |.px _=>0
 |.clo _ _=>0
 |_=>1
def LS.rcnt:LS->Nat
 |.mu _=>1
 |.ow _=>1
 |_=>0
def Waz:List LS->Nat
 |[]=>0
 |s::ss=>s.cnt+Waz ss
def kI:List LS->Nat
 |[]=>0
 |s::ss=>s.rcnt+kI ss
def Ka3:List (Bool×List LS)->Nat
 |[]=>0
 |(_,ss)::ps=>Waz ss+Ka3 ps
def jP:List (Bool×List LS)->Nat
 |[]=>0
 |(_,ss)::ps=>kI ss+jP ps
def BS.cnt:BS->Nat
 |.ot=>0
 |_=>1
def BS.rcnt:BS->Nat
 |.ow _=>1
 |_=>0
def Ab7:List (BS×BO)->Nat
 |[]=>0
 |(s,_)::ss=>s.cnt+Ab7 ss
def wK:List (BS×BO)->Nat
 |[]=>0
 |(s,_)::ss=>s.rcnt+wK ss
def Ab8:List (Bool×List (BS×BO))->Nat
 |[]=>0
 |(_,cs)::bs=>Ab7 cs+Ab8 bs
def wL:List (Bool×List (BS×BO))->Nat
 |[]=>0
 |(_,cs)::bs=>wK cs+wL bs
section
variable (G:Gh) (w:World) (ρ:List D) (nbx:Nat)
def Aby (ok:Nat->Prop)(w:World)(v:Value)(d:D):Prop :=
 (v=.pointer none/\∃ z,d=.rows z [])\/∃ a row,v=.pointer (some a)/\d=.rows row.length [row]/\Rd ok w (.slice (some a) 1 1) (.rows row.length [row])
def Eaj:List LS->List Value->Prop
 |[],vs=>vs=[]
 |c::cs,vs=>∃ u us,vs=u::us/\(match c with | .px b=>u=.pointer (some (G.bx b))/\b<nbx | _=>u.oneCell'=true)/\Eaj cs us
def lF (i nr:Nat):LS->Value->Prop
 |.sc,v=>Sc v ((aI.v i).val ρ)
 |.fz nie,v=>Rd (fun b=>G.own b=.frz) w v ((aI.v i).val ρ)/\(nie=true->∀ z,(aI.v i).val ρ=.rows z []->v=.slice none 0 0)
 |.mu m,v=>v=G.hdr nr/\Rp G.own w nr [] m v ((aI.v i).val ρ)
 |.ow m,v=>v=G.hdr nr/\Rp G.own w nr [] m v ((aI.v i).val ρ)
 |.px b,v=>v=.pointer (some (G.bx b))/\b<nbx
 |.clo f cs,v=>∃ vs,v=.func (.func f) #[] vs.toArray/\Eaj G nbx cs vs
 |.rp _,v=>v.oneCell'=true/\Aby (fun b=>G.own b=.frz) w v ((aI.v i).val ρ)
def tO:Nat->Nat->List LS->List Value->Prop
 |_,_,[],vs=>vs=[]
 |i,nr,s::ss,vs=>∃ u us,vs=u::us/\lF G w ρ nbx i nr s u/\tO (i+s.cnt) (nr+s.rcnt) ss us
def mQ:Nat->Nat->List (Bool×List LS)->List Value->Prop
 |_,_,[],us=>us=[]
 |i,nr,(a,ss)::ps,us=>∃ u dj vs,us=u::dj/\tO G w ρ nbx i nr ss vs/\(if a=true then u=.agg vs.toArray else vs=[u])/\mQ (i+Waz ss) (nr+kI ss) ps dj
def xX (i nr:Nat):BS->Value->Prop
 |.sc,v=>Sc v ((aI.v i).val ρ)
 |.fz nie,v=>Rd (fun b=>G.own b=.frz) w v ((aI.v i).val ρ)/\(nie=true->∀ z,(aI.v i).val ρ=.rows z []->v=.slice none 0 0)
 |.ow m,v=>v=G.hdr nr/\Rp G.own w nr [] m v ((aI.v i).val ρ)
 |.ot,v=>v.oneCell'=true
def Gah (ad:Addr):Nat->Nat->Nat->List (BS×BO)->Prop
 |_,_,_,[]=>True
 |off,i,nr,(s,_)::ss=>(∃ v,w.cell? (ad.add off)=some v/\w.frozen? (ad.add off)=false/\xX G w ρ i nr s v)/\Gah ad (off+1) (i+s.cnt) (nr+s.rcnt) ss
def Gai:Nat->Nat->Nat->List (Bool×List (BS×BO))->Prop
 |_,_,_,[]=>True
 |b,i,nr,(ro,cs)::bs=>(G.bx b).spot=none/\G.own (G.bx b).block=(if ro=true then .oth else .box b)/\Gah G w ρ (G.bx b) 0 i nr cs/\Gai (b+1) (i+Ab7 cs) (nr+wK cs) bs
end
structure Eb5 (s:Sig) (vals:List Value) (w:World) (G:Gh) (ds:List D):Prop where
 params:mQ G w ds s.boxes.length 0 0 s.params vals
 boxes:Gai G w ds 0 (Ka3 s.params) (jP s.params) s.boxes
 len:ds.length=Ka3 s.params+Ab8 s.boxes
 fresh:∀ b,w.heap.size<=b->G.own b=.frz
 cells:∀ b j,b<w.heap.size->G.own b=.box j->j<s.boxes.length/\∃ c e fr,w.heap[b]?=some (.cells c e fr)
def Hay (s:Sig)(G:Gh):List Value:=(fE 0 (s.params.flatMap (·.2))).map G.hdr++(range 0 s.boxes.length).map fun b=>Value.pointer (some (G.bx b))
def rZ (s:Sig)(G:Gh)(w:World):bK :=
 ⟨w,G.own,fun j=>(Hay s G).getD j undef,fun b=>((G.bx b).off,(G.bx b).off+(s.boxes.getD b (true,[])).2.length)⟩
theorem Pay {i nr:Nat}(s:LS):∃ l u,iT i nr s=(l,u,i+s.cnt,nr+s.rcnt)/\∀ k c,(k,c)∈u->∃ m,s.rcnt=1/\k=kR nr/\c=.root (.v i) m 0 .live/\(s=.mu m\/s=.ow m)/\l=.ex nr:=by
 cases s with
 | mu m =>
  refine⟨_,_,rfl,fun k c h=>?_⟩;simp only[Vbp,Wbd]at h;exact⟨m,rfl,h.1,h.2,.inl rfl,rfl⟩
 | ow m =>
  refine⟨_,_,rfl,fun k c h=>?_⟩;simp only[Vbp,Wbd]at h;exact⟨m,rfl,h.1,h.2,.inr rfl,rfl⟩
 |_=>exact⟨_,_,rfl,by simp⟩
section
variable {G:Gh} {w:World} {ρ:List D} {nbx:Nat} {σ:Nat->Option aQ}
theorem Fal (gl:∀ b,b<nbx->(σ (kB b)).isSome):∀ {cs:List LS} {vs:List Value},Eaj G nbx cs vs->aD σ ρ G w (cs.map fun c=>match c with|.px b=>.px b 0|_=>.dead) vs
 |[],vs,h=>by simpa[Eaj,aD] using h
 | c :: cs, vs, h => by
  obtain⟨u,us,rfl,h1,h2⟩:=h;simp only[Wbe,aD];refine⟨u,us,rfl,?_,Fal gl h2⟩
  cases c with
  | px b =>
   simp only[aB];exact⟨by rw[h1.1];rfl,gl b h1.2⟩
  |_=>simp only[aB];exact h1
def mW (σ:Nat->Option aQ)(G:Gh)(w:World)(ρ:List D)(u:List (Nat×aQ)):Prop:=∀ k c,(k,c)∈u->∃ r m i,k=kR r/\c=.root (.v i) m 0 .live/\Rp G.own w r [] m (G.hdr r) ((aI.v i).val ρ)
theorem Sab (gl:∀ b,b<nbx->(σ (kB b)).isSome){i nr:Nat}{s:LS}{v:Value}(h:lF G w ρ nbx i nr s v)(og:s.rcnt=1->(σ (kR nr)).isSome) :
  aB σ ρ G w (iT i nr s).1 v/\mW σ G w ρ (iT i nr s).2.1:=by
 cases s with
 |sc=>exact⟨by simpa[iT,aB,lF] using h,by simp[mW,iT]⟩
 | fz nie =>
  refine⟨?_,by simp[mW,iT]⟩;simp only[lF]at h;simp only[iT,aB];exact⟨⟨h.1.one,by simp⟩,fun _=>⟨h.1.mono fun b hb=>⟨.inl hb,rfl⟩,h.2,trivial⟩⟩
 | mu m =>
  simp only[lF]at h;refine⟨?_,?_⟩
  ·simp only[iT,aB]
   exact⟨h.1,og rfl,h.2.one⟩
  ·intro k c hc
   simp only[iT,Vbp,Wbd]at hc;exact⟨nr,m,i,hc.1,hc.2,by rw[<- h.1];exact h.2⟩
 | ow m =>
  simp only[lF]at h;refine⟨?_,?_⟩
  ·simp only[iT,aB]
   exact⟨h.1,og rfl,h.2.one⟩
  ·intro k c hc
   simp only[iT,Vbp,Wbd]at hc;exact⟨nr,m,i,hc.1,hc.2,by rw[<- h.1];exact h.2⟩
 | px b =>
  refine⟨?_,by simp[mW,iT]⟩;simp only[lF]at h;simp only[iT,aB];exact⟨by rw[h.1];rfl,gl b h.2⟩
 | clo f cs =>
  refine⟨?_,by simp[mW,iT]⟩;simp only[lF]at h;obtain⟨vs,h1,h2⟩:=h;simp only[iT,aB];exact⟨vs,h1,Fal gl h2⟩
 | rp z =>
  refine⟨?_,by simp[mW,iT]⟩;simp only[lF]at h;simp only[iT,aB];refine⟨⟨h.1,by simp⟩,fun _=>?_⟩
  rcases h.2 with h1|⟨a,row,h1,h2,h3⟩
  ·exact .inl h1
  ·exact .inr ⟨a,row,h1,h2,h3.mono fun b hb=>⟨.inl hb,rfl⟩⟩
theorem mW.append {u v:List (Nat×aQ)}(h:mW σ G w ρ u)(h':mW σ G w ρ v):mW σ G w ρ (u++v):=fun k c hc=>(Vb5.1 hc).elim (h k c) (h' k c)
theorem Aaw:∀ (ss:List LS) (i nr:Nat),(eD i nr ss).2.2=(i+Waz ss,nr+kI ss)/\(eD i nr ss).1.length=ss.length/\∀ r,nr<=r->r<nr+kI ss->∃ c,(kR r,c)∈(eD i nr ss).2.1
 |[],i,nr=>⟨rfl,rfl,fun r h1 h2=>by simp only[kI]at h2;omega⟩
 | s :: ss, i, nr => by
  obtain⟨l,u,h1,h2⟩:=Pay (i:=i) (nr:=nr) s;obtain⟨h3,h4,h5⟩:=Aaw ss (i+s.cnt) (nr+s.rcnt);simp only[eD,h1];refine⟨h3.trans (by simp only[Waz,kI,Vb8]),by simp[h4],fun r oi ob=>?_⟩;simp only[kI]at ob
  rcases Wbc r (nr+s.rcnt) with h6|h6
  ·have hs:s.rcnt=1:=by cases s<;>simp[LS.rcnt]at h6 ⊢<;>omega
   have:r=nr:=by omega
   subst this;cases s<;>simp[LS.rcnt]at hs
   all_goals
    simp only[iT,Wbd]at h1;obtain⟨-,rfl,-⟩:=h1;exact⟨_,Vbo _ (Vbp.2 rfl)⟩
  ·obtain⟨c,hc⟩:=h5 r h6 (by omega)
   exact⟨c,Vbr _ hc⟩
theorem Cay (gl:∀ b,b<nbx->(σ (kB b)).isSome):∀ {ss:List LS} {i nr:Nat} {vs:List Value},tO G w ρ nbx i nr ss vs->(∀ r,nr<=r->r<nr+kI ss->(σ (kR r)).isSome) ->
  aD σ ρ G w (eD i nr ss).1 vs/\mW σ G w ρ (eD i nr ss).2.1
 |[],i,nr,vs,h,_=>⟨by simpa[tO,eD,aD] using h,by simp[mW,eD]⟩
 | s :: ss, i, nr, vs, h, hr => by
  obtain⟨u,us,rfl,h1,h2⟩:=h;obtain⟨l,up,h3,h4⟩:=Pay (i:=i) (nr:=nr) s;obtain⟨h5,h6⟩:=Sab gl h1 fun e=>hr nr (Vb6 _) (by simp only[kI];omega)
  obtain⟨h7,h8⟩:=Cay gl h2 fun r oi ob=>hr r (by omega) (by simp only[kI];omega)
  simp only[eD,h3]at h5 h6 ⊢;exact⟨by simp only[aD];exact⟨u,us,rfl,h5,h7⟩,h6.append h8⟩
theorem uT:∀ (ps:List (Bool×List LS)) (t i nr:Nat),(jU t i nr ps).2=(i+Ka3 ps,nr+jP ps)/\∀ r,nr<=r->r<nr+jP ps->∃ c,(kR r,c)∈(jU t i nr ps).1
 |[],t,i,nr=>⟨rfl,fun r h1 h2=>by simp only[jP]at h2;omega⟩
 | (a, ss) :: ps, t, i, nr => by
  obtain⟨h1,-,h2⟩:=Aaw ss i nr;obtain⟨h3,h4⟩:=uT ps (t+1) (i+Waz ss) (nr+kI ss);have e:eD i nr ss=((eD i nr ss).1,(eD i nr ss).2.1,i+Waz ss,nr+kI ss):=by rw[<- h1]
  simp only[jU];rw[e];dsimp only;refine⟨h3.trans (by simp only[Ka3,jP,Vb8]),fun r oi ob=>?_⟩;simp only[jP]at ob
  rcases Wbc r (nr+kI ss) with h6|h6
  ·obtain⟨c,hc⟩:=h2 r oi h6
   exact⟨c,Vb1 _ (Vbo _ hc)⟩
  ·obtain⟨c,hc⟩:=h4 r h6 (by omega)
   exact⟨c,Vb1 _ (Vbr _ hc)⟩
def Lbo (σ:Nat->Option aQ)(G:Gh)(w:World)(ρ:List D)(val:Nat->Option Value)(u:List (Nat×aQ)):Prop :=
 ∀ k c,(k,c)∈u->(∃ t v sv,k=kT t/\c=.slot none sv/\val t=some v/\dC σ ρ G w sv v)\/(∃ r m i,k=kR r/\c=.root (.v i) m 0 .live/\Rp G.own w r [] m (G.hdr r) ((aI.v i).val ρ))
theorem Cax (gl:∀ b,b<nbx->(σ (kB b)).isSome):∀ {ps:List (Bool×List LS)} {t i nr:Nat} {us:List Value},mQ G w ρ nbx i nr ps us->(∀ r,nr<=r->r<nr+jP ps->(σ (kR r)).isSome) ->
  us.length=ps.length/\Lbo σ G w ρ (fun j=>if t<=j then us[j-t]? else none) (jU t i nr ps).1
 | [], t, i, nr, us, h, _ => by
  simp only[mQ]at h;subst h;exact⟨rfl,by simp[Lbo,jU]⟩
 | (a, ss) :: ps, t, i, nr, us, h, hr => by
  obtain⟨u,dj,vs,rfl,h1,h2,h3⟩:=h;obtain⟨h4,h5,-⟩:=Aaw ss i nr;obtain⟨h6,h7⟩:=Cay gl h1 fun r oi ob=>hr r oi (by simp only[jP];omega)
  obtain⟨h8,h9⟩:=Cax gl (t:=t+1) h3 fun r oi ob=>hr r (by omega) (by simp only[jP];omega)
  have e:eD i nr ss=((eD i nr ss).1,(eD i nr ss).2.1,i+Waz ss,nr+kI ss):=by rw[<- h4]
  simp only[jU];rw[e];dsimp only;refine⟨by simp[h8],fun k c hc=>?_⟩
  rcases Vbu.1 hc with hc|hc
  ·obtain⟨rfl,rfl⟩:=Xb5 hc
   refine .inl ⟨t,u,_,rfl,rfl,by simp,?_⟩
   cases gS:Tad a (eD i nr ss).1 with
   |none=>trivial
   |some sv=>exact tZ gS h6 h2
  ·rcases Vb5.1 hc with hc|hc
   ·exact .inr (h7 k c hc)
   ·rcases h9 k c hc with ⟨t',v,sv,e1,e2,e3,e4⟩|da
    ·refine .inl ⟨t',v,sv,e1,e2,?_,e4⟩
     dsimp only at e3 ⊢;split at e3
     ·rename_i hle
      rw[if_pos (by omega)];rw[show t'-t=(t'-(t+1))+1 by omega];exact e3
     ·cases e3
    ·exact .inr da
theorem Sac {i nr:Nat}{s:BS}{v:Value}(h:xX G w ρ i nr s v)(og:s.rcnt=1->(σ (kR nr)).isSome) :
  aB σ ρ G w (gX i nr s).1 v/\mW σ G w ρ (gX i nr s).2.1/\(gX i nr s).2.2=(i+s.cnt,nr+s.rcnt)/\(s.rcnt=1->∃ c,(kR nr,c)∈(gX i nr s).2.1):=by
 cases s with
 |sc=>exact⟨by simpa[gX,aB,xX] using h,by simp[mW,gX],rfl,fun e=>by cases e⟩
 | fz nie =>
  refine⟨?_,by simp[mW,gX],rfl,fun e=>by cases e⟩;simp only[xX]at h;simp only[gX,aB];exact⟨⟨h.1.one,by simp⟩,fun _=>⟨h.1.mono fun b hb=>⟨.inl hb,rfl⟩,h.2,trivial⟩⟩
 | ow m =>
  simp only[xX]at h;refine⟨?_,?_,rfl,fun _=>⟨_,Vbp.2 rfl⟩⟩
  ·simp only[gX,aB]
   exact⟨h.1,og rfl,h.2.one⟩
  ·intro k c hc
   simp only[gX,Vbp,Wbd]at hc;exact⟨nr,m,i,hc.1,hc.2,by rw[<- h.1];exact h.2⟩
 |ot=>exact⟨by simpa[gX,aB,xX] using h,by simp[mW,gX],rfl,fun e=>by cases e⟩
theorem Zat {i nr:Nat}(s:BS):(gX i nr s).2.2=(i+s.cnt,nr+s.rcnt)/\(s.rcnt=1->∃ c,(kR nr,c)∈(gX i nr s).2.1):=by
 cases s<;>refine⟨rfl,fun e=>?_⟩<;>first|cases e|skip
 exact⟨_,Vbp.2 rfl⟩
theorem Da7:∀ (ss:List (BS×BO)) (i nr:Nat),(gV i nr ss).2.2=(i+Ab7 ss,nr+wK ss)/\(gV i nr ss).1.length=ss.length/\∀ r,nr<=r->r<nr+wK ss->∃ c,(kR r,c)∈(gV i nr ss).2.1
 |[],i,nr=>⟨rfl,rfl,fun r h1 h2=>by simp only[wK]at h2;omega⟩
 | (s, o) :: ss, i, nr => by
  obtain⟨h1,h2⟩:=Zat (i:=i) (nr:=nr) s;obtain⟨h3,h4,h5⟩:=Da7 ss (i+s.cnt) (nr+s.rcnt);have e:gX i nr s=((gX i nr s).1,(gX i nr s).2.1,i+s.cnt,nr+s.rcnt):=by rw[<- h1]
  simp only[gV];rw[e];dsimp only;refine⟨h3.trans (by simp only[Ab7,wK,Vb8]),by simp[h4],fun r oi ob=>?_⟩;simp only[wK]at ob
  rcases Wbc r (nr+s.rcnt) with h6|h6
  ·have hs:s.rcnt=1:=by cases s<;>simp[BS.rcnt]at h6 ⊢<;>omega
   have:r=nr:=by omega
   subst this;obtain⟨c,hc⟩:=h2 hs;exact⟨c,Vbo _ hc⟩
  ·obtain⟨c,hc⟩:=h5 r h6 (by omega)
   exact⟨c,Vbr _ hc⟩
theorem Faf {ad:Addr}:∀ {ss:List (BS×BO)} {off i nr:Nat},Gah G w ρ ad off i nr ss->(∀ r,nr<=r->r<nr+wK ss->(σ (kR r)).isSome) ->
  (∀ j l,(gV i nr ss).1[j]?=some l->∃ v,w.cell? (ad.add (off+j))=some v/\w.frozen? (ad.add (off+j))=false/\aB σ ρ G w l v)/\mW σ G w ρ (gV i nr ss).2.1
 |[],off,i,nr,_,_=>⟨by simp[gV],by simp[mW,gV]⟩
 | (s, o) :: ss, off, i, nr, h, hr => by
  obtain⟨⟨v,h1,h2,h3⟩,h4⟩:=h;obtain⟨h5,h6,h7,-⟩:=Sac h3 fun e=>hr nr (Vb6 _) (by simp only[wK];omega)
  obtain⟨h8,h9⟩:=Faf h4 fun r oi ob=>hr r (by omega) (by simp only[wK];omega)
  have e:gX i nr s=((gX i nr s).1,(gX i nr s).2.1,i+s.cnt,nr+s.rcnt):=by rw[<- h7]
  simp only[gV];rw[e];dsimp only;refine⟨fun j l hj=>?_,h6.append h9⟩
  cases j with
  | zero =>
   simp only[Vbv,Vbl]at hj;subst hj;exact⟨v,h1,h2,h5⟩
  | succ j =>
   obtain⟨v',da,eo,gb⟩:=h8 j l (by simpa using hj);rw[show off+(j+1)=off+1+j by omega];exact⟨v',da,eo,gb⟩
def Lb2 (σ:Nat->Option aQ)(G:Gh)(w:World)(ρ:List D)(bs:Nat->Option (Bool×List (BS×BO)))(u:List (Nat×aQ)):Prop :=
 ∀ k c,(k,c)∈u->(∃ b ro ls cs,k=kB b/\c=.box ro ls/\bs b=some (ro,cs)/\ls.length=cs.length/\Lae σ ρ G w b ro ls)\/(∃ r m i,k=kR r/\c=.root (.v i) m 0 .live/\Rp G.own w r [] m (G.hdr r) ((aI.v i).val ρ))
theorem yV:∀ (bs:List (Bool×List (BS×BO))) (b i nr:Nat),(kY b i nr bs).2=(i+Ab8 bs,nr+wL bs)/\(∀ r,nr<=r->r<nr+wL bs->∃ c,(kR r,c)∈(kY b i nr bs).1)/\∀ j,b<=j->j<b+bs.length->∃ c,(kB j,c)∈(kY b i nr bs).1
 |[],b,i,nr=>⟨rfl,fun r h1 h2=>by simp only[wL]at h2;omega,fun j h1 h2=>by simp only[Wbp]at h2;omega⟩
 | (ro, cs) :: bs, b, i, nr => by
  obtain⟨h1,-,h2⟩:=Da7 cs i nr;obtain⟨h3,h4,h5⟩:=yV bs (b+1) (i+Ab7 cs) (nr+wK cs);have e:gV i nr cs=((gV i nr cs).1,(gV i nr cs).2.1,i+Ab7 cs,nr+wK cs):=by rw[<- h1]
  simp only[kY];rw[e];dsimp only;refine⟨h3.trans (by simp only[Ab8,wL,Vb8]),fun r oi ob=>?_,fun j uj kn=>?_⟩
  ·simp only[wL]at ob
   rcases Wbc r (nr+wK cs) with h6|h6
   ·obtain⟨c,hc⟩:=h2 r oi h6
    exact⟨c,Vb1 _ (Vbo _ hc)⟩
   ·obtain⟨c,hc⟩:=h4 r h6 (by omega)
    exact⟨c,Vb1 _ (Vbr _ hc)⟩
  ·simp only[Wbb]at kn
   rcases Wbc j (b+1) with h6|h6
   ·obtain rfl:j=b:=by omega
    exact⟨_,Vb7⟩
   ·obtain⟨c,hc⟩:=h5 j h6 (by omega)
    exact⟨c,Vb1 _ (Vbr _ hc)⟩
theorem Fag:∀ {bs:List (Bool×List (BS×BO))} {b i nr:Nat},Gai G w ρ b i nr bs->(∀ r,nr<=r->r<nr+wL bs->(σ (kR r)).isSome) ->
  Lb2 σ G w ρ (fun j=>if b<=j then bs[j-b]? else none) (kY b i nr bs).1
 |[],b,i,nr,_,_=>by simp[Lb2,kY]
 | (ro, cs) :: bs, b, i, nr, h, hr => by
  obtain⟨h1,h2,h3,h4⟩:=h;obtain⟨h5,h6,-⟩:=Da7 cs i nr;obtain⟨h7,h8⟩:=Faf h3 fun r oi ob=>hr r oi (by simp only[wL];omega)
  have h9:=Fag (b:=b+1) h4 fun r oi ob=>hr r (by omega) (by simp only[wL];omega)
  have e:gV i nr cs=((gV i nr cs).1,(gV i nr cs).2.1,i+Ab7 cs,nr+wK cs):=by rw[<- h5]
  simp only[kY];rw[e];dsimp only;intro k c hc
  rcases Vbu.1 hc with hc|hc
  ·obtain⟨rfl,rfl⟩:=Xb5 hc
   refine .inl ⟨b,ro,_,cs,rfl,rfl,by simp,h6,h1,h2,fun j l hj=>?_⟩;have:=h7 j l hj;rwa[Wbj]at this
  ·rcases Vb5.1 hc with hc|hc
   ·exact .inr (h8 k c hc)
   ·rcases h9 k c hc with ⟨j,l7,ls,nF,e1,e2,e3,e4⟩|da
    ·refine .inl ⟨j,l7,ls,nF,e1,e2,?_,e4⟩
     dsimp only at e3 ⊢;split at e3
     ·rename_i hle
      rw[if_pos (by omega),show j-b=(j-(b+1))+1 by omega];exact e3
     ·cases e3
    ·exact .inr da
end
theorem yL:∀ (ss:List LS) (r:Nat),∀ q∈fE r ss,r<=q/\q<r+kI ss
 |[],r,q,h=>by simp[fE]at h
 | s :: ss, r, q, h => by
  cases s with
  | mu m =>
   simp only[fE,Vbu]at h;simp only[kI,LS.rcnt]
   rcases h with rfl|h
   ·omega
   ·have:=yL ss (r+1) q h;omega
  | ow m =>
   simp only[fE]at h;simp only[kI,LS.rcnt];have:=yL ss (r+1) q h;omega
  | _ =>
   simp only[fE]at h;simp only[kI,LS.rcnt];have:=yL ss r q h;omega
theorem Eaw:∀ (a b:List LS),kI (a++b)=kI a+kI b
 |[],b=>by simp[kI]
 |s::a,b=>by simp only[List.cons_append,kI,Eaw a b,Vb8]
theorem Kan:∀ (ps:List (Bool×List LS)),kI (ps.flatMap (·.2))=jP ps
 |[]=>rfl
 |(a,ss)::ps=>by simp only[List.flatMap_cons,Eaw,jP,Kan ps]
theorem uU:∀ (ls:List aP) (t k:Nat) (c:aQ),(k,c)∈tH t ls->∃ j l,ls[j]?=some l/\k=kT (t+j)/\c=.slot none (.one l)
 |[],t,k,c,h=>by simp[tH]at h
 | l :: ls, t, k, c, h => by
  simp only[tH,Vbu,Wbd]at h
  rcases h with ⟨rfl,rfl⟩|h
  ·exact⟨0,l,rfl,rfl,rfl⟩
  ·obtain⟨j,l',h1,rfl,rfl⟩:=uU ls (t+1) k c h
   exact⟨j+1,l',by simpa using h1,by rw[show t+(j+1)=t+1+j by omega],rfl⟩
theorem Va9 {s:Sig}{G:Gh}{j:Nat}{l:aP}(h:(Pai s)[j]?=some l) :
  (∃ r,(fE 0 (s.params.flatMap (·.2)))[j]?=some r/\l=.ex r/\(Hay s G).getD j undef=G.hdr r)\/(∃ b,b<s.boxes.length/\l=.px b 0/\(Hay s G).getD j undef=.pointer (some (G.bx b))):=by
 unfold Pai at h;unfold Hay;rw[Vby]
 rcases Wbc j (fE 0 (s.params.flatMap (·.2))).length with h1|h1
 ·rw[List.getElem?_append_left (by simpa using h1)]at h ⊢
  rw[Wbs]at h ⊢;rw[Vbq h1]at h ⊢;simp only[Wb5,Vbl]at h;exact .inl ⟨_,rfl,h.symm,rfl⟩
 ·rw[Vbz (by simpa using h1)]at h ⊢
  simp only[Wbm]at h ⊢;rw[Wbs]at h ⊢
  cases hb:(range 0 s.boxes.length)[j-(fE 0 (s.params.flatMap (·.2))).length]? with
  |none=>rw[hb]at h;cases h
  | some b =>
   rw[hb]at h;simp only[Wb5,Vbl]at h;have:=mem_range.1 (Vb3 hb);exact .inr ⟨b,by omega,h.symm,rfl⟩
def Db9 (s:Sig)(n:Nat):List (Nat×aQ) :=
 (jU 0 0 0 s.params).1++(kY 0 (Ka3 s.params) (jP s.params) s.boxes).1++tH n (Pai s)
theorem entry_eq (s:Sig)(n:Nat):entry s n=St.puts ⟨.nil,Ka3 s.params+Ab8 s.boxes,s.boxes.length,jP s.params+wL s.boxes,n+oH s⟩ (Db9 s n):=by
 have h1:=(uT s.params 0 0 0).1;have h2:=(yV s.boxes 0 (Ka3 s.params) (jP s.params)).1;rw[Wbj,Wbj]at h1;have e:jU 0 0 0 s.params=((jU 0 0 0 s.params).1,Ka3 s.params,jP s.params):=by rw[<- h1]
 have e2:kY 0 (Ka3 s.params) (jP s.params) s.boxes=((kY 0 (Ka3 s.params) (jP s.params) s.boxes).1,Ka3 s.params+Ab8 s.boxes,jP s.params+wL s.boxes):=by rw[<- h2]
 unfold entry Db9;rw[e];dsimp only;rw[e2]
theorem Da6 (s:Sig)(n:Nat):(entry s n).nv=Ka3 s.params+Ab8 s.boxes/\(entry s n).nb=s.boxes.length/\(entry s n).nr=jP s.params+wL s.boxes/\(entry s n).nt=n+oH s:=by
 rw[entry_eq];obtain⟨h1,h2,h3,h4⟩:=iY (Db9 s n) ⟨.nil,Ka3 s.params+Ab8 s.boxes,s.boxes.length,jP s.params+wL s.boxes,n+oH s⟩;exact⟨h1,h2,h3,h4⟩
theorem Paw (s:Sig)(n:Nat)(k:Nat):(entry s n).get k=bif vT (n+oH s) s.boxes.length (jP s.params+wL s.boxes) k then upds (fun _=>none) (Db9 s n) k else none:=by
 obtain⟨h1,h2,h3,h4⟩:=Da6 s n;unfold St.get;rw[h2,h3,h4]
 have:(entry s n).tr.get k=upds (fun _=>none) (Db9 s n) k:=by
  rw[entry_eq,La2];exact sG _ _ _ _ rfl
 rw[this]
theorem Pav {s:Sig}{n k:Nat}{c:aQ}(h:(entry s n).get k=some c):(k,c)∈Db9 s n:=by
 rw[Paw]at h
 revert h
 cases vT (n+oH s) s.boxes.length (jP s.params+wL s.boxes) k with
 |false=>intro h;cases h
 | true =>
  intro h
  rcases qU _ _ _ _ h with h1|⟨-,h1⟩
  ·exact h1
  ·cases h1
theorem Ka1 {s:Sig}{n k:Nat}(hb:vT (n+oH s) s.boxes.length (jP s.params+wL s.boxes) k=true)(h:∃ c,(k,c)∈Db9 s n):((entry s n).get k).isSome:=by
 rw[Paw,hb,cond_true];exact eP _ _ _ (.inr h)
theorem Dbr {nt nb nr b:Nat}(h:b<nb):vT nt nb nr (kB b)=true:=by
 unfold vT;rw[Oa6];have:kB b / 3=b:=by unfold kB;omega
 rw[this];simpa using h
theorem Wah (s:Sig)(n r:Nat)(h:r<jP s.params+wL s.boxes):((entry s n).get (kR r)).isSome:=by
 refine Ka1 (Oa4 h) ?_
 rcases Wbc r (jP s.params) with h1|h1
 ·obtain⟨c,hc⟩:=(uT s.params 0 0 0).2 r (Xby _) (by omega)
  exact⟨c,Vbo _ (Vbo _ hc)⟩
 ·obtain⟨c,hc⟩:=(yV s.boxes 0 (Ka3 s.params) (jP s.params)).2.1 r h1 h
  exact⟨c,Vbo _ (Vbr _ hc)⟩
theorem Zas (s:Sig)(n b:Nat)(h:b<s.boxes.length):((entry s n).get (kB b)).isSome:=by
 refine Ka1 (Dbr h) ?_;obtain⟨c,hc⟩:=(yV s.boxes 0 (Ka3 s.params) (jP s.params)).2.2 b (Xby _) (by omega);exact⟨c,Vbo _ (Vbr _ hc)⟩
theorem Hbm {s:Sig}{vals:List Value}{w:World}{G:Gh}{ds:List D}{n:Nat}(h:Eb5 s vals w G ds)(hn:s.params.length<=n) :
  vals.length=s.params.length/\R n (rZ s G w) (entry s n).get ds ⟨vals.toArray++Array.replicate (n-vals.length) undef,[]⟩ w G:=by
 have gl:∀ b,b<s.boxes.length->((entry s n).get (kB b)).isSome:=fun b hb=>Zas s n b hb
 have og:=Wah s n;obtain⟨hlen,n9⟩:=Cax (σ:=(entry s n).get) gl (t:=0) h.params fun r _ hr=>og r (by omega)
 have pA:=Fag (σ:=(entry s n).get) h.boxes fun r _ hr=>og r hr
 have fm:∀ r,r<jP s.params->(G.hdr r).oneCell'=true:=by
  intro r hr;obtain⟨c,hc⟩:=(uT s.params 0 0 0).2 r (Xby _) (by omega)
  rcases n9 _ c hc with ⟨t,v,sv,e,-⟩|⟨r',m,i,e,-,fR⟩
  ·exact absurd e.symm iQ
  ·obtain rfl:=fJ e
   exact fR.one
 have et:∀ t v,vals[t]?=some v->Aa6 n ⟨vals.toArray++Array.replicate (n-vals.length) undef,[]⟩ (rZ s G w).gh t=v:=by
  intro t v hv;have bj:=(Vbn.1 hv).1;unfold Aa6;rw[if_pos (by omega)];simp only[Array.getD_eq_getD_getElem?];rw[Array.getElem?_append_left (by simpa using bj)];simp[hv]
 refine⟨hlen,?_,rfl,fun k c hk=>?_,?_,fun b ls hk hb ho=>?_⟩
 ·simp;omega
 ·have hm:=Pav hk
  unfold Db9 at hm
  rcases Vb5.1 hm with hm|hm
  ·rcases Vb5.1 hm with hm|hm
   ·rcases n9 k c hm with ⟨t,v,sv,rfl,rfl,hv,gS⟩|⟨r,m,i,rfl,rfl,fR⟩
    ·refine⟨t,rfl,fun _=>?_⟩
     simp only[Xby,if_true,Nat.sub_zero]at hv;rw[et t v hv];exact gS
    ·exact⟨r,rfl,by rw[hk];rfl,fR⟩
   ·rcases pA k c hm with ⟨b,ro,ls,cs,rfl,rfl,-,-,hbr⟩|⟨r,m,i,rfl,rfl,fR⟩
    ·exact⟨b,rfl,hbr⟩
    ·exact⟨r,rfl,by rw[hk];rfl,fR⟩
  ·obtain⟨j,l,hj,rfl,rfl⟩:=uU _ _ _ _ hm
   refine⟨n+j,rfl,fun _=>?_⟩
   have e:Aa6 n ⟨vals.toArray++Array.replicate (n-vals.length) undef,[]⟩ (rZ s G w).gh (n+j)=(Hay s G).getD j undef:=by
    unfold Aa6;rw[if_neg (by omega),Wbx];rfl
   rw[e];simp only[dC]
   rcases Va9 (G:=G) hj with ⟨r,h1,rfl,h2⟩|⟨b,h1,rfl,h2⟩
   ·have hr:=yL _ _ r (Vb3 h1)
    rw[Kan]at hr;simp only[aB];rw[h2];exact⟨rfl,og r (by omega),fm r (by omega)⟩
   ·simp only[aB]
    rw[h2];exact⟨rfl,gl b h1⟩
 ·exact⟨rfl,rfl,rfl,Vb6 _,fun b hb ho=>⟨rfl,rfl⟩,fun b j hb ho=>⟨ho,by
   obtain⟨-,c,e,fr,hc⟩:=h.cells b j hb ho;exact⟨c,c,e,fr,hc,hc,rfl,fun _ _=>rfl⟩⟩,h.fresh⟩
 ·have hm:=Pav hk
  unfold Db9 at hm
  rcases Vb5.1 hm with hm|hm
  ·rcases Vb5.1 hm with hm|hm
   ·rcases n9 _ _ hm with ⟨t,v,sv,e,-⟩|⟨r,m,i,e,-⟩
    ·exact absurd e.symm mK
    ·exact absurd e fO
   ·rcases pA _ _ hm with ⟨b',ro,kO,cs,e,e2,e3,e4,hbr⟩|⟨r,m,i,e,-⟩
    ·obtain rfl:=Caj e
     injection e2 with e5 e6
     subst e5 e6;simp only[Xby,if_true,Nat.sub_zero]at e3;simp only[rZ,Vby,e3,Xbq];rw[e4]
    ·exact absurd e fO
  ·obtain⟨j,r,hj,e,-⟩:=uU _ _ _ _ hm
   exact absurd e.symm mK
theorem Zar {s:Sig}{n eM:Nat}(h:Gaj (entry s n) eM ((range 0 (entry s n).nt).map kT++(range 0 (entry s n).nb).map kB++(range 0 (entry s n).nr).map kR)=true){E:Env}(hE:E.ntmps=n):Dah E (entry s n):=by
 refine⟨by rw[(Da6 s n).2.2.2,hE];omega,fun k c hk=>?_⟩
 have hm:k∈(range 0 (entry s n).nt).map kT++(range 0 (entry s n).nb).map kB++(range 0 (entry s n).nr).map kR:=by
  rcases Aau hk with ⟨t,rfl,ht⟩|⟨b,rfl,hb⟩|⟨r,rfl,hr⟩
  ·exact Vbo _ (Vbo _ (Wb3.2 ⟨t,mem_range.2 ⟨by omega,by omega⟩,rfl⟩))
  ·exact Vbo _ (Vbr _ (Wb3.2 ⟨b,mem_range.2 ⟨by omega,by omega⟩,rfl⟩))
  ·exact Vbr _ (Wb3.2 ⟨r,mem_range.2 ⟨by omega,by omega⟩,rfl⟩)
 have:=Dal h k hm;rw[hk]at this;exact uV this
def BO.q:BO->Nat
 |.ow _=>1
 |_=>0
def qC:List BO->Nat
 |[]=>0
 |s::ss=>s.q+qC ss
def LR.q:LR->Nat
 |.ow _=>1
 |.bx cs=>qC cs
 |_=>0
def qL:List LR->Nat
 |[]=>0
 |s::ss=>s.q+qL ss
def qR:List (Bool×List LR)->Nat
 |[]=>0
 |(_,ss)::rs=>qL ss+qR rs
section
variable (own:Nat->Ow) (w:World) (ds:List D) (nbx:Nat)
def Eai (i q:Nat):BO->Value->Prop
 |.sc,v=>Sc v (ds.getD i .undef)
 |.fz,v=>Rd (fun b=>own b=.frz) w v (ds.getD i .undef)
 |.ow m,v=>Rp own w (2*q) [] m v (ds.getD i .undef)
 |.dead,v=>v.oneCell'=true
def Daj (ad:Addr):Nat->Nat->Nat->List BO->Prop
 |_,_,_,[]=>True
 |off,i,q,s::ss=>(∃ v,w.cell? (ad.add off)=some v/\w.frozen? (ad.add off)=false/\Eai own w ds i q s v)/\Daj ad (off+1) (i+1) (q+s.q) ss
def mP (i q:Nat):LR->Value->Prop
 |.sc,v=>Sc v (ds.getD i .undef)
 |.fz,v=>Rd (fun b=>own b=.frz) w v (ds.getD i .undef)
 |.ow m,v=>Rp own w (2*q) [] m v (ds.getD i .undef)
 |.rp _,v=>v.oneCell'=true/\Aby (fun b=>own b=.frz) w v (ds.getD i .undef)
 |.bx cs,v=>∃ ad,v=.pointer (some ad)/\ad.spot=none/\own ad.block=.box nbx/\Daj own w ds ad 0 i q cs
def qO:Nat->Nat->List LR->List Value->Prop
 |_,_,[],vs=>vs=[]
 |i,q,s::ss,vs=>∃ u us,vs=u::us/\mP own w ds nbx i q s u/\qO (i+s.n) (q+s.q) ss us
def Lac:Nat->Nat->List (Bool×List LR)->List Value->Prop
 |_,_,[],us=>us=[]
 |i,q,(a,ss)::rs,us=>∃ u dj vs,us=u::dj/\qO own w ds nbx i q ss vs/\(if a=true then u=.agg vs.toArray else vs=[u])/\Lac (i+nZ ss) (q+qL ss) rs dj
def Uar (gh:Nat->Value):Nat->Nat->List Nat->Prop
 |_,_,[]=>True
 |i,j,d::ms=>Rp own w (2*j+1) [] d (gh j) (ds.getD i .undef)/\Uar gh (i+1) (j+1) ms
def pI (bx:Nat->Addr):Nat->Nat->Nat->List (Bool×List (BS×BO))->Prop
 |_,_,_,[]=>True
 |b,i,q,(ro,cs)::r=>if ro=true then pI bx (b+1) i q r else Daj own w ds (bx b) 0 i q (cs.map (·.2))/\pI bx (b+1) (i+cs.length) (q+qC (cs.map (·.2))) r
end
def Eau:List Value->Value
 |[u]=>u
 |us=>.tuple us.toArray
def Sax (s:Sig)(F:bK)(bx:Nat->Addr)(v:Value)(w:World)(ds:List D):Prop :=
 ∃ G us,v=Eau us/\nH F G w/\Lac G.own w ds s.boxes.length 0 0 s.results us/\Uar G.own w ds F.gh (bO s.results) 0 (eO (s.params.flatMap (·.2))) /\
  pI G.own w ds bx 0 (bO s.results+(eO (s.params.flatMap (·.2))).length) (qR s.results) s.boxes
structure FLe (A B:Fin):Prop where
 xs:∃ l,B.xs=A.xs++l
 own:∀ z∈A.own,z∈B.own
 frz:∀ z∈A.frz,z∈B.frz
 lets:∃ l,B.lets=A.lets++l
 bxs:∀ z∈A.bxs,z∈B.bxs
theorem FLe.refl (A:Fin):FLe A A:=⟨⟨[],by simp⟩,fun _ h=>h,fun _ h=>h,⟨[],by simp⟩,fun _ h=>h⟩
theorem FLe.trans {A B C:Fin}(h:FLe A B)(h':FLe B C):FLe A C:=by
 obtain⟨⟨l,h1⟩,h2,h3,⟨m,h4⟩,h5⟩:=h;obtain⟨⟨l',wg⟩,uy,h3',⟨m',vp⟩,sd⟩:=h';exact⟨⟨l++l',by rw[wg,h1,Vbx]⟩,fun z hz=>uy z (h2 z hz),fun z hz=>h3' z (h3 z hz),⟨m++m',by rw[vp,h4,Vbx]⟩,fun z hz=>sd z (h5 z hz)⟩
structure Wa2 (Z:Fin) (nbx:Nat) (G G':Gh):Prop where
 frz:∀ b,G.own b=.frz->G'.own b=.frz
 own:∀ r t m,(r,t,m)∈Z.own->∀ b p,G.own b=.slc r p->G'.own b=if p.length<m then .slc t p else .frz
 fr:∀ r,r∈Z.frz->∀ b p,G.own b=.slc r p->G'.own b=.frz
 bxs:∀ β,β∈Z.bxs->∀ b,G.own b=.box β->G'.own b=.box nbx
section
variable {E:Env} {F:bK} {σ:Nat->Option aQ} {ρ:List D} {a:Act} {w:World} {G G':Gh} {cf:Nat->List D->Option (List D)} {Z:Fin} {nbx nv:Nat}
theorem FLe.get {A B:Fin}(h:FLe A B){ρ:List D}{x:aI}{l:List aI}(hx:A.xs=l++[x]):(B.xs.map (·.val ρ)).getD l.length .undef=x.val ρ:=by
 obtain⟨m,h1⟩:=h.xs;rw[h1,hx,Vby];simp
theorem Rp.give (hG:Wa2 Z nbx G G'){r t m m':Nat}(hz:(r,t,m)∈Z.own)(hm:m<=m'){v:Value}{d:D}(h:Rp G.own w r [] m' v d):Rp G'.own w t [] m v d:=by
 let own1:Nat->Ow:=fun b=>match G.own b with
  |.slc s p=>if s=r then (if p.length<m then .slc s p else .frz) else .slc s p
  |o=>o
 have h1:=h.weaken (own':=own1) (fun b hb=>by simp only[own1,hb]) m hm (fun b q hb=>by simp only[own1,hb,Wby,if_true]);have:=h1.mono (own':=G'.own) (w':=w) (q:=[]) (q':=[]) (r':=t) (fun b hb=>⟨?_,rfl⟩) [] rfl (fun b q hb=>⟨?_,rfl⟩)
 ·simpa using this
 ·simp only[own1]at hb
  split at hb
  ·rename_i s p e
   split at hb
   ·rename_i hs
    subst hs;split at hb
    ·cases hb
    ·rename_i hp
     rw[hG.own s t m hz b p e,if_neg hp]
   ·cases hb
  ·exact hG.frz b hb
 ·simp only[own1]at hb
  split at hb
  ·rename_i s p e
   split at hb
   ·rename_i hs
    subst hs;split at hb
    ·rename_i hp
     injection hb with e1 e2
     simp only[Wby]at e2 ⊢;subst e2;rw[hG.own s t m hz b p e,if_pos hp]
    ·cases hb
   ·rename_i hs
    injection hb with e1 e2
    exact absurd e1 hs
  ·rename_i vj
   exact absurd hb (vj _ _)
theorem Rd.give (hG:Wa2 Z nbx G G'){deps:List (Nat×Nat)}(hz:∀ z∈deps,z.1∈Z.frz){v:Value}{d:D}(h:Rd (allow G deps) w v d):Rd (fun b=>G'.own b=.frz) w v d:=by
 refine h.mono fun b hb=>⟨?_,rfl⟩
 rcases hb with hb|⟨r,k,p,hm,hb⟩
 ·exact hG.frz b hb
 ·exact hG.fr r (hz _ hm) b p hb
theorem Pao (hR:R E.ntmps F σ ρ a w G){A B:Fin}{m:Nat}{l:aP}(h:(Pap A m l).eval σ=some B)(hZ:FLe B Z)(hG:Wa2 Z nbx G G'){v:Value}(hl:aB σ ρ G w l v) :
  Rp G'.own w (2*A.q) [] m v ((Z.xs.map (·.val ρ)).getD A.xs.length .undef)/\FLe A B/\B.xs.length=A.xs.length+1/\B.q=A.q+1:=by
 unfold Pap at h;split at h
 ·rename_i nie z
  simp only[aC,Vbl]at h;subst h;refine⟨?_,⟨⟨_,rfl⟩,fun _ h=>h,fun _ h=>h,⟨[],by simp[Uaf]⟩,fun _ h=>h⟩,by simp[Uaf],rfl⟩;rw[hZ.get (l:=A.xs) rfl];simp only[aB]at hl;have hv:=(hl.2 (by simp)).2.1 trivial z rfl;rw[hv]
  cases m with
  |zero=>exact .fz (.rows none ⟨0,0,none⟩ 0 0 z [] (fun _ _=>undef) rfl (Vb6 _) (.inl rfl) (by simp) (by simp) (by simp))
  |succ m=>exact .sl none ⟨0,0,none⟩ 0 0 z [] (fun _ _=>undef) rfl (Vb6 _) (.inr ⟨rfl,rfl⟩) (by simp) (fun e=>by cases e) (by simp) (by simp)
 ·rename_i r
  simp only[aA,aR,Vbs]at h;split at h
  ·rename_i x m' cy hk
   simp only[aA,aH,Vbj,aC,Vbl]at h;obtain⟨_,h1,rfl⟩:=h;split at h1
   case isFalse=>cases h1
   rename_i hb;simp only[Wb6]at hb;refine⟨?_,⟨⟨_,rfl⟩,fun _ h=>Vbo _ h,fun _ h=>h,⟨[],by simp[Aac]⟩,fun _ h=>h⟩,by simp[Aac],rfl⟩;rw[hZ.get (l:=A.xs) rfl];simp only[aB]at hl;rw[hl.1];have hr:=hR.root hk;simp only[bW]at hr;exact hr.give hG (hZ.own _ (by simp[Aac])) hb
  ·cases h
 ·rename_i r k nie x
  simp only[aA,aR,Vbs]at h;split at h
  ·rename_i x' m' cy hk
   simp only[aA,aH,Vbj,aC,Vbl]at h;obtain⟨_,h1,rfl⟩:=h;split at h1
   case isFalse=>cases h1
   rename_i hb;simp only[Vbk,Wb6,Wbl]at hb;obtain⟨hb,rfl⟩:=hb;refine⟨?_,⟨⟨_,rfl⟩,fun _ h=>Vbo _ h,fun _ h=>h,⟨[],by simp[Aac]⟩,fun _ h=>h⟩,by simp[Aac],rfl⟩;rw[hZ.get (l:=A.xs) rfl];simp only[aB]at hl
   have hp:=(hl.2 fun z hz=>by
    simp only[Vbp]at hz;subst hz;exact⟨x',m',.live,hk,.inl rfl⟩).2.2
   exact (hp r cy m' rfl ⟨x',hk⟩).give hG (hZ.own _ (by simp[Aac])) hb
  ·cases h
 ·cases h
theorem Paq (hR:R E.ntmps F σ ρ a w G){A B:Fin}{l:aP}(h:(Par A l).eval σ=some B)(hZ:FLe B Z)(hG:Wa2 Z nbx G G'){v:Value}(hl:aB σ ρ G w l v) :
  Rd (fun b=>G'.own b=.frz) w v ((Z.xs.map (·.val ρ)).getD A.xs.length .undef)/\FLe A B/\B.xs.length=A.xs.length+1/\B.q=A.q:=by
 unfold Par at h;simp only[aA,Vbj,aC,Vbl]at h;obtain⟨s,h1,rfl⟩:=h;refine⟨?_,⟨⟨_,rfl⟩,fun _ h=>h,fun _ h=>Vbo _ h,⟨[],by simp⟩,fun _ h=>h⟩,by simp,rfl⟩;rw[hZ.get (l:=A.xs) rfl];have hs:=eH hR h1 hl;exact hs.rd.give hG fun z hz=>hZ.frz _ (Vbr _ (Xbf hz))
theorem Ra9 (hR:R E.ntmps F σ ρ a w G){A B:Fin}{s:BO}{l:aP}(h:(Da5 A s l).eval σ=some B)(hZ:FLe B Z)(hG:Wa2 Z nbx G G'){v:Value}(hl:aB σ ρ G w l v) :
  Eai G'.own w (Z.xs.map (·.val ρ)) A.xs.length A.q s v/\FLe A B/\B.xs.length=A.xs.length+1/\B.q=A.q+s.q:=by
 cases s with
 | sc =>
  cases l<;>simp only[Da5,bT,reduceCtorEq]at h
  rename_i x;simp only[aC,Vbl]at h;subst h;refine⟨?_,⟨⟨_,rfl⟩,fun _ h=>h,fun _ h=>h,⟨[],by simp⟩,fun _ h=>h⟩,by simp,rfl⟩;simp only[Eai];rw[hZ.get (l:=A.xs) rfl];simpa[aB] using hl
 | fz =>
  have h':(Par A l).eval σ=some B:=by cases l<;>exact h
  exact Paq hR h' hZ hG hl
 | ow m =>
  have h':(Pap A m l).eval σ=some B:=by cases l<;>exact h
  exact Pao hR h' hZ hG hl
 | dead =>
  have h':(bif Na1 l then RdM.ret { A with xs:=A.xs++[.c .hole] } else .no:RdM Fin).eval σ=some B:=by cases l<;>exact h
  cases hb:Na1 l with
  |false=>rw[hb]at h';cases h'
  | true =>
   rw[hb,cond_true]at h';simp only[aC,Vbl]at h';subst h';exact⟨hl.one hb,⟨⟨_,rfl⟩,fun _ h=>h,fun _ h=>h,⟨[],by simp⟩,fun _ h=>h⟩,by simp,rfl⟩
theorem Cav:∀ {ss:List BO} {ls:List aP} {A B:Fin},(jL A ss ls).eval σ=some B->(∀ {A B:Fin} {s:BO} {l:aP},(Da5 A s l).eval σ=some B->FLe A B)->FLe A B
 | [], [], A, B, h, _ => by
  simp only[jL,aC,Vbl]at h;subst h;exact .refl _
 |[],_::_,A,B,h,_=>by simp[jL,bT]at h
 |_::_,[],A,B,h,_=>by simp[jL,bT]at h
 | s :: ss, l :: ls, A, B, h, hc => by
  simp only[jL,aA,Vbj]at h;obtain⟨C,h1,h2⟩:=h;exact (hc h1).trans (Cav h2 hc)
theorem Uae {A B:Fin}{m:Nat}{l:aP}(h:(Pap A m l).eval σ=some B):FLe A B:=by
 unfold Pap at h;split at h
 ·simp only[aC,Vbl]at h
  subst h;exact⟨⟨_,rfl⟩,fun _ h=>h,fun _ h=>h,⟨[],by simp[Uaf]⟩,fun _ h=>h⟩
 ·simp only[aA,aR,Vbs]at h
  split at h
  ·simp only[aA,aH,Vbj,aC,Vbl]at h
   obtain⟨_,-,rfl⟩:=h;exact⟨⟨_,rfl⟩,fun _ h=>Vbo _ h,fun _ h=>h,⟨[],by simp[Aac]⟩,fun _ h=>h⟩
  ·cases h
 ·simp only[aA,aR,Vbs]at h
  split at h
  ·simp only[aA,aH,Vbj,aC,Vbl]at h
   obtain⟨_,-,rfl⟩:=h;exact⟨⟨_,rfl⟩,fun _ h=>Vbo _ h,fun _ h=>h,⟨[],by simp[Aac]⟩,fun _ h=>h⟩
  ·cases h
 ·cases h
theorem Uag {A B:Fin}{l:aP}(h:(Par A l).eval σ=some B):FLe A B:=by
 unfold Par at h;simp only[aA,Vbj,aC,Vbl]at h;obtain⟨s,h1,rfl⟩:=h;exact⟨⟨_,rfl⟩,fun _ h=>h,fun _ h=>Vbo _ h,⟨[],by simp⟩,fun _ h=>h⟩
theorem Waf {A B:Fin}{s:BO}{l:aP}(h:(Da5 A s l).eval σ=some B):FLe A B:=by
 cases s with
 | sc =>
  cases l<;>simp only[Da5,bT,reduceCtorEq]at h
  simp only[aC,Vbl]at h;subst h;exact⟨⟨_,rfl⟩,fun _ h=>h,fun _ h=>h,⟨[],by simp⟩,fun _ h=>h⟩
 | fz =>
  have h':(Par A l).eval σ=some B:=by cases l<;>exact h
  exact Uag h'
 | ow m =>
  have h':(Pap A m l).eval σ=some B:=by cases l<;>exact h
  exact Uae h'
 | dead =>
  have h':(bif Na1 l then RdM.ret { A with xs:=A.xs++[.c .hole] } else .no:RdM Fin).eval σ=some B:=by cases l<;>exact h
  cases hb:Na1 l with
  |false=>rw[hb]at h';cases h'
  | true =>
   rw[hb,cond_true]at h';simp only[aC,Vbl]at h';subst h';exact⟨⟨_,rfl⟩,fun _ h=>h,fun _ h=>h,⟨[],by simp⟩,fun _ h=>h⟩
theorem uR {ss:List BO}{ls:List aP}{A B:Fin}(h:(jL A ss ls).eval σ=some B):FLe A B:=Cav h fun h=>Waf h
theorem xJ (hR:R E.ntmps F σ ρ a w G)(hG:Wa2 Z nbx G G'){ad:Addr}:∀ {ss:List BO} {ls:List aP} {A B:Fin} {off:Nat},(jL A ss ls).eval σ=some B->FLe B Z ->
  (∀ j l,ls[j]?=some l->∃ v,w.cell? (ad.add (off+j))=some v/\w.frozen? (ad.add (off+j))=false/\aB σ ρ G w l v) ->
  Daj G'.own w (Z.xs.map (·.val ρ)) ad off A.xs.length A.q ss/\B.xs.length=A.xs.length+ss.length/\B.q=A.q+qC ss
 | [], [], A, B, off, h, _, _ => by
  simp only[jL,aC,Vbl]at h;subst h;exact⟨trivial,rfl,rfl⟩
 |[],_::_,A,B,off,h,_,_=>by simp[jL,bT]at h
 |_::_,[],A,B,off,h,_,_=>by simp[jL,bT]at h
 | s :: ss, l :: ls, A, B, off, h, hZ, hl => by
  simp only[jL,aA,Vbj]at h;obtain⟨C,h1,h2⟩:=h;obtain⟨v,h3,h4,h5⟩:=hl 0 l rfl;obtain⟨h6,h7,h8,h9⟩:=Ra9 hR h1 ((uR h2).trans hZ) hG h5
  obtain⟨da,eo,gb⟩:=xJ hR hG (off:=off+1) h2 hZ fun j l' hj=>by
   have:=hl (j+1) l' (by simpa using hj);rwa[show off+(j+1)=off+1+j by omega]at this
  rw[h8,h9]at da;exact⟨⟨⟨v,h3,h4,h6⟩,da⟩,by rw[eo,h8];simp;omega,by rw[gb,h9];simp only[qC];omega⟩
end
def Fbk (tmps:Array Value):ResultVar->Sem Value
 |.tmp t=>pure (tmps.getD t undef)
 |.cell a t=>do loadVar t (<- asAddr (tmps.getD a undef))
def Eav (P:Program)(tmps:Array Value)(w:World)(x:ResultVar):Value:=match (Fbk tmps x).run P w with
 |.ok v _=>v
 |_=>undef
theorem Oah {P:Program}{tmps:Array Value}{w:World}{x:ResultVar}{v:Value}(h:(Fbk tmps x).run P w=.ok v w):Eav P tmps w x=v/\(Fbk tmps x).run P w=.ok (Eav P tmps w x) w:=by
 have:Eav P tmps w x=v:=by unfold Eav;rw[h]
 exact⟨this,by rw[this];exact h⟩
theorem Xay (vs:Array Value):(if h:vs.size=1 then vs[0] else Value.tuple vs)=Eau vs.toList:=by
 obtain⟨l⟩:=vs
 match l with
 |[]=>rfl
 |[u]=>rfl
 |u::v::r=>simp[Eau]
section
variable {P:Program} {E:Env} {F:bK} {σ:Nat->Option aQ} {ρ:List D} {a:Act} {w:World} {G G':Gh} {cf:Nat->List D->Option (List D)} {Z:Fin} {nbx nv:Nat}
theorem Wae {A B:Fin}{s:LR}{l:aP}(h:(Ha8 nv A s l).eval σ=some B):FLe A B:=by
 unfold Ha8 at h;split at h
 ·simp only[aC,Vbl]at h
  subst h;exact⟨⟨_,rfl⟩,fun _ h=>h,fun _ h=>h,⟨[],by simp⟩,fun _ h=>h⟩
 ·exact Uag h
 ·exact Uae h
 ·simp only[aC,Vbl]at h
  subst h;exact⟨⟨_,rfl⟩,fun _ h=>h,fun _ h=>h,⟨[],by simp⟩,fun _ h=>h⟩
 ·simp only[aA,Vbj,aC,Vbl]at h
  obtain⟨d,-,rfl⟩:=h;exact⟨⟨_,rfl⟩,fun _ h=>h,fun _ h=>Vbo _ h,⟨[],by simp⟩,fun _ h=>h⟩
 ·simp only[aA,Vbj,aC,Vbl]at h
  obtain⟨d,-,rfl⟩:=h;exact⟨⟨_,rfl⟩,fun _ h=>h,fun _ h=>Vbo _ h,⟨_,rfl⟩,fun _ h=>h⟩
 ·cases h
theorem Ra8 (hR:R E.ntmps F σ ρ a w G)(cA:aJ cf ρ none nv Z.lets){A B:Fin}{s:LR}{l:aP}(h:(Ha8 nv A s l).eval σ=some B)(hZ:FLe B Z)(hG:Wa2 Z nbx G G'){v:Value}(hl:aB σ ρ G w l v) :
  mP G'.own w (Z.xs.map (·.val ρ)) nbx A.xs.length A.q s v/\B.xs.length=A.xs.length+s.n/\B.q=A.q+s.q:=by
 unfold Ha8 at h;split at h
 ·simp only[aC,Vbl]at h
  subst h;refine⟨?_,by simp[LR.n],rfl⟩;simp only[mP];rw[hZ.get (l:=A.xs) rfl];simpa[aB] using hl
 ·obtain⟨h1,-,h2,h3⟩:=Paq hR h hZ hG hl
  exact⟨h1,h2,h3⟩
 ·obtain⟨h1,-,h2,h3⟩:=Pao hR h hZ hG hl
  exact⟨h1,h2,h3⟩
 ·simp only[aC,Vbl]at h
  subst h;refine⟨?_,by simp[LR.n],rfl⟩;simp only[mP];rw[hZ.get (l:=A.xs) rfl];simp only[aB]at hl;exact⟨by rw[hl];rfl,.inl ⟨hl,_,rfl⟩⟩
 ·rename_i z deps z' x
  simp only[aA,Vbj,aC,Vbl]at h;obtain⟨ds,h1,rfl⟩:=h;refine⟨?_,by simp[LR.n],rfl⟩;simp only[mP];rw[hZ.get (l:=A.xs) rfl];simp only[aB]at hl;obtain⟨h3,h4,h5⟩:=jC h1;refine⟨hl.1.1,?_⟩
  rcases hl.2 h3 with h6|⟨ad,row,h6,h7,h8⟩
  ·exact .inl h6
  ·exact .inr ⟨ad,row,h6,h7,(h8.drop hR h5).give hG fun z hz=>hZ.frz _ (Vbr _ (Xbf hz))⟩
 ·rename_i z l' z' ix
  simp only[aA,Vbj,aC,Vbl]at h;obtain⟨sl,h1,rfl⟩:=h;refine⟨?_,by simp[LR.n],rfl⟩;simp only[mP];rw[hZ.get (l:=A.xs) rfl];simp only[aB]at hl;obtain⟨ad,n,cp,ik,iv,h3,h4,h5,h6,h7⟩:=hl;have hs:=eH hR h1 h3;obtain⟨lr,jl⟩:=hZ.lets;dsimp only at jl;rw[jl,Vbx]at cA;have s9:=(aJ.append cA).2;have mq:aJ cf ρ none (nv+bM A.lets) [.prim (.one z') [sl.x,ix] 1]:=(aJ.append s9).1;obtain⟨d,cC,hd⟩:=gJ mq rfl;simp only[Wbe,Wbu,h4]at cC
  have gj:∃ sz rs r,sl.x.val ρ=.rows sz rs/\sz=z'/\rs[iv.toNat]?=some r/\d=.rows z' [r]:=by
   cases hx:sl.x.val ρ with
   | rows sz rs =>
    rw[hx]at cC;simp only[aT.run]at cC;split at cC
    ·rename_i hc
     split at cC
     ·rename_i r hr
      simp only[Vbl,List.cons.injEq,and_true]at cC;exact⟨sz,rs,r,rfl,hc.1,hr,cC.symm⟩
     ·cases cC
    ·cases cC
   |_=>rw[hx]at cC;simp[aT.run]at cC
  obtain⟨sz,rs,r,hx,rfl,hr,rfl⟩:=gj;have jc:=hs.rd;rw[hx]at jc;obtain⟨A',b,n',c',vs,e1,e2,e3,e4,e5,e6,e7⟩:=jc.inv
  injection e1 with e1 e1' e1''
  have bj:iv.toNat<rs.length:=(Vbn.1 hr).1;have hA:some ad=some b:=by rw[e1];exact e4.resolve_left (by omega)
  obtain rfl:=Wbk hA;have pw:r.length=sz:=e5 r (Vb3 hr);refine⟨by rw[h7];rfl,.inr ⟨_,r,h7,by rw[hd,pw],?_⟩⟩
  have:Rd (allow G sl.deps) w (.slice (some (ad.add (iv.toNat*sz+0))) 1 1) (.rows r.length [r]):=by
   refine .rows _ (ad.add (iv.toNat*sz+0)) 1 1 r.length [r] (fun _ j=>vs iv.toNat j) rfl (Vb6 _) (.inr rfl) (by simp) (fun i0 r0 kx j d0 hj=>?_) (fun i0 r0 kx j d0 hj=>?_)
   ·cases i0 with
    | zero =>
     simp only[Vbv,Vbl]at kx;subst kx;obtain⟨k1,k2⟩:=e6 _ _ hr j d0 hj;refine⟨by rw[add_block];exact k1,?_⟩;rw[add_add];rw[show iv.toNat*sz+0+(0*r.length+j)=iv.toNat*sz+j by omega];exact k2
    |succ i0=>simp at kx
   ·cases i0 with
    | zero =>
     simp only[Vbv,Vbl]at kx;subst kx;exact e7 _ _ hr j d0 hj
    |succ i0=>simp at kx
  exact this.give hG fun z hz=>hZ.frz _ (Vbr _ (Xbf hz))
 ·cases h
theorem rG:∀ {ss:List LR} {ls:List aP} {A B:Fin},(iG nv A ss ls).eval σ=some B->FLe A B
 | [], [], A, B, h => by
  simp only[iG,aC,Vbl]at h;subst h;exact .refl _
 |[],_::_,A,B,h=>by simp[iG,bT]at h
 |_::_,[],A,B,h=>by simp[iG,bT]at h
 | s :: ss, l :: ls, A, B, h => by
  simp only[iG,aA,Vbj]at h;obtain⟨C,h1,h2⟩:=h;refine FLe.trans ?_ (rG h2);split at h1
  ·rename_i cs b
   simp only[aA,aR,Vbs]at h1;split at h1
   ·have h0:FLe A { A with bxs:=A.bxs++[b] }:=⟨⟨[],by simp⟩,fun _ h=>h,fun _ h=>h,⟨[],by simp⟩,fun _ h=>Vbo _ h⟩
    exact FLe.trans h0 (uR h1)
   ·cases h1
  ·exact Wae h1
theorem uQ (hR:R E.ntmps F σ ρ a w G)(cA:aJ cf ρ none nv Z.lets)(hG:Wa2 Z nbx G G'):∀ {ss:List LR} {ls:List aP} {A B:Fin} {vs:List Value},(iG nv A ss ls).eval σ=some B->FLe B Z->aD σ ρ G w ls vs ->
  qO G'.own w (Z.xs.map (·.val ρ)) nbx A.xs.length A.q ss vs/\B.xs.length=A.xs.length+nZ ss/\B.q=A.q+qL ss
 | [], [], A, B, vs, h, _, hl => by
  simp only[iG,aC,Vbl]at h;subst h;simp only[aD]at hl;exact⟨hl,rfl,rfl⟩
 |[],_::_,A,B,vs,h,_,_=>by simp[iG,bT]at h
 |_::_,[],A,B,vs,h,_,_=>by simp[iG,bT]at h
 | s :: ss, l :: ls, A, B, vs, h, hZ, hl => by
  simp only[iG,aA,Vbj]at h;obtain⟨C,h1,h2⟩:=h;simp only[aD]at hl;obtain⟨u,us,rfl,h3,h4⟩:=hl;have hCZ:FLe C Z:=(rG h2).trans hZ
  have key:mP G'.own w (Z.xs.map (·.val ρ)) nbx A.xs.length A.q s u/\C.xs.length=A.xs.length+s.n/\C.q=A.q+s.q:=by
   split at h1
   ·rename_i cs b
    simp only[aA,aR,Vbs]at h1;split at h1
    ·rename_i bs hk
     obtain⟨h5,h6,h7⟩:=hR.box hk;simp only[Vbm,if_false]at h6;obtain⟨h8,h9,da⟩:=xJ hR hG (ad:=G.bx b) (off:=0) h1 hCZ fun j l hj=>by rw[Wbj];exact h7 j l hj
     refine⟨?_,h9,da⟩;simp only[aB]at h3;simp only[mP];exact⟨G.bx b,h3.1,h5,hG.bxs b (hCZ.bxs _ ((uR h1).bxs _ (Vbr _ (Vbp.2 rfl)))) _ h6,h8⟩
    ·cases h1
   ·exact Ra8 hR cA h1 hCZ hG h3
  obtain⟨h5,h6,h7⟩:=key;obtain⟨h8,h9,da⟩:=uQ hR cA hG h2 hZ h4;rw[h6,h7]at h8;exact⟨⟨u,us,rfl,h5,h8⟩,by rw[h9,h6];simp only[nZ];omega,by rw[da,h7];simp only[qL];omega⟩
theorem Cau:∀ {rs:List (Bool×List LR)} {vars:List ResultVar} {A B:Fin},(qI E nv A rs vars).eval σ=some B->FLe A B
 | [], [], A, B, h => by
  simp only[qI,aC,Vbl]at h;subst h;exact .refl _
 |[],_::_,A,B,h=>by simp[qI,bT]at h
 |_::_,[],A,B,h=>by simp[qI,bT]at h
 | (ag, ss) :: rs, .tmp t :: vars, A, B, h => by
  simp only[qI,aA,aR,Vbs]at h;split at h
  ·simp only[aA,Vbj]at h
   obtain⟨_,-,ls,-,C,h1,h2⟩:=h;exact (rG h1).trans (Cau h2)
  ·cases h
 | (ag, ss) :: rs, .cell t ty :: vars, A, B, h => by
  simp only[qI,aA,Vbj]at h;obtain⟨ti,-,_,-,_,-,h⟩:=h;split at h
  ·simp only[aA,aR,Vbs]at h
   split at h
   ·simp only[aA,Vbj]at h
    obtain⟨C,h1,h2⟩:=h;exact (rG h1).trans (Cau h2)
   ·cases h
  ·cases h
theorem Paj {n t:Nat}{gh:Nat->Value}(h:t<n):a.tmps.getD t undef=Aa6 n a gh t:=by
 unfold Aa6;rw[if_pos h]
theorem Da4 (hti:vV P E.ti)(hR:R E.ntmps F σ ρ a w G)(cA:aJ cf ρ none nv Z.lets)(hG:Wa2 Z nbx G G'):∀ {rs:List (Bool×List LR)} {vars:List ResultVar} {A B:Fin},(qI E nv A rs vars).eval σ=some B->FLe B Z ->
  (∀ x∈vars,(Fbk a.tmps x).run P w=.ok (Eav P a.tmps w x) w)/\Lac G'.own w (Z.xs.map (·.val ρ)) nbx A.xs.length A.q rs (vars.map (Eav P a.tmps w))/\B.xs.length=A.xs.length+bO rs/\B.q=A.q+qR rs
 | [], [], A, B, h, _ => by
  simp only[qI,aC,Vbl]at h;subst h;exact⟨by simp,rfl,rfl,rfl⟩
 |[],_::_,A,B,h,_=>by simp[qI,bT]at h
 |_::_,[],A,B,h,_=>by simp[qI,bT]at h
 | (ag, ss) :: rs, .tmp t :: vars, A, B, h, hZ => by
  simp only[qI,aA,aR,Vbs]at h;split at h
  case h_2=>cases h
  rename_i sv hk;simp only[aA,Vbj,aH,aV]at h;obtain⟨_,h0,ls,h1,C,h2,h3⟩:=h;split at h0
  case isFalse=>cases h0
  rename_i ht;simp only[Wb0]at ht;have hv:=hR.slot hk rfl;rw[<- Paj ht]at hv;have cC:(Fbk a.tmps (.tmp t)).run P w=.ok (a.tmps.getD t undef) w:=rfl;obtain⟨e1,e2⟩:=Oah cC;have hC:=(Cau h3).trans hZ;obtain⟨h4,h5,h6⟩:=uQ hR cA hG h2 hC (iK h1 hv);obtain⟨h7,h8,h9,da⟩:=Da4 hti hR cA hG h3 hZ;rw[h5,h6]at h8;refine⟨fun x hx=>?_,⟨_,_,_,rfl,h4,?_,h8⟩,by rw[h9,h5];simp only[bO];omega,by rw[da,h6];simp only[qR];omega⟩
  ·rcases Vbu.1 hx with rfl|hx
   ·exact e2
   ·exact h7 x hx
  ·rw[e1]
   unfold kE at h1;split at h1
   ·cases ag with
    |true=>cases h1
    | false =>
     rw[aB.cells hv];simp
   ·cases ag with
    |false=>cases h1
    | true =>
     obtain⟨us,e,-⟩:=hv;rw[e];simp[Value.cells]
   ·cases h1
 | (ag, ss) :: rs, .cell t ty :: vars, A, B, h, hZ => by
  simp only[qI,aA,Vbj,aV,aH,aR]at h;obtain⟨ti,h0,_,h1,c,hc,h⟩:=h;obtain rfl:=Wbk hc;split at h1
  case isFalse=>cases h1
  rename_i hb;simp only[Vbk,beq_iff_eq,Wbl,Wb9,Wb0]at hb;obtain⟨⟨⟨ui,dh⟩,kf⟩,ht⟩:=hb;split at h
  case h_2=>cases h
  rename_i b off hk;simp only[aA,aR,Vbs]at h;split at h
  case h_2=>cases h
  rename_i ro ls pg;simp only[aA,Vbj]at h;obtain⟨C,h2,h3⟩:=h;have hv:aB σ ρ G w (.px b off) _:=hR.slot hk rfl;rw[<- Paj ht]at hv;simp only[aB]at hv;obtain⟨lR,gp,rh⟩:=hR.box pg
  obtain⟨vs,h4,h5⟩:=mJ (σ:=σ) (ρ:=ρ) (G:=G) (w:=w) ((G.bx b).add off) ((ls.drop off).take ti.size) 0 fun j l hj=>by
   rw[List.getElem?_take]at hj;split at hj
   ·rw[Wbt]at hj
    obtain⟨v,h6,-,h7⟩:=rh _ _ hj;exact⟨v,by rw[add_add,Wbj];exact h6,h7⟩
   ·cases hj
  have hC:=(Cau h3).trans hZ;obtain⟨h6,h7,h8⟩:=uQ hR cA hG h2 hC h4
  have hlen:vs.length=ti.size:=by
   have gA:∀ {ss:List LR} {vs:List Value} {i q:Nat},qO G'.own w (Z.xs.map (·.val ρ)) nbx i q ss vs->vs.length=ss.length:=by
    intro ss
    induction ss with
    |nil=>intro vs i q h;simp only[qO]at h;subst h;rfl
    | cons s ss ih =>
     intro vs i q h;obtain⟨u,us,rfl,-,h⟩:=h;simp[ih h]
   rw[gA h6,dh]
  obtain⟨info,ud,hf⟩:=aW (hti.ok _ _ h0)
  have et:∃ v,if ti.agg=true then v=.agg vs.toArray else vs=[v]:=by
   cases oT:ti.agg with
   |true=>exact⟨_,by rw[if_pos rfl]⟩
   | false =>
    rw[oT]at kf;simp only[Vbm,false_or]at kf;rw[kf]at hlen
    match vs,hlen with
    |[v],_=>exact⟨v,by simp⟩
  obtain⟨v,et⟩:=et;have sC:=kV hf ((G.bx b).add off) vs hlen (fun j u hj=>by have:=h5 j u hj;rwa[Wbj]at this) et
  have cC:(Fbk a.tmps (.cell t ty)).run P w=.ok v w:=by
   show (do loadVar ty (<- asAddr (a.tmps.getD t undef)):Sem Value).run P w=.ok v w
   rw[hv.1];simp only[asAddr,Sem.run_bind,Sem.run_pure,Result.andThen_ok];exact sC
  obtain⟨e1,e2⟩:=Oah cC;obtain⟨h9,da,eo,gb⟩:=Da4 hti hR cA hG h3 hZ;rw[h7,h8]at da;refine⟨fun x hx=>?_,⟨_,_,vs,rfl,h6,?_,da⟩,by rw[eo,h7];simp only[bO];omega,by rw[gb,h8];simp only[qR];omega⟩
  ·rcases Vbu.1 hx with rfl|hx
   ·exact e2
   ·exact h9 x hx
  ·rw[e1,ui];exact et
theorem Ha7 {t:Nat}:∀ {ms:List Nat} {j:Nat} {A B:Fin},(Fab t j ms A).eval σ=some B->FLe A B
 | [], j, A, B, h => by
  simp only[Fab,aC,Vbl]at h;subst h;exact .refl _
 | d :: ms, j, A, B, h => by
  simp only[Fab,aA,aR,Vbs]at h;split at h
  case h_2=>cases h
  rename_i r hk;simp only[aA,aR,Vbs]at h;split at h
  case h_2=>cases h
  rename_i x m cy p0;simp only[aA,Vbj]at h;obtain⟨_,-,h⟩:=h;have h0:FLe A { A with xs:=A.xs++[x],own:=A.own++[(r,2*j+1,d)] }:=⟨⟨_,rfl⟩,fun _ h=>Vbo _ h,fun _ h=>h,⟨[],by simp⟩,fun _ h=>h⟩;exact h0.trans (Ha7 h)
theorem Ka0 (hR:R E.ntmps F σ ρ a w G)(hG:Wa2 Z nbx G G'):∀ {ms:List Nat} {j:Nat} {A B:Fin},(Fab E.ntmps j ms A).eval σ=some B->FLe B Z ->
  Uar G'.own w (Z.xs.map (·.val ρ)) F.gh A.xs.length j ms/\B.xs.length=A.xs.length+ms.length/\B.q=A.q
 | [], j, A, B, h, _ => by
  simp only[Fab,aC,Vbl]at h;subst h;exact⟨trivial,rfl,rfl⟩
 | d :: ms, j, A, B, h, hZ => by
  simp only[Fab,aA,aR,Vbs]at h;split at h
  case h_2=>cases h
  rename_i r hk;simp only[aA,aR,Vbs]at h;split at h
  case h_2=>cases h
  rename_i x m cy p0;simp only[aA,Vbj,aH]at h;obtain⟨_,h0,h⟩:=h;split at h0
  case isFalse=>cases h0
  rename_i hb;simp only[Wb6]at hb;have hv:aB σ ρ G w (.ex r) _:=hR.slot hk rfl
  have e:Aa6 E.ntmps a F.gh (E.ntmps+j)=F.gh j:=by
   unfold Aa6;rw[if_neg (by omega),Wbx]
  rw[e]at hv;simp only[aB]at hv;have hC:=(Ha7 h).trans hZ;obtain⟨h1,h2,h3⟩:=Ka0 hR hG h hZ;simp only[List.length_append,List.length_singleton]at h1 h2;refine⟨⟨?_,h1⟩,by rw[h2];simp;omega,h3⟩;rw[hC.get (l:=A.xs) rfl,hv.1];have hr:=hR.root p0;simp only[bW]at hr;exact hr.give hG (hC.own _ (Vbr _ (Vbp.2 rfl))) hb
theorem uS {t:Nat}:∀ {bs:List (Bool×List (BS×BO))} {b:Nat} {A B:Fin},(rH t A b bs).eval σ=some B->FLe A B
 | [], b, A, B, h => by
  simp only[rH,aC,Vbl]at h;subst h;exact .refl _
 | (ro, cs) :: bs, b, A, B, h => by
  simp only[rH]at h
  cases ro with
  |true=>exact uS h
  | false =>
   simp only[cond_false,aA,aR,Vbs]at h;split at h
   ·simp only[aA,aR,Vbs,Vbj]at h
    obtain⟨_,-,h⟩:=h;split at h
    ·simp only[aA,Vbj]at h
     obtain⟨C,h1,h2⟩:=h;exact (uR h1).trans (uS h2)
    ·cases h
   ·cases h
theorem xK (hR:R E.ntmps F σ ρ a w G)(hG:Wa2 Z nbx G G'){nm:Nat}{bx:Nat->Addr}{nb:Nat}(zp:∀ b,b<nb->F.gh (nm+b)=.pointer (some (bx b))):∀ {bs:List (Bool×List (BS×BO))} {b:Nat} {A B:Fin},b+bs.length<=nb->(rH (E.ntmps+nm) A b bs).eval σ=some B->FLe B Z ->
  pI G'.own w (Z.xs.map (·.val ρ)) bx b A.xs.length A.q bs
 |[],b,A,B,_,h,_=>trivial
 | (ro, cs) :: bs, b, A, B, ny, h, hZ => by
  simp only[Wbb]at ny;simp only[rH]at h
  cases ro with
  | true =>
   simp only[pI,if_true];exact xK hR hG zp (by omega) h hZ
  | false =>
   simp only[pI,Vbm,if_false];simp only[cond_false,aA,aR,Vbs]at h;split at h
   case h_2=>cases h
   rename_i b' hk;simp only[aA,aR,Vbs,Vbj,aH]at h;obtain⟨_,h0,h⟩:=h;split at h0
   case isFalse=>cases h0
   rename_i hb;simp only[Wbl]at hb;subst hb;split at h
   case h_2=>cases h
   rename_i ls pg;simp only[aA,Vbj]at h;obtain⟨C,h1,h2⟩:=h;have hv:aB σ ρ G w (.px b' 0) _:=hR.slot hk rfl
   have e:Aa6 E.ntmps a F.gh (E.ntmps+nm+b')=F.gh (nm+b'):=by
    unfold Aa6;rw[if_neg (by omega)];congr 1;omega
   rw[e,zp b' (by omega)]at hv;simp only[aB]at hv
   have gl:bx b'=G.bx b':=by
    have:=hv.1
    injection this with this
    injection this
   obtain⟨h5,h6,h7⟩:=hR.box pg;obtain⟨h8,h9,da⟩:=xJ hR hG (ad:=G.bx b') (off:=0) h1 ((uS h2).trans hZ) fun j l hj=>by rw[Wbj];exact h7 j l hj
   have eo:=xK hR hG zp (b:=b'+1) (by omega) h2 hZ;rw[h9,da,Wbm]at eo;rw[gl];exact⟨h8,eo⟩
end
theorem Ca2:∀ {l:List (Nat×Nat×Nat)} {r t m:Nat},distinct (l.map (·.1))=true->(r,t,m)∈l->l.find? (fun z=>Nat.beq z.1 r)=some (r,t,m)
 |[],r,t,m,_,h=>by simp at h
 | (r', t', m') :: l, r, t, m, hd, h => by
  simp only[Wbe,distinct,Vbk,Vb9]at hd
  rcases Vbu.1 h with h1|h1
  ·obtain⟨rfl,rfl,rfl⟩:r=r'/\t=t'/\m=m':=by simpa using h1
   simp
  ·have cU:Nat.beq r' r=false:=by
    cases e:Nat.beq r' r with
    |false=>rfl
    | true =>
     simp only[Wbl]at e;subst e;have:has (l.map (·.1)) r'=true:=nD.2 (Wb3.2 ⟨_,h1,rfl⟩);rw[hd.1]at this;cases this
   rw[List.find?_cons_of_neg (by simp[cU])];exact Ca2 hd.2 h1
def Mav (Z:Fin)(nbx:Nat)(G:Gh):Gh:={ G with own:=fun b=>match G.own b with
 | .slc r p => (match Z.own.find? (fun z => Nat.beq z.1 r) with
  |some (_,t,m)=>if p.length<m then .slc t p else .frz
  |none=>if r∈Z.frz then .frz else .oth)
 |.box β=>if β<nbx then .box β else if β∈Z.bxs then .box nbx else .oth
 |o=>o }
theorem Db3 {Z:Fin}{nbx:Nat}{G:Gh}(hd:distinct (Z.own.map (·.1))=true)(hm:meets (Z.own.map (·.1)) Z.frz=false)(hb:(Z.bxs.any fun b=>Nat.blt b nbx)=false):Wa2 Z nbx G (Mav Z nbx G):=by
 refine⟨fun b hb=>by simp only[Mav,hb],fun r t m hz b p hb=>?_,fun r hr b p hb=>?_,fun β hβ b hbb=>?_⟩
 ·simp only[Mav,hb,Ca2 hd hz]
 ·have:Z.own.find? (fun z=>Nat.beq z.1 r)=none:=by
   rw[List.find?_eq_none];intro z hz e;simp only[Wbl]at e;exact pY hm (Wb3.2 ⟨z,hz,rfl⟩) (by rw[e];exact hr)
  simp only[Mav,hb,this,if_pos hr]
 ·rw[Xbr]at hb
  have:=hb β hβ;simp only[Wb0]at this;simp only[Mav,hbb,if_neg this,if_pos hβ]
section
variable {P:Program} {E:Env} {F:bK} {ρ:List D} {cf:Nat->List D->Option (List D)}
theorem Wad (hti:vV P E.ti){s:Sig}{wu:List ResultVar}{st:St}{t:Tm St}(h:finish E s wu st=some t){o:Out St}(ho:Ec cf t ρ=some o)(hl:ρ.length=st.nv)(hi:Dah E st) :
  o.kind=.ret/\∀ a w G (fn:Func) (bx:Nat->Addr),fn.results.toList=wu->(∀ b,b<s.boxes.length->F.gh ((eO (s.params.flatMap (·.2))).length+b)=.pointer (some (bx b))) ->
   (∀ b j,b<F.w0.heap.size->F.own0 b=.box j->j<s.boxes.length)->R E.ntmps F st.get ρ a w G ->
   ∃ v,(results fn a.tmps).run P w=.ok v w/\Sax s F bx v w o.vals:=by
 unfold finish at h;split at h
 case h_2=>cases h
 rename_i Z hZ;generalize hb:(distinct (Z.own.map (·.1))&&!(meets (Z.own.map (·.1)) Z.frz)&&!(Z.bxs.any fun b=>Nat.blt b s.boxes.length)&&fD st.nv Z.lets)=b at h
 cases b with
 |false=>cases h
 | true =>
  rw[cond_true]at h;obtain rfl:=Wbk h;simp only[Vbk,Vb9]at hb;obtain⟨⟨⟨lR,gp⟩,rh⟩,hb4⟩:=hb;obtain⟨ds,h4,h5,h6⟩:=vZ (g:=none) rfl (by rw[hl];exact hb4) ho;rw[gH]at h5;obtain rfl:=Wbk h5;refine⟨rfl,fun a w G fn bx hfn zp pA hR=>?_⟩;have cA:=h6 [];rw[Wbo,hl]at cA;have hR:=hR.ext hi.sc (by omega) ds;have hG:=Db3 (G:=G) lR gp rh;simp only[Fbl,aA,Vbj]at hZ;obtain⟨A,h7,B,h8,h9⟩:=hZ;have hB:=uS h9;have hA:=(Ha7 h8).trans hB;obtain⟨da,eo,gb,jk⟩:=Da4 (cf:=cf) hti hR cA hG h7 hA;obtain⟨ln,mz,na⟩:=Ka0 hR hG h8 hB;have h17:=xK hR hG zp (b:=0) (by omega) h9 (.refl _);simp only[Wbp,Wbj]at eo gb jk;rw[gb]at ln mz;rw[mz,na,jk]at h17;refine⟨Eau (fn.results.toList.map (Eav P a.tmps w)),?_,Mav Z s.boxes.length G,_,by rw[hfn],?_,eo,ln,h17⟩
  ·have hm:(fn.results.mapM (Fbk a.tmps)).run P w=.ok (fn.results.map (Eav P a.tmps w)) w:=zU _ _ _ (by rw[hfn];exact da)
   have e:results fn a.tmps=(do let vs <- fn.results.mapM (Fbk a.tmps);pure (if h:vs.size=1 then vs[0] else Value.tuple vs)):=rfl;rw[e,Sem.run_bind,hm];simp only[Result.andThen_ok,Sem.run_pure];rw[Xay,Array.toList_map]
  ·refine⟨hR.frame.os,hR.frame.tape,hR.frame.output,hR.frame.size,fun b hb ho=>?_,fun b j hb ho=>?_,fun b hb=>?_⟩
   ·obtain⟨h18,h19⟩:=hR.frame.keep b hb ho
    refine⟨h18,?_⟩
    rcases ho with ho|ho<;>rw[ho]at h19 ⊢<;>simp only[Mav,h19]
   ·obtain⟨h18,h19⟩:=hR.frame.boxes b j hb ho
    refine⟨?_,h19⟩;simp only[Mav,h18,if_pos (pA b j hb ho)]
   ·simp only[Mav,hR.frame.fresh b hb]
end
def Goes (P:Program)(f:Nat)(args:Array Value)(w:World)(K:Value->World->Prop):Prop :=
 ((callFunc f args).run P w=.ok (.enter f args) w/\Calls P f args w fun
  |.returned v,w'=>K v w'
  |_,_=>False)\/∃ v w',(callFunc f args).run P w=.ok (.value v) w'/\K v w'
def vF (P:Program)(T:Nat->Ent)(n key:Nat)(s:Sig):Prop :=
 ∀ vals w G ds ie,Eb5 s vals w G ds->kL T n key ds=some ie->Goes P s.fn vals.toArray w fun v w'=>Sax s (rZ s G w) G.bx v w' ie
def Dak (P:Program)(X:(Nat->Ow)->World->Prop)(T:Nat->Ent)(n key:Nat)(s:Sig):Prop :=
 ∀ vals w G ds ie,Eb5 s vals w G ds->X G.own w->kL T n key ds=some ie->Goes P s.fn vals.toArray w fun v w'=>Sax s (rZ s G w) G.bx v w' ie
def Stable (X:(Nat->Ow)->World->Prop):Prop :=
 ∀ (own0:Nat->Ow) (w0:World) (own:Nat->Ow) (w:World),w0.heap.size<=w.heap.size->(∀ b,b<w0.heap.size->own0 b=.frz->w.heap[b]?=w0.heap[b]?/\own b=.frz)->X own0 w0->X own w
theorem nO {P : Program} {f : FuncId} {fn : Func} {c : Code} (hf : P.funcs[f]? = some fn) (hname : (fn.name == "runtime.NumGoroutine") = false) (hb : fn.body = some c) (args : Array Value) (w : World) :
  (callFunc f args).run P w=.ok (.enter f args) w:=by
 have h1 : fn.name ≠ "runtime.NumGoroutine" := by simpa using hname
 simp[callFunc,hf,h1,hb]
theorem Yan:∀ (ss:List LS) (r:Nat),(fE r ss).length=(eO ss).length
 |[],r=>rfl
 | s :: ss, r => by
  cases s<;>simp[fE,eO,Yan ss]
theorem Oaq:∀ (n a j:Nat),j<n->(range a n)[j]?=some (a+j)
 |0,a,j,h=>by omega
 |n+1,a,0,h=>rfl
 | n + 1, a, j + 1, h => by
  simp only[range,Wbz];rw[Oaq n (a+1) j (by omega)];congr 1;omega
theorem Abl {s:Sig}{G:Gh}{w:World}{b:Nat}(h:b<s.boxes.length):(rZ s G w).gh ((eO (s.params.flatMap (·.2))).length+b)=.pointer (some (G.bx b)):=by
 simp only[rZ,Hay,Vby];rw[Vbz (by simp[Yan]),Wbm,Yan,Wbx,Wbs,Oaq _ _ _ h];simp
theorem Mas {P : Program} {X : (Nat -> Ow) -> World -> Prop} {E : Env} {T : Nat -> Ent} {n key : Nat} {s : Sig} {fn : Func} {tm : Tm Unit} (hti : vV P E.ti) (hm : P.follows .mixedOrders = true) (hfn : P.funcs[s.fn]? = some fn) (hname : (fn.name == "runtime.NumGoroutine") = false)
  (hx:Ua7 E s fn=some tm) (hT:T key=.tm tm) (cY:∀ F,X F.own0 F.w0->Aa5 P { E with ntmps:=fn.ntmps,ngh:=oH s,nbx:=s.boxes.length } F (kL T n)):Dak P X T (n+1) key s:=by
 intro vals w G ds ie fe hX cC;simp only[kL,hT,Vbj]at cC;obtain⟨o,cC,vl⟩:=cC;unfold Gbq at vl;split at vl
 case isFalse=>cases vl
 rename_i hk;obtain rfl:=Wbk vl;unfold Ua7 at hx;split at hx
 case h_1=>cases hx
 rename_i c hbody
 cases hle:Nat.ble s.params.length fn.ntmps with
 |false=>rw[hle]at hx;cases hx
 | true =>
  rw[hle]at hx;simp only[Bool.not_true,cond_false,bind,Vbj,Vbl]at hx;obtain⟨tc,htc,t,ht,rfl⟩:=hx;simp only[Wb6]at hle;rw[Vao,Option.map_eq_some_iff]at cC;obtain⟨o0,cC,rfl⟩:=cC;have hev:Ec (kL T n) t ds=some o0:=Ia9.2 ⟨n,cC⟩
  obtain⟨o1,h1,h2⟩:=lW (fun st r hr ρ o ho=>by
   split at hr
   ·rename_i t' hf
    obtain rfl:=Wbk hr;unfold finish at hf;split at hf
    case h_2=>cases hf
    rename_i Z hZ
    revert hf
    generalize (distinct (Z.own.map (·.1))&&!(meets (Z.own.map (·.1)) Z.frz)&&!(Z.bxs.any fun b=>Nat.blt b s.boxes.length)&&fD st.nv Z.lets)=b;intro hf
    cases b with
    |false=>cases hf
    | true =>
     rw[cond_true]at hf;obtain rfl:=Wbk hf;exact mX ho
   ·obtain rfl:=Wbk hr
    rw[jM]at ho;cases ho) rfl (fun _=>rfl) ht hev
  rcases h2 with ⟨h2,h3,r,h4,h5⟩|⟨h2,h3⟩
  case inr =>
   subst h3;have jx:o0.kind=.ret:=hk;rw[jx]at h2;cases h2
  unfold Eb8 at htc;dsimp only at htc;generalize mi:Gaj (entry s fn.ntmps) (entry s fn.ntmps).nr _=b at htc
  cases b with
  |false=>simp[kK]at htc
  | true =>
   rw[cond_true]at htc;have hinv:Dah { E with ntmps:=fn.ntmps,ngh:=oH s,nbx:=s.boxes.length } (entry s fn.ntmps):=Zar mi rfl;obtain⟨hlen,hR⟩:=Hbm (n:=fn.ntmps) fe hle;have pr:ds.length=(entry s fn.ntmps).nv:=by rw[(Da6 s fn.ntmps).1];exact fe.len
   obtain⟨hp,hw⟩:=rR (E:={ E with ntmps:=fn.ntmps,ngh:=oH s,nbx:=s.boxes.length }) (F:=rZ s G w) (fun x j hx ho=>(fe.cells x j hx ho).1) hti (cY _ hX) hm c htc h1 pr hinv;refine .inl ⟨nO hfn hname hbody _ _,?_⟩;refine calls_of_wp hfn hbody ?_;rw[show vals.toArray.size=vals.length by simp];refine hw _ w G _ hR fun a' w' G' iu=>?_
   split at h4
   case h_2 =>
    obtain rfl:=Wbk h4;rw[jM]at h5;cases h5
   rename_i t' hf;obtain rfl:=Wbk h4;obtain⟨h6,h7⟩:=Wad (E:={ E with ntmps:=fn.ntmps,ngh:=oH s,nbx:=s.boxes.length }) (F:=rZ s G w) hti hf h5 hp.len hp.inv;obtain⟨v,h8,h9⟩:=h7 a' w' G' fn G.bx rfl (fun b hb=>Abl hb) (fun b j hb ho=>(fe.cells b j hb ho).1) iu;have hd:=iu.defers
   revert h2
   cases o1.kind with
   |fall=>exact fun _=>⟨hd,v,h8,h9⟩
   |ret=>exact fun _=>⟨hd,v,h8,h9⟩
   |exit i=>intro h;cases h
   |cont=>intro h;cases h
   |yield i=>intro h;cases h
def strip:List Nat->List Nat->Option (List Nat)
 |[],p=>some p
 |a::q,b::p=>if a=b then strip q p else none
 |_::_,[]=>none
theorem Eaq:∀ (q t:List Nat),strip q (q++t)=some t
 |[],t=>rfl
 |a::q,t=>by simp[strip,Eaq q t]
theorem Ja3:∀ {q p t:List Nat},strip q p=some t->p=q++t
 |[],p,t,h=>by simpa[strip] using h
 |a::q,[],t,h=>by simp[strip]at h
 | a :: q, b :: p, t, h => by
  simp only[strip]at h;split at h
  ·rename_i e
   rw[e,Ja3 h];rfl
  ·cases h
def Yam (w:World):Value->List Nat->Value
 |v,[]=>v
 |.slice (some a) _ _,k::p=>Yam w ((w.cell? (a.add k)).getD undef) p
 |_,_::_=>undef
theorem Dax {own:Nat->Ow}{w:World}{r:Nat}:∀ {p q:List Nat} {v u:Value},zO own w r q v p u->Yam w v p=u
 |[],q,v,u,h=>by simp only[zO]at h;rw[h];cases v<;>rfl
 | k :: p, q, v, u, h => by
  obtain⟨a,n,c,u',rfl,-,h2,h3⟩:=h;simp only[Yam,h2,Xbq];exact Dax h3
section
variable (ρ:List D) (dr:List Nat)
def mZ:Nat->List RT->Nat->List Nat->Ow
 |_,[],r,_=>if r∈dr then .frz else .oth
 |ν,.nil::t,r,p=>mZ (ν+1) t r p
 |ν,.own s d::t,r,p=>if r=s then (if p.length<d then .slc ν p else .frz) else mZ (ν+1) t r p
 |ν,.mu s d q _::t,r,p=>if r=s then (match strip (bB ρ q) p with | some t'=>if t'.length<d then .slc ν t' else .frz | none=>.oth) else mZ (ν+1) t r p
end
def Ram (ptrs:List (Nat×Nat×Nat))(c:Nat):Nat->List (Bool×List (BS×BO))->Option Nat
 |_,[]=>none
 | b, (ro, _) :: r => if ro = true then Ram ptrs c (b + 1) r else match pX b ptrs with
  |some (c',_)=>if c'=c then some b else Ram ptrs c (b+1) r
  |none=>Ram ptrs c (b+1) r
def Kbt (ρ:List D)(G:Gh)(w:World):RT->Value
 |.nil=>.slice none 0 0
 |.own r _=>G.hdr r
 |.mu r _ q _=>Yam w (G.hdr r) (bB ρ q)
def callG (ρ:List D)(G:Gh)(w:World)(s:Sig)(Z:Take):Gh:={
 own:=fun b=>match G.own b with
  |.slc r p=>mZ ρ (Z.deps.map (·.1)) 0 Z.rts r p
  | .box c => (match Ram Z.ptrs c 0 s.boxes with
   |some j=>if b=(G.bx c).block then .box j else .oth
   |none=>.oth)
  |o=>o
 hdr:=fun ν=>((Z.rts[ν]?).map (Kbt ρ G w)).getD undef
 bx:=fun b=>match pX b Z.ptrs with
  |some (c,off)=>(G.bx c).add off
  |none=>⟨0,0,none⟩ }
theorem sN {ρ:List D}{dr:List Nat}{r:Nat}{p:List Nat}:∀ {rts:List RT} {ν:Nat},r∉dD rts->mZ ρ dr ν rts r p=if r∈dr then .frz else .oth
 |[],ν,h=>rfl
 |.nil::t,ν,h=>sN (rts:=t) h
 | .own s d :: t, ν, h => by
  simp only[dD,Vbu,not_or]at h;simp only[mZ,if_neg h.1];exact sN h.2
 | .mu s d q X :: t, ν, h => by
  simp only[dD,Vbu,not_or]at h;simp only[mZ,if_neg h.1];exact sN h.2
theorem uE:∀ {rts:List RT} {ν r:Nat},(∃ d,rts[ν]?=some (.own r d))\/(∃ d q X,rts[ν]?=some (.mu r d q X))->r∈dD rts
 |[],ν,r,h=>by simp at h
 | x :: t, 0, r, h => by
  simp only[Vbv,Vbl]at h
  rcases h with ⟨d,rfl⟩|⟨d,q,X,rfl⟩<;>exact Vb7
 | x :: t, ν + 1, r, h => by
  have:=uE (rts:=t) (ν:=ν) (r:=r) (by simpa using h)
  cases x with
  |nil=>exact this
  |own s d=>exact Vb1 _ this
  |mu s d q X=>exact Vb1 _ this
theorem Bau {ρ:List D}{dr:List Nat}{r d:Nat}{p:List Nat}:∀ {rts:List RT} {gx ν:Nat},distinct (dD rts)=true->rts[ν]?=some (.own r d)->mZ ρ dr gx rts r p=if p.length<d then .slc (gx+ν) p else .frz
 |[],gx,ν,_,h=>by simp at h
 | x :: t, gx, 0, hd, h => by
  simp only[Vbv,Vbl]at h;subst h;simp[mZ]
 | x :: t, gx, ν + 1, hd, h => by
  simp only[Wbz]at h;have hm:=uE (.inl ⟨d,h⟩)
  cases x with
  | nil =>
   simp only[mZ];rw[Bau (rts:=t) hd h,show gx+1+ν=gx+(ν+1) by omega]
  | own s d' =>
   simp only[dD,distinct,Vbk,Vb9]at hd;have cU:r≠s:=fun e=>by rw[e,<- nD,hd.1]at hm;cases hm
   simp only[mZ,if_neg cU];rw[Bau hd.2 h,show gx+1+ν=gx+(ν+1) by omega]
  | mu s d' q X =>
   simp only[dD,distinct,Vbk,Vb9]at hd;have cU:r≠s:=fun e=>by rw[e,<- nD,hd.1]at hm;cases hm
   simp only[mZ,if_neg cU];rw[Bau hd.2 h,show gx+1+ν=gx+(ν+1) by omega]
theorem Fa4 {ρ:List D}{dr:List Nat}{r d:Nat}{q:List (aI×Nat×Nat)}{X:aI}{p:List Nat}:∀ {rts:List RT} {gx ν:Nat},distinct (dD rts)=true->rts[ν]?=some (.mu r d q X) ->
  mZ ρ dr gx rts r p=match strip (bB ρ q) p with|some t'=>if t'.length<d then .slc (gx+ν) t' else .frz|none=>.oth
 |[],gx,ν,_,h=>by simp at h
 | x :: t, gx, 0, hd, h => by
  simp only[Vbv,Vbl]at h;subst h;simp[mZ]
 | x :: t, gx, ν + 1, hd, h => by
  simp only[Wbz]at h;have hm:=uE (.inr ⟨d,q,X,h⟩)
  cases x with
  | nil =>
   simp only[mZ];rw[Fa4 (rts:=t) hd h,show gx+1+ν=gx+(ν+1) by omega]
  | own s d' =>
   simp only[dD,distinct,Vbk,Vb9]at hd;have cU:r≠s:=fun e=>by rw[e,<- nD,hd.1]at hm;cases hm
   simp only[mZ,if_neg cU];rw[Fa4 hd.2 h,show gx+1+ν=gx+(ν+1) by omega]
  | mu s d' q' X' =>
   simp only[dD,distinct,Vbk,Vb9]at hd;have cU:r≠s:=fun e=>by rw[e,<- nD,hd.1]at hm;cases hm
   simp only[mZ,if_neg cU];rw[Fa4 hd.2 h,show gx+1+ν=gx+(ν+1) by omega]
structure TLe (A B:Take):Prop where
 xs:∃ l,B.xs=A.xs++l
 ptrs:∀ z∈A.ptrs,z∈B.ptrs
 deps:∀ z∈A.deps,z∈B.deps
 lets:∃ l,B.lets=A.lets++l
 rts:∃ l,B.rts=A.rts++l
theorem TLe.refl (A:Take):TLe A A:=⟨⟨[],by simp⟩,fun _ h=>h,fun _ h=>h,⟨[],by simp⟩,⟨[],by simp⟩⟩
theorem TLe.trans {A B C:Take}(h:TLe A B)(h':TLe B C):TLe A C:=by
 obtain⟨⟨l,h1⟩,h2,h3,⟨m,h4⟩,⟨k,h5⟩⟩:=h;obtain⟨⟨l',wg⟩,uy,h3',⟨m',vp⟩,⟨k',sd⟩⟩:=h';exact⟨⟨l++l',by rw[wg,h1,Vbx]⟩,fun z hz=>uy z (h2 z hz),fun z hz=>h3' z (h3 z hz),⟨m++m',by rw[vp,h4,Vbx]⟩,⟨k++k',by rw[sd,h5,Vbx]⟩⟩
theorem TLe.get {A B:Take}(h:TLe A B){ρ:List D}{x:aI}{l:List aI}(hx:A.xs=l++[x]):(aI.v l.length).val (B.xs.map (·.val ρ))=x.val ρ:=by
 obtain⟨m,h1⟩:=h.xs;rw[h1,hx];simp only[aI.val,Vby];simp
theorem TLe.rt {A B:Take}(h:TLe A B){x:RT}{l:List RT}(hx:A.rts=l++[x]):B.rts[l.length]?=some x:=by
 obtain⟨m,h1⟩:=h.rts;rw[h1,hx];simp
structure Laa (s:Sig) (Z:Take):Prop where
 ptrs:∀ b c off,(b,c,off)∈Z.ptrs->b<s.boxes.length/\pX b Z.ptrs=some (c,off)
 dist:distinct (dD Z.rts)=true
 deps:∀ z∈Z.deps,z.1∉dD Z.rts
 wr:distinct (iU false Z.ptrs 0 s.boxes)=true
 ro:meets (iU false Z.ptrs 0 s.boxes) (iU true Z.ptrs 0 s.boxes)=false
theorem Haf {nbx:Nat}{ptrs:List (Nat×Nat×Nat)}:∀ {l:List (Nat×Nat×Nat)},Tav nbx ptrs l=true->∀ b c off,(b,c,off)∈l->b<nbx/\pX b ptrs=some (c,off)
 |[],_,b,c,off,h=>by simp at h
 | (b', c', ll) :: l, h, b, c, off, hm => by
  simp only[Tav,Vbk,Wb0]at h
  rcases Vbu.1 hm with e|hm
  ·obtain⟨rfl,rfl,rfl⟩:b=b'/\c=c'/\off=ll:=by simpa using e
   refine⟨h.1.1,?_⟩;have h2:=h.1.2;split at h2
   ·rename_i e
    simp only[Vbk,Wbl]at h2;rw[e,h2.1,h2.2]
   ·cases h2
  ·exact Haf h.2 b c off hm
theorem Qaw {s:Sig}{Z:Take}(h:Xac s Z=true):Laa s Z:=by
 simp only[Xac,Vbk,Vb9]at h;obtain⟨⟨⟨⟨h1,h2⟩,h3⟩,h4⟩,h5⟩:=h;refine⟨Haf h1,h2,fun z hz hm=>?_,h4,h5⟩;rw[Xbr]at h3;exact h3 z hz (nD.2 hm)
section
variable {E:Env} {F:bK} {σ:Nat->Option aQ} {ρ:List D} {a:Act} {w:World} {G:Gh} {g:Option (aI×Bool)} {cf:Nat->List D->Option (List D)} {s:Sig} {Z:Take} {nv:Nat}
theorem qM {b:Nat}(h:G.own b=.frz):(callG ρ G w s Z).own b=.frz:=by simp only[callG,h]
theorem Abk (hk:Laa s Z){b r k:Nat}{p:List Nat}(hz:(r,k)∈Z.deps)(h:G.own b=.slc r p):(callG ρ G w s Z).own b=.frz:=by
 simp only[callG,h];rw[sN (hk.deps _ hz),if_pos (Wb3.2 ⟨_,hz,rfl⟩)]
theorem Abj (hk:Laa s Z){b r d ν:Nat}{p:List Nat}(hz:Z.rts[ν]?=some (.own r d))(h:G.own b=.slc r p):(callG ρ G w s Z).own b=if p.length<d then .slc ν p else .frz:=by
 simp only[callG,h];rw[Bau hk.dist hz,Wbj]
theorem Ma6 (hk:Laa s Z){b r d ν:Nat}{q:List (aI×Nat×Nat)}{X:aI}{p:List Nat}(hz:Z.rts[ν]?=some (.mu r d q X))(h:G.own b=.slc r p) :
  (callG ρ G w s Z).own b=match strip (bB ρ q) p with|some t'=>if t'.length<d then .slc ν t' else .frz|none=>.oth:=by
 simp only[callG,h];rw[Fa4 hk.dist hz,Wbj]
theorem Daa {ν:Nat}{x:RT}(h:Z.rts[ν]?=some x):(callG ρ G w s Z).hdr ν=Kbt ρ G w x:=by
 simp only[callG,h];rfl
theorem Rd.callG (hk:Laa s Z){deps:List (Nat×Nat)}(hd:∀ z∈deps,z∈Z.deps){v:Value}{d:D}(h:Rd (allow G deps) w v d):Rd (fun b=>(Go.Proofs.YtgpamlpecmldfaaGreat.Rf.callG ρ G w s Z).own b=.frz) w v d:=by
 refine h.mono fun b hb=>⟨?_,rfl⟩
 rcases hb with hb|⟨r,k,p,hm,hb⟩
 ·exact qM hb
 ·exact Abk hk (hd _ hm) hb
theorem Ua2 (hg:gOn ρ g=true){A B:Take}{l:aP}(h:(Naq g A l).eval σ=some B){v:Value}(hl:aB σ ρ G w l v) :
  ∃ x,B={ A with xs:=A.xs++[x] }/\Sc v (x.val ρ):=by
 simp only[Naq,aA,Vbj,aV,aC,Vbl]at h;obtain⟨x,h1,rfl⟩:=h;exact⟨x,rfl,kC hg h1 hl⟩
theorem Nav {A B:Take}{nie:Bool}{l:aP}(h:(sH A nie l).eval σ=some B):TLe A B:=by
 simp only[sH,aA,Vbj,aC,Vbl]at h;obtain⟨s,h1,rfl⟩:=h;exact⟨⟨_,rfl⟩,fun _ h=>h,fun _ h=>Vbo _ h,⟨_,rfl⟩,⟨[],by simp⟩⟩
theorem Jaz (hR:R E.ntmps F σ ρ a w G)(hg:gOn ρ g=true)(cA:aJ cf ρ g nv Z.lets)(hk:Laa s Z){A B:Take}{nie:Bool}{l:aP}(h:(sH A nie l).eval σ=some B)(hZ:TLe B Z){v:Value}(hl:aB σ ρ G w l v) :
  Rd (fun b=>(callG ρ G w s Z).own b=.frz) w v ((aI.v A.xs.length).val (Z.xs.map (·.val ρ)))/\(nie=true->∀ z,(aI.v A.xs.length).val (Z.xs.map (·.val ρ))=.rows z []->v=.slice none 0 0) /\
  B.xs.length=A.xs.length+1/\B.rts=A.rts:=by
 simp only[sH,aA,Vbj,aC,Vbl]at h;obtain⟨sl,h1,rfl⟩:=h;have hs:=eH hR h1 hl;rw[hZ.get (l:=A.xs) rfl];refine⟨hs.rd.callG hk fun z hz=>hZ.deps _ (Vbr _ hz),fun hn z hz=>?_,by simp,rfl⟩
 cases hsn:sl.nie with
 |true=>exact hs.nie hsn z hz
 | false =>
  exfalso;obtain⟨lr,jl⟩:=hZ.lets;dsimp only at jl;rw[jl,hn,hsn]at cA;simp only[Bool.not_false,Bool.and_self,cond_true]at cA;rw[Vbx]at cA;have mq:=(aJ.append (aJ.append cA).2).1;obtain⟨ds,h2,-,-⟩:=step1 mq hg;simp only[Wbe,Wbu,hz,aT.run]at h2;simp at h2
theorem Nar {A B:Take}{d:Nat}{l:aP}(h:(vI A d l).eval σ=some B):TLe A B:=by
 unfold vI at h;split at h
 ·simp only[aA,aR,Vbs]at h
  split at h
  ·simp only[aA,aH,Vbj,aC,Vbl]at h
   obtain⟨_,-,rfl⟩:=h;exact⟨⟨_,rfl⟩,fun _ h=>h,fun _ h=>h,⟨[],by simp⟩,⟨_,rfl⟩⟩
  ·cases h
 ·simp only[aC,Vbl]at h
  subst h;exact⟨⟨_,rfl⟩,fun _ h=>h,fun _ h=>h,⟨[],by simp⟩,⟨_,rfl⟩⟩
 ·cases h
theorem Jaw (hR:R E.ntmps F σ ρ a w G)(hk:Laa s Z){A B:Take}{d:Nat}{l:aP}(h:(vI A d l).eval σ=some B)(hZ:TLe B Z){v:Value}(hl:aB σ ρ G w l v) :
  v=(callG ρ G w s Z).hdr A.rts.length/\Rp (callG ρ G w s Z).own w A.rts.length [] d v ((aI.v A.xs.length).val (Z.xs.map (·.val ρ)))/\B.xs.length=A.xs.length+1/\B.rts.length=A.rts.length+1:=by
 unfold vI at h;split at h
 ·rename_i r
  simp only[aA,aR,Vbs]at h;split at h
  ·rename_i x m cy p0
   simp only[aA,aH,Vbj,aC,Vbl]at h;obtain⟨_,h1,rfl⟩:=h;split at h1
   case isFalse=>cases h1
   rename_i hb;simp only[Wb6]at hb;simp only[aB]at hl;have og:=hZ.rt (l:=A.rts) rfl;rw[hZ.get (l:=A.xs) rfl];refine⟨by rw[Daa og];exact hl.1,?_,by simp,by simp⟩;rw[hl.1];have hr:=hR.root p0;simp only[bW]at hr;exact hr.move (fun b hb _=>⟨qM hb,rfl⟩) [] d hb fun b t hb=>⟨by rw[Abj hk og hb];rfl,rfl⟩
  ·cases h
 ·rename_i nie z
  simp only[aC,Vbl]at h;subst h;simp only[aB]at hl;have hv:=(hl.2 (by simp)).2.1 trivial z rfl;have og:=hZ.rt (l:=A.rts) rfl;rw[hZ.get (l:=A.xs) rfl];refine⟨by rw[Daa og];exact hv,?_,by simp,by simp⟩;rw[hv]
  cases d with
  |zero=>exact .fz (.rows none ⟨0,0,none⟩ 0 0 z [] (fun _ _=>undef) rfl (Vb6 _) (.inl rfl) (by simp) (by simp) (by simp))
  |succ m=>exact .sl none ⟨0,0,none⟩ 0 0 z [] (fun _ _=>undef) rfl (Vb6 _) (.inr ⟨rfl,rfl⟩) (by simp) (fun e=>by cases e) (by simp) (by simp)
 ·cases h
theorem Xad {A B:Take}{d:Nat}{l:aP}(h:(Jay A d l).eval σ=some B):TLe A B:=by
 simp only[Jay,aA,Vbj]at h;obtain⟨sl,h1,h⟩:=h;split at h
 ·simp only[aA,aH,aR,Vbs,Vbj]at h
  obtain⟨_,-,h⟩:=h;split at h
  ·simp only[aC,Vbl]at h
   subst h;exact⟨⟨_,rfl⟩,fun _ h=>h,fun _ h=>h,⟨[],by simp⟩,⟨_,rfl⟩⟩
  ·cases h
 ·cases h
theorem Ua5 (hR:R E.ntmps F σ ρ a w G)(hk:Laa s Z){A B:Take}{d:Nat}{l:aP}(h:(Jay A d l).eval σ=some B)(hZ:TLe B Z){v:Value}(hl:aB σ ρ G w l v) :
  v=(callG ρ G w s Z).hdr A.rts.length/\Rp (callG ρ G w s Z).own w A.rts.length [] d v ((aI.v A.xs.length).val (Z.xs.map (·.val ρ)))/\B.xs.length=A.xs.length+1/\B.rts.length=A.rts.length+1:=by
 simp only[Jay,aA,Vbj]at h;obtain⟨sl,h1,h⟩:=h;have hs:=eH hR h1 hl;split at h
 case h_2=>cases h
 rename_i r k m q ho;simp only[aA,aH,aR,Vbs,Vbj]at h;obtain⟨_,h2,h⟩:=h;split at h2
 case isFalse=>cases h2
 rename_i hb;simp only[Wb6]at hb;split at h
 case h_2=>cases h
 rename_i X m' v' p0;simp only[aC,Vbl]at h;subst h;have cu:=hs.own;unfold vQ at cu;rw[ho]at cu;obtain⟨h3,h4,h5,h6,h7⟩:=cu;have og:=hZ.rt (l:=A.rts) rfl;rw[hZ.get (l:=A.xs) rfl];refine⟨by rw[Daa og];exact (Dax h7).symm,?_,by simp,by simp⟩;refine h6.move (fun b hb _=>⟨qM hb,rfl⟩) [] d (by omega) fun b t hb=>⟨?_,rfl⟩
 rw[Ma6 hk og hb,Eaq];rfl
theorem Xab {A B:Take}{z:Nat}{l:aP}(h:(Gao A z l).eval σ=some B):TLe A B:=by
 unfold Gao at h;split at h
 ·simp only[aA,Vbj,aC,Vbl]at h
  obtain⟨_,-,rfl⟩:=h;exact⟨⟨_,rfl⟩,fun _ h=>h,fun _ h=>Vbo _ h,⟨[],by simp⟩,⟨[],by simp⟩⟩
 ·simp only[aC,Vbl]at h
  subst h;exact⟨⟨_,rfl⟩,fun _ h=>h,fun _ h=>h,⟨[],by simp⟩,⟨[],by simp⟩⟩
 ·cases h
theorem Ua3 (hR:R E.ntmps F σ ρ a w G)(hk:Laa s Z){A B:Take}{z:Nat}{l:aP}(h:(Gao A z l).eval σ=some B)(hZ:TLe B Z){v:Value}(hl:aB σ ρ G w l v) :
  v.oneCell'=true/\Aby (fun b=>(callG ρ G w s Z).own b=.frz) w v ((aI.v A.xs.length).val (Z.xs.map (·.val ρ)))/\B.xs.length=A.xs.length+1/\B.rts=A.rts:=by
 unfold Gao at h;split at h
 ·rename_i deps nk x
  simp only[aA,Vbj,aC,Vbl]at h;obtain⟨ds,h1,rfl⟩:=h;simp only[aB]at hl;obtain⟨h3,h4,h5⟩:=jC h1;rw[hZ.get (l:=A.xs) rfl];refine⟨hl.1.1,?_,by simp,rfl⟩
  rcases hl.2 h3 with h6|⟨ad,row,h6,h7,h8⟩
  ·exact .inl h6
  ·exact .inr ⟨ad,row,h6,h7,(h8.drop hR h5).callG hk fun z hz=>hZ.deps _ (Vbr _ hz)⟩
 ·simp only[aC,Vbl]at h
  subst h;simp only[aB]at hl;rw[hZ.get (l:=A.xs) rfl];exact⟨by rw[hl];rfl,.inl ⟨hl,_,rfl⟩,by simp,rfl⟩
 ·cases h
theorem Pa7 (hk:Laa s Z){b c off:Nat}(h:(b,c,off)∈Z.ptrs):(callG ρ G w s Z).bx b=(G.bx c).add off/\b<s.boxes.length:=by
 obtain⟨h1,h2⟩:=hk.ptrs b c off h;refine⟨?_,h1⟩;simp only[callG,h2]
theorem Ca9:∀ {cs:List LS} {ls:List aP} {acc l:List (Nat×Nat×Nat)},jW cs ls acc=some l->∀ z∈acc,z∈l
 | [], [], acc, l, h, z, hz => by
  simp only[jW,Vbl]at h;rw[<- h];exact hz
 |[],_::_,acc,l,h,z,hz=>by simp[jW]at h
 |c::cs,[],acc,l,h,z,hz=>by cases c<;>simp[jW]at h
 | c :: cs, x :: ls, acc, l, h, z, hz => by
  cases c<;>cases x<;>simp only[jW,reduceCtorEq]at h
  exact Ca9 h z (Vb1 _ hz)
theorem Ca8 (hk:Laa s Z):∀ {cs:List LS} {ls:List aP} {acc l:List (Nat×Nat×Nat)},jW cs ls acc=some l->(∀ z∈l,z∈Z.ptrs)->∀ {vs:List Value},aD σ ρ G w ls vs->Eaj (callG ρ G w s Z) s.boxes.length cs vs
 |[],[],acc,l,h,_,vs,hl=>by simpa[Eaj,aD] using hl
 |[],_::_,acc,l,h,_,_,_=>by simp[jW]at h
 |c::cs,[],acc,l,h,_,_,_=>by cases c<;>simp[jW]at h
 | c :: cs, x :: ls, acc, l, h, hz, vs, hl => by
  cases c<;>cases x<;>simp only[jW,reduceCtorEq]at h
  rename_i b c off;simp only[aD]at hl;obtain⟨u,us,rfl,h1,h2⟩:=hl;obtain⟨h3,h4⟩:=Pa7 (ρ:=ρ) (G:=G) (w:=w) hk (hz _ (Ca9 h _ Vb7));simp only[aB]at h1;exact⟨u,us,rfl,⟨by rw[h3];exact h1.1,h4⟩,Ca8 hk h hz h2⟩
theorem Qax {A B:Take}{t:LS}{l:aP}(h:(tX g A t l).eval σ=some B):TLe A B:=by
 unfold tX at h;split at h
 ·simp only[Naq,aA,Vbj,aC,Vbl]at h
  obtain⟨x,-,rfl⟩:=h;exact⟨⟨_,rfl⟩,fun _ h=>h,fun _ h=>h,⟨[],by simp⟩,⟨[],by simp⟩⟩
 ·exact Nav h
 ·exact Xad h
 ·exact Nar h
 ·simp only[aC,Vbl]at h
  subst h;exact⟨⟨[],by simp⟩,fun _ h=>Vbo _ h,fun _ h=>h,⟨[],by simp⟩,⟨[],by simp⟩⟩
 ·split at h
  ·rw[gZ]at h
   split at h
   ·simp only[aC,Vbl]at h
    subst h;exact⟨⟨[],by simp⟩,fun _ h=>Vbo _ h,fun _ h=>h,⟨[],by simp⟩,⟨[],by simp⟩⟩
   ·cases h
  ·cases h
 ·exact Xab h
 ·cases h
theorem Nas (hR:R E.ntmps F σ ρ a w G)(hg:gOn ρ g=true)(cA:aJ cf ρ g nv Z.lets)(hk:Laa s Z){A B:Take}{t:LS}{l:aP}(h:(tX g A t l).eval σ=some B)(hZ:TLe B Z){v:Value}(hl:aB σ ρ G w l v) :
  lF (callG ρ G w s Z) w (Z.xs.map (·.val ρ)) s.boxes.length A.xs.length A.rts.length t v/\B.xs.length=A.xs.length+t.cnt/\B.rts.length=A.rts.length+t.rcnt:=by
 unfold tX at h;split at h
 ·obtain⟨x,rfl,h1⟩:=Ua2 hg h hl
  refine⟨?_,by simp[LS.cnt],rfl⟩;simp only[lF];rw[hZ.get (l:=A.xs) rfl];exact h1
 ·obtain⟨h1,h2,h3,h4⟩:=Jaz hR hg cA hk h hZ hl
  exact⟨⟨h1,h2⟩,h3,by rw[h4];rfl⟩
 ·obtain⟨h1,h2,h3,h4⟩:=Ua5 hR hk h hZ hl
  exact⟨⟨h1,h2⟩,h3,h4⟩
 ·obtain⟨h1,h2,h3,h4⟩:=Jaw hR hk h hZ hl
  exact⟨⟨h1,h2⟩,h3,h4⟩
 ·rename_i b c off
  simp only[aC,Vbl]at h;subst h;obtain⟨h1,h2⟩:=Pa7 (ρ:=ρ) (G:=G) (w:=w) hk (hZ.ptrs _ (Vbr _ (Vbp.2 rfl)));simp only[aB]at hl;exact⟨⟨by rw[h1];exact hl.1,h2⟩,rfl,rfl⟩
 ·rename_i f cs f' ls
  split at h
  ·rename_i l' hc
   rw[gZ]at h;split at h
   ·rename_i hf
    simp only[Wbl]at hf;subst hf;simp only[aC,Vbl]at h;subst h;simp only[aB]at hl;obtain⟨vs,h1,h2⟩:=hl;exact⟨⟨vs,h1,Ca8 hk hc (fun z hz=>hZ.ptrs _ (Vbr _ hz)) h2⟩,rfl,rfl⟩
   ·cases h
  ·cases h
 ·obtain⟨h1,h2,h3,h4⟩:=Ua3 hR hk h hZ hl
  exact⟨⟨h1,h2⟩,h3,by rw[h4];rfl⟩
 ·cases h
theorem tV:∀ {ss:List LS} {ls:List aP} {A B:Take},(dN g A ss ls).eval σ=some B->TLe A B
 | [], [], A, B, h => by
  simp only[dN,aC,Vbl]at h;subst h;exact .refl _
 |[],_::_,A,B,h=>by simp[dN,bT]at h
 |_::_,[],A,B,h=>by simp[dN,bT]at h
 | t :: ss, l :: ls, A, B, h => by
  simp only[dN,aA,Vbj]at h;obtain⟨C,h1,h2⟩:=h;exact (Qax h1).trans (tV h2)
theorem zQ (hR:R E.ntmps F σ ρ a w G)(hg:gOn ρ g=true)(cA:aJ cf ρ g nv Z.lets)(hk:Laa s Z):∀ {ss:List LS} {ls:List aP} {A B:Take},(dN g A ss ls).eval σ=some B->TLe B Z->∀ {vs:List Value},aD σ ρ G w ls vs ->
  tO (callG ρ G w s Z) w (Z.xs.map (·.val ρ)) s.boxes.length A.xs.length A.rts.length ss vs/\B.xs.length=A.xs.length+Waz ss/\B.rts.length=A.rts.length+kI ss
 | [], [], A, B, h, _, vs, hl => by
  simp only[dN,aC,Vbl]at h;subst h;simp only[aD]at hl;exact⟨hl,rfl,rfl⟩
 |[],_::_,A,B,h,_,_,_=>by simp[dN,bT]at h
 |_::_,[],A,B,h,_,_,_=>by simp[dN,bT]at h
 | t :: ss, l :: ls, A, B, h, hZ, vs, hl => by
  simp only[dN,aA,Vbj]at h;obtain⟨C,h1,h2⟩:=h;simp only[aD]at hl;obtain⟨u,us,rfl,h3,h4⟩:=hl;obtain⟨h5,h6,h7⟩:=Nas hR hg cA hk h1 ((tV h2).trans hZ) h3;obtain⟨h8,h9,da⟩:=zQ hR hg cA hk h2 hZ h4;rw[h6,h7]at h8;exact⟨⟨u,us,rfl,h5,h8⟩,by rw[h9,h6];simp only[Waz];omega,by rw[da,h7];simp only[kI];omega⟩
theorem Gap:∀ {ps:List (Bool×List LS)} {vs:List SV} {A B:Take},(fK g A ps vs).eval σ=some B->TLe A B
 | [], [], A, B, h => by
  simp only[fK,aC,Vbl]at h;subst h;exact .refl _
 |[],_::_,A,B,h=>by simp[fK,bT]at h
 |_::_,[],A,B,h=>by simp[fK,bT]at h
 | (ag, ss) :: ps, v :: vs, A, B, h => by
  simp only[fK,aA,Vbj]at h;obtain⟨ls,-,C,h1,h2⟩:=h;exact (tV h1).trans (Gap h2)
def tL (σ:Nat->Option aQ)(ρ:List D)(G:Gh)(w:World):List SV->List Value->Prop
 |[],us=>us=[]
 |v::vs,us=>∃ u dj,us=u::dj/\dC σ ρ G w v u/\tL σ ρ G w vs dj
theorem Jai {ag:Bool}{v:SV}{ls:List aP}{u:Value}(h:kE ag v=some ls)(hv:dC σ ρ G w v u):if ag=true then u=.agg u.cells.toList.toArray else u.cells.toList=[u]:=by
 unfold kE at h;split at h
 ·cases ag with
  |true=>cases h
  | false =>
   rw[aB.cells hv];simp
 ·cases ag with
  |false=>cases h
  | true =>
   obtain⟨us,rfl,-⟩:=hv;simp[Value.cells]
 ·cases h
theorem Eap (hR:R E.ntmps F σ ρ a w G)(hg:gOn ρ g=true)(cA:aJ cf ρ g nv Z.lets)(hk:Laa s Z):∀ {ps:List (Bool×List LS)} {vs:List SV} {A B:Take},(fK g A ps vs).eval σ=some B->TLe B Z->∀ {us:List Value},tL σ ρ G w vs us ->
  mQ (callG ρ G w s Z) w (Z.xs.map (·.val ρ)) s.boxes.length A.xs.length A.rts.length ps us/\B.xs.length=A.xs.length+Ka3 ps/\B.rts.length=A.rts.length+jP ps
 | [], [], A, B, h, _, us, hl => by
  simp only[fK,aC,Vbl]at h;subst h;simp only[tL]at hl;exact⟨hl,rfl,rfl⟩
 |[],_::_,A,B,h,_,_,_=>by simp[fK,bT]at h
 |_::_,[],A,B,h,_,_,_=>by simp[fK,bT]at h
 | (ag, ss) :: ps, v :: vs, A, B, h, hZ, us, hl => by
  simp only[fK,aA,Vbj,aV]at h;obtain⟨ls,h0,C,h1,h2⟩:=h;obtain⟨u,dj,rfl,h3,h4⟩:=hl;obtain⟨h5,h6,h7⟩:=zQ hR hg cA hk h1 ((Gap h2).trans hZ) (iK h0 h3);obtain⟨h8,h9,da⟩:=Eap hR hg cA hk h2 hZ h4;rw[h6,h7]at h8;exact⟨⟨u,dj,_,rfl,h5,Jai h0 h3,h8⟩,by rw[h9,h6];simp only[Ka3];omega,by rw[da,h7];simp only[jP];omega⟩
end
theorem uW {wr:Bool}{ptrs:List (Nat×Nat×Nat)}:∀ {bs:List (Bool×List (BS×BO))} {b j c off:Nat} {cs:List (BS×BO)},bs[j]?=some (wr,cs)->pX (b+j) ptrs=some (c,off)->c∈iU wr ptrs b bs
 |[],b,j,c,off,cs,h,_=>by simp at h
 | (ro, ds) :: bs, b, 0, c, off, cs, h, hp => by
  simp only[Vbv,Vbl,Wbd]at h;rw[Wbv]at hp;simp only[iU,h.1,hp];simp
 | (ro, ds) :: bs, b, j + 1, c, off, cs, h, hp => by
  have:=uW (bs:=bs) (b:=b+1) (j:=j) (by simpa using h) (by rw[show b+1+j=b+(j+1) by omega];exact hp);simp only[iU]
  cases (ro==wr) with
  |false=>exact this
  | true =>
   simp only[cond_true];split
   ·exact Vb1 _ this
   ·exact this
theorem Baq {ptrs:List (Nat×Nat×Nat)}{c:Nat}:∀ {bs:List (Bool×List (BS×BO))} {b:Nat},c∉iU false ptrs b bs->Ram ptrs c b bs=none
 |[],b,h=>rfl
 | (ro, cs) :: bs, b, h => by
  simp only[iU]at h;simp only[Ram]
  cases ro with
  |true=>simp only[if_true];exact Baq h
  | false =>
   simp only[Vbm,if_false];have e:(false==false)=true:=rfl;rw[e,cond_true]at h;split
   ·rename_i c' off hp
    rw[hp]at h;simp only[Vbu,not_or]at h;rw[if_neg fun e=>h.1 e.symm];exact Baq h.2
   ·rename_i hp
    rw[hp]at h;exact Baq h
theorem sM {ptrs:List (Nat×Nat×Nat)}{c off:Nat}{cs:List (BS×BO)}:∀ {bs:List (Bool×List (BS×BO))} {b j:Nat},distinct (iU false ptrs b bs)=true->bs[j]?=some (false,cs)->pX (b+j) ptrs=some (c,off)->Ram ptrs c b bs=some (b+j)
 |[],b,j,_,h,_=>by simp at h
 | (ro, ds) :: bs, b, 0, hd, h, hp => by
  simp only[Vbv,Vbl,Wbd]at h;rw[Wbv]at hp;simp only[Ram,h.1,hp];simp
 | (ro, ds) :: bs, b, j + 1, hd, h, hp => by
  have pL:pX (b+1+j) ptrs=some (c,off):=by rw[show b+1+j=b+(j+1) by omega];exact hp
  have hm:=uW (wr:=false) (bs:=bs) (b:=b+1) (j:=j) (by simpa using h) pL;simp only[iU]at hd;simp only[Ram]
  cases ro with
  | true =>
   have e:(true==false)=false:=rfl;rw[e,cond_false]at hd;simp only[if_true];rw[sM hd (by simpa using h) pL,show b+1+j=b+(j+1) by omega]
  | false =>
   have e:(false==false)=true:=rfl;rw[e,cond_true]at hd;simp only[Vbm,if_false];split
   ·rename_i c' ll hp2
    rw[hp2]at hd;simp only[distinct,Vbk,Vb9]at hd;have cU:c'≠c:=fun e=>by rw[<- e,<- nD,hd.1]at hm;cases hm
    rw[if_neg cU,sM hd.2 (by simpa using h) pL,show b+1+j=b+(j+1) by omega]
   ·rename_i hp2
    rw[hp2]at hd;rw[sM hd (by simpa using h) pL,show b+1+j=b+(j+1) by omega]
theorem Fa2 {ptrs:List (Nat×Nat×Nat)}{c x:Nat}:∀ {bs:List (Bool×List (BS×BO))} {b:Nat},Ram ptrs c b bs=some x->∃ j cs off,x=b+j/\bs[j]?=some (false,cs)/\pX x ptrs=some (c,off)
 |[],b,h=>by simp[Ram]at h
 | (ro, cs) :: bs, b, h => by
  simp only[Ram]at h
  have next:Ram ptrs c (b+1) bs=some x->∃ j nF off,x=b+j/\((ro,cs)::bs)[j]?=some (false,nF)/\pX x ptrs=some (c,off):=by
   intro h;obtain⟨j,nF,off,h1,h2,h3⟩:=Fa2 h;exact⟨j+1,nF,off,by omega,by simpa using h2,h3⟩
  split at h
  ·exact next h
  ·rename_i oB
   split at h
   ·rename_i c' off hp
    split at h
    ·rename_i e
     subst e;obtain rfl:=Wbk h;refine⟨0,cs,off,rfl,?_,hp⟩
     cases ro with
     |true=>exact absurd rfl oB
     |false=>rfl
    ·exact next h
   ·exact next h
section
variable {E:Env} {F:bK} {σ:Nat->Option aQ} {ρ:List D} {a:Act} {w:World} {G:Gh} {g:Option (aI×Bool)} {cf:Nat->List D->Option (List D)} {s:Sig} {Z:Take} {nv:Nat}
theorem Qav {A B:Take}{d:Nat}{l:aP}(h:(vI A d l).eval σ=some B):B.ptrs=A.ptrs:=by
 unfold vI at h;split at h
 ·simp only[aA,aR,Vbs]at h
  split at h
  ·simp only[aA,aH,Vbj,aC,Vbl]at h
   obtain⟨_,-,rfl⟩:=h;rfl
  ·cases h
 ·simp only[aC,Vbl]at h
  subst h;rfl
 ·cases h
theorem qW {A B:Take}{t:BS}{l:aP}(h:(Bab A t l).eval σ=some B):(∃ x,t=.sc/\l=.sc x/\B={ A with xs:=A.xs++[x] })\/(∃ nie,t=.fz nie/\(sH A nie l).eval σ=some B)\/(∃ d,t=.ow d/\(vI A d l).eval σ=some B)\/(t=.ot/\Na1 l=true/\B=A):=by
 cases t with
 | sc =>
  cases l<;>simp only[Bab,bT,reduceCtorEq]at h
  simp only[aC,Vbl]at h;exact .inl ⟨_,rfl,rfl,h.symm⟩
 | fz nie =>
  have h':(sH A nie l).eval σ=some B:=by cases l<;>exact h
  exact .inr (.inl ⟨nie,rfl,h'⟩)
 | ow d =>
  have h':(vI A d l).eval σ=some B:=by cases l<;>exact h
  exact .inr (.inr (.inl ⟨d,rfl,h'⟩))
 | ot =>
  have h':(bif Na1 l then RdM.ret A else .no:RdM Take).eval σ=some B:=by cases l<;>exact h
  rw[gZ]at h';split at h'
  ·rename_i hb
   simp only[aC,Vbl]at h';exact .inr (.inr (.inr ⟨rfl,hb,h'.symm⟩))
  ·cases h'
theorem Qay {A B:Take}{t:BS}{l:aP}(h:(Bab A t l).eval σ=some B):TLe A B/\B.ptrs=A.ptrs:=by
 have hinv:=qW h;clear h
 rcases hinv with ⟨x,rfl,rfl,rfl⟩|⟨nie,rfl,h⟩|⟨d,rfl,h⟩|⟨rfl,-,rfl⟩
 ·exact⟨⟨⟨_,rfl⟩,fun _ h=>h,fun _ h=>h,⟨[],by simp⟩,⟨[],by simp⟩⟩,rfl⟩
 ·refine⟨Nav h,?_⟩
  unfold sH at h;simp only[aA,Vbj,aC,Vbl]at h;obtain⟨s,h1,rfl⟩:=h;rfl
 ·exact⟨Nar h,Qav h⟩
 ·exact⟨.refl _,rfl⟩
theorem Naw (hR:R E.ntmps F σ ρ a w G)(hg:gOn ρ g=true)(cA:aJ cf ρ g nv Z.lets)(hk:Laa s Z){A B:Take}{t:BS}{l:aP}(h:(Bab A t l).eval σ=some B)(hZ:TLe B Z){v:Value}(hl:aB σ ρ G w l v) :
  xX (callG ρ G w s Z) w (Z.xs.map (·.val ρ)) A.xs.length A.rts.length t v/\B.xs.length=A.xs.length+t.cnt/\B.rts.length=A.rts.length+t.rcnt:=by
 have hinv:=qW h;clear h
 rcases hinv with ⟨x,rfl,rfl,rfl⟩|⟨nie,rfl,h⟩|⟨d,rfl,h⟩|⟨rfl,hs,rfl⟩
 ·refine⟨?_,by simp[BS.cnt],rfl⟩
  simp only[xX];rw[hZ.get (l:=A.xs) rfl];simpa[aB] using hl
 ·obtain⟨h1,h2,h3,h4⟩:=Jaz hR hg cA hk h hZ hl
  exact⟨⟨h1,h2⟩,h3,by rw[h4];rfl⟩
 ·obtain⟨h1,h2,h3,h4⟩:=Jaw hR hk h hZ hl
  exact⟨⟨h1,h2⟩,h3,h4⟩
 ·exact⟨hl.one hs,rfl,rfl⟩
theorem qV:∀ {ss:List (BS×BO)} {ls:List aP} {A B:Take},(eQ A ss ls).eval σ=some B->TLe A B/\B.ptrs=A.ptrs
 | [], ls, A, B, h => by
  simp only[eQ,aC,Vbl]at h;subst h;exact⟨.refl _,rfl⟩
 |_::_,[],A,B,h=>by simp[eQ,bT]at h
 | (t, o) :: ss, l :: ls, A, B, h => by
  simp only[eQ,aA,Vbj]at h;obtain⟨C,h1,h2⟩:=h;obtain⟨h3,h4⟩:=Qay h1;obtain⟨h5,h6⟩:=qV h2;exact⟨h3.trans h5,h6.trans h4⟩
theorem Aa9 (hR:R E.ntmps F σ ρ a w G)(hg:gOn ρ g=true)(cA:aJ cf ρ g nv Z.lets)(hk:Laa s Z){ad:Addr}:∀ {ss:List (BS×BO)} {ls:List aP} {A B:Take} {off:Nat},(eQ A ss ls).eval σ=some B->TLe B Z ->
  (∀ j l,ls[j]?=some l->∃ v,w.cell? (ad.add (off+j))=some v/\w.frozen? (ad.add (off+j))=false/\aB σ ρ G w l v) ->
  Gah (callG ρ G w s Z) w (Z.xs.map (·.val ρ)) ad off A.xs.length A.rts.length ss/\B.xs.length=A.xs.length+Ab7 ss/\B.rts.length=A.rts.length+wK ss
 | [], ls, A, B, off, h, _, _ => by
  simp only[eQ,aC,Vbl]at h;subst h;exact⟨trivial,rfl,rfl⟩
 |_::_,[],A,B,off,h,_,_=>by simp[eQ,bT]at h
 | (t, o) :: ss, l :: ls, A, B, off, h, hZ, hl => by
  simp only[eQ,aA,Vbj]at h;obtain⟨C,h1,h2⟩:=h;obtain⟨v,h3,h4,h5⟩:=hl 0 l rfl;obtain⟨h6,h7,h8⟩:=Naw hR hg cA hk h1 ((qV h2).1.trans hZ) h5
  obtain⟨h9,da,eo⟩:=Aa9 hR hg cA hk (off:=off+1) h2 hZ fun j l' hj=>by
   have:=hl (j+1) l' (by simpa using hj);rwa[show off+(j+1)=off+1+j by omega]at this
  rw[h7,h8]at h9;exact⟨⟨⟨v,h3,h4,h6⟩,h9⟩,by rw[da,h7];simp only[Ab7];omega,by rw[eo,h8];simp only[wK];omega⟩
def Sb3 (σ:Nat->Option aQ)(ptrs:List (Nat×Nat×Nat))(b:Nat)(ro:Bool)(cs:List (BS×BO)):Prop :=
 ∃ c off l7 ls,pX b ptrs=some (c,off)/\σ (kB c)=some (.box l7 ls)/\off+cs.length<=ls.length/\(ro=false->l7=false/\0<cs.length)
theorem lH {ptrs:List (Nat×Nat×Nat)}:∀ {bs:List (Bool×List (BS×BO))} {b:Nat} {A B:Take},(fI ptrs A b bs).eval σ=some B->TLe A B/\B.ptrs=A.ptrs/\∀ j ro cs,bs[j]?=some (ro,cs)->Sb3 σ ptrs (b+j) ro cs
 | [], b, A, B, h => by
  simp only[fI,aC,Vbl]at h;subst h;exact⟨.refl _,rfl,by simp⟩
 | (ro, cs) :: bs, b, A, B, h => by
  simp only[fI]at h;split at h
  case h_2=>cases h
  rename_i c off hp;simp only[aA,aR,Vbs]at h;split at h
  case h_2=>cases h
  rename_i l7 ls pg;simp only[aA,aH,Vbj]at h;obtain⟨_,h0,C,h1,h2⟩:=h;split at h0
  case isFalse=>cases h0
  rename_i hb;simp only[Vbk,Wb9,Vb9,Wb6]at hb;obtain⟨h3,h4⟩:=qV h1;obtain⟨h5,h6,h7⟩:=lH h2;refine⟨h3.trans h5,h6.trans h4,fun j ro2 cs2 hj=>?_⟩
  cases j with
  | zero =>
   simp only[Vbv,Vbl,Wbd]at hj;obtain⟨rfl,rfl⟩:=hj;refine⟨c,off,l7,ls,hp,pg,hb.2,fun e=>?_⟩
   rcases hb.1 with h8|h8
   ·rw[e]at h8;cases h8.1
   ·refine⟨h8.1.2,?_⟩
    cases cs with
    |nil=>have:=h8.2;simp at this
    |cons=>simp
  | succ j =>
   rw[show b+(j+1)=b+1+j by omega];exact h7 j ro2 cs2 (by simpa using hj)
theorem Uao {ad:Addr}{n:Nat}(h:ad.spot=none):(ad.add n).spot=none:=by
 unfold Addr.add;split
 ·exact h
 ·rfl
theorem Sap {ad:Addr}{n:Nat}:(ad.add n).off=ad.off+n:=by
 unfold Addr.add;split
 ·rename_i h;rw[h];rfl
 ·rfl
theorem Bac (hR:R E.ntmps F σ ρ a w G)(hg:gOn ρ g=true)(cA:aJ cf ρ g nv Z.lets)(hk:Laa s Z):∀ {bs:List (Bool×List (BS×BO))} {b:Nat} {A B:Take},(∀ j x,bs[j]?=some x->s.boxes[b+j]?=some x)->(fI Z.ptrs A b bs).eval σ=some B->TLe B Z ->
  Gai (callG ρ G w s Z) w (Z.xs.map (·.val ρ)) b A.xs.length A.rts.length bs/\B.xs.length=A.xs.length+Ab8 bs
 | [], b, A, B, _, h, _ => by
  simp only[fI,aC,Vbl]at h;subst h;exact⟨trivial,rfl⟩
 | (ro, cs) :: bs, b, A, B, hbs, h, hZ => by
  simp only[fI]at h;split at h
  case h_2=>cases h
  rename_i c off hp;simp only[aA,aR,Vbs]at h;split at h
  case h_2=>cases h
  rename_i l7 ls pg;simp only[aA,aH,Vbj]at h;obtain⟨_,h0,C,h1,h2⟩:=h;split at h0
  case isFalse=>cases h0
  rename_i hb;simp only[Vbk,Wb9,Vb9,Wb6]at hb;have hCZ:=(lH h2).1.trans hZ;obtain⟨h3,h4,h5⟩:=hR.box pg;have gl:(callG ρ G w s Z).bx b=(G.bx c).add off:=by simp only[callG,hp]
  have qT:=hbs 0 _ rfl;rw[Wbv]at qT;have pL:pX (0+b) Z.ptrs=some (c,off):=by rw[Wbj];exact hp
  obtain⟨h6,h7,h8⟩:=Aa9 hR hg cA hk (ad:=(G.bx c).add off) (off:=0) h1 hCZ fun j l hj=>by
   rw[Wbt]at hj;obtain⟨v,h9,da,eo⟩:=h5 _ l hj;exact⟨v,by rw[add_add,Wbj];exact h9,by rw[add_add,Wbj];exact da,eo⟩
  obtain⟨h9,da⟩:=Bac hR hg cA hk (b:=b+1) (fun j x hj=>by
   rw[show b+1+j=b+(j+1) by omega];exact hbs (j+1) x (by simpa using hj)) h2 hZ
  rw[h7,h8]at h9;refine⟨⟨by rw[gl];exact Uao h3,?_,by rw[gl];exact h6,h9⟩,by rw[da,h7];simp only[Ab8];omega⟩;rw[gl,add_block]
  cases ro with
  | true =>
   simp only[if_true];have hm:=uW (wr:=true) qT pL
   cases l7 with
   |true=>simp only[callG,h4,if_true]
   | false =>
    simp only[Vbm,if_false]at h4;simp only[callG,h4];rw[Baq fun xt=>pY hk.ro xt hm]
  | false =>
   simp only[Vbm,if_false]
   rcases hb.1 with eo|eo
   ·cases eo.1
   ·have oB:l7=false:=eo.1.2
    subst oB;simp only[Vbm,if_false]at h4;simp only[callG,h4];rw[sM hk.wr qT pL];simp
theorem Ebr (hR:R E.ntmps F σ ρ a w G)(hg:gOn ρ g=true)(cA:aJ cf ρ g nv Z.lets)(hk:Laa s Z){T:Take}{vs:List SV}(h1:(fK g Take.empty s.params vs).eval σ=some T)(h2:(fI T.ptrs T 0 s.boxes).eval σ=some Z)
  {us:List Value} (hu:tL σ ρ G w vs us):Eb5 s us w (callG ρ G w s Z) (Z.xs.map (·.val ρ)):=by
 obtain⟨h3,h4,h5⟩:=lH h2;obtain⟨h6,h7,h8⟩:=Eap hR hg cA hk h1 h3 hu;rw[<- h4]at h2;obtain⟨h9,da⟩:=Bac hR hg cA hk (by simp) h2 (.refl _);have e1:Take.empty.xs.length=0:=rfl;have e2:Take.empty.rts.length=0:=rfl;rw[e1,e2]at h6;rw[e1,Wbj]at h7;rw[e2,Wbj]at h8;rw[h7,h8]at h9;refine⟨h6,h9,by rw[Wbm,da,h7],fun b hb=>qM (hR.frame.fresh b hb),fun b j hb hj=>?_⟩
 cases e:G.own b with
 | slc r p =>
  exfalso;simp only[callG,e]at hj
  have:∀ (rts:List RT) (ν:Nat),mZ ρ (Z.deps.map (·.1)) ν rts r p≠.box j:=by
   intro rts
   induction rts with
   |nil=>intro ν h;simp only[mZ]at h;split at h<;>cases h
   | cons x t ih =>
    intro ν h
    cases x with
    |nil=>exact ih _ h
    | own s d =>
     simp only[mZ]at h;split at h
     ·split at h<;>cases h
     ·exact ih _ h
    | mu s d q X =>
     simp only[mZ]at h;split at h
     ·split at h
      ·split at h<;>cases h
      ·cases h
     ·exact ih _ h
  exact this _ _ hj
 | box c =>
  simp only[callG,e]at hj;split at hj
  case h_2=>cases hj
  rename_i x hx;split at hj
  case isFalse=>cases hj
  rename_i wA
  injection hj with hj
  subst hj;obtain⟨j,cs,off,e1,e2,e3⟩:=Fa2 hx;rw[Wbj]at e1;subst e1;refine⟨(Vbn.1 e2).1,?_⟩;rw[h4]at e3;have:=h5 x _ _ e2;rw[Wbj]at this;obtain⟨c',ll,l7,ls,eo,gb,jk,ln⟩:=this;rw[e3]at eo;obtain⟨rfl,rfl⟩:c=c'/\off=ll:=by simpa using eo
  obtain⟨-,-,mz⟩:=hR.box gb;have bj:0<ls.length:=by have:=(ln rfl).2;omega
  obtain⟨v,na,-,-⟩:=mz 0 _ (Vbq bj);rw[wA];unfold World.cell? at na;rw[add_block]at na
  cases hh:w.heap[(G.bx c).block]? with
  |none=>rw[hh]at na;cases na
  | some kz =>
   rw[hh]at na
   cases kz with
   |cells c0 e fr=>exact⟨c0,e,fr,rfl⟩
   |_=>simp at na
 |frz=>rw[qM e]at hj;cases hj
 |oth=>simp only[callG,e]at hj;cases hj
end
def Mal:Ow->Bool
 |.slc _ _=>true
 |_=>false
def oJ (r:Nat):List RT->Option RT
 |[]=>none
 |.nil::t=>oJ r t
 |.own s d::t=>if r=s then some (.own s d) else oJ r t
 |.mu s d q X::t=>if r=s then some (.mu s d q X) else oJ r t
def Aan (ρ:List D)(rts:List RT):Ow->Ow
 | .slc r p => match oJ r rts with
  |some (.own _ _)=>.frz
  | some (.mu _ d q _) => match strip (bB ρ q) p with
   |some t=>if t.length<d then .slc r p else .frz
   |none=>.slc r p
  |_=>.slc r p
 |o=>o
def uY (gd:Bool)(ρ:List D)(nr nb nbx:Nat)(mus:List RT):Ow->Ow
 | .slc t p => if t % 2 = 0 then (if gd = true then .frz else if t / 2 < cK then .slc (nr + t / 2) p else .oth) else (match mus[t / 2]? with
  |some (.mu r _ q _)=>.slc r (bB ρ q++p)
  |_=>.oth)
 |.box β=>if β=nbx then .box nb else .oth
 |o=>o
def fP (gd:Bool)(ρ:List D)(G:Gh)(w:World)(s:Sig)(Z:Take)(nr nb:Nat)(own':Nat->Ow)(hs:List Value)(adn:Addr):Gh:={
 own:=fun b=>if b<w.heap.size/\Mal ((callG ρ G w s Z).own b)=false then Aan ρ Z.rts (G.own b) else uY gd ρ nr nb s.boxes.length (Z.rts.filter wY) (own' b)
 hdr:=fun r=>if nr<=r/\r<nr+cK then hs.getD (r-nr) undef else G.hdr r
 bx:=fun b=>if b=nb then adn else G.bx b }
theorem uG {r:Nat}:∀ {rts:List RT},r∉dD rts->oJ r rts=none
 |[],_=>rfl
 |.nil::t,h=>uG (rts:=t) h
 | .own s d :: t, h => by
  simp only[dD,Vbu,not_or]at h;simp only[oJ,if_neg h.1];exact uG h.2
 | .mu s d q X :: t, h => by
  simp only[dD,Vbu,not_or]at h;simp only[oJ,if_neg h.1];exact uG h.2
theorem uF {r:Nat}:∀ {rts:List RT},r∈dD rts->∃ (ν:Nat) (x:RT),rts[ν]?=some x/\oJ r rts=some x/\((∃ d,x=.own r d)\/∃ d q X,x=.mu r d q X)
 |[],h=>by simp[dD]at h
 | .nil :: t, h => by
  obtain⟨ν,x,h1,h2⟩:=uF (rts:=t) h;exact⟨ν+1,x,by simpa using h1,h2⟩
 | .own s d :: t, h => by
  by_cases e:r=s
  ·subst e
   exact⟨0,_,rfl,by simp[oJ],.inl ⟨d,rfl⟩⟩
  ·simp only[dD,Vbu,e,false_or]at h
   obtain⟨ν,x,h1,h2⟩:=uF h;exact⟨ν+1,x,by simpa using h1,by simp only[oJ,if_neg e];exact h2⟩
 | .mu s d q X :: t, h => by
  by_cases e:r=s
  ·subst e
   exact⟨0,_,rfl,by simp[oJ],.inr ⟨d,q,X,rfl⟩⟩
  ·simp only[dD,Vbu,e,false_or]at h
   obtain⟨ν,x,h1,h2⟩:=uF h;exact⟨ν+1,x,by simpa using h1,by simp only[oJ,if_neg e];exact h2⟩
theorem Bav {r d:Nat}{q:List (aI×Nat×Nat)}{X:aI}:∀ {rts:List RT} {ν:Nat},distinct (dD rts)=true->rts[ν]?=some (.mu r d q X)->oJ r rts=some (.mu r d q X)
 |[],ν,_,h=>by simp at h
 | x :: t, 0, hd, h => by
  simp only[Vbv,Vbl]at h;subst h;simp[oJ]
 | x :: t, ν + 1, hd, h => by
  simp only[Wbz]at h;have hm:=uE (.inr ⟨d,q,X,h⟩)
  cases x with
  |nil=>exact Bav (rts:=t) hd h
  | own s d' =>
   simp only[dD,distinct,Vbk,Vb9]at hd;have cU:r≠s:=fun e=>by rw[e,<- nD,hd.1]at hm;cases hm
   simp only[oJ,if_neg cU];exact Bav hd.2 h
  | mu s d' q' X' =>
   simp only[dD,distinct,Vbk,Vb9]at hd;have cU:r≠s:=fun e=>by rw[e,<- nD,hd.1]at hm;cases hm
   simp only[oJ,if_neg cU];exact Bav hd.2 h
theorem Fa3 {ρ:List D}{dr:List Nat}{r:Nat}{p:List Nat}:∀ (rts:List RT) (ν:Nat),(∃ ν' t,mZ ρ dr ν rts r p=.slc ν' t)\/mZ ρ dr ν rts r p=.frz\/mZ ρ dr ν rts r p=.oth
 | [], ν => by
  simp only[mZ];split
  ·exact .inr (.inl rfl)
  ·exact .inr (.inr rfl)
 |.nil::t,ν=>Fa3 t (ν+1)
 | .own s d :: t, ν => by
  simp only[mZ];split
  ·split
   ·exact .inl ⟨_,_,rfl⟩
   ·exact .inr (.inl rfl)
  ·exact Fa3 t (ν+1)
 | .mu s d q X :: t, ν => by
  simp only[mZ];split
  ·split
   ·split
    ·exact .inl ⟨_,_,rfl⟩
    ·exact .inr (.inl rfl)
   ·exact .inr (.inr rfl)
  ·exact Fa3 t (ν+1)
theorem Rp.remap {own own':Nat->Ow}{w:World}{r r':Nat}{q q':List Nat}{p:List Nat}{m:Nat}{v:Value}{d:D}(h:Rp own w r p m v d)
  (hs:∀ b t,own b=.slc r (q++t)->own' b=.slc r' (q'++t)):∀ s,p=q++s->((∀ b,own b=.frz->b<w.heap.size->own' b=.frz)\/qH m d=true)->Rp own' w r' (q'++s) m v d:=by
 induction h with
 |sc h=>exact fun _ _ _=>.sc h
 |hole v h1=>exact fun _ _ _=>.hole v h1
 | fz h =>
  intro s _ hz
  rcases hz with hz|hz
  ·exact .fz (h.mono' fun b hb bj=>⟨hz b hb bj,rfl⟩)
  ·cases h with
   |sc h=>exact .sc h
   |hole _ h1=>exact .hole _ h1
   |rows=>simp[qH,D.isSc]at hz
 | sl A a n c sz rs vs hn hc hA dh cu cE cR ih =>
  rename_i p m;intro s hp hz;refine .sl A a n c sz rs vs hn hc hA dh (fun e=>?_) cE (fun i row hi j d hj=>?_)
  ·obtain⟨h1,h2,h3⟩:=cu e
   rw[hp]at h2;exact⟨h1,hs _ _ h2,h3⟩
  ·have:=ih i row hi j d hj (s++[i*sz+j]) (by rw[hp,Vbx]) (hz.imp id fun hz=>by
    simp only[qH,Wbg]at hz;exact hz row (Vb3 hi) d (Vb3 hj))
   rwa[<- Vbx]at this
theorem Rp.updM {own own':Nat->Ow}{w w':World}{r M:Nat}{full:List Nat}{y:D}{u:Value}
  (hz:∀ b,own b=.frz->b<w.heap.size->own' b=.frz/\w'.heap[b]?=w.heap[b]?)
  (hs:∀ b t,own b=.slc r t->¬ full <+: t->own' b=.slc r t/\w'.heap[b]?=w.heap[b]?)
  (hM:full.length<=M) (gE:Rp own' w' r full (M-full.length) u y) :
  ∀ (p q:List Nat) (v:Value) (x x':D),full=q++p->Rp own w r q (M-q.length) v x->zO own w r q v p u->Upd p x y x'->Rp own' w' r q (M-q.length) v x'
 | [], q, v, x, x', hf, hx, hn, hu => by
  cases hu;simp only[zO]at hn;rw[Wbo]at hf;subst hf hn;exact gE
 | k :: p, q, v, x, x', hf, hx, hn, hu => by
  generalize hk:k::p=kp at hu
  cases hu with
  |here=>cases hk
  | down sz rs i j row z z' y p' hi hj hu =>
   obtain⟨rfl,rfl⟩:=List.cons.inj hk;have hlen:full.length=q.length+(p.length+1):=by rw[hf];simp
   obtain⟨m,hm⟩:∃ m,M-q.length=m+1:=⟨M-q.length-1,by omega⟩;rw[hm]at hx;rw[hm];obtain⟨A,a,n,c,vs,rfl,h1,h2,h3,h4,h5,h6,h7⟩:=hx.sl_inv;have oq:i<rs.length:=(Vbn.1 hi).1
   have hA:A=some a:=by
    rcases h3 with e|⟨e,e'⟩
    ·exact e
    ·omega
   subst hA;obtain⟨h8,h9,da⟩:=h5 rfl;obtain⟨a',n',c',u',e1,e2,e3,e4⟩:=hn;obtain⟨rfl,rfl,rfl⟩:a=a'/\n=n'/\c=c':=by injection e1 with a b c;exact⟨Wbk a,b,c⟩
   have ig:=h6 i row hi j z hj;rw[ig]at e3;obtain rfl:=Wbk e3
   have hq:¬ full <+: q:=by
    intro e;have:=e.length_le;omega
   obtain⟨fb,cP⟩:=hs _ _ h9 hq;have oz:∀ k,w'.cell? (a.add k)=w.cell? (a.add k):=fun k=>gQ (w:=w) (w':=w') (by rw[add_block];exact cP)
   have p9:∀ k,fzq w' (a.add k)=fzq w (a.add k):=fun k=>Cam (w:=w) (w':=w') (by rw[add_block];exact cP)
   have cR:=Rp.updM hz hs hM gE p (q++[i*sz+j]) (vs i j) z z' (by rw[hf];simp) (by
    have:=h7 i row hi j z hj;rwa[show M-(q++[i*sz+j]).length=m by simp;omega]) e4 hu
   rw[show M-(q++[i*sz+j]).length=m by simp;omega]at cR;have ku:row.length=sz:=h4 row (Vb3 hi);have bj:j<sz:=by rw[<- ku];exact (Vbn.1 hj).1
   have ni:∀ i' fv,(rs.set i (row.set j z'))[i']?=some fv->∀ j' d,fv[j']?=some d->(i'=i/\j'=j/\d=z')\/(∃ row0,rs[i']?=some row0/\row0[j']?=some d/\¬ (i'=i/\j'=j)):=by
    intro i' fv gq j' d ja;rw[Xbu]at gq;by_cases qw:i=i'
    ·subst qw
     rw[if_pos rfl,if_pos oq]at gq;obtain rfl:=Wbk gq;rw[Xbu]at ja;by_cases uh:j=j'
     ·subst uh
      rw[if_pos rfl,if_pos (by omega)]at ja;exact .inl ⟨rfl,rfl,(Wbk ja).symm⟩
     ·rw[if_neg uh]at ja
      exact .inr ⟨row,hi,ja,fun e=>uh e.2.symm⟩
    ·rw[if_neg qw]at gq
     exact .inr ⟨fv,gq,ja,fun e=>qw e.1.symm⟩
   refine .sl _ a n c sz _ vs (by simpa using h1) h2 (.inl rfl) (fun fv hr=>?_) (fun _=>⟨h8,fb,fun k hk=>?_⟩) (fun i' fv gq j' d ja=>?_) (fun i' fv gq j' d ja=>?_)
   ·rcases List.mem_or_eq_of_mem_set hr with hr|rfl
    ·exact h4 _ hr
    ·simpa using ku
   ·rw[oz,p9]
    exact da k hk
   ·rw[oz]
    rcases ni i' fv gq j' d ja with ⟨rfl,rfl,rfl⟩|⟨row0,eo,gb,-⟩
    ·exact ig
    ·exact h6 _ _ eo _ _ gb
   ·rcases ni i' fv gq j' d ja with ⟨rfl,rfl,rfl⟩|⟨row0,eo,gb,cU⟩
    ·exact cR
    ·have:=(h7 _ _ eo _ _ gb).mono' (own':=own') (w':=w') (r':=r) (q:=q++[i'*sz+j']) (q':=q++[i'*sz+j']) hz [] (by simp) fun b t hb=>by
      have hnp:¬ full <+: q++[i'*sz+j']++t:=by
       intro e;rw[hf,Vbx,List.prefix_append_right_inj]at e;have e':=(List.cons_prefix_cons.1 e).1
       have vu:j'<sz:=by
        have:=(Vbn.1 gb).1;rw[h4 row0 (Vb3 eo)]at this;exact this
       obtain⟨mz,na⟩:=Fbi vu bj e'.symm;exact cU ⟨mz,na⟩
      exact hs b _ hb hnp
     simpa using this
theorem Rp.deeper {own:Nat->Ow}{w:World}{r:Nat}{p:List Nat}{m:Nat}{v:Value}{d:D}(h:Rp own w r p m v d):∀ {m':Nat},m<=m'->qH m d=true->Rp own w r p m' v d:=by
 induction h with
 |sc h=>exact fun _ _=>.sc h
 |hole v h1=>exact fun _ _=>.hole v h1
 | fz h =>
  intro m' _ hz
  cases h with
  |sc h=>exact .sc h
  |hole _ h1=>exact .hole _ h1
  |rows=>simp[qH,D.isSc]at hz
 | sl A a n c sz rs vs hn hc hA dh cu cE cR ih =>
  rename_i p m;intro m' hm hz;obtain⟨k,rfl⟩:∃ k,m'=k+1:=⟨m'-1,by omega⟩;refine .sl A a n c sz rs vs hn hc hA dh cu cE (fun i row hi j d hj=>ih i row hi j d hj (by omega) ?_);simp only[qH,Wbg]at hz;exact hz row (Vb3 hi) d (Vb3 hj)
section
variable {E:Env} {F:bK} {σ:Nat->Option aQ} {ρ:List D} {a:Act} {w w':World} {G G':Gh} {s:Sig} {Z:Take} {gd:Bool} {nr nb:Nat} {hs:List Value} {adn:Addr}
structure Qak (E:Env) (F:bK) (σ:Nat->Option aQ) (ρ:List D) (a:Act) (w:World) (G:Gh) (s:Sig) (Z:Take) (G':Gh) (w':World):Prop where
 hR:R E.ntmps F σ ρ a w G
 hk:Laa s Z
 hF:nH (rZ s (callG ρ G w s Z) w) G' w'
 bx:∀ j ro cs,s.boxes[j]?=some (ro,cs)->Sb3 σ Z.ptrs j ro cs
 deps:∀ z∈Z.deps,Mad σ z.1 z.2
 mus:∀ (ν r d:Nat) (q:List (aI×Nat×Nat)) (X:aI),Z.rts[ν]?=some (RT.mu r d q X)->∃ m cy u,σ (kR r)=some (.root X m cy .live)/\q.length+d<=m/\zO G.own w r [] (G.hdr r) (bB ρ q) u
 owns:∀ (ν r d:Nat),Z.rts[ν]?=some (RT.own r d)->∃ x m cy,σ (kR r)=some (.root x m cy .live)
variable (B:Qak E F σ ρ a w G s Z G' w')
include B
theorem Qak.keep {b:Nat}(hb:b<w.heap.size)(h:(callG ρ G w s Z).own b=.frz\/(callG ρ G w s Z).own b=.oth):w'.heap[b]?=w.heap[b]?/\G'.own b=(callG ρ G w s Z).own b:=B.hF.keep b hb h
theorem Qak.lt {b r:Nat}{p:List Nat}(h:G.own b=.slc r p):b<w.heap.size:=by
 rcases Wbc b w.heap.size with h1|h1
 ·exact h1
 ·rw[B.hR.frame.fresh b h1]at h;cases h
theorem Qak.own_eq {b:Nat}(hb:b<w.heap.size)(h:Mal ((callG ρ G w s Z).own b)=false):(fP gd ρ G w s Z nr nb G'.own hs adn).own b=Aan ρ Z.rts (G.own b):=by
 simp only[fP];rw[if_pos ⟨hb,h⟩]
theorem Qak.frz {b:Nat}(h:G.own b=.frz)(hb:b<w.heap.size):(fP gd ρ G w s Z nr nb G'.own hs adn).own b=.frz/\w'.heap[b]?=w.heap[b]?:=by
 have h1:(callG ρ G w s Z).own b=.frz:=qM h;refine⟨?_,(B.keep hb (.inl h1)).1⟩;rw[B.own_eq hb (by rw[h1];rfl),h];rfl
theorem Qak.other {b r:Nat}{p:List Nat}(hr:r∉dD Z.rts)(h:G.own b=.slc r p):(fP gd ρ G w s Z nr nb G'.own hs adn).own b=.slc r p/\w'.heap[b]?=w.heap[b]?:=by
 have hb:=B.lt h
 have h1:(callG ρ G w s Z).own b=if r∈Z.deps.map (·.1) then .frz else .oth:=by
  simp only[callG,h];exact sN hr
 have h2:(callG ρ G w s Z).own b=.frz\/(callG ρ G w s Z).own b=.oth:=by
  rw[h1];split
  ·exact .inl rfl
  ·exact .inr rfl
 refine⟨?_,(B.keep hb h2).1⟩;rw[B.own_eq hb (by rcases h2 with e|e<;>rw[e]<;>rfl),h];simp only[Aan,uG hr]
theorem Qak.oth {b:Nat}(h:G.own b=.oth)(hb:b<w.heap.size):(fP gd ρ G w s Z nr nb G'.own hs adn).own b=.oth/\w'.heap[b]?=w.heap[b]?:=by
 have h1:(callG ρ G w s Z).own b=.oth:=by simp only[callG,h]
 refine⟨?_,(B.keep hb (.inr h1)).1⟩;rw[B.own_eq hb (by rw[h1];rfl),h];rfl
theorem Qak.boxes {b c:Nat}(h:G.own b=.box c)(hb:b<w.heap.size):(fP gd ρ G w s Z nr nb G'.own hs adn).own b=.box c /\
  (w'.heap[b]?=w.heap[b]?\/∃ j cs off ls c0 c1 e fr,s.boxes[j]?=some (false,cs)/\pX j Z.ptrs=some (c,off)/\b=(G.bx c).block/\σ (kB c)=some (.box false ls)/\off+cs.length<=ls.length /\
   w.heap[b]?=some (.cells c0 e fr)/\w'.heap[b]?=some (.cells c1 e fr)/\c1.size=c0.size/\∀ k,k<(G.bx c).off+off\/(G.bx c).off+off+cs.length<=k->c1[k]?=c0[k]?):=by
 have key:((callG ρ G w s Z).own b=.oth)\/∃ j,Ram Z.ptrs c 0 s.boxes=some j/\b=(G.bx c).block/\(callG ρ G w s Z).own b=.box j:=by
  simp only[callG,h];split
  ·rename_i j hj
   split
   ·rename_i wA
    exact .inr ⟨j,hj,wA,rfl⟩
   ·exact .inl rfl
  ·exact .inl rfl
 rcases key with h1|⟨j,hj,wA,h1⟩
 ·refine⟨?_,.inl (B.keep hb (.inr h1)).1⟩
  rw[B.own_eq hb (by rw[h1];rfl),h];rfl
 ·refine⟨by rw[B.own_eq hb (by rw[h1];rfl),h];rfl,.inr ?_⟩
  obtain⟨j',cs,off,e1,e2,e3⟩:=Fa2 hj;rw[Wbj]at e1;subst e1;obtain⟨c',ll,l7,ls,h2,h3,h4,h5⟩:=B.bx j false cs e2;rw[e3]at h2;obtain⟨rfl,rfl⟩:c=c'/\off=ll:=by simpa using h2
  obtain rfl:=(h5 rfl).1;obtain⟨-,c0,c1,e,fr,h6,h7,h8,h9⟩:=B.hF.boxes b j hb h1;refine⟨j,cs,off,ls,c0,c1,e,fr,e2,e3,wA,h3,h4,h6,h7,h8,fun k hk=>h9 k ?_⟩
  have e4:(rZ s (callG ρ G w s Z) w).rng j=((G.bx c).off+off,(G.bx c).off+off+cs.length):=by
   simp only[rZ,callG,e3,Sap,Vby,e2,Xbq]
  rw[e4];exact hk
theorem Qak.allow {b:Nat}(h:G'.own b=.frz):allow (fP gd ρ G w s Z nr nb G'.own hs adn) Z.deps b:=by
 by_cases hb:b<w.heap.size
 ·cases gC:Mal ((callG ρ G w s Z).own b) with
  | true =>
   refine .inl ?_;simp only[fP];rw[if_neg (by rw[gC];simp),h];rfl
  | false =>
   have cu:=B.own_eq (gd:=gd) (nr:=nr) (nb:=nb) (hs:=hs) (adn:=adn) hb gC
   cases hg:G.own b with
   |frz=>exact .inl (B.frz hg hb).1
   | oth =>
    have h1:(callG ρ G w s Z).own b=.oth:=by simp only[callG,hg]
    have:=(B.keep hb (.inr h1)).2;rw[h,h1]at this;cases this
   | box c =>
    have wA:=(B.boxes (gd:=gd) (nr:=nr) (nb:=nb) (hs:=hs) (adn:=adn) hg hb);exfalso
    have key:((callG ρ G w s Z).own b=.oth)\/∃ j,(callG ρ G w s Z).own b=.box j:=by
     simp only[callG,hg];split
     ·split
      ·exact .inr ⟨_,rfl⟩
      ·exact .inl rfl
     ·exact .inl rfl
    rcases key with h1|⟨j,h1⟩
    ·have:=(B.keep hb (.inr h1)).2
     rw[h,h1]at this;cases this
    ·have:=(B.hF.boxes b j hb h1).1
     rw[h]at this;cases this
   | slc r p =>
    by_cases hr:r∈dD Z.rts
    ·refine .inl ?_
     rw[cu,hg];obtain⟨ν,x,h1,h2,h3⟩:=uF hr;simp only[Aan,h2]
     rcases h3 with ⟨d,rfl⟩|⟨d,q,X,rfl⟩
     ·rfl
     ·have h4:=Ma6 (ρ:=ρ) (G:=G) (w:=w) B.hk h1 hg
      dsimp only;rw[h4]at gC
      cases cA:strip (bB ρ q) p with
      | some t' =>
       rw[cA]at gC;dsimp only at gC ⊢;split at gC
       ·cases gC
       ·rename_i hle
        rw[if_neg hle]
      | none =>
       have h5:(callG ρ G w s Z).own b=.oth:=by rw[h4,cA]
       have:=(B.keep hb (.inr h5)).2;rw[h,h5]at this;cases this
    ·have h1:(callG ρ G w s Z).own b=if r∈Z.deps.map (·.1) then .frz else .oth:=by
      simp only[callG,hg];exact sN hr
     by_cases hd:r∈Z.deps.map (·.1)
     ·obtain⟨z,hz,e⟩:=Wb3.1 hd
      refine .inr ⟨r,z.2,p,by rw[<- e];exact hz,(B.other hr hg).1⟩
     ·rw[if_neg hd]at h1
      have:=(B.keep hb (.inr h1)).2;rw[h,h1]at this;cases this
 ·refine .inl ?_
  simp only[fP];rw[if_neg (by simp[hb]),h];rfl
theorem Qak.rd {v:Value}{d:D}(h:Rd (fun b=>G'.own b=.frz) w' v d):Rd (Go.Proofs.YtgpamlpecmldfaaGreat.Rf.allow (fP gd ρ G w s Z nr nb G'.own hs adn) Z.deps) w' v d :=
 h.mono fun b hb=>⟨B.allow hb,rfl⟩
theorem Qak.slc {b t:Nat}{p:List Nat}(h:G'.own b=.slc t p):(fP gd ρ G w s Z nr nb G'.own hs adn).own b=uY gd ρ nr nb s.boxes.length (Z.rts.filter wY) (.slc t p):=by
 simp only[fP];rw[if_neg,h]
 rintro⟨hb,gC⟩
 cases hg:(callG ρ G w s Z).own b with
 |frz=>have:=(B.keep hb (.inl hg)).2;rw[h,hg]at this;cases this
 |oth=>have:=(B.keep hb (.inr hg)).2;rw[h,hg]at this;cases this
 |slc _ _=>rw[hg]at gC;cases gC
 |box j=>have:=(B.hF.boxes b j hb hg).1;rw[h]at this;cases this
theorem Qak.give {q m:Nat}{v:Value}{d:D}(h:Rp G'.own w' (2*q) [] m v d)(fa:Z.deps=[]\/qH m d=true)(gi:gd=false)(hq:q<cK):Rp (fP gd ρ G w s Z nr nb G'.own hs adn).own w' (nr+q) [] m v d:=by
 have:=h.remap (own':=(fP gd ρ G w s Z nr nb G'.own hs adn).own) (r':=nr+q) (q:=[]) (q':=[]) (fun b t hb=>by
  rw[B.slc hb,gi];simp only[uY,Wby]
  rw[if_pos (by omega),if_neg (by simp),show 2*q / 2=q by omega,if_pos hq]) [] rfl (fa.imp (fun e b hb _=>by
   rcases B.allow (gd:=gd) (nr:=nr) (nb:=nb) (hs:=hs) (adn:=adn) hb with h1|⟨r,k,p,h1,-⟩
   ·exact h1
   ·rw[e]at h1;simp at h1) id)
 simpa using this
theorem Qak.giveGd {q m:Nat}{v:Value}{d:D}(h:Rp G'.own w' (2*q) [] m v d)(gi:gd=true):Rd (Go.Proofs.YtgpamlpecmldfaaGreat.Rf.allow (fP gd ρ G w s Z nr nb G'.own hs adn) Z.deps) w' v d:=by
 refine h.rd.mono fun b hb=>⟨?_,rfl⟩
 rcases hb with hb|⟨p,hb⟩
 ·exact B.allow hb
 ·refine .inl ?_
  rw[B.slc hb,gi];simp only[uY];rw[if_pos (by omega),if_pos trivial]
theorem Qak.mu {ν j r d m cy:Nat}{q:List (aI×Nat×Nat)}{X y X' X0:aI}(hm:σ (kR r)=some (.root X0 m cy .live))(hdm:q.length+d=m\/qH d (y.val ρ)=true)(tW:Z.rts[ν]?=some (.mu r d q X))(hj:(Z.rts.filter wY)[j]?=some (.mu r d q X)){u:Value}(hu:∀ u',zO G.own w r [] (G.hdr r) (bB ρ q) u'->u=u')
  (h:Rp G'.own w' (2*j+1) [] d u (y.val ρ)) (fa:Z.deps=[]\/qH d (y.val ρ)=true) (nB:Upd (bB ρ q) (X.val ρ) (y.val ρ) (X'.val ρ)) :
  Rp (fP gd ρ G w s Z nr nb G'.own hs adn).own w' r [] m (G.hdr r) (X'.val ρ):=by
 obtain⟨m',ux,u',hσ,hle,hn⟩:=B.mus ν r d q X tW;rw[hm]at hσ
 obtain⟨rfl,rfl,rfl⟩:X0=X/\m=m'/\cy=ux:=by
  have:=Wbk hσ
  injection this with e1 e2 e3
  exact⟨e1,e2,e3⟩
 obtain rfl:=hu u' hn;have hlen:(bB ρ q).length=q.length:=by simp[bB]
 have gE:Rp (fP gd ρ G w s Z nr nb G'.own hs adn).own w' r (bB ρ q) d u (y.val ρ):=by
  have:=h.remap (own':=(fP gd ρ G w s Z nr nb G'.own hs adn).own) (r':=r) (q:=[]) (q':=bB ρ q) (fun b t hb=>by
   rw[B.slc hb];simp only[uY,Wby]
   rw[if_neg (by omega),show (2*j+1) / 2=j by omega,hj]) [] rfl (fa.imp (fun e b hb _=>by
    rcases B.allow (gd:=gd) (nr:=nr) (nb:=nb) (hs:=hs) (adn:=adn) hb with h1|⟨r,k,p,h1,-⟩
    ·exact h1
    ·rw[e]at h1;simp at h1) id)
  simpa using this
 have a1d:Rp (fP gd ρ G w s Z nr nb G'.own hs adn).own w' r (bB ρ q) (m-(bB ρ q).length) u (y.val ρ):=by
  rcases hdm with e|e
  ·rwa[hlen,show m-q.length=d by omega]
  ·exact gE.deeper (by omega) e
 have fm:=B.hR.root hm;simp only[bW]at fm
 have:=Rp.updM (own:=G.own) (own':=(fP gd ρ G w s Z nr nb G'.own hs adn).own) (w:=w) (w':=w') (r:=r) (M:=m) (full:=bB ρ q) (y:=y.val ρ) (u:=u)
  (fun b hb bj=>B.frz hb bj) (fun b t hb hnp=>?_) (by omega) a1d (bB ρ q) [] (G.hdr r) (X0.val ρ) (X'.val ρ) (by simp) (by simpa using fm) hn nB
 ·simpa using this
 ·have bj:=B.lt hb
  have h1:=Ma6 (ρ:=ρ) (G:=G) (w:=w) B.hk tW hb
  have cA:strip (bB ρ q) t=none:=by
   cases e:strip (bB ρ q) t with
   |none=>rfl
   |some t'=>exact absurd ⟨t',(Ja3 e).symm⟩ hnp
  rw[cA]at h1;refine⟨?_,(B.keep bj (.inr h1)).1⟩;rw[B.own_eq bj (by rw[h1];rfl),hb];simp only[Aan,Bav B.hk.dist tW,cA]
theorem Qak.frame:nH F (fP gd ρ G w s Z nr nb G'.own hs adn) w':=by
 have dh:w.heap.size<=w'.heap.size:=B.hF.size;refine⟨B.hF.os.trans B.hR.frame.os,B.hF.tape.trans B.hR.frame.tape,B.hF.output.trans B.hR.frame.output,Nat.le_trans B.hR.frame.size dh,fun b hb ho=>?_,fun b j hb ho=>?_,fun b hb=>?_⟩
 ·obtain⟨h1,h2⟩:=B.hR.frame.keep b hb ho
  have bj:b<w.heap.size:=Ybv hb B.hR.frame.size
  rcases ho with ho|ho
  ·rw[ho]at h2 ⊢
   obtain⟨h3,h4⟩:=B.frz (gd:=gd) (nr:=nr) (nb:=nb) (hs:=hs) (adn:=adn) h2 bj;exact⟨h4.trans h1,h3⟩
  ·rw[ho]at h2 ⊢
   obtain⟨h3,h4⟩:=B.oth (gd:=gd) (nr:=nr) (nb:=nb) (hs:=hs) (adn:=adn) h2 bj;exact⟨h4.trans h1,h3⟩
 ·obtain⟨h1,c0,c1,e,fr,h2,h3,h4,h5⟩:=B.hR.frame.boxes b j hb ho
  have bj:b<w.heap.size:=Ybv hb B.hR.frame.size;obtain⟨h6,h7⟩:=B.boxes (gd:=gd) (nr:=nr) (nb:=nb) (hs:=hs) (adn:=adn) h1 bj;refine⟨h6,?_⟩
  rcases h7 with h7|⟨i,cs,off,ls,d0,d1,e',fr',h8,h9,da,eo,gb,jk,ln,mz,na⟩
  ·exact⟨c0,c1,e,fr,h2,h7.trans h3,h4,h5⟩
  ·rw[h3]at jk
   obtain⟨rfl,rfl,rfl⟩:c1=d0/\e=e'/\fr=fr':=by
    have:=Wbk jk
    injection this with e1 e2 e3
    exact⟨e1,e2,e3⟩
   have uw:=B.hR.rng j ls eo (by rw[<- da];exact hb) (by rw[<- da];exact ho);refine⟨c0,d1,e,fr,h2,ln,mz.trans h4,fun k hk=>?_⟩;rw[uw]at hk;dsimp only at hk;rw[na k (by omega),h5 k (by rw[uw];exact hk)]
 ·simp only[fP]
  rw[if_neg (by omega),B.hF.fresh b hb];rfl
end
end Go.Proofs.YtgpamlpecmldfaaGreat.Rf
