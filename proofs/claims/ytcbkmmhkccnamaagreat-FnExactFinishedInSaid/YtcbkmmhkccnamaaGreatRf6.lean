/- Terms for qq program's functions, and my they are right: part 6 of 9. -/
import Derived.Test.YtcbkmmhkccnamaaGreatRf5
open Bool renaming and_eq_true → Obh, false_eq_true → Obp, not_eq_true' → Ob6, or_eq_true → Pbo
open List renaming mem_append_left → Obi, mem_append_right → Obk, getElem?_eq_getElem → Obl, getElem?_cons_zero → Obn, getD_eq_getElem?_getD → Obo, mem_cons_of_mem → Obq, append_assoc → Obs, mem_singleton → Obt, mem_cons_self → Obu, mem_of_getElem? → Obw, getElem?_append_right → Obz, map_cons → Ob1, getElem?_map → Ob5, length_map → Ob7, all_eq_true → Ob8, map_nil → Pba, append_nil → Pbc, mem_cons → Pbg, getElem?_cons_succ → Pbi, getElem?_drop → Pbk, length_cons → Pbm, nil_append → Pbp, mem_map_of_mem → Pbu, getElem?_set → Qba, length_nil → Qbc, any_eq_false → Qbq
open Nat renaming le_refl → Oby, add_assoc → Ob0, lt_or_ge → Ob2, beq_eq → Ob4, zero_add → Ob9, add_zero → Pbb, add_sub_cancel_left → Pbe, blt_eq → Pbf, ble_eq → Pbn, zero_le → Pby
open Option renaming bind_eq_some_iff → Obg, bind_some → Obm, map_some → Pbj, getD_some → Pb4
set_option linter.unusedSimpArgs false
set_option linter.unusedVariables false
set_option linter.unnecessarySimpa false
set_option linter.unusedSectionVars false
namespace Go.Proofs.YtcbkmmhkccnamaaGreat.Rf
def LS.cnt:LS->Nat
 |.px _=>0
 |.clo _ _=>0
 |_=>1
def LS.rcnt:LS->Nat
 |.mu _=>1
 |.ow _=>1
 |_=>0
def Sas:List LS->Nat
 |[]=>0
 |s::ss=>s.cnt+Sas ss
def iY:List LS->Nat
 |[]=>0
 |s::ss=>s.rcnt+iY ss
def Har:List (Bool×List LS)->Nat
 |[]=>0
 |(_,ss)::ps=>Sas ss+Har ps
def iK:List (Bool×List LS)->Nat
 |[]=>0
 |(_,ss)::ps=>iY ss+iK ps
def BS.cnt:BS->Nat
 |.ot=>0
 |_=>1
def BS.rcnt:BS->Nat
 |.ow _=>1
 |_=>0
def Wal:List (BS×BO)->Nat
 |[]=>0
 |(s,_)::ss=>s.cnt+Wal ss
def sU:List (BS×BO)->Nat
 |[]=>0
 |(s,_)::ss=>s.rcnt+sU ss
def Wam:List (Bool×List (BS×BO))->Nat
 |[]=>0
 |(_,cs)::bs=>Wal cs+Wam bs
def sV:List (Bool×List (BS×BO))->Nat
 |[]=>0
 |(_,cs)::bs=>sU cs+sV bs
section
variable (G:Gh) (w:World) (ρ:List D) (nbx:Nat)
def Wad (ok:Nat->Prop)(w:World)(v:Value)(d:D):Prop :=
 (v=.pointer none/\∃ z,d=.rows z [])\/∃ a row,v=.pointer (some a)/\d=.rows row.length [row]/\Rd ok w (.slice (some a) 1 1) (.rows row.length [row])
def xQ:List LS->List Value->Prop
 |[],vs=>vs=[]
 |c::cs,vs=>∃ u us,vs=u::us/\(match c with | .px b=>u=.pointer (some (G.bx b))/\b<nbx | _=>u.oneCell'=true)/\xQ cs us
def jM (i nr:Nat):LS->Value->Prop
 |.sc,v=>Sc v ((aI.v i).val ρ)
 |.fz nie,v=>Rd (fun b=>G.own b=.frz) w v ((aI.v i).val ρ)/\(nie=true->∀ z,(aI.v i).val ρ=.rows z []->v=.slice none 0 0)
 |.mu m,v=>v=G.hdr nr/\Rp G.own w nr [] m v ((aI.v i).val ρ)
 |.ow m,v=>v=G.hdr nr/\Rp G.own w nr [] m v ((aI.v i).val ρ)
 |.px b,v=>v=.pointer (some (G.bx b))/\b<nbx
 |.clo f cs,v=>∃ vs,v=.func (.func f) #[] vs.toArray/\xQ G nbx cs vs
 |.rp _,v=>v.oneCell'=true/\Wad (fun b=>G.own b=.frz) w v ((aI.v i).val ρ)
def pG:Nat->Nat->List LS->List Value->Prop
 |_,_,[],vs=>vs=[]
 |i,nr,s::ss,vs=>∃ u us,vs=u::us/\jM G w ρ nbx i nr s u/\pG (i+s.cnt) (nr+s.rcnt) ss us
def kZ:Nat->Nat->List (Bool×List LS)->List Value->Prop
 |_,_,[],us=>us=[]
 |i,nr,(a,ss)::ps,us=>∃ u cA vs,us=u::cA/\pG G w ρ nbx i nr ss vs/\(if a=true then u=.agg vs.toArray else vs=[u])/\kZ (i+Sas ss) (nr+iY ss) ps cA
def uQ (i nr:Nat):BS->Value->Prop
 |.sc,v=>Sc v ((aI.v i).val ρ)
 |.fz nie,v=>Rd (fun b=>G.own b=.frz) w v ((aI.v i).val ρ)/\(nie=true->∀ z,(aI.v i).val ρ=.rows z []->v=.slice none 0 0)
 |.ow m,v=>v=G.hdr nr/\Rp G.own w nr [] m v ((aI.v i).val ρ)
 |.ot,v=>v.oneCell'=true
def Daj (ad:Addr):Nat->Nat->Nat->List (BS×BO)->Prop
 |_,_,_,[]=>True
 |off,i,nr,(s,_)::ss=>(∃ v,w.cell? (ad.add off)=some v/\w.frozen? (ad.add off)=false/\uQ G w ρ i nr s v)/\Daj ad (off+1) (i+s.cnt) (nr+s.rcnt) ss
def Dak:Nat->Nat->Nat->List (Bool×List (BS×BO))->Prop
 |_,_,_,[]=>True
 |b,i,nr,(ro,cs)::bs=>(G.bx b).spot=none/\G.own (G.bx b).block=(if ro=true then .oth else .box b)/\Daj G w ρ (G.bx b) 0 i nr cs/\Dak (b+1) (i+Wal cs) (nr+sU cs) bs
end
structure Wak (s:Sig) (vals:List Value) (w:World) (G:Gh) (ds:List D):Prop where
 params:kZ G w ds s.boxes.length 0 0 s.params vals
 boxes:Dak G w ds 0 (Har s.params) (iK s.params) s.boxes
 len:ds.length=Har s.params+Wam s.boxes
 fresh:∀ b,w.heap.size<=b->G.own b=.frz
 cells:∀ b j,b<w.heap.size->G.own b=.box j->j<s.boxes.length/\∃ c e fr,w.heap[b]?=some (.cells c e fr)
def Ea3 (s:Sig)(G:Gh):List Value:=(dR 0 (s.params.flatMap (·.2))).map G.hdr++(range 0 s.boxes.length).map fun b=>Value.pointer (some (G.bx b))
def mZ (s:Sig)(G:Gh)(w:World):bC :=
 ⟨w,G.own,fun j=>(Ea3 s G).getD j undef,fun b=>((G.bx b).off,(G.bx b).off+(s.boxes.getD b (true,[])).2.length)⟩
theorem Maf {i nr:Nat}(s:LS):∃ l u,gX i nr s=(l,u,i+s.cnt,nr+s.rcnt)/\∀ k c,(k,c)∈u->∃ m,s.rcnt=1/\k=kR nr/\c=.root (.v i) m 0 .live/\(s=.mu m\/s=.ow m)/\l=.ex nr:=by
 cases s with
 | mu m =>
  refine⟨_,_,rfl,fun k c h=>?_⟩;simp only[Obt,Prod.mk.injEq]at h;exact⟨m,rfl,h.1,h.2,.inl rfl,rfl⟩
 | ow m =>
  refine⟨_,_,rfl,fun k c h=>?_⟩;simp only[Obt,Prod.mk.injEq]at h;exact⟨m,rfl,h.1,h.2,.inr rfl,rfl⟩
 |_=>exact⟨_,_,rfl,by simp⟩
section
variable {G:Gh} {w:World} {ρ:List D} {nbx:Nat} {σ:Nat->Option aN}
theorem Cai (fv:∀ b,b<nbx->(σ (kB b)).isSome):∀ {cs:List LS} {vs:List Value},xQ G nbx cs vs->aG σ ρ G w (cs.map fun c=>match c with|.px b=>.px b 0|_=>.dead) vs
 |[],vs,h=>by simpa[xQ,aG] using h
 | c :: cs, vs, h => by
  obtain⟨u,us,rfl,h1,h2⟩:=h;simp only[Ob1,aG];refine⟨u,us,rfl,?_,Cai fv h2⟩
  cases c with
  | px b =>
   simp only[aB];exact⟨by rw[h1.1];rfl,fv b h1.2⟩
  |_=>simp only[aB];exact h1
def kK (σ:Nat->Option aN)(G:Gh)(w:World)(ρ:List D)(u:List (Nat×aN)):Prop:=∀ k c,(k,c)∈u->∃ r m i,k=kR r/\c=.root (.v i) m 0 .live/\Rp G.own w r [] m (G.hdr r) ((aI.v i).val ρ)
theorem Oai (fv:∀ b,b<nbx->(σ (kB b)).isSome){i nr:Nat}{s:LS}{v:Value}(h:jM G w ρ nbx i nr s v)(mS:s.rcnt=1->(σ (kR nr)).isSome) :
  aB σ ρ G w (gX i nr s).1 v/\kK σ G w ρ (gX i nr s).2.1:=by
 cases s with
 |sc=>exact⟨by simpa[gX,aB,jM] using h,by simp[kK,gX]⟩
 | fz nie =>
  refine⟨?_,by simp[kK,gX]⟩;simp only[jM]at h;simp only[gX,aB];exact⟨⟨h.1.one,by simp⟩,fun _=>⟨h.1.mono fun b hb=>⟨.inl hb,rfl⟩,h.2,trivial⟩⟩
 | mu m =>
  simp only[jM]at h;refine⟨?_,?_⟩
  ·simp only[gX,aB]
   exact⟨h.1,mS rfl,h.2.one⟩
  ·intro k c hc
   simp only[gX,Obt,Prod.mk.injEq]at hc;exact⟨nr,m,i,hc.1,hc.2,by rw[<- h.1];exact h.2⟩
 | ow m =>
  simp only[jM]at h;refine⟨?_,?_⟩
  ·simp only[gX,aB]
   exact⟨h.1,mS rfl,h.2.one⟩
  ·intro k c hc
   simp only[gX,Obt,Prod.mk.injEq]at hc;exact⟨nr,m,i,hc.1,hc.2,by rw[<- h.1];exact h.2⟩
 | px b =>
  refine⟨?_,by simp[kK,gX]⟩;simp only[jM]at h;simp only[gX,aB];exact⟨by rw[h.1];rfl,fv b h.2⟩
 | clo f cs =>
  refine⟨?_,by simp[kK,gX]⟩;simp only[jM]at h;obtain⟨vs,h1,h2⟩:=h;simp only[gX,aB];exact⟨vs,h1,Cai fv h2⟩
 | rp z =>
  refine⟨?_,by simp[kK,gX]⟩;simp only[jM]at h;simp only[gX,aB];refine⟨⟨h.1,by simp⟩,fun _=>?_⟩
  rcases h.2 with h1|⟨a,row,h1,h2,h3⟩
  ·exact .inl h1
  ·exact .inr ⟨a,row,h1,h2,h3.mono fun b hb=>⟨.inl hb,rfl⟩⟩
theorem kK.append {u v:List (Nat×aN)}(h:kK σ G w ρ u)(h':kK σ G w ρ v):kK σ G w ρ (u++v):=fun k c hc=>(List.mem_append.1 hc).elim (h k c) (h' k c)
theorem xJ:∀ (ss:List LS) (i nr:Nat),(dD i nr ss).2.2=(i+Sas ss,nr+iY ss)/\(dD i nr ss).1.length=ss.length/\∀ r,nr<=r->r<nr+iY ss->∃ c,(kR r,c)∈(dD i nr ss).2.1
 |[],i,nr=>⟨rfl,rfl,fun r h1 h2=>by simp only[iY]at h2;omega⟩
 | s :: ss, i, nr => by
  obtain⟨l,u,h1,h2⟩:=Maf (i:=i) (nr:=nr) s;obtain⟨h3,h4,h5⟩:=xJ ss (i+s.cnt) (nr+s.rcnt);simp only[dD,h1];refine⟨h3.trans (by simp only[Sas,iY,Ob0]),by simp[h4],fun r oA jy=>?_⟩;simp only[iY]at jy
  rcases Ob2 r (nr+s.rcnt) with h6|h6
  ·have hs:s.rcnt=1:=by cases s<;>simp[LS.rcnt]at h6 ⊢<;>omega
   have:r=nr:=by omega
   subst this;cases s<;>simp[LS.rcnt]at hs
   all_goals
    simp only[gX,Prod.mk.injEq]at h1;obtain⟨-,rfl,-⟩:=h1;exact⟨_,Obi _ (List.mem_singleton.2 rfl)⟩
  ·obtain⟨c,hc⟩:=h5 r h6 (by omega)
   exact⟨c,Obk _ hc⟩
theorem zZ (fv:∀ b,b<nbx->(σ (kB b)).isSome):∀ {ss:List LS} {i nr:Nat} {vs:List Value},pG G w ρ nbx i nr ss vs->(∀ r,nr<=r->r<nr+iY ss->(σ (kR r)).isSome) ->
  aG σ ρ G w (dD i nr ss).1 vs/\kK σ G w ρ (dD i nr ss).2.1
 |[],i,nr,vs,h,_=>⟨by simpa[pG,dD,aG] using h,by simp[kK,dD]⟩
 | s :: ss, i, nr, vs, h, hr => by
  obtain⟨u,us,rfl,h1,h2⟩:=h;obtain⟨l,up,h3,h4⟩:=Maf (i:=i) (nr:=nr) s;obtain⟨h5,h6⟩:=Oai fv h1 fun e=>hr nr (Oby _) (by simp only[iY];omega)
  obtain⟨h7,h8⟩:=zZ fv h2 fun r oA jy=>hr r (by omega) (by simp only[iY];omega)
  simp only[dD,h3]at h5 h6 ⊢;exact⟨by simp only[aG];exact⟨u,us,rfl,h5,h7⟩,h6.append h8⟩
theorem qO:∀ (ps:List (Bool×List LS)) (t i nr:Nat),(iN t i nr ps).2=(i+Har ps,nr+iK ps)/\∀ r,nr<=r->r<nr+iK ps->∃ c,(kR r,c)∈(iN t i nr ps).1
 |[],t,i,nr=>⟨rfl,fun r h1 h2=>by simp only[iK]at h2;omega⟩
 | (a, ss) :: ps, t, i, nr => by
  obtain⟨h1,-,h2⟩:=xJ ss i nr;obtain⟨h3,h4⟩:=qO ps (t+1) (i+Sas ss) (nr+iY ss);have e:dD i nr ss=((dD i nr ss).1,(dD i nr ss).2.1,i+Sas ss,nr+iY ss):=by rw[<- h1]
  simp only[iN];rw[e];dsimp only;refine⟨h3.trans (by simp only[Har,iK,Ob0]),fun r oA jy=>?_⟩;simp only[iK]at jy
  rcases Ob2 r (nr+iY ss) with h6|h6
  ·obtain⟨c,hc⟩:=h2 r oA h6
   exact⟨c,Obq _ (Obi _ hc)⟩
  ·obtain⟨c,hc⟩:=h4 r h6 (by omega)
   exact⟨c,Obq _ (Obk _ hc)⟩
def Eb5 (σ:Nat->Option aN)(G:Gh)(w:World)(ρ:List D)(val:Nat->Option Value)(u:List (Nat×aN)):Prop :=
 ∀ k c,(k,c)∈u->(∃ t v sv,k=kT t/\c=.slot none sv/\val t=some v/\bR σ ρ G w sv v)\/(∃ r m i,k=kR r/\c=.root (.v i) m 0 .live/\Rp G.own w r [] m (G.hdr r) ((aI.v i).val ρ))
theorem zY (fv:∀ b,b<nbx->(σ (kB b)).isSome):∀ {ps:List (Bool×List LS)} {t i nr:Nat} {us:List Value},kZ G w ρ nbx i nr ps us->(∀ r,nr<=r->r<nr+iK ps->(σ (kR r)).isSome) ->
  us.length=ps.length/\Eb5 σ G w ρ (fun j=>if t<=j then us[j-t]? else none) (iN t i nr ps).1
 | [], t, i, nr, us, h, _ => by
  simp only[kZ]at h;subst h;exact⟨rfl,by simp[Eb5,iN]⟩
 | (a, ss) :: ps, t, i, nr, us, h, hr => by
  obtain⟨u,cA,vs,rfl,h1,h2,h3⟩:=h;obtain⟨h4,h5,-⟩:=xJ ss i nr;obtain⟨h6,h7⟩:=zZ fv h1 fun r oA jy=>hr r oA (by simp only[iK];omega)
  obtain⟨h8,h9⟩:=zY fv (t:=t+1) h3 fun r oA jy=>hr r (by omega) (by simp only[iK];omega)
  have e:dD i nr ss=((dD i nr ss).1,(dD i nr ss).2.1,i+Sas ss,nr+iY ss):=by rw[<- h4]
  simp only[iN];rw[e];dsimp only;refine⟨by simp[h8],fun k c hc=>?_⟩
  rcases List.mem_cons.1 hc with hc|hc
  ·obtain⟨rfl,rfl⟩:=Prod.mk.inj hc
   refine .inl ⟨t,u,_,rfl,rfl,by simp,?_⟩
   cases gb:Paa a (dD i nr ss).1 with
   |none=>trivial
   |some sv=>exact pM gb h6 h2
  ·rcases List.mem_append.1 hc with hc|hc
   ·exact .inr (h7 k c hc)
   ·rcases h9 k c hc with ⟨t',v,sv,e1,e2,e3,e4⟩|b9
    ·refine .inl ⟨t',v,sv,e1,e2,?_,e4⟩
     dsimp only at e3 ⊢;split at e3
     ·rename_i hle
      rw[if_pos (by omega)];rw[show t'-t=(t'-(t+1))+1 by omega];exact e3
     ·cases e3
    ·exact .inr b9
theorem Oaj {i nr:Nat}{s:BS}{v:Value}(h:uQ G w ρ i nr s v)(mS:s.rcnt=1->(σ (kR nr)).isSome) :
  aB σ ρ G w (fU i nr s).1 v/\kK σ G w ρ (fU i nr s).2.1/\(fU i nr s).2.2=(i+s.cnt,nr+s.rcnt)/\(s.rcnt=1->∃ c,(kR nr,c)∈(fU i nr s).2.1):=by
 cases s with
 |sc=>exact⟨by simpa[fU,aB,uQ] using h,by simp[kK,fU],rfl,fun e=>by cases e⟩
 | fz nie =>
  refine⟨?_,by simp[kK,fU],rfl,fun e=>by cases e⟩;simp only[uQ]at h;simp only[fU,aB];exact⟨⟨h.1.one,by simp⟩,fun _=>⟨h.1.mono fun b hb=>⟨.inl hb,rfl⟩,h.2,trivial⟩⟩
 | ow m =>
  simp only[uQ]at h;refine⟨?_,?_,rfl,fun _=>⟨_,List.mem_singleton.2 rfl⟩⟩
  ·simp only[fU,aB]
   exact⟨h.1,mS rfl,h.2.one⟩
  ·intro k c hc
   simp only[fU,Obt,Prod.mk.injEq]at hc;exact⟨nr,m,i,hc.1,hc.2,by rw[<- h.1];exact h.2⟩
 |ot=>exact⟨by simpa[fU,aB,uQ] using h,by simp[kK,fU],rfl,fun e=>by cases e⟩
theorem Vaj {i nr:Nat}(s:BS):(fU i nr s).2.2=(i+s.cnt,nr+s.rcnt)/\(s.rcnt=1->∃ c,(kR nr,c)∈(fU i nr s).2.1):=by
 cases s<;>refine⟨rfl,fun e=>?_⟩<;>first|cases e|skip
 exact⟨_,List.mem_singleton.2 rfl⟩
theorem Bab:∀ (ss:List (BS×BO)) (i nr:Nat),(fO i nr ss).2.2=(i+Wal ss,nr+sU ss)/\(fO i nr ss).1.length=ss.length/\∀ r,nr<=r->r<nr+sU ss->∃ c,(kR r,c)∈(fO i nr ss).2.1
 |[],i,nr=>⟨rfl,rfl,fun r h1 h2=>by simp only[sU]at h2;omega⟩
 | (s, o) :: ss, i, nr => by
  obtain⟨h1,h2⟩:=Vaj (i:=i) (nr:=nr) s;obtain⟨h3,h4,h5⟩:=Bab ss (i+s.cnt) (nr+s.rcnt);have e:fU i nr s=((fU i nr s).1,(fU i nr s).2.1,i+s.cnt,nr+s.rcnt):=by rw[<- h1]
  simp only[fO];rw[e];dsimp only;refine⟨h3.trans (by simp only[Wal,sU,Ob0]),by simp[h4],fun r oA jy=>?_⟩;simp only[sU]at jy
  rcases Ob2 r (nr+s.rcnt) with h6|h6
  ·have hs:s.rcnt=1:=by cases s<;>simp[BS.rcnt]at h6 ⊢<;>omega
   have:r=nr:=by omega
   subst this;obtain⟨c,hc⟩:=h2 hs;exact⟨c,Obi _ hc⟩
  ·obtain⟨c,hc⟩:=h5 r h6 (by omega)
   exact⟨c,Obk _ hc⟩
theorem Cac {ad:Addr}:∀ {ss:List (BS×BO)} {off i nr:Nat},Daj G w ρ ad off i nr ss->(∀ r,nr<=r->r<nr+sU ss->(σ (kR r)).isSome) ->
  (∀ j l,(fO i nr ss).1[j]?=some l->∃ v,w.cell? (ad.add (off+j))=some v/\w.frozen? (ad.add (off+j))=false/\aB σ ρ G w l v)/\kK σ G w ρ (fO i nr ss).2.1
 |[],off,i,nr,_,_=>⟨by simp[fO],by simp[kK,fO]⟩
 | (s, o) :: ss, off, i, nr, h, hr => by
  obtain⟨⟨v,h1,h2,h3⟩,h4⟩:=h;obtain⟨h5,h6,h7,-⟩:=Oaj h3 fun e=>hr nr (Oby _) (by simp only[sU];omega)
  obtain⟨h8,h9⟩:=Cac h4 fun r oA jy=>hr r (by omega) (by simp only[sU];omega)
  have e:fU i nr s=((fU i nr s).1,(fU i nr s).2.1,i+s.cnt,nr+s.rcnt):=by rw[<- h7]
  simp only[fO];rw[e];dsimp only;refine⟨fun j l hj=>?_,h6.append h9⟩
  cases j with
  | zero =>
   simp only[Obn,Option.some.injEq]at hj;subst hj;exact⟨v,h1,h2,h5⟩
  | succ j =>
   obtain⟨v',b9,da,fk⟩:=h8 j l (by simpa using hj);rw[show off+(j+1)=off+1+j by omega];exact⟨v',b9,da,fk⟩
def Fbh (σ:Nat->Option aN)(G:Gh)(w:World)(ρ:List D)(bs:Nat->Option (Bool×List (BS×BO)))(u:List (Nat×aN)):Prop :=
 ∀ k c,(k,c)∈u->(∃ b ro ls cs,k=kB b/\c=.box ro ls/\bs b=some (ro,cs)/\ls.length=cs.length/\Ha2 σ ρ G w b ro ls)\/(∃ r m i,k=kR r/\c=.root (.v i) m 0 .live/\Rp G.own w r [] m (G.hdr r) ((aI.v i).val ρ))
theorem vN:∀ (bs:List (Bool×List (BS×BO))) (b i nr:Nat),(jH b i nr bs).2=(i+Wam bs,nr+sV bs)/\(∀ r,nr<=r->r<nr+sV bs->∃ c,(kR r,c)∈(jH b i nr bs).1)/\∀ j,b<=j->j<b+bs.length->∃ c,(kB j,c)∈(jH b i nr bs).1
 |[],b,i,nr=>⟨rfl,fun r h1 h2=>by simp only[sV]at h2;omega,fun j h1 h2=>by simp only[Qbc]at h2;omega⟩
 | (ro, cs) :: bs, b, i, nr => by
  obtain⟨h1,-,h2⟩:=Bab cs i nr;obtain⟨h3,h4,h5⟩:=vN bs (b+1) (i+Wal cs) (nr+sU cs);have e:fO i nr cs=((fO i nr cs).1,(fO i nr cs).2.1,i+Wal cs,nr+sU cs):=by rw[<- h1]
  simp only[jH];rw[e];dsimp only;refine⟨h3.trans (by simp only[Wam,sV,Ob0]),fun r oA jy=>?_,fun j hj1 jc=>?_⟩
  ·simp only[sV]at jy
   rcases Ob2 r (nr+sU cs) with h6|h6
   ·obtain⟨c,hc⟩:=h2 r oA h6
    exact⟨c,Obq _ (Obi _ hc)⟩
   ·obtain⟨c,hc⟩:=h4 r h6 (by omega)
    exact⟨c,Obq _ (Obk _ hc)⟩
  ·simp only[Pbm]at jc
   rcases Ob2 j (b+1) with h6|h6
   ·obtain rfl:j=b:=by omega
    exact⟨_,Obu⟩
   ·obtain⟨c,hc⟩:=h5 j h6 (by omega)
    exact⟨c,Obq _ (Obk _ hc)⟩
theorem Cad:∀ {bs:List (Bool×List (BS×BO))} {b i nr:Nat},Dak G w ρ b i nr bs->(∀ r,nr<=r->r<nr+sV bs->(σ (kR r)).isSome) ->
  Fbh σ G w ρ (fun j=>if b<=j then bs[j-b]? else none) (jH b i nr bs).1
 |[],b,i,nr,_,_=>by simp[Fbh,jH]
 | (ro, cs) :: bs, b, i, nr, h, hr => by
  obtain⟨h1,h2,h3,h4⟩:=h;obtain⟨h5,h6,-⟩:=Bab cs i nr;obtain⟨h7,h8⟩:=Cac h3 fun r oA jy=>hr r oA (by simp only[sV];omega)
  have h9:=Cad (b:=b+1) h4 fun r oA jy=>hr r (by omega) (by simp only[sV];omega)
  have e:fO i nr cs=((fO i nr cs).1,(fO i nr cs).2.1,i+Wal cs,nr+sU cs):=by rw[<- h5]
  simp only[jH];rw[e];dsimp only;intro k c hc
  rcases List.mem_cons.1 hc with hc|hc
  ·obtain⟨rfl,rfl⟩:=Prod.mk.inj hc
   refine .inl ⟨b,ro,_,cs,rfl,rfl,by simp,h6,h1,h2,fun j l hj=>?_⟩;have:=h7 j l hj;rwa[Ob9]at this
  ·rcases List.mem_append.1 hc with hc|hc
   ·exact .inr (h8 k c hc)
   ·rcases h9 k c hc with ⟨j,kc,ls,nc,e1,e2,e3,e4⟩|b9
    ·refine .inl ⟨j,kc,ls,nc,e1,e2,?_,e4⟩
     dsimp only at e3 ⊢;split at e3
     ·rename_i hle
      rw[if_pos (by omega),show j-b=(j-(b+1))+1 by omega];exact e3
     ·cases e3
    ·exact .inr b9
end
theorem vG:∀ (ss:List LS) (r:Nat),∀ q∈dR r ss,r<=q/\q<r+iY ss
 |[],r,q,h=>by simp[dR]at h
 | s :: ss, r, q, h => by
  cases s with
  | mu m =>
   simp only[dR,Pbg]at h;simp only[iY,LS.rcnt]
   rcases h with rfl|h
   ·omega
   ·have:=vG ss (r+1) q h;omega
  | ow m =>
   simp only[dR]at h;simp only[iY,LS.rcnt];have:=vG ss (r+1) q h;omega
  | _ =>
   simp only[dR]at h;simp only[iY,LS.rcnt];have:=vG ss r q h;omega
theorem Ba1:∀ (a b:List LS),iY (a++b)=iY a+iY b
 |[],b=>by simp[iY]
 |s::a,b=>by simp only[List.cons_append,iY,Ba1 a b,Ob0]
theorem Ga6:∀ (ps:List (Bool×List LS)),iY (ps.flatMap (·.2))=iK ps
 |[]=>rfl
 |(a,ss)::ps=>by simp only[List.flatMap_cons,Ba1,iK,Ga6 ps]
theorem qP:∀ (ls:List aM) (t k:Nat) (c:aN),(k,c)∈oW t ls->∃ j l,ls[j]?=some l/\k=kT (t+j)/\c=.slot none (.one l)
 |[],t,k,c,h=>by simp[oW]at h
 | l :: ls, t, k, c, h => by
  simp only[oW,Pbg,Prod.mk.injEq]at h
  rcases h with ⟨rfl,rfl⟩|h
  ·exact⟨0,l,rfl,rfl,rfl⟩
  ·obtain⟨j,l',h1,rfl,rfl⟩:=qP ls (t+1) k c h
   exact⟨j+1,l',by simpa using h1,by rw[show t+(j+1)=t+1+j by omega],rfl⟩
theorem Ra1 {s:Sig}{G:Gh}{j:Nat}{l:aM}(h:(Lax s)[j]?=some l) :
  (∃ r,(dR 0 (s.params.flatMap (·.2)))[j]?=some r/\l=.ex r/\(Ea3 s G).getD j undef=G.hdr r)\/(∃ b,b<s.boxes.length/\l=.px b 0/\(Ea3 s G).getD j undef=.pointer (some (G.bx b))):=by
 unfold Lax at h;unfold Ea3;rw[Obo]
 rcases Ob2 j (dR 0 (s.params.flatMap (·.2))).length with h1|h1
 ·rw[List.getElem?_append_left (by simpa using h1)]at h ⊢
  rw[Ob5]at h ⊢;rw[Obl h1]at h ⊢;simp only[Pbj,Option.some.injEq]at h;exact .inl ⟨_,rfl,h.symm,rfl⟩
 ·rw[Obz (by simpa using h1)]at h ⊢
  simp only[Ob7]at h ⊢;rw[Ob5]at h ⊢
  cases hb:(range 0 s.boxes.length)[j-(dR 0 (s.params.flatMap (·.2))).length]? with
  |none=>rw[hb]at h;cases h
  | some b =>
   rw[hb]at h;simp only[Pbj,Option.some.injEq]at h;have:=mem_range.1 (Obw hb);exact .inr ⟨b,by omega,h.symm,rfl⟩
def Yau (s:Sig)(n:Nat):List (Nat×aN) :=
 (iN 0 0 0 s.params).1++(jH 0 (Har s.params) (iK s.params) s.boxes).1++oW n (Lax s)
theorem entry_eq (s:Sig)(n:Nat):entry s n=St.puts ⟨.nil,Har s.params+Wam s.boxes,s.boxes.length,iK s.params+sV s.boxes,n+lF s⟩ (Yau s n):=by
 have h1:=(qO s.params 0 0 0).1;have h2:=(vN s.boxes 0 (Har s.params) (iK s.params)).1;rw[Ob9,Ob9]at h1;have e:iN 0 0 0 s.params=((iN 0 0 0 s.params).1,Har s.params,iK s.params):=by rw[<- h1]
 have e2:jH 0 (Har s.params) (iK s.params) s.boxes=((jH 0 (Har s.params) (iK s.params) s.boxes).1,Har s.params+Wam s.boxes,iK s.params+sV s.boxes):=by rw[<- h2]
 unfold entry Yau;rw[e];dsimp only;rw[e2]
theorem Baa (s:Sig)(n:Nat):(entry s n).nv=Har s.params+Wam s.boxes/\(entry s n).nb=s.boxes.length/\(entry s n).nr=iK s.params+sV s.boxes/\(entry s n).nt=n+lF s:=by
 rw[entry_eq];obtain⟨h1,h2,h3,h4⟩:=iA (Yau s n) ⟨.nil,Har s.params+Wam s.boxes,s.boxes.length,iK s.params+sV s.boxes,n+lF s⟩;exact⟨h1,h2,h3,h4⟩
theorem Mad (s:Sig)(n:Nat)(k:Nat):(entry s n).get k=bif rZ (n+lF s) s.boxes.length (iK s.params+sV s.boxes) k then upds (fun _=>none) (Yau s n) k else none:=by
 obtain⟨h1,h2,h3,h4⟩:=Baa s n;unfold St.get;rw[h2,h3,h4]
 have:(entry s n).tr.get k=upds (fun _=>none) (Yau s n) k:=by
  rw[entry_eq,Iap];exact oG _ _ _ _ rfl
 rw[this]
theorem Mac {s:Sig}{n k:Nat}{c:aN}(h:(entry s n).get k=some c):(k,c)∈Yau s n:=by
 rw[Mad]at h
 revert h
 cases rZ (n+lF s) s.boxes.length (iK s.params+sV s.boxes) k with
 |false=>intro h;cases h
 | true =>
  intro h
  rcases nE _ _ _ _ h with h1|⟨-,h1⟩
  ·exact h1
  ·cases h1
theorem Hap {s:Sig}{n k:Nat}(hb:rZ (n+lF s) s.boxes.length (iK s.params+sV s.boxes) k=true)(h:∃ c,(k,c)∈Yau s n):((entry s n).get k).isSome:=by
 rw[Mad,hb,cond_true];exact dJ _ _ _ (.inr h)
theorem Yaj {nt nb nr b:Nat}(h:b<nb):rZ nt nb nr (kB b)=true:=by
 unfold rZ;rw[Lam];have:kB b / 3=b:=by unfold kB;omega
 rw[this];simpa using h
theorem Ra9 (s:Sig)(n r:Nat)(h:r<iK s.params+sV s.boxes):((entry s n).get (kR r)).isSome:=by
 refine Hap (Lak h) ?_
 rcases Ob2 r (iK s.params) with h1|h1
 ·obtain⟨c,hc⟩:=(qO s.params 0 0 0).2 r (Pby _) (by omega)
  exact⟨c,Obi _ (Obi _ hc)⟩
 ·obtain⟨c,hc⟩:=(vN s.boxes 0 (Har s.params) (iK s.params)).2.1 r h1 h
  exact⟨c,Obi _ (Obk _ hc)⟩
theorem Vai (s:Sig)(n b:Nat)(h:b<s.boxes.length):((entry s n).get (kB b)).isSome:=by
 refine Hap (Yaj h) ?_;obtain⟨c,hc⟩:=(vN s.boxes 0 (Har s.params) (iK s.params)).2.2 b (Pby _) (by omega);exact⟨c,Obi _ (Obk _ hc)⟩
theorem Bbw {s:Sig}{vals:List Value}{w:World}{G:Gh}{ds:List D}{n:Nat}(h:Wak s vals w G ds)(hn:s.params.length<=n) :
  vals.length=s.params.length/\R n (mZ s G w) (entry s n).get ds ⟨vals.toArray++Array.replicate (n-vals.length) undef,[]⟩ w G:=by
 have fv:∀ b,b<s.boxes.length->((entry s n).get (kB b)).isSome:=fun b hb=>Vai s n b hb
 have mS:=Ra9 s n;obtain⟨hlen,mj⟩:=zY (σ:=(entry s n).get) fv (t:=0) h.params fun r _ hr=>mS r (by omega)
 have oE:=Cad (σ:=(entry s n).get) h.boxes fun r _ hr=>mS r hr
 have eA:∀ r,r<iK s.params->(G.hdr r).oneCell'=true:=by
  intro r hr;obtain⟨c,hc⟩:=(qO s.params 0 0 0).2 r (Pby _) (by omega)
  rcases mj _ c hc with ⟨t,v,sv,e,-⟩|⟨r',m,i,e,-,fa⟩
  ·exact absurd e.symm gW
  ·obtain rfl:=dW e
   exact fa.one
 have dq:∀ t v,vals[t]?=some v->xS n ⟨vals.toArray++Array.replicate (n-vals.length) undef,[]⟩ (mZ s G w).gh t=v:=by
  intro t v hv;have ar:=(List.getElem?_eq_some_iff.1 hv).1;unfold xS;rw[if_pos (by omega)];simp only[Array.getD_eq_getD_getElem?];rw[Array.getElem?_append_left (by simpa using ar)];simp[hv]
 refine⟨hlen,?_,rfl,fun k c hk=>?_,?_,fun b ls hk hb ho=>?_⟩
 ·simp;omega
 ·have hm:=Mac hk
  unfold Yau at hm
  rcases List.mem_append.1 hm with hm|hm
  ·rcases List.mem_append.1 hm with hm|hm
   ·rcases mj k c hm with ⟨t,v,sv,rfl,rfl,hv,gb⟩|⟨r,m,i,rfl,rfl,fa⟩
    ·refine⟨t,rfl,fun _=>?_⟩
     simp only[Pby,if_true,Nat.sub_zero]at hv;rw[dq t v hv];exact gb
    ·exact⟨r,rfl,by rw[hk];rfl,fa⟩
   ·rcases oE k c hm with ⟨b,ro,ls,cs,rfl,rfl,-,-,qm⟩|⟨r,m,i,rfl,rfl,fa⟩
    ·exact⟨b,rfl,qm⟩
    ·exact⟨r,rfl,by rw[hk];rfl,fa⟩
  ·obtain⟨j,l,hj,rfl,rfl⟩:=qP _ _ _ _ hm
   refine⟨n+j,rfl,fun _=>?_⟩
   have e:xS n ⟨vals.toArray++Array.replicate (n-vals.length) undef,[]⟩ (mZ s G w).gh (n+j)=(Ea3 s G).getD j undef:=by
    unfold xS;rw[if_neg (by omega),Pbe];rfl
   rw[e];simp only[bR]
   rcases Ra1 (G:=G) hj with ⟨r,h1,rfl,h2⟩|⟨b,h1,rfl,h2⟩
   ·have hr:=vG _ _ r (Obw h1)
    rw[Ga6]at hr;simp only[aB];rw[h2];exact⟨rfl,mS r (by omega),eA r (by omega)⟩
   ·simp only[aB]
    rw[h2];exact⟨rfl,fv b h1⟩
 ·exact⟨rfl,rfl,rfl,Oby _,fun b hb ho=>⟨rfl,rfl⟩,fun b j hb ho=>⟨ho,by
   obtain⟨-,c,e,fr,hc⟩:=h.cells b j hb ho;exact⟨c,c,e,fr,hc,hc,rfl,fun _ _=>rfl⟩⟩,h.fresh⟩
 ·have hm:=Mac hk
  unfold Yau at hm
  rcases List.mem_append.1 hm with hm|hm
  ·rcases List.mem_append.1 hm with hm|hm
   ·rcases mj _ _ hm with ⟨t,v,sv,e,-⟩|⟨r,m,i,e,-⟩
    ·exact absurd e.symm kD
    ·exact absurd e dZ
   ·rcases oE _ _ hm with ⟨b',ro,jt,cs,e,e2,e3,e4,qm⟩|⟨r,m,i,e,-⟩
    ·obtain rfl:=zL e
     injection e2 with e5 e6
     subst e5 e6;simp only[Pby,if_true,Nat.sub_zero]at e3;simp only[mZ,Obo,e3,Pb4];rw[e4]
    ·exact absurd e dZ
  ·obtain⟨j,r,hj,e,-⟩:=qP _ _ _ _ hm
   exact absurd e.symm kD
theorem Vah {s:Sig}{n dT:Nat}(h:Dam (entry s n) dT ((range 0 (entry s n).nt).map kT++(range 0 (entry s n).nb).map kB++(range 0 (entry s n).nr).map kR)=true){E:Env}(hE:E.ntmps=n):Aak E (entry s n):=by
 refine⟨by rw[(Baa s n).2.2.2,hE];omega,fun k c hk=>?_⟩
 have hm:k∈(range 0 (entry s n).nt).map kT++(range 0 (entry s n).nb).map kB++(range 0 (entry s n).nr).map kR:=by
  rcases xG hk with ⟨t,rfl,ht⟩|⟨b,rfl,hb⟩|⟨r,rfl,hr⟩
  ·exact Obi _ (Obi _ (List.mem_map.2 ⟨t,mem_range.2 ⟨by omega,by omega⟩,rfl⟩))
  ·exact Obi _ (Obk _ (List.mem_map.2 ⟨b,mem_range.2 ⟨by omega,by omega⟩,rfl⟩))
  ·exact Obk _ (List.mem_map.2 ⟨r,mem_range.2 ⟨by omega,by omega⟩,rfl⟩)
 have:=Aaq h k hm;rw[hk]at this;exact qQ this
def BO.q:BO->Nat
 |.ow _=>1
 |_=>0
def qC:List BO->Nat
 |[]=>0
 |s::ss=>s.q+qC ss
def LR.q:LR->Nat
 |.ow _=>1
 |.bx cs=>qC cs
 |_=>0
def qL:List LR->Nat
 |[]=>0
 |s::ss=>s.q+qL ss
def qR:List (Bool×List LR)->Nat
 |[]=>0
 |(_,ss)::rs=>qL ss+qR rs
section
variable (own:Nat->Ow) (w:World) (ds:List D) (nbx:Nat)
def Bap (i q:Nat):BO->Value->Prop
 |.sc,v=>Sc v (ds.getD i .undef)
 |.fz,v=>Rd (fun b=>own b=.frz) w v (ds.getD i .undef)
 |.ow m,v=>Rp own w (2*q) [] m v (ds.getD i .undef)
 |.dead,v=>v.oneCell'=true
def Aam (ad:Addr):Nat->Nat->Nat->List BO->Prop
 |_,_,_,[]=>True
 |off,i,q,s::ss=>(∃ v,w.cell? (ad.add off)=some v/\w.frozen? (ad.add off)=false/\Bap own w ds i q s v)/\Aam ad (off+1) (i+1) (q+s.q) ss
def kH (i q:Nat):LR->Value->Prop
 |.sc,v=>Sc v (ds.getD i .undef)
 |.fz,v=>Rd (fun b=>own b=.frz) w v (ds.getD i .undef)
 |.ow m,v=>Rp own w (2*q) [] m v (ds.getD i .undef)
 |.rp _,v=>v.oneCell'=true/\Wad (fun b=>own b=.frz) w v (ds.getD i .undef)
 |.bx cs,v=>∃ ad,v=.pointer (some ad)/\ad.spot=none/\own ad.block=.box nbx/\Aam own w ds ad 0 i q cs
def nC:Nat->Nat->List LR->List Value->Prop
 |_,_,[],vs=>vs=[]
 |i,q,s::ss,vs=>∃ u us,vs=u::us/\kH own w ds nbx i q s u/\nC (i+s.n) (q+s.q) ss us
def Ha0:Nat->Nat->List (Bool×List LR)->List Value->Prop
 |_,_,[],us=>us=[]
 |i,q,(a,ss)::rs,us=>∃ u cA vs,us=u::cA/\nC own w ds nbx i q ss vs/\(if a=true then u=.agg vs.toArray else vs=[u])/\Ha0 (i+lC ss) (q+qL ss) rs cA
def Qao (gh:Nat->Value):Nat->Nat->List Nat->Prop
 |_,_,[]=>True
 |i,j,d::ms=>Rp own w (2*j+1) [] d (gh j) (ds.getD i .undef)/\Qao gh (i+1) (j+1) ms
def kI (bx:Nat->Addr):Nat->Nat->Nat->List (Bool×List (BS×BO))->Prop
 |_,_,_,[]=>True
 |b,i,q,(ro,cs)::r=>if ro=true then kI bx (b+1) i q r else Aam own w ds (bx b) 0 i q (cs.map (·.2))/\kI bx (b+1) (i+cs.length) (q+qC (cs.map (·.2))) r
end
def Baz:List Value->Value
 |[u]=>u
 |us=>.tuple us.toArray
def Jax (s:Sig)(F:bC)(bx:Nat->Addr)(v:Value)(w:World)(ds:List D):Prop :=
 ∃ G us,v=Baz us/\kU F G w/\Ha0 G.own w ds s.boxes.length 0 0 s.results us/\Qao G.own w ds F.gh (bF s.results) 0 (dI (s.params.flatMap (·.2))) /\
  kI G.own w ds bx 0 (bF s.results+(dI (s.params.flatMap (·.2))).length) (qR s.results) s.boxes
structure FLe (A B:Fin):Prop where
 xs:∃ l,B.xs=A.xs++l
 own:∀ z∈A.own,z∈B.own
 frz:∀ z∈A.frz,z∈B.frz
 lets:∃ l,B.lets=A.lets++l
 bxs:∀ z∈A.bxs,z∈B.bxs
theorem FLe.refl (A:Fin):FLe A A:=⟨⟨[],by simp⟩,fun _ h=>h,fun _ h=>h,⟨[],by simp⟩,fun _ h=>h⟩
theorem FLe.trans {A B C:Fin}(h:FLe A B)(h':FLe B C):FLe A C:=by
 obtain⟨⟨l,h1⟩,h2,h3,⟨m,h4⟩,h5⟩:=h;obtain⟨⟨l',tw⟩,ua,h3',⟨m',uc⟩,s7⟩:=h';exact⟨⟨l++l',by rw[tw,h1,Obs]⟩,fun z hz=>ua z (h2 z hz),fun z hz=>h3' z (h3 z hz),⟨m++m',by rw[uc,h4,Obs]⟩,fun z hz=>s7 z (h5 z hz)⟩
structure Sav (Z:Fin) (nbx:Nat) (G G':Gh):Prop where
 frz:∀ b,G.own b=.frz->G'.own b=.frz
 own:∀ r t m,(r,t,m)∈Z.own->∀ b p,G.own b=.slc r p->G'.own b=if p.length<m then .slc t p else .frz
 fr:∀ r,r∈Z.frz->∀ b p,G.own b=.slc r p->G'.own b=.frz
 bxs:∀ β,β∈Z.bxs->∀ b,G.own b=.box β->G'.own b=.box nbx
section
variable {E:Env} {F:bC} {σ:Nat->Option aN} {ρ:List D} {a:Act} {w:World} {G G':Gh} {cf:Nat->List D->Option (List D)} {Z:Fin} {nbx nv:Nat}
theorem FLe.get {A B:Fin}(h:FLe A B){ρ:List D}{x:aI}{l:List aI}(hx:A.xs=l++[x]):(B.xs.map (·.val ρ)).getD l.length .undef=x.val ρ:=by
 obtain⟨m,h1⟩:=h.xs;rw[h1,hx,Obo];simp
theorem Rp.give (hG:Sav Z nbx G G'){r t m m':Nat}(hz:(r,t,m)∈Z.own)(hm:m<=m'){v:Value}{d:D}(h:Rp G.own w r [] m' v d):Rp G'.own w t [] m v d:=by
 let ir:Nat->Ow:=fun b=>match G.own b with
  |.slc s p=>if s=r then (if p.length<m then .slc s p else .frz) else .slc s p
  |o=>o
 have h1:=h.weaken (own':=ir) (fun b hb=>by simp only[ir,hb]) m hm (fun b q hb=>by simp only[ir,hb,Pbp,if_true]);have:=h1.mono (own':=G'.own) (w':=w) (q:=[]) (q':=[]) (r':=t) (fun b hb=>⟨?_,rfl⟩) [] rfl (fun b q hb=>⟨?_,rfl⟩)
 ·simpa using this
 ·simp only[ir]at hb
  split at hb
  ·rename_i s p e
   split at hb
   ·rename_i hs
    subst hs;split at hb
    ·cases hb
    ·rename_i hp
     rw[hG.own s t m hz b p e,if_neg hp]
   ·cases hb
  ·exact hG.frz b hb
 ·simp only[ir]at hb
  split at hb
  ·rename_i s p e
   split at hb
   ·rename_i hs
    subst hs;split at hb
    ·rename_i hp
     injection hb with e1 e2
     simp only[Pbp]at e2 ⊢;subst e2;rw[hG.own s t m hz b p e,if_pos hp]
    ·cases hb
   ·rename_i hs
    injection hb with e1 e2
    exact absurd e1 hs
  ·rename_i tA
   exact absurd hb (tA _ _)
theorem Rd.give (hG:Sav Z nbx G G'){deps:List (Nat×Nat)}(hz:∀ z∈deps,z.1∈Z.frz){v:Value}{d:D}(h:Rd (allow G deps) w v d):Rd (fun b=>G'.own b=.frz) w v d:=by
 refine h.mono fun b hb=>⟨?_,rfl⟩
 rcases hb with hb|⟨r,k,p,hm,hb⟩
 ·exact hG.frz b hb
 ·exact hG.fr r (hz _ hm) b p hb
theorem La5 (hR:R E.ntmps F σ ρ a w G){A B:Fin}{m:Nat}{l:aM}(h:(La6 A m l).eval σ=some B)(hZ:FLe B Z)(hG:Sav Z nbx G G'){v:Value}(hl:aB σ ρ G w l v) :
  Rp G'.own w (2*A.q) [] m v ((Z.xs.map (·.val ρ)).getD A.xs.length .undef)/\FLe A B/\B.xs.length=A.xs.length+1/\B.q=A.q+1:=by
 unfold La6 at h;split at h
 ·rename_i nie z
  simp only[aF,Option.some.injEq]at h;subst h;refine⟨?_,⟨⟨_,rfl⟩,fun _ h=>h,fun _ h=>h,⟨[],by simp[Qac]⟩,fun _ h=>h⟩,by simp[Qac],rfl⟩;rw[hZ.get (l:=A.xs) rfl];simp only[aB]at hl;have hv:=(hl.2 (by simp)).2.1 trivial z rfl;rw[hv]
  cases m with
  |zero=>exact .fz (.rows none ⟨0,0,none⟩ 0 0 z [] (fun _ _=>undef) rfl (Oby _) (.inl rfl) (by simp) (by simp) (by simp))
  |succ m=>exact .sl none ⟨0,0,none⟩ 0 0 z [] (fun _ _=>undef) rfl (Oby _) (.inr ⟨rfl,rfl⟩) (by simp) (fun e=>by cases e) (by simp) (by simp)
 ·rename_i r
  simp only[aA,aO,Obm]at h;split at h
  ·rename_i x m' aE hk
   simp only[aA,aH,Obg,aF,Option.some.injEq]at h;obtain⟨_,h1,rfl⟩:=h;split at h1
   case isFalse=>cases h1
   rename_i hb;simp only[Pbn]at hb;refine⟨?_,⟨⟨_,rfl⟩,fun _ h=>Obi _ h,fun _ h=>h,⟨[],by simp[wQ]⟩,fun _ h=>h⟩,by simp[wQ],rfl⟩;rw[hZ.get (l:=A.xs) rfl];simp only[aB]at hl;rw[hl.1];have hr:=hR.root hk;simp only[bK]at hr;exact hr.give hG (hZ.own _ (by simp[wQ])) hb
  ·cases h
 ·rename_i r k nie x
  simp only[aA,aO,Obm]at h;split at h
  ·rename_i x' m' aE hk
   simp only[aA,aH,Obg,aF,Option.some.injEq]at h;obtain⟨_,h1,rfl⟩:=h;split at h1
   case isFalse=>cases h1
   rename_i hb;simp only[Obh,Pbn,Ob4]at hb;obtain⟨hb,rfl⟩:=hb;refine⟨?_,⟨⟨_,rfl⟩,fun _ h=>Obi _ h,fun _ h=>h,⟨[],by simp[wQ]⟩,fun _ h=>h⟩,by simp[wQ],rfl⟩;rw[hZ.get (l:=A.xs) rfl];simp only[aB]at hl
   have hp:=(hl.2 fun z hz=>by
    simp only[Obt]at hz;subst hz;exact⟨x',m',.live,hk,.inl rfl⟩).2.2
   exact (hp r aE m' rfl ⟨x',hk⟩).give hG (hZ.own _ (by simp[wQ])) hb
  ·cases h
 ·cases h
theorem La7 (hR:R E.ntmps F σ ρ a w G){A B:Fin}{l:aM}(h:(La8 A l).eval σ=some B)(hZ:FLe B Z)(hG:Sav Z nbx G G'){v:Value}(hl:aB σ ρ G w l v) :
  Rd (fun b=>G'.own b=.frz) w v ((Z.xs.map (·.val ρ)).getD A.xs.length .undef)/\FLe A B/\B.xs.length=A.xs.length+1/\B.q=A.q:=by
 unfold La8 at h;simp only[aA,Obg,aF,Option.some.injEq]at h;obtain⟨s,h1,rfl⟩:=h;refine⟨?_,⟨⟨_,rfl⟩,fun _ h=>h,fun _ h=>Obi _ h,⟨[],by simp⟩,fun _ h=>h⟩,by simp,rfl⟩;rw[hZ.get (l:=A.xs) rfl];have hs:=dH hR h1 hl;exact hs.rd.give hG fun z hz=>hZ.frz _ (Obk _ (Pbu hz))
theorem Oah (hR:R E.ntmps F σ ρ a w G){A B:Fin}{s:BO}{l:aM}(h:(Aa9 A s l).eval σ=some B)(hZ:FLe B Z)(hG:Sav Z nbx G G'){v:Value}(hl:aB σ ρ G w l v) :
  Bap G'.own w (Z.xs.map (·.val ρ)) A.xs.length A.q s v/\FLe A B/\B.xs.length=A.xs.length+1/\B.q=A.q+s.q:=by
 cases s with
 | sc =>
  cases l<;>simp only[Aa9,bJ,reduceCtorEq]at h
  rename_i x;simp only[aF,Option.some.injEq]at h;subst h;refine⟨?_,⟨⟨_,rfl⟩,fun _ h=>h,fun _ h=>h,⟨[],by simp⟩,fun _ h=>h⟩,by simp,rfl⟩;simp only[Bap];rw[hZ.get (l:=A.xs) rfl];simpa[aB] using hl
 | fz =>
  have h':(La8 A l).eval σ=some B:=by cases l<;>exact h
  exact La7 hR h' hZ hG hl
 | ow m =>
  have h':(La6 A m l).eval σ=some B:=by cases l<;>exact h
  exact La5 hR h' hZ hG hl
 | dead =>
  have h':(bif Kaf l then RdM.ret { A with xs:=A.xs++[.c .hole] } else .no:RdM Fin).eval σ=some B:=by cases l<;>exact h
  cases hb:Kaf l with
  |false=>rw[hb]at h';cases h'
  | true =>
   rw[hb,cond_true]at h';simp only[aF,Option.some.injEq]at h';subst h';exact⟨hl.one hb,⟨⟨_,rfl⟩,fun _ h=>h,fun _ h=>h,⟨[],by simp⟩,fun _ h=>h⟩,by simp,rfl⟩
theorem zV:∀ {ss:List BO} {ls:List aM} {A B:Fin},(iH A ss ls).eval σ=some B->(∀ {A B:Fin} {s:BO} {l:aM},(Aa9 A s l).eval σ=some B->FLe A B)->FLe A B
 | [], [], A, B, h, _ => by
  simp only[iH,aF,Option.some.injEq]at h;subst h;exact .refl _
 |[],_::_,A,B,h,_=>by simp[iH,bJ]at h
 |_::_,[],A,B,h,_=>by simp[iH,bJ]at h
 | s :: ss, l :: ls, A, B, h, hc => by
  simp only[iH,aA,Obg]at h;obtain⟨C,h1,h2⟩:=h;exact (hc h1).trans (zV h2 hc)
theorem Qab {A B:Fin}{m:Nat}{l:aM}(h:(La6 A m l).eval σ=some B):FLe A B:=by
 unfold La6 at h;split at h
 ·simp only[aF,Option.some.injEq]at h
  subst h;exact⟨⟨_,rfl⟩,fun _ h=>h,fun _ h=>h,⟨[],by simp[Qac]⟩,fun _ h=>h⟩
 ·simp only[aA,aO,Obm]at h
  split at h
  ·simp only[aA,aH,Obg,aF,Option.some.injEq]at h
   obtain⟨_,-,rfl⟩:=h;exact⟨⟨_,rfl⟩,fun _ h=>Obi _ h,fun _ h=>h,⟨[],by simp[wQ]⟩,fun _ h=>h⟩
  ·cases h
 ·simp only[aA,aO,Obm]at h
  split at h
  ·simp only[aA,aH,Obg,aF,Option.some.injEq]at h
   obtain⟨_,-,rfl⟩:=h;exact⟨⟨_,rfl⟩,fun _ h=>Obi _ h,fun _ h=>h,⟨[],by simp[wQ]⟩,fun _ h=>h⟩
  ·cases h
 ·cases h
theorem Qad {A B:Fin}{l:aM}(h:(La8 A l).eval σ=some B):FLe A B:=by
 unfold La8 at h;simp only[aA,Obg,aF,Option.some.injEq]at h;obtain⟨s,h1,rfl⟩:=h;exact⟨⟨_,rfl⟩,fun _ h=>h,fun _ h=>Obi _ h,⟨[],by simp⟩,fun _ h=>h⟩
theorem Ra7 {A B:Fin}{s:BO}{l:aM}(h:(Aa9 A s l).eval σ=some B):FLe A B:=by
 cases s with
 | sc =>
  cases l<;>simp only[Aa9,bJ,reduceCtorEq]at h
  simp only[aF,Option.some.injEq]at h;subst h;exact⟨⟨_,rfl⟩,fun _ h=>h,fun _ h=>h,⟨[],by simp⟩,fun _ h=>h⟩
 | fz =>
  have h':(La8 A l).eval σ=some B:=by cases l<;>exact h
  exact Qad h'
 | ow m =>
  have h':(La6 A m l).eval σ=some B:=by cases l<;>exact h
  exact Qab h'
 | dead =>
  have h':(bif Kaf l then RdM.ret { A with xs:=A.xs++[.c .hole] } else .no:RdM Fin).eval σ=some B:=by cases l<;>exact h
  cases hb:Kaf l with
  |false=>rw[hb]at h';cases h'
  | true =>
   rw[hb,cond_true]at h';simp only[aF,Option.some.injEq]at h';subst h';exact⟨⟨_,rfl⟩,fun _ h=>h,fun _ h=>h,⟨[],by simp⟩,fun _ h=>h⟩
theorem qM {ss:List BO}{ls:List aM}{A B:Fin}(h:(iH A ss ls).eval σ=some B):FLe A B:=zV h fun h=>Ra7 h
theorem uD (hR:R E.ntmps F σ ρ a w G)(hG:Sav Z nbx G G'){ad:Addr}:∀ {ss:List BO} {ls:List aM} {A B:Fin} {off:Nat},(iH A ss ls).eval σ=some B->FLe B Z ->
  (∀ j l,ls[j]?=some l->∃ v,w.cell? (ad.add (off+j))=some v/\w.frozen? (ad.add (off+j))=false/\aB σ ρ G w l v) ->
  Aam G'.own w (Z.xs.map (·.val ρ)) ad off A.xs.length A.q ss/\B.xs.length=A.xs.length+ss.length/\B.q=A.q+qC ss
 | [], [], A, B, off, h, _, _ => by
  simp only[iH,aF,Option.some.injEq]at h;subst h;exact⟨trivial,rfl,rfl⟩
 |[],_::_,A,B,off,h,_,_=>by simp[iH,bJ]at h
 |_::_,[],A,B,off,h,_,_=>by simp[iH,bJ]at h
 | s :: ss, l :: ls, A, B, off, h, hZ, hl => by
  simp only[iH,aA,Obg]at h;obtain⟨C,h1,h2⟩:=h;obtain⟨v,h3,h4,h5⟩:=hl 0 l rfl;obtain⟨h6,h7,h8,h9⟩:=Oah hR h1 ((qM h2).trans hZ) hG h5
  obtain⟨b9,da,fk⟩:=uD hR hG (off:=off+1) h2 hZ fun j l' hj=>by
   have:=hl (j+1) l' (by simpa using hj);rwa[show off+(j+1)=off+1+j by omega]at this
  rw[h8,h9]at b9;exact⟨⟨⟨v,h3,h4,h6⟩,b9⟩,by rw[da,h8];simp;omega,by rw[fk,h9];simp only[qC];omega⟩
end
def Za4 (tmps:Array Value):ResultVar->Sem Value
 |.tmp t=>pure (tmps.getD t undef)
 |.cell a t=>do loadVar t (<- asAddr (tmps.getD a undef))
def Ba0 (P:Program)(tmps:Array Value)(w:World)(x:ResultVar):Value:=match (Za4 tmps x).run P w with
 |.ok v _=>v
 |_=>undef
theorem Kav {P:Program}{tmps:Array Value}{w:World}{x:ResultVar}{v:Value}(h:(Za4 tmps x).run P w=.ok v w):Ba0 P tmps w x=v/\(Za4 tmps x).run P w=.ok (Ba0 P tmps w x) w:=by
 have:Ba0 P tmps w x=v:=by unfold Ba0;rw[h]
 exact⟨this,by rw[this];exact h⟩
theorem Tat (vs:Array Value):(if h:vs.size=1 then vs[0] else Value.tuple vs)=Baz vs.toList:=by
 obtain⟨l⟩:=vs
 match l with
 |[]=>rfl
 |[u]=>rfl
 |u::v::r=>simp[Baz]
section
variable {P:Program} {E:Env} {F:bC} {σ:Nat->Option aN} {ρ:List D} {a:Act} {w:World} {G G':Gh} {cf:Nat->List D->Option (List D)} {Z:Fin} {nbx nv:Nat}
theorem Ra6 {A B:Fin}{s:LR}{l:aM}(h:(Fad nv A s l).eval σ=some B):FLe A B:=by
 unfold Fad at h;split at h
 ·simp only[aF,Option.some.injEq]at h
  subst h;exact⟨⟨_,rfl⟩,fun _ h=>h,fun _ h=>h,⟨[],by simp⟩,fun _ h=>h⟩
 ·exact Qad h
 ·exact Qab h
 ·simp only[aF,Option.some.injEq]at h
  subst h;exact⟨⟨_,rfl⟩,fun _ h=>h,fun _ h=>h,⟨[],by simp⟩,fun _ h=>h⟩
 ·simp only[aA,Obg,aF,Option.some.injEq]at h
  obtain⟨d,-,rfl⟩:=h;exact⟨⟨_,rfl⟩,fun _ h=>h,fun _ h=>Obi _ h,⟨[],by simp⟩,fun _ h=>h⟩
 ·simp only[aA,Obg,aF,Option.some.injEq]at h
  obtain⟨d,-,rfl⟩:=h;exact⟨⟨_,rfl⟩,fun _ h=>h,fun _ h=>Obi _ h,⟨_,rfl⟩,fun _ h=>h⟩
 ·cases h
theorem Oag (hR:R E.ntmps F σ ρ a w G)(ba:aJ cf ρ none nv Z.lets){A B:Fin}{s:LR}{l:aM}(h:(Fad nv A s l).eval σ=some B)(hZ:FLe B Z)(hG:Sav Z nbx G G'){v:Value}(hl:aB σ ρ G w l v) :
  kH G'.own w (Z.xs.map (·.val ρ)) nbx A.xs.length A.q s v/\B.xs.length=A.xs.length+s.n/\B.q=A.q+s.q:=by
 unfold Fad at h;split at h
 ·simp only[aF,Option.some.injEq]at h
  subst h;refine⟨?_,by simp[LR.n],rfl⟩;simp only[kH];rw[hZ.get (l:=A.xs) rfl];simpa[aB] using hl
 ·obtain⟨h1,-,h2,h3⟩:=La7 hR h hZ hG hl
  exact⟨h1,h2,h3⟩
 ·obtain⟨h1,-,h2,h3⟩:=La5 hR h hZ hG hl
  exact⟨h1,h2,h3⟩
 ·simp only[aF,Option.some.injEq]at h
  subst h;refine⟨?_,by simp[LR.n],rfl⟩;simp only[kH];rw[hZ.get (l:=A.xs) rfl];simp only[aB]at hl;exact⟨by rw[hl];rfl,.inl ⟨hl,_,rfl⟩⟩
 ·rename_i z deps z' x
  simp only[aA,Obg,aF,Option.some.injEq]at h;obtain⟨ds,h1,rfl⟩:=h;refine⟨?_,by simp[LR.n],rfl⟩;simp only[kH];rw[hZ.get (l:=A.xs) rfl];simp only[aB]at hl;obtain⟨h3,h4,h5⟩:=iC h1;refine⟨hl.1.1,?_⟩
  rcases hl.2 h3 with h6|⟨ad,row,h6,h7,h8⟩
  ·exact .inl h6
  ·exact .inr ⟨ad,row,h6,h7,(h8.drop hR h5).give hG fun z hz=>hZ.frz _ (Obk _ (Pbu hz))⟩
 ·rename_i z l' z' ix
  simp only[aA,Obg,aF,Option.some.injEq]at h;obtain⟨sl,h1,rfl⟩:=h;refine⟨?_,by simp[LR.n],rfl⟩;simp only[kH];rw[hZ.get (l:=A.xs) rfl];simp only[aB]at hl;obtain⟨ad,n,cp,ik,iv,h3,h4,h5,h6,h7⟩:=hl;have hs:=dH hR h1 h3;obtain⟨lr,vp⟩:=hZ.lets;dsimp only at vp;rw[vp,Obs]at ba;have qy:=(aJ.append ba).2;have lj:aJ cf ρ none (nv+bD A.lets) [.prim (.one z') [sl.x,ix] 1]:=(aJ.append qy).1;obtain⟨d,bf,hd⟩:=fC lj rfl;simp only[Ob1,Pba,h4]at bf
  have gR:∃ sz rs r,sl.x.val ρ=.rows sz rs/\sz=z'/\rs[iv.toNat]?=some r/\d=.rows z' [r]:=by
   cases hx:sl.x.val ρ with
   | rows sz rs =>
    rw[hx]at bf;simp only[aY.run]at bf;split at bf
    ·rename_i hc
     split at bf
     ·rename_i r hr
      simp only[Option.some.injEq,List.cons.injEq,and_true]at bf;exact⟨sz,rs,r,rfl,hc.1,hr,bf.symm⟩
     ·cases bf
    ·cases bf
   |_=>rw[hx]at bf;simp[aY.run]at bf
  obtain⟨sz,rs,r,hx,rfl,hr,rfl⟩:=gR;have gA:=hs.rd;rw[hx]at gA;obtain⟨A',b,n',c',vs,e1,e2,e3,e4,e5,e6,e7⟩:=gA.inv
  injection e1 with e1 za e1''
  have ar:iv.toNat<rs.length:=(List.getElem?_eq_some_iff.1 hr).1;have hA:some ad=some b:=by rw[e1];exact e4.resolve_left (by omega)
  obtain rfl:=Option.some.inj hA;have wh:r.length=sz:=e5 r (Obw hr);refine⟨by rw[h7];rfl,.inr ⟨_,r,h7,by rw[hd,wh],?_⟩⟩
  have:Rd (allow G sl.deps) w (.slice (some (ad.add (iv.toNat*sz+0))) 1 1) (.rows r.length [r]):=by
   refine .rows _ (ad.add (iv.toNat*sz+0)) 1 1 r.length [r] (fun _ j=>vs iv.toNat j) rfl (Oby _) (.inr rfl) (by simp) (fun i0 r0 nj j d0 hj=>?_) (fun i0 r0 nj j d0 hj=>?_)
   ·cases i0 with
    | zero =>
     simp only[Obn,Option.some.injEq]at nj;subst nj;obtain⟨k1,k2⟩:=e6 _ _ hr j d0 hj;refine⟨by rw[add_block];exact k1,?_⟩;rw[add_add];rw[show iv.toNat*sz+0+(0*r.length+j)=iv.toNat*sz+j by omega];exact k2
    |succ i0=>simp at nj
   ·cases i0 with
    | zero =>
     simp only[Obn,Option.some.injEq]at nj;subst nj;exact e7 _ _ hr j d0 hj
    |succ i0=>simp at nj
  exact this.give hG fun z hz=>hZ.frz _ (Obk _ (Pbu hz))
 ·cases h
theorem nP:∀ {ss:List LR} {ls:List aM} {A B:Fin},(gK nv A ss ls).eval σ=some B->FLe A B
 | [], [], A, B, h => by
  simp only[gK,aF,Option.some.injEq]at h;subst h;exact .refl _
 |[],_::_,A,B,h=>by simp[gK,bJ]at h
 |_::_,[],A,B,h=>by simp[gK,bJ]at h
 | s :: ss, l :: ls, A, B, h => by
  simp only[gK,aA,Obg]at h;obtain⟨C,h1,h2⟩:=h;refine FLe.trans ?_ (nP h2);split at h1
  ·rename_i cs b
   simp only[aA,aO,Obm]at h1;split at h1
   ·have h0:FLe A { A with bxs:=A.bxs++[b] }:=⟨⟨[],by simp⟩,fun _ h=>h,fun _ h=>h,⟨[],by simp⟩,fun _ h=>Obi _ h⟩
    exact FLe.trans h0 (qM h1)
   ·cases h1
  ·exact Ra6 h1
theorem qK (hR:R E.ntmps F σ ρ a w G)(ba:aJ cf ρ none nv Z.lets)(hG:Sav Z nbx G G'):∀ {ss:List LR} {ls:List aM} {A B:Fin} {vs:List Value},(gK nv A ss ls).eval σ=some B->FLe B Z->aG σ ρ G w ls vs ->
  nC G'.own w (Z.xs.map (·.val ρ)) nbx A.xs.length A.q ss vs/\B.xs.length=A.xs.length+lC ss/\B.q=A.q+qL ss
 | [], [], A, B, vs, h, _, hl => by
  simp only[gK,aF,Option.some.injEq]at h;subst h;simp only[aG]at hl;exact⟨hl,rfl,rfl⟩
 |[],_::_,A,B,vs,h,_,_=>by simp[gK,bJ]at h
 |_::_,[],A,B,vs,h,_,_=>by simp[gK,bJ]at h
 | s :: ss, l :: ls, A, B, vs, h, hZ, hl => by
  simp only[gK,aA,Obg]at h;obtain⟨C,h1,h2⟩:=h;simp only[aG]at hl;obtain⟨u,us,rfl,h3,h4⟩:=hl;have hCZ:FLe C Z:=(nP h2).trans hZ
  have key:kH G'.own w (Z.xs.map (·.val ρ)) nbx A.xs.length A.q s u/\C.xs.length=A.xs.length+s.n/\C.q=A.q+s.q:=by
   split at h1
   ·rename_i cs b
    simp only[aA,aO,Obm]at h1;split at h1
    ·rename_i bs hk
     obtain⟨h5,h6,h7⟩:=hR.box hk;simp only[Obp,if_false]at h6;obtain⟨h8,h9,b9⟩:=uD hR hG (ad:=G.bx b) (off:=0) h1 hCZ fun j l hj=>by rw[Ob9];exact h7 j l hj
     refine⟨?_,h9,b9⟩;simp only[aB]at h3;simp only[kH];exact⟨G.bx b,h3.1,h5,hG.bxs b (hCZ.bxs _ ((qM h1).bxs _ (Obk _ (List.mem_singleton.2 rfl)))) _ h6,h8⟩
    ·cases h1
   ·exact Oag hR ba h1 hCZ hG h3
  obtain⟨h5,h6,h7⟩:=key;obtain⟨h8,h9,b9⟩:=qK hR ba hG h2 hZ h4;rw[h6,h7]at h8;exact⟨⟨u,us,rfl,h5,h8⟩,by rw[h9,h6];simp only[lC];omega,by rw[b9,h7];simp only[qL];omega⟩
theorem zU:∀ {rs:List (Bool×List LR)} {vars:List ResultVar} {A B:Fin},(mV E nv A rs vars).eval σ=some B->FLe A B
 | [], [], A, B, h => by
  simp only[mV,aF,Option.some.injEq]at h;subst h;exact .refl _
 |[],_::_,A,B,h=>by simp[mV,bJ]at h
 |_::_,[],A,B,h=>by simp[mV,bJ]at h
 | (ag, ss) :: rs, .tmp t :: vars, A, B, h => by
  simp only[mV,aA,aO,Obm]at h;split at h
  ·simp only[aA,Obg]at h
   obtain⟨_,-,ls,-,C,h1,h2⟩:=h;exact (nP h1).trans (zU h2)
  ·cases h
 | (ag, ss) :: rs, .cell t ty :: vars, A, B, h => by
  simp only[mV,aA,Obg]at h;obtain⟨ti,-,_,-,_,-,h⟩:=h;split at h
  ·simp only[aA,aO,Obm]at h
   split at h
   ·simp only[aA,Obg]at h
    obtain⟨C,h1,h2⟩:=h;exact (nP h1).trans (zU h2)
   ·cases h
  ·cases h
theorem Laz {n t:Nat}{gh:Nat->Value}(h:t<n):a.tmps.getD t undef=xS n a gh t:=by
 unfold xS;rw[if_pos h]
theorem Aa8 (hti:sG P E.ti)(hR:R E.ntmps F σ ρ a w G)(ba:aJ cf ρ none nv Z.lets)(hG:Sav Z nbx G G'):∀ {rs:List (Bool×List LR)} {vars:List ResultVar} {A B:Fin},(mV E nv A rs vars).eval σ=some B->FLe B Z ->
  (∀ x∈vars,(Za4 a.tmps x).run P w=.ok (Ba0 P a.tmps w x) w)/\Ha0 G'.own w (Z.xs.map (·.val ρ)) nbx A.xs.length A.q rs (vars.map (Ba0 P a.tmps w))/\B.xs.length=A.xs.length+bF rs/\B.q=A.q+qR rs
 | [], [], A, B, h, _ => by
  simp only[mV,aF,Option.some.injEq]at h;subst h;exact⟨by simp,rfl,rfl,rfl⟩
 |[],_::_,A,B,h,_=>by simp[mV,bJ]at h
 |_::_,[],A,B,h,_=>by simp[mV,bJ]at h
 | (ag, ss) :: rs, .tmp t :: vars, A, B, h, hZ => by
  simp only[mV,aA,aO,Obm]at h;split at h
  case h_2=>cases h
  rename_i sv hk;simp only[aA,Obg,aH,aS]at h;obtain⟨_,h0,ls,h1,C,h2,h3⟩:=h;split at h0
  case isFalse=>cases h0
  rename_i ht;simp only[Pbf]at ht;have hv:=hR.slot hk rfl;rw[<- Laz ht]at hv;have bf:(Za4 a.tmps (.tmp t)).run P w=.ok (a.tmps.getD t undef) w:=rfl;obtain⟨e1,e2⟩:=Kav bf;have hC:=(zU h3).trans hZ;obtain⟨h4,h5,h6⟩:=qK hR ba hG h2 hC (gQ h1 hv);obtain⟨h7,h8,h9,b9⟩:=Aa8 hti hR ba hG h3 hZ;rw[h5,h6]at h8;refine⟨fun x hx=>?_,⟨_,_,_,rfl,h4,?_,h8⟩,by rw[h9,h5];simp only[bF];omega,by rw[b9,h6];simp only[qR];omega⟩
  ·rcases List.mem_cons.1 hx with rfl|hx
   ·exact e2
   ·exact h7 x hx
  ·rw[e1]
   unfold iX at h1;split at h1
   ·cases ag with
    |true=>cases h1
    | false =>
     rw[aB.cells hv];simp
   ·cases ag with
    |false=>cases h1
    | true =>
     obtain⟨us,e,-⟩:=hv;rw[e];simp[Value.cells]
   ·cases h1
 | (ag, ss) :: rs, .cell t ty :: vars, A, B, h, hZ => by
  simp only[mV,aA,Obg,aS,aH,aO]at h;obtain⟨ti,h0,_,h1,c,hc,h⟩:=h;obtain rfl:=Option.some.inj hc;split at h1
  case isFalse=>cases h1
  rename_i hb;simp only[Obh,beq_iff_eq,Ob4,Pbo,Pbf]at hb;obtain⟨⟨⟨sR,dm⟩,lB⟩,ht⟩:=hb;split at h
  case h_2=>cases h
  rename_i b off hk;simp only[aA,aO,Obm]at h;split at h
  case h_2=>cases h
  rename_i ro ls ny;simp only[aA,Obg]at h;obtain⟨C,h2,h3⟩:=h;have hv:aB σ ρ G w (.px b off) _:=hR.slot hk rfl;rw[<- Laz ht]at hv;simp only[aB]at hv;obtain⟨oi,lp,sY⟩:=hR.box ny
  obtain⟨vs,h4,h5⟩:=kC (σ:=σ) (ρ:=ρ) (G:=G) (w:=w) ((G.bx b).add off) ((ls.drop off).take ti.size) 0 fun j l hj=>by
   rw[List.getElem?_take]at hj;split at hj
   ·rw[Pbk]at hj
    obtain⟨v,h6,-,h7⟩:=sY _ _ hj;exact⟨v,by rw[add_add,Ob9];exact h6,h7⟩
   ·cases hj
  have hC:=(zU h3).trans hZ;obtain⟨h6,h7,h8⟩:=qK hR ba hG h2 hC h4
  have hlen:vs.length=ti.size:=by
   have fX:∀ {ss:List LR} {vs:List Value} {i q:Nat},nC G'.own w (Z.xs.map (·.val ρ)) nbx i q ss vs->vs.length=ss.length:=by
    intro ss
    induction ss with
    |nil=>intro vs i q h;simp only[nC]at h;subst h;rfl
    | cons s ss ih =>
     intro vs i q h;obtain⟨u,us,rfl,-,h⟩:=h;simp[ih h]
   rw[fX h6,dm]
  obtain⟨info,ud,hf⟩:=aV (hti.ok _ _ h0)
  have dq:∃ v,if ti.agg=true then v=.agg vs.toArray else vs=[v]:=by
   cases hta:ti.agg with
   |true=>exact⟨_,by rw[if_pos rfl]⟩
   | false =>
    rw[hta]at lB;simp only[Obp,false_or]at lB;rw[lB]at hlen
    match vs,hlen with
    |[v],_=>exact⟨v,by simp⟩
  obtain⟨v,dq⟩:=dq;have qS:=jE hf ((G.bx b).add off) vs hlen (fun j u hj=>by have:=h5 j u hj;rwa[Ob9]at this) dq
  have bf:(Za4 a.tmps (.cell t ty)).run P w=.ok v w:=by
   show (do loadVar ty (<- asAddr (a.tmps.getD t undef)):Sem Value).run P w=.ok v w
   rw[hv.1];simp only[asAddr,Sem.run_bind,Sem.run_pure,Result.andThen_ok];exact qS
  obtain⟨e1,e2⟩:=Kav bf;obtain⟨h9,b9,da,fk⟩:=Aa8 hti hR ba hG h3 hZ;rw[h7,h8]at b9;refine⟨fun x hx=>?_,⟨_,_,vs,rfl,h6,?_,b9⟩,by rw[da,h7];simp only[bF];omega,by rw[fk,h8];simp only[qR];omega⟩
  ·rcases List.mem_cons.1 hx with rfl|hx
   ·exact e2
   ·exact h9 x hx
  ·rw[e1,sR];exact dq
theorem Fac {t:Nat}:∀ {ms:List Nat} {j:Nat} {A B:Fin},(Ba8 t j ms A).eval σ=some B->FLe A B
 | [], j, A, B, h => by
  simp only[Ba8,aF,Option.some.injEq]at h;subst h;exact .refl _
 | d :: ms, j, A, B, h => by
  simp only[Ba8,aA,aO,Obm]at h;split at h
  case h_2=>cases h
  rename_i r hk;simp only[aA,aO,Obm]at h;split at h
  case h_2=>cases h
  rename_i x m aE qc;simp only[aA,Obg]at h;obtain⟨_,-,h⟩:=h;have h0:FLe A { A with xs:=A.xs++[x],own:=A.own++[(r,2*j+1,d)] }:=⟨⟨_,rfl⟩,fun _ h=>Obi _ h,fun _ h=>h,⟨[],by simp⟩,fun _ h=>h⟩;exact h0.trans (Fac h)
theorem Hao (hR:R E.ntmps F σ ρ a w G)(hG:Sav Z nbx G G'):∀ {ms:List Nat} {j:Nat} {A B:Fin},(Ba8 E.ntmps j ms A).eval σ=some B->FLe B Z ->
  Qao G'.own w (Z.xs.map (·.val ρ)) F.gh A.xs.length j ms/\B.xs.length=A.xs.length+ms.length/\B.q=A.q
 | [], j, A, B, h, _ => by
  simp only[Ba8,aF,Option.some.injEq]at h;subst h;exact⟨trivial,rfl,rfl⟩
 | d :: ms, j, A, B, h, hZ => by
  simp only[Ba8,aA,aO,Obm]at h;split at h
  case h_2=>cases h
  rename_i r hk;simp only[aA,aO,Obm]at h;split at h
  case h_2=>cases h
  rename_i x m aE qc;simp only[aA,Obg,aH]at h;obtain⟨_,h0,h⟩:=h;split at h0
  case isFalse=>cases h0
  rename_i hb;simp only[Pbn]at hb;have hv:aB σ ρ G w (.ex r) _:=hR.slot hk rfl
  have e:xS E.ntmps a F.gh (E.ntmps+j)=F.gh j:=by
   unfold xS;rw[if_neg (by omega),Pbe]
  rw[e]at hv;simp only[aB]at hv;have hC:=(Fac h).trans hZ;obtain⟨h1,h2,h3⟩:=Hao hR hG h hZ;simp only[List.length_append,List.length_singleton]at h1 h2;refine⟨⟨?_,h1⟩,by rw[h2];simp;omega,h3⟩;rw[hC.get (l:=A.xs) rfl,hv.1];have hr:=hR.root qc;simp only[bK]at hr;exact hr.give hG (hC.own _ (Obk _ (List.mem_singleton.2 rfl))) hb
theorem qN {t:Nat}:∀ {bs:List (Bool×List (BS×BO))} {b:Nat} {A B:Fin},(nQ t A b bs).eval σ=some B->FLe A B
 | [], b, A, B, h => by
  simp only[nQ,aF,Option.some.injEq]at h;subst h;exact .refl _
 | (ro, cs) :: bs, b, A, B, h => by
  simp only[nQ]at h
  cases ro with
  |true=>exact qN h
  | false =>
   simp only[cond_false,aA,aO,Obm]at h;split at h
   ·simp only[aA,aO,Obm,Obg]at h
    obtain⟨_,-,h⟩:=h;split at h
    ·simp only[aA,Obg]at h
     obtain⟨C,h1,h2⟩:=h;exact (qM h1).trans (qN h2)
    ·cases h
   ·cases h
theorem uE (hR:R E.ntmps F σ ρ a w G)(hG:Sav Z nbx G G'){nm:Nat}{bx:Nat->Addr}{nb:Nat}(wj:∀ b,b<nb->F.gh (nm+b)=.pointer (some (bx b))):∀ {bs:List (Bool×List (BS×BO))} {b:Nat} {A B:Fin},b+bs.length<=nb->(nQ (E.ntmps+nm) A b bs).eval σ=some B->FLe B Z ->
  kI G'.own w (Z.xs.map (·.val ρ)) bx b A.xs.length A.q bs
 |[],b,A,B,_,h,_=>trivial
 | (ro, cs) :: bs, b, A, B, sC, h, hZ => by
  simp only[Pbm]at sC;simp only[nQ]at h
  cases ro with
  | true =>
   simp only[kI,if_true];exact uE hR hG wj (by omega) h hZ
  | false =>
   simp only[kI,Obp,if_false];simp only[cond_false,aA,aO,Obm]at h;split at h
   case h_2=>cases h
   rename_i b' hk;simp only[aA,aO,Obm,Obg,aH]at h;obtain⟨_,h0,h⟩:=h;split at h0
   case isFalse=>cases h0
   rename_i hb;simp only[Ob4]at hb;subst hb;split at h
   case h_2=>cases h
   rename_i ls ny;simp only[aA,Obg]at h;obtain⟨C,h1,h2⟩:=h;have hv:aB σ ρ G w (.px b' 0) _:=hR.slot hk rfl
   have e:xS E.ntmps a F.gh (E.ntmps+nm+b')=F.gh (nm+b'):=by
    unfold xS;rw[if_neg (by omega)];congr 1;omega
   rw[e,wj b' (by omega)]at hv;simp only[aB]at hv
   have fv:bx b'=G.bx b':=by
    have:=hv.1
    injection this with this
    injection this
   obtain⟨h5,h6,h7⟩:=hR.box ny;obtain⟨h8,h9,b9⟩:=uD hR hG (ad:=G.bx b') (off:=0) h1 ((qN h2).trans hZ) fun j l hj=>by rw[Ob9];exact h7 j l hj
   have da:=uE hR hG wj (b:=b'+1) (by omega) h2 hZ;rw[h9,b9,Ob7]at da;rw[fv];exact⟨h8,da⟩
end
theorem Aac:∀ {l:List (Nat×Nat×Nat)} {r t m:Nat},distinct (l.map (·.1))=true->(r,t,m)∈l->l.find? (fun z=>Nat.beq z.1 r)=some (r,t,m)
 |[],r,t,m,_,h=>by simp at h
 | (r', t', m') :: l, r, t, m, hd, h => by
  simp only[Ob1,distinct,Obh,Ob6]at hd
  rcases List.mem_cons.1 h with h1|h1
  ·obtain⟨rfl,rfl,rfl⟩:r=r'/\t=t'/\m=m':=by simpa using h1
   simp
  ·have cn:Nat.beq r' r=false:=by
    cases e:Nat.beq r' r with
    |false=>rfl
    | true =>
     simp only[Ob4]at e;subst e;have:has (l.map (·.1)) r'=true:=kS.2 (List.mem_map.2 ⟨_,h1,rfl⟩);rw[hd.1]at this;cases this
   rw[List.find?_cons_of_neg (by simp[cn])];exact Aac hd.2 h1
def Jae (Z:Fin)(nbx:Nat)(G:Gh):Gh:={ G with own:=fun b=>match G.own b with
 | .slc r p => (match Z.own.find? (fun z => Nat.beq z.1 r) with
  |some (_,t,m)=>if p.length<m then .slc t p else .frz
  |none=>if r∈Z.frz then .frz else .oth)
 |.box β=>if β<nbx then .box β else if β∈Z.bxs then .box nbx else .oth
 |o=>o }
theorem Yao {Z:Fin}{nbx:Nat}{G:Gh}(hd:distinct (Z.own.map (·.1))=true)(hm:meets (Z.own.map (·.1)) Z.frz=false)(hb:(Z.bxs.any fun b=>Nat.blt b nbx)=false):Sav Z nbx G (Jae Z nbx G):=by
 refine⟨fun b hb=>by simp only[Jae,hb],fun r t m hz b p hb=>?_,fun r hr b p hb=>?_,fun β hβ b zi=>?_⟩
 ·simp only[Jae,hb,Aac hd hz]
 ·have:Z.own.find? (fun z=>Nat.beq z.1 r)=none:=by
   rw[List.find?_eq_none];intro z hz e;simp only[Ob4]at e;exact mK hm (List.mem_map.2 ⟨z,hz,rfl⟩) (by rw[e];exact hr)
  simp only[Jae,hb,this,if_pos hr]
 ·rw[Qbq]at hb
  have:=hb β hβ;simp only[Pbf]at this;simp only[Jae,zi,if_neg this,if_pos hβ]
section
variable {P:Program} {E:Env} {F:bC} {ρ:List D} {cf:Nat->List D->Option (List D)}
theorem Ra5 (hti:sG P E.ti){s:Sig}{uo:List ResultVar}{st:St}{t:Tm St}(h:finish E s uo st=some t){o:Out St}(ho:Ec cf t ρ=some o)(hl:ρ.length=st.nv)(hi:Aak E st) :
  o.kind=.ret/\∀ a w G (fn:Func) (bx:Nat->Addr),fn.results.toList=uo->(∀ b,b<s.boxes.length->F.gh ((dI (s.params.flatMap (·.2))).length+b)=.pointer (some (bx b))) ->
   (∀ b j,b<F.w0.heap.size->F.own0 b=.box j->j<s.boxes.length)->R E.ntmps F st.get ρ a w G ->
   ∃ v,(results fn a.tmps).run P w=.ok v w/\Jax s F bx v w o.vals:=by
 unfold finish at h;split at h
 case h_2=>cases h
 rename_i Z hZ;generalize hb:(distinct (Z.own.map (·.1))&&!(meets (Z.own.map (·.1)) Z.frz)&&!(Z.bxs.any fun b=>Nat.blt b s.boxes.length)&&dP st.nv Z.lets)=b at h
 cases b with
 |false=>cases h
 | true =>
  rw[cond_true]at h;obtain rfl:=Option.some.inj h;simp only[Obh,Ob6]at hb;obtain⟨⟨⟨oi,lp⟩,sY⟩,hb4⟩:=hb;obtain⟨ds,h4,h5,h6⟩:=sK (g:=none) rfl (by rw[hl];exact hb4) ho;rw[fB]at h5;obtain rfl:=Option.some.inj h5;refine⟨rfl,fun a w G fn bx hfn wj oE hR=>?_⟩;have ba:=h6 [];rw[Pbc,hl]at ba;have hR:=hR.ext hi.sc (by omega) ds;have hG:=Yao (G:=G) oi lp sY;simp only[Za5,aA,Obg]at hZ;obtain⟨A,h7,B,h8,h9⟩:=hZ;have hB:=qN h9;have hA:=(Fac h8).trans hB;obtain⟨b9,da,fk,gS⟩:=Aa8 (cf:=cf) hti hR ba hG h7 hA;obtain⟨jv,k8,lv⟩:=Hao hR hG h8 hB;have h17:=uE hR hG wj (b:=0) (by omega) h9 (.refl _);simp only[Qbc,Ob9]at da fk gS;rw[fk]at jv k8;rw[k8,lv,gS]at h17;refine⟨Baz (fn.results.toList.map (Ba0 P a.tmps w)),?_,Jae Z s.boxes.length G,_,by rw[hfn],?_,da,jv,h17⟩
  ·have hm:(fn.results.mapM (Za4 a.tmps)).run P w=.ok (fn.results.map (Ba0 P a.tmps w)) w:=wG _ _ _ (by rw[hfn];exact b9)
   have e:results fn a.tmps=(do let vs <- fn.results.mapM (Za4 a.tmps);pure (if h:vs.size=1 then vs[0] else Value.tuple vs)):=rfl;rw[e,Sem.run_bind,hm];simp only[Result.andThen_ok,Sem.run_pure];rw[Tat,Array.toList_map]
  ·refine⟨hR.frame.os,hR.frame.tape,hR.frame.output,hR.frame.size,fun b hb ho=>?_,fun b j hb ho=>?_,fun b hb=>?_⟩
   ·obtain⟨h18,h19⟩:=hR.frame.keep b hb ho
    refine⟨h18,?_⟩
    rcases ho with ho|ho<;>rw[ho]at h19 ⊢<;>simp only[Jae,h19]
   ·obtain⟨h18,h19⟩:=hR.frame.boxes b j hb ho
    refine⟨?_,h19⟩;simp only[Jae,h18,if_pos (oE b j hb ho)]
   ·simp only[Jae,hR.frame.fresh b hb]
end
def Goes (P:Program)(f:Nat)(args:Array Value)(w:World)(K:Value->World->Prop):Prop :=
 ((callFunc f args).run P w=.ok (.enter f args) w/\Calls P f args w fun
  |.returned v,w'=>K v w'
  |_,_=>False)\/∃ v w',(callFunc f args).run P w=.ok (.value v) w'/\K v w'
def rC (P:Program)(T:Nat->Ent)(n key:Nat)(s:Sig):Prop :=
 ∀ vals w G ds gn,Wak s vals w G ds->jA T n key ds=some gn->Goes P s.fn vals.toArray w fun v w'=>Jax s (mZ s G w) G.bx v w' gn
def Aan (P:Program)(X:(Nat->Ow)->World->Prop)(T:Nat->Ent)(n key:Nat)(s:Sig):Prop :=
 ∀ vals w G ds gn,Wak s vals w G ds->X G.own w->jA T n key ds=some gn->Goes P s.fn vals.toArray w fun v w'=>Jax s (mZ s G w) G.bx v w' gn
def Stable (X:(Nat->Ow)->World->Prop):Prop :=
 ∀ (own0:Nat->Ow) (w0:World) (own:Nat->Ow) (w:World),w0.heap.size<=w.heap.size->(∀ b,b<w0.heap.size->own0 b=.frz->w.heap[b]?=w0.heap[b]?/\own b=.frz)->X own0 w0->X own w
theorem kW {P : Program} {f : FuncId} {fn : Func} {c : Code} (hf : P.funcs[f]? = some fn) (hname : (fn.name == "runtime.NumGoroutine") = false) (hb : fn.body = some c) (args : Array Value) (w : World) :
  (callFunc f args).run P w=.ok (.enter f args) w:=by
 have h1 : fn.name ≠ "runtime.NumGoroutine" := by simpa using hname
 simp[callFunc,hf,h1,hb]
theorem Ta9:∀ (ss:List LS) (r:Nat),(dR r ss).length=(dI ss).length
 |[],r=>rfl
 | s :: ss, r => by
  cases s<;>simp[dR,dI,Ta9 ss]
theorem Ka3:∀ (n a j:Nat),j<n->(range a n)[j]?=some (a+j)
 |0,a,j,h=>by omega
 |n+1,a,0,h=>rfl
 | n + 1, a, j + 1, h => by
  simp only[range,Pbi];rw[Ka3 n (a+1) j (by omega)];congr 1;omega
theorem Va8 {s:Sig}{G:Gh}{w:World}{b:Nat}(h:b<s.boxes.length):(mZ s G w).gh ((dI (s.params.flatMap (·.2))).length+b)=.pointer (some (G.bx b)):=by
 simp only[mZ,Ea3,Obo];rw[Obz (by simp[Ta9]),Ob7,Ta9,Pbe,Ob5,Ka3 _ _ _ h];simp
theorem Jab {P : Program} {X : (Nat -> Ow) -> World -> Prop} {E : Env} {T : Nat -> Ent} {n key : Nat} {s : Sig} {fn : Func} {tm : Tm Unit} (hti : sG P E.ti) (hm : P.follows .mixedOrders = true) (hfn : P.funcs[s.fn]? = some fn) (hname : (fn.name == "runtime.NumGoroutine") = false)
  (hx:Qa2 E s fn=some tm) (hT:T key=.tm tm) (b7:∀ F,X F.own0 F.w0->xR P { E with ntmps:=fn.ntmps,ngh:=lF s,nbx:=s.boxes.length } F (jA T n)):Aan P X T (n+1) key s:=by
 intro vals w G ds gn ew hX bf;simp only[jA,hT,Obg]at bf;obtain⟨o,bf,ug⟩:=bf;unfold Ab4 at ug;split at ug
 case isFalse=>cases ug
 rename_i hk;obtain rfl:=Option.some.inj ug;unfold Qa2 at hx;split at hx
 case h_1=>cases hx
 rename_i c hbody
 cases hle:Nat.ble s.params.length fn.ntmps with
 |false=>rw[hle]at hx;cases hx
 | true =>
  rw[hle]at hx;simp only[Bool.not_true,cond_false,bind,Obg,Option.some.injEq]at hx;obtain⟨tc,yo,t,ht,rfl⟩:=hx;simp only[Pbn]at hle;rw[Rae,Option.map_eq_some_iff]at bf;obtain⟨o0,bf,rfl⟩:=bf;have hev:Ec (jA T n) t ds=some o0:=Fa1.2 ⟨n,bf⟩
  obtain⟨o1,h1,h2⟩:=jV (fun st r hr ρ o ho=>by
   split at hr
   ·rename_i t' hf
    obtain rfl:=Option.some.inj hr;unfold finish at hf;split at hf
    case h_2=>cases hf
    rename_i Z hZ
    revert hf
    generalize (distinct (Z.own.map (·.1))&&!(meets (Z.own.map (·.1)) Z.frz)&&!(Z.bxs.any fun b=>Nat.blt b s.boxes.length)&&dP st.nv Z.lets)=b;intro hf
    cases b with
    |false=>cases hf
    | true =>
     rw[cond_true]at hf;obtain rfl:=Option.some.inj hf;exact kM ho
   ·obtain rfl:=Option.some.inj hr
    rw[iI]at ho;cases ho) rfl (fun _=>rfl) ht hev
  rcases h2 with ⟨h2,h3,r,h4,h5⟩|⟨h2,h3⟩
  case inr =>
   subst h3;have jd:o0.kind=.ret:=hk;rw[jd]at h2;cases h2
  unfold Zav at yo;dsimp only at yo;generalize kr:Dam (entry s fn.ntmps) (entry s fn.ntmps).nr _=b at yo
  cases b with
  |false=>simp[iZ]at yo
  | true =>
   rw[cond_true]at yo;have hinv:Aak { E with ntmps:=fn.ntmps,ngh:=lF s,nbx:=s.boxes.length } (entry s fn.ntmps):=Vah kr rfl;obtain⟨hlen,hR⟩:=Bbw (n:=fn.ntmps) ew hle;have np:ds.length=(entry s fn.ntmps).nv:=by rw[(Baa s fn.ntmps).1];exact ew.len
   obtain⟨hp,hw⟩:=nW (E:={ E with ntmps:=fn.ntmps,ngh:=lF s,nbx:=s.boxes.length }) (F:=mZ s G w) (fun x j hx ho=>(ew.cells x j hx ho).1) hti (b7 _ hX) hm c yo h1 np hinv;refine .inl ⟨kW hfn hname hbody _ _,?_⟩;refine calls_of_wp hfn hbody ?_;rw[show vals.toArray.size=vals.length by simp];refine hw _ w G _ hR fun a' w' G' gv=>?_
   split at h4
   case h_2 =>
    obtain rfl:=Option.some.inj h4;rw[iI]at h5;cases h5
   rename_i t' hf;obtain rfl:=Option.some.inj h4;obtain⟨h6,h7⟩:=Ra5 (E:={ E with ntmps:=fn.ntmps,ngh:=lF s,nbx:=s.boxes.length }) (F:=mZ s G w) hti hf h5 hp.len hp.inv;obtain⟨v,h8,h9⟩:=h7 a' w' G' fn G.bx rfl (fun b hb=>Va8 hb) (fun b j hb ho=>(ew.cells b j hb ho).1) gv;have hd:=gv.defers
   revert h2
   cases o1.kind with
   |fall=>exact fun _=>⟨hd,v,h8,h9⟩
   |ret=>exact fun _=>⟨hd,v,h8,h9⟩
   |exit i=>intro h;cases h
   |cont=>intro h;cases h
   |yield i=>intro h;cases h
def strip:List Nat->List Nat->Option (List Nat)
 |[],p=>some p
 |a::q,b::p=>if a=b then strip q p else none
 |_::_,[]=>none
theorem Bav:∀ (q t:List Nat),strip q (q++t)=some t
 |[],t=>rfl
 |a::q,t=>by simp[strip,Bav q t]
theorem Gat:∀ {q p t:List Nat},strip q p=some t->p=q++t
 |[],p,t,h=>by simpa[strip] using h
 |a::q,[],t,h=>by simp[strip]at h
 | a :: q, b :: p, t, h => by
  simp only[strip]at h;split at h
  ·rename_i e
   rw[e,Gat h];rfl
  ·cases h
def Ta8 (w:World):Value->List Nat->Value
 |v,[]=>v
 |.slice (some a) _ _,k::p=>Ta8 w ((w.cell? (a.add k)).getD undef) p
 |_,_::_=>undef
theorem Aa3 {own:Nat->Ow}{w:World}{r:Nat}:∀ {p q:List Nat} {v u:Value},wB own w r q v p u->Ta8 w v p=u
 |[],q,v,u,h=>by simp only[wB]at h;rw[h];cases v<;>rfl
 | k :: p, q, v, u, h => by
  obtain⟨a,n,c,u',rfl,-,h2,h3⟩:=h;simp only[Ta8,h2,Pb4];exact Aa3 h3
section
variable (ρ:List D) (dr:List Nat)
def kP:Nat->List RT->Nat->List Nat->Ow
 |_,[],r,_=>if r∈dr then .frz else .oth
 |ν,.nil::t,r,p=>kP (ν+1) t r p
 |ν,.own s d::t,r,p=>if r=s then (if p.length<d then .slc ν p else .frz) else kP (ν+1) t r p
 |ν,.mu s d q _::t,r,p=>if r=s then (match strip (aZ ρ q) p with | some t'=>if t'.length<d then .slc ν t' else .frz | none=>.oth) else kP (ν+1) t r p
end
def Nau (ptrs:List (Nat×Nat×Nat))(c:Nat):Nat->List (Bool×List (BS×BO))->Option Nat
 |_,[]=>none
 | b, (ro, _) :: r => if ro = true then Nau ptrs c (b + 1) r else match mJ b ptrs with
  |some (c',_)=>if c'=c then some b else Nau ptrs c (b+1) r
  |none=>Nau ptrs c (b+1) r
def Ebd (ρ:List D)(G:Gh)(w:World):RT->Value
 |.nil=>.slice none 0 0
 |.own r _=>G.hdr r
 |.mu r _ q _=>Ta8 w (G.hdr r) (aZ ρ q)
def callG (ρ:List D)(G:Gh)(w:World)(s:Sig)(Z:Take):Gh:={
 own:=fun b=>match G.own b with
  |.slc r p=>kP ρ (Z.deps.map (·.1)) 0 Z.rts r p
  | .box c => (match Nau Z.ptrs c 0 s.boxes with
   |some j=>if b=(G.bx c).block then .box j else .oth
   |none=>.oth)
  |o=>o
 hdr:=fun ν=>((Z.rts[ν]?).map (Ebd ρ G w)).getD undef
 bx:=fun b=>match mJ b Z.ptrs with
  |some (c,off)=>(G.bx c).add off
  |none=>⟨0,0,none⟩ }
theorem oL {ρ:List D}{dr:List Nat}{r:Nat}{p:List Nat}:∀ {rts:List RT} {ν:Nat},r∉bS rts->kP ρ dr ν rts r p=if r∈dr then .frz else .oth
 |[],ν,h=>rfl
 |.nil::t,ν,h=>oL (rts:=t) h
 | .own s d :: t, ν, h => by
  simp only[bS,Pbg,not_or]at h;simp only[kP,if_neg h.1];exact oL h.2
 | .mu s d q X :: t, ν, h => by
  simp only[bS,Pbg,not_or]at h;simp only[kP,if_neg h.1];exact oL h.2
theorem pW:∀ {rts:List RT} {ν r:Nat},(∃ d,rts[ν]?=some (.own r d))\/(∃ d q X,rts[ν]?=some (.mu r d q X))->r∈bS rts
 |[],ν,r,h=>by simp at h
 | x :: t, 0, r, h => by
  simp only[Obn,Option.some.injEq]at h
  rcases h with ⟨d,rfl⟩|⟨d,q,X,rfl⟩<;>exact Obu
 | x :: t, ν + 1, r, h => by
  have:=pW (rts:=t) (ν:=ν) (r:=r) (by simpa using h)
  cases x with
  |nil=>exact this
  |own s d=>exact Obq _ this
  |mu s d q X=>exact Obq _ this
theorem yL {ρ:List D}{dr:List Nat}{r d:Nat}{p:List Nat}:∀ {rts:List RT} {fy ν:Nat},distinct (bS rts)=true->rts[ν]?=some (.own r d)->kP ρ dr fy rts r p=if p.length<d then .slc (fy+ν) p else .frz
 |[],fy,ν,_,h=>by simp at h
 | x :: t, fy, 0, hd, h => by
  simp only[Obn,Option.some.injEq]at h;subst h;simp[kP]
 | x :: t, fy, ν + 1, hd, h => by
  simp only[Pbi]at h;have hm:=pW (.inl ⟨d,h⟩)
  cases x with
  | nil =>
   simp only[kP];rw[yL (rts:=t) hd h,show fy+1+ν=fy+(ν+1) by omega]
  | own s d' =>
   simp only[bS,distinct,Obh,Ob6]at hd;have cn:r≠s:=fun e=>by rw[e,<- kS,hd.1]at hm;cases hm
   simp only[kP,if_neg cn];rw[yL hd.2 h,show fy+1+ν=fy+(ν+1) by omega]
  | mu s d' q X =>
   simp only[bS,distinct,Obh,Ob6]at hd;have cn:r≠s:=fun e=>by rw[e,<- kS,hd.1]at hm;cases hm
   simp only[kP,if_neg cn];rw[yL hd.2 h,show fy+1+ν=fy+(ν+1) by omega]
theorem Ca7 {ρ:List D}{dr:List Nat}{r d:Nat}{q:List (aI×Nat×Nat)}{X:aI}{p:List Nat}:∀ {rts:List RT} {fy ν:Nat},distinct (bS rts)=true->rts[ν]?=some (.mu r d q X) ->
  kP ρ dr fy rts r p=match strip (aZ ρ q) p with|some t'=>if t'.length<d then .slc (fy+ν) t' else .frz|none=>.oth
 |[],fy,ν,_,h=>by simp at h
 | x :: t, fy, 0, hd, h => by
  simp only[Obn,Option.some.injEq]at h;subst h;simp[kP]
 | x :: t, fy, ν + 1, hd, h => by
  simp only[Pbi]at h;have hm:=pW (.inr ⟨d,q,X,h⟩)
  cases x with
  | nil =>
   simp only[kP];rw[Ca7 (rts:=t) hd h,show fy+1+ν=fy+(ν+1) by omega]
  | own s d' =>
   simp only[bS,distinct,Obh,Ob6]at hd;have cn:r≠s:=fun e=>by rw[e,<- kS,hd.1]at hm;cases hm
   simp only[kP,if_neg cn];rw[Ca7 hd.2 h,show fy+1+ν=fy+(ν+1) by omega]
  | mu s d' q' X' =>
   simp only[bS,distinct,Obh,Ob6]at hd;have cn:r≠s:=fun e=>by rw[e,<- kS,hd.1]at hm;cases hm
   simp only[kP,if_neg cn];rw[Ca7 hd.2 h,show fy+1+ν=fy+(ν+1) by omega]
structure TLe (A B:Take):Prop where
 xs:∃ l,B.xs=A.xs++l
 ptrs:∀ z∈A.ptrs,z∈B.ptrs
 deps:∀ z∈A.deps,z∈B.deps
 lets:∃ l,B.lets=A.lets++l
 rts:∃ l,B.rts=A.rts++l
theorem TLe.refl (A:Take):TLe A A:=⟨⟨[],by simp⟩,fun _ h=>h,fun _ h=>h,⟨[],by simp⟩,⟨[],by simp⟩⟩
theorem TLe.trans {A B C:Take}(h:TLe A B)(h':TLe B C):TLe A C:=by
 obtain⟨⟨l,h1⟩,h2,h3,⟨m,h4⟩,⟨k,h5⟩⟩:=h;obtain⟨⟨l',tw⟩,ua,h3',⟨m',uc⟩,⟨k',s7⟩⟩:=h';exact⟨⟨l++l',by rw[tw,h1,Obs]⟩,fun z hz=>ua z (h2 z hz),fun z hz=>h3' z (h3 z hz),⟨m++m',by rw[uc,h4,Obs]⟩,⟨k++k',by rw[s7,h5,Obs]⟩⟩
theorem TLe.get {A B:Take}(h:TLe A B){ρ:List D}{x:aI}{l:List aI}(hx:A.xs=l++[x]):(aI.v l.length).val (B.xs.map (·.val ρ))=x.val ρ:=by
 obtain⟨m,h1⟩:=h.xs;rw[h1,hx];simp only[aI.val,Obo];simp
theorem TLe.rt {A B:Take}(h:TLe A B){x:RT}{l:List RT}(hx:A.rts=l++[x]):B.rts[l.length]?=some x:=by
 obtain⟨m,h1⟩:=h.rts;rw[h1,hx];simp
structure Haz (s:Sig) (Z:Take):Prop where
 ptrs:∀ b c off,(b,c,off)∈Z.ptrs->b<s.boxes.length/\mJ b Z.ptrs=some (c,off)
 dist:distinct (bS Z.rts)=true
 deps:∀ z∈Z.deps,z.1∉bS Z.rts
 wr:distinct (gY false Z.ptrs 0 s.boxes)=true
 ro:meets (gY false Z.ptrs 0 s.boxes) (gY true Z.ptrs 0 s.boxes)=false
theorem Eai {nbx:Nat}{ptrs:List (Nat×Nat×Nat)}:∀ {l:List (Nat×Nat×Nat)},Pao nbx ptrs l=true->∀ b c off,(b,c,off)∈l->b<nbx/\mJ b ptrs=some (c,off)
 |[],_,b,c,off,h=>by simp at h
 | (b', c', jx) :: l, h, b, c, off, hm => by
  simp only[Pao,Obh,Pbf]at h
  rcases List.mem_cons.1 hm with e|hm
  ·obtain⟨rfl,rfl,rfl⟩:b=b'/\c=c'/\off=jx:=by simpa using e
   refine⟨h.1.1,?_⟩;have h2:=h.1.2;split at h2
   ·rename_i e
    simp only[Obh,Ob4]at h2;rw[e,h2.1,h2.2]
   ·cases h2
  ·exact Eai h.2 b c off hm
theorem Nab {s:Sig}{Z:Take}(h:Sa6 s Z=true):Haz s Z:=by
 simp only[Sa6,Obh,Ob6]at h;obtain⟨⟨⟨⟨h1,h2⟩,h3⟩,h4⟩,h5⟩:=h;refine⟨Eai h1,h2,fun z hz hm=>?_,h4,h5⟩;rw[Qbq]at h3;exact h3 z hz (kS.2 hm)
section
variable {E:Env} {F:bC} {σ:Nat->Option aN} {ρ:List D} {a:Act} {w:World} {G:Gh} {g:Option (aI×Bool)} {cf:Nat->List D->Option (List D)} {s:Sig} {Z:Take} {nv:Nat}
theorem mY {b:Nat}(h:G.own b=.frz):(callG ρ G w s Z).own b=.frz:=by simp only[callG,h]
theorem Va7 (hk:Haz s Z){b r k:Nat}{p:List Nat}(hz:(r,k)∈Z.deps)(h:G.own b=.slc r p):(callG ρ G w s Z).own b=.frz:=by
 simp only[callG,h];rw[oL (hk.deps _ hz),if_pos (List.mem_map.2 ⟨_,hz,rfl⟩)]
theorem Va6 (hk:Haz s Z){b r d ν:Nat}{p:List Nat}(hz:Z.rts[ν]?=some (.own r d))(h:G.own b=.slc r p):(callG ρ G w s Z).own b=if p.length<d then .slc ν p else .frz:=by
 simp only[callG,h];rw[yL hk.dist hz,Ob9]
theorem Jam (hk:Haz s Z){b r d ν:Nat}{q:List (aI×Nat×Nat)}{X:aI}{p:List Nat}(hz:Z.rts[ν]?=some (.mu r d q X))(h:G.own b=.slc r p) :
  (callG ρ G w s Z).own b=match strip (aZ ρ q) p with|some t'=>if t'.length<d then .slc ν t' else .frz|none=>.oth:=by
 simp only[callG,h];rw[Ca7 hk.dist hz,Ob9]
theorem Aah {ν:Nat}{x:RT}(h:Z.rts[ν]?=some x):(callG ρ G w s Z).hdr ν=Ebd ρ G w x:=by
 simp only[callG,h];rfl
theorem Rd.callG (hk:Haz s Z){deps:List (Nat×Nat)}(hd:∀ z∈deps,z∈Z.deps){v:Value}{d:D}(h:Rd (allow G deps) w v d):Rd (fun b=>(Go.Proofs.YtcbkmmhkccnamaaGreat.Rf.callG ρ G w s Z).own b=.frz) w v d:=by
 refine h.mono fun b hb=>⟨?_,rfl⟩
 rcases hb with hb|⟨r,k,p,hm,hb⟩
 ·exact mY hb
 ·exact Va7 hk (hd _ hm) hb
theorem Qaw (hg:gOn ρ g=true){A B:Take}{l:aM}(h:(Ja3 g A l).eval σ=some B){v:Value}(hl:aB σ ρ G w l v) :
  ∃ x,B={ A with xs:=A.xs++[x] }/\Sc v (x.val ρ):=by
 simp only[Ja3,aA,Obg,aS,aF,Option.some.injEq]at h;obtain⟨x,h1,rfl⟩:=h;exact⟨x,rfl,iV hg h1 hl⟩
theorem Ja7 {A B:Take}{nie:Bool}{l:aM}(h:(oH A nie l).eval σ=some B):TLe A B:=by
 simp only[oH,aA,Obg,aF,Option.some.injEq]at h;obtain⟨s,h1,rfl⟩:=h;exact⟨⟨_,rfl⟩,fun _ h=>h,fun _ h=>Obi _ h,⟨_,rfl⟩,⟨[],by simp⟩⟩
theorem Gaq (hR:R E.ntmps F σ ρ a w G)(hg:gOn ρ g=true)(ba:aJ cf ρ g nv Z.lets)(hk:Haz s Z){A B:Take}{nie:Bool}{l:aM}(h:(oH A nie l).eval σ=some B)(hZ:TLe B Z){v:Value}(hl:aB σ ρ G w l v) :
  Rd (fun b=>(callG ρ G w s Z).own b=.frz) w v ((aI.v A.xs.length).val (Z.xs.map (·.val ρ)))/\(nie=true->∀ z,(aI.v A.xs.length).val (Z.xs.map (·.val ρ))=.rows z []->v=.slice none 0 0) /\
  B.xs.length=A.xs.length+1/\B.rts=A.rts:=by
 simp only[oH,aA,Obg,aF,Option.some.injEq]at h;obtain⟨sl,h1,rfl⟩:=h;have hs:=dH hR h1 hl;rw[hZ.get (l:=A.xs) rfl];refine⟨hs.rd.callG hk fun z hz=>hZ.deps _ (Obk _ hz),fun hn z hz=>?_,by simp,rfl⟩
 cases yp:sl.nie with
 |true=>exact hs.nie yp z hz
 | false =>
  exfalso;obtain⟨lr,vp⟩:=hZ.lets;dsimp only at vp;rw[vp,hn,yp]at ba;simp only[Bool.not_false,Bool.and_self,cond_true]at ba;rw[Obs]at ba;have lj:=(aJ.append (aJ.append ba).2).1;obtain⟨ds,h2,-,-⟩:=step1 lj hg;simp only[Ob1,Pba,hz,aY.run]at h2;simp at h2
theorem Ja4 {A B:Take}{d:Nat}{l:aM}(h:(rH A d l).eval σ=some B):TLe A B:=by
 unfold rH at h;split at h
 ·simp only[aA,aO,Obm]at h
  split at h
  ·simp only[aA,aH,Obg,aF,Option.some.injEq]at h
   obtain⟨_,-,rfl⟩:=h;exact⟨⟨_,rfl⟩,fun _ h=>h,fun _ h=>h,⟨[],by simp⟩,⟨_,rfl⟩⟩
  ·cases h
 ·simp only[aF,Option.some.injEq]at h
  subst h;exact⟨⟨_,rfl⟩,fun _ h=>h,fun _ h=>h,⟨[],by simp⟩,⟨_,rfl⟩⟩
 ·cases h
theorem Gan (hR:R E.ntmps F σ ρ a w G)(hk:Haz s Z){A B:Take}{d:Nat}{l:aM}(h:(rH A d l).eval σ=some B)(hZ:TLe B Z){v:Value}(hl:aB σ ρ G w l v) :
  v=(callG ρ G w s Z).hdr A.rts.length/\Rp (callG ρ G w s Z).own w A.rts.length [] d v ((aI.v A.xs.length).val (Z.xs.map (·.val ρ)))/\B.xs.length=A.xs.length+1/\B.rts.length=A.rts.length+1:=by
 unfold rH at h;split at h
 ·rename_i r
  simp only[aA,aO,Obm]at h;split at h
  ·rename_i x m aE qc
   simp only[aA,aH,Obg,aF,Option.some.injEq]at h;obtain⟨_,h1,rfl⟩:=h;split at h1
   case isFalse=>cases h1
   rename_i hb;simp only[Pbn]at hb;simp only[aB]at hl;have mS:=hZ.rt (l:=A.rts) rfl;rw[hZ.get (l:=A.xs) rfl];refine⟨by rw[Aah mS];exact hl.1,?_,by simp,by simp⟩;rw[hl.1];have hr:=hR.root qc;simp only[bK]at hr;exact hr.move (fun b hb _=>⟨mY hb,rfl⟩) [] d hb fun b t hb=>⟨by rw[Va6 hk mS hb];rfl,rfl⟩
  ·cases h
 ·rename_i nie z
  simp only[aF,Option.some.injEq]at h;subst h;simp only[aB]at hl;have hv:=(hl.2 (by simp)).2.1 trivial z rfl;have mS:=hZ.rt (l:=A.rts) rfl;rw[hZ.get (l:=A.xs) rfl];refine⟨by rw[Aah mS];exact hv,?_,by simp,by simp⟩;rw[hv]
  cases d with
  |zero=>exact .fz (.rows none ⟨0,0,none⟩ 0 0 z [] (fun _ _=>undef) rfl (Oby _) (.inl rfl) (by simp) (by simp) (by simp))
  |succ m=>exact .sl none ⟨0,0,none⟩ 0 0 z [] (fun _ _=>undef) rfl (Oby _) (.inr ⟨rfl,rfl⟩) (by simp) (fun e=>by cases e) (by simp) (by simp)
 ·cases h
theorem Sa7 {A B:Take}{d:Nat}{l:aM}(h:(Gap A d l).eval σ=some B):TLe A B:=by
 simp only[Gap,aA,Obg]at h;obtain⟨sl,h1,h⟩:=h;split at h
 ·simp only[aA,aH,aO,Obm,Obg]at h
  obtain⟨_,-,h⟩:=h;split at h
  ·simp only[aF,Option.some.injEq]at h
   subst h;exact⟨⟨_,rfl⟩,fun _ h=>h,fun _ h=>h,⟨[],by simp⟩,⟨_,rfl⟩⟩
  ·cases h
 ·cases h
theorem Qaz (hR:R E.ntmps F σ ρ a w G)(hk:Haz s Z){A B:Take}{d:Nat}{l:aM}(h:(Gap A d l).eval σ=some B)(hZ:TLe B Z){v:Value}(hl:aB σ ρ G w l v) :
  v=(callG ρ G w s Z).hdr A.rts.length/\Rp (callG ρ G w s Z).own w A.rts.length [] d v ((aI.v A.xs.length).val (Z.xs.map (·.val ρ)))/\B.xs.length=A.xs.length+1/\B.rts.length=A.rts.length+1:=by
 simp only[Gap,aA,Obg]at h;obtain⟨sl,h1,h⟩:=h;have hs:=dH hR h1 hl;split at h
 case h_2=>cases h
 rename_i r k m q ho;simp only[aA,aH,aO,Obm,Obg]at h;obtain⟨_,h2,h⟩:=h;split at h2
 case isFalse=>cases h2
 rename_i hb;simp only[Pbn]at hb;split at h
 case h_2=>cases h
 rename_i X m' v' qc;simp only[aF,Option.some.injEq]at h;subst h;have a7:=hs.own;unfold rX at a7;rw[ho]at a7;obtain⟨h3,h4,h5,h6,h7⟩:=a7;have mS:=hZ.rt (l:=A.rts) rfl;rw[hZ.get (l:=A.xs) rfl];refine⟨by rw[Aah mS];exact (Aa3 h7).symm,?_,by simp,by simp⟩;refine h6.move (fun b hb _=>⟨mY hb,rfl⟩) [] d (by omega) fun b t hb=>⟨?_,rfl⟩
 rw[Jam hk mS hb,Bav];rfl
theorem Sa5 {A B:Take}{z:Nat}{l:aM}(h:(Das A z l).eval σ=some B):TLe A B:=by
 unfold Das at h;split at h
 ·simp only[aA,Obg,aF,Option.some.injEq]at h
  obtain⟨_,-,rfl⟩:=h;exact⟨⟨_,rfl⟩,fun _ h=>h,fun _ h=>Obi _ h,⟨[],by simp⟩,⟨[],by simp⟩⟩
 ·simp only[aF,Option.some.injEq]at h
  subst h;exact⟨⟨_,rfl⟩,fun _ h=>h,fun _ h=>h,⟨[],by simp⟩,⟨[],by simp⟩⟩
 ·cases h
theorem Qax (hR:R E.ntmps F σ ρ a w G)(hk:Haz s Z){A B:Take}{z:Nat}{l:aM}(h:(Das A z l).eval σ=some B)(hZ:TLe B Z){v:Value}(hl:aB σ ρ G w l v) :
  v.oneCell'=true/\Wad (fun b=>(callG ρ G w s Z).own b=.frz) w v ((aI.v A.xs.length).val (Z.xs.map (·.val ρ)))/\B.xs.length=A.xs.length+1/\B.rts=A.rts:=by
 unfold Das at h;split at h
 ·rename_i deps nq x
  simp only[aA,Obg,aF,Option.some.injEq]at h;obtain⟨ds,h1,rfl⟩:=h;simp only[aB]at hl;obtain⟨h3,h4,h5⟩:=iC h1;rw[hZ.get (l:=A.xs) rfl];refine⟨hl.1.1,?_,by simp,rfl⟩
  rcases hl.2 h3 with h6|⟨ad,row,h6,h7,h8⟩
  ·exact .inl h6
  ·exact .inr ⟨ad,row,h6,h7,(h8.drop hR h5).callG hk fun z hz=>hZ.deps _ (Obk _ hz)⟩
 ·simp only[aF,Option.some.injEq]at h
  subst h;simp only[aB]at hl;rw[hZ.get (l:=A.xs) rfl];exact⟨by rw[hl];rfl,.inl ⟨hl,_,rfl⟩,by simp,rfl⟩
 ·cases h
theorem Mar (hk:Haz s Z){b c off:Nat}(h:(b,c,off)∈Z.ptrs):(callG ρ G w s Z).bx b=(G.bx c).add off/\b<s.boxes.length:=by
 obtain⟨h1,h2⟩:=hk.ptrs b c off h;refine⟨?_,h1⟩;simp only[callG,h2]
theorem Aag:∀ {cs:List LS} {ls:List aM} {acc l:List (Nat×Nat×Nat)},iP cs ls acc=some l->∀ z∈acc,z∈l
 | [], [], acc, l, h, z, hz => by
  simp only[iP,Option.some.injEq]at h;rw[<- h];exact hz
 |[],_::_,acc,l,h,z,hz=>by simp[iP]at h
 |c::cs,[],acc,l,h,z,hz=>by cases c<;>simp[iP]at h
 | c :: cs, x :: ls, acc, l, h, z, hz => by
  cases c<;>cases x<;>simp only[iP,reduceCtorEq]at h
  exact Aag h z (Obq _ hz)
theorem Aaf (hk:Haz s Z):∀ {cs:List LS} {ls:List aM} {acc l:List (Nat×Nat×Nat)},iP cs ls acc=some l->(∀ z∈l,z∈Z.ptrs)->∀ {vs:List Value},aG σ ρ G w ls vs->xQ (callG ρ G w s Z) s.boxes.length cs vs
 |[],[],acc,l,h,_,vs,hl=>by simpa[xQ,aG] using hl
 |[],_::_,acc,l,h,_,_,_=>by simp[iP]at h
 |c::cs,[],acc,l,h,_,_,_=>by cases c<;>simp[iP]at h
 | c :: cs, x :: ls, acc, l, h, hz, vs, hl => by
  cases c<;>cases x<;>simp only[iP,reduceCtorEq]at h
  rename_i b c off;simp only[aG]at hl;obtain⟨u,us,rfl,h1,h2⟩:=hl;obtain⟨h3,h4⟩:=Mar (ρ:=ρ) (G:=G) (w:=w) hk (hz _ (Aag h _ Obu));simp only[aB]at h1;exact⟨u,us,rfl,⟨by rw[h3];exact h1.1,h4⟩,Aaf hk h hz h2⟩
theorem Nac {A B:Take}{t:LS}{l:aM}(h:(pJ g A t l).eval σ=some B):TLe A B:=by
 unfold pJ at h;split at h
 ·simp only[Ja3,aA,Obg,aF,Option.some.injEq]at h
  obtain⟨x,-,rfl⟩:=h;exact⟨⟨_,rfl⟩,fun _ h=>h,fun _ h=>h,⟨[],by simp⟩,⟨[],by simp⟩⟩
 ·exact Ja7 h
 ·exact Sa7 h
 ·exact Ja4 h
 ·simp only[aF,Option.some.injEq]at h
  subst h;exact⟨⟨[],by simp⟩,fun _ h=>Obi _ h,fun _ h=>h,⟨[],by simp⟩,⟨[],by simp⟩⟩
 ·split at h
  ·rw[fZ]at h
   split at h
   ·simp only[aF,Option.some.injEq]at h
    subst h;exact⟨⟨[],by simp⟩,fun _ h=>Obi _ h,fun _ h=>h,⟨[],by simp⟩,⟨[],by simp⟩⟩
   ·cases h
  ·cases h
 ·exact Sa5 h
 ·cases h
theorem Ja5 (hR:R E.ntmps F σ ρ a w G)(hg:gOn ρ g=true)(ba:aJ cf ρ g nv Z.lets)(hk:Haz s Z){A B:Take}{t:LS}{l:aM}(h:(pJ g A t l).eval σ=some B)(hZ:TLe B Z){v:Value}(hl:aB σ ρ G w l v) :
  jM (callG ρ G w s Z) w (Z.xs.map (·.val ρ)) s.boxes.length A.xs.length A.rts.length t v/\B.xs.length=A.xs.length+t.cnt/\B.rts.length=A.rts.length+t.rcnt:=by
 unfold pJ at h;split at h
 ·obtain⟨x,rfl,h1⟩:=Qaw hg h hl
  refine⟨?_,by simp[LS.cnt],rfl⟩;simp only[jM];rw[hZ.get (l:=A.xs) rfl];exact h1
 ·obtain⟨h1,h2,h3,h4⟩:=Gaq hR hg ba hk h hZ hl
  exact⟨⟨h1,h2⟩,h3,by rw[h4];rfl⟩
 ·obtain⟨h1,h2,h3,h4⟩:=Qaz hR hk h hZ hl
  exact⟨⟨h1,h2⟩,h3,h4⟩
 ·obtain⟨h1,h2,h3,h4⟩:=Gan hR hk h hZ hl
  exact⟨⟨h1,h2⟩,h3,h4⟩
 ·rename_i b c off
  simp only[aF,Option.some.injEq]at h;subst h;obtain⟨h1,h2⟩:=Mar (ρ:=ρ) (G:=G) (w:=w) hk (hZ.ptrs _ (Obk _ (List.mem_singleton.2 rfl)));simp only[aB]at hl;exact⟨⟨by rw[h1];exact hl.1,h2⟩,rfl,rfl⟩
 ·rename_i f cs f' ls
  split at h
  ·rename_i l' hc
   rw[fZ]at h;split at h
   ·rename_i hf
    simp only[Ob4]at hf;subst hf;simp only[aF,Option.some.injEq]at h;subst h;simp only[aB]at hl;obtain⟨vs,h1,h2⟩:=hl;exact⟨⟨vs,h1,Aaf hk hc (fun z hz=>hZ.ptrs _ (Obk _ hz)) h2⟩,rfl,rfl⟩
   ·cases h
  ·cases h
 ·obtain⟨h1,h2,h3,h4⟩:=Qax hR hk h hZ hl
  exact⟨⟨h1,h2⟩,h3,by rw[h4];rfl⟩
 ·cases h
theorem pI:∀ {ss:List LS} {ls:List aM} {A B:Take},(bX g A ss ls).eval σ=some B->TLe A B
 | [], [], A, B, h => by
  simp only[bX,aF,Option.some.injEq]at h;subst h;exact .refl _
 |[],_::_,A,B,h=>by simp[bX,bJ]at h
 |_::_,[],A,B,h=>by simp[bX,bJ]at h
 | t :: ss, l :: ls, A, B, h => by
  simp only[bX,aA,Obg]at h;obtain⟨C,h1,h2⟩:=h;exact (Nac h1).trans (pI h2)
theorem wD (hR:R E.ntmps F σ ρ a w G)(hg:gOn ρ g=true)(ba:aJ cf ρ g nv Z.lets)(hk:Haz s Z):∀ {ss:List LS} {ls:List aM} {A B:Take},(bX g A ss ls).eval σ=some B->TLe B Z->∀ {vs:List Value},aG σ ρ G w ls vs ->
  pG (callG ρ G w s Z) w (Z.xs.map (·.val ρ)) s.boxes.length A.xs.length A.rts.length ss vs/\B.xs.length=A.xs.length+Sas ss/\B.rts.length=A.rts.length+iY ss
 | [], [], A, B, h, _, vs, hl => by
  simp only[bX,aF,Option.some.injEq]at h;subst h;simp only[aG]at hl;exact⟨hl,rfl,rfl⟩
 |[],_::_,A,B,h,_,_,_=>by simp[bX,bJ]at h
 |_::_,[],A,B,h,_,_,_=>by simp[bX,bJ]at h
 | t :: ss, l :: ls, A, B, h, hZ, vs, hl => by
  simp only[bX,aA,Obg]at h;obtain⟨C,h1,h2⟩:=h;simp only[aG]at hl;obtain⟨u,us,rfl,h3,h4⟩:=hl;obtain⟨h5,h6,h7⟩:=Ja5 hR hg ba hk h1 ((pI h2).trans hZ) h3;obtain⟨h8,h9,b9⟩:=wD hR hg ba hk h2 hZ h4;rw[h6,h7]at h8;exact⟨⟨u,us,rfl,h5,h8⟩,by rw[h9,h6];simp only[Sas];omega,by rw[b9,h7];simp only[iY];omega⟩
theorem Dau:∀ {ps:List (Bool×List LS)} {vs:List SV} {A B:Take},(dX g A ps vs).eval σ=some B->TLe A B
 | [], [], A, B, h => by
  simp only[dX,aF,Option.some.injEq]at h;subst h;exact .refl _
 |[],_::_,A,B,h=>by simp[dX,bJ]at h
 |_::_,[],A,B,h=>by simp[dX,bJ]at h
 | (ag, ss) :: ps, v :: vs, A, B, h => by
  simp only[dX,aA,Obg]at h;obtain⟨ls,-,C,h1,h2⟩:=h;exact (pI h1).trans (Dau h2)
def pF (σ:Nat->Option aN)(ρ:List D)(G:Gh)(w:World):List SV->List Value->Prop
 |[],us=>us=[]
 |v::vs,us=>∃ u cA,us=u::cA/\bR σ ρ G w v u/\pF σ ρ G w vs cA
theorem Gaa {ag:Bool}{v:SV}{ls:List aM}{u:Value}(h:iX ag v=some ls)(hv:bR σ ρ G w v u):if ag=true then u=.agg u.cells.toList.toArray else u.cells.toList=[u]:=by
 unfold iX at h;split at h
 ·cases ag with
  |true=>cases h
  | false =>
   rw[aB.cells hv];simp
 ·cases ag with
  |false=>cases h
  | true =>
   obtain⟨us,rfl,-⟩:=hv;simp[Value.cells]
 ·cases h
theorem Bau (hR:R E.ntmps F σ ρ a w G)(hg:gOn ρ g=true)(ba:aJ cf ρ g nv Z.lets)(hk:Haz s Z):∀ {ps:List (Bool×List LS)} {vs:List SV} {A B:Take},(dX g A ps vs).eval σ=some B->TLe B Z->∀ {us:List Value},pF σ ρ G w vs us ->
  kZ (callG ρ G w s Z) w (Z.xs.map (·.val ρ)) s.boxes.length A.xs.length A.rts.length ps us/\B.xs.length=A.xs.length+Har ps/\B.rts.length=A.rts.length+iK ps
 | [], [], A, B, h, _, us, hl => by
  simp only[dX,aF,Option.some.injEq]at h;subst h;simp only[pF]at hl;exact⟨hl,rfl,rfl⟩
 |[],_::_,A,B,h,_,_,_=>by simp[dX,bJ]at h
 |_::_,[],A,B,h,_,_,_=>by simp[dX,bJ]at h
 | (ag, ss) :: ps, v :: vs, A, B, h, hZ, us, hl => by
  simp only[dX,aA,Obg,aS]at h;obtain⟨ls,h0,C,h1,h2⟩:=h;obtain⟨u,cA,rfl,h3,h4⟩:=hl;obtain⟨h5,h6,h7⟩:=wD hR hg ba hk h1 ((Dau h2).trans hZ) (gQ h0 h3);obtain⟨h8,h9,b9⟩:=Bau hR hg ba hk h2 hZ h4;rw[h6,h7]at h8;exact⟨⟨u,cA,_,rfl,h5,Gaa h0 h3,h8⟩,by rw[h9,h6];simp only[Har];omega,by rw[b9,h7];simp only[iK];omega⟩
end
theorem qU {wr:Bool}{ptrs:List (Nat×Nat×Nat)}:∀ {bs:List (Bool×List (BS×BO))} {b j c off:Nat} {cs:List (BS×BO)},bs[j]?=some (wr,cs)->mJ (b+j) ptrs=some (c,off)->c∈gY wr ptrs b bs
 |[],b,j,c,off,cs,h,_=>by simp at h
 | (ro, ds) :: bs, b, 0, c, off, cs, h, hp => by
  simp only[Obn,Option.some.injEq,Prod.mk.injEq]at h;rw[Pbb]at hp;simp only[gY,h.1,hp];simp
 | (ro, ds) :: bs, b, j + 1, c, off, cs, h, hp => by
  have:=qU (bs:=bs) (b:=b+1) (j:=j) (by simpa using h) (by rw[show b+1+j=b+(j+1) by omega];exact hp);simp only[gY]
  cases (ro==wr) with
  |false=>exact this
  | true =>
   simp only[cond_true];split
   ·exact Obq _ this
   ·exact this
theorem yH {ptrs:List (Nat×Nat×Nat)}{c:Nat}:∀ {bs:List (Bool×List (BS×BO))} {b:Nat},c∉gY false ptrs b bs->Nau ptrs c b bs=none
 |[],b,h=>rfl
 | (ro, cs) :: bs, b, h => by
  simp only[gY]at h;simp only[Nau]
  cases ro with
  |true=>simp only[if_true];exact yH h
  | false =>
   simp only[Obp,if_false];have e:(false==false)=true:=rfl;rw[e,cond_true]at h;split
   ·rename_i c' off hp
    rw[hp]at h;simp only[Pbg,not_or]at h;rw[if_neg fun e=>h.1 e.symm];exact yH h.2
   ·rename_i hp
    rw[hp]at h;exact yH h
theorem oK {ptrs:List (Nat×Nat×Nat)}{c off:Nat}{cs:List (BS×BO)}:∀ {bs:List (Bool×List (BS×BO))} {b j:Nat},distinct (gY false ptrs b bs)=true->bs[j]?=some (false,cs)->mJ (b+j) ptrs=some (c,off)->Nau ptrs c b bs=some (b+j)
 |[],b,j,_,h,_=>by simp at h
 | (ro, ds) :: bs, b, 0, hd, h, hp => by
  simp only[Obn,Option.some.injEq,Prod.mk.injEq]at h;rw[Pbb]at hp;simp only[Nau,h.1,hp];simp
 | (ro, ds) :: bs, b, j + 1, hd, h, hp => by
  have ph:mJ (b+1+j) ptrs=some (c,off):=by rw[show b+1+j=b+(j+1) by omega];exact hp
  have hm:=qU (wr:=false) (bs:=bs) (b:=b+1) (j:=j) (by simpa using h) ph;simp only[gY]at hd;simp only[Nau]
  cases ro with
  | true =>
   have e:(true==false)=false:=rfl;rw[e,cond_false]at hd;simp only[if_true];rw[oK hd (by simpa using h) ph,show b+1+j=b+(j+1) by omega]
  | false =>
   have e:(false==false)=true:=rfl;rw[e,cond_true]at hd;simp only[Obp,if_false];split
   ·rename_i c' jx hp2
    rw[hp2]at hd;simp only[distinct,Obh,Ob6]at hd;have cn:c'≠c:=fun e=>by rw[<- e,<- kS,hd.1]at hm;cases hm
    rw[if_neg cn,oK hd.2 (by simpa using h) ph,show b+1+j=b+(j+1) by omega]
   ·rename_i hp2
    rw[hp2]at hd;rw[oK hd (by simpa using h) ph,show b+1+j=b+(j+1) by omega]
theorem Ca5 {ptrs:List (Nat×Nat×Nat)}{c x:Nat}:∀ {bs:List (Bool×List (BS×BO))} {b:Nat},Nau ptrs c b bs=some x->∃ j cs off,x=b+j/\bs[j]?=some (false,cs)/\mJ x ptrs=some (c,off)
 |[],b,h=>by simp[Nau]at h
 | (ro, cs) :: bs, b, h => by
  simp only[Nau]at h
  have next:Nau ptrs c (b+1) bs=some x->∃ j nc off,x=b+j/\((ro,cs)::bs)[j]?=some (false,nc)/\mJ x ptrs=some (c,off):=by
   intro h;obtain⟨j,nc,off,h1,h2,h3⟩:=Ca5 h;exact⟨j+1,nc,off,by omega,by simpa using h2,h3⟩
  split at h
  ·exact next h
  ·rename_i pT
   split at h
   ·rename_i c' off hp
    split at h
    ·rename_i e
     subst e;obtain rfl:=Option.some.inj h;refine⟨0,cs,off,rfl,?_,hp⟩
     cases ro with
     |true=>exact absurd rfl pT
     |false=>rfl
    ·exact next h
   ·exact next h
section
variable {E:Env} {F:bC} {σ:Nat->Option aN} {ρ:List D} {a:Act} {w:World} {G:Gh} {g:Option (aI×Bool)} {cf:Nat->List D->Option (List D)} {s:Sig} {Z:Take} {nv:Nat}
theorem Naa {A B:Take}{d:Nat}{l:aM}(h:(rH A d l).eval σ=some B):B.ptrs=A.ptrs:=by
 unfold rH at h;split at h
 ·simp only[aA,aO,Obm]at h
  split at h
  ·simp only[aA,aH,Obg,aF,Option.some.injEq]at h
   obtain⟨_,-,rfl⟩:=h;rfl
  ·cases h
 ·simp only[aF,Option.some.injEq]at h
  subst h;rfl
 ·cases h
theorem nH {A B:Take}{t:BS}{l:aM}(h:(xX A t l).eval σ=some B):(∃ x,t=.sc/\l=.sc x/\B={ A with xs:=A.xs++[x] })\/(∃ nie,t=.fz nie/\(oH A nie l).eval σ=some B)\/(∃ d,t=.ow d/\(rH A d l).eval σ=some B)\/(t=.ot/\Kaf l=true/\B=A):=by
 cases t with
 | sc =>
  cases l<;>simp only[xX,bJ,reduceCtorEq]at h
  simp only[aF,Option.some.injEq]at h;exact .inl ⟨_,rfl,rfl,h.symm⟩
 | fz nie =>
  have h':(oH A nie l).eval σ=some B:=by cases l<;>exact h
  exact .inr (.inl ⟨nie,rfl,h'⟩)
 | ow d =>
  have h':(rH A d l).eval σ=some B:=by cases l<;>exact h
  exact .inr (.inr (.inl ⟨d,rfl,h'⟩))
 | ot =>
  have h':(bif Kaf l then RdM.ret A else .no:RdM Take).eval σ=some B:=by cases l<;>exact h
  rw[fZ]at h';split at h'
  ·rename_i hb
   simp only[aF,Option.some.injEq]at h';exact .inr (.inr (.inr ⟨rfl,hb,h'.symm⟩))
  ·cases h'
theorem Nad {A B:Take}{t:BS}{l:aM}(h:(xX A t l).eval σ=some B):TLe A B/\B.ptrs=A.ptrs:=by
 have hinv:=nH h;clear h
 rcases hinv with ⟨x,rfl,rfl,rfl⟩|⟨nie,rfl,h⟩|⟨d,rfl,h⟩|⟨rfl,-,rfl⟩
 ·exact⟨⟨⟨_,rfl⟩,fun _ h=>h,fun _ h=>h,⟨[],by simp⟩,⟨[],by simp⟩⟩,rfl⟩
 ·refine⟨Ja7 h,?_⟩
  unfold oH at h;simp only[aA,Obg,aF,Option.some.injEq]at h;obtain⟨s,h1,rfl⟩:=h;rfl
 ·exact⟨Ja4 h,Naa h⟩
 ·exact⟨.refl _,rfl⟩
theorem Ja8 (hR:R E.ntmps F σ ρ a w G)(hg:gOn ρ g=true)(ba:aJ cf ρ g nv Z.lets)(hk:Haz s Z){A B:Take}{t:BS}{l:aM}(h:(xX A t l).eval σ=some B)(hZ:TLe B Z){v:Value}(hl:aB σ ρ G w l v) :
  uQ (callG ρ G w s Z) w (Z.xs.map (·.val ρ)) A.xs.length A.rts.length t v/\B.xs.length=A.xs.length+t.cnt/\B.rts.length=A.rts.length+t.rcnt:=by
 have hinv:=nH h;clear h
 rcases hinv with ⟨x,rfl,rfl,rfl⟩|⟨nie,rfl,h⟩|⟨d,rfl,h⟩|⟨rfl,hs,rfl⟩
 ·refine⟨?_,by simp[BS.cnt],rfl⟩
  simp only[uQ];rw[hZ.get (l:=A.xs) rfl];simpa[aB] using hl
 ·obtain⟨h1,h2,h3,h4⟩:=Gaq hR hg ba hk h hZ hl
  exact⟨⟨h1,h2⟩,h3,by rw[h4];rfl⟩
 ·obtain⟨h1,h2,h3,h4⟩:=Gan hR hk h hZ hl
  exact⟨⟨h1,h2⟩,h3,h4⟩
 ·exact⟨hl.one hs,rfl,rfl⟩
theorem nG:∀ {ss:List (BS×BO)} {ls:List aM} {A B:Take},(dK A ss ls).eval σ=some B->TLe A B/\B.ptrs=A.ptrs
 | [], ls, A, B, h => by
  simp only[dK,aF,Option.some.injEq]at h;subst h;exact⟨.refl _,rfl⟩
 |_::_,[],A,B,h=>by simp[dK,bJ]at h
 | (t, o) :: ss, l :: ls, A, B, h => by
  simp only[dK,aA,Obg]at h;obtain⟨C,h1,h2⟩:=h;obtain⟨h3,h4⟩:=Nad h1;obtain⟨h5,h6⟩:=nG h2;exact⟨h3.trans h5,h6.trans h4⟩
theorem xV (hR:R E.ntmps F σ ρ a w G)(hg:gOn ρ g=true)(ba:aJ cf ρ g nv Z.lets)(hk:Haz s Z){ad:Addr}:∀ {ss:List (BS×BO)} {ls:List aM} {A B:Take} {off:Nat},(dK A ss ls).eval σ=some B->TLe B Z ->
  (∀ j l,ls[j]?=some l->∃ v,w.cell? (ad.add (off+j))=some v/\w.frozen? (ad.add (off+j))=false/\aB σ ρ G w l v) ->
  Daj (callG ρ G w s Z) w (Z.xs.map (·.val ρ)) ad off A.xs.length A.rts.length ss/\B.xs.length=A.xs.length+Wal ss/\B.rts.length=A.rts.length+sU ss
 | [], ls, A, B, off, h, _, _ => by
  simp only[dK,aF,Option.some.injEq]at h;subst h;exact⟨trivial,rfl,rfl⟩
 |_::_,[],A,B,off,h,_,_=>by simp[dK,bJ]at h
 | (t, o) :: ss, l :: ls, A, B, off, h, hZ, hl => by
  simp only[dK,aA,Obg]at h;obtain⟨C,h1,h2⟩:=h;obtain⟨v,h3,h4,h5⟩:=hl 0 l rfl;obtain⟨h6,h7,h8⟩:=Ja8 hR hg ba hk h1 ((nG h2).1.trans hZ) h5
  obtain⟨h9,b9,da⟩:=xV hR hg ba hk (off:=off+1) h2 hZ fun j l' hj=>by
   have:=hl (j+1) l' (by simpa using hj);rwa[show off+(j+1)=off+1+j by omega]at this
  rw[h7,h8]at h9;exact⟨⟨⟨v,h3,h4,h6⟩,h9⟩,by rw[b9,h7];simp only[Wal];omega,by rw[da,h8];simp only[sU];omega⟩
def Mbg (σ:Nat->Option aN)(ptrs:List (Nat×Nat×Nat))(b:Nat)(ro:Bool)(cs:List (BS×BO)):Prop :=
 ∃ c off kc ls,mJ b ptrs=some (c,off)/\σ (kB c)=some (.box kc ls)/\off+cs.length<=ls.length/\(ro=false->kc=false/\0<cs.length)
theorem jN {ptrs:List (Nat×Nat×Nat)}:∀ {bs:List (Bool×List (BS×BO))} {b:Nat} {A B:Take},(dV ptrs A b bs).eval σ=some B->TLe A B/\B.ptrs=A.ptrs/\∀ j ro cs,bs[j]?=some (ro,cs)->Mbg σ ptrs (b+j) ro cs
 | [], b, A, B, h => by
  simp only[dV,aF,Option.some.injEq]at h;subst h;exact⟨.refl _,rfl,by simp⟩
 | (ro, cs) :: bs, b, A, B, h => by
  simp only[dV]at h;split at h
  case h_2=>cases h
  rename_i c off hp;simp only[aA,aO,Obm]at h;split at h
  case h_2=>cases h
  rename_i kc ls ny;simp only[aA,aH,Obg]at h;obtain⟨_,h0,C,h1,h2⟩:=h;split at h0
  case isFalse=>cases h0
  rename_i hb;simp only[Obh,Pbo,Ob6,Pbn]at hb;obtain⟨h3,h4⟩:=nG h1;obtain⟨h5,h6,h7⟩:=jN h2;refine⟨h3.trans h5,h6.trans h4,fun j ro2 cs2 hj=>?_⟩
  cases j with
  | zero =>
   simp only[Obn,Option.some.injEq,Prod.mk.injEq]at hj;obtain⟨rfl,rfl⟩:=hj;refine⟨c,off,kc,ls,hp,ny,hb.2,fun e=>?_⟩
   rcases hb.1 with h8|h8
   ·rw[e]at h8;cases h8.1
   ·refine⟨h8.1.2,?_⟩
    cases cs with
    |nil=>have:=h8.2;simp at this
    |cons=>simp
  | succ j =>
   rw[show b+(j+1)=b+1+j by omega];exact h7 j ro2 cs2 (by simpa using hj)
theorem Qal {ad:Addr}{n:Nat}(h:ad.spot=none):(ad.add n).spot=none:=by
 unfold Addr.add;split
 ·exact h
 ·rfl
theorem Oav {ad:Addr}{n:Nat}:(ad.add n).off=ad.off+n:=by
 unfold Addr.add;split
 ·rename_i h;rw[h];rfl
 ·rfl
theorem xY (hR:R E.ntmps F σ ρ a w G)(hg:gOn ρ g=true)(ba:aJ cf ρ g nv Z.lets)(hk:Haz s Z):∀ {bs:List (Bool×List (BS×BO))} {b:Nat} {A B:Take},(∀ j x,bs[j]?=some x->s.boxes[b+j]?=some x)->(dV Z.ptrs A b bs).eval σ=some B->TLe B Z ->
  Dak (callG ρ G w s Z) w (Z.xs.map (·.val ρ)) b A.xs.length A.rts.length bs/\B.xs.length=A.xs.length+Wam bs
 | [], b, A, B, _, h, _ => by
  simp only[dV,aF,Option.some.injEq]at h;subst h;exact⟨trivial,rfl⟩
 | (ro, cs) :: bs, b, A, B, hbs, h, hZ => by
  simp only[dV]at h;split at h
  case h_2=>cases h
  rename_i c off hp;simp only[aA,aO,Obm]at h;split at h
  case h_2=>cases h
  rename_i kc ls ny;simp only[aA,aH,Obg]at h;obtain⟨_,h0,C,h1,h2⟩:=h;split at h0
  case isFalse=>cases h0
  rename_i hb;simp only[Obh,Pbo,Ob6,Pbn]at hb;have hCZ:=(jN h2).1.trans hZ;obtain⟨h3,h4,h5⟩:=hR.box ny;have fv:(callG ρ G w s Z).bx b=(G.bx c).add off:=by simp only[callG,hp]
  have u6:=hbs 0 _ rfl;rw[Pbb]at u6;have ph:mJ (0+b) Z.ptrs=some (c,off):=by rw[Ob9];exact hp
  obtain⟨h6,h7,h8⟩:=xV hR hg ba hk (ad:=(G.bx c).add off) (off:=0) h1 hCZ fun j l hj=>by
   rw[Pbk]at hj;obtain⟨v,h9,b9,da⟩:=h5 _ l hj;exact⟨v,by rw[add_add,Ob9];exact h9,by rw[add_add,Ob9];exact b9,da⟩
  obtain⟨h9,b9⟩:=xY hR hg ba hk (b:=b+1) (fun j x hj=>by
   rw[show b+1+j=b+(j+1) by omega];exact hbs (j+1) x (by simpa using hj)) h2 hZ
  rw[h7,h8]at h9;refine⟨⟨by rw[fv];exact Qal h3,?_,by rw[fv];exact h6,h9⟩,by rw[b9,h7];simp only[Wam];omega⟩;rw[fv,add_block]
  cases ro with
  | true =>
   simp only[if_true];have hm:=qU (wr:=true) u6 ph
   cases kc with
   |true=>simp only[callG,h4,if_true]
   | false =>
    simp only[Obp,if_false]at h4;simp only[callG,h4];rw[yH fun ni=>mK hk.ro ni hm]
  | false =>
   simp only[Obp,if_false]
   rcases hb.1 with da|da
   ·cases da.1
   ·have pT:kc=false:=da.1.2
    subst pT;simp only[Obp,if_false]at h4;simp only[callG,h4];rw[oK hk.wr u6 ph];simp
theorem Zaf (hR:R E.ntmps F σ ρ a w G)(hg:gOn ρ g=true)(ba:aJ cf ρ g nv Z.lets)(hk:Haz s Z){T:Take}{vs:List SV}(h1:(dX g Take.empty s.params vs).eval σ=some T)(h2:(dV T.ptrs T 0 s.boxes).eval σ=some Z)
  {us:List Value} (hu:pF σ ρ G w vs us):Wak s us w (callG ρ G w s Z) (Z.xs.map (·.val ρ)):=by
 obtain⟨h3,h4,h5⟩:=jN h2;obtain⟨h6,h7,h8⟩:=Bau hR hg ba hk h1 h3 hu;rw[<- h4]at h2;obtain⟨h9,b9⟩:=xY hR hg ba hk (by simp) h2 (.refl _);have e1:Take.empty.xs.length=0:=rfl;have e2:Take.empty.rts.length=0:=rfl;rw[e1,e2]at h6;rw[e1,Ob9]at h7;rw[e2,Ob9]at h8;rw[h7,h8]at h9;refine⟨h6,h9,by rw[Ob7,b9,h7],fun b hb=>mY (hR.frame.fresh b hb),fun b j hb hj=>?_⟩
 cases e:G.own b with
 | slc r p =>
  exfalso;simp only[callG,e]at hj
  have:∀ (rts:List RT) (ν:Nat),kP ρ (Z.deps.map (·.1)) ν rts r p≠.box j:=by
   intro rts
   induction rts with
   |nil=>intro ν h;simp only[kP]at h;split at h<;>cases h
   | cons x t ih =>
    intro ν h
    cases x with
    |nil=>exact ih _ h
    | own s d =>
     simp only[kP]at h;split at h
     ·split at h<;>cases h
     ·exact ih _ h
    | mu s d q X =>
     simp only[kP]at h;split at h
     ·split at h
      ·split at h<;>cases h
      ·cases h
     ·exact ih _ h
  exact this _ _ hj
 | box c =>
  simp only[callG,e]at hj;split at hj
  case h_2=>cases hj
  rename_i x hx;split at hj
  case isFalse=>cases hj
  rename_i oT
  injection hj with hj
  subst hj;obtain⟨j,cs,off,e1,e2,e3⟩:=Ca5 hx;rw[Ob9]at e1;subst e1;refine⟨(List.getElem?_eq_some_iff.1 e2).1,?_⟩;rw[h4]at e3;have:=h5 x _ _ e2;rw[Ob9]at this;obtain⟨c',jx,kc,ls,da,fk,gS,jv⟩:=this;rw[e3]at da;obtain⟨rfl,rfl⟩:c=c'/\off=jx:=by simpa using da
  obtain⟨-,-,k8⟩:=hR.box fk;have ar:0<ls.length:=by have:=(jv rfl).2;omega
  obtain⟨v,lv,-,-⟩:=k8 0 _ (Obl ar);rw[oT];unfold World.cell? at lv;rw[add_block]at lv
  cases hh:w.heap[(G.bx c).block]? with
  |none=>rw[hh]at lv;cases lv
  | some gz =>
   rw[hh]at lv
   cases gz with
   |cells c0 e fr=>exact⟨c0,e,fr,rfl⟩
   |_=>simp at lv
 |frz=>rw[mY e]at hj;cases hj
 |oth=>simp only[callG,e]at hj;cases hj
end
def Ia8:Ow->Bool
 |.slc _ _=>true
 |_=>false
def lI (r:Nat):List RT->Option RT
 |[]=>none
 |.nil::t=>lI r t
 |.own s d::t=>if r=s then some (.own s d) else lI r t
 |.mu s d q X::t=>if r=s then some (.mu s d q X) else lI r t
def xB (ρ:List D)(rts:List RT):Ow->Ow
 | .slc r p => match lI r rts with
  |some (.own _ _)=>.frz
  | some (.mu _ d q _) => match strip (aZ ρ q) p with
   |some t=>if t.length<d then .slc r p else .frz
   |none=>.slc r p
  |_=>.slc r p
 |o=>o
def qW (gd:Bool)(ρ:List D)(nr nb nbx:Nat)(mus:List RT):Ow->Ow
 | .slc t p => if t % 2 = 0 then (if gd = true then .frz else if t / 2 < bN then .slc (nr + t / 2) p else .oth) else (match mus[t / 2]? with
  |some (.mu r _ q _)=>.slc r (aZ ρ q++p)
  |_=>.oth)
 |.box β=>if β=nbx then .box nb else .oth
 |o=>o
def eF (gd:Bool)(ρ:List D)(G:Gh)(w:World)(s:Sig)(Z:Take)(nr nb:Nat)(own':Nat->Ow)(hs:List Value)(adn:Addr):Gh:={
 own:=fun b=>if b<w.heap.size/\Ia8 ((callG ρ G w s Z).own b)=false then xB ρ Z.rts (G.own b) else qW gd ρ nr nb s.boxes.length (Z.rts.filter tT) (own' b)
 hdr:=fun r=>if nr<=r/\r<nr+bN then hs.getD (r-nr) undef else G.hdr r
 bx:=fun b=>if b=nb then adn else G.bx b }
theorem pY {r:Nat}:∀ {rts:List RT},r∉bS rts->lI r rts=none
 |[],_=>rfl
 |.nil::t,h=>pY (rts:=t) h
 | .own s d :: t, h => by
  simp only[bS,Pbg,not_or]at h;simp only[lI,if_neg h.1];exact pY h.2
 | .mu s d q X :: t, h => by
  simp only[bS,Pbg,not_or]at h;simp only[lI,if_neg h.1];exact pY h.2
theorem pX {r:Nat}:∀ {rts:List RT},r∈bS rts->∃ (ν:Nat) (x:RT),rts[ν]?=some x/\lI r rts=some x/\((∃ d,x=.own r d)\/∃ d q X,x=.mu r d q X)
 |[],h=>by simp[bS]at h
 | .nil :: t, h => by
  obtain⟨ν,x,h1,h2⟩:=pX (rts:=t) h;exact⟨ν+1,x,by simpa using h1,h2⟩
 | .own s d :: t, h => by
  by_cases e:r=s
  ·subst e
   exact⟨0,_,rfl,by simp[lI],.inl ⟨d,rfl⟩⟩
  ·simp only[bS,Pbg,e,false_or]at h
   obtain⟨ν,x,h1,h2⟩:=pX h;exact⟨ν+1,x,by simpa using h1,by simp only[lI,if_neg e];exact h2⟩
 | .mu s d q X :: t, h => by
  by_cases e:r=s
  ·subst e
   exact⟨0,_,rfl,by simp[lI],.inr ⟨d,q,X,rfl⟩⟩
  ·simp only[bS,Pbg,e,false_or]at h
   obtain⟨ν,x,h1,h2⟩:=pX h;exact⟨ν+1,x,by simpa using h1,by simp only[lI,if_neg e];exact h2⟩
theorem yM {r d:Nat}{q:List (aI×Nat×Nat)}{X:aI}:∀ {rts:List RT} {ν:Nat},distinct (bS rts)=true->rts[ν]?=some (.mu r d q X)->lI r rts=some (.mu r d q X)
 |[],ν,_,h=>by simp at h
 | x :: t, 0, hd, h => by
  simp only[Obn,Option.some.injEq]at h;subst h;simp[lI]
 | x :: t, ν + 1, hd, h => by
  simp only[Pbi]at h;have hm:=pW (.inr ⟨d,q,X,h⟩)
  cases x with
  |nil=>exact yM (rts:=t) hd h
  | own s d' =>
   simp only[bS,distinct,Obh,Ob6]at hd;have cn:r≠s:=fun e=>by rw[e,<- kS,hd.1]at hm;cases hm
   simp only[lI,if_neg cn];exact yM hd.2 h
  | mu s d' q' X' =>
   simp only[bS,distinct,Obh,Ob6]at hd;have cn:r≠s:=fun e=>by rw[e,<- kS,hd.1]at hm;cases hm
   simp only[lI,if_neg cn];exact yM hd.2 h
theorem Ca6 {ρ:List D}{dr:List Nat}{r:Nat}{p:List Nat}:∀ (rts:List RT) (ν:Nat),(∃ ν' t,kP ρ dr ν rts r p=.slc ν' t)\/kP ρ dr ν rts r p=.frz\/kP ρ dr ν rts r p=.oth
 | [], ν => by
  simp only[kP];split
  ·exact .inr (.inl rfl)
  ·exact .inr (.inr rfl)
 |.nil::t,ν=>Ca6 t (ν+1)
 | .own s d :: t, ν => by
  simp only[kP];split
  ·split
   ·exact .inl ⟨_,_,rfl⟩
   ·exact .inr (.inl rfl)
  ·exact Ca6 t (ν+1)
 | .mu s d q X :: t, ν => by
  simp only[kP];split
  ·split
   ·split
    ·exact .inl ⟨_,_,rfl⟩
    ·exact .inr (.inl rfl)
   ·exact .inr (.inr rfl)
  ·exact Ca6 t (ν+1)
theorem Rp.remap {own own':Nat->Ow}{w:World}{r r':Nat}{q q':List Nat}{p:List Nat}{m:Nat}{v:Value}{d:D}(h:Rp own w r p m v d)
  (hs:∀ b t,own b=.slc r (q++t)->own' b=.slc r' (q'++t)):∀ s,p=q++s->((∀ b,own b=.frz->b<w.heap.size->own' b=.frz)\/mU m d=true)->Rp own' w r' (q'++s) m v d:=by
 induction h with
 |sc h=>exact fun _ _ _=>.sc h
 |hole v h1=>exact fun _ _ _=>.hole v h1
 | fz h =>
  intro s _ hz
  rcases hz with hz|hz
  ·exact .fz (h.mono' fun b hb ar=>⟨hz b hb ar,rfl⟩)
  ·cases h with
   |sc h=>exact .sc h
   |hole _ h1=>exact .hole _ h1
   |rows=>simp[mU,D.isSc]at hz
 | sl A a n c sz rs vs hn hc hA dm a7 bc b5 ih =>
  rename_i p m;intro s hp hz;refine .sl A a n c sz rs vs hn hc hA dm (fun e=>?_) bc (fun i row hi j d hj=>?_)
  ·obtain⟨h1,h2,h3⟩:=a7 e
   rw[hp]at h2;exact⟨h1,hs _ _ h2,h3⟩
  ·have:=ih i row hi j d hj (s++[i*sz+j]) (by rw[hp,Obs]) (hz.imp id fun hz=>by
    simp only[mU,Ob8]at hz;exact hz row (Obw hi) d (Obw hj))
   rwa[<- Obs]at this
theorem Rp.updM {own own':Nat->Ow}{w w':World}{r M:Nat}{full:List Nat}{y:D}{u:Value}
  (hz:∀ b,own b=.frz->b<w.heap.size->own' b=.frz/\w'.heap[b]?=w.heap[b]?)
  (hs:∀ b t,own b=.slc r t->¬ full <+: t->own' b=.slc r t/\w'.heap[b]?=w.heap[b]?)
  (hM:full.length<=M) (ga:Rp own' w' r full (M-full.length) u y) :
  ∀ (p q:List Nat) (v:Value) (x x':D),full=q++p->Rp own w r q (M-q.length) v x->wB own w r q v p u->Upd p x y x'->Rp own' w' r q (M-q.length) v x'
 | [], q, v, x, x', hf, hx, hn, hu => by
  cases hu;simp only[wB]at hn;rw[Pbc]at hf;subst hf hn;exact ga
 | k :: p, q, v, x, x', hf, hx, hn, hu => by
  generalize hk:k::p=kp at hu
  cases hu with
  |here=>cases hk
  | down sz rs i j row z z' y p' hi hj hu =>
   obtain⟨rfl,rfl⟩:=List.cons.inj hk;have hlen:full.length=q.length+(p.length+1):=by rw[hf];simp
   obtain⟨m,hm⟩:∃ m,M-q.length=m+1:=⟨M-q.length-1,by omega⟩;rw[hm]at hx;rw[hm];obtain⟨A,a,n,c,vs,rfl,h1,h2,h3,h4,h5,h6,h7⟩:=hx.sl_inv;have oh:i<rs.length:=(List.getElem?_eq_some_iff.1 hi).1
   have hA:A=some a:=by
    rcases h3 with e|⟨e,e'⟩
    ·exact e
    ·omega
   subst hA;obtain⟨h8,h9,b9⟩:=h5 rfl;obtain⟨a',n',c',u',e1,e2,e3,e4⟩:=hn;obtain⟨rfl,rfl,rfl⟩:a=a'/\n=n'/\c=c':=by injection e1 with a b c;exact⟨Option.some.inj a,b,c⟩
   have gm:=h6 i row hi j z hj;rw[gm]at e3;obtain rfl:=Option.some.inj e3
   have hq:¬ full <+: q:=by
    intro e;have:=e.length_le;omega
   obtain⟨fg,b8⟩:=hs _ _ h9 hq;have ja:∀ k,w'.cell? (a.add k)=w.cell? (a.add k):=fun k=>eQ (w:=w) (w':=w') (by rw[add_block];exact b8)
   have oR:∀ k,w'.frozen? (a.add k)=w.frozen? (a.add k):=fun k=>jJ (w:=w) (w':=w') (by rw[add_block];exact b8)
   have b5:=Rp.updM hz hs hM ga p (q++[i*sz+j]) (vs i j) z z' (by rw[hf];simp) (by
    have:=h7 i row hi j z hj;rwa[show M-(q++[i*sz+j]).length=m by simp;omega]) e4 hu
   rw[show M-(q++[i*sz+j]).length=m by simp;omega]at b5;have jm:row.length=sz:=h4 row (Obw hi);have ar:j<sz:=by rw[<- jm];exact (List.getElem?_eq_some_iff.1 hj).1
   have lA:∀ i' eC,(rs.set i (row.set j z'))[i']?=some eC->∀ j' d,eC[j']?=some d->(i'=i/\j'=j/\d=z')\/(∃ row0,rs[i']?=some row0/\row0[j']?=some d/\¬ (i'=i/\j'=j)):=by
    intro i' eC fh j' d gq;rw[Qba]at fh;by_cases pt:i=i'
    ·subst pt
     rw[if_pos rfl,if_pos oh]at fh;obtain rfl:=Option.some.inj fh;rw[Qba]at gq;by_cases tg:j=j'
     ·subst tg
      rw[if_pos rfl,if_pos (by omega)]at gq;exact .inl ⟨rfl,rfl,(Option.some.inj gq).symm⟩
     ·rw[if_neg tg]at gq
      exact .inr ⟨row,hi,gq,fun e=>tg e.2.symm⟩
    ·rw[if_neg pt]at fh
     exact .inr ⟨eC,fh,gq,fun e=>pt e.1.symm⟩
   refine .sl _ a n c sz _ vs (by simpa using h1) h2 (.inl rfl) (fun eC hr=>?_) (fun _=>⟨h8,fg,fun k hk=>?_⟩) (fun i' eC fh j' d gq=>?_) (fun i' eC fh j' d gq=>?_)
   ·rcases List.mem_or_eq_of_mem_set hr with hr|rfl
    ·exact h4 _ hr
    ·simpa using jm
   ·rw[ja,oR]
    exact b9 k hk
   ·rw[ja]
    rcases lA i' eC fh j' d gq with ⟨rfl,rfl,rfl⟩|⟨row0,da,fk,-⟩
    ·exact gm
    ·exact h6 _ _ da _ _ fk
   ·rcases lA i' eC fh j' d gq with ⟨rfl,rfl,rfl⟩|⟨row0,da,fk,cn⟩
    ·exact b5
    ·have:=(h7 _ _ da _ _ fk).mono' (own':=own') (w':=w') (r':=r) (q:=q++[i'*sz+j']) (q':=q++[i'*sz+j']) hz [] (by simp) fun b t hb=>by
      have hnp:¬ full <+: q++[i'*sz+j']++t:=by
       intro e;rw[hf,Obs,List.prefix_append_right_inj]at e;have e':=(List.cons_prefix_cons.1 e).1
       have tW:j'<sz:=by
        have:=(List.getElem?_eq_some_iff.1 fk).1;rw[h4 row0 (Obw da)]at this;exact this
       obtain⟨k8,lv⟩:=Za3 tW ar e'.symm;exact cn ⟨k8,lv⟩
      exact hs b _ hb hnp
     simpa using this
theorem Rp.deeper {own:Nat->Ow}{w:World}{r:Nat}{p:List Nat}{m:Nat}{v:Value}{d:D}(h:Rp own w r p m v d):∀ {m':Nat},m<=m'->mU m d=true->Rp own w r p m' v d:=by
 induction h with
 |sc h=>exact fun _ _=>.sc h
 |hole v h1=>exact fun _ _=>.hole v h1
 | fz h =>
  intro m' _ hz
  cases h with
  |sc h=>exact .sc h
  |hole _ h1=>exact .hole _ h1
  |rows=>simp[mU,D.isSc]at hz
 | sl A a n c sz rs vs hn hc hA dm a7 bc b5 ih =>
  rename_i p m;intro m' hm hz;obtain⟨k,rfl⟩:∃ k,m'=k+1:=⟨m'-1,by omega⟩;refine .sl A a n c sz rs vs hn hc hA dm a7 bc (fun i row hi j d hj=>ih i row hi j d hj (by omega) ?_);simp only[mU,Ob8]at hz;exact hz row (Obw hi) d (Obw hj)
section
variable {E:Env} {F:bC} {σ:Nat->Option aN} {ρ:List D} {a:Act} {w w':World} {G G':Gh} {s:Sig} {Z:Take} {gd:Bool} {nr nb:Nat} {hs:List Value} {adn:Addr}
structure Ma2 (E:Env) (F:bC) (σ:Nat->Option aN) (ρ:List D) (a:Act) (w:World) (G:Gh) (s:Sig) (Z:Take) (G':Gh) (w':World):Prop where
 hR:R E.ntmps F σ ρ a w G
 hk:Haz s Z
 hF:kU (mZ s (callG ρ G w s Z) w) G' w'
 bx:∀ j ro cs,s.boxes[j]?=some (ro,cs)->Mbg σ Z.ptrs j ro cs
 deps:∀ z∈Z.deps,Ia1 σ z.1 z.2
 mus:∀ (ν r d:Nat) (q:List (aI×Nat×Nat)) (X:aI),Z.rts[ν]?=some (RT.mu r d q X)->∃ m aE u,σ (kR r)=some (.root X m aE .live)/\q.length+d<=m/\wB G.own w r [] (G.hdr r) (aZ ρ q) u
 owns:∀ (ν r d:Nat),Z.rts[ν]?=some (RT.own r d)->∃ x m aE,σ (kR r)=some (.root x m aE .live)
variable (B:Ma2 E F σ ρ a w G s Z G' w')
include B
theorem Ma2.keep {b:Nat}(hb:b<w.heap.size)(h:(callG ρ G w s Z).own b=.frz\/(callG ρ G w s Z).own b=.oth):w'.heap[b]?=w.heap[b]?/\G'.own b=(callG ρ G w s Z).own b:=B.hF.keep b hb h
theorem Ma2.lt {b r:Nat}{p:List Nat}(h:G.own b=.slc r p):b<w.heap.size:=by
 rcases Ob2 b w.heap.size with h1|h1
 ·exact h1
 ·rw[B.hR.frame.fresh b h1]at h;cases h
theorem Ma2.own_eq {b:Nat}(hb:b<w.heap.size)(h:Ia8 ((callG ρ G w s Z).own b)=false):(eF gd ρ G w s Z nr nb G'.own hs adn).own b=xB ρ Z.rts (G.own b):=by
 simp only[eF];rw[if_pos ⟨hb,h⟩]
theorem Ma2.frz {b:Nat}(h:G.own b=.frz)(hb:b<w.heap.size):(eF gd ρ G w s Z nr nb G'.own hs adn).own b=.frz/\w'.heap[b]?=w.heap[b]?:=by
 have h1:(callG ρ G w s Z).own b=.frz:=mY h;refine⟨?_,(B.keep hb (.inl h1)).1⟩;rw[B.own_eq hb (by rw[h1];rfl),h];rfl
theorem Ma2.other {b r:Nat}{p:List Nat}(hr:r∉bS Z.rts)(h:G.own b=.slc r p):(eF gd ρ G w s Z nr nb G'.own hs adn).own b=.slc r p/\w'.heap[b]?=w.heap[b]?:=by
 have hb:=B.lt h
 have h1:(callG ρ G w s Z).own b=if r∈Z.deps.map (·.1) then .frz else .oth:=by
  simp only[callG,h];exact oL hr
 have h2:(callG ρ G w s Z).own b=.frz\/(callG ρ G w s Z).own b=.oth:=by
  rw[h1];split
  ·exact .inl rfl
  ·exact .inr rfl
 refine⟨?_,(B.keep hb h2).1⟩;rw[B.own_eq hb (by rcases h2 with e|e<;>rw[e]<;>rfl),h];simp only[xB,pY hr]
theorem Ma2.oth {b:Nat}(h:G.own b=.oth)(hb:b<w.heap.size):(eF gd ρ G w s Z nr nb G'.own hs adn).own b=.oth/\w'.heap[b]?=w.heap[b]?:=by
 have h1:(callG ρ G w s Z).own b=.oth:=by simp only[callG,h]
 refine⟨?_,(B.keep hb (.inr h1)).1⟩;rw[B.own_eq hb (by rw[h1];rfl),h];rfl
theorem Ma2.boxes {b c:Nat}(h:G.own b=.box c)(hb:b<w.heap.size):(eF gd ρ G w s Z nr nb G'.own hs adn).own b=.box c /\
  (w'.heap[b]?=w.heap[b]?\/∃ j cs off ls c0 c1 e fr,s.boxes[j]?=some (false,cs)/\mJ j Z.ptrs=some (c,off)/\b=(G.bx c).block/\σ (kB c)=some (.box false ls)/\off+cs.length<=ls.length /\
   w.heap[b]?=some (.cells c0 e fr)/\w'.heap[b]?=some (.cells c1 e fr)/\c1.size=c0.size/\∀ k,k<(G.bx c).off+off\/(G.bx c).off+off+cs.length<=k->c1[k]?=c0[k]?):=by
 have key:((callG ρ G w s Z).own b=.oth)\/∃ j,Nau Z.ptrs c 0 s.boxes=some j/\b=(G.bx c).block/\(callG ρ G w s Z).own b=.box j:=by
  simp only[callG,h];split
  ·rename_i j hj
   split
   ·rename_i oT
    exact .inr ⟨j,hj,oT,rfl⟩
   ·exact .inl rfl
  ·exact .inl rfl
 rcases key with h1|⟨j,hj,oT,h1⟩
 ·refine⟨?_,.inl (B.keep hb (.inr h1)).1⟩
  rw[B.own_eq hb (by rw[h1];rfl),h];rfl
 ·refine⟨by rw[B.own_eq hb (by rw[h1];rfl),h];rfl,.inr ?_⟩
  obtain⟨j',cs,off,e1,e2,e3⟩:=Ca5 hj;rw[Ob9]at e1;subst e1;obtain⟨c',jx,kc,ls,h2,h3,h4,h5⟩:=B.bx j false cs e2;rw[e3]at h2;obtain⟨rfl,rfl⟩:c=c'/\off=jx:=by simpa using h2
  obtain rfl:=(h5 rfl).1;obtain⟨-,c0,c1,e,fr,h6,h7,h8,h9⟩:=B.hF.boxes b j hb h1;refine⟨j,cs,off,ls,c0,c1,e,fr,e2,e3,oT,h3,h4,h6,h7,h8,fun k hk=>h9 k ?_⟩
  have e4:(mZ s (callG ρ G w s Z) w).rng j=((G.bx c).off+off,(G.bx c).off+off+cs.length):=by
   simp only[mZ,callG,e3,Oav,Obo,e2,Pb4]
  rw[e4];exact hk
theorem Ma2.allow {b:Nat}(h:G'.own b=.frz):allow (eF gd ρ G w s Z nr nb G'.own hs adn) Z.deps b:=by
 by_cases hb:b<w.heap.size
 ·cases gi:Ia8 ((callG ρ G w s Z).own b) with
  | true =>
   refine .inl ?_;simp only[eF];rw[if_neg (by rw[gi];simp),h];rfl
  | false =>
   have a7:=B.own_eq (gd:=gd) (nr:=nr) (nb:=nb) (hs:=hs) (adn:=adn) hb gi
   cases hg:G.own b with
   |frz=>exact .inl (B.frz hg hb).1
   | oth =>
    have h1:(callG ρ G w s Z).own b=.oth:=by simp only[callG,hg]
    have:=(B.keep hb (.inr h1)).2;rw[h,h1]at this;cases this
   | box c =>
    have oT:=(B.boxes (gd:=gd) (nr:=nr) (nb:=nb) (hs:=hs) (adn:=adn) hg hb);exfalso
    have key:((callG ρ G w s Z).own b=.oth)\/∃ j,(callG ρ G w s Z).own b=.box j:=by
     simp only[callG,hg];split
     ·split
      ·exact .inr ⟨_,rfl⟩
      ·exact .inl rfl
     ·exact .inl rfl
    rcases key with h1|⟨j,h1⟩
    ·have:=(B.keep hb (.inr h1)).2
     rw[h,h1]at this;cases this
    ·have:=(B.hF.boxes b j hb h1).1
     rw[h]at this;cases this
   | slc r p =>
    by_cases hr:r∈bS Z.rts
    ·refine .inl ?_
     rw[a7,hg];obtain⟨ν,x,h1,h2,h3⟩:=pX hr;simp only[xB,h2]
     rcases h3 with ⟨d,rfl⟩|⟨d,q,X,rfl⟩
     ·rfl
     ·have h4:=Jam (ρ:=ρ) (G:=G) (w:=w) B.hk h1 hg
      dsimp only;rw[h4]at gi
      cases ba:strip (aZ ρ q) p with
      | some t' =>
       rw[ba]at gi;dsimp only at gi ⊢;split at gi
       ·cases gi
       ·rename_i hle
        rw[if_neg hle]
      | none =>
       have h5:(callG ρ G w s Z).own b=.oth:=by rw[h4,ba]
       have:=(B.keep hb (.inr h5)).2;rw[h,h5]at this;cases this
    ·have h1:(callG ρ G w s Z).own b=if r∈Z.deps.map (·.1) then .frz else .oth:=by
      simp only[callG,hg];exact oL hr
     by_cases hd:r∈Z.deps.map (·.1)
     ·obtain⟨z,hz,e⟩:=List.mem_map.1 hd
      refine .inr ⟨r,z.2,p,by rw[<- e];exact hz,(B.other hr hg).1⟩
     ·rw[if_neg hd]at h1
      have:=(B.keep hb (.inr h1)).2;rw[h,h1]at this;cases this
 ·refine .inl ?_
  simp only[eF];rw[if_neg (by simp[hb]),h];rfl
theorem Ma2.rd {v:Value}{d:D}(h:Rd (fun b=>G'.own b=.frz) w' v d):Rd (Go.Proofs.YtcbkmmhkccnamaaGreat.Rf.allow (eF gd ρ G w s Z nr nb G'.own hs adn) Z.deps) w' v d :=
 h.mono fun b hb=>⟨B.allow hb,rfl⟩
theorem Ma2.slc {b t:Nat}{p:List Nat}(h:G'.own b=.slc t p):(eF gd ρ G w s Z nr nb G'.own hs adn).own b=qW gd ρ nr nb s.boxes.length (Z.rts.filter tT) (.slc t p):=by
 simp only[eF];rw[if_neg,h]
 rintro⟨hb,gi⟩
 cases hg:(callG ρ G w s Z).own b with
 |frz=>have:=(B.keep hb (.inl hg)).2;rw[h,hg]at this;cases this
 |oth=>have:=(B.keep hb (.inr hg)).2;rw[h,hg]at this;cases this
 |slc _ _=>rw[hg]at gi;cases gi
 |box j=>have:=(B.hF.boxes b j hb hg).1;rw[h]at this;cases this
theorem Ma2.give {q m:Nat}{v:Value}{d:D}(h:Rp G'.own w' (2*q) [] m v d)(eR:Z.deps=[]\/mU m d=true)(fq:gd=false)(hq:q<bN):Rp (eF gd ρ G w s Z nr nb G'.own hs adn).own w' (nr+q) [] m v d:=by
 have:=h.remap (own':=(eF gd ρ G w s Z nr nb G'.own hs adn).own) (r':=nr+q) (q:=[]) (q':=[]) (fun b t hb=>by
  rw[B.slc hb,fq];simp only[qW,Pbp]
  rw[if_pos (by omega),if_neg (by simp),show 2*q / 2=q by omega,if_pos hq]) [] rfl (eR.imp (fun e b hb _=>by
   rcases B.allow (gd:=gd) (nr:=nr) (nb:=nb) (hs:=hs) (adn:=adn) hb with h1|⟨r,k,p,h1,-⟩
   ·exact h1
   ·rw[e]at h1;simp at h1) id)
 simpa using this
theorem Ma2.giveGd {q m:Nat}{v:Value}{d:D}(h:Rp G'.own w' (2*q) [] m v d)(fq:gd=true):Rd (Go.Proofs.YtcbkmmhkccnamaaGreat.Rf.allow (eF gd ρ G w s Z nr nb G'.own hs adn) Z.deps) w' v d:=by
 refine h.rd.mono fun b hb=>⟨?_,rfl⟩
 rcases hb with hb|⟨p,hb⟩
 ·exact B.allow hb
 ·refine .inl ?_
  rw[B.slc hb,fq];simp only[qW];rw[if_pos (by omega),if_pos trivial]
theorem Ma2.mu {ν j r d m aE:Nat}{q:List (aI×Nat×Nat)}{X y X' X0:aI}(hm:σ (kR r)=some (.root X0 m aE .live))(hdm:q.length+d=m\/mU d (y.val ρ)=true)(sX:Z.rts[ν]?=some (.mu r d q X))(hj:(Z.rts.filter tT)[j]?=some (.mu r d q X)){u:Value}(hu:∀ u',wB G.own w r [] (G.hdr r) (aZ ρ q) u'->u=u')
  (h:Rp G'.own w' (2*j+1) [] d u (y.val ρ)) (eR:Z.deps=[]\/mU d (y.val ρ)=true) (mw:Upd (aZ ρ q) (X.val ρ) (y.val ρ) (X'.val ρ)) :
  Rp (eF gd ρ G w s Z nr nb G'.own hs adn).own w' r [] m (G.hdr r) (X'.val ρ):=by
 obtain⟨m',ui,u',hσ,hle,hn⟩:=B.mus ν r d q X sX;rw[hm]at hσ
 obtain⟨rfl,rfl,rfl⟩:X0=X/\m=m'/\aE=ui:=by
  have:=Option.some.inj hσ
  injection this with e1 e2 e3
  exact⟨e1,e2,e3⟩
 obtain rfl:=hu u' hn;have hlen:(aZ ρ q).length=q.length:=by simp[aZ]
 have ga:Rp (eF gd ρ G w s Z nr nb G'.own hs adn).own w' r (aZ ρ q) d u (y.val ρ):=by
  have:=h.remap (own':=(eF gd ρ G w s Z nr nb G'.own hs adn).own) (r':=r) (q:=[]) (q':=aZ ρ q) (fun b t hb=>by
   rw[B.slc hb];simp only[qW,Pbp]
   rw[if_neg (by omega),show (2*j+1) / 2=j by omega,hj]) [] rfl (eR.imp (fun e b hb _=>by
    rcases B.allow (gd:=gd) (nr:=nr) (nb:=nb) (hs:=hs) (adn:=adn) hb with h1|⟨r,k,p,h1,-⟩
    ·exact h1
    ·rw[e]at h1;simp at h1) id)
  simpa using this
 have zb:Rp (eF gd ρ G w s Z nr nb G'.own hs adn).own w' r (aZ ρ q) (m-(aZ ρ q).length) u (y.val ρ):=by
  rcases hdm with e|e
  ·rwa[hlen,show m-q.length=d by omega]
  ·exact ga.deeper (by omega) e
 have eA:=B.hR.root hm;simp only[bK]at eA
 have:=Rp.updM (own:=G.own) (own':=(eF gd ρ G w s Z nr nb G'.own hs adn).own) (w:=w) (w':=w') (r:=r) (M:=m) (full:=aZ ρ q) (y:=y.val ρ) (u:=u)
  (fun b hb ar=>B.frz hb ar) (fun b t hb hnp=>?_) (by omega) zb (aZ ρ q) [] (G.hdr r) (X0.val ρ) (X'.val ρ) (by simp) (by simpa using eA) hn mw
 ·simpa using this
 ·have ar:=B.lt hb
  have h1:=Jam (ρ:=ρ) (G:=G) (w:=w) B.hk sX hb
  have ba:strip (aZ ρ q) t=none:=by
   cases e:strip (aZ ρ q) t with
   |none=>rfl
   |some t'=>exact absurd ⟨t',(Gat e).symm⟩ hnp
  rw[ba]at h1;refine⟨?_,(B.keep ar (.inr h1)).1⟩;rw[B.own_eq ar (by rw[h1];rfl),hb];simp only[xB,yM B.hk.dist sX,ba]
theorem Ma2.frame:kU F (eF gd ρ G w s Z nr nb G'.own hs adn) w':=by
 have dm:w.heap.size<=w'.heap.size:=B.hF.size;refine⟨B.hF.os.trans B.hR.frame.os,B.hF.tape.trans B.hR.frame.tape,B.hF.output.trans B.hR.frame.output,Nat.le_trans B.hR.frame.size dm,fun b hb ho=>?_,fun b j hb ho=>?_,fun b hb=>?_⟩
 ·obtain⟨h1,h2⟩:=B.hR.frame.keep b hb ho
  have ar:b<w.heap.size:=Nat.lt_of_lt_of_le hb B.hR.frame.size
  rcases ho with ho|ho
  ·rw[ho]at h2 ⊢
   obtain⟨h3,h4⟩:=B.frz (gd:=gd) (nr:=nr) (nb:=nb) (hs:=hs) (adn:=adn) h2 ar;exact⟨h4.trans h1,h3⟩
  ·rw[ho]at h2 ⊢
   obtain⟨h3,h4⟩:=B.oth (gd:=gd) (nr:=nr) (nb:=nb) (hs:=hs) (adn:=adn) h2 ar;exact⟨h4.trans h1,h3⟩
 ·obtain⟨h1,c0,c1,e,fr,h2,h3,h4,h5⟩:=B.hR.frame.boxes b j hb ho
  have ar:b<w.heap.size:=Nat.lt_of_lt_of_le hb B.hR.frame.size;obtain⟨h6,h7⟩:=B.boxes (gd:=gd) (nr:=nr) (nb:=nb) (hs:=hs) (adn:=adn) h1 ar;refine⟨h6,?_⟩
  rcases h7 with h7|⟨i,cs,off,ls,d0,d1,e',fr',h8,h9,b9,da,fk,gS,jv,k8,lv⟩
  ·exact⟨c0,c1,e,fr,h2,h7.trans h3,h4,h5⟩
  ·rw[h3]at gS
   obtain⟨rfl,rfl,rfl⟩:c1=d0/\e=e'/\fr=fr':=by
    have:=Option.some.inj gS
    injection this with e1 e2 e3
    exact⟨e1,e2,e3⟩
   have qj:=B.hR.rng j ls da (by rw[<- b9];exact hb) (by rw[<- b9];exact ho);refine⟨c0,d1,e,fr,h2,jv,k8.trans h4,fun k hk=>?_⟩;rw[qj]at hk;dsimp only at hk;rw[lv k (by omega),h5 k (by rw[qj];exact hk)]
 ·simp only[eF]
  rw[if_neg (by omega),B.hF.fresh b hb];rfl
end
end Go.Proofs.YtcbkmmhkccnamaaGreat.Rf
