import Derived.Test.YtgpamlpecmldfaaGreatRf2
import Derived.Laws.IdiomCopy
import Derived.Deep.Upon
set_option linter.all false
open Array renaming getElem?_eq_getElem → Sbv, getElem?_toList → Tbo, length_toList → Ubf, getElem?_push → Ubu, ext' → Vbo
open Bool renaming and_eq_true → Rbu, not_eq_true' → Sbl
open List renaming getElem?_eq_some_iff → Rbw, mem_append_left → Rbx, mem_singleton → Rby, getElem?_eq_getElem → Rbz, mem_append_right → Rb0, getElem?_cons_zero → Rb2, append_assoc → Rb3, mem_cons → Rb4, getD_eq_getElem?_getD → Rb5, getElem?_append_right → Rb6, mem_cons_of_mem → Rb7, length_append → Rb8, getElem?_append_left → Rb9, mem_of_getElem? → Sba, mem_append → Sbd, mem_cons_self → Sbe, map_cons → Sbk, length_cons → Sbm, all_eq_true → Sbp, length_map → Sbr, append_nil → Sbu, map_nil → Sbw, getElem?_map → Sbx, getElem?_drop → Sby, getElem?_take → Sb0, getElem?_cons_succ → Sb4, mem_map → Sb7, nil_append → Tba, mem_iff_getElem? → Tbe, mem_map_of_mem → Tbi, length_singleton → Tbl, eq_nil_of_length_eq_zero → Tbm, getElem?_set → Tb0, any_eq_false → Tb1, cons_append → Tb6, foldl_cons → Uba, singleton_append → Ubd, mem_or_eq_of_mem_set → Ubq, isEmpty_iff → Ub5, ext_getElem? → Ub9, getElem?_range → Vbd
open List.cons renaming injEq → Tbj
open Nat renaming add_assoc → Sbf, le_refl → Sbg, lt_or_ge → Sbh, beq_eq → Sbq, mul_le_mul_right → Sbt, add_zero → Sbz, ble_eq → Tbc, add_mul → Tbd, div_eq_of_lt → Ubn, mul_comm → Ubp, mul_add_div → Ubx
open Option renaming bind_eq_some_iff → Rbt, bind_some → Rb1, map_eq_some_iff → Sbc, map_some → Sb9, isNone_iff_eq_none → Ubi
open Option.some renaming injEq → Rbv, inj → Sbs
open Prod.mk renaming injEq → Sbj, inj → Ubb
namespace Go.Proofs.YtgpamlpecmldfaaGreat.Rf
theorem bC (b:Nat):∀ (vs:List Value) (o:Nat) (w:World) (k:Nat),k≠b->(w.setCells b o vs).heap[k]?=w.heap[k]?
 |[],_,_,_,_=>rfl
 | v :: r, o, w, k, h => by
  rw[World.setCells,bC b r _ _ k h];exact heap_setCell_other w _ k v h
theorem setCells_size (b:Nat):∀ (vs:List Value) (o:Nat) (w:World),(w.setCells b o vs).heap.size=w.heap.size
 |[],_,_=>rfl
 |v::r,o,w=>by rw[World.setCells,setCells_size b r];exact World.size_setCell ..
theorem cB (b:Nat):∀ (vs:List Value) (o:Nat) (w:World),(w.setCells b o vs).os=w.os/\(w.setCells b o vs).tape=w.tape/\(w.setCells b o vs).output=w.output
 |[],_,_=>⟨rfl,rfl,rfl⟩
 |v::r,o,w=>by rw[World.setCells];exact cB b r (o+1) _
theorem zH (b:Nat):∀ (vs:List Value) (o:Nat) (w:World) (c:Array Value) (e:TypeId) (fr:Nat×Nat),w.heap[b]?=some (.cells c e fr) ->
  ∃ c',(w.setCells b o vs).heap[b]?=some (.cells c' e fr)/\c'.size=c.size/\∀ k,k<o\/o+vs.length<=k->c'[k]?=c[k]?
 |[],o,w,c,e,fr,h=>⟨c,h,rfl,fun _ _=>rfl⟩
 | v :: r, o, w, c, e, fr, h => by
  have h1:(w.setCell ⟨b,o,none⟩ v).heap[b]?=some (.cells (c.setIfInBounds o v) e fr):=by
   simp[World.setCell,Array.getElem?_modify,h]
  obtain⟨c',h2,h3,h4⟩:=zH b r (o+1) _ _ e fr h1;refine⟨c',h2,by simpa using h3,fun k hk=>?_⟩;simp only[Sbm]at hk;rw[h4 k (by omega),Array.getElem?_setIfInBounds_ne (by omega)]
section
variable {P:Program} {E:Env} {F:bE} {σ:Nat->Option aP} {ρ:List D} {a:Act} {w w':World} {G:Gh} {g:Option (aJ×Bool)} {o:Oper} {cf:Nat->List D->Option (List D)} {Q:Exit->Act->World->Prop} {next:Act->World->Prop}
theorem Cav {t:TypeId}{i:TI}{info:TypeInfo}{u:TypeDesc}(f:bY P t i info u){b off:Nat}{v:Value}(hl:v.cells.toList.length=i.size)
  (hc:∀ j,j<i.size->∃ u,w.cell? ⟨b,off+j,none⟩=some u) (hf:∀ j,j<i.size->w.frozen? ⟨b,off+j,none⟩=false) (h1:∀ x∈v.cells.toList,x.oneCell'=true) :
  (storeVar t ⟨b,off,none⟩ v).run P w=.ok () (w.setCells b off v.cells.toList):=by
 unfold storeVar;rw[Sem.run_bind,f.sizeOf];simp only[Result.andThen_ok];have:¬ v.cells.size≠i.size:=by simpa using hl
 rw[if_neg this]
 have h2:=run_storeCells_cells (P:=P) b off v.cells.toList 0 w (fun j hj=>by
  obtain⟨u,hu⟩:=hc j (by omega);rw[Sbz,hu];rfl) (fun j hj=>by rw[Sbz];exact hf j (by omega)) h1
 rw[Sbz]at h2;simpa using h2
theorem aB.one {l:aO}{v:Value}(h:aB σ ρ G w l v)(hs:Law l=true):v.oneCell'=true:=by
 cases l with
 |dead=>simpa[aB] using h
 |sc x=>simp only[aB]at h;exact h.one
 |su g x=>simp[Law]at hs
 |ex r=>simp only[aB]at h;exact h.2.2
 |sn deps p nie x=>simp only[aB]at h;exact h.1.1
 |px b off=>simp only[aB]at h;rw[h.1];rfl
 |pe l sz i off=>simp only[aB]at h;obtain⟨_,_,_,_,_,_,_,_,_,e⟩:=h;rw[e];rfl
 |rp deps sz x=>simp only[aB]at h;exact h.1.1
 |pn=>simp only[aB]at h;rw[h];rfl
 |clo f fW=>simp only[aB]at h;obtain⟨_,e,_⟩:=h;rw[e];rfl
theorem aG.ones {ls:List aO}{vs:List Value}(h:aG σ ρ G w ls vs)(hs:ls.all Law=true):∀ v∈vs,v.oneCell'=true:=by
 intro v hv;obtain⟨i,hi⟩:=Tbe.1 hv
 have aw:i<ls.length:=by
  rw[<- h.len];exact (Rbw.1 hi).1
 have hl:ls[i]?=some ls[i]:=Rbz aw;obtain⟨v',h1,h2⟩:=h.get hl;rw[hi]at h1;obtain rfl:=Sbs h1;rw[Sbp]at hs;exact h2.one (hs _ (Sba hl))
theorem uJ {v:Value}(h:v.oneCell'=true):v.cells=#[v]:=by cases v<;>first|rfl|(simp[Value.oneCell']at h)
theorem aB.cells {l:aO}{v:Value}(h:aB σ ρ G w l v):v.cells=#[v]:=by
 by_cases hs:Law l=true
 ·exact uJ (h.one hs)
 ·cases l<;>first|(simp[Law]at hs;done)|skip
  simp only[aB]at h
  rcases h.1 with h1|⟨rfl,-⟩
  ·exact uJ h1.one
  ·rfl
theorem gT {agg:Bool}{sv:SV}{ls:List aO}{v:Value}(h:jF agg sv=some ls)(hv:bV σ ρ G w sv v):aG σ ρ G w ls v.cells.toList:=by
 unfold jF at h;split at h
 ·rename_i l
  cases agg with
  |true=>cases h
  | false =>
   obtain rfl:=Sbs h;rw[aB.cells hv];simp only[aG];exact⟨v,[],rfl,hv,rfl⟩
 ·rename_i ms
  cases agg with
  |false=>cases h
  | true =>
   obtain rfl:=Sbs h;obtain⟨vs,rfl,h1⟩:=hv;simpa[Value.cells] using h1
 ·cases h
def pushB (w:World)(c:Array Value)(e:TypeId):World:={ w with heap:=w.heap.push (.cells c e (0,0)) }
theorem kI {c:Array Value}{e:TypeId}{b:Nat}(h:b≠w.heap.size):(pushB w c e).heap[b]?=w.heap[b]?:=by
 unfold pushB;rw[Ubu,if_neg h]
theorem Fag {c:Array Value}{e:TypeId}:(pushB w c e).heap[w.heap.size]?=some (.cells c e (0,0)):=by
 unfold pushB;rw[Ubu,if_pos rfl]
theorem jX {c:Array Value}{e:TypeId}:(pushB w c e).heap.size=w.heap.size+1:=by
 unfold pushB;simp
theorem mV {c:Array Value}{e:TypeId}(j:Nat):(pushB w c e).cell? ((⟨w.heap.size,0,none⟩:Addr).add j)=c[j]?:=by
 unfold World.cell?;rw[add_block,Fag];simp[Addr.add];split<;>simp_all
theorem Mal {c:Array Value}{e:TypeId}(j:Nat):fzq (pushB w c e) ((⟨w.heap.size,0,none⟩:Addr).add j)=false:=by
 unfold fzq;rw[add_block,Fag];simp
theorem Pax (w:World)(a b:Addr)(v:Value):fzq (w.setCell a v) b=fzq w b:=by
 simp only[World.setCell,fzq,Array.getElem?_modify];by_cases hb:a.block=b.block
 ·simp only[hb,if_true]
  cases hh:w.heap[b.block]? with
  |none=>simp
  |some x=>cases x<;>simp
 ·simp[hb]
theorem dU {b:Nat}{x:Addr}:∀ {vs:List Value} {o:Nat} {w:World},fzq (w.setCells b o vs) x=fzq w x
 |[],o,w=>rfl
 |v::r,o,w=>by rw[World.setCells,dU (vs:=r),Pax]
theorem Mam {c:Array Value}{e:TypeId}(j:Nat):(pushB w c e).frozen? ((⟨w.heap.size,0,none⟩:Addr).add j)=false:=by
 unfold World.frozen?;rw[add_block,Fag];simp
theorem lC.push (h:lC F G w)(c:Array Value)(e:TypeId){G':Gh}(ho:∀ b,b≠w.heap.size->G'.own b=G.own b\/((∃ r p,G.own b=.slc r p))):lC F G' (pushB w c e):=by
 refine⟨h.os,h.tape,h.output,by rw[jX];have:=h.size;omega,fun b hb hf=>?_,fun b j hb hj=>?_,fun b hb=>?_⟩
 ·have dk:b≠w.heap.size:=by have:=h.size;omega
  obtain⟨h1,h2⟩:=h.keep b hb hf;refine⟨by rw[kI dk];exact h1,?_⟩
  rcases ho b dk with h3|⟨r,p,h3⟩
  ·rw[h3];exact h2
  ·rw[h3]at h2
   rw[<- h2]at hf
   rcases hf with hf|hf<;>cases hf
 ·have dk:b≠w.heap.size:=by have:=h.size;omega
  obtain⟨h1,c0,c1,e',fr,h2,h3,h4⟩:=h.boxes b j hb hj;refine⟨?_,c0,c1,e',fr,h2,by rw[kI dk];exact h3,h4⟩
  rcases ho b dk with h5|⟨r,p,h5⟩
  ·rw[h5];exact h1
  ·rw[h5]at h1;cases h1
 ·rw[jX]at hb
  have dk:b≠w.heap.size:=by omega
  rcases ho b dk with h5|⟨r,p,h5⟩
  ·rw[h5];exact h.fresh b (by omega)
  ·rw[h.fresh b (by omega)]at h5;cases h5
def wV (G:Gh)(w:World)(nb:Nat):Gh:={ G with own:=fun b=>if b=w.heap.size then .box nb else G.own b,bx:=fun b=>if b=nb then ⟨w.heap.size,0,none⟩ else G.bx b }
structure Bah (σ:Nat->Option aP) (nb nr:Nat):Prop where
 nb:σ (kB nb)=none
 nr:∀ j,nr<=j->j<nr+bR->σ (kR j)=none
theorem Iab {e:TypeId}{v:Value}:(newVar e v).run P w=.ok ⟨w.heap.size,0,none⟩ (pushB w v.cells e):=by
 simp[newVar,newRow,pushB]
theorem Bb6 {u0:List (Nat×aP)}{nb:Nat}{ls:List aO}(r:Nat)(h:∀ k c,(k,c)∈u0->∃ t,k=kT t):upds σ (u0++[(kB nb,aP.box false ls)]) (kR r)=σ (kR r):=by
 refine eB _ _ _ fun c hc=>?_
 rcases Sbd.1 hc with hc|hc
 ·obtain⟨t,e⟩:=h _ _ hc
  exact gW e.symm
 ·simp only[Rby,Sbj]at hc
  exact eO hc.1.symm
theorem Gad (o:Oper)(g:Option (aJ×Bool))(v:SV):∀ k c,(k,c)∈dM o g v->∃ t,k=kT t:=by
 intro k c h;unfold dM at h;split at h
 ·rename_i d _
  simp only[Rby,Sbj]at h;exact⟨d,h.1⟩
 ·simp at h
theorem wN {o:Oper}{g:Option (aJ×Bool)}{v:SV}{k:Nat}{c:aP}(h:(k,c)∈dM o g v):∃ d,o.dst=some d/\k=kT d/\c=.slot g v:=by
 unfold dM at h;split at h
 ·rename_i d hd
  simp only[Rby,Sbj]at h;exact⟨d,hd,h.1,h.2⟩
 ·simp at h
theorem Da1 {n:Nat}{gh:Nat->Value}{v:Value}{g:Option (aJ×Bool)}{sv:SV}{u1:List (Nat×aP)}{t:Nat}(h:∀ c,(kT t,c)∉dM o g sv++u1):yP n (a.put o.dst v) gh t=yP n a gh t:=by
 cases e:o.dst with
 |none=>rfl
 | some d =>
  refine Eas _ _ _ _ _ _ fun e'=>h (.slot g sv) ?_
  refine Rbx _ ?_;unfold dM;rw[e,e'];exact Rby.2 rfl
theorem R.newBox (h:R E.ntmps F σ ρ a w G)(hd:eU E.ntmps o){nb:Nat}(hf:σ (kB nb)=none){cs:Array Value}{ty:TypeId}{ls:List aO}(hl:aG σ ρ G w ls cs.toList) :
  R E.ntmps F (upds σ (dM o none (.one (.px nb 0))++[(kB nb,.box false ls)])) ρ (a.put o.dst (.pointer (some ⟨w.heap.size,0,none⟩))) (pushB w cs ty) (wV G w nb):=by
 have dk:∀ b,G.own b≠.frz->b≠w.heap.size:=fun b hb e=>hb (h.frame.fresh b (by omega))
 have lp:=Gad o none (.one (.px nb 0));have hR:∀ r,upds σ (dM o none (.one (.px nb 0))++[(kB nb,aP.box false ls)]) (kR r)=σ (kR r):=fun r=>Bb6 r lp
 have fj:Fr σ G w (upds σ (dM o none (.one (.px nb 0))++[(kB nb,.box false ls)])) (wV G w nb) (pushB w cs ty):=by
  refine⟨fun b hb aw=>?_,fun r k _ hv=>?_,fun r k hk=>hk.same hR,fun r k b p _ _ hb=>?_,fun r k m _ hv=>⟨?_,fun b p hb=>?_⟩,fun _ _=>rfl,fun b hb=>?_,fun k hk=>dP _ _ _ (.inl hk),fun r x m k _ b p hb=>?_⟩
  ·have hn:b≠w.heap.size:=by omega
   exact⟨by simp only[wV,if_neg hn];exact hb,kI hn⟩
  ·obtain⟨x,m,st,e,hs⟩:=hv
   exact⟨x,m,st,by rw[<- hR];exact e,hs⟩
  ·have hn:=dk b (by rw[hb];simp)
   exact⟨.inl (by simp only[wV,if_neg hn];exact hb),kI hn⟩
  ·obtain⟨x,e⟩:=hv
   exact⟨x,by rw[<- hR];exact e⟩
  ·have hn:=dk b (by rw[hb];simp)
   simp only[wV,if_neg hn];exact hb
  ·have:b≠nb:=fun e=>by rw[e,hf]at hb;cases hb
   simp only[wV,if_neg this]
  ·by_cases hn:b=w.heap.size
   ·simp only[wV,if_pos hn]at hb;cases hb
   ·simp only[wV,if_neg hn]at hb;exact hb
 refine h.upd _ fj (by rw[zT];exact h.tmps) (by rw[put_defers];exact h.defers) (h.frame.push cs ty fun b hb=>.inl (by simp only[wV,if_neg hb])) (fun t ht=>Da1 ht) (fun b ro bs hb _=>?_) (fun b bs hb aw ho=>?_) (fun k c hk kk=>?_)
 ·obtain⟨_,h2,_⟩:=h.box hb
  have hn:=dk (G.bx b).block (by rw[h2];split<;>simp);exact⟨by simp only[wV,if_neg hn],kI hn⟩
 ·rcases Sbd.1 hb with hb|hb
  ·obtain⟨t,e⟩:=lp _ _ hb
   exact absurd e.symm kK
  ·simp only[Rby,Sbj]at hb
   obtain rfl:=Aak hb.1;simp only[wV,if_true]at aw;have:=h.frame.size;omega
 ·rcases Sbd.1 hk with hk|hk
  ·obtain⟨d,nh,rfl,rfl⟩:=wN hk
   refine⟨d,rfl,fun _=>?_⟩;rw[nh,mX _ _ _ _ _ (hd d nh) h.tmps];simp only[bV,aB,wV,if_true];exact⟨by simp[Addr.add],dP _ _ _ (.inr ⟨_,Rb0 _ (Rby.2 rfl)⟩)⟩
  ·simp only[Rby,Sbj]at hk
   obtain⟨rfl,rfl⟩:=hk;refine⟨nb,rfl,by simp[wV],by simp[wV],fun j l hj=>?_⟩;obtain⟨v,h1,h2⟩:=hl.get hj;refine⟨v,?_,?_,aB.mono fj l v h2⟩
   ·simp only[wV,if_true]
    rw[mV];simpa using h1
   ·simp only[wV,if_true]
    exact Mam j
theorem Ua7 (hR:R E.ntmps F σ ρ a w G)(hd:eU E.ntmps o)(hti:tQ P E.ti){nv nb nr:Nat}{mv e9:Bool}(hf:Bah σ nb nr){e:TypeId}{x:Operand}(ho:o.op=.box e x){res:bM}
  (h:(nZ E mv e9 nv nb nr g o).eval σ=some res) (hs:aK cf ρ g nv res.lets):fZ P E F σ ρ a w g o Q res.upd:=by
 simp only[nZ,ho,aA,Rbt,tiR,aV]at h;obtain⟨ti,h1,sv,h2,h⟩:=h;split at h
 ·rename_i ls qT
  simp only[aA,Rbt,aI]at h;obtain⟨_,h3,h⟩:=h;split at h3
  ·rename_i hb
   simp only[Rbu]at hb;obtain rfl:=uL hb.1.2;simp only[rO,aC,Rbv]at h;subst h;refine⟨fun hg=>?_,fun hg=>by simp[gOn]at hg⟩;have h4:=gT qT (fJ hR hg h2);refine mD (v:=.pointer (some ⟨w.heap.size,0,none⟩)) (w':=pushB w (a.eval x).cells e) ?_ ⟨_,hR.newBox hd hf.nb h4⟩;unfold execOp;simp only[ho];refine fF ?_;simp only[Instr.box,Sem.run_bind,Iab,Result.andThen_ok,Sem.run_pure]
  ·cases h3
 ·cases h
theorem Jae {v:Value}{c:CK}(h:zeroCell v c=true):aB σ ρ G w (fC c) v:=by
 unfold zeroCell at h;split at h
 ·simp only[Rbu,decide_eq_true_eq]at h
  obtain⟨⟨rfl,rfl⟩,rfl⟩:=h;simp only[fC,aB,aJ.val];exact .int _ _
 ·simp only[Rbu,decide_eq_true_eq]at h
  obtain⟨rfl,rfl⟩:=h;simp only[fC,aB,aJ.val];exact .bool _
 ·rename_i s l
  simp only[Rbu,decide_eq_true_eq]at h;obtain⟨h1,rfl⟩:=h;simp only[fC,aB,aJ.val];have:=Sc.str s.data.toList;rw[h1]at this
  have e:s=⟨[].toArray⟩:=by
   apply ByteArray.ext;apply Vbo;simpa using h1
  rw[e];exact this
 ·simp only[fC,aB]
  refine⟨⟨rfl,by simp⟩,fun _=>⟨?_,fun _ z _=>trivial,trivial⟩⟩;exact .rows none ⟨0,0,none⟩ 0 0 _ [] (fun _ _=>undef) rfl (Sbg _) (.inl rfl) (by simp) (by simp) (by simp)
 ·simp only[fC,aB]
 ·cases h
theorem Cal {v:Value}{c:CK}(h:zeroCell v c=true):v.oneCell'=true:=by
 unfold zeroCell at h;split at h<;>first|rfl|cases h
theorem bY.zeros {t:TypeId}{i:TI}{info:TypeInfo}{u:TypeDesc}(f:bY P t i info u):∃ z,info.zero=some z/\aG σ ρ G w (i.cells.map fC) z.cells.toList /\
  (∀ x∈z.cells.toList,x.oneCell'=true)/\(∀ (j:Nat) (x:Value) (c:CK),z.cells[j]?=some x->i.cells[j]?=some c->zeroCell x c=true):=by
 have h:=f.zero;unfold Qaj at h;split at h
 ·rename_i vs cs heq
  simp only[Rbu,beq_iff_eq,Sbp]at h;obtain⟨h1,h2⟩:=h
  have hz:∀ (j:Nat) (x:Value) (c:CK),vs[j]?=some x->i.cells[j]?=some c->zeroCell x c=true:=by
   intro j x c hx hc
   exact h2 (x,c) (Sba (i:=j) (by
    rw[List.getElem?_zip_eq_some];exact⟨by simpa using hx,hc⟩))
  refine⟨_,heq,.of_get (by simpa[Value.cells] using h1) fun j l v hj hv=>?_,fun x hx=>?_,hz⟩
  ·simp only[Sbx,Sbc]at hj
   obtain⟨c,hc,rfl⟩:=hj;exact Jae (hz j v c (by simpa[Value.cells] using hv) hc)
  ·obtain⟨j,hj⟩:=Tbe.1 hx
   have aw:j<i.cells.length:=by
    rw[<- h1];simpa[Value.cells] using (Rbw.1 hj).1
   exact Cal (hz j x _ (by simpa[Value.cells] using hj) (Rbz aw))
 ·rename_i v c _ hz kO
  have h1:=Cal h;refine⟨v,hz,?_,fun x hx=>?_,fun j x c' hx hc=>?_⟩
  ·rw[kO,uJ h1]
   simp only[Sbk,Sbw,aG];exact⟨v,[],rfl,Jae h,rfl⟩
  ·rw[uJ h1]at hx
   simp only[Rby]at hx;rw[hx];exact h1
  ·rw[uJ h1]at hx
   rw[kO]at hc
   cases j with
   | zero =>
    simp only[Rb2,Rbv]at hc;simp at hx;rw[<- hx,<- hc];exact h
   |succ j=>simp at hc
 ·cases h
theorem kH {t:TypeId}{info:TypeInfo}{z:Value}(h:P.info? t=some info)(hz:info.zero=some z):(zeroValue t).run P w=.ok z w:=by
 simp[zeroValue,typeInfo,h,hz]
theorem Oa9 (hR:R E.ntmps F σ ρ a w G)(hd:eU E.ntmps o)(hti:tQ P E.ti){nv nb nr:Nat}{mv e9:Bool}(hf:Bah σ nb nr){e:TypeId}(ho:o.op=.alloc e){res:bM}
  (h:(nZ E mv e9 nv nb nr g o).eval σ=some res) (hs:aK cf ρ g nv res.lets):fZ P E F σ ρ a w g o Q res.upd:=by
 simp only[nZ,ho,aA,Rbt,tiR,aV,aI]at h;obtain⟨ti,h1,_,h2,h⟩:=h;split at h2
 ·rename_i hb
  obtain rfl:=uL hb;simp only[rO,aC,Rbv]at h;subst h;refine⟨fun hg=>?_,fun hg=>by simp[gOn]at hg⟩;obtain⟨info,u,f⟩:=aX (hti.ok _ _ h1);obtain⟨z,h3,h4,h5,-⟩:=f.zeros (σ:=σ) (ρ:=ρ) (G:=G) (w:=w);refine mD (v:=.pointer (some ⟨w.heap.size,0,none⟩)) (w':=pushB w z.cells e) ?_ ⟨_,hR.newBox hd hf.nb h4⟩;unfold execOp;simp only[ho];refine fF ?_;simp only[Instr.alloc,Sem.run_bind,kH f.info_ h3,Iab,Result.andThen_ok,Sem.run_pure]
 ·cases h2
theorem jW {α:Type}{l:List α}{k:Nat}{r:List α}(h:k+r.length<=l.length):(setRange l k r).length=l.length:=by
 simp[setRange];omega
theorem gQ {α:Type}{l:List α}{k:Nat}{r:List α}(h:k+r.length<=l.length)(j:Nat):(setRange l k r)[j]?=if k<=j/\j<k+r.length then r[j-k]? else l[j]?:=by
 unfold setRange;by_cases h1:j<k
 ·rw[Rb3,Rb9 (by simp;omega),Sb0,if_pos h1,if_neg (by omega)]
 ·by_cases h2:j<k+r.length
  ·rw[if_pos ⟨by omega,h2⟩,Rb3,Rb6 (by simp;omega),Rb9 (by simp;omega)]
   congr 1
   simp;omega
  ·rw[if_neg (by omega),Rb6 (by simp;omega),Sby]
   congr 1
   simp;omega
theorem La8 {α:Type}{l:List α}{k:Nat}{v:α}{r:List α}(h:k+(v::r).length<=l.length):setRange (l.set k v) (k+1) r=setRange l k (v::r):=by
 simp only[Sbm]at h;apply Ub9;intro j;rw[gQ (by simp;omega),gQ (by simp;omega)];by_cases h1:k+1<=j/\j<k+1+r.length
 ·rw[if_pos h1,if_pos (by simp;omega),show j-k=(j-(k+1))+1 by omega,Sb4]
 ·rw[if_neg h1,Tb0]
  by_cases h2:k=j
  ·subst h2
   rw[if_pos rfl,if_pos (by omega),if_pos (by simp)];simp
  ·rw[if_neg h2,if_neg (by simp;omega)]
theorem Rav (off:Nat):∀ (vs:List Value) (k:Nat) (cells:Array Value),off+k+vs.length<=cells.size ->
  ((vs.zipIdx k).foldl (fun cs x=>cs.setIfInBounds (off+x.2) x.1) cells).toList=setRange cells.toList (off+k) vs
 |[],k,cells,h=>by simp[setRange]
 | v :: r, k, cells, h => by
  simp only[Sbm]at h;simp only[List.zipIdx_cons,Uba];rw[Rav off r (k+1) _ (by simp;omega),Array.toList_setIfInBounds,<- Sbf,La8 (by simp;omega)]
theorem aG.setRange {ls ms:List aO}{us xs:List Value}(h:aG σ ρ G w ls us)(h':aG σ ρ G w ms xs){k:Nat}(hk:k+ms.length<=ls.length):aG σ ρ G w (setRange ls k ms) (setRange us k xs):=by
 have e1:=h.len;have e2:=h'.len;refine .of_get (by rw[jW (by omega),jW hk,e1]) fun i l v hi hv=>?_
 rw[gQ hk]at hi;rw[gQ (by omega)]at hv;rw[e2]at hv;split at hi
 ·rename_i hh
  rw[if_pos hh]at hv;obtain⟨v',h1,h2⟩:=h'.get hi;rw[h1]at hv;exact Sbs hv▸h2
 ·rename_i hh
  rw[if_neg hh]at hv;obtain⟨v',h1,h2⟩:=h.get hi;rw[h1]at hv;exact Sbs hv▸h2
theorem Nas {place:Nat->Option (Nat×Nat)}{cells:Array Value}{i off size:Nat}{v:Value}{rest:List (Nat×Value)}(hp:place i=some (off,size))(hs:v.cells.toList.length=size)(hb:off+size<=cells.size) :
  ∃ cells':Array Value,Instr.fill place cells ((i,v)::rest)=Instr.fill place cells' rest/\cells'.toList=setRange cells.toList off v.cells.toList:=by
 refine⟨v.cells.zipIdx.foldl (fun cs (x:Value×Nat)=>cs.setIfInBounds (off+x.2) x.1) cells,?_,?_⟩
 ·rw[Instr.fill,hp]
  dsimp only;have:v.cells.size=size:=by simpa using hs
  rw[if_neg];simp only[this];simp;omega
 ·have:=Rav off v.cells.toList 0 cells (by simpa[hs] using hb)
  rw[Sbz]at this;rw[<- this,<- Array.foldl_toList,Array.toList_zipIdx]
def Eak (σ:Nat->Option aP)(ρ:List D)(G:Gh)(w:World)(a:Act):List (Nat×Operand)->List (Nat×SV)->Prop
 |[],ps=>ps=[]
 |x::xs,ps=>∃ sv qs,ps=(x.1,sv)::qs/\bV σ ρ G w sv (a.eval x.2)/\Eak σ ρ G w a xs qs
theorem xW (hR:R E.ntmps F σ ρ a w G)(hg:gOn ρ g=true){ty:Nat->TypeId}:∀ {xs:List (Nat×Operand)} {ps:List (Nat×SV)},(Bau E g ty xs).eval σ=some ps ->
  Eak σ ρ G w a xs ps
 | [], ps, h => by
  simp only[Bau,aC,Rbv]at h;subst h;exact rfl
 | (i, x) :: xs, ps, h => by
  simp only[Bau,aA,Rbt,aC,Rbv]at h;obtain⟨sv,h1,l,h2,rfl⟩:=h;exact⟨sv,l,rfl,fJ hR hg h1,xW hR hg h2⟩
theorem xN {flds:List (Nat×Nat)}{place:Nat->Option (Nat×Nat)}(pj:∀ i off t f,flds[i]?=some (off,t)->E.ti t=some f->place i=some (off,f.size)) :
  ∀ {xs:List (Nat×Operand)} {ps:List (Nat×SV)},Eak σ ρ G w a xs ps->∀ {ls kt:List aO} {us:Array Value},aG σ ρ G w ls us.toList->qD flds E.ti ls ps=some kt ->
  ∃ ee,Instr.fill place us (xs.map fun x=>(x.1,a.eval x.2))=some ee/\aG σ ρ G w kt ee.toList
 | [], _, rfl, ls, kt, us, hl, h => by
  simp only[qD,Rbv]at h;subst h;exact⟨us,rfl,hl⟩
 | (i, x) :: xs, _, ⟨sv, ps, rfl, h1, hr⟩, ls, kt, us, hl, h => by
  unfold qD at h;split at h
  ·rename_i off t ie
   split at h
   ·rename_i f hf
    split at h
    ·rename_i vs iw
     cases hb:(Nat.beq vs.length f.size&&Nat.ble (off+f.size) ls.length) with
     |false=>rw[hb]at h;cases h
     | true =>
      rw[hb,cond_true]at h;simp only[Rbu,Sbq,Tbc]at hb;have h2:=gT iw h1;have hlen:=hl.len;obtain⟨us1,h3,h4⟩:=Nas (rest:=xs.map fun x=>(x.1,a.eval x.2)) (pj _ _ _ _ ie hf) (by rw[h2.len];exact hb.1) (by rw[<- Ubf,hlen];exact hb.2);obtain⟨ee,h5,h6⟩:=xN pj hr (us:=us1) (by rw[h4];exact hl.setRange h2 (by rw[hb.1];exact hb.2)) h;exact⟨ee,by rw[Sbk,h3];exact h5,h6⟩
    ·cases h
   ·cases h
  ·cases h
theorem zK {α β:Type}(f:α->Sem β)(g:α->β):∀ (l:List α),(∀ x∈l,(f x).run P w=.ok (g x) w)->(l.mapM f).run P w=.ok (l.map g) w
 |[],_=>by simp
 | x :: l, h => by
  rw[List.mapM_cons,Sem.run_bind,h x (by simp)];simp only[Result.andThen_ok];rw[Sem.run_bind,zK f g l fun y hy=>h y (by simp[hy])];simp
theorem xD {α β:Type}(f:α->Sem β)(g:α->β)(l:Array α)(h:∀ x∈l.toList,(f x).run P w=.ok (g x) w):(l.mapM f).run P w=.ok (l.map g) w:=by
 rw[Array.mapM_eq_mapM_toList,map_eq_pure_bind,Sem.run_bind,zK f g _ h];simp only[Result.andThen_ok,Sem.run_pure];congr 1;apply Vbo;simp
theorem uY {α β:Type}(f:List β->α->Option (List β)):∀ (l:List α),l.foldl (fun acc x=>acc.bind fun r=>f r x) none=none
 |[]=>rfl
 |x::l=>by rw[Uba];exact uY f l
theorem xL {α β:Type}(f:List β->α->Option (List β)):∀ (l:List α) (r0 r:List β),l.foldl (fun acc x=>acc.bind fun r=>f r x) (some r0)=some r->∀ x∈l,∃ r1 r2,f r1 x=some r2
 |[],_,_,_,x,hx=>by simp at hx
 | y :: l, r0, r, h, x, hx => by
  rw[Uba,Rb1]at h
  cases hf:f r0 y with
  |none=>rw[hf,uY]at h;cases h
  | some r1 =>
   rcases Rb4.1 hx with rfl|hx
   ·exact⟨r0,r1,hf⟩
   ·rw[hf]at h
    exact xL f l r1 r h x hx
theorem Xab {d:Nat}{t:TypeId}{l:List TypeId}(h:flat P d t=some l):∃ i,P.info? t=some i:=by
 cases d with
 |zero=>cases h
 | succ d =>
  unfold flat at h;unfold Program.underlying at h
  cases hi:P.info? t with
  |none=>rw[hi]at h;cases h
  |some i=>exact⟨i,rfl⟩
theorem Taw {d:Nat}{t:TypeId}{l:List TypeId}{fs:Array Field}(h:flat P (d+1) t=some l)(hu:P.underlying t=some (.struct fs)):∀ f∈fs.toList,∃ i,P.info? f.type=some i:=by
 unfold flat at h;rw[hu]at h;dsimp only at h;intro f hf;obtain⟨r1,r2,h1⟩:=xL _ _ _ _ h f hf
 cases hm:flat P d f.type with
 |none=>rw[hm]at h1;cases h1
 |some m=>exact Xab hm
theorem bY.struct {t:TypeId}{i:TI}{info:TypeInfo}{u:TypeDesc}(f:bY P t i info u)(h:i.agg=true):∃ fs,u=.struct fs/\∀ fd∈fs.toList,∃ i,P.info? fd.type=some i:=by
 rw[f.agg]at h;have hc:=f.cells
 cases ie:flat P 12 t with
 |none=>rw[ie]at hc;cases hc
 | some l =>
  unfold Ham at h;split at h
  ·rename_i fs
   exact⟨fs,rfl,Taw ie f.und⟩
  ·unfold flat at ie
   rw[f.und]at ie;cases ie
  ·cases h
theorem Oa8 (hR:R E.ntmps F σ ρ a w G)(hd:eU E.ntmps o)(hti:tQ P E.ti){nv nb nr:Nat}{mv e9:Bool}{t:TypeId}{parts:Array (Nat×Operand)}(ho:o.op=.build t parts){res:bM}
  (h:(nZ E mv e9 nv nb nr g o).eval σ=some res) (hs:aK cf ρ g nv res.lets):fZ P E F σ ρ a w g o Q res.upd:=by
 simp only[nZ,ho,aA,Rbt,tiR,aV,aI]at h;obtain⟨ti,h1,_,h2,ps,h3,h⟩:=h;split at h2
 ·rename_i mL
  obtain⟨info,u,f⟩:=aX (hti.ok _ _ h1);obtain⟨fs,rfl,hfs⟩:=f.struct mL;split at h
  ·rename_i ls qT
   refine dH hR hd h hs fun hg _=>?_
   obtain⟨z,h4,h5,-,-⟩:=f.zeros (σ:=σ) (ρ:=ρ) (G:=G) (w:=w)
   have pj:∀ (i off t':Nat) (f':TI),ti.flds[i]?=some (off,t')->E.ti t'=some f'->(fs.map fun fd=>(fd.offset,((P.info? fd.type).map (·.size)).getD 0))[i]?=some (off,f'.size):=by
    intro i off t' f' ie hf';obtain⟨fs',fd,e1,e2,e3,e4⟩:=Kar f ie;obtain rfl:fs=fs':=by injection e1
    obtain⟨jx,u',ff⟩:=aX (hti.ok _ _ hf');rw[Array.getElem?_map,e2,Sb9,e3,e4,ff.info_];simp[ff.size]
   obtain⟨ee,h6,h7⟩:=xN pj (xW hR hg h3) (us:=z.cells) h5 qT;refine⟨.agg ee,⟨ee.toList,by simp,h7⟩,?_⟩;unfold execOp;simp only[ho];refine fF ?_
   have hm:=xD (P:=P) (w:=w) (fun fd:Field=>(do pure (fd.offset,<- sizeOf fd.type):Sem (Nat×Nat))) (fun fd=>(fd.offset,((P.info? fd.type).map (·.size)).getD 0)) fs (fun fd hfd=>by
    obtain⟨i,hi⟩:=hfs fd hfd;simp only[Sem.run_bind,run_sizeOf hi,Result.andThen_ok,Sem.run_pure,hi,Sb9,Option.getD_some])
   unfold Instr.build;simp only[Sem.run_bind,kH f.info_ h4,Result.andThen_ok,run_underlying f.und];rw[hm];have e:(parts.map fun x=>(x.1,a.eval x.2)).toList=parts.toList.map fun x=>(x.1,a.eval x.2):=by simp
   simp only[Result.andThen_ok];rw[e,h6];rfl
  ·cases h
 ·cases h2
end
section
variable {P:Program} {E:Env} {F:bE} {σ:Nat->Option aP} {ρ:List D} {a:Act} {w w':World} {G:Gh} {g:Option (aJ×Bool)} {o:Oper} {cf:Nat->List D->Option (List D)} {Q:Exit->Act->World->Prop} {next:Act->World->Prop}
theorem add_plain {b:Addr}(h:b.spot=none)(k:Nat):b.add k=⟨b.block,b.off+k,none⟩:=by
 cases b;simp only at h;subst h;unfold Addr.add;split<;>simp_all
theorem lC.write (h:lC F G w){B off:Nat}{vs:List Value}{ow:Ow}(ho:G.own B=ow)(hz:ow≠.frz/\ow≠.oth)
  (hb:∀ b,ow=.box b->B<F.w0.heap.size->F.own0 B=.box b->(F.rng b).1<=off/\off+vs.length<=(F.rng b).2):lC F G (w.setCells B off vs):=by
 obtain⟨e1,e2,e3⟩:=cB B vs off w;refine⟨by rw[e1];exact h.os,by rw[e2];exact h.tape,by rw[e3];exact h.output,by rw[setCells_size];exact h.size,fun b aw hf=>?_,fun b j aw hj=>?_,fun b aw=>?_⟩
 ·obtain⟨h1,h2⟩:=h.keep b aw hf
  have dk:b≠B:=by
   rintro rfl
   rw[ho]at h2;rw[<- h2]at hf
   rcases hf with hf|hf
   ·exact hz.1 hf
   ·exact hz.2 hf
  exact⟨by rw[bC B vs off w b dk];exact h1,h2⟩
 ·obtain⟨h1,c0,c1,e,fr,h2,h3,h4,h5⟩:=h.boxes b j aw hj
  refine⟨h1,c0,?_⟩;by_cases dk:b=B
  ·subst dk
   obtain⟨c',h6,h7,h8⟩:=zH b vs off w c1 e fr h3;refine⟨c',e,fr,h2,h6,by rw[h7];exact h4,fun k hk=>?_⟩;have jf:ow=.box j:=by rw[<- ho];exact h1
   obtain⟨h9,du⟩:=hb j jf aw hj;rw[h8 k (by omega)];exact h5 k hk
  ·exact⟨c1,e,fr,h2,by rw[bC B vs off w b dk];exact h3,h4,h5⟩
 ·rw[setCells_size]at aw
  exact h.fresh b aw
theorem Ga9 (hR:R E.ntmps F σ ρ a w G)(hti:tQ P E.ti){nv:Nat}{mv e9:Bool}{t:TypeId}{x y:Operand}(ho:o.op=.store t x y){ti:TI}(hi:E.ti t=some ti){b off:Nat}{ls:List aO}{sv:SV}
  (hx:gOn ρ g=true->aB σ ρ G w (.px b off) (a.eval x)) (hy:gOn ρ g=true->bV σ ρ G w sv (a.eval y)) (qT:jF ti.agg sv=some ls) {res:bM}
  (h:(Ban nv mv e9 o g ti (.px b off) ls).eval σ=some res):fZ P E F σ ρ a w g o Q res.upd:=by
 simp only[Ban,aA,aI,Rbt,aS,Rb1]at h;obtain⟨_,h1,h⟩:=h;split at h1
 ·rename_i np
  simp only[Rbu,Sbq,Ubi]at np;obtain⟨hlen,q6⟩:=np;split at h
  ·rename_i bs hk
   simp only[aA,aI,Rbt]at h;obtain⟨_,h2,h⟩:=h;split at h2
   ·rename_i jw
    simp only[Rbu,Tbc]at jw;obtain⟨⟨hle,yz⟩,cj⟩:=jw;obtain rfl:=uL yz;simp only[aC,Rbv]at h;subst h;refine⟨fun hg=>?_,fun hg=>by simp[gOn]at hg⟩;obtain⟨info,u,f⟩:=aX (hti.ok _ _ hi);have hl:=gT qT (hy hg);have ka:=hl.ones cj;have kn:=hl.len;have hpx:=hx hg;simp only[aB]at hpx;obtain⟨h3,h4,h5⟩:=hR.box hk;have h4:G.own (G.bx b).block=.box b:=by simpa using h4
    generalize iw:(a.eval y).cells.toList=vs at hl ka kn
    have cu:∀ j,off<=j->j<off+ls.length->∃ v,w.cell? ⟨(G.bx b).block,(G.bx b).off+j,none⟩=some v/\w.frozen? ⟨(G.bx b).block,(G.bx b).off+j,none⟩=false:=by
     intro j hj1 lR;have hbj:bs[j]?=some bs[j]:=Rbz (by omega);obtain⟨v,h6,h7,-⟩:=h5 j _ hbj;rw[add_plain h3]at h6 h7;exact⟨v,h6,h7⟩
    have cr:(execOp a.eval o).run P w=.ok .skip (w.setCells (G.bx b).block ((G.bx b).off+off) vs):=by
     unfold execOp;simp only[ho]
     have:=Cav (P:=P) (w:=w) f (b:=(G.bx b).block) (off:=(G.bx b).off+off) (v:=a.eval y) (by rw[iw];omega)
      (fun j hj=>by
       obtain⟨v,h6,-⟩:=cu (off+j) (by omega) (by omega);exact⟨v,by rw[Sbf];exact h6⟩)
      (fun j hj=>by
       obtain⟨v,-,h6⟩:=cu (off+j) (by omega) (by omega);rw[Sbf];exact h6) (by rw[iw];exact ka)
     simp only[Instr.storeAt,Instr.sureAddr,Sem.run_bind,hpx.1,Sem.run_pure,Result.andThen_ok,add_plain h3,this,iw]
    refine Qak cr ⟨G,?_⟩;have dk:∀ b',G.own b'≠.box b->b'≠(G.bx b).block:=fun b' hb e=>hb (by rw[e];exact h4)
    have hkR:∀ r,upds σ [(kB b,aP.box false (setRange bs off ls))] (kR r)=σ (kR r):=fun r=>by
     refine eB _ _ _ fun c hc=>?_
     simp only[Rby,Sbj]at hc;exact eO hc.1.symm
    have fj:Fr σ G w (upds σ [(kB b,aP.box false (setRange bs off ls))]) G (w.setCells (G.bx b).block ((G.bx b).off+off) vs):=by
     refine⟨fun b' hb aw=>⟨hb,bC _ _ _ _ _ (dk b' (by rw[hb];simp))⟩,fun r k _ hv=>?_,fun r k hk=>hk.same hkR,fun r k b' p _ _ hb=>⟨.inl hb,bC _ _ _ _ _ (dk b' (by rw[hb];simp))⟩,
      fun r k m _ hv=>⟨?_,fun b' p hb=>hb⟩,fun _ _=>rfl,fun _ _=>rfl,fun k hk=>dP _ _ _ (.inl hk),fun _ _ _ _ _ _ _ hb=>hb⟩
     ·obtain⟨x',m,st,e,hs⟩:=hv
      exact⟨x',m,st,by rw[<- hkR];exact e,hs⟩
     ·obtain⟨x',e⟩:=hv
      exact⟨x',by rw[<- hkR];exact e⟩
    have ir:(setRange bs off ls).length=bs.length:=jW hle;rw[q6];refine hR.upd _ fj hR.tmps hR.defers (hR.frame.write h4 (by simp) fun b' e aw rj=>?_) (fun t _=>rfl) (fun b' ro kt eJ iz=>?_) (fun b' kt eJ aw rj=>?_) (fun k c hk1 hk2=>?_)
    ·obtain rfl:b=b':=by injection e
     have:=hR.rng b bs hk aw rj;rw[this];dsimp only;omega
    ·refine⟨rfl,bC _ _ _ _ _ (dk _ ?_)⟩
     obtain⟨_,h6,_⟩:=hR.box eJ;rw[h6];split
     ·simp
     ·intro e
      obtain rfl:b'=b:=by injection e
      exact iz _ (Rby.2 rfl)
    ·simp only[Rby,Sbj,aP.box.injEq,true_and]at eJ
     obtain⟨e,rfl⟩:=eJ;obtain rfl:=Aak e;rw[ir];exact hR.rng b' bs hk aw rj
    ·simp only[Rby,Sbj]at hk1
     obtain⟨rfl,rfl⟩:=hk1;refine⟨b,rfl,h3,by simpa using h4,fun j l hj=>?_⟩;rw[gQ hle]at hj;rw[World.frozen?_setCells,add_plain h3];split at hj
     ·rename_i kb
      obtain⟨v,h6,h7⟩:=hl.get hj;obtain⟨u',h8,h9⟩:=cu j kb.1 kb.2;refine⟨v,?_,h9,aB.mono fj l v h7⟩
      have:=World.cell?_setCells_in (G.bx b).block vs ((G.bx b).off+off) w (fun j' jf=>by
       obtain⟨v',du,-⟩:=cu (off+j') (by omega) (by omega);rw[Sbf,du];rfl) (j-off) (by omega)
      rw[show (G.bx b).off+off+(j-off)=(G.bx b).off+j by omega]at this;rw[this,<- h6,Rbz]
     ·rename_i a1m
      obtain⟨v,h6,h7,h8⟩:=h5 j l hj;rw[add_plain h3]at h6 h7;refine⟨v,?_,h7,aB.mono fj l v h8⟩;rw[World.cell?_setCells_out _ _ _ _ _ (fun _ _=>by dsimp only;omega)];exact h6
   ·cases h2
  ·cases h
 ·cases h1
end
theorem Rp.move {own own':Nat->Ow}{w w':World}{r r':Nat}{p:List Nat}{m:Nat}{v:Value}{d:D}(h:Rp own w r p m v d)
  (hz:∀ b,own b=.frz->b<w.heap.size->own' b=.frz/\w'.heap[b]?=w.heap[b]?):∀ (p':List Nat) (m':Nat),m'<=m ->
  (∀ b t,own b=.slc r (p++t)->own' b=(if t.length<m' then .slc r' (p'++t) else .frz)/\w'.heap[b]?=w.heap[b]?)->Rp own' w' r' p' m' v d:=by
 induction h with
 |sc h=>exact fun _ _ _ _=>.sc h
 |hole v h1=>exact fun _ _ _ _=>.hole v h1
 | fz h =>
  intro p' m' hm hs;obtain rfl:m'=0:=by omega
  exact .fz (h.mono' fun b hb aw=>hz b hb aw)
 | sl A a n c sz rs vs hn hc hA ef bz cu cL ih =>
  rename_i p m;intro p' m' hm hs
  have aw:∀ i row,rs[i]?=some row->i<rs.length:=fun i row hi=>by
   rcases Sbh i rs.length with h|h
   ·exact h
   ·simp[List.getElem?_eq_none h]at hi
  have xj:∀ i row,rs[i]?=some row->A=some a:=fun i row hi=>by
   rcases hA with e|⟨e,e'⟩
   ·exact e
   ·have:=aw i row hi;omega
  cases m' with
  | zero =>
   refine .fz (.rows A a n c sz rs vs hn hc ?_ ef (fun i row hi j d hj=>?_) (fun i row hi j d hj=>?_))
   ·rcases hA with e|⟨e,e'⟩
    ·exact .inr e
    ·exact .inl (by omega)
   ·obtain⟨h1,h2⟩:=hs a.block [] (by simpa using (bz (xj i row hi)).2.1)
    refine⟨by simpa using h1,?_⟩;exact (fO (w:=w) (w':=w') (by rw[add_block];exact h2)).trans (cu i row hi j d hj)
   ·exact (ih i row hi j d hj [] 0 (Nat.zero_le _) (fun b t hb=>by
     have:=hs b ([i*sz+j]++t) (by rw[<- Rb3];exact hb);simpa using this)).zero
  | succ m' =>
   refine .sl A a n c sz rs vs hn hc hA ef (fun e=>?_) (fun i row hi j d hj=>?_) (fun i row hi j d hj=>?_)
   ·obtain⟨h1,h2,h3⟩:=bz e
    obtain⟨h4,h5⟩:=hs a.block [] (by simpa using h2);refine⟨h1,by simpa using h4,fun k hk=>?_⟩;obtain⟨u,hu,hf⟩:=h3 k hk;exact⟨u,(fO (w:=w) (w':=w') (by rw[add_block];exact h5)).trans hu,(Aao (w:=w) (w':=w') (by rw[add_block];exact h5)).trans hf⟩
   ·obtain⟨h1,h2⟩:=hs a.block [] (by simpa using (bz (xj i row hi)).2.1)
    exact (fO (w:=w) (w':=w') (by rw[add_block];exact h2)).trans (cu i row hi j d hj)
   ·refine ih i row hi j d hj (p'++[i*sz+j]) m' (by omega) (fun b t hb=>?_)
    have:=hs b ([i*sz+j]++t) (by rw[<- Rb3];exact hb);simp only[Rb8,Tbl]at this;rw[<- Rb3]at this;refine⟨?_,this.2⟩;rw[this.1];by_cases ht:t.length<m'
    ·rw[if_pos ht,if_pos (by omega)]
    ·rw[if_neg ht,if_neg (by omega)]
inductive Upd:List Nat->D->D->D->Prop
 |here (x y:D):Upd [] x y y
 | down (sz : Nat) (rs : List (List D)) (i j : Nat) (row : List D) (z z' y : D) (p : List Nat) (hi : rs[i]? = some row) (hj : row[j]? = some z)
   (h:Upd p z y z'):Upd ((i*sz+j)::p) (.rows sz rs) y (.rows sz (rs.set i (row.set j z')))
theorem Cbu {i j i' j' sz:Nat}(hj:j<sz)(jf:j'<sz)(h:i*sz+j=i'*sz+j'):i=i'/\j=j':=by
 have h1:(i*sz+j) / sz=i:=by
  rw[Ubp,Ubx (by omega),Ubn hj,Sbz]
 have h2:(i'*sz+j') / sz=i':=by
  rw[Ubp,Ubx (by omega),Ubn jf,Sbz]
 rw[h,h2]at h1;subst h1;exact⟨rfl,by omega⟩
theorem Rp.sl_inv {own:Nat->Ow}{w:World}{r:Nat}{p:List Nat}{m:Nat}{v:Value}{sz:Nat}{rs:List (List D)}(h:Rp own w r p (m+1) v (.rows sz rs)) :
  ∃ (A:Option Addr) (a:Addr) (n c:Nat) (vs:Nat->Nat->Value),v=.slice A n c/\rs.length=n/\n<=c/\(A=some a\/(A=none/\c=0))/\(∀ r∈rs,r.length=sz) /\
   (A=some a->a.spot=none/\own a.block=.slc r p/\∀ k,k<c*sz->∃ u,w.cell? (a.add k)=some u/\fzq w (a.add k)=false) /\
   (∀ i row,rs[i]?=some row->∀ j d,row[j]?=some d->w.cell? (a.add (i*sz+j))=some (vs i j)) /\
   (∀ i row,rs[i]?=some row->∀ j d,row[j]?=some d->Rp own w r (p++[i*sz+j]) m (vs i j) d):=by
 cases h with
 |sc h=>cases h
 |sl A a n c sz rs vs hn hc hA ef bz cu cL=>exact⟨A,a,n,c,vs,rfl,hn,hc,hA,ef,bz,cu,cL⟩
theorem Rp.upd {own own':Nat->Ow}{w w':World}{r M':Nat}{full:List Nat}{y:D}{u:Value}
  (hz:∀ b,own b=.frz->b<w.heap.size->own' b=.frz/\w'.heap[b]?=w.heap[b]?)
  (hs:∀ b t,own b=.slc r t->¬ full <+: t->own' b=(if t.length<M' then .slc r t else .frz)/\w'.heap[b]?=w.heap[b]?)
  (hM:full.length<=M') (ij:Rp own' w' r full (M'-full.length) u y) :
  ∀ (p q:List Nat) (M:Nat) (v:Value) (x x':D),full=q++p->M'<=M->Rp own w r q (M-q.length) v x->wW own w r q v p u->Upd p x y x'->Rp own' w' r q (M'-q.length) v x'
 | [], q, M, v, x, x', hf, hMM, hx, hn, hu => by
  cases hu;simp only[wW]at hn;rw[Sbu]at hf;subst hf hn;exact ij
 | k :: p, q, M, v, x, x', hf, hMM, hx, hn, hu => by
  generalize hk:k::p=kp at hu
  cases hu with
  |here=>cases hk
  | down sz rs i j row z z' y p' hi hj hu =>
   obtain⟨rfl,rfl⟩:=List.cons.inj hk;have hlen:full.length=q.length+(p.length+1):=by rw[hf];simp
   obtain⟨m,hm⟩:∃ m,M-q.length=m+1:=⟨M-q.length-1,by omega⟩;obtain⟨m',qc⟩:∃ m',M'-q.length=m'+1:=⟨M'-q.length-1,by omega⟩;rw[hm]at hx;rw[qc];obtain⟨A,a,n,c,vs,rfl,h1,h2,h3,h4,h5,h6,h7⟩:=hx.sl_inv;have oy:i<rs.length:=(Rbw.1 hi).1
   have hA:A=some a:=by
    rcases h3 with e|⟨e,e'⟩
    ·exact e
    ·omega
   subst hA;obtain⟨h8,h9,du⟩:=h5 rfl;obtain⟨a',n',c',u',e1,e2,e3,e4⟩:=hn;obtain⟨rfl,rfl,rfl⟩:a=a'/\n=n'/\c=c':=by injection e1 with a b c;exact⟨Sbs a,b,c⟩
   have iu:=h6 i row hi j z hj;rw[iu]at e3;obtain rfl:=Sbs e3
   have hq:¬ full <+: q:=by
    intro e;have:=e.length_le;omega
   obtain⟨fv,cI⟩:=hs _ _ h9 hq;rw[if_pos (by omega)]at fv;have pc:∀ k,w'.cell? (a.add k)=w.cell? (a.add k):=fun k=>fO (w:=w) (w':=w') (by rw[add_block];exact cI)
   have pH:∀ k,fzq w' (a.add k)=fzq w (a.add k):=fun k=>Aao (w:=w) (w':=w') (by rw[add_block];exact cI)
   have cL:=Rp.upd hz hs hM ij p (q++[i*sz+j]) M (vs i j) z z' (by rw[hf];simp) hMM (by
    have:=h7 i row hi j z hj;rwa[show M-(q++[i*sz+j]).length=m by simp;omega]) e4 hu
   rw[show M'-(q++[i*sz+j]).length=m' by simp;omega]at cL;have k7:row.length=sz:=h4 row (Sba hi);have aw:j<sz:=by rw[<- k7];exact (Rbw.1 hj).1
   have nq:∀ i' fy,(rs.set i (row.set j z'))[i']?=some fy->∀ j' d,fy[j']?=some d->(i'=i/\j'=j/\d=z')\/(∃ row0,rs[i']?=some row0/\row0[j']?=some d/\¬ (i'=i/\j'=j)):=by
    intro i' fy gy j' d jf;rw[Tb0]at gy;by_cases qd:i=i'
    ·subst qd
     rw[if_pos rfl,if_pos oy]at gy;obtain rfl:=Sbs gy;rw[Tb0]at jf;by_cases uh:j=j'
     ·subst uh
      rw[if_pos rfl,if_pos (by omega)]at jf;exact .inl ⟨rfl,rfl,(Sbs jf).symm⟩
     ·rw[if_neg uh]at jf
      exact .inr ⟨row,hi,jf,fun e=>uh e.2.symm⟩
    ·rw[if_neg qd]at gy
     exact .inr ⟨fy,gy,jf,fun e=>qd e.1.symm⟩
   refine .sl _ a n c sz _ vs (by simpa using h1) h2 (.inl rfl) (fun fy hr=>?_) (fun _=>⟨h8,fv,fun k hk=>?_⟩) (fun i' fy gy j' d jf=>?_) (fun i' fy gy j' d jf=>?_)
   ·rcases Ubq hr with hr|rfl
    ·exact h4 _ hr
    ·simpa using k7
   ·rw[pc,pH]
    exact du k hk
   ·rw[pc]
    rcases nq i' fy gy j' d jf with ⟨rfl,rfl,rfl⟩|⟨row0,eC,gi,-⟩
    ·exact iu
    ·exact h6 _ _ eC _ _ gi
   ·rcases nq i' fy gy j' d jf with ⟨rfl,rfl,rfl⟩|⟨row0,eC,gi,dk⟩
    ·exact cL
    ·refine (h7 _ _ eC _ _ gi).move hz _ m' (by omega) fun b t hb=>?_
     have z6:¬ full <+: q++[i'*sz+j']++t:=by
      intro e;rw[hf,Rb3,List.prefix_append_right_inj]at e;have e':=(List.cons_prefix_cons.1 e).1
      have vj:j'<sz:=by
       have:=(Rbw.1 gi).1;rw[h4 row0 (Sba eC)]at this;exact this
      obtain⟨nc,nf⟩:=Cbu vj aw e'.symm;exact dk ⟨nc,nf⟩
     obtain⟨jm,lg⟩:=hs b _ hb z6;simp only[Rb8,Tbl]at jm;refine⟨?_,lg⟩;rw[jm];by_cases ht:t.length<m'
     ·rw[if_pos ht,if_pos (by omega)]
     ·rw[if_neg ht,if_neg (by omega)]
theorem tX:∀ (l:List Step) (n:Nat),l.foldl (fun s x=>s+x.n) n=n+bF l
 |[],n=>rfl
 | s :: l, n => by
  simp only[bF,Uba];rw[tX l (n+s.n),tX l (0+s.n)];omega
theorem gV (s:Step)(l:List Step):bF (s::l)=s.n+bF l:=by
 show (s::l).foldl (fun s x=>s+x.n) 0=_
 rw[Uba,tX];omega
theorem eH:∀ (l m:List Step),bF (l++m)=bF l+bF m
 |[],m=>by simp[bF]
 |s::l,m=>by rw[Tb6,gV,gV,eH l m];omega
section
variable {ρ:List D} {g:Option (aJ×Bool)} {cf:Nat->List D->Option (List D)}
theorem aK.append:∀ {l m:List Step} {nv:Nat},aK cf ρ g nv (l++m)->aK cf ρ g nv l/\aK cf ρ g (nv+bF l) m
 |[],m,nv,h=>⟨trivial,h⟩
 | s :: l, m, nv, h => by
  obtain⟨h1,h2⟩:=h;obtain⟨h3,h4⟩:=aK.append h2;exact⟨⟨h1,h3⟩,by rw[gV,<- Sbf];exact h4⟩
theorem Pac {sz off n:Nat}{x i:D}{vs ds:List D}(h:(aN.set sz off n).run (x::i::vs)=some ds) :
  ∃ rs k iv row,x=.rows sz rs/\i=.int k iv/\0<=iv/\rs[iv.toNat]?=some row/\off+n<=row.length/\vs.length=n/\ds=[.rows sz (rs.set iv.toNat (row.take off++vs++row.drop (off+n)))]:=by
 cases x<;>cases i<;>simp only[aN.run]at h<;>first|cases h|skip
 rename_i nx rs k iv;split at h
 ·rename_i h1
  obtain⟨rfl,h1⟩:=h1;split at h
  ·rename_i row hr
   split at h
   ·rename_i h2
    simp only[Rbv]at h;exact⟨rs,k,iv,row,rfl,rfl,h1,hr,h2.1,h2.2,h.symm⟩
   ·cases h
  ·cases h
 ·cases h
theorem take_set {α:Type}{l:List α}{k:Nat}{x:α}(h:k<l.length):l.take k++[x]++l.drop (k+1)=l.set k x:=by
 apply Ub9;intro j;rw[Tb0];by_cases h1:j<k
 ·rw[Rb3,Rb9 (by simp;omega),Sb0,if_pos h1,if_neg (by omega)]
 ·by_cases h2:k=j
  ·subst h2
   rw[if_pos rfl,if_pos h,Rb3,Rb6 (by simp;omega)];simp[Nat.min_eq_left (Nat.le_of_lt h)]
  ·rw[if_neg h2,Rb6 (by simp;omega),Sby]
   congr 1
   simp;omega
theorem zX (hg:gOn ρ g=true):∀ (q:List (aJ×Nat×Nat)) (nv:Nat) (X y:aJ),aK cf ρ g nv (Ja8 nv X q y).1->Upd (bA ρ q) (X.val ρ) (y.val ρ) ((Ja8 nv X q y).2.val ρ)
 |[],nv,X,y,_=>.here _ _
 | (i, sz, off) :: p, nv, X, y, h => by
  have zm:bA ρ ((i,sz,off)::p)=(jY ρ i*sz+off)::bA ρ p:=rfl;rw[zm]
  cases p with
  | nil =>
   simp only[Ja8]at h ⊢;obtain⟨d,h1,h2⟩:=zW h.1 hg;simp only[Sbk,Sbw]at h1;obtain⟨rs,k,iv,row,e1,e2,e3,e4,e5,e6,e7⟩:=Pac h1;simp only[Tbj,and_true]at e7;have hi:jY ρ i=iv.toNat:=by simp[jY,e2]
   rw[e1,hi,h2,e7,take_set (by omega)];exact .down sz rs iv.toNat off row _ _ _ _ e4 (Rbz (by omega)) (.here _ _)
  | cons z p =>
   have dk:Ja8 nv X ((i,sz,off)::z::p) y =
     ([.prim (.row sz off [false]) [X,i] 1]++(Ja8 (nv+1) (.v nv) (z::p) y).1++[.prim (.set sz off 1) [X,i,(Ja8 (nv+1) (.v nv) (z::p) y).2] 1],.v (nv+1+bF (Ja8 (nv+1) (.v nv) (z::p) y).1)):=rfl
   rw[dk]at h ⊢;obtain⟨h1,h2⟩:=aK.append h;obtain⟨h3,h4⟩:=aK.append h1;obtain⟨d,h5,h6⟩:=zW h3.1 hg;have q8:bF [Step.prim (.row sz off [false]) [X,i] 1]=1:=rfl;rw[q8]at h4;rw[eH,q8,<- Sbf]at h2;have ih:=zX hg (z::p) (nv+1) (.v nv) y h4;obtain⟨d',h7,h8⟩:=zW h2.1 hg;simp only[Sbk,Sbw]at h5 h7;obtain⟨rs,k,iv,row,e1,e2,e3,e4,e5,e6,e7⟩:=Pac h7;obtain⟨rs',k',iv',fy,f1,f2,f3,f4,f5,f6,f7⟩:=Vab h5;rw[e1]at f1;obtain rfl:rs=rs':=by injection f1
   rw[e2]at f2;obtain⟨rfl,rfl⟩:k=k'/\iv=iv':=by injection f2 with a b;exact⟨a,b⟩
   rw[e4]at f4;obtain rfl:=Sbs f4;simp only[Tbj,and_true]at e7;have hi:jY ρ i=iv.toNat:=by simp[jY,e2]
   have hz:row[off]?=some ((aJ.v nv).val ρ):=by
    rw[h6]
    have:((row.drop off).take 1)[0]?=some d:=by
     rw[show [false].length=1 from rfl]at f7;rw[<- f7];rfl
    rw[Sb0,if_pos (by omega),Sby]at this;simpa using this
   rw[e1,hi,h8,e7,take_set (by omega)];exact .down sz rs iv.toNat off row _ _ _ _ e4 hz ih
end
section
variable {P:Program} {E:Env} {F:bE} {n:Nat} {σ:Nat->Option aP} {ρ:List D} {a:Act} {w w':World} {G G':Gh} {g:Option (aJ×Bool)} {o:Oper} {cf:Nat->List D->Option (List D)} {Q:Exit->Act->World->Prop} {next:Act->World->Prop}
def Chg (σ:Nat->Option aP)(G:Gh)(w:World)(G':Gh)(w':World)(r:Nat)(c:aP):Prop :=
 (σ (kR r)=none/\∃ x m b9 st,c=.root x m b9 st) \/
 (∃ x m b9 x' m',σ (kR r)=some (.root x m b9 .live)/\c=.root x' m' (b9+1) .live) \/
 (∃ x m b9 st,c=.root x m b9 st/\st≠.live/\st≠.frozen) \/
 (∃ x m b9,σ (kR r)=some (.root x m b9 .live)/\c=.root x m b9 .frozen/\∀ b p,G.own b=.slc r p->G'.own b=.frz/\w'.heap[b]?=w.heap[b]?)
theorem Uan (u:List (Nat×aP))(σ:Nat->Option aP)(k:Nat)(h:∃ c,(k,c)∈u):∃ c,(k,c)∈u/\upds σ u k=some c:=by
 have h1:=dP u σ k (.inr h);obtain⟨c,hc⟩:=Option.isSome_iff_exists.1 h1
 rcases nW u σ k c hc with h2|⟨h2,-⟩
 ·exact⟨c,h2,hc⟩
 ·obtain⟨c',ig⟩:=h
  exact absurd ig (h2 c')
theorem Fr.of {u:List (Nat×aP)}(yk:∀ b,G.own b=.frz->b<w.heap.size->G'.own b=.frz/\w'.heap[b]?=w.heap[b]?)
  (yo:∀ r b p,(∀ c,(kR r,c)∉u)->G.own b=.slc r p->G'.own b=.slc r p/\w'.heap[b]?=w.heap[b]?)
  (xq:∀ r c,(kR r,c)∈u->upds σ u (kR r)=some c->Chg σ G w G' w' r c)
  (oT:∀ r x m k,σ (kR r)=some (.root x m k .frozen)->∀ b p,G'.own b=.slc r p->G.own b=.slc r p)
  (td:∀ r,(σ (kR r)).isSome->G'.hdr r=G.hdr r) (gw:∀ b,(σ (kB b)).isSome->G'.bx b=G.bx b):Fr σ G w (upds σ u) G' w':=by
 have mT:∀ r,(∀ c,(kR r,c)∉u)\/∃ c,(kR r,c)∈u/\upds σ u (kR r)=some c/\Chg σ G w G' w' r c:=by
  intro r;by_cases h:∃ c,(kR r,c)∈u
  ·obtain⟨c,h1,h2⟩:=Uan u σ (kR r) h
   exact .inr ⟨c,h1,h2,xq r c h1 h2⟩
  ·exact .inl fun c hc=>h ⟨c,hc⟩
 have eM:∀ r k,iL σ r k->kQ (upds σ u) r k->kQ σ r k:=by
  intro r k hk hv
  rcases mT r with h|⟨c,h1,h2,h3⟩
  ·obtain⟨x,m,st,e,hs⟩:=hv
   rw[eB u σ _ h]at e;exact⟨x,m,st,e,hs⟩
  ·obtain⟨x,m,st,e,hs⟩:=hv
   rw[h2]at e;obtain rfl:=Sbs e;obtain⟨x0,m0,v0,st0,e0,ym⟩:=hk
   rcases h3 with ⟨h4,-⟩|⟨x1,m1,v1,x2,m2,h4,h5⟩|⟨x1,m1,v1,st1,h5,h6,h7⟩|⟨x1,m1,v1,h4,h5,-⟩
   ·rw[h4]at e0;cases e0
   ·rw[h4]at e0
    injection e0 with e0
    injection e0 with i1 i2 i3 i4
    injection h5 with j1 j2 j3 j4
    have:=ym (.inl i4.symm);omega
   ·injection h5 with j1 j2 j3 j4
    rw[j4]at hs
    rcases hs with hs|hs
    ·exact absurd hs h6
    ·exact absurd hs h7
   ·injection h5 with j1 j2 j3 j4
    exact⟨x1,m1,.live,by rw[h4,j3],.inl rfl⟩
 refine⟨yk,eM,fun r k hk=>?_,fun r k b p hv yx hb=>?_,fun r k m hk hl=>?_,td,gw,fun k hk=>dP _ _ _ (.inl hk),oT⟩
 ·rcases mT r with h|⟨c,h1,h2,h3⟩
  ·obtain⟨x,m,b9,st,e,hs⟩:=hk
   exact⟨x,m,b9,st,by rw[eB u σ _ h];exact e,hs⟩
  ·obtain⟨x0,m0,v0,st0,e0,ym⟩:=hk
   rcases h3 with ⟨h4,-⟩|⟨x1,m1,v1,x2,m2,h4,h5⟩|⟨x1,m1,v1,st1,h5,h6,h7⟩|⟨x1,m1,v1,h4,h5,-⟩
   ·rw[h4]at e0;cases e0
   ·rw[h4]at e0
    injection e0 with e0
    injection e0 with i1 i2 i3 i4
    have:=ym (.inl i4.symm);exact⟨_,_,_,_,by rw[h2,h5],fun _=>by omega⟩
   ·exact⟨_,_,_,_,by rw[h2,h5],fun hs=>by rcases hs with hs|hs<;>contradiction⟩
   ·rw[h4]at e0
    injection e0 with e0
    injection e0 with i1 i2 i3 i4
    have:=ym (.inl i4.symm);exact⟨_,_,_,_,by rw[h2,h5],fun _=>by omega⟩
 ·rcases mT r with h|⟨c,h1,h2,h3⟩
  ·exact⟨.inl (yo r b p h hb).1,(yo r b p h hb).2⟩
  ·obtain⟨x,m,st,e,hs⟩:=hv
   obtain⟨x',m',tR,e',km⟩:=yx;rw[h2]at e';obtain rfl:=Sbs e'
   rcases h3 with ⟨h4,-⟩|⟨x1,m1,v1,x2,m2,h4,h5⟩|⟨x1,m1,v1,st1,h5,h6,h7⟩|⟨x1,m1,v1,h4,h5,h6⟩
   ·rw[h4]at e;cases e
   ·rw[h4]at e
    injection e with e
    injection e with i1 i2 i3 i4
    injection h5 with j1 j2 j3 j4
    omega
   ·injection h5 with j1 j2 j3 j4
    rw[j4]at km
    rcases km with hs|hs
    ·exact absurd hs h6
    ·exact absurd hs h7
   ·exact⟨.inr (h6 b p hb).1,(h6 b p hb).2⟩
 ·rcases mT r with h|⟨c,h1,h2,h3⟩
  ·obtain⟨x,e⟩:=hl
   rw[eB u σ _ h]at e;exact⟨⟨x,e⟩,fun b p hb=>(yo r b p h hb).1⟩
  ·obtain⟨x,e⟩:=hl
   rw[h2]at e;obtain rfl:=Sbs e;obtain⟨x0,m0,v0,st0,e0,ym⟩:=hk
   rcases h3 with ⟨h4,-⟩|⟨x1,m1,v1,x2,m2,h4,h5⟩|⟨x1,m1,v1,st1,h5,h6,h7⟩|⟨x1,m1,v1,h4,h5,-⟩
   ·rw[h4]at e0;cases e0
   ·rw[h4]at e0
    injection e0 with e0
    injection e0 with i1 i2 i3 i4
    injection h5 with j1 j2 j3 j4
    have:=ym (.inl i4.symm);omega
   ·injection h5 with j1 j2 j3 j4
    exact absurd j4.symm h6
   ·injection h5 with j1 j2 j3 j4
    cases j4
def lJ (f:Nat->List Nat->Ow):Ow->Ow
 |.slc s p=>f s p
 |o=>o
theorem R.own (h:R E.ntmps F σ ρ a w G)(hd:eU E.ntmps o){sv:SV}{v:Value}{ur:List (Nat×aP)}{f:Nat->List Nat->Ow}{wr:Nat->Prop}
  (hu:∀ k c,(k,c)∈ur->∃ r,k=kR r)
  (bz:∀ b,b<w.heap.size->G'.own b=lJ f (G.own b)) (yd:∀ b,w'.heap.size<=b->G'.own b=.frz)
  (mw:w'.os=w.os/\w'.tape=w.tape/\w'.output=w.output/\w.heap.size<=w'.heap.size)
  (uc:∀ b,w.heap.size<=b->G'.own b=.frz\/∃ r p,G'.own b=.slc r p/\σ (kR r)=none)
  (cI:∀ b,b<w.heap.size->¬ wr b->w'.heap[b]?=w.heap[b]?) (hwr:∀ b,wr b->∃ r p,G.own b=.slc r p/\∃ c,(kR r,c)∈ur)
  (yo:∀ b r p,G.own b=.slc r p->(∀ c,(kR r,c)∉ur)->f r p=.slc r p)
  (xq:∀ r c,(kR r,c)∈ur->upds σ (dM o g sv++ur) (kR r)=some c->Chg σ G w G' w' r c)
  (oT:∀ r x m k,σ (kR r)=some (.root x m k .frozen)->∀ s p q,f s p=.slc r q->s=r/\p=q)
  (td:∀ r,(σ (kR r)).isSome->G'.hdr r=G.hdr r) (gw:G'.bx=G.bx)
  (eM:Fr σ G w (upds σ (dM o g sv++ur)) G' w'->gOn ρ g=true->bV (upds σ (dM o g sv++ur)) ρ G' w' sv v)
  (fx:Fr σ G w (upds σ (dM o g sv++ur)) G' w'->∀ r c,(kR r,c)∈ur->upds σ (dM o g sv++ur) (kR r)=some c->∃ x m b9 st,c=.root x m b9 st/\bP (upds σ (dM o g sv++ur)) ρ G' w' r x m st) :
  R E.ntmps F (upds σ (dM o g sv++ur)) ρ (a.put o.dst v) w' G':=by
 have lp:=Gad o g sv
 have kb:∀ r c,(kR r,c)∈dM o g sv++ur->(kR r,c)∈ur:=by
  intro r c hc
  rcases Sbd.1 hc with hc|hc
  ·obtain⟨t,e⟩:=lp _ _ hc
   exact absurd e.symm gW
  ·exact hc
 have mN:∀ b r p,G.own b=.slc r p->b<w.heap.size:=fun b r p hb=>by
  rcases Sbh b w.heap.size with h1|h1
  ·exact h1
  ·rw[h.frame.fresh b h1]at hb;cases hb
 have qo:∀ b,b<w.heap.size->(∀ r p,G.own b≠.slc r p)->G'.own b=G.own b/\w'.heap[b]?=w.heap[b]?:=fun b aw hb=>by
  refine⟨?_,cI b aw fun hw=>?_⟩
  ·rw[bz b aw]
   unfold lJ;split
   ·rename_i s p e
    exact absurd e (hb s p)
   ·rfl
  ·obtain⟨r,p,e,-⟩:=hwr b hw
   exact hb r p e
 have fj:Fr σ G w (upds σ (dM o g sv++ur)) G' w':=by
  refine Fr.of (fun b hb aw=>?_) (fun r b p iz hb=>?_) (fun r c hc ig=>xq r c (kb r c hc) ig) (fun r x m k hk b p hb=>?_) td (fun b _=>by rw[gw])
  ·obtain⟨h1,h2⟩:=qo b aw (by rw[hb];simp)
   exact⟨h1.trans hb,h2⟩
  ·have aw:=mN b r p hb
   have xb:∀ c,(kR r,c)∉ur:=fun c hc=>iz c (Rb0 _ hc)
   refine⟨by rw[bz b aw,hb];exact yo b r p hb xb,cI b aw fun hw=>?_⟩;obtain⟨r',p',e,c,hc⟩:=hwr b hw;rw[hb]at e
   injection e with e1 e2
   subst e1;exact xb c hc
  ·rcases Sbh b w.heap.size with aw|aw
   ·rw[bz b aw]at hb
    cases e:G.own b with
    | slc s q =>
     rw[e]at hb;obtain⟨rfl,rfl⟩:=oT r x m k hk s q p hb;rfl
    |_=>rw[e]at hb;exact hb
   ·rcases uc b aw with e|⟨r',p',e,hn⟩
    ·rw[e]at hb;cases hb
    ·rw[e]at hb
     injection hb with e1 e2
     subst e1;rw[hn]at hk;cases hk
 refine h.upd _ fj (by rw[zT];exact h.tmps) (by rw[put_defers];exact h.defers) ?_ (fun t ht=>Da1 ht) (fun b ro bs hb _=>?_) (fun b bs hb aw ho=>?_) (fun k c hk kk=>?_)
 ·obtain⟨e1,e2,e3,e4⟩:=mw
  refine⟨e1.trans h.frame.os,e2.trans h.frame.tape,e3.trans h.frame.output,by have:=h.frame.size;omega,fun b aw hf=>?_,fun b j aw hj=>?_,yd⟩
  ·obtain⟨h1,h2⟩:=h.frame.keep b aw hf
   obtain⟨h3,h4⟩:=qo b (by have:=h.frame.size;omega) (fun r p e=>by
    rw[e]at h2;rw[<- h2]at hf
    rcases hf with hf|hf<;>cases hf)
   exact⟨h4.trans h1,h3.trans h2⟩
  ·obtain⟨h1,c0,c1,e,fr,h2,h3,h4⟩:=h.frame.boxes b j aw hj
   obtain⟨h5,h6⟩:=qo b (by have:=h.frame.size;omega) (by rw[h1];simp);exact⟨h5.trans h1,c0,c1,e,fr,h2,h6.trans h3,h4⟩
 ·obtain⟨_,h2,h3⟩:=h.box hb
  rcases Sbh (G.bx b).block w.heap.size with aw|aw
  ·exact qo _ aw (by rw[h2];split<;>simp)
  ·rw[h.frame.fresh _ aw]at h2
   split at h2<;>cases h2
 ·rcases Sbd.1 hb with hb|hb
  ·obtain⟨t,e⟩:=lp _ _ hb
   exact absurd e.symm kK
  ·obtain⟨r,e⟩:=hu _ _ hb
   exact absurd e eO
 ·rcases Sbd.1 hk with hk|hk
  ·obtain⟨d,nh,rfl,rfl⟩:=wN hk
   refine⟨d,rfl,fun hg=>?_⟩;rw[nh,mX _ _ _ _ _ (hd d nh) h.tmps];exact eM fj hg
  ·obtain⟨r,rfl⟩:=hu _ _ hk
   obtain⟨x,m,b9,st,rfl,qx⟩:=fx fj r c hk kk;exact⟨r,rfl,by rw[kk];rfl,qx⟩
end
section
variable {P:Program} {E:Env} {F:bE} {n:Nat} {σ:Nat->Option aP} {ρ:List D} {a:Act} {w w':World} {G G':Gh} {g:Option (aJ×Bool)} {o:Oper} {cf:Nat->List D->Option (List D)} {Q:Exit->Act->World->Prop} {next:Act->World->Prop}
inductive Ga2 (σ:Nat->Option aP) (ρ:List D) (G:Gh) (w:World) (pu:Put) (off:Nat) (v:Value) (x:aJ):Prop
 |sc (h:Sc v (x.val ρ))
 |nil (z:Nat) (hx:x.val ρ=.rows z []) (hv:v=.slice none 0 0)
 |mv (r m b9:Nat) (hm:(off,r,m)∈pu.moves) (hr:σ (kR r)=some (.root x m b9 .live)) (hv:v=G.hdr r) (hd:pu.depth<=m)
 |hole (r k m:Nat) (q:List (aJ×Nat×Nat)) (hm:(off,r,q)∈pu.holes) (hl:wT σ r k m) (hq:q.length+1<=m) (fX:Rp G.own w r (bA ρ q) (m-q.length) v (x.val ρ)) (hn:wW G.own w r [] (G.hdr r) (bA ρ q) v) (hd:pu.depth<=m-q.length)
 |fz (hd:pu.depth=0) (h:Rd (fun b=>G.own b=.frz\/∃ r p,r∈pu.frz/\G.own b=.slc r p) w v (x.val ρ))
theorem Ga2.left {A B:Put}{off:Nat}{v:Value}{x:aJ}(h:Ga2 σ ρ G w A off v x):Ga2 σ ρ G w ⟨A.xs++B.xs,A.moves++B.moves,A.holes++B.holes,A.frz++B.frz,min A.depth B.depth⟩ off v x:=by
 cases h with
 |sc h=>exact .sc h
 |nil z hx hv=>exact .nil z hx hv
 |mv r m b9 hm hr hv hd=>exact .mv r m b9 (Rbx _ hm) hr hv (by dsimp only;omega)
 |hole r k m q hm hl hq fX hn hd=>exact .hole r k m q (Rbx _ hm) hl hq fX hn (by dsimp only;omega)
 |fz hd h=>exact .fz (by dsimp only;omega) (h.mono fun b hb=>⟨hb.imp id fun ⟨r,p,h1,h2⟩=>⟨r,p,Rbx _ h1,h2⟩,rfl⟩)
theorem Ga2.right {A B:Put}{off:Nat}{v:Value}{x:aJ}(h:Ga2 σ ρ G w B off v x):Ga2 σ ρ G w ⟨A.xs++B.xs,A.moves++B.moves,A.holes++B.holes,A.frz++B.frz,min A.depth B.depth⟩ off v x:=by
 cases h with
 |sc h=>exact .sc h
 |nil z hx hv=>exact .nil z hx hv
 |mv r m b9 hm hr hv hd=>exact .mv r m b9 (Rb0 _ hm) hr hv (by dsimp only;omega)
 |hole r k m q hm hl hq fX hn hd=>exact .hole r k m q (Rb0 _ hm) hl hq fX hn (by dsimp only;omega)
 |fz hd h=>exact .fz (by dsimp only;omega) (h.mono fun b hb=>⟨hb.imp id fun ⟨r,p,h1,h2⟩=>⟨r,p,Rb0 _ h1,h2⟩,rfl⟩)
theorem Paj (hR:R E.ntmps F σ ρ a w G){mv e9:Bool}{off:Nat}{l:aO}{pu:Put}(h:(Pak mv e9 off l).eval σ=some pu){v:Value}(hl:aB σ ρ G w l v) :
  ∃ x,pu.xs=[x]/\Ga2 σ ρ G w pu off v x/\(∀ z∈pu.moves,z.1=off/\∃ x b9,σ (kR z.2.1)=some (.root x z.2.2 b9 .live))/\(∀ z∈pu.holes,z.1=off):=by
 unfold Pak at h;split at h
 ·rename_i x
  simp only[aC,Rbv]at h;subst h;simp only[aB]at hl;exact⟨x,rfl,.sc hl,by simp,by simp⟩
 ·rename_i r
  simp only[aA,aS,Rb1]at h;simp only[aB]at hl;split at h
  ·rename_i x m b9 hk
   cases mv with
   | true =>
    simp only[cond_true,aC,Rbv]at h;subst h;refine⟨x,rfl,.mv r m b9 (by simp) hk hl.1 (Sbg _),fun z hz=>?_,by simp⟩;simp only[Rby]at hz;subst hz;exact⟨rfl,x,b9,hk⟩
   | false =>
    simp only[cond_false,aC,Rbv]at h;subst h;refine⟨x,rfl,.fz rfl ?_,by simp,by simp⟩;have:=hR.root hk;simp only[bP]at this;rw[<- hl.1]at this;exact this.rd.mono fun b hb=>⟨hb.imp id fun ⟨q,hq⟩=>⟨r,q,by simp,hq⟩,rfl⟩
  ·rename_i x m b9 hk
   simp only[aC,Rbv]at h;subst h;refine⟨x,rfl,.fz rfl ?_,by simp,by simp⟩;have:=(hR.root hk).1;rw[<- hl.1]at this;exact this.mono fun b hb=>⟨.inl hb,rfl⟩
  ·cases h
 ·rename_i deps p nie x
  split at h
  ·rename_i z
   simp only[aC,Rbv]at h;subst h;refine⟨_,rfl,.nil z rfl ?_,by simp,by simp⟩;simp only[aB]at hl;exact (hl.2 (by simp)).2.1 trivial z rfl
  ·rename_i dk
   simp only[aA,Rbt]at h;obtain⟨s,h1,h⟩:=h;have hs:=dN hR h1 hl
   have hx:s.x=x:=by
    unfold wB at h1;simp only[aA,Rbt]at h1;obtain⟨ds,-,h3⟩:=h1;split at h3
    ·simp only[aC,Rbv]at h3;rw[<- h3]
    ·simp only[aA,aS,Rb1]at h3
     split at h3
     ·simp only[aC,Rbv]at h3;rw[<- h3]
     ·cases h3
    ·simp only[aC,Rbv]at h3;rw[<- h3]
   have kg:∀ frz:List Nat,(∀ z∈s.deps,z.1∈frz)->Rd (fun b=>G.own b=.frz\/∃ r p,r∈frz/\G.own b=.slc r p) w v (x.val ρ):=by
    intro frz hz;have:=hs.rd;rw[hx]at this;exact this.mono fun b hb=>⟨hb.imp id fun ⟨r,k,p,h2,h3⟩=>⟨r,p,hz _ h2,h3⟩,rfl⟩
   split at h
   ·rename_i r k m q ho
    have bz:=hs.own;unfold tJ at bz;rw[ho]at bz;obtain⟨h2,h3,h4,h5,h6⟩:=bz;rw[hx]at h5
    cases hb:(e9&&Nat.ble (q.length+1) m) with
    | true =>
     rw[hb]at h;simp only[cond_true,aC,Rbv]at h;subst h;simp only[Rbu,Tbc]at hb;refine⟨x,rfl,.hole r k m q (by simp) h3 hb.2 h5 h6 (Sbg _),by simp,by simp⟩
    | false =>
     rw[hb]at h;simp only[cond_false,aC,Rbv]at h;subst h;refine⟨x,rfl,.fz rfl (kg _ fun z hz=>?_),by simp,by simp⟩;rw[h2]at hz;simp only[Rby]at hz;subst hz;simp
   ·simp only[aC,Rbv]at h
    subst h;exact⟨x,rfl,.fz rfl (kg _ fun z hz=>Tbi hz),by simp,by simp⟩
 ·cases h
theorem rJ (hR:R E.ntmps F σ ρ a w G){mv e9:Bool}:∀ {ls:List aO} {off:Nat} {pu:Put},(pW mv e9 off ls).eval σ=some pu->∀ {vs:List Value},aG σ ρ G w ls vs ->
  pu.xs.length=ls.length/\(∀ j v x,vs[j]?=some v->pu.xs[j]?=some x->Ga2 σ ρ G w pu (off+j) v x) /\
  (∀ z∈pu.moves,off<=z.1/\z.1<off+ls.length/\∃ x b9,σ (kR z.2.1)=some (.root x z.2.2 b9 .live))
 | [], off, pu, h, vs, hl => by
  simp only[pW,aC,Rbv]at h;subst h;exact⟨rfl,by simp,by simp⟩
 | l :: ls, off, pu, h, vs, hl => by
  simp only[pW,aA,Rbt,aC,Rbv]at h;obtain⟨A,h1,B,h2,rfl⟩:=h;simp only[aG]at hl;obtain⟨u,us,rfl,h3,h4⟩:=hl;obtain⟨x,h5,h6,h7,-⟩:=Paj hR h1 h3;obtain⟨h8,h9,du⟩:=rJ hR h2 h4;refine⟨by simp[h5,h8],fun j v y hv hy=>?_,fun z hz=>?_⟩
  ·rw[h5]at hy
   cases j with
   | zero =>
    simp only[Rb2,Rbv,Ubd]at hv hy;subst hv hy;exact h6.left
   | succ j =>
    simp only[Sb4,Ubd]at hv hy;have:=(h9 j v y hv hy).right (A:=A);rwa[show off+1+j=off+(j+1) by omega]at this
  ·simp only[Sbm]
   rcases Sbd.1 hz with hz|hz
   ·obtain⟨e,eC⟩:=h7 z hz
    exact⟨by omega,by omega,eC⟩
   ·obtain⟨e1,e2,eC⟩:=du z hz
    exact⟨by omega,by omega,eC⟩
theorem fQ:∀ {rs:List Nat} {fr:List (Nat×aP)},(dK rs).eval σ=some fr ->
  (∀ r∈rs,(∃ x m b9,σ (kR r)=some (.root x m b9 .live)/\(kR r,aP.root x m b9 .frozen)∈fr)\/∃ x m b9,σ (kR r)=some (.root x m b9 .frozen)) /\
  (∀ k c,(k,c)∈fr->∃ r∈rs,∃ x m b9,k=kR r/\c=.root x m b9 .frozen/\σ (kR r)=some (.root x m b9 .live))
 | [], fr, h => by
  simp only[dK,aC,Rbv]at h;subst h;simp
 | r :: rs, fr, h => by
  simp only[dK,aA,aS,Rb1]at h;split at h
  ·rename_i x m b9 hk
   simp only[aA,Rbt,aC,Rbv]at h;obtain⟨l,h1,rfl⟩:=h;obtain⟨h2,h3⟩:=fQ h1;refine⟨fun s hs=>?_,fun k c hc=>?_⟩
   ·rcases Rb4.1 hs with rfl|hs
    ·exact .inl ⟨x,m,b9,hk,Sbe⟩
    ·rcases h2 s hs with ⟨x',m',v',h4,h5⟩|h4
     ·exact .inl ⟨x',m',v',h4,Rb7 _ h5⟩
     ·exact .inr h4
   ·rcases Rb4.1 hc with hc|hc
    ·obtain⟨rfl,rfl⟩:=Ubb hc
     exact⟨r,Sbe,x,m,b9,rfl,rfl,hk⟩
    ·obtain⟨s,hs,h4⟩:=h3 k c hc
     exact⟨s,Rb7 _ hs,h4⟩
  ·rename_i x m b9 hk
   obtain⟨h2,h3⟩:=fQ h;refine⟨fun s hs=>?_,fun k c hc=>?_⟩
   ·rcases Rb4.1 hs with rfl|hs
    ·exact .inr ⟨x,m,b9,hk⟩
    ·exact h2 s hs
   ·obtain⟨s,hs,h4⟩:=h3 k c hc
    exact⟨s,Rb7 _ hs,h4⟩
  ·cases h
end
theorem kY {l:List Nat}{n:Nat}:has l n=true↔n∈l:=by
 unfold has;simp only[List.any_eq_true,Sbq];constructor
 ·rintro⟨x,h,rfl⟩;exact h
 ·exact fun h=>⟨n,h,rfl⟩
theorem yD {l:List Nat}{n:Nat}:has l n=false↔n∉l:=by
 rw[<- kY];simp
theorem rW:∀ {l:List (Nat×Nat×Nat)},distinct (l.map (·.2.1))=true->∀ z∈l,l.find? (fun y=>Nat.beq y.2.1 z.2.1)=some z
 |[],_,z,hz=>by simp at hz
 | y :: l, h, z, hz => by
  simp only[Sbk,distinct,Rbu,Sbl]at h;rw[List.find?_cons]
  rcases Rb4.1 hz with rfl|hz
  ·have:Nat.beq z.2.1 z.2.1=true:=by simp
   rw[this]
  ·have:Nat.beq y.2.1 z.2.1=false:=by
    cases e:Nat.beq y.2.1 z.2.1 with
    |false=>rfl
    | true =>
     simp only[Sbq]at e;have h1:=yD.1 h.1;rw[e]at h1;exact absurd (Tbi (f:=fun x:Nat×Nat×Nat=>x.2.1) hz) h1
   rw[this];exact rW h.2 z hz
theorem Fa4 {l:List (Nat×Nat×Nat)}{s:Nat}(h:s∉l.map (·.2.1)):l.find? (fun y=>Nat.beq y.2.1 s)=none:=by
 rw[List.find?_eq_none];intro x hx;simp only[Sbq];intro e;exact h (e▸Tbi (f:=fun x:Nat×Nat×Nat=>x.2.1) hx)
section
variable {P:Program} {E:Env} {F:bE} {n:Nat} {σ:Nat->Option aP} {ρ:List D} {a:Act} {w w':World} {G G':Gh} {g:Option (aJ×Bool)} {o:Oper} {cf:Nat->List D->Option (List D)} {Q:Exit->Act->World->Prop} {next:Act->World->Prop}
theorem Rd.nil {ok:Nat->Prop}{z:Nat}:Rd ok w (.slice none 0 0) (.rows z []) :=
 .rows none ⟨0,0,none⟩ 0 0 _ [] (fun _ _=>undef) rfl (Sbg _) (.inl rfl) (by simp) (by simp) (by simp)
theorem Rp.nil {own:Nat->Ow}{r:Nat}{p:List Nat}{m z:Nat}:Rp own w r p m (.slice none 0 0) (.rows z []):=by
 cases m with
 |zero=>exact .fz Rd.nil
 |succ m=>exact .sl none ⟨0,0,none⟩ 0 0 _ [] (fun _ _=>undef) rfl (Sbg _) (.inr ⟨rfl,rfl⟩) (by simp) (by simp) (by simp) (by simp)
theorem Ga2.rp (hR:R E.ntmps F σ ρ a w G){pu:Put}{off:Nat}{v:Value}{x:aJ}(h:Ga2 σ ρ G w pu off v x){own':Nat->Ow}{R:Nat}{path:List Nat}{m1:Nat}(hd:m1<=pu.depth)
  (hz:∀ b,G.own b=.frz->b<w.heap.size->own' b=.frz/\w'.heap[b]?=w.heap[b]?)
  (hmv:∀ s m,(off,s,m)∈pu.moves->∀ b t,G.own b=.slc s t->own' b=(if t.length<m1 then .slc R (path++t) else .frz)/\w'.heap[b]?=w.heap[b]?)
  (zq:∀ s q,(off,s,q)∈pu.holes->∀ b t,G.own b=.slc s (bA ρ q++t)->own' b=(if t.length<m1 then .slc R (path++t) else .frz)/\w'.heap[b]?=w.heap[b]?)
  (kg:∀ s∈pu.frz,∀ b p,G.own b=.slc s p->own' b=.frz/\w'.heap[b]?=w.heap[b]?):Rp own' w' R path m1 v (x.val ρ):=by
 cases h with
 |sc h=>exact .sc h
 |nil z hx hv=>rw[hx,hv];exact Rp.nil
 | mv r m b9 hm hr hv nh =>
  have:=hR.root hr;simp only[bP]at this;rw[hv];exact this.move hz path m1 (by omega) fun b t hb=>hmv r m hm b t (by simpa using hb)
 |hole r k m q hm hl hq fX hn nh=>exact fX.move hz path m1 (by omega) fun b t hb=>zq r q hm b t hb
 | fz nh h =>
  obtain rfl:m1=0:=by omega
  refine .fz (h.mono' fun b hb aw=>?_)
  rcases hb with hb|⟨r,p,h1,h2⟩
  ·exact hz b hb aw
  ·exact kg r h1 b p h2
def wP (R M:Nat)(p:List Nat):Ow:=if p.length<M then .slc R p else .frz
def jV (pu:Put)(r m':Nat)(pv:List Nat)(base:Nat)(s:Nat)(p:List Nat):Ow :=
 bif has pu.frz s then .frz else match pu.moves.find? (fun y=>Nat.beq y.2.1 s) with
  |some z=>wP r m' ((pv++[base+z.1])++p)
  |none=>if s=r then wP r m' p else .slc s p
theorem dE {B o:Nat}{vs:List Value}{b:Addr}(hb:b.block=B->b.spot=none)(hex:∀ j,j<vs.length->(w.cell? ⟨B,o+j,none⟩).isSome=true){u:Value}(hc:w.cell? b=some u) :
  ∃ u',(w.setCells B o vs).cell? b=some u':=by
 by_cases kb:b.block=B/\o<=b.off/\b.off<o+vs.length
 ·obtain⟨h1,h2,h3⟩:=kb
  have:=World.cell?_setCells_in B vs o w hex (b.off-o) (by omega);have hs:=hb h1;rw[show o+(b.off-o)=b.off by omega]at this;have eJ:b=⟨B,b.off,none⟩:=by cases b;simp only at h1 hs;subst h1 hs;rfl
  exact⟨vs[b.off-o]'(by omega),(congrArg (fun x=>(w.setCells B o vs).cell? x) eJ).trans this⟩
 ·rw[World.cell?_setCells_out B vs o w b fun e1 e2=>by
   rcases Sbh b.off o with h|h
   ·exact .inl h
   ·refine .inr ?_
    rcases Sbh b.off (o+vs.length) with h'|h'
    ·exact absurd ⟨e1,h,h'⟩ kb
    ·exact h']
  exact⟨u,hc⟩
theorem Haa (hR:R E.ntmps F σ ρ a w G)(hti:tQ P E.ti){nv:Nat}{mv e9:Bool}{t:TypeId}{x y:Operand}(ho:o.op=.store t x y){ti:TI}(hi:E.ti t=some ti){l:aO}{sz:Nat}{i:aJ}{off:Nat}{ls:List aO}{sv:SV}
  (hx:gOn ρ g=true->aB σ ρ G w (.pe l sz i off) (a.eval x)) (hy:gOn ρ g=true->bV σ ρ G w sv (a.eval y)) (qT:jF ti.agg sv=some ls) {res:bM}
  (h:(Ban nv mv e9 o g ti (.pe l sz i off) ls).eval σ=some res) (cj:aK cf ρ g nv res.lets):fZ P E F σ ρ a w g o Q res.upd:=by
 simp only[Ban,aA,aI,Rbt,aS,Rb1]at h;obtain⟨_,h1,_,h2,s,h3,h⟩:=h;split at h1
 case isFalse=>cases h1
 rename_i np;simp only[Rbu,Sbq,Ubi]at np;obtain⟨hlen,q6⟩:=np;split at h2
 case isFalse=>cases h2
 rename_i yz;obtain rfl:=uL yz;split at h
 case h_2=>cases h
 rename_i r k m q bz;simp only[aA,aI,Rbt,aS,Rb1]at h;obtain⟨_,h4,h⟩:=h;split at h4
 case isFalse=>cases h4
 rename_i hqm;simp only[Tbc]at hqm;split at h
 case h_2=>cases h
 rename_i X m0 b9 hk;simp only[aA,aI,Rbt]at h;obtain⟨pu,h5,fr,h6,_,h7,h⟩:=h;split at h7
 case isFalse=>cases h7
 rename_i rl;simp only[Rbu,Sbl,Tb1,Ub5]at rl;obtain⟨⟨⟨⟨fj,hmr⟩,zq⟩,oh⟩,hmf⟩:=rl;simp only[aC,Rbv]at h;subst h;refine⟨fun hg=>?_,fun hg=>by simp[gOn]at hg⟩;obtain⟨info,u,f⟩:=aX (hti.ok _ _ hi);have hl:=gT qT (hy hg);obtain⟨pj,mo,hmvs⟩:=rJ hR h5 hl;obtain⟨ue,sY⟩:=fQ h6;have hpe:=hx hg;simp only[aB]at hpe;obtain⟨c,n,cap,ik,iv,hp1,hp2,hp3,hp4,hp5⟩:=hpe;have ir:=dN hR h3 hp1;have n9:=ir.own;unfold tJ at n9;rw[bz]at n9;obtain⟨-,⟨X0,lA⟩,-,fX,lz⟩:=n9;rw[hk]at lA
 obtain⟨rfl,rfl,rfl⟩:X=X0/\m0=m/\b9=k:=by
  injection lA with e;injection e with e1 e2 e3 e4;exact⟨e1,e2,e3⟩
 have fx:=hR.root hk;simp only[bP]at fx;obtain⟨d1,iS,qy⟩:=zW cj.1 hg;have mz:aK cf ρ none (nv+1) (Ja8 (nv+1) X q (.v nv)).1:=cj.2;have og:=zX hg q (nv+1) X (.v nv) mz;simp only[Tb6,Tba,Sbk]at iS;obtain⟨rs,ik',iv',row,e1,e2,e3,e4,e5,e6,e7⟩:=Pac iS;rw[hp2]at e2;obtain⟨rfl,rfl⟩:ik=ik'/\iv=iv':=by injection e2 with a b;exact⟨a,b⟩
 simp only[Tbj,and_true]at e7;simp only[Sbr]at e6;rw[e1]at fX;have u7:(bA ρ q).length=q.length:=by simp[bA]
 generalize zm:bA ρ q=pv at og fX lz u7;obtain⟨md,hmd⟩:∃ md,m0-q.length=md+1:=⟨m0-q.length-1,by omega⟩;rw[hmd]at fX;obtain⟨A,c',n',jl,vs0,i1,i2,i3,i4,i5,i6,i7,i8⟩:=fX.sl_inv;obtain⟨rfl,rfl,rfl⟩:A=some c/\n'=n/\jl=cap:=by injection i1 with a b c;exact⟨a.symm,b.symm,c.symm⟩
 have hcc:c'=c:=by
  rcases i4 with i4|⟨i4,-⟩
  ·exact (Sbs i4).symm
  ·cases i4
 subst hcc;obtain⟨jd,mc,ez⟩:=i6 rfl;have gq:row.length=sz:=i5 row (Sba e4);generalize iw:(a.eval y).cells.toList=vs at hl mo;have lP:vs.length=ls.length:=hl.len
 have iu:∀ j,j<vs.length->∃ u,w.cell? ⟨c'.block,c'.off+(iv.toNat*sz+off)+j,none⟩=some u/\w.frozen? ⟨c'.block,c'.off+(iv.toNat*sz+off)+j,none⟩=false:=by
  intro j hj
  have kk:iv.toNat*sz+off+j<jl*sz:=by
   have h1:(iv.toNat+1)*sz<=jl*sz:=Sbt _ (by omega);rw[Tbd]at h1;omega
  obtain⟨u,h1,h2⟩:=ez _ kk;rw[add_plain jd]at h1 h2;rw[Sbf];exact⟨u,h1,uX h2 rfl⟩
 have cr:(execOp a.eval o).run P w=.ok .skip (w.setCells c'.block (c'.off+(iv.toNat*sz+off)) vs):=by
  unfold execOp;simp only[ho]
  have:=Cav (P:=P) (w:=w) f (b:=c'.block) (off:=c'.off+(iv.toNat*sz+off)) (v:=a.eval y) (by rw[iw];omega)
   (fun j hj=>by
    obtain⟨v,h6,-⟩:=iu j (by omega);exact⟨v,h6⟩)
   (fun j hj=>by
    obtain⟨v,-,h6⟩:=iu j (by omega)
    exact h6) (by
    rw[iw];intro v hv;obtain⟨j,hj⟩:=Tbe.1 hv;have ni:j<pu.xs.length:=by rw[pj,<- lP];exact (Rbw.1 hj).1
    cases mo j v _ hj (Rbz ni) with
    |sc h=>exact h.one
    |nil z _ h=>rw[h];rfl
    | mv r m b9 hm hr hv hd =>
     have:=hR.root hr;simp only[bP]at this;rw[hv];exact this.one
    |hole r k m q hm hl hq fX hn hd=>exact fX.one
    |fz _ h=>exact h.one)
  simp only[Instr.storeAt,Instr.sureAddr,Sem.run_bind,hp5,Sem.run_pure,Result.andThen_ok,add_plain jd,this,iw]
 generalize qc:min m0 (q.length+1+pu.depth)=m';generalize wg:w.setCells c'.block (c'.off+(iv.toNat*sz+off)) vs=w' at cr;have cI:∀ b,b≠c'.block->w'.heap[b]?=w.heap[b]?:=fun b hb=>by rw[<- wg];exact bC _ _ _ _ _ hb
 refine Qak cr ⟨{ G with own:=fun b=>lJ (jV pu r m' pv (iv.toNat*sz)) (G.own b) },?_⟩;rw[q6]
 have vh:∀ s,s∈pu.frz->∀ p,jV pu r m' pv (iv.toNat*sz) s p=.frz:=fun s hs p=>by
  unfold jV;rw[kY.2 hs,cond_true]
 have hrm:r∉pu.moves.map (·.2.1):=by
  intro hh;obtain⟨z,hz,e⟩:=Sb7.1 hh;have:=hmr z hz;simp[e]at this
 have hrF:∀ p,jV pu r m' pv (iv.toNat*sz) r p=wP r m' p:=fun p=>by
  unfold jV;rw[fj,cond_false,Fa4 hrm];simp
 have hmF:∀ z∈pu.moves,∀ p,jV pu r m' pv (iv.toNat*sz) z.2.1 p=wP r m' ((pv++[iv.toNat*sz+z.1])++p):=fun z hz p=>by
  unfold jV
  have:has pu.frz z.2.1=false:=by
   have:=hmf z hz;simpa using this
  rw[this,cond_false,rW oh z hz]
 have nu:∀ b,G.own b=.frz->b<w.heap.size->lJ (jV pu r m' pv (iv.toNat*sz)) (G.own b)=.frz/\w'.heap[b]?=w.heap[b]?:=fun b hb aw=>by
  refine⟨by rw[hb];rfl,cI b fun e=>?_⟩;rw[e,mc]at hb;cases hb
 have dk:∀ b s p,G.own b=.slc s p->s≠r->b≠c'.block:=fun b s p hb hs e=>by
  rw[e,mc]at hb
  injection hb with e1 e2
  exact hs e1.symm
 have u9:∀ s∈pu.frz,s≠r:=fun s hs e=>by
  have:=yD.1 fj;exact this (e▸hs)
 have a5h:∀ z∈pu.moves,z.2.1≠r:=fun z hz e=>hrm (e▸Tbi (f:=fun x:Nat×Nat×Nat=>x.2.1) hz)
 have eW:∀ {s:Nat} {c:aP},(kR s,c)∈(kR r,aP.root (Ja8 (nv+1) X q (.v nv)).2 m' (b9+1) .live)::(pu.moves.map fun z=>(kR z.2.1,aP.root (.c .hole) 0 0 .gone))++fr ->
   (s=r/\c=.root (Ja8 (nv+1) X q (.v nv)).2 m' (b9+1) .live)\/(∃ z∈pu.moves,s=z.2.1/\c=.root (.c .hole) 0 0 .gone) \/
   (s∈pu.frz/\∃ x m v,c=.root x m v .frozen/\σ (kR s)=some (.root x m v .live)):=by
  intro s c hc
  rcases Sbd.1 hc with hc|hc
  ·rcases Rb4.1 hc with hc|hc
   ·obtain⟨e1,e2⟩:=Ubb hc
    exact .inl ⟨eF e1,e2⟩
   ·obtain⟨z,hz,e⟩:=Sb7.1 hc
    obtain⟨e1,e2⟩:=Ubb e;exact .inr (.inl ⟨z,hz,(eF e1).symm,e2.symm⟩)
  ·obtain⟨s',km,x',oA,v',e1,e2,e3⟩:=sY _ _ hc
   obtain rfl:=eF e1;exact .inr (.inr ⟨km,x',oA,v',e2,e3⟩)
 have hdu:dM o none .dead=[]:=by unfold dM;rw[q6]
 have gS:=hR.own (o:=o) (g:=none) (fun d e=>by rw[q6]at e;cases e) (sv:=.dead) (v:=undef) (w':=w')
  (G':={ G with own:=fun b=>lJ (jV pu r m' pv (iv.toNat*sz)) (G.own b) }) (wr:=fun b=>b=c'.block)
  (ur:=(kR r,aP.root (Ja8 (nv+1) X q (.v nv)).2 m' (b9+1) .live)::(pu.moves.map fun z=>(kR z.2.1,aP.root (.c .hole) 0 0 .gone))++fr)
  (f:=jV pu r m' pv (iv.toNat*sz)) ?_ (fun b _=>rfl) ?_ ?_ ?_ (fun b _ hb=>cI b hb) ?_ ?_ ?_ ?_ (fun _ _=>rfl) rfl (fun _ _=>trivial) ?_
 ·rw[hdu,Tba,q6]at gS
  exact gS
 ·intro k c hc
  rcases Sbd.1 hc with hc|hc
  ·rcases Rb4.1 hc with hc|hc
   ·exact⟨r,(Ubb hc).1⟩
   ·obtain⟨z,hz,e⟩:=Sb7.1 hc
    exact⟨z.2.1,(Ubb e).1.symm⟩
  ·obtain⟨s',-,-,-,-,e1,-⟩:=sY _ _ hc
   exact⟨s',e1⟩
 ·intro b hb
  rw[<- wg,setCells_size]at hb;show lJ _ (G.own b)=.frz
  rw[hR.frame.fresh b hb];rfl
 ·obtain⟨j1,j2,j3⟩:=cB c'.block vs (c'.off+(iv.toNat*sz+off)) w
  rw[<- wg];exact⟨j1,j2,j3,by rw[setCells_size];exact Sbg _⟩
 ·intro b hb
  refine .inl ?_;show lJ _ (G.own b)=.frz
  rw[hR.frame.fresh b hb];rfl
 ·rintro b rfl
  exact⟨r,pv,mc,_,Rbx _ Sbe⟩
 ·intro b s p hb iz
  unfold jV
  have h1:has pu.frz s=false:=by
   rw[yD];intro hs
   rcases ue s hs with ⟨x',oA,v',-,h8⟩|⟨x',oA,v',h8⟩
   ·exact iz _ (Rb0 _ h8)
   ·exact (hR.root h8).2 b p hb
  have h2:s∉pu.moves.map (·.2.1):=by
   intro hh;obtain⟨z,hz,e⟩:=Sb7.1 hh;refine iz (.root (.c .hole) 0 0 .gone) (Rbx _ (Rb7 _ (Sb7.2 ⟨z,hz,?_⟩)));rw[e]
  have h3:s≠r:=fun e=>iz (.root (Ja8 (nv+1) X q (.v nv)).2 m' (b9+1) .live) (Rbx _ (by rw[e];exact Sbe))
  rw[h1,cond_false,Fa4 h2];simp[h3]
 ·intro s c hc _
  rcases eW hc with ⟨rfl,rfl⟩|⟨z,hz,rfl,rfl⟩|⟨hs,x',oA,v',rfl,h8⟩
  ·exact .inr (.inl ⟨_,_,_,_,_,hk,rfl⟩)
  ·exact .inr (.inr (.inl ⟨_,_,_,_,rfl,by simp,by simp⟩))
  ·refine .inr (.inr (.inr ⟨x',oA,v',h8,rfl,fun b p hb=>⟨?_,cI b (dk b s p hb (u9 s hs))⟩⟩))
   show lJ _ (G.own b)=.frz
   rw[hb];exact vh s hs p
 ·intro r0 x0 m1 k0 kg s p q' hF
  unfold jV at hF
  cases hh:has pu.frz s with
  |true=>rw[hh,cond_true]at hF;cases hF
  | false =>
   rw[hh,cond_false]at hF
   have y6:r0≠r:=by
    rintro rfl
    rw[hk]at kg
    injection kg with e;injection e with _ _ _ e;cases e
   split at hF
   ·unfold wP at hF
    split at hF
    ·injection hF with j1 j2;exact absurd j1.symm y6
    ·cases hF
   ·split at hF
    ·unfold wP at hF
     split at hF
     ·injection hF with j1 j2;exact absurd j1.symm y6
     ·cases hF
    ·injection hF with j1 j2;exact⟨j1,j2⟩
 ·intro hfr' s c hc _
  rcases eW hc with ⟨rfl,rfl⟩|⟨z,hz,rfl,rfl⟩|⟨hs,x',oA,v',rfl,h8⟩
  ·refine⟨_,_,_,_,rfl,?_⟩
   simp only[bP];obtain⟨m1,ou⟩:∃ m1,m'-q.length=m1+1:=⟨m'-q.length-1,by omega⟩
   have qj:∀ i' fy,(rs.set iv.toNat (row.take off++pu.xs.map (·.val ρ)++row.drop (off+ti.size)))[i']?=some fy->∀ j' d,fy[j']?=some d ->
     (i'=iv.toNat/\off<=j'/\j'<off+ls.length/\∃ x,pu.xs[j'-off]?=some x/\d=x.val ρ)\/(∃ row0,rs[i']?=some row0/\row0[j']?=some d/\¬ (i'=iv.toNat/\off<=j'/\j'<off+ls.length)):=by
    intro i' fy gy j' d jf
    have tW:row.take off++pu.xs.map (·.val ρ)++row.drop (off+ti.size)=setRange row off (pu.xs.map (·.val ρ)):=by
     unfold setRange;rw[Sbr,e6]
    rw[tW,Tb0]at gy;by_cases qd:iv.toNat=i'
    ·subst qd
     rw[if_pos rfl,if_pos (Rbw.1 e4).1]at gy;obtain rfl:=Sbs gy;rw[gQ (by rw[Sbr];omega),Sbr]at jf;split at jf
     ·rename_i kb
      rw[Sbx,Sbc]at jf;obtain⟨x,p6,qq⟩:=jf;exact .inl ⟨rfl,kb.1,by omega,x,p6,qq.symm⟩
     ·rename_i a1m
      exact .inr ⟨row,e4,jf,fun e=>a1m ⟨e.2.1,by omega⟩⟩
    ·rw[if_neg qd]at gy
     exact .inr ⟨fy,gy,jf,fun e=>qd e.1.symm⟩
   have ij:Rp (fun b=>lJ (jV pu s m' pv (iv.toNat*sz)) (G.own b)) w' s pv (m'-q.length) (.slice (some c') n' jl) ((aJ.v nv).val ρ):=by
    rw[qy,e7,ou];refine .sl _ c' n' jl sz _ (fun i' j'=>if i'=iv.toNat/\off<=j'/\j'<off+ls.length then vs.getD (j'-off) undef else vs0 i' j') (by simpa using i2) i3 (.inl rfl) (fun fy hr=>?_) (fun _=>⟨jd,?_,fun k hk=>?_⟩) (fun i' fy gy j' d jf=>?_) (fun i' fy gy j' d jf=>?_)
    ·rcases Ubq hr with hr|rfl
     ·exact i5 _ hr
     ·simp;omega
    ·show lJ _ (G.own c'.block)=_
     rw[mc];show jV pu s m' pv (iv.toNat*sz) s pv=_
     rw[hrF,wP,if_pos (by omega)]
    ·obtain⟨u0,rr,yt⟩:=ez k hk
     rw[<- wg,dU];obtain⟨u',hu'⟩:=dE (B:=c'.block) (o:=c'.off+(iv.toNat*sz+off)) (vs:=vs) (b:=c'.add k) (fun _=>by rw[add_plain jd]) (fun j hj=>by obtain⟨u1,h9,-⟩:=iu j hj;rw[h9];rfl) rr;exact⟨u',hu',yt⟩
    ·rcases qj i' fy gy j' d jf with ⟨rfl,h9,du,x0,eC,gi⟩|⟨row0,h9,du,eC⟩
     ·rw[if_pos ⟨rfl,h9,du⟩,<- wg,add_plain jd]
      have:=World.cell?_setCells_in c'.block vs (c'.off+(iv.toNat*sz+off)) w (fun j hj=>by obtain⟨u1,h9,-⟩:=iu j hj;rw[h9];rfl) (j'-off) (by omega);rw[show c'.off+(iv.toNat*sz+off)+(j'-off)=c'.off+(iv.toNat*sz+j') by omega]at this;rw[this,Rb5,Rbz (by omega)];rfl
     ·rw[if_neg eC,<- wg,World.cell?_setCells_out _ _ _ _ _ (fun _ _=>?_)]
      ·exact i7 _ _ h9 _ _ du
      ·rw[add_plain jd]
       dsimp only
       have vj:j'<sz:=by
        have:=(Rbw.1 du).1;rw[i5 row0 (Sba h9)]at this;exact this
       by_cases qd:i'=iv.toNat
       ·subst qd
        have:¬ (off<=j'/\j'<off+ls.length):=fun e=>eC ⟨rfl,e⟩
        omega
       ·rcases Nat.lt_or_gt_of_ne qd with aw|hgt
        ·refine .inl ?_
         have:=Sbt sz (show i'+1<=iv.toNat by omega);rw[Tbd]at this;omega
        ·refine .inr ?_
         have:=Sbt sz (show iv.toNat+1<=i' by omega);rw[Tbd]at this;omega
    ·rcases qj i' fy gy j' d jf with ⟨rfl,h9,du,x0,eC,gi⟩|⟨row0,h9,du,eC⟩
     ·rw[if_pos ⟨rfl,h9,du⟩,gi]
      have hv:vs[j'-off]?=some (vs.getD (j'-off) undef):=by
       rw[Rb5,Rbz (by omega)];rfl
      have th:=mo (j'-off) _ _ hv eC;rw[show off+(j'-off)=j' by omega]at th;refine th.rp hR (by omega) nu (fun s' m2 zp b t hb=>⟨?_,cI b (dk b s' t hb (a5h _ zp))⟩) (fun s' q' nw=>by rw[zq]at nw;simp at nw) (fun s' km b p hb=>⟨?_,cI b (dk b s' p hb (u9 s' km))⟩)
      ·show lJ _ (G.own b)=_
       rw[hb];show jV pu s m' pv (iv.toNat*sz) s' t=_
       rw[hmF (j',s',m2) zp,wP];simp only[Rb8,Tbl];by_cases ht:t.length<m1
       ·rw[if_pos ht,if_pos (by omega)]
       ·rw[if_neg ht,if_neg (by omega)]
      ·show lJ _ (G.own b)=_
       rw[hb];exact vh s' km p
     ·rw[if_neg eC]
      refine (i8 _ _ h9 _ _ du).move nu _ m1 (by omega) fun b t hb=>⟨?_,cI b fun e=>?_⟩
      ·show lJ _ (G.own b)=_
       rw[hb];show jV pu s m' pv (iv.toNat*sz) s _=_
       rw[hrF,wP];simp only[Rb8,Tbl];by_cases ht:t.length<m1
       ·rw[if_pos ht,if_pos (by omega)]
       ·rw[if_neg ht,if_neg (by omega)]
      ·rw[e,mc]at hb
       injection hb with _ e2
       have:=congrArg List.length e2;simp at this
   have:=Rp.upd (own':=fun b=>lJ (jV pu s m' pv (iv.toNat*sz)) (G.own b)) (w':=w') (r:=s) (M':=m') (full:=pv) nu (fun b t hb ht=>⟨?_,cI b fun e=>?_⟩) (by omega) (by rw[u7];exact ij) pv [] m0 (G.hdr s) _ _ rfl (by omega) (by simpa using fx) lz og
   ·simpa using this
   ·show lJ _ (G.own b)=_
    rw[hb];exact hrF t
   ·rw[e,mc]at hb
    injection hb with _ e2
    exact ht (e2▸List.prefix_rfl)
  ·exact⟨_,_,_,_,rfl,trivial⟩
  ·refine⟨x',oA,v',.frozen,rfl,?_,fun b p hb=>?_⟩
   ·have:=hR.root h8
    simp only[bP]at this;refine this.rd.mono' fun b hb aw=>?_
    rcases hb with hb|⟨p,hb⟩
    ·exact nu b hb aw
    ·refine⟨?_,cI b (dk b s p hb (u9 s hs))⟩
     show lJ _ (G.own b)=_
     rw[hb];exact vh s hs p
   ·have eJ:lJ (jV pu r m' pv (iv.toNat*sz)) (G.own b)=.slc s p:=hb
    cases e:G.own b with
    | slc s' p' =>
     rw[e]at eJ;have gb:jV pu r m' pv (iv.toNat*sz) s' p'=.slc s p:=eJ;by_cases km:s'∈pu.frz
     ·rw[vh s' km]at gb;cases gb
     ·unfold jV at gb
      rw[yD.2 km,cond_false]at gb;have tW:=u9 s hs;split at gb
      ·unfold wP at gb
       split at gb
       ·injection gb with j1 j2;exact tW j1.symm
       ·cases gb
      ·split at gb
       ·unfold wP at gb
        split at gb
        ·injection gb with j1 j2;exact tW j1.symm
        ·cases gb
       ·injection gb with j1 j2;exact km (j1▸hs)
    |_=>rw[e]at eJ;cases eJ
end
theorem nQ:∀ (sz n:Nat) (l:List D),l.length=n*sz->∀ i row,(chunk sz n l)[i]?=some row->i<n/\row.length=sz/\∀ j d,row[j]?=some d->l[i*sz+j]?=some d
 |sz,0,l,_,i,row,h=>by simp[chunk]at h
 | sz, n + 1, l, hl, i, row, h => by
  simp only[chunk]at h;rw[Tbd,Nat.one_mul]at hl
  cases i with
  | zero =>
   simp only[Rb2,Rbv]at h;subst h;refine⟨by omega,by simp;omega,fun j d hj=>?_⟩;rw[Sb0]at hj;split at hj
   ·simpa using hj
   ·cases hj
  | succ i =>
   simp only[Sb4]at h;obtain⟨h1,h2,h3⟩:=nQ sz n (l.drop sz) (by simp;omega) i row h;refine⟨by omega,h2,fun j d hj=>?_⟩;have:=h3 j d hj;rw[Sby]at this;rw[<- this];congr 1;rw[Tbd];omega
theorem Gao:∀ (sz n:Nat) (l:List D),(chunk sz n l).length=n
 |_,0,_=>rfl
 |sz,n+1,l=>by simp[chunk,Gao sz n]
theorem Eab {α:Type}(l:List α):∀ n,(Abl l n).length=n*l.length
 |0=>by simp[Abl]
 |n+1=>by rw[Abl,Rb8,Eab l n,Tbd];omega
theorem Rab {α:Type}(l:List α)(h:0<l.length):∀ n j,j<n*l.length->(Abl l n)[j]?=l[j % l.length]?
 |0,j,hj=>by simp at hj
 | n + 1, j, hj => by
  rw[Abl];by_cases h1:j<l.length
  ·rw[Rb9 h1,Nat.mod_eq_of_lt h1]
  ·rw[Rb6 (by omega),Rab l h n (j-l.length) (by rw[Tbd]at hj;omega)]
   congr 1;rw[Nat.mod_eq_sub_mod (by omega:j ≥ l.length)]
section
variable {P:Program} {E:Env} {F:bE} {n:Nat} {σ:Nat->Option aP} {ρ:List D} {a:Act} {w w':World} {G G':Gh} {g:Option (aJ×Bool)} {o:Oper} {cf:Nat->List D->Option (List D)} {Q:Exit->Act->World->Prop} {next:Act->World->Prop}
theorem Dad {ti:TI}{len:Nat}{place:Nat->Option (Nat×Nat)}(pj:∀ i,i<len->place i=some (i*ti.size,ti.size)) :
  ∀ {xs:List (Nat×Operand)} {ps:List (Nat×SV)},Eak σ ρ G w a xs ps->∀ {ls kt:List aO} {us:Array Value},ls.length=len*ti.size->aG σ ρ G w ls us.toList->Aax ti len ls ps=some kt ->
  ∃ ee,Instr.fill place us (xs.map fun x=>(x.1,a.eval x.2))=some ee/\aG σ ρ G w kt ee.toList/\kt.length=len*ti.size
 | [], _, rfl, ls, kt, us, hn, hl, h => by
  simp only[Aax,Rbv]at h;subst h;exact⟨us,rfl,hl,hn⟩
 | (i, x) :: xs, _, ⟨sv, ps, rfl, h1, hr⟩, ls, kt, us, hn, hl, h => by
  unfold Aax at h;split at h
  ·rename_i vs iw
   cases hb:(Nat.beq vs.length ti.size&&Nat.blt i len) with
   |false=>rw[hb]at h;cases h
   | true =>
    rw[hb,cond_true]at h;simp only[Rbu,Sbq,Nat.blt_eq]at hb;have h2:=gT iw h1;have hlen:=hl.len
    have hle:i*ti.size+ti.size<=ls.length:=by
     have:=Sbt ti.size (show i+1<=len by omega);rw[Tbd,Nat.one_mul]at this;omega
    obtain⟨us1,h3,h4⟩:=Nas (rest:=xs.map fun x=>(x.1,a.eval x.2)) (pj i hb.2) (by rw[h2.len];exact hb.1) (by rw[<- Ubf,hlen];exact hle);obtain⟨ee,h5,h6,h7⟩:=Dad pj hr (us:=us1) (ls:=setRange ls (i*ti.size) vs) (by rw[jW (by rw[hb.1];exact hle)];exact hn) (by rw[h4];exact hl.setRange h2 (by rw[hb.1];exact hle)) h;exact⟨ee,by rw[Sbk,h3];exact h5,h6,h7⟩
  ·cases h
def mkF (pu:Put)(nr m':Nat)(s:Nat)(p:List Nat):Ow :=
 bif has pu.frz s then .frz else match pu.moves.find? (fun y=>Nat.beq y.2.1 s) with
  |some z=>wP nr m' ([z.1]++p)
  |none=>.slc s p
theorem Cbo (z:Array Value)(hz:0<z.size)(N j:Nat)(hj:j<N):((Array.range N).map (fun i=>z[i % z.size]!))[j]?=z[j % z.size]?:=by
 rw[Array.getElem?_map,Array.getElem?_range];rw[if_pos hj];simp only[Sb9];have aw:j % z.size<z.size:=Nat.mod_lt _ hz;rw[getElem!_pos z (j % z.size) aw,Sbv aw]
theorem Oao {t:TypeId}{i:TI}{info:TypeInfo}{u:TypeDesc}(f:bY P t i info u)(hs:0<i.size){z:Value}(hz:aG σ ρ G w (i.cells.map fC) z.cells.toList)(len:Nat) :
  aG σ ρ G w (Abl (i.cells.map fC) len) ((Array.range (len*i.size)).map (fun j=>z.cells[j % z.cells.size]!)).toList:=by
 have gf:(i.cells.map fC).length=i.size:=by rw[Sbr,f.len]
 have tv:z.cells.size=i.size:=by rw[<- Ubf,hz.len,gf]
 refine .of_get (by rw[Eab,gf];simp) fun j l v hj hv=>?_
 have aw:j<len*i.size:=by
  have:=(Rbw.1 hj).1;rwa[Eab,gf]at this
 rw[Rab _ (by omega) _ _ (by rw[gf];exact aw),gf]at hj;rw[Tbo,Cbo _ (by omega) _ _ aw,tv]at hv;obtain⟨v',h1,h2⟩:=hz.get hj;rw[Tbo,hv]at h1;exact Sbs h1▸h2
theorem sU (hR:R E.ntmps F σ ρ a w G)(hd:eU E.ntmps o)(hti:tQ P E.ti){nv nb nr:Nat}{mv e9:Bool}(hf:σ (kR nr)=none){t:TypeId}{len:Nat}{parts:Array (Nat×Operand)}(ho:o.op=.buildSlice t len parts){res:bM}
  (h:(nZ E mv e9 nv nb nr g o).eval σ=some res) (cj:aK cf ρ g nv res.lets):fZ P E F σ ρ a w g o Q res.upd:=by
 simp only[nZ,ho,aA,Rbt,tiR,aV,aI]at h;obtain⟨st,h1,e,h2,ti,h3,ps,h4,_,h5,h⟩:=h;split at h5
 case isFalse=>cases h5
 rename_i hb5;simp only[Rbu,Tbc,Nat.blt_eq]at hb5;obtain⟨⟨hsz1,a4l⟩,zh⟩:=hb5;obtain⟨info,u,f⟩:=aX (hti.ok _ _ h1);obtain rfl:=oM f h2;obtain⟨jx,u',f'⟩:=aX (hti.ok _ _ h3);split at h
 case h_2=>cases h
 rename_i ls qT;simp only[aA,Rbt,aI]at h;obtain⟨pu,h6,_,h7,fr,h8,_,h9,h⟩:=h;split at h7
 case isFalse=>cases h7
 rename_i rl;split at h9
 case isFalse=>cases h9
 rename_i hb9;simp only[Rbu,Sbl,Tb1,Ub5]at hb9;obtain⟨⟨oh,hmf⟩,zq⟩:=hb9;obtain⟨ue,sY⟩:=fQ h8
 have main:gOn ρ g=true->∃ ee:Array Value,(execOp a.eval o).run P w=.ok (.value (.slice (some ⟨w.heap.size,0,none⟩) len len)) (pushB w ee e)/\aG σ ρ G w ls ee.toList/\ls.length=len*ti.size:=by
  intro hg;obtain⟨z,ku,ny,-,-⟩:=f'.zeros (σ:=σ) (ρ:=ρ) (G:=G) (w:=w);have zn:=Oao f' a4l ny len;have gf:(ti.cells.map fC).length=ti.size:=by rw[Sbr,f'.len]
  obtain⟨ee,ie,hl,kn⟩:=Dad (place:=fun i=>some (i*ti.size,ti.size)) (fun i _=>rfl) (xW hR hg h4) (ls:=Abl (ti.cells.map fC) len) (by rw[Eab,gf]) zn qT;refine⟨ee,?_,hl,kn⟩
  ·unfold execOp
   simp only[ho];refine fF ?_;unfold Instr.buildSlice;simp only[Sem.run_bind,run_underlying f.und,Result.andThen_ok,f'.sizeOf]
   have hle:¬ len*ti.size>2 ^ 24:=by
    have:(2:Nat) ^ 24=16777216:=by decide
    omega
   rw[if_neg hle];have e1:(parts.map fun x=>(x.1,a.eval x.2)).toList=parts.toList.map fun x=>(x.1,a.eval x.2):=by simp
   by_cases h0:len*ti.size=0
   ·have za:Instr.fill (fun i=>some (i*ti.size,ti.size)) ((Array.range (len*ti.size)).map (fun j=>(#[]:Array Value)[j % (#[]:Array Value).size]!)) (parts.map fun x=>(x.1,a.eval x.2)).toList=some ee:=by
     rw[e1,<- ie];congr 1;rw[h0];simp
    simp only[Sem.run_bind,Sem.run_pure,Result.andThen_ok,h0,if_true]at za ⊢;rw[za];simp[newRow,pushB]
   ·simp only[Sem.run_bind,if_neg h0,kH f'.info_ ku,Result.andThen_ok,Sem.run_pure]
    rw[e1,ie];simp[newRow,pushB]
 have ke:∀ ee:Array Value,aG σ ρ G w ls ee.toList->pu.xs.length=ls.length/\(∀ j v x,ee.toList[j]?=some v->pu.xs[j]?=some x->Ga2 σ ρ G w pu (0+j) v x):=fun ee hl=>by
  obtain⟨h1,h2,-⟩:=rJ hR h6 hl;exact⟨h1,h2⟩
 cases hgg:noG g with
 | false =>
  rw[hgg,cond_false]at h;rw[hgg,Bool.false_or]at rl;simp only[Rbu,Ub5]at rl;obtain⟨⟨hm0,-⟩,yt⟩:=rl;simp only[rO,aC,Rbv]at h;subst h;simp only[Daj,Sbu];refine⟨fun hg=>?_,fun hg=>Hbn hR hd hg⟩;obtain⟨ee,cr,hl,kn⟩:=main hg;obtain⟨pj,mo⟩:=ke ee hl;obtain⟨d,iS,qy⟩:=fI cj hg;refine mD cr ⟨G,?_⟩
  have gS:=hR.own hd (g:=g) (sv:=.one (.sn [] .no false (.v nv))) (v:=.slice (some ⟨w.heap.size,0,none⟩) len len) (w':=pushB w ee e) (G':=G) (ur:=[]) (f:=fun s p=>.slc s p) (wr:=fun _=>False)
   (by simp) (fun b _=>by cases hb:G.own b<;>rfl) (fun b hb=>hR.frame.fresh b (by rw[jX]at hb;omega)) ⟨rfl,rfl,rfl,by rw[jX];omega⟩ (fun b hb=>.inl (hR.frame.fresh b hb))
   (fun b aw _=>kI (by omega)) (fun _ h=>h.elim) (fun _ _ _ _ _=>rfl) (by simp) (fun _ _ _ _ _ s p q h=>by injection h with h1 h2;exact⟨h1,h2⟩) (fun _ _=>rfl) rfl (fun fj _=>?_) (by simp)
  ·rw[Sbu]at gS
   exact gS
  ·simp only[bV,aB]
   refine⟨⟨rfl,by simp⟩,fun _=>⟨?_,by simp,trivial⟩⟩;simp only[aN.run]at iS;split at iS
   case isFalse=>cases iS
   rename_i xT;simp only[Rbv,Tbj,and_true]at iS;rw[qy,<- iS];refine .rows _ ⟨w.heap.size,0,none⟩ len len ti.size _ (fun i j=>ee.toList.getD (i*ti.size+j) undef) (Gao _ _ _) (Sbg _) (.inr rfl) (fun row hr=>?_) (fun i row hi j d hj=>?_) (fun i row hi j d hj=>?_)
   ·obtain⟨i,hi⟩:=Tbe.1 hr
    exact (nQ _ _ _ xT i row hi).2.1
   ·obtain⟨du,eC,gi⟩:=nQ _ _ _ xT i row hi
    have jm:=(Rbw.1 (gi j d hj)).1;refine⟨.inl (hR.frame.fresh _ (Sbg _)),?_⟩;rw[mV];have lg:i*ti.size+j<ee.toList.length:=by rw[hl.len,<- pj];simpa using jm
    rw[Rb5,Rbz lg,<- Tbo,Rbz lg];rfl
   ·obtain⟨du,eC,gi⟩:=nQ _ _ _ xT i row hi
    have jm:=gi j d hj;rw[Sbx,Sbc]at jm;obtain⟨x,p6,rfl⟩:=jm;have lg:i*ti.size+j<ee.toList.length:=by rw[hl.len,<- pj];exact (Rbw.1 p6).1
    have hv:ee.toList[i*ti.size+j]?=some (ee.toList.getD (i*ti.size+j) undef):=by
     rw[Rb5,Rbz lg];rfl
    cases mo _ _ _ hv p6 with
    |sc h=>exact .sc h
    |nil z hx hv=>rw[hx,hv];exact Rd.nil
    |mv r m b9 hm hr hv nh=>rw[hm0]at hm;simp at hm
    |hole r k m q hm hl hq fX hn nh=>rw[zq]at hm;simp at hm
    | fz nh h =>
     refine h.mono' fun b hb aw=>?_
     rcases hb with hb|⟨r,p,h1,-⟩
     ·exact⟨.inl hb,kI (by omega)⟩
     ·rw[yt]at h1;simp at h1
 | true =>
  obtain rfl:=uL hgg;rw[hgg,cond_true]at h;simp only[rO,aC,Rbv]at h;subst h;simp only[Daj];refine⟨fun hg=>?_,fun hg=>by simp[gOn]at hg⟩;obtain⟨ee,cr,hl,kn⟩:=main hg;obtain⟨pj,mo⟩:=ke ee hl;obtain⟨d,iS,qy⟩:=fI cj hg;generalize hM:min big (pu.depth+1)=M;obtain⟨m1,rfl⟩:∃ m1,M=m1+1:=⟨M-1,by rw[<- hM];unfold big;omega⟩;have hN:w.heap.size=w.heap.size:=rfl
  have hdr:∀ r,(σ (kR r)).isSome->r≠nr:=fun r hr e=>by
   rw[e,hf]at hr;cases hr
  refine mD cr ⟨{ G with own:=fun b=>if b=w.heap.size then .slc nr [] else lJ (mkF pu nr (m1+1)) (G.own b),hdr:=fun r=>if r=nr then .slice (some ⟨w.heap.size,0,none⟩) len len else G.hdr r },?_⟩
  have vh:∀ s,s∈pu.frz->∀ p,mkF pu nr (m1+1) s p=.frz:=fun s hs p=>by
   unfold mkF;rw[kY.2 hs,cond_true]
  have hmF:∀ z∈pu.moves,∀ p,mkF pu nr (m1+1) z.2.1 p=wP nr (m1+1) ([z.1]++p):=fun z hz p=>by
   unfold mkF
   have:has pu.frz z.2.1=false:=by
    have:=hmf z hz;simpa using this
   rw[this,cond_false,rW oh z hz]
  have mN:∀ b,G.own b≠.frz->b<w.heap.size:=fun b hb=>by
   rcases Sbh b w.heap.size with h|h
   ·exact h
   ·exact absurd (hR.frame.fresh b h) hb
  have cI:∀ b,b≠w.heap.size->(pushB w ee e).heap[b]?=w.heap[b]?:=fun b hb=>kI hb
  have eW:∀ {s:Nat} {c:aP},(kR s,c)∈(kR nr,aP.root (.v nv) (m1+1) 0 .live)::(pu.moves.map fun z=>(kR z.2.1,aP.root (.c .hole) 0 0 .gone))++fr ->
    (s=nr/\c=.root (.v nv) (m1+1) 0 .live)\/(∃ z∈pu.moves,s=z.2.1/\c=.root (.c .hole) 0 0 .gone) \/
    (s∈pu.frz/\∃ x m v,c=.root x m v .frozen/\σ (kR s)=some (.root x m v .live)):=by
   intro s c hc
   rcases Sbd.1 hc with hc|hc
   ·rcases Rb4.1 hc with hc|hc
    ·obtain⟨e1,e2⟩:=Ubb hc
     exact .inl ⟨eF e1,e2⟩
    ·obtain⟨z,hz,e⟩:=Sb7.1 hc
     obtain⟨e1,e2⟩:=Ubb e;exact .inr (.inl ⟨z,hz,(eF e1).symm,e2.symm⟩)
   ·obtain⟨s',km,x',oA,v',e1,e2,e3⟩:=sY _ _ hc
    obtain rfl:=eF e1;exact .inr (.inr ⟨km,x',oA,v',e2,e3⟩)
  have jq:σ (kR nr)=none:=hf
  have zb:∀ s,s∈pu.frz->s≠nr:=fun s hs e=>by
   rcases ue s hs with ⟨x',oA,v',h8,-⟩|⟨x',oA,v',h8⟩<;>rw[e,jq]at h8<;>cases h8
  have nu:∀ b,G.own b=.frz->b<w.heap.size->(if b=w.heap.size then Ow.slc nr [] else lJ (mkF pu nr (m1+1)) (G.own b))=.frz/\(pushB w ee e).heap[b]?=w.heap[b]?:=fun b hb aw=>by
   rw[if_neg (by omega),hb];exact⟨rfl,cI b (by omega)⟩
  have fv:∀ b s p,G.own b=.slc s p->(if b=w.heap.size then Ow.slc nr [] else lJ (mkF pu nr (m1+1)) (G.own b))=mkF pu nr (m1+1) s p/\(pushB w ee e).heap[b]?=w.heap[b]?:=fun b s p hb=>by
   have:=mN b (by rw[hb];simp);rw[if_neg (by omega),hb];exact⟨rfl,cI b (by omega)⟩
  refine hR.own hd (wr:=fun _=>False) (f:=mkF pu nr (m1+1)) ?_ ?_ ?_ ?_ ?_ (fun b aw _=>cI b (by omega)) (fun _ h=>h.elim) ?_ ?_ ?_ ?_ rfl ?_ ?_
  ·intro k c hc
   rcases Sbd.1 hc with hc|hc
   ·rcases Rb4.1 hc with hc|hc
    ·exact⟨nr,(Ubb hc).1⟩
    ·obtain⟨z,hz,e⟩:=Sb7.1 hc
     exact⟨z.2.1,(Ubb e).1.symm⟩
   ·obtain⟨s',-,-,-,-,e1,-⟩:=sY _ _ hc
    exact⟨s',e1⟩
  ·intro b aw
   show (if b=w.heap.size then Ow.slc nr [] else _)=_
   rw[if_neg (by omega)]
  ·intro b hb
   rw[jX]at hb;show (if b=w.heap.size then Ow.slc nr [] else lJ _ (G.own b))=.frz
   rw[if_neg (by omega),hR.frame.fresh b (by omega)];rfl
  ·exact⟨rfl,rfl,rfl,by rw[jX];omega⟩
  ·intro b hb
   show (if b=w.heap.size then Ow.slc nr [] else lJ _ (G.own b))=.frz\/∃ r p,(if b=w.heap.size then Ow.slc nr [] else lJ _ (G.own b))=.slc r p/\_
   by_cases e:b=w.heap.size
   ·rw[if_pos e];exact .inr ⟨nr,[],rfl,jq⟩
   ·rw[if_neg e,hR.frame.fresh b hb];exact .inl rfl
  ·intro b s p hb iz
   unfold mkF
   have h1:has pu.frz s=false:=by
    rw[yD];intro hs
    rcases ue s hs with ⟨x',oA,v',-,h8⟩|⟨x',oA,v',h8⟩
    ·exact iz _ (Rb0 _ h8)
    ·exact (hR.root h8).2 b p hb
   have h2:s∉pu.moves.map (·.2.1):=by
    intro hh;obtain⟨z,hz,e⟩:=Sb7.1 hh;refine iz (.root (.c .hole) 0 0 .gone) (Rbx _ (Rb7 _ (Sb7.2 ⟨z,hz,?_⟩)));rw[e]
   rw[h1,cond_false,Fa4 h2]
  ·intro s c hc _
   rcases eW hc with ⟨rfl,rfl⟩|⟨z,hz,rfl,rfl⟩|⟨hs,x',oA,v',rfl,h8⟩
   ·exact .inl ⟨jq,_,_,_,_,rfl⟩
   ·exact .inr (.inr (.inl ⟨_,_,_,_,rfl,by simp,by simp⟩))
   ·refine .inr (.inr (.inr ⟨x',oA,v',h8,rfl,fun b p hb=>?_⟩))
    obtain⟨du,eC⟩:=fv b s p hb;exact⟨du.trans (vh s hs p),eC⟩
  ·intro r0 x0 m0 k0 kg s p q' hF
   unfold mkF at hF
   cases hh:has pu.frz s with
   |true=>rw[hh,cond_true]at hF;cases hF
   | false =>
    rw[hh,cond_false]at hF;split at hF
    ·unfold wP at hF
     split at hF
     ·injection hF with j1 j2
      exact absurd j1.symm (hdr r0 (by rw[kg];rfl))
     ·cases hF
    ·injection hF with j1 j2;exact⟨j1,j2⟩
  ·intro r hr
   show (if r=nr then _ else _)=_
   rw[if_neg (hdr r hr)]
  ·intro _ _
   simp only[bV,aB];refine⟨by simp,dP _ _ _ (.inr ⟨_,Rb0 _ (Rbx _ Sbe)⟩),rfl⟩
  ·intro _ s c hc _
   rcases eW hc with ⟨rfl,rfl⟩|⟨z,hz,rfl,rfl⟩|⟨hs,x',oA,v',rfl,h8⟩
   ·refine⟨_,_,_,_,rfl,?_⟩
    simp only[bP,if_true];simp only[aN.run]at iS;split at iS
    case isFalse=>cases iS
    rename_i xT;simp only[Rbv,Tbj,and_true]at iS;rw[qy,<- iS];refine .sl _ ⟨w.heap.size,0,none⟩ len len ti.size _ (fun i j=>ee.toList.getD (i*ti.size+j) undef) (Gao _ _ _) (Sbg _) (.inl rfl) (fun row hr=>?_) (fun _=>⟨rfl,by simp,fun k hk=>?_⟩) (fun i row hi j d hj=>?_) (fun i row hi j d hj=>?_)
    ·obtain⟨i,hi⟩:=Tbe.1 hr
     exact (nQ _ _ _ xT i row hi).2.1
    ·rw[mV,Mal]
     have:k<ee.size:=by rw[<- Ubf,hl.len,kn];exact hk
     exact⟨ee[k],Sbv this,rfl⟩
    ·obtain⟨du,eC,gi⟩:=nQ _ _ _ xT i row hi
     have jm:=(Rbw.1 (gi j d hj)).1;rw[mV];have lg:i*ti.size+j<ee.toList.length:=by rw[hl.len,<- pj];simpa using jm
     rw[Rb5,Rbz lg,<- Tbo,Rbz lg];rfl
    ·obtain⟨du,eC,gi⟩:=nQ _ _ _ xT i row hi
     have jm:=gi j d hj;rw[Sbx,Sbc]at jm;obtain⟨x,p6,rfl⟩:=jm;have lg:i*ti.size+j<ee.toList.length:=by rw[hl.len,<- pj];exact (Rbw.1 p6).1
     have hv:ee.toList[i*ti.size+j]?=some (ee.toList.getD (i*ti.size+j) undef):=by
      rw[Rb5,Rbz lg];rfl
     have th:=mo _ _ _ hv p6;rw[Nat.zero_add]at th;refine th.rp hR (by unfold big at hM;omega) nu (fun s' m2 zp b t hb=>?_) (fun s' q' nw=>by rw[zq]at nw;simp at nw) (fun s' km b p hb=>?_)
     ·obtain⟨nc,nf⟩:=fv b s' t hb
      refine⟨nc.trans ?_,nf⟩;rw[hmF _ zp,wP];simp only[Rb8,Tbl,Tba];by_cases ht:t.length<m1
      ·rw[if_pos ht,if_pos (by omega)]
      ·rw[if_neg ht,if_neg (by omega)]
     ·obtain⟨nc,nf⟩:=fv b s' p hb
      exact⟨nc.trans (vh s' km p),nf⟩
   ·exact⟨_,_,_,_,rfl,trivial⟩
   ·refine⟨x',oA,v',.frozen,rfl,?_,fun b p hb=>?_⟩
    ·have:=hR.root h8
     simp only[bP]at this ⊢;rw[if_neg (zb s hs)];refine this.rd.mono' fun b hb aw=>?_
     rcases hb with hb|⟨p,hb⟩
     ·exact nu b hb aw
     ·obtain⟨nc,nf⟩:=fv b s p hb
      exact⟨nc.trans (vh s hs p),nf⟩
    ·have eJ:(if b=w.heap.size then Ow.slc nr [] else lJ (mkF pu nr (m1+1)) (G.own b))=.slc s p:=hb
     split at eJ
     ·injection eJ with j1 _
      exact zb s hs j1.symm
     ·cases e:G.own b with
      | slc s' p' =>
       rw[e]at eJ;have gb:mkF pu nr (m1+1) s' p'=.slc s p:=eJ;by_cases km:s'∈pu.frz
       ·rw[vh s' km]at gb;cases gb
       ·unfold mkF at gb
        rw[yD.2 km,cond_false]at gb;split at gb
        ·unfold wP at gb
         split at gb
         ·injection gb with j1 j2;exact zb s hs j1.symm
         ·cases gb
        ·injection gb with j1 j2;exact km (j1▸hs)
      |_=>rw[e]at eJ;cases eJ
end
def iE (vs:Nat->Nat->Value)(n sz:Nat):List Value:=(List.range (n*sz)).map fun k=>vs (k / sz) (k % sz)
theorem kC (vs:Nat->Nat->Value)(n sz:Nat):(iE vs n sz).length=n*sz:=by simp[iE]
theorem kZ (vs:Nat->Nat->Value){n sz i j:Nat}(hi:i<n)(hj:j<sz):(iE vs n sz)[i*sz+j]?=some (vs i j):=by
 have aw:i*sz+j<n*sz:=by
  have:=Sbt sz (show i+1<=n by omega);rw[Tbd]at this;omega
 unfold iE;rw[Sbx,Vbd aw,Sb9];rw[Ubp i sz,Ubx (by omega),Ubn hj,Nat.mul_add_mod,Nat.mod_eq_of_lt hj,Sbz]
theorem wR {vs:Nat->Nat->Value}{n sz k:Nat}{u:Value}(h:(iE vs n sz)[k]?=some u):k / sz<n/\k % sz<sz/\k=k / sz*sz+k % sz/\u=vs (k / sz) (k % sz):=by
 have aw:k<n*sz:=by
  have:=(Rbw.1 h).1;rwa[kC]at this
 have ef:0<sz:=by
  rcases Nat.eq_zero_or_pos sz with e|e
  ·rw[e]at aw;simp at aw
  ·exact e
 refine⟨(Nat.div_lt_iff_lt_mul ef).2 aw,Nat.mod_lt _ ef,?_,?_⟩
 ·rw[Ubp];exact (Nat.div_add_mod k sz).symm
 ·unfold iE at h
  rw[Sbx,Vbd aw,Sb9]at h;exact (Sbs h).symm
section
variable {P:Program} {E:Env} {F:bE} {n:Nat} {σ:Nat->Option aP} {ρ:List D} {a:Act} {w w':World} {G G':Gh} {g:Option (aJ×Bool)} {o:Oper} {cf:Nat->List D->Option (List D)} {Q:Exit->Act->World->Prop} {next:Act->World->Prop}
theorem pU {rs:List (List D)}{sz:Nat}{b:Addr}{vs:Nat->Nat->Value}(ef:∀ r∈rs,r.length=sz)
  (cu:∀ i row,rs[i]?=some row->∀ j d,row[j]?=some d->w.cell? (b.add (i*sz+j))=some (vs i j)):∀ k u,(iE vs rs.length sz)[k]?=some u->w.cell? (b.add k)=some u:=by
 intro k u h;obtain⟨h1,h2,h3,rfl⟩:=wR h;have hr:rs[k / sz]?=some rs[k / sz]:=Rbz h1;have hl:=ef _ (Sba hr);have hd:rs[k / sz][k % sz]?=some (rs[k / sz][k % sz]'(by omega)):=Rbz (by omega);have:=cu _ _ hr _ _ hd;rwa[<- h3]at this
structure Ibs (w w1:World) (G:Gh) (A:Option Addr) (n n' cap sz:Nat) (olds news:List Value) (v:Value) (A':Option Addr) (cb:Addr) (jl:Nat) (grow:Bool):Prop where
 val:v=.slice A' (n+n') jl
 aval:A'=some cb\/(A'=none/\jl=0)
 le:n+n'<=jl
 os:w1.os=w.os/\w1.tape=w.tape/\w1.output=w.output
 size:w1.heap.size=w.heap.size+(if grow=true then 1 else 0)
 heap:∀ b,b<w.heap.size->(grow=true\/A'=none\/b≠cb.block)->w1.heap[b]?=w.heap[b]?
 cell:∀ k u,(olds++news)[k]?=some u->w1.cell? (cb.add k)=some u
 all:∀ k,k<jl*sz->∃ u,w1.cell? (cb.add k)=some u/\fzq w1 (cb.add k)=false
 spot:cb.spot=none
 base:(grow=true/\A'=some cb/\cb.block=w.heap.size)\/(grow=false/\A'=some cb/\A=some cb)\/(grow=false/\A'=none)
theorem Jax {t tx e:TypeId}{ti:TI}{info:TypeInfo}{u u':TypeDesc}{x y:Operand}{args:Array Operand}{argTypes:Array TypeId}(ho:o.op=.call { callee:=.builtin .append,args,argTypes })
  (fb:args.toList=[x,y]) (jn:argTypes=#[t,tx]) (hu:P.underlying t=some (.slice e)) (f:bY P e ti info u) (hx:P.underlying tx=some u') (tz:∃ e',u'=.slice e')
  {A:Option Addr} {n cap n':Nat} {b:Addr} {olds news:List Value} (hxv:a.eval x=.slice A n cap) (xp:n<=cap) (hA:(A=some b/\b.spot=none)\/(A=none/\cap=0))
  (v8:olds.length=n*ti.size) (rS:∀ k u,olds[k]?=some u->w.cell? (b.add k)=some u) (cQ:A=some b->∀ k,k<cap*ti.size->∃ u,w.cell? (b.add k)=some u/\fzq w (b.add k)=false)
  {By:Option Addr} {zz:Addr} {mS:Nat} (hyv:a.eval y=.slice By n' mS) (hBy:n'=0\/By=some zz) (ve:news.length=n'*ti.size) (y4:∀ k u,news[k]?=some u->w.cell? (zz.add k)=some u) (q8:∀ u∈news,u.oneCell'=true)
  (hb0:0<ti.bytes) (hs0:0<ti.size) (fp:(n+n')*ti.bytes<=gB) :
  ∃ v w1 A' cb jl grow,(execOp a.eval o).run P w=.ok (.value v) w1/\Ibs w w1 G A n n' cap ti.size olds news v A' cb jl grow:=by
 obtain⟨e',rfl⟩:=tz
 have ll:Src P ti.size tx (.slice By n' mS) n' news w:=by
  rcases hBy with rfl|rfl
  ·have:news=[]:=Tbm (by simpa using ve)
   subst this
   cases By with
   |none=>exact Src.ofNil w hx mS
   |some b1=>exact Src.ofSlice w hx b1 0 mS [] (by simp) (by simp) (by simp)
  ·exact Src.ofSlice w hx zz n' mS news ve y4 q8
 have kr:∀ {v:Value} {w1:World},(Builtin.append_ #[t,tx] o.type #[.slice A n cap,.slice By n' mS]).run P w=.ok v w1->(execOp a.eval o).run P w=.ok (.value v) w1:=by
  intro v w1 h;refine kV ho (s:=Builtin.append_ argTypes o.type (args.map a.eval)) (fun _=>rfl) ?_;rw[Bb9 fb,Db7,hxv,hyv,jn];exact h
 have ef:info.size=ti.size:=f.size.symm;have zh:info.bytes=ti.bytes:=f.bytes.symm;by_cases eK:n+n'<=cap
 ·rcases hA with ⟨rfl,gl⟩|⟨rfl,h0⟩
  ·
   have hbb:b=⟨b.block,b.off,none⟩:=by cases b;simp only at gl;subst gl;rfl
   have ez:∀ j,j<news.length->∃ u,w.cell? ⟨b.block,b.off+n*ti.size+j,none⟩=some u/\w.frozen? ⟨b.block,b.off+n*ti.size+j,none⟩=false:=fun j hj=>by
    have:=cQ rfl (n*ti.size+j) (by
     have:=Sbt ti.size eK;rw[Tbd]at this
     omega)
    rw[add_plain gl,<- Sbf]at this;exact this.imp fun u h=>⟨h.1,uX h.2 rfl⟩
   have cr:=run_append_room_src (P:=P) w t tx o.type e info hu f.info_ b.block b.off n cap (.slice By n' mS) n' news (by rw[ef];exact ll) eK
    (fun j hj=>by rw[ef];obtain⟨u,h1,-⟩:=ez j hj;rw[h1];rfl) (fun j hj=>by rw[ef];exact (ez j hj).choose_spec.2)
   rw[<- hbb,ef]at cr;refine⟨_,_,some b,b,cap,false,kr cr,rfl,.inl rfl,eK,cB _ _ _ _,by rw[setCells_size];simp,fun b' _ eJ=>?_,fun k u hk=>?_,fun k hk=>?_,gl,.inr (.inl ⟨rfl,rfl,rfl⟩)⟩
   ·rcases eJ with eJ|eJ|eJ
    ·cases eJ
    ·cases eJ
    ·exact bC _ _ _ _ _ eJ
   ·by_cases aw:k<olds.length
    ·rw[Rb9 aw]at hk
     rw[add_plain gl,World.cell?_setCells_out _ _ _ _ _ (fun _ _=>.inl (by dsimp only;omega)),<- add_plain gl];exact rS k u hk
    ·rw[Rb6 (by omega)]at hk
     have pZ:=(Rbw.1 hk).1;have:=World.cell?_setCells_in b.block news (b.off+n*ti.size) w (fun j hj=>by obtain⟨u,h1,-⟩:=ez j hj;rw[h1];rfl) (k-olds.length) pZ;rw[show b.off+n*ti.size+(k-olds.length)=b.off+k by omega]at this;rw[add_plain gl,this,<- hk,Rbz]
   ·obtain⟨u0,rr,yt⟩:=cQ rfl k hk
    rw[dU];obtain⟨u1,zu⟩:=dE (B:=b.block) (o:=b.off+n*ti.size) (vs:=news) (b:=b.add k) (fun _=>by rw[add_plain gl]) (fun j hj=>by obtain⟨u,h1,-⟩:=ez j hj;rw[h1];rfl) rr;exact⟨u1,zu,yt⟩
  ·
   have wh:n=0:=by omega
   have a4i:n'=0:=by omega
   subst wh a4i h0;have:news=[]:=Tbm (by simpa using ve);subst this;have:olds=[]:=Tbm (by simpa using v8);subst this;refine⟨_,_,none,⟨0,0,none⟩,0,false,kr (run_append_nothing w t tx o.type e info hu f.info_ none 0 0 (Sbg _) _ (by rw[ef];exact ll)),rfl,.inr ⟨rfl,rfl⟩,Sbg _,⟨rfl,rfl,rfl⟩,by simp,fun _ _ _=>rfl,by simp,by simp,rfl,.inr (.inr ⟨rfl,rfl⟩)⟩
 ·
  obtain⟨z,ku,ny,-,-⟩:=f.zeros (σ:=fun _=>none) (ρ:=[]) (G:=G) (w:=w);have tv:z.cells.size=ti.size:=by rw[<- Ubf,ny.len,Sbr,f.len]
  have hold:(Builtin.firstCells info.size n (.slice A n cap)).run P w.drew=.ok olds.toArray w.drew:=by
   rcases hA with ⟨rfl,gl⟩|⟨rfl,h0⟩
   ·exact run_firstCells_some w.drew info.size n b n cap olds (by rw[ef];exact v8) (fun j u hj=>rS j u hj)
   ·have wh:n=0:=by omega
    subst wh;have:olds=[]:=Tbm (by simpa using v8);subst this;rfl
  have h1:(n+n')*1<=(n+n')*ti.bytes:=Nat.mul_le_mul_left _ hb0;have vu:=nextslicecap_le (show cap<n+n' by omega)
  have qp:Builtin.nextslicecap (n+n') cap*info.bytes<=281474976710656:=by
   rw[zh];have h2:=Sbt ti.bytes vu;rw[Nat.mul_assoc]at h2;unfold gB at fp;omega
  have cr:=run_append_grow_src (P:=P) w t tx o.type e info z hu f.info_ ku A n cap olds hold (.slice By n' mS) n' news (by rw[ef];exact ll) (by omega) (by unfold gB at fp;omega) qp;have nj:=grownCap_ge w (n+n') cap e;generalize hgc:grownCap w (n+n') cap e=gc at cr nj
  have tS:∀ b',b'≠w.heap.size->(w.drew.alloc (.cells ((olds++news).toArray++Builtin.zeroCells z.cells (gc-(n+n'))) e)).heap[b']?=w.heap[b']?:=fun b' eJ=>by
   show (w.heap.push _)[b']?=_
   rw[Ubu,if_neg eJ]
  have ij:(w.drew.alloc (.cells ((olds++news).toArray++Builtin.zeroCells z.cells (gc-(n+n'))) e)).heap[w.heap.size]?=some (.cells ((olds++news).toArray++Builtin.zeroCells z.cells (gc-(n+n'))) e (0,0)):=by
   show (w.heap.push _)[w.heap.size]?=_
   rw[Ubu,if_pos rfl]
  have cu:∀ k,(w.drew.alloc (.cells ((olds++news).toArray++Builtin.zeroCells z.cells (gc-(n+n'))) e)).cell? ((⟨w.heap.size,0,none⟩:Addr).add k)=((olds++news).toArray++Builtin.zeroCells z.cells (gc-(n+n')))[k]?:=fun k=>by
   unfold World.cell?;rw[add_block,ij];simp[Addr.add];split<;>simp_all
  refine⟨_,_,some ⟨w.heap.size,0,none⟩,⟨w.heap.size,0,none⟩,gc,true,kr cr,rfl,.inl rfl,nj,⟨rfl,rfl,rfl⟩,by show (w.heap.push _).size=_;rw[Array.size_push,if_pos rfl],fun b' aw _=>tS b' (by omega),fun k u hk=>?_,fun k hk=>?_,rfl,.inl ⟨rfl,rfl,rfl⟩⟩
  ·have aw:=(Rbw.1 hk).1
   rw[cu,Array.getElem?_append_left (by simpa using aw)];simpa using hk
  ·have oB:((olds++news).toArray++Builtin.zeroCells z.cells (gc-(n+n'))).size=gc*ti.size:=by
    simp only[Array.size_append,List.size_toArray,Rb8,Builtin.zeroCells,Array.size_map,Array.size_range];rw[v8,ve,tv,<- Tbd,<- Tbd];congr 1;omega
   rw[cu];refine⟨_,Sbv (by omega),?_⟩;unfold fzq;rw[add_block,ij];simp
end
section
variable {P:Program} {E:Env} {F:bE} {n:Nat} {σ:Nat->Option aP} {ρ:List D} {a:Act} {w w':World} {G G':Gh} {g:Option (aJ×Bool)} {o:Oper} {cf:Nat->List D->Option (List D)} {Q:Exit->Act->World->Prop} {next:Act->World->Prop}
structure Side (w:World) (v:Value) (rs:List (List D)) (sz:Nat) (A:Option Addr) (b:Addr) (n cap:Nat) (vs:Nat->Nat->Value):Prop where
 val:v=.slice A n cap
 len:rs.length=n
 le:n<=cap
 rows:∀ r∈rs,r.length=sz
 cell:∀ i row,rs[i]?=some row->∀ j d,row[j]?=some d->w.cell? (b.add (i*sz+j))=some (vs i j)
def ChY (G:Gh)(w:World)(l7:List Nat)(mA:Option Nat)(dy:Nat)(v:Value)(d:D)(idx:Nat):Prop :=
 Sc v d\/(∃ s,mA=some s/\2<=dy/\Rp G.own w s [idx] (dy-1) v d)\/(dy=1/\Rd (fun b=>G.own b=.frz\/∃ r p,r∈l7/\G.own b=.slc r p) w v d)
structure YOk (σ:Nat->Option aP) (G:Gh) (w:World) (fl:Bool) (v:Value) (rb:List (List D)) (sz dy:Nat) (gE:List (Nat×aP)) (ry:List Nat) (l7:List Nat) (mA:Option Nat):Prop where
 side:∃ A b n cap vs,Side w v rb sz A b n cap vs/\(n=0\/A=some b)/\∀ i row,rb[i]?=some row->∀ j d,row[j]?=some d->ChY G w l7 mA dy (vs i j) d (i*sz+j)
 upd:∀ k c,(k,c)∈gE->∃ s,k=kR s/\s∈ry/\((mA=some s/\c=.root (.c .hole) 0 0 .gone/\∃ x m b9,σ (kR s)=some (.root x m b9 .live))\/(s∈l7/\∃ x m b9,c=.root x m b9 .frozen/\σ (kR s)=some (.root x m b9 .live)))
 fz:∀ s∈l7,s∈ry/\((∃ c,(kR s,c)∈gE)\/∃ x m b9,σ (kR s)=some (.root x m b9 .frozen))
 mv:∀ s,mA=some s->s∈ry/\(∃ c,(kR s,c)∈gE)/\s∉l7
 dy:1<=dy
 flat:fl=true->gE=[]/\l7=[]/\mA=none
theorem Rd.side {ok:Nat->Prop}{v:Value}{sz:Nat}{rs:List (List D)}(h:Rd ok w v (.rows sz rs)):∃ A b n cap vs,Side w v rs sz A b n cap vs/\(n=0\/A=some b)/\∀ i row,rs[i]?=some row->∀ j d,row[j]?=some d->Rd ok w (vs i j) d:=by
 obtain⟨A,b,n,c,vs,e1,e2,e3,e4,e5,e6,e7⟩:=h.inv;exact⟨A,b,n,c,vs,⟨e1,e2,e3,e5,fun i row hi j d hj=>(e6 i row hi j d hj).2⟩,e4,e7⟩
theorem Lbl (hR:R E.ntmps F σ ρ a w G){fl:Bool}{y:SlR}{v:Value}(hy:Uaf σ ρ G w y v){sz:Nat}{rb:List (List D)}(hx:y.x.val ρ=.rows sz rb)(ie:fl=true->∀ r∈rb,∀ d∈r,d.isSc=true)
  {dy:Nat} {gE:List (Nat×aP)} {ry:List Nat} (h:(Qau fl y).eval σ=some (dy,gE,ry)):∃ l7 mA,YOk σ G w fl v rb sz dy gE ry l7 mA:=by
 have jk:=hy.rd;rw[hx]at jk;unfold Qau at h
 cases fl with
 | true =>
  simp only[cond_true,aC,Rbv,Sbj]at h;obtain⟨rfl,rfl,rfl⟩:=h;refine⟨[],none,?_,by simp,by simp,by simp,by decide,fun _=>⟨rfl,rfl,rfl⟩⟩;obtain⟨A,b,n,c,vs,h1,h2,h3⟩:=jk.side;exact⟨A,b,n,c,vs,h1,h2,fun i row hi j d hj=>.inl ((h3 i row hi j d hj).sc_inv (ie rfl row (Sba hi) d (Sba hj)))⟩
 | false =>
  simp only[cond_false]at h;have bz:=hy.own;unfold tJ at bz
  have frozen:∀ rs fr,(dK rs).eval σ=some fr->Rd (fun b=>G.own b=.frz\/∃ r p,r∈rs/\G.own b=.slc r p) w v (.rows sz rb)->YOk σ G w false v rb sz 1 fr rs rs none:=by
   intro rs fr fj jk;obtain⟨h1,h2⟩:=fQ fj;refine⟨?_,fun k c hc=>?_,fun s hs=>⟨hs,?_⟩,by simp,Sbg _,by simp⟩
   ·obtain⟨A,b,n,c,vs,h3,h4,h5⟩:=jk.side
    exact⟨A,b,n,c,vs,h3,h4,fun i row hi j d hj=>.inr (.inr ⟨rfl,h5 i row hi j d hj⟩)⟩
   ·obtain⟨s,hs,x,m,b9,e1,e2,e3⟩:=h2 k c hc
    exact⟨s,e1,hs,.inr ⟨hs,x,m,b9,e2,e3⟩⟩
   ·rcases h1 s hs with ⟨x,m,b9,e1,e2⟩|h3
    ·exact .inl ⟨_,e2⟩
    ·exact .inr h3
  split at h
  ·rename_i r k m ho
   rw[ho]at bz;obtain⟨h1,⟨x,h2⟩,h3,h4,h5⟩:=bz;simp only[bA,Sbw,List.length_nil,Nat.sub_zero]at h4;rw[hx]at h4
   cases hb:Nat.ble 2 m with
   | true =>
    rw[hb]at h;simp only[cond_true,aC,Rbv,Sbj]at h;obtain⟨rfl,rfl,rfl⟩:=h;simp only[Tbc]at hb;obtain⟨m',rfl⟩:∃ m',m=m'+1:=⟨m-1,by omega⟩;obtain⟨A,b,n,c,vs,e1,e2,e3,e4,e5,e6,e7,e8⟩:=h4.sl_inv;refine⟨[],some r,⟨A,b,n,c,vs,⟨e1,e2,e3,e5,e7⟩,?_,fun i row hi j d hj=>.inr (.inl ⟨r,rfl,hb,by simpa using e8 i row hi j d hj⟩)⟩,fun k' c' hc=>?_,by simp,fun s hs=>?_,by omega,by simp⟩
    ·rcases e4 with e4|⟨e4,rq⟩
     ·exact .inr e4
     ·exact .inl (by omega)
    ·simp only[Rby,Sbj]at hc
     exact⟨r,hc.1,by simp,.inl ⟨rfl,hc.2,x,_,k,h2⟩⟩
    ·obtain rfl:=Sbs hs
     exact⟨by simp,⟨_,Rby.2 rfl⟩,by simp⟩
   | false =>
    rw[hb]at h;simp only[cond_false,aC,Rbv,Sbj]at h;obtain⟨rfl,rfl,rfl⟩:=h
    have hm:m<=1:=by
     have:¬ 2<=m:=by rw[<- Tbc,hb];simp
     omega
    refine⟨[],none,?_,by simp,by simp,by simp,Sbg _,by simp⟩
    rcases Nat.eq_zero_or_pos m with rfl|pA
    ·obtain⟨A,b,n,c,vs,h6,h7,h8⟩:=h4.zero.side
     exact⟨A,b,n,c,vs,h6,h7,fun i row hi j d hj=>.inr (.inr ⟨rfl,(h8 i row hi j d hj).mono fun b hb=>⟨.inl hb,rfl⟩⟩)⟩
    ·obtain rfl:m=0+1:=by omega
     obtain⟨A,b,n,c,vs,e1,e2,e3,e4,e5,e6,e7,e8⟩:=h4.sl_inv;refine⟨A,b,n,c,vs,⟨e1,e2,e3,e5,e7⟩,?_,fun i row hi j d hj=>.inr (.inr ⟨rfl,(e8 i row hi j d hj).zero.mono fun b hb=>⟨.inl hb,rfl⟩⟩)⟩
     rcases e4 with e4|⟨e4,rq⟩
     ·exact .inr e4
     ·exact .inl (by omega)
  ·rename_i r k m p dk ho
   rw[ho]at bz;simp only[aA,Rbt,aC,Rbv,Sbj]at h;obtain⟨fr,h6,rfl,rfl,rfl⟩:=h;refine⟨[r],none,frozen _ _ h6 ?_⟩;refine jk.mono fun b hb=>⟨hb.imp id fun ⟨r',k',p',h7,h8⟩=>?_,rfl⟩
   rw[bz.1]at h7;simp only[Rby,Sbj]at h7;exact⟨r,p',by simp,h7.1▸h8⟩
  ·split at h
   ·rename_i z hz
    simp only[aC,Rbv,Sbj]at h;obtain⟨rfl,rfl,rfl⟩:=h;rw[hz]at hx;simp only[aJ.val,D.rows.injEq]at hx;obtain⟨rfl,rfl⟩:=hx;refine⟨[],none,?_,by simp,by simp,by simp,by decide,by simp⟩;obtain⟨A,b,n,c,vs,h1,h2,h3⟩:=jk.side;exact⟨A,b,n,c,vs,h1,h2,by simp⟩
   ·simp only[aA,Rbt,aC,Rbv,Sbj]at h
    obtain⟨fr,h6,rfl,rfl,rfl⟩:=h;refine⟨y.deps.map (·.1),none,frozen _ _ h6 ?_⟩;exact jk.mono fun b hb=>⟨hb.imp id fun ⟨r',k',p',h7,h8⟩=>⟨r',p',Tbi (f:=fun x:Nat×Nat=>x.1) h7,h8⟩,rfl⟩
end
end Go.Proofs.YtgpamlpecmldfaaGreat.Rf
