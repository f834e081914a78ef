import Derived.Test.YtgpamlpecmldfaaGreatRf2
import Derived.Laws.IdiomCopy
import Derived.Deep.Upon
set_option linter.all false
open Array renaming getElem?_eq_getElem → Rb9, getElem?_toList → Sb6, length_toList → Tb2, getElem?_push → Ube, ext' → Ub1
open Bool renaming and_eq_true → Qb6, not_eq_true' → Rb0
open List renaming getElem?_eq_some_iff → Qb8, mem_append_left → Qb9, getElem?_eq_getElem → Rba, mem_singleton → Rbb, mem_append_right → Rbc, append_assoc → Rbd, getElem?_cons_zero → Rbf, mem_cons → Rbg, length_append → Rbh, getD_eq_getElem?_getD → Rbi, getElem?_append_right → Rbj, mem_cons_of_mem → Rbl, getElem?_append_left → Rbm, mem_of_getElem? → Rbn, mem_append → Rbq, mem_cons_self → Rbr, length_cons → Rbw, map_cons → Rby, append_nil → Rb1, length_map → Rb4, all_eq_true → Rb6, getElem?_drop → Sba, map_nil → Sbc, getElem?_map → Sbd, getElem?_take → Sbe, getElem?_cons_succ → Sbl, nil_append → Sbm, mem_map → Sbp, mem_iff_getElem? → Sbt, mem_map_of_mem → Sb1, length_singleton → Sb3, eq_nil_of_length_eq_zero → Sb5, any_eq_false → Tbe, getElem?_set → Tbj, singleton_append → Tbo, cons_append → Tbq, foldl_cons → Tbv, mem_or_eq_of_mem_set → Ubc, isEmpty_iff → Ubo, ext_getElem? → Ubq, getElem?_range → Ubv
open List.cons renaming injEq → Sbz
open Nat renaming add_assoc → Rbp, le_refl → Rbt, lt_or_ge → Rbu, beq_eq → Rb3, mul_le_mul_right → Rb7, add_zero → Sbg, ble_eq → Sbr, add_mul → Sbs, div_eq_of_lt → Tb6, mul_comm → Ubb, mul_add_div → Ubh
open Option renaming bind_eq_some_iff → Qb5, bind_some → Rbe, map_eq_some_iff → Rbo, map_some → Sbq, isNone_iff_eq_none → Tb5
open Option.some renaming injEq → Qb7, inj → Rb5
open Prod.mk renaming injEq → Rbx, inj → Tbw
namespace Go.Proofs.YtgpamlpecmldfaaGreat.Rf
theorem bO (b:Nat):∀ (vs:List Value) (o:Nat) (w:World) (k:Nat),k≠b->(w.setCells b o vs).heap[k]?=w.heap[k]?
 |[],_,_,_,_=>rfl
 | v :: r, o, w, k, h => by
  rw[World.setCells,bO b r _ _ k h];exact heap_setCell_other w _ k v h
theorem setCells_size (b:Nat):∀ (vs:List Value) (o:Nat) (w:World),(w.setCells b o vs).heap.size=w.heap.size
 |[],_,_=>rfl
 |v::r,o,w=>by rw[World.setCells,setCells_size b r];exact World.size_setCell ..
theorem dP (b:Nat):∀ (vs:List Value) (o:Nat) (w:World),(w.setCells b o vs).os=w.os/\(w.setCells b o vs).tape=w.tape/\(w.setCells b o vs).output=w.output
 |[],_,_=>⟨rfl,rfl,rfl⟩
 |v::r,o,w=>by rw[World.setCells];exact dP b r (o+1) _
theorem Ba7 (b:Nat):∀ (vs:List Value) (o:Nat) (w:World) (c:Array Value) (e:TypeId) (fr:Nat×Nat),w.heap[b]?=some (.cells c e fr) ->
  ∃ c',(w.setCells b o vs).heap[b]?=some (.cells c' e fr)/\c'.size=c.size/\∀ k,k<o\/o+vs.length<=k->c'[k]?=c[k]?
 |[],o,w,c,e,fr,h=>⟨c,h,rfl,fun _ _=>rfl⟩
 | v :: r, o, w, c, e, fr, h => by
  have h1:(w.setCell ⟨b,o,none⟩ v).heap[b]?=some (.cells (c.setIfInBounds o v) e fr):=by
   simp[World.setCell,Array.getElem?_modify,h]
  obtain⟨c',h2,h3,h4⟩:=Ba7 b r (o+1) _ _ e fr h1;refine⟨c',h2,by simpa using h3,fun k hk=>?_⟩;simp only[Rbw]at hk;rw[h4 k (by omega),Array.getElem?_setIfInBounds_ne (by omega)]
section
variable {P:Program} {E:Env} {F:bQ} {σ:Nat->Option aU} {ρ:List D} {a:Act} {w w':World} {G:Gh} {g:Option (aP×Bool)} {o:Oper} {cf:Nat->List D->Option (List D)} {Q:Exit->Act->World->Prop} {next:Act->World->Prop}
theorem Fao {t:TypeId}{i:TI}{info:TypeInfo}{u:TypeDesc}(f:dN P t i info u){b off:Nat}{v:Value}(hl:v.cells.toList.length=i.size)
  (hc:∀ j,j<i.size->∃ u,w.cell? ⟨b,off+j,none⟩=some u) (hf:∀ j,j<i.size->w.frozen? ⟨b,off+j,none⟩=false) (h1:∀ x∈v.cells.toList,x.oneCell'=true) :
  (storeVar t ⟨b,off,none⟩ v).run P w=.ok () (w.setCells b off v.cells.toList):=by
 unfold storeVar;rw[Sem.run_bind,f.sizeOf];simp only[Result.andThen_ok];have:¬ v.cells.size≠i.size:=by simpa using hl
 rw[if_neg this]
 have h2:=run_storeCells_cells (P:=P) b off v.cells.toList 0 w (fun j hj=>by
  obtain⟨u,hu⟩:=hc j (by omega);rw[Sbg,hu];rfl) (fun j hj=>by rw[Sbg];exact hf j (by omega)) h1
 rw[Sbg]at h2;simpa using h2
theorem aD.one {l:aT}{v:Value}(h:aD σ ρ G w l v)(hs:Oa4 l=true):v.oneCell'=true:=by
 cases l with
 |dead=>simpa[aD] using h
 |sc x=>simp only[aD]at h;exact h.one
 |su g x=>simp[Oa4]at hs
 |ex r=>simp only[aD]at h;exact h.2.2
 |sn deps p nie x=>simp only[aD]at h;exact h.1.1
 |px b off=>simp only[aD]at h;rw[h.1];rfl
 |pe l sz i off=>simp only[aD]at h;obtain⟨_,_,_,_,_,_,_,_,_,e⟩:=h;rw[e];rfl
 |rp deps sz x=>simp only[aD]at h;exact h.1.1
 |pn=>simp only[aD]at h;rw[h];rfl
 |clo f gi=>simp only[aD]at h;obtain⟨_,e,_⟩:=h;rw[e];rfl
theorem aH.ones {ls:List aT}{vs:List Value}(h:aH σ ρ G w ls vs)(hs:ls.all Oa4=true):∀ v∈vs,v.oneCell'=true:=by
 intro v hv;obtain⟨i,hi⟩:=Sbt.1 hv
 have bh:i<ls.length:=by
  rw[<- h.len];exact (Qb8.1 hi).1
 have hl:ls[i]?=some ls[i]:=Rba bh;obtain⟨v',h1,h2⟩:=h.get hl;rw[hi]at h1;obtain rfl:=Rb5 h1;rw[Rb6]at hs;exact h2.one (hs _ (Rbn hl))
theorem xM {v:Value}(h:v.oneCell'=true):v.cells=#[v]:=by cases v<;>first|rfl|(simp[Value.oneCell']at h)
theorem aD.cells {l:aT}{v:Value}(h:aD σ ρ G w l v):v.cells=#[v]:=by
 by_cases hs:Oa4 l=true
 ·exact xM (h.one hs)
 ·cases l<;>first|(simp[Oa4]at hs;done)|skip
  simp only[aD]at h
  rcases h.1 with h1|⟨rfl,-⟩
  ·exact xM h1.one
  ·rfl
theorem jF {agg:Bool}{sv:SV}{ls:List aT}{v:Value}(h:lI agg sv=some ls)(hv:dI σ ρ G w sv v):aH σ ρ G w ls v.cells.toList:=by
 unfold lI at h;split at h
 ·rename_i l
  cases agg with
  |true=>cases h
  | false =>
   obtain rfl:=Rb5 h;rw[aD.cells hv];simp only[aH];exact⟨v,[],rfl,hv,rfl⟩
 ·rename_i ms
  cases agg with
  |false=>cases h
  | true =>
   obtain rfl:=Rb5 h;obtain⟨vs,rfl,h1⟩:=hv;simpa[Value.cells] using h1
 ·cases h
def pushB (w:World)(c:Array Value)(e:TypeId):World:={ w with heap:=w.heap.push (.cells c e (0,0)) }
theorem mZ {c:Array Value}{e:TypeId}{b:Nat}(h:b≠w.heap.size):(pushB w c e).heap[b]?=w.heap[b]?:=by
 unfold pushB;rw[Ube,if_neg h]
theorem Haw {c:Array Value}{e:TypeId}:(pushB w c e).heap[w.heap.size]?=some (.cells c e (0,0)):=by
 unfold pushB;rw[Ube,if_pos rfl]
theorem mM {c:Array Value}{e:TypeId}:(pushB w c e).heap.size=w.heap.size+1:=by
 unfold pushB;simp
theorem qI {c:Array Value}{e:TypeId}(j:Nat):(pushB w c e).cell? ((⟨w.heap.size,0,none⟩:Addr).add j)=c[j]?:=by
 unfold World.cell?;rw[add_block,Haw];simp[Addr.add];split<;>simp_all
theorem Pav {c:Array Value}{e:TypeId}(j:Nat):fzq (pushB w c e) ((⟨w.heap.size,0,none⟩:Addr).add j)=false:=by
 unfold fzq;rw[add_block,Haw];simp
theorem Sau (w:World)(a b:Addr)(v:Value):fzq (w.setCell a v) b=fzq w b:=by
 simp only[World.setCell,fzq,Array.getElem?_modify];by_cases hb:a.block=b.block
 ·simp only[hb,if_true]
  cases hh:w.heap[b.block]? with
  |none=>simp
  |some x=>cases x<;>simp
 ·simp[hb]
theorem fD {b:Nat}{x:Addr}:∀ {vs:List Value} {o:Nat} {w:World},fzq (w.setCells b o vs) x=fzq w x
 |[],o,w=>rfl
 |v::r,o,w=>by rw[World.setCells,fD (vs:=r),Sau]
theorem Paw {c:Array Value}{e:TypeId}(j:Nat):(pushB w c e).frozen? ((⟨w.heap.size,0,none⟩:Addr).add j)=false:=by
 unfold World.frozen?;rw[add_block,Haw];simp
theorem nX.push (h:nX F G w)(c:Array Value)(e:TypeId){G':Gh}(ho:∀ b,b≠w.heap.size->G'.own b=G.own b\/((∃ r p,G.own b=.slc r p))):nX F G' (pushB w c e):=by
 refine⟨h.os,h.tape,h.output,by rw[mM];have:=h.size;omega,fun b hb hf=>?_,fun b j hb hj=>?_,fun b hb=>?_⟩
 ·have dz:b≠w.heap.size:=by have:=h.size;omega
  obtain⟨h1,h2⟩:=h.keep b hb hf;refine⟨by rw[mZ dz];exact h1,?_⟩
  rcases ho b dz with h3|⟨r,p,h3⟩
  ·rw[h3];exact h2
  ·rw[h3]at h2
   rw[<- h2]at hf
   rcases hf with hf|hf<;>cases hf
 ·have dz:b≠w.heap.size:=by have:=h.size;omega
  obtain⟨h1,c0,c1,e',fr,h2,h3,h4⟩:=h.boxes b j hb hj;refine⟨?_,c0,c1,e',fr,h2,by rw[mZ dz];exact h3,h4⟩
  rcases ho b dz with h5|⟨r,p,h5⟩
  ·rw[h5];exact h1
  ·rw[h5]at h1;cases h1
 ·rw[mM]at hb
  have dz:b≠w.heap.size:=by omega
  rcases ho b dz with h5|⟨r,p,h5⟩
  ·rw[h5];exact h.fresh b (by omega)
  ·rw[h.fresh b (by omega)]at h5;cases h5
def Aae (G:Gh)(w:World)(nb:Nat):Gh:={ G with own:=fun b=>if b=w.heap.size then .box nb else G.own b,bx:=fun b=>if b=nb then ⟨w.heap.size,0,none⟩ else G.bx b }
structure Da2 (σ:Nat->Option aU) (nb nr:Nat):Prop where
 nb:σ (kB nb)=none
 nr:∀ j,nr<=j->j<nr+dE->σ (kR j)=none
theorem Kaa {e:TypeId}{v:Value}:(newVar e v).run P w=.ok ⟨w.heap.size,0,none⟩ (pushB w v.cells e):=by
 simp[newVar,newRow,pushB]
theorem Fbs {u0:List (Nat×aU)}{nb:Nat}{ls:List aT}(r:Nat)(h:∀ k c,(k,c)∈u0->∃ t,k=kT t):upds σ (u0++[(kB nb,aU.box false ls)]) (kR r)=σ (kR r):=by
 refine fP _ _ _ fun c hc=>?_
 rcases Rbq.1 hc with hc|hc
 ·obtain⟨t,e⟩:=h _ _ hc
  exact jL e.symm
 ·simp only[Rbb,Rbx]at hc
  exact gB hc.1.symm
theorem Iav (o:Oper)(g:Option (aP×Bool))(v:SV):∀ k c,(k,c)∈eO o g v->∃ t,k=kT t:=by
 intro k c h;unfold eO at h;split at h
 ·rename_i d _
  simp only[Rbb,Rbx]at h;exact⟨d,h.1⟩
 ·simp at h
theorem zU {o:Oper}{g:Option (aP×Bool)}{v:SV}{k:Nat}{c:aU}(h:(k,c)∈eO o g v):∃ d,o.dst=some d/\k=kT d/\c=.slot g v:=by
 unfold eO at h;split at h
 ·rename_i d hd
  simp only[Rbb,Rbx]at h;exact⟨d,hd,h.1,h.2⟩
 ·simp at h
theorem Gak {n:Nat}{gh:Nat->Value}{v:Value}{g:Option (aP×Bool)}{sv:SV}{u1:List (Nat×aU)}{t:Nat}(h:∀ c,(kT t,c)∉eO o g sv++u1):Bap n (a.put o.dst v) gh t=Bap n a gh t:=by
 cases e:o.dst with
 |none=>rfl
 | some d =>
  refine Ga9 _ _ _ _ _ _ fun e'=>h (.slot g sv) ?_
  refine Qb9 _ ?_;unfold eO;rw[e,e'];exact Rbb.2 rfl
theorem R.newBox (h:R E.ntmps F σ ρ a w G)(hd:gG E.ntmps o){nb:Nat}(hf:σ (kB nb)=none){cs:Array Value}{ty:TypeId}{ls:List aT}(hl:aH σ ρ G w ls cs.toList) :
  R E.ntmps F (upds σ (eO o none (.one (.px nb 0))++[(kB nb,.box false ls)])) ρ (a.put o.dst (.pointer (some ⟨w.heap.size,0,none⟩))) (pushB w cs ty) (Aae G w nb):=by
 have dz:∀ b,G.own b≠.frz->b≠w.heap.size:=fun b hb e=>hb (h.frame.fresh b (by omega))
 have lB:=Iav o none (.one (.px nb 0));have hR:∀ r,upds σ (eO o none (.one (.px nb 0))++[(kB nb,aU.box false ls)]) (kR r)=σ (kR r):=fun r=>Fbs r lB
 have fq:Fr σ G w (upds σ (eO o none (.one (.px nb 0))++[(kB nb,.box false ls)])) (Aae G w nb) (pushB w cs ty):=by
  refine⟨fun b hb bh=>?_,fun r k _ hv=>?_,fun r k hk=>hk.same hR,fun r k b p _ _ hb=>?_,fun r k m _ hv=>⟨?_,fun b p hb=>?_⟩,fun _ _=>rfl,fun b hb=>?_,fun k hk=>eZ _ _ _ (.inl hk),fun r x m k _ b p hb=>?_⟩
  ·have hn:b≠w.heap.size:=by omega
   exact⟨by simp only[Aae,if_neg hn];exact hb,mZ hn⟩
  ·obtain⟨x,m,st,e,hs⟩:=hv
   exact⟨x,m,st,by rw[<- hR];exact e,hs⟩
  ·have hn:=dz b (by rw[hb];simp)
   exact⟨.inl (by simp only[Aae,if_neg hn];exact hb),mZ hn⟩
  ·obtain⟨x,e⟩:=hv
   exact⟨x,by rw[<- hR];exact e⟩
  ·have hn:=dz b (by rw[hb];simp)
   simp only[Aae,if_neg hn];exact hb
  ·have:b≠nb:=fun e=>by rw[e,hf]at hb;cases hb
   simp only[Aae,if_neg this]
  ·by_cases hn:b=w.heap.size
   ·simp only[Aae,if_pos hn]at hb;cases hb
   ·simp only[Aae,if_neg hn]at hb;exact hb
 refine h.upd _ fq (by rw[Caj];exact h.tmps) (by rw[put_defers];exact h.defers) (h.frame.push cs ty fun b hb=>.inl (by simp only[Aae,if_neg hb])) (fun t ht=>Gak ht) (fun b ro bs hb _=>?_) (fun b bs hb bh ho=>?_) (fun k c hk kd=>?_)
 ·obtain⟨_,h2,_⟩:=h.box hb
  have hn:=dz (G.bx b).block (by rw[h2];split<;>simp);exact⟨by simp only[Aae,if_neg hn],mZ hn⟩
 ·rcases Rbq.1 hb with hb|hb
  ·obtain⟨t,e⟩:=lB _ _ hb
   exact absurd e.symm nC
  ·simp only[Rbb,Rbx]at hb
   obtain rfl:=Ca6 hb.1;simp only[Aae,if_true]at bh;have:=h.frame.size;omega
 ·rcases Rbq.1 hk with hk|hk
  ·obtain⟨d,np,rfl,rfl⟩:=zU hk
   refine⟨d,rfl,fun _=>?_⟩;rw[np,qK _ _ _ _ _ (hd d np) h.tmps];simp only[dI,aD,Aae,if_true];exact⟨by simp[Addr.add],eZ _ _ _ (.inr ⟨_,Rbc _ (Rbb.2 rfl)⟩)⟩
  ·simp only[Rbb,Rbx]at hk
   obtain⟨rfl,rfl⟩:=hk;refine⟨nb,rfl,by simp[Aae],by simp[Aae],fun j l hj=>?_⟩;obtain⟨v,h1,h2⟩:=hl.get hj;refine⟨v,?_,?_,aD.mono fq l v h2⟩
   ·simp only[Aae,if_true]
    rw[qI];simpa using h1
   ·simp only[Aae,if_true]
    exact Paw j
theorem Xao (hR:R E.ntmps F σ ρ a w G)(hd:gG E.ntmps o)(hti:wU P E.ti){nv nb nr:Nat}{mv eR:Bool}(hf:Da2 σ nb nr){e:TypeId}{x:Operand}(ho:o.op=.box e x){res:cK}
  (h:(sH E mv eR nv nb nr g o).eval σ=some res) (hs:aR cf ρ g nv res.lets):iL P E F σ ρ a w g o Q res.upd:=by
 simp only[sH,ho,aC,Qb5,tiR,bA]at h;obtain⟨ti,h1,sv,h2,h⟩:=h;split at h
 ·rename_i ls rr
  simp only[aC,Qb5,aO]at h;obtain⟨_,h3,h⟩:=h;split at h3
  ·rename_i hb
   simp only[Qb6]at hb;obtain rfl:=xO hb.1.2;simp only[vJ,aF,Qb7]at h;subst h;refine⟨fun hg=>?_,fun hg=>by simp[gOn]at hg⟩;have h4:=jF rr (gY hR hg h2);refine pK (v:=.pointer (some ⟨w.heap.size,0,none⟩)) (w':=pushB w (a.eval x).cells e) ?_ ⟨_,hR.newBox hd hf.nb h4⟩;unfold execOp;simp only[ho];refine gT ?_;simp only[Instr.box,Sem.run_bind,Kaa,Result.andThen_ok,Sem.run_pure]
  ·cases h3
 ·cases h
theorem Lad {v:Value}{c:CK}(h:zeroCell v c=true):aD σ ρ G w (gP c) v:=by
 unfold zeroCell at h;split at h
 ·simp only[Qb6,decide_eq_true_eq]at h
  obtain⟨⟨rfl,rfl⟩,rfl⟩:=h;simp only[gP,aD,aP.val];exact .int _ _
 ·simp only[Qb6,decide_eq_true_eq]at h
  obtain⟨rfl,rfl⟩:=h;simp only[gP,aD,aP.val];exact .bool _
 ·rename_i s l
  simp only[Qb6,decide_eq_true_eq]at h;obtain⟨h1,rfl⟩:=h;simp only[gP,aD,aP.val];have:=Sc.str s.data.toList;rw[h1]at this
  have e:s=⟨[].toArray⟩:=by
   apply ByteArray.ext;apply Ub1;simpa using h1
  rw[e];exact this
 ·simp only[gP,aD]
  refine⟨⟨rfl,by simp⟩,fun _=>⟨?_,fun _ z _=>trivial,trivial⟩⟩;exact .rows none ⟨0,0,none⟩ 0 0 _ [] (fun _ _=>undef) rfl (Rbt _) (.inl rfl) (by simp) (by simp) (by simp)
 ·simp only[gP,aD]
 ·cases h
theorem Fag {v:Value}{c:CK}(h:zeroCell v c=true):v.oneCell'=true:=by
 unfold zeroCell at h;split at h<;>first|rfl|cases h
theorem dN.zeros {t:TypeId}{i:TI}{info:TypeInfo}{u:TypeDesc}(f:dN P t i info u):∃ z,info.zero=some z/\aH σ ρ G w (i.cells.map gP) z.cells.toList /\
  (∀ x∈z.cells.toList,x.oneCell'=true)/\(∀ (j:Nat) (x:Value) (c:CK),z.cells[j]?=some x->i.cells[j]?=some c->zeroCell x c=true):=by
 have h:=f.zero;unfold Tai at h;split at h
 ·rename_i vs cs heq
  simp only[Qb6,beq_iff_eq,Rb6]at h;obtain⟨h1,h2⟩:=h
  have hz:∀ (j:Nat) (x:Value) (c:CK),vs[j]?=some x->i.cells[j]?=some c->zeroCell x c=true:=by
   intro j x c hx hc
   exact h2 (x,c) (Rbn (i:=j) (by
    rw[List.getElem?_zip_eq_some];exact⟨by simpa using hx,hc⟩))
  refine⟨_,heq,.of_get (by simpa[Value.cells] using h1) fun j l v hj hv=>?_,fun x hx=>?_,hz⟩
  ·simp only[Sbd,Rbo]at hj
   obtain⟨c,hc,rfl⟩:=hj;exact Lad (hz j v c (by simpa[Value.cells] using hv) hc)
  ·obtain⟨j,hj⟩:=Sbt.1 hx
   have bh:j<i.cells.length:=by
    rw[<- h1];simpa[Value.cells] using (Qb8.1 hj).1
   exact Fag (hz j x _ (by simpa[Value.cells] using hj) (Rba bh))
 ·rename_i v c _ hz gE
  have h1:=Fag h;refine⟨v,hz,?_,fun x hx=>?_,fun j x c' hx hc=>?_⟩
  ·rw[gE,xM h1]
   simp only[Rby,Sbc,aH];exact⟨v,[],rfl,Lad h,rfl⟩
  ·rw[xM h1]at hx
   simp only[Rbb]at hx;rw[hx];exact h1
  ·rw[xM h1]at hx
   rw[gE]at hc
   cases j with
   | zero =>
    simp only[Rbf,Qb7]at hc;simp at hx;rw[<- hx,<- hc];exact h
   |succ j=>simp at hc
 ·cases h
theorem mX {t:TypeId}{info:TypeInfo}{z:Value}(h:P.info? t=some info)(hz:info.zero=some z):(zeroValue t).run P w=.ok z w:=by
 simp[zeroValue,typeInfo,h,hz]
theorem Ra8 (hR:R E.ntmps F σ ρ a w G)(hd:gG E.ntmps o)(hti:wU P E.ti){nv nb nr:Nat}{mv eR:Bool}(hf:Da2 σ nb nr){e:TypeId}(ho:o.op=.alloc e){res:cK}
  (h:(sH E mv eR nv nb nr g o).eval σ=some res) (hs:aR cf ρ g nv res.lets):iL P E F σ ρ a w g o Q res.upd:=by
 simp only[sH,ho,aC,Qb5,tiR,bA,aO]at h;obtain⟨ti,h1,_,h2,h⟩:=h;split at h2
 ·rename_i hb
  obtain rfl:=xO hb;simp only[vJ,aF,Qb7]at h;subst h;refine⟨fun hg=>?_,fun hg=>by simp[gOn]at hg⟩;obtain⟨info,u,f⟩:=bD (hti.ok _ _ h1);obtain⟨z,h3,h4,h5,-⟩:=f.zeros (σ:=σ) (ρ:=ρ) (G:=G) (w:=w);refine pK (v:=.pointer (some ⟨w.heap.size,0,none⟩)) (w':=pushB w z.cells e) ?_ ⟨_,hR.newBox hd hf.nb h4⟩;unfold execOp;simp only[ho];refine gT ?_;simp only[Instr.alloc,Sem.run_bind,mX f.info_ h3,Kaa,Result.andThen_ok,Sem.run_pure]
 ·cases h2
theorem mJ {α:Type}{l:List α}{k:Nat}{r:List α}(h:k+r.length<=l.length):(setRange l k r).length=l.length:=by
 simp[setRange];omega
theorem jE {α:Type}{l:List α}{k:Nat}{r:List α}(h:k+r.length<=l.length)(j:Nat):(setRange l k r)[j]?=if k<=j/\j<k+r.length then r[j-k]? else l[j]?:=by
 unfold setRange;by_cases h1:j<k
 ·rw[Rbd,Rbm (by simp;omega),Sbe,if_pos h1,if_neg (by omega)]
 ·by_cases h2:j<k+r.length
  ·rw[if_pos ⟨by omega,h2⟩,Rbd,Rbj (by simp;omega),Rbm (by simp;omega)]
   congr 1
   simp;omega
  ·rw[if_neg (by omega),Rbj (by simp;omega),Sba]
   congr 1
   simp;omega
theorem Pag {α:Type}{l:List α}{k:Nat}{v:α}{r:List α}(h:k+(v::r).length<=l.length):setRange (l.set k v) (k+1) r=setRange l k (v::r):=by
 simp only[Rbw]at h;apply Ubq;intro j;rw[jE (by simp;omega),jE (by simp;omega)];by_cases h1:k+1<=j/\j<k+1+r.length
 ·rw[if_pos h1,if_pos (by simp;omega),show j-k=(j-(k+1))+1 by omega,Sbl]
 ·rw[if_neg h1,Tbj]
  by_cases h2:k=j
  ·subst h2
   rw[if_pos rfl,if_pos (by omega),if_pos (by simp)];simp
  ·rw[if_neg h2,if_neg (by simp;omega)]
theorem Ual (off:Nat):∀ (vs:List Value) (k:Nat) (cells:Array Value),off+k+vs.length<=cells.size ->
  ((vs.zipIdx k).foldl (fun cs x=>cs.setIfInBounds (off+x.2) x.1) cells).toList=setRange cells.toList (off+k) vs
 |[],k,cells,h=>by simp[setRange]
 | v :: r, k, cells, h => by
  simp only[Rbw]at h;simp only[List.zipIdx_cons,Tbv];rw[Ual off r (k+1) _ (by simp;omega),Array.toList_setIfInBounds,<- Rbp,Pag (by simp;omega)]
theorem aH.setRange {ls ms:List aT}{us xs:List Value}(h:aH σ ρ G w ls us)(h':aH σ ρ G w ms xs){k:Nat}(hk:k+ms.length<=ls.length):aH σ ρ G w (setRange ls k ms) (setRange us k xs):=by
 have e1:=h.len;have e2:=h'.len;refine .of_get (by rw[mJ (by omega),mJ hk,e1]) fun i l v hi hv=>?_
 rw[jE hk]at hi;rw[jE (by omega)]at hv;rw[e2]at hv;split at hi
 ·rename_i hh
  rw[if_pos hh]at hv;obtain⟨v',h1,h2⟩:=h'.get hi;rw[h1]at hv;exact Rb5 hv▸h2
 ·rename_i hh
  rw[if_neg hh]at hv;obtain⟨v',h1,h2⟩:=h.get hi;rw[h1]at hv;exact Rb5 hv▸h2
theorem Qat {place:Nat->Option (Nat×Nat)}{cells:Array Value}{i off size:Nat}{v:Value}{rest:List (Nat×Value)}(hp:place i=some (off,size))(hs:v.cells.toList.length=size)(hb:off+size<=cells.size) :
  ∃ cells':Array Value,Instr.fill place cells ((i,v)::rest)=Instr.fill place cells' rest/\cells'.toList=setRange cells.toList off v.cells.toList:=by
 refine⟨v.cells.zipIdx.foldl (fun cs (x:Value×Nat)=>cs.setIfInBounds (off+x.2) x.1) cells,?_,?_⟩
 ·rw[Instr.fill,hp]
  dsimp only;have:v.cells.size=size:=by simpa using hs
  rw[if_neg];simp only[this];simp;omega
 ·have:=Ual off v.cells.toList 0 cells (by simpa[hs] using hb)
  rw[Sbg]at this;rw[<- this,<- Array.foldl_toList,Array.toList_zipIdx]
def Ga1 (σ:Nat->Option aU)(ρ:List D)(G:Gh)(w:World)(a:Act):List (Nat×Operand)->List (Nat×SV)->Prop
 |[],ps=>ps=[]
 |x::xs,ps=>∃ sv qs,ps=(x.1,sv)::qs/\dI σ ρ G w sv (a.eval x.2)/\Ga1 σ ρ G w a xs qs
theorem Aa6 (hR:R E.ntmps F σ ρ a w G)(hg:gOn ρ g=true){ty:Nat->TypeId}:∀ {xs:List (Nat×Operand)} {ps:List (Nat×SV)},(Eag E g ty xs).eval σ=some ps ->
  Ga1 σ ρ G w a xs ps
 | [], ps, h => by
  simp only[Eag,aF,Qb7]at h;subst h;exact rfl
 | (i, x) :: xs, ps, h => by
  simp only[Eag,aC,Qb5,aF,Qb7]at h;obtain⟨sv,h1,l,h2,rfl⟩:=h;exact⟨sv,l,rfl,gY hR hg h1,Aa6 hR hg h2⟩
theorem Aat {flds:List (Nat×Nat)}{place:Nat->Option (Nat×Nat)}(oB:∀ i off t f,flds[i]?=some (off,t)->E.ti t=some f->place i=some (off,f.size)) :
  ∀ {xs:List (Nat×Operand)} {ps:List (Nat×SV)},Ga1 σ ρ G w a xs ps->∀ {ls lh:List aT} {us:Array Value},aH σ ρ G w ls us.toList->uO flds E.ti ls ps=some lh ->
  ∃ eE,Instr.fill place us (xs.map fun x=>(x.1,a.eval x.2))=some eE/\aH σ ρ G w lh eE.toList
 | [], _, rfl, ls, lh, us, hl, h => by
  simp only[uO,Qb7]at h;subst h;exact⟨us,rfl,hl⟩
 | (i, x) :: xs, _, ⟨sv, ps, rfl, h1, hr⟩, ls, lh, us, hl, h => by
  unfold uO at h;split at h
  ·rename_i off t ic
   split at h
   ·rename_i f hf
    split at h
    ·rename_i vs fX
     cases hb:(Nat.beq vs.length f.size&&Nat.ble (off+f.size) ls.length) with
     |false=>rw[hb]at h;cases h
     | true =>
      rw[hb,cond_true]at h;simp only[Qb6,Rb3,Sbr]at hb;have h2:=jF fX h1;have hlen:=hl.len;obtain⟨us1,h3,h4⟩:=Qat (rest:=xs.map fun x=>(x.1,a.eval x.2)) (oB _ _ _ _ ic hf) (by rw[h2.len];exact hb.1) (by rw[<- Tb2,hlen];exact hb.2);obtain⟨eE,h5,h6⟩:=Aat oB hr (us:=us1) (by rw[h4];exact hl.setRange h2 (by rw[hb.1];exact hb.2)) h;exact⟨eE,by rw[Rby,h3];exact h5,h6⟩
    ·cases h
   ·cases h
  ·cases h
theorem Caa {α β:Type}(f:α->Sem β)(g:α->β):∀ (l:List α),(∀ x∈l,(f x).run P w=.ok (g x) w)->(l.mapM f).run P w=.ok (l.map g) w
 |[],_=>by simp
 | x :: l, h => by
  rw[List.mapM_cons,Sem.run_bind,h x (by simp)];simp only[Result.andThen_ok];rw[Sem.run_bind,Caa f g l fun y hy=>h y (by simp[hy])];simp
theorem Aak {α β:Type}(f:α->Sem β)(g:α->β)(l:Array α)(h:∀ x∈l.toList,(f x).run P w=.ok (g x) w):(l.mapM f).run P w=.ok (l.map g) w:=by
 rw[Array.mapM_eq_mapM_toList,map_eq_pure_bind,Sem.run_bind,Caa f g _ h];simp only[Result.andThen_ok,Sem.run_pure];congr 1;apply Ub1;simp
theorem yH {α β:Type}(f:List β->α->Option (List β)):∀ (l:List α),l.foldl (fun acc x=>acc.bind fun r=>f r x) none=none
 |[]=>rfl
 |x::l=>by rw[Tbv];exact yH f l
theorem Aar {α β:Type}(f:List β->α->Option (List β)):∀ (l:List α) (r0 r:List β),l.foldl (fun acc x=>acc.bind fun r=>f r x) (some r0)=some r->∀ x∈l,∃ r1 r2,f r1 x=some r2
 |[],_,_,_,x,hx=>by simp at hx
 | y :: l, r0, r, h, x, hx => by
  rw[Tbv,Rbe]at h
  cases hf:f r0 y with
  |none=>rw[hf,yH]at h;cases h
  | some r1 =>
   rcases Rbg.1 hx with rfl|hx
   ·exact⟨r0,r1,hf⟩
   ·rw[hf]at h
    exact Aar f l r1 r h x hx
theorem Abe {d:Nat}{t:TypeId}{l:List TypeId}(h:flat P d t=some l):∃ i,P.info? t=some i:=by
 cases d with
 |zero=>cases h
 | succ d =>
  unfold flat at h;unfold Program.underlying at h
  cases hi:P.info? t with
  |none=>rw[hi]at h;cases h
  |some i=>exact⟨i,rfl⟩
theorem Wab {d:Nat}{t:TypeId}{l:List TypeId}{fs:Array Field}(h:flat P (d+1) t=some l)(hu:P.underlying t=some (.struct fs)):∀ f∈fs.toList,∃ i,P.info? f.type=some i:=by
 unfold flat at h;rw[hu]at h;dsimp only at h;intro f hf;obtain⟨r1,r2,h1⟩:=Aar _ _ _ _ h f hf
 cases hm:flat P d f.type with
 |none=>rw[hm]at h1;cases h1
 |some m=>exact Abe hm
theorem dN.struct {t:TypeId}{i:TI}{info:TypeInfo}{u:TypeDesc}(f:dN P t i info u)(h:i.agg=true):∃ fs,u=.struct fs/\∀ fd∈fs.toList,∃ i,P.info? fd.type=some i:=by
 rw[f.agg]at h;have hc:=f.cells
 cases ic:flat P 12 t with
 |none=>rw[ic]at hc;cases hc
 | some l =>
  unfold Jap at h;split at h
  ·rename_i fs
   exact⟨fs,rfl,Wab ic f.und⟩
  ·unfold flat at ic
   rw[f.und]at ic;cases ic
  ·cases h
theorem Ra7 (hR:R E.ntmps F σ ρ a w G)(hd:gG E.ntmps o)(hti:wU P E.ti){nv nb nr:Nat}{mv eR:Bool}{t:TypeId}{parts:Array (Nat×Operand)}(ho:o.op=.build t parts){res:cK}
  (h:(sH E mv eR nv nb nr g o).eval σ=some res) (hs:aR cf ρ g nv res.lets):iL P E F σ ρ a w g o Q res.upd:=by
 simp only[sH,ho,aC,Qb5,tiR,bA,aO]at h;obtain⟨ti,h1,_,h2,ps,h3,h⟩:=h;split at h2
 ·rename_i ni
  obtain⟨info,u,f⟩:=bD (hti.ok _ _ h1);obtain⟨fs,rfl,hfs⟩:=f.struct ni;split at h
  ·rename_i ls rr
   refine dZ hR hd h hs fun hg _=>?_
   obtain⟨z,h4,h5,-,-⟩:=f.zeros (σ:=σ) (ρ:=ρ) (G:=G) (w:=w)
   have oB:∀ (i off t':Nat) (f':TI),ti.flds[i]?=some (off,t')->E.ti t'=some f'->(fs.map fun fd=>(fd.offset,((P.info? fd.type).map (·.size)).getD 0))[i]?=some (off,f'.size):=by
    intro i off t' f' ic hf';obtain⟨fs',fd,e1,e2,e3,e4⟩:=Na2 f ic;obtain rfl:fs=fs':=by injection e1
    obtain⟨jw,u',ff⟩:=bD (hti.ok _ _ hf');rw[Array.getElem?_map,e2,Sbq,e3,e4,ff.info_];simp[ff.size]
   obtain⟨eE,h6,h7⟩:=Aat oB (Aa6 hR hg h3) (us:=z.cells) h5 rr;refine⟨.agg eE,⟨eE.toList,by simp,h7⟩,?_⟩;unfold execOp;simp only[ho];refine gT ?_
   have hm:=Aak (P:=P) (w:=w) (fun fd:Field=>(do pure (fd.offset,<- sizeOf fd.type):Sem (Nat×Nat))) (fun fd=>(fd.offset,((P.info? fd.type).map (·.size)).getD 0)) fs (fun fd hfd=>by
    obtain⟨i,hi⟩:=hfs fd hfd;simp only[Sem.run_bind,run_sizeOf hi,Result.andThen_ok,Sem.run_pure,hi,Sbq,Option.getD_some])
   unfold Instr.build;simp only[Sem.run_bind,mX f.info_ h4,Result.andThen_ok,run_underlying f.und];rw[hm];have e:(parts.map fun x=>(x.1,a.eval x.2)).toList=parts.toList.map fun x=>(x.1,a.eval x.2):=by simp
   simp only[Result.andThen_ok];rw[e,h6];rfl
  ·cases h
 ·cases h2
end
section
variable {P:Program} {E:Env} {F:bQ} {σ:Nat->Option aU} {ρ:List D} {a:Act} {w w':World} {G:Gh} {g:Option (aP×Bool)} {o:Oper} {cf:Nat->List D->Option (List D)} {Q:Exit->Act->World->Prop} {next:Act->World->Prop}
theorem add_plain {b:Addr}(h:b.spot=none)(k:Nat):b.add k=⟨b.block,b.off+k,none⟩:=by
 cases b;simp only at h;subst h;unfold Addr.add;split<;>simp_all
theorem nX.write (h:nX F G w){B off:Nat}{vs:List Value}{ow:Ow}(ho:G.own B=ow)(hz:ow≠.frz/\ow≠.oth)
  (hb:∀ b,ow=.box b->B<F.w0.heap.size->F.own0 B=.box b->(F.rng b).1<=off/\off+vs.length<=(F.rng b).2):nX F G (w.setCells B off vs):=by
 obtain⟨e1,e2,e3⟩:=dP B vs off w;refine⟨by rw[e1];exact h.os,by rw[e2];exact h.tape,by rw[e3];exact h.output,by rw[setCells_size];exact h.size,fun b bh hf=>?_,fun b j bh hj=>?_,fun b bh=>?_⟩
 ·obtain⟨h1,h2⟩:=h.keep b bh hf
  have dz:b≠B:=by
   rintro rfl
   rw[ho]at h2;rw[<- h2]at hf
   rcases hf with hf|hf
   ·exact hz.1 hf
   ·exact hz.2 hf
  exact⟨by rw[bO B vs off w b dz];exact h1,h2⟩
 ·obtain⟨h1,c0,c1,e,fr,h2,h3,h4,h5⟩:=h.boxes b j bh hj
  refine⟨h1,c0,?_⟩;by_cases dz:b=B
  ·subst dz
   obtain⟨c',h6,h7,h8⟩:=Ba7 b vs off w c1 e fr h3;refine⟨c',e,fr,h2,h6,by rw[h7];exact h4,fun k hk=>?_⟩;have jd:ow=.box j:=by rw[<- ho];exact h1
   obtain⟨h9,eo⟩:=hb j jd bh hj;rw[h8 k (by omega)];exact h5 k hk
  ·exact⟨c1,e,fr,h2,by rw[bO B vs off w b dz];exact h3,h4,h5⟩
 ·rw[setCells_size]at bh
  exact h.fresh b bh
theorem Jah (hR:R E.ntmps F σ ρ a w G)(hti:wU P E.ti){nv:Nat}{mv eR:Bool}{t:TypeId}{x y:Operand}(ho:o.op=.store t x y){ti:TI}(hi:E.ti t=some ti){b off:Nat}{ls:List aT}{sv:SV}
  (hx:gOn ρ g=true->aD σ ρ G w (.px b off) (a.eval x)) (hy:gOn ρ g=true->dI σ ρ G w sv (a.eval y)) (rr:lI ti.agg sv=some ls) {res:cK}
  (h:(Da7 nv mv eR o g ti (.px b off) ls).eval σ=some res):iL P E F σ ρ a w g o Q res.upd:=by
 simp only[Da7,aC,aO,Qb5,aW,Rbe]at h;obtain⟨_,h1,h⟩:=h;split at h1
 ·rename_i ox
  simp only[Qb6,Rb3,Tb5]at ox;obtain⟨hlen,ri⟩:=ox;split at h
  ·rename_i bs hk
   simp only[aC,aO,Qb5]at h;obtain⟨_,h2,h⟩:=h;split at h2
   ·rename_i gC
    simp only[Qb6,Sbr]at gC;obtain⟨⟨hle,zv⟩,cT⟩:=gC;obtain rfl:=xO zv;simp only[aF,Qb7]at h;subst h;refine⟨fun hg=>?_,fun hg=>by simp[gOn]at hg⟩;obtain⟨info,u,f⟩:=bD (hti.ok _ _ hi);have hl:=jF rr (hy hg);have iz:=hl.ones cT;have gu:=hl.len;have hpx:=hx hg;simp only[aD]at hpx;obtain⟨h3,h4,h5⟩:=hR.box hk;have h4:G.own (G.bx b).block=.box b:=by simpa using h4
    generalize fX:(a.eval y).cells.toList=vs at hl iz gu
    have cV:∀ j,off<=j->j<off+ls.length->∃ v,w.cell? ⟨(G.bx b).block,(G.bx b).off+j,none⟩=some v/\w.frozen? ⟨(G.bx b).block,(G.bx b).off+j,none⟩=false:=by
     intro j zb kq;have hbj:bs[j]?=some bs[j]:=Rba (by omega);obtain⟨v,h6,h7,-⟩:=h5 j _ hbj;rw[add_plain h3]at h6 h7;exact⟨v,h6,h7⟩
    have cP:(execOp a.eval o).run P w=.ok .skip (w.setCells (G.bx b).block ((G.bx b).off+off) vs):=by
     unfold execOp;simp only[ho]
     have:=Fao (P:=P) (w:=w) f (b:=(G.bx b).block) (off:=(G.bx b).off+off) (v:=a.eval y) (by rw[fX];omega)
      (fun j hj=>by
       obtain⟨v,h6,-⟩:=cV (off+j) (by omega) (by omega);exact⟨v,by rw[Rbp];exact h6⟩)
      (fun j hj=>by
       obtain⟨v,-,h6⟩:=cV (off+j) (by omega) (by omega);rw[Rbp];exact h6) (by rw[fX];exact iz)
     simp only[Instr.storeAt,Instr.sureAddr,Sem.run_bind,hpx.1,Sem.run_pure,Result.andThen_ok,add_plain h3,this,fX]
    refine Taj cP ⟨G,?_⟩;have dz:∀ b',G.own b'≠.box b->b'≠(G.bx b).block:=fun b' hb e=>hb (by rw[e];exact h4)
    have hkR:∀ r,upds σ [(kB b,aU.box false (setRange bs off ls))] (kR r)=σ (kR r):=fun r=>by
     refine fP _ _ _ fun c hc=>?_
     simp only[Rbb,Rbx]at hc;exact gB hc.1.symm
    have fq:Fr σ G w (upds σ [(kB b,aU.box false (setRange bs off ls))]) G (w.setCells (G.bx b).block ((G.bx b).off+off) vs):=by
     refine⟨fun b' hb bh=>⟨hb,bO _ _ _ _ _ (dz b' (by rw[hb];simp))⟩,fun r k _ hv=>?_,fun r k hk=>hk.same hkR,fun r k b' p _ _ hb=>⟨.inl hb,bO _ _ _ _ _ (dz b' (by rw[hb];simp))⟩,
      fun r k m _ hv=>⟨?_,fun b' p hb=>hb⟩,fun _ _=>rfl,fun _ _=>rfl,fun k hk=>eZ _ _ _ (.inl hk),fun _ _ _ _ _ _ _ hb=>hb⟩
     ·obtain⟨x',m,st,e,hs⟩:=hv
      exact⟨x',m,st,by rw[<- hkR];exact e,hs⟩
     ·obtain⟨x',e⟩:=hv
      exact⟨x',by rw[<- hkR];exact e⟩
    have im:(setRange bs off ls).length=bs.length:=mJ hle;rw[ri];refine hR.upd _ fq hR.tmps hR.defers (hR.frame.write h4 (by simp) fun b' e bh sb=>?_) (fun t _=>rfl) (fun b' ro lh e9 iw=>?_) (fun b' lh e9 bh sb=>?_) (fun k c hk1 hk2=>?_)
    ·obtain rfl:b=b':=by injection e
     have:=hR.rng b bs hk bh sb;rw[this];dsimp only;omega
    ·refine⟨rfl,bO _ _ _ _ _ (dz _ ?_)⟩
     obtain⟨_,h6,_⟩:=hR.box e9;rw[h6];split
     ·simp
     ·intro e
      obtain rfl:b'=b:=by injection e
      exact iw _ (Rbb.2 rfl)
    ·simp only[Rbb,Rbx,aU.box.injEq,true_and]at e9
     obtain⟨e,rfl⟩:=e9;obtain rfl:=Ca6 e;rw[im];exact hR.rng b' bs hk bh sb
    ·simp only[Rbb,Rbx]at hk1
     obtain⟨rfl,rfl⟩:=hk1;refine⟨b,rfl,h3,by simpa using h4,fun j l hj=>?_⟩;rw[jE hle]at hj;rw[World.frozen?_setCells,add_plain h3];split at hj
     ·rename_i jc
      obtain⟨v,h6,h7⟩:=hl.get hj;obtain⟨u',h8,h9⟩:=cV j jc.1 jc.2;refine⟨v,?_,h9,aD.mono fq l v h7⟩
      have:=World.cell?_setCells_in (G.bx b).block vs ((G.bx b).off+off) w (fun j' jd=>by
       obtain⟨v',eo,-⟩:=cV (off+j') (by omega) (by omega);rw[Rbp,eo];rfl) (j-off) (by omega)
      rw[show (G.bx b).off+off+(j-off)=(G.bx b).off+j by omega]at this;rw[this,<- h6,Rba]
     ·rename_i a1f
      obtain⟨v,h6,h7,h8⟩:=h5 j l hj;rw[add_plain h3]at h6 h7;refine⟨v,?_,h7,aD.mono fq l v h8⟩;rw[World.cell?_setCells_out _ _ _ _ _ (fun _ _=>by dsimp only;omega)];exact h6
   ·cases h2
  ·cases h
 ·cases h1
end
theorem Rp.move {own own':Nat->Ow}{w w':World}{r r':Nat}{p:List Nat}{m:Nat}{v:Value}{d:D}(h:Rp own w r p m v d)
  (hz:∀ b,own b=.frz->b<w.heap.size->own' b=.frz/\w'.heap[b]?=w.heap[b]?):∀ (p':List Nat) (m':Nat),m'<=m ->
  (∀ b t,own b=.slc r (p++t)->own' b=(if t.length<m' then .slc r' (p'++t) else .frz)/\w'.heap[b]?=w.heap[b]?)->Rp own' w' r' p' m' v d:=by
 induction h with
 |sc h=>exact fun _ _ _ _=>.sc h
 |hole v h1=>exact fun _ _ _ _=>.hole v h1
 | fz h =>
  intro p' m' hm hs;obtain rfl:m'=0:=by omega
  exact .fz (h.mono' fun b hb bh=>hz b hb bh)
 | sl A a n c sz rs vs hn hc hA ej cI cV dq ih =>
  rename_i p m;intro p' m' hm hs
  have bh:∀ i row,rs[i]?=some row->i<rs.length:=fun i row hi=>by
   rcases Rbu i rs.length with h|h
   ·exact h
   ·simp[List.getElem?_eq_none h]at hi
  have xf:∀ i row,rs[i]?=some row->A=some a:=fun i row hi=>by
   rcases hA with e|⟨e,e'⟩
   ·exact e
   ·have:=bh i row hi;omega
  cases m' with
  | zero =>
   refine .fz (.rows A a n c sz rs vs hn hc ?_ ej (fun i row hi j d hj=>?_) (fun i row hi j d hj=>?_))
   ·rcases hA with e|⟨e,e'⟩
    ·exact .inr e
    ·exact .inl (by omega)
   ·obtain⟨h1,h2⟩:=hs a.block [] (by simpa using (cI (xf i row hi)).2.1)
    refine⟨by simpa using h1,?_⟩;exact (iD (w:=w) (w':=w') (by rw[add_block];exact h2)).trans (cV i row hi j d hj)
   ·exact (ih i row hi j d hj [] 0 (Nat.zero_le _) (fun b t hb=>by
     have:=hs b ([i*sz+j]++t) (by rw[<- Rbd];exact hb);simpa using this)).zero
  | succ m' =>
   refine .sl A a n c sz rs vs hn hc hA ej (fun e=>?_) (fun i row hi j d hj=>?_) (fun i row hi j d hj=>?_)
   ·obtain⟨h1,h2,h3⟩:=cI e
    obtain⟨h4,h5⟩:=hs a.block [] (by simpa using h2);refine⟨h1,by simpa using h4,fun k hk=>?_⟩;obtain⟨u,hu,hf⟩:=h3 k hk;exact⟨u,(iD (w:=w) (w':=w') (by rw[add_block];exact h5)).trans hu,(Ca9 (w:=w) (w':=w') (by rw[add_block];exact h5)).trans hf⟩
   ·obtain⟨h1,h2⟩:=hs a.block [] (by simpa using (cI (xf i row hi)).2.1)
    exact (iD (w:=w) (w':=w') (by rw[add_block];exact h2)).trans (cV i row hi j d hj)
   ·refine ih i row hi j d hj (p'++[i*sz+j]) m' (by omega) (fun b t hb=>?_)
    have:=hs b ([i*sz+j]++t) (by rw[<- Rbd];exact hb);simp only[Rbh,Sb3]at this;rw[<- Rbd]at this;refine⟨?_,this.2⟩;rw[this.1];by_cases ht:t.length<m'
    ·rw[if_pos ht,if_pos (by omega)]
    ·rw[if_neg ht,if_neg (by omega)]
inductive Upd:List Nat->D->D->D->Prop
 |here (x y:D):Upd [] x y y
 | down (sz : Nat) (rs : List (List D)) (i j : Nat) (row : List D) (z z' y : D) (p : List Nat) (hi : rs[i]? = some row) (hj : row[j]? = some z)
   (h:Upd p z y z'):Upd ((i*sz+j)::p) (.rows sz rs) y (.rows sz (rs.set i (row.set j z')))
theorem Gbk {i j i' j' sz:Nat}(hj:j<sz)(jd:j'<sz)(h:i*sz+j=i'*sz+j'):i=i'/\j=j':=by
 have h1:(i*sz+j) / sz=i:=by
  rw[Ubb,Ubh (by omega),Tb6 hj,Sbg]
 have h2:(i'*sz+j') / sz=i':=by
  rw[Ubb,Ubh (by omega),Tb6 jd,Sbg]
 rw[h,h2]at h1;subst h1;exact⟨rfl,by omega⟩
theorem Rp.sl_inv {own:Nat->Ow}{w:World}{r:Nat}{p:List Nat}{m:Nat}{v:Value}{sz:Nat}{rs:List (List D)}(h:Rp own w r p (m+1) v (.rows sz rs)) :
  ∃ (A:Option Addr) (a:Addr) (n c:Nat) (vs:Nat->Nat->Value),v=.slice A n c/\rs.length=n/\n<=c/\(A=some a\/(A=none/\c=0))/\(∀ r∈rs,r.length=sz) /\
   (A=some a->a.spot=none/\own a.block=.slc r p/\∀ k,k<c*sz->∃ u,w.cell? (a.add k)=some u/\fzq w (a.add k)=false) /\
   (∀ i row,rs[i]?=some row->∀ j d,row[j]?=some d->w.cell? (a.add (i*sz+j))=some (vs i j)) /\
   (∀ i row,rs[i]?=some row->∀ j d,row[j]?=some d->Rp own w r (p++[i*sz+j]) m (vs i j) d):=by
 cases h with
 |sc h=>cases h
 |sl A a n c sz rs vs hn hc hA ej cI cV dq=>exact⟨A,a,n,c,vs,rfl,hn,hc,hA,ej,cI,cV,dq⟩
theorem Rp.upd {own own':Nat->Ow}{w w':World}{r M':Nat}{full:List Nat}{y:D}{u:Value}
  (hz:∀ b,own b=.frz->b<w.heap.size->own' b=.frz/\w'.heap[b]?=w.heap[b]?)
  (hs:∀ b t,own b=.slc r t->¬ full <+: t->own' b=(if t.length<M' then .slc r t else .frz)/\w'.heap[b]?=w.heap[b]?)
  (hM:full.length<=M') (ij:Rp own' w' r full (M'-full.length) u y) :
  ∀ (p q:List Nat) (M:Nat) (v:Value) (x x':D),full=q++p->M'<=M->Rp own w r q (M-q.length) v x->Aaf own w r q v p u->Upd p x y x'->Rp own' w' r q (M'-q.length) v x'
 | [], q, M, v, x, x', hf, hMM, hx, hn, hu => by
  cases hu;simp only[Aaf]at hn;rw[Rb1]at hf;subst hf hn;exact ij
 | k :: p, q, M, v, x, x', hf, hMM, hx, hn, hu => by
  generalize hk:k::p=kp at hu
  cases hu with
  |here=>cases hk
  | down sz rs i j row z z' y p' hi hj hu =>
   obtain⟨rfl,rfl⟩:=List.cons.inj hk;have hlen:full.length=q.length+(p.length+1):=by rw[hf];simp
   obtain⟨m,hm⟩:∃ m,M-q.length=m+1:=⟨M-q.length-1,by omega⟩;obtain⟨m',n2⟩:∃ m',M'-q.length=m'+1:=⟨M'-q.length-1,by omega⟩;rw[hm]at hx;rw[n2];obtain⟨A,a,n,c,vs,rfl,h1,h2,h3,h4,h5,h6,h7⟩:=hx.sl_inv;have pr:i<rs.length:=(Qb8.1 hi).1
   have hA:A=some a:=by
    rcases h3 with e|⟨e,e'⟩
    ·exact e
    ·omega
   subst hA;obtain⟨h8,h9,eo⟩:=h5 rfl;obtain⟨a',n',c',u',e1,e2,e3,e4⟩:=hn;obtain⟨rfl,rfl,rfl⟩:a=a'/\n=n'/\c=c':=by injection e1 with a b c;exact⟨Rb5 a,b,c⟩
   have iu:=h6 i row hi j z hj;rw[iu]at e3;obtain rfl:=Rb5 e3
   have hq:¬ full <+: q:=by
    intro e;have:=e.length_le;omega
   obtain⟨fy,dk⟩:=hs _ _ h9 hq;rw[if_pos (by omega)]at fy;have p8:∀ k,w'.cell? (a.add k)=w.cell? (a.add k):=fun k=>iD (w:=w) (w':=w') (by rw[add_block];exact dk)
   have pS:∀ k,fzq w' (a.add k)=fzq w (a.add k):=fun k=>Ca9 (w:=w) (w':=w') (by rw[add_block];exact dk)
   have dq:=Rp.upd hz hs hM ij p (q++[i*sz+j]) M (vs i j) z z' (by rw[hf];simp) hMM (by
    have:=h7 i row hi j z hj;rwa[show M-(q++[i*sz+j]).length=m by simp;omega]) e4 hu
   rw[show M'-(q++[i*sz+j]).length=m' by simp;omega]at dq;have k8:row.length=sz:=h4 row (Rbn hi);have bh:j<sz:=by rw[<- k8];exact (Qb8.1 hj).1
   have nz:∀ i' fW,(rs.set i (row.set j z'))[i']?=some fW->∀ j' d,fW[j']?=some d->(i'=i/\j'=j/\d=z')\/(∃ row0,rs[i']?=some row0/\row0[j']?=some d/\¬ (i'=i/\j'=j)):=by
    intro i' fW gA j' d jd;rw[Tbj]at gA;by_cases qq:i=i'
    ·subst qq
     rw[if_pos rfl,if_pos pr]at gA;obtain rfl:=Rb5 gA;rw[Tbj]at jd;by_cases v7:j=j'
     ·subst v7
      rw[if_pos rfl,if_pos (by omega)]at jd;exact .inl ⟨rfl,rfl,(Rb5 jd).symm⟩
     ·rw[if_neg v7]at jd
      exact .inr ⟨row,hi,jd,fun e=>v7 e.2.symm⟩
    ·rw[if_neg qq]at gA
     exact .inr ⟨fW,gA,jd,fun e=>qq e.1.symm⟩
   refine .sl _ a n c sz _ vs (by simpa using h1) h2 (.inl rfl) (fun fW hr=>?_) (fun _=>⟨h8,fy,fun k hk=>?_⟩) (fun i' fW gA j' d jd=>?_) (fun i' fW gA j' d jd=>?_)
   ·rcases Ubc hr with hr|rfl
    ·exact h4 _ hr
    ·simpa using k8
   ·rw[p8,pS]
    exact eo k hk
   ·rw[p8]
    rcases nz i' fW gA j' d jd with ⟨rfl,rfl,rfl⟩|⟨row0,fb,gq,-⟩
    ·exact iu
    ·exact h6 _ _ fb _ _ gq
   ·rcases nz i' fW gA j' d jd with ⟨rfl,rfl,rfl⟩|⟨row0,fb,gq,dz⟩
    ·exact dq
    ·refine (h7 _ _ fb _ _ gq).move hz _ m' (by omega) fun b t hb=>?_
     have hnp:¬ full <+: q++[i'*sz+j']++t:=by
      intro e;rw[hf,Rbd,List.prefix_append_right_inj]at e;have e':=(List.cons_prefix_cons.1 e).1
      have vw:j'<sz:=by
       have:=(Qb8.1 gq).1;rw[h4 row0 (Rbn fb)]at this;exact this
      obtain⟨mz,nn⟩:=Gbk vw bh e'.symm;exact dz ⟨mz,nn⟩
     obtain⟨jg,lq⟩:=hs b _ hb hnp;simp only[Rbh,Sb3]at jg;refine⟨?_,lq⟩;rw[jg];by_cases ht:t.length<m'
     ·rw[if_pos ht,if_pos (by omega)]
     ·rw[if_neg ht,if_neg (by omega)]
theorem xA:∀ (l:List Step) (n:Nat),l.foldl (fun s x=>s+x.n) n=n+bT l
 |[],n=>rfl
 | s :: l, n => by
  simp only[bT,Tbv];rw[xA l (n+s.n),xA l (0+s.n)];omega
theorem jH (s:Step)(l:List Step):bT (s::l)=s.n+bT l:=by
 show (s::l).foldl (fun s x=>s+x.n) 0=_
 rw[Tbv,xA];omega
theorem fV:∀ (l m:List Step),bT (l++m)=bT l+bT m
 |[],m=>by simp[bT]
 |s::l,m=>by rw[Tbq,jH,jH,fV l m];omega
section
variable {ρ:List D} {g:Option (aP×Bool)} {cf:Nat->List D->Option (List D)}
theorem aR.append:∀ {l m:List Step} {nv:Nat},aR cf ρ g nv (l++m)->aR cf ρ g nv l/\aR cf ρ g (nv+bT l) m
 |[],m,nv,h=>⟨trivial,h⟩
 | s :: l, m, nv, h => by
  obtain⟨h1,h2⟩:=h;obtain⟨h3,h4⟩:=aR.append h2;exact⟨⟨h1,h3⟩,by rw[jH,<- Rbp];exact h4⟩
theorem Sab {sz off n:Nat}{x i:D}{vs ds:List D}(h:(aS.set sz off n).run (x::i::vs)=some ds) :
  ∃ rs k iv row,x=.rows sz rs/\i=.int k iv/\0<=iv/\rs[iv.toNat]?=some row/\off+n<=row.length/\vs.length=n/\ds=[.rows sz (rs.set iv.toNat (row.take off++vs++row.drop (off+n)))]:=by
 cases x<;>cases i<;>simp only[aS.run]at h<;>first|cases h|skip
 rename_i n9 rs k iv;split at h
 ·rename_i h1
  obtain⟨rfl,h1⟩:=h1;split at h
  ·rename_i row hr
   split at h
   ·rename_i h2
    simp only[Qb7]at h;exact⟨rs,k,iv,row,rfl,rfl,h1,hr,h2.1,h2.2,h.symm⟩
   ·cases h
  ·cases h
 ·cases h
theorem take_set {α:Type}{l:List α}{k:Nat}{x:α}(h:k<l.length):l.take k++[x]++l.drop (k+1)=l.set k x:=by
 apply Ubq;intro j;rw[Tbj];by_cases h1:j<k
 ·rw[Rbd,Rbm (by simp;omega),Sbe,if_pos h1,if_neg (by omega)]
 ·by_cases h2:k=j
  ·subst h2
   rw[if_pos rfl,if_pos h,Rbd,Rbj (by simp;omega)];simp[Nat.min_eq_left (Nat.le_of_lt h)]
  ·rw[if_neg h2,Rbj (by simp;omega),Sba]
   congr 1
   simp;omega
theorem Caq (hg:gOn ρ g=true):∀ (q:List (aP×Nat×Nat)) (nv:Nat) (X y:aP),aR cf ρ g nv (Naf nv X q y).1->Upd (bG ρ q) (X.val ρ) (y.val ρ) ((Naf nv X q y).2.val ρ)
 |[],nv,X,y,_=>.here _ _
 | (i, sz, off) :: p, nv, X, y, h => by
  have hpv:bG ρ ((i,sz,off)::p)=(mO ρ i*sz+off)::bG ρ p:=rfl;rw[hpv]
  cases p with
  | nil =>
   simp only[Naf]at h ⊢;obtain⟨d,h1,h2⟩:=Cam h.1 hg;simp only[Rby,Sbc]at h1;obtain⟨rs,k,iv,row,e1,e2,e3,e4,e5,e6,e7⟩:=Sab h1;simp only[Sbz,and_true]at e7;have hi:mO ρ i=iv.toNat:=by simp[mO,e2]
   rw[e1,hi,h2,e7,take_set (by omega)];exact .down sz rs iv.toNat off row _ _ _ _ e4 (Rba (by omega)) (.here _ _)
  | cons z p =>
   have dz:Naf nv X ((i,sz,off)::z::p) y =
     ([.prim (.row sz off [false]) [X,i] 1]++(Naf (nv+1) (.v nv) (z::p) y).1++[.prim (.set sz off 1) [X,i,(Naf (nv+1) (.v nv) (z::p) y).2] 1],.v (nv+1+bT (Naf (nv+1) (.v nv) (z::p) y).1)):=rfl
   rw[dz]at h ⊢;obtain⟨h1,h2⟩:=aR.append h;obtain⟨h3,h4⟩:=aR.append h1;obtain⟨d,h5,h6⟩:=Cam h3.1 hg;have uq:bT [Step.prim (.row sz off [false]) [X,i] 1]=1:=rfl;rw[uq]at h4;rw[fV,uq,<- Rbp]at h2;have ih:=Caq hg (z::p) (nv+1) (.v nv) y h4;obtain⟨d',h7,h8⟩:=Cam h2.1 hg;simp only[Rby,Sbc]at h5 h7;obtain⟨rs,k,iv,row,e1,e2,e3,e4,e5,e6,e7⟩:=Sab h7;obtain⟨rs',k',iv',fW,f1,f2,f3,f4,f5,f6,f7⟩:=Yaw h5;rw[e1]at f1;obtain rfl:rs=rs':=by injection f1
   rw[e2]at f2;obtain⟨rfl,rfl⟩:k=k'/\iv=iv':=by injection f2 with a b;exact⟨a,b⟩
   rw[e4]at f4;obtain rfl:=Rb5 f4;simp only[Sbz,and_true]at e7;have hi:mO ρ i=iv.toNat:=by simp[mO,e2]
   have hz:row[off]?=some ((aP.v nv).val ρ):=by
    rw[h6]
    have:((row.drop off).take 1)[0]?=some d:=by
     rw[show [false].length=1 from rfl]at f7;rw[<- f7];rfl
    rw[Sbe,if_pos (by omega),Sba]at this;simpa using this
   rw[e1,hi,h8,e7,take_set (by omega)];exact .down sz rs iv.toNat off row _ _ _ _ e4 hz ih
end
section
variable {P:Program} {E:Env} {F:bQ} {n:Nat} {σ:Nat->Option aU} {ρ:List D} {a:Act} {w w':World} {G G':Gh} {g:Option (aP×Bool)} {o:Oper} {cf:Nat->List D->Option (List D)} {Q:Exit->Act->World->Prop} {next:Act->World->Prop}
def Chg (σ:Nat->Option aU)(G:Gh)(w:World)(G':Gh)(w':World)(r:Nat)(c:aU):Prop :=
 (σ (kR r)=none/\∃ x m cQ st,c=.root x m cQ st) \/
 (∃ x m cQ x' m',σ (kR r)=some (.root x m cQ .live)/\c=.root x' m' (cQ+1) .live) \/
 (∃ x m cQ st,c=.root x m cQ st/\st≠.live/\st≠.frozen) \/
 (∃ x m cQ,σ (kR r)=some (.root x m cQ .live)/\c=.root x m cQ .frozen/\∀ b p,G.own b=.slc r p->G'.own b=.frz/\w'.heap[b]?=w.heap[b]?)
theorem Wa2 (u:List (Nat×aU))(σ:Nat->Option aU)(k:Nat)(h:∃ c,(k,c)∈u):∃ c,(k,c)∈u/\upds σ u k=some c:=by
 have h1:=eZ u σ k (.inr h);obtain⟨c,hc⟩:=Option.isSome_iff_exists.1 h1
 rcases sD u σ k c hc with h2|⟨h2,-⟩
 ·exact⟨c,h2,hc⟩
 ·obtain⟨c',gl⟩:=h
  exact absurd gl (h2 c')
theorem Fr.of {u:List (Nat×aU)}(zq:∀ b,G.own b=.frz->b<w.heap.size->G'.own b=.frz/\w'.heap[b]?=w.heap[b]?)
  (y5:∀ r b p,(∀ c,(kR r,c)∉u)->G.own b=.slc r p->G'.own b=.slc r p/\w'.heap[b]?=w.heap[b]?)
  (hch:∀ r c,(kR r,c)∈u->upds σ u (kR r)=some c->Chg σ G w G' w' r c)
  (po:∀ r x m k,σ (kR r)=some (.root x m k .frozen)->∀ b p,G'.own b=.slc r p->G.own b=.slc r p)
  (td:∀ r,(σ (kR r)).isSome->G'.hdr r=G.hdr r) (gz:∀ b,(σ (kB b)).isSome->G'.bx b=G.bx b):Fr σ G w (upds σ u) G' w':=by
 have mS:∀ r,(∀ c,(kR r,c)∉u)\/∃ c,(kR r,c)∈u/\upds σ u (kR r)=some c/\Chg σ G w G' w' r c:=by
  intro r;by_cases h:∃ c,(kR r,c)∈u
  ·obtain⟨c,h1,h2⟩:=Wa2 u σ (kR r) h
   exact .inr ⟨c,h1,h2,hch r c h1 h2⟩
  ·exact .inl fun c hc=>h ⟨c,hc⟩
 have fk:∀ r k,kF σ r k->nK (upds σ u) r k->nK σ r k:=by
  intro r k hk hv
  rcases mS r with h|⟨c,h1,h2,h3⟩
  ·obtain⟨x,m,st,e,hs⟩:=hv
   rw[fP u σ _ h]at e;exact⟨x,m,st,e,hs⟩
  ·obtain⟨x,m,st,e,hs⟩:=hv
   rw[h2]at e;obtain rfl:=Rb5 e;obtain⟨x0,m0,v0,st0,e0,hk0⟩:=hk
   rcases h3 with ⟨h4,-⟩|⟨x1,m1,v1,x2,m2,h4,h5⟩|⟨x1,m1,v1,st1,h5,h6,h7⟩|⟨x1,m1,v1,h4,h5,-⟩
   ·rw[h4]at e0;cases e0
   ·rw[h4]at e0
    injection e0 with e0
    injection e0 with i1 i2 i3 i4
    injection h5 with j1 j2 j3 j4
    have:=hk0 (.inl i4.symm);omega
   ·injection h5 with j1 j2 j3 j4
    rw[j4]at hs
    rcases hs with hs|hs
    ·exact absurd hs h6
    ·exact absurd hs h7
   ·injection h5 with j1 j2 j3 j4
    exact⟨x1,m1,.live,by rw[h4,j3],.inl rfl⟩
 refine⟨zq,fk,fun r k hk=>?_,fun r k b p hv hv' hb=>?_,fun r k m hk hl=>?_,td,gz,fun k hk=>eZ _ _ _ (.inl hk),po⟩
 ·rcases mS r with h|⟨c,h1,h2,h3⟩
  ·obtain⟨x,m,cQ,st,e,hs⟩:=hk
   exact⟨x,m,cQ,st,by rw[fP u σ _ h];exact e,hs⟩
  ·obtain⟨x0,m0,v0,st0,e0,hk0⟩:=hk
   rcases h3 with ⟨h4,-⟩|⟨x1,m1,v1,x2,m2,h4,h5⟩|⟨x1,m1,v1,st1,h5,h6,h7⟩|⟨x1,m1,v1,h4,h5,-⟩
   ·rw[h4]at e0;cases e0
   ·rw[h4]at e0
    injection e0 with e0
    injection e0 with i1 i2 i3 i4
    have:=hk0 (.inl i4.symm);exact⟨_,_,_,_,by rw[h2,h5],fun _=>by omega⟩
   ·exact⟨_,_,_,_,by rw[h2,h5],fun hs=>by rcases hs with hs|hs<;>contradiction⟩
   ·rw[h4]at e0
    injection e0 with e0
    injection e0 with i1 i2 i3 i4
    have:=hk0 (.inl i4.symm);exact⟨_,_,_,_,by rw[h2,h5],fun _=>by omega⟩
 ·rcases mS r with h|⟨c,h1,h2,h3⟩
  ·exact⟨.inl (y5 r b p h hb).1,(y5 r b p h hb).2⟩
  ·obtain⟨x,m,st,e,hs⟩:=hv
   obtain⟨x',m',ui,e',ku⟩:=hv';rw[h2]at e';obtain rfl:=Rb5 e'
   rcases h3 with ⟨h4,-⟩|⟨x1,m1,v1,x2,m2,h4,h5⟩|⟨x1,m1,v1,st1,h5,h6,h7⟩|⟨x1,m1,v1,h4,h5,h6⟩
   ·rw[h4]at e;cases e
   ·rw[h4]at e
    injection e with e
    injection e with i1 i2 i3 i4
    injection h5 with j1 j2 j3 j4
    omega
   ·injection h5 with j1 j2 j3 j4
    rw[j4]at ku
    rcases ku with hs|hs
    ·exact absurd hs h6
    ·exact absurd hs h7
   ·exact⟨.inr (h6 b p hb).1,(h6 b p hb).2⟩
 ·rcases mS r with h|⟨c,h1,h2,h3⟩
  ·obtain⟨x,e⟩:=hl
   rw[fP u σ _ h]at e;exact⟨⟨x,e⟩,fun b p hb=>(y5 r b p h hb).1⟩
  ·obtain⟨x,e⟩:=hl
   rw[h2]at e;obtain rfl:=Rb5 e;obtain⟨x0,m0,v0,st0,e0,hk0⟩:=hk
   rcases h3 with ⟨h4,-⟩|⟨x1,m1,v1,x2,m2,h4,h5⟩|⟨x1,m1,v1,st1,h5,h6,h7⟩|⟨x1,m1,v1,h4,h5,-⟩
   ·rw[h4]at e0;cases e0
   ·rw[h4]at e0
    injection e0 with e0
    injection e0 with i1 i2 i3 i4
    injection h5 with j1 j2 j3 j4
    have:=hk0 (.inl i4.symm);omega
   ·injection h5 with j1 j2 j3 j4
    exact absurd j4.symm h6
   ·injection h5 with j1 j2 j3 j4
    cases j4
def oH (f:Nat->List Nat->Ow):Ow->Ow
 |.slc s p=>f s p
 |o=>o
theorem R.own (h:R E.ntmps F σ ρ a w G)(hd:gG E.ntmps o){sv:SV}{v:Value}{ur:List (Nat×aU)}{f:Nat->List Nat->Ow}{wr:Nat->Prop}
  (hu:∀ k c,(k,c)∈ur->∃ r,k=kR r)
  (cI:∀ b,b<w.heap.size->G'.own b=oH f (G.own b)) (zk:∀ b,w'.heap.size<=b->G'.own b=.frz)
  (nj:w'.os=w.os/\w'.tape=w.tape/\w'.output=w.output/\w.heap.size<=w'.heap.size)
  (vh:∀ b,w.heap.size<=b->G'.own b=.frz\/∃ r p,G'.own b=.slc r p/\σ (kR r)=none)
  (dk:∀ b,b<w.heap.size->¬ wr b->w'.heap[b]?=w.heap[b]?) (hwr:∀ b,wr b->∃ r p,G.own b=.slc r p/\∃ c,(kR r,c)∈ur)
  (y5:∀ b r p,G.own b=.slc r p->(∀ c,(kR r,c)∉ur)->f r p=.slc r p)
  (hch:∀ r c,(kR r,c)∈ur->upds σ (eO o g sv++ur) (kR r)=some c->Chg σ G w G' w' r c)
  (po:∀ r x m k,σ (kR r)=some (.root x m k .frozen)->∀ s p q,f s p=.slc r q->s=r/\p=q)
  (td:∀ r,(σ (kR r)).isSome->G'.hdr r=G.hdr r) (gz:G'.bx=G.bx)
  (fk:Fr σ G w (upds σ (eO o g sv++ur)) G' w'->gOn ρ g=true->dI (upds σ (eO o g sv++ur)) ρ G' w' sv v)
  (fR:Fr σ G w (upds σ (eO o g sv++ur)) G' w'->∀ r c,(kR r,c)∈ur->upds σ (eO o g sv++ur) (kR r)=some c->∃ x m cQ st,c=.root x m cQ st/\dB (upds σ (eO o g sv++ur)) ρ G' w' r x m st) :
  R E.ntmps F (upds σ (eO o g sv++ur)) ρ (a.put o.dst v) w' G':=by
 have lB:=Iav o g sv
 have jc:∀ r c,(kR r,c)∈eO o g sv++ur->(kR r,c)∈ur:=by
  intro r c hc
  rcases Rbq.1 hc with hc|hc
  ·obtain⟨t,e⟩:=lB _ _ hc
   exact absurd e.symm jL
  ·exact hc
 have nf:∀ b r p,G.own b=.slc r p->b<w.heap.size:=fun b r p hb=>by
  rcases Rbu b w.heap.size with h1|h1
  ·exact h1
  ·rw[h.frame.fresh b h1]at hb;cases hb
 have q9:∀ b,b<w.heap.size->(∀ r p,G.own b≠.slc r p)->G'.own b=G.own b/\w'.heap[b]?=w.heap[b]?:=fun b bh hb=>by
  refine⟨?_,dk b bh fun hw=>?_⟩
  ·rw[cI b bh]
   unfold oH;split
   ·rename_i s p e
    exact absurd e (hb s p)
   ·rfl
  ·obtain⟨r,p,e,-⟩:=hwr b hw
   exact hb r p e
 have fq:Fr σ G w (upds σ (eO o g sv++ur)) G' w':=by
  refine Fr.of (fun b hb bh=>?_) (fun r b p iw hb=>?_) (fun r c hc gl=>hch r c (jc r c hc) gl) (fun r x m k hk b p hb=>?_) td (fun b _=>by rw[gz])
  ·obtain⟨h1,h2⟩:=q9 b bh (by rw[hb];simp)
   exact⟨h1.trans hb,h2⟩
  ·have bh:=nf b r p hb
   have xh:∀ c,(kR r,c)∉ur:=fun c hc=>iw c (Rbc _ hc)
   refine⟨by rw[cI b bh,hb];exact y5 b r p hb xh,dk b bh fun hw=>?_⟩;obtain⟨r',p',e,c,hc⟩:=hwr b hw;rw[hb]at e
   injection e with e1 e2
   subst e1;exact xh c hc
  ·rcases Rbu b w.heap.size with bh|bh
   ·rw[cI b bh]at hb
    cases e:G.own b with
    | slc s q =>
     rw[e]at hb;obtain⟨rfl,rfl⟩:=po r x m k hk s q p hb;rfl
    |_=>rw[e]at hb;exact hb
   ·rcases vh b bh with e|⟨r',p',e,hn⟩
    ·rw[e]at hb;cases hb
    ·rw[e]at hb
     injection hb with e1 e2
     subst e1;rw[hn]at hk;cases hk
 refine h.upd _ fq (by rw[Caj];exact h.tmps) (by rw[put_defers];exact h.defers) ?_ (fun t ht=>Gak ht) (fun b ro bs hb _=>?_) (fun b bs hb bh ho=>?_) (fun k c hk kd=>?_)
 ·obtain⟨e1,e2,e3,e4⟩:=nj
  refine⟨e1.trans h.frame.os,e2.trans h.frame.tape,e3.trans h.frame.output,by have:=h.frame.size;omega,fun b bh hf=>?_,fun b j bh hj=>?_,zk⟩
  ·obtain⟨h1,h2⟩:=h.frame.keep b bh hf
   obtain⟨h3,h4⟩:=q9 b (by have:=h.frame.size;omega) (fun r p e=>by
    rw[e]at h2;rw[<- h2]at hf
    rcases hf with hf|hf<;>cases hf)
   exact⟨h4.trans h1,h3.trans h2⟩
  ·obtain⟨h1,c0,c1,e,fr,h2,h3,h4⟩:=h.frame.boxes b j bh hj
   obtain⟨h5,h6⟩:=q9 b (by have:=h.frame.size;omega) (by rw[h1];simp);exact⟨h5.trans h1,c0,c1,e,fr,h2,h6.trans h3,h4⟩
 ·obtain⟨_,h2,h3⟩:=h.box hb
  rcases Rbu (G.bx b).block w.heap.size with bh|bh
  ·exact q9 _ bh (by rw[h2];split<;>simp)
  ·rw[h.frame.fresh _ bh]at h2
   split at h2<;>cases h2
 ·rcases Rbq.1 hb with hb|hb
  ·obtain⟨t,e⟩:=lB _ _ hb
   exact absurd e.symm nC
  ·obtain⟨r,e⟩:=hu _ _ hb
   exact absurd e gB
 ·rcases Rbq.1 hk with hk|hk
  ·obtain⟨d,np,rfl,rfl⟩:=zU hk
   refine⟨d,rfl,fun hg=>?_⟩;rw[np,qK _ _ _ _ _ (hd d np) h.tmps];exact fk fq hg
  ·obtain⟨r,rfl⟩:=hu _ _ hk
   obtain⟨x,m,cQ,st,rfl,ux⟩:=fR fq r c hk kd;exact⟨r,rfl,by rw[kd];rfl,ux⟩
end
section
variable {P:Program} {E:Env} {F:bQ} {n:Nat} {σ:Nat->Option aU} {ρ:List D} {a:Act} {w w':World} {G G':Gh} {g:Option (aP×Bool)} {o:Oper} {cf:Nat->List D->Option (List D)} {Q:Exit->Act->World->Prop} {next:Act->World->Prop}
inductive Jab (σ:Nat->Option aU) (ρ:List D) (G:Gh) (w:World) (pu:Put) (off:Nat) (v:Value) (x:aP):Prop
 |sc (h:Sc v (x.val ρ))
 |nil (z:Nat) (hx:x.val ρ=.rows z []) (hv:v=.slice none 0 0)
 |mv (r m cQ:Nat) (hm:(off,r,m)∈pu.moves) (hr:σ (kR r)=some (.root x m cQ .live)) (hv:v=G.hdr r) (hd:pu.depth<=m)
 |hole (r k m:Nat) (q:List (aP×Nat×Nat)) (hm:(off,r,q)∈pu.holes) (hl:Aac σ r k m) (hq:q.length+1<=m) (gj:Rp G.own w r (bG ρ q) (m-q.length) v (x.val ρ)) (hn:Aaf G.own w r [] (G.hdr r) (bG ρ q) v) (hd:pu.depth<=m-q.length)
 |fz (hd:pu.depth=0) (h:Rd (fun b=>G.own b=.frz\/∃ r p,r∈pu.frz/\G.own b=.slc r p) w v (x.val ρ))
theorem Jab.left {A B:Put}{off:Nat}{v:Value}{x:aP}(h:Jab σ ρ G w A off v x):Jab σ ρ G w ⟨A.xs++B.xs,A.moves++B.moves,A.holes++B.holes,A.frz++B.frz,min A.depth B.depth⟩ off v x:=by
 cases h with
 |sc h=>exact .sc h
 |nil z hx hv=>exact .nil z hx hv
 |mv r m cQ hm hr hv hd=>exact .mv r m cQ (Qb9 _ hm) hr hv (by dsimp only;omega)
 |hole r k m q hm hl hq gj hn hd=>exact .hole r k m q (Qb9 _ hm) hl hq gj hn (by dsimp only;omega)
 |fz hd h=>exact .fz (by dsimp only;omega) (h.mono fun b hb=>⟨hb.imp id fun ⟨r,p,h1,h2⟩=>⟨r,p,Qb9 _ h1,h2⟩,rfl⟩)
theorem Jab.right {A B:Put}{off:Nat}{v:Value}{x:aP}(h:Jab σ ρ G w B off v x):Jab σ ρ G w ⟨A.xs++B.xs,A.moves++B.moves,A.holes++B.holes,A.frz++B.frz,min A.depth B.depth⟩ off v x:=by
 cases h with
 |sc h=>exact .sc h
 |nil z hx hv=>exact .nil z hx hv
 |mv r m cQ hm hr hv hd=>exact .mv r m cQ (Rbc _ hm) hr hv (by dsimp only;omega)
 |hole r k m q hm hl hq gj hn hd=>exact .hole r k m q (Rbc _ hm) hl hq gj hn (by dsimp only;omega)
 |fz hd h=>exact .fz (by dsimp only;omega) (h.mono fun b hb=>⟨hb.imp id fun ⟨r,p,h1,h2⟩=>⟨r,p,Rbc _ h1,h2⟩,rfl⟩)
theorem Sag (hR:R E.ntmps F σ ρ a w G){mv eR:Bool}{off:Nat}{l:aT}{pu:Put}(h:(Sah mv eR off l).eval σ=some pu){v:Value}(hl:aD σ ρ G w l v) :
  ∃ x,pu.xs=[x]/\Jab σ ρ G w pu off v x/\(∀ z∈pu.moves,z.1=off/\∃ x cQ,σ (kR z.2.1)=some (.root x z.2.2 cQ .live))/\(∀ z∈pu.holes,z.1=off):=by
 unfold Sah at h;split at h
 ·rename_i x
  simp only[aF,Qb7]at h;subst h;simp only[aD]at hl;exact⟨x,rfl,.sc hl,by simp,by simp⟩
 ·rename_i r
  simp only[aC,aW,Rbe]at h;simp only[aD]at hl;split at h
  ·rename_i x m cQ hk
   cases mv with
   | true =>
    simp only[cond_true,aF,Qb7]at h;subst h;refine⟨x,rfl,.mv r m cQ (by simp) hk hl.1 (Rbt _),fun z hz=>?_,by simp⟩;simp only[Rbb]at hz;subst hz;exact⟨rfl,x,cQ,hk⟩
   | false =>
    simp only[cond_false,aF,Qb7]at h;subst h;refine⟨x,rfl,.fz rfl ?_,by simp,by simp⟩;have:=hR.root hk;simp only[dB]at this;rw[<- hl.1]at this;exact this.rd.mono fun b hb=>⟨hb.imp id fun ⟨q,hq⟩=>⟨r,q,by simp,hq⟩,rfl⟩
  ·rename_i x m cQ hk
   simp only[aF,Qb7]at h;subst h;refine⟨x,rfl,.fz rfl ?_,by simp,by simp⟩;have:=(hR.root hk).1;rw[<- hl.1]at this;exact this.mono fun b hb=>⟨.inl hb,rfl⟩
  ·cases h
 ·rename_i deps p nie x
  split at h
  ·rename_i z
   simp only[aF,Qb7]at h;subst h;refine⟨_,rfl,.nil z rfl ?_,by simp,by simp⟩;simp only[aD]at hl;exact (hl.2 (by simp)).2.1 trivial z rfl
  ·rename_i dz
   simp only[aC,Qb5]at h;obtain⟨s,h1,h⟩:=h;have hs:=eT hR h1 hl
   have hx:s.x=x:=by
    unfold zH at h1;simp only[aC,Qb5]at h1;obtain⟨ds,-,h3⟩:=h1;split at h3
    ·simp only[aF,Qb7]at h3;rw[<- h3]
    ·simp only[aC,aW,Rbe]at h3
     split at h3
     ·simp only[aF,Qb7]at h3;rw[<- h3]
     ·cases h3
    ·simp only[aF,Qb7]at h3;rw[<- h3]
   have jr:∀ frz:List Nat,(∀ z∈s.deps,z.1∈frz)->Rd (fun b=>G.own b=.frz\/∃ r p,r∈frz/\G.own b=.slc r p) w v (x.val ρ):=by
    intro frz hz;have:=hs.rd;rw[hx]at this;exact this.mono fun b hb=>⟨hb.imp id fun ⟨r,k,p,h2,h3⟩=>⟨r,p,hz _ h2,h3⟩,rfl⟩
   split at h
   ·rename_i r k m q ho
    have cI:=hs.own;unfold wR at cI;rw[ho]at cI;obtain⟨h2,h3,h4,h5,h6⟩:=cI;rw[hx]at h5
    cases hb:(eR&&Nat.ble (q.length+1) m) with
    | true =>
     rw[hb]at h;simp only[cond_true,aF,Qb7]at h;subst h;simp only[Qb6,Sbr]at hb;refine⟨x,rfl,.hole r k m q (by simp) h3 hb.2 h5 h6 (Rbt _),by simp,by simp⟩
    | false =>
     rw[hb]at h;simp only[cond_false,aF,Qb7]at h;subst h;refine⟨x,rfl,.fz rfl (jr _ fun z hz=>?_),by simp,by simp⟩;rw[h2]at hz;simp only[Rbb]at hz;subst hz;simp
   ·simp only[aF,Qb7]at h
    subst h;exact⟨x,rfl,.fz rfl (jr _ fun z hz=>Sb1 hz),by simp,by simp⟩
 ·cases h
theorem vH (hR:R E.ntmps F σ ρ a w G){mv eR:Bool}:∀ {ls:List aT} {off:Nat} {pu:Put},(uG mv eR off ls).eval σ=some pu->∀ {vs:List Value},aH σ ρ G w ls vs ->
  pu.xs.length=ls.length/\(∀ j v x,vs[j]?=some v->pu.xs[j]?=some x->Jab σ ρ G w pu (off+j) v x) /\
  (∀ z∈pu.moves,off<=z.1/\z.1<off+ls.length/\∃ x cQ,σ (kR z.2.1)=some (.root x z.2.2 cQ .live))
 | [], off, pu, h, vs, hl => by
  simp only[uG,aF,Qb7]at h;subst h;exact⟨rfl,by simp,by simp⟩
 | l :: ls, off, pu, h, vs, hl => by
  simp only[uG,aC,Qb5,aF,Qb7]at h;obtain⟨A,h1,B,h2,rfl⟩:=h;simp only[aH]at hl;obtain⟨u,us,rfl,h3,h4⟩:=hl;obtain⟨x,h5,h6,h7,-⟩:=Sag hR h1 h3;obtain⟨h8,h9,eo⟩:=vH hR h2 h4;refine⟨by simp[h5,h8],fun j v y hv hy=>?_,fun z hz=>?_⟩
  ·rw[h5]at hy
   cases j with
   | zero =>
    simp only[Rbf,Qb7,Tbo]at hv hy;subst hv hy;exact h6.left
   | succ j =>
    simp only[Sbl,Tbo]at hv hy;have:=(h9 j v y hv hy).right (A:=A);rwa[show off+1+j=off+(j+1) by omega]at this
  ·simp only[Rbw]
   rcases Rbq.1 hz with hz|hz
   ·obtain⟨e,fb⟩:=h7 z hz
    exact⟨by omega,by omega,fb⟩
   ·obtain⟨e1,e2,fb⟩:=eo z hz
    exact⟨by omega,by omega,fb⟩
theorem iF:∀ {rs:List Nat} {fr:List (Nat×aU)},(eF rs).eval σ=some fr ->
  (∀ r∈rs,(∃ x m cQ,σ (kR r)=some (.root x m cQ .live)/\(kR r,aU.root x m cQ .frozen)∈fr)\/∃ x m cQ,σ (kR r)=some (.root x m cQ .frozen)) /\
  (∀ k c,(k,c)∈fr->∃ r∈rs,∃ x m cQ,k=kR r/\c=.root x m cQ .frozen/\σ (kR r)=some (.root x m cQ .live))
 | [], fr, h => by
  simp only[eF,aF,Qb7]at h;subst h;simp
 | r :: rs, fr, h => by
  simp only[eF,aC,aW,Rbe]at h;split at h
  ·rename_i x m cQ hk
   simp only[aC,Qb5,aF,Qb7]at h;obtain⟨l,h1,rfl⟩:=h;obtain⟨h2,h3⟩:=iF h1;refine⟨fun s hs=>?_,fun k c hc=>?_⟩
   ·rcases Rbg.1 hs with rfl|hs
    ·exact .inl ⟨x,m,cQ,hk,Rbr⟩
    ·rcases h2 s hs with ⟨x',m',v',h4,h5⟩|h4
     ·exact .inl ⟨x',m',v',h4,Rbl _ h5⟩
     ·exact .inr h4
   ·rcases Rbg.1 hc with hc|hc
    ·obtain⟨rfl,rfl⟩:=Tbw hc
     exact⟨r,Rbr,x,m,cQ,rfl,rfl,hk⟩
    ·obtain⟨s,hs,h4⟩:=h3 k c hc
     exact⟨s,Rbl _ hs,h4⟩
  ·rename_i x m cQ hk
   obtain⟨h2,h3⟩:=iF h;refine⟨fun s hs=>?_,fun k c hc=>?_⟩
   ·rcases Rbg.1 hs with rfl|hs
    ·exact .inr ⟨x,m,cQ,hk⟩
    ·exact h2 s hs
   ·obtain⟨s,hs,h4⟩:=h3 k c hc
    exact⟨s,Rbl _ hs,h4⟩
  ·cases h
end
theorem nV {l:List Nat}{n:Nat}:has l n=true↔n∈l:=by
 unfold has;simp only[List.any_eq_true,Rb3];constructor
 ·rintro⟨x,h,rfl⟩;exact h
 ·exact fun h=>⟨n,h,rfl⟩
theorem Bac {l:List Nat}{n:Nat}:has l n=false↔n∉l:=by
 rw[<- nV];simp
theorem vP:∀ {l:List (Nat×Nat×Nat)},distinct (l.map (·.2.1))=true->∀ z∈l,l.find? (fun y=>Nat.beq y.2.1 z.2.1)=some z
 |[],_,z,hz=>by simp at hz
 | y :: l, h, z, hz => by
  simp only[Rby,distinct,Qb6,Rb0]at h;rw[List.find?_cons]
  rcases Rbg.1 hz with rfl|hz
  ·have:Nat.beq z.2.1 z.2.1=true:=by simp
   rw[this]
  ·have:Nat.beq y.2.1 z.2.1=false:=by
    cases e:Nat.beq y.2.1 z.2.1 with
    |false=>rfl
    | true =>
     simp only[Rb3]at e;have h1:=Bac.1 h.1;rw[e]at h1;exact absurd (Sb1 (f:=fun x:Nat×Nat×Nat=>x.2.1) hz) h1
   rw[this];exact vP h.2 z hz
theorem Ian {l:List (Nat×Nat×Nat)}{s:Nat}(h:s∉l.map (·.2.1)):l.find? (fun y=>Nat.beq y.2.1 s)=none:=by
 rw[List.find?_eq_none];intro x hx;simp only[Rb3];intro e;exact h (e▸Sb1 (f:=fun x:Nat×Nat×Nat=>x.2.1) hx)
section
variable {P:Program} {E:Env} {F:bQ} {n:Nat} {σ:Nat->Option aU} {ρ:List D} {a:Act} {w w':World} {G G':Gh} {g:Option (aP×Bool)} {o:Oper} {cf:Nat->List D->Option (List D)} {Q:Exit->Act->World->Prop} {next:Act->World->Prop}
theorem Rd.nil {ok:Nat->Prop}{z:Nat}:Rd ok w (.slice none 0 0) (.rows z []) :=
 .rows none ⟨0,0,none⟩ 0 0 _ [] (fun _ _=>undef) rfl (Rbt _) (.inl rfl) (by simp) (by simp) (by simp)
theorem Rp.nil {own:Nat->Ow}{r:Nat}{p:List Nat}{m z:Nat}:Rp own w r p m (.slice none 0 0) (.rows z []):=by
 cases m with
 |zero=>exact .fz Rd.nil
 |succ m=>exact .sl none ⟨0,0,none⟩ 0 0 _ [] (fun _ _=>undef) rfl (Rbt _) (.inr ⟨rfl,rfl⟩) (by simp) (by simp) (by simp) (by simp)
theorem Jab.rp (hR:R E.ntmps F σ ρ a w G){pu:Put}{off:Nat}{v:Value}{x:aP}(h:Jab σ ρ G w pu off v x){own':Nat->Ow}{R:Nat}{path:List Nat}{m1:Nat}(hd:m1<=pu.depth)
  (hz:∀ b,G.own b=.frz->b<w.heap.size->own' b=.frz/\w'.heap[b]?=w.heap[b]?)
  (hmv:∀ s m,(off,s,m)∈pu.moves->∀ b t,G.own b=.slc s t->own' b=(if t.length<m1 then .slc R (path++t) else .frz)/\w'.heap[b]?=w.heap[b]?)
  (hho:∀ s q,(off,s,q)∈pu.holes->∀ b t,G.own b=.slc s (bG ρ q++t)->own' b=(if t.length<m1 then .slc R (path++t) else .frz)/\w'.heap[b]?=w.heap[b]?)
  (jr:∀ s∈pu.frz,∀ b p,G.own b=.slc s p->own' b=.frz/\w'.heap[b]?=w.heap[b]?):Rp own' w' R path m1 v (x.val ρ):=by
 cases h with
 |sc h=>exact .sc h
 |nil z hx hv=>rw[hx,hv];exact Rp.nil
 | mv r m cQ hm hr hv np =>
  have:=hR.root hr;simp only[dB]at this;rw[hv];exact this.move hz path m1 (by omega) fun b t hb=>hmv r m hm b t (by simpa using hb)
 |hole r k m q hm hl hq gj hn np=>exact gj.move hz path m1 (by omega) fun b t hb=>hho r q hm b t hb
 | fz np h =>
  obtain rfl:m1=0:=by omega
  refine .fz (h.mono' fun b hb bh=>?_)
  rcases hb with hb|⟨r,p,h1,h2⟩
  ·exact hz b hb bh
  ·exact jr r h1 b p h2
def zW (R M:Nat)(p:List Nat):Ow:=if p.length<M then .slc R p else .frz
def mH (pu:Put)(r m':Nat)(pv:List Nat)(base:Nat)(s:Nat)(p:List Nat):Ow :=
 bif has pu.frz s then .frz else match pu.moves.find? (fun y=>Nat.beq y.2.1 s) with
  |some z=>zW r m' ((pv++[base+z.1])++p)
  |none=>if s=r then zW r m' p else .slc s p
theorem dV {B o:Nat}{vs:List Value}{b:Addr}(hb:b.block=B->b.spot=none)(hex:∀ j,j<vs.length->(w.cell? ⟨B,o+j,none⟩).isSome=true){u:Value}(hc:w.cell? b=some u) :
  ∃ u',(w.setCells B o vs).cell? b=some u':=by
 by_cases jc:b.block=B/\o<=b.off/\b.off<o+vs.length
 ·obtain⟨h1,h2,h3⟩:=jc
  have:=World.cell?_setCells_in B vs o w hex (b.off-o) (by omega);have hs:=hb h1;rw[show o+(b.off-o)=b.off by omega]at this;have e9:b=⟨B,b.off,none⟩:=by cases b;simp only at h1 hs;subst h1 hs;rfl
  exact⟨vs[b.off-o]'(by omega),(congrArg (fun x=>(w.setCells B o vs).cell? x) e9).trans this⟩
 ·rw[World.cell?_setCells_out B vs o w b fun e1 e2=>by
   rcases Rbu b.off o with h|h
   ·exact .inl h
   ·refine .inr ?_
    rcases Rbu b.off (o+vs.length) with h'|h'
    ·exact absurd ⟨e1,h,h'⟩ jc
    ·exact h']
  exact⟨u,hc⟩
theorem Jai (hR:R E.ntmps F σ ρ a w G)(hti:wU P E.ti){nv:Nat}{mv eR:Bool}{t:TypeId}{x y:Operand}(ho:o.op=.store t x y){ti:TI}(hi:E.ti t=some ti){l:aT}{sz:Nat}{i:aP}{off:Nat}{ls:List aT}{sv:SV}
  (hx:gOn ρ g=true->aD σ ρ G w (.pe l sz i off) (a.eval x)) (hy:gOn ρ g=true->dI σ ρ G w sv (a.eval y)) (rr:lI ti.agg sv=some ls) {res:cK}
  (h:(Da7 nv mv eR o g ti (.pe l sz i off) ls).eval σ=some res) (cT:aR cf ρ g nv res.lets):iL P E F σ ρ a w g o Q res.upd:=by
 simp only[Da7,aC,aO,Qb5,aW,Rbe]at h;obtain⟨_,h1,_,h2,s,h3,h⟩:=h;split at h1
 case isFalse=>cases h1
 rename_i ox;simp only[Qb6,Rb3,Tb5]at ox;obtain⟨hlen,ri⟩:=ox;split at h2
 case isFalse=>cases h2
 rename_i zv;obtain rfl:=xO zv;split at h
 case h_2=>cases h
 rename_i r k m q cI;simp only[aC,aO,Qb5,aW,Rbe]at h;obtain⟨_,h4,h⟩:=h;split at h4
 case isFalse=>cases h4
 rename_i hqm;simp only[Sbr]at hqm;split at h
 case h_2=>cases h
 rename_i X m0 cQ hk;simp only[aC,aO,Qb5]at h;obtain⟨pu,h5,fr,h6,_,h7,h⟩:=h;split at h7
 case isFalse=>cases h7
 rename_i rh;simp only[Qb6,Rb0,Tbe,Ubo]at rh;obtain⟨⟨⟨⟨fq,hmr⟩,hho⟩,oy⟩,hmf⟩:=rh;simp only[aF,Qb7]at h;subst h;refine⟨fun hg=>?_,fun hg=>by simp[gOn]at hg⟩;obtain⟨info,u,f⟩:=bD (hti.ok _ _ hi);have hl:=jF rr (hy hg);obtain⟨oB,nk,hmvs⟩:=vH hR h5 hl;obtain⟨wo,uf⟩:=iF h6;have hpe:=hx hg;simp only[aD]at hpe;obtain⟨c,n,cap,ik,iv,hp1,hp2,hp3,hp4,hp5⟩:=hpe;have im:=eT hR h3 hp1;have oa:=im.own;unfold wR at oa;rw[cI]at oa;obtain⟨-,⟨X0,k7⟩,-,gj,l7⟩:=oa;rw[hk]at k7
 obtain⟨rfl,rfl,rfl⟩:X=X0/\m0=m/\cQ=k:=by
  injection k7 with e;injection e with e1 e2 e3 e4;exact⟨e1,e2,e3⟩
 have fR:=hR.root hk;simp only[dB]at fR;obtain⟨d1,iy,rj⟩:=Cam cT.1 hg;have mT:aR cf ρ none (nv+1) (Naf (nv+1) X q (.v nv)).1:=cT.2;have oh:=Caq hg q (nv+1) X (.v nv) mT;simp only[Tbq,Sbm,Rby]at iy;obtain⟨rs,ik',iv',row,e1,e2,e3,e4,e5,e6,e7⟩:=Sab iy;rw[hp2]at e2;obtain⟨rfl,rfl⟩:ik=ik'/\iv=iv':=by injection e2 with a b;exact⟨a,b⟩
 simp only[Sbz,and_true]at e7;simp only[Rb4]at e6;rw[e1]at gj;have vt:(bG ρ q).length=q.length:=by simp[bG]
 generalize hpv:bG ρ q=pv at oh gj l7 vt;obtain⟨md,hmd⟩:∃ md,m0-q.length=md+1:=⟨m0-q.length-1,by omega⟩;rw[hmd]at gj;obtain⟨A,c',n',jt,vs0,i1,i2,i3,i4,i5,i6,i7,i8⟩:=gj.sl_inv;obtain⟨rfl,rfl,rfl⟩:A=some c/\n'=n/\jt=cap:=by injection i1 with a b c;exact⟨a.symm,b.symm,c.symm⟩
 have hcc:c'=c:=by
  rcases i4 with i4|⟨i4,-⟩
  ·exact (Rb5 i4).symm
  ·cases i4
 subst hcc;obtain⟨jb,mj,eM⟩:=i6 rfl;have gr:row.length=sz:=i5 row (Rbn e4);generalize fX:(a.eval y).cells.toList=vs at hl nk;have iS:vs.length=ls.length:=hl.len
 have iu:∀ j,j<vs.length->∃ u,w.cell? ⟨c'.block,c'.off+(iv.toNat*sz+off)+j,none⟩=some u/\w.frozen? ⟨c'.block,c'.off+(iv.toNat*sz+off)+j,none⟩=false:=by
  intro j hj
  have kd:iv.toNat*sz+off+j<jt*sz:=by
   have h1:(iv.toNat+1)*sz<=jt*sz:=Rb7 _ (by omega);rw[Sbs]at h1;omega
  obtain⟨u,h1,h2⟩:=eM _ kd;rw[add_plain jb]at h1 h2;rw[Rbp];exact⟨u,h1,pE h2 rfl⟩
 have cP:(execOp a.eval o).run P w=.ok .skip (w.setCells c'.block (c'.off+(iv.toNat*sz+off)) vs):=by
  unfold execOp;simp only[ho]
  have:=Fao (P:=P) (w:=w) f (b:=c'.block) (off:=c'.off+(iv.toNat*sz+off)) (v:=a.eval y) (by rw[fX];omega)
   (fun j hj=>by
    obtain⟨v,h6,-⟩:=iu j (by omega);exact⟨v,h6⟩)
   (fun j hj=>by
    obtain⟨v,-,h6⟩:=iu j (by omega)
    exact h6) (by
    rw[fX];intro v hv;obtain⟨j,hj⟩:=Sbt.1 hv;have nu:j<pu.xs.length:=by rw[oB,<- iS];exact (Qb8.1 hj).1
    cases nk j v _ hj (Rba nu) with
    |sc h=>exact h.one
    |nil z _ h=>rw[h];rfl
    | mv r m cQ hm hr hv hd =>
     have:=hR.root hr;simp only[dB]at this;rw[hv];exact this.one
    |hole r k m q hm hl hq gj hn hd=>exact gj.one
    |fz _ h=>exact h.one)
  simp only[Instr.storeAt,Instr.sureAddr,Sem.run_bind,hp5,Sem.run_pure,Result.andThen_ok,add_plain jb,this,fX]
 generalize n2:min m0 (q.length+1+pu.depth)=m';generalize xj:w.setCells c'.block (c'.off+(iv.toNat*sz+off)) vs=w' at cP;have dk:∀ b,b≠c'.block->w'.heap[b]?=w.heap[b]?:=fun b hb=>by rw[<- xj];exact bO _ _ _ _ _ hb
 refine Taj cP ⟨{ G with own:=fun b=>oH (mH pu r m' pv (iv.toNat*sz)) (G.own b) },?_⟩;rw[ri]
 have wh:∀ s,s∈pu.frz->∀ p,mH pu r m' pv (iv.toNat*sz) s p=.frz:=fun s hs p=>by
  unfold mH;rw[nV.2 hs,cond_true]
 have hrm:r∉pu.moves.map (·.2.1):=by
  intro hh;obtain⟨z,hz,e⟩:=Sbp.1 hh;have:=hmr z hz;simp[e]at this
 have hrF:∀ p,mH pu r m' pv (iv.toNat*sz) r p=zW r m' p:=fun p=>by
  unfold mH;rw[fq,cond_false,Ian hrm];simp
 have hmF:∀ z∈pu.moves,∀ p,mH pu r m' pv (iv.toNat*sz) z.2.1 p=zW r m' ((pv++[iv.toNat*sz+z.1])++p):=fun z hz p=>by
  unfold mH
  have:has pu.frz z.2.1=false:=by
   have:=hmf z hz;simpa using this
  rw[this,cond_false,vP oy z hz]
 have l8:∀ b,G.own b=.frz->b<w.heap.size->oH (mH pu r m' pv (iv.toNat*sz)) (G.own b)=.frz/\w'.heap[b]?=w.heap[b]?:=fun b hb bh=>by
  refine⟨by rw[hb];rfl,dk b fun e=>?_⟩;rw[e,mj]at hb;cases hb
 have dz:∀ b s p,G.own b=.slc s p->s≠r->b≠c'.block:=fun b s p hb hs e=>by
  rw[e,mj]at hb
  injection hb with e1 e2
  exact hs e1.symm
 have vp:∀ s∈pu.frz,s≠r:=fun s hs e=>by
  have:=Bac.1 fq;exact this (e▸hs)
 have a5z:∀ z∈pu.moves,z.2.1≠r:=fun z hz e=>hrm (e▸Sb1 (f:=fun x:Nat×Nat×Nat=>x.2.1) hz)
 have fm:∀ {s:Nat} {c:aU},(kR s,c)∈(kR r,aU.root (Naf (nv+1) X q (.v nv)).2 m' (cQ+1) .live)::(pu.moves.map fun z=>(kR z.2.1,aU.root (.c .hole) 0 0 .gone))++fr ->
   (s=r/\c=.root (Naf (nv+1) X q (.v nv)).2 m' (cQ+1) .live)\/(∃ z∈pu.moves,s=z.2.1/\c=.root (.c .hole) 0 0 .gone) \/
   (s∈pu.frz/\∃ x m v,c=.root x m v .frozen/\σ (kR s)=some (.root x m v .live)):=by
  intro s c hc
  rcases Rbq.1 hc with hc|hc
  ·rcases Rbg.1 hc with hc|hc
   ·obtain⟨e1,e2⟩:=Tbw hc
    exact .inl ⟨fT e1,e2⟩
   ·obtain⟨z,hz,e⟩:=Sbp.1 hc
    obtain⟨e1,e2⟩:=Tbw e;exact .inr (.inl ⟨z,hz,(fT e1).symm,e2.symm⟩)
  ·obtain⟨s',ku,x',pA,v',e1,e2,e3⟩:=uf _ _ hc
   obtain rfl:=fT e1;exact .inr (.inr ⟨ku,x',pA,v',e2,e3⟩)
 have hdu:eO o none .dead=[]:=by unfold eO;rw[ri]
 have ja:=hR.own (o:=o) (g:=none) (fun d e=>by rw[ri]at e;cases e) (sv:=.dead) (v:=undef) (w':=w')
  (G':={ G with own:=fun b=>oH (mH pu r m' pv (iv.toNat*sz)) (G.own b) }) (wr:=fun b=>b=c'.block)
  (ur:=(kR r,aU.root (Naf (nv+1) X q (.v nv)).2 m' (cQ+1) .live)::(pu.moves.map fun z=>(kR z.2.1,aU.root (.c .hole) 0 0 .gone))++fr)
  (f:=mH pu r m' pv (iv.toNat*sz)) ?_ (fun b _=>rfl) ?_ ?_ ?_ (fun b _ hb=>dk b hb) ?_ ?_ ?_ ?_ (fun _ _=>rfl) rfl (fun _ _=>trivial) ?_
 ·rw[hdu,Sbm,ri]at ja
  exact ja
 ·intro k c hc
  rcases Rbq.1 hc with hc|hc
  ·rcases Rbg.1 hc with hc|hc
   ·exact⟨r,(Tbw hc).1⟩
   ·obtain⟨z,hz,e⟩:=Sbp.1 hc
    exact⟨z.2.1,(Tbw e).1.symm⟩
  ·obtain⟨s',-,-,-,-,e1,-⟩:=uf _ _ hc
   exact⟨s',e1⟩
 ·intro b hb
  rw[<- xj,setCells_size]at hb;show oH _ (G.own b)=.frz
  rw[hR.frame.fresh b hb];rfl
 ·obtain⟨j1,j2,j3⟩:=dP c'.block vs (c'.off+(iv.toNat*sz+off)) w
  rw[<- xj];exact⟨j1,j2,j3,by rw[setCells_size];exact Rbt _⟩
 ·intro b hb
  refine .inl ?_;show oH _ (G.own b)=.frz
  rw[hR.frame.fresh b hb];rfl
 ·rintro b rfl
  exact⟨r,pv,mj,_,Qb9 _ Rbr⟩
 ·intro b s p hb iw
  unfold mH
  have h1:has pu.frz s=false:=by
   rw[Bac];intro hs
   rcases wo s hs with ⟨x',pA,v',-,h8⟩|⟨x',pA,v',h8⟩
   ·exact iw _ (Rbc _ h8)
   ·exact (hR.root h8).2 b p hb
  have h2:s∉pu.moves.map (·.2.1):=by
   intro hh;obtain⟨z,hz,e⟩:=Sbp.1 hh;refine iw (.root (.c .hole) 0 0 .gone) (Qb9 _ (Rbl _ (Sbp.2 ⟨z,hz,?_⟩)));rw[e]
  have h3:s≠r:=fun e=>iw (.root (Naf (nv+1) X q (.v nv)).2 m' (cQ+1) .live) (Qb9 _ (by rw[e];exact Rbr))
  rw[h1,cond_false,Ian h2];simp[h3]
 ·intro s c hc _
  rcases fm hc with ⟨rfl,rfl⟩|⟨z,hz,rfl,rfl⟩|⟨hs,x',pA,v',rfl,h8⟩
  ·exact .inr (.inl ⟨_,_,_,_,_,hk,rfl⟩)
  ·exact .inr (.inr (.inl ⟨_,_,_,_,rfl,by simp,by simp⟩))
  ·refine .inr (.inr (.inr ⟨x',pA,v',h8,rfl,fun b p hb=>⟨?_,dk b (dz b s p hb (vp s hs))⟩⟩))
   show oH _ (G.own b)=.frz
   rw[hb];exact wh s hs p
 ·intro r0 x0 m1 k0 jr s p q' hF
  unfold mH at hF
  cases hh:has pu.frz s with
  |true=>rw[hh,cond_true]at hF;cases hF
  | false =>
   rw[hh,cond_false]at hF
   have y6:r0≠r:=by
    rintro rfl
    rw[hk]at jr
    injection jr with e;injection e with _ _ _ e;cases e
   split at hF
   ·unfold zW at hF
    split at hF
    ·injection hF with j1 j2;exact absurd j1.symm y6
    ·cases hF
   ·split at hF
    ·unfold zW at hF
     split at hF
     ·injection hF with j1 j2;exact absurd j1.symm y6
     ·cases hF
    ·injection hF with j1 j2;exact⟨j1,j2⟩
 ·intro hfr' s c hc _
  rcases fm hc with ⟨rfl,rfl⟩|⟨z,hz,rfl,rfl⟩|⟨hs,x',pA,v',rfl,h8⟩
  ·refine⟨_,_,_,_,rfl,?_⟩
   simp only[dB];obtain⟨m1,oR⟩:∃ m1,m'-q.length=m1+1:=⟨m'-q.length-1,by omega⟩
   have qu:∀ i' fW,(rs.set iv.toNat (row.take off++pu.xs.map (·.val ρ)++row.drop (off+ti.size)))[i']?=some fW->∀ j' d,fW[j']?=some d ->
     (i'=iv.toNat/\off<=j'/\j'<off+ls.length/\∃ x,pu.xs[j'-off]?=some x/\d=x.val ρ)\/(∃ row0,rs[i']?=some row0/\row0[j']?=some d/\¬ (i'=iv.toNat/\off<=j'/\j'<off+ls.length)):=by
    intro i' fW gA j' d jd
    have n5:row.take off++pu.xs.map (·.val ρ)++row.drop (off+ti.size)=setRange row off (pu.xs.map (·.val ρ)):=by
     unfold setRange;rw[Rb4,e6]
    rw[n5,Tbj]at gA;by_cases qq:iv.toNat=i'
    ·subst qq
     rw[if_pos rfl,if_pos (Qb8.1 e4).1]at gA;obtain rfl:=Rb5 gA;rw[jE (by rw[Rb4];omega),Rb4]at jd;split at jd
     ·rename_i jc
      rw[Sbd,Rbo]at jd;obtain⟨x,qm,qp⟩:=jd;exact .inl ⟨rfl,jc.1,by omega,x,qm,qp.symm⟩
     ·rename_i a1f
      exact .inr ⟨row,e4,jd,fun e=>a1f ⟨e.2.1,by omega⟩⟩
    ·rw[if_neg qq]at gA
     exact .inr ⟨fW,gA,jd,fun e=>qq e.1.symm⟩
   have ij:Rp (fun b=>oH (mH pu s m' pv (iv.toNat*sz)) (G.own b)) w' s pv (m'-q.length) (.slice (some c') n' jt) ((aP.v nv).val ρ):=by
    rw[rj,e7,oR];refine .sl _ c' n' jt sz _ (fun i' j'=>if i'=iv.toNat/\off<=j'/\j'<off+ls.length then vs.getD (j'-off) undef else vs0 i' j') (by simpa using i2) i3 (.inl rfl) (fun fW hr=>?_) (fun _=>⟨jb,?_,fun k hk=>?_⟩) (fun i' fW gA j' d jd=>?_) (fun i' fW gA j' d jd=>?_)
    ·rcases Ubc hr with hr|rfl
     ·exact i5 _ hr
     ·simp;omega
    ·show oH _ (G.own c'.block)=_
     rw[mj];show mH pu s m' pv (iv.toNat*sz) s pv=_
     rw[hrF,zW,if_pos (by omega)]
    ·obtain⟨u0,oc,zx⟩:=eM k hk
     rw[<- xj,fD];obtain⟨u',hu'⟩:=dV (B:=c'.block) (o:=c'.off+(iv.toNat*sz+off)) (vs:=vs) (b:=c'.add k) (fun _=>by rw[add_plain jb]) (fun j hj=>by obtain⟨u1,h9,-⟩:=iu j hj;rw[h9];rfl) oc;exact⟨u',hu',zx⟩
    ·rcases qu i' fW gA j' d jd with ⟨rfl,h9,eo,x0,fb,gq⟩|⟨row0,h9,eo,fb⟩
     ·rw[if_pos ⟨rfl,h9,eo⟩,<- xj,add_plain jb]
      have:=World.cell?_setCells_in c'.block vs (c'.off+(iv.toNat*sz+off)) w (fun j hj=>by obtain⟨u1,h9,-⟩:=iu j hj;rw[h9];rfl) (j'-off) (by omega);rw[show c'.off+(iv.toNat*sz+off)+(j'-off)=c'.off+(iv.toNat*sz+j') by omega]at this;rw[this,Rbi,Rba (by omega)];rfl
     ·rw[if_neg fb,<- xj,World.cell?_setCells_out _ _ _ _ _ (fun _ _=>?_)]
      ·exact i7 _ _ h9 _ _ eo
      ·rw[add_plain jb]
       dsimp only
       have vw:j'<sz:=by
        have:=(Qb8.1 eo).1;rw[i5 row0 (Rbn h9)]at this;exact this
       by_cases qq:i'=iv.toNat
       ·subst qq
        have:¬ (off<=j'/\j'<off+ls.length):=fun e=>fb ⟨rfl,e⟩
        omega
       ·rcases Nat.lt_or_gt_of_ne qq with bh|hgt
        ·refine .inl ?_
         have:=Rb7 sz (show i'+1<=iv.toNat by omega);rw[Sbs]at this;omega
        ·refine .inr ?_
         have:=Rb7 sz (show iv.toNat+1<=i' by omega);rw[Sbs]at this;omega
    ·rcases qu i' fW gA j' d jd with ⟨rfl,h9,eo,x0,fb,gq⟩|⟨row0,h9,eo,fb⟩
     ·rw[if_pos ⟨rfl,h9,eo⟩,gq]
      have hv:vs[j'-off]?=some (vs.getD (j'-off) undef):=by
       rw[Rbi,Rba (by omega)];rfl
      have sL:=nk (j'-off) _ _ hv fb;rw[show off+(j'-off)=j' by omega]at sL;refine sL.rp hR (by omega) l8 (fun s' m2 uh b t hb=>⟨?_,dk b (dz b s' t hb (a5z _ uh))⟩) (fun s' q' j0=>by rw[hho]at j0;simp at j0) (fun s' ku b p hb=>⟨?_,dk b (dz b s' p hb (vp s' ku))⟩)
      ·show oH _ (G.own b)=_
       rw[hb];show mH pu s m' pv (iv.toNat*sz) s' t=_
       rw[hmF (j',s',m2) uh,zW];simp only[Rbh,Sb3];by_cases ht:t.length<m1
       ·rw[if_pos ht,if_pos (by omega)]
       ·rw[if_neg ht,if_neg (by omega)]
      ·show oH _ (G.own b)=_
       rw[hb];exact wh s' ku p
     ·rw[if_neg fb]
      refine (i8 _ _ h9 _ _ eo).move l8 _ m1 (by omega) fun b t hb=>⟨?_,dk b fun e=>?_⟩
      ·show oH _ (G.own b)=_
       rw[hb];show mH pu s m' pv (iv.toNat*sz) s _=_
       rw[hrF,zW];simp only[Rbh,Sb3];by_cases ht:t.length<m1
       ·rw[if_pos ht,if_pos (by omega)]
       ·rw[if_neg ht,if_neg (by omega)]
      ·rw[e,mj]at hb
       injection hb with _ e2
       have:=congrArg List.length e2;simp at this
   have:=Rp.upd (own':=fun b=>oH (mH pu s m' pv (iv.toNat*sz)) (G.own b)) (w':=w') (r:=s) (M':=m') (full:=pv) l8 (fun b t hb ht=>⟨?_,dk b fun e=>?_⟩) (by omega) (by rw[vt];exact ij) pv [] m0 (G.hdr s) _ _ rfl (by omega) (by simpa using fR) l7 oh
   ·simpa using this
   ·show oH _ (G.own b)=_
    rw[hb];exact hrF t
   ·rw[e,mj]at hb
    injection hb with _ e2
    exact ht (e2▸List.prefix_rfl)
  ·exact⟨_,_,_,_,rfl,trivial⟩
  ·refine⟨x',pA,v',.frozen,rfl,?_,fun b p hb=>?_⟩
   ·have:=hR.root h8
    simp only[dB]at this;refine this.rd.mono' fun b hb bh=>?_
    rcases hb with hb|⟨p,hb⟩
    ·exact l8 b hb bh
    ·refine⟨?_,dk b (dz b s p hb (vp s hs))⟩
     show oH _ (G.own b)=_
     rw[hb];exact wh s hs p
   ·have e9:oH (mH pu r m' pv (iv.toNat*sz)) (G.own b)=.slc s p:=hb
    cases e:G.own b with
    | slc s' p' =>
     rw[e]at e9;have gm:mH pu r m' pv (iv.toNat*sz) s' p'=.slc s p:=e9;by_cases ku:s'∈pu.frz
     ·rw[wh s' ku]at gm;cases gm
     ·unfold mH at gm
      rw[Bac.2 ku,cond_false]at gm;have n5:=vp s hs;split at gm
      ·unfold zW at gm
       split at gm
       ·injection gm with j1 j2;exact n5 j1.symm
       ·cases gm
      ·split at gm
       ·unfold zW at gm
        split at gm
        ·injection gm with j1 j2;exact n5 j1.symm
        ·cases gm
       ·injection gm with j1 j2;exact ku (j1▸hs)
    |_=>rw[e]at e9;cases e9
end
theorem rU:∀ (sz n:Nat) (l:List D),l.length=n*sz->∀ i row,(chunk sz n l)[i]?=some row->i<n/\row.length=sz/\∀ j d,row[j]?=some d->l[i*sz+j]?=some d
 |sz,0,l,_,i,row,h=>by simp[chunk]at h
 | sz, n + 1, l, hl, i, row, h => by
  simp only[chunk]at h;rw[Sbs,Nat.one_mul]at hl
  cases i with
  | zero =>
   simp only[Rbf,Qb7]at h;subst h;refine⟨by omega,by simp;omega,fun j d hj=>?_⟩;rw[Sbe]at hj;split at hj
   ·simpa using hj
   ·cases hj
  | succ i =>
   simp only[Sbl]at h;obtain⟨h1,h2,h3⟩:=rU sz n (l.drop sz) (by simp;omega) i row h;refine⟨by omega,h2,fun j d hj=>?_⟩;have:=h3 j d hj;rw[Sba]at this;rw[<- this];congr 1;rw[Sbs];omega
theorem Ia3:∀ (sz n:Nat) (l:List D),(chunk sz n l).length=n
 |_,0,_=>rfl
 |sz,n+1,l=>by simp[chunk,Ia3 sz n]
theorem Gaq {α:Type}(l:List α):∀ n,(Ebl l n).length=n*l.length
 |0=>by simp[Ebl]
 |n+1=>by rw[Ebl,Rbh,Gaq l n,Sbs];omega
theorem Ta5 {α:Type}(l:List α)(h:0<l.length):∀ n j,j<n*l.length->(Ebl l n)[j]?=l[j % l.length]?
 |0,j,hj=>by simp at hj
 | n + 1, j, hj => by
  rw[Ebl];by_cases h1:j<l.length
  ·rw[Rbm h1,Nat.mod_eq_of_lt h1]
  ·rw[Rbj (by omega),Ta5 l h n (j-l.length) (by rw[Sbs]at hj;omega)]
   congr 1;rw[Nat.mod_eq_sub_mod (by omega:j ≥ l.length)]
section
variable {P:Program} {E:Env} {F:bQ} {n:Nat} {σ:Nat->Option aU} {ρ:List D} {a:Act} {w w':World} {G G':Gh} {g:Option (aP×Bool)} {o:Oper} {cf:Nat->List D->Option (List D)} {Q:Exit->Act->World->Prop} {next:Act->World->Prop}
theorem Fa5 {ti:TI}{len:Nat}{place:Nat->Option (Nat×Nat)}(oB:∀ i,i<len->place i=some (i*ti.size,ti.size)) :
  ∀ {xs:List (Nat×Operand)} {ps:List (Nat×SV)},Ga1 σ ρ G w a xs ps->∀ {ls lh:List aT} {us:Array Value},ls.length=len*ti.size->aH σ ρ G w ls us.toList->Dai ti len ls ps=some lh ->
  ∃ eE,Instr.fill place us (xs.map fun x=>(x.1,a.eval x.2))=some eE/\aH σ ρ G w lh eE.toList/\lh.length=len*ti.size
 | [], _, rfl, ls, lh, us, hn, hl, h => by
  simp only[Dai,Qb7]at h;subst h;exact⟨us,rfl,hl,hn⟩
 | (i, x) :: xs, _, ⟨sv, ps, rfl, h1, hr⟩, ls, lh, us, hn, hl, h => by
  unfold Dai at h;split at h
  ·rename_i vs fX
   cases hb:(Nat.beq vs.length ti.size&&Nat.blt i len) with
   |false=>rw[hb]at h;cases h
   | true =>
    rw[hb,cond_true]at h;simp only[Qb6,Rb3,Nat.blt_eq]at hb;have h2:=jF fX h1;have hlen:=hl.len
    have hle:i*ti.size+ti.size<=ls.length:=by
     have:=Rb7 ti.size (show i+1<=len by omega);rw[Sbs,Nat.one_mul]at this;omega
    obtain⟨us1,h3,h4⟩:=Qat (rest:=xs.map fun x=>(x.1,a.eval x.2)) (oB i hb.2) (by rw[h2.len];exact hb.1) (by rw[<- Tb2,hlen];exact hle);obtain⟨eE,h5,h6,h7⟩:=Fa5 oB hr (us:=us1) (ls:=setRange ls (i*ti.size) vs) (by rw[mJ (by rw[hb.1];exact hle)];exact hn) (by rw[h4];exact hl.setRange h2 (by rw[hb.1];exact hle)) h;exact⟨eE,by rw[Rby,h3];exact h5,h6,h7⟩
  ·cases h
def mkF (pu:Put)(nr m':Nat)(s:Nat)(p:List Nat):Ow :=
 bif has pu.frz s then .frz else match pu.moves.find? (fun y=>Nat.beq y.2.1 s) with
  |some z=>zW nr m' ([z.1]++p)
  |none=>.slc s p
theorem Gbh (z:Array Value)(hz:0<z.size)(N j:Nat)(hj:j<N):((Array.range N).map (fun i=>z[i % z.size]!))[j]?=z[j % z.size]?:=by
 rw[Array.getElem?_map,Array.getElem?_range];rw[if_pos hj];simp only[Sbq];have bh:j % z.size<z.size:=Nat.mod_lt _ hz;rw[getElem!_pos z (j % z.size) bh,Rb9 bh]
theorem Rao {t:TypeId}{i:TI}{info:TypeInfo}{u:TypeDesc}(f:dN P t i info u)(hs:0<i.size){z:Value}(hz:aH σ ρ G w (i.cells.map gP) z.cells.toList)(len:Nat) :
  aH σ ρ G w (Ebl (i.cells.map gP) len) ((Array.range (len*i.size)).map (fun j=>z.cells[j % z.cells.size]!)).toList:=by
 have fw:(i.cells.map gP).length=i.size:=by rw[Rb4,f.len]
 have rk:z.cells.size=i.size:=by rw[<- Tb2,hz.len,fw]
 refine .of_get (by rw[Gaq,fw];simp) fun j l v hj hv=>?_
 have bh:j<len*i.size:=by
  have:=(Qb8.1 hj).1;rwa[Gaq,fw]at this
 rw[Ta5 _ (by omega) _ _ (by rw[fw];exact bh),fw]at hj;rw[Sb6,Gbh _ (by omega) _ _ bh,rk]at hv;obtain⟨v',h1,h2⟩:=hz.get hj;rw[Sb6,hv]at h1;exact Rb5 h1▸h2
theorem wM (hR:R E.ntmps F σ ρ a w G)(hd:gG E.ntmps o)(hti:wU P E.ti){nv nb nr:Nat}{mv eR:Bool}(hf:σ (kR nr)=none){t:TypeId}{len:Nat}{parts:Array (Nat×Operand)}(ho:o.op=.buildSlice t len parts){res:cK}
  (h:(sH E mv eR nv nb nr g o).eval σ=some res) (cT:aR cf ρ g nv res.lets):iL P E F σ ρ a w g o Q res.upd:=by
 simp only[sH,ho,aC,Qb5,tiR,bA,aO]at h;obtain⟨st,h1,e,h2,ti,h3,ps,h4,_,h5,h⟩:=h;split at h5
 case isFalse=>cases h5
 rename_i hb5;simp only[Qb6,Sbr,Nat.blt_eq]at hb5;obtain⟨⟨hsz1,a6h⟩,hby⟩:=hb5;obtain⟨info,u,f⟩:=bD (hti.ok _ _ h1);obtain rfl:=sQ f h2;obtain⟨jw,u',f'⟩:=bD (hti.ok _ _ h3);split at h
 case h_2=>cases h
 rename_i ls rr;simp only[aC,Qb5,aO]at h;obtain⟨pu,h6,_,h7,fr,h8,_,h9,h⟩:=h;split at h7
 case isFalse=>cases h7
 rename_i rh;split at h9
 case isFalse=>cases h9
 rename_i hb9;simp only[Qb6,Rb0,Tbe,Ubo]at hb9;obtain⟨⟨oy,hmf⟩,hho⟩:=hb9;obtain⟨wo,uf⟩:=iF h8
 have main:gOn ρ g=true->∃ eE:Array Value,(execOp a.eval o).run P w=.ok (.value (.slice (some ⟨w.heap.size,0,none⟩) len len)) (pushB w eE e)/\aH σ ρ G w ls eE.toList/\ls.length=len*ti.size:=by
  intro hg;obtain⟨z,kf,nq,-,-⟩:=f'.zeros (σ:=σ) (ρ:=ρ) (G:=G) (w:=w);have yu:=Rao f' a6h nq len;have fw:(ti.cells.map gP).length=ti.size:=by rw[Rb4,f'.len]
  obtain⟨eE,ic,hl,gu⟩:=Fa5 (place:=fun i=>some (i*ti.size,ti.size)) (fun i _=>rfl) (Aa6 hR hg h4) (ls:=Ebl (ti.cells.map gP) len) (by rw[Gaq,fw]) yu rr;refine⟨eE,?_,hl,gu⟩
  ·unfold execOp
   simp only[ho];refine gT ?_;unfold Instr.buildSlice;simp only[Sem.run_bind,run_underlying f.und,Result.andThen_ok,f'.sizeOf]
   have hle:¬ len*ti.size>2 ^ 24:=by
    have:(2:Nat) ^ 24=16777216:=by decide
    omega
   rw[if_neg hle];have e1:(parts.map fun x=>(x.1,a.eval x.2)).toList=parts.toList.map fun x=>(x.1,a.eval x.2):=by simp
   by_cases h0:len*ti.size=0
   ·have hus:Instr.fill (fun i=>some (i*ti.size,ti.size)) ((Array.range (len*ti.size)).map (fun j=>(#[]:Array Value)[j % (#[]:Array Value).size]!)) (parts.map fun x=>(x.1,a.eval x.2)).toList=some eE:=by
     rw[e1,<- ic];congr 1;rw[h0];simp
    simp only[Sem.run_bind,Sem.run_pure,Result.andThen_ok,h0,if_true]at hus ⊢;rw[hus];simp[newRow,pushB]
   ·simp only[Sem.run_bind,if_neg h0,mX f'.info_ kf,Result.andThen_ok,Sem.run_pure]
    rw[e1,ic];simp[newRow,pushB]
 have kr:∀ eE:Array Value,aH σ ρ G w ls eE.toList->pu.xs.length=ls.length/\(∀ j v x,eE.toList[j]?=some v->pu.xs[j]?=some x->Jab σ ρ G w pu (0+j) v x):=fun eE hl=>by
  obtain⟨h1,h2,-⟩:=vH hR h6 hl;exact⟨h1,h2⟩
 cases hgg:noG g with
 | false =>
  rw[hgg,cond_false]at h;rw[hgg,Bool.false_or]at rh;simp only[Qb6,Ubo]at rh;obtain⟨⟨hm0,-⟩,zx⟩:=rh;simp only[vJ,aF,Qb7]at h;subst h;simp only[Gab,Rb1];refine⟨fun hg=>?_,fun hg=>Mbk hR hd hg⟩;obtain⟨eE,cP,hl,gu⟩:=main hg;obtain⟨oB,nk⟩:=kr eE hl;obtain⟨d,iy,rj⟩:=gW cT hg;refine pK cP ⟨G,?_⟩
  have ja:=hR.own hd (g:=g) (sv:=.one (.sn [] .no false (.v nv))) (v:=.slice (some ⟨w.heap.size,0,none⟩) len len) (w':=pushB w eE e) (G':=G) (ur:=[]) (f:=fun s p=>.slc s p) (wr:=fun _=>False)
   (by simp) (fun b _=>by cases hb:G.own b<;>rfl) (fun b hb=>hR.frame.fresh b (by rw[mM]at hb;omega)) ⟨rfl,rfl,rfl,by rw[mM];omega⟩ (fun b hb=>.inl (hR.frame.fresh b hb))
   (fun b bh _=>mZ (by omega)) (fun _ h=>h.elim) (fun _ _ _ _ _=>rfl) (by simp) (fun _ _ _ _ _ s p q h=>by injection h with h1 h2;exact⟨h1,h2⟩) (fun _ _=>rfl) rfl (fun fq _=>?_) (by simp)
  ·rw[Rb1]at ja
   exact ja
  ·simp only[dI,aD]
   refine⟨⟨rfl,by simp⟩,fun _=>⟨?_,by simp,trivial⟩⟩;simp only[aS.run]at iy;split at iy
   case isFalse=>cases iy
   rename_i hxl;simp only[Qb7,Sbz,and_true]at iy;rw[rj,<- iy];refine .rows _ ⟨w.heap.size,0,none⟩ len len ti.size _ (fun i j=>eE.toList.getD (i*ti.size+j) undef) (Ia3 _ _ _) (Rbt _) (.inr rfl) (fun row hr=>?_) (fun i row hi j d hj=>?_) (fun i row hi j d hj=>?_)
   ·obtain⟨i,hi⟩:=Sbt.1 hr
    exact (rU _ _ _ hxl i row hi).2.1
   ·obtain⟨eo,fb,gq⟩:=rU _ _ _ hxl i row hi
    have jg:=(Qb8.1 (gq j d hj)).1;refine⟨.inl (hR.frame.fresh _ (Rbt _)),?_⟩;rw[qI];have lq:i*ti.size+j<eE.toList.length:=by rw[hl.len,<- oB];simpa using jg
    rw[Rbi,Rba lq,<- Sb6,Rba lq];rfl
   ·obtain⟨eo,fb,gq⟩:=rU _ _ _ hxl i row hi
    have jg:=gq j d hj;rw[Sbd,Rbo]at jg;obtain⟨x,qm,rfl⟩:=jg;have lq:i*ti.size+j<eE.toList.length:=by rw[hl.len,<- oB];exact (Qb8.1 qm).1
    have hv:eE.toList[i*ti.size+j]?=some (eE.toList.getD (i*ti.size+j) undef):=by
     rw[Rbi,Rba lq];rfl
    cases nk _ _ _ hv qm with
    |sc h=>exact .sc h
    |nil z hx hv=>rw[hx,hv];exact Rd.nil
    |mv r m cQ hm hr hv np=>rw[hm0]at hm;simp at hm
    |hole r k m q hm hl hq gj hn np=>rw[hho]at hm;simp at hm
    | fz np h =>
     refine h.mono' fun b hb bh=>?_
     rcases hb with hb|⟨r,p,h1,-⟩
     ·exact⟨.inl hb,mZ (by omega)⟩
     ·rw[zx]at h1;simp at h1
 | true =>
  obtain rfl:=xO hgg;rw[hgg,cond_true]at h;simp only[vJ,aF,Qb7]at h;subst h;simp only[Gab];refine⟨fun hg=>?_,fun hg=>by simp[gOn]at hg⟩;obtain⟨eE,cP,hl,gu⟩:=main hg;obtain⟨oB,nk⟩:=kr eE hl;obtain⟨d,iy,rj⟩:=gW cT hg;generalize hM:min big (pu.depth+1)=M;obtain⟨m1,rfl⟩:∃ m1,M=m1+1:=⟨M-1,by rw[<- hM];unfold big;omega⟩;have hN:w.heap.size=w.heap.size:=rfl
  have hdr:∀ r,(σ (kR r)).isSome->r≠nr:=fun r hr e=>by
   rw[e,hf]at hr;cases hr
  refine pK cP ⟨{ G with own:=fun b=>if b=w.heap.size then .slc nr [] else oH (mkF pu nr (m1+1)) (G.own b),hdr:=fun r=>if r=nr then .slice (some ⟨w.heap.size,0,none⟩) len len else G.hdr r },?_⟩
  have wh:∀ s,s∈pu.frz->∀ p,mkF pu nr (m1+1) s p=.frz:=fun s hs p=>by
   unfold mkF;rw[nV.2 hs,cond_true]
  have hmF:∀ z∈pu.moves,∀ p,mkF pu nr (m1+1) z.2.1 p=zW nr (m1+1) ([z.1]++p):=fun z hz p=>by
   unfold mkF
   have:has pu.frz z.2.1=false:=by
    have:=hmf z hz;simpa using this
   rw[this,cond_false,vP oy z hz]
  have nf:∀ b,G.own b≠.frz->b<w.heap.size:=fun b hb=>by
   rcases Rbu b w.heap.size with h|h
   ·exact h
   ·exact absurd (hR.frame.fresh b h) hb
  have dk:∀ b,b≠w.heap.size->(pushB w eE e).heap[b]?=w.heap[b]?:=fun b hb=>mZ hb
  have fm:∀ {s:Nat} {c:aU},(kR s,c)∈(kR nr,aU.root (.v nv) (m1+1) 0 .live)::(pu.moves.map fun z=>(kR z.2.1,aU.root (.c .hole) 0 0 .gone))++fr ->
    (s=nr/\c=.root (.v nv) (m1+1) 0 .live)\/(∃ z∈pu.moves,s=z.2.1/\c=.root (.c .hole) 0 0 .gone) \/
    (s∈pu.frz/\∃ x m v,c=.root x m v .frozen/\σ (kR s)=some (.root x m v .live)):=by
   intro s c hc
   rcases Rbq.1 hc with hc|hc
   ·rcases Rbg.1 hc with hc|hc
    ·obtain⟨e1,e2⟩:=Tbw hc
     exact .inl ⟨fT e1,e2⟩
    ·obtain⟨z,hz,e⟩:=Sbp.1 hc
     obtain⟨e1,e2⟩:=Tbw e;exact .inr (.inl ⟨z,hz,(fT e1).symm,e2.symm⟩)
   ·obtain⟨s',ku,x',pA,v',e1,e2,e3⟩:=uf _ _ hc
    obtain rfl:=fT e1;exact .inr (.inr ⟨ku,x',pA,v',e2,e3⟩)
  have jv:σ (kR nr)=none:=hf
  have y7:∀ s,s∈pu.frz->s≠nr:=fun s hs e=>by
   rcases wo s hs with ⟨x',pA,v',h8,-⟩|⟨x',pA,v',h8⟩<;>rw[e,jv]at h8<;>cases h8
  have l8:∀ b,G.own b=.frz->b<w.heap.size->(if b=w.heap.size then Ow.slc nr [] else oH (mkF pu nr (m1+1)) (G.own b))=.frz/\(pushB w eE e).heap[b]?=w.heap[b]?:=fun b hb bh=>by
   rw[if_neg (by omega),hb];exact⟨rfl,dk b (by omega)⟩
  have fy:∀ b s p,G.own b=.slc s p->(if b=w.heap.size then Ow.slc nr [] else oH (mkF pu nr (m1+1)) (G.own b))=mkF pu nr (m1+1) s p/\(pushB w eE e).heap[b]?=w.heap[b]?:=fun b s p hb=>by
   have:=nf b (by rw[hb];simp);rw[if_neg (by omega),hb];exact⟨rfl,dk b (by omega)⟩
  refine hR.own hd (wr:=fun _=>False) (f:=mkF pu nr (m1+1)) ?_ ?_ ?_ ?_ ?_ (fun b bh _=>dk b (by omega)) (fun _ h=>h.elim) ?_ ?_ ?_ ?_ rfl ?_ ?_
  ·intro k c hc
   rcases Rbq.1 hc with hc|hc
   ·rcases Rbg.1 hc with hc|hc
    ·exact⟨nr,(Tbw hc).1⟩
    ·obtain⟨z,hz,e⟩:=Sbp.1 hc
     exact⟨z.2.1,(Tbw e).1.symm⟩
   ·obtain⟨s',-,-,-,-,e1,-⟩:=uf _ _ hc
    exact⟨s',e1⟩
  ·intro b bh
   show (if b=w.heap.size then Ow.slc nr [] else _)=_
   rw[if_neg (by omega)]
  ·intro b hb
   rw[mM]at hb;show (if b=w.heap.size then Ow.slc nr [] else oH _ (G.own b))=.frz
   rw[if_neg (by omega),hR.frame.fresh b (by omega)];rfl
  ·exact⟨rfl,rfl,rfl,by rw[mM];omega⟩
  ·intro b hb
   show (if b=w.heap.size then Ow.slc nr [] else oH _ (G.own b))=.frz\/∃ r p,(if b=w.heap.size then Ow.slc nr [] else oH _ (G.own b))=.slc r p/\_
   by_cases e:b=w.heap.size
   ·rw[if_pos e];exact .inr ⟨nr,[],rfl,jv⟩
   ·rw[if_neg e,hR.frame.fresh b hb];exact .inl rfl
  ·intro b s p hb iw
   unfold mkF
   have h1:has pu.frz s=false:=by
    rw[Bac];intro hs
    rcases wo s hs with ⟨x',pA,v',-,h8⟩|⟨x',pA,v',h8⟩
    ·exact iw _ (Rbc _ h8)
    ·exact (hR.root h8).2 b p hb
   have h2:s∉pu.moves.map (·.2.1):=by
    intro hh;obtain⟨z,hz,e⟩:=Sbp.1 hh;refine iw (.root (.c .hole) 0 0 .gone) (Qb9 _ (Rbl _ (Sbp.2 ⟨z,hz,?_⟩)));rw[e]
   rw[h1,cond_false,Ian h2]
  ·intro s c hc _
   rcases fm hc with ⟨rfl,rfl⟩|⟨z,hz,rfl,rfl⟩|⟨hs,x',pA,v',rfl,h8⟩
   ·exact .inl ⟨jv,_,_,_,_,rfl⟩
   ·exact .inr (.inr (.inl ⟨_,_,_,_,rfl,by simp,by simp⟩))
   ·refine .inr (.inr (.inr ⟨x',pA,v',h8,rfl,fun b p hb=>?_⟩))
    obtain⟨eo,fb⟩:=fy b s p hb;exact⟨eo.trans (wh s hs p),fb⟩
  ·intro r0 x0 m0 k0 jr s p q' hF
   unfold mkF at hF
   cases hh:has pu.frz s with
   |true=>rw[hh,cond_true]at hF;cases hF
   | false =>
    rw[hh,cond_false]at hF;split at hF
    ·unfold zW at hF
     split at hF
     ·injection hF with j1 j2
      exact absurd j1.symm (hdr r0 (by rw[jr];rfl))
     ·cases hF
    ·injection hF with j1 j2;exact⟨j1,j2⟩
  ·intro r hr
   show (if r=nr then _ else _)=_
   rw[if_neg (hdr r hr)]
  ·intro _ _
   simp only[dI,aD];refine⟨by simp,eZ _ _ _ (.inr ⟨_,Rbc _ (Qb9 _ Rbr)⟩),rfl⟩
  ·intro _ s c hc _
   rcases fm hc with ⟨rfl,rfl⟩|⟨z,hz,rfl,rfl⟩|⟨hs,x',pA,v',rfl,h8⟩
   ·refine⟨_,_,_,_,rfl,?_⟩
    simp only[dB,if_true];simp only[aS.run]at iy;split at iy
    case isFalse=>cases iy
    rename_i hxl;simp only[Qb7,Sbz,and_true]at iy;rw[rj,<- iy];refine .sl _ ⟨w.heap.size,0,none⟩ len len ti.size _ (fun i j=>eE.toList.getD (i*ti.size+j) undef) (Ia3 _ _ _) (Rbt _) (.inl rfl) (fun row hr=>?_) (fun _=>⟨rfl,by simp,fun k hk=>?_⟩) (fun i row hi j d hj=>?_) (fun i row hi j d hj=>?_)
    ·obtain⟨i,hi⟩:=Sbt.1 hr
     exact (rU _ _ _ hxl i row hi).2.1
    ·rw[qI,Pav]
     have:k<eE.size:=by rw[<- Tb2,hl.len,gu];exact hk
     exact⟨eE[k],Rb9 this,rfl⟩
    ·obtain⟨eo,fb,gq⟩:=rU _ _ _ hxl i row hi
     have jg:=(Qb8.1 (gq j d hj)).1;rw[qI];have lq:i*ti.size+j<eE.toList.length:=by rw[hl.len,<- oB];simpa using jg
     rw[Rbi,Rba lq,<- Sb6,Rba lq];rfl
    ·obtain⟨eo,fb,gq⟩:=rU _ _ _ hxl i row hi
     have jg:=gq j d hj;rw[Sbd,Rbo]at jg;obtain⟨x,qm,rfl⟩:=jg;have lq:i*ti.size+j<eE.toList.length:=by rw[hl.len,<- oB];exact (Qb8.1 qm).1
     have hv:eE.toList[i*ti.size+j]?=some (eE.toList.getD (i*ti.size+j) undef):=by
      rw[Rbi,Rba lq];rfl
     have sL:=nk _ _ _ hv qm;rw[Nat.zero_add]at sL;refine sL.rp hR (by unfold big at hM;omega) l8 (fun s' m2 uh b t hb=>?_) (fun s' q' j0=>by rw[hho]at j0;simp at j0) (fun s' ku b p hb=>?_)
     ·obtain⟨mz,nn⟩:=fy b s' t hb
      refine⟨mz.trans ?_,nn⟩;rw[hmF _ uh,zW];simp only[Rbh,Sb3,Sbm];by_cases ht:t.length<m1
      ·rw[if_pos ht,if_pos (by omega)]
      ·rw[if_neg ht,if_neg (by omega)]
     ·obtain⟨mz,nn⟩:=fy b s' p hb
      exact⟨mz.trans (wh s' ku p),nn⟩
   ·exact⟨_,_,_,_,rfl,trivial⟩
   ·refine⟨x',pA,v',.frozen,rfl,?_,fun b p hb=>?_⟩
    ·have:=hR.root h8
     simp only[dB]at this ⊢;rw[if_neg (y7 s hs)];refine this.rd.mono' fun b hb bh=>?_
     rcases hb with hb|⟨p,hb⟩
     ·exact l8 b hb bh
     ·obtain⟨mz,nn⟩:=fy b s p hb
      exact⟨mz.trans (wh s hs p),nn⟩
    ·have e9:(if b=w.heap.size then Ow.slc nr [] else oH (mkF pu nr (m1+1)) (G.own b))=.slc s p:=hb
     split at e9
     ·injection e9 with j1 _
      exact y7 s hs j1.symm
     ·cases e:G.own b with
      | slc s' p' =>
       rw[e]at e9;have gm:mkF pu nr (m1+1) s' p'=.slc s p:=e9;by_cases ku:s'∈pu.frz
       ·rw[wh s' ku]at gm;cases gm
       ·unfold mkF at gm
        rw[Bac.2 ku,cond_false]at gm;split at gm
        ·unfold zW at gm
         split at gm
         ·injection gm with j1 j2;exact y7 s hs j1.symm
         ·cases gm
        ·injection gm with j1 j2;exact ku (j1▸hs)
      |_=>rw[e]at e9;cases e9
end
def jV (vs:Nat->Nat->Value)(n sz:Nat):List Value:=(List.range (n*sz)).map fun k=>vs (k / sz) (k % sz)
theorem mQ (vs:Nat->Nat->Value)(n sz:Nat):(jV vs n sz).length=n*sz:=by simp[jV]
theorem nW (vs:Nat->Nat->Value){n sz i j:Nat}(hi:i<n)(hj:j<sz):(jV vs n sz)[i*sz+j]?=some (vs i j):=by
 have bh:i*sz+j<n*sz:=by
  have:=Rb7 sz (show i+1<=n by omega);rw[Sbs]at this;omega
 unfold jV;rw[Sbd,Ubv bh,Sbq];rw[Ubb i sz,Ubh (by omega),Tb6 hj,Nat.mul_add_mod,Nat.mod_eq_of_lt hj,Sbg]
theorem zY {vs:Nat->Nat->Value}{n sz k:Nat}{u:Value}(h:(jV vs n sz)[k]?=some u):k / sz<n/\k % sz<sz/\k=k / sz*sz+k % sz/\u=vs (k / sz) (k % sz):=by
 have bh:k<n*sz:=by
  have:=(Qb8.1 h).1;rwa[mQ]at this
 have ej:0<sz:=by
  rcases Nat.eq_zero_or_pos sz with e|e
  ·rw[e]at bh;simp at bh
  ·exact e
 refine⟨(Nat.div_lt_iff_lt_mul ej).2 bh,Nat.mod_lt _ ej,?_,?_⟩
 ·rw[Ubb];exact (Nat.div_add_mod k sz).symm
 ·unfold jV at h
  rw[Sbd,Ubv bh,Sbq]at h;exact (Rb5 h).symm
section
variable {P:Program} {E:Env} {F:bQ} {n:Nat} {σ:Nat->Option aU} {ρ:List D} {a:Act} {w w':World} {G G':Gh} {g:Option (aP×Bool)} {o:Oper} {cf:Nat->List D->Option (List D)} {Q:Exit->Act->World->Prop} {next:Act->World->Prop}
theorem uE {rs:List (List D)}{sz:Nat}{b:Addr}{vs:Nat->Nat->Value}(ej:∀ r∈rs,r.length=sz)
  (cV:∀ i row,rs[i]?=some row->∀ j d,row[j]?=some d->w.cell? (b.add (i*sz+j))=some (vs i j)):∀ k u,(jV vs rs.length sz)[k]?=some u->w.cell? (b.add k)=some u:=by
 intro k u h;obtain⟨h1,h2,h3,rfl⟩:=zY h;have hr:rs[k / sz]?=some rs[k / sz]:=Rba h1;have hl:=ej _ (Rbn hr);have hd:rs[k / sz][k % sz]?=some (rs[k / sz][k % sz]'(by omega)):=Rba (by omega);have:=cV _ _ hr _ _ hd;rwa[<- h3]at this
structure Nbk (w w1:World) (G:Gh) (A:Option Addr) (n n' cap sz:Nat) (olds news:List Value) (v:Value) (A':Option Addr) (cb:Addr) (jt:Nat) (grow:Bool):Prop where
 val:v=.slice A' (n+n') jt
 aval:A'=some cb\/(A'=none/\jt=0)
 le:n+n'<=jt
 os:w1.os=w.os/\w1.tape=w.tape/\w1.output=w.output
 size:w1.heap.size=w.heap.size+(if grow=true then 1 else 0)
 heap:∀ b,b<w.heap.size->(grow=true\/A'=none\/b≠cb.block)->w1.heap[b]?=w.heap[b]?
 cell:∀ k u,(olds++news)[k]?=some u->w1.cell? (cb.add k)=some u
 all:∀ k,k<jt*sz->∃ u,w1.cell? (cb.add k)=some u/\fzq w1 (cb.add k)=false
 spot:cb.spot=none
 base:(grow=true/\A'=some cb/\cb.block=w.heap.size)\/(grow=false/\A'=some cb/\A=some cb)\/(grow=false/\A'=none)
theorem Ma5 {t tx e:TypeId}{ti:TI}{info:TypeInfo}{u u':TypeDesc}{x y:Operand}{args:Array Operand}{argTypes:Array TypeId}(ho:o.op=.call { callee:=.builtin .append,args,argTypes })
  (fp:args.toList=[x,y]) (ig:argTypes=#[t,tx]) (hu:P.underlying t=some (.slice e)) (f:dN P e ti info u) (hx:P.underlying tx=some u') (rl:∃ e',u'=.slice e')
  {A:Option Addr} {n cap n':Nat} {b:Addr} {olds news:List Value} (hxv:a.eval x=.slice A n cap) (uz:n<=cap) (hA:(A=some b/\b.spot=none)\/(A=none/\cap=0))
  (xd:olds.length=n*ti.size) (ug:∀ k u,olds[k]?=some u->w.cell? (b.add k)=some u) (df:A=some b->∀ k,k<cap*ti.size->∃ u,w.cell? (b.add k)=some u/\fzq w (b.add k)=false)
  {By:Option Addr} {by':Addr} {nh:Nat} (hyv:a.eval y=.slice By n' nh) (hBy:n'=0\/By=some by') (vi:news.length=n'*ti.size) (yo:∀ k u,news[k]?=some u->w.cell? (by'.add k)=some u) (uq:∀ u∈news,u.oneCell'=true)
  (hb0:0<ti.bytes) (hs0:0<ti.size) (fh:(n+n')*ti.bytes<=iM) :
  ∃ v w1 A' cb jt grow,(execOp a.eval o).run P w=.ok (.value v) w1/\Nbk w w1 G A n n' cap ti.size olds news v A' cb jt grow:=by
 obtain⟨e',rfl⟩:=rl
 have kb:Src P ti.size tx (.slice By n' nh) n' news w:=by
  rcases hBy with rfl|rfl
  ·have:news=[]:=Sb5 (by simpa using vi)
   subst this
   cases By with
   |none=>exact Src.ofNil w hx nh
   |some b1=>exact Src.ofSlice w hx b1 0 nh [] (by simp) (by simp) (by simp)
  ·exact Src.ofSlice w hx by' n' nh news vi yo uq
 have kO:∀ {v:Value} {w1:World},(Builtin.append_ #[t,tx] o.type #[.slice A n cap,.slice By n' nh]).run P w=.ok v w1->(execOp a.eval o).run P w=.ok (.value v) w1:=by
  intro v w1 h;refine nO ho (s:=Builtin.append_ argTypes o.type (args.map a.eval)) (fun _=>rfl) ?_;rw[Fbv fp,Hb6,hxv,hyv,ig];exact h
 have ej:info.size=ti.size:=f.size.symm;have hby:info.bytes=ti.bytes:=f.bytes.symm;by_cases dv:n+n'<=cap
 ·rcases hA with ⟨rfl,fN⟩|⟨rfl,h0⟩
  ·
   have hbb:b=⟨b.block,b.off,none⟩:=by cases b;simp only at fN;subst fN;rfl
   have eM:∀ j,j<news.length->∃ u,w.cell? ⟨b.block,b.off+n*ti.size+j,none⟩=some u/\w.frozen? ⟨b.block,b.off+n*ti.size+j,none⟩=false:=fun j hj=>by
    have:=df rfl (n*ti.size+j) (by
     have:=Rb7 ti.size dv;rw[Sbs]at this
     omega)
    rw[add_plain fN,<- Rbp]at this;exact this.imp fun u h=>⟨h.1,pE h.2 rfl⟩
   have cP:=run_append_room_src (P:=P) w t tx o.type e info hu f.info_ b.block b.off n cap (.slice By n' nh) n' news (by rw[ej];exact kb) dv
    (fun j hj=>by rw[ej];obtain⟨u,h1,-⟩:=eM j hj;rw[h1];rfl) (fun j hj=>by rw[ej];exact (eM j hj).choose_spec.2)
   rw[<- hbb,ej]at cP;refine⟨_,_,some b,b,cap,false,kO cP,rfl,.inl rfl,dv,dP _ _ _ _,by rw[setCells_size];simp,fun b' _ e9=>?_,fun k u hk=>?_,fun k hk=>?_,fN,.inr (.inl ⟨rfl,rfl,rfl⟩)⟩
   ·rcases e9 with e9|e9|e9
    ·cases e9
    ·cases e9
    ·exact bO _ _ _ _ _ e9
   ·by_cases bh:k<olds.length
    ·rw[Rbm bh]at hk
     rw[add_plain fN,World.cell?_setCells_out _ _ _ _ _ (fun _ _=>.inl (by dsimp only;omega)),<- add_plain fN];exact ug k u hk
    ·rw[Rbj (by omega)]at hk
     have nx:=(Qb8.1 hk).1;have:=World.cell?_setCells_in b.block news (b.off+n*ti.size) w (fun j hj=>by obtain⟨u,h1,-⟩:=eM j hj;rw[h1];rfl) (k-olds.length) nx;rw[show b.off+n*ti.size+(k-olds.length)=b.off+k by omega]at this;rw[add_plain fN,this,<- hk,Rba]
   ·obtain⟨u0,oc,zx⟩:=df rfl k hk
    rw[fD];obtain⟨u1,wx⟩:=dV (B:=b.block) (o:=b.off+n*ti.size) (vs:=news) (b:=b.add k) (fun _=>by rw[add_plain fN]) (fun j hj=>by obtain⟨u,h1,-⟩:=eM j hj;rw[h1];rfl) oc;exact⟨u1,wx,zx⟩
  ·
   have hn0:n=0:=by omega
   have a36:n'=0:=by omega
   subst hn0 a36 h0;have:news=[]:=Sb5 (by simpa using vi);subst this;have:olds=[]:=Sb5 (by simpa using xd);subst this;refine⟨_,_,none,⟨0,0,none⟩,0,false,kO (run_append_nothing w t tx o.type e info hu f.info_ none 0 0 (Rbt _) _ (by rw[ej];exact kb)),rfl,.inr ⟨rfl,rfl⟩,Rbt _,⟨rfl,rfl,rfl⟩,by simp,fun _ _ _=>rfl,by simp,by simp,rfl,.inr (.inr ⟨rfl,rfl⟩)⟩
 ·
  obtain⟨z,kf,nq,-,-⟩:=f.zeros (σ:=fun _=>none) (ρ:=[]) (G:=G) (w:=w);have rk:z.cells.size=ti.size:=by rw[<- Tb2,nq.len,Rb4,f.len]
  have hold:(Builtin.firstCells info.size n (.slice A n cap)).run P w.drew=.ok olds.toArray w.drew:=by
   rcases hA with ⟨rfl,fN⟩|⟨rfl,h0⟩
   ·exact run_firstCells_some w.drew info.size n b n cap olds (by rw[ej];exact xd) (fun j u hj=>ug j u hj)
   ·have hn0:n=0:=by omega
    subst hn0;have:olds=[]:=Sb5 (by simpa using xd);subst this;rfl
  have h1:(n+n')*1<=(n+n')*ti.bytes:=Nat.mul_le_mul_left _ hb0;have xx:=nextslicecap_le (show cap<n+n' by omega)
  have mB:Builtin.nextslicecap (n+n') cap*info.bytes<=281474976710656:=by
   rw[hby];have h2:=Rb7 ti.bytes xx;rw[Nat.mul_assoc]at h2;unfold iM at fh;omega
  have cP:=run_append_grow_src (P:=P) w t tx o.type e info z hu f.info_ kf A n cap olds hold (.slice By n' nh) n' news (by rw[ej];exact kb) (by omega) (by unfold iM at fh;omega) mB;have mo:=grownCap_ge w (n+n') cap e;generalize hgc:grownCap w (n+n') cap e=gc at cP mo
  have oo:∀ b',b'≠w.heap.size->(w.drew.alloc (.cells ((olds++news).toArray++Builtin.zeroCells z.cells (gc-(n+n'))) e)).heap[b']?=w.heap[b']?:=fun b' e9=>by
   show (w.heap.push _)[b']?=_
   rw[Ube,if_neg e9]
  have ij:(w.drew.alloc (.cells ((olds++news).toArray++Builtin.zeroCells z.cells (gc-(n+n'))) e)).heap[w.heap.size]?=some (.cells ((olds++news).toArray++Builtin.zeroCells z.cells (gc-(n+n'))) e (0,0)):=by
   show (w.heap.push _)[w.heap.size]?=_
   rw[Ube,if_pos rfl]
  have cV:∀ k,(w.drew.alloc (.cells ((olds++news).toArray++Builtin.zeroCells z.cells (gc-(n+n'))) e)).cell? ((⟨w.heap.size,0,none⟩:Addr).add k)=((olds++news).toArray++Builtin.zeroCells z.cells (gc-(n+n')))[k]?:=fun k=>by
   unfold World.cell?;rw[add_block,ij];simp[Addr.add];split<;>simp_all
  refine⟨_,_,some ⟨w.heap.size,0,none⟩,⟨w.heap.size,0,none⟩,gc,true,kO cP,rfl,.inl rfl,mo,⟨rfl,rfl,rfl⟩,by show (w.heap.push _).size=_;rw[Array.size_push,if_pos rfl],fun b' bh _=>oo b' (by omega),fun k u hk=>?_,fun k hk=>?_,rfl,.inl ⟨rfl,rfl,rfl⟩⟩
  ·have bh:=(Qb8.1 hk).1
   rw[cV,Array.getElem?_append_left (by simpa using bh)];simpa using hk
  ·have pB:((olds++news).toArray++Builtin.zeroCells z.cells (gc-(n+n'))).size=gc*ti.size:=by
    simp only[Array.size_append,List.size_toArray,Rbh,Builtin.zeroCells,Array.size_map,Array.size_range];rw[xd,vi,rk,<- Sbs,<- Sbs];congr 1;omega
   rw[cV];refine⟨_,Rb9 (by omega),?_⟩;unfold fzq;rw[add_block,ij];simp
end
section
variable {P:Program} {E:Env} {F:bQ} {n:Nat} {σ:Nat->Option aU} {ρ:List D} {a:Act} {w w':World} {G G':Gh} {g:Option (aP×Bool)} {o:Oper} {cf:Nat->List D->Option (List D)} {Q:Exit->Act->World->Prop} {next:Act->World->Prop}
structure Side (w:World) (v:Value) (rs:List (List D)) (sz:Nat) (A:Option Addr) (b:Addr) (n cap:Nat) (vs:Nat->Nat->Value):Prop where
 val:v=.slice A n cap
 len:rs.length=n
 le:n<=cap
 rows:∀ r∈rs,r.length=sz
 cell:∀ i row,rs[i]?=some row->∀ j d,row[j]?=some d->w.cell? (b.add (i*sz+j))=some (vs i j)
def ChY (G:Gh)(w:World)(mb:List Nat)(mN:Option Nat)(dy:Nat)(v:Value)(d:D)(idx:Nat):Prop :=
 Sc v d\/(∃ s,mN=some s/\2<=dy/\Rp G.own w s [idx] (dy-1) v d)\/(dy=1/\Rd (fun b=>G.own b=.frz\/∃ r p,r∈mb/\G.own b=.slc r p) w v d)
structure YOk (σ:Nat->Option aU) (G:Gh) (w:World) (fl:Bool) (v:Value) (rb:List (List D)) (sz dy:Nat) (hL:List (Nat×aU)) (ry:List Nat) (mb:List Nat) (mN:Option Nat):Prop where
 side:∃ A b n cap vs,Side w v rb sz A b n cap vs/\(n=0\/A=some b)/\∀ i row,rb[i]?=some row->∀ j d,row[j]?=some d->ChY G w mb mN dy (vs i j) d (i*sz+j)
 upd:∀ k c,(k,c)∈hL->∃ s,k=kR s/\s∈ry/\((mN=some s/\c=.root (.c .hole) 0 0 .gone/\∃ x m cQ,σ (kR s)=some (.root x m cQ .live))\/(s∈mb/\∃ x m cQ,c=.root x m cQ .frozen/\σ (kR s)=some (.root x m cQ .live)))
 fz:∀ s∈mb,s∈ry/\((∃ c,(kR s,c)∈hL)\/∃ x m cQ,σ (kR s)=some (.root x m cQ .frozen))
 mv:∀ s,mN=some s->s∈ry/\(∃ c,(kR s,c)∈hL)/\s∉mb
 dy:1<=dy
 flat:fl=true->hL=[]/\mb=[]/\mN=none
theorem Rd.side {ok:Nat->Prop}{v:Value}{sz:Nat}{rs:List (List D)}(h:Rd ok w v (.rows sz rs)):∃ A b n cap vs,Side w v rs sz A b n cap vs/\(n=0\/A=some b)/\∀ i row,rs[i]?=some row->∀ j d,row[j]?=some d->Rd ok w (vs i j) d:=by
 obtain⟨A,b,n,c,vs,e1,e2,e3,e4,e5,e6,e7⟩:=h.inv;exact⟨A,b,n,c,vs,⟨e1,e2,e3,e5,fun i row hi j d hj=>(e6 i row hi j d hj).2⟩,e4,e7⟩
theorem Nby (hR:R E.ntmps F σ ρ a w G){fl:Bool}{y:SlR}{v:Value}(hy:Was σ ρ G w y v){sz:Nat}{rb:List (List D)}(hx:y.x.val ρ=.rows sz rb)(ic:fl=true->∀ r∈rb,∀ d∈r,d.isSc=true)
  {dy:Nat} {hL:List (Nat×aU)} {ry:List Nat} (h:(Tao fl y).eval σ=some (dy,hL,ry)):∃ mb mN,YOk σ G w fl v rb sz dy hL ry mb mN:=by
 have jq:=hy.rd;rw[hx]at jq;unfold Tao at h
 cases fl with
 | true =>
  simp only[cond_true,aF,Qb7,Rbx]at h;obtain⟨rfl,rfl,rfl⟩:=h;refine⟨[],none,?_,by simp,by simp,by simp,by decide,fun _=>⟨rfl,rfl,rfl⟩⟩;obtain⟨A,b,n,c,vs,h1,h2,h3⟩:=jq.side;exact⟨A,b,n,c,vs,h1,h2,fun i row hi j d hj=>.inl ((h3 i row hi j d hj).sc_inv (ic rfl row (Rbn hi) d (Rbn hj)))⟩
 | false =>
  simp only[cond_false]at h;have cI:=hy.own;unfold wR at cI
  have frozen:∀ rs fr,(eF rs).eval σ=some fr->Rd (fun b=>G.own b=.frz\/∃ r p,r∈rs/\G.own b=.slc r p) w v (.rows sz rb)->YOk σ G w false v rb sz 1 fr rs rs none:=by
   intro rs fr fq jq;obtain⟨h1,h2⟩:=iF fq;refine⟨?_,fun k c hc=>?_,fun s hs=>⟨hs,?_⟩,by simp,Rbt _,by simp⟩
   ·obtain⟨A,b,n,c,vs,h3,h4,h5⟩:=jq.side
    exact⟨A,b,n,c,vs,h3,h4,fun i row hi j d hj=>.inr (.inr ⟨rfl,h5 i row hi j d hj⟩)⟩
   ·obtain⟨s,hs,x,m,cQ,e1,e2,e3⟩:=h2 k c hc
    exact⟨s,e1,hs,.inr ⟨hs,x,m,cQ,e2,e3⟩⟩
   ·rcases h1 s hs with ⟨x,m,cQ,e1,e2⟩|h3
    ·exact .inl ⟨_,e2⟩
    ·exact .inr h3
  split at h
  ·rename_i r k m ho
   rw[ho]at cI;obtain⟨h1,⟨x,h2⟩,h3,h4,h5⟩:=cI;simp only[bG,Sbc,List.length_nil,Nat.sub_zero]at h4;rw[hx]at h4
   cases hb:Nat.ble 2 m with
   | true =>
    rw[hb]at h;simp only[cond_true,aF,Qb7,Rbx]at h;obtain⟨rfl,rfl,rfl⟩:=h;simp only[Sbr]at hb;obtain⟨m',rfl⟩:∃ m',m=m'+1:=⟨m-1,by omega⟩;obtain⟨A,b,n,c,vs,e1,e2,e3,e4,e5,e6,e7,e8⟩:=h4.sl_inv;refine⟨[],some r,⟨A,b,n,c,vs,⟨e1,e2,e3,e5,e7⟩,?_,fun i row hi j d hj=>.inr (.inl ⟨r,rfl,hb,by simpa using e8 i row hi j d hj⟩)⟩,fun k' c' hc=>?_,by simp,fun s hs=>?_,by omega,by simp⟩
    ·rcases e4 with e4|⟨e4,rK⟩
     ·exact .inr e4
     ·exact .inl (by omega)
    ·simp only[Rbb,Rbx]at hc
     exact⟨r,hc.1,by simp,.inl ⟨rfl,hc.2,x,_,k,h2⟩⟩
    ·obtain rfl:=Rb5 hs
     exact⟨by simp,⟨_,Rbb.2 rfl⟩,by simp⟩
   | false =>
    rw[hb]at h;simp only[cond_false,aF,Qb7,Rbx]at h;obtain⟨rfl,rfl,rfl⟩:=h
    have hm:m<=1:=by
     have:¬ 2<=m:=by rw[<- Sbr,hb];simp
     omega
    refine⟨[],none,?_,by simp,by simp,by simp,Rbt _,by simp⟩
    rcases Nat.eq_zero_or_pos m with rfl|qb
    ·obtain⟨A,b,n,c,vs,h6,h7,h8⟩:=h4.zero.side
     exact⟨A,b,n,c,vs,h6,h7,fun i row hi j d hj=>.inr (.inr ⟨rfl,(h8 i row hi j d hj).mono fun b hb=>⟨.inl hb,rfl⟩⟩)⟩
    ·obtain rfl:m=0+1:=by omega
     obtain⟨A,b,n,c,vs,e1,e2,e3,e4,e5,e6,e7,e8⟩:=h4.sl_inv;refine⟨A,b,n,c,vs,⟨e1,e2,e3,e5,e7⟩,?_,fun i row hi j d hj=>.inr (.inr ⟨rfl,(e8 i row hi j d hj).zero.mono fun b hb=>⟨.inl hb,rfl⟩⟩)⟩
     rcases e4 with e4|⟨e4,rK⟩
     ·exact .inr e4
     ·exact .inl (by omega)
  ·rename_i r k m p dz ho
   rw[ho]at cI;simp only[aC,Qb5,aF,Qb7,Rbx]at h;obtain⟨fr,h6,rfl,rfl,rfl⟩:=h;refine⟨[r],none,frozen _ _ h6 ?_⟩;refine jq.mono fun b hb=>⟨hb.imp id fun ⟨r',k',p',h7,h8⟩=>?_,rfl⟩
   rw[cI.1]at h7;simp only[Rbb,Rbx]at h7;exact⟨r,p',by simp,h7.1▸h8⟩
  ·split at h
   ·rename_i z hz
    simp only[aF,Qb7,Rbx]at h;obtain⟨rfl,rfl,rfl⟩:=h;rw[hz]at hx;simp only[aP.val,D.rows.injEq]at hx;obtain⟨rfl,rfl⟩:=hx;refine⟨[],none,?_,by simp,by simp,by simp,by decide,by simp⟩;obtain⟨A,b,n,c,vs,h1,h2,h3⟩:=jq.side;exact⟨A,b,n,c,vs,h1,h2,by simp⟩
   ·simp only[aC,Qb5,aF,Qb7,Rbx]at h
    obtain⟨fr,h6,rfl,rfl,rfl⟩:=h;refine⟨y.deps.map (·.1),none,frozen _ _ h6 ?_⟩;exact jq.mono fun b hb=>⟨hb.imp id fun ⟨r',k',p',h7,h8⟩=>⟨r',p',Sb1 (f:=fun x:Nat×Nat=>x.1) h7,h8⟩,rfl⟩
end
end Go.Proofs.YtgpamlpecmldfaaGreat.Rf
