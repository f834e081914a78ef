/- Terms for qq program's functions, and my they are right: part 3 of 9. -/
import Derived.Test.YtcbkmmhkccnamaaGreatRf2
import Derived.Laws.IdiomCopy
import Derived.Deep.Upon
open Array renaming getElem?_eq_getElem → Pbd, getElem?_toList → Pbv, length_toList → Qbk, getElem?_push → Rbj, ext' → Rbl
open Bool renaming and_eq_true → Obh, not_eq_true' → Ob6
open List renaming mem_append_left → Obi, mem_append_right → Obk, getElem?_eq_getElem → Obl, getElem?_cons_zero → Obn, getD_eq_getElem?_getD → Obo, mem_cons_of_mem → Obq, append_assoc → Obs, mem_singleton → Obt, mem_cons_self → Obu, length_append → Obv, mem_of_getElem? → Obw, getElem?_append_left → Obx, getElem?_append_right → Obz, map_cons → Ob1, getElem?_map → Ob5, length_map → Ob7, all_eq_true → Ob8, map_nil → Pba, append_nil → Pbc, getElem?_cons_succ → Pbi, getElem?_drop → Pbk, length_cons → Pbm, nil_append → Pbp, getElem?_take → Pbq, eq_nil_of_length_eq_zero → Pbr, mem_map_of_mem → Pbu, length_singleton → Pbw, getElem?_set → Qba, cons_append → Qbb, foldl_cons → Qbe, any_eq_false → Qbq, mem_or_eq_of_mem_set → Qbu, ext_getElem? → Qby, isEmpty_iff → Qb4, singleton_append → Qb7, getElem?_range → Rbh
open Nat renaming le_refl → Oby, add_assoc → Ob0, lt_or_ge → Ob2, beq_eq → Ob4, add_zero → Pbb, ble_eq → Pbn, mul_le_mul_right → Pb0, add_mul → Pb7
open Option renaming bind_eq_some_iff → Obg, bind_some → Obm, map_eq_some_iff → Obr, map_some → Pbj, isNone_iff_eq_none → Qbm
set_option linter.unusedSimpArgs false
set_option linter.unusedVariables false
set_option linter.unnecessarySimpa false
set_option linter.unusedSectionVars false
namespace Go.Proofs.YtcbkmmhkccnamaaGreat.Rf
theorem dG (b:Nat):∀ (vs:List Value) (o:Nat) (w:World) (k:Nat),k≠b->(w.setCells b o vs).heap[k]?=w.heap[k]?
 |[],_,_,_,_=>rfl
 | v :: r, o, w, k, h => by
  rw[World.setCells,dG b r _ _ k h];exact heap_setCell_other w _ k v h
theorem setCells_size (b:Nat):∀ (vs:List Value) (o:Nat) (w:World),(w.setCells b o vs).heap.size=w.heap.size
 |[],_,_=>rfl
 |v::r,o,w=>by rw[World.setCells,setCells_size b r];exact World.size_setCell ..
theorem jX (b:Nat):∀ (vs:List Value) (o:Nat) (w:World),(w.setCells b o vs).os=w.os/\(w.setCells b o vs).tape=w.tape/\(w.setCells b o vs).output=w.output
 |[],_,_=>⟨rfl,rfl,rfl⟩
 |v::r,o,w=>by rw[World.setCells];exact jX b r (o+1) _
theorem yG (b:Nat):∀ (vs:List Value) (o:Nat) (w:World) (c:Array Value) (e:TypeId) (fr:Nat×Nat),w.heap[b]?=some (.cells c e fr) ->
  ∃ c',(w.setCells b o vs).heap[b]?=some (.cells c' e fr)/\c'.size=c.size/\∀ k,k<o\/o+vs.length<=k->c'[k]?=c[k]?
 |[],o,w,c,e,fr,h=>⟨c,h,rfl,fun _ _=>rfl⟩
 | v :: r, o, w, c, e, fr, h => by
  have h1:(w.setCell ⟨b,o,none⟩ v).heap[b]?=some (.cells (c.setIfInBounds o v) e fr):=by
   simp[World.setCell,Array.getElem?_modify,h]
  obtain⟨c',h2,h3,h4⟩:=yG b r (o+1) _ _ e fr h1;refine⟨c',h2,by simpa using h3,fun k hk=>?_⟩;simp only[Pbm]at hk;rw[h4 k (by omega),Array.getElem?_setIfInBounds_ne (by omega)]
section
variable {P:Program} {E:Env} {F:bC} {σ:Nat->Option aN} {ρ:List D} {a:Act} {w w':World} {G:Gh} {g:Option (aI×Bool)} {o:Oper} {cf:Nat->List D->Option (List D)} {Q:Exit->Act->World->Prop} {next:Act->World->Prop}
theorem Bax {t:TypeId}{i:TI}{info:TypeInfo}{u:TypeDesc}(f:bU P t i info u){b off:Nat}{v:Value}(hl:v.cells.toList.length=i.size)
  (hc:∀ j,j<i.size->∃ u,w.cell? ⟨b,off+j,none⟩=some u) (hf:∀ j,j<i.size->w.frozen? ⟨b,off+j,none⟩=false) (h1:∀ x∈v.cells.toList,x.oneCell'=true) :
  (storeVar t ⟨b,off,none⟩ v).run P w=.ok () (w.setCells b off v.cells.toList):=by
 unfold storeVar;rw[Sem.run_bind,f.sizeOf];simp only[Result.andThen_ok];have:¬ v.cells.size≠i.size:=by simpa using hl
 rw[if_neg this]
 have h2:=run_storeCells_cells (P:=P) b off v.cells.toList 0 w (fun j hj=>by
  obtain⟨u,hu⟩:=hc j (by omega);rw[Pbb,hu];rfl) (fun j hj=>by rw[Pbb];exact hf j (by omega)) h1
 rw[Pbb]at h2;simpa using h2
theorem aB.one {l:aM}{v:Value}(h:aB σ ρ G w l v)(hs:Kaf l=true):v.oneCell'=true:=by
 cases l with
 |dead=>simpa[aB] using h
 |sc x=>simp only[aB]at h;exact h.one
 |su g x=>simp[Kaf]at hs
 |ex r=>simp only[aB]at h;exact h.2.2
 |sn deps p nie x=>simp only[aB]at h;exact h.1.1
 |px b off=>simp only[aB]at h;rw[h.1];rfl
 |pe l sz i off=>simp only[aB]at h;obtain⟨_,_,_,_,_,_,_,_,_,e⟩:=h;rw[e];rfl
 |rp deps sz x=>simp only[aB]at h;exact h.1.1
 |pn=>simp only[aB]at h;rw[h];rfl
 |clo f eN=>simp only[aB]at h;obtain⟨_,e,_⟩:=h;rw[e];rfl
theorem aG.ones {ls:List aM}{vs:List Value}(h:aG σ ρ G w ls vs)(hs:ls.all Kaf=true):∀ v∈vs,v.oneCell'=true:=by
 intro v hv;obtain⟨i,hi⟩:=List.mem_iff_getElem?.1 hv
 have ar:i<ls.length:=by
  rw[<- h.len];exact (List.getElem?_eq_some_iff.1 hi).1
 have hl:ls[i]?=some ls[i]:=Obl ar;obtain⟨v',h1,h2⟩:=h.get hl;rw[hi]at h1;obtain rfl:=Option.some.inj h1;rw[Ob8]at hs;exact h2.one (hs _ (Obw hl))
theorem tC {v:Value}(h:v.oneCell'=true):v.cells=#[v]:=by cases v<;>first|rfl|(simp[Value.oneCell']at h)
theorem aB.cells {l:aM}{v:Value}(h:aB σ ρ G w l v):v.cells=#[v]:=by
 by_cases hs:Kaf l=true
 ·exact tC (h.one hs)
 ·cases l<;>first|(simp[Kaf]at hs;done)|skip
  simp only[aB]at h
  rcases h.1 with h1|⟨rfl,-⟩
  ·exact tC h1.one
  ·rfl
theorem gQ {agg:Bool}{sv:SV}{ls:List aM}{v:Value}(h:iX agg sv=some ls)(hv:bR σ ρ G w sv v):aG σ ρ G w ls v.cells.toList:=by
 unfold iX at h;split at h
 ·rename_i l
  cases agg with
  |true=>cases h
  | false =>
   obtain rfl:=Option.some.inj h;rw[aB.cells hv];simp only[aG];exact⟨v,[],rfl,hv,rfl⟩
 ·rename_i ms
  cases agg with
  |false=>cases h
  | true =>
   obtain rfl:=Option.some.inj h;obtain⟨vs,rfl,h1⟩:=hv;simpa[Value.cells] using h1
 ·cases h
def pushB (w:World)(c:Array Value)(e:TypeId):World:={ w with heap:=w.heap.push (.cells c e (0,0)) }
theorem jZ {c:Array Value}{e:TypeId}{b:Nat}(h:b≠w.heap.size):(pushB w c e).heap[b]?=w.heap[b]?:=by
 unfold pushB;rw[Rbj,if_neg h]
theorem Ka6 {c:Array Value}{e:TypeId}:(pushB w c e).heap[w.heap.size]?=some (.cells c e (0,0)):=by
 unfold pushB;rw[Rbj,if_pos rfl]
theorem jR {c:Array Value}{e:TypeId}:(pushB w c e).heap.size=w.heap.size+1:=by
 unfold pushB;simp
theorem lZ {c:Array Value}{e:TypeId}(j:Nat):(pushB w c e).cell? ((⟨w.heap.size,0,none⟩:Addr).add j)=c[j]?:=by
 unfold World.cell?;rw[add_block,Ka6];simp[Addr.add];split<;>simp_all
theorem sW {c:Array Value}{e:TypeId}(j:Nat):(pushB w c e).frozen? ((⟨w.heap.size,0,none⟩:Addr).add j)=false:=by
 unfold World.frozen?;rw[add_block,Ka6];simp
theorem kU.push (h:kU F G w)(c:Array Value)(e:TypeId){G':Gh}(ho:∀ b,b≠w.heap.size->G'.own b=G.own b\/((∃ r p,G.own b=.slc r p))):kU F G' (pushB w c e):=by
 refine⟨h.os,h.tape,h.output,by rw[jR];have:=h.size;omega,fun b hb hf=>?_,fun b j hb hj=>?_,fun b hb=>?_⟩
 ·have cn:b≠w.heap.size:=by have:=h.size;omega
  obtain⟨h1,h2⟩:=h.keep b hb hf;refine⟨by rw[jZ cn];exact h1,?_⟩
  rcases ho b cn with h3|⟨r,p,h3⟩
  ·rw[h3];exact h2
  ·rw[h3]at h2
   rw[<- h2]at hf
   rcases hf with hf|hf<;>cases hf
 ·have cn:b≠w.heap.size:=by have:=h.size;omega
  obtain⟨h1,c0,c1,e',fr,h2,h3,h4⟩:=h.boxes b j hb hj;refine⟨?_,c0,c1,e',fr,h2,by rw[jZ cn];exact h3,h4⟩
  rcases ho b cn with h5|⟨r,p,h5⟩
  ·rw[h5];exact h1
  ·rw[h5]at h1;cases h1
 ·rw[jR]at hb
  have cn:b≠w.heap.size:=by omega
  rcases ho b cn with h5|⟨r,p,h5⟩
  ·rw[h5];exact h.fresh b (by omega)
  ·rw[h.fresh b (by omega)]at h5;cases h5
def vZ (G:Gh)(w:World)(nb:Nat):Gh:={ G with own:=fun b=>if b=w.heap.size then .box nb else G.own b,bx:=fun b=>if b=nb then ⟨w.heap.size,0,none⟩ else G.bx b }
structure Aal (σ:Nat->Option aN) (nb nr:Nat):Prop where
 nb:σ (kB nb)=none
 nr:∀ j,nr<=j->j<nr+bN->σ (kR j)=none
theorem Gax {e:TypeId}{v:Value}:(newVar e v).run P w=.ok ⟨w.heap.size,0,none⟩ (pushB w v.cells e):=by
 simp[newVar,newRow,pushB]
theorem Zah {u0:List (Nat×aN)}{nb:Nat}{ls:List aM}(r:Nat)(h:∀ k c,(k,c)∈u0->∃ t,k=kT t):upds σ (u0++[(kB nb,aN.box false ls)]) (kR r)=σ (kR r):=by
 refine dU _ _ _ fun c hc=>?_
 rcases List.mem_append.1 hc with hc|hc
 ·obtain⟨t,e⟩:=h _ _ hc
  exact gW e.symm
 ·simp only[Obt,Prod.mk.injEq]at hc
  exact dZ hc.1.symm
theorem Fah (o:Oper)(g:Option (aI×Bool))(v:SV):∀ k c,(k,c)∈dE o g v->∃ t,k=kT t:=by
 intro k c h;unfold dE at h;split at h
 ·rename_i d _
  simp only[Obt,Prod.mk.injEq]at h;exact⟨d,h.1⟩
 ·simp at h
theorem vO {o:Oper}{g:Option (aI×Bool)}{v:SV}{k:Nat}{c:aN}(h:(k,c)∈dE o g v):∃ d,o.dst=some d/\k=kT d/\c=.slot g v:=by
 unfold dE at h;split at h
 ·rename_i d hd
  simp only[Obt,Prod.mk.injEq]at h;exact⟨d,hd,h.1,h.2⟩
 ·simp at h
theorem Ca0 {n:Nat}{gh:Nat->Value}{v:Value}{g:Option (aI×Bool)}{sv:SV}{u1:List (Nat×aN)}{t:Nat}(h:∀ c,(kT t,c)∉dE o g sv++u1):xS n (a.put o.dst v) gh t=xS n a gh t:=by
 cases e:o.dst with
 |none=>rfl
 | some d =>
  refine Dap _ _ _ _ _ _ fun e'=>h (.slot g sv) ?_
  refine Obi _ ?_;unfold dE;rw[e,e'];exact List.mem_singleton.2 rfl
theorem R.newBox (h:R E.ntmps F σ ρ a w G)(hd:eG E.ntmps o){nb:Nat}(hf:σ (kB nb)=none){cs:Array Value}{ty:TypeId}{ls:List aM}(hl:aG σ ρ G w ls cs.toList) :
  R E.ntmps F (upds σ (dE o none (.one (.px nb 0))++[(kB nb,.box false ls)])) ρ (a.put o.dst (.pointer (some ⟨w.heap.size,0,none⟩))) (pushB w cs ty) (vZ G w nb):=by
 have cn:∀ b,G.own b≠.frz->b≠w.heap.size:=fun b hb e=>hb (h.frame.fresh b (by omega))
 have kg:=Fah o none (.one (.px nb 0));have hR:∀ r,upds σ (dE o none (.one (.px nb 0))++[(kB nb,aN.box false ls)]) (kR r)=σ (kR r):=fun r=>Zah r kg
 have dt:Fr σ G w (upds σ (dE o none (.one (.px nb 0))++[(kB nb,.box false ls)])) (vZ G w nb) (pushB w cs ty):=by
  refine⟨fun b hb ar=>?_,fun r k _ hv=>?_,fun r k hk=>hk.same hR,fun r k b p _ _ hb=>?_,fun r k m _ hv=>⟨?_,fun b p hb=>?_⟩,fun _ _=>rfl,fun b hb=>?_,fun k hk=>dJ _ _ _ (.inl hk),fun r x m k _ b p hb=>?_⟩
  ·have hn:b≠w.heap.size:=by omega
   exact⟨by simp only[vZ,if_neg hn];exact hb,jZ hn⟩
  ·obtain⟨x,m,st,e,hs⟩:=hv
   exact⟨x,m,st,by rw[<- hR];exact e,hs⟩
  ·have hn:=cn b (by rw[hb];simp)
   exact⟨.inl (by simp only[vZ,if_neg hn];exact hb),jZ hn⟩
  ·obtain⟨x,e⟩:=hv
   exact⟨x,by rw[<- hR];exact e⟩
  ·have hn:=cn b (by rw[hb];simp)
   simp only[vZ,if_neg hn];exact hb
  ·have:b≠nb:=fun e=>by rw[e,hf]at hb;cases hb
   simp only[vZ,if_neg this]
  ·by_cases hn:b=w.heap.size
   ·simp only[vZ,if_pos hn]at hb;cases hb
   ·simp only[vZ,if_neg hn]at hb;exact hb
 refine h.upd _ dt (by rw[yS];exact h.tmps) (by rw[put_defers];exact h.defers) (h.frame.push cs ty fun b hb=>.inl (by simp only[vZ,if_neg hb])) (fun t ht=>Ca0 ht) (fun b ro bs hb _=>?_) (fun b bs hb ar ho=>?_) (fun k c hk jd=>?_)
 ·obtain⟨_,h2,_⟩:=h.box hb
  have hn:=cn (G.bx b).block (by rw[h2];split<;>simp);exact⟨by simp only[vZ,if_neg hn],jZ hn⟩
 ·rcases List.mem_append.1 hb with hb|hb
  ·obtain⟨t,e⟩:=kg _ _ hb
   exact absurd e.symm kD
  ·simp only[Obt,Prod.mk.injEq]at hb
   obtain rfl:=zL hb.1;simp only[vZ,if_true]at ar;have:=h.frame.size;omega
 ·rcases List.mem_append.1 hk with hk|hk
  ·obtain⟨d,lq,rfl,rfl⟩:=vO hk
   refine⟨d,rfl,fun _=>?_⟩;rw[lq,mF _ _ _ _ _ (hd d lq) h.tmps];simp only[bR,aB,vZ,if_true];exact⟨by simp[Addr.add],dJ _ _ _ (.inr ⟨_,Obk _ (List.mem_singleton.2 rfl)⟩)⟩
  ·simp only[Obt,Prod.mk.injEq]at hk
   obtain⟨rfl,rfl⟩:=hk;refine⟨nb,rfl,by simp[vZ],by simp[vZ],fun j l hj=>?_⟩;obtain⟨v,h1,h2⟩:=hl.get hj;refine⟨v,?_,?_,aB.mono dt l v h2⟩
   ·simp only[vZ,if_true]
    rw[lZ];simpa using h1
   ·simp only[vZ,if_true]
    exact sW j
theorem Taf (hR:R E.ntmps F σ ρ a w G)(hd:eG E.ntmps o)(hti:sG P E.ti){nv nb nr:Nat}{mv cL:Bool}(hf:Aal σ nb nr){e:TypeId}{x:Operand}(ho:o.op=.box e x){res:bI}
  (h:(nI E mv cL nv nb nr g o).eval σ=some res) (hs:aJ cf ρ g nv res.lets):fV P E F σ ρ a w g o Q res.upd:=by
 simp only[nI,ho,aA,Obg,tiR,aS]at h;obtain⟨ti,h1,sv,h2,h⟩:=h;split at h
 ·rename_i ls qt
  simp only[aA,Obg,aH]at h;obtain⟨_,h3,h⟩:=h;split at h3
  ·rename_i hb
   simp only[Obh]at hb;obtain rfl:=tH hb.1.2;simp only[qE,aF,Option.some.injEq]at h;subst h;refine⟨fun hg=>?_,fun hg=>by simp[gOn]at hg⟩;have h4:=gQ qt (fF hR hg h2);refine lK (v:=.pointer (some ⟨w.heap.size,0,none⟩)) (w':=pushB w (a.eval x).cells e) ?_ ⟨_,hR.newBox hd hf.nb h4⟩;unfold execOp;simp only[ho];refine fA ?_;simp only[Instr.box,Sem.run_bind,Gax,Result.andThen_ok,Sem.run_pure]
  ·cases h3
 ·cases h
theorem Ha3 {v:Value}{c:CK}(h:zeroCell v c=true):aB σ ρ G w (eY c) v:=by
 unfold zeroCell at h;split at h
 ·simp only[Obh,decide_eq_true_eq]at h
  obtain⟨⟨rfl,rfl⟩,rfl⟩:=h;simp only[eY,aB,aI.val];exact .int _ _
 ·simp only[Obh,decide_eq_true_eq]at h
  obtain⟨rfl,rfl⟩:=h;simp only[eY,aB,aI.val];exact .bool _
 ·rename_i s l
  simp only[Obh,decide_eq_true_eq]at h;obtain⟨h1,rfl⟩:=h;simp only[eY,aB,aI.val];have:=Sc.str s.data.toList;rw[h1]at this
  have e:s=⟨[].toArray⟩:=by
   apply ByteArray.ext;apply Rbl;simpa using h1
  rw[e];exact this
 ·simp only[eY,aB]
  refine⟨⟨rfl,by simp⟩,fun _=>⟨?_,fun _ z _=>trivial,trivial⟩⟩;exact .rows none ⟨0,0,none⟩ 0 0 _ [] (fun _ _=>undef) rfl (Oby _) (.inl rfl) (by simp) (by simp) (by simp)
 ·simp only[eY,aB]
 ·cases h
theorem Baq {v:Value}{c:CK}(h:zeroCell v c=true):v.oneCell'=true:=by
 unfold zeroCell at h;split at h<;>first|rfl|cases h
theorem bU.zeros {t:TypeId}{i:TI}{info:TypeInfo}{u:TypeDesc}(f:bU P t i info u):∃ z,info.zero=some z/\aG σ ρ G w (i.cells.map eY) z.cells.toList /\
  (∀ x∈z.cells.toList,x.oneCell'=true)/\(∀ (j:Nat) (x:Value) (c:CK),z.cells[j]?=some x->i.cells[j]?=some c->zeroCell x c=true):=by
 have h:=f.zero;unfold Oaw at h;split at h
 ·rename_i vs cs heq
  simp only[Obh,beq_iff_eq,Ob8]at h;obtain⟨h1,h2⟩:=h
  have hz:∀ (j:Nat) (x:Value) (c:CK),vs[j]?=some x->i.cells[j]?=some c->zeroCell x c=true:=by
   intro j x c hx hc
   exact h2 (x,c) (Obw (i:=j) (by
    rw[List.getElem?_zip_eq_some];exact⟨by simpa using hx,hc⟩))
  refine⟨_,heq,.of_get (by simpa[Value.cells] using h1) fun j l v hj hv=>?_,fun x hx=>?_,hz⟩
  ·simp only[Ob5,Obr]at hj
   obtain⟨c,hc,rfl⟩:=hj;exact Ha3 (hz j v c (by simpa[Value.cells] using hv) hc)
  ·obtain⟨j,hj⟩:=List.mem_iff_getElem?.1 hx
   have ar:j<i.cells.length:=by
    rw[<- h1];simpa[Value.cells] using (List.getElem?_eq_some_iff.1 hj).1
   exact Baq (hz j x _ (by simpa[Value.cells] using hj) (Obl ar))
 ·rename_i v c _ hz ze
  have h1:=Baq h;refine⟨v,hz,?_,fun x hx=>?_,fun j x c' hx hc=>?_⟩
  ·rw[ze,tC h1]
   simp only[Ob1,Pba,aG];exact⟨v,[],rfl,Ha3 h,rfl⟩
  ·rw[tC h1]at hx
   simp only[Obt]at hx;rw[hx];exact h1
  ·rw[tC h1]at hx
   rw[ze]at hc
   cases j with
   | zero =>
    simp only[Obn,Option.some.injEq]at hc;simp at hx;rw[<- hx,<- hc];exact h
   |succ j=>simp at hc
 ·cases h
theorem jY {t:TypeId}{info:TypeInfo}{z:Value}(h:P.info? t=some info)(hz:info.zero=some z):(zeroValue t).run P w=.ok z w:=by
 simp[zeroValue,typeInfo,h,hz]
theorem Nap (hR:R E.ntmps F σ ρ a w G)(hd:eG E.ntmps o)(hti:sG P E.ti){nv nb nr:Nat}{mv cL:Bool}(hf:Aal σ nb nr){e:TypeId}(ho:o.op=.alloc e){res:bI}
  (h:(nI E mv cL nv nb nr g o).eval σ=some res) (hs:aJ cf ρ g nv res.lets):fV P E F σ ρ a w g o Q res.upd:=by
 simp only[nI,ho,aA,Obg,tiR,aS,aH]at h;obtain⟨ti,h1,_,h2,h⟩:=h;split at h2
 ·rename_i hb
  obtain rfl:=tH hb;simp only[qE,aF,Option.some.injEq]at h;subst h;refine⟨fun hg=>?_,fun hg=>by simp[gOn]at hg⟩;obtain⟨info,u,f⟩:=aV (hti.ok _ _ h1);obtain⟨z,h3,h4,h5,-⟩:=f.zeros (σ:=σ) (ρ:=ρ) (G:=G) (w:=w);refine lK (v:=.pointer (some ⟨w.heap.size,0,none⟩)) (w':=pushB w z.cells e) ?_ ⟨_,hR.newBox hd hf.nb h4⟩;unfold execOp;simp only[ho];refine fA ?_;simp only[Instr.alloc,Sem.run_bind,jY f.info_ h3,Gax,Result.andThen_ok,Sem.run_pure]
 ·cases h2
theorem jQ {α:Type}{l:List α}{k:Nat}{r:List α}(h:k+r.length<=l.length):(setRange l k r).length=l.length:=by
 simp[setRange];omega
theorem gP {α:Type}{l:List α}{k:Nat}{r:List α}(h:k+r.length<=l.length)(j:Nat):(setRange l k r)[j]?=if k<=j/\j<k+r.length then r[j-k]? else l[j]?:=by
 unfold setRange;by_cases h1:j<k
 ·rw[Obs,Obx (by simp;omega),Pbq,if_pos h1,if_neg (by omega)]
 ·by_cases h2:j<k+r.length
  ·rw[if_pos ⟨by omega,h2⟩,Obs,Obz (by simp;omega),Obx (by simp;omega)]
   congr 1
   simp;omega
  ·rw[if_neg (by omega),Obz (by simp;omega),Pbk]
   congr 1
   simp;omega
theorem Kas {α:Type}{l:List α}{k:Nat}{v:α}{r:List α}(h:k+(v::r).length<=l.length):setRange (l.set k v) (k+1) r=setRange l k (v::r):=by
 simp only[Pbm]at h;apply Qby;intro j;rw[gP (by simp;omega),gP (by simp;omega)];by_cases h1:k+1<=j/\j<k+1+r.length
 ·rw[if_pos h1,if_pos (by simp;omega),show j-k=(j-(k+1))+1 by omega,Pbi]
 ·rw[if_neg h1,Qba]
  by_cases h2:k=j
  ·subst h2
   rw[if_pos rfl,if_pos (by omega),if_pos (by simp)];simp
  ·rw[if_neg h2,if_neg (by simp;omega)]
theorem Pa8 (off:Nat):∀ (vs:List Value) (k:Nat) (cells:Array Value),off+k+vs.length<=cells.size ->
  ((vs.zipIdx k).foldl (fun cs x=>cs.setIfInBounds (off+x.2) x.1) cells).toList=setRange cells.toList (off+k) vs
 |[],k,cells,h=>by simp[setRange]
 | v :: r, k, cells, h => by
  simp only[Pbm]at h;simp only[List.zipIdx_cons,Qbe];rw[Pa8 off r (k+1) _ (by simp;omega),Array.toList_setIfInBounds,<- Ob0,Kas (by simp;omega)]
theorem aG.setRange {ls ms:List aM}{us xs:List Value}(h:aG σ ρ G w ls us)(h':aG σ ρ G w ms xs){k:Nat}(hk:k+ms.length<=ls.length):aG σ ρ G w (setRange ls k ms) (setRange us k xs):=by
 have e1:=h.len;have e2:=h'.len;refine .of_get (by rw[jQ (by omega),jQ hk,e1]) fun i l v hi hv=>?_
 rw[gP hk]at hi;rw[gP (by omega)]at hv;rw[e2]at hv;split at hi
 ·rename_i hh
  rw[if_pos hh]at hv;obtain⟨v',h1,h2⟩:=h'.get hi;rw[h1]at hv;exact Option.some.inj hv▸h2
 ·rename_i hh
  rw[if_neg hh]at hv;obtain⟨v',h1,h2⟩:=h.get hi;rw[h1]at hv;exact Option.some.inj hv▸h2
theorem La9 {place:Nat->Option (Nat×Nat)}{cells:Array Value}{i off size:Nat}{v:Value}{rest:List (Nat×Value)}(hp:place i=some (off,size))(hs:v.cells.toList.length=size)(hb:off+size<=cells.size) :
  ∃ cells':Array Value,Instr.fill place cells ((i,v)::rest)=Instr.fill place cells' rest/\cells'.toList=setRange cells.toList off v.cells.toList:=by
 refine⟨v.cells.zipIdx.foldl (fun cs (x:Value×Nat)=>cs.setIfInBounds (off+x.2) x.1) cells,?_,?_⟩
 ·rw[Instr.fill,hp]
  dsimp only;have:v.cells.size=size:=by simpa using hs
  rw[if_neg];simp only[this];simp;omega
 ·have:=Pa8 off v.cells.toList 0 cells (by simpa[hs] using hb)
  rw[Pbb]at this;rw[<- this,<- Array.foldl_toList,Array.toList_zipIdx]
def Dag (σ:Nat->Option aN)(ρ:List D)(G:Gh)(w:World)(a:Act):List (Nat×Operand)->List (Nat×SV)->Prop
 |[],ps=>ps=[]
 |x::xs,ps=>∃ sv qs,ps=(x.1,sv)::qs/\bR σ ρ G w sv (a.eval x.2)/\Dag σ ρ G w a xs qs
theorem wY (hR:R E.ntmps F σ ρ a w G)(hg:gOn ρ g=true){ty:Nat->TypeId}:∀ {xs:List (Nat×Operand)} {ps:List (Nat×SV)},(Aay E g ty xs).eval σ=some ps ->
  Dag σ ρ G w a xs ps
 | [], ps, h => by
  simp only[Aay,aF,Option.some.injEq]at h;subst h;exact rfl
 | (i, x) :: xs, ps, h => by
  simp only[Aay,aA,Obg,aF,Option.some.injEq]at h;obtain⟨sv,h1,l,h2,rfl⟩:=h;exact⟨sv,l,rfl,fF hR hg h1,wY hR hg h2⟩
theorem wR {flds:List (Nat×Nat)}{place:Nat->Option (Nat×Nat)}(n5:∀ i off t f,flds[i]?=some (off,t)->E.ti t=some f->place i=some (off,f.size)) :
  ∀ {xs:List (Nat×Operand)} {ps:List (Nat×SV)},Dag σ ρ G w a xs ps->∀ {ls jt:List aM} {us:Array Value},aG σ ρ G w ls us.toList->oV flds E.ti ls ps=some jt ->
  ∃ cA,Instr.fill place us (xs.map fun x=>(x.1,a.eval x.2))=some cA/\aG σ ρ G w jt cA.toList
 | [], _, rfl, ls, jt, us, hl, h => by
  simp only[oV,Option.some.injEq]at h;subst h;exact⟨us,rfl,hl⟩
 | (i, x) :: xs, _, ⟨sv, ps, rfl, h1, hr⟩, ls, jt, us, hl, h => by
  unfold oV at h;split at h
  ·rename_i off t fX
   split at h
   ·rename_i f hf
    split at h
    ·rename_i vs kf
     cases hb:(Nat.beq vs.length f.size&&Nat.ble (off+f.size) ls.length) with
     |false=>rw[hb]at h;cases h
     | true =>
      rw[hb,cond_true]at h;simp only[Obh,Ob4,Pbn]at hb;have h2:=gQ kf h1;have hlen:=hl.len;obtain⟨us1,h3,h4⟩:=La9 (rest:=xs.map fun x=>(x.1,a.eval x.2)) (n5 _ _ _ _ fX hf) (by rw[h2.len];exact hb.1) (by rw[<- Qbk,hlen];exact hb.2);obtain⟨cA,h5,h6⟩:=wR n5 hr (us:=us1) (by rw[h4];exact hl.setRange h2 (by rw[hb.1];exact hb.2)) h;exact⟨cA,by rw[Ob1,h3];exact h5,h6⟩
    ·cases h
   ·cases h
  ·cases h
theorem yJ {α β:Type}(f:α->Sem β)(g:α->β):∀ (l:List α),(∀ x∈l,(f x).run P w=.ok (g x) w)->(l.mapM f).run P w=.ok (l.map g) w
 |[],_=>by simp
 | x :: l, h => by
  rw[List.mapM_cons,Sem.run_bind,h x (by simp)];simp only[Result.andThen_ok];rw[Sem.run_bind,yJ f g l fun y hy=>h y (by simp[hy])];simp
theorem wG {α β:Type}(f:α->Sem β)(g:α->β)(l:Array α)(h:∀ x∈l.toList,(f x).run P w=.ok (g x) w):(l.mapM f).run P w=.ok (l.map g) w:=by
 rw[Array.mapM_eq_mapM_toList,map_eq_pure_bind,Sem.run_bind,yJ f g _ h];simp only[Result.andThen_ok,Sem.run_pure];congr 1;apply Rbl;simp
theorem uB {α β:Type}(f:List β->α->Option (List β)):∀ (l:List α),l.foldl (fun acc x=>acc.bind fun r=>f r x) none=none
 |[]=>rfl
 |x::l=>by rw[Qbe];exact uB f l
theorem wP {α β:Type}(f:List β->α->Option (List β)):∀ (l:List α) (r0 r:List β),l.foldl (fun acc x=>acc.bind fun r=>f r x) (some r0)=some r->∀ x∈l,∃ r1 r2,f r1 x=some r2
 |[],_,_,_,x,hx=>by simp at hx
 | y :: l, r0, r, h, x, hx => by
  rw[Qbe,Obm]at h
  cases hf:f r0 y with
  |none=>rw[hf,uB]at h;cases h
  | some r1 =>
   rcases List.mem_cons.1 hx with rfl|hx
   ·exact⟨r0,r1,hf⟩
   ·rw[hf]at h
    exact wP f l r1 r h x hx
theorem Vaa {d:Nat}{t:TypeId}{l:List TypeId}(h:flat P d t=some l):∃ i,P.info? t=some i:=by
 cases d with
 |zero=>cases h
 | succ d =>
  unfold flat at h;unfold Program.underlying at h
  cases hi:P.info? t with
  |none=>rw[hi]at h;cases h
  |some i=>exact⟨i,rfl⟩
theorem Ra3 {d:Nat}{t:TypeId}{l:List TypeId}{fs:Array Field}(h:flat P (d+1) t=some l)(hu:P.underlying t=some (.struct fs)):∀ f∈fs.toList,∃ i,P.info? f.type=some i:=by
 unfold flat at h;rw[hu]at h;dsimp only at h;intro f hf;obtain⟨r1,r2,h1⟩:=wP _ _ _ _ h f hf
 cases hm:flat P d f.type with
 |none=>rw[hm]at h1;cases h1
 |some m=>exact Vaa hm
theorem bU.struct {t:TypeId}{i:TI}{info:TypeInfo}{u:TypeDesc}(f:bU P t i info u)(h:i.agg=true):∃ fs,u=.struct fs/\∀ fd∈fs.toList,∃ i,P.info? fd.type=some i:=by
 rw[f.agg]at h;have hc:=f.cells
 cases fX:flat P 12 t with
 |none=>rw[fX]at hc;cases hc
 | some l =>
  unfold Gai at h;split at h
  ·rename_i fs
   exact⟨fs,rfl,Ra3 fX f.und⟩
  ·unfold flat at fX
   rw[f.und]at fX;cases fX
  ·cases h
theorem Nao (hR:R E.ntmps F σ ρ a w G)(hd:eG E.ntmps o)(hti:sG P E.ti){nv nb nr:Nat}{mv cL:Bool}{t:TypeId}{parts:Array (Nat×Operand)}(ho:o.op=.build t parts){res:bI}
  (h:(nI E mv cL nv nb nr g o).eval σ=some res) (hs:aJ cf ρ g nv res.lets):fV P E F σ ρ a w g o Q res.upd:=by
 simp only[nI,ho,aA,Obg,tiR,aS,aH]at h;obtain⟨ti,h1,_,h2,ps,h3,h⟩:=h;split at h2
 ·rename_i k7
  obtain⟨info,u,f⟩:=aV (hti.ok _ _ h1);obtain⟨fs,rfl,hfs⟩:=f.struct k7;split at h
  ·rename_i ls qt
   refine dA hR hd h hs fun hg _=>?_
   obtain⟨z,h4,h5,-,-⟩:=f.zeros (σ:=σ) (ρ:=ρ) (G:=G) (w:=w)
   have n5:∀ (i off t':Nat) (f':TI),ti.flds[i]?=some (off,t')->E.ti t'=some f'->(fs.map fun fd=>(fd.offset,((P.info? fd.type).map (·.size)).getD 0))[i]?=some (off,f'.size):=by
    intro i off t' f' fX zu;obtain⟨fs',fd,e1,e2,e3,e4⟩:=Jad f fX;obtain rfl:fs=fs':=by injection e1
    obtain⟨hJ,u',ff⟩:=aV (hti.ok _ _ zu);rw[Array.getElem?_map,e2,Pbj,e3,e4,ff.info_];simp[ff.size]
   obtain⟨cA,h6,h7⟩:=wR n5 (wY hR hg h3) (us:=z.cells) h5 qt;refine⟨.agg cA,⟨cA.toList,by simp,h7⟩,?_⟩;unfold execOp;simp only[ho];refine fA ?_
   have hm:=wG (P:=P) (w:=w) (fun fd:Field=>(do pure (fd.offset,<- sizeOf fd.type):Sem (Nat×Nat))) (fun fd=>(fd.offset,((P.info? fd.type).map (·.size)).getD 0)) fs (fun fd hfd=>by
    obtain⟨i,hi⟩:=hfs fd hfd;simp only[Sem.run_bind,run_sizeOf hi,Result.andThen_ok,Sem.run_pure,hi,Pbj,Option.getD_some])
   unfold Instr.build;simp only[Sem.run_bind,jY f.info_ h4,Result.andThen_ok,run_underlying f.und];rw[hm];have e:(parts.map fun x=>(x.1,a.eval x.2)).toList=parts.toList.map fun x=>(x.1,a.eval x.2):=by simp
   simp only[Result.andThen_ok];rw[e,h6];rfl
  ·cases h
 ·cases h2
end
section
variable {P:Program} {E:Env} {F:bC} {σ:Nat->Option aN} {ρ:List D} {a:Act} {w w':World} {G:Gh} {g:Option (aI×Bool)} {o:Oper} {cf:Nat->List D->Option (List D)} {Q:Exit->Act->World->Prop} {next:Act->World->Prop}
theorem add_plain {b:Addr}(h:b.spot=none)(k:Nat):b.add k=⟨b.block,b.off+k,none⟩:=by
 cases b;simp only at h;subst h;unfold Addr.add;split<;>simp_all
theorem kU.write (h:kU F G w){B off:Nat}{vs:List Value}{ow:Ow}(ho:G.own B=ow)(hz:ow≠.frz/\ow≠.oth)
  (hb:∀ b,ow=.box b->B<F.w0.heap.size->F.own0 B=.box b->(F.rng b).1<=off/\off+vs.length<=(F.rng b).2):kU F G (w.setCells B off vs):=by
 obtain⟨e1,e2,e3⟩:=jX B vs off w;refine⟨by rw[e1];exact h.os,by rw[e2];exact h.tape,by rw[e3];exact h.output,by rw[setCells_size];exact h.size,fun b ar hf=>?_,fun b j ar hj=>?_,fun b ar=>?_⟩
 ·obtain⟨h1,h2⟩:=h.keep b ar hf
  have cn:b≠B:=by
   rintro rfl
   rw[ho]at h2;rw[<- h2]at hf
   rcases hf with hf|hf
   ·exact hz.1 hf
   ·exact hz.2 hf
  exact⟨by rw[dG B vs off w b cn];exact h1,h2⟩
 ·obtain⟨h1,c0,c1,e,fr,h2,h3,h4,h5⟩:=h.boxes b j ar hj
  refine⟨h1,c0,?_⟩;by_cases cn:b=B
  ·subst cn
   obtain⟨c',h6,h7,h8⟩:=yG b vs off w c1 e fr h3;refine⟨c',e,fr,h2,h6,by rw[h7];exact h4,fun k hk=>?_⟩;have gq:ow=.box j:=by rw[<- ho];exact h1
   obtain⟨h9,b9⟩:=hb j gq ar hj;rw[h8 k (by omega)];exact h5 k hk
  ·exact⟨c1,e,fr,h2,by rw[dG B vs off w b cn];exact h3,h4,h5⟩
 ·rw[setCells_size]at ar
  exact h.fresh b ar
theorem Fa5 (hR:R E.ntmps F σ ρ a w G)(hti:sG P E.ti){nv:Nat}{mv cL:Bool}{t:TypeId}{x y:Operand}(ho:o.op=.store t x y){ti:TI}(hi:E.ti t=some ti){b off:Nat}{ls:List aM}{sv:SV}
  (hx:gOn ρ g=true->aB σ ρ G w (.px b off) (a.eval x)) (hy:gOn ρ g=true->bR σ ρ G w sv (a.eval y)) (qt:iX ti.agg sv=some ls) {res:bI}
  (h:(Aas nv mv cL o g ti (.px b off) ls).eval σ=some res):fV P E F σ ρ a w g o Q res.upd:=by
 simp only[Aas,aA,aH,Obg,aO,Obm]at h;obtain⟨_,h1,h⟩:=h;split at h1
 ·rename_i oi
  simp only[Obh,Ob4,Qbm]at oi;obtain⟨hlen,qa⟩:=oi;split at h
  ·rename_i bs hk
   simp only[aA,aH,Obg]at h;obtain⟨_,h2,h⟩:=h;split at h2
   ·rename_i lp
    simp only[Obh,Pbn]at lp;obtain⟨⟨hle,xh⟩,ba⟩:=lp;obtain rfl:=tH xh;simp only[aF,Option.some.injEq]at h;subst h;refine⟨fun hg=>?_,fun hg=>by simp[gOn]at hg⟩;obtain⟨info,u,f⟩:=aV (hti.ok _ _ hi);have hl:=gQ qt (hy hg);have om:=hl.ones ba;have q7:=hl.len;have hpx:=hx hg;simp only[aB]at hpx;obtain⟨h3,h4,h5⟩:=hR.box hk;have h4:G.own (G.bx b).block=.box b:=by simpa using h4
    generalize kf:(a.eval y).cells.toList=vs at hl om q7
    have bc:∀ j,off<=j->j<off+ls.length->∃ v,w.cell? ⟨(G.bx b).block,(G.bx b).off+j,none⟩=some v/\w.frozen? ⟨(G.bx b).block,(G.bx b).off+j,none⟩=false:=by
     intro j hj1 jc;have hbj:bs[j]?=some bs[j]:=Obl (by omega);obtain⟨v,h6,h7,-⟩:=h5 j _ hbj;rw[add_plain h3]at h6 h7;exact⟨v,h6,h7⟩
    have bf:(execOp a.eval o).run P w=.ok .skip (w.setCells (G.bx b).block ((G.bx b).off+off) vs):=by
     unfold execOp;simp only[ho]
     have:=Bax (P:=P) (w:=w) f (b:=(G.bx b).block) (off:=(G.bx b).off+off) (v:=a.eval y) (by rw[kf];omega)
      (fun j hj=>by
       obtain⟨v,h6,-⟩:=bc (off+j) (by omega) (by omega);exact⟨v,by rw[Ob0];exact h6⟩)
      (fun j hj=>by
       obtain⟨v,-,h6⟩:=bc (off+j) (by omega) (by omega);rw[Ob0];exact h6) (by rw[kf];exact om)
     simp only[Instr.storeAt,Instr.sureAddr,Sem.run_bind,hpx.1,Sem.run_pure,Result.andThen_ok,add_plain h3,this,kf]
    refine Oax bf ⟨G,?_⟩;have cn:∀ b',G.own b'≠.box b->b'≠(G.bx b).block:=fun b' hb e=>hb (by rw[e];exact h4)
    have hkR:∀ r,upds σ [(kB b,aN.box false (setRange bs off ls))] (kR r)=σ (kR r):=fun r=>by
     refine dU _ _ _ fun c hc=>?_
     simp only[Obt,Prod.mk.injEq]at hc;exact dZ hc.1.symm
    have dt:Fr σ G w (upds σ [(kB b,aN.box false (setRange bs off ls))]) G (w.setCells (G.bx b).block ((G.bx b).off+off) vs):=by
     refine⟨fun b' hb ar=>⟨hb,dG _ _ _ _ _ (cn b' (by rw[hb];simp))⟩,fun r k _ hv=>?_,fun r k hk=>hk.same hkR,fun r k b' p _ _ hb=>⟨.inl hb,dG _ _ _ _ _ (cn b' (by rw[hb];simp))⟩,
      fun r k m _ hv=>⟨?_,fun b' p hb=>hb⟩,fun _ _=>rfl,fun _ _=>rfl,fun k hk=>dJ _ _ _ (.inl hk),fun _ _ _ _ _ _ _ hb=>hb⟩
     ·obtain⟨x',m,st,e,hs⟩:=hv
      exact⟨x',m,st,by rw[<- hkR];exact e,hs⟩
     ·obtain⟨x',e⟩:=hv
      exact⟨x',by rw[<- hkR];exact e⟩
    have gi:(setRange bs off ls).length=bs.length:=jQ hle;rw[qa];refine hR.upd _ dt hR.tmps hR.defers (hR.frame.write h4 (by simp) fun b' e ar qo=>?_) (fun t _=>rfl) (fun b' ro jt cF gl=>?_) (fun b' jt cF ar qo=>?_) (fun k c hk1 hk2=>?_)
    ·obtain rfl:b=b':=by injection e
     have:=hR.rng b bs hk ar qo;rw[this];dsimp only;omega
    ·refine⟨rfl,dG _ _ _ _ _ (cn _ ?_)⟩
     obtain⟨_,h6,_⟩:=hR.box cF;rw[h6];split
     ·simp
     ·intro e
      obtain rfl:b'=b:=by injection e
      exact gl _ (List.mem_singleton.2 rfl)
    ·simp only[Obt,Prod.mk.injEq,aN.box.injEq,true_and]at cF
     obtain⟨e,rfl⟩:=cF;obtain rfl:=zL e;rw[gi];exact hR.rng b' bs hk ar qo
    ·simp only[Obt,Prod.mk.injEq]at hk1
     obtain⟨rfl,rfl⟩:=hk1;refine⟨b,rfl,h3,by simpa using h4,fun j l hj=>?_⟩;rw[gP hle]at hj;rw[World.frozen?_setCells,add_plain h3];split at hj
     ·rename_i km
      obtain⟨v,h6,h7⟩:=hl.get hj;obtain⟨u',h8,h9⟩:=bc j km.1 km.2;refine⟨v,?_,h9,aB.mono dt l v h7⟩
      have:=World.cell?_setCells_in (G.bx b).block vs ((G.bx b).off+off) w (fun j' gq=>by
       obtain⟨v',b9,-⟩:=bc (off+j') (by omega) (by omega);rw[Ob0,b9];rfl) (j-off) (by omega)
      rw[show (G.bx b).off+off+(j-off)=(G.bx b).off+j by omega]at this;rw[this,<- h6,Obl]
     ·rename_i y9
      obtain⟨v,h6,h7,h8⟩:=h5 j l hj;rw[add_plain h3]at h6 h7;refine⟨v,?_,h7,aB.mono dt l v h8⟩;rw[World.cell?_setCells_out _ _ _ _ _ (fun _ _=>by dsimp only;omega)];exact h6
   ·cases h2
  ·cases h
 ·cases h1
end
theorem Rp.move {own own':Nat->Ow}{w w':World}{r r':Nat}{p:List Nat}{m:Nat}{v:Value}{d:D}(h:Rp own w r p m v d)
  (hz:∀ b,own b=.frz->b<w.heap.size->own' b=.frz/\w'.heap[b]?=w.heap[b]?):∀ (p':List Nat) (m':Nat),m'<=m ->
  (∀ b t,own b=.slc r (p++t)->own' b=(if t.length<m' then .slc r' (p'++t) else .frz)/\w'.heap[b]?=w.heap[b]?)->Rp own' w' r' p' m' v d:=by
 induction h with
 |sc h=>exact fun _ _ _ _=>.sc h
 |hole v h1=>exact fun _ _ _ _=>.hole v h1
 | fz h =>
  intro p' m' hm hs;obtain rfl:m'=0:=by omega
  exact .fz (h.mono' fun b hb ar=>hz b hb ar)
 | sl A a n c sz rs vs hn hc hA dm a7 bc b5 ih =>
  rename_i p m;intro p' m' hm hs
  have ar:∀ i row,rs[i]?=some row->i<rs.length:=fun i row hi=>by
   rcases Ob2 i rs.length with h|h
   ·exact h
   ·simp[List.getElem?_eq_none h]at hi
  have vt:∀ i row,rs[i]?=some row->A=some a:=fun i row hi=>by
   rcases hA with e|⟨e,e'⟩
   ·exact e
   ·have:=ar i row hi;omega
  cases m' with
  | zero =>
   refine .fz (.rows A a n c sz rs vs hn hc ?_ dm (fun i row hi j d hj=>?_) (fun i row hi j d hj=>?_))
   ·rcases hA with e|⟨e,e'⟩
    ·exact .inr e
    ·exact .inl (by omega)
   ·obtain⟨h1,h2⟩:=hs a.block [] (by simpa using (a7 (vt i row hi)).2.1)
    refine⟨by simpa using h1,?_⟩;exact (eQ (w:=w) (w':=w') (by rw[add_block];exact h2)).trans (bc i row hi j d hj)
   ·exact (ih i row hi j d hj [] 0 (Nat.zero_le _) (fun b t hb=>by
     have:=hs b ([i*sz+j]++t) (by rw[<- Obs];exact hb);simpa using this)).zero
  | succ m' =>
   refine .sl A a n c sz rs vs hn hc hA dm (fun e=>?_) (fun i row hi j d hj=>?_) (fun i row hi j d hj=>?_)
   ·obtain⟨h1,h2,h3⟩:=a7 e
    obtain⟨h4,h5⟩:=hs a.block [] (by simpa using h2);refine⟨h1,by simpa using h4,fun k hk=>?_⟩;obtain⟨u,hu,hf⟩:=h3 k hk;exact⟨u,(eQ (w:=w) (w':=w') (by rw[add_block];exact h5)).trans hu,(jJ (w:=w) (w':=w') (by rw[add_block];exact h5)).trans hf⟩
   ·obtain⟨h1,h2⟩:=hs a.block [] (by simpa using (a7 (vt i row hi)).2.1)
    exact (eQ (w:=w) (w':=w') (by rw[add_block];exact h2)).trans (bc i row hi j d hj)
   ·refine ih i row hi j d hj (p'++[i*sz+j]) m' (by omega) (fun b t hb=>?_)
    have:=hs b ([i*sz+j]++t) (by rw[<- Obs];exact hb);simp only[Obv,Pbw]at this;rw[<- Obs]at this;refine⟨?_,this.2⟩;rw[this.1];by_cases ht:t.length<m'
    ·rw[if_pos ht,if_pos (by omega)]
    ·rw[if_neg ht,if_neg (by omega)]
inductive Upd:List Nat->D->D->D->Prop
 |here (x y:D):Upd [] x y y
 | down (sz : Nat) (rs : List (List D)) (i j : Nat) (row : List D) (z z' y : D) (p : List Nat) (hi : rs[i]? = some row) (hj : row[j]? = some z)
   (h:Upd p z y z'):Upd ((i*sz+j)::p) (.rows sz rs) y (.rows sz (rs.set i (row.set j z')))
theorem Za3 {i j i' j' sz:Nat}(hj:j<sz)(gq:j'<sz)(h:i*sz+j=i'*sz+j'):i=i'/\j=j':=by
 have h1:(i*sz+j) / sz=i:=by
  rw[Nat.mul_comm,Nat.mul_add_div (by omega),Nat.div_eq_of_lt hj,Pbb]
 have h2:(i'*sz+j') / sz=i':=by
  rw[Nat.mul_comm,Nat.mul_add_div (by omega),Nat.div_eq_of_lt gq,Pbb]
 rw[h,h2]at h1;subst h1;exact⟨rfl,by omega⟩
theorem Rp.sl_inv {own:Nat->Ow}{w:World}{r:Nat}{p:List Nat}{m:Nat}{v:Value}{sz:Nat}{rs:List (List D)}(h:Rp own w r p (m+1) v (.rows sz rs)) :
  ∃ (A:Option Addr) (a:Addr) (n c:Nat) (vs:Nat->Nat->Value),v=.slice A n c/\rs.length=n/\n<=c/\(A=some a\/(A=none/\c=0))/\(∀ r∈rs,r.length=sz) /\
   (A=some a->a.spot=none/\own a.block=.slc r p/\∀ k,k<c*sz->∃ u,w.cell? (a.add k)=some u/\w.frozen? (a.add k)=false) /\
   (∀ i row,rs[i]?=some row->∀ j d,row[j]?=some d->w.cell? (a.add (i*sz+j))=some (vs i j)) /\
   (∀ i row,rs[i]?=some row->∀ j d,row[j]?=some d->Rp own w r (p++[i*sz+j]) m (vs i j) d):=by
 cases h with
 |sc h=>cases h
 |sl A a n c sz rs vs hn hc hA dm a7 bc b5=>exact⟨A,a,n,c,vs,rfl,hn,hc,hA,dm,a7,bc,b5⟩
theorem Rp.upd {own own':Nat->Ow}{w w':World}{r M':Nat}{full:List Nat}{y:D}{u:Value}
  (hz:∀ b,own b=.frz->b<w.heap.size->own' b=.frz/\w'.heap[b]?=w.heap[b]?)
  (hs:∀ b t,own b=.slc r t->¬ full <+: t->own' b=(if t.length<M' then .slc r t else .frz)/\w'.heap[b]?=w.heap[b]?)
  (hM:full.length<=M') (ga:Rp own' w' r full (M'-full.length) u y) :
  ∀ (p q:List Nat) (M:Nat) (v:Value) (x x':D),full=q++p->M'<=M->Rp own w r q (M-q.length) v x->wB own w r q v p u->Upd p x y x'->Rp own' w' r q (M'-q.length) v x'
 | [], q, M, v, x, x', hf, hMM, hx, hn, hu => by
  cases hu;simp only[wB]at hn;rw[Pbc]at hf;subst hf hn;exact ga
 | k :: p, q, M, v, x, x', hf, hMM, hx, hn, hu => by
  generalize hk:k::p=kp at hu
  cases hu with
  |here=>cases hk
  | down sz rs i j row z z' y p' hi hj hu =>
   obtain⟨rfl,rfl⟩:=List.cons.inj hk;have hlen:full.length=q.length+(p.length+1):=by rw[hf];simp
   obtain⟨m,hm⟩:∃ m,M-q.length=m+1:=⟨M-q.length-1,by omega⟩;obtain⟨m',ni⟩:∃ m',M'-q.length=m'+1:=⟨M'-q.length-1,by omega⟩;rw[hm]at hx;rw[ni];obtain⟨A,a,n,c,vs,rfl,h1,h2,h3,h4,h5,h6,h7⟩:=hx.sl_inv;have oh:i<rs.length:=(List.getElem?_eq_some_iff.1 hi).1
   have hA:A=some a:=by
    rcases h3 with e|⟨e,e'⟩
    ·exact e
    ·omega
   subst hA;obtain⟨h8,h9,b9⟩:=h5 rfl;obtain⟨a',n',c',u',e1,e2,e3,e4⟩:=hn;obtain⟨rfl,rfl,rfl⟩:a=a'/\n=n'/\c=c':=by injection e1 with a b c;exact⟨Option.some.inj a,b,c⟩
   have gm:=h6 i row hi j z hj;rw[gm]at e3;obtain rfl:=Option.some.inj e3
   have hq:¬ full <+: q:=by
    intro e;have:=e.length_le;omega
   obtain⟨fg,b8⟩:=hs _ _ h9 hq;rw[if_pos (by omega)]at fg;have ja:∀ k,w'.cell? (a.add k)=w.cell? (a.add k):=fun k=>eQ (w:=w) (w':=w') (by rw[add_block];exact b8)
   have oR:∀ k,w'.frozen? (a.add k)=w.frozen? (a.add k):=fun k=>jJ (w:=w) (w':=w') (by rw[add_block];exact b8)
   have b5:=Rp.upd hz hs hM ga p (q++[i*sz+j]) M (vs i j) z z' (by rw[hf];simp) hMM (by
    have:=h7 i row hi j z hj;rwa[show M-(q++[i*sz+j]).length=m by simp;omega]) e4 hu
   rw[show M'-(q++[i*sz+j]).length=m' by simp;omega]at b5;have jm:row.length=sz:=h4 row (Obw hi);have ar:j<sz:=by rw[<- jm];exact (List.getElem?_eq_some_iff.1 hj).1
   have lA:∀ i' eC,(rs.set i (row.set j z'))[i']?=some eC->∀ j' d,eC[j']?=some d->(i'=i/\j'=j/\d=z')\/(∃ row0,rs[i']?=some row0/\row0[j']?=some d/\¬ (i'=i/\j'=j)):=by
    intro i' eC fh j' d gq;rw[Qba]at fh;by_cases pt:i=i'
    ·subst pt
     rw[if_pos rfl,if_pos oh]at fh;obtain rfl:=Option.some.inj fh;rw[Qba]at gq;by_cases tg:j=j'
     ·subst tg
      rw[if_pos rfl,if_pos (by omega)]at gq;exact .inl ⟨rfl,rfl,(Option.some.inj gq).symm⟩
     ·rw[if_neg tg]at gq
      exact .inr ⟨row,hi,gq,fun e=>tg e.2.symm⟩
    ·rw[if_neg pt]at fh
     exact .inr ⟨eC,fh,gq,fun e=>pt e.1.symm⟩
   refine .sl _ a n c sz _ vs (by simpa using h1) h2 (.inl rfl) (fun eC hr=>?_) (fun _=>⟨h8,fg,fun k hk=>?_⟩) (fun i' eC fh j' d gq=>?_) (fun i' eC fh j' d gq=>?_)
   ·rcases Qbu hr with hr|rfl
    ·exact h4 _ hr
    ·simpa using jm
   ·rw[ja,oR]
    exact b9 k hk
   ·rw[ja]
    rcases lA i' eC fh j' d gq with ⟨rfl,rfl,rfl⟩|⟨row0,da,fk,-⟩
    ·exact gm
    ·exact h6 _ _ da _ _ fk
   ·rcases lA i' eC fh j' d gq with ⟨rfl,rfl,rfl⟩|⟨row0,da,fk,cn⟩
    ·exact b5
    ·refine (h7 _ _ da _ _ fk).move hz _ m' (by omega) fun b t hb=>?_
     have hnp:¬ full <+: q++[i'*sz+j']++t:=by
      intro e;rw[hf,Obs,List.prefix_append_right_inj]at e;have e':=(List.cons_prefix_cons.1 e).1
      have tW:j'<sz:=by
       have:=(List.getElem?_eq_some_iff.1 fk).1;rw[h4 row0 (Obw da)]at this;exact this
      obtain⟨k8,lv⟩:=Za3 tW ar e'.symm;exact cn ⟨k8,lv⟩
     obtain⟨gS,jv⟩:=hs b _ hb hnp;simp only[Obv,Pbw]at gS;refine⟨?_,jv⟩;rw[gS];by_cases ht:t.length<m'
     ·rw[if_pos ht,if_pos (by omega)]
     ·rw[if_neg ht,if_neg (by omega)]
theorem sJ:∀ (l:List Step) (n:Nat),l.foldl (fun s x=>s+x.n) n=n+bD l
 |[],n=>rfl
 | s :: l, n => by
  simp only[bD,Qbe];rw[sJ l (n+s.n),sJ l (0+s.n)];omega
theorem gV (s:Step)(l:List Step):bD (s::l)=s.n+bD l:=by
 show (s::l).foldl (fun s x=>s+x.n) 0=_
 rw[Qbe,sJ];omega
theorem dY:∀ (l m:List Step),bD (l++m)=bD l+bD m
 |[],m=>by simp[bD]
 |s::l,m=>by rw[Qbb,gV,gV,dY l m];omega
section
variable {ρ:List D} {g:Option (aI×Bool)} {cf:Nat->List D->Option (List D)}
theorem aJ.append:∀ {l m:List Step} {nv:Nat},aJ cf ρ g nv (l++m)->aJ cf ρ g nv l/\aJ cf ρ g (nv+bD l) m
 |[],m,nv,h=>⟨trivial,h⟩
 | s :: l, m, nv, h => by
  obtain⟨h1,h2⟩:=h;obtain⟨h3,h4⟩:=aJ.append h2;exact⟨⟨h1,h3⟩,by rw[gV,<- Ob0];exact h4⟩
theorem Nar {sz off n:Nat}{x i:D}{vs ds:List D}(h:(aY.set sz off n).run (x::i::vs)=some ds) :
  ∃ rs k iv row,x=.rows sz rs/\i=.int k iv/\0<=iv/\rs[iv.toNat]?=some row/\off+n<=row.length/\vs.length=n/\ds=[.rows sz (rs.set iv.toNat (row.take off++vs++row.drop (off+n)))]:=by
 cases x<;>cases i<;>simp only[aY.run]at h<;>first|cases h|skip
 rename_i nq rs k iv;split at h
 ·rename_i h1
  obtain⟨rfl,h1⟩:=h1;split at h
  ·rename_i row hr
   split at h
   ·rename_i h2
    simp only[Option.some.injEq]at h;exact⟨rs,k,iv,row,rfl,rfl,h1,hr,h2.1,h2.2,h.symm⟩
   ·cases h
  ·cases h
 ·cases h
theorem take_set {α:Type}{l:List α}{k:Nat}{x:α}(h:k<l.length):l.take k++[x]++l.drop (k+1)=l.set k x:=by
 apply Qby;intro j;rw[Qba];by_cases h1:j<k
 ·rw[Obs,Obx (by simp;omega),Pbq,if_pos h1,if_neg (by omega)]
 ·by_cases h2:k=j
  ·subst h2
   rw[if_pos rfl,if_pos h,Obs,Obz (by simp;omega)];simp[Nat.min_eq_left (Nat.le_of_lt h)]
  ·rw[if_neg h2,Obz (by simp;omega),Pbk]
   congr 1
   simp;omega
theorem yX (hg:gOn ρ g=true):∀ (q:List (aI×Nat×Nat)) (nv:Nat) (X y:aI),aJ cf ρ g nv (Iau nv X q y).1->Upd (aZ ρ q) (X.val ρ) (y.val ρ) ((Iau nv X q y).2.val ρ)
 |[],nv,X,y,_=>.here _ _
 | (i, sz, off) :: p, nv, X, y, h => by
  have y6:aZ ρ ((i,sz,off)::p)=(jS ρ i*sz+off)::aZ ρ p:=rfl;rw[y6]
  cases p with
  | nil =>
   simp only[Iau]at h ⊢;obtain⟨d,h1,h2⟩:=yV h.1 hg;simp only[Ob1,Pba]at h1;obtain⟨rs,k,iv,row,e1,e2,e3,e4,e5,e6,e7⟩:=Nar h1;simp only[List.cons.injEq,and_true]at e7;have hi:jS ρ i=iv.toNat:=by simp[jS,e2]
   rw[e1,hi,h2,e7,take_set (by omega)];exact .down sz rs iv.toNat off row _ _ _ _ e4 (Obl (by omega)) (.here _ _)
  | cons z p =>
   have cn:Iau nv X ((i,sz,off)::z::p) y =
     ([.prim (.row sz off [false]) [X,i] 1]++(Iau (nv+1) (.v nv) (z::p) y).1++[.prim (.set sz off 1) [X,i,(Iau (nv+1) (.v nv) (z::p) y).2] 1],.v (nv+1+bD (Iau (nv+1) (.v nv) (z::p) y).1)):=rfl
   rw[cn]at h ⊢;obtain⟨h1,h2⟩:=aJ.append h;obtain⟨h3,h4⟩:=aJ.append h1;obtain⟨d,h5,h6⟩:=yV h3.1 hg;have sE:bD [Step.prim (.row sz off [false]) [X,i] 1]=1:=rfl;rw[sE]at h4;rw[dY,sE,<- Ob0]at h2;have ih:=yX hg (z::p) (nv+1) (.v nv) y h4;obtain⟨d',h7,h8⟩:=yV h2.1 hg;simp only[Ob1,Pba]at h5 h7;obtain⟨rs,k,iv,row,e1,e2,e3,e4,e5,e6,e7⟩:=Nar h7;obtain⟨rs',k',zh,eC,f1,f2,f3,f4,f5,f6,f7⟩:=Tap h5;rw[e1]at f1;obtain rfl:rs=rs':=by injection f1
   rw[e2]at f2;obtain⟨rfl,rfl⟩:k=k'/\iv=zh:=by injection f2 with a b;exact⟨a,b⟩
   rw[e4]at f4;obtain rfl:=Option.some.inj f4;simp only[List.cons.injEq,and_true]at e7;have hi:jS ρ i=iv.toNat:=by simp[jS,e2]
   have hz:row[off]?=some ((aI.v nv).val ρ):=by
    rw[h6]
    have:((row.drop off).take 1)[0]?=some d:=by
     rw[show [false].length=1 from rfl]at f7;rw[<- f7];rfl
    rw[Pbq,if_pos (by omega),Pbk]at this;simpa using this
   rw[e1,hi,h8,e7,take_set (by omega)];exact .down sz rs iv.toNat off row _ _ _ _ e4 hz ih
end
section
variable {P:Program} {E:Env} {F:bC} {n:Nat} {σ:Nat->Option aN} {ρ:List D} {a:Act} {w w':World} {G G':Gh} {g:Option (aI×Bool)} {o:Oper} {cf:Nat->List D->Option (List D)} {Q:Exit->Act->World->Prop} {next:Act->World->Prop}
def Chg (σ:Nat->Option aN)(G:Gh)(w:World)(G':Gh)(w':World)(r:Nat)(c:aN):Prop :=
 (σ (kR r)=none/\∃ x m aE st,c=.root x m aE st) \/
 (∃ x m aE x' m',σ (kR r)=some (.root x m aE .live)/\c=.root x' m' (aE+1) .live) \/
 (∃ x m aE st,c=.root x m aE st/\st≠.live/\st≠.frozen) \/
 (∃ x m aE,σ (kR r)=some (.root x m aE .live)/\c=.root x m aE .frozen/\∀ b p,G.own b=.slc r p->G'.own b=.frz/\w'.heap[b]?=w.heap[b]?)
theorem Saz (u:List (Nat×aN))(σ:Nat->Option aN)(k:Nat)(h:∃ c,(k,c)∈u):∃ c,(k,c)∈u/\upds σ u k=some c:=by
 have h1:=dJ u σ k (.inr h);obtain⟨c,hc⟩:=Option.isSome_iff_exists.1 h1
 rcases nE u σ k c hc with h2|⟨h2,-⟩
 ·exact⟨c,h2,hc⟩
 ·obtain⟨c',ia⟩:=h
  exact absurd ia (h2 c')
theorem Fr.of {u:List (Nat×aN)}(xx:∀ b,G.own b=.frz->b<w.heap.size->G'.own b=.frz/\w'.heap[b]?=w.heap[b]?)
  (xo:∀ r b p,(∀ c,(kR r,c)∉u)->G.own b=.slc r p->G'.own b=.slc r p/\w'.heap[b]?=w.heap[b]?)
  (xd:∀ r c,(kR r,c)∈u->upds σ u (kR r)=some c->Chg σ G w G' w' r c)
  (nB:∀ r x m k,σ (kR r)=some (.root x m k .frozen)->∀ b p,G'.own b=.slc r p->G.own b=.slc r p)
  (rr:∀ r,(σ (kR r)).isSome->G'.hdr r=G.hdr r) (fv:∀ b,(σ (kB b)).isSome->G'.bx b=G.bx b):Fr σ G w (upds σ u) G' w':=by
 have lf:∀ r,(∀ c,(kR r,c)∉u)\/∃ c,(kR r,c)∈u/\upds σ u (kR r)=some c/\Chg σ G w G' w' r c:=by
  intro r;by_cases h:∃ c,(kR r,c)∈u
  ·obtain⟨c,h1,h2⟩:=Saz u σ (kR r) h
   exact .inr ⟨c,h1,h2,xd r c h1 h2⟩
  ·exact .inl fun c hc=>h ⟨c,hc⟩
 have dq:∀ r k,iG σ r k->kJ (upds σ u) r k->kJ σ r k:=by
  intro r k hk hv
  rcases lf r with h|⟨c,h1,h2,h3⟩
  ·obtain⟨x,m,st,e,hs⟩:=hv
   rw[dU u σ _ h]at e;exact⟨x,m,st,e,hs⟩
  ·obtain⟨x,m,st,e,hs⟩:=hv
   rw[h2]at e;obtain rfl:=Option.some.inj e;obtain⟨x0,m0,v0,st0,e0,wt⟩:=hk
   rcases h3 with ⟨h4,-⟩|⟨x1,m1,v1,x2,m2,h4,h5⟩|⟨x1,m1,v1,st1,h5,h6,h7⟩|⟨x1,m1,v1,h4,h5,-⟩
   ·rw[h4]at e0;cases e0
   ·rw[h4]at e0
    injection e0 with e0
    injection e0 with i1 i2 i3 i4
    injection h5 with j1 j2 j3 j4
    have:=wt (.inl i4.symm);omega
   ·injection h5 with j1 j2 j3 j4
    rw[j4]at hs
    rcases hs with hs|hs
    ·exact absurd hs h6
    ·exact absurd hs h7
   ·injection h5 with j1 j2 j3 j4
    exact⟨x1,m1,.live,by rw[h4,j3],.inl rfl⟩
 refine⟨xx,dq,fun r k hk=>?_,fun r k b p hv we hb=>?_,fun r k m hk hl=>?_,rr,fv,fun k hk=>dJ _ _ _ (.inl hk),nB⟩
 ·rcases lf r with h|⟨c,h1,h2,h3⟩
  ·obtain⟨x,m,aE,st,e,hs⟩:=hk
   exact⟨x,m,aE,st,by rw[dU u σ _ h];exact e,hs⟩
  ·obtain⟨x0,m0,v0,st0,e0,wt⟩:=hk
   rcases h3 with ⟨h4,-⟩|⟨x1,m1,v1,x2,m2,h4,h5⟩|⟨x1,m1,v1,st1,h5,h6,h7⟩|⟨x1,m1,v1,h4,h5,-⟩
   ·rw[h4]at e0;cases e0
   ·rw[h4]at e0
    injection e0 with e0
    injection e0 with i1 i2 i3 i4
    have:=wt (.inl i4.symm);exact⟨_,_,_,_,by rw[h2,h5],fun _=>by omega⟩
   ·exact⟨_,_,_,_,by rw[h2,h5],fun hs=>by rcases hs with hs|hs<;>contradiction⟩
   ·rw[h4]at e0
    injection e0 with e0
    injection e0 with i1 i2 i3 i4
    have:=wt (.inl i4.symm);exact⟨_,_,_,_,by rw[h2,h5],fun _=>by omega⟩
 ·rcases lf r with h|⟨c,h1,h2,h3⟩
  ·exact⟨.inl (xo r b p h hb).1,(xo r b p h hb).2⟩
  ·obtain⟨x,m,st,e,hs⟩:=hv
   obtain⟨x',m',sT,e',jf⟩:=we;rw[h2]at e';obtain rfl:=Option.some.inj e'
   rcases h3 with ⟨h4,-⟩|⟨x1,m1,v1,x2,m2,h4,h5⟩|⟨x1,m1,v1,st1,h5,h6,h7⟩|⟨x1,m1,v1,h4,h5,h6⟩
   ·rw[h4]at e;cases e
   ·rw[h4]at e
    injection e with e
    injection e with i1 i2 i3 i4
    injection h5 with j1 j2 j3 j4
    omega
   ·injection h5 with j1 j2 j3 j4
    rw[j4]at jf
    rcases jf with hs|hs
    ·exact absurd hs h6
    ·exact absurd hs h7
   ·exact⟨.inr (h6 b p hb).1,(h6 b p hb).2⟩
 ·rcases lf r with h|⟨c,h1,h2,h3⟩
  ·obtain⟨x,e⟩:=hl
   rw[dU u σ _ h]at e;exact⟨⟨x,e⟩,fun b p hb=>(xo r b p h hb).1⟩
  ·obtain⟨x,e⟩:=hl
   rw[h2]at e;obtain rfl:=Option.some.inj e;obtain⟨x0,m0,v0,st0,e0,wt⟩:=hk
   rcases h3 with ⟨h4,-⟩|⟨x1,m1,v1,x2,m2,h4,h5⟩|⟨x1,m1,v1,st1,h5,h6,h7⟩|⟨x1,m1,v1,h4,h5,-⟩
   ·rw[h4]at e0;cases e0
   ·rw[h4]at e0
    injection e0 with e0
    injection e0 with i1 i2 i3 i4
    injection h5 with j1 j2 j3 j4
    have:=wt (.inl i4.symm);omega
   ·injection h5 with j1 j2 j3 j4
    exact absurd j4.symm h6
   ·injection h5 with j1 j2 j3 j4
    cases j4
def kX (f:Nat->List Nat->Ow):Ow->Ow
 |.slc s p=>f s p
 |o=>o
theorem R.own (h:R E.ntmps F σ ρ a w G)(hd:eG E.ntmps o){sv:SV}{v:Value}{ur:List (Nat×aN)}{f:Nat->List Nat->Ow}{wr:Nat->Prop}
  (hu:∀ k c,(k,c)∈ur->∃ r,k=kR r)
  (a7:∀ b,b<w.heap.size->G'.own b=kX f (G.own b)) (wg:∀ b,w'.heap.size<=b->G'.own b=.frz)
  (qT:w'.os=w.os/\w'.tape=w.tape/\w'.output=w.output/\w.heap.size<=w'.heap.size)
  (uj:∀ b,w.heap.size<=b->G'.own b=.frz\/∃ r p,G'.own b=.slc r p/\σ (kR r)=none)
  (b8:∀ b,b<w.heap.size->¬ wr b->w'.heap[b]?=w.heap[b]?) (hwr:∀ b,wr b->∃ r p,G.own b=.slc r p/\∃ c,(kR r,c)∈ur)
  (xo:∀ b r p,G.own b=.slc r p->(∀ c,(kR r,c)∉ur)->f r p=.slc r p)
  (xd:∀ r c,(kR r,c)∈ur->upds σ (dE o g sv++ur) (kR r)=some c->Chg σ G w G' w' r c)
  (nB:∀ r x m k,σ (kR r)=some (.root x m k .frozen)->∀ s p q,f s p=.slc r q->s=r/\p=q)
  (rr:∀ r,(σ (kR r)).isSome->G'.hdr r=G.hdr r) (fv:G'.bx=G.bx)
  (dq:Fr σ G w (upds σ (dE o g sv++ur)) G' w'->gOn ρ g=true->bR (upds σ (dE o g sv++ur)) ρ G' w' sv v)
  (eA:Fr σ G w (upds σ (dE o g sv++ur)) G' w'->∀ r c,(kR r,c)∈ur->upds σ (dE o g sv++ur) (kR r)=some c->∃ x m aE st,c=.root x m aE st/\bK (upds σ (dE o g sv++ur)) ρ G' w' r x m st) :
  R E.ntmps F (upds σ (dE o g sv++ur)) ρ (a.put o.dst v) w' G':=by
 have kg:=Fah o g sv
 have km:∀ r c,(kR r,c)∈dE o g sv++ur->(kR r,c)∈ur:=by
  intro r c hc
  rcases List.mem_append.1 hc with hc|hc
  ·obtain⟨t,e⟩:=kg _ _ hc
   exact absurd e.symm gW
  ·exact hc
 have k9:∀ b r p,G.own b=.slc r p->b<w.heap.size:=fun b r p hb=>by
  rcases Ob2 b w.heap.size with h1|h1
  ·exact h1
  ·rw[h.frame.fresh b h1]at hb;cases hb
 have pr:∀ b,b<w.heap.size->(∀ r p,G.own b≠.slc r p)->G'.own b=G.own b/\w'.heap[b]?=w.heap[b]?:=fun b ar hb=>by
  refine⟨?_,b8 b ar fun hw=>?_⟩
  ·rw[a7 b ar]
   unfold kX;split
   ·rename_i s p e
    exact absurd e (hb s p)
   ·rfl
  ·obtain⟨r,p,e,-⟩:=hwr b hw
   exact hb r p e
 have dt:Fr σ G w (upds σ (dE o g sv++ur)) G' w':=by
  refine Fr.of (fun b hb ar=>?_) (fun r b p gl hb=>?_) (fun r c hc ia=>xd r c (km r c hc) ia) (fun r x m k hk b p hb=>?_) rr (fun b _=>by rw[fv])
  ·obtain⟨h1,h2⟩:=pr b ar (by rw[hb];simp)
   exact⟨h1.trans hb,h2⟩
  ·have ar:=k9 b r p hb
   have v7:∀ c,(kR r,c)∉ur:=fun c hc=>gl c (Obk _ hc)
   refine⟨by rw[a7 b ar,hb];exact xo b r p hb v7,b8 b ar fun hw=>?_⟩;obtain⟨r',p',e,c,hc⟩:=hwr b hw;rw[hb]at e
   injection e with e1 e2
   subst e1;exact v7 c hc
  ·rcases Ob2 b w.heap.size with ar|ar
   ·rw[a7 b ar]at hb
    cases e:G.own b with
    | slc s q =>
     rw[e]at hb;obtain⟨rfl,rfl⟩:=nB r x m k hk s q p hb;rfl
    |_=>rw[e]at hb;exact hb
   ·rcases uj b ar with e|⟨r',p',e,hn⟩
    ·rw[e]at hb;cases hb
    ·rw[e]at hb
     injection hb with e1 e2
     subst e1;rw[hn]at hk;cases hk
 refine h.upd _ dt (by rw[yS];exact h.tmps) (by rw[put_defers];exact h.defers) ?_ (fun t ht=>Ca0 ht) (fun b ro bs hb _=>?_) (fun b bs hb ar ho=>?_) (fun k c hk jd=>?_)
 ·obtain⟨e1,e2,e3,e4⟩:=qT
  refine⟨e1.trans h.frame.os,e2.trans h.frame.tape,e3.trans h.frame.output,by have:=h.frame.size;omega,fun b ar hf=>?_,fun b j ar hj=>?_,wg⟩
  ·obtain⟨h1,h2⟩:=h.frame.keep b ar hf
   obtain⟨h3,h4⟩:=pr b (by have:=h.frame.size;omega) (fun r p e=>by
    rw[e]at h2;rw[<- h2]at hf
    rcases hf with hf|hf<;>cases hf)
   exact⟨h4.trans h1,h3.trans h2⟩
  ·obtain⟨h1,c0,c1,e,fr,h2,h3,h4⟩:=h.frame.boxes b j ar hj
   obtain⟨h5,h6⟩:=pr b (by have:=h.frame.size;omega) (by rw[h1];simp);exact⟨h5.trans h1,c0,c1,e,fr,h2,h6.trans h3,h4⟩
 ·obtain⟨_,h2,h3⟩:=h.box hb
  rcases Ob2 (G.bx b).block w.heap.size with ar|ar
  ·exact pr _ ar (by rw[h2];split<;>simp)
  ·rw[h.frame.fresh _ ar]at h2
   split at h2<;>cases h2
 ·rcases List.mem_append.1 hb with hb|hb
  ·obtain⟨t,e⟩:=kg _ _ hb
   exact absurd e.symm kD
  ·obtain⟨r,e⟩:=hu _ _ hb
   exact absurd e dZ
 ·rcases List.mem_append.1 hk with hk|hk
  ·obtain⟨d,lq,rfl,rfl⟩:=vO hk
   refine⟨d,rfl,fun hg=>?_⟩;rw[lq,mF _ _ _ _ _ (hd d lq) h.tmps];exact dq dt hg
  ·obtain⟨r,rfl⟩:=hu _ _ hk
   obtain⟨x,m,aE,st,rfl,s9⟩:=eA dt r c hk jd;exact⟨r,rfl,by rw[jd];rfl,s9⟩
end
section
variable {P:Program} {E:Env} {F:bC} {n:Nat} {σ:Nat->Option aN} {ρ:List D} {a:Act} {w w':World} {G G':Gh} {g:Option (aI×Bool)} {o:Oper} {cf:Nat->List D->Option (List D)} {Q:Exit->Act->World->Prop} {next:Act->World->Prop}
inductive Fa0 (σ:Nat->Option aN) (ρ:List D) (G:Gh) (w:World) (pu:Put) (off:Nat) (v:Value) (x:aI):Prop
 |sc (h:Sc v (x.val ρ))
 |nil (z:Nat) (hx:x.val ρ=.rows z []) (hv:v=.slice none 0 0)
 |mv (r m aE:Nat) (hm:(off,r,m)∈pu.moves) (hr:σ (kR r)=some (.root x m aE .live)) (hv:v=G.hdr r) (hd:pu.depth<=m)
 |hole (r k m:Nat) (q:List (aI×Nat×Nat)) (hm:(off,r,q)∈pu.holes) (hl:vX σ r k m) (hq:q.length+1<=m) (fa:Rp G.own w r (aZ ρ q) (m-q.length) v (x.val ρ)) (hn:wB G.own w r [] (G.hdr r) (aZ ρ q) v) (hd:pu.depth<=m-q.length)
 |fz (hd:pu.depth=0) (h:Rd (fun b=>G.own b=.frz\/∃ r p,r∈pu.frz/\G.own b=.slc r p) w v (x.val ρ))
theorem Fa0.left {A B:Put}{off:Nat}{v:Value}{x:aI}(h:Fa0 σ ρ G w A off v x):Fa0 σ ρ G w ⟨A.xs++B.xs,A.moves++B.moves,A.holes++B.holes,A.frz++B.frz,min A.depth B.depth⟩ off v x:=by
 cases h with
 |sc h=>exact .sc h
 |nil z hx hv=>exact .nil z hx hv
 |mv r m aE hm hr hv hd=>exact .mv r m aE (Obi _ hm) hr hv (by dsimp only;omega)
 |hole r k m q hm hl hq fa hn hd=>exact .hole r k m q (Obi _ hm) hl hq fa hn (by dsimp only;omega)
 |fz hd h=>exact .fz (by dsimp only;omega) (h.mono fun b hb=>⟨hb.imp id fun ⟨r,p,h1,h2⟩=>⟨r,p,Obi _ h1,h2⟩,rfl⟩)
theorem Fa0.right {A B:Put}{off:Nat}{v:Value}{x:aI}(h:Fa0 σ ρ G w B off v x):Fa0 σ ρ G w ⟨A.xs++B.xs,A.moves++B.moves,A.holes++B.holes,A.frz++B.frz,min A.depth B.depth⟩ off v x:=by
 cases h with
 |sc h=>exact .sc h
 |nil z hx hv=>exact .nil z hx hv
 |mv r m aE hm hr hv hd=>exact .mv r m aE (Obk _ hm) hr hv (by dsimp only;omega)
 |hole r k m q hm hl hq fa hn hd=>exact .hole r k m q (Obk _ hm) hl hq fa hn (by dsimp only;omega)
 |fz hd h=>exact .fz (by dsimp only;omega) (h.mono fun b hb=>⟨hb.imp id fun ⟨r,p,h1,h2⟩=>⟨r,p,Obk _ h1,h2⟩,rfl⟩)
theorem Na0 (hR:R E.ntmps F σ ρ a w G){mv cL:Bool}{off:Nat}{l:aM}{pu:Put}(h:(Na1 mv cL off l).eval σ=some pu){v:Value}(hl:aB σ ρ G w l v) :
  ∃ x,pu.xs=[x]/\Fa0 σ ρ G w pu off v x/\(∀ z∈pu.moves,z.1=off/\∃ x aE,σ (kR z.2.1)=some (.root x z.2.2 aE .live))/\(∀ z∈pu.holes,z.1=off):=by
 unfold Na1 at h;split at h
 ·rename_i x
  simp only[aF,Option.some.injEq]at h;subst h;simp only[aB]at hl;exact⟨x,rfl,.sc hl,by simp,by simp⟩
 ·rename_i r
  simp only[aA,aO,Obm]at h;simp only[aB]at hl;split at h
  ·rename_i x m aE hk
   cases mv with
   | true =>
    simp only[cond_true,aF,Option.some.injEq]at h;subst h;refine⟨x,rfl,.mv r m aE (by simp) hk hl.1 (Oby _),fun z hz=>?_,by simp⟩;simp only[Obt]at hz;subst hz;exact⟨rfl,x,aE,hk⟩
   | false =>
    simp only[cond_false,aF,Option.some.injEq]at h;subst h;refine⟨x,rfl,.fz rfl ?_,by simp,by simp⟩;have:=hR.root hk;simp only[bK]at this;rw[<- hl.1]at this;exact this.rd.mono fun b hb=>⟨hb.imp id fun ⟨q,hq⟩=>⟨r,q,by simp,hq⟩,rfl⟩
  ·rename_i x m aE hk
   simp only[aF,Option.some.injEq]at h;subst h;refine⟨x,rfl,.fz rfl ?_,by simp,by simp⟩;have:=(hR.root hk).1;rw[<- hl.1]at this;exact this.mono fun b hb=>⟨.inl hb,rfl⟩
  ·cases h
 ·rename_i deps p nie x
  split at h
  ·rename_i z
   simp only[aF,Option.some.injEq]at h;subst h;refine⟨_,rfl,.nil z rfl ?_,by simp,by simp⟩;simp only[aB]at hl;exact (hl.2 (by simp)).2.1 trivial z rfl
  ·rename_i cn
   simp only[aA,Obg]at h;obtain⟨s,h1,h⟩:=h;have hs:=dH hR h1 hl
   have hx:s.x=x:=by
    unfold vC at h1;simp only[aA,Obg]at h1;obtain⟨ds,-,h3⟩:=h1;split at h3
    ·simp only[aF,Option.some.injEq]at h3;rw[<- h3]
    ·simp only[aA,aO,Obm]at h3
     split at h3
     ·simp only[aF,Option.some.injEq]at h3;rw[<- h3]
     ·cases h3
    ·simp only[aF,Option.some.injEq]at h3;rw[<- h3]
   have lP:∀ frz:List Nat,(∀ z∈s.deps,z.1∈frz)->Rd (fun b=>G.own b=.frz\/∃ r p,r∈frz/\G.own b=.slc r p) w v (x.val ρ):=by
    intro frz hz;have:=hs.rd;rw[hx]at this;exact this.mono fun b hb=>⟨hb.imp id fun ⟨r,k,p,h2,h3⟩=>⟨r,p,hz _ h2,h3⟩,rfl⟩
   split at h
   ·rename_i r k m q ho
    have a7:=hs.own;unfold rX at a7;rw[ho]at a7;obtain⟨h2,h3,h4,h5,h6⟩:=a7;rw[hx]at h5
    cases hb:(cL&&Nat.ble (q.length+1) m) with
    | true =>
     rw[hb]at h;simp only[cond_true,aF,Option.some.injEq]at h;subst h;simp only[Obh,Pbn]at hb;refine⟨x,rfl,.hole r k m q (by simp) h3 hb.2 h5 h6 (Oby _),by simp,by simp⟩
    | false =>
     rw[hb]at h;simp only[cond_false,aF,Option.some.injEq]at h;subst h;refine⟨x,rfl,.fz rfl (lP _ fun z hz=>?_),by simp,by simp⟩;rw[h2]at hz;simp only[Obt]at hz;subst hz;simp
   ·simp only[aF,Option.some.injEq]at h
    subst h;exact⟨x,rfl,.fz rfl (lP _ fun z hz=>Pbu hz),by simp,by simp⟩
 ·cases h
theorem qB (hR:R E.ntmps F σ ρ a w G){mv cL:Bool}:∀ {ls:List aM} {off:Nat} {pu:Put},(oN mv cL off ls).eval σ=some pu->∀ {vs:List Value},aG σ ρ G w ls vs ->
  pu.xs.length=ls.length/\(∀ j v x,vs[j]?=some v->pu.xs[j]?=some x->Fa0 σ ρ G w pu (off+j) v x) /\
  (∀ z∈pu.moves,off<=z.1/\z.1<off+ls.length/\∃ x aE,σ (kR z.2.1)=some (.root x z.2.2 aE .live))
 | [], off, pu, h, vs, hl => by
  simp only[oN,aF,Option.some.injEq]at h;subst h;exact⟨rfl,by simp,by simp⟩
 | l :: ls, off, pu, h, vs, hl => by
  simp only[oN,aA,Obg,aF,Option.some.injEq]at h;obtain⟨A,h1,B,h2,rfl⟩:=h;simp only[aG]at hl;obtain⟨u,us,rfl,h3,h4⟩:=hl;obtain⟨x,h5,h6,h7,-⟩:=Na0 hR h1 h3;obtain⟨h8,h9,b9⟩:=qB hR h2 h4;refine⟨by simp[h5,h8],fun j v y hv hy=>?_,fun z hz=>?_⟩
  ·rw[h5]at hy
   cases j with
   | zero =>
    simp only[Obn,Option.some.injEq,Qb7]at hv hy;subst hv hy;exact h6.left
   | succ j =>
    simp only[Pbi,Qb7]at hv hy;have:=(h9 j v y hv hy).right (A:=A);rwa[show off+1+j=off+(j+1) by omega]at this
  ·simp only[Pbm]
   rcases List.mem_append.1 hz with hz|hz
   ·obtain⟨e,da⟩:=h7 z hz
    exact⟨by omega,by omega,da⟩
   ·obtain⟨e1,e2,da⟩:=b9 z hz
    exact⟨by omega,by omega,da⟩
theorem fM:∀ {rs:List Nat} {fr:List (Nat×aN)},(dC rs).eval σ=some fr ->
  (∀ r∈rs,(∃ x m aE,σ (kR r)=some (.root x m aE .live)/\(kR r,aN.root x m aE .frozen)∈fr)\/∃ x m aE,σ (kR r)=some (.root x m aE .frozen)) /\
  (∀ k c,(k,c)∈fr->∃ r∈rs,∃ x m aE,k=kR r/\c=.root x m aE .frozen/\σ (kR r)=some (.root x m aE .live))
 | [], fr, h => by
  simp only[dC,aF,Option.some.injEq]at h;subst h;simp
 | r :: rs, fr, h => by
  simp only[dC,aA,aO,Obm]at h;split at h
  ·rename_i x m aE hk
   simp only[aA,Obg,aF,Option.some.injEq]at h;obtain⟨l,h1,rfl⟩:=h;obtain⟨h2,h3⟩:=fM h1;refine⟨fun s hs=>?_,fun k c hc=>?_⟩
   ·rcases List.mem_cons.1 hs with rfl|hs
    ·exact .inl ⟨x,m,aE,hk,Obu⟩
    ·rcases h2 s hs with ⟨x',m',v',h4,h5⟩|h4
     ·exact .inl ⟨x',m',v',h4,Obq _ h5⟩
     ·exact .inr h4
   ·rcases List.mem_cons.1 hc with hc|hc
    ·obtain⟨rfl,rfl⟩:=Prod.mk.inj hc
     exact⟨r,Obu,x,m,aE,rfl,rfl,hk⟩
    ·obtain⟨s,hs,h4⟩:=h3 k c hc
     exact⟨s,Obq _ hs,h4⟩
  ·rename_i x m aE hk
   obtain⟨h2,h3⟩:=fM h;refine⟨fun s hs=>?_,fun k c hc=>?_⟩
   ·rcases List.mem_cons.1 hs with rfl|hs
    ·exact .inr ⟨x,m,aE,hk⟩
    ·exact h2 s hs
   ·obtain⟨s,hs,h4⟩:=h3 k c hc
    exact⟨s,Obq _ hs,h4⟩
  ·cases h
end
theorem kS {l:List Nat}{n:Nat}:has l n=true↔n∈l:=by
 unfold has;simp only[List.any_eq_true,Ob4];constructor
 ·rintro⟨x,h,rfl⟩;exact h
 ·exact fun h=>⟨n,h,rfl⟩
theorem xE {l:List Nat}{n:Nat}:has l n=false↔n∉l:=by
 rw[<- kS];simp
theorem qJ:∀ {l:List (Nat×Nat×Nat)},distinct (l.map (·.2.1))=true->∀ z∈l,l.find? (fun y=>Nat.beq y.2.1 z.2.1)=some z
 |[],_,z,hz=>by simp at hz
 | y :: l, h, z, hz => by
  simp only[Ob1,distinct,Obh,Ob6]at h;rw[List.find?_cons]
  rcases List.mem_cons.1 hz with rfl|hz
  ·have:Nat.beq z.2.1 z.2.1=true:=by simp
   rw[this]
  ·have:Nat.beq y.2.1 z.2.1=false:=by
    cases e:Nat.beq y.2.1 z.2.1 with
    |false=>rfl
    | true =>
     simp only[Ob4]at e;have h1:=xE.1 h.1;rw[e]at h1;exact absurd (Pbu (f:=fun x:Nat×Nat×Nat=>x.2.1) hz) h1
   rw[this];exact qJ h.2 z hz
theorem Ea8 {l:List (Nat×Nat×Nat)}{s:Nat}(h:s∉l.map (·.2.1)):l.find? (fun y=>Nat.beq y.2.1 s)=none:=by
 rw[List.find?_eq_none];intro x hx;simp only[Ob4];intro e;exact h (e▸Pbu (f:=fun x:Nat×Nat×Nat=>x.2.1) hx)
section
variable {P:Program} {E:Env} {F:bC} {n:Nat} {σ:Nat->Option aN} {ρ:List D} {a:Act} {w w':World} {G G':Gh} {g:Option (aI×Bool)} {o:Oper} {cf:Nat->List D->Option (List D)} {Q:Exit->Act->World->Prop} {next:Act->World->Prop}
theorem Rd.nil {ok:Nat->Prop}{z:Nat}:Rd ok w (.slice none 0 0) (.rows z []) :=
 .rows none ⟨0,0,none⟩ 0 0 _ [] (fun _ _=>undef) rfl (Oby _) (.inl rfl) (by simp) (by simp) (by simp)
theorem Rp.nil {own:Nat->Ow}{r:Nat}{p:List Nat}{m z:Nat}:Rp own w r p m (.slice none 0 0) (.rows z []):=by
 cases m with
 |zero=>exact .fz Rd.nil
 |succ m=>exact .sl none ⟨0,0,none⟩ 0 0 _ [] (fun _ _=>undef) rfl (Oby _) (.inr ⟨rfl,rfl⟩) (by simp) (by simp) (by simp) (by simp)
theorem Fa0.rp (hR:R E.ntmps F σ ρ a w G){pu:Put}{off:Nat}{v:Value}{x:aI}(h:Fa0 σ ρ G w pu off v x){own':Nat->Ow}{R:Nat}{path:List Nat}{m1:Nat}(hd:m1<=pu.depth)
  (hz:∀ b,G.own b=.frz->b<w.heap.size->own' b=.frz/\w'.heap[b]?=w.heap[b]?)
  (hmv:∀ s m,(off,s,m)∈pu.moves->∀ b t,G.own b=.slc s t->own' b=(if t.length<m1 then .slc R (path++t) else .frz)/\w'.heap[b]?=w.heap[b]?)
  (y5:∀ s q,(off,s,q)∈pu.holes->∀ b t,G.own b=.slc s (aZ ρ q++t)->own' b=(if t.length<m1 then .slc R (path++t) else .frz)/\w'.heap[b]?=w.heap[b]?)
  (lP:∀ s∈pu.frz,∀ b p,G.own b=.slc s p->own' b=.frz/\w'.heap[b]?=w.heap[b]?):Rp own' w' R path m1 v (x.val ρ):=by
 cases h with
 |sc h=>exact .sc h
 |nil z hx hv=>rw[hx,hv];exact Rp.nil
 | mv r m aE hm hr hv lq =>
  have:=hR.root hr;simp only[bK]at this;rw[hv];exact this.move hz path m1 (by omega) fun b t hb=>hmv r m hm b t (by simpa using hb)
 |hole r k m q hm hl hq fa hn lq=>exact fa.move hz path m1 (by omega) fun b t hb=>y5 r q hm b t hb
 | fz lq h =>
  obtain rfl:m1=0:=by omega
  refine .fz (h.mono' fun b hb ar=>?_)
  rcases hb with hb|⟨r,p,h1,h2⟩
  ·exact hz b hb ar
  ·exact lP r h1 b p h2
def vQ (R M:Nat)(p:List Nat):Ow:=if p.length<M then .slc R p else .frz
def jP (pu:Put)(r m':Nat)(pv:List Nat)(base:Nat)(s:Nat)(p:List Nat):Ow :=
 bif has pu.frz s then .frz else match pu.moves.find? (fun y=>Nat.beq y.2.1 s) with
  |some z=>vQ r m' ((pv++[base+z.1])++p)
  |none=>if s=r then vQ r m' p else .slc s p
theorem lN {B o:Nat}{vs:List Value}{b:Addr}(hb:b.block=B->b.spot=none)(hex:∀ j,j<vs.length->(w.cell? ⟨B,o+j,none⟩).isSome=true){u:Value}(hc:w.cell? b=some u) :
  ∃ u',(w.setCells B o vs).cell? b=some u':=by
 by_cases km:b.block=B/\o<=b.off/\b.off<o+vs.length
 ·obtain⟨h1,h2,h3⟩:=km
  have:=World.cell?_setCells_in B vs o w hex (b.off-o) (by omega);have hs:=hb h1;rw[show o+(b.off-o)=b.off by omega]at this;have cF:b=⟨B,b.off,none⟩:=by cases b;simp only at h1 hs;subst h1 hs;rfl
  exact⟨vs[b.off-o]'(by omega),(congrArg (fun x=>(w.setCells B o vs).cell? x) cF).trans this⟩
 ·rw[World.cell?_setCells_out B vs o w b fun e1 e2=>by
   rcases Ob2 b.off o with h|h
   ·exact .inl h
   ·refine .inr ?_
    rcases Ob2 b.off (o+vs.length) with h'|h'
    ·exact absurd ⟨e1,h,h'⟩ km
    ·exact h']
  exact⟨u,hc⟩
theorem Fa6 (hR:R E.ntmps F σ ρ a w G)(hti:sG P E.ti){nv:Nat}{mv cL:Bool}{t:TypeId}{x y:Operand}(ho:o.op=.store t x y){ti:TI}(hi:E.ti t=some ti){l:aM}{sz:Nat}{i:aI}{off:Nat}{ls:List aM}{sv:SV}
  (hx:gOn ρ g=true->aB σ ρ G w (.pe l sz i off) (a.eval x)) (hy:gOn ρ g=true->bR σ ρ G w sv (a.eval y)) (qt:iX ti.agg sv=some ls) {res:bI}
  (h:(Aas nv mv cL o g ti (.pe l sz i off) ls).eval σ=some res) (ba:aJ cf ρ g nv res.lets):fV P E F σ ρ a w g o Q res.upd:=by
 simp only[Aas,aA,aH,Obg,aO,Obm]at h;obtain⟨_,h1,_,h2,s,h3,h⟩:=h;split at h1
 case isFalse=>cases h1
 rename_i oi;simp only[Obh,Ob4,Qbm]at oi;obtain⟨hlen,qa⟩:=oi;split at h2
 case isFalse=>cases h2
 rename_i xh;obtain rfl:=tH xh;split at h
 case h_2=>cases h
 rename_i r k m q a7;simp only[aA,aH,Obg,aO,Obm]at h;obtain⟨_,h4,h⟩:=h;split at h4
 case isFalse=>cases h4
 rename_i hqm;simp only[Pbn]at hqm;split at h
 case h_2=>cases h
 rename_i X m0 aE hk;simp only[aA,aH,Obg]at h;obtain⟨pu,h5,fr,h6,_,h7,h⟩:=h;split at h7
 case isFalse=>cases h7
 rename_i rv;simp only[Obh,Ob6,Qbq,Qb4]at rv;obtain⟨⟨⟨⟨dt,hmr⟩,y5⟩,mz⟩,hmf⟩:=rv;simp only[aF,Option.some.injEq]at h;subst h;refine⟨fun hg=>?_,fun hg=>by simp[gOn]at hg⟩;obtain⟨info,u,f⟩:=aV (hti.ok _ _ hi);have hl:=gQ qt (hy hg);obtain⟨n5,lg,hmvs⟩:=qB hR h5 hl;obtain⟨tB,sr⟩:=fM h6;have hpe:=hx hg;simp only[aB]at hpe;obtain⟨c,n,cap,ik,iv,hp1,hp2,hp3,hp4,hp5⟩:=hpe;have gi:=dH hR h3 hp1;have mC:=gi.own;unfold rX at mC;rw[a7]at mC;obtain⟨-,⟨X0,lR⟩,-,fa,kd⟩:=mC;rw[hk]at lR
 obtain⟨rfl,rfl,rfl⟩:X=X0/\m0=m/\aE=k:=by
  injection lR with e;injection e with e1 e2 e3 e4;exact⟨e1,e2,e3⟩
 have eA:=hR.root hk;simp only[bK]at eA;obtain⟨d1,gp,qi⟩:=yV ba.1 hg;have lj:aJ cf ρ none (nv+1) (Iau (nv+1) X q (.v nv)).1:=ba.2;have mw:=yX hg q (nv+1) X (.v nv) lj;simp only[Qbb,Pbp,Ob1]at gp;obtain⟨rs,ik',zh,row,e1,e2,e3,e4,e5,e6,e7⟩:=Nar gp;rw[hp2]at e2;obtain⟨rfl,rfl⟩:ik=ik'/\iv=zh:=by injection e2 with a b;exact⟨a,b⟩
 simp only[List.cons.injEq,and_true]at e7;simp only[Ob7]at e6;rw[e1]at fa;have ub:(aZ ρ q).length=q.length:=by simp[aZ]
 generalize y6:aZ ρ q=pv at mw fa kd ub;obtain⟨md,hmd⟩:∃ md,m0-q.length=md+1:=⟨m0-q.length-1,by omega⟩;rw[hmd]at fa;obtain⟨A,c',n',gE,vs0,i1,i2,i3,i4,i5,i6,i7,i8⟩:=fa.sl_inv;obtain⟨rfl,rfl,rfl⟩:A=some c/\n'=n/\gE=cap:=by injection i1 with a b c;exact⟨a.symm,b.symm,c.symm⟩
 have hcc:c'=c:=by
  rcases i4 with i4|⟨i4,-⟩
  ·exact (Option.some.inj i4).symm
  ·cases i4
 subst hcc;obtain⟨gC,ov,cG⟩:=i6 rfl;have gR:row.length=sz:=i5 row (Obw e4);generalize kf:(a.eval y).cells.toList=vs at hl lg;have hvl:vs.length=ls.length:=hl.len
 have gm:∀ j,j<vs.length->∃ u,w.cell? ⟨c'.block,c'.off+(iv.toNat*sz+off)+j,none⟩=some u/\w.frozen? ⟨c'.block,c'.off+(iv.toNat*sz+off)+j,none⟩=false:=by
  intro j hj
  have jd:iv.toNat*sz+off+j<gE*sz:=by
   have h1:(iv.toNat+1)*sz<=gE*sz:=Pb0 _ (by omega);rw[Pb7]at h1;omega
  have:=cG _ jd;rw[add_plain gC]at this;rw[Ob0];exact this
 have bf:(execOp a.eval o).run P w=.ok .skip (w.setCells c'.block (c'.off+(iv.toNat*sz+off)) vs):=by
  unfold execOp;simp only[ho]
  have:=Bax (P:=P) (w:=w) f (b:=c'.block) (off:=c'.off+(iv.toNat*sz+off)) (v:=a.eval y) (by rw[kf];omega)
   (fun j hj=>by
    obtain⟨v,h6,-⟩:=gm j (by omega);exact⟨v,h6⟩)
   (fun j hj=>by
    obtain⟨v,-,h6⟩:=gm j (by omega)
    exact h6) (by
    rw[kf];intro v hv;obtain⟨j,hj⟩:=List.mem_iff_getElem?.1 hv;have l7:j<pu.xs.length:=by rw[n5,<- hvl];exact (List.getElem?_eq_some_iff.1 hj).1
    cases lg j v _ hj (Obl l7) with
    |sc h=>exact h.one
    |nil z _ h=>rw[h];rfl
    | mv r m aE hm hr hv hd =>
     have:=hR.root hr;simp only[bK]at this;rw[hv];exact this.one
    |hole r k m q hm hl hq fa hn hd=>exact fa.one
    |fz _ h=>exact h.one)
  simp only[Instr.storeAt,Instr.sureAddr,Sem.run_bind,hp5,Sem.run_pure,Result.andThen_ok,add_plain gC,this,kf]
 generalize ni:min m0 (q.length+1+pu.depth)=m';generalize u5:w.setCells c'.block (c'.off+(iv.toNat*sz+off)) vs=w' at bf;have b8:∀ b,b≠c'.block->w'.heap[b]?=w.heap[b]?:=fun b hb=>by rw[<- u5];exact dG _ _ _ _ _ hb
 refine Oax bf ⟨{ G with own:=fun b=>kX (jP pu r m' pv (iv.toNat*sz)) (G.own b) },?_⟩;rw[qa]
 have td:∀ s,s∈pu.frz->∀ p,jP pu r m' pv (iv.toNat*sz) s p=.frz:=fun s hs p=>by
  unfold jP;rw[kS.2 hs,cond_true]
 have hrm:r∉pu.moves.map (·.2.1):=by
  intro hh;obtain⟨z,hz,e⟩:=List.mem_map.1 hh;have:=hmr z hz;simp[e]at this
 have hrF:∀ p,jP pu r m' pv (iv.toNat*sz) r p=vQ r m' p:=fun p=>by
  unfold jP;rw[dt,cond_false,Ea8 hrm];simp
 have hmF:∀ z∈pu.moves,∀ p,jP pu r m' pv (iv.toNat*sz) z.2.1 p=vQ r m' ((pv++[iv.toNat*sz+z.1])++p):=fun z hz p=>by
  unfold jP
  have:has pu.frz z.2.1=false:=by
   have:=hmf z hz;simpa using this
  rw[this,cond_false,qJ mz z hz]
 have pB:∀ b,G.own b=.frz->b<w.heap.size->kX (jP pu r m' pv (iv.toNat*sz)) (G.own b)=.frz/\w'.heap[b]?=w.heap[b]?:=fun b hb ar=>by
  refine⟨by rw[hb];rfl,b8 b fun e=>?_⟩;rw[e,ov]at hb;cases hb
 have cn:∀ b s p,G.own b=.slc s p->s≠r->b≠c'.block:=fun b s p hb hs e=>by
  rw[e,ov]at hb
  injection hb with e1 e2
  exact hs e1.symm
 have te:∀ s∈pu.frz,s≠r:=fun s hs e=>by
  have:=xE.1 dt;exact this (e▸hs)
 have a2n:∀ z∈pu.moves,z.2.1≠r:=fun z hz e=>hrm (e▸Pbu (f:=fun x:Nat×Nat×Nat=>x.2.1) hz)
 have dh:∀ {s:Nat} {c:aN},(kR s,c)∈(kR r,aN.root (Iau (nv+1) X q (.v nv)).2 m' (aE+1) .live)::(pu.moves.map fun z=>(kR z.2.1,aN.root (.c .hole) 0 0 .gone))++fr ->
   (s=r/\c=.root (Iau (nv+1) X q (.v nv)).2 m' (aE+1) .live)\/(∃ z∈pu.moves,s=z.2.1/\c=.root (.c .hole) 0 0 .gone) \/
   (s∈pu.frz/\∃ x m v,c=.root x m v .frozen/\σ (kR s)=some (.root x m v .live)):=by
  intro s c hc
  rcases List.mem_append.1 hc with hc|hc
  ·rcases List.mem_cons.1 hc with hc|hc
   ·obtain⟨e1,e2⟩:=Prod.mk.inj hc
    exact .inl ⟨dW e1,e2⟩
   ·obtain⟨z,hz,e⟩:=List.mem_map.1 hc
    obtain⟨e1,e2⟩:=Prod.mk.inj e;exact .inr (.inl ⟨z,hz,(dW e1).symm,e2.symm⟩)
  ·obtain⟨s',jf,x',nu,v',e1,e2,e3⟩:=sr _ _ hc
   obtain rfl:=dW e1;exact .inr (.inr ⟨jf,x',nu,v',e2,e3⟩)
 have hdu:dE o none .dead=[]:=by unfold dE;rw[qa]
 have gr:=hR.own (o:=o) (g:=none) (fun d e=>by rw[qa]at e;cases e) (sv:=.dead) (v:=undef) (w':=w')
  (G':={ G with own:=fun b=>kX (jP pu r m' pv (iv.toNat*sz)) (G.own b) }) (wr:=fun b=>b=c'.block)
  (ur:=(kR r,aN.root (Iau (nv+1) X q (.v nv)).2 m' (aE+1) .live)::(pu.moves.map fun z=>(kR z.2.1,aN.root (.c .hole) 0 0 .gone))++fr)
  (f:=jP pu r m' pv (iv.toNat*sz)) ?_ (fun b _=>rfl) ?_ ?_ ?_ (fun b _ hb=>b8 b hb) ?_ ?_ ?_ ?_ (fun _ _=>rfl) rfl (fun _ _=>trivial) ?_
 ·rw[hdu,Pbp,qa]at gr
  exact gr
 ·intro k c hc
  rcases List.mem_append.1 hc with hc|hc
  ·rcases List.mem_cons.1 hc with hc|hc
   ·exact⟨r,(Prod.mk.inj hc).1⟩
   ·obtain⟨z,hz,e⟩:=List.mem_map.1 hc
    exact⟨z.2.1,(Prod.mk.inj e).1.symm⟩
  ·obtain⟨s',-,-,-,-,e1,-⟩:=sr _ _ hc
   exact⟨s',e1⟩
 ·intro b hb
  rw[<- u5,setCells_size]at hb;show kX _ (G.own b)=.frz
  rw[hR.frame.fresh b hb];rfl
 ·obtain⟨j1,j2,j3⟩:=jX c'.block vs (c'.off+(iv.toNat*sz+off)) w
  rw[<- u5];exact⟨j1,j2,j3,by rw[setCells_size];exact Oby _⟩
 ·intro b hb
  refine .inl ?_;show kX _ (G.own b)=.frz
  rw[hR.frame.fresh b hb];rfl
 ·rintro b rfl
  exact⟨r,pv,ov,_,Obi _ Obu⟩
 ·intro b s p hb gl
  unfold jP
  have h1:has pu.frz s=false:=by
   rw[xE];intro hs
   rcases tB s hs with ⟨x',nu,v',-,h8⟩|⟨x',nu,v',h8⟩
   ·exact gl _ (Obk _ h8)
   ·exact (hR.root h8).2 b p hb
  have h2:s∉pu.moves.map (·.2.1):=by
   intro hh;obtain⟨z,hz,e⟩:=List.mem_map.1 hh;refine gl (.root (.c .hole) 0 0 .gone) (Obi _ (Obq _ (List.mem_map.2 ⟨z,hz,?_⟩)));rw[e]
  have h3:s≠r:=fun e=>gl (.root (Iau (nv+1) X q (.v nv)).2 m' (aE+1) .live) (Obi _ (by rw[e];exact Obu))
  rw[h1,cond_false,Ea8 h2];simp[h3]
 ·intro s c hc _
  rcases dh hc with ⟨rfl,rfl⟩|⟨z,hz,rfl,rfl⟩|⟨hs,x',nu,v',rfl,h8⟩
  ·exact .inr (.inl ⟨_,_,_,_,_,hk,rfl⟩)
  ·exact .inr (.inr (.inl ⟨_,_,_,_,rfl,by simp,by simp⟩))
  ·refine .inr (.inr (.inr ⟨x',nu,v',h8,rfl,fun b p hb=>⟨?_,b8 b (cn b s p hb (te s hs))⟩⟩))
   show kX _ (G.own b)=.frz
   rw[hb];exact td s hs p
 ·intro r0 x0 m1 k0 lP s p q' hF
  unfold jP at hF
  cases hh:has pu.frz s with
  |true=>rw[hh,cond_true]at hF;cases hF
  | false =>
   rw[hh,cond_false]at hF
   have xT:r0≠r:=by
    rintro rfl
    rw[hk]at lP
    injection lP with e;injection e with _ _ _ e;cases e
   split at hF
   ·unfold vQ at hF
    split at hF
    ·injection hF with j1 j2;exact absurd j1.symm xT
    ·cases hF
   ·split at hF
    ·unfold vQ at hF
     split at hF
     ·injection hF with j1 j2;exact absurd j1.symm xT
     ·cases hF
    ·injection hF with j1 j2;exact⟨j1,j2⟩
 ·intro hfr' s c hc _
  rcases dh hc with ⟨rfl,rfl⟩|⟨z,hz,rfl,rfl⟩|⟨hs,x',nu,v',rfl,h8⟩
  ·refine⟨_,_,_,_,rfl,?_⟩
   simp only[bK];obtain⟨m1,nn⟩:∃ m1,m'-q.length=m1+1:=⟨m'-q.length-1,by omega⟩
   have p8:∀ i' eC,(rs.set iv.toNat (row.take off++pu.xs.map (·.val ρ)++row.drop (off+ti.size)))[i']?=some eC->∀ j' d,eC[j']?=some d ->
     (i'=iv.toNat/\off<=j'/\j'<off+ls.length/\∃ x,pu.xs[j'-off]?=some x/\d=x.val ρ)\/(∃ row0,rs[i']?=some row0/\row0[j']?=some d/\¬ (i'=iv.toNat/\off<=j'/\j'<off+ls.length)):=by
    intro i' eC fh j' d gq
    have hsr:row.take off++pu.xs.map (·.val ρ)++row.drop (off+ti.size)=setRange row off (pu.xs.map (·.val ρ)):=by
     unfold setRange;rw[Ob7,e6]
    rw[hsr,Qba]at fh;by_cases pt:iv.toNat=i'
    ·subst pt
     rw[if_pos rfl,if_pos (List.getElem?_eq_some_iff.1 e4).1]at fh;obtain rfl:=Option.some.inj fh;rw[gP (by rw[Ob7];omega),Ob7]at gq;split at gq
     ·rename_i km
      rw[Ob5,Obr]at gq;obtain⟨x,nF,nh⟩:=gq;exact .inl ⟨rfl,km.1,by omega,x,nF,nh.symm⟩
     ·rename_i y9
      exact .inr ⟨row,e4,gq,fun e=>y9 ⟨e.2.1,by omega⟩⟩
    ·rw[if_neg pt]at fh
     exact .inr ⟨eC,fh,gq,fun e=>pt e.1.symm⟩
   have ga:Rp (fun b=>kX (jP pu s m' pv (iv.toNat*sz)) (G.own b)) w' s pv (m'-q.length) (.slice (some c') n' gE) ((aI.v nv).val ρ):=by
    rw[qi,e7,nn];refine .sl _ c' n' gE sz _ (fun i' j'=>if i'=iv.toNat/\off<=j'/\j'<off+ls.length then vs.getD (j'-off) undef else vs0 i' j') (by simpa using i2) i3 (.inl rfl) (fun eC hr=>?_) (fun _=>⟨gC,?_,fun k hk=>?_⟩) (fun i' eC fh j' d gq=>?_) (fun i' eC fh j' d gq=>?_)
    ·rcases Qbu hr with hr|rfl
     ·exact i5 _ hr
     ·simp;omega
    ·show kX _ (G.own c'.block)=_
     rw[ov];show jP pu s m' pv (iv.toNat*sz) s pv=_
     rw[hrF,vQ,if_pos (by omega)]
    ·obtain⟨u0,hu0,wi⟩:=cG k hk
     rw[<- u5,World.frozen?_setCells];obtain⟨u',hu'⟩:=lN (B:=c'.block) (o:=c'.off+(iv.toNat*sz+off)) (vs:=vs) (b:=c'.add k) (fun _=>by rw[add_plain gC]) (fun j hj=>by obtain⟨u1,h9,-⟩:=gm j hj;rw[h9];rfl) hu0;exact⟨u',hu',wi⟩
    ·rcases p8 i' eC fh j' d gq with ⟨rfl,h9,b9,x0,da,fk⟩|⟨row0,h9,b9,da⟩
     ·rw[if_pos ⟨rfl,h9,b9⟩,<- u5,add_plain gC]
      have:=World.cell?_setCells_in c'.block vs (c'.off+(iv.toNat*sz+off)) w (fun j hj=>by obtain⟨u1,h9,-⟩:=gm j hj;rw[h9];rfl) (j'-off) (by omega);rw[show c'.off+(iv.toNat*sz+off)+(j'-off)=c'.off+(iv.toNat*sz+j') by omega]at this;rw[this,Obo,Obl (by omega)];rfl
     ·rw[if_neg da,<- u5,World.cell?_setCells_out _ _ _ _ _ (fun _ _=>?_)]
      ·exact i7 _ _ h9 _ _ b9
      ·rw[add_plain gC]
       dsimp only
       have tW:j'<sz:=by
        have:=(List.getElem?_eq_some_iff.1 b9).1;rw[i5 row0 (Obw h9)]at this;exact this
       by_cases pt:i'=iv.toNat
       ·subst pt
        have:¬ (off<=j'/\j'<off+ls.length):=fun e=>da ⟨rfl,e⟩
        omega
       ·rcases Nat.lt_or_gt_of_ne pt with ar|hgt
        ·refine .inl ?_
         have:=Pb0 sz (show i'+1<=iv.toNat by omega);rw[Pb7]at this;omega
        ·refine .inr ?_
         have:=Pb0 sz (show iv.toNat+1<=i' by omega);rw[Pb7]at this;omega
    ·rcases p8 i' eC fh j' d gq with ⟨rfl,h9,b9,x0,da,fk⟩|⟨row0,h9,b9,da⟩
     ·rw[if_pos ⟨rfl,h9,b9⟩,fk]
      have hv:vs[j'-off]?=some (vs.getD (j'-off) undef):=by
       rw[Obo,Obl (by omega)];rfl
      have q9:=lg (j'-off) _ _ hv da;rw[show off+(j'-off)=j' by omega]at q9;refine q9.rp hR (by omega) pB (fun s' m2 yc b t hb=>⟨?_,b8 b (cn b s' t hb (a2n _ yc))⟩) (fun s' q' je=>by rw[y5]at je;simp at je) (fun s' jf b p hb=>⟨?_,b8 b (cn b s' p hb (te s' jf))⟩)
      ·show kX _ (G.own b)=_
       rw[hb];show jP pu s m' pv (iv.toNat*sz) s' t=_
       rw[hmF (j',s',m2) yc,vQ];simp only[Obv,Pbw];by_cases ht:t.length<m1
       ·rw[if_pos ht,if_pos (by omega)]
       ·rw[if_neg ht,if_neg (by omega)]
      ·show kX _ (G.own b)=_
       rw[hb];exact td s' jf p
     ·rw[if_neg da]
      refine (i8 _ _ h9 _ _ b9).move pB _ m1 (by omega) fun b t hb=>⟨?_,b8 b fun e=>?_⟩
      ·show kX _ (G.own b)=_
       rw[hb];show jP pu s m' pv (iv.toNat*sz) s _=_
       rw[hrF,vQ];simp only[Obv,Pbw];by_cases ht:t.length<m1
       ·rw[if_pos ht,if_pos (by omega)]
       ·rw[if_neg ht,if_neg (by omega)]
      ·rw[e,ov]at hb
       injection hb with _ e2
       have:=congrArg List.length e2;simp at this
   have:=Rp.upd (own':=fun b=>kX (jP pu s m' pv (iv.toNat*sz)) (G.own b)) (w':=w') (r:=s) (M':=m') (full:=pv) pB (fun b t hb ht=>⟨?_,b8 b fun e=>?_⟩) (by omega) (by rw[ub];exact ga) pv [] m0 (G.hdr s) _ _ rfl (by omega) (by simpa using eA) kd mw
   ·simpa using this
   ·show kX _ (G.own b)=_
    rw[hb];exact hrF t
   ·rw[e,ov]at hb
    injection hb with _ e2
    exact ht (e2▸List.prefix_rfl)
  ·exact⟨_,_,_,_,rfl,trivial⟩
  ·refine⟨x',nu,v',.frozen,rfl,?_,fun b p hb=>?_⟩
   ·have:=hR.root h8
    simp only[bK]at this;refine this.rd.mono' fun b hb ar=>?_
    rcases hb with hb|⟨p,hb⟩
    ·exact pB b hb ar
    ·refine⟨?_,b8 b (cn b s p hb (te s hs))⟩
     show kX _ (G.own b)=_
     rw[hb];exact td s hs p
   ·have cF:kX (jP pu r m' pv (iv.toNat*sz)) (G.own b)=.slc s p:=hb
    cases e:G.own b with
    | slc s' p' =>
     rw[e]at cF;have fe:jP pu r m' pv (iv.toNat*sz) s' p'=.slc s p:=cF;by_cases jf:s'∈pu.frz
     ·rw[td s' jf]at fe;cases fe
     ·unfold jP at fe
      rw[xE.2 jf,cond_false]at fe;have hsr:=te s hs;split at fe
      ·unfold vQ at fe
       split at fe
       ·injection fe with j1 j2;exact hsr j1.symm
       ·cases fe
      ·split at fe
       ·unfold vQ at fe
        split at fe
        ·injection fe with j1 j2;exact hsr j1.symm
        ·cases fe
       ·injection fe with j1 j2;exact jf (j1▸hs)
    |_=>rw[e]at cF;cases cF
end
theorem mX:∀ (sz n:Nat) (l:List D),l.length=n*sz->∀ i row,(chunk sz n l)[i]?=some row->i<n/\row.length=sz/\∀ j d,row[j]?=some d->l[i*sz+j]?=some d
 |sz,0,l,_,i,row,h=>by simp[chunk]at h
 | sz, n + 1, l, hl, i, row, h => by
  simp only[chunk]at h;rw[Pb7,Nat.one_mul]at hl
  cases i with
  | zero =>
   simp only[Obn,Option.some.injEq]at h;subst h;refine⟨by omega,by simp;omega,fun j d hj=>?_⟩;rw[Pbq]at hj;split at hj
   ·simpa using hj
   ·cases hj
  | succ i =>
   simp only[Pbi]at h;obtain⟨h1,h2,h3⟩:=mX sz n (l.drop sz) (by simp;omega) i row h;refine⟨by omega,h2,fun j d hj=>?_⟩;have:=h3 j d hj;rw[Pbk]at this;rw[<- this];congr 1;rw[Pb7];omega
theorem Faq:∀ (sz n:Nat) (l:List D),(chunk sz n l).length=n
 |_,0,_=>rfl
 |sz,n+1,l=>by simp[chunk,Faq sz n]
theorem Ca8 {α:Type}(l:List α):∀ n,(Xa4 l n).length=n*l.length
 |0=>by simp[Xa4]
 |n+1=>by rw[Xa4,Obv,Ca8 l n,Pb7];omega
theorem Pam {α:Type}(l:List α)(h:0<l.length):∀ n j,j<n*l.length->(Xa4 l n)[j]?=l[j % l.length]?
 |0,j,hj=>by simp at hj
 | n + 1, j, hj => by
  rw[Xa4];by_cases h1:j<l.length
  ·rw[Obx h1,Nat.mod_eq_of_lt h1]
  ·rw[Obz (by omega),Pam l h n (j-l.length) (by rw[Pb7]at hj;omega)]
   congr 1;rw[Nat.mod_eq_sub_mod (by omega:j ≥ l.length)]
section
variable {P:Program} {E:Env} {F:bC} {n:Nat} {σ:Nat->Option aN} {ρ:List D} {a:Act} {w w':World} {G G':Gh} {g:Option (aI×Bool)} {o:Oper} {cf:Nat->List D->Option (List D)} {Q:Exit->Act->World->Prop} {next:Act->World->Prop}
theorem Ba9 {ti:TI}{len:Nat}{place:Nat->Option (Nat×Nat)}(n5:∀ i,i<len->place i=some (i*ti.size,ti.size)) :
  ∀ {xs:List (Nat×Operand)} {ps:List (Nat×SV)},Dag σ ρ G w a xs ps->∀ {ls jt:List aM} {us:Array Value},ls.length=len*ti.size->aG σ ρ G w ls us.toList->zW ti len ls ps=some jt ->
  ∃ cA,Instr.fill place us (xs.map fun x=>(x.1,a.eval x.2))=some cA/\aG σ ρ G w jt cA.toList/\jt.length=len*ti.size
 | [], _, rfl, ls, jt, us, hn, hl, h => by
  simp only[zW,Option.some.injEq]at h;subst h;exact⟨us,rfl,hl,hn⟩
 | (i, x) :: xs, _, ⟨sv, ps, rfl, h1, hr⟩, ls, jt, us, hn, hl, h => by
  unfold zW at h;split at h
  ·rename_i vs kf
   cases hb:(Nat.beq vs.length ti.size&&Nat.blt i len) with
   |false=>rw[hb]at h;cases h
   | true =>
    rw[hb,cond_true]at h;simp only[Obh,Ob4,Nat.blt_eq]at hb;have h2:=gQ kf h1;have hlen:=hl.len
    have hle:i*ti.size+ti.size<=ls.length:=by
     have:=Pb0 ti.size (show i+1<=len by omega);rw[Pb7,Nat.one_mul]at this;omega
    obtain⟨us1,h3,h4⟩:=La9 (rest:=xs.map fun x=>(x.1,a.eval x.2)) (n5 i hb.2) (by rw[h2.len];exact hb.1) (by rw[<- Qbk,hlen];exact hle);obtain⟨cA,h5,h6,h7⟩:=Ba9 n5 hr (us:=us1) (ls:=setRange ls (i*ti.size) vs) (by rw[jQ (by rw[hb.1];exact hle)];exact hn) (by rw[h4];exact hl.setRange h2 (by rw[hb.1];exact hle)) h;exact⟨cA,by rw[Ob1,h3];exact h5,h6,h7⟩
  ·cases h
def mkF (pu:Put)(nr m':Nat)(s:Nat)(p:List Nat):Ow :=
 bif has pu.frz s then .frz else match pu.moves.find? (fun y=>Nat.beq y.2.1 s) with
  |some z=>vQ nr m' ([z.1]++p)
  |none=>.slc s p
theorem Za0 (z:Array Value)(hz:0<z.size)(N j:Nat)(hj:j<N):((Array.range N).map (fun i=>z[i % z.size]!))[j]?=z[j % z.size]?:=by
 rw[Array.getElem?_map,Array.getElem?_range];rw[if_pos hj];simp only[Pbj];have ar:j % z.size<z.size:=Nat.mod_lt _ hz;rw[getElem!_pos z (j % z.size) ar,Pbd ar]
theorem Ma5 {t:TypeId}{i:TI}{info:TypeInfo}{u:TypeDesc}(f:bU P t i info u)(hs:0<i.size){z:Value}(hz:aG σ ρ G w (i.cells.map eY) z.cells.toList)(len:Nat) :
  aG σ ρ G w (Xa4 (i.cells.map eY) len) ((Array.range (len*i.size)).map (fun j=>z.cells[j % z.cells.size]!)).toList:=by
 have ju:(i.cells.map eY).length=i.size:=by rw[Ob7,f.len]
 have wA:z.cells.size=i.size:=by rw[<- Qbk,hz.len,ju]
 refine .of_get (by rw[Ca8,ju];simp) fun j l v hj hv=>?_
 have ar:j<len*i.size:=by
  have:=(List.getElem?_eq_some_iff.1 hj).1;rwa[Ca8,ju]at this
 rw[Pam _ (by omega) _ _ (by rw[ju];exact ar),ju]at hj;rw[Pbv,Za0 _ (by omega) _ _ ar,wA]at hv;obtain⟨v',h1,h2⟩:=hz.get hj;rw[Pbv,hv]at h1;exact Option.some.inj h1▸h2
theorem rJ (hR:R E.ntmps F σ ρ a w G)(hd:eG E.ntmps o)(hti:sG P E.ti){nv nb nr:Nat}{mv cL:Bool}(hf:σ (kR nr)=none){t:TypeId}{len:Nat}{parts:Array (Nat×Operand)}(ho:o.op=.buildSlice t len parts){res:bI}
  (h:(nI E mv cL nv nb nr g o).eval σ=some res) (ba:aJ cf ρ g nv res.lets):fV P E F σ ρ a w g o Q res.upd:=by
 simp only[nI,ho,aA,Obg,tiR,aS,aH]at h;obtain⟨st,h1,e,h2,ti,h3,ps,h4,_,h5,h⟩:=h;split at h5
 case isFalse=>cases h5
 rename_i hb5;simp only[Obh,Pbn,Nat.blt_eq]at hb5;obtain⟨⟨hsz1,a43⟩,yk⟩:=hb5;obtain⟨info,u,f⟩:=aV (hti.ok _ _ h1);obtain rfl:=nR f h2;obtain⟨hJ,u',f'⟩:=aV (hti.ok _ _ h3);split at h
 case h_2=>cases h
 rename_i ls qt;simp only[aA,Obg,aH]at h;obtain⟨pu,h6,_,h7,fr,h8,_,h9,h⟩:=h;split at h7
 case isFalse=>cases h7
 rename_i rv;split at h9
 case isFalse=>cases h9
 rename_i hb9;simp only[Obh,Ob6,Qbq,Qb4]at hb9;obtain⟨⟨mz,hmf⟩,y5⟩:=hb9;obtain⟨tB,sr⟩:=fM h8
 have main:gOn ρ g=true->∃ cA:Array Value,(execOp a.eval o).run P w=.ok (.value (.slice (some ⟨w.heap.size,0,none⟩) len len)) (pushB w cA e)/\aG σ ρ G w ls cA.toList/\ls.length=len*ti.size:=by
  intro hg;obtain⟨z,qe,pD,-,-⟩:=f'.zeros (σ:=σ) (ρ:=ρ) (G:=G) (w:=w);have hz3:=Ma5 f' a43 pD len;have ju:(ti.cells.map eY).length=ti.size:=by rw[Ob7,f'.len]
  obtain⟨cA,fX,hl,q7⟩:=Ba9 (place:=fun i=>some (i*ti.size,ti.size)) (fun i _=>rfl) (wY hR hg h4) (ls:=Xa4 (ti.cells.map eY) len) (by rw[Ca8,ju]) hz3 qt;refine⟨cA,?_,hl,q7⟩
  ·unfold execOp
   simp only[ho];refine fA ?_;unfold Instr.buildSlice;simp only[Sem.run_bind,run_underlying f.und,Result.andThen_ok,f'.sizeOf]
   have hle:¬ len*ti.size>2 ^ 24:=by
    have:(2:Nat) ^ 24=16777216:=by decide
    omega
   rw[if_neg hle];have e1:(parts.map fun x=>(x.1,a.eval x.2)).toList=parts.toList.map fun x=>(x.1,a.eval x.2):=by simp
   by_cases h0:len*ti.size=0
   ·have wv:Instr.fill (fun i=>some (i*ti.size,ti.size)) ((Array.range (len*ti.size)).map (fun j=>(#[]:Array Value)[j % (#[]:Array Value).size]!)) (parts.map fun x=>(x.1,a.eval x.2)).toList=some cA:=by
     rw[e1,<- fX];congr 1;rw[h0];simp
    simp only[Sem.run_bind,Sem.run_pure,Result.andThen_ok,h0,if_true]at wv ⊢;rw[wv];simp[newRow,pushB]
   ·simp only[Sem.run_bind,if_neg h0,jY f'.info_ qe,Result.andThen_ok,Sem.run_pure]
    rw[e1,fX];simp[newRow,pushB]
 have lB:∀ cA:Array Value,aG σ ρ G w ls cA.toList->pu.xs.length=ls.length/\(∀ j v x,cA.toList[j]?=some v->pu.xs[j]?=some x->Fa0 σ ρ G w pu (0+j) v x):=fun cA hl=>by
  obtain⟨h1,h2,-⟩:=qB hR h6 hl;exact⟨h1,h2⟩
 cases hgg:noG g with
 | false =>
  rw[hgg,cond_false]at h;rw[hgg,Bool.false_or]at rv;simp only[Obh,Qb4]at rv;obtain⟨⟨hm0,-⟩,wi⟩:=rv;simp only[qE,aF,Option.some.injEq]at h;subst h;simp only[Caf,Pbc];refine⟨fun hg=>?_,fun hg=>Ebl hR hd hg⟩;obtain⟨cA,bf,hl,q7⟩:=main hg;obtain⟨n5,lg⟩:=lB cA hl;obtain⟨d,gp,qi⟩:=fC ba hg;refine lK bf ⟨G,?_⟩
  have gr:=hR.own hd (g:=g) (sv:=.one (.sn [] .no false (.v nv))) (v:=.slice (some ⟨w.heap.size,0,none⟩) len len) (w':=pushB w cA e) (G':=G) (ur:=[]) (f:=fun s p=>.slc s p) (wr:=fun _=>False)
   (by simp) (fun b _=>by cases hb:G.own b<;>rfl) (fun b hb=>hR.frame.fresh b (by rw[jR]at hb;omega)) ⟨rfl,rfl,rfl,by rw[jR];omega⟩ (fun b hb=>.inl (hR.frame.fresh b hb))
   (fun b ar _=>jZ (by omega)) (fun _ h=>h.elim) (fun _ _ _ _ _=>rfl) (by simp) (fun _ _ _ _ _ s p q h=>by injection h with h1 h2;exact⟨h1,h2⟩) (fun _ _=>rfl) rfl (fun dt _=>?_) (by simp)
  ·rw[Pbc]at gr
   exact gr
  ·simp only[bR,aB]
   refine⟨⟨rfl,by simp⟩,fun _=>⟨?_,by simp,trivial⟩⟩;simp only[aY.run]at gp;split at gp
   case isFalse=>cases gp
   rename_i qu;simp only[Option.some.injEq,List.cons.injEq,and_true]at gp;rw[qi,<- gp];refine .rows _ ⟨w.heap.size,0,none⟩ len len ti.size _ (fun i j=>cA.toList.getD (i*ti.size+j) undef) (Faq _ _ _) (Oby _) (.inr rfl) (fun row hr=>?_) (fun i row hi j d hj=>?_) (fun i row hi j d hj=>?_)
   ·obtain⟨i,hi⟩:=List.mem_iff_getElem?.1 hr
    exact (mX _ _ _ qu i row hi).2.1
   ·obtain⟨b9,da,fk⟩:=mX _ _ _ qu i row hi
    have gS:=(List.getElem?_eq_some_iff.1 (fk j d hj)).1;refine⟨.inl (hR.frame.fresh _ (Oby _)),?_⟩;rw[lZ];have jv:i*ti.size+j<cA.toList.length:=by rw[hl.len,<- n5];simpa using gS
    rw[Obo,Obl jv,<- Pbv,Obl jv];rfl
   ·obtain⟨b9,da,fk⟩:=mX _ _ _ qu i row hi
    have gS:=fk j d hj;rw[Ob5,Obr]at gS;obtain⟨x,nF,rfl⟩:=gS;have jv:i*ti.size+j<cA.toList.length:=by rw[hl.len,<- n5];exact (List.getElem?_eq_some_iff.1 nF).1
    have hv:cA.toList[i*ti.size+j]?=some (cA.toList.getD (i*ti.size+j) undef):=by
     rw[Obo,Obl jv];rfl
    cases lg _ _ _ hv nF with
    |sc h=>exact .sc h
    |nil z hx hv=>rw[hx,hv];exact Rd.nil
    |mv r m aE hm hr hv lq=>rw[hm0]at hm;simp at hm
    |hole r k m q hm hl hq fa hn lq=>rw[y5]at hm;simp at hm
    | fz lq h =>
     refine h.mono' fun b hb ar=>?_
     rcases hb with hb|⟨r,p,h1,-⟩
     ·exact⟨.inl hb,jZ (by omega)⟩
     ·rw[wi]at h1;simp at h1
 | true =>
  obtain rfl:=tH hgg;rw[hgg,cond_true]at h;simp only[qE,aF,Option.some.injEq]at h;subst h;simp only[Caf];refine⟨fun hg=>?_,fun hg=>by simp[gOn]at hg⟩;obtain⟨cA,bf,hl,q7⟩:=main hg;obtain⟨n5,lg⟩:=lB cA hl;obtain⟨d,gp,qi⟩:=fC ba hg;generalize hM:min big (pu.depth+1)=M;obtain⟨m1,rfl⟩:∃ m1,M=m1+1:=⟨M-1,by rw[<- hM];unfold big;omega⟩;have hN:w.heap.size=w.heap.size:=rfl
  have hdr:∀ r,(σ (kR r)).isSome->r≠nr:=fun r hr e=>by
   rw[e,hf]at hr;cases hr
  refine lK bf ⟨{ G with own:=fun b=>if b=w.heap.size then .slc nr [] else kX (mkF pu nr (m1+1)) (G.own b),hdr:=fun r=>if r=nr then .slice (some ⟨w.heap.size,0,none⟩) len len else G.hdr r },?_⟩
  have td:∀ s,s∈pu.frz->∀ p,mkF pu nr (m1+1) s p=.frz:=fun s hs p=>by
   unfold mkF;rw[kS.2 hs,cond_true]
  have hmF:∀ z∈pu.moves,∀ p,mkF pu nr (m1+1) z.2.1 p=vQ nr (m1+1) ([z.1]++p):=fun z hz p=>by
   unfold mkF
   have:has pu.frz z.2.1=false:=by
    have:=hmf z hz;simpa using this
   rw[this,cond_false,qJ mz z hz]
  have k9:∀ b,G.own b≠.frz->b<w.heap.size:=fun b hb=>by
   rcases Ob2 b w.heap.size with h|h
   ·exact h
   ·exact absurd (hR.frame.fresh b h) hb
  have b8:∀ b,b≠w.heap.size->(pushB w cA e).heap[b]?=w.heap[b]?:=fun b hb=>jZ hb
  have dh:∀ {s:Nat} {c:aN},(kR s,c)∈(kR nr,aN.root (.v nv) (m1+1) 0 .live)::(pu.moves.map fun z=>(kR z.2.1,aN.root (.c .hole) 0 0 .gone))++fr ->
    (s=nr/\c=.root (.v nv) (m1+1) 0 .live)\/(∃ z∈pu.moves,s=z.2.1/\c=.root (.c .hole) 0 0 .gone) \/
    (s∈pu.frz/\∃ x m v,c=.root x m v .frozen/\σ (kR s)=some (.root x m v .live)):=by
   intro s c hc
   rcases List.mem_append.1 hc with hc|hc
   ·rcases List.mem_cons.1 hc with hc|hc
    ·obtain⟨e1,e2⟩:=Prod.mk.inj hc
     exact .inl ⟨dW e1,e2⟩
    ·obtain⟨z,hz,e⟩:=List.mem_map.1 hc
     obtain⟨e1,e2⟩:=Prod.mk.inj e;exact .inr (.inl ⟨z,hz,(dW e1).symm,e2.symm⟩)
   ·obtain⟨s',jf,x',nu,v',e1,e2,e3⟩:=sr _ _ hc
    obtain rfl:=dW e1;exact .inr (.inr ⟨jf,x',nu,v',e2,e3⟩)
  have ie:σ (kR nr)=none:=hf
  have xa:∀ s,s∈pu.frz->s≠nr:=fun s hs e=>by
   rcases tB s hs with ⟨x',nu,v',h8,-⟩|⟨x',nu,v',h8⟩<;>rw[e,ie]at h8<;>cases h8
  have pB:∀ b,G.own b=.frz->b<w.heap.size->(if b=w.heap.size then Ow.slc nr [] else kX (mkF pu nr (m1+1)) (G.own b))=.frz/\(pushB w cA e).heap[b]?=w.heap[b]?:=fun b hb ar=>by
   rw[if_neg (by omega),hb];exact⟨rfl,b8 b (by omega)⟩
  have fg:∀ b s p,G.own b=.slc s p->(if b=w.heap.size then Ow.slc nr [] else kX (mkF pu nr (m1+1)) (G.own b))=mkF pu nr (m1+1) s p/\(pushB w cA e).heap[b]?=w.heap[b]?:=fun b s p hb=>by
   have:=k9 b (by rw[hb];simp);rw[if_neg (by omega),hb];exact⟨rfl,b8 b (by omega)⟩
  refine hR.own hd (wr:=fun _=>False) (f:=mkF pu nr (m1+1)) ?_ ?_ ?_ ?_ ?_ (fun b ar _=>b8 b (by omega)) (fun _ h=>h.elim) ?_ ?_ ?_ ?_ rfl ?_ ?_
  ·intro k c hc
   rcases List.mem_append.1 hc with hc|hc
   ·rcases List.mem_cons.1 hc with hc|hc
    ·exact⟨nr,(Prod.mk.inj hc).1⟩
    ·obtain⟨z,hz,e⟩:=List.mem_map.1 hc
     exact⟨z.2.1,(Prod.mk.inj e).1.symm⟩
   ·obtain⟨s',-,-,-,-,e1,-⟩:=sr _ _ hc
    exact⟨s',e1⟩
  ·intro b ar
   show (if b=w.heap.size then Ow.slc nr [] else _)=_
   rw[if_neg (by omega)]
  ·intro b hb
   rw[jR]at hb;show (if b=w.heap.size then Ow.slc nr [] else kX _ (G.own b))=.frz
   rw[if_neg (by omega),hR.frame.fresh b (by omega)];rfl
  ·exact⟨rfl,rfl,rfl,by rw[jR];omega⟩
  ·intro b hb
   show (if b=w.heap.size then Ow.slc nr [] else kX _ (G.own b))=.frz\/∃ r p,(if b=w.heap.size then Ow.slc nr [] else kX _ (G.own b))=.slc r p/\_
   by_cases e:b=w.heap.size
   ·rw[if_pos e];exact .inr ⟨nr,[],rfl,ie⟩
   ·rw[if_neg e,hR.frame.fresh b hb];exact .inl rfl
  ·intro b s p hb gl
   unfold mkF
   have h1:has pu.frz s=false:=by
    rw[xE];intro hs
    rcases tB s hs with ⟨x',nu,v',-,h8⟩|⟨x',nu,v',h8⟩
    ·exact gl _ (Obk _ h8)
    ·exact (hR.root h8).2 b p hb
   have h2:s∉pu.moves.map (·.2.1):=by
    intro hh;obtain⟨z,hz,e⟩:=List.mem_map.1 hh;refine gl (.root (.c .hole) 0 0 .gone) (Obi _ (Obq _ (List.mem_map.2 ⟨z,hz,?_⟩)));rw[e]
   rw[h1,cond_false,Ea8 h2]
  ·intro s c hc _
   rcases dh hc with ⟨rfl,rfl⟩|⟨z,hz,rfl,rfl⟩|⟨hs,x',nu,v',rfl,h8⟩
   ·exact .inl ⟨ie,_,_,_,_,rfl⟩
   ·exact .inr (.inr (.inl ⟨_,_,_,_,rfl,by simp,by simp⟩))
   ·refine .inr (.inr (.inr ⟨x',nu,v',h8,rfl,fun b p hb=>?_⟩))
    obtain⟨b9,da⟩:=fg b s p hb;exact⟨b9.trans (td s hs p),da⟩
  ·intro r0 x0 m0 k0 lP s p q' hF
   unfold mkF at hF
   cases hh:has pu.frz s with
   |true=>rw[hh,cond_true]at hF;cases hF
   | false =>
    rw[hh,cond_false]at hF;split at hF
    ·unfold vQ at hF
     split at hF
     ·injection hF with j1 j2
      exact absurd j1.symm (hdr r0 (by rw[lP];rfl))
     ·cases hF
    ·injection hF with j1 j2;exact⟨j1,j2⟩
  ·intro r hr
   show (if r=nr then _ else _)=_
   rw[if_neg (hdr r hr)]
  ·intro _ _
   simp only[bR,aB];refine⟨by simp,dJ _ _ _ (.inr ⟨_,Obk _ (Obi _ Obu)⟩),rfl⟩
  ·intro _ s c hc _
   rcases dh hc with ⟨rfl,rfl⟩|⟨z,hz,rfl,rfl⟩|⟨hs,x',nu,v',rfl,h8⟩
   ·refine⟨_,_,_,_,rfl,?_⟩
    simp only[bK,if_true];simp only[aY.run]at gp;split at gp
    case isFalse=>cases gp
    rename_i qu;simp only[Option.some.injEq,List.cons.injEq,and_true]at gp;rw[qi,<- gp];refine .sl _ ⟨w.heap.size,0,none⟩ len len ti.size _ (fun i j=>cA.toList.getD (i*ti.size+j) undef) (Faq _ _ _) (Oby _) (.inl rfl) (fun row hr=>?_) (fun _=>⟨rfl,by simp,fun k hk=>?_⟩) (fun i row hi j d hj=>?_) (fun i row hi j d hj=>?_)
    ·obtain⟨i,hi⟩:=List.mem_iff_getElem?.1 hr
     exact (mX _ _ _ qu i row hi).2.1
    ·rw[lZ,sW]
     have:k<cA.size:=by rw[<- Qbk,hl.len,q7];exact hk
     exact⟨cA[k],Pbd this,rfl⟩
    ·obtain⟨b9,da,fk⟩:=mX _ _ _ qu i row hi
     have gS:=(List.getElem?_eq_some_iff.1 (fk j d hj)).1;rw[lZ];have jv:i*ti.size+j<cA.toList.length:=by rw[hl.len,<- n5];simpa using gS
     rw[Obo,Obl jv,<- Pbv,Obl jv];rfl
    ·obtain⟨b9,da,fk⟩:=mX _ _ _ qu i row hi
     have gS:=fk j d hj;rw[Ob5,Obr]at gS;obtain⟨x,nF,rfl⟩:=gS;have jv:i*ti.size+j<cA.toList.length:=by rw[hl.len,<- n5];exact (List.getElem?_eq_some_iff.1 nF).1
     have hv:cA.toList[i*ti.size+j]?=some (cA.toList.getD (i*ti.size+j) undef):=by
      rw[Obo,Obl jv];rfl
     have q9:=lg _ _ _ hv nF;rw[Nat.zero_add]at q9;refine q9.rp hR (by unfold big at hM;omega) pB (fun s' m2 yc b t hb=>?_) (fun s' q' je=>by rw[y5]at je;simp at je) (fun s' jf b p hb=>?_)
     ·obtain⟨k8,lv⟩:=fg b s' t hb
      refine⟨k8.trans ?_,lv⟩;rw[hmF _ yc,vQ];simp only[Obv,Pbw,Pbp];by_cases ht:t.length<m1
      ·rw[if_pos ht,if_pos (by omega)]
      ·rw[if_neg ht,if_neg (by omega)]
     ·obtain⟨k8,lv⟩:=fg b s' p hb
      exact⟨k8.trans (td s' jf p),lv⟩
   ·exact⟨_,_,_,_,rfl,trivial⟩
   ·refine⟨x',nu,v',.frozen,rfl,?_,fun b p hb=>?_⟩
    ·have:=hR.root h8
     simp only[bK]at this ⊢;rw[if_neg (xa s hs)];refine this.rd.mono' fun b hb ar=>?_
     rcases hb with hb|⟨p,hb⟩
     ·exact pB b hb ar
     ·obtain⟨k8,lv⟩:=fg b s p hb
      exact⟨k8.trans (td s hs p),lv⟩
    ·have cF:(if b=w.heap.size then Ow.slc nr [] else kX (mkF pu nr (m1+1)) (G.own b))=.slc s p:=hb
     split at cF
     ·injection cF with j1 _
      exact xa s hs j1.symm
     ·cases e:G.own b with
      | slc s' p' =>
       rw[e]at cF;have fe:mkF pu nr (m1+1) s' p'=.slc s p:=cF;by_cases jf:s'∈pu.frz
       ·rw[td s' jf]at fe;cases fe
       ·unfold mkF at fe
        rw[xE.2 jf,cond_false]at fe;split at fe
        ·unfold vQ at fe
         split at fe
         ·injection fe with j1 j2;exact xa s hs j1.symm
         ·cases fe
        ·injection fe with j1 j2;exact jf (j1▸hs)
      |_=>rw[e]at cF;cases cF
end
def nT (vs:Nat->Nat->Value)(n sz:Nat):List Value:=(List.range (n*sz)).map fun k=>vs (k / sz) (k % sz)
theorem pE (vs:Nat->Nat->Value)(n sz:Nat):(nT vs n sz).length=n*sz:=by simp[nT]
theorem Bah (vs:Nat->Nat->Value){n sz i j:Nat}(hi:i<n)(hj:j<sz):(nT vs n sz)[i*sz+j]?=some (vs i j):=by
 have ar:i*sz+j<n*sz:=by
  have:=Pb0 sz (show i+1<=n by omega);rw[Pb7]at this;omega
 unfold nT;rw[Ob5,Rbh ar,Pbj];rw[Nat.mul_comm i sz,Nat.mul_add_div (by omega),Nat.div_eq_of_lt hj,Nat.mul_add_mod,Nat.mod_eq_of_lt hj,Pbb]
theorem Hat {vs:Nat->Nat->Value}{n sz k:Nat}{u:Value}(h:(nT vs n sz)[k]?=some u):k / sz<n/\k % sz<sz/\k=k / sz*sz+k % sz/\u=vs (k / sz) (k % sz):=by
 have ar:k<n*sz:=by
  have:=(List.getElem?_eq_some_iff.1 h).1;rwa[pE]at this
 have dm:0<sz:=by
  rcases Nat.eq_zero_or_pos sz with e|e
  ·rw[e]at ar;simp at ar
  ·exact e
 refine⟨(Nat.div_lt_iff_lt_mul dm).2 ar,Nat.mod_lt _ dm,?_,?_⟩
 ·rw[Nat.mul_comm];exact (Nat.div_add_mod k sz).symm
 ·unfold nT at h
  rw[Ob5,Rbh ar,Pbj]at h;exact (Option.some.inj h).symm
section
variable {P:Program} {E:Env} {F:bC} {n:Nat} {σ:Nat->Option aN} {ρ:List D} {a:Act} {w w':World} {G G':Gh} {g:Option (aI×Bool)} {o:Oper} {cf:Nat->List D->Option (List D)} {Q:Exit->Act->World->Prop} {next:Act->World->Prop}
theorem Gaz {rs:List (List D)}{sz:Nat}{b:Addr}{vs:Nat->Nat->Value}(dm:∀ r∈rs,r.length=sz)
  (bc:∀ i row,rs[i]?=some row->∀ j d,row[j]?=some d->w.cell? (b.add (i*sz+j))=some (vs i j)):∀ k u,(nT vs rs.length sz)[k]?=some u->w.cell? (b.add k)=some u:=by
 intro k u h;obtain⟨h1,h2,h3,rfl⟩:=Hat h;have hr:rs[k / sz]?=some rs[k / sz]:=Obl h1;have hl:=dm _ (Obw hr);have hd:rs[k / sz][k % sz]?=some (rs[k / sz][k % sz]'(by omega)):=Obl (by omega);have:=bc _ _ hr _ _ hd;rwa[<- h3]at this
structure Fbi (w w1:World) (G:Gh) (A:Option Addr) (n n' cap sz:Nat) (olds news:List Value) (v:Value) (A':Option Addr) (cb:Addr) (gE:Nat) (grow:Bool):Prop where
 val:v=.slice A' (n+n') gE
 aval:A'=some cb\/(A'=none/\gE=0)
 le:n+n'<=gE
 os:w1.os=w.os/\w1.tape=w.tape/\w1.output=w.output
 size:w1.heap.size=w.heap.size+(if grow=true then 1 else 0)
 heap:∀ b,b<w.heap.size->(grow=true\/A'=none\/b≠cb.block)->w1.heap[b]?=w.heap[b]?
 cell:∀ k u,(olds++news)[k]?=some u->w1.cell? (cb.add k)=some u
 all:∀ k,k<gE*sz->∃ u,w1.cell? (cb.add k)=some u/\w1.frozen? (cb.add k)=false
 spot:cb.spot=none
 base:(grow=true/\A'=some cb/\cb.block=w.heap.size)\/(grow=false/\A'=some cb/\A=some cb)\/(grow=false/\A'=none)
theorem Iak {t tx e:TypeId}{ti:TI}{info:TypeInfo}{u u':TypeDesc}{x y:Operand}{args:Array Operand}{argTypes:Array TypeId}(ho:o.op=.call { callee:=.builtin .append,args,argTypes })
  (dj:args.toList=[x,y]) (j9:argTypes=#[t,tx]) (hu:P.underlying t=some (.slice e)) (f:bU P e ti info u) (hx:P.underlying tx=some u') (rk:∃ e',u'=.slice e')
  {A:Option Addr} {n cap n':Nat} {b:Addr} {olds news:List Value} (zf:a.eval x=.slice A n cap) (hnc:n<=cap) (hA:(A=some b/\b.spot=none)\/(A=none/\cap=0))
  (tU:olds.length=n*ti.size) (rq:∀ k u,olds[k]?=some u->w.cell? (b.add k)=some u) (cD:A=some b->∀ k,k<cap*ti.size->∃ u,w.cell? (b.add k)=some u/\w.frozen? (b.add k)=false)
  {By:Option Addr} {yu:Addr} {ky:Nat} (xi:a.eval y=.slice By n' ky) (hBy:n'=0\/By=some yu) (xp:news.length=n'*ti.size) (wq:∀ k u,news[k]?=some u->w.cell? (yu.add k)=some u) (sE:∀ u∈news,u.oneCell'=true)
  (zy:0<ti.bytes) (hs0:0<ti.size) (eR:(n+n')*ti.bytes<=iB) :
  ∃ v w1 A' cb gE grow,(execOp a.eval o).run P w=.ok (.value v) w1/\Fbi w w1 G A n n' cap ti.size olds news v A' cb gE grow:=by
 obtain⟨e',rfl⟩:=rk
 have oz:Src P ti.size tx (.slice By n' ky) n' news w:=by
  rcases hBy with rfl|rfl
  ·have:news=[]:=Pbr (by simpa using xp)
   subst this
   cases By with
   |none=>exact Src.ofNil w hx ky
   |some b1=>exact Src.ofSlice w hx b1 0 ky [] (by simp) (by simp) (by simp)
  ·exact Src.ofSlice w hx yu n' ky news xp wq sE
 have jn:∀ {v:Value} {w1:World},(Builtin.append_ #[t,tx] o.type #[.slice A n cap,.slice By n' ky]).run P w=.ok v w1->(execOp a.eval o).run P w=.ok (.value v) w1:=by
  intro v w1 h;refine kN ho (s:=Builtin.append_ argTypes o.type (args.map a.eval)) (fun _=>rfl) ?_;rw[Zak dj,Bbe,zf,xi,j9];exact h
 have dm:info.size=ti.size:=f.size.symm;have yk:info.bytes=ti.bytes:=f.bytes.symm;by_cases og:n+n'<=cap
 ·rcases hA with ⟨rfl,im⟩|⟨rfl,h0⟩
  ·
   have zi:b=⟨b.block,b.off,none⟩:=by cases b;simp only at im;subst im;rfl
   have cG:∀ j,j<news.length->∃ u,w.cell? ⟨b.block,b.off+n*ti.size+j,none⟩=some u/\w.frozen? ⟨b.block,b.off+n*ti.size+j,none⟩=false:=fun j hj=>by
    have:=cD rfl (n*ti.size+j) (by
     have:=Pb0 ti.size og;rw[Pb7]at this
     omega)
    rw[add_plain im,<- Ob0]at this;exact this
   have bf:=run_append_room_src (P:=P) w t tx o.type e info hu f.info_ b.block b.off n cap (.slice By n' ky) n' news (by rw[dm];exact oz) og
    (fun j hj=>by rw[dm];obtain⟨u,h1,-⟩:=cG j hj;rw[h1];rfl) (fun j hj=>by rw[dm];exact (cG j hj).choose_spec.2)
   rw[<- zi,dm]at bf;refine⟨_,_,some b,b,cap,false,jn bf,rfl,.inl rfl,og,jX _ _ _ _,by rw[setCells_size];simp,fun b' _ cF=>?_,fun k u hk=>?_,fun k hk=>?_,im,.inr (.inl ⟨rfl,rfl,rfl⟩)⟩
   ·rcases cF with cF|cF|cF
    ·cases cF
    ·cases cF
    ·exact dG _ _ _ _ _ cF
   ·by_cases ar:k<olds.length
    ·rw[Obx ar]at hk
     rw[add_plain im,World.cell?_setCells_out _ _ _ _ _ (fun _ _=>.inl (by dsimp only;omega)),<- add_plain im];exact rq k u hk
    ·rw[Obz (by omega)]at hk
     have xq:=(List.getElem?_eq_some_iff.1 hk).1;have:=World.cell?_setCells_in b.block news (b.off+n*ti.size) w (fun j hj=>by obtain⟨u,h1,-⟩:=cG j hj;rw[h1];rfl) (k-olds.length) xq;rw[show b.off+n*ti.size+(k-olds.length)=b.off+k by omega]at this;rw[add_plain im,this,<- hk,Obl]
   ·obtain⟨u0,hu0,wi⟩:=cD rfl k hk
    rw[World.frozen?_setCells];obtain⟨u1,hu1⟩:=lN (B:=b.block) (o:=b.off+n*ti.size) (vs:=news) (b:=b.add k) (fun _=>by rw[add_plain im]) (fun j hj=>by obtain⟨u,h1,-⟩:=cG j hj;rw[h1];rfl) hu0;exact⟨u1,hu1,wi⟩
  ·
   have hn0:n=0:=by omega
   have a2r:n'=0:=by omega
   subst hn0 a2r h0;have:news=[]:=Pbr (by simpa using xp);subst this;have:olds=[]:=Pbr (by simpa using tU);subst this;refine⟨_,_,none,⟨0,0,none⟩,0,false,jn (run_append_nothing w t tx o.type e info hu f.info_ none 0 0 (Oby _) _ (by rw[dm];exact oz)),rfl,.inr ⟨rfl,rfl⟩,Oby _,⟨rfl,rfl,rfl⟩,by simp,fun _ _ _=>rfl,by simp,by simp,rfl,.inr (.inr ⟨rfl,rfl⟩)⟩
 ·
  obtain⟨z,qe,pD,-,-⟩:=f.zeros (σ:=fun _=>none) (ρ:=[]) (G:=G) (w:=w);have wA:z.cells.size=ti.size:=by rw[<- Qbk,pD.len,Ob7,f.len]
  have hold:(Builtin.firstCells info.size n (.slice A n cap)).run P w.drew=.ok olds.toArray w.drew:=by
   rcases hA with ⟨rfl,im⟩|⟨rfl,h0⟩
   ·exact run_firstCells_some w.drew info.size n b n cap olds (by rw[dm];exact tU) (fun j u hj=>rq j u hj)
   ·have hn0:n=0:=by omega
    subst hn0;have:olds=[]:=Pbr (by simpa using tU);subst this;rfl
  have h1:(n+n')*1<=(n+n')*ti.bytes:=Nat.mul_le_mul_left _ zy;have vm:=nextslicecap_le (show cap<n+n' by omega)
  have a05:Builtin.nextslicecap (n+n') cap*info.bytes<=281474976710656:=by
   rw[yk];have h2:=Pb0 ti.bytes vm;rw[Nat.mul_assoc]at h2;unfold iB at eR;omega
  have bf:=run_append_grow_src (P:=P) w t tx o.type e info z hu f.info_ qe A n cap olds hold (.slice By n' ky) n' news (by rw[dm];exact oz) (by omega) (by unfold iB at eR;omega) a05;have ma:=grownCap_ge w (n+n') cap e;generalize hgc:grownCap w (n+n') cap e=gc at bf ma
  have sC:∀ b',b'≠w.heap.size->(w.drew.alloc (.cells ((olds++news).toArray++Builtin.zeroCells z.cells (gc-(n+n'))) e)).heap[b']?=w.heap[b']?:=fun b' cF=>by
   show (w.heap.push _)[b']?=_
   rw[Rbj,if_neg cF]
  have ga:(w.drew.alloc (.cells ((olds++news).toArray++Builtin.zeroCells z.cells (gc-(n+n'))) e)).heap[w.heap.size]?=some (.cells ((olds++news).toArray++Builtin.zeroCells z.cells (gc-(n+n'))) e (0,0)):=by
   show (w.heap.push _)[w.heap.size]?=_
   rw[Rbj,if_pos rfl]
  have bc:∀ k,(w.drew.alloc (.cells ((olds++news).toArray++Builtin.zeroCells z.cells (gc-(n+n'))) e)).cell? ((⟨w.heap.size,0,none⟩:Addr).add k)=((olds++news).toArray++Builtin.zeroCells z.cells (gc-(n+n')))[k]?:=fun k=>by
   unfold World.cell?;rw[add_block,ga];simp[Addr.add];split<;>simp_all
  refine⟨_,_,some ⟨w.heap.size,0,none⟩,⟨w.heap.size,0,none⟩,gc,true,jn bf,rfl,.inl rfl,ma,⟨rfl,rfl,rfl⟩,by show (w.heap.push _).size=_;rw[Array.size_push,if_pos rfl],fun b' ar _=>sC b' (by omega),fun k u hk=>?_,fun k hk=>?_,rfl,.inl ⟨rfl,rfl,rfl⟩⟩
  ·have ar:=(List.getElem?_eq_some_iff.1 hk).1
   rw[bc,Array.getElem?_append_left (by simpa using ar)];simpa using hk
  ·have sb:((olds++news).toArray++Builtin.zeroCells z.cells (gc-(n+n'))).size=gc*ti.size:=by
    simp only[Array.size_append,List.size_toArray,Obv,Builtin.zeroCells,Array.size_map,Array.size_range];rw[tU,xp,wA,<- Pb7,<- Pb7];congr 1;omega
   rw[bc];refine⟨_,Pbd (by omega),?_⟩;unfold World.frozen?;rw[add_block,ga];simp
end
section
variable {P:Program} {E:Env} {F:bC} {n:Nat} {σ:Nat->Option aN} {ρ:List D} {a:Act} {w w':World} {G G':Gh} {g:Option (aI×Bool)} {o:Oper} {cf:Nat->List D->Option (List D)} {Q:Exit->Act->World->Prop} {next:Act->World->Prop}
structure Side (w:World) (v:Value) (rs:List (List D)) (sz:Nat) (A:Option Addr) (b:Addr) (n cap:Nat) (vs:Nat->Nat->Value):Prop where
 val:v=.slice A n cap
 len:rs.length=n
 le:n<=cap
 rows:∀ r∈rs,r.length=sz
 cell:∀ i row,rs[i]?=some row->∀ j d,row[j]?=some d->w.cell? (b.add (i*sz+j))=some (vs i j)
def ChY (G:Gh)(w:World)(jz:List Nat)(la:Option Nat)(dy:Nat)(v:Value)(d:D)(idx:Nat):Prop :=
 Sc v d\/(∃ s,la=some s/\2<=dy/\Rp G.own w s [idx] (dy-1) v d)\/(dy=1/\Rd (fun b=>G.own b=.frz\/∃ r p,r∈jz/\G.own b=.slc r p) w v d)
structure YOk (σ:Nat->Option aN) (G:Gh) (w:World) (fl:Bool) (v:Value) (rb:List (List D)) (sz dy:Nat) (fR:List (Nat×aN)) (ry:List Nat) (jz:List Nat) (la:Option Nat):Prop where
 side:∃ A b n cap vs,Side w v rb sz A b n cap vs/\(n=0\/A=some b)/\∀ i row,rb[i]?=some row->∀ j d,row[j]?=some d->ChY G w jz la dy (vs i j) d (i*sz+j)
 upd:∀ k c,(k,c)∈fR->∃ s,k=kR s/\s∈ry/\((la=some s/\c=.root (.c .hole) 0 0 .gone/\∃ x m aE,σ (kR s)=some (.root x m aE .live))\/(s∈jz/\∃ x m aE,c=.root x m aE .frozen/\σ (kR s)=some (.root x m aE .live)))
 fz:∀ s∈jz,s∈ry/\((∃ c,(kR s,c)∈fR)\/∃ x m aE,σ (kR s)=some (.root x m aE .frozen))
 mv:∀ s,la=some s->s∈ry/\(∃ c,(kR s,c)∈fR)/\s∉jz
 dy:1<=dy
 flat:fl=true->fR=[]/\jz=[]/\la=none
theorem Rd.side {ok:Nat->Prop}{v:Value}{sz:Nat}{rs:List (List D)}(h:Rd ok w v (.rows sz rs)):∃ A b n cap vs,Side w v rs sz A b n cap vs/\(n=0\/A=some b)/\∀ i row,rs[i]?=some row->∀ j d,row[j]?=some d->Rd ok w (vs i j) d:=by
 obtain⟨A,b,n,c,vs,e1,e2,e3,e4,e5,e6,e7⟩:=h.inv;exact⟨A,b,n,c,vs,⟨e1,e2,e3,e5,fun i row hi j d hj=>(e6 i row hi j d hj).2⟩,e4,e7⟩
theorem Ibh (hR:R E.ntmps F σ ρ a w G){fl:Bool}{y:SlR}{v:Value}(hy:Sap σ ρ G w y v){sz:Nat}{rb:List (List D)}(hx:y.x.val ρ=.rows sz rb)(fX:fl=true->∀ r∈rb,∀ d∈r,d.isSc=true)
  {dy:Nat} {fR:List (Nat×aN)} {ry:List Nat} (h:(Oa5 fl y).eval σ=some (dy,fR,ry)):∃ jz la,YOk σ G w fl v rb sz dy fR ry jz la:=by
 have gA:=hy.rd;rw[hx]at gA;unfold Oa5 at h
 cases fl with
 | true =>
  simp only[cond_true,aF,Option.some.injEq,Prod.mk.injEq]at h;obtain⟨rfl,rfl,rfl⟩:=h;refine⟨[],none,?_,by simp,by simp,by simp,by decide,fun _=>⟨rfl,rfl,rfl⟩⟩;obtain⟨A,b,n,c,vs,h1,h2,h3⟩:=gA.side;exact⟨A,b,n,c,vs,h1,h2,fun i row hi j d hj=>.inl ((h3 i row hi j d hj).sc_inv (fX rfl row (Obw hi) d (Obw hj)))⟩
 | false =>
  simp only[cond_false]at h;have a7:=hy.own;unfold rX at a7
  have frozen:∀ rs fr,(dC rs).eval σ=some fr->Rd (fun b=>G.own b=.frz\/∃ r p,r∈rs/\G.own b=.slc r p) w v (.rows sz rb)->YOk σ G w false v rb sz 1 fr rs rs none:=by
   intro rs fr dt gA;obtain⟨h1,h2⟩:=fM dt;refine⟨?_,fun k c hc=>?_,fun s hs=>⟨hs,?_⟩,by simp,Oby _,by simp⟩
   ·obtain⟨A,b,n,c,vs,h3,h4,h5⟩:=gA.side
    exact⟨A,b,n,c,vs,h3,h4,fun i row hi j d hj=>.inr (.inr ⟨rfl,h5 i row hi j d hj⟩)⟩
   ·obtain⟨s,hs,x,m,aE,e1,e2,e3⟩:=h2 k c hc
    exact⟨s,e1,hs,.inr ⟨hs,x,m,aE,e2,e3⟩⟩
   ·rcases h1 s hs with ⟨x,m,aE,e1,e2⟩|h3
    ·exact .inl ⟨_,e2⟩
    ·exact .inr h3
  split at h
  ·rename_i r k m ho
   rw[ho]at a7;obtain⟨h1,⟨x,h2⟩,h3,h4,h5⟩:=a7;simp only[aZ,Pba,List.length_nil,Nat.sub_zero]at h4;rw[hx]at h4
   cases hb:Nat.ble 2 m with
   | true =>
    rw[hb]at h;simp only[cond_true,aF,Option.some.injEq,Prod.mk.injEq]at h;obtain⟨rfl,rfl,rfl⟩:=h;simp only[Pbn]at hb;obtain⟨m',rfl⟩:∃ m',m=m'+1:=⟨m-1,by omega⟩;obtain⟨A,b,n,c,vs,e1,e2,e3,e4,e5,e6,e7,e8⟩:=h4.sl_inv;refine⟨[],some r,⟨A,b,n,c,vs,⟨e1,e2,e3,e5,e7⟩,?_,fun i row hi j d hj=>.inr (.inl ⟨r,rfl,hb,by simpa using e8 i row hi j d hj⟩)⟩,fun k' c' hc=>?_,by simp,fun s hs=>?_,by omega,by simp⟩
    ·rcases e4 with e4|⟨e4,qn⟩
     ·exact .inr e4
     ·exact .inl (by omega)
    ·simp only[Obt,Prod.mk.injEq]at hc
     exact⟨r,hc.1,by simp,.inl ⟨rfl,hc.2,x,_,k,h2⟩⟩
    ·obtain rfl:=Option.some.inj hs
     exact⟨by simp,⟨_,List.mem_singleton.2 rfl⟩,by simp⟩
   | false =>
    rw[hb]at h;simp only[cond_false,aF,Option.some.injEq,Prod.mk.injEq]at h;obtain⟨rfl,rfl,rfl⟩:=h
    have hm:m<=1:=by
     have:¬ 2<=m:=by rw[<- Pbn,hb];simp
     omega
    refine⟨[],none,?_,by simp,by simp,by simp,Oby _,by simp⟩
    rcases Nat.eq_zero_or_pos m with rfl|lE
    ·obtain⟨A,b,n,c,vs,h6,h7,h8⟩:=h4.zero.side
     exact⟨A,b,n,c,vs,h6,h7,fun i row hi j d hj=>.inr (.inr ⟨rfl,(h8 i row hi j d hj).mono fun b hb=>⟨.inl hb,rfl⟩⟩)⟩
    ·obtain rfl:m=0+1:=by omega
     obtain⟨A,b,n,c,vs,e1,e2,e3,e4,e5,e6,e7,e8⟩:=h4.sl_inv;refine⟨A,b,n,c,vs,⟨e1,e2,e3,e5,e7⟩,?_,fun i row hi j d hj=>.inr (.inr ⟨rfl,(e8 i row hi j d hj).zero.mono fun b hb=>⟨.inl hb,rfl⟩⟩)⟩
     rcases e4 with e4|⟨e4,qn⟩
     ·exact .inr e4
     ·exact .inl (by omega)
  ·rename_i r k m p cn ho
   rw[ho]at a7;simp only[aA,Obg,aF,Option.some.injEq,Prod.mk.injEq]at h;obtain⟨fr,h6,rfl,rfl,rfl⟩:=h;refine⟨[r],none,frozen _ _ h6 ?_⟩;refine gA.mono fun b hb=>⟨hb.imp id fun ⟨r',k',p',h7,h8⟩=>?_,rfl⟩
   rw[a7.1]at h7;simp only[Obt,Prod.mk.injEq]at h7;exact⟨r,p',by simp,h7.1▸h8⟩
  ·split at h
   ·rename_i z hz
    simp only[aF,Option.some.injEq,Prod.mk.injEq]at h;obtain⟨rfl,rfl,rfl⟩:=h;rw[hz]at hx;simp only[aI.val,D.rows.injEq]at hx;obtain⟨rfl,rfl⟩:=hx;refine⟨[],none,?_,by simp,by simp,by simp,by decide,by simp⟩;obtain⟨A,b,n,c,vs,h1,h2,h3⟩:=gA.side;exact⟨A,b,n,c,vs,h1,h2,by simp⟩
   ·simp only[aA,Obg,aF,Option.some.injEq,Prod.mk.injEq]at h
    obtain⟨fr,h6,rfl,rfl,rfl⟩:=h;refine⟨y.deps.map (·.1),none,frozen _ _ h6 ?_⟩;exact gA.mono fun b hb=>⟨hb.imp id fun ⟨r',k',p',h7,h8⟩=>⟨r',p',Pbu (f:=fun x:Nat×Nat=>x.1) h7,h8⟩,rfl⟩
end
end Go.Proofs.YtcbkmmhkccnamaaGreat.Rf
