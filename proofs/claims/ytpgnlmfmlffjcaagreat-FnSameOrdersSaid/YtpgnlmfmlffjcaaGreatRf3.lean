/- Terms for oe program's functions, and j9 they are right: part 3 of 9. -/
import Derived.Test.YtpgnlmfmlffjcaaGreatRf2
import Derived.Laws.IdiomCopy
import Derived.Deep.Upon
open Array renaming getElem?_eq_getElem → Rb0, getElem?_toList → Sbi, length_toList → Tbm, getElem?_push → Ubl, ext' → Ubm
open Bool renaming and_eq_true → Qb1, not_eq_true' → Rbp
open List renaming mem_append_left → Qb2, getElem?_eq_getElem → Qb3, mem_append_right → Qb5, length_append → Qb6, getD_eq_getElem?_getD → Qb8, getElem?_cons_zero → Qb9, append_assoc → Rba, mem_singleton → Rbb, mem_cons_of_mem → Rbd, length_cons → Rbe, length_map → Rbh, mem_of_getElem? → Rbi, mem_cons_self → Rbj, getElem?_append_right → Rbl, getElem?_append_left → Rbm, getElem?_map → Rbr, append_nil → Rbs, map_cons → Rbt, all_eq_true → Rbu, map_nil → Rbz, getElem?_drop → Rb3, getElem?_cons_succ → Rb7, nil_append → Sba, getElem?_take → Sbc, eq_nil_of_length_eq_zero → Sbd, mem_map_of_mem → Sbh, length_singleton → Sbk, cons_append → Sby, getElem?_set → Sb0, foldl_cons → Tbf, singleton_append → Tbk, ext_getElem? → Tbu, any_eq_false → Tbv, mem_or_eq_of_mem_set → Tby, isEmpty_iff → Tb9, getElem?_range → Ubg
open Nat renaming le_refl → Rbg, add_assoc → Rbn, lt_or_ge → Rbo, beq_eq → Rbv, add_zero → Rbx, ble_eq → Sbb, mul_le_mul_right → Sbl, add_mul → Sbm, mul_comm → Uba, div_eq_of_lt → Ubb
open Option renaming bind_eq_some_iff → Qb0, bind_some → Qb7, map_eq_some_iff → Rbc, map_some → Rb9, isNone_iff_eq_none → Tbo
set_option linter.unusedSimpArgs false
set_option linter.unusedVariables false
set_option linter.unnecessarySimpa false
set_option linter.unusedSectionVars false
namespace Go.Proofs.YtpgnlmfmlffjcaaGreat.Rf
theorem bY (b:Nat):∀ (vs:List Value) (o:Nat) (w:World) (k:Nat),k≠b->(w.setCells b o vs).heap[k]?=w.heap[k]?
 |[],_,_,_,_=>rfl
 | v :: r, o, w, k, h => by
  rw[World.setCells,bY b r _ _ k h];exact heap_setCell_other w _ k v h
theorem setCells_size (b:Nat):∀ (vs:List Value) (o:Nat) (w:World),(w.setCells b o vs).heap.size=w.heap.size
 |[],_,_=>rfl
 |v::r,o,w=>by rw[World.setCells,setCells_size b r];exact World.size_setCell ..
theorem gV (b:Nat):∀ (vs:List Value) (o:Nat) (w:World),(w.setCells b o vs).os=w.os/\(w.setCells b o vs).tape=w.tape/\(w.setCells b o vs).output=w.output
 |[],_,_=>⟨rfl,rfl,rfl⟩
 |v::r,o,w=>by rw[World.setCells];exact gV b r (o+1) _
theorem Aaq (b:Nat):∀ (vs:List Value) (o:Nat) (w:World) (c:Array Value) (e:TypeId) (fr:Nat×Nat),w.heap[b]?=some (.cells c e fr) ->
  ∃ c',(w.setCells b o vs).heap[b]?=some (.cells c' e fr)/\c'.size=c.size/\∀ k,k<o\/o+vs.length<=k->c'[k]?=c[k]?
 |[],o,w,c,e,fr,h=>⟨c,h,rfl,fun _ _=>rfl⟩
 | v :: r, o, w, c, e, fr, h => by
  have h1:(w.setCell ⟨b,o,none⟩ v).heap[b]?=some (.cells (c.setIfInBounds o v) e fr):=by
   simp[World.setCell,Array.getElem?_modify,h]
  obtain⟨c',h2,h3,h4⟩:=Aaq b r (o+1) _ _ e fr h1;refine⟨c',h2,by simpa using h3,fun k hk=>?_⟩;simp only[Rbe]at hk;rw[h4 k (by omega),Array.getElem?_setIfInBounds_ne (by omega)]
section
variable {P:Program} {E:Env} {F:bE} {σ:Nat->Option aP} {ρ:List D} {a:Act} {w w':World} {G:Gh} {g:Option (aI×Bool)} {o:Oper} {cf:Nat->List D->Option (List D)} {Q:Exit->Act->World->Prop} {next:Act->World->Prop}
theorem Daz {t:TypeId}{i:TI}{info:TypeInfo}{u:TypeDesc}(f:bX P t i info u){b off:Nat}{v:Value}(hl:v.cells.toList.length=i.size)
  (hc:∀ j,j<i.size->∃ u,w.cell? ⟨b,off+j,none⟩=some u) (hf:∀ j,j<i.size->w.frozen? ⟨b,off+j,none⟩=false) (h1:∀ x∈v.cells.toList,x.oneCell'=true) :
  (storeVar t ⟨b,off,none⟩ v).run P w=.ok () (w.setCells b off v.cells.toList):=by
 unfold storeVar;rw[Sem.run_bind,f.sizeOf];simp only[Result.andThen_ok];have:¬ v.cells.size≠i.size:=by simpa using hl
 rw[if_neg this]
 have h2:=run_storeCells_cells (P:=P) b off v.cells.toList 0 w (fun j hj=>by
  obtain⟨u,hu⟩:=hc j (by omega);rw[Rbx,hu];rfl) (fun j hj=>by rw[Rbx];exact hf j (by omega)) h1
 rw[Rbx]at h2;simpa using h2
theorem aB.one {l:aO}{v:Value}(h:aB σ ρ G w l v)(hs:Nai l=true):v.oneCell'=true:=by
 cases l with
 |dead=>simpa[aB] using h
 |sc x=>simp only[aB]at h;exact h.one
 |su g x=>simp[Nai]at hs
 |ex r=>simp only[aB]at h;exact h.2.2
 |sn deps p nie x=>simp only[aB]at h;exact h.1.1
 |px b off=>simp only[aB]at h;rw[h.1];rfl
 |pe l sz i off=>simp only[aB]at h;obtain⟨_,_,_,_,_,_,_,_,_,e⟩:=h;rw[e];rfl
 |rp deps sz x=>simp only[aB]at h;exact h.1.1
 |pn=>simp only[aB]at h;rw[h];rfl
 |clo f cD=>simp only[aB]at h;obtain⟨_,e,_⟩:=h;rw[e];rfl
theorem aD.ones {ls:List aO}{vs:List Value}(h:aD σ ρ G w ls vs)(hs:ls.all Nai=true):∀ v∈vs,v.oneCell'=true:=by
 intro v hv;obtain⟨i,hi⟩:=List.mem_iff_getElem?.1 hv
 have hlt:i<ls.length:=by
  rw[<- h.len];exact (List.getElem?_eq_some_iff.1 hi).1
 have hl:ls[i]?=some ls[i]:=Qb3 hlt;obtain⟨v',h1,h2⟩:=h.get hl;rw[hi]at h1;obtain rfl:=Option.some.inj h1;rw[Rbu]at hs;exact h2.one (hs _ (Rbi hl))
theorem vL {v:Value}(h:v.oneCell'=true):v.cells=#[v]:=by cases v<;>first|rfl|(simp[Value.oneCell']at h)
theorem aB.cells {l:aO}{v:Value}(h:aB σ ρ G w l v):v.cells=#[v]:=by
 by_cases hs:Nai l=true
 ·exact vL (h.one hs)
 ·cases l<;>first|(simp[Nai]at hs;done)|skip
  simp only[aB]at h
  rcases h.1 with h1|⟨rfl,-⟩
  ·exact vL h1.one
  ·rfl
theorem gQ {agg:Bool}{sv:SV}{ls:List aO}{v:Value}(h:jE agg sv=some ls)(hv:bU σ ρ G w sv v):aD σ ρ G w ls v.cells.toList:=by
 unfold jE at h;split at h
 ·rename_i l
  cases agg with
  |true=>cases h
  | false =>
   obtain rfl:=Option.some.inj h;rw[aB.cells hv];simp only[aD];exact⟨v,[],rfl,hv,rfl⟩
 ·rename_i ms
  cases agg with
  |false=>cases h
  | true =>
   obtain rfl:=Option.some.inj h;obtain⟨vs,rfl,h1⟩:=hv;simpa[Value.cells] using h1
 ·cases h
def pushB (w:World)(c:Array Value)(e:TypeId):World:={ w with heap:=w.heap.push (.cells c e (0,0)) }
theorem kL {c:Array Value}{e:TypeId}{b:Nat}(h:b≠w.heap.size):(pushB w c e).heap[b]?=w.heap[b]?:=by
 unfold pushB;rw[Ubl,if_neg h]
theorem Oaf {c:Array Value}{e:TypeId}:(pushB w c e).heap[w.heap.size]?=some (.cells c e (0,0)):=by
 unfold pushB;rw[Ubl,if_pos rfl]
theorem kC {c:Array Value}{e:TypeId}:(pushB w c e).heap.size=w.heap.size+1:=by
 unfold pushB;simp
theorem mW {c:Array Value}{e:TypeId}(j:Nat):(pushB w c e).cell? ((⟨w.heap.size,0,none⟩:Addr).add j)=c[j]?:=by
 unfold World.cell?;rw[add_block,Oaf];simp[Addr.add];split<;>simp_all
theorem vI {c:Array Value}{e:TypeId}(j:Nat):(pushB w c e).frozen? ((⟨w.heap.size,0,none⟩:Addr).add j)=false:=by
 unfold World.frozen?;rw[add_block,Oaf];simp
theorem lM.push (h:lM F G w)(c:Array Value)(e:TypeId){G':Gh}(ho:∀ b,b≠w.heap.size->G'.own b=G.own b\/((∃ r p,G.own b=.slc r p))):lM F G' (pushB w c e):=by
 refine⟨h.os,h.tape,h.output,by rw[kC];have:=h.size;omega,fun b hb hf=>?_,fun b j hb hj=>?_,fun b hb=>?_⟩
 ·have bh:b≠w.heap.size:=by have:=h.size;omega
  obtain⟨h1,h2⟩:=h.keep b hb hf;refine⟨by rw[kL bh];exact h1,?_⟩
  rcases ho b bh with h3|⟨r,p,h3⟩
  ·rw[h3];exact h2
  ·rw[h3]at h2
   rw[<- h2]at hf
   rcases hf with hf|hf<;>cases hf
 ·have bh:b≠w.heap.size:=by have:=h.size;omega
  obtain⟨h1,c0,c1,e',fr,h2,h3,h4⟩:=h.boxes b j hb hj;refine⟨?_,c0,c1,e',fr,h2,by rw[kL bh];exact h3,h4⟩
  rcases ho b bh with h5|⟨r,p,h5⟩
  ·rw[h5];exact h1
  ·rw[h5]at h1;cases h1
 ·rw[kC]at hb
  have bh:b≠w.heap.size:=by omega
  rcases ho b bh with h5|⟨r,p,h5⟩
  ·rw[h5];exact h.fresh b (by omega)
  ·rw[h.fresh b (by omega)]at h5;cases h5
def yF (G:Gh)(w:World)(nb:Nat):Gh:={ G with own:=fun b=>if b=w.heap.size then .box nb else G.own b,bx:=fun b=>if b=nb then ⟨w.heap.size,0,none⟩ else G.bx b }
structure Cae (σ:Nat->Option aP) (nb nr:Nat):Prop where
 nb:σ (kB nb)=none
 nr:∀ j,nr<=j->j<nr+bP->σ (kR j)=none
theorem Jai {e:TypeId}{v:Value}:(newVar e v).run P w=.ok ⟨w.heap.size,0,none⟩ (pushB w v.cells e):=by
 simp[newVar,newRow,pushB]
theorem Cb3 {u0:List (Nat×aP)}{nb:Nat}{ls:List aO}(r:Nat)(h:∀ k c,(k,c)∈u0->∃ t,k=kT t):upds σ (u0++[(kB nb,aP.box false ls)]) (kR r)=σ (kR r):=by
 refine dZ _ _ _ fun c hc=>?_
 rcases List.mem_append.1 hc with hc|hc
 ·obtain⟨t,e⟩:=h _ _ hc
  exact gX e.symm
 ·simp only[Rbb,Prod.mk.injEq]at hc
  exact eO hc.1.symm
theorem Hat (o:Oper)(g:Option (aI×Bool))(v:SV):∀ k c,(k,c)∈dL o g v->∃ t,k=kT t:=by
 intro k c h;unfold dL at h;split at h
 ·rename_i d _
  simp only[Rbb,Prod.mk.injEq]at h;exact⟨d,h.1⟩
 ·simp at h
theorem xS {o:Oper}{g:Option (aI×Bool)}{v:SV}{k:Nat}{c:aP}(h:(k,c)∈dL o g v):∃ d,o.dst=some d/\k=kT d/\c=.slot g v:=by
 unfold dL at h;split at h
 ·rename_i d hd
  simp only[Rbb,Prod.mk.injEq]at h;exact⟨d,hd,h.1,h.2⟩
 ·simp at h
theorem Ea3 {n:Nat}{gh:Nat->Value}{v:Value}{g:Option (aI×Bool)}{sv:SV}{u1:List (Nat×aP)}{t:Nat}(h:∀ c,(kT t,c)∉dL o g sv++u1):Aad n (a.put o.dst v) gh t=Aad n a gh t:=by
 cases e:o.dst with
 |none=>rfl
 | some d =>
  refine Fat _ _ _ _ _ _ fun e'=>h (.slot g sv) ?_
  refine Qb2 _ ?_;unfold dL;rw[e,e'];exact List.mem_singleton.2 rfl
theorem R.newBox (h:R E.ntmps F σ ρ a w G)(hd:eT E.ntmps o){nb:Nat}(hf:σ (kB nb)=none){cs:Array Value}{ty:TypeId}{ls:List aO}(hl:aD σ ρ G w ls cs.toList) :
  R E.ntmps F (upds σ (dL o none (.one (.px nb 0))++[(kB nb,.box false ls)])) ρ (a.put o.dst (.pointer (some ⟨w.heap.size,0,none⟩))) (pushB w cs ty) (yF G w nb):=by
 have bh:∀ b,G.own b≠.frz->b≠w.heap.size:=fun b hb e=>hb (h.frame.fresh b (by omega))
 have gy:=Hat o none (.one (.px nb 0));have hR:∀ r,upds σ (dL o none (.one (.px nb 0))++[(kB nb,aP.box false ls)]) (kR r)=σ (kR r):=fun r=>Cb3 r gy
 have cm:Fr σ G w (upds σ (dL o none (.one (.px nb 0))++[(kB nb,.box false ls)])) (yF G w nb) (pushB w cs ty):=by
  refine⟨fun b hb hlt=>?_,fun r k _ hv=>?_,fun r k hk=>hk.same hR,fun r k b p _ _ hb=>?_,fun r k m _ hv=>⟨?_,fun b p hb=>?_⟩,fun _ _=>rfl,fun b hb=>?_,fun k hk=>dP _ _ _ (.inl hk),fun r x m k _ b p hb=>?_⟩
  ·have hn:b≠w.heap.size:=by omega
   exact⟨by simp only[yF,if_neg hn];exact hb,kL hn⟩
  ·obtain⟨x,m,st,e,hs⟩:=hv
   exact⟨x,m,st,by rw[<- hR];exact e,hs⟩
  ·have hn:=bh b (by rw[hb];simp)
   exact⟨.inl (by simp only[yF,if_neg hn];exact hb),kL hn⟩
  ·obtain⟨x,e⟩:=hv
   exact⟨x,by rw[<- hR];exact e⟩
  ·have hn:=bh b (by rw[hb];simp)
   simp only[yF,if_neg hn];exact hb
  ·have:b≠nb:=fun e=>by rw[e,hf]at hb;cases hb
   simp only[yF,if_neg this]
  ·by_cases hn:b=w.heap.size
   ·simp only[yF,if_pos hn]at hb;cases hb
   ·simp only[yF,if_neg hn]at hb;exact hb
 refine h.upd _ cm (by rw[Aa2];exact h.tmps) (by rw[put_defers];exact h.defers) (h.frame.push cs ty fun b hb=>.inl (by simp only[yF,if_neg hb])) (fun t ht=>Ea3 ht) (fun b ro bs hb _=>?_) (fun b bs hb hlt ho=>?_) (fun k c hk fy=>?_)
 ·obtain⟨_,h2,_⟩:=h.box hb
  have hn:=bh (G.bx b).block (by rw[h2];split<;>simp);exact⟨by simp only[yF,if_neg hn],kL hn⟩
 ·rcases List.mem_append.1 hb with hb|hb
  ·obtain⟨t,e⟩:=gy _ _ hb
   exact absurd e.symm kP
  ·simp only[Rbb,Prod.mk.injEq]at hb
   obtain rfl:=Bai hb.1;simp only[yF,if_true]at hlt;have:=h.frame.size;omega
 ·rcases List.mem_append.1 hk with hk|hk
  ·obtain⟨d,jh,rfl,rfl⟩:=xS hk
   refine⟨d,rfl,fun _=>?_⟩;rw[jh,mY _ _ _ _ _ (hd d jh) h.tmps];simp only[bU,aB,yF,if_true];exact⟨by simp[Addr.add],dP _ _ _ (.inr ⟨_,Qb5 _ (List.mem_singleton.2 rfl)⟩)⟩
  ·simp only[Rbb,Prod.mk.injEq]at hk
   obtain⟨rfl,rfl⟩:=hk;refine⟨nb,rfl,by simp[yF],by simp[yF],fun j l hj=>?_⟩;obtain⟨v,h1,h2⟩:=hl.get hj;refine⟨v,?_,?_,aB.mono cm l v h2⟩
   ·simp only[yF,if_true]
    rw[mW];simpa using h1
   ·simp only[yF,if_true]
    exact vI j
theorem Wam (hR:R E.ntmps F σ ρ a w G)(hd:eT E.ntmps o)(hti:uO P E.ti){nv nb nr:Nat}{mv b6:Bool}(hf:Cae σ nb nr){e:TypeId}{x:Operand}(ho:o.op=.box e x){res:bJ}
  (h:(oJ E mv b6 nv nb nr g o).eval σ=some res) (hs:aL cf ρ g nv res.lets):fV P E F σ ρ a w g o Q res.upd:=by
 simp only[oJ,ho,aA,Qb0,tiR,aT]at h;obtain⟨ti,h1,sv,h2,h⟩:=h;split at h
 ·rename_i ls oh
  simp only[aA,Qb0,aH]at h;obtain⟨_,h3,h⟩:=h;split at h3
  ·rename_i hb
   simp only[Qb1]at hb;obtain rfl:=vO hb.1.2;simp only[sH,aC,Option.some.injEq]at h;subst h;refine⟨fun hg=>?_,fun hg=>by simp[gOn]at hg⟩;have h4:=gQ oh (fG hR hg h2);refine mH (v:=.pointer (some ⟨w.heap.size,0,none⟩)) (w':=pushB w (a.eval x).cells e) ?_ ⟨_,hR.newBox hd hf.nb h4⟩;unfold execOp;simp only[ho];refine fC ?_;simp only[Instr.box,Sem.run_bind,Jai,Result.andThen_ok,Sem.run_pure]
  ·cases h3
 ·cases h
theorem Kan {v:Value}{c:CK}(h:zeroCell v c=true):aB σ ρ G w (fA c) v:=by
 unfold zeroCell at h;split at h
 ·simp only[Qb1,decide_eq_true_eq]at h
  obtain⟨⟨rfl,rfl⟩,rfl⟩:=h;simp only[fA,aB,aI.val];exact .int _ _
 ·simp only[Qb1,decide_eq_true_eq]at h
  obtain⟨rfl,rfl⟩:=h;simp only[fA,aB,aI.val];exact .bool _
 ·rename_i s l
  simp only[Qb1,decide_eq_true_eq]at h;obtain⟨h1,rfl⟩:=h;simp only[fA,aB,aI.val];have:=Sc.str s.data.toList;rw[h1]at this
  have e:s=⟨[].toArray⟩:=by
   apply ByteArray.ext;apply Ubm;simpa using h1
  rw[e];exact this
 ·simp only[fA,aB]
  refine⟨⟨rfl,by simp⟩,fun _=>⟨?_,fun _ z _=>trivial,trivial⟩⟩;exact .rows none ⟨0,0,none⟩ 0 0 _ [] (fun _ _=>undef) rfl (Rbg _) (.inl rfl) (by simp) (by simp) (by simp)
 ·simp only[fA,aB]
 ·cases h
theorem Daq {v:Value}{c:CK}(h:zeroCell v c=true):v.oneCell'=true:=by
 unfold zeroCell at h;split at h<;>first|rfl|cases h
theorem bX.zeros {t:TypeId}{i:TI}{info:TypeInfo}{u:TypeDesc}(f:bX P t i info u):∃ z,info.zero=some z/\aD σ ρ G w (i.cells.map fA) z.cells.toList /\
  (∀ x∈z.cells.toList,x.oneCell'=true)/\(∀ (j:Nat) (x:Value) (c:CK),z.cells[j]?=some x->i.cells[j]?=some c->zeroCell x c=true):=by
 have h:=f.zero;unfold Sae at h;split at h
 ·rename_i vs cs heq
  simp only[Qb1,beq_iff_eq,Rbu]at h;obtain⟨h1,h2⟩:=h
  have hz:∀ (j:Nat) (x:Value) (c:CK),vs[j]?=some x->i.cells[j]?=some c->zeroCell x c=true:=by
   intro j x c hx hc
   exact h2 (x,c) (Rbi (i:=j) (by
    rw[List.getElem?_zip_eq_some];exact⟨by simpa using hx,hc⟩))
  refine⟨_,heq,.of_get (by simpa[Value.cells] using h1) fun j l v hj hv=>?_,fun x hx=>?_,hz⟩
  ·simp only[Rbr,Rbc]at hj
   obtain⟨c,hc,rfl⟩:=hj;exact Kan (hz j v c (by simpa[Value.cells] using hv) hc)
  ·obtain⟨j,hj⟩:=List.mem_iff_getElem?.1 hx
   have hlt:j<i.cells.length:=by
    rw[<- h1];simpa[Value.cells] using (List.getElem?_eq_some_iff.1 hj).1
   exact Daq (hz j x _ (by simpa[Value.cells] using hj) (Qb3 hlt))
 ·rename_i v c _ hz yn
  have h1:=Daq h;refine⟨v,hz,?_,fun x hx=>?_,fun j x c' hx hc=>?_⟩
  ·rw[yn,vL h1]
   simp only[Rbt,Rbz,aD];exact⟨v,[],rfl,Kan h,rfl⟩
  ·rw[vL h1]at hx
   simp only[Rbb]at hx;rw[hx];exact h1
  ·rw[vL h1]at hx
   rw[yn]at hc
   cases j with
   | zero =>
    simp only[Qb9,Option.some.injEq]at hc;simp at hx;rw[<- hx,<- hc];exact h
   |succ j=>simp at hc
 ·cases h
theorem kK {t:TypeId}{info:TypeInfo}{z:Value}(h:P.info? t=some info)(hz:info.zero=some z):(zeroValue t).run P w=.ok z w:=by
 simp[zeroValue,typeInfo,h,hz]
theorem Qat (hR:R E.ntmps F σ ρ a w G)(hd:eT E.ntmps o)(hti:uO P E.ti){nv nb nr:Nat}{mv b6:Bool}(hf:Cae σ nb nr){e:TypeId}(ho:o.op=.alloc e){res:bJ}
  (h:(oJ E mv b6 nv nb nr g o).eval σ=some res) (hs:aL cf ρ g nv res.lets):fV P E F σ ρ a w g o Q res.upd:=by
 simp only[oJ,ho,aA,Qb0,tiR,aT,aH]at h;obtain⟨ti,h1,_,h2,h⟩:=h;split at h2
 ·rename_i hb
  obtain rfl:=vO hb;simp only[sH,aC,Option.some.injEq]at h;subst h;refine⟨fun hg=>?_,fun hg=>by simp[gOn]at hg⟩;obtain⟨info,u,f⟩:=aU (hti.ok _ _ h1);obtain⟨z,h3,h4,h5,-⟩:=f.zeros (σ:=σ) (ρ:=ρ) (G:=G) (w:=w);refine mH (v:=.pointer (some ⟨w.heap.size,0,none⟩)) (w':=pushB w z.cells e) ?_ ⟨_,hR.newBox hd hf.nb h4⟩;unfold execOp;simp only[ho];refine fC ?_;simp only[Instr.alloc,Sem.run_bind,kK f.info_ h3,Jai,Result.andThen_ok,Sem.run_pure]
 ·cases h2
theorem jZ {α:Type}{l:List α}{k:Nat}{r:List α}(h:k+r.length<=l.length):(setRange l k r).length=l.length:=by
 simp[setRange];omega
theorem gN {α:Type}{l:List α}{k:Nat}{r:List α}(h:k+r.length<=l.length)(j:Nat):(setRange l k r)[j]?=if k<=j/\j<k+r.length then r[j-k]? else l[j]?:=by
 unfold setRange;by_cases h1:j<k
 ·rw[Rba,Rbm (by simp;omega),Sbc,if_pos h1,if_neg (by omega)]
 ·by_cases h2:j<k+r.length
  ·rw[if_pos ⟨by omega,h2⟩,Rba,Rbl (by simp;omega),Rbm (by simp;omega)]
   congr 1
   simp;omega
  ·rw[if_neg (by omega),Rbl (by simp;omega),Rb3]
   congr 1
   simp;omega
theorem Na1 {α:Type}{l:List α}{k:Nat}{v:α}{r:List α}(h:k+(v::r).length<=l.length):setRange (l.set k v) (k+1) r=setRange l k (v::r):=by
 simp only[Rbe]at h;apply Tbu;intro j;rw[gN (by simp;omega),gN (by simp;omega)];by_cases h1:k+1<=j/\j<k+1+r.length
 ·rw[if_pos h1,if_pos (by simp;omega),show j-k=(j-(k+1))+1 by omega,Rb7]
 ·rw[if_neg h1,Sb0]
  by_cases h2:k=j
  ·subst h2
   rw[if_pos rfl,if_pos (by omega),if_pos (by simp)];simp
  ·rw[if_neg h2,if_neg (by simp;omega)]
theorem Tai (off:Nat):∀ (vs:List Value) (k:Nat) (cells:Array Value),off+k+vs.length<=cells.size ->
  ((vs.zipIdx k).foldl (fun cs x=>cs.setIfInBounds (off+x.2) x.1) cells).toList=setRange cells.toList (off+k) vs
 |[],k,cells,h=>by simp[setRange]
 | v :: r, k, cells, h => by
  simp only[Rbe]at h;simp only[List.zipIdx_cons,Tbf];rw[Tai off r (k+1) _ (by simp;omega),Array.toList_setIfInBounds,<- Rbn,Na1 (by simp;omega)]
theorem aD.setRange {ls ms:List aO}{us xs:List Value}(h:aD σ ρ G w ls us)(h':aD σ ρ G w ms xs){k:Nat}(hk:k+ms.length<=ls.length):aD σ ρ G w (setRange ls k ms) (setRange us k xs):=by
 have e1:=h.len;have e2:=h'.len;refine .of_get (by rw[jZ (by omega),jZ hk,e1]) fun i l v hi hv=>?_
 rw[gN hk]at hi;rw[gN (by omega)]at hv;rw[e2]at hv;split at hi
 ·rename_i hh
  rw[if_pos hh]at hv;obtain⟨v',h1,h2⟩:=h'.get hi;rw[h1]at hv;exact Option.some.inj hv▸h2
 ·rename_i hh
  rw[if_neg hh]at hv;obtain⟨v',h1,h2⟩:=h.get hi;rw[h1]at hv;exact Option.some.inj hv▸h2
theorem Oa8 {place:Nat->Option (Nat×Nat)}{cells:Array Value}{i off size:Nat}{v:Value}{rest:List (Nat×Value)}(hp:place i=some (off,size))(hs:v.cells.toList.length=size)(hb:off+size<=cells.size) :
  ∃ cells':Array Value,Instr.fill place cells ((i,v)::rest)=Instr.fill place cells' rest/\cells'.toList=setRange cells.toList off v.cells.toList:=by
 refine⟨v.cells.zipIdx.foldl (fun cs (x:Value×Nat)=>cs.setIfInBounds (off+x.2) x.1) cells,?_,?_⟩
 ·rw[Instr.fill,hp]
  dsimp only;have:v.cells.size=size:=by simpa using hs
  rw[if_neg];simp only[this];simp;omega
 ·have:=Tai off v.cells.toList 0 cells (by simpa[hs] using hb)
  rw[Rbx]at this;rw[<- this,<- Array.foldl_toList,Array.toList_zipIdx]
def Fam (σ:Nat->Option aP)(ρ:List D)(G:Gh)(w:World)(a:Act):List (Nat×Operand)->List (Nat×SV)->Prop
 |[],ps=>ps=[]
 |x::xs,ps=>∃ sv qs,ps=(x.1,sv)::qs/\bU σ ρ G w sv (a.eval x.2)/\Fam σ ρ G w a xs qs
theorem zG (hR:R E.ntmps F σ ρ a w G)(hg:gOn ρ g=true){ty:Nat->TypeId}:∀ {xs:List (Nat×Operand)} {ps:List (Nat×SV)},(Cav E g ty xs).eval σ=some ps ->
  Fam σ ρ G w a xs ps
 | [], ps, h => by
  simp only[Cav,aC,Option.some.injEq]at h;subst h;exact rfl
 | (i, x) :: xs, ps, h => by
  simp only[Cav,aA,Qb0,aC,Option.some.injEq]at h;obtain⟨sv,h1,l,h2,rfl⟩:=h;exact⟨sv,l,rfl,fG hR hg h1,zG hR hg h2⟩
theorem yV {flds:List (Nat×Nat)}{place:Nat->Option (Nat×Nat)}(ju:∀ i off t f,flds[i]?=some (off,t)->E.ti t=some f->place i=some (off,f.size)) :
  ∀ {xs:List (Nat×Operand)} {ps:List (Nat×SV)},Fam σ ρ G w a xs ps->∀ {ls fR:List aO} {us:Array Value},aD σ ρ G w ls us.toList->qQ flds E.ti ls ps=some fR ->
  ∃ bn,Instr.fill place us (xs.map fun x=>(x.1,a.eval x.2))=some bn/\aD σ ρ G w fR bn.toList
 | [], _, rfl, ls, fR, us, hl, h => by
  simp only[qQ,Option.some.injEq]at h;subst h;exact⟨us,rfl,hl⟩
 | (i, x) :: xs, _, ⟨sv, ps, rfl, h1, hr⟩, ls, fR, us, hl, h => by
  unfold qQ at h;split at h
  ·rename_i off t cP
   split at h
   ·rename_i f hf
    split at h
    ·rename_i vs gx
     cases hb:(Nat.beq vs.length f.size&&Nat.ble (off+f.size) ls.length) with
     |false=>rw[hb]at h;cases h
     | true =>
      rw[hb,cond_true]at h;simp only[Qb1,Rbv,Sbb]at hb;have h2:=gQ gx h1;have hlen:=hl.len;obtain⟨us1,h3,h4⟩:=Oa8 (rest:=xs.map fun x=>(x.1,a.eval x.2)) (ju _ _ _ _ cP hf) (by rw[h2.len];exact hb.1) (by rw[<- Tbm,hlen];exact hb.2);obtain⟨bn,h5,h6⟩:=yV ju hr (us:=us1) (by rw[h4];exact hl.setRange h2 (by rw[hb.1];exact hb.2)) h;exact⟨bn,by rw[Rbt,h3];exact h5,h6⟩
    ·cases h
   ·cases h
  ·cases h
theorem Aat {α β:Type}(f:α->Sem β)(g:α->β):∀ (l:List α),(∀ x∈l,(f x).run P w=.ok (g x) w)->(l.mapM f).run P w=.ok (l.map g) w
 |[],_=>by simp
 | x :: l, h => by
  rw[List.mapM_cons,Sem.run_bind,h x (by simp)];simp only[Result.andThen_ok];rw[Sem.run_bind,Aat f g l fun y hy=>h y (by simp[hy])];simp
theorem yL {α β:Type}(f:α->Sem β)(g:α->β)(l:Array α)(h:∀ x∈l.toList,(f x).run P w=.ok (g x) w):(l.mapM f).run P w=.ok (l.map g) w:=by
 rw[Array.mapM_eq_mapM_toList,map_eq_pure_bind,Sem.run_bind,Aat f g _ h];simp only[Result.andThen_ok,Sem.run_pure];congr 1;apply Ubm;simp
theorem wC {α β:Type}(f:List β->α->Option (List β)):∀ (l:List α),l.foldl (fun acc x=>acc.bind fun r=>f r x) none=none
 |[]=>rfl
 |x::l=>by rw[Tbf];exact wC f l
theorem yT {α β:Type}(f:List β->α->Option (List β)):∀ (l:List α) (r0 r:List β),l.foldl (fun acc x=>acc.bind fun r=>f r x) (some r0)=some r->∀ x∈l,∃ r1 r2,f r1 x=some r2
 |[],_,_,_,x,hx=>by simp at hx
 | y :: l, r0, r, h, x, hx => by
  rw[Tbf,Qb7]at h
  cases hf:f r0 y with
  |none=>rw[hf,wC]at h;cases h
  | some r1 =>
   rcases List.mem_cons.1 hx with rfl|hx
   ·exact⟨r0,r1,hf⟩
   ·rw[hf]at h
    exact yT f l r1 r h x hx
theorem Yan {d:Nat}{t:TypeId}{l:List TypeId}(h:flat P d t=some l):∃ i,P.info? t=some i:=by
 cases d with
 |zero=>cases h
 | succ d =>
  unfold flat at h;unfold Program.underlying at h
  cases hi:P.info? t with
  |none=>rw[hi]at h;cases h
  |some i=>exact⟨i,rfl⟩
theorem Vam {d:Nat}{t:TypeId}{l:List TypeId}{fs:Array Field}(h:flat P (d+1) t=some l)(hu:P.underlying t=some (.struct fs)):∀ f∈fs.toList,∃ i,P.info? f.type=some i:=by
 unfold flat at h;rw[hu]at h;dsimp only at h;intro f hf;obtain⟨r1,r2,h1⟩:=yT _ _ _ _ h f hf
 cases hm:flat P d f.type with
 |none=>rw[hm]at h1;cases h1
 |some m=>exact Yan hm
theorem bX.struct {t:TypeId}{i:TI}{info:TypeInfo}{u:TypeDesc}(f:bX P t i info u)(h:i.agg=true):∃ fs,u=.struct fs/\∀ fd∈fs.toList,∃ i,P.info? fd.type=some i:=by
 rw[f.agg]at h;have hc:=f.cells
 cases cP:flat P 12 t with
 |none=>rw[cP]at hc;cases hc
 | some l =>
  unfold Iaz at h;split at h
  ·rename_i fs
   exact⟨fs,rfl,Vam cP f.und⟩
  ·unfold flat at cP
   rw[f.und]at cP;cases cP
  ·cases h
theorem Qas (hR:R E.ntmps F σ ρ a w G)(hd:eT E.ntmps o)(hti:uO P E.ti){nv nb nr:Nat}{mv b6:Bool}{t:TypeId}{parts:Array (Nat×Operand)}(ho:o.op=.build t parts){res:bJ}
  (h:(oJ E mv b6 nv nb nr g o).eval σ=some res) (hs:aL cf ρ g nv res.lets):fV P E F σ ρ a w g o Q res.upd:=by
 simp only[oJ,ho,aA,Qb0,tiR,aT,aH]at h;obtain⟨ti,h1,_,h2,ps,h3,h⟩:=h;split at h2
 ·rename_i iy
  obtain⟨info,u,f⟩:=aU (hti.ok _ _ h1);obtain⟨fs,rfl,hfs⟩:=f.struct iy;split at h
  ·rename_i ls oh
   refine dC hR hd h hs fun hg _=>?_
   obtain⟨z,h4,h5,-,-⟩:=f.zeros (σ:=σ) (ρ:=ρ) (G:=G) (w:=w)
   have ju:∀ (i off t':Nat) (f':TI),ti.flds[i]?=some (off,t')->E.ti t'=some f'->(fs.map fun fd=>(fd.offset,((P.info? fd.type).map (·.size)).getD 0))[i]?=some (off,f'.size):=by
    intro i off t' f' cP xt;obtain⟨fs',fd,e1,e2,e3,e4⟩:=La9 f cP;obtain rfl:fs=fs':=by injection e1
    obtain⟨fe,u',ff⟩:=aU (hti.ok _ _ xt);rw[Array.getElem?_map,e2,Rb9,e3,e4,ff.info_];simp[ff.size]
   obtain⟨bn,h6,h7⟩:=yV ju (zG hR hg h3) (us:=z.cells) h5 oh;refine⟨.agg bn,⟨bn.toList,by simp,h7⟩,?_⟩;unfold execOp;simp only[ho];refine fC ?_
   have hm:=yL (P:=P) (w:=w) (fun fd:Field=>(do pure (fd.offset,<- sizeOf fd.type):Sem (Nat×Nat))) (fun fd=>(fd.offset,((P.info? fd.type).map (·.size)).getD 0)) fs (fun fd yt=>by
    obtain⟨i,hi⟩:=hfs fd yt;simp only[Sem.run_bind,run_sizeOf hi,Result.andThen_ok,Sem.run_pure,hi,Rb9,Option.getD_some])
   unfold Instr.build;simp only[Sem.run_bind,kK f.info_ h4,Result.andThen_ok,run_underlying f.und];rw[hm];have e:(parts.map fun x=>(x.1,a.eval x.2)).toList=parts.toList.map fun x=>(x.1,a.eval x.2):=by simp
   simp only[Result.andThen_ok];rw[e,h6];rfl
  ·cases h
 ·cases h2
end
section
variable {P:Program} {E:Env} {F:bE} {σ:Nat->Option aP} {ρ:List D} {a:Act} {w w':World} {G:Gh} {g:Option (aI×Bool)} {o:Oper} {cf:Nat->List D->Option (List D)} {Q:Exit->Act->World->Prop} {next:Act->World->Prop}
theorem add_plain {b:Addr}(h:b.spot=none)(k:Nat):b.add k=⟨b.block,b.off+k,none⟩:=by
 cases b;simp only at h;subst h;unfold Addr.add;split<;>simp_all
theorem lM.write (h:lM F G w){B off:Nat}{vs:List Value}{ow:Ow}(ho:G.own B=ow)(hz:ow≠.frz/\ow≠.oth)
  (hb:∀ b,ow=.box b->B<F.w0.heap.size->F.own0 B=.box b->(F.rng b).1<=off/\off+vs.length<=(F.rng b).2):lM F G (w.setCells B off vs):=by
 obtain⟨e1,e2,e3⟩:=gV B vs off w;refine⟨by rw[e1];exact h.os,by rw[e2];exact h.tape,by rw[e3];exact h.output,by rw[setCells_size];exact h.size,fun b hlt hf=>?_,fun b j hlt hj=>?_,fun b hlt=>?_⟩
 ·obtain⟨h1,h2⟩:=h.keep b hlt hf
  have bh:b≠B:=by
   rintro rfl
   rw[ho]at h2;rw[<- h2]at hf
   rcases hf with hf|hf
   ·exact hz.1 hf
   ·exact hz.2 hf
  exact⟨by rw[bY B vs off w b bh];exact h1,h2⟩
 ·obtain⟨h1,c0,c1,e,fr,h2,h3,h4,h5⟩:=h.boxes b j hlt hj
  refine⟨h1,c0,?_⟩;by_cases bh:b=B
  ·subst bh
   obtain⟨c',h6,h7,h8⟩:=Aaq b vs off w c1 e fr h3;refine⟨c',e,fr,h2,h6,by rw[h7];exact h4,fun k hk=>?_⟩;have dv:ow=.box j:=by rw[<- ho];exact h1
   obtain⟨h9,bo⟩:=hb j dv hlt hj;rw[h8 k (by omega)];exact h5 k hk
  ·exact⟨c1,e,fr,h2,by rw[bY B vs off w b bh];exact h3,h4,h5⟩
 ·rw[setCells_size]at hlt
  exact h.fresh b hlt
theorem Iai (hR:R E.ntmps F σ ρ a w G)(hti:uO P E.ti){nv:Nat}{mv b6:Bool}{t:TypeId}{x y:Operand}(ho:o.op=.store t x y){ti:TI}(hi:E.ti t=some ti){b off:Nat}{ls:List aO}{sv:SV}
  (hx:gOn ρ g=true->aB σ ρ G w (.px b off) (a.eval x)) (hy:gOn ρ g=true->bU σ ρ G w sv (a.eval y)) (oh:jE ti.agg sv=some ls) {res:bJ}
  (h:(Caj nv mv b6 o g ti (.px b off) ls).eval σ=some res):fV P E F σ ρ a w g o Q res.upd:=by
 simp only[Caj,aA,aH,Qb0,aQ,Qb7]at h;obtain⟨_,h1,h⟩:=h;split at h1
 ·rename_i kf
  simp only[Qb1,Rbv,Tbo]at kf;obtain⟨hlen,nx⟩:=kf;split at h
  ·rename_i bs hk
   simp only[aA,aH,Qb0]at h;obtain⟨_,h2,h⟩:=h;split at h2
   ·rename_i dm
    simp only[Qb1,Sbb]at dm;obtain⟨⟨hle,uv⟩,aj⟩:=dm;obtain rfl:=vO uv;simp only[aC,Option.some.injEq]at h;subst h;refine⟨fun hg=>?_,fun hg=>by simp[gOn]at hg⟩;obtain⟨info,u,f⟩:=aU (hti.ok _ _ hi);have hl:=gQ oh (hy hg);have jx:=hl.ones aj;have fS:=hl.len;have hpx:=hx hg;simp only[aB]at hpx;obtain⟨h3,h4,h5⟩:=hR.box hk;have h4:G.own (G.bx b).block=.box b:=by simpa using h4
    generalize gx:(a.eval y).cells.toList=vs at hl jx fS
    have aq:∀ j,off<=j->j<off+ls.length->∃ v,w.cell? ⟨(G.bx b).block,(G.bx b).off+j,none⟩=some v/\w.frozen? ⟨(G.bx b).block,(G.bx b).off+j,none⟩=false:=by
     intro j xo fj;have yW:bs[j]?=some bs[j]:=Qb3 (by omega);obtain⟨v,h6,h7,-⟩:=h5 j _ yW;rw[add_plain h3]at h6 h7;exact⟨v,h6,h7⟩
    have aw:(execOp a.eval o).run P w=.ok .skip (w.setCells (G.bx b).block ((G.bx b).off+off) vs):=by
     unfold execOp;simp only[ho]
     have:=Daz (P:=P) (w:=w) f (b:=(G.bx b).block) (off:=(G.bx b).off+off) (v:=a.eval y) (by rw[gx];omega)
      (fun j hj=>by
       obtain⟨v,h6,-⟩:=aq (off+j) (by omega) (by omega);exact⟨v,by rw[Rbn];exact h6⟩)
      (fun j hj=>by
       obtain⟨v,-,h6⟩:=aq (off+j) (by omega) (by omega);rw[Rbn];exact h6) (by rw[gx];exact jx)
     simp only[Instr.storeAt,Instr.sureAddr,Sem.run_bind,hpx.1,Sem.run_pure,Result.andThen_ok,add_plain h3,this,gx]
    refine Saf aw ⟨G,?_⟩;have bh:∀ b',G.own b'≠.box b->b'≠(G.bx b).block:=fun b' hb e=>hb (by rw[e];exact h4)
    have hkR:∀ r,upds σ [(kB b,aP.box false (setRange bs off ls))] (kR r)=σ (kR r):=fun r=>by
     refine dZ _ _ _ fun c hc=>?_
     simp only[Rbb,Prod.mk.injEq]at hc;exact eO hc.1.symm
    have cm:Fr σ G w (upds σ [(kB b,aP.box false (setRange bs off ls))]) G (w.setCells (G.bx b).block ((G.bx b).off+off) vs):=by
     refine⟨fun b' hb hlt=>⟨hb,bY _ _ _ _ _ (bh b' (by rw[hb];simp))⟩,fun r k _ hv=>?_,fun r k hk=>hk.same hkR,fun r k b' p _ _ hb=>⟨.inl hb,bY _ _ _ _ _ (bh b' (by rw[hb];simp))⟩,
      fun r k m _ hv=>⟨?_,fun b' p hb=>hb⟩,fun _ _=>rfl,fun _ _=>rfl,fun k hk=>dP _ _ _ (.inl hk),fun _ _ _ _ _ _ _ hb=>hb⟩
     ·obtain⟨x',m,st,e,hs⟩:=hv
      exact⟨x',m,st,by rw[<- hkR];exact e,hs⟩
     ·obtain⟨x',e⟩:=hv
      exact⟨x',by rw[<- hkR];exact e⟩
    have dj:(setRange bs off ls).length=bs.length:=jZ hle;rw[nx];refine hR.upd _ cm hR.tmps hR.defers (hR.frame.write h4 (by simp) fun b' e hlt og=>?_) (fun t _=>rfl) (fun b' ro fR cr cU=>?_) (fun b' fR cr hlt og=>?_) (fun k c u6 ox=>?_)
    ·obtain rfl:b=b':=by injection e
     have:=hR.rng b bs hk hlt og;rw[this];dsimp only;omega
    ·refine⟨rfl,bY _ _ _ _ _ (bh _ ?_)⟩
     obtain⟨_,h6,_⟩:=hR.box cr;rw[h6];split
     ·simp
     ·intro e
      obtain rfl:b'=b:=by injection e
      exact cU _ (List.mem_singleton.2 rfl)
    ·simp only[Rbb,Prod.mk.injEq,aP.box.injEq,true_and]at cr
     obtain⟨e,rfl⟩:=cr;obtain rfl:=Bai e;rw[dj];exact hR.rng b' bs hk hlt og
    ·simp only[Rbb,Prod.mk.injEq]at u6
     obtain⟨rfl,rfl⟩:=u6;refine⟨b,rfl,h3,by simpa using h4,fun j l hj=>?_⟩;rw[gN hle]at hj;rw[World.frozen?_setCells,add_plain h3];split at hj
     ·rename_i fx
      obtain⟨v,h6,h7⟩:=hl.get hj;obtain⟨u',h8,h9⟩:=aq j fx.1 fx.2;refine⟨v,?_,h9,aB.mono cm l v h7⟩
      have:=World.cell?_setCells_in (G.bx b).block vs ((G.bx b).off+off) w (fun j' dv=>by
       obtain⟨v',bo,-⟩:=aq (off+j') (by omega) (by omega);rw[Rbn,bo];rfl) (j-off) (by omega)
      rw[show (G.bx b).off+off+(j-off)=(G.bx b).off+j by omega]at this;rw[this,<- h6,Qb3]
     ·rename_i xn
      obtain⟨v,h6,h7,h8⟩:=h5 j l hj;rw[add_plain h3]at h6 h7;refine⟨v,?_,h7,aB.mono cm l v h8⟩;rw[World.cell?_setCells_out _ _ _ _ _ (fun _ _=>by dsimp only;omega)];exact h6
   ·cases h2
  ·cases h
 ·cases h1
end
theorem Rp.move {own own':Nat->Ow}{w w':World}{r r':Nat}{p:List Nat}{m:Nat}{v:Value}{d:D}(h:Rp own w r p m v d)
  (hz:∀ b,own b=.frz->b<w.heap.size->own' b=.frz/\w'.heap[b]?=w.heap[b]?):∀ (p':List Nat) (m':Nat),m'<=m ->
  (∀ b t,own b=.slc r (p++t)->own' b=(if t.length<m' then .slc r' (p'++t) else .frz)/\w'.heap[b]?=w.heap[b]?)->Rp own' w' r' p' m' v d:=by
 induction h with
 |sc h=>exact fun _ _ _ _=>.sc h
 |hole v h1=>exact fun _ _ _ _=>.hole v h1
 | fz h =>
  intro p' m' hm hs;obtain rfl:m'=0:=by omega
  exact .fz (h.mono' fun b hb hlt=>hz b hb hlt)
 | sl A a n c sz rs vs hn hc hA b7 ab aq bd ih =>
  rename_i p m;intro p' m' hm hs
  have hlt:∀ i row,rs[i]?=some row->i<rs.length:=fun i row hi=>by
   rcases Rbo i rs.length with h|h
   ·exact h
   ·simp[List.getElem?_eq_none h]at hi
  have tD:∀ i row,rs[i]?=some row->A=some a:=fun i row hi=>by
   rcases hA with e|⟨e,e'⟩
   ·exact e
   ·have:=hlt i row hi;omega
  cases m' with
  | zero =>
   refine .fz (.rows A a n c sz rs vs hn hc ?_ b7 (fun i row hi j d hj=>?_) (fun i row hi j d hj=>?_))
   ·rcases hA with e|⟨e,e'⟩
    ·exact .inr e
    ·exact .inl (by omega)
   ·obtain⟨h1,h2⟩:=hs a.block [] (by simpa using (ab (tD i row hi)).2.1)
    refine⟨by simpa using h1,?_⟩;exact (eF (w:=w) (w':=w') (by rw[add_block];exact h2)).trans (aq i row hi j d hj)
   ·exact (ih i row hi j d hj [] 0 (Nat.zero_le _) (fun b t hb=>by
     have:=hs b ([i*sz+j]++t) (by rw[<- Rba];exact hb);simpa using this)).zero
  | succ m' =>
   refine .sl A a n c sz rs vs hn hc hA b7 (fun e=>?_) (fun i row hi j d hj=>?_) (fun i row hi j d hj=>?_)
   ·obtain⟨h1,h2,h3⟩:=ab e
    obtain⟨h4,h5⟩:=hs a.block [] (by simpa using h2);refine⟨h1,by simpa using h4,fun k hk=>?_⟩;obtain⟨u,hu,hf⟩:=h3 k hk;exact⟨u,(eF (w:=w) (w':=w') (by rw[add_block];exact h5)).trans hu,(jT (w:=w) (w':=w') (by rw[add_block];exact h5)).trans hf⟩
   ·obtain⟨h1,h2⟩:=hs a.block [] (by simpa using (ab (tD i row hi)).2.1)
    exact (eF (w:=w) (w':=w') (by rw[add_block];exact h2)).trans (aq i row hi j d hj)
   ·refine ih i row hi j d hj (p'++[i*sz+j]) m' (by omega) (fun b t hb=>?_)
    have:=hs b ([i*sz+j]++t) (by rw[<- Rba];exact hb);simp only[Qb6,Sbk]at this;rw[<- Rba]at this;refine⟨?_,this.2⟩;rw[this.1];by_cases ht:t.length<m'
    ·rw[if_pos ht,if_pos (by omega)]
    ·rw[if_neg ht,if_neg (by omega)]
inductive Upd:List Nat->D->D->D->Prop
 |here (x y:D):Upd [] x y y
 | down (sz : Nat) (rs : List (List D)) (i j : Nat) (row : List D) (z z' y : D) (p : List Nat) (hi : rs[i]? = some row) (hj : row[j]? = some z)
   (h:Upd p z y z'):Upd ((i*sz+j)::p) (.rows sz rs) y (.rows sz (rs.set i (row.set j z')))
theorem Dbr {i j i' j' sz:Nat}(hj:j<sz)(dv:j'<sz)(h:i*sz+j=i'*sz+j'):i=i'/\j=j':=by
 have h1:(i*sz+j) / sz=i:=by
  rw[Uba,Nat.mul_add_div (by omega),Ubb hj,Rbx]
 have h2:(i'*sz+j') / sz=i':=by
  rw[Uba,Nat.mul_add_div (by omega),Ubb dv,Rbx]
 rw[h,h2]at h1;subst h1;exact⟨rfl,by omega⟩
theorem Rp.sl_inv {own:Nat->Ow}{w:World}{r:Nat}{p:List Nat}{m:Nat}{v:Value}{sz:Nat}{rs:List (List D)}(h:Rp own w r p (m+1) v (.rows sz rs)) :
  ∃ (A:Option Addr) (a:Addr) (n c:Nat) (vs:Nat->Nat->Value),v=.slice A n c/\rs.length=n/\n<=c/\(A=some a\/(A=none/\c=0))/\(∀ r∈rs,r.length=sz) /\
   (A=some a->a.spot=none/\own a.block=.slc r p/\∀ k,k<c*sz->∃ u,w.cell? (a.add k)=some u/\w.frozen? (a.add k)=false) /\
   (∀ i row,rs[i]?=some row->∀ j d,row[j]?=some d->w.cell? (a.add (i*sz+j))=some (vs i j)) /\
   (∀ i row,rs[i]?=some row->∀ j d,row[j]?=some d->Rp own w r (p++[i*sz+j]) m (vs i j) d):=by
 cases h with
 |sc h=>cases h
 |sl A a n c sz rs vs hn hc hA b7 ab aq bd=>exact⟨A,a,n,c,vs,rfl,hn,hc,hA,b7,ab,aq,bd⟩
theorem Rp.upd {own own':Nat->Ow}{w w':World}{r M':Nat}{full:List Nat}{y:D}{u:Value}
  (hz:∀ b,own b=.frz->b<w.heap.size->own' b=.frz/\w'.heap[b]?=w.heap[b]?)
  (hs:∀ b t,own b=.slc r t->¬ full <+: t->own' b=(if t.length<M' then .slc r t else .frz)/\w'.heap[b]?=w.heap[b]?)
  (hM:full.length<=M') (de:Rp own' w' r full (M'-full.length) u y) :
  ∀ (p q:List Nat) (M:Nat) (v:Value) (x x':D),full=q++p->M'<=M->Rp own w r q (M-q.length) v x->yG own w r q v p u->Upd p x y x'->Rp own' w' r q (M'-q.length) v x'
 | [], q, M, v, x, x', hf, hMM, hx, hn, hu => by
  cases hu;simp only[yG]at hn;rw[Rbs]at hf;subst hf hn;exact de
 | k :: p, q, M, v, x, x', hf, hMM, hx, hn, hu => by
  generalize hk:k::p=kp at hu
  cases hu with
  |here=>cases hk
  | down sz rs i j row z z' y p' hi hj hu =>
   obtain⟨rfl,rfl⟩:=List.cons.inj hk;have hlen:full.length=q.length+(p.length+1):=by rw[hf];simp
   obtain⟨m,hm⟩:∃ m,M-q.length=m+1:=⟨M-q.length-1,by omega⟩;obtain⟨m',te⟩:∃ m',M'-q.length=m'+1:=⟨M'-q.length-1,by omega⟩;rw[hm]at hx;rw[te];obtain⟨A,a,n,c,vs,rfl,h1,h2,h3,h4,h5,h6,h7⟩:=hx.sl_inv;have gC:i<rs.length:=(List.getElem?_eq_some_iff.1 hi).1
   have hA:A=some a:=by
    rcases h3 with e|⟨e,e'⟩
    ·exact e
    ·omega
   subst hA;obtain⟨h8,h9,bo⟩:=h5 rfl;obtain⟨a',n',c',u',e1,e2,e3,e4⟩:=hn;obtain⟨rfl,rfl,rfl⟩:a=a'/\n=n'/\c=c':=by injection e1 with a b c;exact⟨Option.some.inj a,b,c⟩
   have du:=h6 i row hi j z hj;rw[du]at e3;obtain rfl:=Option.some.inj e3
   have hq:¬ full <+: q:=by
    intro e;have:=e.length_le;omega
   obtain⟨cF,bg⟩:=hs _ _ h9 hq;rw[if_pos (by omega)]at cF;have cH:∀ k,w'.cell? (a.add k)=w.cell? (a.add k):=fun k=>eF (w:=w) (w':=w') (by rw[add_block];exact bg)
   have lR:∀ k,w'.frozen? (a.add k)=w.frozen? (a.add k):=fun k=>jT (w:=w) (w':=w') (by rw[add_block];exact bg)
   have bd:=Rp.upd hz hs hM de p (q++[i*sz+j]) M (vs i j) z z' (by rw[hf];simp) hMM (by
    have:=h7 i row hi j z hj;rwa[show M-(q++[i*sz+j]).length=m by simp;omega]) e4 hu
   rw[show M'-(q++[i*sz+j]).length=m' by simp;omega]at bd;have fX:row.length=sz:=h4 row (Rbi hi);have hlt:j<sz:=by rw[<- fX];exact (List.getElem?_eq_some_iff.1 hj).1
   have jl:∀ i' cz,(rs.set i (row.set j z'))[i']?=some cz->∀ j' d,cz[j']?=some d->(i'=i/\j'=j/\d=z')\/(∃ row0,rs[i']?=some row0/\row0[j']?=some d/\¬ (i'=i/\j'=j)):=by
    intro i' cz cu j' d dv;rw[Sb0]at cu;by_cases mB:i=i'
    ·subst mB
     rw[if_pos rfl,if_pos gC]at cu;obtain rfl:=Option.some.inj cu;rw[Sb0]at dv;by_cases qt:j=j'
     ·subst qt
      rw[if_pos rfl,if_pos (by omega)]at dv;exact .inl ⟨rfl,rfl,(Option.some.inj dv).symm⟩
     ·rw[if_neg qt]at dv
      exact .inr ⟨row,hi,dv,fun e=>qt e.2.symm⟩
    ·rw[if_neg mB]at cu
     exact .inr ⟨cz,cu,dv,fun e=>mB e.1.symm⟩
   refine .sl _ a n c sz _ vs (by simpa using h1) h2 (.inl rfl) (fun cz hr=>?_) (fun _=>⟨h8,cF,fun k hk=>?_⟩) (fun i' cz cu j' d dv=>?_) (fun i' cz cu j' d dv=>?_)
   ·rcases Tby hr with hr|rfl
    ·exact h4 _ hr
    ·simpa using fX
   ·rw[cH,lR]
    exact bo k hk
   ·rw[cH]
    rcases jl i' cz cu j' d dv with ⟨rfl,rfl,rfl⟩|⟨row0,b9,cL,-⟩
    ·exact du
    ·exact h6 _ _ b9 _ _ cL
   ·rcases jl i' cz cu j' d dv with ⟨rfl,rfl,rfl⟩|⟨row0,b9,cL,bh⟩
    ·exact bd
    ·refine (h7 _ _ b9 _ _ cL).move hz _ m' (by omega) fun b t hb=>?_
     have y6:¬ full <+: q++[i'*sz+j']++t:=by
      intro e;rw[hf,Rba,List.prefix_append_right_inj]at e;have e':=(List.cons_prefix_cons.1 e).1
      have qu:j'<sz:=by
       have:=(List.getElem?_eq_some_iff.1 cL).1;rw[h4 row0 (Rbi b9)]at this;exact this
      obtain⟨ij,je⟩:=Dbr qu hlt e'.symm;exact bh ⟨ij,je⟩
     obtain⟨fp,gj⟩:=hs b _ hb y6;simp only[Qb6,Sbk]at fp;refine⟨?_,gj⟩;rw[fp];by_cases ht:t.length<m'
     ·rw[if_pos ht,if_pos (by omega)]
     ·rw[if_neg ht,if_neg (by omega)]
theorem uQ:∀ (l:List Step) (n:Nat),l.foldl (fun s x=>s+x.n) n=n+bF l
 |[],n=>rfl
 | s :: l, n => by
  simp only[bF,Tbf];rw[uQ l (n+s.n),uQ l (0+s.n)];omega
theorem gU (s:Step)(l:List Step):bF (s::l)=s.n+bF l:=by
 show (s::l).foldl (fun s x=>s+x.n) 0=_
 rw[Tbf,uQ];omega
theorem eH:∀ (l m:List Step),bF (l++m)=bF l+bF m
 |[],m=>by simp[bF]
 |s::l,m=>by rw[Sby,gU,gU,eH l m];omega
section
variable {ρ:List D} {g:Option (aI×Bool)} {cf:Nat->List D->Option (List D)}
theorem aL.append:∀ {l m:List Step} {nv:Nat},aL cf ρ g nv (l++m)->aL cf ρ g nv l/\aL cf ρ g (nv+bF l) m
 |[],m,nv,h=>⟨trivial,h⟩
 | s :: l, m, nv, h => by
  obtain⟨h1,h2⟩:=h;obtain⟨h3,h4⟩:=aL.append h2;exact⟨⟨h1,h3⟩,by rw[gU,<- Rbn];exact h4⟩
theorem Qau {sz off n:Nat}{x i:D}{vs ds:List D}(h:(aR.set sz off n).run (x::i::vs)=some ds) :
  ∃ rs k iv row,x=.rows sz rs/\i=.int k iv/\0<=iv/\rs[iv.toNat]?=some row/\off+n<=row.length/\vs.length=n/\ds=[.rows sz (rs.set iv.toNat (row.take off++vs++row.drop (off+n)))]:=by
 cases x<;>cases i<;>simp only[aR.run]at h<;>first|cases h|skip
 rename_i ll rs k iv;split at h
 ·rename_i h1
  obtain⟨rfl,h1⟩:=h1;split at h
  ·rename_i row hr
   split at h
   ·rename_i h2
    simp only[Option.some.injEq]at h;exact⟨rs,k,iv,row,rfl,rfl,h1,hr,h2.1,h2.2,h.symm⟩
   ·cases h
  ·cases h
 ·cases h
theorem take_set {α:Type}{l:List α}{k:Nat}{x:α}(h:k<l.length):l.take k++[x]++l.drop (k+1)=l.set k x:=by
 apply Tbu;intro j;rw[Sb0];by_cases h1:j<k
 ·rw[Rba,Rbm (by simp;omega),Sbc,if_pos h1,if_neg (by omega)]
 ·by_cases h2:k=j
  ·subst h2
   rw[if_pos rfl,if_pos h,Rba,Rbl (by simp;omega)];simp[Nat.min_eq_left (Nat.le_of_lt h)]
  ·rw[if_neg h2,Rbl (by simp;omega),Rb3]
   congr 1
   simp;omega
theorem Aa7 (hg:gOn ρ g=true):∀ (q:List (aI×Nat×Nat)) (nv:Nat) (X y:aI),aL cf ρ g nv (Lag nv X q y).1->Upd (aZ ρ q) (X.val ρ) (y.val ρ) ((Lag nv X q y).2.val ρ)
 |[],nv,X,y,_=>.here _ _
 | (i, sz, off) :: p, nv, X, y, h => by
  have wq:aZ ρ ((i,sz,off)::p)=(kF ρ i*sz+off)::aZ ρ p:=rfl;rw[wq]
  cases p with
  | nil =>
   simp only[Lag]at h ⊢;obtain⟨d,h1,h2⟩:=Aa6 h.1 hg;simp only[Rbt,Rbz]at h1;obtain⟨rs,k,iv,row,e1,e2,e3,e4,e5,e6,e7⟩:=Qau h1;simp only[List.cons.injEq,and_true]at e7;have hi:kF ρ i=iv.toNat:=by simp[kF,e2]
   rw[e1,hi,h2,e7,take_set (by omega)];exact .down sz rs iv.toNat off row _ _ _ _ e4 (Qb3 (by omega)) (.here _ _)
  | cons z p =>
   have bh:Lag nv X ((i,sz,off)::z::p) y =
     ([.prim (.row sz off [false]) [X,i] 1]++(Lag (nv+1) (.v nv) (z::p) y).1++[.prim (.set sz off 1) [X,i,(Lag (nv+1) (.v nv) (z::p) y).2] 1],.v (nv+1+bF (Lag (nv+1) (.v nv) (z::p) y).1)):=rfl
   rw[bh]at h ⊢;obtain⟨h1,h2⟩:=aL.append h;obtain⟨h3,h4⟩:=aL.append h1;obtain⟨d,h5,h6⟩:=Aa6 h3.1 hg;have oa:bF [Step.prim (.row sz off [false]) [X,i] 1]=1:=rfl;rw[oa]at h4;rw[eH,oa,<- Rbn]at h2;have ih:=Aa7 hg (z::p) (nv+1) (.v nv) y h4;obtain⟨d',h7,h8⟩:=Aa6 h2.1 hg;simp only[Rbt,Rbz]at h5 h7;obtain⟨rs,k,iv,row,e1,e2,e3,e4,e5,e6,e7⟩:=Qau h7;obtain⟨rs',k',yw,cz,f1,f2,f3,f4,f5,f6,f7⟩:=Wau h5;rw[e1]at f1;obtain rfl:rs=rs':=by injection f1
   rw[e2]at f2;obtain⟨rfl,rfl⟩:k=k'/\iv=yw:=by injection f2 with a b;exact⟨a,b⟩
   rw[e4]at f4;obtain rfl:=Option.some.inj f4;simp only[List.cons.injEq,and_true]at e7;have hi:kF ρ i=iv.toNat:=by simp[kF,e2]
   have hz:row[off]?=some ((aI.v nv).val ρ):=by
    rw[h6]
    have:((row.drop off).take 1)[0]?=some d:=by
     rw[show [false].length=1 from rfl]at f7;rw[<- f7];rfl
    rw[Sbc,if_pos (by omega),Rb3]at this;simpa using this
   rw[e1,hi,h8,e7,take_set (by omega)];exact .down sz rs iv.toNat off row _ _ _ _ e4 hz ih
end
section
variable {P:Program} {E:Env} {F:bE} {n:Nat} {σ:Nat->Option aP} {ρ:List D} {a:Act} {w w':World} {G G':Gh} {g:Option (aI×Bool)} {o:Oper} {cf:Nat->List D->Option (List D)} {Q:Exit->Act->World->Prop} {next:Act->World->Prop}
def Chg (σ:Nat->Option aP)(G:Gh)(w:World)(G':Gh)(w':World)(r:Nat)(c:aP):Prop :=
 (σ (kR r)=none/\∃ x m an st,c=.root x m an st) \/
 (∃ x m an x' m',σ (kR r)=some (.root x m an .live)/\c=.root x' m' (an+1) .live) \/
 (∃ x m an st,c=.root x m an st/\st≠.live/\st≠.frozen) \/
 (∃ x m an,σ (kR r)=some (.root x m an .live)/\c=.root x m an .frozen/\∀ b p,G.own b=.slc r p->G'.own b=.frz/\w'.heap[b]?=w.heap[b]?)
theorem Va9 (u:List (Nat×aP))(σ:Nat->Option aP)(k:Nat)(h:∃ c,(k,c)∈u):∃ c,(k,c)∈u/\upds σ u k=some c:=by
 have h1:=dP u σ k (.inr h);obtain⟨c,hc⟩:=Option.isSome_iff_exists.1 h1
 rcases oG u σ k c hc with h2|⟨h2,-⟩
 ·exact⟨c,h2,hc⟩
 ·obtain⟨c',cQ⟩:=h
  exact absurd cQ (h2 c')
theorem Fr.of {u:List (Nat×aP)}(vq:∀ b,G.own b=.frz->b<w.heap.size->G'.own b=.frz/\w'.heap[b]?=w.heap[b]?)
  (uz:∀ r b p,(∀ c,(kR r,c)∉u)->G.own b=.slc r p->G'.own b=.slc r p/\w'.heap[b]?=w.heap[b]?)
  (vt:∀ r c,(kR r,c)∈u->upds σ u (kR r)=some c->Chg σ G w G' w' r c)
  (lz:∀ r x m k,σ (kR r)=some (.root x m k .frozen)->∀ b p,G'.own b=.slc r p->G.own b=.slc r p)
  (pC:∀ r,(σ (kR r)).isSome->G'.hdr r=G.hdr r) (cT:∀ b,(σ (kB b)).isSome->G'.bx b=G.bx b):Fr σ G w (upds σ u) G' w':=by
 have iu:∀ r,(∀ c,(kR r,c)∉u)\/∃ c,(kR r,c)∈u/\upds σ u (kR r)=some c/\Chg σ G w G' w' r c:=by
  intro r;by_cases h:∃ c,(kR r,c)∈u
  ·obtain⟨c,h1,h2⟩:=Va9 u σ (kR r) h
   exact .inr ⟨c,h1,h2,vt r c h1 h2⟩
  ·exact .inl fun c hc=>h ⟨c,hc⟩
 have b5:∀ r k,iJ σ r k->kY (upds σ u) r k->kY σ r k:=by
  intro r k hk hv
  rcases iu r with h|⟨c,h1,h2,h3⟩
  ·obtain⟨x,m,st,e,hs⟩:=hv
   rw[dZ u σ _ h]at e;exact⟨x,m,st,e,hs⟩
  ·obtain⟨x,m,st,e,hs⟩:=hv
   rw[h2]at e;obtain rfl:=Option.some.inj e;obtain⟨x0,m0,v0,st0,e0,ui⟩:=hk
   rcases h3 with ⟨h4,-⟩|⟨x1,m1,v1,x2,m2,h4,h5⟩|⟨x1,m1,v1,st1,h5,h6,h7⟩|⟨x1,m1,v1,h4,h5,-⟩
   ·rw[h4]at e0;cases e0
   ·rw[h4]at e0
    injection e0 with e0
    injection e0 with i1 i2 i3 i4
    injection h5 with j1 j2 j3 j4
    have:=ui (.inl i4.symm);omega
   ·injection h5 with j1 j2 j3 j4
    rw[j4]at hs
    rcases hs with hs|hs
    ·exact absurd hs h6
    ·exact absurd hs h7
   ·injection h5 with j1 j2 j3 j4
    exact⟨x1,m1,.live,by rw[h4,j3],.inl rfl⟩
 refine⟨vq,b5,fun r k hk=>?_,fun r k b p hv uu hb=>?_,fun r k m hk hl=>?_,pC,cT,fun k hk=>dP _ _ _ (.inl hk),lz⟩
 ·rcases iu r with h|⟨c,h1,h2,h3⟩
  ·obtain⟨x,m,an,st,e,hs⟩:=hk
   exact⟨x,m,an,st,by rw[dZ u σ _ h];exact e,hs⟩
  ·obtain⟨x0,m0,v0,st0,e0,ui⟩:=hk
   rcases h3 with ⟨h4,-⟩|⟨x1,m1,v1,x2,m2,h4,h5⟩|⟨x1,m1,v1,st1,h5,h6,h7⟩|⟨x1,m1,v1,h4,h5,-⟩
   ·rw[h4]at e0;cases e0
   ·rw[h4]at e0
    injection e0 with e0
    injection e0 with i1 i2 i3 i4
    have:=ui (.inl i4.symm);exact⟨_,_,_,_,by rw[h2,h5],fun _=>by omega⟩
   ·exact⟨_,_,_,_,by rw[h2,h5],fun hs=>by rcases hs with hs|hs<;>contradiction⟩
   ·rw[h4]at e0
    injection e0 with e0
    injection e0 with i1 i2 i3 i4
    have:=ui (.inl i4.symm);exact⟨_,_,_,_,by rw[h2,h5],fun _=>by omega⟩
 ·rcases iu r with h|⟨c,h1,h2,h3⟩
  ·exact⟨.inl (uz r b p h hb).1,(uz r b p h hb).2⟩
  ·obtain⟨x,m,st,e,hs⟩:=hv
   obtain⟨x',m',qf,e',fL⟩:=uu;rw[h2]at e';obtain rfl:=Option.some.inj e'
   rcases h3 with ⟨h4,-⟩|⟨x1,m1,v1,x2,m2,h4,h5⟩|⟨x1,m1,v1,st1,h5,h6,h7⟩|⟨x1,m1,v1,h4,h5,h6⟩
   ·rw[h4]at e;cases e
   ·rw[h4]at e
    injection e with e
    injection e with i1 i2 i3 i4
    injection h5 with j1 j2 j3 j4
    omega
   ·injection h5 with j1 j2 j3 j4
    rw[j4]at fL
    rcases fL with hs|hs
    ·exact absurd hs h6
    ·exact absurd hs h7
   ·exact⟨.inr (h6 b p hb).1,(h6 b p hb).2⟩
 ·rcases iu r with h|⟨c,h1,h2,h3⟩
  ·obtain⟨x,e⟩:=hl
   rw[dZ u σ _ h]at e;exact⟨⟨x,e⟩,fun b p hb=>(uz r b p h hb).1⟩
  ·obtain⟨x,e⟩:=hl
   rw[h2]at e;obtain rfl:=Option.some.inj e;obtain⟨x0,m0,v0,st0,e0,ui⟩:=hk
   rcases h3 with ⟨h4,-⟩|⟨x1,m1,v1,x2,m2,h4,h5⟩|⟨x1,m1,v1,st1,h5,h6,h7⟩|⟨x1,m1,v1,h4,h5,-⟩
   ·rw[h4]at e0;cases e0
   ·rw[h4]at e0
    injection e0 with e0
    injection e0 with i1 i2 i3 i4
    injection h5 with j1 j2 j3 j4
    have:=ui (.inl i4.symm);omega
   ·injection h5 with j1 j2 j3 j4
    exact absurd j4.symm h6
   ·injection h5 with j1 j2 j3 j4
    cases j4
def lS (f:Nat->List Nat->Ow):Ow->Ow
 |.slc s p=>f s p
 |o=>o
theorem R.own (h:R E.ntmps F σ ρ a w G)(hd:eT E.ntmps o){sv:SV}{v:Value}{ur:List (Nat×aP)}{f:Nat->List Nat->Ow}{wr:Nat->Prop}
  (hu:∀ k c,(k,c)∈ur->∃ r,k=kR r)
  (ab:∀ b,b<w.heap.size->G'.own b=lS f (G.own b)) (vg:∀ b,w'.heap.size<=b->G'.own b=.frz)
  (iw:w'.os=w.os/\w'.tape=w.tape/\w'.output=w.output/\w.heap.size<=w'.heap.size)
  (r7:∀ b,w.heap.size<=b->G'.own b=.frz\/∃ r p,G'.own b=.slc r p/\σ (kR r)=none)
  (bg:∀ b,b<w.heap.size->¬ wr b->w'.heap[b]?=w.heap[b]?) (yj:∀ b,wr b->∃ r p,G.own b=.slc r p/\∃ c,(kR r,c)∈ur)
  (uz:∀ b r p,G.own b=.slc r p->(∀ c,(kR r,c)∉ur)->f r p=.slc r p)
  (vt:∀ r c,(kR r,c)∈ur->upds σ (dL o g sv++ur) (kR r)=some c->Chg σ G w G' w' r c)
  (lz:∀ r x m k,σ (kR r)=some (.root x m k .frozen)->∀ s p q,f s p=.slc r q->s=r/\p=q)
  (pC:∀ r,(σ (kR r)).isSome->G'.hdr r=G.hdr r) (cT:G'.bx=G.bx)
  (b5:Fr σ G w (upds σ (dL o g sv++ur)) G' w'->gOn ρ g=true->bU (upds σ (dL o g sv++ur)) ρ G' w' sv v)
  (cw:Fr σ G w (upds σ (dL o g sv++ur)) G' w'->∀ r c,(kR r,c)∈ur->upds σ (dL o g sv++ur) (kR r)=some c->∃ x m an st,c=.root x m an st/\bM (upds σ (dL o g sv++ur)) ρ G' w' r x m st) :
  R E.ntmps F (upds σ (dL o g sv++ur)) ρ (a.put o.dst v) w' G':=by
 have gy:=Hat o g sv
 have fx:∀ r c,(kR r,c)∈dL o g sv++ur->(kR r,c)∈ur:=by
  intro r c hc
  rcases List.mem_append.1 hc with hc|hc
  ·obtain⟨t,e⟩:=gy _ _ hc
   exact absurd e.symm gX
  ·exact hc
 have jc:∀ b r p,G.own b=.slc r p->b<w.heap.size:=fun b r p hb=>by
  rcases Rbo b w.heap.size with h1|h1
  ·exact h1
  ·rw[h.frame.fresh b h1]at hb;cases hb
 have mL:∀ b,b<w.heap.size->(∀ r p,G.own b≠.slc r p)->G'.own b=G.own b/\w'.heap[b]?=w.heap[b]?:=fun b hlt hb=>by
  refine⟨?_,bg b hlt fun hw=>?_⟩
  ·rw[ab b hlt]
   unfold lS;split
   ·rename_i s p e
    exact absurd e (hb s p)
   ·rfl
  ·obtain⟨r,p,e,-⟩:=yj b hw
   exact hb r p e
 have cm:Fr σ G w (upds σ (dL o g sv++ur)) G' w':=by
  refine Fr.of (fun b hb hlt=>?_) (fun r b p cU hb=>?_) (fun r c hc cQ=>vt r c (fx r c hc) cQ) (fun r x m k hk b p hb=>?_) pC (fun b _=>by rw[cT])
  ·obtain⟨h1,h2⟩:=mL b hlt (by rw[hb];simp)
   exact⟨h1.trans hb,h2⟩
  ·have hlt:=jc b r p hb
   have sL:∀ c,(kR r,c)∉ur:=fun c hc=>cU c (Qb5 _ hc)
   refine⟨by rw[ab b hlt,hb];exact uz b r p hb sL,bg b hlt fun hw=>?_⟩;obtain⟨r',p',e,c,hc⟩:=yj b hw;rw[hb]at e
   injection e with e1 e2
   subst e1;exact sL c hc
  ·rcases Rbo b w.heap.size with hlt|hlt
   ·rw[ab b hlt]at hb
    cases e:G.own b with
    | slc s q =>
     rw[e]at hb;obtain⟨rfl,rfl⟩:=lz r x m k hk s q p hb;rfl
    |_=>rw[e]at hb;exact hb
   ·rcases r7 b hlt with e|⟨r',p',e,hn⟩
    ·rw[e]at hb;cases hb
    ·rw[e]at hb
     injection hb with e1 e2
     subst e1;rw[hn]at hk;cases hk
 refine h.upd _ cm (by rw[Aa2];exact h.tmps) (by rw[put_defers];exact h.defers) ?_ (fun t ht=>Ea3 ht) (fun b ro bs hb _=>?_) (fun b bs hb hlt ho=>?_) (fun k c hk fy=>?_)
 ·obtain⟨e1,e2,e3,e4⟩:=iw
  refine⟨e1.trans h.frame.os,e2.trans h.frame.tape,e3.trans h.frame.output,by have:=h.frame.size;omega,fun b hlt hf=>?_,fun b j hlt hj=>?_,vg⟩
  ·obtain⟨h1,h2⟩:=h.frame.keep b hlt hf
   obtain⟨h3,h4⟩:=mL b (by have:=h.frame.size;omega) (fun r p e=>by
    rw[e]at h2;rw[<- h2]at hf
    rcases hf with hf|hf<;>cases hf)
   exact⟨h4.trans h1,h3.trans h2⟩
  ·obtain⟨h1,c0,c1,e,fr,h2,h3,h4⟩:=h.frame.boxes b j hlt hj
   obtain⟨h5,h6⟩:=mL b (by have:=h.frame.size;omega) (by rw[h1];simp);exact⟨h5.trans h1,c0,c1,e,fr,h2,h6.trans h3,h4⟩
 ·obtain⟨_,h2,h3⟩:=h.box hb
  rcases Rbo (G.bx b).block w.heap.size with hlt|hlt
  ·exact mL _ hlt (by rw[h2];split<;>simp)
  ·rw[h.frame.fresh _ hlt]at h2
   split at h2<;>cases h2
 ·rcases List.mem_append.1 hb with hb|hb
  ·obtain⟨t,e⟩:=gy _ _ hb
   exact absurd e.symm kP
  ·obtain⟨r,e⟩:=hu _ _ hb
   exact absurd e eO
 ·rcases List.mem_append.1 hk with hk|hk
  ·obtain⟨d,jh,rfl,rfl⟩:=xS hk
   refine⟨d,rfl,fun hg=>?_⟩;rw[jh,mY _ _ _ _ _ (hd d jh) h.tmps];exact b5 cm hg
  ·obtain⟨r,rfl⟩:=hu _ _ hk
   obtain⟨x,m,an,st,rfl,nz⟩:=cw cm r c hk fy;exact⟨r,rfl,by rw[fy];rfl,nz⟩
end
section
variable {P:Program} {E:Env} {F:bE} {n:Nat} {σ:Nat->Option aP} {ρ:List D} {a:Act} {w w':World} {G G':Gh} {g:Option (aI×Bool)} {o:Oper} {cf:Nat->List D->Option (List D)} {Q:Exit->Act->World->Prop} {next:Act->World->Prop}
inductive Iac (σ:Nat->Option aP) (ρ:List D) (G:Gh) (w:World) (pu:Put) (off:Nat) (v:Value) (x:aI):Prop
 |sc (h:Sc v (x.val ρ))
 |nil (z:Nat) (hx:x.val ρ=.rows z []) (hv:v=.slice none 0 0)
 |mv (r m an:Nat) (hm:(off,r,m)∈pu.moves) (hr:σ (kR r)=some (.root x m an .live)) (hv:v=G.hdr r) (hd:pu.depth<=m)
 |hole (r k m:Nat) (q:List (aI×Nat×Nat)) (hm:(off,r,q)∈pu.holes) (hl:yA σ r k m) (hq:q.length+1<=m) (cA:Rp G.own w r (aZ ρ q) (m-q.length) v (x.val ρ)) (hn:yG G.own w r [] (G.hdr r) (aZ ρ q) v) (hd:pu.depth<=m-q.length)
 |fz (hd:pu.depth=0) (h:Rd (fun b=>G.own b=.frz\/∃ r p,r∈pu.frz/\G.own b=.slc r p) w v (x.val ρ))
theorem Iac.left {A B:Put}{off:Nat}{v:Value}{x:aI}(h:Iac σ ρ G w A off v x):Iac σ ρ G w ⟨A.xs++B.xs,A.moves++B.moves,A.holes++B.holes,A.frz++B.frz,min A.depth B.depth⟩ off v x:=by
 cases h with
 |sc h=>exact .sc h
 |nil z hx hv=>exact .nil z hx hv
 |mv r m an hm hr hv hd=>exact .mv r m an (Qb2 _ hm) hr hv (by dsimp only;omega)
 |hole r k m q hm hl hq cA hn hd=>exact .hole r k m q (Qb2 _ hm) hl hq cA hn (by dsimp only;omega)
 |fz hd h=>exact .fz (by dsimp only;omega) (h.mono fun b hb=>⟨hb.imp id fun ⟨r,p,h1,h2⟩=>⟨r,p,Qb2 _ h1,h2⟩,rfl⟩)
theorem Iac.right {A B:Put}{off:Nat}{v:Value}{x:aI}(h:Iac σ ρ G w B off v x):Iac σ ρ G w ⟨A.xs++B.xs,A.moves++B.moves,A.holes++B.holes,A.frz++B.frz,min A.depth B.depth⟩ off v x:=by
 cases h with
 |sc h=>exact .sc h
 |nil z hx hv=>exact .nil z hx hv
 |mv r m an hm hr hv hd=>exact .mv r m an (Qb5 _ hm) hr hv (by dsimp only;omega)
 |hole r k m q hm hl hq cA hn hd=>exact .hole r k m q (Qb5 _ hm) hl hq cA hn (by dsimp only;omega)
 |fz hd h=>exact .fz (by dsimp only;omega) (h.mono fun b hb=>⟨hb.imp id fun ⟨r,p,h1,h2⟩=>⟨r,p,Qb5 _ h1,h2⟩,rfl⟩)
theorem Qa1 (hR:R E.ntmps F σ ρ a w G){mv b6:Bool}{off:Nat}{l:aO}{pu:Put}(h:(Qa2 mv b6 off l).eval σ=some pu){v:Value}(hl:aB σ ρ G w l v) :
  ∃ x,pu.xs=[x]/\Iac σ ρ G w pu off v x/\(∀ z∈pu.moves,z.1=off/\∃ x an,σ (kR z.2.1)=some (.root x z.2.2 an .live))/\(∀ z∈pu.holes,z.1=off):=by
 unfold Qa2 at h;split at h
 ·rename_i x
  simp only[aC,Option.some.injEq]at h;subst h;simp only[aB]at hl;exact⟨x,rfl,.sc hl,by simp,by simp⟩
 ·rename_i r
  simp only[aA,aQ,Qb7]at h;simp only[aB]at hl;split at h
  ·rename_i x m an hk
   cases mv with
   | true =>
    simp only[cond_true,aC,Option.some.injEq]at h;subst h;refine⟨x,rfl,.mv r m an (by simp) hk hl.1 (Rbg _),fun z hz=>?_,by simp⟩;simp only[Rbb]at hz;subst hz;exact⟨rfl,x,an,hk⟩
   | false =>
    simp only[cond_false,aC,Option.some.injEq]at h;subst h;refine⟨x,rfl,.fz rfl ?_,by simp,by simp⟩;have:=hR.root hk;simp only[bM]at this;rw[<- hl.1]at this;exact this.rd.mono fun b hb=>⟨hb.imp id fun ⟨q,hq⟩=>⟨r,q,by simp,hq⟩,rfl⟩
  ·rename_i x m an hk
   simp only[aC,Option.some.injEq]at h;subst h;refine⟨x,rfl,.fz rfl ?_,by simp,by simp⟩;have:=(hR.root hk).1;rw[<- hl.1]at this;exact this.mono fun b hb=>⟨.inl hb,rfl⟩
  ·cases h
 ·rename_i deps p nie x
  split at h
  ·rename_i z
   simp only[aC,Option.some.injEq]at h;subst h;refine⟨_,rfl,.nil z rfl ?_,by simp,by simp⟩;simp only[aB]at hl;exact (hl.2 (by simp)).2.1 trivial z rfl
  ·rename_i bh
   simp only[aA,Qb0]at h;obtain⟨s,h1,h⟩:=h;have hs:=dM hR h1 hl
   have hx:s.x=x:=by
    unfold xD at h1;simp only[aA,Qb0]at h1;obtain⟨ds,-,h3⟩:=h1;split at h3
    ·simp only[aC,Option.some.injEq]at h3;rw[<- h3]
    ·simp only[aA,aQ,Qb7]at h3
     split at h3
     ·simp only[aC,Option.some.injEq]at h3;rw[<- h3]
     ·cases h3
    ·simp only[aC,Option.some.injEq]at h3;rw[<- h3]
   have jk:∀ frz:List Nat,(∀ z∈s.deps,z.1∈frz)->Rd (fun b=>G.own b=.frz\/∃ r p,r∈frz/\G.own b=.slc r p) w v (x.val ρ):=by
    intro frz hz;have:=hs.rd;rw[hx]at this;exact this.mono fun b hb=>⟨hb.imp id fun ⟨r,k,p,h2,h3⟩=>⟨r,p,hz _ h2,h3⟩,rfl⟩
   split at h
   ·rename_i r k m q ho
    have ab:=hs.own;unfold uI at ab;rw[ho]at ab;obtain⟨h2,h3,h4,h5,h6⟩:=ab;rw[hx]at h5
    cases hb:(b6&&Nat.ble (q.length+1) m) with
    | true =>
     rw[hb]at h;simp only[cond_true,aC,Option.some.injEq]at h;subst h;simp only[Qb1,Sbb]at hb;refine⟨x,rfl,.hole r k m q (by simp) h3 hb.2 h5 h6 (Rbg _),by simp,by simp⟩
    | false =>
     rw[hb]at h;simp only[cond_false,aC,Option.some.injEq]at h;subst h;refine⟨x,rfl,.fz rfl (jk _ fun z hz=>?_),by simp,by simp⟩;rw[h2]at hz;simp only[Rbb]at hz;subst hz;simp
   ·simp only[aC,Option.some.injEq]at h
    subst h;exact⟨x,rfl,.fz rfl (jk _ fun z hz=>Sbh hz),by simp,by simp⟩
 ·cases h
theorem sF (hR:R E.ntmps F σ ρ a w G){mv b6:Bool}:∀ {ls:List aO} {off:Nat} {pu:Put},(qJ mv b6 off ls).eval σ=some pu->∀ {vs:List Value},aD σ ρ G w ls vs ->
  pu.xs.length=ls.length/\(∀ j v x,vs[j]?=some v->pu.xs[j]?=some x->Iac σ ρ G w pu (off+j) v x) /\
  (∀ z∈pu.moves,off<=z.1/\z.1<off+ls.length/\∃ x an,σ (kR z.2.1)=some (.root x z.2.2 an .live))
 | [], off, pu, h, vs, hl => by
  simp only[qJ,aC,Option.some.injEq]at h;subst h;exact⟨rfl,by simp,by simp⟩
 | l :: ls, off, pu, h, vs, hl => by
  simp only[qJ,aA,Qb0,aC,Option.some.injEq]at h;obtain⟨A,h1,B,h2,rfl⟩:=h;simp only[aD]at hl;obtain⟨u,us,rfl,h3,h4⟩:=hl;obtain⟨x,h5,h6,h7,-⟩:=Qa1 hR h1 h3;obtain⟨h8,h9,bo⟩:=sF hR h2 h4;refine⟨by simp[h5,h8],fun j v y hv hy=>?_,fun z hz=>?_⟩
  ·rw[h5]at hy
   cases j with
   | zero =>
    simp only[Qb9,Option.some.injEq,Tbk]at hv hy;subst hv hy;exact h6.left
   | succ j =>
    simp only[Rb7,Tbk]at hv hy;have:=(h9 j v y hv hy).right (A:=A);rwa[show off+1+j=off+(j+1) by omega]at this
  ·simp only[Rbe]
   rcases List.mem_append.1 hz with hz|hz
   ·obtain⟨e,b9⟩:=h7 z hz
    exact⟨by omega,by omega,b9⟩
   ·obtain⟨e1,e2,b9⟩:=bo z hz
    exact⟨by omega,by omega,b9⟩
theorem fK:∀ {rs:List Nat} {fr:List (Nat×aP)},(dH rs).eval σ=some fr ->
  (∀ r∈rs,(∃ x m an,σ (kR r)=some (.root x m an .live)/\(kR r,aP.root x m an .frozen)∈fr)\/∃ x m an,σ (kR r)=some (.root x m an .frozen)) /\
  (∀ k c,(k,c)∈fr->∃ r∈rs,∃ x m an,k=kR r/\c=.root x m an .frozen/\σ (kR r)=some (.root x m an .live))
 | [], fr, h => by
  simp only[dH,aC,Option.some.injEq]at h;subst h;simp
 | r :: rs, fr, h => by
  simp only[dH,aA,aQ,Qb7]at h;split at h
  ·rename_i x m an hk
   simp only[aA,Qb0,aC,Option.some.injEq]at h;obtain⟨l,h1,rfl⟩:=h;obtain⟨h2,h3⟩:=fK h1;refine⟨fun s hs=>?_,fun k c hc=>?_⟩
   ·rcases List.mem_cons.1 hs with rfl|hs
    ·exact .inl ⟨x,m,an,hk,Rbj⟩
    ·rcases h2 s hs with ⟨x',m',v',h4,h5⟩|h4
     ·exact .inl ⟨x',m',v',h4,Rbd _ h5⟩
     ·exact .inr h4
   ·rcases List.mem_cons.1 hc with hc|hc
    ·obtain⟨rfl,rfl⟩:=Prod.mk.inj hc
     exact⟨r,Rbj,x,m,an,rfl,rfl,hk⟩
    ·obtain⟨s,hs,h4⟩:=h3 k c hc
     exact⟨s,Rbd _ hs,h4⟩
  ·rename_i x m an hk
   obtain⟨h2,h3⟩:=fK h;refine⟨fun s hs=>?_,fun k c hc=>?_⟩
   ·rcases List.mem_cons.1 hs with rfl|hs
    ·exact .inr ⟨x,m,an,hk⟩
    ·exact h2 s hs
   ·obtain⟨s,hs,h4⟩:=h3 k c hc
    exact⟨s,Rbd _ hs,h4⟩
  ·cases h
end
theorem lL {l:List Nat}{n:Nat}:has l n=true↔n∈l:=by
 unfold has;simp only[List.any_eq_true,Rbv];constructor
 ·rintro⟨x,h,rfl⟩;exact h
 ·exact fun h=>⟨n,h,rfl⟩
theorem zP {l:List Nat}{n:Nat}:has l n=false↔n∉l:=by
 rw[<- lL];simp
theorem sP:∀ {l:List (Nat×Nat×Nat)},distinct (l.map (·.2.1))=true->∀ z∈l,l.find? (fun y=>Nat.beq y.2.1 z.2.1)=some z
 |[],_,z,hz=>by simp at hz
 | y :: l, h, z, hz => by
  simp only[Rbt,distinct,Qb1,Rbp]at h;rw[List.find?_cons]
  rcases List.mem_cons.1 hz with rfl|hz
  ·have:Nat.beq z.2.1 z.2.1=true:=by simp
   rw[this]
  ·have:Nat.beq y.2.1 z.2.1=false:=by
    cases e:Nat.beq y.2.1 z.2.1 with
    |false=>rfl
    | true =>
     simp only[Rbv]at e;have h1:=zP.1 h.1;rw[e]at h1;exact absurd (Sbh (f:=fun x:Nat×Nat×Nat=>x.2.1) hz) h1
   rw[this];exact sP h.2 z hz
theorem Hak {l:List (Nat×Nat×Nat)}{s:Nat}(h:s∉l.map (·.2.1)):l.find? (fun y=>Nat.beq y.2.1 s)=none:=by
 rw[List.find?_eq_none];intro x hx;simp only[Rbv];intro e;exact h (e▸Sbh (f:=fun x:Nat×Nat×Nat=>x.2.1) hx)
section
variable {P:Program} {E:Env} {F:bE} {n:Nat} {σ:Nat->Option aP} {ρ:List D} {a:Act} {w w':World} {G G':Gh} {g:Option (aI×Bool)} {o:Oper} {cf:Nat->List D->Option (List D)} {Q:Exit->Act->World->Prop} {next:Act->World->Prop}
theorem Rd.nil {ok:Nat->Prop}{z:Nat}:Rd ok w (.slice none 0 0) (.rows z []) :=
 .rows none ⟨0,0,none⟩ 0 0 _ [] (fun _ _=>undef) rfl (Rbg _) (.inl rfl) (by simp) (by simp) (by simp)
theorem Rp.nil {own:Nat->Ow}{r:Nat}{p:List Nat}{m z:Nat}:Rp own w r p m (.slice none 0 0) (.rows z []):=by
 cases m with
 |zero=>exact .fz Rd.nil
 |succ m=>exact .sl none ⟨0,0,none⟩ 0 0 _ [] (fun _ _=>undef) rfl (Rbg _) (.inr ⟨rfl,rfl⟩) (by simp) (by simp) (by simp) (by simp)
theorem Iac.rp (hR:R E.ntmps F σ ρ a w G){pu:Put}{off:Nat}{v:Value}{x:aI}(h:Iac σ ρ G w pu off v x){own':Nat->Ow}{R:Nat}{path:List Nat}{m1:Nat}(hd:m1<=pu.depth)
  (hz:∀ b,G.own b=.frz->b<w.heap.size->own' b=.frz/\w'.heap[b]?=w.heap[b]?)
  (hmv:∀ s m,(off,s,m)∈pu.moves->∀ b t,G.own b=.slc s t->own' b=(if t.length<m1 then .slc R (path++t) else .frz)/\w'.heap[b]?=w.heap[b]?)
  (wx:∀ s q,(off,s,q)∈pu.holes->∀ b t,G.own b=.slc s (aZ ρ q++t)->own' b=(if t.length<m1 then .slc R (path++t) else .frz)/\w'.heap[b]?=w.heap[b]?)
  (jk:∀ s∈pu.frz,∀ b p,G.own b=.slc s p->own' b=.frz/\w'.heap[b]?=w.heap[b]?):Rp own' w' R path m1 v (x.val ρ):=by
 cases h with
 |sc h=>exact .sc h
 |nil z hx hv=>rw[hx,hv];exact Rp.nil
 | mv r m an hm hr hv jh =>
  have:=hR.root hr;simp only[bM]at this;rw[hv];exact this.move hz path m1 (by omega) fun b t hb=>hmv r m hm b t (by simpa using hb)
 |hole r k m q hm hl hq cA hn jh=>exact cA.move hz path m1 (by omega) fun b t hb=>wx r q hm b t hb
 | fz jh h =>
  obtain rfl:m1=0:=by omega
  refine .fz (h.mono' fun b hb hlt=>?_)
  rcases hb with hb|⟨r,p,h1,h2⟩
  ·exact hz b hb hlt
  ·exact jk r h1 b p h2
def xV (R M:Nat)(p:List Nat):Ow:=if p.length<M then .slc R p else .frz
def jY (pu:Put)(r m':Nat)(pv:List Nat)(base:Nat)(s:Nat)(p:List Nat):Ow :=
 bif has pu.frz s then .frz else match pu.moves.find? (fun y=>Nat.beq y.2.1 s) with
  |some z=>xV r m' ((pv++[base+z.1])++p)
  |none=>if s=r then xV r m' p else .slc s p
theorem jB {B o:Nat}{vs:List Value}{b:Addr}(hb:b.block=B->b.spot=none)(hex:∀ j,j<vs.length->(w.cell? ⟨B,o+j,none⟩).isSome=true){u:Value}(hc:w.cell? b=some u) :
  ∃ u',(w.setCells B o vs).cell? b=some u':=by
 by_cases fx:b.block=B/\o<=b.off/\b.off<o+vs.length
 ·obtain⟨h1,h2,h3⟩:=fx
  have:=World.cell?_setCells_in B vs o w hex (b.off-o) (by omega);have hs:=hb h1;rw[show o+(b.off-o)=b.off by omega]at this;have cr:b=⟨B,b.off,none⟩:=by cases b;simp only at h1 hs;subst h1 hs;rfl
  exact⟨vs[b.off-o]'(by omega),(congrArg (fun x=>(w.setCells B o vs).cell? x) cr).trans this⟩
 ·rw[World.cell?_setCells_out B vs o w b fun e1 e2=>by
   rcases Rbo b.off o with h|h
   ·exact .inl h
   ·refine .inr ?_
    rcases Rbo b.off (o+vs.length) with h'|h'
    ·exact absurd ⟨e1,h,h'⟩ fx
    ·exact h']
  exact⟨u,hc⟩
theorem Iaj (hR:R E.ntmps F σ ρ a w G)(hti:uO P E.ti){nv:Nat}{mv b6:Bool}{t:TypeId}{x y:Operand}(ho:o.op=.store t x y){ti:TI}(hi:E.ti t=some ti){l:aO}{sz:Nat}{i:aI}{off:Nat}{ls:List aO}{sv:SV}
  (hx:gOn ρ g=true->aB σ ρ G w (.pe l sz i off) (a.eval x)) (hy:gOn ρ g=true->bU σ ρ G w sv (a.eval y)) (oh:jE ti.agg sv=some ls) {res:bJ}
  (h:(Caj nv mv b6 o g ti (.pe l sz i off) ls).eval σ=some res) (aj:aL cf ρ g nv res.lets):fV P E F σ ρ a w g o Q res.upd:=by
 simp only[Caj,aA,aH,Qb0,aQ,Qb7]at h;obtain⟨_,h1,_,h2,s,h3,h⟩:=h;split at h1
 case isFalse=>cases h1
 rename_i kf;simp only[Qb1,Rbv,Tbo]at kf;obtain⟨hlen,nx⟩:=kf;split at h2
 case isFalse=>cases h2
 rename_i uv;obtain rfl:=vO uv;split at h
 case h_2=>cases h
 rename_i r k m q ab;simp only[aA,aH,Qb0,aQ,Qb7]at h;obtain⟨_,h4,h⟩:=h;split at h4
 case isFalse=>cases h4
 rename_i hqm;simp only[Sbb]at hqm;split at h
 case h_2=>cases h
 rename_i X m0 an hk;simp only[aA,aH,Qb0]at h;obtain⟨pu,h5,fr,h6,_,h7,h⟩:=h;split at h7
 case isFalse=>cases h7
 rename_i oo;simp only[Qb1,Rbp,Tbv,Tb9]at oo;obtain⟨⟨⟨⟨cm,hmr⟩,wx⟩,jz⟩,hmf⟩:=oo;simp only[aC,Option.some.injEq]at h;subst h;refine⟨fun hg=>?_,fun hg=>by simp[gOn]at hg⟩;obtain⟨info,u,f⟩:=aU (hti.ok _ _ hi);have hl:=gQ oh (hy hg);obtain⟨ju,il,hmvs⟩:=sF hR h5 hl;obtain⟨re,oA⟩:=fK h6;have hpe:=hx hg;simp only[aB]at hpe;obtain⟨c,n,cap,ik,iv,wh,we,hp3,hp4,hp5⟩:=hpe;have dj:=dM hR h3 wh;have j0:=dj.own;unfold uI at j0;rw[ab]at j0;obtain⟨-,⟨X0,ia⟩,-,cA,gu⟩:=j0;rw[hk]at ia
 obtain⟨rfl,rfl,rfl⟩:X=X0/\m0=m/\an=k:=by
  injection ia with e;injection e with e1 e2 e3 e4;exact⟨e1,e2,e3⟩
 have cw:=hR.root hk;simp only[bM]at cw;obtain⟨d1,cI,mj⟩:=Aa6 aj.1 hg;have jd:aL cf ρ none (nv+1) (Lag (nv+1) X q (.v nv)).1:=aj.2;have jy:=Aa7 hg q (nv+1) X (.v nv) jd;simp only[Sby,Sba,Rbt]at cI;obtain⟨rs,ik',yw,row,e1,e2,e3,e4,e5,e6,e7⟩:=Qau cI;rw[we]at e2;obtain⟨rfl,rfl⟩:ik=ik'/\iv=yw:=by injection e2 with a b;exact⟨a,b⟩
 simp only[List.cons.injEq,and_true]at e7;simp only[Rbh]at e6;rw[e1]at cA;have rS:(aZ ρ q).length=q.length:=by simp[aZ]
 generalize wq:aZ ρ q=pv at jy cA gu rS;obtain⟨md,hmd⟩:∃ md,m0-q.length=md+1:=⟨m0-q.length-1,by omega⟩;rw[hmd]at cA;obtain⟨A,c',n',ez,vs0,i1,i2,i3,i4,i5,i6,i7,i8⟩:=cA.sl_inv;obtain⟨rfl,rfl,rfl⟩:A=some c/\n'=n/\ez=cap:=by injection i1 with a b c;exact⟨a.symm,b.symm,c.symm⟩
 have hcc:c'=c:=by
  rcases i4 with i4|⟨i4,-⟩
  ·exact (Option.some.inj i4).symm
  ·cases i4
 subst hcc;obtain⟨cC,jf,bk⟩:=i6 rfl;have dt:row.length=sz:=i5 row (Rbi e4);generalize gx:(a.eval y).cells.toList=vs at hl il;have hvl:vs.length=ls.length:=hl.len
 have du:∀ j,j<vs.length->∃ u,w.cell? ⟨c'.block,c'.off+(iv.toNat*sz+off)+j,none⟩=some u/\w.frozen? ⟨c'.block,c'.off+(iv.toNat*sz+off)+j,none⟩=false:=by
  intro j hj
  have fy:iv.toNat*sz+off+j<ez*sz:=by
   have h1:(iv.toNat+1)*sz<=ez*sz:=Sbl _ (by omega);rw[Sbm]at h1;omega
  have:=bk _ fy;rw[add_plain cC]at this;rw[Rbn];exact this
 have aw:(execOp a.eval o).run P w=.ok .skip (w.setCells c'.block (c'.off+(iv.toNat*sz+off)) vs):=by
  unfold execOp;simp only[ho]
  have:=Daz (P:=P) (w:=w) f (b:=c'.block) (off:=c'.off+(iv.toNat*sz+off)) (v:=a.eval y) (by rw[gx];omega)
   (fun j hj=>by
    obtain⟨v,h6,-⟩:=du j (by omega);exact⟨v,h6⟩)
   (fun j hj=>by
    obtain⟨v,-,h6⟩:=du j (by omega)
    exact h6) (by
    rw[gx];intro v hv;obtain⟨j,hj⟩:=List.mem_iff_getElem?.1 hv;have fN:j<pu.xs.length:=by rw[ju,<- hvl];exact (List.getElem?_eq_some_iff.1 hj).1
    cases il j v _ hj (Qb3 fN) with
    |sc h=>exact h.one
    |nil z _ h=>rw[h];rfl
    | mv r m an hm hr hv hd =>
     have:=hR.root hr;simp only[bM]at this;rw[hv];exact this.one
    |hole r k m q hm hl hq cA hn hd=>exact cA.one
    |fz _ h=>exact h.one)
  simp only[Instr.storeAt,Instr.sureAddr,Sem.run_bind,hp5,Sem.run_pure,Result.andThen_ok,add_plain cC,this,gx]
 generalize te:min m0 (q.length+1+pu.depth)=m';generalize sy:w.setCells c'.block (c'.off+(iv.toNat*sz+off)) vs=w' at aw;have bg:∀ b,b≠c'.block->w'.heap[b]?=w.heap[b]?:=fun b hb=>by rw[<- sy];exact bY _ _ _ _ _ hb
 refine Saf aw ⟨{ G with own:=fun b=>lS (jY pu r m' pv (iv.toNat*sz)) (G.own b) },?_⟩;rw[nx]
 have q0:∀ s,s∈pu.frz->∀ p,jY pu r m' pv (iv.toNat*sz) s p=.frz:=fun s hs p=>by
  unfold jY;rw[lL.2 hs,cond_true]
 have hrm:r∉pu.moves.map (·.2.1):=by
  intro hh;obtain⟨z,hz,e⟩:=List.mem_map.1 hh;have:=hmr z hz;simp[e]at this
 have hrF:∀ p,jY pu r m' pv (iv.toNat*sz) r p=xV r m' p:=fun p=>by
  unfold jY;rw[cm,cond_false,Hak hrm];simp
 have hmF:∀ z∈pu.moves,∀ p,jY pu r m' pv (iv.toNat*sz) z.2.1 p=xV r m' ((pv++[iv.toNat*sz+z.1])++p):=fun z hz p=>by
  unfold jY
  have:has pu.frz z.2.1=false:=by
   have:=hmf z hz;simpa using this
  rw[this,cond_false,sP jz z hz]
 have nc:∀ b,G.own b=.frz->b<w.heap.size->lS (jY pu r m' pv (iv.toNat*sz)) (G.own b)=.frz/\w'.heap[b]?=w.heap[b]?:=fun b hb hlt=>by
  refine⟨by rw[hb];rfl,bg b fun e=>?_⟩;rw[e,jf]at hb;cases hb
 have bh:∀ b s p,G.own b=.slc s p->s≠r->b≠c'.block:=fun b s p hb hs e=>by
  rw[e,jf]at hb
  injection hb with e1 e2
  exact hs e1.symm
 have sb:∀ s∈pu.frz,s≠r:=fun s hs e=>by
  have:=zP.1 cm;exact this (e▸hs)
 have a4i:∀ z∈pu.moves,z.2.1≠r:=fun z hz e=>hrm (e▸Sbh (f:=fun x:Nat×Nat×Nat=>x.2.1) hz)
 have bq:∀ {s:Nat} {c:aP},(kR s,c)∈(kR r,aP.root (Lag (nv+1) X q (.v nv)).2 m' (an+1) .live)::(pu.moves.map fun z=>(kR z.2.1,aP.root (.c .hole) 0 0 .gone))++fr ->
   (s=r/\c=.root (Lag (nv+1) X q (.v nv)).2 m' (an+1) .live)\/(∃ z∈pu.moves,s=z.2.1/\c=.root (.c .hole) 0 0 .gone) \/
   (s∈pu.frz/\∃ x m v,c=.root x m v .frozen/\σ (kR s)=some (.root x m v .live)):=by
  intro s c hc
  rcases List.mem_append.1 hc with hc|hc
  ·rcases List.mem_cons.1 hc with hc|hc
   ·obtain⟨e1,e2⟩:=Prod.mk.inj hc
    exact .inl ⟨eD e1,e2⟩
   ·obtain⟨z,hz,e⟩:=List.mem_map.1 hc
    obtain⟨e1,e2⟩:=Prod.mk.inj e;exact .inr (.inl ⟨z,hz,(eD e1).symm,e2.symm⟩)
  ·obtain⟨s',fL,x',kz,v',e1,e2,e3⟩:=oA _ _ hc
   obtain rfl:=eD e1;exact .inr (.inr ⟨fL,x',kz,v',e2,e3⟩)
 have hdu:dL o none .dead=[]:=by unfold dL;rw[nx]
 have cj:=hR.own (o:=o) (g:=none) (fun d e=>by rw[nx]at e;cases e) (sv:=.dead) (v:=undef) (w':=w')
  (G':={ G with own:=fun b=>lS (jY pu r m' pv (iv.toNat*sz)) (G.own b) }) (wr:=fun b=>b=c'.block)
  (ur:=(kR r,aP.root (Lag (nv+1) X q (.v nv)).2 m' (an+1) .live)::(pu.moves.map fun z=>(kR z.2.1,aP.root (.c .hole) 0 0 .gone))++fr)
  (f:=jY pu r m' pv (iv.toNat*sz)) ?_ (fun b _=>rfl) ?_ ?_ ?_ (fun b _ hb=>bg b hb) ?_ ?_ ?_ ?_ (fun _ _=>rfl) rfl (fun _ _=>trivial) ?_
 ·rw[hdu,Sba,nx]at cj
  exact cj
 ·intro k c hc
  rcases List.mem_append.1 hc with hc|hc
  ·rcases List.mem_cons.1 hc with hc|hc
   ·exact⟨r,(Prod.mk.inj hc).1⟩
   ·obtain⟨z,hz,e⟩:=List.mem_map.1 hc
    exact⟨z.2.1,(Prod.mk.inj e).1.symm⟩
  ·obtain⟨s',-,-,-,-,e1,-⟩:=oA _ _ hc
   exact⟨s',e1⟩
 ·intro b hb
  rw[<- sy,setCells_size]at hb;show lS _ (G.own b)=.frz
  rw[hR.frame.fresh b hb];rfl
 ·obtain⟨j1,j2,j3⟩:=gV c'.block vs (c'.off+(iv.toNat*sz+off)) w
  rw[<- sy];exact⟨j1,j2,j3,by rw[setCells_size];exact Rbg _⟩
 ·intro b hb
  refine .inl ?_;show lS _ (G.own b)=.frz
  rw[hR.frame.fresh b hb];rfl
 ·rintro b rfl
  exact⟨r,pv,jf,_,Qb2 _ Rbj⟩
 ·intro b s p hb cU
  unfold jY
  have h1:has pu.frz s=false:=by
   rw[zP];intro hs
   rcases re s hs with ⟨x',kz,v',-,h8⟩|⟨x',kz,v',h8⟩
   ·exact cU _ (Qb5 _ h8)
   ·exact (hR.root h8).2 b p hb
  have h2:s∉pu.moves.map (·.2.1):=by
   intro hh;obtain⟨z,hz,e⟩:=List.mem_map.1 hh;refine cU (.root (.c .hole) 0 0 .gone) (Qb2 _ (Rbd _ (List.mem_map.2 ⟨z,hz,?_⟩)));rw[e]
  have h3:s≠r:=fun e=>cU (.root (Lag (nv+1) X q (.v nv)).2 m' (an+1) .live) (Qb2 _ (by rw[e];exact Rbj))
  rw[h1,cond_false,Hak h2];simp[h3]
 ·intro s c hc _
  rcases bq hc with ⟨rfl,rfl⟩|⟨z,hz,rfl,rfl⟩|⟨hs,x',kz,v',rfl,h8⟩
  ·exact .inr (.inl ⟨_,_,_,_,_,hk,rfl⟩)
  ·exact .inr (.inr (.inl ⟨_,_,_,_,rfl,by simp,by simp⟩))
  ·refine .inr (.inr (.inr ⟨x',kz,v',h8,rfl,fun b p hb=>⟨?_,bg b (bh b s p hb (sb s hs))⟩⟩))
   show lS _ (G.own b)=.frz
   rw[hb];exact q0 s hs p
 ·intro r0 x0 m1 k0 jk s p q' hF
  unfold jY at hF
  cases hh:has pu.frz s with
  |true=>rw[hh,cond_true]at hF;cases hF
  | false =>
   rw[hh,cond_false]at hF
   have vw:r0≠r:=by
    rintro rfl
    rw[hk]at jk
    injection jk with e;injection e with _ _ _ e;cases e
   split at hF
   ·unfold xV at hF
    split at hF
    ·injection hF with j1 j2;exact absurd j1.symm vw
    ·cases hF
   ·split at hF
    ·unfold xV at hF
     split at hF
     ·injection hF with j1 j2;exact absurd j1.symm vw
     ·cases hF
    ·injection hF with j1 j2;exact⟨j1,j2⟩
 ·intro hfr' s c hc _
  rcases bq hc with ⟨rfl,rfl⟩|⟨z,hz,rfl,rfl⟩|⟨hs,x',kz,v',rfl,h8⟩
  ·refine⟨_,_,_,_,rfl,?_⟩
   simp only[bM];obtain⟨m1,ko⟩:∃ m1,m'-q.length=m1+1:=⟨m'-q.length-1,by omega⟩
   have mN:∀ i' cz,(rs.set iv.toNat (row.take off++pu.xs.map (·.val ρ)++row.drop (off+ti.size)))[i']?=some cz->∀ j' d,cz[j']?=some d ->
     (i'=iv.toNat/\off<=j'/\j'<off+ls.length/\∃ x,pu.xs[j'-off]?=some x/\d=x.val ρ)\/(∃ row0,rs[i']?=some row0/\row0[j']?=some d/\¬ (i'=iv.toNat/\off<=j'/\j'<off+ls.length)):=by
    intro i' cz cu j' d dv
    have hsr:row.take off++pu.xs.map (·.val ρ)++row.drop (off+ti.size)=setRange row off (pu.xs.map (·.val ρ)):=by
     unfold setRange;rw[Rbh,e6]
    rw[hsr,Sb0]at cu;by_cases mB:iv.toNat=i'
    ·subst mB
     rw[if_pos rfl,if_pos (List.getElem?_eq_some_iff.1 e4).1]at cu;obtain rfl:=Option.some.inj cu;rw[gN (by rw[Rbh];omega),Rbh]at dv;split at dv
     ·rename_i fx
      rw[Rbr,Rbc]at dv;obtain⟨x,kb,gg⟩:=dv;exact .inl ⟨rfl,fx.1,by omega,x,kb,gg.symm⟩
     ·rename_i xn
      exact .inr ⟨row,e4,dv,fun e=>xn ⟨e.2.1,by omega⟩⟩
    ·rw[if_neg mB]at cu
     exact .inr ⟨cz,cu,dv,fun e=>mB e.1.symm⟩
   have de:Rp (fun b=>lS (jY pu s m' pv (iv.toNat*sz)) (G.own b)) w' s pv (m'-q.length) (.slice (some c') n' ez) ((aI.v nv).val ρ):=by
    rw[mj,e7,ko];refine .sl _ c' n' ez sz _ (fun i' j'=>if i'=iv.toNat/\off<=j'/\j'<off+ls.length then vs.getD (j'-off) undef else vs0 i' j') (by simpa using i2) i3 (.inl rfl) (fun cz hr=>?_) (fun _=>⟨cC,?_,fun k hk=>?_⟩) (fun i' cz cu j' d dv=>?_) (fun i' cz cu j' d dv=>?_)
    ·rcases Tby hr with hr|rfl
     ·exact i5 _ hr
     ·simp;omega
    ·show lS _ (G.own c'.block)=_
     rw[jf];show jY pu s m' pv (iv.toNat*sz) s pv=_
     rw[hrF,xV,if_pos (by omega)]
    ·obtain⟨u0,qm,vn⟩:=bk k hk
     rw[<- sy,World.frozen?_setCells];obtain⟨u',hu'⟩:=jB (B:=c'.block) (o:=c'.off+(iv.toNat*sz+off)) (vs:=vs) (b:=c'.add k) (fun _=>by rw[add_plain cC]) (fun j hj=>by obtain⟨u1,h9,-⟩:=du j hj;rw[h9];rfl) qm;exact⟨u',hu',vn⟩
    ·rcases mN i' cz cu j' d dv with ⟨rfl,h9,bo,x0,b9,cL⟩|⟨row0,h9,bo,b9⟩
     ·rw[if_pos ⟨rfl,h9,bo⟩,<- sy,add_plain cC]
      have:=World.cell?_setCells_in c'.block vs (c'.off+(iv.toNat*sz+off)) w (fun j hj=>by obtain⟨u1,h9,-⟩:=du j hj;rw[h9];rfl) (j'-off) (by omega);rw[show c'.off+(iv.toNat*sz+off)+(j'-off)=c'.off+(iv.toNat*sz+j') by omega]at this;rw[this,Qb8,Qb3 (by omega)];rfl
     ·rw[if_neg b9,<- sy,World.cell?_setCells_out _ _ _ _ _ (fun _ _=>?_)]
      ·exact i7 _ _ h9 _ _ bo
      ·rw[add_plain cC]
       dsimp only
       have qu:j'<sz:=by
        have:=(List.getElem?_eq_some_iff.1 bo).1;rw[i5 row0 (Rbi h9)]at this;exact this
       by_cases mB:i'=iv.toNat
       ·subst mB
        have:¬ (off<=j'/\j'<off+ls.length):=fun e=>b9 ⟨rfl,e⟩
        omega
       ·rcases Nat.lt_or_gt_of_ne mB with hlt|wi
        ·refine .inl ?_
         have:=Sbl sz (show i'+1<=iv.toNat by omega);rw[Sbm]at this;omega
        ·refine .inr ?_
         have:=Sbl sz (show iv.toNat+1<=i' by omega);rw[Sbm]at this;omega
    ·rcases mN i' cz cu j' d dv with ⟨rfl,h9,bo,x0,b9,cL⟩|⟨row0,h9,bo,b9⟩
     ·rw[if_pos ⟨rfl,h9,bo⟩,cL]
      have hv:vs[j'-off]?=some (vs.getD (j'-off) undef):=by
       rw[Qb8,Qb3 (by omega)];rfl
      have pP:=il (j'-off) _ _ hv b9;rw[show off+(j'-off)=j' by omega]at pP;refine pP.rp hR (by omega) nc (fun s' m2 wt b t hb=>⟨?_,bg b (bh b s' t hb (a4i _ wt))⟩) (fun s' q' kq=>by rw[wx]at kq;simp at kq) (fun s' fL b p hb=>⟨?_,bg b (bh b s' p hb (sb s' fL))⟩)
      ·show lS _ (G.own b)=_
       rw[hb];show jY pu s m' pv (iv.toNat*sz) s' t=_
       rw[hmF (j',s',m2) wt,xV];simp only[Qb6,Sbk];by_cases ht:t.length<m1
       ·rw[if_pos ht,if_pos (by omega)]
       ·rw[if_neg ht,if_neg (by omega)]
      ·show lS _ (G.own b)=_
       rw[hb];exact q0 s' fL p
     ·rw[if_neg b9]
      refine (i8 _ _ h9 _ _ bo).move nc _ m1 (by omega) fun b t hb=>⟨?_,bg b fun e=>?_⟩
      ·show lS _ (G.own b)=_
       rw[hb];show jY pu s m' pv (iv.toNat*sz) s _=_
       rw[hrF,xV];simp only[Qb6,Sbk];by_cases ht:t.length<m1
       ·rw[if_pos ht,if_pos (by omega)]
       ·rw[if_neg ht,if_neg (by omega)]
      ·rw[e,jf]at hb
       injection hb with _ e2
       have:=congrArg List.length e2;simp at this
   have:=Rp.upd (own':=fun b=>lS (jY pu s m' pv (iv.toNat*sz)) (G.own b)) (w':=w') (r:=s) (M':=m') (full:=pv) nc (fun b t hb ht=>⟨?_,bg b fun e=>?_⟩) (by omega) (by rw[rS];exact de) pv [] m0 (G.hdr s) _ _ rfl (by omega) (by simpa using cw) gu jy
   ·simpa using this
   ·show lS _ (G.own b)=_
    rw[hb];exact hrF t
   ·rw[e,jf]at hb
    injection hb with _ e2
    exact ht (e2▸List.prefix_rfl)
  ·exact⟨_,_,_,_,rfl,trivial⟩
  ·refine⟨x',kz,v',.frozen,rfl,?_,fun b p hb=>?_⟩
   ·have:=hR.root h8
    simp only[bM]at this;refine this.rd.mono' fun b hb hlt=>?_
    rcases hb with hb|⟨p,hb⟩
    ·exact nc b hb hlt
    ·refine⟨?_,bg b (bh b s p hb (sb s hs))⟩
     show lS _ (G.own b)=_
     rw[hb];exact q0 s hs p
   ·have cr:lS (jY pu r m' pv (iv.toNat*sz)) (G.own b)=.slc s p:=hb
    cases e:G.own b with
    | slc s' p' =>
     rw[e]at cr;have cJ:jY pu r m' pv (iv.toNat*sz) s' p'=.slc s p:=cr;by_cases fL:s'∈pu.frz
     ·rw[q0 s' fL]at cJ;cases cJ
     ·unfold jY at cJ
      rw[zP.2 fL,cond_false]at cJ;have hsr:=sb s hs;split at cJ
      ·unfold xV at cJ
       split at cJ
       ·injection cJ with j1 j2;exact hsr j1.symm
       ·cases cJ
      ·split at cJ
       ·unfold xV at cJ
        split at cJ
        ·injection cJ with j1 j2;exact hsr j1.symm
        ·cases cJ
       ·injection cJ with j1 j2;exact fL (j1▸hs)
    |_=>rw[e]at cr;cases cr
end
theorem nW:∀ (sz n:Nat) (l:List D),l.length=n*sz->∀ i row,(chunk sz n l)[i]?=some row->i<n/\row.length=sz/\∀ j d,row[j]?=some d->l[i*sz+j]?=some d
 |sz,0,l,_,i,row,h=>by simp[chunk]at h
 | sz, n + 1, l, hl, i, row, h => by
  simp only[chunk]at h;rw[Sbm,Nat.one_mul]at hl
  cases i with
  | zero =>
   simp only[Qb9,Option.some.injEq]at h;subst h;refine⟨by omega,by simp;omega,fun j d hj=>?_⟩;rw[Sbc]at hj;split at hj
   ·simpa using hj
   ·cases hj
  | succ i =>
   simp only[Rb7]at h;obtain⟨h1,h2,h3⟩:=nW sz n (l.drop sz) (by simp;omega) i row h;refine⟨by omega,h2,fun j d hj=>?_⟩;have:=h3 j d hj;rw[Rb3]at this;rw[<- this];congr 1;rw[Sbm];omega
theorem Haz:∀ (sz n:Nat) (l:List D),(chunk sz n l).length=n
 |_,0,_=>rfl
 |sz,n+1,l=>by simp[chunk,Haz sz n]
theorem Fac {α:Type}(l:List α):∀ n,(Bbk l n).length=n*l.length
 |0=>by simp[Bbk]
 |n+1=>by rw[Bbk,Qb6,Fac l n,Sbm];omega
theorem Sa0 {α:Type}(l:List α)(h:0<l.length):∀ n j,j<n*l.length->(Bbk l n)[j]?=l[j % l.length]?
 |0,j,hj=>by simp at hj
 | n + 1, j, hj => by
  rw[Bbk];by_cases h1:j<l.length
  ·rw[Rbm h1,Nat.mod_eq_of_lt h1]
  ·rw[Rbl (by omega),Sa0 l h n (j-l.length) (by rw[Sbm]at hj;omega)]
   congr 1;rw[Nat.mod_eq_sub_mod (by omega:j ≥ l.length)]
section
variable {P:Program} {E:Env} {F:bE} {n:Nat} {σ:Nat->Option aP} {ρ:List D} {a:Act} {w w':World} {G G':Gh} {g:Option (aI×Bool)} {o:Oper} {cf:Nat->List D->Option (List D)} {Q:Exit->Act->World->Prop} {next:Act->World->Prop}
theorem Eae {ti:TI}{len:Nat}{place:Nat->Option (Nat×Nat)}(ju:∀ i,i<len->place i=some (i*ti.size,ti.size)) :
  ∀ {xs:List (Nat×Operand)} {ps:List (Nat×SV)},Fam σ ρ G w a xs ps->∀ {ls fR:List aO} {us:Array Value},ls.length=len*ti.size->aD σ ρ G w ls us.toList->Baw ti len ls ps=some fR ->
  ∃ bn,Instr.fill place us (xs.map fun x=>(x.1,a.eval x.2))=some bn/\aD σ ρ G w fR bn.toList/\fR.length=len*ti.size
 | [], _, rfl, ls, fR, us, hn, hl, h => by
  simp only[Baw,Option.some.injEq]at h;subst h;exact⟨us,rfl,hl,hn⟩
 | (i, x) :: xs, _, ⟨sv, ps, rfl, h1, hr⟩, ls, fR, us, hn, hl, h => by
  unfold Baw at h;split at h
  ·rename_i vs gx
   cases hb:(Nat.beq vs.length ti.size&&Nat.blt i len) with
   |false=>rw[hb]at h;cases h
   | true =>
    rw[hb,cond_true]at h;simp only[Qb1,Rbv,Nat.blt_eq]at hb;have h2:=gQ gx h1;have hlen:=hl.len
    have hle:i*ti.size+ti.size<=ls.length:=by
     have:=Sbl ti.size (show i+1<=len by omega);rw[Sbm,Nat.one_mul]at this;omega
    obtain⟨us1,h3,h4⟩:=Oa8 (rest:=xs.map fun x=>(x.1,a.eval x.2)) (ju i hb.2) (by rw[h2.len];exact hb.1) (by rw[<- Tbm,hlen];exact hle);obtain⟨bn,h5,h6,h7⟩:=Eae ju hr (us:=us1) (ls:=setRange ls (i*ti.size) vs) (by rw[jZ (by rw[hb.1];exact hle)];exact hn) (by rw[h4];exact hl.setRange h2 (by rw[hb.1];exact hle)) h;exact⟨bn,by rw[Rbt,h3];exact h5,h6,h7⟩
  ·cases h
def mkF (pu:Put)(nr m':Nat)(s:Nat)(p:List Nat):Ow :=
 bif has pu.frz s then .frz else match pu.moves.find? (fun y=>Nat.beq y.2.1 s) with
  |some z=>xV nr m' ([z.1]++p)
  |none=>.slc s p
theorem Dbo (z:Array Value)(hz:0<z.size)(N j:Nat)(hj:j<N):((Array.range N).map (fun i=>z[i % z.size]!))[j]?=z[j % z.size]?:=by
 rw[Array.getElem?_map,Array.getElem?_range];rw[if_pos hj];simp only[Rb9];have hlt:j % z.size<z.size:=Nat.mod_lt _ hz;rw[getElem!_pos z (j % z.size) hlt,Rb0 hlt]
theorem Pa7 {t:TypeId}{i:TI}{info:TypeInfo}{u:TypeDesc}(f:bX P t i info u)(hs:0<i.size){z:Value}(hz:aD σ ρ G w (i.cells.map fA) z.cells.toList)(len:Nat) :
  aD σ ρ G w (Bbk (i.cells.map fA) len) ((Array.range (len*i.size)).map (fun j=>z.cells[j % z.cells.size]!)).toList:=by
 have eV:(i.cells.map fA).length=i.size:=by rw[Rbh,f.len]
 have uj:z.cells.size=i.size:=by rw[<- Tbm,hz.len,eV]
 refine .of_get (by rw[Fac,eV];simp) fun j l v hj hv=>?_
 have hlt:j<len*i.size:=by
  have:=(List.getElem?_eq_some_iff.1 hj).1;rwa[Fac,eV]at this
 rw[Sa0 _ (by omega) _ _ (by rw[eV];exact hlt),eV]at hj;rw[Sbi,Dbo _ (by omega) _ _ hlt,uj]at hv;obtain⟨v',h1,h2⟩:=hz.get hj;rw[Sbi,hv]at h1;exact Option.some.inj h1▸h2
theorem tY (hR:R E.ntmps F σ ρ a w G)(hd:eT E.ntmps o)(hti:uO P E.ti){nv nb nr:Nat}{mv b6:Bool}(hf:σ (kR nr)=none){t:TypeId}{len:Nat}{parts:Array (Nat×Operand)}(ho:o.op=.buildSlice t len parts){res:bJ}
  (h:(oJ E mv b6 nv nb nr g o).eval σ=some res) (aj:aL cf ρ g nv res.lets):fV P E F σ ρ a w g o Q res.upd:=by
 simp only[oJ,ho,aA,Qb0,tiR,aT,aH]at h;obtain⟨st,h1,e,h2,ti,h3,ps,h4,_,h5,h⟩:=h;split at h5
 case isFalse=>cases h5
 rename_i hb5;simp only[Qb1,Sbb,Nat.blt_eq]at hb5;obtain⟨⟨hsz1,a2j⟩,vz⟩:=hb5;obtain⟨info,u,f⟩:=aU (hti.ok _ _ h1);obtain rfl:=pG f h2;obtain⟨fe,u',f'⟩:=aU (hti.ok _ _ h3);split at h
 case h_2=>cases h
 rename_i ls oh;simp only[aA,Qb0,aH]at h;obtain⟨pu,h6,_,h7,fr,h8,_,h9,h⟩:=h;split at h7
 case isFalse=>cases h7
 rename_i oo;split at h9
 case isFalse=>cases h9
 rename_i hb9;simp only[Qb1,Rbp,Tbv,Tb9]at hb9;obtain⟨⟨jz,hmf⟩,wx⟩:=hb9;obtain⟨re,oA⟩:=fK h8
 have main:gOn ρ g=true->∃ bn:Array Value,(execOp a.eval o).run P w=.ok (.value (.slice (some ⟨w.heap.size,0,none⟩) len len)) (pushB w bn e)/\aD σ ρ G w ls bn.toList/\ls.length=len*ti.size:=by
  intro hg;obtain⟨z,ji,lv,-,-⟩:=f'.zeros (σ:=σ) (ρ:=ρ) (G:=G) (w:=w);have yu:=Pa7 f' a2j lv len;have eV:(ti.cells.map fA).length=ti.size:=by rw[Rbh,f'.len]
  obtain⟨bn,cP,hl,fS⟩:=Eae (place:=fun i=>some (i*ti.size,ti.size)) (fun i _=>rfl) (zG hR hg h4) (ls:=Bbk (ti.cells.map fA) len) (by rw[Fac,eV]) yu oh;refine⟨bn,?_,hl,fS⟩
  ·unfold execOp
   simp only[ho];refine fC ?_;unfold Instr.buildSlice;simp only[Sem.run_bind,run_underlying f.und,Result.andThen_ok,f'.sizeOf]
   have hle:¬ len*ti.size>2 ^ 24:=by
    have:(2:Nat) ^ 24=16777216:=by decide
    omega
   rw[if_neg hle];have e1:(parts.map fun x=>(x.1,a.eval x.2)).toList=parts.toList.map fun x=>(x.1,a.eval x.2):=by simp
   by_cases h0:len*ti.size=0
   ·have l9:Instr.fill (fun i=>some (i*ti.size,ti.size)) ((Array.range (len*ti.size)).map (fun j=>(#[]:Array Value)[j % (#[]:Array Value).size]!)) (parts.map fun x=>(x.1,a.eval x.2)).toList=some bn:=by
     rw[e1,<- cP];congr 1;rw[h0];simp
    simp only[Sem.run_bind,Sem.run_pure,Result.andThen_ok,h0,if_true]at l9 ⊢;rw[l9];simp[newRow,pushB]
   ·simp only[Sem.run_bind,if_neg h0,kK f'.info_ ji,Result.andThen_ok,Sem.run_pure]
    rw[e1,cP];simp[newRow,pushB]
 have gA:∀ bn:Array Value,aD σ ρ G w ls bn.toList->pu.xs.length=ls.length/\(∀ j v x,bn.toList[j]?=some v->pu.xs[j]?=some x->Iac σ ρ G w pu (0+j) v x):=fun bn hl=>by
  obtain⟨h1,h2,-⟩:=sF hR h6 hl;exact⟨h1,h2⟩
 cases hgg:noG g with
 | false =>
  rw[hgg,cond_false]at h;rw[hgg,Bool.false_or]at oo;simp only[Qb1,Tb9]at oo;obtain⟨⟨hm0,-⟩,vn⟩:=oo;simp only[sH,aC,Option.some.injEq]at h;subst h;simp only[Eak,Rbs];refine⟨fun hg=>?_,fun hg=>Hb6 hR hd hg⟩;obtain⟨bn,aw,hl,fS⟩:=main hg;obtain⟨ju,il⟩:=gA bn hl;obtain⟨d,cI,mj⟩:=fF aj hg;refine mH aw ⟨G,?_⟩
  have cj:=hR.own hd (g:=g) (sv:=.one (.sn [] .no false (.v nv))) (v:=.slice (some ⟨w.heap.size,0,none⟩) len len) (w':=pushB w bn e) (G':=G) (ur:=[]) (f:=fun s p=>.slc s p) (wr:=fun _=>False)
   (by simp) (fun b _=>by cases hb:G.own b<;>rfl) (fun b hb=>hR.frame.fresh b (by rw[kC]at hb;omega)) ⟨rfl,rfl,rfl,by rw[kC];omega⟩ (fun b hb=>.inl (hR.frame.fresh b hb))
   (fun b hlt _=>kL (by omega)) (fun _ h=>h.elim) (fun _ _ _ _ _=>rfl) (by simp) (fun _ _ _ _ _ s p q h=>by injection h with h1 h2;exact⟨h1,h2⟩) (fun _ _=>rfl) rfl (fun cm _=>?_) (by simp)
  ·rw[Rbs]at cj
   exact cj
  ·simp only[bU,aB]
   refine⟨⟨rfl,by simp⟩,fun _=>⟨?_,by simp,trivial⟩⟩;simp only[aR.run]at cI;split at cI
   case isFalse=>cases cI
   rename_i lE;simp only[Option.some.injEq,List.cons.injEq,and_true]at cI;rw[mj,<- cI];refine .rows _ ⟨w.heap.size,0,none⟩ len len ti.size _ (fun i j=>bn.toList.getD (i*ti.size+j) undef) (Haz _ _ _) (Rbg _) (.inr rfl) (fun row hr=>?_) (fun i row hi j d hj=>?_) (fun i row hi j d hj=>?_)
   ·obtain⟨i,hi⟩:=List.mem_iff_getElem?.1 hr
    exact (nW _ _ _ lE i row hi).2.1
   ·obtain⟨bo,b9,cL⟩:=nW _ _ _ lE i row hi
    have fp:=(List.getElem?_eq_some_iff.1 (cL j d hj)).1;refine⟨.inl (hR.frame.fresh _ (Rbg _)),?_⟩;rw[mW];have gj:i*ti.size+j<bn.toList.length:=by rw[hl.len,<- ju];simpa using fp
    rw[Qb8,Qb3 gj,<- Sbi,Qb3 gj];rfl
   ·obtain⟨bo,b9,cL⟩:=nW _ _ _ lE i row hi
    have fp:=cL j d hj;rw[Rbr,Rbc]at fp;obtain⟨x,kb,rfl⟩:=fp;have gj:i*ti.size+j<bn.toList.length:=by rw[hl.len,<- ju];exact (List.getElem?_eq_some_iff.1 kb).1
    have hv:bn.toList[i*ti.size+j]?=some (bn.toList.getD (i*ti.size+j) undef):=by
     rw[Qb8,Qb3 gj];rfl
    cases il _ _ _ hv kb with
    |sc h=>exact .sc h
    |nil z hx hv=>rw[hx,hv];exact Rd.nil
    |mv r m an hm hr hv jh=>rw[hm0]at hm;simp at hm
    |hole r k m q hm hl hq cA hn jh=>rw[wx]at hm;simp at hm
    | fz jh h =>
     refine h.mono' fun b hb hlt=>?_
     rcases hb with hb|⟨r,p,h1,-⟩
     ·exact⟨.inl hb,kL (by omega)⟩
     ·rw[vn]at h1;simp at h1
 | true =>
  obtain rfl:=vO hgg;rw[hgg,cond_true]at h;simp only[sH,aC,Option.some.injEq]at h;subst h;simp only[Eak];refine⟨fun hg=>?_,fun hg=>by simp[gOn]at hg⟩;obtain⟨bn,aw,hl,fS⟩:=main hg;obtain⟨ju,il⟩:=gA bn hl;obtain⟨d,cI,mj⟩:=fF aj hg;generalize hM:min big (pu.depth+1)=M;obtain⟨m1,rfl⟩:∃ m1,M=m1+1:=⟨M-1,by rw[<- hM];unfold big;omega⟩;have hN:w.heap.size=w.heap.size:=rfl
  have hdr:∀ r,(σ (kR r)).isSome->r≠nr:=fun r hr e=>by
   rw[e,hf]at hr;cases hr
  refine mH aw ⟨{ G with own:=fun b=>if b=w.heap.size then .slc nr [] else lS (mkF pu nr (m1+1)) (G.own b),hdr:=fun r=>if r=nr then .slice (some ⟨w.heap.size,0,none⟩) len len else G.hdr r },?_⟩
  have q0:∀ s,s∈pu.frz->∀ p,mkF pu nr (m1+1) s p=.frz:=fun s hs p=>by
   unfold mkF;rw[lL.2 hs,cond_true]
  have hmF:∀ z∈pu.moves,∀ p,mkF pu nr (m1+1) z.2.1 p=xV nr (m1+1) ([z.1]++p):=fun z hz p=>by
   unfold mkF
   have:has pu.frz z.2.1=false:=by
    have:=hmf z hz;simpa using this
   rw[this,cond_false,sP jz z hz]
  have jc:∀ b,G.own b≠.frz->b<w.heap.size:=fun b hb=>by
   rcases Rbo b w.heap.size with h|h
   ·exact h
   ·exact absurd (hR.frame.fresh b h) hb
  have bg:∀ b,b≠w.heap.size->(pushB w bn e).heap[b]?=w.heap[b]?:=fun b hb=>kL hb
  have bq:∀ {s:Nat} {c:aP},(kR s,c)∈(kR nr,aP.root (.v nv) (m1+1) 0 .live)::(pu.moves.map fun z=>(kR z.2.1,aP.root (.c .hole) 0 0 .gone))++fr ->
    (s=nr/\c=.root (.v nv) (m1+1) 0 .live)\/(∃ z∈pu.moves,s=z.2.1/\c=.root (.c .hole) 0 0 .gone) \/
    (s∈pu.frz/\∃ x m v,c=.root x m v .frozen/\σ (kR s)=some (.root x m v .live)):=by
   intro s c hc
   rcases List.mem_append.1 hc with hc|hc
   ·rcases List.mem_cons.1 hc with hc|hc
    ·obtain⟨e1,e2⟩:=Prod.mk.inj hc
     exact .inl ⟨eD e1,e2⟩
    ·obtain⟨z,hz,e⟩:=List.mem_map.1 hc
     obtain⟨e1,e2⟩:=Prod.mk.inj e;exact .inr (.inl ⟨z,hz,(eD e1).symm,e2.symm⟩)
   ·obtain⟨s',fL,x',kz,v',e1,e2,e3⟩:=oA _ _ hc
    obtain rfl:=eD e1;exact .inr (.inr ⟨fL,x',kz,v',e2,e3⟩)
  have fb:σ (kR nr)=none:=hf
  have vl:∀ s,s∈pu.frz->s≠nr:=fun s hs e=>by
   rcases re s hs with ⟨x',kz,v',h8,-⟩|⟨x',kz,v',h8⟩<;>rw[e,fb]at h8<;>cases h8
  have nc:∀ b,G.own b=.frz->b<w.heap.size->(if b=w.heap.size then Ow.slc nr [] else lS (mkF pu nr (m1+1)) (G.own b))=.frz/\(pushB w bn e).heap[b]?=w.heap[b]?:=fun b hb hlt=>by
   rw[if_neg (by omega),hb];exact⟨rfl,bg b (by omega)⟩
  have cF:∀ b s p,G.own b=.slc s p->(if b=w.heap.size then Ow.slc nr [] else lS (mkF pu nr (m1+1)) (G.own b))=mkF pu nr (m1+1) s p/\(pushB w bn e).heap[b]?=w.heap[b]?:=fun b s p hb=>by
   have:=jc b (by rw[hb];simp);rw[if_neg (by omega),hb];exact⟨rfl,bg b (by omega)⟩
  refine hR.own hd (wr:=fun _=>False) (f:=mkF pu nr (m1+1)) ?_ ?_ ?_ ?_ ?_ (fun b hlt _=>bg b (by omega)) (fun _ h=>h.elim) ?_ ?_ ?_ ?_ rfl ?_ ?_
  ·intro k c hc
   rcases List.mem_append.1 hc with hc|hc
   ·rcases List.mem_cons.1 hc with hc|hc
    ·exact⟨nr,(Prod.mk.inj hc).1⟩
    ·obtain⟨z,hz,e⟩:=List.mem_map.1 hc
     exact⟨z.2.1,(Prod.mk.inj e).1.symm⟩
   ·obtain⟨s',-,-,-,-,e1,-⟩:=oA _ _ hc
    exact⟨s',e1⟩
  ·intro b hlt
   show (if b=w.heap.size then Ow.slc nr [] else _)=_
   rw[if_neg (by omega)]
  ·intro b hb
   rw[kC]at hb;show (if b=w.heap.size then Ow.slc nr [] else lS _ (G.own b))=.frz
   rw[if_neg (by omega),hR.frame.fresh b (by omega)];rfl
  ·exact⟨rfl,rfl,rfl,by rw[kC];omega⟩
  ·intro b hb
   show (if b=w.heap.size then Ow.slc nr [] else lS _ (G.own b))=.frz\/∃ r p,(if b=w.heap.size then Ow.slc nr [] else lS _ (G.own b))=.slc r p/\_
   by_cases e:b=w.heap.size
   ·rw[if_pos e];exact .inr ⟨nr,[],rfl,fb⟩
   ·rw[if_neg e,hR.frame.fresh b hb];exact .inl rfl
  ·intro b s p hb cU
   unfold mkF
   have h1:has pu.frz s=false:=by
    rw[zP];intro hs
    rcases re s hs with ⟨x',kz,v',-,h8⟩|⟨x',kz,v',h8⟩
    ·exact cU _ (Qb5 _ h8)
    ·exact (hR.root h8).2 b p hb
   have h2:s∉pu.moves.map (·.2.1):=by
    intro hh;obtain⟨z,hz,e⟩:=List.mem_map.1 hh;refine cU (.root (.c .hole) 0 0 .gone) (Qb2 _ (Rbd _ (List.mem_map.2 ⟨z,hz,?_⟩)));rw[e]
   rw[h1,cond_false,Hak h2]
  ·intro s c hc _
   rcases bq hc with ⟨rfl,rfl⟩|⟨z,hz,rfl,rfl⟩|⟨hs,x',kz,v',rfl,h8⟩
   ·exact .inl ⟨fb,_,_,_,_,rfl⟩
   ·exact .inr (.inr (.inl ⟨_,_,_,_,rfl,by simp,by simp⟩))
   ·refine .inr (.inr (.inr ⟨x',kz,v',h8,rfl,fun b p hb=>?_⟩))
    obtain⟨bo,b9⟩:=cF b s p hb;exact⟨bo.trans (q0 s hs p),b9⟩
  ·intro r0 x0 m0 k0 jk s p q' hF
   unfold mkF at hF
   cases hh:has pu.frz s with
   |true=>rw[hh,cond_true]at hF;cases hF
   | false =>
    rw[hh,cond_false]at hF;split at hF
    ·unfold xV at hF
     split at hF
     ·injection hF with j1 j2
      exact absurd j1.symm (hdr r0 (by rw[jk];rfl))
     ·cases hF
    ·injection hF with j1 j2;exact⟨j1,j2⟩
  ·intro r hr
   show (if r=nr then _ else _)=_
   rw[if_neg (hdr r hr)]
  ·intro _ _
   simp only[bU,aB];refine⟨by simp,dP _ _ _ (.inr ⟨_,Qb5 _ (Qb2 _ Rbj)⟩),rfl⟩
  ·intro _ s c hc _
   rcases bq hc with ⟨rfl,rfl⟩|⟨z,hz,rfl,rfl⟩|⟨hs,x',kz,v',rfl,h8⟩
   ·refine⟨_,_,_,_,rfl,?_⟩
    simp only[bM,if_true];simp only[aR.run]at cI;split at cI
    case isFalse=>cases cI
    rename_i lE;simp only[Option.some.injEq,List.cons.injEq,and_true]at cI;rw[mj,<- cI];refine .sl _ ⟨w.heap.size,0,none⟩ len len ti.size _ (fun i j=>bn.toList.getD (i*ti.size+j) undef) (Haz _ _ _) (Rbg _) (.inl rfl) (fun row hr=>?_) (fun _=>⟨rfl,by simp,fun k hk=>?_⟩) (fun i row hi j d hj=>?_) (fun i row hi j d hj=>?_)
    ·obtain⟨i,hi⟩:=List.mem_iff_getElem?.1 hr
     exact (nW _ _ _ lE i row hi).2.1
    ·rw[mW,vI]
     have:k<bn.size:=by rw[<- Tbm,hl.len,fS];exact hk
     exact⟨bn[k],Rb0 this,rfl⟩
    ·obtain⟨bo,b9,cL⟩:=nW _ _ _ lE i row hi
     have fp:=(List.getElem?_eq_some_iff.1 (cL j d hj)).1;rw[mW];have gj:i*ti.size+j<bn.toList.length:=by rw[hl.len,<- ju];simpa using fp
     rw[Qb8,Qb3 gj,<- Sbi,Qb3 gj];rfl
    ·obtain⟨bo,b9,cL⟩:=nW _ _ _ lE i row hi
     have fp:=cL j d hj;rw[Rbr,Rbc]at fp;obtain⟨x,kb,rfl⟩:=fp;have gj:i*ti.size+j<bn.toList.length:=by rw[hl.len,<- ju];exact (List.getElem?_eq_some_iff.1 kb).1
     have hv:bn.toList[i*ti.size+j]?=some (bn.toList.getD (i*ti.size+j) undef):=by
      rw[Qb8,Qb3 gj];rfl
     have pP:=il _ _ _ hv kb;rw[Nat.zero_add]at pP;refine pP.rp hR (by unfold big at hM;omega) nc (fun s' m2 wt b t hb=>?_) (fun s' q' kq=>by rw[wx]at kq;simp at kq) (fun s' fL b p hb=>?_)
     ·obtain⟨ij,je⟩:=cF b s' t hb
      refine⟨ij.trans ?_,je⟩;rw[hmF _ wt,xV];simp only[Qb6,Sbk,Sba];by_cases ht:t.length<m1
      ·rw[if_pos ht,if_pos (by omega)]
      ·rw[if_neg ht,if_neg (by omega)]
     ·obtain⟨ij,je⟩:=cF b s' p hb
      exact⟨ij.trans (q0 s' fL p),je⟩
   ·exact⟨_,_,_,_,rfl,trivial⟩
   ·refine⟨x',kz,v',.frozen,rfl,?_,fun b p hb=>?_⟩
    ·have:=hR.root h8
     simp only[bM]at this ⊢;rw[if_neg (vl s hs)];refine this.rd.mono' fun b hb hlt=>?_
     rcases hb with hb|⟨p,hb⟩
     ·exact nc b hb hlt
     ·obtain⟨ij,je⟩:=cF b s p hb
      exact⟨ij.trans (q0 s hs p),je⟩
    ·have cr:(if b=w.heap.size then Ow.slc nr [] else lS (mkF pu nr (m1+1)) (G.own b))=.slc s p:=hb
     split at cr
     ·injection cr with j1 _
      exact vl s hs j1.symm
     ·cases e:G.own b with
      | slc s' p' =>
       rw[e]at cr;have cJ:mkF pu nr (m1+1) s' p'=.slc s p:=cr;by_cases fL:s'∈pu.frz
       ·rw[q0 s' fL]at cJ;cases cJ
       ·unfold mkF at cJ
        rw[zP.2 fL,cond_false]at cJ;split at cJ
        ·unfold xV at cJ
         split at cJ
         ·injection cJ with j1 j2;exact vl s hs j1.symm
         ·cases cJ
        ·injection cJ with j1 j2;exact fL (j1▸hs)
      |_=>rw[e]at cr;cases cr
end
def kU (vs:Nat->Nat->Value)(n sz:Nat):List Value:=(List.range (n*sz)).map fun k=>vs (k / sz) (k % sz)
theorem mX (vs:Nat->Nat->Value)(n sz:Nat):(kU vs n sz).length=n*sz:=by simp[kU]
theorem xY (vs:Nat->Nat->Value){n sz i j:Nat}(hi:i<n)(hj:j<sz):(kU vs n sz)[i*sz+j]?=some (vs i j):=by
 have hlt:i*sz+j<n*sz:=by
  have:=Sbl sz (show i+1<=n by omega);rw[Sbm]at this;omega
 unfold kU;rw[Rbr,Ubg hlt,Rb9];rw[Uba i sz,Nat.mul_add_div (by omega),Ubb hj,Nat.mul_add_mod,Nat.mod_eq_of_lt hj,Rbx]
theorem Dak {vs:Nat->Nat->Value}{n sz k:Nat}{u:Value}(h:(kU vs n sz)[k]?=some u):k / sz<n/\k % sz<sz/\k=k / sz*sz+k % sz/\u=vs (k / sz) (k % sz):=by
 have hlt:k<n*sz:=by
  have:=(List.getElem?_eq_some_iff.1 h).1;rwa[mX]at this
 have b7:0<sz:=by
  rcases Nat.eq_zero_or_pos sz with e|e
  ·rw[e]at hlt;simp at hlt
  ·exact e
 refine⟨(Nat.div_lt_iff_lt_mul b7).2 hlt,Nat.mod_lt _ b7,?_,?_⟩
 ·rw[Uba];exact (Nat.div_add_mod k sz).symm
 ·unfold kU at h
  rw[Rbr,Ubg hlt,Rb9]at h;exact (Option.some.inj h).symm
section
variable {P:Program} {E:Env} {F:bE} {n:Nat} {σ:Nat->Option aP} {ρ:List D} {a:Act} {w w':World} {G G':Gh} {g:Option (aI×Bool)} {o:Oper} {cf:Nat->List D->Option (List D)} {Q:Exit->Act->World->Prop} {next:Act->World->Prop}
theorem Cas {rs:List (List D)}{sz:Nat}{b:Addr}{vs:Nat->Nat->Value}(b7:∀ r∈rs,r.length=sz)
  (aq:∀ i row,rs[i]?=some row->∀ j d,row[j]?=some d->w.cell? (b.add (i*sz+j))=some (vs i j)):∀ k u,(kU vs rs.length sz)[k]?=some u->w.cell? (b.add k)=some u:=by
 intro k u h;obtain⟨h1,h2,h3,rfl⟩:=Dak h;have hr:rs[k / sz]?=some rs[k / sz]:=Qb3 h1;have hl:=b7 _ (Rbi hr);have hd:rs[k / sz][k % sz]?=some (rs[k / sz][k % sz]'(by omega)):=Qb3 (by omega);have:=aq _ _ hr _ _ hd;rwa[<- h3]at this
structure Ib5 (w w1:World) (G:Gh) (A:Option Addr) (n n' cap sz:Nat) (olds news:List Value) (v:Value) (A':Option Addr) (cb:Addr) (ez:Nat) (grow:Bool):Prop where
 val:v=.slice A' (n+n') ez
 aval:A'=some cb\/(A'=none/\ez=0)
 le:n+n'<=ez
 os:w1.os=w.os/\w1.tape=w.tape/\w1.output=w.output
 size:w1.heap.size=w.heap.size+(if grow=true then 1 else 0)
 heap:∀ b,b<w.heap.size->(grow=true\/A'=none\/b≠cb.block)->w1.heap[b]?=w.heap[b]?
 cell:∀ k u,(olds++news)[k]?=some u->w1.cell? (cb.add k)=some u
 all:∀ k,k<ez*sz->∃ u,w1.cell? (cb.add k)=some u/\w1.frozen? (cb.add k)=false
 spot:cb.spot=none
 base:(grow=true/\A'=some cb/\cb.block=w.heap.size)\/(grow=false/\A'=some cb/\A=some cb)\/(grow=false/\A'=none)
theorem Ka5 {t tx e:TypeId}{ti:TI}{info:TypeInfo}{u u':TypeDesc}{x y:Operand}{args:Array Operand}{argTypes:Array TypeId}(ho:o.op=.call { callee:=.builtin .append,args,argTypes })
  (cn:args.toList=[x,y]) (eA:argTypes=#[t,tx]) (hu:P.underlying t=some (.slice e)) (f:bX P e ti info u) (hx:P.underlying tx=some u') (nj:∃ e',u'=.slice e')
  {A:Option Addr} {n cap n':Nat} {b:Addr} {olds news:List Value} (x4:a.eval x=.slice A n cap) (hnc:n<=cap) (hA:(A=some b/\b.spot=none)\/(A=none/\cap=0))
  (pj:olds.length=n*ti.size) (oE:∀ k u,olds[k]?=some u->w.cell? (b.add k)=some u) (br:A=some b->∀ k,k<cap*ti.size->∃ u,w.cell? (b.add k)=some u/\w.frozen? (b.add k)=false)
  {By:Option Addr} {wy:Addr} {iq:Nat} (u9:a.eval y=.slice By n' iq) (hBy:n'=0\/By=some wy) (ri:news.length=n'*ti.size) (uf:∀ k u,news[k]?=some u->w.cell? (wy.add k)=some u) (oa:∀ u∈news,u.oneCell'=true)
  (hb0:0<ti.bytes) (yg:0<ti.size) (cE:(n+n')*ti.bytes<=iW) :
  ∃ v w1 A' cb ez grow,(execOp a.eval o).run P w=.ok (.value v) w1/\Ib5 w w1 G A n n' cap ti.size olds news v A' cb ez grow:=by
 obtain⟨e',rfl⟩:=nj
 have mf:Src P ti.size tx (.slice By n' iq) n' news w:=by
  rcases hBy with rfl|rfl
  ·have:news=[]:=Sbd (by simpa using ri)
   subst this
   cases By with
   |none=>exact Src.ofNil w hx iq
   |some b1=>exact Src.ofSlice w hx b1 0 iq [] (by simp) (by simp) (by simp)
  ·exact Src.ofSlice w hx wy n' iq news ri uf oa
 have fY:∀ {v:Value} {w1:World},(Builtin.append_ #[t,tx] o.type #[.slice A n cap,.slice By n' iq]).run P w=.ok v w1->(execOp a.eval o).run P w=.ok (.value v) w1:=by
  intro v w1 h;refine lG ho (s:=Builtin.append_ argTypes o.type (args.map a.eval)) (fun _=>rfl) ?_;rw[Cb6 cn,Eb2,x4,u9,eA];exact h
 have b7:info.size=ti.size:=f.size.symm;have vz:info.bytes=ti.bytes:=f.bytes.symm;by_cases jo:n+n'<=cap
 ·rcases hA with ⟨rfl,fg⟩|⟨rfl,h0⟩
  ·
   have hbb:b=⟨b.block,b.off,none⟩:=by cases b;simp only at fg;subst fg;rfl
   have bk:∀ j,j<news.length->∃ u,w.cell? ⟨b.block,b.off+n*ti.size+j,none⟩=some u/\w.frozen? ⟨b.block,b.off+n*ti.size+j,none⟩=false:=fun j hj=>by
    have:=br rfl (n*ti.size+j) (by
     have:=Sbl ti.size jo;rw[Sbm]at this
     omega)
    rw[add_plain fg,<- Rbn]at this;exact this
   have aw:=run_append_room_src (P:=P) w t tx o.type e info hu f.info_ b.block b.off n cap (.slice By n' iq) n' news (by rw[b7];exact mf) jo
    (fun j hj=>by rw[b7];obtain⟨u,h1,-⟩:=bk j hj;rw[h1];rfl) (fun j hj=>by rw[b7];exact (bk j hj).choose_spec.2)
   rw[<- hbb,b7]at aw;refine⟨_,_,some b,b,cap,false,fY aw,rfl,.inl rfl,jo,gV _ _ _ _,by rw[setCells_size];simp,fun b' _ cr=>?_,fun k u hk=>?_,fun k hk=>?_,fg,.inr (.inl ⟨rfl,rfl,rfl⟩)⟩
   ·rcases cr with cr|cr|cr
    ·cases cr
    ·cases cr
    ·exact bY _ _ _ _ _ cr
   ·by_cases hlt:k<olds.length
    ·rw[Rbm hlt]at hk
     rw[add_plain fg,World.cell?_setCells_out _ _ _ _ _ (fun _ _=>.inl (by dsimp only;omega)),<- add_plain fg];exact oE k u hk
    ·rw[Rbl (by omega)]at hk
     have mC:=(List.getElem?_eq_some_iff.1 hk).1;have:=World.cell?_setCells_in b.block news (b.off+n*ti.size) w (fun j hj=>by obtain⟨u,h1,-⟩:=bk j hj;rw[h1];rfl) (k-olds.length) mC;rw[show b.off+n*ti.size+(k-olds.length)=b.off+k by omega]at this;rw[add_plain fg,this,<- hk,Qb3]
   ·obtain⟨u0,qm,vn⟩:=br rfl k hk
    rw[World.frozen?_setCells];obtain⟨u1,wo⟩:=jB (B:=b.block) (o:=b.off+n*ti.size) (vs:=news) (b:=b.add k) (fun _=>by rw[add_plain fg]) (fun j hj=>by obtain⟨u,h1,-⟩:=bk j hj;rw[h1];rfl) qm;exact⟨u1,wo,vn⟩
  ·
   have tS:n=0:=by omega
   have a2b:n'=0:=by omega
   subst tS a2b h0;have:news=[]:=Sbd (by simpa using ri);subst this;have:olds=[]:=Sbd (by simpa using pj);subst this;refine⟨_,_,none,⟨0,0,none⟩,0,false,fY (run_append_nothing w t tx o.type e info hu f.info_ none 0 0 (Rbg _) _ (by rw[b7];exact mf)),rfl,.inr ⟨rfl,rfl⟩,Rbg _,⟨rfl,rfl,rfl⟩,by simp,fun _ _ _=>rfl,by simp,by simp,rfl,.inr (.inr ⟨rfl,rfl⟩)⟩
 ·
  obtain⟨z,ji,lv,-,-⟩:=f.zeros (σ:=fun _=>none) (ρ:=[]) (G:=G) (w:=w);have uj:z.cells.size=ti.size:=by rw[<- Tbm,lv.len,Rbh,f.len]
  have hold:(Builtin.firstCells info.size n (.slice A n cap)).run P w.drew=.ok olds.toArray w.drew:=by
   rcases hA with ⟨rfl,fg⟩|⟨rfl,h0⟩
   ·exact run_firstCells_some w.drew info.size n b n cap olds (by rw[b7];exact pj) (fun j u hj=>oE j u hj)
   ·have tS:n=0:=by omega
    subst tS;have:olds=[]:=Sbd (by simpa using pj);subst this;rfl
  have h1:(n+n')*1<=(n+n')*ti.bytes:=Nat.mul_le_mul_left _ hb0;have tE:=nextslicecap_le (show cap<n+n' by omega)
  have zu:Builtin.nextslicecap (n+n') cap*info.bytes<=281474976710656:=by
   rw[vz];have h2:=Sbl ti.bytes tE;rw[Nat.mul_assoc]at h2;unfold iW at cE;omega
  have aw:=run_append_grow_src (P:=P) w t tx o.type e info z hu f.info_ ji A n cap olds hold (.slice By n' iq) n' news (by rw[b7];exact mf) (by omega) (by unfold iW at cE;omega) zu;have kn:=grownCap_ge w (n+n') cap e;generalize hgc:grownCap w (n+n') cap e=gc at aw kn
  have qd:∀ b',b'≠w.heap.size->(w.drew.alloc (.cells ((olds++news).toArray++Builtin.zeroCells z.cells (gc-(n+n'))) e)).heap[b']?=w.heap[b']?:=fun b' cr=>by
   show (w.heap.push _)[b']?=_
   rw[Ubl,if_neg cr]
  have de:(w.drew.alloc (.cells ((olds++news).toArray++Builtin.zeroCells z.cells (gc-(n+n'))) e)).heap[w.heap.size]?=some (.cells ((olds++news).toArray++Builtin.zeroCells z.cells (gc-(n+n'))) e (0,0)):=by
   show (w.heap.push _)[w.heap.size]?=_
   rw[Ubl,if_pos rfl]
  have aq:∀ k,(w.drew.alloc (.cells ((olds++news).toArray++Builtin.zeroCells z.cells (gc-(n+n'))) e)).cell? ((⟨w.heap.size,0,none⟩:Addr).add k)=((olds++news).toArray++Builtin.zeroCells z.cells (gc-(n+n')))[k]?:=fun k=>by
   unfold World.cell?;rw[add_block,de];simp[Addr.add];split<;>simp_all
  refine⟨_,_,some ⟨w.heap.size,0,none⟩,⟨w.heap.size,0,none⟩,gc,true,fY aw,rfl,.inl rfl,kn,⟨rfl,rfl,rfl⟩,by show (w.heap.push _).size=_;rw[Array.size_push,if_pos rfl],fun b' hlt _=>qd b' (by omega),fun k u hk=>?_,fun k hk=>?_,rfl,.inl ⟨rfl,rfl,rfl⟩⟩
  ·have hlt:=(List.getElem?_eq_some_iff.1 hk).1
   rw[aq,Array.getElem?_append_left (by simpa using hlt)];simpa using hk
  ·have lp:((olds++news).toArray++Builtin.zeroCells z.cells (gc-(n+n'))).size=gc*ti.size:=by
    simp only[Array.size_append,List.size_toArray,Qb6,Builtin.zeroCells,Array.size_map,Array.size_range];rw[pj,ri,uj,<- Sbm,<- Sbm];congr 1;omega
   rw[aq];refine⟨_,Rb0 (by omega),?_⟩;unfold World.frozen?;rw[add_block,de];simp
end
section
variable {P:Program} {E:Env} {F:bE} {n:Nat} {σ:Nat->Option aP} {ρ:List D} {a:Act} {w w':World} {G G':Gh} {g:Option (aI×Bool)} {o:Oper} {cf:Nat->List D->Option (List D)} {Q:Exit->Act->World->Prop} {next:Act->World->Prop}
structure Side (w:World) (v:Value) (rs:List (List D)) (sz:Nat) (A:Option Addr) (b:Addr) (n cap:Nat) (vs:Nat->Nat->Value):Prop where
 val:v=.slice A n cap
 len:rs.length=n
 le:n<=cap
 rows:∀ r∈rs,r.length=sz
 cell:∀ i row,rs[i]?=some row->∀ j d,row[j]?=some d->w.cell? (b.add (i*sz+j))=some (vs i j)
def ChY (G:Gh)(w:World)(gq:List Nat)(iS:Option Nat)(dy:Nat)(v:Value)(d:D)(idx:Nat):Prop :=
 Sc v d\/(∃ s,iS=some s/\2<=dy/\Rp G.own w s [idx] (dy-1) v d)\/(dy=1/\Rd (fun b=>G.own b=.frz\/∃ r p,r∈gq/\G.own b=.slc r p) w v d)
structure YOk (σ:Nat->Option aP) (G:Gh) (w:World) (fl:Bool) (v:Value) (rb:List (List D)) (sz dy:Nat) (da:List (Nat×aP)) (ry:List Nat) (gq:List Nat) (iS:Option Nat):Prop where
 side:∃ A b n cap vs,Side w v rb sz A b n cap vs/\(n=0\/A=some b)/\∀ i row,rb[i]?=some row->∀ j d,row[j]?=some d->ChY G w gq iS dy (vs i j) d (i*sz+j)
 upd:∀ k c,(k,c)∈da->∃ s,k=kR s/\s∈ry/\((iS=some s/\c=.root (.c .hole) 0 0 .gone/\∃ x m an,σ (kR s)=some (.root x m an .live))\/(s∈gq/\∃ x m an,c=.root x m an .frozen/\σ (kR s)=some (.root x m an .live)))
 fz:∀ s∈gq,s∈ry/\((∃ c,(kR s,c)∈da)\/∃ x m an,σ (kR s)=some (.root x m an .frozen))
 mv:∀ s,iS=some s->s∈ry/\(∃ c,(kR s,c)∈da)/\s∉gq
 dy:1<=dy
 flat:fl=true->da=[]/\gq=[]/\iS=none
theorem Rd.side {ok:Nat->Prop}{v:Value}{sz:Nat}{rs:List (List D)}(h:Rd ok w v (.rows sz rs)):∃ A b n cap vs,Side w v rs sz A b n cap vs/\(n=0\/A=some b)/\∀ i row,rs[i]?=some row->∀ j d,row[j]?=some d->Rd ok w (vs i j) d:=by
 obtain⟨A,b,n,c,vs,e1,e2,e3,e4,e5,e6,e7⟩:=h.inv;exact⟨A,b,n,c,vs,⟨e1,e2,e3,e5,fun i row hi j d hj=>(e6 i row hi j d hj).2⟩,e4,e7⟩
theorem Lbr (hR:R E.ntmps F σ ρ a w G){fl:Bool}{y:SlR}{v:Value}(hy:Va4 σ ρ G w y v){sz:Nat}{rb:List (List D)}(hx:y.x.val ρ=.rows sz rb)(cP:fl=true->∀ r∈rb,∀ d∈r,d.isSc=true)
  {dy:Nat} {da:List (Nat×aP)} {ry:List Nat} (h:(Sak fl y).eval σ=some (dy,da,ry)):∃ gq iS,YOk σ G w fl v rb sz dy da ry gq iS:=by
 have eo:=hy.rd;rw[hx]at eo;unfold Sak at h
 cases fl with
 | true =>
  simp only[cond_true,aC,Option.some.injEq,Prod.mk.injEq]at h;obtain⟨rfl,rfl,rfl⟩:=h;refine⟨[],none,?_,by simp,by simp,by simp,by decide,fun _=>⟨rfl,rfl,rfl⟩⟩;obtain⟨A,b,n,c,vs,h1,h2,h3⟩:=eo.side;exact⟨A,b,n,c,vs,h1,h2,fun i row hi j d hj=>.inl ((h3 i row hi j d hj).sc_inv (cP rfl row (Rbi hi) d (Rbi hj)))⟩
 | false =>
  simp only[cond_false]at h;have ab:=hy.own;unfold uI at ab
  have frozen:∀ rs fr,(dH rs).eval σ=some fr->Rd (fun b=>G.own b=.frz\/∃ r p,r∈rs/\G.own b=.slc r p) w v (.rows sz rb)->YOk σ G w false v rb sz 1 fr rs rs none:=by
   intro rs fr cm eo;obtain⟨h1,h2⟩:=fK cm;refine⟨?_,fun k c hc=>?_,fun s hs=>⟨hs,?_⟩,by simp,Rbg _,by simp⟩
   ·obtain⟨A,b,n,c,vs,h3,h4,h5⟩:=eo.side
    exact⟨A,b,n,c,vs,h3,h4,fun i row hi j d hj=>.inr (.inr ⟨rfl,h5 i row hi j d hj⟩)⟩
   ·obtain⟨s,hs,x,m,an,e1,e2,e3⟩:=h2 k c hc
    exact⟨s,e1,hs,.inr ⟨hs,x,m,an,e2,e3⟩⟩
   ·rcases h1 s hs with ⟨x,m,an,e1,e2⟩|h3
    ·exact .inl ⟨_,e2⟩
    ·exact .inr h3
  split at h
  ·rename_i r k m ho
   rw[ho]at ab;obtain⟨h1,⟨x,h2⟩,h3,h4,h5⟩:=ab;simp only[aZ,Rbz,List.length_nil,Nat.sub_zero]at h4;rw[hx]at h4
   cases hb:Nat.ble 2 m with
   | true =>
    rw[hb]at h;simp only[cond_true,aC,Option.some.injEq,Prod.mk.injEq]at h;obtain⟨rfl,rfl,rfl⟩:=h;simp only[Sbb]at hb;obtain⟨m',rfl⟩:∃ m',m=m'+1:=⟨m-1,by omega⟩;obtain⟨A,b,n,c,vs,e1,e2,e3,e4,e5,e6,e7,e8⟩:=h4.sl_inv;refine⟨[],some r,⟨A,b,n,c,vs,⟨e1,e2,e3,e5,e7⟩,?_,fun i row hi j d hj=>.inr (.inl ⟨r,rfl,hb,by simpa using e8 i row hi j d hj⟩)⟩,fun k' c' hc=>?_,by simp,fun s hs=>?_,by omega,by simp⟩
    ·rcases e4 with e4|⟨e4,n9⟩
     ·exact .inr e4
     ·exact .inl (by omega)
    ·simp only[Rbb,Prod.mk.injEq]at hc
     exact⟨r,hc.1,by simp,.inl ⟨rfl,hc.2,x,_,k,h2⟩⟩
    ·obtain rfl:=Option.some.inj hs
     exact⟨by simp,⟨_,List.mem_singleton.2 rfl⟩,by simp⟩
   | false =>
    rw[hb]at h;simp only[cond_false,aC,Option.some.injEq,Prod.mk.injEq]at h;obtain⟨rfl,rfl,rfl⟩:=h
    have hm:m<=1:=by
     have:¬ 2<=m:=by rw[<- Sbb,hb];simp
     omega
    refine⟨[],none,?_,by simp,by simp,by simp,Rbg _,by simp⟩
    rcases Nat.eq_zero_or_pos m with rfl|ew
    ·obtain⟨A,b,n,c,vs,h6,h7,h8⟩:=h4.zero.side
     exact⟨A,b,n,c,vs,h6,h7,fun i row hi j d hj=>.inr (.inr ⟨rfl,(h8 i row hi j d hj).mono fun b hb=>⟨.inl hb,rfl⟩⟩)⟩
    ·obtain rfl:m=0+1:=by omega
     obtain⟨A,b,n,c,vs,e1,e2,e3,e4,e5,e6,e7,e8⟩:=h4.sl_inv;refine⟨A,b,n,c,vs,⟨e1,e2,e3,e5,e7⟩,?_,fun i row hi j d hj=>.inr (.inr ⟨rfl,(e8 i row hi j d hj).zero.mono fun b hb=>⟨.inl hb,rfl⟩⟩)⟩
     rcases e4 with e4|⟨e4,n9⟩
     ·exact .inr e4
     ·exact .inl (by omega)
  ·rename_i r k m p bh ho
   rw[ho]at ab;simp only[aA,Qb0,aC,Option.some.injEq,Prod.mk.injEq]at h;obtain⟨fr,h6,rfl,rfl,rfl⟩:=h;refine⟨[r],none,frozen _ _ h6 ?_⟩;refine eo.mono fun b hb=>⟨hb.imp id fun ⟨r',k',p',h7,h8⟩=>?_,rfl⟩
   rw[ab.1]at h7;simp only[Rbb,Prod.mk.injEq]at h7;exact⟨r,p',by simp,h7.1▸h8⟩
  ·split at h
   ·rename_i z hz
    simp only[aC,Option.some.injEq,Prod.mk.injEq]at h;obtain⟨rfl,rfl,rfl⟩:=h;rw[hz]at hx;simp only[aI.val,D.rows.injEq]at hx;obtain⟨rfl,rfl⟩:=hx;refine⟨[],none,?_,by simp,by simp,by simp,by decide,by simp⟩;obtain⟨A,b,n,c,vs,h1,h2,h3⟩:=eo.side;exact⟨A,b,n,c,vs,h1,h2,by simp⟩
   ·simp only[aA,Qb0,aC,Option.some.injEq,Prod.mk.injEq]at h
    obtain⟨fr,h6,rfl,rfl,rfl⟩:=h;refine⟨y.deps.map (·.1),none,frozen _ _ h6 ?_⟩;exact eo.mono fun b hb=>⟨hb.imp id fun ⟨r',k',p',h7,h8⟩=>⟨r',p',Sbh (f:=fun x:Nat×Nat=>x.1) h7,h8⟩,rfl⟩
end
end Go.Proofs.YtpgnlmfmlffjcaaGreat.Rf
