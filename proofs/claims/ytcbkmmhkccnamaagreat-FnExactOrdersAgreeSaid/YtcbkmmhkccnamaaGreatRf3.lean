/- Terms for s6 program's functions, and nj they are right: part 3 of 10. -/
import Derived.Test.YtcbkmmhkccnamaaGreatRf2
import Derived.Laws.IdiomCopy
import Derived.Deep.Upon
open Array renaming getElem?_eq_getElem → Acd, getElem?_toList → Acz, length_toList → Bc5, getElem?_push → Cc4, ext' → Cc5
open Bool renaming and_eq_true → Zbd, not_eq_true' → Zb3
open List renaming mem_append_left → Zbe, getElem?_eq_getElem → Zbf, mem_append_right → Zbh, length_append → Zbi, getD_eq_getElem?_getD → Zbk, getElem?_cons_zero → Zbl, append_assoc → Zbm, mem_cons_of_mem → Zbn, mem_singleton → Zbp, length_cons → Zbs, length_map → Zbt, mem_cons_self → Zbu, mem_of_getElem? → Zbv, getElem?_append_right → Zbw, getElem?_append_left → Zbx, getElem?_map → Zb2, append_nil → Zb4, map_cons → Zb5, all_eq_true → Zb6, map_nil → Acb, getElem?_drop → Acg, getElem?_cons_succ → Acl, nil_append → Aco, getElem?_take → Acs, eq_nil_of_length_eq_zero → Acu, mem_map_of_mem → Acx, length_singleton → Ac1, cons_append → Bch, getElem?_set → Bci, mem_or_eq_of_mem_set → Bcj, foldl_cons → Bcv, singleton_append → Bc3, ext_getElem? → Cce, any_eq_false → Ccf, isEmpty_iff → Ccp, getElem?_range → Cc1
open Nat renaming le_refl → Zbr, lt_or_ge → Zbz, add_assoc → Zb0, beq_eq → Zb8, add_zero → Zb9, ble_eq → Acr, mul_le_mul_right → Ac2, add_mul → Ac4, mul_comm → Ccr, div_eq_of_lt → Ccu
open Option renaming bind_eq_some_iff → Zbc, bind_some → Zbj, map_eq_some_iff → Zbo, map_some → Acm, isNone_iff_eq_none → Bc7
set_option linter.unusedSimpArgs false
set_option linter.unusedVariables false
set_option linter.unnecessarySimpa false
set_option linter.unusedSectionVars false
namespace Go.Proofs.YtcbkmmhkccnamaaGreat.Rf
theorem dE (b:Nat):∀ (vs:List Value) (o:Nat) (w:World) (k:Nat),k≠b->(w.setCells b o vs).heap[k]?=w.heap[k]?
 |[],_,_,_,_=>rfl
 | v :: r, o, w, k, h => by
  rw[World.setCells,dE b r _ _ k h];exact heap_setCell_other w _ k v h
theorem setCells_size (b:Nat):∀ (vs:List Value) (o:Nat) (w:World),(w.setCells b o vs).heap.size=w.heap.size
 |[],_,_=>rfl
 |v::r,o,w=>by rw[World.setCells,setCells_size b r];exact World.size_setCell ..
theorem iT (b:Nat):∀ (vs:List Value) (o:Nat) (w:World),(w.setCells b o vs).os=w.os/\(w.setCells b o vs).tape=w.tape/\(w.setCells b o vs).output=w.output
 |[],_,_=>⟨rfl,rfl,rfl⟩
 |v::r,o,w=>by rw[World.setCells];exact iT b r (o+1) _
theorem Bat (b:Nat):∀ (vs:List Value) (o:Nat) (w:World) (c:Array Value) (e:TypeId) (fr:Nat×Nat),w.heap[b]?=some (.cells c e fr) ->
  ∃ c',(w.setCells b o vs).heap[b]?=some (.cells c' e fr)/\c'.size=c.size/\∀ k,k<o\/o+vs.length<=k->c'[k]?=c[k]?
 |[],o,w,c,e,fr,h=>⟨c,h,rfl,fun _ _=>rfl⟩
 | v :: r, o, w, c, e, fr, h => by
  have h1:(w.setCell ⟨b,o,none⟩ v).heap[b]?=some (.cells (c.setIfInBounds o v) e fr):=by
   simp[World.setCell,Array.getElem?_modify,h]
  obtain⟨c',h2,h3,h4⟩:=Bat b r (o+1) _ _ e fr h1;refine⟨c',h2,by simpa using h3,fun k hk=>?_⟩;simp only[Zbs]at hk;rw[h4 k (by omega),Array.getElem?_setIfInBounds_ne (by omega)]
section
variable {P:Program} {E:Env} {F:bH} {σ:Nat->Option aS} {ρ:List D} {a:Act} {w w':World} {G:Gh} {g:Option (aL×Bool)} {o:Oper} {cf:Nat->List D->Option (List D)} {Q:Exit->Act->World->Prop} {next:Act->World->Prop}
theorem Faa {t:TypeId}{i:TI}{info:TypeInfo}{u:TypeDesc}(f:dB P t i info u){b off:Nat}{v:Value}(hl:v.cells.toList.length=i.size)
  (hc:∀ j,j<i.size->∃ u,w.cell? ⟨b,off+j,none⟩=some u) (hf:∀ j,j<i.size->w.frozen? ⟨b,off+j,none⟩=false) (h1:∀ x∈v.cells.toList,x.oneCell'=true) :
  (storeVar t ⟨b,off,none⟩ v).run P w=.ok () (w.setCells b off v.cells.toList):=by
 unfold storeVar;rw[Sem.run_bind,f.sizeOf];simp only[Result.andThen_ok];have:¬ v.cells.size≠i.size:=by simpa using hl
 rw[if_neg this]
 have h2:=run_storeCells_cells (P:=P) b off v.cells.toList 0 w (fun j hj=>by
  obtain⟨u,hu⟩:=hc j (by omega);rw[Zb9,hu];rfl) (fun j hj=>by rw[Zb9];exact hf j (by omega)) h1
 rw[Zb9]at h2;simpa using h2
theorem aB.one {l:aR}{v:Value}(h:aB σ ρ G w l v)(hs:Pac l=true):v.oneCell'=true:=by
 cases l with
 |dead=>simpa[aB] using h
 |sc x=>simp only[aB]at h;exact h.one
 |su g x=>simp[Pac]at hs
 |ex r=>simp only[aB]at h;exact h.2.2
 |sn deps p nie x=>simp only[aB]at h;exact h.1.1
 |px b off=>simp only[aB]at h;rw[h.1];rfl
 |pe l sz i off=>simp only[aB]at h;obtain⟨_,_,_,_,_,_,_,_,_,e⟩:=h;rw[e];rfl
 |rp deps sz x=>simp only[aB]at h;exact h.1.1
 |pn=>simp only[aB]at h;rw[h];rfl
 |clo f fu=>simp only[aB]at h;obtain⟨_,e,_⟩:=h;rw[e];rfl
theorem aG.ones {ls:List aR}{vs:List Value}(h:aG σ ρ G w ls vs)(hs:ls.all Pac=true):∀ v∈vs,v.oneCell'=true:=by
 intro v hv;obtain⟨i,hi⟩:=List.mem_iff_getElem?.1 hv
 have hlt:i<ls.length:=by
  rw[<- h.len];exact (List.getElem?_eq_some_iff.1 hi).1
 have hl:ls[i]?=some ls[i]:=Zbf hlt;obtain⟨v',h1,h2⟩:=h.get hl;rw[hi]at h1;obtain rfl:=Option.some.inj h1;rw[Zb6]at hs;exact h2.one (hs _ (Zbv hl))
theorem wL {v:Value}(h:v.oneCell'=true):v.cells=#[v]:=by cases v<;>first|rfl|(simp[Value.oneCell']at h)
theorem aB.cells {l:aR}{v:Value}(h:aB σ ρ G w l v):v.cells=#[v]:=by
 by_cases hs:Pac l=true
 ·exact wL (h.one hs)
 ·cases l<;>first|(simp[Pac]at hs;done)|skip
  simp only[aB]at h
  rcases h.1 with h1|⟨rfl,-⟩
  ·exact wL h1.one
  ·rfl
theorem iN {agg:Bool}{sv:SV}{ls:List aR}{v:Value}(h:kD agg sv=some ls)(hv:cB σ ρ G w sv v):aG σ ρ G w ls v.cells.toList:=by
 unfold kD at h;split at h
 ·rename_i l
  cases agg with
  |true=>cases h
  | false =>
   obtain rfl:=Option.some.inj h;rw[aB.cells hv];simp only[aG];exact⟨v,[],rfl,hv,rfl⟩
 ·rename_i ms
  cases agg with
  |false=>cases h
  | true =>
   obtain rfl:=Option.some.inj h;obtain⟨vs,rfl,h1⟩:=hv;simpa[Value.cells] using h1
 ·cases h
def pushB (w:World)(c:Array Value)(e:TypeId):World:={ w with heap:=w.heap.push (.cells c e (0,0)) }
theorem lN {c:Array Value}{e:TypeId}{b:Nat}(h:b≠w.heap.size):(pushB w c e).heap[b]?=w.heap[b]?:=by
 unfold pushB;rw[Cc4,if_neg h]
theorem Pa8 {c:Array Value}{e:TypeId}:(pushB w c e).heap[w.heap.size]?=some (.cells c e (0,0)):=by
 unfold pushB;rw[Cc4,if_pos rfl]
theorem lC {c:Array Value}{e:TypeId}:(pushB w c e).heap.size=w.heap.size+1:=by
 unfold pushB;simp
theorem nW {c:Array Value}{e:TypeId}(j:Nat):(pushB w c e).cell? ((⟨w.heap.size,0,none⟩:Addr).add j)=c[j]?:=by
 unfold World.cell?;rw[add_block,Pa8];simp[Addr.add];split<;>simp_all
theorem wI {c:Array Value}{e:TypeId}(j:Nat):(pushB w c e).frozen? ((⟨w.heap.size,0,none⟩:Addr).add j)=false:=by
 unfold World.frozen?;rw[add_block,Pa8];simp
theorem mP.push (h:mP F G w)(c:Array Value)(e:TypeId){G':Gh}(ho:∀ b,b≠w.heap.size->G'.own b=G.own b\/((∃ r p,G.own b=.slc r p))):mP F G' (pushB w c e):=by
 refine⟨h.os,h.tape,h.output,by rw[lC];have:=h.size;omega,fun b hb hf=>?_,fun b j hb hj=>?_,fun b hb=>?_⟩
 ·have cJ:b≠w.heap.size:=by have:=h.size;omega
  obtain⟨h1,h2⟩:=h.keep b hb hf;refine⟨by rw[lN cJ];exact h1,?_⟩
  rcases ho b cJ with h3|⟨r,p,h3⟩
  ·rw[h3];exact h2
  ·rw[h3]at h2
   rw[<- h2]at hf
   rcases hf with hf|hf<;>cases hf
 ·have cJ:b≠w.heap.size:=by have:=h.size;omega
  obtain⟨h1,c0,c1,e',fr,h2,h3,h4⟩:=h.boxes b j hb hj;refine⟨?_,c0,c1,e',fr,h2,by rw[lN cJ];exact h3,h4⟩
  rcases ho b cJ with h5|⟨r,p,h5⟩
  ·rw[h5];exact h1
  ·rw[h5]at h1;cases h1
 ·rw[lC]at hb
  have cJ:b≠w.heap.size:=by omega
  rcases ho b cJ with h5|⟨r,p,h5⟩
  ·rw[h5];exact h.fresh b (by omega)
  ·rw[h.fresh b (by omega)]at h5;cases h5
def zL (G:Gh)(w:World)(nb:Nat):Gh:={ G with own:=fun b=>if b=w.heap.size then .box nb else G.own b,bx:=fun b=>if b=nb then ⟨w.heap.size,0,none⟩ else G.bx b }
structure Dao (σ:Nat->Option aS) (nb nr:Nat):Prop where
 nb:σ (kB nb)=none
 nr:∀ j,nr<=j->j<nr+bW->σ (kR j)=none
theorem Lac {e:TypeId}{v:Value}:(newVar e v).run P w=.ok ⟨w.heap.size,0,none⟩ (pushB w v.cells e):=by
 simp[newVar,newRow,pushB]
theorem Hbl {u0:List (Nat×aS)}{nb:Nat}{ls:List aR}(r:Nat)(h:∀ k c,(k,c)∈u0->∃ t,k=kT t):upds σ (u0++[(kB nb,aS.box false ls)]) (kR r)=σ (kR r):=by
 refine eU _ _ _ fun c hc=>?_
 rcases List.mem_append.1 hc with hc|hc
 ·obtain⟨t,e⟩:=h _ _ hc
  exact iU e.symm
 ·simp only[Zbp,Prod.mk.injEq]at hc
  exact fE hc.1.symm
theorem Jaf (o:Oper)(g:Option (aL×Bool))(v:SV):∀ k c,(k,c)∈dW o g v->∃ t,k=kT t:=by
 intro k c h;unfold dW at h;split at h
 ·rename_i d _
  simp only[Zbp,Prod.mk.injEq]at h;exact⟨d,h.1⟩
 ·simp at h
theorem yX {o:Oper}{g:Option (aL×Bool)}{v:SV}{k:Nat}{c:aS}(h:(k,c)∈dW o g v):∃ d,o.dst=some d/\k=kT d/\c=.slot g v:=by
 unfold dW at h;split at h
 ·rename_i d hd
  simp only[Zbp,Prod.mk.injEq]at h;exact⟨d,hd,h.1,h.2⟩
 ·simp at h
theorem Gak {n:Nat}{gh:Nat->Value}{v:Value}{g:Option (aL×Bool)}{sv:SV}{u1:List (Nat×aS)}{t:Nat}(h:∀ c,(kT t,c)∉dW o g sv++u1):Bae n (a.put o.dst v) gh t=Bae n a gh t:=by
 cases e:o.dst with
 |none=>rfl
 | some d =>
  refine Hac _ _ _ _ _ _ fun e'=>h (.slot g sv) ?_
  refine Zbe _ ?_;unfold dW;rw[e,e'];exact List.mem_singleton.2 rfl
theorem R.newBox (h:R E.ntmps F σ ρ a w G)(hd:fG E.ntmps o){nb:Nat}(hf:σ (kB nb)=none){cs:Array Value}{ty:TypeId}{ls:List aR}(hl:aG σ ρ G w ls cs.toList) :
  R E.ntmps F (upds σ (dW o none (.one (.px nb 0))++[(kB nb,.box false ls)])) ρ (a.put o.dst (.pointer (some ⟨w.heap.size,0,none⟩))) (pushB w cs ty) (zL G w nb):=by
 have cJ:∀ b,G.own b≠.frz->b≠w.heap.size:=fun b hb e=>hb (h.frame.fresh b (by omega))
 have lj:=Jaf o none (.one (.px nb 0));have hR:∀ r,upds σ (dW o none (.one (.px nb 0))++[(kB nb,aS.box false ls)]) (kR r)=σ (kR r):=fun r=>Hbl r lj
 have eu:Fr σ G w (upds σ (dW o none (.one (.px nb 0))++[(kB nb,.box false ls)])) (zL G w nb) (pushB w cs ty):=by
  refine⟨fun b hb hlt=>?_,fun r k _ hv=>?_,fun r k hk=>hk.same hR,fun r k b p _ _ hb=>?_,fun r k m _ hv=>⟨?_,fun b p hb=>?_⟩,fun _ _=>rfl,fun b hb=>?_,fun k hk=>eD _ _ _ (.inl hk),fun r x m k _ b p hb=>?_⟩
  ·have hn:b≠w.heap.size:=by omega
   exact⟨by simp only[zL,if_neg hn];exact hb,lN hn⟩
  ·obtain⟨x,m,st,e,hs⟩:=hv
   exact⟨x,m,st,by rw[<- hR];exact e,hs⟩
  ·have hn:=cJ b (by rw[hb];simp)
   exact⟨.inl (by simp only[zL,if_neg hn];exact hb),lN hn⟩
  ·obtain⟨x,e⟩:=hv
   exact⟨x,by rw[<- hR];exact e⟩
  ·have hn:=cJ b (by rw[hb];simp)
   simp only[zL,if_neg hn];exact hb
  ·have:b≠nb:=fun e=>by rw[e,hf]at hb;cases hb
   simp only[zL,if_neg this]
  ·by_cases hn:b=w.heap.size
   ·simp only[zL,if_pos hn]at hb;cases hb
   ·simp only[zL,if_neg hn]at hb;exact hb
 refine h.upd _ eu (by rw[Ba7];exact h.tmps) (by rw[put_defers];exact h.defers) (h.frame.push cs ty fun b hb=>.inl (by simp only[zL,if_neg hb])) (fun t ht=>Gak ht) (fun b ro bs hb _=>?_) (fun b bs hb hlt ho=>?_) (fun k c hk kb=>?_)
 ·obtain⟨_,h2,_⟩:=h.box hb
  have hn:=cJ (G.bx b).block (by rw[h2];split<;>simp);exact⟨by simp only[zL,if_neg hn],lN hn⟩
 ·rcases List.mem_append.1 hb with hb|hb
  ·obtain⟨t,e⟩:=lj _ _ hb
   exact absurd e.symm lT
  ·simp only[Zbp,Prod.mk.injEq]at hb
   obtain rfl:=Cas hb.1;simp only[zL,if_true]at hlt;have:=h.frame.size;omega
 ·rcases List.mem_append.1 hk with hk|hk
  ·obtain⟨d,na,rfl,rfl⟩:=yX hk
   refine⟨d,rfl,fun _=>?_⟩;rw[na,oC _ _ _ _ _ (hd d na) h.tmps];simp only[cB,aB,zL,if_true];exact⟨by simp[Addr.add],eD _ _ _ (.inr ⟨_,Zbh _ (List.mem_singleton.2 rfl)⟩)⟩
  ·simp only[Zbp,Prod.mk.injEq]at hk
   obtain⟨rfl,rfl⟩:=hk;refine⟨nb,rfl,by simp[zL],by simp[zL],fun j l hj=>?_⟩;obtain⟨v,h1,h2⟩:=hl.get hj;refine⟨v,?_,?_,aB.mono eu l v h2⟩
   ·simp only[zL,if_true]
    rw[nW];simpa using h1
   ·simp only[zL,if_true]
    exact wI j
theorem Ya9 (hR:R E.ntmps F σ ρ a w G)(hd:fG E.ntmps o)(hti:vN P E.ti){nv nb nr:Nat}{mv dt:Bool}(hf:Dao σ nb nr){e:TypeId}{x:Operand}(ho:o.op=.box e x){res:bP}
  (h:(qA E mv dt nv nb nr g o).eval σ=some res) (hs:aN cf ρ g nv res.lets):gV P E F σ ρ a w g o Q res.upd:=by
 simp only[qA,ho,aA,Zbc,tiR,aW]at h;obtain⟨ti,h1,sv,h2,h⟩:=h;split at h
 ·rename_i ls si
  simp only[aA,Zbc,aK]at h;obtain⟨_,h3,h⟩:=h;split at h3
  ·rename_i hb
   simp only[Zbd]at hb;obtain rfl:=wO hb.1.2;simp only[tX,aF,Option.some.injEq]at h;subst h;refine⟨fun hg=>?_,fun hg=>by simp[gOn]at hg⟩;have h4:=iN si (gD hR hg h2);refine nJ (v:=.pointer (some ⟨w.heap.size,0,none⟩)) (w':=pushB w (a.eval x).cells e) ?_ ⟨_,hR.newBox hd hf.nb h4⟩;unfold execOp;simp only[ho];refine fQ ?_;simp only[Instr.box,Sem.run_bind,Lac,Result.andThen_ok,Sem.run_pure]
  ·cases h3
 ·cases h
theorem Mam {v:Value}{c:CK}(h:zeroCell v c=true):aB σ ρ G w (fK c) v:=by
 unfold zeroCell at h;split at h
 ·simp only[Zbd,decide_eq_true_eq]at h
  obtain⟨⟨rfl,rfl⟩,rfl⟩:=h;simp only[fK,aB,aL.val];exact .int _ _
 ·simp only[Zbd,decide_eq_true_eq]at h
  obtain⟨rfl,rfl⟩:=h;simp only[fK,aB,aL.val];exact .bool _
 ·rename_i s l
  simp only[Zbd,decide_eq_true_eq]at h;obtain⟨h1,rfl⟩:=h;simp only[fK,aB,aL.val];have:=Sc.str s.data.toList;rw[h1]at this
  have e:s=⟨[].toArray⟩:=by
   apply ByteArray.ext;apply Cc5;simpa using h1
  rw[e];exact this
 ·simp only[fK,aB]
  refine⟨⟨rfl,by simp⟩,fun _=>⟨?_,fun _ z _=>trivial,trivial⟩⟩;exact .rows none ⟨0,0,none⟩ 0 0 _ [] (fun _ _=>undef) rfl (Zbr _) (.inl rfl) (by simp) (by simp) (by simp)
 ·simp only[fK,aB]
 ·cases h
theorem Ea2 {v:Value}{c:CK}(h:zeroCell v c=true):v.oneCell'=true:=by
 unfold zeroCell at h;split at h<;>first|rfl|cases h
theorem dB.zeros {t:TypeId}{i:TI}{info:TypeInfo}{u:TypeDesc}(f:dB P t i info u):∃ z,info.zero=some z/\aG σ ρ G w (i.cells.map fK) z.cells.toList /\
  (∀ x∈z.cells.toList,x.oneCell'=true)/\(∀ (j:Nat) (x:Value) (c:CK),z.cells[j]?=some x->i.cells[j]?=some c->zeroCell x c=true):=by
 have h:=f.zero;unfold Uaa at h;split at h
 ·rename_i vs cs heq
  simp only[Zbd,beq_iff_eq,Zb6]at h;obtain⟨h1,h2⟩:=h
  have hz:∀ (j:Nat) (x:Value) (c:CK),vs[j]?=some x->i.cells[j]?=some c->zeroCell x c=true:=by
   intro j x c hx hc
   exact h2 (x,c) (Zbv (i:=j) (by
    rw[List.getElem?_zip_eq_some];exact⟨by simpa using hx,hc⟩))
  refine⟨_,heq,.of_get (by simpa[Value.cells] using h1) fun j l v hj hv=>?_,fun x hx=>?_,hz⟩
  ·simp only[Zb2,Zbo]at hj
   obtain⟨c,hc,rfl⟩:=hj;exact Mam (hz j v c (by simpa[Value.cells] using hv) hc)
  ·obtain⟨j,hj⟩:=List.mem_iff_getElem?.1 hx
   have hlt:j<i.cells.length:=by
    rw[<- h1];simpa[Value.cells] using (List.getElem?_eq_some_iff.1 hj).1
   exact Ea2 (hz j x _ (by simpa[Value.cells] using hj) (Zbf hlt))
 ·rename_i v c _ hz hcs
  have h1:=Ea2 h;refine⟨v,hz,?_,fun x hx=>?_,fun j x c' hx hc=>?_⟩
  ·rw[hcs,wL h1]
   simp only[Zb5,Acb,aG];exact⟨v,[],rfl,Mam h,rfl⟩
  ·rw[wL h1]at hx
   simp only[Zbp]at hx;rw[hx];exact h1
  ·rw[wL h1]at hx
   rw[hcs]at hc
   cases j with
   | zero =>
    simp only[Zbl,Option.some.injEq]at hc;simp at hx;rw[<- hx,<- hc];exact h
   |succ j=>simp at hc
 ·cases h
theorem lM {t:TypeId}{info:TypeInfo}{z:Value}(h:P.info? t=some info)(hz:info.zero=some z):(zeroValue t).run P w=.ok z w:=by
 simp[zeroValue,typeInfo,h,hz]
theorem Sas (hR:R E.ntmps F σ ρ a w G)(hd:fG E.ntmps o)(hti:vN P E.ti){nv nb nr:Nat}{mv dt:Bool}(hf:Dao σ nb nr){e:TypeId}(ho:o.op=.alloc e){res:bP}
  (h:(qA E mv dt nv nb nr g o).eval σ=some res) (hs:aN cf ρ g nv res.lets):gV P E F σ ρ a w g o Q res.upd:=by
 simp only[qA,ho,aA,Zbc,tiR,aW,aK]at h;obtain⟨ti,h1,_,h2,h⟩:=h;split at h2
 ·rename_i hb
  obtain rfl:=wO hb;simp only[tX,aF,Option.some.injEq]at h;subst h;refine⟨fun hg=>?_,fun hg=>by simp[gOn]at hg⟩;obtain⟨info,u,f⟩:=aX (hti.ok _ _ h1);obtain⟨z,h3,h4,h5,-⟩:=f.zeros (σ:=σ) (ρ:=ρ) (G:=G) (w:=w);refine nJ (v:=.pointer (some ⟨w.heap.size,0,none⟩)) (w':=pushB w z.cells e) ?_ ⟨_,hR.newBox hd hf.nb h4⟩;unfold execOp;simp only[ho];refine fQ ?_;simp only[Instr.alloc,Sem.run_bind,lM f.info_ h3,Lac,Result.andThen_ok,Sem.run_pure]
 ·cases h2
theorem kZ {α:Type}{l:List α}{k:Nat}{r:List α}(h:k+r.length<=l.length):(setRange l k r).length=l.length:=by
 simp[setRange];omega
theorem iL {α:Type}{l:List α}{k:Nat}{r:List α}(h:k+r.length<=l.length)(j:Nat):(setRange l k r)[j]?=if k<=j/\j<k+r.length then r[j-k]? else l[j]?:=by
 unfold setRange;by_cases h1:j<k
 ·rw[Zbm,Zbx (by simp;omega),Acs,if_pos h1,if_neg (by omega)]
 ·by_cases h2:j<k+r.length
  ·rw[if_pos ⟨by omega,h2⟩,Zbm,Zbw (by simp;omega),Zbx (by simp;omega)]
   congr 1
   simp;omega
  ·rw[if_neg (by omega),Zbw (by simp;omega),Acg]
   congr 1
   simp;omega
theorem Pau {α:Type}{l:List α}{k:Nat}{v:α}{r:List α}(h:k+(v::r).length<=l.length):setRange (l.set k v) (k+1) r=setRange l k (v::r):=by
 simp only[Zbs]at h;apply Cce;intro j;rw[iL (by simp;omega),iL (by simp;omega)];by_cases h1:k+1<=j/\j<k+1+r.length
 ·rw[if_pos h1,if_pos (by simp;omega),show j-k=(j-(k+1))+1 by omega,Acl]
 ·rw[if_neg h1,Bci]
  by_cases h2:k=j
  ·subst h2
   rw[if_pos rfl,if_pos (by omega),if_pos (by simp)];simp
  ·rw[if_neg h2,if_neg (by simp;omega)]
theorem Vau (off:Nat):∀ (vs:List Value) (k:Nat) (cells:Array Value),off+k+vs.length<=cells.size ->
  ((vs.zipIdx k).foldl (fun cs x=>cs.setIfInBounds (off+x.2) x.1) cells).toList=setRange cells.toList (off+k) vs
 |[],k,cells,h=>by simp[setRange]
 | v :: r, k, cells, h => by
  simp only[Zbs]at h;simp only[List.zipIdx_cons,Bcv];rw[Vau off r (k+1) _ (by simp;omega),Array.toList_setIfInBounds,<- Zb0,Pau (by simp;omega)]
theorem aG.setRange {ls ms:List aR}{us xs:List Value}(h:aG σ ρ G w ls us)(h':aG σ ρ G w ms xs){k:Nat}(hk:k+ms.length<=ls.length):aG σ ρ G w (setRange ls k ms) (setRange us k xs):=by
 have e1:=h.len;have e2:=h'.len;refine .of_get (by rw[kZ (by omega),kZ hk,e1]) fun i l v hi hv=>?_
 rw[iL hk]at hi;rw[iL (by omega)]at hv;rw[e2]at hv;split at hi
 ·rename_i hh
  rw[if_pos hh]at hv;obtain⟨v',h1,h2⟩:=h'.get hi;rw[h1]at hv;exact Option.some.inj hv▸h2
 ·rename_i hh
  rw[if_neg hh]at hv;obtain⟨v',h1,h2⟩:=h.get hi;rw[h1]at hv;exact Option.some.inj hv▸h2
theorem Raa {place:Nat->Option (Nat×Nat)}{cells:Array Value}{i off size:Nat}{v:Value}{rest:List (Nat×Value)}(hp:place i=some (off,size))(hs:v.cells.toList.length=size)(hb:off+size<=cells.size) :
  ∃ cells':Array Value,Instr.fill place cells ((i,v)::rest)=Instr.fill place cells' rest/\cells'.toList=setRange cells.toList off v.cells.toList:=by
 refine⟨v.cells.zipIdx.foldl (fun cs (x:Value×Nat)=>cs.setIfInBounds (off+x.2) x.1) cells,?_,?_⟩
 ·rw[Instr.fill,hp]
  dsimp only;have:v.cells.size=size:=by simpa using hs
  rw[if_neg];simp only[this];simp;omega
 ·have:=Vau off v.cells.toList 0 cells (by simpa[hs] using hb)
  rw[Zb9]at this;rw[<- this,<- Array.foldl_toList,Array.toList_zipIdx]
def Ga3 (σ:Nat->Option aS)(ρ:List D)(G:Gh)(w:World)(a:Act):List (Nat×Operand)->List (Nat×SV)->Prop
 |[],ps=>ps=[]
 |x::xs,ps=>∃ sv qs,ps=(x.1,sv)::qs/\cB σ ρ G w sv (a.eval x.2)/\Ga3 σ ρ G w a xs qs
theorem Aao (hR:R E.ntmps F σ ρ a w G)(hg:gOn ρ g=true){ty:Nat->TypeId}:∀ {xs:List (Nat×Operand)} {ps:List (Nat×SV)},(Da7 E g ty xs).eval σ=some ps ->
  Ga3 σ ρ G w a xs ps
 | [], ps, h => by
  simp only[Da7,aF,Option.some.injEq]at h;subst h;exact rfl
 | (i, x) :: xs, ps, h => by
  simp only[Da7,aA,Zbc,aF,Option.some.injEq]at h;obtain⟨sv,h1,l,h2,rfl⟩:=h;exact⟨sv,l,rfl,gD hR hg h1,Aao hR hg h2⟩
theorem Aaf {flds:List (Nat×Nat)}{place:Nat->Option (Nat×Nat)}(ou:∀ i off t f,flds[i]?=some (off,t)->E.ti t=some f->place i=some (off,f.size)) :
  ∀ {xs:List (Nat×Operand)} {ps:List (Nat×SV)},Ga3 σ ρ G w a xs ps->∀ {ls kk:List aR} {us:Array Value},aG σ ρ G w ls us.toList->sI flds E.ti ls ps=some kk ->
  ∃ cW,Instr.fill place us (xs.map fun x=>(x.1,a.eval x.2))=some cW/\aG σ ρ G w kk cW.toList
 | [], _, rfl, ls, kk, us, hl, h => by
  simp only[sI,Option.some.injEq]at h;subst h;exact⟨us,rfl,hl⟩
 | (i, x) :: xs, _, ⟨sv, ps, rfl, h1, hr⟩, ls, kk, us, hl, h => by
  unfold sI at h;split at h
  ·rename_i off t fX
   split at h
   ·rename_i f hf
    split at h
    ·rename_i vs lk
     cases hb:(Nat.beq vs.length f.size&&Nat.ble (off+f.size) ls.length) with
     |false=>rw[hb]at h;cases h
     | true =>
      rw[hb,cond_true]at h;simp only[Zbd,Zb8,Acr]at hb;have h2:=iN lk h1;have hlen:=hl.len;obtain⟨us1,h3,h4⟩:=Raa (rest:=xs.map fun x=>(x.1,a.eval x.2)) (ou _ _ _ _ fX hf) (by rw[h2.len];exact hb.1) (by rw[<- Bc5,hlen];exact hb.2);obtain⟨cW,h5,h6⟩:=Aaf ou hr (us:=us1) (by rw[h4];exact hl.setRange h2 (by rw[hb.1];exact hb.2)) h;exact⟨cW,by rw[Zb5,h3];exact h5,h6⟩
    ·cases h
   ·cases h
  ·cases h
theorem Bax {α β:Type}(f:α->Sem β)(g:α->β):∀ (l:List α),(∀ x∈l,(f x).run P w=.ok (g x) w)->(l.mapM f).run P w=.ok (l.map g) w
 |[],_=>by simp
 | x :: l, h => by
  rw[List.mapM_cons,Sem.run_bind,h x (by simp)];simp only[Result.andThen_ok];rw[Sem.run_bind,Bax f g l fun y hy=>h y (by simp[hy])];simp
theorem zS {α β:Type}(f:α->Sem β)(g:α->β)(l:Array α)(h:∀ x∈l.toList,(f x).run P w=.ok (g x) w):(l.mapM f).run P w=.ok (l.map g) w:=by
 rw[Array.mapM_eq_mapM_toList,map_eq_pure_bind,Sem.run_bind,Bax f g _ h];simp only[Result.andThen_ok,Sem.run_pure];congr 1;apply Cc5;simp
theorem xD {α β:Type}(f:List β->α->Option (List β)):∀ (l:List α),l.foldl (fun acc x=>acc.bind fun r=>f r x) none=none
 |[]=>rfl
 |x::l=>by rw[Bcv];exact xD f l
theorem Aad {α β:Type}(f:List β->α->Option (List β)):∀ (l:List α) (r0 r:List β),l.foldl (fun acc x=>acc.bind fun r=>f r x) (some r0)=some r->∀ x∈l,∃ r1 r2,f r1 x=some r2
 |[],_,_,_,x,hx=>by simp at hx
 | y :: l, r0, r, h, x, hx => by
  rw[Bcv,Zbj]at h
  cases hf:f r0 y with
  |none=>rw[hf,xD]at h;cases h
  | some r1 =>
   rcases List.mem_cons.1 hx with rfl|hx
   ·exact⟨r0,r1,hf⟩
   ·rw[hf]at h
    exact Aad f l r1 r h x hx
theorem Bbk {d:Nat}{t:TypeId}{l:List TypeId}(h:flat P d t=some l):∃ i,P.info? t=some i:=by
 cases d with
 |zero=>cases h
 | succ d =>
  unfold flat at h;unfold Program.underlying at h
  cases hi:P.info? t with
  |none=>rw[hi]at h;cases h
  |some i=>exact⟨i,rfl⟩
theorem Xa5 {d:Nat}{t:TypeId}{l:List TypeId}{fs:Array Field}(h:flat P (d+1) t=some l)(hu:P.underlying t=some (.struct fs)):∀ f∈fs.toList,∃ i,P.info? f.type=some i:=by
 unfold flat at h;rw[hu]at h;dsimp only at h;intro f hf;obtain⟨r1,r2,h1⟩:=Aad _ _ _ _ h f hf
 cases hm:flat P d f.type with
 |none=>rw[hm]at h1;cases h1
 |some m=>exact Bbk hm
theorem dB.struct {t:TypeId}{i:TI}{info:TypeInfo}{u:TypeDesc}(f:dB P t i info u)(h:i.agg=true):∃ fs,u=.struct fs/\∀ fd∈fs.toList,∃ i,P.info? fd.type=some i:=by
 rw[f.agg]at h;have hc:=f.cells
 cases fX:flat P 12 t with
 |none=>rw[fX]at hc;cases hc
 | some l =>
  unfold Kas at h;split at h
  ·rename_i fs
   exact⟨fs,rfl,Xa5 fX f.und⟩
  ·unfold flat at fX
   rw[f.und]at fX;cases fX
  ·cases h
theorem Sar (hR:R E.ntmps F σ ρ a w G)(hd:fG E.ntmps o)(hti:vN P E.ti){nv nb nr:Nat}{mv dt:Bool}{t:TypeId}{parts:Array (Nat×Operand)}(ho:o.op=.build t parts){res:bP}
  (h:(qA E mv dt nv nb nr g o).eval σ=some res) (hs:aN cf ρ g nv res.lets):gV P E F σ ρ a w g o Q res.upd:=by
 simp only[qA,ho,aA,Zbc,tiR,aW,aK]at h;obtain⟨ti,h1,_,h2,ps,h3,h⟩:=h;split at h2
 ·rename_i mi
  obtain⟨info,u,f⟩:=aX (hti.ok _ _ h1);obtain⟨fs,rfl,hfs⟩:=f.struct mi;split at h
  ·rename_i ls si
   refine dQ hR hd h hs fun hg _=>?_
   obtain⟨z,h4,h5,-,-⟩:=f.zeros (σ:=σ) (ρ:=ρ) (G:=G) (w:=w)
   have ou:∀ (i off t':Nat) (f':TI),ti.flds[i]?=some (off,t')->E.ti t'=some f'->(fs.map fun fd=>(fd.offset,((P.info? fd.type).map (·.size)).getD 0))[i]?=some (off,f'.size):=by
    intro i off t' f' fX hf';obtain⟨fs',fd,e1,e2,e3,e4⟩:=Na2 f fX;obtain rfl:fs=fs':=by injection e1
    obtain⟨jg,u',ff⟩:=aX (hti.ok _ _ hf');rw[Array.getElem?_map,e2,Acm,e3,e4,ff.info_];simp[ff.size]
   obtain⟨cW,h6,h7⟩:=Aaf ou (Aao hR hg h3) (us:=z.cells) h5 si;refine⟨.agg cW,⟨cW.toList,by simp,h7⟩,?_⟩;unfold execOp;simp only[ho];refine fQ ?_
   have hm:=zS (P:=P) (w:=w) (fun fd:Field=>(do pure (fd.offset,<- sizeOf fd.type):Sem (Nat×Nat))) (fun fd=>(fd.offset,((P.info? fd.type).map (·.size)).getD 0)) fs (fun fd hfd=>by
    obtain⟨i,hi⟩:=hfs fd hfd;simp only[Sem.run_bind,run_sizeOf hi,Result.andThen_ok,Sem.run_pure,hi,Acm,Option.getD_some])
   unfold Instr.build;simp only[Sem.run_bind,lM f.info_ h4,Result.andThen_ok,run_underlying f.und];rw[hm];have e:(parts.map fun x=>(x.1,a.eval x.2)).toList=parts.toList.map fun x=>(x.1,a.eval x.2):=by simp
   simp only[Result.andThen_ok];rw[e,h6];rfl
  ·cases h
 ·cases h2
end
section
variable {P:Program} {E:Env} {F:bH} {σ:Nat->Option aS} {ρ:List D} {a:Act} {w w':World} {G:Gh} {g:Option (aL×Bool)} {o:Oper} {cf:Nat->List D->Option (List D)} {Q:Exit->Act->World->Prop} {next:Act->World->Prop}
theorem add_plain {b:Addr}(h:b.spot=none)(k:Nat):b.add k=⟨b.block,b.off+k,none⟩:=by
 cases b;simp only at h;subst h;unfold Addr.add;split<;>simp_all
theorem mP.write (h:mP F G w){B off:Nat}{vs:List Value}{ow:Ow}(ho:G.own B=ow)(hz:ow≠.frz/\ow≠.oth)
  (hb:∀ b,ow=.box b->B<F.w0.heap.size->F.own0 B=.box b->(F.rng b).1<=off/\off+vs.length<=(F.rng b).2):mP F G (w.setCells B off vs):=by
 obtain⟨e1,e2,e3⟩:=iT B vs off w;refine⟨by rw[e1];exact h.os,by rw[e2];exact h.tape,by rw[e3];exact h.output,by rw[setCells_size];exact h.size,fun b hlt hf=>?_,fun b j hlt hj=>?_,fun b hlt=>?_⟩
 ·obtain⟨h1,h2⟩:=h.keep b hlt hf
  have cJ:b≠B:=by
   rintro rfl
   rw[ho]at h2;rw[<- h2]at hf
   rcases hf with hf|hf
   ·exact hz.1 hf
   ·exact hz.2 hf
  exact⟨by rw[dE B vs off w b cJ];exact h1,h2⟩
 ·obtain⟨h1,c0,c1,e,fr,h2,h3,h4,h5⟩:=h.boxes b j hlt hj
  refine⟨h1,c0,?_⟩;by_cases cJ:b=B
  ·subst cJ
   obtain⟨c',h6,h7,h8⟩:=Bat b vs off w c1 e fr h3;refine⟨c',e,fr,h2,h6,by rw[h7];exact h4,fun k hk=>?_⟩;have il:ow=.box j:=by rw[<- ho];exact h1
   obtain⟨h9,cL⟩:=hb j il hlt hj;rw[h8 k (by omega)];exact h5 k hk
  ·exact⟨c1,e,fr,h2,by rw[dE B vs off w b cJ];exact h3,h4,h5⟩
 ·rw[setCells_size]at hlt
  exact h.fresh b hlt
theorem Kab (hR:R E.ntmps F σ ρ a w G)(hti:vN P E.ti){nv:Nat}{mv dt:Bool}{t:TypeId}{x y:Operand}(ho:o.op=.store t x y){ti:TI}(hi:E.ti t=some ti){b off:Nat}{ls:List aR}{sv:SV}
  (hx:gOn ρ g=true->aB σ ρ G w (.px b off) (a.eval x)) (hy:gOn ρ g=true->cB σ ρ G w sv (a.eval y)) (si:kD ti.agg sv=some ls) {res:bP}
  (h:(Dax nv mv dt o g ti (.px b off) ls).eval σ=some res):gV P E F σ ρ a w g o Q res.upd:=by
 simp only[Dax,aA,aK,Zbc,aT,Zbj]at h;obtain⟨_,h1,h⟩:=h;split at h1
 ·rename_i qc
  simp only[Zbd,Zb8,Bc7]at qc;obtain⟨hlen,ru⟩:=qc;split at h
  ·rename_i bs hk
   simp only[aA,aK,Zbc]at h;obtain⟨_,h2,h⟩:=h;split at h2
   ·rename_i gR
    simp only[Zbd,Acr]at gR;obtain⟨⟨hle,z8⟩,aE⟩:=gR;obtain rfl:=wO z8;simp only[aF,Option.some.injEq]at h;subst h;refine⟨fun hg=>?_,fun hg=>by simp[gOn]at hg⟩;obtain⟨info,u,f⟩:=aX (hti.ok _ _ hi);have hl:=iN si (hy hg);have oz:=hl.ones aE;have k8:=hl.len;have hpx:=hx hg;simp only[aB]at hpx;obtain⟨h3,h4,h5⟩:=hR.box hk;have h4:G.own (G.bx b).block=.box b:=by simpa using h4
    generalize lk:(a.eval y).cells.toList=vs at hl oz k8
    have bd:∀ j,off<=j->j<off+ls.length->∃ v,w.cell? ⟨(G.bx b).block,(G.bx b).off+j,none⟩=some v/\w.frozen? ⟨(G.bx b).block,(G.bx b).off+j,none⟩=false:=by
     intro j hj1 jo;have vu:bs[j]?=some bs[j]:=Zbf (by omega);obtain⟨v,h6,h7,-⟩:=h5 j _ vu;rw[add_plain h3]at h6 h7;exact⟨v,h6,h7⟩
    have bj:(execOp a.eval o).run P w=.ok .skip (w.setCells (G.bx b).block ((G.bx b).off+off) vs):=by
     unfold execOp;simp only[ho]
     have:=Faa (P:=P) (w:=w) f (b:=(G.bx b).block) (off:=(G.bx b).off+off) (v:=a.eval y) (by rw[lk];omega)
      (fun j hj=>by
       obtain⟨v,h6,-⟩:=bd (off+j) (by omega) (by omega);exact⟨v,by rw[Zb0];exact h6⟩)
      (fun j hj=>by
       obtain⟨v,-,h6⟩:=bd (off+j) (by omega) (by omega);rw[Zb0];exact h6) (by rw[lk];exact oz)
     simp only[Instr.storeAt,Instr.sureAddr,Sem.run_bind,hpx.1,Sem.run_pure,Result.andThen_ok,add_plain h3,this,lk]
    refine Uab bj ⟨G,?_⟩;have cJ:∀ b',G.own b'≠.box b->b'≠(G.bx b).block:=fun b' hb e=>hb (by rw[e];exact h4)
    have hkR:∀ r,upds σ [(kB b,aS.box false (setRange bs off ls))] (kR r)=σ (kR r):=fun r=>by
     refine eU _ _ _ fun c hc=>?_
     simp only[Zbp,Prod.mk.injEq]at hc;exact fE hc.1.symm
    have eu:Fr σ G w (upds σ [(kB b,aS.box false (setRange bs off ls))]) G (w.setCells (G.bx b).block ((G.bx b).off+off) vs):=by
     refine⟨fun b' hb hlt=>⟨hb,dE _ _ _ _ _ (cJ b' (by rw[hb];simp))⟩,fun r k _ hv=>?_,fun r k hk=>hk.same hkR,fun r k b' p _ _ hb=>⟨.inl hb,dE _ _ _ _ _ (cJ b' (by rw[hb];simp))⟩,
      fun r k m _ hv=>⟨?_,fun b' p hb=>hb⟩,fun _ _=>rfl,fun _ _=>rfl,fun k hk=>eD _ _ _ (.inl hk),fun _ _ _ _ _ _ _ hb=>hb⟩
     ·obtain⟨x',m,st,e,hs⟩:=hv
      exact⟨x',m,st,by rw[<- hkR];exact e,hs⟩
     ·obtain⟨x',e⟩:=hv
      exact⟨x',by rw[<- hkR];exact e⟩
    have hL:(setRange bs off ls).length=bs.length:=kZ hle;rw[ru];refine hR.upd _ eu hR.tmps hR.defers (hR.frame.write h4 (by simp) fun b' e hlt s7=>?_) (fun t _=>rfl) (fun b' ro kk di gp=>?_) (fun b' kk di hlt s7=>?_) (fun k c hk1 ox=>?_)
    ·obtain rfl:b=b':=by injection e
     have:=hR.rng b bs hk hlt s7;rw[this];dsimp only;omega
    ·refine⟨rfl,dE _ _ _ _ _ (cJ _ ?_)⟩
     obtain⟨_,h6,_⟩:=hR.box di;rw[h6];split
     ·simp
     ·intro e
      obtain rfl:b'=b:=by injection e
      exact gp _ (List.mem_singleton.2 rfl)
    ·simp only[Zbp,Prod.mk.injEq,aS.box.injEq,true_and]at di
     obtain⟨e,rfl⟩:=di;obtain rfl:=Cas e;rw[hL];exact hR.rng b' bs hk hlt s7
    ·simp only[Zbp,Prod.mk.injEq]at hk1
     obtain⟨rfl,rfl⟩:=hk1;refine⟨b,rfl,h3,by simpa using h4,fun j l hj=>?_⟩;rw[iL hle]at hj;rw[World.frozen?_setCells,add_plain h3];split at hj
     ·rename_i j9
      obtain⟨v,h6,h7⟩:=hl.get hj;obtain⟨u',h8,h9⟩:=bd j j9.1 j9.2;refine⟨v,?_,h9,aB.mono eu l v h7⟩
      have:=World.cell?_setCells_in (G.bx b).block vs ((G.bx b).off+off) w (fun j' il=>by
       obtain⟨v',cL,-⟩:=bd (off+j') (by omega) (by omega);rw[Zb0,cL];rfl) (j-off) (by omega)
      rw[show (G.bx b).off+off+(j-off)=(G.bx b).off+j by omega]at this;rw[this,<- h6,Zbf]
     ·rename_i a3b
      obtain⟨v,h6,h7,h8⟩:=h5 j l hj;rw[add_plain h3]at h6 h7;refine⟨v,?_,h7,aB.mono eu l v h8⟩;rw[World.cell?_setCells_out _ _ _ _ _ (fun _ _=>by dsimp only;omega)];exact h6
   ·cases h2
  ·cases h
 ·cases h1
end
theorem Rp.move {own own':Nat->Ow}{w w':World}{r r':Nat}{p:List Nat}{m:Nat}{v:Value}{d:D}(h:Rp own w r p m v d)
  (hz:∀ b,own b=.frz->b<w.heap.size->own' b=.frz/\w'.heap[b]?=w.heap[b]?):∀ (p':List Nat) (m':Nat),m'<=m ->
  (∀ b t,own b=.slc r (p++t)->own' b=(if t.length<m' then .slc r' (p'++t) else .frz)/\w'.heap[b]?=w.heap[b]?)->Rp own' w' r' p' m' v d:=by
 induction h with
 |sc h=>exact fun _ _ _ _=>.sc h
 |hole v h1=>exact fun _ _ _ _=>.hole v h1
 | fz h =>
  intro p' m' hm hs;obtain rfl:m'=0:=by omega
  exact .fz (h.mono' fun b hb hlt=>hz b hb hlt)
 | sl A a n c sz rs vs hn hc hA dw a7 bd cq ih =>
  rename_i p m;intro p' m' hm hs
  have hlt:∀ i row,rs[i]?=some row->i<rs.length:=fun i row hi=>by
   rcases Zbz i rs.length with h|h
   ·exact h
   ·simp[List.getElem?_eq_none h]at hi
  have yo:∀ i row,rs[i]?=some row->A=some a:=fun i row hi=>by
   rcases hA with e|⟨e,e'⟩
   ·exact e
   ·have:=hlt i row hi;omega
  cases m' with
  | zero =>
   refine .fz (.rows A a n c sz rs vs hn hc ?_ dw (fun i row hi j d hj=>?_) (fun i row hi j d hj=>?_))
   ·rcases hA with e|⟨e,e'⟩
    ·exact .inr e
    ·exact .inl (by omega)
   ·obtain⟨h1,h2⟩:=hs a.block [] (by simpa using (a7 (yo i row hi)).2.1)
    refine⟨by simpa using h1,?_⟩;exact (fA (w:=w) (w':=w') (by rw[add_block];exact h2)).trans (bd i row hi j d hj)
   ·exact (ih i row hi j d hj [] 0 (Nat.zero_le _) (fun b t hb=>by
     have:=hs b ([i*sz+j]++t) (by rw[<- Zbm];exact hb);simpa using this)).zero
  | succ m' =>
   refine .sl A a n c sz rs vs hn hc hA dw (fun e=>?_) (fun i row hi j d hj=>?_) (fun i row hi j d hj=>?_)
   ·obtain⟨h1,h2,h3⟩:=a7 e
    obtain⟨h4,h5⟩:=hs a.block [] (by simpa using h2);refine⟨h1,by simpa using h4,fun k hk=>?_⟩;obtain⟨u,hu,hf⟩:=h3 k hk;exact⟨u,(fA (w:=w) (w':=w') (by rw[add_block];exact h5)).trans hu,(kS (w:=w) (w':=w') (by rw[add_block];exact h5)).trans hf⟩
   ·obtain⟨h1,h2⟩:=hs a.block [] (by simpa using (a7 (yo i row hi)).2.1)
    exact (fA (w:=w) (w':=w') (by rw[add_block];exact h2)).trans (bd i row hi j d hj)
   ·refine ih i row hi j d hj (p'++[i*sz+j]) m' (by omega) (fun b t hb=>?_)
    have:=hs b ([i*sz+j]++t) (by rw[<- Zbm];exact hb);simp only[Zbi,Ac1]at this;rw[<- Zbm]at this;refine⟨?_,this.2⟩;rw[this.1];by_cases ht:t.length<m'
    ·rw[if_pos ht,if_pos (by omega)]
    ·rw[if_neg ht,if_neg (by omega)]
inductive Upd:List Nat->D->D->D->Prop
 |here (x y:D):Upd [] x y y
 | down (sz : Nat) (rs : List (List D)) (i j : Nat) (row : List D) (z z' y : D) (p : List Nat) (hi : rs[i]? = some row) (hj : row[j]? = some z)
   (h:Upd p z y z'):Upd ((i*sz+j)::p) (.rows sz rs) y (.rows sz (rs.set i (row.set j z')))
theorem Ibh {i j i' j' sz:Nat}(hj:j<sz)(il:j'<sz)(h:i*sz+j=i'*sz+j'):i=i'/\j=j':=by
 have h1:(i*sz+j) / sz=i:=by
  rw[Ccr,Nat.mul_add_div (by omega),Ccu hj,Zb9]
 have h2:(i'*sz+j') / sz=i':=by
  rw[Ccr,Nat.mul_add_div (by omega),Ccu il,Zb9]
 rw[h,h2]at h1;subst h1;exact⟨rfl,by omega⟩
theorem Rp.sl_inv {own:Nat->Ow}{w:World}{r:Nat}{p:List Nat}{m:Nat}{v:Value}{sz:Nat}{rs:List (List D)}(h:Rp own w r p (m+1) v (.rows sz rs)) :
  ∃ (A:Option Addr) (a:Addr) (n c:Nat) (vs:Nat->Nat->Value),v=.slice A n c/\rs.length=n/\n<=c/\(A=some a\/(A=none/\c=0))/\(∀ r∈rs,r.length=sz) /\
   (A=some a->a.spot=none/\own a.block=.slc r p/\∀ k,k<c*sz->∃ u,w.cell? (a.add k)=some u/\w.frozen? (a.add k)=false) /\
   (∀ i row,rs[i]?=some row->∀ j d,row[j]?=some d->w.cell? (a.add (i*sz+j))=some (vs i j)) /\
   (∀ i row,rs[i]?=some row->∀ j d,row[j]?=some d->Rp own w r (p++[i*sz+j]) m (vs i j) d):=by
 cases h with
 |sc h=>cases h
 |sl A a n c sz rs vs hn hc hA dw a7 bd cq=>exact⟨A,a,n,c,vs,rfl,hn,hc,hA,dw,a7,bd,cq⟩
theorem Rp.upd {own own':Nat->Ow}{w w':World}{r M':Nat}{full:List Nat}{y:D}{u:Value}
  (hz:∀ b,own b=.frz->b<w.heap.size->own' b=.frz/\w'.heap[b]?=w.heap[b]?)
  (hs:∀ b t,own b=.slc r t->¬ full <+: t->own' b=(if t.length<M' then .slc r t else .frz)/\w'.heap[b]?=w.heap[b]?)
  (hM:full.length<=M') (gw:Rp own' w' r full (M'-full.length) u y) :
  ∀ (p q:List Nat) (M:Nat) (v:Value) (x x':D),full=q++p->M'<=M->Rp own w r q (M-q.length) v x->zN own w r q v p u->Upd p x y x'->Rp own' w' r q (M'-q.length) v x'
 | [], q, M, v, x, x', hf, hMM, hx, hn, hu => by
  cases hu;simp only[zN]at hn;rw[Zb4]at hf;subst hf hn;exact gw
 | k :: p, q, M, v, x, x', hf, hMM, hx, hn, hu => by
  generalize hk:k::p=kp at hu
  cases hu with
  |here=>cases hk
  | down sz rs i j row z z' y p' hi hj hu =>
   obtain⟨rfl,rfl⟩:=List.cons.inj hk;have hlen:full.length=q.length+(p.length+1):=by rw[hf];simp
   obtain⟨m,hm⟩:∃ m,M-q.length=m+1:=⟨M-q.length-1,by omega⟩;obtain⟨m',oA⟩:∃ m',M'-q.length=m'+1:=⟨M'-q.length-1,by omega⟩;rw[hm]at hx;rw[oA];obtain⟨A,a,n,c,vs,rfl,h1,h2,h3,h4,h5,h6,h7⟩:=hx.sl_inv;have lO:i<rs.length:=(List.getElem?_eq_some_iff.1 hi).1
   have hA:A=some a:=by
    rcases h3 with e|⟨e,e'⟩
    ·exact e
    ·omega
   subst hA;obtain⟨h8,h9,cL⟩:=h5 rfl;obtain⟨a',n',c',u',e1,e2,e3,e4⟩:=hn;obtain⟨rfl,rfl,rfl⟩:a=a'/\n=n'/\c=c':=by injection e1 with a b c;exact⟨Option.some.inj a,b,c⟩
   have ij:=h6 i row hi j z hj;rw[ij]at e3;obtain rfl:=Option.some.inj e3
   have hq:¬ full <+: q:=by
    intro e;have:=e.length_le;omega
   obtain⟨fN,cA⟩:=hs _ _ h9 hq;rw[if_pos (by omega)]at fN;have fR:∀ k,w'.cell? (a.add k)=w.cell? (a.add k):=fun k=>fA (w:=w) (w':=w') (by rw[add_block];exact cA)
   have qe:∀ k,w'.frozen? (a.add k)=w.frozen? (a.add k):=fun k=>kS (w:=w) (w':=w') (by rw[add_block];exact cA)
   have cq:=Rp.upd hz hs hM gw p (q++[i*sz+j]) M (vs i j) z z' (by rw[hf];simp) hMM (by
    have:=h7 i row hi j z hj;rwa[show M-(q++[i*sz+j]).length=m by simp;omega]) e4 hu
   rw[show M'-(q++[i*sz+j]).length=m' by simp;omega]at cq;have kq:row.length=sz:=h4 row (Zbv hi);have hlt:j<sz:=by rw[<- kq];exact (List.getElem?_eq_some_iff.1 hj).1
   have np:∀ i' fa,(rs.set i (row.set j z'))[i']?=some fa->∀ j' d,fa[j']?=some d->(i'=i/\j'=j/\d=z')\/(∃ row0,rs[i']?=some row0/\row0[j']?=some d/\¬ (i'=i/\j'=j)):=by
    intro i' fa eS j' d il;rw[Bci]at eS;by_cases qp:i=i'
    ·subst qp
     rw[if_pos rfl,if_pos lO]at eS;obtain rfl:=Option.some.inj eS;rw[Bci]at il;by_cases wu:j=j'
     ·subst wu
      rw[if_pos rfl,if_pos (by omega)]at il;exact .inl ⟨rfl,rfl,(Option.some.inj il).symm⟩
     ·rw[if_neg wu]at il
      exact .inr ⟨row,hi,il,fun e=>wu e.2.symm⟩
    ·rw[if_neg qp]at eS
     exact .inr ⟨fa,eS,il,fun e=>qp e.1.symm⟩
   refine .sl _ a n c sz _ vs (by simpa using h1) h2 (.inl rfl) (fun fa hr=>?_) (fun _=>⟨h8,fN,fun k hk=>?_⟩) (fun i' fa eS j' d il=>?_) (fun i' fa eS j' d il=>?_)
   ·rcases Bcj hr with hr|rfl
    ·exact h4 _ hr
    ·simpa using kq
   ·rw[fR,qe]
    exact cL k hk
   ·rw[fR]
    rcases np i' fa eS j' d il with ⟨rfl,rfl,rfl⟩|⟨row0,ef,fW,-⟩
    ·exact ij
    ·exact h6 _ _ ef _ _ fW
   ·rcases np i' fa eS j' d il with ⟨rfl,rfl,rfl⟩|⟨row0,ef,fW,cJ⟩
    ·exact cq
    ·refine (h7 _ _ ef _ _ fW).move hz _ m' (by omega) fun b t hb=>?_
     have hnp:¬ full <+: q++[i'*sz+j']++t:=by
      intro e;rw[hf,Zbm,List.prefix_append_right_inj]at e;have e':=(List.cons_prefix_cons.1 e).1
      have vw:j'<sz:=by
       have:=(List.getElem?_eq_some_iff.1 fW).1;rw[h4 row0 (Zbv ef)]at this;exact this
      obtain⟨mA,nf⟩:=Ibh vw hlt e'.symm;exact cJ ⟨mA,nf⟩
     obtain⟨jd,k7⟩:=hs b _ hb hnp;simp only[Zbi,Ac1]at jd;refine⟨?_,k7⟩;rw[jd];by_cases ht:t.length<m'
     ·rw[if_pos ht,if_pos (by omega)]
     ·rw[if_neg ht,if_neg (by omega)]
theorem vP:∀ (l:List Step) (n:Nat),l.foldl (fun s x=>s+x.n) n=n+bI l
 |[],n=>rfl
 | s :: l, n => by
  simp only[bI,Bcv];rw[vP l (n+s.n),vP l (0+s.n)];omega
theorem iR (s:Step)(l:List Step):bI (s::l)=s.n+bI l:=by
 show (s::l).foldl (fun s x=>s+x.n) 0=_
 rw[Bcv,vP];omega
theorem fD:∀ (l m:List Step),bI (l++m)=bI l+bI m
 |[],m=>by simp[bI]
 |s::l,m=>by rw[Bch,iR,iR,fD l m];omega
section
variable {ρ:List D} {g:Option (aL×Bool)} {cf:Nat->List D->Option (List D)}
theorem aN.append:∀ {l m:List Step} {nv:Nat},aN cf ρ g nv (l++m)->aN cf ρ g nv l/\aN cf ρ g (nv+bI l) m
 |[],m,nv,h=>⟨trivial,h⟩
 | s :: l, m, nv, h => by
  obtain⟨h1,h2⟩:=h;obtain⟨h3,h4⟩:=aN.append h2;exact⟨⟨h1,h3⟩,by rw[iR,<- Zb0];exact h4⟩
theorem Sau {sz off n:Nat}{x i:D}{vs ds:List D}(h:(aU.set sz off n).run (x::i::vs)=some ds) :
  ∃ rs k iv row,x=.rows sz rs/\i=.int k iv/\0<=iv/\rs[iv.toNat]?=some row/\off+n<=row.length/\vs.length=n/\ds=[.rows sz (rs.set iv.toNat (row.take off++vs++row.drop (off+n)))]:=by
 cases x<;>cases i<;>simp only[aU.run]at h<;>first|cases h|skip
 rename_i pg rs k iv;split at h
 ·rename_i h1
  obtain⟨rfl,h1⟩:=h1;split at h
  ·rename_i row hr
   split at h
   ·rename_i h2
    simp only[Option.some.injEq]at h;exact⟨rs,k,iv,row,rfl,rfl,h1,hr,h2.1,h2.2,h.symm⟩
   ·cases h
  ·cases h
 ·cases h
theorem take_set {α:Type}{l:List α}{k:Nat}{x:α}(h:k<l.length):l.take k++[x]++l.drop (k+1)=l.set k x:=by
 apply Cce;intro j;rw[Bci];by_cases h1:j<k
 ·rw[Zbm,Zbx (by simp;omega),Acs,if_pos h1,if_neg (by omega)]
 ·by_cases h2:k=j
  ·subst h2
   rw[if_pos rfl,if_pos h,Zbm,Zbw (by simp;omega)];simp[Nat.min_eq_left (Nat.le_of_lt h)]
  ·rw[if_neg h2,Zbw (by simp;omega),Acg]
   congr 1
   simp;omega
theorem Cad (hg:gOn ρ g=true):∀ (q:List (aL×Nat×Nat)) (nv:Nat) (X y:aL),aN cf ρ g nv (Nah nv X q y).1->Upd (bD ρ q) (X.val ρ) (y.val ρ) ((Nah nv X q y).2.val ρ)
 |[],nv,X,y,_=>.here _ _
 | (i, sz, off) :: p, nv, X, y, h => by
  have hpv:bD ρ ((i,sz,off)::p)=(lD ρ i*sz+off)::bD ρ p:=rfl;rw[hpv]
  cases p with
  | nil =>
   simp only[Nah]at h ⊢;obtain⟨d,h1,h2⟩:=Cac h.1 hg;simp only[Zb5,Acb]at h1;obtain⟨rs,k,iv,row,e1,e2,e3,e4,e5,e6,e7⟩:=Sau h1;simp only[List.cons.injEq,and_true]at e7;have hi:lD ρ i=iv.toNat:=by simp[lD,e2]
   rw[e1,hi,h2,e7,take_set (by omega)];exact .down sz rs iv.toNat off row _ _ _ _ e4 (Zbf (by omega)) (.here _ _)
  | cons z p =>
   have cJ:Nah nv X ((i,sz,off)::z::p) y =
     ([.prim (.row sz off [false]) [X,i] 1]++(Nah (nv+1) (.v nv) (z::p) y).1++[.prim (.set sz off 1) [X,i,(Nah (nv+1) (.v nv) (z::p) y).2] 1],.v (nv+1+bI (Nah (nv+1) (.v nv) (z::p) y).1)):=rfl
   rw[cJ]at h ⊢;obtain⟨h1,h2⟩:=aN.append h;obtain⟨h3,h4⟩:=aN.append h1;obtain⟨d,h5,h6⟩:=Cac h3.1 hg;have uv:bI [Step.prim (.row sz off [false]) [X,i] 1]=1:=rfl;rw[uv]at h4;rw[fD,uv,<- Zb0]at h2;have ih:=Cad hg (z::p) (nv+1) (.v nv) y h4;obtain⟨d',h7,h8⟩:=Cac h2.1 hg;simp only[Zb5,Acb]at h5 h7;obtain⟨rs,k,iv,row,e1,e2,e3,e4,e5,e6,e7⟩:=Sau h7;obtain⟨rs',k',iv',fa,f1,f2,f3,f4,f5,f6,f7⟩:=Zam h5;rw[e1]at f1;obtain rfl:rs=rs':=by injection f1
   rw[e2]at f2;obtain⟨rfl,rfl⟩:k=k'/\iv=iv':=by injection f2 with a b;exact⟨a,b⟩
   rw[e4]at f4;obtain rfl:=Option.some.inj f4;simp only[List.cons.injEq,and_true]at e7;have hi:lD ρ i=iv.toNat:=by simp[lD,e2]
   have hz:row[off]?=some ((aL.v nv).val ρ):=by
    rw[h6]
    have:((row.drop off).take 1)[0]?=some d:=by
     rw[show [false].length=1 from rfl]at f7;rw[<- f7];rfl
    rw[Acs,if_pos (by omega),Acg]at this;simpa using this
   rw[e1,hi,h8,e7,take_set (by omega)];exact .down sz rs iv.toNat off row _ _ _ _ e4 hz ih
end
section
variable {P:Program} {E:Env} {F:bH} {n:Nat} {σ:Nat->Option aS} {ρ:List D} {a:Act} {w w':World} {G G':Gh} {g:Option (aL×Bool)} {o:Oper} {cf:Nat->List D->Option (List D)} {Q:Exit->Act->World->Prop} {next:Act->World->Prop}
def Chg (σ:Nat->Option aS)(G:Gh)(w:World)(G':Gh)(w':World)(r:Nat)(c:aS):Prop :=
 (σ (kR r)=none/\∃ x m bc st,c=.root x m bc st) \/
 (∃ x m bc x' m',σ (kR r)=some (.root x m bc .live)/\c=.root x' m' (bc+1) .live) \/
 (∃ x m bc st,c=.root x m bc st/\st≠.live/\st≠.frozen) \/
 (∃ x m bc,σ (kR r)=some (.root x m bc .live)/\c=.root x m bc .frozen/\∀ b p,G.own b=.slc r p->G'.own b=.frz/\w'.heap[b]?=w.heap[b]?)
theorem Yax (u:List (Nat×aS))(σ:Nat->Option aS)(k:Nat)(h:∃ c,(k,c)∈u):∃ c,(k,c)∈u/\upds σ u k=some c:=by
 have h1:=eD u σ k (.inr h);obtain⟨c,hc⟩:=Option.isSome_iff_exists.1 h1
 rcases pW u σ k c hc with h2|⟨h2,-⟩
 ·exact⟨c,h2,hc⟩
 ·obtain⟨c',gj⟩:=h
  exact absurd gj (h2 c')
theorem Fr.of {u:List (Nat×aS)}(z7:∀ b,G.own b=.frz->b<w.heap.size->G'.own b=.frz/\w'.heap[b]?=w.heap[b]?)
  (yy:∀ r b p,(∀ c,(kR r,c)∉u)->G.own b=.slc r p->G'.own b=.slc r p/\w'.heap[b]?=w.heap[b]?)
  (y3:∀ r c,(kR r,c)∈u->upds σ u (kR r)=some c->Chg σ G w G' w' r c)
  (pd:∀ r x m k,σ (kR r)=some (.root x m k .frozen)->∀ b p,G'.own b=.slc r p->G.own b=.slc r p)
  (tS:∀ r,(σ (kR r)).isSome->G'.hdr r=G.hdr r) (gi:∀ b,(σ (kB b)).isSome->G'.bx b=G.bx b):Fr σ G w (upds σ u) G' w':=by
 have mS:∀ r,(∀ c,(kR r,c)∉u)\/∃ c,(kR r,c)∈u/\upds σ u (kR r)=some c/\Chg σ G w G' w' r c:=by
  intro r;by_cases h:∃ c,(kR r,c)∈u
  ·obtain⟨c,h1,h2⟩:=Yax u σ (kR r) h
   exact .inr ⟨c,h1,h2,y3 r c h1 h2⟩
  ·exact .inl fun c hc=>h ⟨c,hc⟩
 have dv:∀ r k,jG σ r k->mE (upds σ u) r k->mE σ r k:=by
  intro r k hk hv
  rcases mS r with h|⟨c,h1,h2,h3⟩
  ·obtain⟨x,m,st,e,hs⟩:=hv
   rw[eU u σ _ h]at e;exact⟨x,m,st,e,hs⟩
  ·obtain⟨x,m,st,e,hs⟩:=hv
   rw[h2]at e;obtain rfl:=Option.some.inj e;obtain⟨x0,m0,v0,st0,e0,y5⟩:=hk
   rcases h3 with ⟨h4,-⟩|⟨x1,m1,v1,x2,m2,h4,h5⟩|⟨x1,m1,v1,st1,h5,h6,h7⟩|⟨x1,m1,v1,h4,h5,-⟩
   ·rw[h4]at e0;cases e0
   ·rw[h4]at e0
    injection e0 with e0
    injection e0 with i1 i2 i3 i4
    injection h5 with j1 j2 j3 j4
    have:=y5 (.inl i4.symm);omega
   ·injection h5 with j1 j2 j3 j4
    rw[j4]at hs
    rcases hs with hs|hs
    ·exact absurd hs h6
    ·exact absurd hs h7
   ·injection h5 with j1 j2 j3 j4
    exact⟨x1,m1,.live,by rw[h4,j3],.inl rfl⟩
 refine⟨z7,dv,fun r k hk=>?_,fun r k b p hv y7 hb=>?_,fun r k m hk hl=>?_,tS,gi,fun k hk=>eD _ _ _ (.inl hk),pd⟩
 ·rcases mS r with h|⟨c,h1,h2,h3⟩
  ·obtain⟨x,m,bc,st,e,hs⟩:=hk
   exact⟨x,m,bc,st,by rw[eU u σ _ h];exact e,hs⟩
  ·obtain⟨x0,m0,v0,st0,e0,y5⟩:=hk
   rcases h3 with ⟨h4,-⟩|⟨x1,m1,v1,x2,m2,h4,h5⟩|⟨x1,m1,v1,st1,h5,h6,h7⟩|⟨x1,m1,v1,h4,h5,-⟩
   ·rw[h4]at e0;cases e0
   ·rw[h4]at e0
    injection e0 with e0
    injection e0 with i1 i2 i3 i4
    have:=y5 (.inl i4.symm);exact⟨_,_,_,_,by rw[h2,h5],fun _=>by omega⟩
   ·exact⟨_,_,_,_,by rw[h2,h5],fun hs=>by rcases hs with hs|hs<;>contradiction⟩
   ·rw[h4]at e0
    injection e0 with e0
    injection e0 with i1 i2 i3 i4
    have:=y5 (.inl i4.symm);exact⟨_,_,_,_,by rw[h2,h5],fun _=>by omega⟩
 ·rcases mS r with h|⟨c,h1,h2,h3⟩
  ·exact⟨.inl (yy r b p h hb).1,(yy r b p h hb).2⟩
  ·obtain⟨x,m,st,e,hs⟩:=hv
   obtain⟨x',m',u9,e',ka⟩:=y7;rw[h2]at e';obtain rfl:=Option.some.inj e'
   rcases h3 with ⟨h4,-⟩|⟨x1,m1,v1,x2,m2,h4,h5⟩|⟨x1,m1,v1,st1,h5,h6,h7⟩|⟨x1,m1,v1,h4,h5,h6⟩
   ·rw[h4]at e;cases e
   ·rw[h4]at e
    injection e with e
    injection e with i1 i2 i3 i4
    injection h5 with j1 j2 j3 j4
    omega
   ·injection h5 with j1 j2 j3 j4
    rw[j4]at ka
    rcases ka with hs|hs
    ·exact absurd hs h6
    ·exact absurd hs h7
   ·exact⟨.inr (h6 b p hb).1,(h6 b p hb).2⟩
 ·rcases mS r with h|⟨c,h1,h2,h3⟩
  ·obtain⟨x,e⟩:=hl
   rw[eU u σ _ h]at e;exact⟨⟨x,e⟩,fun b p hb=>(yy r b p h hb).1⟩
  ·obtain⟨x,e⟩:=hl
   rw[h2]at e;obtain rfl:=Option.some.inj e;obtain⟨x0,m0,v0,st0,e0,y5⟩:=hk
   rcases h3 with ⟨h4,-⟩|⟨x1,m1,v1,x2,m2,h4,h5⟩|⟨x1,m1,v1,st1,h5,h6,h7⟩|⟨x1,m1,v1,h4,h5,-⟩
   ·rw[h4]at e0;cases e0
   ·rw[h4]at e0
    injection e0 with e0
    injection e0 with i1 i2 i3 i4
    injection h5 with j1 j2 j3 j4
    have:=y5 (.inl i4.symm);omega
   ·injection h5 with j1 j2 j3 j4
    exact absurd j4.symm h6
   ·injection h5 with j1 j2 j3 j4
    cases j4
def mR (f:Nat->List Nat->Ow):Ow->Ow
 |.slc s p=>f s p
 |o=>o
theorem R.own (h:R E.ntmps F σ ρ a w G)(hd:fG E.ntmps o){sv:SV}{v:Value}{ur:List (Nat×aS)}{f:Nat->List Nat->Ow}{wr:Nat->Prop}
  (hu:∀ k c,(k,c)∈ur->∃ r,k=kR r)
  (a7:∀ b,b<w.heap.size->G'.own b=mR f (G.own b)) (y9:∀ b,w'.heap.size<=b->G'.own b=.frz)
  (mB:w'.os=w.os/\w'.tape=w.tape/\w'.output=w.output/\w.heap.size<=w'.heap.size)
  (we:∀ b,w.heap.size<=b->G'.own b=.frz\/∃ r p,G'.own b=.slc r p/\σ (kR r)=none)
  (cA:∀ b,b<w.heap.size->¬ wr b->w'.heap[b]?=w.heap[b]?) (hwr:∀ b,wr b->∃ r p,G.own b=.slc r p/\∃ c,(kR r,c)∈ur)
  (yy:∀ b r p,G.own b=.slc r p->(∀ c,(kR r,c)∉ur)->f r p=.slc r p)
  (y3:∀ r c,(kR r,c)∈ur->upds σ (dW o g sv++ur) (kR r)=some c->Chg σ G w G' w' r c)
  (pd:∀ r x m k,σ (kR r)=some (.root x m k .frozen)->∀ s p q,f s p=.slc r q->s=r/\p=q)
  (tS:∀ r,(σ (kR r)).isSome->G'.hdr r=G.hdr r) (gi:G'.bx=G.bx)
  (dv:Fr σ G w (upds σ (dW o g sv++ur)) G' w'->gOn ρ g=true->cB (upds σ (dW o g sv++ur)) ρ G' w' sv v)
  (eW:Fr σ G w (upds σ (dW o g sv++ur)) G' w'->∀ r c,(kR r,c)∈ur->upds σ (dW o g sv++ur) (kR r)=some c->∃ x m bc st,c=.root x m bc st/\bS (upds σ (dW o g sv++ur)) ρ G' w' r x m st) :
  R E.ntmps F (upds σ (dW o g sv++ur)) ρ (a.put o.dst v) w' G':=by
 have lj:=Jaf o g sv
 have j9:∀ r c,(kR r,c)∈dW o g sv++ur->(kR r,c)∈ur:=by
  intro r c hc
  rcases List.mem_append.1 hc with hc|hc
  ·obtain⟨t,e⟩:=lj _ _ hc
   exact absurd e.symm iU
  ·exact hc
 have mN:∀ b r p,G.own b=.slc r p->b<w.heap.size:=fun b r p hb=>by
  rcases Zbz b w.heap.size with h1|h1
  ·exact h1
  ·rw[h.frame.fresh b h1]at hb;cases hb
 have qS:∀ b,b<w.heap.size->(∀ r p,G.own b≠.slc r p)->G'.own b=G.own b/\w'.heap[b]?=w.heap[b]?:=fun b hlt hb=>by
  refine⟨?_,cA b hlt fun hw=>?_⟩
  ·rw[a7 b hlt]
   unfold mR;split
   ·rename_i s p e
    exact absurd e (hb s p)
   ·rfl
  ·obtain⟨r,p,e,-⟩:=hwr b hw
   exact hb r p e
 have eu:Fr σ G w (upds σ (dW o g sv++ur)) G' w':=by
  refine Fr.of (fun b hb hlt=>?_) (fun r b p gp hb=>?_) (fun r c hc gj=>y3 r c (j9 r c hc) gj) (fun r x m k hk b p hb=>?_) tS (fun b _=>by rw[gi])
  ·obtain⟨h1,h2⟩:=qS b hlt (by rw[hb];simp)
   exact⟨h1.trans hb,h2⟩
  ·have hlt:=mN b r p hb
   have xw:∀ c,(kR r,c)∉ur:=fun c hc=>gp c (Zbh _ hc)
   refine⟨by rw[a7 b hlt,hb];exact yy b r p hb xw,cA b hlt fun hw=>?_⟩;obtain⟨r',p',e,c,hc⟩:=hwr b hw;rw[hb]at e
   injection e with e1 e2
   subst e1;exact xw c hc
  ·rcases Zbz b w.heap.size with hlt|hlt
   ·rw[a7 b hlt]at hb
    cases e:G.own b with
    | slc s q =>
     rw[e]at hb;obtain⟨rfl,rfl⟩:=pd r x m k hk s q p hb;rfl
    |_=>rw[e]at hb;exact hb
   ·rcases we b hlt with e|⟨r',p',e,hn⟩
    ·rw[e]at hb;cases hb
    ·rw[e]at hb
     injection hb with e1 e2
     subst e1;rw[hn]at hk;cases hk
 refine h.upd _ eu (by rw[Ba7];exact h.tmps) (by rw[put_defers];exact h.defers) ?_ (fun t ht=>Gak ht) (fun b ro bs hb _=>?_) (fun b bs hb hlt ho=>?_) (fun k c hk kb=>?_)
 ·obtain⟨e1,e2,e3,e4⟩:=mB
  refine⟨e1.trans h.frame.os,e2.trans h.frame.tape,e3.trans h.frame.output,by have:=h.frame.size;omega,fun b hlt hf=>?_,fun b j hlt hj=>?_,y9⟩
  ·obtain⟨h1,h2⟩:=h.frame.keep b hlt hf
   obtain⟨h3,h4⟩:=qS b (by have:=h.frame.size;omega) (fun r p e=>by
    rw[e]at h2;rw[<- h2]at hf
    rcases hf with hf|hf<;>cases hf)
   exact⟨h4.trans h1,h3.trans h2⟩
  ·obtain⟨h1,c0,c1,e,fr,h2,h3,h4⟩:=h.frame.boxes b j hlt hj
   obtain⟨h5,h6⟩:=qS b (by have:=h.frame.size;omega) (by rw[h1];simp);exact⟨h5.trans h1,c0,c1,e,fr,h2,h6.trans h3,h4⟩
 ·obtain⟨_,h2,h3⟩:=h.box hb
  rcases Zbz (G.bx b).block w.heap.size with hlt|hlt
  ·exact qS _ hlt (by rw[h2];split<;>simp)
  ·rw[h.frame.fresh _ hlt]at h2
   split at h2<;>cases h2
 ·rcases List.mem_append.1 hb with hb|hb
  ·obtain⟨t,e⟩:=lj _ _ hb
   exact absurd e.symm lT
  ·obtain⟨r,e⟩:=hu _ _ hb
   exact absurd e fE
 ·rcases List.mem_append.1 hk with hk|hk
  ·obtain⟨d,na,rfl,rfl⟩:=yX hk
   refine⟨d,rfl,fun hg=>?_⟩;rw[na,oC _ _ _ _ _ (hd d na) h.tmps];exact dv eu hg
  ·obtain⟨r,rfl⟩:=hu _ _ hk
   obtain⟨x,m,bc,st,rfl,u4⟩:=eW eu r c hk kb;exact⟨r,rfl,by rw[kb];rfl,u4⟩
end
section
variable {P:Program} {E:Env} {F:bH} {n:Nat} {σ:Nat->Option aS} {ρ:List D} {a:Act} {w w':World} {G G':Gh} {g:Option (aL×Bool)} {o:Oper} {cf:Nat->List D->Option (List D)} {Q:Exit->Act->World->Prop} {next:Act->World->Prop}
inductive Ja2 (σ:Nat->Option aS) (ρ:List D) (G:Gh) (w:World) (pu:Put) (off:Nat) (v:Value) (x:aL):Prop
 |sc (h:Sc v (x.val ρ))
 |nil (z:Nat) (hx:x.val ρ=.rows z []) (hv:v=.slice none 0 0)
 |mv (r m bc:Nat) (hm:(off,r,m)∈pu.moves) (hr:σ (kR r)=some (.root x m bc .live)) (hv:v=G.hdr r) (hd:pu.depth<=m)
 |hole (r k m:Nat) (q:List (aL×Nat×Nat)) (hm:(off,r,q)∈pu.holes) (hl:zF σ r k m) (hq:q.length+1<=m) (fm:Rp G.own w r (bD ρ q) (m-q.length) v (x.val ρ)) (hn:zN G.own w r [] (G.hdr r) (bD ρ q) v) (hd:pu.depth<=m-q.length)
 |fz (hd:pu.depth=0) (h:Rd (fun b=>G.own b=.frz\/∃ r p,r∈pu.frz/\G.own b=.slc r p) w v (x.val ρ))
theorem Ja2.left {A B:Put}{off:Nat}{v:Value}{x:aL}(h:Ja2 σ ρ G w A off v x):Ja2 σ ρ G w ⟨A.xs++B.xs,A.moves++B.moves,A.holes++B.holes,A.frz++B.frz,min A.depth B.depth⟩ off v x:=by
 cases h with
 |sc h=>exact .sc h
 |nil z hx hv=>exact .nil z hx hv
 |mv r m bc hm hr hv hd=>exact .mv r m bc (Zbe _ hm) hr hv (by dsimp only;omega)
 |hole r k m q hm hl hq fm hn hd=>exact .hole r k m q (Zbe _ hm) hl hq fm hn (by dsimp only;omega)
 |fz hd h=>exact .fz (by dsimp only;omega) (h.mono fun b hb=>⟨hb.imp id fun ⟨r,p,h1,h2⟩=>⟨r,p,Zbe _ h1,h2⟩,rfl⟩)
theorem Ja2.right {A B:Put}{off:Nat}{v:Value}{x:aL}(h:Ja2 σ ρ G w B off v x):Ja2 σ ρ G w ⟨A.xs++B.xs,A.moves++B.moves,A.holes++B.holes,A.frz++B.frz,min A.depth B.depth⟩ off v x:=by
 cases h with
 |sc h=>exact .sc h
 |nil z hx hv=>exact .nil z hx hv
 |mv r m bc hm hr hv hd=>exact .mv r m bc (Zbh _ hm) hr hv (by dsimp only;omega)
 |hole r k m q hm hl hq fm hn hd=>exact .hole r k m q (Zbh _ hm) hl hq fm hn (by dsimp only;omega)
 |fz hd h=>exact .fz (by dsimp only;omega) (h.mono fun b hb=>⟨hb.imp id fun ⟨r,p,h1,h2⟩=>⟨r,p,Zbh _ h1,h2⟩,rfl⟩)
theorem Sa3 (hR:R E.ntmps F σ ρ a w G){mv dt:Bool}{off:Nat}{l:aR}{pu:Put}(h:(Sa4 mv dt off l).eval σ=some pu){v:Value}(hl:aB σ ρ G w l v) :
  ∃ x,pu.xs=[x]/\Ja2 σ ρ G w pu off v x/\(∀ z∈pu.moves,z.1=off/\∃ x bc,σ (kR z.2.1)=some (.root x z.2.2 bc .live))/\(∀ z∈pu.holes,z.1=off):=by
 unfold Sa4 at h;split at h
 ·rename_i x
  simp only[aF,Option.some.injEq]at h;subst h;simp only[aB]at hl;exact⟨x,rfl,.sc hl,by simp,by simp⟩
 ·rename_i r
  simp only[aA,aT,Zbj]at h;simp only[aB]at hl;split at h
  ·rename_i x m bc hk
   cases mv with
   | true =>
    simp only[cond_true,aF,Option.some.injEq]at h;subst h;refine⟨x,rfl,.mv r m bc (by simp) hk hl.1 (Zbr _),fun z hz=>?_,by simp⟩;simp only[Zbp]at hz;subst hz;exact⟨rfl,x,bc,hk⟩
   | false =>
    simp only[cond_false,aF,Option.some.injEq]at h;subst h;refine⟨x,rfl,.fz rfl ?_,by simp,by simp⟩;have:=hR.root hk;simp only[bS]at this;rw[<- hl.1]at this;exact this.rd.mono fun b hb=>⟨hb.imp id fun ⟨q,hq⟩=>⟨r,q,by simp,hq⟩,rfl⟩
  ·rename_i x m bc hk
   simp only[aF,Option.some.injEq]at h;subst h;refine⟨x,rfl,.fz rfl ?_,by simp,by simp⟩;have:=(hR.root hk).1;rw[<- hl.1]at this;exact this.mono fun b hb=>⟨.inl hb,rfl⟩
  ·cases h
 ·rename_i deps p nie x
  split at h
  ·rename_i z
   simp only[aF,Option.some.injEq]at h;subst h;refine⟨_,rfl,.nil z rfl ?_,by simp,by simp⟩;simp only[aB]at hl;exact (hl.2 (by simp)).2.1 trivial z rfl
  ·rename_i cJ
   simp only[aA,Zbc]at h;obtain⟨s,h1,h⟩:=h;have hs:=dX hR h1 hl
   have hx:s.x=x:=by
    unfold yJ at h1;simp only[aA,Zbc]at h1;obtain⟨ds,-,h3⟩:=h1;split at h3
    ·simp only[aF,Option.some.injEq]at h3;rw[<- h3]
    ·simp only[aA,aT,Zbj]at h3
     split at h3
     ·simp only[aF,Option.some.injEq]at h3;rw[<- h3]
     ·cases h3
    ·simp only[aF,Option.some.injEq]at h3;rw[<- h3]
   have nn:∀ frz:List Nat,(∀ z∈s.deps,z.1∈frz)->Rd (fun b=>G.own b=.frz\/∃ r p,r∈frz/\G.own b=.slc r p) w v (x.val ρ):=by
    intro frz hz;have:=hs.rd;rw[hx]at this;exact this.mono fun b hb=>⟨hb.imp id fun ⟨r,k,p,h2,h3⟩=>⟨r,p,hz _ h2,h3⟩,rfl⟩
   split at h
   ·rename_i r k m q ho
    have a7:=hs.own;unfold vH at a7;rw[ho]at a7;obtain⟨h2,h3,h4,h5,h6⟩:=a7;rw[hx]at h5
    cases hb:(dt&&Nat.ble (q.length+1) m) with
    | true =>
     rw[hb]at h;simp only[cond_true,aF,Option.some.injEq]at h;subst h;simp only[Zbd,Acr]at hb;refine⟨x,rfl,.hole r k m q (by simp) h3 hb.2 h5 h6 (Zbr _),by simp,by simp⟩
    | false =>
     rw[hb]at h;simp only[cond_false,aF,Option.some.injEq]at h;subst h;refine⟨x,rfl,.fz rfl (nn _ fun z hz=>?_),by simp,by simp⟩;rw[h2]at hz;simp only[Zbp]at hz;subst hz;simp
   ·simp only[aF,Option.some.injEq]at h
    subst h;exact⟨x,rfl,.fz rfl (nn _ fun z hz=>Acx hz),by simp,by simp⟩
 ·cases h
theorem tT (hR:R E.ntmps F σ ρ a w G){mv dt:Bool}:∀ {ls:List aR} {off:Nat} {pu:Put},(rW mv dt off ls).eval σ=some pu->∀ {vs:List Value},aG σ ρ G w ls vs ->
  pu.xs.length=ls.length/\(∀ j v x,vs[j]?=some v->pu.xs[j]?=some x->Ja2 σ ρ G w pu (off+j) v x) /\
  (∀ z∈pu.moves,off<=z.1/\z.1<off+ls.length/\∃ x bc,σ (kR z.2.1)=some (.root x z.2.2 bc .live))
 | [], off, pu, h, vs, hl => by
  simp only[rW,aF,Option.some.injEq]at h;subst h;exact⟨rfl,by simp,by simp⟩
 | l :: ls, off, pu, h, vs, hl => by
  simp only[rW,aA,Zbc,aF,Option.some.injEq]at h;obtain⟨A,h1,B,h2,rfl⟩:=h;simp only[aG]at hl;obtain⟨u,us,rfl,h3,h4⟩:=hl;obtain⟨x,h5,h6,h7,-⟩:=Sa3 hR h1 h3;obtain⟨h8,h9,cL⟩:=tT hR h2 h4;refine⟨by simp[h5,h8],fun j v y hv hy=>?_,fun z hz=>?_⟩
  ·rw[h5]at hy
   cases j with
   | zero =>
    simp only[Zbl,Option.some.injEq,Bc3]at hv hy;subst hv hy;exact h6.left
   | succ j =>
    simp only[Acl,Bc3]at hv hy;have:=(h9 j v y hv hy).right (A:=A);rwa[show off+1+j=off+(j+1) by omega]at this
  ·simp only[Zbs]
   rcases List.mem_append.1 hz with hz|hz
   ·obtain⟨e,ef⟩:=h7 z hz
    exact⟨by omega,by omega,ef⟩
   ·obtain⟨e1,e2,ef⟩:=cL z hz
    exact⟨by omega,by omega,ef⟩
theorem gK:∀ {rs:List Nat} {fr:List (Nat×aS)},(dS rs).eval σ=some fr ->
  (∀ r∈rs,(∃ x m bc,σ (kR r)=some (.root x m bc .live)/\(kR r,aS.root x m bc .frozen)∈fr)\/∃ x m bc,σ (kR r)=some (.root x m bc .frozen)) /\
  (∀ k c,(k,c)∈fr->∃ r∈rs,∃ x m bc,k=kR r/\c=.root x m bc .frozen/\σ (kR r)=some (.root x m bc .live))
 | [], fr, h => by
  simp only[dS,aF,Option.some.injEq]at h;subst h;simp
 | r :: rs, fr, h => by
  simp only[dS,aA,aT,Zbj]at h;split at h
  ·rename_i x m bc hk
   simp only[aA,Zbc,aF,Option.some.injEq]at h;obtain⟨l,h1,rfl⟩:=h;obtain⟨h2,h3⟩:=gK h1;refine⟨fun s hs=>?_,fun k c hc=>?_⟩
   ·rcases List.mem_cons.1 hs with rfl|hs
    ·exact .inl ⟨x,m,bc,hk,Zbu⟩
    ·rcases h2 s hs with ⟨x',m',v',h4,h5⟩|h4
     ·exact .inl ⟨x',m',v',h4,Zbn _ h5⟩
     ·exact .inr h4
   ·rcases List.mem_cons.1 hc with hc|hc
    ·obtain⟨rfl,rfl⟩:=Prod.mk.inj hc
     exact⟨r,Zbu,x,m,bc,rfl,rfl,hk⟩
    ·obtain⟨s,hs,h4⟩:=h3 k c hc
     exact⟨s,Zbn _ hs,h4⟩
  ·rename_i x m bc hk
   obtain⟨h2,h3⟩:=gK h;refine⟨fun s hs=>?_,fun k c hc=>?_⟩
   ·rcases List.mem_cons.1 hs with rfl|hs
    ·exact .inr ⟨x,m,bc,hk⟩
    ·exact h2 s hs
   ·obtain⟨s,hs,h4⟩:=h3 k c hc
    exact⟨s,Zbn _ hs,h4⟩
  ·cases h
end
theorem mO {l:List Nat}{n:Nat}:has l n=true↔n∈l:=by
 unfold has;simp only[List.any_eq_true,Zb8];constructor
 ·rintro⟨x,h,rfl⟩;exact h
 ·exact fun h=>⟨n,h,rfl⟩
theorem Aaw {l:List Nat}{n:Nat}:has l n=false↔n∉l:=by
 rw[<- mO];simp
theorem uE:∀ {l:List (Nat×Nat×Nat)},distinct (l.map (·.2.1))=true->∀ z∈l,l.find? (fun y=>Nat.beq y.2.1 z.2.1)=some z
 |[],_,z,hz=>by simp at hz
 | y :: l, h, z, hz => by
  simp only[Zb5,distinct,Zbd,Zb3]at h;rw[List.find?_cons]
  rcases List.mem_cons.1 hz with rfl|hz
  ·have:Nat.beq z.2.1 z.2.1=true:=by simp
   rw[this]
  ·have:Nat.beq y.2.1 z.2.1=false:=by
    cases e:Nat.beq y.2.1 z.2.1 with
    |false=>rfl
    | true =>
     simp only[Zb8]at e;have h1:=Aaw.1 h.1;rw[e]at h1;exact absurd (Acx (f:=fun x:Nat×Nat×Nat=>x.2.1) hz) h1
   rw[this];exact uE h.2 z hz
theorem Ia6 {l:List (Nat×Nat×Nat)}{s:Nat}(h:s∉l.map (·.2.1)):l.find? (fun y=>Nat.beq y.2.1 s)=none:=by
 rw[List.find?_eq_none];intro x hx;simp only[Zb8];intro e;exact h (e▸Acx (f:=fun x:Nat×Nat×Nat=>x.2.1) hx)
section
variable {P:Program} {E:Env} {F:bH} {n:Nat} {σ:Nat->Option aS} {ρ:List D} {a:Act} {w w':World} {G G':Gh} {g:Option (aL×Bool)} {o:Oper} {cf:Nat->List D->Option (List D)} {Q:Exit->Act->World->Prop} {next:Act->World->Prop}
theorem Rd.nil {ok:Nat->Prop}{z:Nat}:Rd ok w (.slice none 0 0) (.rows z []) :=
 .rows none ⟨0,0,none⟩ 0 0 _ [] (fun _ _=>undef) rfl (Zbr _) (.inl rfl) (by simp) (by simp) (by simp)
theorem Rp.nil {own:Nat->Ow}{r:Nat}{p:List Nat}{m z:Nat}:Rp own w r p m (.slice none 0 0) (.rows z []):=by
 cases m with
 |zero=>exact .fz Rd.nil
 |succ m=>exact .sl none ⟨0,0,none⟩ 0 0 _ [] (fun _ _=>undef) rfl (Zbr _) (.inr ⟨rfl,rfl⟩) (by simp) (by simp) (by simp) (by simp)
theorem Ja2.rp (hR:R E.ntmps F σ ρ a w G){pu:Put}{off:Nat}{v:Value}{x:aL}(h:Ja2 σ ρ G w pu off v x){own':Nat->Ow}{R:Nat}{path:List Nat}{m1:Nat}(hd:m1<=pu.depth)
  (hz:∀ b,G.own b=.frz->b<w.heap.size->own' b=.frz/\w'.heap[b]?=w.heap[b]?)
  (hmv:∀ s m,(off,s,m)∈pu.moves->∀ b t,G.own b=.slc s t->own' b=(if t.length<m1 then .slc R (path++t) else .frz)/\w'.heap[b]?=w.heap[b]?)
  (hho:∀ s q,(off,s,q)∈pu.holes->∀ b t,G.own b=.slc s (bD ρ q++t)->own' b=(if t.length<m1 then .slc R (path++t) else .frz)/\w'.heap[b]?=w.heap[b]?)
  (nn:∀ s∈pu.frz,∀ b p,G.own b=.slc s p->own' b=.frz/\w'.heap[b]?=w.heap[b]?):Rp own' w' R path m1 v (x.val ρ):=by
 cases h with
 |sc h=>exact .sc h
 |nil z hx hv=>rw[hx,hv];exact Rp.nil
 | mv r m bc hm hr hv na =>
  have:=hR.root hr;simp only[bS]at this;rw[hv];exact this.move hz path m1 (by omega) fun b t hb=>hmv r m hm b t (by simpa using hb)
 |hole r k m q hm hl hq fm hn na=>exact fm.move hz path m1 (by omega) fun b t hb=>hho r q hm b t hb
 | fz na h =>
  obtain rfl:m1=0:=by omega
  refine .fz (h.mono' fun b hb hlt=>?_)
  rcases hb with hb|⟨r,p,h1,h2⟩
  ·exact hz b hb hlt
  ·exact nn r h1 b p h2
def yZ (R M:Nat)(p:List Nat):Ow:=if p.length<M then .slc R p else .frz
def kY (pu:Put)(r m':Nat)(pv:List Nat)(base:Nat)(s:Nat)(p:List Nat):Ow :=
 bif has pu.frz s then .frz else match pu.moves.find? (fun y=>Nat.beq y.2.1 s) with
  |some z=>yZ r m' ((pv++[base+z.1])++p)
  |none=>if s=r then yZ r m' p else .slc s p
theorem jY {B o:Nat}{vs:List Value}{b:Addr}(hb:b.block=B->b.spot=none)(hex:∀ j,j<vs.length->(w.cell? ⟨B,o+j,none⟩).isSome=true){u:Value}(hc:w.cell? b=some u) :
  ∃ u',(w.setCells B o vs).cell? b=some u':=by
 by_cases j9:b.block=B/\o<=b.off/\b.off<o+vs.length
 ·obtain⟨h1,h2,h3⟩:=j9
  have:=World.cell?_setCells_in B vs o w hex (b.off-o) (by omega);have hs:=hb h1;rw[show o+(b.off-o)=b.off by omega]at this;have di:b=⟨B,b.off,none⟩:=by cases b;simp only at h1 hs;subst h1 hs;rfl
  exact⟨vs[b.off-o]'(by omega),(congrArg (fun x=>(w.setCells B o vs).cell? x) di).trans this⟩
 ·rw[World.cell?_setCells_out B vs o w b fun e1 e2=>by
   rcases Zbz b.off o with h|h
   ·exact .inl h
   ·refine .inr ?_
    rcases Zbz b.off (o+vs.length) with h'|h'
    ·exact absurd ⟨e1,h,h'⟩ j9
    ·exact h']
  exact⟨u,hc⟩
theorem Kac (hR:R E.ntmps F σ ρ a w G)(hti:vN P E.ti){nv:Nat}{mv dt:Bool}{t:TypeId}{x y:Operand}(ho:o.op=.store t x y){ti:TI}(hi:E.ti t=some ti){l:aR}{sz:Nat}{i:aL}{off:Nat}{ls:List aR}{sv:SV}
  (hx:gOn ρ g=true->aB σ ρ G w (.pe l sz i off) (a.eval x)) (hy:gOn ρ g=true->cB σ ρ G w sv (a.eval y)) (si:kD ti.agg sv=some ls) {res:bP}
  (h:(Dax nv mv dt o g ti (.pe l sz i off) ls).eval σ=some res) (aE:aN cf ρ g nv res.lets):gV P E F σ ρ a w g o Q res.upd:=by
 simp only[Dax,aA,aK,Zbc,aT,Zbj]at h;obtain⟨_,h1,_,h2,s,h3,h⟩:=h;split at h1
 case isFalse=>cases h1
 rename_i qc;simp only[Zbd,Zb8,Bc7]at qc;obtain⟨hlen,ru⟩:=qc;split at h2
 case isFalse=>cases h2
 rename_i z8;obtain rfl:=wO z8;split at h
 case h_2=>cases h
 rename_i r k m q a7;simp only[aA,aK,Zbc,aT,Zbj]at h;obtain⟨_,h4,h⟩:=h;split at h4
 case isFalse=>cases h4
 rename_i hqm;simp only[Acr]at hqm;split at h
 case h_2=>cases h
 rename_i X m0 bc hk;simp only[aA,aK,Zbc]at h;obtain⟨pu,h5,fr,h6,_,h7,h⟩:=h;split at h7
 case isFalse=>cases h7
 rename_i tA;simp only[Zbd,Zb3,Ccf,Ccp]at tA;obtain⟨⟨⟨⟨eu,qi⟩,hho⟩,oc⟩,hmf⟩:=tA;simp only[aF,Option.some.injEq]at h;subst h;refine⟨fun hg=>?_,fun hg=>by simp[gOn]at hg⟩;obtain⟨info,u,f⟩:=aX (hti.ok _ _ hi);have hl:=iN si (hy hg);obtain⟨ou,mL,hmvs⟩:=tT hR h5 hl;obtain⟨wj,ua⟩:=gK h6;have hpe:=hx hg;simp only[aB]at hpe;obtain⟨c,n,cap,ik,iv,hp1,zw,hp3,hp4,hp5⟩:=hpe;have hL:=dX hR h3 hp1;have ni:=hL.own;unfold vH at ni;rw[a7]at ni;obtain⟨-,⟨X0,nx⟩,-,fm,lz⟩:=ni;rw[hk]at nx
 obtain⟨rfl,rfl,rfl⟩:X=X0/\m0=m/\bc=k:=by
  injection nx with e;injection e with e1 e2 e3 e4;exact⟨e1,e2,e3⟩
 have eW:=hR.root hk;simp only[bS]at eW;obtain⟨d1,fy,qg⟩:=Cac aE.1 hg;have mm:aN cf ρ none (nv+1) (Nah (nv+1) X q (.v nv)).1:=aE.2;have oh:=Cad hg q (nv+1) X (.v nv) mm;simp only[Bch,Aco,Zb5]at fy;obtain⟨rs,ik',iv',row,e1,e2,e3,e4,e5,e6,e7⟩:=Sau fy;rw[zw]at e2;obtain⟨rfl,rfl⟩:ik=ik'/\iv=iv':=by injection e2 with a b;exact⟨a,b⟩
 simp only[List.cons.injEq,and_true]at e7;simp only[Zbt]at e6;rw[e1]at fm;have wc:(bD ρ q).length=q.length:=by simp[bD]
 generalize hpv:bD ρ q=pv at oh fm lz wc;obtain⟨md,hmd⟩:∃ md,m0-q.length=md+1:=⟨m0-q.length-1,by omega⟩;rw[hmd]at fm;obtain⟨A,c',n',iS,vs0,i1,i2,i3,i4,i5,i6,i7,i8⟩:=fm.sl_inv;obtain⟨rfl,rfl,rfl⟩:A=some c/\n'=n/\iS=cap:=by injection i1 with a b c;exact⟨a.symm,b.symm,c.symm⟩
 have hcc:c'=c:=by
  rcases i4 with i4|⟨i4,-⟩
  ·exact (Option.some.inj i4).symm
  ·cases i4
 subst hcc;obtain⟨fp,nc,cC⟩:=i6 rfl;have ie:row.length=sz:=i5 row (Zbv e4);generalize lk:(a.eval y).cells.toList=vs at hl mL;have hvl:vs.length=ls.length:=hl.len
 have ij:∀ j,j<vs.length->∃ u,w.cell? ⟨c'.block,c'.off+(iv.toNat*sz+off)+j,none⟩=some u/\w.frozen? ⟨c'.block,c'.off+(iv.toNat*sz+off)+j,none⟩=false:=by
  intro j hj
  have kb:iv.toNat*sz+off+j<iS*sz:=by
   have h1:(iv.toNat+1)*sz<=iS*sz:=Ac2 _ (by omega);rw[Ac4]at h1;omega
  have:=cC _ kb;rw[add_plain fp]at this;rw[Zb0];exact this
 have bj:(execOp a.eval o).run P w=.ok .skip (w.setCells c'.block (c'.off+(iv.toNat*sz+off)) vs):=by
  unfold execOp;simp only[ho]
  have:=Faa (P:=P) (w:=w) f (b:=c'.block) (off:=c'.off+(iv.toNat*sz+off)) (v:=a.eval y) (by rw[lk];omega)
   (fun j hj=>by
    obtain⟨v,h6,-⟩:=ij j (by omega);exact⟨v,h6⟩)
   (fun j hj=>by
    obtain⟨v,-,h6⟩:=ij j (by omega)
    exact h6) (by
    rw[lk];intro v hv;obtain⟨j,hj⟩:=List.mem_iff_getElem?.1 hv;have kz:j<pu.xs.length:=by rw[ou,<- hvl];exact (List.getElem?_eq_some_iff.1 hj).1
    cases mL j v _ hj (Zbf kz) with
    |sc h=>exact h.one
    |nil z _ h=>rw[h];rfl
    | mv r m bc hm hr hv hd =>
     have:=hR.root hr;simp only[bS]at this;rw[hv];exact this.one
    |hole r k m q hm hl hq fm hn hd=>exact fm.one
    |fz _ h=>exact h.one)
  simp only[Instr.storeAt,Instr.sureAddr,Sem.run_bind,hp5,Sem.run_pure,Result.andThen_ok,add_plain fp,this,lk]
 generalize oA:min m0 (q.length+1+pu.depth)=m';generalize yw:w.setCells c'.block (c'.off+(iv.toNat*sz+off)) vs=w' at bj;have cA:∀ b,b≠c'.block->w'.heap[b]?=w.heap[b]?:=fun b hb=>by rw[<- yw];exact dE _ _ _ _ _ hb
 refine Uab bj ⟨{ G with own:=fun b=>mR (kY pu r m' pv (iv.toNat*sz)) (G.own b) },?_⟩;rw[ru]
 have vh:∀ s,s∈pu.frz->∀ p,kY pu r m' pv (iv.toNat*sz) s p=.frz:=fun s hs p=>by
  unfold kY;rw[mO.2 hs,cond_true]
 have hrm:r∉pu.moves.map (·.2.1):=by
  intro hh;obtain⟨z,hz,e⟩:=List.mem_map.1 hh;have:=qi z hz;simp[e]at this
 have hrF:∀ p,kY pu r m' pv (iv.toNat*sz) r p=yZ r m' p:=fun p=>by
  unfold kY;rw[eu,cond_false,Ia6 hrm];simp
 have hmF:∀ z∈pu.moves,∀ p,kY pu r m' pv (iv.toNat*sz) z.2.1 p=yZ r m' ((pv++[iv.toNat*sz+z.1])++p):=fun z hz p=>by
  unfold kY
  have:has pu.frz z.2.1=false:=by
   have:=hmf z hz;simpa using this
  rw[this,cond_false,uE oc z hz]
 have qy:∀ b,G.own b=.frz->b<w.heap.size->mR (kY pu r m' pv (iv.toNat*sz)) (G.own b)=.frz/\w'.heap[b]?=w.heap[b]?:=fun b hb hlt=>by
  refine⟨by rw[hb];rfl,cA b fun e=>?_⟩;rw[e,nc]at hb;cases hb
 have cJ:∀ b s p,G.own b=.slc s p->s≠r->b≠c'.block:=fun b s p hb hs e=>by
  rw[e,nc]at hb
  injection hb with e1 e2
  exact hs e1.symm
 have wh:∀ s∈pu.frz,s≠r:=fun s hs e=>by
  have:=Aaw.1 eu;exact this (e▸hs)
 have a6s:∀ z∈pu.moves,z.2.1≠r:=fun z hz e=>hrm (e▸Acx (f:=fun x:Nat×Nat×Nat=>x.2.1) hz)
 have cY:∀ {s:Nat} {c:aS},(kR s,c)∈(kR r,aS.root (Nah (nv+1) X q (.v nv)).2 m' (bc+1) .live)::(pu.moves.map fun z=>(kR z.2.1,aS.root (.c .hole) 0 0 .gone))++fr ->
   (s=r/\c=.root (Nah (nv+1) X q (.v nv)).2 m' (bc+1) .live)\/(∃ z∈pu.moves,s=z.2.1/\c=.root (.c .hole) 0 0 .gone) \/
   (s∈pu.frz/\∃ x m v,c=.root x m v .frozen/\σ (kR s)=some (.root x m v .live)):=by
  intro s c hc
  rcases List.mem_append.1 hc with hc|hc
  ·rcases List.mem_cons.1 hc with hc|hc
   ·obtain⟨e1,e2⟩:=Prod.mk.inj hc
    exact .inl ⟨eZ e1,e2⟩
   ·obtain⟨z,hz,e⟩:=List.mem_map.1 hc
    obtain⟨e1,e2⟩:=Prod.mk.inj e;exact .inr (.inl ⟨z,hz,(eZ e1).symm,e2.symm⟩)
  ·obtain⟨s',ka,x',pj,v',e1,e2,e3⟩:=ua _ _ hc
   obtain rfl:=eZ e1;exact .inr (.inr ⟨ka,x',pj,v',e2,e3⟩)
 have hdu:dW o none .dead=[]:=by unfold dW;rw[ru]
 have eA:=hR.own (o:=o) (g:=none) (fun d e=>by rw[ru]at e;cases e) (sv:=.dead) (v:=undef) (w':=w')
  (G':={ G with own:=fun b=>mR (kY pu r m' pv (iv.toNat*sz)) (G.own b) }) (wr:=fun b=>b=c'.block)
  (ur:=(kR r,aS.root (Nah (nv+1) X q (.v nv)).2 m' (bc+1) .live)::(pu.moves.map fun z=>(kR z.2.1,aS.root (.c .hole) 0 0 .gone))++fr)
  (f:=kY pu r m' pv (iv.toNat*sz)) ?_ (fun b _=>rfl) ?_ ?_ ?_ (fun b _ hb=>cA b hb) ?_ ?_ ?_ ?_ (fun _ _=>rfl) rfl (fun _ _=>trivial) ?_
 ·rw[hdu,Aco,ru]at eA
  exact eA
 ·intro k c hc
  rcases List.mem_append.1 hc with hc|hc
  ·rcases List.mem_cons.1 hc with hc|hc
   ·exact⟨r,(Prod.mk.inj hc).1⟩
   ·obtain⟨z,hz,e⟩:=List.mem_map.1 hc
    exact⟨z.2.1,(Prod.mk.inj e).1.symm⟩
  ·obtain⟨s',-,-,-,-,e1,-⟩:=ua _ _ hc
   exact⟨s',e1⟩
 ·intro b hb
  rw[<- yw,setCells_size]at hb;show mR _ (G.own b)=.frz
  rw[hR.frame.fresh b hb];rfl
 ·obtain⟨j1,j2,j3⟩:=iT c'.block vs (c'.off+(iv.toNat*sz+off)) w
  rw[<- yw];exact⟨j1,j2,j3,by rw[setCells_size];exact Zbr _⟩
 ·intro b hb
  refine .inl ?_;show mR _ (G.own b)=.frz
  rw[hR.frame.fresh b hb];rfl
 ·rintro b rfl
  exact⟨r,pv,nc,_,Zbe _ Zbu⟩
 ·intro b s p hb gp
  unfold kY
  have h1:has pu.frz s=false:=by
   rw[Aaw];intro hs
   rcases wj s hs with ⟨x',pj,v',-,h8⟩|⟨x',pj,v',h8⟩
   ·exact gp _ (Zbh _ h8)
   ·exact (hR.root h8).2 b p hb
  have h2:s∉pu.moves.map (·.2.1):=by
   intro hh;obtain⟨z,hz,e⟩:=List.mem_map.1 hh;refine gp (.root (.c .hole) 0 0 .gone) (Zbe _ (Zbn _ (List.mem_map.2 ⟨z,hz,?_⟩)));rw[e]
  have h3:s≠r:=fun e=>gp (.root (Nah (nv+1) X q (.v nv)).2 m' (bc+1) .live) (Zbe _ (by rw[e];exact Zbu))
  rw[h1,cond_false,Ia6 h2];simp[h3]
 ·intro s c hc _
  rcases cY hc with ⟨rfl,rfl⟩|⟨z,hz,rfl,rfl⟩|⟨hs,x',pj,v',rfl,h8⟩
  ·exact .inr (.inl ⟨_,_,_,_,_,hk,rfl⟩)
  ·exact .inr (.inr (.inl ⟨_,_,_,_,rfl,by simp,by simp⟩))
  ·refine .inr (.inr (.inr ⟨x',pj,v',h8,rfl,fun b p hb=>⟨?_,cA b (cJ b s p hb (wh s hs))⟩⟩))
   show mR _ (G.own b)=.frz
   rw[hb];exact vh s hs p
 ·intro r0 x0 m1 k0 nn s p q' hF
  unfold kY at hF
  cases hh:has pu.frz s with
  |true=>rw[hh,cond_true]at hF;cases hF
  | false =>
   rw[hh,cond_false]at hF
   have zp:r0≠r:=by
    rintro rfl
    rw[hk]at nn
    injection nn with e;injection e with _ _ _ e;cases e
   split at hF
   ·unfold yZ at hF
    split at hF
    ·injection hF with j1 j2;exact absurd j1.symm zp
    ·cases hF
   ·split at hF
    ·unfold yZ at hF
     split at hF
     ·injection hF with j1 j2;exact absurd j1.symm zp
     ·cases hF
    ·injection hF with j1 j2;exact⟨j1,j2⟩
 ·intro hfr' s c hc _
  rcases cY hc with ⟨rfl,rfl⟩|⟨z,hz,rfl,rfl⟩|⟨hs,x',pj,v',rfl,h8⟩
  ·refine⟨_,_,_,_,rfl,?_⟩
   simp only[bS];obtain⟨m1,oE⟩:∃ m1,m'-q.length=m1+1:=⟨m'-q.length-1,by omega⟩
   have ri:∀ i' fa,(rs.set iv.toNat (row.take off++pu.xs.map (·.val ρ)++row.drop (off+ti.size)))[i']?=some fa->∀ j' d,fa[j']?=some d ->
     (i'=iv.toNat/\off<=j'/\j'<off+ls.length/\∃ x,pu.xs[j'-off]?=some x/\d=x.val ρ)\/(∃ row0,rs[i']?=some row0/\row0[j']?=some d/\¬ (i'=iv.toNat/\off<=j'/\j'<off+ls.length)):=by
    intro i' fa eS j' d il
    have hsr:row.take off++pu.xs.map (·.val ρ)++row.drop (off+ti.size)=setRange row off (pu.xs.map (·.val ρ)):=by
     unfold setRange;rw[Zbt,e6]
    rw[hsr,Bci]at eS;by_cases qp:iv.toNat=i'
    ·subst qp
     rw[if_pos rfl,if_pos (List.getElem?_eq_some_iff.1 e4).1]at eS;obtain rfl:=Option.some.inj eS;rw[iL (by rw[Zbt];omega),Zbt]at il;split at il
     ·rename_i j9
      rw[Zb2,Zbo]at il;obtain⟨x,ov,l8⟩:=il;exact .inl ⟨rfl,j9.1,by omega,x,ov,l8.symm⟩
     ·rename_i a3b
      exact .inr ⟨row,e4,il,fun e=>a3b ⟨e.2.1,by omega⟩⟩
    ·rw[if_neg qp]at eS
     exact .inr ⟨fa,eS,il,fun e=>qp e.1.symm⟩
   have gw:Rp (fun b=>mR (kY pu s m' pv (iv.toNat*sz)) (G.own b)) w' s pv (m'-q.length) (.slice (some c') n' iS) ((aL.v nv).val ρ):=by
    rw[qg,e7,oE];refine .sl _ c' n' iS sz _ (fun i' j'=>if i'=iv.toNat/\off<=j'/\j'<off+ls.length then vs.getD (j'-off) undef else vs0 i' j') (by simpa using i2) i3 (.inl rfl) (fun fa hr=>?_) (fun _=>⟨fp,?_,fun k hk=>?_⟩) (fun i' fa eS j' d il=>?_) (fun i' fa eS j' d il=>?_)
    ·rcases Bcj hr with hr|rfl
     ·exact i5 _ hr
     ·simp;omega
    ·show mR _ (G.own c'.block)=_
     rw[nc];show kY pu s m' pv (iv.toNat*sz) s pv=_
     rw[hrF,yZ,if_pos (by omega)]
    ·obtain⟨u0,u6,zj⟩:=cC k hk
     rw[<- yw,World.frozen?_setCells];obtain⟨u',hu'⟩:=jY (B:=c'.block) (o:=c'.off+(iv.toNat*sz+off)) (vs:=vs) (b:=c'.add k) (fun _=>by rw[add_plain fp]) (fun j hj=>by obtain⟨u1,h9,-⟩:=ij j hj;rw[h9];rfl) u6;exact⟨u',hu',zj⟩
    ·rcases ri i' fa eS j' d il with ⟨rfl,h9,cL,x0,ef,fW⟩|⟨row0,h9,cL,ef⟩
     ·rw[if_pos ⟨rfl,h9,cL⟩,<- yw,add_plain fp]
      have:=World.cell?_setCells_in c'.block vs (c'.off+(iv.toNat*sz+off)) w (fun j hj=>by obtain⟨u1,h9,-⟩:=ij j hj;rw[h9];rfl) (j'-off) (by omega);rw[show c'.off+(iv.toNat*sz+off)+(j'-off)=c'.off+(iv.toNat*sz+j') by omega]at this;rw[this,Zbk,Zbf (by omega)];rfl
     ·rw[if_neg ef,<- yw,World.cell?_setCells_out _ _ _ _ _ (fun _ _=>?_)]
      ·exact i7 _ _ h9 _ _ cL
      ·rw[add_plain fp]
       dsimp only
       have vw:j'<sz:=by
        have:=(List.getElem?_eq_some_iff.1 cL).1;rw[i5 row0 (Zbv h9)]at this;exact this
       by_cases qp:i'=iv.toNat
       ·subst qp
        have:¬ (off<=j'/\j'<off+ls.length):=fun e=>ef ⟨rfl,e⟩
        omega
       ·rcases Nat.lt_or_gt_of_ne qp with hlt|uk
        ·refine .inl ?_
         have:=Ac2 sz (show i'+1<=iv.toNat by omega);rw[Ac4]at this;omega
        ·refine .inr ?_
         have:=Ac2 sz (show iv.toNat+1<=i' by omega);rw[Ac4]at this;omega
    ·rcases ri i' fa eS j' d il with ⟨rfl,h9,cL,x0,ef,fW⟩|⟨row0,h9,cL,ef⟩
     ·rw[if_pos ⟨rfl,h9,cL⟩,fW]
      have hv:vs[j'-off]?=some (vs.getD (j'-off) undef):=by
       rw[Zbk,Zbf (by omega)];rfl
      have sR:=mL (j'-off) _ _ hv ef;rw[show off+(j'-off)=j' by omega]at sR;refine sR.rp hR (by omega) qy (fun s' m2 hm2 b t hb=>⟨?_,cA b (cJ b s' t hb (a6s _ hm2))⟩) (fun s' q' kA=>by rw[hho]at kA;simp at kA) (fun s' ka b p hb=>⟨?_,cA b (cJ b s' p hb (wh s' ka))⟩)
      ·show mR _ (G.own b)=_
       rw[hb];show kY pu s m' pv (iv.toNat*sz) s' t=_
       rw[hmF (j',s',m2) hm2,yZ];simp only[Zbi,Ac1];by_cases ht:t.length<m1
       ·rw[if_pos ht,if_pos (by omega)]
       ·rw[if_neg ht,if_neg (by omega)]
      ·show mR _ (G.own b)=_
       rw[hb];exact vh s' ka p
     ·rw[if_neg ef]
      refine (i8 _ _ h9 _ _ cL).move qy _ m1 (by omega) fun b t hb=>⟨?_,cA b fun e=>?_⟩
      ·show mR _ (G.own b)=_
       rw[hb];show kY pu s m' pv (iv.toNat*sz) s _=_
       rw[hrF,yZ];simp only[Zbi,Ac1];by_cases ht:t.length<m1
       ·rw[if_pos ht,if_pos (by omega)]
       ·rw[if_neg ht,if_neg (by omega)]
      ·rw[e,nc]at hb
       injection hb with _ e2
       have:=congrArg List.length e2;simp at this
   have:=Rp.upd (own':=fun b=>mR (kY pu s m' pv (iv.toNat*sz)) (G.own b)) (w':=w') (r:=s) (M':=m') (full:=pv) qy (fun b t hb ht=>⟨?_,cA b fun e=>?_⟩) (by omega) (by rw[wc];exact gw) pv [] m0 (G.hdr s) _ _ rfl (by omega) (by simpa using eW) lz oh
   ·simpa using this
   ·show mR _ (G.own b)=_
    rw[hb];exact hrF t
   ·rw[e,nc]at hb
    injection hb with _ e2
    exact ht (e2▸List.prefix_rfl)
  ·exact⟨_,_,_,_,rfl,trivial⟩
  ·refine⟨x',pj,v',.frozen,rfl,?_,fun b p hb=>?_⟩
   ·have:=hR.root h8
    simp only[bS]at this;refine this.rd.mono' fun b hb hlt=>?_
    rcases hb with hb|⟨p,hb⟩
    ·exact qy b hb hlt
    ·refine⟨?_,cA b (cJ b s p hb (wh s hs))⟩
     show mR _ (G.own b)=_
     rw[hb];exact vh s hs p
   ·have di:mR (kY pu r m' pv (iv.toNat*sz)) (G.own b)=.slc s p:=hb
    cases e:G.own b with
    | slc s' p' =>
     rw[e]at di;have fL:kY pu r m' pv (iv.toNat*sz) s' p'=.slc s p:=di;by_cases ka:s'∈pu.frz
     ·rw[vh s' ka]at fL;cases fL
     ·unfold kY at fL
      rw[Aaw.2 ka,cond_false]at fL;have hsr:=wh s hs;split at fL
      ·unfold yZ at fL
       split at fL
       ·injection fL with j1 j2;exact hsr j1.symm
       ·cases fL
      ·split at fL
       ·unfold yZ at fL
        split at fL
        ·injection fL with j1 j2;exact hsr j1.symm
        ·cases fL
       ·injection fL with j1 j2;exact ka (j1▸hs)
    |_=>rw[e]at di;cases di
end
theorem pI:∀ (sz n:Nat) (l:List D),l.length=n*sz->∀ i row,(chunk sz n l)[i]?=some row->i<n/\row.length=sz/\∀ j d,row[j]?=some d->l[i*sz+j]?=some d
 |sz,0,l,_,i,row,h=>by simp[chunk]at h
 | sz, n + 1, l, hl, i, row, h => by
  simp only[chunk]at h;rw[Ac4,Nat.one_mul]at hl
  cases i with
  | zero =>
   simp only[Zbl,Option.some.injEq]at h;subst h;refine⟨by omega,by simp;omega,fun j d hj=>?_⟩;rw[Acs]at hj;split at hj
   ·simpa using hj
   ·cases hj
  | succ i =>
   simp only[Acl]at h;obtain⟨h1,h2,h3⟩:=pI sz n (l.drop sz) (by simp;omega) i row h;refine⟨by omega,h2,fun j d hj=>?_⟩;have:=h3 j d hj;rw[Acg]at this;rw[<- this];congr 1;rw[Ac4];omega
theorem Jar:∀ (sz n:Nat) (l:List D),(chunk sz n l).length=n
 |_,0,_=>rfl
 |sz,n+1,l=>by simp[chunk,Jar sz n]
theorem Gar {α:Type}(l:List α):∀ n,(Fbv l n).length=n*l.length
 |0=>by simp[Fbv]
 |n+1=>by rw[Fbv,Zbi,Gar l n,Ac4];omega
theorem Ua4 {α:Type}(l:List α)(h:0<l.length):∀ n j,j<n*l.length->(Fbv l n)[j]?=l[j % l.length]?
 |0,j,hj=>by simp at hj
 | n + 1, j, hj => by
  rw[Fbv];by_cases h1:j<l.length
  ·rw[Zbx h1,Nat.mod_eq_of_lt h1]
  ·rw[Zbw (by omega),Ua4 l h n (j-l.length) (by rw[Ac4]at hj;omega)]
   congr 1;rw[Nat.mod_eq_sub_mod (by omega:j ≥ l.length)]
section
variable {P:Program} {E:Env} {F:bH} {n:Nat} {σ:Nat->Option aS} {ρ:List D} {a:Act} {w w':World} {G G':Gh} {g:Option (aL×Bool)} {o:Oper} {cf:Nat->List D->Option (List D)} {Q:Exit->Act->World->Prop} {next:Act->World->Prop}
theorem Faq {ti:TI}{len:Nat}{place:Nat->Option (Nat×Nat)}(ou:∀ i,i<len->place i=some (i*ti.size,ti.size)) :
  ∀ {xs:List (Nat×Operand)} {ps:List (Nat×SV)},Ga3 σ ρ G w a xs ps->∀ {ls kk:List aR} {us:Array Value},ls.length=len*ti.size->aG σ ρ G w ls us.toList->Ca5 ti len ls ps=some kk ->
  ∃ cW,Instr.fill place us (xs.map fun x=>(x.1,a.eval x.2))=some cW/\aG σ ρ G w kk cW.toList/\kk.length=len*ti.size
 | [], _, rfl, ls, kk, us, hn, hl, h => by
  simp only[Ca5,Option.some.injEq]at h;subst h;exact⟨us,rfl,hl,hn⟩
 | (i, x) :: xs, _, ⟨sv, ps, rfl, h1, hr⟩, ls, kk, us, hn, hl, h => by
  unfold Ca5 at h;split at h
  ·rename_i vs lk
   cases hb:(Nat.beq vs.length ti.size&&Nat.blt i len) with
   |false=>rw[hb]at h;cases h
   | true =>
    rw[hb,cond_true]at h;simp only[Zbd,Zb8,Nat.blt_eq]at hb;have h2:=iN lk h1;have hlen:=hl.len
    have hle:i*ti.size+ti.size<=ls.length:=by
     have:=Ac2 ti.size (show i+1<=len by omega);rw[Ac4,Nat.one_mul]at this;omega
    obtain⟨us1,h3,h4⟩:=Raa (rest:=xs.map fun x=>(x.1,a.eval x.2)) (ou i hb.2) (by rw[h2.len];exact hb.1) (by rw[<- Bc5,hlen];exact hle);obtain⟨cW,h5,h6,h7⟩:=Faq ou hr (us:=us1) (ls:=setRange ls (i*ti.size) vs) (by rw[kZ (by rw[hb.1];exact hle)];exact hn) (by rw[h4];exact hl.setRange h2 (by rw[hb.1];exact hle)) h;exact⟨cW,by rw[Zb5,h3];exact h5,h6,h7⟩
  ·cases h
def mkF (pu:Put)(nr m':Nat)(s:Nat)(p:List Nat):Ow :=
 bif has pu.frz s then .frz else match pu.moves.find? (fun y=>Nat.beq y.2.1 s) with
  |some z=>yZ nr m' ([z.1]++p)
  |none=>.slc s p
theorem Ibc (z:Array Value)(hz:0<z.size)(N j:Nat)(hj:j<N):((Array.range N).map (fun i=>z[i % z.size]!))[j]?=z[j % z.size]?:=by
 rw[Array.getElem?_map,Array.getElem?_range];rw[if_pos hj];simp only[Acm];have hlt:j % z.size<z.size:=Nat.mod_lt _ hz;rw[getElem!_pos z (j % z.size) hlt,Acd hlt]
theorem Ra9 {t:TypeId}{i:TI}{info:TypeInfo}{u:TypeDesc}(f:dB P t i info u)(hs:0<i.size){z:Value}(hz:aG σ ρ G w (i.cells.map fK) z.cells.toList)(len:Nat) :
  aG σ ρ G w (Fbv (i.cells.map fK) len) ((Array.range (len*i.size)).map (fun j=>z.cells[j % z.cells.size]!)).toList:=by
 have iz:(i.cells.map fK).length=i.size:=by rw[Zbt,f.len]
 have zh:z.cells.size=i.size:=by rw[<- Bc5,hz.len,iz]
 refine .of_get (by rw[Gar,iz];simp) fun j l v hj hv=>?_
 have hlt:j<len*i.size:=by
  have:=(List.getElem?_eq_some_iff.1 hj).1;rwa[Gar,iz]at this
 rw[Ua4 _ (by omega) _ _ (by rw[iz];exact hlt),iz]at hj;rw[Acz,Ibc _ (by omega) _ _ hlt,zh]at hv;obtain⟨v',h1,h2⟩:=hz.get hj;rw[Acz,hv]at h1;exact Option.some.inj h1▸h2
theorem uW (hR:R E.ntmps F σ ρ a w G)(hd:fG E.ntmps o)(hti:vN P E.ti){nv nb nr:Nat}{mv dt:Bool}(hf:σ (kR nr)=none){t:TypeId}{len:Nat}{parts:Array (Nat×Operand)}(ho:o.op=.buildSlice t len parts){res:bP}
  (h:(qA E mv dt nv nb nr g o).eval σ=some res) (aE:aN cf ρ g nv res.lets):gV P E F σ ρ a w g o Q res.upd:=by
 simp only[qA,ho,aA,Zbc,tiR,aW,aK]at h;obtain⟨st,h1,e,h2,ti,h3,ps,h4,_,h5,h⟩:=h;split at h5
 case isFalse=>cases h5
 rename_i hb5;simp only[Zbd,Acr,Nat.blt_eq]at hb5;obtain⟨⟨hsz1,a6m⟩,zy⟩:=hb5;obtain⟨info,u,f⟩:=aX (hti.ok _ _ h1);obtain rfl:=qN f h2;obtain⟨jg,u',f'⟩:=aX (hti.ok _ _ h3);split at h
 case h_2=>cases h
 rename_i ls si;simp only[aA,Zbc,aK]at h;obtain⟨pu,h6,_,h7,fr,h8,_,h9,h⟩:=h;split at h7
 case isFalse=>cases h7
 rename_i tA;split at h9
 case isFalse=>cases h9
 rename_i hb9;simp only[Zbd,Zb3,Ccf,Ccp]at hb9;obtain⟨⟨oc,hmf⟩,hho⟩:=hb9;obtain⟨wj,ua⟩:=gK h8
 have main:gOn ρ g=true->∃ cW:Array Value,(execOp a.eval o).run P w=.ok (.value (.slice (some ⟨w.heap.size,0,none⟩) len len)) (pushB w cW e)/\aG σ ρ G w ls cW.toList/\ls.length=len*ti.size:=by
  intro hg;obtain⟨z,nu,po,-,-⟩:=f'.zeros (σ:=σ) (ρ:=ρ) (G:=G) (w:=w);have hz3:=Ra9 f' a6m po len;have iz:(ti.cells.map fK).length=ti.size:=by rw[Zbt,f'.len]
  obtain⟨cW,fX,hl,k8⟩:=Faq (place:=fun i=>some (i*ti.size,ti.size)) (fun i _=>rfl) (Aao hR hg h4) (ls:=Fbv (ti.cells.map fK) len) (by rw[Gar,iz]) hz3 si;refine⟨cW,?_,hl,k8⟩
  ·unfold execOp
   simp only[ho];refine fQ ?_;unfold Instr.buildSlice;simp only[Sem.run_bind,run_underlying f.und,Result.andThen_ok,f'.sizeOf]
   have hle:¬ len*ti.size>2 ^ 24:=by
    have:(2:Nat) ^ 24=16777216:=by decide
    omega
   rw[if_neg hle];have e1:(parts.map fun x=>(x.1,a.eval x.2)).toList=parts.toList.map fun x=>(x.1,a.eval x.2):=by simp
   by_cases h0:len*ti.size=0
   ·have rl:Instr.fill (fun i=>some (i*ti.size,ti.size)) ((Array.range (len*ti.size)).map (fun j=>(#[]:Array Value)[j % (#[]:Array Value).size]!)) (parts.map fun x=>(x.1,a.eval x.2)).toList=some cW:=by
     rw[e1,<- fX];congr 1;rw[h0];simp
    simp only[Sem.run_bind,Sem.run_pure,Result.andThen_ok,h0,if_true]at rl ⊢;rw[rl];simp[newRow,pushB]
   ·simp only[Sem.run_bind,if_neg h0,lM f'.info_ nu,Result.andThen_ok,Sem.run_pure]
    rw[e1,fX];simp[newRow,pushB]
 have lA:∀ cW:Array Value,aG σ ρ G w ls cW.toList->pu.xs.length=ls.length/\(∀ j v x,cW.toList[j]?=some v->pu.xs[j]?=some x->Ja2 σ ρ G w pu (0+j) v x):=fun cW hl=>by
  obtain⟨h1,h2,-⟩:=tT hR h6 hl;exact⟨h1,h2⟩
 cases hgg:noG g with
 | false =>
  rw[hgg,cond_false]at h;rw[hgg,Bool.false_or]at tA;simp only[Zbd,Ccp]at tA;obtain⟨⟨hm0,-⟩,zj⟩:=tA;simp only[tX,aF,Option.some.injEq]at h;subst h;simp only[Faw,Zb4];refine⟨fun hg=>?_,fun hg=>Nb8 hR hd hg⟩;obtain⟨cW,bj,hl,k8⟩:=main hg;obtain⟨ou,mL⟩:=lA cW hl;obtain⟨d,fy,qg⟩:=fV aE hg;refine nJ bj ⟨G,?_⟩
  have eA:=hR.own hd (g:=g) (sv:=.one (.sn [] .no false (.v nv))) (v:=.slice (some ⟨w.heap.size,0,none⟩) len len) (w':=pushB w cW e) (G':=G) (ur:=[]) (f:=fun s p=>.slc s p) (wr:=fun _=>False)
   (by simp) (fun b _=>by cases hb:G.own b<;>rfl) (fun b hb=>hR.frame.fresh b (by rw[lC]at hb;omega)) ⟨rfl,rfl,rfl,by rw[lC];omega⟩ (fun b hb=>.inl (hR.frame.fresh b hb))
   (fun b hlt _=>lN (by omega)) (fun _ h=>h.elim) (fun _ _ _ _ _=>rfl) (by simp) (fun _ _ _ _ _ s p q h=>by injection h with h1 h2;exact⟨h1,h2⟩) (fun _ _=>rfl) rfl (fun eu _=>?_) (by simp)
  ·rw[Zb4]at eA
   exact eA
  ·simp only[cB,aB]
   refine⟨⟨rfl,by simp⟩,fun _=>⟨?_,by simp,trivial⟩⟩;simp only[aU.run]at fy;split at fy
   case isFalse=>cases fy
   rename_i pS;simp only[Option.some.injEq,List.cons.injEq,and_true]at fy;rw[qg,<- fy];refine .rows _ ⟨w.heap.size,0,none⟩ len len ti.size _ (fun i j=>cW.toList.getD (i*ti.size+j) undef) (Jar _ _ _) (Zbr _) (.inr rfl) (fun row hr=>?_) (fun i row hi j d hj=>?_) (fun i row hi j d hj=>?_)
   ·obtain⟨i,hi⟩:=List.mem_iff_getElem?.1 hr
    exact (pI _ _ _ pS i row hi).2.1
   ·obtain⟨cL,ef,fW⟩:=pI _ _ _ pS i row hi
    have jd:=(List.getElem?_eq_some_iff.1 (fW j d hj)).1;refine⟨.inl (hR.frame.fresh _ (Zbr _)),?_⟩;rw[nW];have k7:i*ti.size+j<cW.toList.length:=by rw[hl.len,<- ou];simpa using jd
    rw[Zbk,Zbf k7,<- Acz,Zbf k7];rfl
   ·obtain⟨cL,ef,fW⟩:=pI _ _ _ pS i row hi
    have jd:=fW j d hj;rw[Zb2,Zbo]at jd;obtain⟨x,ov,rfl⟩:=jd;have k7:i*ti.size+j<cW.toList.length:=by rw[hl.len,<- ou];exact (List.getElem?_eq_some_iff.1 ov).1
    have hv:cW.toList[i*ti.size+j]?=some (cW.toList.getD (i*ti.size+j) undef):=by
     rw[Zbk,Zbf k7];rfl
    cases mL _ _ _ hv ov with
    |sc h=>exact .sc h
    |nil z hx hv=>rw[hx,hv];exact Rd.nil
    |mv r m bc hm hr hv na=>rw[hm0]at hm;simp at hm
    |hole r k m q hm hl hq fm hn na=>rw[hho]at hm;simp at hm
    | fz na h =>
     refine h.mono' fun b hb hlt=>?_
     rcases hb with hb|⟨r,p,h1,-⟩
     ·exact⟨.inl hb,lN (by omega)⟩
     ·rw[zj]at h1;simp at h1
 | true =>
  obtain rfl:=wO hgg;rw[hgg,cond_true]at h;simp only[tX,aF,Option.some.injEq]at h;subst h;simp only[Faw];refine⟨fun hg=>?_,fun hg=>by simp[gOn]at hg⟩;obtain⟨cW,bj,hl,k8⟩:=main hg;obtain⟨ou,mL⟩:=lA cW hl;obtain⟨d,fy,qg⟩:=fV aE hg;generalize hM:min big (pu.depth+1)=M;obtain⟨m1,rfl⟩:∃ m1,M=m1+1:=⟨M-1,by rw[<- hM];unfold big;omega⟩;have hN:w.heap.size=w.heap.size:=rfl
  have hdr:∀ r,(σ (kR r)).isSome->r≠nr:=fun r hr e=>by
   rw[e,hf]at hr;cases hr
  refine nJ bj ⟨{ G with own:=fun b=>if b=w.heap.size then .slc nr [] else mR (mkF pu nr (m1+1)) (G.own b),hdr:=fun r=>if r=nr then .slice (some ⟨w.heap.size,0,none⟩) len len else G.hdr r },?_⟩
  have vh:∀ s,s∈pu.frz->∀ p,mkF pu nr (m1+1) s p=.frz:=fun s hs p=>by
   unfold mkF;rw[mO.2 hs,cond_true]
  have hmF:∀ z∈pu.moves,∀ p,mkF pu nr (m1+1) z.2.1 p=yZ nr (m1+1) ([z.1]++p):=fun z hz p=>by
   unfold mkF
   have:has pu.frz z.2.1=false:=by
    have:=hmf z hz;simpa using this
   rw[this,cond_false,uE oc z hz]
  have mN:∀ b,G.own b≠.frz->b<w.heap.size:=fun b hb=>by
   rcases Zbz b w.heap.size with h|h
   ·exact h
   ·exact absurd (hR.frame.fresh b h) hb
  have cA:∀ b,b≠w.heap.size->(pushB w cW e).heap[b]?=w.heap[b]?:=fun b hb=>lN hb
  have cY:∀ {s:Nat} {c:aS},(kR s,c)∈(kR nr,aS.root (.v nv) (m1+1) 0 .live)::(pu.moves.map fun z=>(kR z.2.1,aS.root (.c .hole) 0 0 .gone))++fr ->
    (s=nr/\c=.root (.v nv) (m1+1) 0 .live)\/(∃ z∈pu.moves,s=z.2.1/\c=.root (.c .hole) 0 0 .gone) \/
    (s∈pu.frz/\∃ x m v,c=.root x m v .frozen/\σ (kR s)=some (.root x m v .live)):=by
   intro s c hc
   rcases List.mem_append.1 hc with hc|hc
   ·rcases List.mem_cons.1 hc with hc|hc
    ·obtain⟨e1,e2⟩:=Prod.mk.inj hc
     exact .inl ⟨eZ e1,e2⟩
    ·obtain⟨z,hz,e⟩:=List.mem_map.1 hc
     obtain⟨e1,e2⟩:=Prod.mk.inj e;exact .inr (.inl ⟨z,hz,(eZ e1).symm,e2.symm⟩)
   ·obtain⟨s',ka,x',pj,v',e1,e2,e3⟩:=ua _ _ hc
    obtain rfl:=eZ e1;exact .inr (.inr ⟨ka,x',pj,v',e2,e3⟩)
  have jj:σ (kR nr)=none:=hf
  have zd:∀ s,s∈pu.frz->s≠nr:=fun s hs e=>by
   rcases wj s hs with ⟨x',pj,v',h8,-⟩|⟨x',pj,v',h8⟩<;>rw[e,jj]at h8<;>cases h8
  have qy:∀ b,G.own b=.frz->b<w.heap.size->(if b=w.heap.size then Ow.slc nr [] else mR (mkF pu nr (m1+1)) (G.own b))=.frz/\(pushB w cW e).heap[b]?=w.heap[b]?:=fun b hb hlt=>by
   rw[if_neg (by omega),hb];exact⟨rfl,cA b (by omega)⟩
  have fN:∀ b s p,G.own b=.slc s p->(if b=w.heap.size then Ow.slc nr [] else mR (mkF pu nr (m1+1)) (G.own b))=mkF pu nr (m1+1) s p/\(pushB w cW e).heap[b]?=w.heap[b]?:=fun b s p hb=>by
   have:=mN b (by rw[hb];simp);rw[if_neg (by omega),hb];exact⟨rfl,cA b (by omega)⟩
  refine hR.own hd (wr:=fun _=>False) (f:=mkF pu nr (m1+1)) ?_ ?_ ?_ ?_ ?_ (fun b hlt _=>cA b (by omega)) (fun _ h=>h.elim) ?_ ?_ ?_ ?_ rfl ?_ ?_
  ·intro k c hc
   rcases List.mem_append.1 hc with hc|hc
   ·rcases List.mem_cons.1 hc with hc|hc
    ·exact⟨nr,(Prod.mk.inj hc).1⟩
    ·obtain⟨z,hz,e⟩:=List.mem_map.1 hc
     exact⟨z.2.1,(Prod.mk.inj e).1.symm⟩
   ·obtain⟨s',-,-,-,-,e1,-⟩:=ua _ _ hc
    exact⟨s',e1⟩
  ·intro b hlt
   show (if b=w.heap.size then Ow.slc nr [] else _)=_
   rw[if_neg (by omega)]
  ·intro b hb
   rw[lC]at hb;show (if b=w.heap.size then Ow.slc nr [] else mR _ (G.own b))=.frz
   rw[if_neg (by omega),hR.frame.fresh b (by omega)];rfl
  ·exact⟨rfl,rfl,rfl,by rw[lC];omega⟩
  ·intro b hb
   show (if b=w.heap.size then Ow.slc nr [] else mR _ (G.own b))=.frz\/∃ r p,(if b=w.heap.size then Ow.slc nr [] else mR _ (G.own b))=.slc r p/\_
   by_cases e:b=w.heap.size
   ·rw[if_pos e];exact .inr ⟨nr,[],rfl,jj⟩
   ·rw[if_neg e,hR.frame.fresh b hb];exact .inl rfl
  ·intro b s p hb gp
   unfold mkF
   have h1:has pu.frz s=false:=by
    rw[Aaw];intro hs
    rcases wj s hs with ⟨x',pj,v',-,h8⟩|⟨x',pj,v',h8⟩
    ·exact gp _ (Zbh _ h8)
    ·exact (hR.root h8).2 b p hb
   have h2:s∉pu.moves.map (·.2.1):=by
    intro hh;obtain⟨z,hz,e⟩:=List.mem_map.1 hh;refine gp (.root (.c .hole) 0 0 .gone) (Zbe _ (Zbn _ (List.mem_map.2 ⟨z,hz,?_⟩)));rw[e]
   rw[h1,cond_false,Ia6 h2]
  ·intro s c hc _
   rcases cY hc with ⟨rfl,rfl⟩|⟨z,hz,rfl,rfl⟩|⟨hs,x',pj,v',rfl,h8⟩
   ·exact .inl ⟨jj,_,_,_,_,rfl⟩
   ·exact .inr (.inr (.inl ⟨_,_,_,_,rfl,by simp,by simp⟩))
   ·refine .inr (.inr (.inr ⟨x',pj,v',h8,rfl,fun b p hb=>?_⟩))
    obtain⟨cL,ef⟩:=fN b s p hb;exact⟨cL.trans (vh s hs p),ef⟩
  ·intro r0 x0 m0 k0 nn s p q' hF
   unfold mkF at hF
   cases hh:has pu.frz s with
   |true=>rw[hh,cond_true]at hF;cases hF
   | false =>
    rw[hh,cond_false]at hF;split at hF
    ·unfold yZ at hF
     split at hF
     ·injection hF with j1 j2
      exact absurd j1.symm (hdr r0 (by rw[nn];rfl))
     ·cases hF
    ·injection hF with j1 j2;exact⟨j1,j2⟩
  ·intro r hr
   show (if r=nr then _ else _)=_
   rw[if_neg (hdr r hr)]
  ·intro _ _
   simp only[cB,aB];refine⟨by simp,eD _ _ _ (.inr ⟨_,Zbh _ (Zbe _ Zbu)⟩),rfl⟩
  ·intro _ s c hc _
   rcases cY hc with ⟨rfl,rfl⟩|⟨z,hz,rfl,rfl⟩|⟨hs,x',pj,v',rfl,h8⟩
   ·refine⟨_,_,_,_,rfl,?_⟩
    simp only[bS,if_true];simp only[aU.run]at fy;split at fy
    case isFalse=>cases fy
    rename_i pS;simp only[Option.some.injEq,List.cons.injEq,and_true]at fy;rw[qg,<- fy];refine .sl _ ⟨w.heap.size,0,none⟩ len len ti.size _ (fun i j=>cW.toList.getD (i*ti.size+j) undef) (Jar _ _ _) (Zbr _) (.inl rfl) (fun row hr=>?_) (fun _=>⟨rfl,by simp,fun k hk=>?_⟩) (fun i row hi j d hj=>?_) (fun i row hi j d hj=>?_)
    ·obtain⟨i,hi⟩:=List.mem_iff_getElem?.1 hr
     exact (pI _ _ _ pS i row hi).2.1
    ·rw[nW,wI]
     have:k<cW.size:=by rw[<- Bc5,hl.len,k8];exact hk
     exact⟨cW[k],Acd this,rfl⟩
    ·obtain⟨cL,ef,fW⟩:=pI _ _ _ pS i row hi
     have jd:=(List.getElem?_eq_some_iff.1 (fW j d hj)).1;rw[nW];have k7:i*ti.size+j<cW.toList.length:=by rw[hl.len,<- ou];simpa using jd
     rw[Zbk,Zbf k7,<- Acz,Zbf k7];rfl
    ·obtain⟨cL,ef,fW⟩:=pI _ _ _ pS i row hi
     have jd:=fW j d hj;rw[Zb2,Zbo]at jd;obtain⟨x,ov,rfl⟩:=jd;have k7:i*ti.size+j<cW.toList.length:=by rw[hl.len,<- ou];exact (List.getElem?_eq_some_iff.1 ov).1
     have hv:cW.toList[i*ti.size+j]?=some (cW.toList.getD (i*ti.size+j) undef):=by
      rw[Zbk,Zbf k7];rfl
     have sR:=mL _ _ _ hv ov;rw[Nat.zero_add]at sR;refine sR.rp hR (by unfold big at hM;omega) qy (fun s' m2 hm2 b t hb=>?_) (fun s' q' kA=>by rw[hho]at kA;simp at kA) (fun s' ka b p hb=>?_)
     ·obtain⟨mA,nf⟩:=fN b s' t hb
      refine⟨mA.trans ?_,nf⟩;rw[hmF _ hm2,yZ];simp only[Zbi,Ac1,Aco];by_cases ht:t.length<m1
      ·rw[if_pos ht,if_pos (by omega)]
      ·rw[if_neg ht,if_neg (by omega)]
     ·obtain⟨mA,nf⟩:=fN b s' p hb
      exact⟨mA.trans (vh s' ka p),nf⟩
   ·exact⟨_,_,_,_,rfl,trivial⟩
   ·refine⟨x',pj,v',.frozen,rfl,?_,fun b p hb=>?_⟩
    ·have:=hR.root h8
     simp only[bS]at this ⊢;rw[if_neg (zd s hs)];refine this.rd.mono' fun b hb hlt=>?_
     rcases hb with hb|⟨p,hb⟩
     ·exact qy b hb hlt
     ·obtain⟨mA,nf⟩:=fN b s p hb
      exact⟨mA.trans (vh s hs p),nf⟩
    ·have di:(if b=w.heap.size then Ow.slc nr [] else mR (mkF pu nr (m1+1)) (G.own b))=.slc s p:=hb
     split at di
     ·injection di with j1 _
      exact zd s hs j1.symm
     ·cases e:G.own b with
      | slc s' p' =>
       rw[e]at di;have fL:mkF pu nr (m1+1) s' p'=.slc s p:=di;by_cases ka:s'∈pu.frz
       ·rw[vh s' ka]at fL;cases fL
       ·unfold mkF at fL
        rw[Aaw.2 ka,cond_false]at fL;split at fL
        ·unfold yZ at fL
         split at fL
         ·injection fL with j1 j2;exact zd s hs j1.symm
         ·cases fL
        ·injection fL with j1 j2;exact ka (j1▸hs)
      |_=>rw[e]at di;cases di
end
def lW (vs:Nat->Nat->Value)(n sz:Nat):List Value:=(List.range (n*sz)).map fun k=>vs (k / sz) (k % sz)
theorem nX (vs:Nat->Nat->Value)(n sz:Nat):(lW vs n sz).length=n*sz:=by simp[lW]
theorem zC (vs:Nat->Nat->Value){n sz i j:Nat}(hi:i<n)(hj:j<sz):(lW vs n sz)[i*sz+j]?=some (vs i j):=by
 have hlt:i*sz+j<n*sz:=by
  have:=Ac2 sz (show i+1<=n by omega);rw[Ac4]at this;omega
 unfold lW;rw[Zb2,Cc1 hlt,Acm];rw[Ccr i sz,Nat.mul_add_div (by omega),Ccu hj,Nat.mul_add_mod,Nat.mod_eq_of_lt hj,Zb9]
theorem Eaw {vs:Nat->Nat->Value}{n sz k:Nat}{u:Value}(h:(lW vs n sz)[k]?=some u):k / sz<n/\k % sz<sz/\k=k / sz*sz+k % sz/\u=vs (k / sz) (k % sz):=by
 have hlt:k<n*sz:=by
  have:=(List.getElem?_eq_some_iff.1 h).1;rwa[nX]at this
 have dw:0<sz:=by
  rcases Nat.eq_zero_or_pos sz with e|e
  ·rw[e]at hlt;simp at hlt
  ·exact e
 refine⟨(Nat.div_lt_iff_lt_mul dw).2 hlt,Nat.mod_lt _ dw,?_,?_⟩
 ·rw[Ccr];exact (Nat.div_add_mod k sz).symm
 ·unfold lW at h
  rw[Zb2,Cc1 hlt,Acm]at h;exact (Option.some.inj h).symm
section
variable {P:Program} {E:Env} {F:bH} {n:Nat} {σ:Nat->Option aS} {ρ:List D} {a:Act} {w w':World} {G G':Gh} {g:Option (aL×Bool)} {o:Oper} {cf:Nat->List D->Option (List D)} {Q:Exit->Act->World->Prop} {next:Act->World->Prop}
theorem Da5 {rs:List (List D)}{sz:Nat}{b:Addr}{vs:Nat->Nat->Value}(dw:∀ r∈rs,r.length=sz)
  (bd:∀ i row,rs[i]?=some row->∀ j d,row[j]?=some d->w.cell? (b.add (i*sz+j))=some (vs i j)):∀ k u,(lW vs rs.length sz)[k]?=some u->w.cell? (b.add k)=some u:=by
 intro k u h;obtain⟨h1,h2,h3,rfl⟩:=Eaw h;have hr:rs[k / sz]?=some rs[k / sz]:=Zbf h1;have hl:=dw _ (Zbv hr);have hd:rs[k / sz][k % sz]?=some (rs[k / sz][k % sz]'(by omega)):=Zbf (by omega);have:=bd _ _ hr _ _ hd;rwa[<- h3]at this
structure Ob4 (w w1:World) (G:Gh) (A:Option Addr) (n n' cap sz:Nat) (olds news:List Value) (v:Value) (A':Option Addr) (cb:Addr) (iS:Nat) (grow:Bool):Prop where
 val:v=.slice A' (n+n') iS
 aval:A'=some cb\/(A'=none/\iS=0)
 le:n+n'<=iS
 os:w1.os=w.os/\w1.tape=w.tape/\w1.output=w.output
 size:w1.heap.size=w.heap.size+(if grow=true then 1 else 0)
 heap:∀ b,b<w.heap.size->(grow=true\/A'=none\/b≠cb.block)->w1.heap[b]?=w.heap[b]?
 cell:∀ k u,(olds++news)[k]?=some u->w1.cell? (cb.add k)=some u
 all:∀ k,k<iS*sz->∃ u,w1.cell? (cb.add k)=some u/\w1.frozen? (cb.add k)=false
 spot:cb.spot=none
 base:(grow=true/\A'=some cb/\cb.block=w.heap.size)\/(grow=false/\A'=some cb/\A=some cb)\/(grow=false/\A'=none)
theorem Ma7 {t tx e:TypeId}{ti:TI}{info:TypeInfo}{u u':TypeDesc}{x y:Operand}{args:Array Operand}{argTypes:Array TypeId}(ho:o.op=.call { callee:=.builtin .append,args,argTypes })
  (e9:args.toList=[x,y]) (je:argTypes=#[t,tx]) (hu:P.underlying t=some (.slice e)) (f:dB P e ti info u) (hx:P.underlying tx=some u') (qj:∃ e',u'=.slice e')
  {A:Option Addr} {n cap n':Nat} {b:Addr} {olds news:List Value} (hxv:a.eval x=.slice A n cap) (hnc:n<=cap) (hA:(A=some b/\b.spot=none)\/(A=none/\cap=0))
  (tg:olds.length=n*ti.size) (tM:∀ k u,olds[k]?=some u->w.cell? (b.add k)=some u) (cU:A=some b->∀ k,k<cap*ti.size->∃ u,w.cell? (b.add k)=some u/\w.frozen? (b.add k)=false)
  {By:Option Addr} {by':Addr} {mo:Nat} (zq:a.eval y=.slice By n' mo) (hBy:n'=0\/By=some by') (vg:news.length=n'*ti.size) (a0a:∀ k u,news[k]?=some u->w.cell? (by'.add k)=some u) (uv:∀ u∈news,u.oneCell'=true)
  (hb0:0<ti.bytes) (hs0:0<ti.size) (fv:(n+n')*ti.bytes<=gX) :
  ∃ v w1 A' cb iS grow,(execOp a.eval o).run P w=.ok (.value v) w1/\Ob4 w w1 G A n n' cap ti.size olds news v A' cb iS grow:=by
 obtain⟨e',rfl⟩:=qj
 have pL:Src P ti.size tx (.slice By n' mo) n' news w:=by
  rcases hBy with rfl|rfl
  ·have:news=[]:=Acu (by simpa using vg)
   subst this
   cases By with
   |none=>exact Src.ofNil w hx mo
   |some b1=>exact Src.ofSlice w hx b1 0 mo [] (by simp) (by simp) (by simp)
  ·exact Src.ofSlice w hx by' n' mo news vg a0a uv
 have ke:∀ {v:Value} {w1:World},(Builtin.append_ #[t,tx] o.type #[.slice A n cap,.slice By n' mo]).run P w=.ok v w1->(execOp a.eval o).run P w=.ok (.value v) w1:=by
  intro v w1 h;refine mJ ho (s:=Builtin.append_ argTypes o.type (args.map a.eval)) (fun _=>rfl) ?_;rw[Hbo e9,Jbu,hxv,zq,je];exact h
 have dw:info.size=ti.size:=f.size.symm;have zy:info.bytes=ti.bytes:=f.bytes.symm;by_cases nB:n+n'<=cap
 ·rcases hA with ⟨rfl,jq⟩|⟨rfl,h0⟩
  ·
   have hbb:b=⟨b.block,b.off,none⟩:=by cases b;simp only at jq;subst jq;rfl
   have cC:∀ j,j<news.length->∃ u,w.cell? ⟨b.block,b.off+n*ti.size+j,none⟩=some u/\w.frozen? ⟨b.block,b.off+n*ti.size+j,none⟩=false:=fun j hj=>by
    have:=cU rfl (n*ti.size+j) (by
     have:=Ac2 ti.size nB;rw[Ac4]at this
     omega)
    rw[add_plain jq,<- Zb0]at this;exact this
   have bj:=run_append_room_src (P:=P) w t tx o.type e info hu f.info_ b.block b.off n cap (.slice By n' mo) n' news (by rw[dw];exact pL) nB
    (fun j hj=>by rw[dw];obtain⟨u,h1,-⟩:=cC j hj;rw[h1];rfl) (fun j hj=>by rw[dw];exact (cC j hj).choose_spec.2)
   rw[<- hbb,dw]at bj;refine⟨_,_,some b,b,cap,false,ke bj,rfl,.inl rfl,nB,iT _ _ _ _,by rw[setCells_size];simp,fun b' _ di=>?_,fun k u hk=>?_,fun k hk=>?_,jq,.inr (.inl ⟨rfl,rfl,rfl⟩)⟩
   ·rcases di with di|di|di
    ·cases di
    ·cases di
    ·exact dE _ _ _ _ _ di
   ·by_cases hlt:k<olds.length
    ·rw[Zbx hlt]at hk
     rw[add_plain jq,World.cell?_setCells_out _ _ _ _ _ (fun _ _=>.inl (by dsimp only;omega)),<- add_plain jq];exact tM k u hk
    ·rw[Zbw (by omega)]at hk
     have qz:=(List.getElem?_eq_some_iff.1 hk).1;have:=World.cell?_setCells_in b.block news (b.off+n*ti.size) w (fun j hj=>by obtain⟨u,h1,-⟩:=cC j hj;rw[h1];rfl) (k-olds.length) qz;rw[show b.off+n*ti.size+(k-olds.length)=b.off+k by omega]at this;rw[add_plain jq,this,<- hk,Zbf]
   ·obtain⟨u0,u6,zj⟩:=cU rfl k hk
    rw[World.frozen?_setCells];obtain⟨u1,qn⟩:=jY (B:=b.block) (o:=b.off+n*ti.size) (vs:=news) (b:=b.add k) (fun _=>by rw[add_plain jq]) (fun j hj=>by obtain⟨u,h1,-⟩:=cC j hj;rw[h1];rfl) u6;exact⟨u1,qn,zj⟩
  ·
   have hn0:n=0:=by omega
   have a6a:n'=0:=by omega
   subst hn0 a6a h0;have:news=[]:=Acu (by simpa using vg);subst this;have:olds=[]:=Acu (by simpa using tg);subst this;refine⟨_,_,none,⟨0,0,none⟩,0,false,ke (run_append_nothing w t tx o.type e info hu f.info_ none 0 0 (Zbr _) _ (by rw[dw];exact pL)),rfl,.inr ⟨rfl,rfl⟩,Zbr _,⟨rfl,rfl,rfl⟩,by simp,fun _ _ _=>rfl,by simp,by simp,rfl,.inr (.inr ⟨rfl,rfl⟩)⟩
 ·
  obtain⟨z,nu,po,-,-⟩:=f.zeros (σ:=fun _=>none) (ρ:=[]) (G:=G) (w:=w);have zh:z.cells.size=ti.size:=by rw[<- Bc5,po.len,Zbt,f.len]
  have hold:(Builtin.firstCells info.size n (.slice A n cap)).run P w.drew=.ok olds.toArray w.drew:=by
   rcases hA with ⟨rfl,jq⟩|⟨rfl,h0⟩
   ·exact run_firstCells_some w.drew info.size n b n cap olds (by rw[dw];exact tg) (fun j u hj=>tM j u hj)
   ·have hn0:n=0:=by omega
    subst hn0;have:olds=[]:=Acu (by simpa using tg);subst this;rfl
  have h1:(n+n')*1<=(n+n')*ti.bytes:=Nat.mul_le_mul_left _ hb0;have yn:=nextslicecap_le (show cap<n+n' by omega)
  have a1i:Builtin.nextslicecap (n+n') cap*info.bytes<=281474976710656:=by
   rw[zy];have h2:=Ac2 ti.bytes yn;rw[Nat.mul_assoc]at h2;unfold gX at fv;omega
  have bj:=run_append_grow_src (P:=P) w t tx o.type e info z hu f.info_ nu A n cap olds hold (.slice By n' mo) n' news (by rw[dw];exact pL) (by omega) (by unfold gX at fv;omega) a1i;have mj:=grownCap_ge w (n+n') cap e;generalize hgc:grownCap w (n+n') cap e=gc at bj mj
  have ux:∀ b',b'≠w.heap.size->(w.drew.alloc (.cells ((olds++news).toArray++Builtin.zeroCells z.cells (gc-(n+n'))) e)).heap[b']?=w.heap[b']?:=fun b' di=>by
   show (w.heap.push _)[b']?=_
   rw[Cc4,if_neg di]
  have gw:(w.drew.alloc (.cells ((olds++news).toArray++Builtin.zeroCells z.cells (gc-(n+n'))) e)).heap[w.heap.size]?=some (.cells ((olds++news).toArray++Builtin.zeroCells z.cells (gc-(n+n'))) e (0,0)):=by
   show (w.heap.push _)[w.heap.size]?=_
   rw[Cc4,if_pos rfl]
  have bd:∀ k,(w.drew.alloc (.cells ((olds++news).toArray++Builtin.zeroCells z.cells (gc-(n+n'))) e)).cell? ((⟨w.heap.size,0,none⟩:Addr).add k)=((olds++news).toArray++Builtin.zeroCells z.cells (gc-(n+n')))[k]?:=fun k=>by
   unfold World.cell?;rw[add_block,gw];simp[Addr.add];split<;>simp_all
  refine⟨_,_,some ⟨w.heap.size,0,none⟩,⟨w.heap.size,0,none⟩,gc,true,ke bj,rfl,.inl rfl,mj,⟨rfl,rfl,rfl⟩,by show (w.heap.push _).size=_;rw[Array.size_push,if_pos rfl],fun b' hlt _=>ux b' (by omega),fun k u hk=>?_,fun k hk=>?_,rfl,.inl ⟨rfl,rfl,rfl⟩⟩
  ·have hlt:=(List.getElem?_eq_some_iff.1 hk).1
   rw[bd,Array.getElem?_append_left (by simpa using hlt)];simpa using hk
  ·have p5:((olds++news).toArray++Builtin.zeroCells z.cells (gc-(n+n'))).size=gc*ti.size:=by
    simp only[Array.size_append,List.size_toArray,Zbi,Builtin.zeroCells,Array.size_map,Array.size_range];rw[tg,vg,zh,<- Ac4,<- Ac4];congr 1;omega
   rw[bd];refine⟨_,Acd (by omega),?_⟩;unfold World.frozen?;rw[add_block,gw];simp
end
section
variable {P:Program} {E:Env} {F:bH} {n:Nat} {σ:Nat->Option aS} {ρ:List D} {a:Act} {w w':World} {G G':Gh} {g:Option (aL×Bool)} {o:Oper} {cf:Nat->List D->Option (List D)} {Q:Exit->Act->World->Prop} {next:Act->World->Prop}
structure Side (w:World) (v:Value) (rs:List (List D)) (sz:Nat) (A:Option Addr) (b:Addr) (n cap:Nat) (vs:Nat->Nat->Value):Prop where
 val:v=.slice A n cap
 len:rs.length=n
 le:n<=cap
 rows:∀ r∈rs,r.length=sz
 cell:∀ i row,rs[i]?=some row->∀ j d,row[j]?=some d->w.cell? (b.add (i*sz+j))=some (vs i j)
def ChY (G:Gh)(w:World)(lh:List Nat)(mq:Option Nat)(dy:Nat)(v:Value)(d:D)(idx:Nat):Prop :=
 Sc v d\/(∃ s,mq=some s/\2<=dy/\Rp G.own w s [idx] (dy-1) v d)\/(dy=1/\Rd (fun b=>G.own b=.frz\/∃ r p,r∈lh/\G.own b=.slc r p) w v d)
structure YOk (σ:Nat->Option aS) (G:Gh) (w:World) (fl:Bool) (v:Value) (rb:List (List D)) (sz dy:Nat) (gm:List (Nat×aS)) (ry:List Nat) (lh:List Nat) (mq:Option Nat):Prop where
 side:∃ A b n cap vs,Side w v rb sz A b n cap vs/\(n=0\/A=some b)/\∀ i row,rb[i]?=some row->∀ j d,row[j]?=some d->ChY G w lh mq dy (vs i j) d (i*sz+j)
 upd:∀ k c,(k,c)∈gm->∃ s,k=kR s/\s∈ry/\((mq=some s/\c=.root (.c .hole) 0 0 .gone/\∃ x m bc,σ (kR s)=some (.root x m bc .live))\/(s∈lh/\∃ x m bc,c=.root x m bc .frozen/\σ (kR s)=some (.root x m bc .live)))
 fz:∀ s∈lh,s∈ry/\((∃ c,(kR s,c)∈gm)\/∃ x m bc,σ (kR s)=some (.root x m bc .frozen))
 mv:∀ s,mq=some s->s∈ry/\(∃ c,(kR s,c)∈gm)/\s∉lh
 dy:1<=dy
 flat:fl=true->gm=[]/\lh=[]/\mq=none
theorem Rd.side {ok:Nat->Prop}{v:Value}{sz:Nat}{rs:List (List D)}(h:Rd ok w v (.rows sz rs)):∃ A b n cap vs,Side w v rs sz A b n cap vs/\(n=0\/A=some b)/\∀ i row,rs[i]?=some row->∀ j d,row[j]?=some d->Rd ok w (vs i j) d:=by
 obtain⟨A,b,n,c,vs,e1,e2,e3,e4,e5,e6,e7⟩:=h.inv;exact⟨A,b,n,c,vs,⟨e1,e2,e3,e5,fun i row hi j d hj=>(e6 i row hi j d hj).2⟩,e4,e7⟩
theorem Rbw (hR:R E.ntmps F σ ρ a w G){fl:Bool}{y:SlR}{v:Value}(hy:Yas σ ρ G w y v){sz:Nat}{rb:List (List D)}(hx:y.x.val ρ=.rows sz rb)(fX:fl=true->∀ r∈rb,∀ d∈r,d.isSc=true)
  {dy:Nat} {gm:List (Nat×aS)} {ry:List Nat} (h:(Uam fl y).eval σ=some (dy,gm,ry)):∃ lh mq,YOk σ G w fl v rb sz dy gm ry lh mq:=by
 have im:=hy.rd;rw[hx]at im;unfold Uam at h
 cases fl with
 | true =>
  simp only[cond_true,aF,Option.some.injEq,Prod.mk.injEq]at h;obtain⟨rfl,rfl,rfl⟩:=h;refine⟨[],none,?_,by simp,by simp,by simp,by decide,fun _=>⟨rfl,rfl,rfl⟩⟩;obtain⟨A,b,n,c,vs,h1,h2,h3⟩:=im.side;exact⟨A,b,n,c,vs,h1,h2,fun i row hi j d hj=>.inl ((h3 i row hi j d hj).sc_inv (fX rfl row (Zbv hi) d (Zbv hj)))⟩
 | false =>
  simp only[cond_false]at h;have a7:=hy.own;unfold vH at a7
  have frozen:∀ rs fr,(dS rs).eval σ=some fr->Rd (fun b=>G.own b=.frz\/∃ r p,r∈rs/\G.own b=.slc r p) w v (.rows sz rb)->YOk σ G w false v rb sz 1 fr rs rs none:=by
   intro rs fr eu im;obtain⟨h1,h2⟩:=gK eu;refine⟨?_,fun k c hc=>?_,fun s hs=>⟨hs,?_⟩,by simp,Zbr _,by simp⟩
   ·obtain⟨A,b,n,c,vs,h3,h4,h5⟩:=im.side
    exact⟨A,b,n,c,vs,h3,h4,fun i row hi j d hj=>.inr (.inr ⟨rfl,h5 i row hi j d hj⟩)⟩
   ·obtain⟨s,hs,x,m,bc,e1,e2,e3⟩:=h2 k c hc
    exact⟨s,e1,hs,.inr ⟨hs,x,m,bc,e2,e3⟩⟩
   ·rcases h1 s hs with ⟨x,m,bc,e1,e2⟩|h3
    ·exact .inl ⟨_,e2⟩
    ·exact .inr h3
  split at h
  ·rename_i r k m ho
   rw[ho]at a7;obtain⟨h1,⟨x,h2⟩,h3,h4,h5⟩:=a7;simp only[bD,Acb,List.length_nil,Nat.sub_zero]at h4;rw[hx]at h4
   cases hb:Nat.ble 2 m with
   | true =>
    rw[hb]at h;simp only[cond_true,aF,Option.some.injEq,Prod.mk.injEq]at h;obtain⟨rfl,rfl,rfl⟩:=h;simp only[Acr]at hb;obtain⟨m',rfl⟩:∃ m',m=m'+1:=⟨m-1,by omega⟩;obtain⟨A,b,n,c,vs,e1,e2,e3,e4,e5,e6,e7,e8⟩:=h4.sl_inv;refine⟨[],some r,⟨A,b,n,c,vs,⟨e1,e2,e3,e5,e7⟩,?_,fun i row hi j d hj=>.inr (.inl ⟨r,rfl,hb,by simpa using e8 i row hi j d hj⟩)⟩,fun k' c' hc=>?_,by simp,fun s hs=>?_,by omega,by simp⟩
    ·rcases e4 with e4|⟨e4,sy⟩
     ·exact .inr e4
     ·exact .inl (by omega)
    ·simp only[Zbp,Prod.mk.injEq]at hc
     exact⟨r,hc.1,by simp,.inl ⟨rfl,hc.2,x,_,k,h2⟩⟩
    ·obtain rfl:=Option.some.inj hs
     exact⟨by simp,⟨_,List.mem_singleton.2 rfl⟩,by simp⟩
   | false =>
    rw[hb]at h;simp only[cond_false,aF,Option.some.injEq,Prod.mk.injEq]at h;obtain⟨rfl,rfl,rfl⟩:=h
    have hm:m<=1:=by
     have:¬ 2<=m:=by rw[<- Acr,hb];simp
     omega
    refine⟨[],none,?_,by simp,by simp,by simp,Zbr _,by simp⟩
    rcases Nat.eq_zero_or_pos m with rfl|jc
    ·obtain⟨A,b,n,c,vs,h6,h7,h8⟩:=h4.zero.side
     exact⟨A,b,n,c,vs,h6,h7,fun i row hi j d hj=>.inr (.inr ⟨rfl,(h8 i row hi j d hj).mono fun b hb=>⟨.inl hb,rfl⟩⟩)⟩
    ·obtain rfl:m=0+1:=by omega
     obtain⟨A,b,n,c,vs,e1,e2,e3,e4,e5,e6,e7,e8⟩:=h4.sl_inv;refine⟨A,b,n,c,vs,⟨e1,e2,e3,e5,e7⟩,?_,fun i row hi j d hj=>.inr (.inr ⟨rfl,(e8 i row hi j d hj).zero.mono fun b hb=>⟨.inl hb,rfl⟩⟩)⟩
     rcases e4 with e4|⟨e4,sy⟩
     ·exact .inr e4
     ·exact .inl (by omega)
  ·rename_i r k m p cJ ho
   rw[ho]at a7;simp only[aA,Zbc,aF,Option.some.injEq,Prod.mk.injEq]at h;obtain⟨fr,h6,rfl,rfl,rfl⟩:=h;refine⟨[r],none,frozen _ _ h6 ?_⟩;refine im.mono fun b hb=>⟨hb.imp id fun ⟨r',k',p',h7,h8⟩=>?_,rfl⟩
   rw[a7.1]at h7;simp only[Zbp,Prod.mk.injEq]at h7;exact⟨r,p',by simp,h7.1▸h8⟩
  ·split at h
   ·rename_i z hz
    simp only[aF,Option.some.injEq,Prod.mk.injEq]at h;obtain⟨rfl,rfl,rfl⟩:=h;rw[hz]at hx;simp only[aL.val,D.rows.injEq]at hx;obtain⟨rfl,rfl⟩:=hx;refine⟨[],none,?_,by simp,by simp,by simp,by decide,by simp⟩;obtain⟨A,b,n,c,vs,h1,h2,h3⟩:=im.side;exact⟨A,b,n,c,vs,h1,h2,by simp⟩
   ·simp only[aA,Zbc,aF,Option.some.injEq,Prod.mk.injEq]at h
    obtain⟨fr,h6,rfl,rfl,rfl⟩:=h;refine⟨y.deps.map (·.1),none,frozen _ _ h6 ?_⟩;exact im.mono fun b hb=>⟨hb.imp id fun ⟨r',k',p',h7,h8⟩=>⟨r',p',Acx (f:=fun x:Nat×Nat=>x.1) h7,h8⟩,rfl⟩
end
end Go.Proofs.YtcbkmmhkccnamaaGreat.Rf
