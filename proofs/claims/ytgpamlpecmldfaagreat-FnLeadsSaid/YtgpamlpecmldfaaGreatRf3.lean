import Derived.Test.YtgpamlpecmldfaaGreatRf2
import Derived.Laws.IdiomCopy
import Derived.Deep.Upon
set_option linter.all false
open Array renaming getElem?_eq_getElem → Wbq, getElem?_toList → Xbk, length_toList → Xb9, getElem?_push → Ybo, ext' → Zbc
open Bool renaming and_eq_true → Vbk, not_eq_true' → Vb9
open List renaming getElem?_eq_some_iff → Vbn, mem_append_left → Vbo, mem_singleton → Vbp, getElem?_eq_getElem → Vbq, mem_append_right → Vbr, mem_cons → Vbu, getElem?_cons_zero → Vbv, length_append → Vbw, append_assoc → Vbx, getD_eq_getElem?_getD → Vby, getElem?_append_right → Vbz, mem_cons_of_mem → Vb1, getElem?_append_left → Vb2, mem_of_getElem? → Vb3, mem_append → Vb5, mem_cons_self → Vb7, length_cons → Wbb, map_cons → Wbe, all_eq_true → Wbg, length_map → Wbm, append_nil → Wbo, getElem?_map → Wbs, getElem?_drop → Wbt, map_nil → Wbu, getElem?_take → Wbw, nil_append → Wby, getElem?_cons_succ → Wbz, mem_map → Wb3, mem_iff_getElem? → Wb8, length_singleton → Xbd, mem_map_of_mem → Xbf, eq_nil_of_length_eq_zero → Xbi, any_eq_false → Xbr, getElem?_set → Xbu, cons_append → Xb0, foldl_cons → Xb4, singleton_append → Xb7, mem_or_eq_of_mem_set → Ybl, isEmpty_iff → Ybx, ext_getElem? → Yb0, getElem?_range → Yb4
open List.cons renaming injEq → Xbh
open Nat renaming le_refl → Vb6, add_assoc → Vb8, lt_or_ge → Wbc, beq_eq → Wbl, mul_le_mul_right → Wbr, add_zero → Wbv, ble_eq → Wb6, add_mul → Wb7, div_eq_of_lt → Ybg, mul_comm → Ybk, mul_add_div → Ybr
open Option renaming bind_eq_some_iff → Vbj, bind_some → Vbs, map_eq_some_iff → Vb4, map_some → Wb5, isNone_iff_eq_none → Ybb
open Option.some renaming injEq → Vbl, inj → Wbk
open Prod.mk renaming injEq → Wbd, inj → Xb5
namespace Go.Proofs.YtgpamlpecmldfaaGreat.Rf
theorem bI (b:Nat):∀ (vs:List Value) (o:Nat) (w:World) (k:Nat),k≠b->(w.setCells b o vs).heap[k]?=w.heap[k]?
 |[],_,_,_,_=>rfl
 | v :: r, o, w, k, h => by
  rw[World.setCells,bI b r _ _ k h];exact heap_setCell_other w _ k v h
theorem setCells_size (b:Nat):∀ (vs:List Value) (o:Nat) (w:World),(w.setCells b o vs).heap.size=w.heap.size
 |[],_,_=>rfl
 |v::r,o,w=>by rw[World.setCells,setCells_size b r];exact World.size_setCell ..
theorem dI (b:Nat):∀ (vs:List Value) (o:Nat) (w:World),(w.setCells b o vs).os=w.os/\(w.setCells b o vs).tape=w.tape/\(w.setCells b o vs).output=w.output
 |[],_,_=>⟨rfl,rfl,rfl⟩
 |v::r,o,w=>by rw[World.setCells];exact dI b r (o+1) _
theorem Bap (b:Nat):∀ (vs:List Value) (o:Nat) (w:World) (c:Array Value) (e:TypeId) (fr:Nat×Nat),w.heap[b]?=some (.cells c e fr) ->
  ∃ c',(w.setCells b o vs).heap[b]?=some (.cells c' e fr)/\c'.size=c.size/\∀ k,k<o\/o+vs.length<=k->c'[k]?=c[k]?
 |[],o,w,c,e,fr,h=>⟨c,h,rfl,fun _ _=>rfl⟩
 | v :: r, o, w, c, e, fr, h => by
  have h1:(w.setCell ⟨b,o,none⟩ v).heap[b]?=some (.cells (c.setIfInBounds o v) e fr):=by
   simp[World.setCell,Array.getElem?_modify,h]
  obtain⟨c',h2,h3,h4⟩:=Bap b r (o+1) _ _ e fr h1;refine⟨c',h2,by simpa using h3,fun k hk=>?_⟩;simp only[Wbb]at hk;rw[h4 k (by omega),Array.getElem?_setIfInBounds_ne (by omega)]
section
variable {P:Program} {E:Env} {F:bK} {σ:Nat->Option aQ} {ρ:List D} {a:Act} {w w':World} {G:Gh} {g:Option (aI×Bool)} {o:Oper} {cf:Nat->List D->Option (List D)} {Q:Exit->Act->World->Prop} {next:Act->World->Prop}
theorem Eas {t:TypeId}{i:TI}{info:TypeInfo}{u:TypeDesc}(f:dF P t i info u){b off:Nat}{v:Value}(hl:v.cells.toList.length=i.size)
  (hc:∀ j,j<i.size->∃ u,w.cell? ⟨b,off+j,none⟩=some u) (hf:∀ j,j<i.size->w.frozen? ⟨b,off+j,none⟩=false) (h1:∀ x∈v.cells.toList,x.oneCell'=true) :
  (storeVar t ⟨b,off,none⟩ v).run P w=.ok () (w.setCells b off v.cells.toList):=by
 unfold storeVar;rw[Sem.run_bind,f.sizeOf];simp only[Result.andThen_ok];have:¬ v.cells.size≠i.size:=by simpa using hl
 rw[if_neg this]
 have h2:=run_storeCells_cells (P:=P) b off v.cells.toList 0 w (fun j hj=>by
  obtain⟨u,hu⟩:=hc j (by omega);rw[Wbv,hu];rfl) (fun j hj=>by rw[Wbv];exact hf j (by omega)) h1
 rw[Wbv]at h2;simpa using h2
theorem aB.one {l:aP}{v:Value}(h:aB σ ρ G w l v)(hs:Na1 l=true):v.oneCell'=true:=by
 cases l with
 |dead=>simpa[aB] using h
 |sc x=>simp only[aB]at h;exact h.one
 |su g x=>simp[Na1]at hs
 |ex r=>simp only[aB]at h;exact h.2.2
 |sn deps p nie x=>simp only[aB]at h;exact h.1.1
 |px b off=>simp only[aB]at h;rw[h.1];rfl
 |pe l sz i off=>simp only[aB]at h;obtain⟨_,_,_,_,_,_,_,_,_,e⟩:=h;rw[e];rfl
 |rp deps sz x=>simp only[aB]at h;exact h.1.1
 |pn=>simp only[aB]at h;rw[h];rfl
 |clo f fS=>simp only[aB]at h;obtain⟨_,e,_⟩:=h;rw[e];rfl
theorem aD.ones {ls:List aP}{vs:List Value}(h:aD σ ρ G w ls vs)(hs:ls.all Na1=true):∀ v∈vs,v.oneCell'=true:=by
 intro v hv;obtain⟨i,hi⟩:=Wb8.1 hv
 have bj:i<ls.length:=by
  rw[<- h.len];exact (Vbn.1 hi).1
 have hl:ls[i]?=some ls[i]:=Vbq bj;obtain⟨v',h1,h2⟩:=h.get hl;rw[hi]at h1;obtain rfl:=Wbk h1;rw[Wbg]at hs;exact h2.one (hs _ (Vb3 hl))
theorem wO {v:Value}(h:v.oneCell'=true):v.cells=#[v]:=by cases v<;>first|rfl|(simp[Value.oneCell']at h)
theorem aB.cells {l:aP}{v:Value}(h:aB σ ρ G w l v):v.cells=#[v]:=by
 by_cases hs:Na1 l=true
 ·exact wO (h.one hs)
 ·cases l<;>first|(simp[Na1]at hs;done)|skip
  simp only[aB]at h
  rcases h.1 with h1|⟨rfl,-⟩
  ·exact wO h1.one
  ·rfl
theorem iK {agg:Bool}{sv:SV}{ls:List aP}{v:Value}(h:kE agg sv=some ls)(hv:dC σ ρ G w sv v):aD σ ρ G w ls v.cells.toList:=by
 unfold kE at h;split at h
 ·rename_i l
  cases agg with
  |true=>cases h
  | false =>
   obtain rfl:=Wbk h;rw[aB.cells hv];simp only[aD];exact⟨v,[],rfl,hv,rfl⟩
 ·rename_i ms
  cases agg with
  |false=>cases h
  | true =>
   obtain rfl:=Wbk h;obtain⟨vs,rfl,h1⟩:=hv;simpa[Value.cells] using h1
 ·cases h
def pushB (w:World)(c:Array Value)(e:TypeId):World:={ w with heap:=w.heap.push (.cells c e (0,0)) }
theorem mI {c:Array Value}{e:TypeId}{b:Nat}(h:b≠w.heap.size):(pushB w c e).heap[b]?=w.heap[b]?:=by
 unfold pushB;rw[Ybo,if_neg h]
theorem Hae {c:Array Value}{e:TypeId}:(pushB w c e).heap[w.heap.size]?=some (.cells c e (0,0)):=by
 unfold pushB;rw[Ybo,if_pos rfl]
theorem lM {c:Array Value}{e:TypeId}:(pushB w c e).heap.size=w.heap.size+1:=by
 unfold pushB;simp
theorem pM {c:Array Value}{e:TypeId}(j:Nat):(pushB w c e).cell? ((⟨w.heap.size,0,none⟩:Addr).add j)=c[j]?:=by
 unfold World.cell?;rw[add_block,Hae];simp[Addr.add];split<;>simp_all
theorem Oar {c:Array Value}{e:TypeId}(j:Nat):fzq (pushB w c e) ((⟨w.heap.size,0,none⟩:Addr).add j)=false:=by
 unfold fzq;rw[add_block,Hae];simp
theorem Ra6 (w:World)(a b:Addr)(v:Value):fzq (w.setCell a v) b=fzq w b:=by
 simp only[World.setCell,fzq,Array.getElem?_modify];by_cases hb:a.block=b.block
 ·simp only[hb,if_true]
  cases hh:w.heap[b.block]? with
  |none=>simp
  |some x=>cases x<;>simp
 ·simp[hb]
theorem eZ {b:Nat}{x:Addr}:∀ {vs:List Value} {o:Nat} {w:World},fzq (w.setCells b o vs) x=fzq w x
 |[],o,w=>rfl
 |v::r,o,w=>by rw[World.setCells,eZ (vs:=r),Ra6]
theorem Oas {c:Array Value}{e:TypeId}(j:Nat):(pushB w c e).frozen? ((⟨w.heap.size,0,none⟩:Addr).add j)=false:=by
 unfold World.frozen?;rw[add_block,Hae];simp
theorem nH.push (h:nH F G w)(c:Array Value)(e:TypeId){G':Gh}(ho:∀ b,b≠w.heap.size->G'.own b=G.own b\/((∃ r p,G.own b=.slc r p))):nH F G' (pushB w c e):=by
 refine⟨h.os,h.tape,h.output,by rw[lM];have:=h.size;omega,fun b hb hf=>?_,fun b j hb hj=>?_,fun b hb=>?_⟩
 ·have cU:b≠w.heap.size:=by have:=h.size;omega
  obtain⟨h1,h2⟩:=h.keep b hb hf;refine⟨by rw[mI cU];exact h1,?_⟩
  rcases ho b cU with h3|⟨r,p,h3⟩
  ·rw[h3];exact h2
  ·rw[h3]at h2
   rw[<- h2]at hf
   rcases hf with hf|hf<;>cases hf
 ·have cU:b≠w.heap.size:=by have:=h.size;omega
  obtain⟨h1,c0,c1,e',fr,h2,h3,h4⟩:=h.boxes b j hb hj;refine⟨?_,c0,c1,e',fr,h2,by rw[mI cU];exact h3,h4⟩
  rcases ho b cU with h5|⟨r,p,h5⟩
  ·rw[h5];exact h1
  ·rw[h5]at h1;cases h1
 ·rw[lM]at hb
  have cU:b≠w.heap.size:=by omega
  rcases ho b cU with h5|⟨r,p,h5⟩
  ·rw[h5];exact h.fresh b (by omega)
  ·rw[h.fresh b (by omega)]at h5;cases h5
def zL (G:Gh)(w:World)(nb:Nat):Gh:={ G with own:=fun b=>if b=w.heap.size then .box nb else G.own b,bx:=fun b=>if b=nb then ⟨w.heap.size,0,none⟩ else G.bx b }
structure Dai (σ:Nat->Option aQ) (nb nr:Nat):Prop where
 nb:σ (kB nb)=none
 nr:∀ j,nr<=j->j<nr+cK->σ (kR j)=none
theorem Kae {e:TypeId}{v:Value}:(newVar e v).run P w=.ok ⟨w.heap.size,0,none⟩ (pushB w v.cells e):=by
 simp[newVar,newRow,pushB]
theorem Ebt {u0:List (Nat×aQ)}{nb:Nat}{ls:List aP}(r:Nat)(h:∀ k c,(k,c)∈u0->∃ t,k=kT t):upds σ (u0++[(kB nb,aQ.box false ls)]) (kR r)=σ (kR r):=by
 refine fH _ _ _ fun c hc=>?_
 rcases Vb5.1 hc with hc|hc
 ·obtain⟨t,e⟩:=h _ _ hc
  exact iQ e.symm
 ·simp only[Vbp,Wbd]at hc
  exact fO hc.1.symm
theorem Iae (o:Oper)(g:Option (aI×Bool))(v:SV):∀ k c,(k,c)∈eG o g v->∃ t,k=kT t:=by
 intro k c h;unfold eG at h;split at h
 ·rename_i d _
  simp only[Vbp,Wbd]at h;exact⟨d,h.1⟩
 ·simp at h
theorem yX {o:Oper}{g:Option (aI×Bool)}{v:SV}{k:Nat}{c:aQ}(h:(k,c)∈eG o g v):∃ d,o.dst=some d/\k=kT d/\c=.slot g v:=by
 unfold eG at h;split at h
 ·rename_i d hd
  simp only[Vbp,Wbd]at h;exact⟨d,hd,h.1,h.2⟩
 ·simp at h
theorem Fay {n:Nat}{gh:Nat->Value}{v:Value}{g:Option (aI×Bool)}{sv:SV}{u1:List (Nat×aQ)}{t:Nat}(h:∀ c,(kT t,c)∉eG o g sv++u1):Aa6 n (a.put o.dst v) gh t=Aa6 n a gh t:=by
 cases e:o.dst with
 |none=>rfl
 | some d =>
  refine Gam _ _ _ _ _ _ fun e'=>h (.slot g sv) ?_
  refine Vbo _ ?_;unfold eG;rw[e,e'];exact Vbp.2 rfl
theorem R.newBox (h:R E.ntmps F σ ρ a w G)(hd:fQ E.ntmps o){nb:Nat}(hf:σ (kB nb)=none){cs:Array Value}{ty:TypeId}{ls:List aP}(hl:aD σ ρ G w ls cs.toList) :
  R E.ntmps F (upds σ (eG o none (.one (.px nb 0))++[(kB nb,.box false ls)])) ρ (a.put o.dst (.pointer (some ⟨w.heap.size,0,none⟩))) (pushB w cs ty) (zL G w nb):=by
 have cU:∀ b,G.own b≠.frz->b≠w.heap.size:=fun b hb e=>hb (h.frame.fresh b (by omega))
 have lz:=Iae o none (.one (.px nb 0));have hR:∀ r,upds σ (eG o none (.one (.px nb 0))++[(kB nb,aQ.box false ls)]) (kR r)=σ (kR r):=fun r=>Ebt r lz
 have eC:Fr σ G w (upds σ (eG o none (.one (.px nb 0))++[(kB nb,.box false ls)])) (zL G w nb) (pushB w cs ty):=by
  refine⟨fun b hb bj=>?_,fun r k _ hv=>?_,fun r k hk=>hk.same hR,fun r k b p _ _ hb=>?_,fun r k m _ hv=>⟨?_,fun b p hb=>?_⟩,fun _ _=>rfl,fun b hb=>?_,fun k hk=>eP _ _ _ (.inl hk),fun r x m k _ b p hb=>?_⟩
  ·have hn:b≠w.heap.size:=by omega
   exact⟨by simp only[zL,if_neg hn];exact hb,mI hn⟩
  ·obtain⟨x,m,st,e,hs⟩:=hv
   exact⟨x,m,st,by rw[<- hR];exact e,hs⟩
  ·have hn:=cU b (by rw[hb];simp)
   exact⟨.inl (by simp only[zL,if_neg hn];exact hb),mI hn⟩
  ·obtain⟨x,e⟩:=hv
   exact⟨x,by rw[<- hR];exact e⟩
  ·have hn:=cU b (by rw[hb];simp)
   simp only[zL,if_neg hn];exact hb
  ·have:b≠nb:=fun e=>by rw[e,hf]at hb;cases hb
   simp only[zL,if_neg this]
  ·by_cases hn:b=w.heap.size
   ·simp only[zL,if_pos hn]at hb;cases hb
   ·simp only[zL,if_neg hn]at hb;exact hb
 refine h.upd _ eC (by rw[Ba1];exact h.tmps) (by rw[put_defers];exact h.defers) (h.frame.push cs ty fun b hb=>.inl (by simp only[zL,if_neg hb])) (fun t ht=>Fay ht) (fun b ro bs hb _=>?_) (fun b bs hb bj ho=>?_) (fun k c hk jx=>?_)
 ·obtain⟨_,h2,_⟩:=h.box hb
  have hn:=cU (G.bx b).block (by rw[h2];split<;>simp);exact⟨by simp only[zL,if_neg hn],mI hn⟩
 ·rcases Vb5.1 hb with hb|hb
  ·obtain⟨t,e⟩:=lz _ _ hb
   exact absurd e.symm mK
  ·simp only[Vbp,Wbd]at hb
   obtain rfl:=Caj hb.1;simp only[zL,if_true]at bj;have:=h.frame.size;omega
 ·rcases Vb5.1 hk with hk|hk
  ·obtain⟨d,nf,rfl,rfl⟩:=yX hk
   refine⟨d,rfl,fun _=>?_⟩;rw[nf,pQ _ _ _ _ _ (hd d nf) h.tmps];simp only[dC,aB,zL,if_true];exact⟨by simp[Addr.add],eP _ _ _ (.inr ⟨_,Vbr _ (Vbp.2 rfl)⟩)⟩
  ·simp only[Vbp,Wbd]at hk
   obtain⟨rfl,rfl⟩:=hk;refine⟨nb,rfl,by simp[zL],by simp[zL],fun j l hj=>?_⟩;obtain⟨v,h1,h2⟩:=hl.get hj;refine⟨v,?_,?_,aB.mono eC l v h2⟩
   ·simp only[zL,if_true]
    rw[pM];simpa using h1
   ·simp only[zL,if_true]
    exact Oas j
theorem Xao (hR:R E.ntmps F σ ρ a w G)(hd:fQ E.ntmps o)(hti:vV P E.ti){nv nb nr:Nat}{mv dw:Bool}(hf:Dai σ nb nr){e:TypeId}{x:Operand}(ho:o.op=.box e x){res:bS}
  (h:(qP E mv dw nv nb nr g o).eval σ=some res) (hs:aJ cf ρ g nv res.lets):gW P E F σ ρ a w g o Q res.upd:=by
 simp only[qP,ho,aA,Vbj,tiR,aV]at h;obtain⟨ti,h1,sv,h2,h⟩:=h;split at h
 ·rename_i ls pP
  simp only[aA,Vbj,aH]at h;obtain⟨_,h3,h⟩:=h;split at h3
  ·rename_i hb
   simp only[Vbk]at hb;obtain rfl:=vM hb.1.2;simp only[uK,aC,Vbl]at h;subst h;refine⟨fun hg=>?_,fun hg=>by simp[gOn]at hg⟩;have h4:=iK pP (gK hR hg h2);refine oM (v:=.pointer (some ⟨w.heap.size,0,none⟩)) (w':=pushB w (a.eval x).cells e) ?_ ⟨_,hR.newBox hd hf.nb h4⟩;unfold execOp;simp only[ho];refine gG ?_;simp only[Instr.box,Sem.run_bind,Kae,Result.andThen_ok,Sem.run_pure]
  ·cases h3
 ·cases h
theorem Laf {v:Value}{c:CK}(h:zeroCell v c=true):aB σ ρ G w (gB c) v:=by
 unfold zeroCell at h;split at h
 ·simp only[Vbk,decide_eq_true_eq]at h
  obtain⟨⟨rfl,rfl⟩,rfl⟩:=h;simp only[gB,aB,aI.val];exact .int _ _
 ·simp only[Vbk,decide_eq_true_eq]at h
  obtain⟨rfl,rfl⟩:=h;simp only[gB,aB,aI.val];exact .bool _
 ·rename_i s l
  simp only[Vbk,decide_eq_true_eq]at h;obtain⟨h1,rfl⟩:=h;simp only[gB,aB,aI.val];have:=Sc.str s.data.toList;rw[h1]at this
  have e:s=⟨[].toArray⟩:=by
   apply ByteArray.ext;apply Zbc;simpa using h1
  rw[e];exact this
 ·simp only[gB,aB]
  refine⟨⟨rfl,by simp⟩,fun _=>⟨?_,fun _ z _=>trivial,trivial⟩⟩;exact .rows none ⟨0,0,none⟩ 0 0 _ [] (fun _ _=>undef) rfl (Vb6 _) (.inl rfl) (by simp) (by simp) (by simp)
 ·simp only[gB,aB]
 ·cases h
theorem Eak {v:Value}{c:CK}(h:zeroCell v c=true):v.oneCell'=true:=by
 unfold zeroCell at h;split at h<;>first|rfl|cases h
theorem dF.zeros {t:TypeId}{i:TI}{info:TypeInfo}{u:TypeDesc}(f:dF P t i info u):∃ z,info.zero=some z/\aD σ ρ G w (i.cells.map gB) z.cells.toList /\
  (∀ x∈z.cells.toList,x.oneCell'=true)/\(∀ (j:Nat) (x:Value) (c:CK),z.cells[j]?=some x->i.cells[j]?=some c->zeroCell x c=true):=by
 have h:=f.zero;unfold Saz at h;split at h
 ·rename_i vs cs heq
  simp only[Vbk,beq_iff_eq,Wbg]at h;obtain⟨h1,h2⟩:=h
  have hz:∀ (j:Nat) (x:Value) (c:CK),vs[j]?=some x->i.cells[j]?=some c->zeroCell x c=true:=by
   intro j x c hx hc
   exact h2 (x,c) (Vb3 (i:=j) (by
    rw[List.getElem?_zip_eq_some];exact⟨by simpa using hx,hc⟩))
  refine⟨_,heq,.of_get (by simpa[Value.cells] using h1) fun j l v hj hv=>?_,fun x hx=>?_,hz⟩
  ·simp only[Wbs,Vb4]at hj
   obtain⟨c,hc,rfl⟩:=hj;exact Laf (hz j v c (by simpa[Value.cells] using hv) hc)
  ·obtain⟨j,hj⟩:=Wb8.1 hx
   have bj:j<i.cells.length:=by
    rw[<- h1];simpa[Value.cells] using (Vbn.1 hj).1
   exact Eak (hz j x _ (by simpa[Value.cells] using hj) (Vbq bj))
 ·rename_i v c _ hz lh
  have h1:=Eak h;refine⟨v,hz,?_,fun x hx=>?_,fun j x c' hx hc=>?_⟩
  ·rw[lh,wO h1]
   simp only[Wbe,Wbu,aD];exact⟨v,[],rfl,Laf h,rfl⟩
  ·rw[wO h1]at hx
   simp only[Vbp]at hx;rw[hx];exact h1
  ·rw[wO h1]at hx
   rw[lh]at hc
   cases j with
   | zero =>
    simp only[Vbv,Vbl]at hc;simp at hx;rw[<- hx,<- hc];exact h
   |succ j=>simp at hc
 ·cases h
theorem mG {t:TypeId}{info:TypeInfo}{z:Value}(h:P.info? t=some info)(hz:info.zero=some z):(zeroValue t).run P w=.ok z w:=by
 simp[zeroValue,typeInfo,h,hz]
theorem Raf (hR:R E.ntmps F σ ρ a w G)(hd:fQ E.ntmps o)(hti:vV P E.ti){nv nb nr:Nat}{mv dw:Bool}(hf:Dai σ nb nr){e:TypeId}(ho:o.op=.alloc e){res:bS}
  (h:(qP E mv dw nv nb nr g o).eval σ=some res) (hs:aJ cf ρ g nv res.lets):gW P E F σ ρ a w g o Q res.upd:=by
 simp only[qP,ho,aA,Vbj,tiR,aV,aH]at h;obtain⟨ti,h1,_,h2,h⟩:=h;split at h2
 ·rename_i hb
  obtain rfl:=vM hb;simp only[uK,aC,Vbl]at h;subst h;refine⟨fun hg=>?_,fun hg=>by simp[gOn]at hg⟩;obtain⟨info,u,f⟩:=aW (hti.ok _ _ h1);obtain⟨z,h3,h4,h5,-⟩:=f.zeros (σ:=σ) (ρ:=ρ) (G:=G) (w:=w);refine oM (v:=.pointer (some ⟨w.heap.size,0,none⟩)) (w':=pushB w z.cells e) ?_ ⟨_,hR.newBox hd hf.nb h4⟩;unfold execOp;simp only[ho];refine gG ?_;simp only[Instr.alloc,Sem.run_bind,mG f.info_ h3,Kae,Result.andThen_ok,Sem.run_pure]
 ·cases h2
theorem lL {α:Type}{l:List α}{k:Nat}{r:List α}(h:k+r.length<=l.length):(setRange l k r).length=l.length:=by
 simp[setRange];omega
theorem iJ {α:Type}{l:List α}{k:Nat}{r:List α}(h:k+r.length<=l.length)(j:Nat):(setRange l k r)[j]?=if k<=j/\j<k+r.length then r[j-k]? else l[j]?:=by
 unfold setRange;by_cases h1:j<k
 ·rw[Vbx,Vb2 (by simp;omega),Wbw,if_pos h1,if_neg (by omega)]
 ·by_cases h2:j<k+r.length
  ·rw[if_pos ⟨by omega,h2⟩,Vbx,Vbz (by simp;omega),Vb2 (by simp;omega)]
   congr 1
   simp;omega
  ·rw[if_neg (by omega),Vbz (by simp;omega),Wbt]
   congr 1
   simp;omega
theorem Oab {α:Type}{l:List α}{k:Nat}{v:α}{r:List α}(h:k+(v::r).length<=l.length):setRange (l.set k v) (k+1) r=setRange l k (v::r):=by
 simp only[Wbb]at h;apply Yb0;intro j;rw[iJ (by simp;omega),iJ (by simp;omega)];by_cases h1:k+1<=j/\j<k+1+r.length
 ·rw[if_pos h1,if_pos (by simp;omega),show j-k=(j-(k+1))+1 by omega,Wbz]
 ·rw[if_neg h1,Xbu]
  by_cases h2:k=j
  ·subst h2
   rw[if_pos rfl,if_pos (by omega),if_pos (by simp)];simp
  ·rw[if_neg h2,if_neg (by simp;omega)]
theorem Uab (off:Nat):∀ (vs:List Value) (k:Nat) (cells:Array Value),off+k+vs.length<=cells.size ->
  ((vs.zipIdx k).foldl (fun cs x=>cs.setIfInBounds (off+x.2) x.1) cells).toList=setRange cells.toList (off+k) vs
 |[],k,cells,h=>by simp[setRange]
 | v :: r, k, cells, h => by
  simp only[Wbb]at h;simp only[List.zipIdx_cons,Xb4];rw[Uab off r (k+1) _ (by simp;omega),Array.toList_setIfInBounds,<- Vb8,Oab (by simp;omega)]
theorem aD.setRange {ls ms:List aP}{us xs:List Value}(h:aD σ ρ G w ls us)(h':aD σ ρ G w ms xs){k:Nat}(hk:k+ms.length<=ls.length):aD σ ρ G w (setRange ls k ms) (setRange us k xs):=by
 have e1:=h.len;have e2:=h'.len;refine .of_get (by rw[lL (by omega),lL hk,e1]) fun i l v hi hv=>?_
 rw[iJ hk]at hi;rw[iJ (by omega)]at hv;rw[e2]at hv;split at hi
 ·rename_i hh
  rw[if_pos hh]at hv;obtain⟨v',h1,h2⟩:=h'.get hi;rw[h1]at hv;exact Wbk hv▸h2
 ·rename_i hh
  rw[if_neg hh]at hv;obtain⟨v',h1,h2⟩:=h.get hi;rw[h1]at hv;exact Wbk hv▸h2
theorem Pas {place:Nat->Option (Nat×Nat)}{cells:Array Value}{i off size:Nat}{v:Value}{rest:List (Nat×Value)}(hp:place i=some (off,size))(hs:v.cells.toList.length=size)(hb:off+size<=cells.size) :
  ∃ cells':Array Value,Instr.fill place cells ((i,v)::rest)=Instr.fill place cells' rest/\cells'.toList=setRange cells.toList off v.cells.toList:=by
 refine⟨v.cells.zipIdx.foldl (fun cs (x:Value×Nat)=>cs.setIfInBounds (off+x.2) x.1) cells,?_,?_⟩
 ·rw[Instr.fill,hp]
  dsimp only;have:v.cells.size=size:=by simpa using hs
  rw[if_neg];simp only[this];simp;omega
 ·have:=Uab off v.cells.toList 0 cells (by simpa[hs] using hb)
  rw[Wbv]at this;rw[<- this,<- Array.foldl_toList,Array.toList_zipIdx]
def Gaf (σ:Nat->Option aQ)(ρ:List D)(G:Gh)(w:World)(a:Act):List (Nat×Operand)->List (Nat×SV)->Prop
 |[],ps=>ps=[]
 |x::xs,ps=>∃ sv qs,ps=(x.1,sv)::qs/\dC σ ρ G w sv (a.eval x.2)/\Gaf σ ρ G w a xs qs
theorem Aaj (hR:R E.ntmps F σ ρ a w G)(hg:gOn ρ g=true){ty:Nat->TypeId}:∀ {xs:List (Nat×Operand)} {ps:List (Nat×SV)},(Dav E g ty xs).eval σ=some ps ->
  Gaf σ ρ G w a xs ps
 | [], ps, h => by
  simp only[Dav,aC,Vbl]at h;subst h;exact rfl
 | (i, x) :: xs, ps, h => by
  simp only[Dav,aA,Vbj,aC,Vbl]at h;obtain⟨sv,h1,l,h2,rfl⟩:=h;exact⟨sv,l,rfl,gK hR hg h1,Aaj hR hg h2⟩
theorem Aad {flds:List (Nat×Nat)}{place:Nat->Option (Nat×Nat)}(kd:∀ i off t f,flds[i]?=some (off,t)->E.ti t=some f->place i=some (off,f.size)) :
  ∀ {xs:List (Nat×Operand)} {ps:List (Nat×SV)},Gaf σ ρ G w a xs ps->∀ {ls kO:List aP} {us:Array Value},aD σ ρ G w ls us.toList->tF flds E.ti ls ps=some kO ->
  ∃ dj,Instr.fill place us (xs.map fun x=>(x.1,a.eval x.2))=some dj/\aD σ ρ G w kO dj.toList
 | [], _, rfl, ls, kO, us, hl, h => by
  simp only[tF,Vbl]at h;subst h;exact⟨us,rfl,hl⟩
 | (i, x) :: xs, _, ⟨sv, ps, rfl, h1, hr⟩, ls, kO, us, hl, h => by
  unfold tF at h;split at h
  ·rename_i off t gA
   split at h
   ·rename_i f hf
    split at h
    ·rename_i vs ic
     cases hb:(Nat.beq vs.length f.size&&Nat.ble (off+f.size) ls.length) with
     |false=>rw[hb]at h;cases h
     | true =>
      rw[hb,cond_true]at h;simp only[Vbk,Wbl,Wb6]at hb;have h2:=iK ic h1;have hlen:=hl.len;obtain⟨us1,h3,h4⟩:=Pas (rest:=xs.map fun x=>(x.1,a.eval x.2)) (kd _ _ _ _ gA hf) (by rw[h2.len];exact hb.1) (by rw[<- Xb9,hlen];exact hb.2);obtain⟨dj,h5,h6⟩:=Aad kd hr (us:=us1) (by rw[h4];exact hl.setRange h2 (by rw[hb.1];exact hb.2)) h;exact⟨dj,by rw[Wbe,h3];exact h5,h6⟩
    ·cases h
   ·cases h
  ·cases h
theorem Bas {α β:Type}(f:α->Sem β)(g:α->β):∀ (l:List α),(∀ x∈l,(f x).run P w=.ok (g x) w)->(l.mapM f).run P w=.ok (l.map g) w
 |[],_=>by simp
 | x :: l, h => by
  rw[List.mapM_cons,Sem.run_bind,h x (by simp)];simp only[Result.andThen_ok];rw[Sem.run_bind,Bas f g l fun y hy=>h y (by simp[hy])];simp
theorem zU {α β:Type}(f:α->Sem β)(g:α->β)(l:Array α)(h:∀ x∈l.toList,(f x).run P w=.ok (g x) w):(l.mapM f).run P w=.ok (l.map g) w:=by
 rw[Array.mapM_eq_mapM_toList,map_eq_pure_bind,Sem.run_bind,Bas f g _ h];simp only[Result.andThen_ok,Sem.run_pure];congr 1;apply Zbc;simp
theorem xH {α β:Type}(f:List β->α->Option (List β)):∀ (l:List α),l.foldl (fun acc x=>acc.bind fun r=>f r x) none=none
 |[]=>rfl
 |x::l=>by rw[Xb4];exact xH f l
theorem Aab {α β:Type}(f:List β->α->Option (List β)):∀ (l:List α) (r0 r:List β),l.foldl (fun acc x=>acc.bind fun r=>f r x) (some r0)=some r->∀ x∈l,∃ r1 r2,f r1 x=some r2
 |[],_,_,_,x,hx=>by simp at hx
 | y :: l, r0, r, h, x, hx => by
  rw[Xb4,Vbs]at h
  cases hf:f r0 y with
  |none=>rw[hf,xH]at h;cases h
  | some r1 =>
   rcases Vbu.1 hx with rfl|hx
   ·exact⟨r0,r1,hf⟩
   ·rw[hf]at h
    exact Aab f l r1 r h x hx
theorem Zal {d:Nat}{t:TypeId}{l:List TypeId}(h:flat P d t=some l):∃ i,P.info? t=some i:=by
 cases d with
 |zero=>cases h
 | succ d =>
  unfold flat at h;unfold Program.underlying at h
  cases hi:P.info? t with
  |none=>rw[hi]at h;cases h
  |some i=>exact⟨i,rfl⟩
theorem Wab {d:Nat}{t:TypeId}{l:List TypeId}{fs:Array Field}(h:flat P (d+1) t=some l)(hu:P.underlying t=some (.struct fs)):∀ f∈fs.toList,∃ i,P.info? f.type=some i:=by
 unfold flat at h;rw[hu]at h;dsimp only at h;intro f hf;obtain⟨r1,r2,h1⟩:=Aab _ _ _ _ h f hf
 cases hm:flat P d f.type with
 |none=>rw[hm]at h1;cases h1
 |some m=>exact Zal hm
theorem dF.struct {t:TypeId}{i:TI}{info:TypeInfo}{u:TypeDesc}(f:dF P t i info u)(h:i.agg=true):∃ fs,u=.struct fs/\∀ fd∈fs.toList,∃ i,P.info? fd.type=some i:=by
 rw[f.agg]at h;have hc:=f.cells
 cases gA:flat P 12 t with
 |none=>rw[gA]at hc;cases hc
 | some l =>
  unfold Jar at h;split at h
  ·rename_i fs
   exact⟨fs,rfl,Wab gA f.und⟩
  ·unfold flat at gA
   rw[f.und]at gA;cases gA
  ·cases h
theorem Rae (hR:R E.ntmps F σ ρ a w G)(hd:fQ E.ntmps o)(hti:vV P E.ti){nv nb nr:Nat}{mv dw:Bool}{t:TypeId}{parts:Array (Nat×Operand)}(ho:o.op=.build t parts){res:bS}
  (h:(qP E mv dw nv nb nr g o).eval σ=some res) (hs:aJ cf ρ g nv res.lets):gW P E F σ ρ a w g o Q res.upd:=by
 simp only[qP,ho,aA,Vbj,tiR,aV,aH]at h;obtain⟨ti,h1,_,h2,ps,h3,h⟩:=h;split at h2
 ·rename_i mL
  obtain⟨info,u,f⟩:=aW (hti.ok _ _ h1);obtain⟨fs,rfl,hfs⟩:=f.struct mL;split at h
  ·rename_i ls pP
   refine dX hR hd h hs fun hg _=>?_
   obtain⟨z,h4,h5,-,-⟩:=f.zeros (σ:=σ) (ρ:=ρ) (G:=G) (w:=w)
   have kd:∀ (i off t':Nat) (f':TI),ti.flds[i]?=some (off,t')->E.ti t'=some f'->(fs.map fun fd=>(fd.offset,((P.info? fd.type).map (·.size)).getD 0))[i]?=some (off,f'.size):=by
    intro i off t' f' gA hf';obtain⟨fs',fd,e1,e2,e3,e4⟩:=Mau f gA;obtain rfl:fs=fs':=by injection e1
    obtain⟨jt,u',ff⟩:=aW (hti.ok _ _ hf');rw[Array.getElem?_map,e2,Wb5,e3,e4,ff.info_];simp[ff.size]
   obtain⟨dj,h6,h7⟩:=Aad kd (Aaj hR hg h3) (us:=z.cells) h5 pP;refine⟨.agg dj,⟨dj.toList,by simp,h7⟩,?_⟩;unfold execOp;simp only[ho];refine gG ?_
   have hm:=zU (P:=P) (w:=w) (fun fd:Field=>(do pure (fd.offset,<- sizeOf fd.type):Sem (Nat×Nat))) (fun fd=>(fd.offset,((P.info? fd.type).map (·.size)).getD 0)) fs (fun fd hfd=>by
    obtain⟨i,hi⟩:=hfs fd hfd;simp only[Sem.run_bind,run_sizeOf hi,Result.andThen_ok,Sem.run_pure,hi,Wb5,Option.getD_some])
   unfold Instr.build;simp only[Sem.run_bind,mG f.info_ h4,Result.andThen_ok,run_underlying f.und];rw[hm];have e:(parts.map fun x=>(x.1,a.eval x.2)).toList=parts.toList.map fun x=>(x.1,a.eval x.2):=by simp
   simp only[Result.andThen_ok];rw[e,h6];rfl
  ·cases h
 ·cases h2
end
section
variable {P:Program} {E:Env} {F:bK} {σ:Nat->Option aQ} {ρ:List D} {a:Act} {w w':World} {G:Gh} {g:Option (aI×Bool)} {o:Oper} {cf:Nat->List D->Option (List D)} {Q:Exit->Act->World->Prop} {next:Act->World->Prop}
theorem add_plain {b:Addr}(h:b.spot=none)(k:Nat):b.add k=⟨b.block,b.off+k,none⟩:=by
 cases b;simp only at h;subst h;unfold Addr.add;split<;>simp_all
theorem nH.write (h:nH F G w){B off:Nat}{vs:List Value}{ow:Ow}(ho:G.own B=ow)(hz:ow≠.frz/\ow≠.oth)
  (hb:∀ b,ow=.box b->B<F.w0.heap.size->F.own0 B=.box b->(F.rng b).1<=off/\off+vs.length<=(F.rng b).2):nH F G (w.setCells B off vs):=by
 obtain⟨e1,e2,e3⟩:=dI B vs off w;refine⟨by rw[e1];exact h.os,by rw[e2];exact h.tape,by rw[e3];exact h.output,by rw[setCells_size];exact h.size,fun b bj hf=>?_,fun b j bj hj=>?_,fun b bj=>?_⟩
 ·obtain⟨h1,h2⟩:=h.keep b bj hf
  have cU:b≠B:=by
   rintro rfl
   rw[ho]at h2;rw[<- h2]at hf
   rcases hf with hf|hf
   ·exact hz.1 hf
   ·exact hz.2 hf
  exact⟨by rw[bI B vs off w b cU];exact h1,h2⟩
 ·obtain⟨h1,c0,c1,e,fr,h2,h3,h4,h5⟩:=h.boxes b j bj hj
  refine⟨h1,c0,?_⟩;by_cases cU:b=B
  ·subst cU
   obtain⟨c',h6,h7,h8⟩:=Bap b vs off w c1 e fr h3;refine⟨c',e,fr,h2,h6,by rw[h7];exact h4,fun k hk=>?_⟩;have ja:ow=.box j:=by rw[<- ho];exact h1
   obtain⟨h9,da⟩:=hb j ja bj hj;rw[h8 k (by omega)];exact h5 k hk
  ·exact⟨c1,e,fr,h2,by rw[bI B vs off w b cU];exact h3,h4,h5⟩
 ·rw[setCells_size]at bj
  exact h.fresh b bj
theorem Jad (hR:R E.ntmps F σ ρ a w G)(hti:vV P E.ti){nv:Nat}{mv dw:Bool}{t:TypeId}{x y:Operand}(ho:o.op=.store t x y){ti:TI}(hi:E.ti t=some ti){b off:Nat}{ls:List aP}{sv:SV}
  (hx:gOn ρ g=true->aB σ ρ G w (.px b off) (a.eval x)) (hy:gOn ρ g=true->dC σ ρ G w sv (a.eval y)) (pP:kE ti.agg sv=some ls) {res:bS}
  (h:(Dan nv mv dw o g ti (.px b off) ls).eval σ=some res):gW P E F σ ρ a w g o Q res.upd:=by
 simp only[Dan,aA,aH,Vbj,aR,Vbs]at h;obtain⟨_,h1,h⟩:=h;split at h1
 ·rename_i lR
  simp only[Vbk,Wbl,Ybb]at lR;obtain⟨hlen,q0⟩:=lR;split at h
  ·rename_i bs hk
   simp only[aA,aH,Vbj]at h;obtain⟨_,h2,h⟩:=h;split at h2
   ·rename_i gp
    simp only[Vbk,Wb6]at gp;obtain⟨⟨hle,yd⟩,cA⟩:=gp;obtain rfl:=vM yd;simp only[aC,Vbl]at h;subst h;refine⟨fun hg=>?_,fun hg=>by simp[gOn]at hg⟩;obtain⟨info,u,f⟩:=aW (hti.ok _ _ hi);have hl:=iK pP (hy hg);have kg:=hl.ones cA;have ji:=hl.len;have hpx:=hx hg;simp only[aB]at hpx;obtain⟨h3,h4,h5⟩:=hR.box hk;have h4:G.own (G.bx b).block=.box b:=by simpa using h4
    generalize ic:(a.eval y).cells.toList=vs at hl kg ji
    have cE:∀ j,off<=j->j<off+ls.length->∃ v,w.cell? ⟨(G.bx b).block,(G.bx b).off+j,none⟩=some v/\w.frozen? ⟨(G.bx b).block,(G.bx b).off+j,none⟩=false:=by
     intro j uj kn;have hbj:bs[j]?=some bs[j]:=Vbq (by omega);obtain⟨v,h6,h7,-⟩:=h5 j _ hbj;rw[add_plain h3]at h6 h7;exact⟨v,h6,h7⟩
    have cC:(execOp a.eval o).run P w=.ok .skip (w.setCells (G.bx b).block ((G.bx b).off+off) vs):=by
     unfold execOp;simp only[ho]
     have:=Eas (P:=P) (w:=w) f (b:=(G.bx b).block) (off:=(G.bx b).off+off) (v:=a.eval y) (by rw[ic];omega)
      (fun j hj=>by
       obtain⟨v,h6,-⟩:=cE (off+j) (by omega) (by omega);exact⟨v,by rw[Vb8];exact h6⟩)
      (fun j hj=>by
       obtain⟨v,-,h6⟩:=cE (off+j) (by omega) (by omega);rw[Vb8];exact h6) (by rw[ic];exact kg)
     simp only[Instr.storeAt,Instr.sureAddr,Sem.run_bind,hpx.1,Sem.run_pure,Result.andThen_ok,add_plain h3,this,ic]
    refine Sa0 cC ⟨G,?_⟩;have cU:∀ b',G.own b'≠.box b->b'≠(G.bx b).block:=fun b' hb e=>hb (by rw[e];exact h4)
    have hkR:∀ r,upds σ [(kB b,aQ.box false (setRange bs off ls))] (kR r)=σ (kR r):=fun r=>by
     refine fH _ _ _ fun c hc=>?_
     simp only[Vbp,Wbd]at hc;exact fO hc.1.symm
    have eC:Fr σ G w (upds σ [(kB b,aQ.box false (setRange bs off ls))]) G (w.setCells (G.bx b).block ((G.bx b).off+off) vs):=by
     refine⟨fun b' hb bj=>⟨hb,bI _ _ _ _ _ (cU b' (by rw[hb];simp))⟩,fun r k _ hv=>?_,fun r k hk=>hk.same hkR,fun r k b' p _ _ hb=>⟨.inl hb,bI _ _ _ _ _ (cU b' (by rw[hb];simp))⟩,
      fun r k m _ hv=>⟨?_,fun b' p hb=>hb⟩,fun _ _=>rfl,fun _ _=>rfl,fun k hk=>eP _ _ _ (.inl hk),fun _ _ _ _ _ _ _ hb=>hb⟩
     ·obtain⟨x',m,st,e,hs⟩:=hv
      exact⟨x',m,st,by rw[<- hkR];exact e,hs⟩
     ·obtain⟨x',e⟩:=hv
      exact⟨x',by rw[<- hkR];exact e⟩
    have gC:(setRange bs off ls).length=bs.length:=lL hle;rw[q0];refine hR.upd _ eC hR.tmps hR.defers (hR.frame.write h4 (by simp) fun b' e bj rq=>?_) (fun t _=>rfl) (fun b' ro kO fg il=>?_) (fun b' kO fg bj rq=>?_) (fun k c hk1 hk2=>?_)
    ·obtain rfl:b=b':=by injection e
     have:=hR.rng b bs hk bj rq;rw[this];dsimp only;omega
    ·refine⟨rfl,bI _ _ _ _ _ (cU _ ?_)⟩
     obtain⟨_,h6,_⟩:=hR.box fg;rw[h6];split
     ·simp
     ·intro e
      obtain rfl:b'=b:=by injection e
      exact il _ (Vbp.2 rfl)
    ·simp only[Vbp,Wbd,aQ.box.injEq,true_and]at fg
     obtain⟨e,rfl⟩:=fg;obtain rfl:=Caj e;rw[gC];exact hR.rng b' bs hk bj rq
    ·simp only[Vbp,Wbd]at hk1
     obtain⟨rfl,rfl⟩:=hk1;refine⟨b,rfl,h3,by simpa using h4,fun j l hj=>?_⟩;rw[iJ hle]at hj;rw[World.frozen?_setCells,add_plain h3];split at hj
     ·rename_i gm
      obtain⟨v,h6,h7⟩:=hl.get hj;obtain⟨u',h8,h9⟩:=cE j gm.1 gm.2;refine⟨v,?_,h9,aB.mono eC l v h7⟩
      have:=World.cell?_setCells_in (G.bx b).block vs ((G.bx b).off+off) w (fun j' ja=>by
       obtain⟨v',da,-⟩:=cE (off+j') (by omega) (by omega);rw[Vb8,da];rfl) (j-off) (by omega)
      rw[show (G.bx b).off+off+(j-off)=(G.bx b).off+j by omega]at this;rw[this,<- h6,Vbq]
     ·rename_i a1f
      obtain⟨v,h6,h7,h8⟩:=h5 j l hj;rw[add_plain h3]at h6 h7;refine⟨v,?_,h7,aB.mono eC l v h8⟩;rw[World.cell?_setCells_out _ _ _ _ _ (fun _ _=>by dsimp only;omega)];exact h6
   ·cases h2
  ·cases h
 ·cases h1
end
theorem Rp.move {own own':Nat->Ow}{w w':World}{r r':Nat}{p:List Nat}{m:Nat}{v:Value}{d:D}(h:Rp own w r p m v d)
  (hz:∀ b,own b=.frz->b<w.heap.size->own' b=.frz/\w'.heap[b]?=w.heap[b]?):∀ (p':List Nat) (m':Nat),m'<=m ->
  (∀ b t,own b=.slc r (p++t)->own' b=(if t.length<m' then .slc r' (p'++t) else .frz)/\w'.heap[b]?=w.heap[b]?)->Rp own' w' r' p' m' v d:=by
 induction h with
 |sc h=>exact fun _ _ _ _=>.sc h
 |hole v h1=>exact fun _ _ _ _=>.hole v h1
 | fz h =>
  intro p' m' hm hs;obtain rfl:m'=0:=by omega
  exact .fz (h.mono' fun b hb bj=>hz b hb bj)
 | sl A a n c sz rs vs hn hc hA dh cu cE cR ih =>
  rename_i p m;intro p' m' hm hs
  have bj:∀ i row,rs[i]?=some row->i<rs.length:=fun i row hi=>by
   rcases Wbc i rs.length with h|h
   ·exact h
   ·simp[List.getElem?_eq_none h]at hi
  have xj:∀ i row,rs[i]?=some row->A=some a:=fun i row hi=>by
   rcases hA with e|⟨e,e'⟩
   ·exact e
   ·have:=bj i row hi;omega
  cases m' with
  | zero =>
   refine .fz (.rows A a n c sz rs vs hn hc ?_ dh (fun i row hi j d hj=>?_) (fun i row hi j d hj=>?_))
   ·rcases hA with e|⟨e,e'⟩
    ·exact .inr e
    ·exact .inl (by omega)
   ·obtain⟨h1,h2⟩:=hs a.block [] (by simpa using (cu (xj i row hi)).2.1)
    refine⟨by simpa using h1,?_⟩;exact (gQ (w:=w) (w':=w') (by rw[add_block];exact h2)).trans (cE i row hi j d hj)
   ·exact (ih i row hi j d hj [] 0 (Nat.zero_le _) (fun b t hb=>by
     have:=hs b ([i*sz+j]++t) (by rw[<- Vbx];exact hb);simpa using this)).zero
  | succ m' =>
   refine .sl A a n c sz rs vs hn hc hA dh (fun e=>?_) (fun i row hi j d hj=>?_) (fun i row hi j d hj=>?_)
   ·obtain⟨h1,h2,h3⟩:=cu e
    obtain⟨h4,h5⟩:=hs a.block [] (by simpa using h2);refine⟨h1,by simpa using h4,fun k hk=>?_⟩;obtain⟨u,hu,hf⟩:=h3 k hk;exact⟨u,(gQ (w:=w) (w':=w') (by rw[add_block];exact h5)).trans hu,(Cam (w:=w) (w':=w') (by rw[add_block];exact h5)).trans hf⟩
   ·obtain⟨h1,h2⟩:=hs a.block [] (by simpa using (cu (xj i row hi)).2.1)
    exact (gQ (w:=w) (w':=w') (by rw[add_block];exact h2)).trans (cE i row hi j d hj)
   ·refine ih i row hi j d hj (p'++[i*sz+j]) m' (by omega) (fun b t hb=>?_)
    have:=hs b ([i*sz+j]++t) (by rw[<- Vbx];exact hb);simp only[Vbw,Xbd]at this;rw[<- Vbx]at this;refine⟨?_,this.2⟩;rw[this.1];by_cases ht:t.length<m'
    ·rw[if_pos ht,if_pos (by omega)]
    ·rw[if_neg ht,if_neg (by omega)]
inductive Upd:List Nat->D->D->D->Prop
 |here (x y:D):Upd [] x y y
 | down (sz : Nat) (rs : List (List D)) (i j : Nat) (row : List D) (z z' y : D) (p : List Nat) (hi : rs[i]? = some row) (hj : row[j]? = some z)
   (h:Upd p z y z'):Upd ((i*sz+j)::p) (.rows sz rs) y (.rows sz (rs.set i (row.set j z')))
theorem Fbi {i j i' j' sz:Nat}(hj:j<sz)(ja:j'<sz)(h:i*sz+j=i'*sz+j'):i=i'/\j=j':=by
 have h1:(i*sz+j) / sz=i:=by
  rw[Ybk,Ybr (by omega),Ybg hj,Wbv]
 have h2:(i'*sz+j') / sz=i':=by
  rw[Ybk,Ybr (by omega),Ybg ja,Wbv]
 rw[h,h2]at h1;subst h1;exact⟨rfl,by omega⟩
theorem Rp.sl_inv {own:Nat->Ow}{w:World}{r:Nat}{p:List Nat}{m:Nat}{v:Value}{sz:Nat}{rs:List (List D)}(h:Rp own w r p (m+1) v (.rows sz rs)) :
  ∃ (A:Option Addr) (a:Addr) (n c:Nat) (vs:Nat->Nat->Value),v=.slice A n c/\rs.length=n/\n<=c/\(A=some a\/(A=none/\c=0))/\(∀ r∈rs,r.length=sz) /\
   (A=some a->a.spot=none/\own a.block=.slc r p/\∀ k,k<c*sz->∃ u,w.cell? (a.add k)=some u/\fzq w (a.add k)=false) /\
   (∀ i row,rs[i]?=some row->∀ j d,row[j]?=some d->w.cell? (a.add (i*sz+j))=some (vs i j)) /\
   (∀ i row,rs[i]?=some row->∀ j d,row[j]?=some d->Rp own w r (p++[i*sz+j]) m (vs i j) d):=by
 cases h with
 |sc h=>cases h
 |sl A a n c sz rs vs hn hc hA dh cu cE cR=>exact⟨A,a,n,c,vs,rfl,hn,hc,hA,dh,cu,cE,cR⟩
theorem Rp.upd {own own':Nat->Ow}{w w':World}{r M':Nat}{full:List Nat}{y:D}{u:Value}
  (hz:∀ b,own b=.frz->b<w.heap.size->own' b=.frz/\w'.heap[b]?=w.heap[b]?)
  (hs:∀ b t,own b=.slc r t->¬ full <+: t->own' b=(if t.length<M' then .slc r t else .frz)/\w'.heap[b]?=w.heap[b]?)
  (hM:full.length<=M') (gE:Rp own' w' r full (M'-full.length) u y) :
  ∀ (p q:List Nat) (M:Nat) (v:Value) (x x':D),full=q++p->M'<=M->Rp own w r q (M-q.length) v x->zO own w r q v p u->Upd p x y x'->Rp own' w' r q (M'-q.length) v x'
 | [], q, M, v, x, x', hf, hMM, hx, hn, hu => by
  cases hu;simp only[zO]at hn;rw[Wbo]at hf;subst hf hn;exact gE
 | k :: p, q, M, v, x, x', hf, hMM, hx, hn, hu => by
  generalize hk:k::p=kp at hu
  cases hu with
  |here=>cases hk
  | down sz rs i j row z z' y p' hi hj hu =>
   obtain⟨rfl,rfl⟩:=List.cons.inj hk;have hlen:full.length=q.length+(p.length+1):=by rw[hf];simp
   obtain⟨m,hm⟩:∃ m,M-q.length=m+1:=⟨M-q.length-1,by omega⟩;obtain⟨m',xt⟩:∃ m',M'-q.length=m'+1:=⟨M'-q.length-1,by omega⟩;rw[hm]at hx;rw[xt];obtain⟨A,a,n,c,vs,rfl,h1,h2,h3,h4,h5,h6,h7⟩:=hx.sl_inv;have oq:i<rs.length:=(Vbn.1 hi).1
   have hA:A=some a:=by
    rcases h3 with e|⟨e,e'⟩
    ·exact e
    ·omega
   subst hA;obtain⟨h8,h9,da⟩:=h5 rfl;obtain⟨a',n',c',u',e1,e2,e3,e4⟩:=hn;obtain⟨rfl,rfl,rfl⟩:a=a'/\n=n'/\c=c':=by injection e1 with a b c;exact⟨Wbk a,b,c⟩
   have ig:=h6 i row hi j z hj;rw[ig]at e3;obtain rfl:=Wbk e3
   have hq:¬ full <+: q:=by
    intro e;have:=e.length_le;omega
   obtain⟨fb,cP⟩:=hs _ _ h9 hq;rw[if_pos (by omega)]at fb;have oz:∀ k,w'.cell? (a.add k)=w.cell? (a.add k):=fun k=>gQ (w:=w) (w':=w') (by rw[add_block];exact cP)
   have p9:∀ k,fzq w' (a.add k)=fzq w (a.add k):=fun k=>Cam (w:=w) (w':=w') (by rw[add_block];exact cP)
   have cR:=Rp.upd hz hs hM gE p (q++[i*sz+j]) M (vs i j) z z' (by rw[hf];simp) hMM (by
    have:=h7 i row hi j z hj;rwa[show M-(q++[i*sz+j]).length=m by simp;omega]) e4 hu
   rw[show M'-(q++[i*sz+j]).length=m' by simp;omega]at cR;have ku:row.length=sz:=h4 row (Vb3 hi);have bj:j<sz:=by rw[<- ku];exact (Vbn.1 hj).1
   have ni:∀ i' fv,(rs.set i (row.set j z'))[i']?=some fv->∀ j' d,fv[j']?=some d->(i'=i/\j'=j/\d=z')\/(∃ row0,rs[i']?=some row0/\row0[j']?=some d/\¬ (i'=i/\j'=j)):=by
    intro i' fv gq j' d ja;rw[Xbu]at gq;by_cases qw:i=i'
    ·subst qw
     rw[if_pos rfl,if_pos oq]at gq;obtain rfl:=Wbk gq;rw[Xbu]at ja;by_cases uh:j=j'
     ·subst uh
      rw[if_pos rfl,if_pos (by omega)]at ja;exact .inl ⟨rfl,rfl,(Wbk ja).symm⟩
     ·rw[if_neg uh]at ja
      exact .inr ⟨row,hi,ja,fun e=>uh e.2.symm⟩
    ·rw[if_neg qw]at gq
     exact .inr ⟨fv,gq,ja,fun e=>qw e.1.symm⟩
   refine .sl _ a n c sz _ vs (by simpa using h1) h2 (.inl rfl) (fun fv hr=>?_) (fun _=>⟨h8,fb,fun k hk=>?_⟩) (fun i' fv gq j' d ja=>?_) (fun i' fv gq j' d ja=>?_)
   ·rcases Ybl hr with hr|rfl
    ·exact h4 _ hr
    ·simpa using ku
   ·rw[oz,p9]
    exact da k hk
   ·rw[oz]
    rcases ni i' fv gq j' d ja with ⟨rfl,rfl,rfl⟩|⟨row0,eo,gb,-⟩
    ·exact ig
    ·exact h6 _ _ eo _ _ gb
   ·rcases ni i' fv gq j' d ja with ⟨rfl,rfl,rfl⟩|⟨row0,eo,gb,cU⟩
    ·exact cR
    ·refine (h7 _ _ eo _ _ gb).move hz _ m' (by omega) fun b t hb=>?_
     have hnp:¬ full <+: q++[i'*sz+j']++t:=by
      intro e;rw[hf,Vbx,List.prefix_append_right_inj]at e;have e':=(List.cons_prefix_cons.1 e).1
      have vu:j'<sz:=by
       have:=(Vbn.1 gb).1;rw[h4 row0 (Vb3 eo)]at this;exact this
      obtain⟨mz,na⟩:=Fbi vu bj e'.symm;exact cU ⟨mz,na⟩
     obtain⟨jk,ln⟩:=hs b _ hb hnp;simp only[Vbw,Xbd]at jk;refine⟨?_,ln⟩;rw[jk];by_cases ht:t.length<m'
     ·rw[if_pos ht,if_pos (by omega)]
     ·rw[if_neg ht,if_neg (by omega)]
theorem vY:∀ (l:List Step) (n:Nat),l.foldl (fun s x=>s+x.n) n=n+bM l
 |[],n=>rfl
 | s :: l, n => by
  simp only[bM,Xb4];rw[vY l (n+s.n),vY l (0+s.n)];omega
theorem iN (s:Step)(l:List Step):bM (s::l)=s.n+bM l:=by
 show (s::l).foldl (fun s x=>s+x.n) 0=_
 rw[Xb4,vY];omega
theorem fM:∀ (l m:List Step),bM (l++m)=bM l+bM m
 |[],m=>by simp[bM]
 |s::l,m=>by rw[Xb0,iN,iN,fM l m];omega
section
variable {ρ:List D} {g:Option (aI×Bool)} {cf:Nat->List D->Option (List D)}
theorem aJ.append:∀ {l m:List Step} {nv:Nat},aJ cf ρ g nv (l++m)->aJ cf ρ g nv l/\aJ cf ρ g (nv+bM l) m
 |[],m,nv,h=>⟨trivial,h⟩
 | s :: l, m, nv, h => by
  obtain⟨h1,h2⟩:=h;obtain⟨h3,h4⟩:=aJ.append h2;exact⟨⟨h1,h3⟩,by rw[iN,<- Vb8];exact h4⟩
theorem Rai {sz off n:Nat}{x i:D}{vs ds:List D}(h:(aT.set sz off n).run (x::i::vs)=some ds) :
  ∃ rs k iv row,x=.rows sz rs/\i=.int k iv/\0<=iv/\rs[iv.toNat]?=some row/\off+n<=row.length/\vs.length=n/\ds=[.rows sz (rs.set iv.toNat (row.take off++vs++row.drop (off+n)))]:=by
 cases x<;>cases i<;>simp only[aT.run]at h<;>first|cases h|skip
 rename_i nk rs k iv;split at h
 ·rename_i h1
  obtain⟨rfl,h1⟩:=h1;split at h
  ·rename_i row hr
   split at h
   ·rename_i h2
    simp only[Vbl]at h;exact⟨rs,k,iv,row,rfl,rfl,h1,hr,h2.1,h2.2,h.symm⟩
   ·cases h
  ·cases h
 ·cases h
theorem take_set {α:Type}{l:List α}{k:Nat}{x:α}(h:k<l.length):l.take k++[x]++l.drop (k+1)=l.set k x:=by
 apply Yb0;intro j;rw[Xbu];by_cases h1:j<k
 ·rw[Vbx,Vb2 (by simp;omega),Wbw,if_pos h1,if_neg (by omega)]
 ·by_cases h2:k=j
  ·subst h2
   rw[if_pos rfl,if_pos h,Vbx,Vbz (by simp;omega)];simp[Nat.min_eq_left (Nat.le_of_lt h)]
  ·rw[if_neg h2,Vbz (by simp;omega),Wbt]
   congr 1
   simp;omega
theorem Ba7 (hg:gOn ρ g=true):∀ (q:List (aI×Nat×Nat)) (nv:Nat) (X y:aI),aJ cf ρ g nv (La8 nv X q y).1->Upd (bB ρ q) (X.val ρ) (y.val ρ) ((La8 nv X q y).2.val ρ)
 |[],nv,X,y,_=>.here _ _
 | (i, sz, off) :: p, nv, X, y, h => by
  have hpv:bB ρ ((i,sz,off)::p)=(lN ρ i*sz+off)::bB ρ p:=rfl;rw[hpv]
  cases p with
  | nil =>
   simp only[La8]at h ⊢;obtain⟨d,h1,h2⟩:=Ba5 h.1 hg;simp only[Wbe,Wbu]at h1;obtain⟨rs,k,iv,row,e1,e2,e3,e4,e5,e6,e7⟩:=Rai h1;simp only[Xbh,and_true]at e7;have hi:lN ρ i=iv.toNat:=by simp[lN,e2]
   rw[e1,hi,h2,e7,take_set (by omega)];exact .down sz rs iv.toNat off row _ _ _ _ e4 (Vbq (by omega)) (.here _ _)
  | cons z p =>
   have cU:La8 nv X ((i,sz,off)::z::p) y =
     ([.prim (.row sz off [false]) [X,i] 1]++(La8 (nv+1) (.v nv) (z::p) y).1++[.prim (.set sz off 1) [X,i,(La8 (nv+1) (.v nv) (z::p) y).2] 1],.v (nv+1+bM (La8 (nv+1) (.v nv) (z::p) y).1)):=rfl
   rw[cU]at h ⊢;obtain⟨h1,h2⟩:=aJ.append h;obtain⟨h3,h4⟩:=aJ.append h1;obtain⟨d,h5,h6⟩:=Ba5 h3.1 hg;have om:bM [Step.prim (.row sz off [false]) [X,i] 1]=1:=rfl;rw[om]at h4;rw[fM,om,<- Vb8]at h2;have ih:=Ba7 hg (z::p) (nv+1) (.v nv) y h4;obtain⟨d',h7,h8⟩:=Ba5 h2.1 hg;simp only[Wbe,Wbu]at h5 h7;obtain⟨rs,k,iv,row,e1,e2,e3,e4,e5,e6,e7⟩:=Rai h7;obtain⟨rs',k',iv',fv,f1,f2,f3,f4,f5,f6,f7⟩:=Xau h5;rw[e1]at f1;obtain rfl:rs=rs':=by injection f1
   rw[e2]at f2;obtain⟨rfl,rfl⟩:k=k'/\iv=iv':=by injection f2 with a b;exact⟨a,b⟩
   rw[e4]at f4;obtain rfl:=Wbk f4;simp only[Xbh,and_true]at e7;have hi:lN ρ i=iv.toNat:=by simp[lN,e2]
   have hz:row[off]?=some ((aI.v nv).val ρ):=by
    rw[h6]
    have:((row.drop off).take 1)[0]?=some d:=by
     rw[show [false].length=1 from rfl]at f7;rw[<- f7];rfl
    rw[Wbw,if_pos (by omega),Wbt]at this;simpa using this
   rw[e1,hi,h8,e7,take_set (by omega)];exact .down sz rs iv.toNat off row _ _ _ _ e4 hz ih
end
section
variable {P:Program} {E:Env} {F:bK} {n:Nat} {σ:Nat->Option aQ} {ρ:List D} {a:Act} {w w':World} {G G':Gh} {g:Option (aI×Bool)} {o:Oper} {cf:Nat->List D->Option (List D)} {Q:Exit->Act->World->Prop} {next:Act->World->Prop}
def Chg (σ:Nat->Option aQ)(G:Gh)(w:World)(G':Gh)(w':World)(r:Nat)(c:aQ):Prop :=
 (σ (kR r)=none/\∃ x m cy st,c=.root x m cy st) \/
 (∃ x m cy x' m',σ (kR r)=some (.root x m cy .live)/\c=.root x' m' (cy+1) .live) \/
 (∃ x m cy st,c=.root x m cy st/\st≠.live/\st≠.frozen) \/
 (∃ x m cy,σ (kR r)=some (.root x m cy .live)/\c=.root x m cy .frozen/\∀ b p,G.own b=.slc r p->G'.own b=.frz/\w'.heap[b]?=w.heap[b]?)
theorem Wa5 (u:List (Nat×aQ))(σ:Nat->Option aQ)(k:Nat)(h:∃ c,(k,c)∈u):∃ c,(k,c)∈u/\upds σ u k=some c:=by
 have h1:=eP u σ k (.inr h);obtain⟨c,hc⟩:=Option.isSome_iff_exists.1 h1
 rcases qU u σ k c hc with h2|⟨h2,-⟩
 ·exact⟨c,h2,hc⟩
 ·obtain⟨c',ij⟩:=h
  exact absurd ij (h2 c')
theorem Fr.of {u:List (Nat×aQ)}(a0a:∀ b,G.own b=.frz->b<w.heap.size->G'.own b=.frz/\w'.heap[b]?=w.heap[b]?)
  (yp:∀ r b p,(∀ c,(kR r,c)∉u)->G.own b=.slc r p->G'.own b=.slc r p/\w'.heap[b]?=w.heap[b]?)
  (yw:∀ r c,(kR r,c)∈u->upds σ u (kR r)=some c->Chg σ G w G' w' r c)
  (oR:∀ r x m k,σ (kR r)=some (.root x m k .frozen)->∀ b p,G'.own b=.slc r p->G.own b=.slc r p)
  (so:∀ r,(σ (kR r)).isSome->G'.hdr r=G.hdr r) (gl:∀ b,(σ (kB b)).isSome->G'.bx b=G.bx b):Fr σ G w (upds σ u) G' w':=by
 have kt:∀ r,(∀ c,(kR r,c)∉u)\/∃ c,(kR r,c)∈u/\upds σ u (kR r)=some c/\Chg σ G w G' w' r c:=by
  intro r;by_cases h:∃ c,(kR r,c)∈u
  ·obtain⟨c,h1,h2⟩:=Wa5 u σ (kR r) h
   exact .inr ⟨c,h1,h2,yw r c h1 h2⟩
  ·exact .inl fun c hc=>h ⟨c,hc⟩
 have et:∀ r k,jK σ r k->mU (upds σ u) r k->mU σ r k:=by
  intro r k hk hv
  rcases kt r with h|⟨c,h1,h2,h3⟩
  ·obtain⟨x,m,st,e,hs⟩:=hv
   rw[fH u σ _ h]at e;exact⟨x,m,st,e,hs⟩
  ·obtain⟨x,m,st,e,hs⟩:=hv
   rw[h2]at e;obtain rfl:=Wbk e;obtain⟨x0,m0,v0,st0,e0,yc⟩:=hk
   rcases h3 with ⟨h4,-⟩|⟨x1,m1,v1,x2,m2,h4,h5⟩|⟨x1,m1,v1,st1,h5,h6,h7⟩|⟨x1,m1,v1,h4,h5,-⟩
   ·rw[h4]at e0;cases e0
   ·rw[h4]at e0
    injection e0 with e0
    injection e0 with i1 i2 i3 i4
    injection h5 with j1 j2 j3 j4
    have:=yc (.inl i4.symm);omega
   ·injection h5 with j1 j2 j3 j4
    rw[j4]at hs
    rcases hs with hs|hs
    ·exact absurd hs h6
    ·exact absurd hs h7
   ·injection h5 with j1 j2 j3 j4
    exact⟨x1,m1,.live,by rw[h4,j3],.inl rfl⟩
 refine⟨a0a,et,fun r k hk=>?_,fun r k b p hv za hb=>?_,fun r k m hk hl=>?_,so,gl,fun k hk=>eP _ _ _ (.inl hk),oR⟩
 ·rcases kt r with h|⟨c,h1,h2,h3⟩
  ·obtain⟨x,m,cy,st,e,hs⟩:=hk
   exact⟨x,m,cy,st,by rw[fH u σ _ h];exact e,hs⟩
  ·obtain⟨x0,m0,v0,st0,e0,yc⟩:=hk
   rcases h3 with ⟨h4,-⟩|⟨x1,m1,v1,x2,m2,h4,h5⟩|⟨x1,m1,v1,st1,h5,h6,h7⟩|⟨x1,m1,v1,h4,h5,-⟩
   ·rw[h4]at e0;cases e0
   ·rw[h4]at e0
    injection e0 with e0
    injection e0 with i1 i2 i3 i4
    have:=yc (.inl i4.symm);exact⟨_,_,_,_,by rw[h2,h5],fun _=>by omega⟩
   ·exact⟨_,_,_,_,by rw[h2,h5],fun hs=>by rcases hs with hs|hs<;>contradiction⟩
   ·rw[h4]at e0
    injection e0 with e0
    injection e0 with i1 i2 i3 i4
    have:=yc (.inl i4.symm);exact⟨_,_,_,_,by rw[h2,h5],fun _=>by omega⟩
 ·rcases kt r with h|⟨c,h1,h2,h3⟩
  ·exact⟨.inl (yp r b p h hb).1,(yp r b p h hb).2⟩
  ·obtain⟨x,m,st,e,hs⟩:=hv
   obtain⟨x',m',ua,e',ko⟩:=za;rw[h2]at e';obtain rfl:=Wbk e'
   rcases h3 with ⟨h4,-⟩|⟨x1,m1,v1,x2,m2,h4,h5⟩|⟨x1,m1,v1,st1,h5,h6,h7⟩|⟨x1,m1,v1,h4,h5,h6⟩
   ·rw[h4]at e;cases e
   ·rw[h4]at e
    injection e with e
    injection e with i1 i2 i3 i4
    injection h5 with j1 j2 j3 j4
    omega
   ·injection h5 with j1 j2 j3 j4
    rw[j4]at ko
    rcases ko with hs|hs
    ·exact absurd hs h6
    ·exact absurd hs h7
   ·exact⟨.inr (h6 b p hb).1,(h6 b p hb).2⟩
 ·rcases kt r with h|⟨c,h1,h2,h3⟩
  ·obtain⟨x,e⟩:=hl
   rw[fH u σ _ h]at e;exact⟨⟨x,e⟩,fun b p hb=>(yp r b p h hb).1⟩
  ·obtain⟨x,e⟩:=hl
   rw[h2]at e;obtain rfl:=Wbk e;obtain⟨x0,m0,v0,st0,e0,yc⟩:=hk
   rcases h3 with ⟨h4,-⟩|⟨x1,m1,v1,x2,m2,h4,h5⟩|⟨x1,m1,v1,st1,h5,h6,h7⟩|⟨x1,m1,v1,h4,h5,-⟩
   ·rw[h4]at e0;cases e0
   ·rw[h4]at e0
    injection e0 with e0
    injection e0 with i1 i2 i3 i4
    injection h5 with j1 j2 j3 j4
    have:=yc (.inl i4.symm);omega
   ·injection h5 with j1 j2 j3 j4
    exact absurd j4.symm h6
   ·injection h5 with j1 j2 j3 j4
    cases j4
def nS (f:Nat->List Nat->Ow):Ow->Ow
 |.slc s p=>f s p
 |o=>o
theorem R.own (h:R E.ntmps F σ ρ a w G)(hd:fQ E.ntmps o){sv:SV}{v:Value}{ur:List (Nat×aQ)}{f:Nat->List Nat->Ow}{wr:Nat->Prop}
  (hu:∀ k c,(k,c)∈ur->∃ r,k=kR r)
  (cu:∀ b,b<w.heap.size->G'.own b=nS f (G.own b)) (yq:∀ b,w'.heap.size<=b->G'.own b=.frz)
  (mS:w'.os=w.os/\w'.tape=w.tape/\w'.output=w.output/\w.heap.size<=w'.heap.size)
  (u9:∀ b,w.heap.size<=b->G'.own b=.frz\/∃ r p,G'.own b=.slc r p/\σ (kR r)=none)
  (cP:∀ b,b<w.heap.size->¬ wr b->w'.heap[b]?=w.heap[b]?) (hwr:∀ b,wr b->∃ r p,G.own b=.slc r p/\∃ c,(kR r,c)∈ur)
  (yp:∀ b r p,G.own b=.slc r p->(∀ c,(kR r,c)∉ur)->f r p=.slc r p)
  (yw:∀ r c,(kR r,c)∈ur->upds σ (eG o g sv++ur) (kR r)=some c->Chg σ G w G' w' r c)
  (oR:∀ r x m k,σ (kR r)=some (.root x m k .frozen)->∀ s p q,f s p=.slc r q->s=r/\p=q)
  (so:∀ r,(σ (kR r)).isSome->G'.hdr r=G.hdr r) (gl:G'.bx=G.bx)
  (et:Fr σ G w (upds σ (eG o g sv++ur)) G' w'->gOn ρ g=true->dC (upds σ (eG o g sv++ur)) ρ G' w' sv v)
  (fm:Fr σ G w (upds σ (eG o g sv++ur)) G' w'->∀ r c,(kR r,c)∈ur->upds σ (eG o g sv++ur) (kR r)=some c->∃ x m cy st,c=.root x m cy st/\bW (upds σ (eG o g sv++ur)) ρ G' w' r x m st) :
  R E.ntmps F (upds σ (eG o g sv++ur)) ρ (a.put o.dst v) w' G':=by
 have lz:=Iae o g sv
 have gm:∀ r c,(kR r,c)∈eG o g sv++ur->(kR r,c)∈ur:=by
  intro r c hc
  rcases Vb5.1 hc with hc|hc
  ·obtain⟨t,e⟩:=lz _ _ hc
   exact absurd e.symm iQ
  ·exact hc
 have mT:∀ b r p,G.own b=.slc r p->b<w.heap.size:=fun b r p hb=>by
  rcases Wbc b w.heap.size with h1|h1
  ·exact h1
  ·rw[h.frame.fresh b h1]at hb;cases hb
 have qk:∀ b,b<w.heap.size->(∀ r p,G.own b≠.slc r p)->G'.own b=G.own b/\w'.heap[b]?=w.heap[b]?:=fun b bj hb=>by
  refine⟨?_,cP b bj fun hw=>?_⟩
  ·rw[cu b bj]
   unfold nS;split
   ·rename_i s p e
    exact absurd e (hb s p)
   ·rfl
  ·obtain⟨r,p,e,-⟩:=hwr b hw
   exact hb r p e
 have eC:Fr σ G w (upds σ (eG o g sv++ur)) G' w':=by
  refine Fr.of (fun b hb bj=>?_) (fun r b p il hb=>?_) (fun r c hc ij=>yw r c (gm r c hc) ij) (fun r x m k hk b p hb=>?_) so (fun b _=>by rw[gl])
  ·obtain⟨h1,h2⟩:=qk b bj (by rw[hb];simp)
   exact⟨h1.trans hb,h2⟩
  ·have bj:=mT b r p hb
   have w9:∀ c,(kR r,c)∉ur:=fun c hc=>il c (Vbr _ hc)
   refine⟨by rw[cu b bj,hb];exact yp b r p hb w9,cP b bj fun hw=>?_⟩;obtain⟨r',p',e,c,hc⟩:=hwr b hw;rw[hb]at e
   injection e with e1 e2
   subst e1;exact w9 c hc
  ·rcases Wbc b w.heap.size with bj|bj
   ·rw[cu b bj]at hb
    cases e:G.own b with
    | slc s q =>
     rw[e]at hb;obtain⟨rfl,rfl⟩:=oR r x m k hk s q p hb;rfl
    |_=>rw[e]at hb;exact hb
   ·rcases u9 b bj with e|⟨r',p',e,hn⟩
    ·rw[e]at hb;cases hb
    ·rw[e]at hb
     injection hb with e1 e2
     subst e1;rw[hn]at hk;cases hk
 refine h.upd _ eC (by rw[Ba1];exact h.tmps) (by rw[put_defers];exact h.defers) ?_ (fun t ht=>Fay ht) (fun b ro bs hb _=>?_) (fun b bs hb bj ho=>?_) (fun k c hk jx=>?_)
 ·obtain⟨e1,e2,e3,e4⟩:=mS
  refine⟨e1.trans h.frame.os,e2.trans h.frame.tape,e3.trans h.frame.output,by have:=h.frame.size;omega,fun b bj hf=>?_,fun b j bj hj=>?_,yq⟩
  ·obtain⟨h1,h2⟩:=h.frame.keep b bj hf
   obtain⟨h3,h4⟩:=qk b (by have:=h.frame.size;omega) (fun r p e=>by
    rw[e]at h2;rw[<- h2]at hf
    rcases hf with hf|hf<;>cases hf)
   exact⟨h4.trans h1,h3.trans h2⟩
  ·obtain⟨h1,c0,c1,e,fr,h2,h3,h4⟩:=h.frame.boxes b j bj hj
   obtain⟨h5,h6⟩:=qk b (by have:=h.frame.size;omega) (by rw[h1];simp);exact⟨h5.trans h1,c0,c1,e,fr,h2,h6.trans h3,h4⟩
 ·obtain⟨_,h2,h3⟩:=h.box hb
  rcases Wbc (G.bx b).block w.heap.size with bj|bj
  ·exact qk _ bj (by rw[h2];split<;>simp)
  ·rw[h.frame.fresh _ bj]at h2
   split at h2<;>cases h2
 ·rcases Vb5.1 hb with hb|hb
  ·obtain⟨t,e⟩:=lz _ _ hb
   exact absurd e.symm mK
  ·obtain⟨r,e⟩:=hu _ _ hb
   exact absurd e fO
 ·rcases Vb5.1 hk with hk|hk
  ·obtain⟨d,nf,rfl,rfl⟩:=yX hk
   refine⟨d,rfl,fun hg=>?_⟩;rw[nf,pQ _ _ _ _ _ (hd d nf) h.tmps];exact et eC hg
  ·obtain⟨r,rfl⟩:=hu _ _ hk
   obtain⟨x,m,cy,st,rfl,ri⟩:=fm eC r c hk jx;exact⟨r,rfl,by rw[jx];rfl,ri⟩
end
section
variable {P:Program} {E:Env} {F:bK} {n:Nat} {σ:Nat->Option aQ} {ρ:List D} {a:Act} {w w':World} {G G':Gh} {g:Option (aI×Bool)} {o:Oper} {cf:Nat->List D->Option (List D)} {Q:Exit->Act->World->Prop} {next:Act->World->Prop}
inductive Ia6 (σ:Nat->Option aQ) (ρ:List D) (G:Gh) (w:World) (pu:Put) (off:Nat) (v:Value) (x:aI):Prop
 |sc (h:Sc v (x.val ρ))
 |nil (z:Nat) (hx:x.val ρ=.rows z []) (hv:v=.slice none 0 0)
 |mv (r m cy:Nat) (hm:(off,r,m)∈pu.moves) (hr:σ (kR r)=some (.root x m cy .live)) (hv:v=G.hdr r) (hd:pu.depth<=m)
 |hole (r k m:Nat) (q:List (aI×Nat×Nat)) (hm:(off,r,q)∈pu.holes) (hl:zI σ r k m) (hq:q.length+1<=m) (fR:Rp G.own w r (bB ρ q) (m-q.length) v (x.val ρ)) (hn:zO G.own w r [] (G.hdr r) (bB ρ q) v) (hd:pu.depth<=m-q.length)
 |fz (hd:pu.depth=0) (h:Rd (fun b=>G.own b=.frz\/∃ r p,r∈pu.frz/\G.own b=.slc r p) w v (x.val ρ))
theorem Ia6.left {A B:Put}{off:Nat}{v:Value}{x:aI}(h:Ia6 σ ρ G w A off v x):Ia6 σ ρ G w ⟨A.xs++B.xs,A.moves++B.moves,A.holes++B.holes,A.frz++B.frz,min A.depth B.depth⟩ off v x:=by
 cases h with
 |sc h=>exact .sc h
 |nil z hx hv=>exact .nil z hx hv
 |mv r m cy hm hr hv hd=>exact .mv r m cy (Vbo _ hm) hr hv (by dsimp only;omega)
 |hole r k m q hm hl hq fR hn hd=>exact .hole r k m q (Vbo _ hm) hl hq fR hn (by dsimp only;omega)
 |fz hd h=>exact .fz (by dsimp only;omega) (h.mono fun b hb=>⟨hb.imp id fun ⟨r,p,h1,h2⟩=>⟨r,p,Vbo _ h1,h2⟩,rfl⟩)
theorem Ia6.right {A B:Put}{off:Nat}{v:Value}{x:aI}(h:Ia6 σ ρ G w B off v x):Ia6 σ ρ G w ⟨A.xs++B.xs,A.moves++B.moves,A.holes++B.holes,A.frz++B.frz,min A.depth B.depth⟩ off v x:=by
 cases h with
 |sc h=>exact .sc h
 |nil z hx hv=>exact .nil z hx hv
 |mv r m cy hm hr hv hd=>exact .mv r m cy (Vbr _ hm) hr hv (by dsimp only;omega)
 |hole r k m q hm hl hq fR hn hd=>exact .hole r k m q (Vbr _ hm) hl hq fR hn (by dsimp only;omega)
 |fz hd h=>exact .fz (by dsimp only;omega) (h.mono fun b hb=>⟨hb.imp id fun ⟨r,p,h1,h2⟩=>⟨r,p,Vbr _ h1,h2⟩,rfl⟩)
theorem Raq (hR:R E.ntmps F σ ρ a w G){mv dw:Bool}{off:Nat}{l:aP}{pu:Put}(h:(Rar mv dw off l).eval σ=some pu){v:Value}(hl:aB σ ρ G w l v) :
  ∃ x,pu.xs=[x]/\Ia6 σ ρ G w pu off v x/\(∀ z∈pu.moves,z.1=off/\∃ x cy,σ (kR z.2.1)=some (.root x z.2.2 cy .live))/\(∀ z∈pu.holes,z.1=off):=by
 unfold Rar at h;split at h
 ·rename_i x
  simp only[aC,Vbl]at h;subst h;simp only[aB]at hl;exact⟨x,rfl,.sc hl,by simp,by simp⟩
 ·rename_i r
  simp only[aA,aR,Vbs]at h;simp only[aB]at hl;split at h
  ·rename_i x m cy hk
   cases mv with
   | true =>
    simp only[cond_true,aC,Vbl]at h;subst h;refine⟨x,rfl,.mv r m cy (by simp) hk hl.1 (Vb6 _),fun z hz=>?_,by simp⟩;simp only[Vbp]at hz;subst hz;exact⟨rfl,x,cy,hk⟩
   | false =>
    simp only[cond_false,aC,Vbl]at h;subst h;refine⟨x,rfl,.fz rfl ?_,by simp,by simp⟩;have:=hR.root hk;simp only[bW]at this;rw[<- hl.1]at this;exact this.rd.mono fun b hb=>⟨hb.imp id fun ⟨q,hq⟩=>⟨r,q,by simp,hq⟩,rfl⟩
  ·rename_i x m cy hk
   simp only[aC,Vbl]at h;subst h;refine⟨x,rfl,.fz rfl ?_,by simp,by simp⟩;have:=(hR.root hk).1;rw[<- hl.1]at this;exact this.mono fun b hb=>⟨.inl hb,rfl⟩
  ·cases h
 ·rename_i deps p nie x
  split at h
  ·rename_i z
   simp only[aC,Vbl]at h;subst h;refine⟨_,rfl,.nil z rfl ?_,by simp,by simp⟩;simp only[aB]at hl;exact (hl.2 (by simp)).2.1 trivial z rfl
  ·rename_i cU
   simp only[aA,Vbj]at h;obtain⟨s,h1,h⟩:=h;have hs:=eH hR h1 hl
   have hx:s.x=x:=by
    unfold yH at h1;simp only[aA,Vbj]at h1;obtain⟨ds,-,h3⟩:=h1;split at h3
    ·simp only[aC,Vbl]at h3;rw[<- h3]
    ·simp only[aA,aR,Vbs]at h3
     split at h3
     ·simp only[aC,Vbl]at h3;rw[<- h3]
     ·cases h3
    ·simp only[aC,Vbl]at h3;rw[<- h3]
   have kc:∀ frz:List Nat,(∀ z∈s.deps,z.1∈frz)->Rd (fun b=>G.own b=.frz\/∃ r p,r∈frz/\G.own b=.slc r p) w v (x.val ρ):=by
    intro frz hz;have:=hs.rd;rw[hx]at this;exact this.mono fun b hb=>⟨hb.imp id fun ⟨r,k,p,h2,h3⟩=>⟨r,p,hz _ h2,h3⟩,rfl⟩
   split at h
   ·rename_i r k m q ho
    have cu:=hs.own;unfold vQ at cu;rw[ho]at cu;obtain⟨h2,h3,h4,h5,h6⟩:=cu;rw[hx]at h5
    cases hb:(dw&&Nat.ble (q.length+1) m) with
    | true =>
     rw[hb]at h;simp only[cond_true,aC,Vbl]at h;subst h;simp only[Vbk,Wb6]at hb;refine⟨x,rfl,.hole r k m q (by simp) h3 hb.2 h5 h6 (Vb6 _),by simp,by simp⟩
    | false =>
     rw[hb]at h;simp only[cond_false,aC,Vbl]at h;subst h;refine⟨x,rfl,.fz rfl (kc _ fun z hz=>?_),by simp,by simp⟩;rw[h2]at hz;simp only[Vbp]at hz;subst hz;simp
   ·simp only[aC,Vbl]at h
    subst h;exact⟨x,rfl,.fz rfl (kc _ fun z hz=>Xbf hz),by simp,by simp⟩
 ·cases h
theorem uI (hR:R E.ntmps F σ ρ a w G){mv dw:Bool}:∀ {ls:List aP} {off:Nat} {pu:Put},(sS mv dw off ls).eval σ=some pu->∀ {vs:List Value},aD σ ρ G w ls vs ->
  pu.xs.length=ls.length/\(∀ j v x,vs[j]?=some v->pu.xs[j]?=some x->Ia6 σ ρ G w pu (off+j) v x) /\
  (∀ z∈pu.moves,off<=z.1/\z.1<off+ls.length/\∃ x cy,σ (kR z.2.1)=some (.root x z.2.2 cy .live))
 | [], off, pu, h, vs, hl => by
  simp only[sS,aC,Vbl]at h;subst h;exact⟨rfl,by simp,by simp⟩
 | l :: ls, off, pu, h, vs, hl => by
  simp only[sS,aA,Vbj,aC,Vbl]at h;obtain⟨A,h1,B,h2,rfl⟩:=h;simp only[aD]at hl;obtain⟨u,us,rfl,h3,h4⟩:=hl;obtain⟨x,h5,h6,h7,-⟩:=Raq hR h1 h3;obtain⟨h8,h9,da⟩:=uI hR h2 h4;refine⟨by simp[h5,h8],fun j v y hv hy=>?_,fun z hz=>?_⟩
  ·rw[h5]at hy
   cases j with
   | zero =>
    simp only[Vbv,Vbl,Xb7]at hv hy;subst hv hy;exact h6.left
   | succ j =>
    simp only[Wbz,Xb7]at hv hy;have:=(h9 j v y hv hy).right (A:=A);rwa[show off+1+j=off+(j+1) by omega]at this
  ·simp only[Wbb]
   rcases Vb5.1 hz with hz|hz
   ·obtain⟨e,eo⟩:=h7 z hz
    exact⟨by omega,by omega,eo⟩
   ·obtain⟨e1,e2,eo⟩:=da z hz
    exact⟨by omega,by omega,eo⟩
theorem gU:∀ {rs:List Nat} {fr:List (Nat×aQ)},(dV rs).eval σ=some fr ->
  (∀ r∈rs,(∃ x m cy,σ (kR r)=some (.root x m cy .live)/\(kR r,aQ.root x m cy .frozen)∈fr)\/∃ x m cy,σ (kR r)=some (.root x m cy .frozen)) /\
  (∀ k c,(k,c)∈fr->∃ r∈rs,∃ x m cy,k=kR r/\c=.root x m cy .frozen/\σ (kR r)=some (.root x m cy .live))
 | [], fr, h => by
  simp only[dV,aC,Vbl]at h;subst h;simp
 | r :: rs, fr, h => by
  simp only[dV,aA,aR,Vbs]at h;split at h
  ·rename_i x m cy hk
   simp only[aA,Vbj,aC,Vbl]at h;obtain⟨l,h1,rfl⟩:=h;obtain⟨h2,h3⟩:=gU h1;refine⟨fun s hs=>?_,fun k c hc=>?_⟩
   ·rcases Vbu.1 hs with rfl|hs
    ·exact .inl ⟨x,m,cy,hk,Vb7⟩
    ·rcases h2 s hs with ⟨x',m',v',h4,h5⟩|h4
     ·exact .inl ⟨x',m',v',h4,Vb1 _ h5⟩
     ·exact .inr h4
   ·rcases Vbu.1 hc with hc|hc
    ·obtain⟨rfl,rfl⟩:=Xb5 hc
     exact⟨r,Vb7,x,m,cy,rfl,rfl,hk⟩
    ·obtain⟨s,hs,h4⟩:=h3 k c hc
     exact⟨s,Vb1 _ hs,h4⟩
  ·rename_i x m cy hk
   obtain⟨h2,h3⟩:=gU h;refine⟨fun s hs=>?_,fun k c hc=>?_⟩
   ·rcases Vbu.1 hs with rfl|hs
    ·exact .inr ⟨x,m,cy,hk⟩
    ·exact h2 s hs
   ·obtain⟨s,hs,h4⟩:=h3 k c hc
    exact⟨s,Vb1 _ hs,h4⟩
  ·cases h
end
theorem nD {l:List Nat}{n:Nat}:has l n=true↔n∈l:=by
 unfold has;simp only[List.any_eq_true,Wbl];constructor
 ·rintro⟨x,h,rfl⟩;exact h
 ·exact fun h=>⟨n,h,rfl⟩
theorem Aas {l:List Nat}{n:Nat}:has l n=false↔n∉l:=by
 rw[<- nD];simp
theorem uP:∀ {l:List (Nat×Nat×Nat)},distinct (l.map (·.2.1))=true->∀ z∈l,l.find? (fun y=>Nat.beq y.2.1 z.2.1)=some z
 |[],_,z,hz=>by simp at hz
 | y :: l, h, z, hz => by
  simp only[Wbe,distinct,Vbk,Vb9]at h;rw[List.find?_cons]
  rcases Vbu.1 hz with rfl|hz
  ·have:Nat.beq z.2.1 z.2.1=true:=by simp
   rw[this]
  ·have:Nat.beq y.2.1 z.2.1=false:=by
    cases e:Nat.beq y.2.1 z.2.1 with
    |false=>rfl
    | true =>
     simp only[Wbl]at e;have h1:=Aas.1 h.1;rw[e]at h1;exact absurd (Xbf (f:=fun x:Nat×Nat×Nat=>x.2.1) hz) h1
   rw[this];exact uP h.2 z hz
theorem Ha4 {l:List (Nat×Nat×Nat)}{s:Nat}(h:s∉l.map (·.2.1)):l.find? (fun y=>Nat.beq y.2.1 s)=none:=by
 rw[List.find?_eq_none];intro x hx;simp only[Wbl];intro e;exact h (e▸Xbf (f:=fun x:Nat×Nat×Nat=>x.2.1) hx)
section
variable {P:Program} {E:Env} {F:bK} {n:Nat} {σ:Nat->Option aQ} {ρ:List D} {a:Act} {w w':World} {G G':Gh} {g:Option (aI×Bool)} {o:Oper} {cf:Nat->List D->Option (List D)} {Q:Exit->Act->World->Prop} {next:Act->World->Prop}
theorem Rd.nil {ok:Nat->Prop}{z:Nat}:Rd ok w (.slice none 0 0) (.rows z []) :=
 .rows none ⟨0,0,none⟩ 0 0 _ [] (fun _ _=>undef) rfl (Vb6 _) (.inl rfl) (by simp) (by simp) (by simp)
theorem Rp.nil {own:Nat->Ow}{r:Nat}{p:List Nat}{m z:Nat}:Rp own w r p m (.slice none 0 0) (.rows z []):=by
 cases m with
 |zero=>exact .fz Rd.nil
 |succ m=>exact .sl none ⟨0,0,none⟩ 0 0 _ [] (fun _ _=>undef) rfl (Vb6 _) (.inr ⟨rfl,rfl⟩) (by simp) (by simp) (by simp) (by simp)
theorem Ia6.rp (hR:R E.ntmps F σ ρ a w G){pu:Put}{off:Nat}{v:Value}{x:aI}(h:Ia6 σ ρ G w pu off v x){own':Nat->Ow}{R:Nat}{path:List Nat}{m1:Nat}(hd:m1<=pu.depth)
  (hz:∀ b,G.own b=.frz->b<w.heap.size->own' b=.frz/\w'.heap[b]?=w.heap[b]?)
  (hmv:∀ s m,(off,s,m)∈pu.moves->∀ b t,G.own b=.slc s t->own' b=(if t.length<m1 then .slc R (path++t) else .frz)/\w'.heap[b]?=w.heap[b]?)
  (hho:∀ s q,(off,s,q)∈pu.holes->∀ b t,G.own b=.slc s (bB ρ q++t)->own' b=(if t.length<m1 then .slc R (path++t) else .frz)/\w'.heap[b]?=w.heap[b]?)
  (kc:∀ s∈pu.frz,∀ b p,G.own b=.slc s p->own' b=.frz/\w'.heap[b]?=w.heap[b]?):Rp own' w' R path m1 v (x.val ρ):=by
 cases h with
 |sc h=>exact .sc h
 |nil z hx hv=>rw[hx,hv];exact Rp.nil
 | mv r m cy hm hr hv nf =>
  have:=hR.root hr;simp only[bW]at this;rw[hv];exact this.move hz path m1 (by omega) fun b t hb=>hmv r m hm b t (by simpa using hb)
 |hole r k m q hm hl hq fR hn nf=>exact fR.move hz path m1 (by omega) fun b t hb=>hho r q hm b t hb
 | fz nf h =>
  obtain rfl:m1=0:=by omega
  refine .fz (h.mono' fun b hb bj=>?_)
  rcases hb with hb|⟨r,p,h1,h2⟩
  ·exact hz b hb bj
  ·exact kc r h1 b p h2
def zA (R M:Nat)(p:List Nat):Ow:=if p.length<M then .slc R p else .frz
def lI (pu:Put)(r m':Nat)(pv:List Nat)(base:Nat)(s:Nat)(p:List Nat):Ow :=
 bif has pu.frz s then .frz else match pu.moves.find? (fun y=>Nat.beq y.2.1 s) with
  |some z=>zA r m' ((pv++[base+z.1])++p)
  |none=>if s=r then zA r m' p else .slc s p
theorem dS {B o:Nat}{vs:List Value}{b:Addr}(hb:b.block=B->b.spot=none)(hex:∀ j,j<vs.length->(w.cell? ⟨B,o+j,none⟩).isSome=true){u:Value}(hc:w.cell? b=some u) :
  ∃ u',(w.setCells B o vs).cell? b=some u':=by
 by_cases gm:b.block=B/\o<=b.off/\b.off<o+vs.length
 ·obtain⟨h1,h2,h3⟩:=gm
  have:=World.cell?_setCells_in B vs o w hex (b.off-o) (by omega);have hs:=hb h1;rw[show o+(b.off-o)=b.off by omega]at this;have fg:b=⟨B,b.off,none⟩:=by cases b;simp only at h1 hs;subst h1 hs;rfl
  exact⟨vs[b.off-o]'(by omega),(congrArg (fun x=>(w.setCells B o vs).cell? x) fg).trans this⟩
 ·rw[World.cell?_setCells_out B vs o w b fun e1 e2=>by
   rcases Wbc b.off o with h|h
   ·exact .inl h
   ·refine .inr ?_
    rcases Wbc b.off (o+vs.length) with h'|h'
    ·exact absurd ⟨e1,h,h'⟩ gm
    ·exact h']
  exact⟨u,hc⟩
theorem Jae (hR:R E.ntmps F σ ρ a w G)(hti:vV P E.ti){nv:Nat}{mv dw:Bool}{t:TypeId}{x y:Operand}(ho:o.op=.store t x y){ti:TI}(hi:E.ti t=some ti){l:aP}{sz:Nat}{i:aI}{off:Nat}{ls:List aP}{sv:SV}
  (hx:gOn ρ g=true->aB σ ρ G w (.pe l sz i off) (a.eval x)) (hy:gOn ρ g=true->dC σ ρ G w sv (a.eval y)) (pP:kE ti.agg sv=some ls) {res:bS}
  (h:(Dan nv mv dw o g ti (.pe l sz i off) ls).eval σ=some res) (cA:aJ cf ρ g nv res.lets):gW P E F σ ρ a w g o Q res.upd:=by
 simp only[Dan,aA,aH,Vbj,aR,Vbs]at h;obtain⟨_,h1,_,h2,s,h3,h⟩:=h;split at h1
 case isFalse=>cases h1
 rename_i lR;simp only[Vbk,Wbl,Ybb]at lR;obtain⟨hlen,q0⟩:=lR;split at h2
 case isFalse=>cases h2
 rename_i yd;obtain rfl:=vM yd;split at h
 case h_2=>cases h
 rename_i r k m q cu;simp only[aA,aH,Vbj,aR,Vbs]at h;obtain⟨_,h4,h⟩:=h;split at h4
 case isFalse=>cases h4
 rename_i hqm;simp only[Wb6]at hqm;split at h
 case h_2=>cases h
 rename_i X m0 cy hk;simp only[aA,aH,Vbj]at h;obtain⟨pu,h5,fr,h6,_,h7,h⟩:=h;split at h7
 case isFalse=>cases h7
 rename_i rS;simp only[Vbk,Vb9,Xbr,Ybx]at rS;obtain⟨⟨⟨⟨eC,hmr⟩,hho⟩,n2⟩,hmf⟩:=rS;simp only[aC,Vbl]at h;subst h;refine⟨fun hg=>?_,fun hg=>by simp[gOn]at hg⟩;obtain⟨info,u,f⟩:=aW (hti.ok _ _ hi);have hl:=iK pP (hy hg);obtain⟨kd,j0,hmvs⟩:=uI hR h5 hl;obtain⟨uv,th⟩:=gU h6;have hpe:=hx hg;simp only[aB]at hpe;obtain⟨c,n,cap,ik,iv,hp1,hp2,hp3,hp4,hp5⟩:=hpe;have gC:=eH hR h3 hp1;have nx:=gC.own;unfold vQ at nx;rw[cu]at nx;obtain⟨-,⟨X0,nc⟩,-,fR,lA⟩:=nx;rw[hk]at nc
 obtain⟨rfl,rfl,rfl⟩:X=X0/\m0=m/\cy=k:=by
  injection nc with e;injection e with e1 e2 e3 e4;exact⟨e1,e2,e3⟩
 have fm:=hR.root hk;simp only[bW]at fm;obtain⟨d1,im,qq⟩:=Ba5 cA.1 hg;have mq:aJ cf ρ none (nv+1) (La8 (nv+1) X q (.v nv)).1:=cA.2;have nB:=Ba7 hg q (nv+1) X (.v nv) mq;simp only[Xb0,Wby,Wbe]at im;obtain⟨rs,ik',iv',row,e1,e2,e3,e4,e5,e6,e7⟩:=Rai im;rw[hp2]at e2;obtain⟨rfl,rfl⟩:ik=ik'/\iv=iv':=by injection e2 with a b;exact⟨a,b⟩
 simp only[Xbh,and_true]at e7;simp only[Wbm]at e6;rw[e1]at fR;have u7:(bB ρ q).length=q.length:=by simp[bB]
 generalize hpv:bB ρ q=pv at nB fR lA u7;obtain⟨md,hmd⟩:∃ md,m0-q.length=md+1:=⟨m0-q.length-1,by omega⟩;rw[hmd]at fR;obtain⟨A,c',n',jh,vs0,i1,i2,i3,i4,i5,i6,i7,i8⟩:=fR.sl_inv;obtain⟨rfl,rfl,rfl⟩:A=some c/\n'=n/\jh=cap:=by injection i1 with a b c;exact⟨a.symm,b.symm,c.symm⟩
 have hcc:c'=c:=by
  rcases i4 with i4|⟨i4,-⟩
  ·exact (Wbk i4).symm
  ·cases i4
 subst hcc;obtain⟨iy,mj,dv⟩:=i6 rfl;have gj:row.length=sz:=i5 row (Vb3 e4);generalize ic:(a.eval y).cells.toList=vs at hl j0;have mb:vs.length=ls.length:=hl.len
 have ig:∀ j,j<vs.length->∃ u,w.cell? ⟨c'.block,c'.off+(iv.toNat*sz+off)+j,none⟩=some u/\w.frozen? ⟨c'.block,c'.off+(iv.toNat*sz+off)+j,none⟩=false:=by
  intro j hj
  have jx:iv.toNat*sz+off+j<jh*sz:=by
   have h1:(iv.toNat+1)*sz<=jh*sz:=Wbr _ (by omega);rw[Wb7]at h1;omega
  obtain⟨u,h1,h2⟩:=dv _ jx;rw[add_plain iy]at h1 h2;rw[Vb8];exact⟨u,h1,xG h2 rfl⟩
 have cC:(execOp a.eval o).run P w=.ok .skip (w.setCells c'.block (c'.off+(iv.toNat*sz+off)) vs):=by
  unfold execOp;simp only[ho]
  have:=Eas (P:=P) (w:=w) f (b:=c'.block) (off:=c'.off+(iv.toNat*sz+off)) (v:=a.eval y) (by rw[ic];omega)
   (fun j hj=>by
    obtain⟨v,h6,-⟩:=ig j (by omega);exact⟨v,h6⟩)
   (fun j hj=>by
    obtain⟨v,-,h6⟩:=ig j (by omega)
    exact h6) (by
    rw[ic];intro v hv;obtain⟨j,hj⟩:=Wb8.1 hv;have lq:j<pu.xs.length:=by rw[kd,<- mb];exact (Vbn.1 hj).1
    cases j0 j v _ hj (Vbq lq) with
    |sc h=>exact h.one
    |nil z _ h=>rw[h];rfl
    | mv r m cy hm hr hv hd =>
     have:=hR.root hr;simp only[bW]at this;rw[hv];exact this.one
    |hole r k m q hm hl hq fR hn hd=>exact fR.one
    |fz _ h=>exact h.one)
  simp only[Instr.storeAt,Instr.sureAddr,Sem.run_bind,hp5,Sem.run_pure,Result.andThen_ok,add_plain iy,this,ic]
 generalize xt:min m0 (q.length+1+pu.depth)=m';generalize wj:w.setCells c'.block (c'.off+(iv.toNat*sz+off)) vs=w' at cC;have cP:∀ b,b≠c'.block->w'.heap[b]?=w.heap[b]?:=fun b hb=>by rw[<- wj];exact bI _ _ _ _ _ hb
 refine Sa0 cC ⟨{ G with own:=fun b=>nS (lI pu r m' pv (iv.toNat*sz)) (G.own b) },?_⟩;rw[q0]
 have vg:∀ s,s∈pu.frz->∀ p,lI pu r m' pv (iv.toNat*sz) s p=.frz:=fun s hs p=>by
  unfold lI;rw[nD.2 hs,cond_true]
 have hrm:r∉pu.moves.map (·.2.1):=by
  intro hh;obtain⟨z,hz,e⟩:=Wb3.1 hh;have:=hmr z hz;simp[e]at this
 have hrF:∀ p,lI pu r m' pv (iv.toNat*sz) r p=zA r m' p:=fun p=>by
  unfold lI;rw[eC,cond_false,Ha4 hrm];simp
 have hmF:∀ z∈pu.moves,∀ p,lI pu r m' pv (iv.toNat*sz) z.2.1 p=zA r m' ((pv++[iv.toNat*sz+z.1])++p):=fun z hz p=>by
  unfold lI
  have:has pu.frz z.2.1=false:=by
   have:=hmf z hz;simpa using this
  rw[this,cond_false,uP n2 z hz]
 have nq:∀ b,G.own b=.frz->b<w.heap.size->nS (lI pu r m' pv (iv.toNat*sz)) (G.own b)=.frz/\w'.heap[b]?=w.heap[b]?:=fun b hb bj=>by
  refine⟨by rw[hb];rfl,cP b fun e=>?_⟩;rw[e,mj]at hb;cases hb
 have cU:∀ b s p,G.own b=.slc s p->s≠r->b≠c'.block:=fun b s p hb hs e=>by
  rw[e,mj]at hb
  injection hb with e1 e2
  exact hs e1.symm
 have uz:∀ s∈pu.frz,s≠r:=fun s hs e=>by
  have:=Aas.1 eC;exact this (e▸hs)
 have a5a:∀ z∈pu.moves,z.2.1≠r:=fun z hz e=>hrm (e▸Xbf (f:=fun x:Nat×Nat×Nat=>x.2.1) hz)
 have ev:∀ {s:Nat} {c:aQ},(kR s,c)∈(kR r,aQ.root (La8 (nv+1) X q (.v nv)).2 m' (cy+1) .live)::(pu.moves.map fun z=>(kR z.2.1,aQ.root (.c .hole) 0 0 .gone))++fr ->
   (s=r/\c=.root (La8 (nv+1) X q (.v nv)).2 m' (cy+1) .live)\/(∃ z∈pu.moves,s=z.2.1/\c=.root (.c .hole) 0 0 .gone) \/
   (s∈pu.frz/\∃ x m v,c=.root x m v .frozen/\σ (kR s)=some (.root x m v .live)):=by
  intro s c hc
  rcases Vb5.1 hc with hc|hc
  ·rcases Vbu.1 hc with hc|hc
   ·obtain⟨e1,e2⟩:=Xb5 hc
    exact .inl ⟨fJ e1,e2⟩
   ·obtain⟨z,hz,e⟩:=Wb3.1 hc
    obtain⟨e1,e2⟩:=Xb5 e;exact .inr (.inl ⟨z,hz,(fJ e1).symm,e2.symm⟩)
  ·obtain⟨s',ko,x',pd,v',e1,e2,e3⟩:=th _ _ hc
   obtain rfl:=fJ e1;exact .inr (.inr ⟨ko,x',pd,v',e2,e3⟩)
 have hdu:eG o none .dead=[]:=by unfold eG;rw[q0]
 have fN:=hR.own (o:=o) (g:=none) (fun d e=>by rw[q0]at e;cases e) (sv:=.dead) (v:=undef) (w':=w')
  (G':={ G with own:=fun b=>nS (lI pu r m' pv (iv.toNat*sz)) (G.own b) }) (wr:=fun b=>b=c'.block)
  (ur:=(kR r,aQ.root (La8 (nv+1) X q (.v nv)).2 m' (cy+1) .live)::(pu.moves.map fun z=>(kR z.2.1,aQ.root (.c .hole) 0 0 .gone))++fr)
  (f:=lI pu r m' pv (iv.toNat*sz)) ?_ (fun b _=>rfl) ?_ ?_ ?_ (fun b _ hb=>cP b hb) ?_ ?_ ?_ ?_ (fun _ _=>rfl) rfl (fun _ _=>trivial) ?_
 ·rw[hdu,Wby,q0]at fN
  exact fN
 ·intro k c hc
  rcases Vb5.1 hc with hc|hc
  ·rcases Vbu.1 hc with hc|hc
   ·exact⟨r,(Xb5 hc).1⟩
   ·obtain⟨z,hz,e⟩:=Wb3.1 hc
    exact⟨z.2.1,(Xb5 e).1.symm⟩
  ·obtain⟨s',-,-,-,-,e1,-⟩:=th _ _ hc
   exact⟨s',e1⟩
 ·intro b hb
  rw[<- wj,setCells_size]at hb;show nS _ (G.own b)=.frz
  rw[hR.frame.fresh b hb];rfl
 ·obtain⟨j1,j2,j3⟩:=dI c'.block vs (c'.off+(iv.toNat*sz+off)) w
  rw[<- wj];exact⟨j1,j2,j3,by rw[setCells_size];exact Vb6 _⟩
 ·intro b hb
  refine .inl ?_;show nS _ (G.own b)=.frz
  rw[hR.frame.fresh b hb];rfl
 ·rintro b rfl
  exact⟨r,pv,mj,_,Vbo _ Vb7⟩
 ·intro b s p hb il
  unfold lI
  have h1:has pu.frz s=false:=by
   rw[Aas];intro hs
   rcases uv s hs with ⟨x',pd,v',-,h8⟩|⟨x',pd,v',h8⟩
   ·exact il _ (Vbr _ h8)
   ·exact (hR.root h8).2 b p hb
  have h2:s∉pu.moves.map (·.2.1):=by
   intro hh;obtain⟨z,hz,e⟩:=Wb3.1 hh;refine il (.root (.c .hole) 0 0 .gone) (Vbo _ (Vb1 _ (Wb3.2 ⟨z,hz,?_⟩)));rw[e]
  have h3:s≠r:=fun e=>il (.root (La8 (nv+1) X q (.v nv)).2 m' (cy+1) .live) (Vbo _ (by rw[e];exact Vb7))
  rw[h1,cond_false,Ha4 h2];simp[h3]
 ·intro s c hc _
  rcases ev hc with ⟨rfl,rfl⟩|⟨z,hz,rfl,rfl⟩|⟨hs,x',pd,v',rfl,h8⟩
  ·exact .inr (.inl ⟨_,_,_,_,_,hk,rfl⟩)
  ·exact .inr (.inr (.inl ⟨_,_,_,_,rfl,by simp,by simp⟩))
  ·refine .inr (.inr (.inr ⟨x',pd,v',h8,rfl,fun b p hb=>⟨?_,cP b (cU b s p hb (uz s hs))⟩⟩))
   show nS _ (G.own b)=.frz
   rw[hb];exact vg s hs p
 ·intro r0 x0 m1 k0 kc s p q' hF
  unfold lI at hF
  cases hh:has pu.frz s with
  |true=>rw[hh,cond_true]at hF;cases hF
  | false =>
   rw[hh,cond_false]at hF
   have vk:r0≠r:=by
    rintro rfl
    rw[hk]at kc
    injection kc with e;injection e with _ _ _ e;cases e
   split at hF
   ·unfold zA at hF
    split at hF
    ·injection hF with j1 j2;exact absurd j1.symm vk
    ·cases hF
   ·split at hF
    ·unfold zA at hF
     split at hF
     ·injection hF with j1 j2;exact absurd j1.symm vk
     ·cases hF
    ·injection hF with j1 j2;exact⟨j1,j2⟩
 ·intro hfr' s c hc _
  rcases ev hc with ⟨rfl,rfl⟩|⟨z,hz,rfl,rfl⟩|⟨hs,x',pd,v',rfl,h8⟩
  ·refine⟨_,_,_,_,rfl,?_⟩
   simp only[bW];obtain⟨m1,od⟩:∃ m1,m'-q.length=m1+1:=⟨m'-q.length-1,by omega⟩
   have qy:∀ i' fv,(rs.set iv.toNat (row.take off++pu.xs.map (·.val ρ)++row.drop (off+ti.size)))[i']?=some fv->∀ j' d,fv[j']?=some d ->
     (i'=iv.toNat/\off<=j'/\j'<off+ls.length/\∃ x,pu.xs[j'-off]?=some x/\d=x.val ρ)\/(∃ row0,rs[i']?=some row0/\row0[j']?=some d/\¬ (i'=iv.toNat/\off<=j'/\j'<off+ls.length)):=by
    intro i' fv gq j' d ja
    have jd:row.take off++pu.xs.map (·.val ρ)++row.drop (off+ti.size)=setRange row off (pu.xs.map (·.val ρ)):=by
     unfold setRange;rw[Wbm,e6]
    rw[jd,Xbu]at gq;by_cases qw:iv.toNat=i'
    ·subst qw
     rw[if_pos rfl,if_pos (Vbn.1 e4).1]at gq;obtain rfl:=Wbk gq;rw[iJ (by rw[Wbm];omega),Wbm]at ja;split at ja
     ·rename_i gm
      rw[Wbs,Vb4]at ja;obtain⟨x,pH,qe⟩:=ja;exact .inl ⟨rfl,gm.1,by omega,x,pH,qe.symm⟩
     ·rename_i a1f
      exact .inr ⟨row,e4,ja,fun e=>a1f ⟨e.2.1,by omega⟩⟩
    ·rw[if_neg qw]at gq
     exact .inr ⟨fv,gq,ja,fun e=>qw e.1.symm⟩
   have gE:Rp (fun b=>nS (lI pu s m' pv (iv.toNat*sz)) (G.own b)) w' s pv (m'-q.length) (.slice (some c') n' jh) ((aI.v nv).val ρ):=by
    rw[qq,e7,od];refine .sl _ c' n' jh sz _ (fun i' j'=>if i'=iv.toNat/\off<=j'/\j'<off+ls.length then vs.getD (j'-off) undef else vs0 i' j') (by simpa using i2) i3 (.inl rfl) (fun fv hr=>?_) (fun _=>⟨iy,?_,fun k hk=>?_⟩) (fun i' fv gq j' d ja=>?_) (fun i' fv gq j' d ja=>?_)
    ·rcases Ybl hr with hr|rfl
     ·exact i5 _ hr
     ·simp;omega
    ·show nS _ (G.own c'.block)=_
     rw[mj];show lI pu s m' pv (iv.toNat*sz) s pv=_
     rw[hrF,zA,if_pos (by omega)]
    ·obtain⟨u0,ru,zt⟩:=dv k hk
     rw[<- wj,eZ];obtain⟨u',hu'⟩:=dS (B:=c'.block) (o:=c'.off+(iv.toNat*sz+off)) (vs:=vs) (b:=c'.add k) (fun _=>by rw[add_plain iy]) (fun j hj=>by obtain⟨u1,h9,-⟩:=ig j hj;rw[h9];rfl) ru;exact⟨u',hu',zt⟩
    ·rcases qy i' fv gq j' d ja with ⟨rfl,h9,da,x0,eo,gb⟩|⟨row0,h9,da,eo⟩
     ·rw[if_pos ⟨rfl,h9,da⟩,<- wj,add_plain iy]
      have:=World.cell?_setCells_in c'.block vs (c'.off+(iv.toNat*sz+off)) w (fun j hj=>by obtain⟨u1,h9,-⟩:=ig j hj;rw[h9];rfl) (j'-off) (by omega);rw[show c'.off+(iv.toNat*sz+off)+(j'-off)=c'.off+(iv.toNat*sz+j') by omega]at this;rw[this,Vby,Vbq (by omega)];rfl
     ·rw[if_neg eo,<- wj,World.cell?_setCells_out _ _ _ _ _ (fun _ _=>?_)]
      ·exact i7 _ _ h9 _ _ da
      ·rw[add_plain iy]
       dsimp only
       have vu:j'<sz:=by
        have:=(Vbn.1 da).1;rw[i5 row0 (Vb3 h9)]at this;exact this
       by_cases qw:i'=iv.toNat
       ·subst qw
        have:¬ (off<=j'/\j'<off+ls.length):=fun e=>eo ⟨rfl,e⟩
        omega
       ·rcases Nat.lt_or_gt_of_ne qw with bj|hgt
        ·refine .inl ?_
         have:=Wbr sz (show i'+1<=iv.toNat by omega);rw[Wb7]at this;omega
        ·refine .inr ?_
         have:=Wbr sz (show iv.toNat+1<=i' by omega);rw[Wb7]at this;omega
    ·rcases qy i' fv gq j' d ja with ⟨rfl,h9,da,x0,eo,gb⟩|⟨row0,h9,da,eo⟩
     ·rw[if_pos ⟨rfl,h9,da⟩,gb]
      have hv:vs[j'-off]?=some (vs.getD (j'-off) undef):=by
       rw[Vby,Vbq (by omega)];rfl
      have si:=j0 (j'-off) _ _ hv eo;rw[show off+(j'-off)=j' by omega]at si;refine si.rp hR (by omega) nq (fun s' m2 x8 b t hb=>⟨?_,cP b (cU b s' t hb (a5a _ x8))⟩) (fun s' q' nn=>by rw[hho]at nn;simp at nn) (fun s' ko b p hb=>⟨?_,cP b (cU b s' p hb (uz s' ko))⟩)
      ·show nS _ (G.own b)=_
       rw[hb];show lI pu s m' pv (iv.toNat*sz) s' t=_
       rw[hmF (j',s',m2) x8,zA];simp only[Vbw,Xbd];by_cases ht:t.length<m1
       ·rw[if_pos ht,if_pos (by omega)]
       ·rw[if_neg ht,if_neg (by omega)]
      ·show nS _ (G.own b)=_
       rw[hb];exact vg s' ko p
     ·rw[if_neg eo]
      refine (i8 _ _ h9 _ _ da).move nq _ m1 (by omega) fun b t hb=>⟨?_,cP b fun e=>?_⟩
      ·show nS _ (G.own b)=_
       rw[hb];show lI pu s m' pv (iv.toNat*sz) s _=_
       rw[hrF,zA];simp only[Vbw,Xbd];by_cases ht:t.length<m1
       ·rw[if_pos ht,if_pos (by omega)]
       ·rw[if_neg ht,if_neg (by omega)]
      ·rw[e,mj]at hb
       injection hb with _ e2
       have:=congrArg List.length e2;simp at this
   have:=Rp.upd (own':=fun b=>nS (lI pu s m' pv (iv.toNat*sz)) (G.own b)) (w':=w') (r:=s) (M':=m') (full:=pv) nq (fun b t hb ht=>⟨?_,cP b fun e=>?_⟩) (by omega) (by rw[u7];exact gE) pv [] m0 (G.hdr s) _ _ rfl (by omega) (by simpa using fm) lA nB
   ·simpa using this
   ·show nS _ (G.own b)=_
    rw[hb];exact hrF t
   ·rw[e,mj]at hb
    injection hb with _ e2
    exact ht (e2▸List.prefix_rfl)
  ·exact⟨_,_,_,_,rfl,trivial⟩
  ·refine⟨x',pd,v',.frozen,rfl,?_,fun b p hb=>?_⟩
   ·have:=hR.root h8
    simp only[bW]at this;refine this.rd.mono' fun b hb bj=>?_
    rcases hb with hb|⟨p,hb⟩
    ·exact nq b hb bj
    ·refine⟨?_,cP b (cU b s p hb (uz s hs))⟩
     show nS _ (G.own b)=_
     rw[hb];exact vg s hs p
   ·have fg:nS (lI pu r m' pv (iv.toNat*sz)) (G.own b)=.slc s p:=hb
    cases e:G.own b with
    | slc s' p' =>
     rw[e]at fg;have fY:lI pu r m' pv (iv.toNat*sz) s' p'=.slc s p:=fg;by_cases ko:s'∈pu.frz
     ·rw[vg s' ko]at fY;cases fY
     ·unfold lI at fY
      rw[Aas.2 ko,cond_false]at fY;have jd:=uz s hs;split at fY
      ·unfold zA at fY
       split at fY
       ·injection fY with j1 j2;exact jd j1.symm
       ·cases fY
      ·split at fY
       ·unfold zA at fY
        split at fY
        ·injection fY with j1 j2;exact jd j1.symm
        ·cases fY
       ·injection fY with j1 j2;exact ko (j1▸hs)
    |_=>rw[e]at fg;cases fg
end
theorem qJ:∀ (sz n:Nat) (l:List D),l.length=n*sz->∀ i row,(chunk sz n l)[i]?=some row->i<n/\row.length=sz/\∀ j d,row[j]?=some d->l[i*sz+j]?=some d
 |sz,0,l,_,i,row,h=>by simp[chunk]at h
 | sz, n + 1, l, hl, i, row, h => by
  simp only[chunk]at h;rw[Wb7,Nat.one_mul]at hl
  cases i with
  | zero =>
   simp only[Vbv,Vbl]at h;subst h;refine⟨by omega,by simp;omega,fun j d hj=>?_⟩;rw[Wbw]at hj;split at hj
   ·simpa using hj
   ·cases hj
  | succ i =>
   simp only[Wbz]at h;obtain⟨h1,h2,h3⟩:=qJ sz n (l.drop sz) (by simp;omega) i row h;refine⟨by omega,h2,fun j d hj=>?_⟩;have:=h3 j d hj;rw[Wbt]at this;rw[<- this];congr 1;rw[Wb7];omega
theorem Ian:∀ (sz n:Nat) (l:List D),(chunk sz n l).length=n
 |_,0,_=>rfl
 |sz,n+1,l=>by simp[chunk,Ian sz n]
theorem Fa5 {α:Type}(l:List α):∀ n,(Dbd l n).length=n*l.length
 |0=>by simp[Dbd]
 |n+1=>by rw[Dbd,Vbw,Fa5 l n,Wb7];omega
theorem Tat {α:Type}(l:List α)(h:0<l.length):∀ n j,j<n*l.length->(Dbd l n)[j]?=l[j % l.length]?
 |0,j,hj=>by simp at hj
 | n + 1, j, hj => by
  rw[Dbd];by_cases h1:j<l.length
  ·rw[Vb2 h1,Nat.mod_eq_of_lt h1]
  ·rw[Vbz (by omega),Tat l h n (j-l.length) (by rw[Wb7]at hj;omega)]
   congr 1;rw[Nat.mod_eq_sub_mod (by omega:j ≥ l.length)]
section
variable {P:Program} {E:Env} {F:bK} {n:Nat} {σ:Nat->Option aQ} {ρ:List D} {a:Act} {w w':World} {G G':Gh} {g:Option (aI×Bool)} {o:Oper} {cf:Nat->List D->Option (List D)} {Q:Exit->Act->World->Prop} {next:Act->World->Prop}
theorem Fac {ti:TI}{len:Nat}{place:Nat->Option (Nat×Nat)}(kd:∀ i,i<len->place i=some (i*ti.size,ti.size)) :
  ∀ {xs:List (Nat×Operand)} {ps:List (Nat×SV)},Gaf σ ρ G w a xs ps->∀ {ls kO:List aP} {us:Array Value},ls.length=len*ti.size->aD σ ρ G w ls us.toList->Caw ti len ls ps=some kO ->
  ∃ dj,Instr.fill place us (xs.map fun x=>(x.1,a.eval x.2))=some dj/\aD σ ρ G w kO dj.toList/\kO.length=len*ti.size
 | [], _, rfl, ls, kO, us, hn, hl, h => by
  simp only[Caw,Vbl]at h;subst h;exact⟨us,rfl,hl,hn⟩
 | (i, x) :: xs, _, ⟨sv, ps, rfl, h1, hr⟩, ls, kO, us, hn, hl, h => by
  unfold Caw at h;split at h
  ·rename_i vs ic
   cases hb:(Nat.beq vs.length ti.size&&Nat.blt i len) with
   |false=>rw[hb]at h;cases h
   | true =>
    rw[hb,cond_true]at h;simp only[Vbk,Wbl,Nat.blt_eq]at hb;have h2:=iK ic h1;have hlen:=hl.len
    have hle:i*ti.size+ti.size<=ls.length:=by
     have:=Wbr ti.size (show i+1<=len by omega);rw[Wb7,Nat.one_mul]at this;omega
    obtain⟨us1,h3,h4⟩:=Pas (rest:=xs.map fun x=>(x.1,a.eval x.2)) (kd i hb.2) (by rw[h2.len];exact hb.1) (by rw[<- Xb9,hlen];exact hle);obtain⟨dj,h5,h6,h7⟩:=Fac kd hr (us:=us1) (ls:=setRange ls (i*ti.size) vs) (by rw[lL (by rw[hb.1];exact hle)];exact hn) (by rw[h4];exact hl.setRange h2 (by rw[hb.1];exact hle)) h;exact⟨dj,by rw[Wbe,h3];exact h5,h6,h7⟩
  ·cases h
def mkF (pu:Put)(nr m':Nat)(s:Nat)(p:List Nat):Ow :=
 bif has pu.frz s then .frz else match pu.moves.find? (fun y=>Nat.beq y.2.1 s) with
  |some z=>zA nr m' ([z.1]++p)
  |none=>.slc s p
theorem Fbe (z:Array Value)(hz:0<z.size)(N j:Nat)(hj:j<N):((Array.range N).map (fun i=>z[i % z.size]!))[j]?=z[j % z.size]?:=by
 rw[Array.getElem?_map,Array.getElem?_range];rw[if_pos hj];simp only[Wb5];have bj:j % z.size<z.size:=Nat.mod_lt _ hz;rw[getElem!_pos z (j % z.size) bj,Wbq bj]
theorem Qar {t:TypeId}{i:TI}{info:TypeInfo}{u:TypeDesc}(f:dF P t i info u)(hs:0<i.size){z:Value}(hz:aD σ ρ G w (i.cells.map gB) z.cells.toList)(len:Nat) :
  aD σ ρ G w (Dbd (i.cells.map gB) len) ((Array.range (len*i.size)).map (fun j=>z.cells[j % z.cells.size]!)).toList:=by
 have fW:(i.cells.map gB).length=i.size:=by rw[Wbm,f.len]
 have ue:z.cells.size=i.size:=by rw[<- Xb9,hz.len,fW]
 refine .of_get (by rw[Fa5,fW];simp) fun j l v hj hv=>?_
 have bj:j<len*i.size:=by
  have:=(Vbn.1 hj).1;rwa[Fa5,fW]at this
 rw[Tat _ (by omega) _ _ (by rw[fW];exact bj),fW]at hj;rw[Xbk,Fbe _ (by omega) _ _ bj,ue]at hv;obtain⟨v',h1,h2⟩:=hz.get hj;rw[Xbk,hv]at h1;exact Wbk h1▸h2
theorem vJ (hR:R E.ntmps F σ ρ a w G)(hd:fQ E.ntmps o)(hti:vV P E.ti){nv nb nr:Nat}{mv dw:Bool}(hf:σ (kR nr)=none){t:TypeId}{len:Nat}{parts:Array (Nat×Operand)}(ho:o.op=.buildSlice t len parts){res:bS}
  (h:(qP E mv dw nv nb nr g o).eval σ=some res) (cA:aJ cf ρ g nv res.lets):gW P E F σ ρ a w g o Q res.upd:=by
 simp only[qP,ho,aA,Vbj,tiR,aV,aH]at h;obtain⟨st,h1,e,h2,ti,h3,ps,h4,_,h5,h⟩:=h;split at h5
 case isFalse=>cases h5
 rename_i hb5;simp only[Vbk,Wb6,Nat.blt_eq]at hb5;obtain⟨⟨hsz1,a4l⟩,zj⟩:=hb5;obtain⟨info,u,f⟩:=aW (hti.ok _ _ h1);obtain rfl:=rJ f h2;obtain⟨jt,u',f'⟩:=aW (hti.ok _ _ h3);split at h
 case h_2=>cases h
 rename_i ls pP;simp only[aA,Vbj,aH]at h;obtain⟨pu,h6,_,h7,fr,h8,_,h9,h⟩:=h;split at h7
 case isFalse=>cases h7
 rename_i rS;split at h9
 case isFalse=>cases h9
 rename_i hb9;simp only[Vbk,Vb9,Xbr,Ybx]at hb9;obtain⟨⟨n2,hmf⟩,hho⟩:=hb9;obtain⟨uv,th⟩:=gU h8
 have main:gOn ρ g=true->∃ dj:Array Value,(execOp a.eval o).run P w=.ok (.value (.slice (some ⟨w.heap.size,0,none⟩) len len)) (pushB w dj e)/\aD σ ρ G w ls dj.toList/\ls.length=len*ti.size:=by
  intro hg;obtain⟨z,lf,nj,-,-⟩:=f'.zeros (σ:=σ) (ρ:=ρ) (G:=G) (w:=w);have hz3:=Qar f' a4l nj len;have fW:(ti.cells.map gB).length=ti.size:=by rw[Wbm,f'.len]
  obtain⟨dj,gA,hl,ji⟩:=Fac (place:=fun i=>some (i*ti.size,ti.size)) (fun i _=>rfl) (Aaj hR hg h4) (ls:=Dbd (ti.cells.map gB) len) (by rw[Fa5,fW]) hz3 pP;refine⟨dj,?_,hl,ji⟩
  ·unfold execOp
   simp only[ho];refine gG ?_;unfold Instr.buildSlice;simp only[Sem.run_bind,run_underlying f.und,Result.andThen_ok,f'.sizeOf]
   have hle:¬ len*ti.size>2 ^ 24:=by
    have:(2:Nat) ^ 24=16777216:=by decide
    omega
   rw[if_neg hle];have e1:(parts.map fun x=>(x.1,a.eval x.2)).toList=parts.toList.map fun x=>(x.1,a.eval x.2):=by simp
   by_cases h0:len*ti.size=0
   ·have zi:Instr.fill (fun i=>some (i*ti.size,ti.size)) ((Array.range (len*ti.size)).map (fun j=>(#[]:Array Value)[j % (#[]:Array Value).size]!)) (parts.map fun x=>(x.1,a.eval x.2)).toList=some dj:=by
     rw[e1,<- gA];congr 1;rw[h0];simp
    simp only[Sem.run_bind,Sem.run_pure,Result.andThen_ok,h0,if_true]at zi ⊢;rw[zi];simp[newRow,pushB]
   ·simp only[Sem.run_bind,if_neg h0,mG f'.info_ lf,Result.andThen_ok,Sem.run_pure]
    rw[e1,gA];simp[newRow,pushB]
 have kf:∀ dj:Array Value,aD σ ρ G w ls dj.toList->pu.xs.length=ls.length/\(∀ j v x,dj.toList[j]?=some v->pu.xs[j]?=some x->Ia6 σ ρ G w pu (0+j) v x):=fun dj hl=>by
  obtain⟨h1,h2,-⟩:=uI hR h6 hl;exact⟨h1,h2⟩
 cases hgg:noG g with
 | false =>
  rw[hgg,cond_false]at h;rw[hgg,Bool.false_or]at rS;simp only[Vbk,Ybx]at rS;obtain⟨⟨hm0,-⟩,zt⟩:=rS;simp only[uK,aC,Vbl]at h;subst h;simp only[Fai,Wbo];refine⟨fun hg=>?_,fun hg=>Kb1 hR hd hg⟩;obtain⟨dj,cC,hl,ji⟩:=main hg;obtain⟨kd,j0⟩:=kf dj hl;obtain⟨d,im,qq⟩:=gJ cA hg;refine oM cC ⟨G,?_⟩
  have fN:=hR.own hd (g:=g) (sv:=.one (.sn [] .no false (.v nv))) (v:=.slice (some ⟨w.heap.size,0,none⟩) len len) (w':=pushB w dj e) (G':=G) (ur:=[]) (f:=fun s p=>.slc s p) (wr:=fun _=>False)
   (by simp) (fun b _=>by cases hb:G.own b<;>rfl) (fun b hb=>hR.frame.fresh b (by rw[lM]at hb;omega)) ⟨rfl,rfl,rfl,by rw[lM];omega⟩ (fun b hb=>.inl (hR.frame.fresh b hb))
   (fun b bj _=>mI (by omega)) (fun _ h=>h.elim) (fun _ _ _ _ _=>rfl) (by simp) (fun _ _ _ _ _ s p q h=>by injection h with h1 h2;exact⟨h1,h2⟩) (fun _ _=>rfl) rfl (fun eC _=>?_) (by simp)
  ·rw[Wbo]at fN
   exact fN
  ·simp only[dC,aB]
   refine⟨⟨rfl,by simp⟩,fun _=>⟨?_,by simp,trivial⟩⟩;simp only[aT.run]at im;split at im
   case isFalse=>cases im
   rename_i yf;simp only[Vbl,Xbh,and_true]at im;rw[qq,<- im];refine .rows _ ⟨w.heap.size,0,none⟩ len len ti.size _ (fun i j=>dj.toList.getD (i*ti.size+j) undef) (Ian _ _ _) (Vb6 _) (.inr rfl) (fun row hr=>?_) (fun i row hi j d hj=>?_) (fun i row hi j d hj=>?_)
   ·obtain⟨i,hi⟩:=Wb8.1 hr
    exact (qJ _ _ _ yf i row hi).2.1
   ·obtain⟨da,eo,gb⟩:=qJ _ _ _ yf i row hi
    have jk:=(Vbn.1 (gb j d hj)).1;refine⟨.inl (hR.frame.fresh _ (Vb6 _)),?_⟩;rw[pM];have ln:i*ti.size+j<dj.toList.length:=by rw[hl.len,<- kd];simpa using jk
    rw[Vby,Vbq ln,<- Xbk,Vbq ln];rfl
   ·obtain⟨da,eo,gb⟩:=qJ _ _ _ yf i row hi
    have jk:=gb j d hj;rw[Wbs,Vb4]at jk;obtain⟨x,pH,rfl⟩:=jk;have ln:i*ti.size+j<dj.toList.length:=by rw[hl.len,<- kd];exact (Vbn.1 pH).1
    have hv:dj.toList[i*ti.size+j]?=some (dj.toList.getD (i*ti.size+j) undef):=by
     rw[Vby,Vbq ln];rfl
    cases j0 _ _ _ hv pH with
    |sc h=>exact .sc h
    |nil z hx hv=>rw[hx,hv];exact Rd.nil
    |mv r m cy hm hr hv nf=>rw[hm0]at hm;simp at hm
    |hole r k m q hm hl hq fR hn nf=>rw[hho]at hm;simp at hm
    | fz nf h =>
     refine h.mono' fun b hb bj=>?_
     rcases hb with hb|⟨r,p,h1,-⟩
     ·exact⟨.inl hb,mI (by omega)⟩
     ·rw[zt]at h1;simp at h1
 | true =>
  obtain rfl:=vM hgg;rw[hgg,cond_true]at h;simp only[uK,aC,Vbl]at h;subst h;simp only[Fai];refine⟨fun hg=>?_,fun hg=>by simp[gOn]at hg⟩;obtain⟨dj,cC,hl,ji⟩:=main hg;obtain⟨kd,j0⟩:=kf dj hl;obtain⟨d,im,qq⟩:=gJ cA hg;generalize hM:min big (pu.depth+1)=M;obtain⟨m1,rfl⟩:∃ m1,M=m1+1:=⟨M-1,by rw[<- hM];unfold big;omega⟩;have hN:w.heap.size=w.heap.size:=rfl
  have hdr:∀ r,(σ (kR r)).isSome->r≠nr:=fun r hr e=>by
   rw[e,hf]at hr;cases hr
  refine oM cC ⟨{ G with own:=fun b=>if b=w.heap.size then .slc nr [] else nS (mkF pu nr (m1+1)) (G.own b),hdr:=fun r=>if r=nr then .slice (some ⟨w.heap.size,0,none⟩) len len else G.hdr r },?_⟩
  have vg:∀ s,s∈pu.frz->∀ p,mkF pu nr (m1+1) s p=.frz:=fun s hs p=>by
   unfold mkF;rw[nD.2 hs,cond_true]
  have hmF:∀ z∈pu.moves,∀ p,mkF pu nr (m1+1) z.2.1 p=zA nr (m1+1) ([z.1]++p):=fun z hz p=>by
   unfold mkF
   have:has pu.frz z.2.1=false:=by
    have:=hmf z hz;simpa using this
   rw[this,cond_false,uP n2 z hz]
  have mT:∀ b,G.own b≠.frz->b<w.heap.size:=fun b hb=>by
   rcases Wbc b w.heap.size with h|h
   ·exact h
   ·exact absurd (hR.frame.fresh b h) hb
  have cP:∀ b,b≠w.heap.size->(pushB w dj e).heap[b]?=w.heap[b]?:=fun b hb=>mI hb
  have ev:∀ {s:Nat} {c:aQ},(kR s,c)∈(kR nr,aQ.root (.v nv) (m1+1) 0 .live)::(pu.moves.map fun z=>(kR z.2.1,aQ.root (.c .hole) 0 0 .gone))++fr ->
    (s=nr/\c=.root (.v nv) (m1+1) 0 .live)\/(∃ z∈pu.moves,s=z.2.1/\c=.root (.c .hole) 0 0 .gone) \/
    (s∈pu.frz/\∃ x m v,c=.root x m v .frozen/\σ (kR s)=some (.root x m v .live)):=by
   intro s c hc
   rcases Vb5.1 hc with hc|hc
   ·rcases Vbu.1 hc with hc|hc
    ·obtain⟨e1,e2⟩:=Xb5 hc
     exact .inl ⟨fJ e1,e2⟩
    ·obtain⟨z,hz,e⟩:=Wb3.1 hc
     obtain⟨e1,e2⟩:=Xb5 e;exact .inr (.inl ⟨z,hz,(fJ e1).symm,e2.symm⟩)
   ·obtain⟨s',ko,x',pd,v',e1,e2,e3⟩:=th _ _ hc
    obtain rfl:=fJ e1;exact .inr (.inr ⟨ko,x',pd,v',e2,e3⟩)
  have ju:σ (kR nr)=none:=hf
  have zg:∀ s,s∈pu.frz->s≠nr:=fun s hs e=>by
   rcases uv s hs with ⟨x',pd,v',h8,-⟩|⟨x',pd,v',h8⟩<;>rw[e,ju]at h8<;>cases h8
  have nq:∀ b,G.own b=.frz->b<w.heap.size->(if b=w.heap.size then Ow.slc nr [] else nS (mkF pu nr (m1+1)) (G.own b))=.frz/\(pushB w dj e).heap[b]?=w.heap[b]?:=fun b hb bj=>by
   rw[if_neg (by omega),hb];exact⟨rfl,cP b (by omega)⟩
  have fb:∀ b s p,G.own b=.slc s p->(if b=w.heap.size then Ow.slc nr [] else nS (mkF pu nr (m1+1)) (G.own b))=mkF pu nr (m1+1) s p/\(pushB w dj e).heap[b]?=w.heap[b]?:=fun b s p hb=>by
   have:=mT b (by rw[hb];simp);rw[if_neg (by omega),hb];exact⟨rfl,cP b (by omega)⟩
  refine hR.own hd (wr:=fun _=>False) (f:=mkF pu nr (m1+1)) ?_ ?_ ?_ ?_ ?_ (fun b bj _=>cP b (by omega)) (fun _ h=>h.elim) ?_ ?_ ?_ ?_ rfl ?_ ?_
  ·intro k c hc
   rcases Vb5.1 hc with hc|hc
   ·rcases Vbu.1 hc with hc|hc
    ·exact⟨nr,(Xb5 hc).1⟩
    ·obtain⟨z,hz,e⟩:=Wb3.1 hc
     exact⟨z.2.1,(Xb5 e).1.symm⟩
   ·obtain⟨s',-,-,-,-,e1,-⟩:=th _ _ hc
    exact⟨s',e1⟩
  ·intro b bj
   show (if b=w.heap.size then Ow.slc nr [] else _)=_
   rw[if_neg (by omega)]
  ·intro b hb
   rw[lM]at hb;show (if b=w.heap.size then Ow.slc nr [] else nS _ (G.own b))=.frz
   rw[if_neg (by omega),hR.frame.fresh b (by omega)];rfl
  ·exact⟨rfl,rfl,rfl,by rw[lM];omega⟩
  ·intro b hb
   show (if b=w.heap.size then Ow.slc nr [] else nS _ (G.own b))=.frz\/∃ r p,(if b=w.heap.size then Ow.slc nr [] else nS _ (G.own b))=.slc r p/\_
   by_cases e:b=w.heap.size
   ·rw[if_pos e];exact .inr ⟨nr,[],rfl,ju⟩
   ·rw[if_neg e,hR.frame.fresh b hb];exact .inl rfl
  ·intro b s p hb il
   unfold mkF
   have h1:has pu.frz s=false:=by
    rw[Aas];intro hs
    rcases uv s hs with ⟨x',pd,v',-,h8⟩|⟨x',pd,v',h8⟩
    ·exact il _ (Vbr _ h8)
    ·exact (hR.root h8).2 b p hb
   have h2:s∉pu.moves.map (·.2.1):=by
    intro hh;obtain⟨z,hz,e⟩:=Wb3.1 hh;refine il (.root (.c .hole) 0 0 .gone) (Vbo _ (Vb1 _ (Wb3.2 ⟨z,hz,?_⟩)));rw[e]
   rw[h1,cond_false,Ha4 h2]
  ·intro s c hc _
   rcases ev hc with ⟨rfl,rfl⟩|⟨z,hz,rfl,rfl⟩|⟨hs,x',pd,v',rfl,h8⟩
   ·exact .inl ⟨ju,_,_,_,_,rfl⟩
   ·exact .inr (.inr (.inl ⟨_,_,_,_,rfl,by simp,by simp⟩))
   ·refine .inr (.inr (.inr ⟨x',pd,v',h8,rfl,fun b p hb=>?_⟩))
    obtain⟨da,eo⟩:=fb b s p hb;exact⟨da.trans (vg s hs p),eo⟩
  ·intro r0 x0 m0 k0 kc s p q' hF
   unfold mkF at hF
   cases hh:has pu.frz s with
   |true=>rw[hh,cond_true]at hF;cases hF
   | false =>
    rw[hh,cond_false]at hF;split at hF
    ·unfold zA at hF
     split at hF
     ·injection hF with j1 j2
      exact absurd j1.symm (hdr r0 (by rw[kc];rfl))
     ·cases hF
    ·injection hF with j1 j2;exact⟨j1,j2⟩
  ·intro r hr
   show (if r=nr then _ else _)=_
   rw[if_neg (hdr r hr)]
  ·intro _ _
   simp only[dC,aB];refine⟨by simp,eP _ _ _ (.inr ⟨_,Vbr _ (Vbo _ Vb7)⟩),rfl⟩
  ·intro _ s c hc _
   rcases ev hc with ⟨rfl,rfl⟩|⟨z,hz,rfl,rfl⟩|⟨hs,x',pd,v',rfl,h8⟩
   ·refine⟨_,_,_,_,rfl,?_⟩
    simp only[bW,if_true];simp only[aT.run]at im;split at im
    case isFalse=>cases im
    rename_i yf;simp only[Vbl,Xbh,and_true]at im;rw[qq,<- im];refine .sl _ ⟨w.heap.size,0,none⟩ len len ti.size _ (fun i j=>dj.toList.getD (i*ti.size+j) undef) (Ian _ _ _) (Vb6 _) (.inl rfl) (fun row hr=>?_) (fun _=>⟨rfl,by simp,fun k hk=>?_⟩) (fun i row hi j d hj=>?_) (fun i row hi j d hj=>?_)
    ·obtain⟨i,hi⟩:=Wb8.1 hr
     exact (qJ _ _ _ yf i row hi).2.1
    ·rw[pM,Oar]
     have:k<dj.size:=by rw[<- Xb9,hl.len,ji];exact hk
     exact⟨dj[k],Wbq this,rfl⟩
    ·obtain⟨da,eo,gb⟩:=qJ _ _ _ yf i row hi
     have jk:=(Vbn.1 (gb j d hj)).1;rw[pM];have ln:i*ti.size+j<dj.toList.length:=by rw[hl.len,<- kd];simpa using jk
     rw[Vby,Vbq ln,<- Xbk,Vbq ln];rfl
    ·obtain⟨da,eo,gb⟩:=qJ _ _ _ yf i row hi
     have jk:=gb j d hj;rw[Wbs,Vb4]at jk;obtain⟨x,pH,rfl⟩:=jk;have ln:i*ti.size+j<dj.toList.length:=by rw[hl.len,<- kd];exact (Vbn.1 pH).1
     have hv:dj.toList[i*ti.size+j]?=some (dj.toList.getD (i*ti.size+j) undef):=by
      rw[Vby,Vbq ln];rfl
     have si:=j0 _ _ _ hv pH;rw[Nat.zero_add]at si;refine si.rp hR (by unfold big at hM;omega) nq (fun s' m2 x8 b t hb=>?_) (fun s' q' nn=>by rw[hho]at nn;simp at nn) (fun s' ko b p hb=>?_)
     ·obtain⟨mz,na⟩:=fb b s' t hb
      refine⟨mz.trans ?_,na⟩;rw[hmF _ x8,zA];simp only[Vbw,Xbd,Wby];by_cases ht:t.length<m1
      ·rw[if_pos ht,if_pos (by omega)]
      ·rw[if_neg ht,if_neg (by omega)]
     ·obtain⟨mz,na⟩:=fb b s' p hb
      exact⟨mz.trans (vg s' ko p),na⟩
   ·exact⟨_,_,_,_,rfl,trivial⟩
   ·refine⟨x',pd,v',.frozen,rfl,?_,fun b p hb=>?_⟩
    ·have:=hR.root h8
     simp only[bW]at this ⊢;rw[if_neg (zg s hs)];refine this.rd.mono' fun b hb bj=>?_
     rcases hb with hb|⟨p,hb⟩
     ·exact nq b hb bj
     ·obtain⟨mz,na⟩:=fb b s p hb
      exact⟨mz.trans (vg s hs p),na⟩
    ·have fg:(if b=w.heap.size then Ow.slc nr [] else nS (mkF pu nr (m1+1)) (G.own b))=.slc s p:=hb
     split at fg
     ·injection fg with j1 _
      exact zg s hs j1.symm
     ·cases e:G.own b with
      | slc s' p' =>
       rw[e]at fg;have fY:mkF pu nr (m1+1) s' p'=.slc s p:=fg;by_cases ko:s'∈pu.frz
       ·rw[vg s' ko]at fY;cases fY
       ·unfold mkF at fY
        rw[Aas.2 ko,cond_false]at fY;split at fY
        ·unfold zA at fY
         split at fY
         ·injection fY with j1 j2;exact zg s hs j1.symm
         ·cases fY
        ·injection fY with j1 j2;exact ko (j1▸hs)
      |_=>rw[e]at fg;cases fg
end
def jA (vs:Nat->Nat->Value)(n sz:Nat):List Value:=(List.range (n*sz)).map fun k=>vs (k / sz) (k % sz)
theorem lT (vs:Nat->Nat->Value)(n sz:Nat):(jA vs n sz).length=n*sz:=by simp[jA]
theorem nE (vs:Nat->Nat->Value){n sz i j:Nat}(hi:i<n)(hj:j<sz):(jA vs n sz)[i*sz+j]?=some (vs i j):=by
 have bj:i*sz+j<n*sz:=by
  have:=Wbr sz (show i+1<=n by omega);rw[Wb7]at this;omega
 unfold jA;rw[Wbs,Yb4 bj,Wb5];rw[Ybk i sz,Ybr (by omega),Ybg hj,Nat.mul_add_mod,Nat.mod_eq_of_lt hj,Wbv]
theorem zB {vs:Nat->Nat->Value}{n sz k:Nat}{u:Value}(h:(jA vs n sz)[k]?=some u):k / sz<n/\k % sz<sz/\k=k / sz*sz+k % sz/\u=vs (k / sz) (k % sz):=by
 have bj:k<n*sz:=by
  have:=(Vbn.1 h).1;rwa[lT]at this
 have dh:0<sz:=by
  rcases Nat.eq_zero_or_pos sz with e|e
  ·rw[e]at bj;simp at bj
  ·exact e
 refine⟨(Nat.div_lt_iff_lt_mul dh).2 bj,Nat.mod_lt _ dh,?_,?_⟩
 ·rw[Ybk];exact (Nat.div_add_mod k sz).symm
 ·unfold jA at h
  rw[Wbs,Yb4 bj,Wb5]at h;exact (Wbk h).symm
section
variable {P:Program} {E:Env} {F:bK} {n:Nat} {σ:Nat->Option aQ} {ρ:List D} {a:Act} {w w':World} {G G':Gh} {g:Option (aI×Bool)} {o:Oper} {cf:Nat->List D->Option (List D)} {Q:Exit->Act->World->Prop} {next:Act->World->Prop}
theorem sO {rs:List (List D)}{sz:Nat}{b:Addr}{vs:Nat->Nat->Value}(dh:∀ r∈rs,r.length=sz)
  (cE:∀ i row,rs[i]?=some row->∀ j d,row[j]?=some d->w.cell? (b.add (i*sz+j))=some (vs i j)):∀ k u,(jA vs rs.length sz)[k]?=some u->w.cell? (b.add k)=some u:=by
 intro k u h;obtain⟨h1,h2,h3,rfl⟩:=zB h;have hr:rs[k / sz]?=some rs[k / sz]:=Vbq h1;have hl:=dh _ (Vb3 hr);have hd:rs[k / sz][k % sz]?=some (rs[k / sz][k % sz]'(by omega)):=Vbq (by omega);have:=cE _ _ hr _ _ hd;rwa[<- h3]at this
structure Lb3 (w w1:World) (G:Gh) (A:Option Addr) (n n' cap sz:Nat) (olds news:List Value) (v:Value) (A':Option Addr) (cb:Addr) (jh:Nat) (grow:Bool):Prop where
 val:v=.slice A' (n+n') jh
 aval:A'=some cb\/(A'=none/\jh=0)
 le:n+n'<=jh
 os:w1.os=w.os/\w1.tape=w.tape/\w1.output=w.output
 size:w1.heap.size=w.heap.size+(if grow=true then 1 else 0)
 heap:∀ b,b<w.heap.size->(grow=true\/A'=none\/b≠cb.block)->w1.heap[b]?=w.heap[b]?
 cell:∀ k u,(olds++news)[k]?=some u->w1.cell? (cb.add k)=some u
 all:∀ k,k<jh*sz->∃ u,w1.cell? (cb.add k)=some u/\fzq w1 (cb.add k)=false
 spot:cb.spot=none
 base:(grow=true/\A'=some cb/\cb.block=w.heap.size)\/(grow=false/\A'=some cb/\A=some cb)\/(grow=false/\A'=none)
theorem Law {t tx e:TypeId}{ti:TI}{info:TypeInfo}{u u':TypeDesc}{x y:Operand}{args:Array Operand}{argTypes:Array TypeId}(ho:o.op=.call { callee:=.builtin .append,args,argTypes })
  (ez:args.toList=[x,y]) (lE:argTypes=#[t,tx]) (hu:P.underlying t=some (.slice e)) (f:dF P e ti info u) (hx:P.underlying tx=some u') (rK:∃ e',u'=.slice e')
  {A:Option Addr} {n cap n':Nat} {b:Addr} {olds news:List Value} (hxv:a.eval x=.slice A n cap) (zf:n<=cap) (hA:(A=some b/\b.spot=none)\/(A=none/\cap=0))
  (xw:olds.length=n*ti.size) (tq:∀ k u,olds[k]?=some u->w.cell? (b.add k)=some u) (cT:A=some b->∀ k,k<cap*ti.size->∃ u,w.cell? (b.add k)=some u/\fzq w (b.add k)=false)
  {By:Option Addr} {by':Addr} {mA:Nat} (hyv:a.eval y=.slice By n' mA) (hBy:n'=0\/By=some by') (vq:news.length=n'*ti.size) (zk:∀ k u,news[k]?=some u->w.cell? (by'.add k)=some u) (om:∀ u∈news,u.oneCell'=true)
  (hb0:0<ti.bytes) (hs0:0<ti.size) (fa:(n+n')*ti.bytes<=iL) :
  ∃ v w1 A' cb jh grow,(execOp a.eval o).run P w=.ok (.value v) w1/\Lb3 w w1 G A n n' cap ti.size olds news v A' cb jh grow:=by
 obtain⟨e',rfl⟩:=rK
 have lj:Src P ti.size tx (.slice By n' mA) n' news w:=by
  rcases hBy with rfl|rfl
  ·have:news=[]:=Xbi (by simpa using vq)
   subst this
   cases By with
   |none=>exact Src.ofNil w hx mA
   |some b1=>exact Src.ofSlice w hx b1 0 mA [] (by simp) (by simp) (by simp)
  ·exact Src.ofSlice w hx by' n' mA news vq zk om
 have kv:∀ {v:Value} {w1:World},(Builtin.append_ #[t,tx] o.type #[.slice A n cap,.slice By n' mA]).run P w=.ok v w1->(execOp a.eval o).run P w=.ok (.value v) w1:=by
  intro v w1 h;refine mY ho (s:=Builtin.append_ argTypes o.type (args.map a.eval)) (fun _=>rfl) ?_;rw[Ebw ez,Gbz,hxv,hyv,lE];exact h
 have dh:info.size=ti.size:=f.size.symm;have zj:info.bytes=ti.bytes:=f.bytes.symm;by_cases eu:n+n'<=cap
 ·rcases hA with ⟨rfl,gk⟩|⟨rfl,h0⟩
  ·
   have hbb:b=⟨b.block,b.off,none⟩:=by cases b;simp only at gk;subst gk;rfl
   have dv:∀ j,j<news.length->∃ u,w.cell? ⟨b.block,b.off+n*ti.size+j,none⟩=some u/\w.frozen? ⟨b.block,b.off+n*ti.size+j,none⟩=false:=fun j hj=>by
    have:=cT rfl (n*ti.size+j) (by
     have:=Wbr ti.size eu;rw[Wb7]at this
     omega)
    rw[add_plain gk,<- Vb8]at this;exact this.imp fun u h=>⟨h.1,xG h.2 rfl⟩
   have cC:=run_append_room_src (P:=P) w t tx o.type e info hu f.info_ b.block b.off n cap (.slice By n' mA) n' news (by rw[dh];exact lj) eu
    (fun j hj=>by rw[dh];obtain⟨u,h1,-⟩:=dv j hj;rw[h1];rfl) (fun j hj=>by rw[dh];exact (dv j hj).choose_spec.2)
   rw[<- hbb,dh]at cC;refine⟨_,_,some b,b,cap,false,kv cC,rfl,.inl rfl,eu,dI _ _ _ _,by rw[setCells_size];simp,fun b' _ fg=>?_,fun k u hk=>?_,fun k hk=>?_,gk,.inr (.inl ⟨rfl,rfl,rfl⟩)⟩
   ·rcases fg with fg|fg|fg
    ·cases fg
    ·cases fg
    ·exact bI _ _ _ _ _ fg
   ·by_cases bj:k<olds.length
    ·rw[Vb2 bj]at hk
     rw[add_plain gk,World.cell?_setCells_out _ _ _ _ _ (fun _ _=>.inl (by dsimp only;omega)),<- add_plain gk];exact tq k u hk
    ·rw[Vbz (by omega)]at hk
     have qm:=(Vbn.1 hk).1;have:=World.cell?_setCells_in b.block news (b.off+n*ti.size) w (fun j hj=>by obtain⟨u,h1,-⟩:=dv j hj;rw[h1];rfl) (k-olds.length) qm;rw[show b.off+n*ti.size+(k-olds.length)=b.off+k by omega]at this;rw[add_plain gk,this,<- hk,Vbq]
   ·obtain⟨u0,ru,zt⟩:=cT rfl k hk
    rw[eZ];obtain⟨u1,hu1⟩:=dS (B:=b.block) (o:=b.off+n*ti.size) (vs:=news) (b:=b.add k) (fun _=>by rw[add_plain gk]) (fun j hj=>by obtain⟨u,h1,-⟩:=dv j hj;rw[h1];rfl) ru;exact⟨u1,hu1,zt⟩
  ·
   have sa:n=0:=by omega
   have a4w:n'=0:=by omega
   subst sa a4w h0;have:news=[]:=Xbi (by simpa using vq);subst this;have:olds=[]:=Xbi (by simpa using xw);subst this;refine⟨_,_,none,⟨0,0,none⟩,0,false,kv (run_append_nothing w t tx o.type e info hu f.info_ none 0 0 (Vb6 _) _ (by rw[dh];exact lj)),rfl,.inr ⟨rfl,rfl⟩,Vb6 _,⟨rfl,rfl,rfl⟩,by simp,fun _ _ _=>rfl,by simp,by simp,rfl,.inr (.inr ⟨rfl,rfl⟩)⟩
 ·
  obtain⟨z,lf,nj,-,-⟩:=f.zeros (σ:=fun _=>none) (ρ:=[]) (G:=G) (w:=w);have ue:z.cells.size=ti.size:=by rw[<- Xb9,nj.len,Wbm,f.len]
  have hold:(Builtin.firstCells info.size n (.slice A n cap)).run P w.drew=.ok olds.toArray w.drew:=by
   rcases hA with ⟨rfl,gk⟩|⟨rfl,h0⟩
   ·exact run_firstCells_some w.drew info.size n b n cap olds (by rw[dh];exact xw) (fun j u hj=>tq j u hj)
   ·have sa:n=0:=by omega
    subst sa;have:olds=[]:=Xbi (by simpa using xw);subst this;rfl
  have h1:(n+n')*1<=(n+n')*ti.bytes:=Nat.mul_le_mul_left _ hb0;have xf:=nextslicecap_le (show cap<n+n' by omega)
  have qh:Builtin.nextslicecap (n+n') cap*info.bytes<=281474976710656:=by
   rw[zj];have h2:=Wbr ti.bytes xf;rw[Nat.mul_assoc]at h2;unfold iL at fa;omega
  have cC:=run_append_grow_src (P:=P) w t tx o.type e info z hu f.info_ lf A n cap olds hold (.slice By n' mA) n' news (by rw[dh];exact lj) (by omega) (by unfold iL at fa;omega) qh;have n4:=grownCap_ge w (n+n') cap e;generalize hgc:grownCap w (n+n') cap e=gc at cC n4
  have ny:∀ b',b'≠w.heap.size->(w.drew.alloc (.cells ((olds++news).toArray++Builtin.zeroCells z.cells (gc-(n+n'))) e)).heap[b']?=w.heap[b']?:=fun b' fg=>by
   show (w.heap.push _)[b']?=_
   rw[Ybo,if_neg fg]
  have gE:(w.drew.alloc (.cells ((olds++news).toArray++Builtin.zeroCells z.cells (gc-(n+n'))) e)).heap[w.heap.size]?=some (.cells ((olds++news).toArray++Builtin.zeroCells z.cells (gc-(n+n'))) e (0,0)):=by
   show (w.heap.push _)[w.heap.size]?=_
   rw[Ybo,if_pos rfl]
  have cE:∀ k,(w.drew.alloc (.cells ((olds++news).toArray++Builtin.zeroCells z.cells (gc-(n+n'))) e)).cell? ((⟨w.heap.size,0,none⟩:Addr).add k)=((olds++news).toArray++Builtin.zeroCells z.cells (gc-(n+n')))[k]?:=fun k=>by
   unfold World.cell?;rw[add_block,gE];simp[Addr.add];split<;>simp_all
  refine⟨_,_,some ⟨w.heap.size,0,none⟩,⟨w.heap.size,0,none⟩,gc,true,kv cC,rfl,.inl rfl,n4,⟨rfl,rfl,rfl⟩,by show (w.heap.push _).size=_;rw[Array.size_push,if_pos rfl],fun b' bj _=>ny b' (by omega),fun k u hk=>?_,fun k hk=>?_,rfl,.inl ⟨rfl,rfl,rfl⟩⟩
  ·have bj:=(Vbn.1 hk).1
   rw[cE,Array.getElem?_append_left (by simpa using bj)];simpa using hk
  ·have ox:((olds++news).toArray++Builtin.zeroCells z.cells (gc-(n+n'))).size=gc*ti.size:=by
    simp only[Array.size_append,List.size_toArray,Vbw,Builtin.zeroCells,Array.size_map,Array.size_range];rw[xw,vq,ue,<- Wb7,<- Wb7];congr 1;omega
   rw[cE];refine⟨_,Wbq (by omega),?_⟩;unfold fzq;rw[add_block,gE];simp
end
section
variable {P:Program} {E:Env} {F:bK} {n:Nat} {σ:Nat->Option aQ} {ρ:List D} {a:Act} {w w':World} {G G':Gh} {g:Option (aI×Bool)} {o:Oper} {cf:Nat->List D->Option (List D)} {Q:Exit->Act->World->Prop} {next:Act->World->Prop}
structure Side (w:World) (v:Value) (rs:List (List D)) (sz:Nat) (A:Option Addr) (b:Addr) (n cap:Nat) (vs:Nat->Nat->Value):Prop where
 val:v=.slice A n cap
 len:rs.length=n
 le:n<=cap
 rows:∀ r∈rs,r.length=sz
 cell:∀ i row,rs[i]?=some row->∀ j d,row[j]?=some d->w.cell? (b.add (i*sz+j))=some (vs i j)
def ChY (G:Gh)(w:World)(l9:List Nat)(my:Option Nat)(dy:Nat)(v:Value)(d:D)(idx:Nat):Prop :=
 Sc v d\/(∃ s,my=some s/\2<=dy/\Rp G.own w s [idx] (dy-1) v d)\/(dy=1/\Rd (fun b=>G.own b=.frz\/∃ r p,r∈l9/\G.own b=.slc r p) w v d)
structure YOk (σ:Nat->Option aQ) (G:Gh) (w:World) (fl:Bool) (v:Value) (rb:List (List D)) (sz dy:Nat) (gz:List (Nat×aQ)) (ry:List Nat) (l9:List Nat) (my:Option Nat):Prop where
 side:∃ A b n cap vs,Side w v rb sz A b n cap vs/\(n=0\/A=some b)/\∀ i row,rb[i]?=some row->∀ j d,row[j]?=some d->ChY G w l9 my dy (vs i j) d (i*sz+j)
 upd:∀ k c,(k,c)∈gz->∃ s,k=kR s/\s∈ry/\((my=some s/\c=.root (.c .hole) 0 0 .gone/\∃ x m cy,σ (kR s)=some (.root x m cy .live))\/(s∈l9/\∃ x m cy,c=.root x m cy .frozen/\σ (kR s)=some (.root x m cy .live)))
 fz:∀ s∈l9,s∈ry/\((∃ c,(kR s,c)∈gz)\/∃ x m cy,σ (kR s)=some (.root x m cy .frozen))
 mv:∀ s,my=some s->s∈ry/\(∃ c,(kR s,c)∈gz)/\s∉l9
 dy:1<=dy
 flat:fl=true->gz=[]/\l9=[]/\my=none
theorem Rd.side {ok:Nat->Prop}{v:Value}{sz:Nat}{rs:List (List D)}(h:Rd ok w v (.rows sz rs)):∃ A b n cap vs,Side w v rs sz A b n cap vs/\(n=0\/A=some b)/\∀ i row,rs[i]?=some row->∀ j d,row[j]?=some d->Rd ok w (vs i j) d:=by
 obtain⟨A,b,n,c,vs,e1,e2,e3,e4,e5,e6,e7⟩:=h.inv;exact⟨A,b,n,c,vs,⟨e1,e2,e3,e5,fun i row hi j d hj=>(e6 i row hi j d hj).2⟩,e4,e7⟩
theorem Obx (hR:R E.ntmps F σ ρ a w G){fl:Bool}{y:SlR}{v:Value}(hy:Wav σ ρ G w y v){sz:Nat}{rb:List (List D)}(hx:y.x.val ρ=.rows sz rb)(gA:fl=true->∀ r∈rb,∀ d∈r,d.isSc=true)
  {dy:Nat} {gz:List (Nat×aQ)} {ry:List Nat} (h:(Sa8 fl y).eval σ=some (dy,gz,ry)):∃ l9 my,YOk σ G w fl v rb sz dy gz ry l9 my:=by
 have jc:=hy.rd;rw[hx]at jc;unfold Sa8 at h
 cases fl with
 | true =>
  simp only[cond_true,aC,Vbl,Wbd]at h;obtain⟨rfl,rfl,rfl⟩:=h;refine⟨[],none,?_,by simp,by simp,by simp,by decide,fun _=>⟨rfl,rfl,rfl⟩⟩;obtain⟨A,b,n,c,vs,h1,h2,h3⟩:=jc.side;exact⟨A,b,n,c,vs,h1,h2,fun i row hi j d hj=>.inl ((h3 i row hi j d hj).sc_inv (gA rfl row (Vb3 hi) d (Vb3 hj)))⟩
 | false =>
  simp only[cond_false]at h;have cu:=hy.own;unfold vQ at cu
  have frozen:∀ rs fr,(dV rs).eval σ=some fr->Rd (fun b=>G.own b=.frz\/∃ r p,r∈rs/\G.own b=.slc r p) w v (.rows sz rb)->YOk σ G w false v rb sz 1 fr rs rs none:=by
   intro rs fr eC jc;obtain⟨h1,h2⟩:=gU eC;refine⟨?_,fun k c hc=>?_,fun s hs=>⟨hs,?_⟩,by simp,Vb6 _,by simp⟩
   ·obtain⟨A,b,n,c,vs,h3,h4,h5⟩:=jc.side
    exact⟨A,b,n,c,vs,h3,h4,fun i row hi j d hj=>.inr (.inr ⟨rfl,h5 i row hi j d hj⟩)⟩
   ·obtain⟨s,hs,x,m,cy,e1,e2,e3⟩:=h2 k c hc
    exact⟨s,e1,hs,.inr ⟨hs,x,m,cy,e2,e3⟩⟩
   ·rcases h1 s hs with ⟨x,m,cy,e1,e2⟩|h3
    ·exact .inl ⟨_,e2⟩
    ·exact .inr h3
  split at h
  ·rename_i r k m ho
   rw[ho]at cu;obtain⟨h1,⟨x,h2⟩,h3,h4,h5⟩:=cu;simp only[bB,Wbu,List.length_nil,Nat.sub_zero]at h4;rw[hx]at h4
   cases hb:Nat.ble 2 m with
   | true =>
    rw[hb]at h;simp only[cond_true,aC,Vbl,Wbd]at h;obtain⟨rfl,rfl,rfl⟩:=h;simp only[Wb6]at hb;obtain⟨m',rfl⟩:∃ m',m=m'+1:=⟨m-1,by omega⟩;obtain⟨A,b,n,c,vs,e1,e2,e3,e4,e5,e6,e7,e8⟩:=h4.sl_inv;refine⟨[],some r,⟨A,b,n,c,vs,⟨e1,e2,e3,e5,e7⟩,?_,fun i row hi j d hj=>.inr (.inl ⟨r,rfl,hb,by simpa using e8 i row hi j d hj⟩)⟩,fun k' c' hc=>?_,by simp,fun s hs=>?_,by omega,by simp⟩
    ·rcases e4 with e4|⟨e4,r7⟩
     ·exact .inr e4
     ·exact .inl (by omega)
    ·simp only[Vbp,Wbd]at hc
     exact⟨r,hc.1,by simp,.inl ⟨rfl,hc.2,x,_,k,h2⟩⟩
    ·obtain rfl:=Wbk hs
     exact⟨by simp,⟨_,Vbp.2 rfl⟩,by simp⟩
   | false =>
    rw[hb]at h;simp only[cond_false,aC,Vbl,Wbd]at h;obtain⟨rfl,rfl,rfl⟩:=h
    have hm:m<=1:=by
     have:¬ 2<=m:=by rw[<- Wb6,hb];simp
     omega
    refine⟨[],none,?_,by simp,by simp,by simp,Vb6 _,by simp⟩
    rcases Nat.eq_zero_or_pos m with rfl|nu
    ·obtain⟨A,b,n,c,vs,h6,h7,h8⟩:=h4.zero.side
     exact⟨A,b,n,c,vs,h6,h7,fun i row hi j d hj=>.inr (.inr ⟨rfl,(h8 i row hi j d hj).mono fun b hb=>⟨.inl hb,rfl⟩⟩)⟩
    ·obtain rfl:m=0+1:=by omega
     obtain⟨A,b,n,c,vs,e1,e2,e3,e4,e5,e6,e7,e8⟩:=h4.sl_inv;refine⟨A,b,n,c,vs,⟨e1,e2,e3,e5,e7⟩,?_,fun i row hi j d hj=>.inr (.inr ⟨rfl,(e8 i row hi j d hj).zero.mono fun b hb=>⟨.inl hb,rfl⟩⟩)⟩
     rcases e4 with e4|⟨e4,r7⟩
     ·exact .inr e4
     ·exact .inl (by omega)
  ·rename_i r k m p cU ho
   rw[ho]at cu;simp only[aA,Vbj,aC,Vbl,Wbd]at h;obtain⟨fr,h6,rfl,rfl,rfl⟩:=h;refine⟨[r],none,frozen _ _ h6 ?_⟩;refine jc.mono fun b hb=>⟨hb.imp id fun ⟨r',k',p',h7,h8⟩=>?_,rfl⟩
   rw[cu.1]at h7;simp only[Vbp,Wbd]at h7;exact⟨r,p',by simp,h7.1▸h8⟩
  ·split at h
   ·rename_i z hz
    simp only[aC,Vbl,Wbd]at h;obtain⟨rfl,rfl,rfl⟩:=h;rw[hz]at hx;simp only[aI.val,D.rows.injEq]at hx;obtain⟨rfl,rfl⟩:=hx;refine⟨[],none,?_,by simp,by simp,by simp,by decide,by simp⟩;obtain⟨A,b,n,c,vs,h1,h2,h3⟩:=jc.side;exact⟨A,b,n,c,vs,h1,h2,by simp⟩
   ·simp only[aA,Vbj,aC,Vbl,Wbd]at h
    obtain⟨fr,h6,rfl,rfl,rfl⟩:=h;refine⟨y.deps.map (·.1),none,frozen _ _ h6 ?_⟩;exact jc.mono fun b hb=>⟨hb.imp id fun ⟨r',k',p',h7,h8⟩=>⟨r',p',Xbf (f:=fun x:Nat×Nat=>x.1) h7,h8⟩,rfl⟩
end
end Go.Proofs.YtgpamlpecmldfaaGreat.Rf
