/- Terms for the program's functions, and that they are right: part 3 of 9. -/
import Derived.Test.YtdpfilpckndhcaaGreatDoorRf2
import Derived.Laws.IdiomCopy
import Derived.Deep.Upon
open Array renaming getElem?_eq_getElem → Rb0, getElem?_toList → Sbi, length_toList → Tbg, getElem?_push → Ubf, ext' → Ubh
open Bool renaming and_eq_true → Qbq, not_eq_true' → Rbe
open List renaming length_append → Qbs, length_cons → Qbt, mem_append_left → Qbv, mem_append_right → Qby, getElem?_eq_getElem → Qbz, append_assoc → Qb1, mem_cons_of_mem → Qb2, getElem?_cons_zero → Qb4, getD_eq_getElem?_getD → Qb5, mem_singleton → Qb6, mem_cons_self → Qb7, mem_of_getElem? → Rba, getElem?_append_right → Rbb, getElem?_append_left → Rbc, length_map → Rbf, all_eq_true → Rbg, map_cons → Rbh, append_nil → Rbm, map_nil → Rbq, getElem?_map → Rbu, eq_nil_of_length_eq_zero → Rbx, getElem?_cons_succ → Rbz, getElem?_drop → Rb4, nil_append → Rb9, getElem?_take → Sbb, length_singleton → Sbf, cons_append → Sbk, mem_map_of_mem → Sbl, foldl_cons → Sby, getElem?_set → Sb1, mem_or_eq_of_mem_set → Sb2, any_eq_false → Tbj, isEmpty_iff → Tb0, singleton_append → Tb2, ext_getElem? → Tb5, getElem?_range → Tb9
open Nat renaming le_refl → Qbw, add_assoc → Rbi, lt_or_ge → Rbj, beq_eq → Rbv, add_zero → Rby, ble_eq → Rb8, mul_le_mul_right → Sbd, add_mul → Sbv
open Option renaming bind_eq_some_iff → Qbp, bind_some → Qb3, map_eq_some_iff → Qb8, map_some → Rb5, isNone_iff_eq_none → Tbh
set_option linter.unusedSimpArgs false
set_option linter.unusedVariables false
set_option linter.unnecessarySimpa false
set_option linter.unusedSectionVars false
namespace Go.Proofs.YtdpfilpckndhcaaGreatDoor.Rf
set_option linter.unusedVariables false
set_option linter.unusedSimpArgs false
theorem fE (b:Nat):∀ (vs:List Value) (o:Nat) (w:World) (k:Nat),k≠b->(w.setCells b o vs).heap[k]?=w.heap[k]?
 |[],_,_,_,_=>rfl
 | v :: r, o, w, k, h => by
  rw[World.setCells,fE b r _ _ k h]
  exact heap_setCell_other w _ k v h
theorem setCells_size (b:Nat):∀ (vs:List Value) (o:Nat) (w:World),(w.setCells b o vs).heap.size=w.heap.size
 |[],_,_=>rfl
 |v::r,o,w=>by rw[World.setCells,setCells_size b r];exact World.size_setCell ..
theorem nC (b:Nat):∀ (vs:List Value) (o:Nat) (w:World),(w.setCells b o vs).os=w.os/\(w.setCells b o vs).tape=w.tape/\(w.setCells b o vs).output=w.output
 |[],_,_=>⟨rfl,rfl,rfl⟩
 |v::r,o,w=>by rw[World.setCells];exact nC b r (o+1) _
theorem Cat (b:Nat):∀ (vs:List Value) (o:Nat) (w:World) (c:Array Value) (e:TypeId) (fr:Nat×Nat),w.heap[b]?=some (.cells c e fr) ->
  ∃ c',(w.setCells b o vs).heap[b]?=some (.cells c' e fr)/\c'.size=c.size/\∀ k,k<o\/o+vs.length<=k->c'[k]?=c[k]?
 |[],o,w,c,e,fr,h=>⟨c,h,rfl,fun _ _=>rfl⟩
 | v :: r, o, w, c, e, fr, h => by
  have h1:(w.setCell ⟨b,o,none⟩ v).heap[b]?=some (.cells (c.setIfInBounds o v) e fr):=by
   simp[World.setCell,Array.getElem?_modify,h]
  obtain⟨c',h2,h3,h4⟩:=Cat b r (o+1) _ _ e fr h1
  refine⟨c',h2,by simpa using h3,fun k hk=>?_⟩
  simp only[Qbt]at hk
  rw[h4 k (by omega),Array.getElem?_setIfInBounds_ne (by omega)]
section
variable {P:Program} {E:Env} {F:bU} {σ:Nat->Option aU} {ρ:List D} {a:Act} {w w':World} {G:Gh} {g:Option (aM×Bool)} {o:Oper} {cf:Nat->List D->Option (List D)} {Q:Exit->Act->World->Prop} {next:Act->World->Prop}
theorem Fav {t:TypeId}{i:TI}{info:TypeInfo}{u:TypeDesc}(f:dQ P t i info u){b off:Nat}{v:Value}(hl:v.cells.toList.length=i.size)
  (hc:∀ j,j<i.size->∃ u,w.cell? ⟨b,off+j,none⟩=some u) (hf:∀ j,j<i.size->w.frozen? ⟨b,off+j,none⟩=false) (h1:∀ x∈v.cells.toList,x.oneCell'=true) :
  (storeVar t ⟨b,off,none⟩ v).run P w=.ok () (w.setCells b off v.cells.toList):=by
 unfold storeVar
 rw[Sem.run_bind,f.sizeOf]
 simp only[Result.andThen_ok]
 have:¬ v.cells.size≠i.size:=by simpa using hl
 rw[if_neg this]
 have h2:=run_storeCells_cells (P:=P) b off v.cells.toList 0 w (fun j hj=>by
  obtain⟨u,hu⟩:=hc j (by omega)
  rw[Rby,hu];rfl) (fun j hj=>by rw[Rby];exact hf j (by omega)) h1
 rw[Rby]at h2
 simpa using h2
theorem aB.one {l:aW}{v:Value}(h:aB σ ρ G w l v)(hs:Oa3 l=true):v.oneCell'=true:=by
 cases l with
 |dead=>simpa[aB] using h
 |sc x=>simp only[aB]at h;exact h.one
 |su g x=>simp[Oa3]at hs
 |ex r=>simp only[aB]at h;exact h.2.2
 |sn deps p nie x=>simp only[aB]at h;exact h.1.1
 |px b off=>simp only[aB]at h;rw[h.1];rfl
 |pe l sz i off=>simp only[aB]at h;obtain⟨_,_,_,_,_,_,_,_,_,e⟩:=h;rw[e];rfl
 |rp deps sz x=>simp only[aB]at h;exact h.1.1
 |pn=>simp only[aB]at h;rw[h];rfl
 |clo f caps=>simp only[aB]at h;obtain⟨_,e,_⟩:=h;rw[e];rfl
theorem aD.ones {ls:List aW}{vs:List Value}(h:aD σ ρ G w ls vs)(hs:ls.all Oa3=true):∀ v∈vs,v.oneCell'=true:=by
 intro v hv
 obtain⟨i,hi⟩:=List.mem_iff_getElem?.1 hv
 have hlt:i<ls.length:=by
  rw[<- h.len]
  exact (List.getElem?_eq_some_iff.1 hi).1
 have hl:ls[i]?=some ls[i]:=Qbz hlt
 obtain⟨v',h1,h2⟩:=h.get hl
 rw[hi]at h1
 obtain rfl:=Option.some.inj h1
 rw[Rbg]at hs
 exact h2.one (hs _ (Rba hl))
theorem yY {v:Value}(h:v.oneCell'=true):v.cells=#[v]:=by cases v<;>first|rfl|(simp[Value.oneCell']at h)
theorem aB.cells {l:aW}{v:Value}(h:aB σ ρ G w l v):v.cells=#[v]:=by
 by_cases hs:Oa3 l=true
 ·exact yY (h.one hs)
 ·cases l<;>first|(simp[Oa3]at hs;done)|skip
  simp only[aB]at h
  rcases h.1 with h1|⟨rfl,-⟩
  ·exact yY h1.one
  ·rfl
theorem jC {agg:Bool}{sv:SV}{ls:List aW}{v:Value}(h:kP agg sv=some ls)(hv:dV σ ρ G w sv v):aD σ ρ G w ls v.cells.toList:=by
 unfold kP at h
 split at h
 ·rename_i l
  cases agg with
  |true=>cases h
  | false =>
   obtain rfl:=Option.some.inj h
   rw[aB.cells hv]
   simp only[aD]
   exact⟨v,[],rfl,hv,rfl⟩
 ·rename_i ms
  cases agg with
  |false=>cases h
  | true =>
   obtain rfl:=Option.some.inj h
   obtain⟨vs,rfl,h1⟩:=hv
   simpa[Value.cells] using h1
 ·cases h
def pushB (w:World)(c:Array Value)(e:TypeId):World:={ w with heap:=w.heap.push (.cells c e (0,0)) }
theorem nI {c:Array Value}{e:TypeId}{b:Nat}(h:b≠w.heap.size):(pushB w c e).heap[b]?=w.heap[b]?:=by
 unfold pushB
 rw[Ubf,if_neg h]
theorem Pas {c:Array Value}{e:TypeId}:(pushB w c e).heap[w.heap.size]?=some (.cells c e (0,0)):=by
 unfold pushB
 rw[Ubf,if_pos rfl]
theorem mJ {c:Array Value}{e:TypeId}:(pushB w c e).heap.size=w.heap.size+1:=by
 unfold pushB
 simp
theorem qX {c:Array Value}{e:TypeId}(j:Nat):(pushB w c e).cell? ((⟨w.heap.size,0,none⟩:Addr).add j)=c[j]?:=by
 unfold World.cell?
 rw[add_block,Pas]
 simp[Addr.add]
 split<;>simp_all
theorem yV {c:Array Value}{e:TypeId}(j:Nat):(pushB w c e).frozen? ((⟨w.heap.size,0,none⟩:Addr).add j)=false:=by
 unfold World.frozen?
 rw[add_block,Pas]
 simp
theorem oK.push (h:oK F G w)(c:Array Value)(e:TypeId){G':Gh}(ho:∀ b,b≠w.heap.size->G'.own b=G.own b\/((∃ r p,G.own b=.slc r p))):oK F G' (pushB w c e):=by
 refine⟨h.os,h.tape,h.output,by rw[mJ];have:=h.size;omega,fun b hb hf=>?_,fun b j hb hj=>?_,fun b hb=>?_⟩
 ·have hne:b≠w.heap.size:=by have:=h.size;omega
  obtain⟨h1,h2⟩:=h.keep b hb hf
  refine⟨by rw[nI hne];exact h1,?_⟩
  rcases ho b hne with h3|⟨r,p,h3⟩
  ·rw[h3];exact h2
  ·rw[h3]at h2
   rw[<- h2]at hf
   rcases hf with hf|hf<;>cases hf
 ·have hne:b≠w.heap.size:=by have:=h.size;omega
  obtain⟨h1,c0,c1,e',fr,h2,h3,h4⟩:=h.boxes b j hb hj
  refine⟨?_,c0,c1,e',fr,h2,by rw[nI hne];exact h3,h4⟩
  rcases ho b hne with h5|⟨r,p,h5⟩
  ·rw[h5];exact h1
  ·rw[h5]at h1;cases h1
 ·rw[mJ]at hb
  have hne:b≠w.heap.size:=by omega
  rcases ho b hne with h5|⟨r,p,h5⟩
  ·rw[h5];exact h.fresh b (by omega)
  ·rw[h.fresh b (by omega)]at h5;cases h5
def Aa5 (G:Gh)(w:World)(nb:Nat):Gh:={ G with own:=fun b=>if b=w.heap.size then .box nb else G.own b,bx:=fun b=>if b=nb then ⟨w.heap.size,0,none⟩ else G.bx b }
structure Eae (σ:Nat->Option aU) (nb nr:Nat):Prop where
 nb:σ (kB nb)=none
 nr:∀ j,nr<=j->j<nr+dM->σ (kR j)=none
theorem Kaq {e:TypeId}{v:Value}:(newVar e v).run P w=.ok ⟨w.heap.size,0,none⟩ (pushB w v.cells e):=by
 simp[newVar,newRow,pushB]
theorem Eb7 {u0:List (Nat×aU)}{nb:Nat}{ls:List aW}(r:Nat)(h:∀ k c,(k,c)∈u0->∃ t,k=kT t):upds σ (u0++[(kB nb,aU.box false ls)]) (kR r)=σ (kR r):=by
 refine fV _ _ _ fun c hc=>?_
 rcases List.mem_append.1 hc with hc|hc
 ·obtain⟨t,e⟩:=h _ _ hc
  exact jE e.symm
 ·simp only[Qb6,Prod.mk.injEq]at hc
  exact gV hc.1.symm
theorem Ia1 (o:Oper)(g:Option (aM×Bool))(v:SV):∀ k c,(k,c)∈fB o g v->∃ t,k=kT t:=by
 intro k c h
 unfold fB at h
 split at h
 ·rename_i d _
  simp only[Qb6,Prod.mk.injEq]at h
  exact⟨d,h.1⟩
 ·simp at h
theorem Aaz {o:Oper}{g:Option (aM×Bool)}{v:SV}{k:Nat}{c:aU}(h:(k,c)∈fB o g v):∃ d,o.dst=some d/\k=kT d/\c=.slot g v:=by
 unfold fB at h
 split at h
 ·rename_i d hd
  simp only[Qb6,Prod.mk.injEq]at h
  exact⟨d,hd,h.1,h.2⟩
 ·simp at h
theorem Gat {n:Nat}{gh:Nat->Value}{v:Value}{g:Option (aM×Bool)}{sv:SV}{u1:List (Nat×aU)}{t:Nat}(h:∀ c,(kT t,c)∉fB o g sv++u1):Cab n (a.put o.dst v) gh t=Cab n a gh t:=by
 cases e:o.dst with
 |none=>rfl
 | some d =>
  refine Hai _ _ _ _ _ _ fun e'=>h (.slot g sv) ?_
  refine Qbv _ ?_
  unfold fB
  rw[e,e']
  exact List.mem_singleton.2 rfl
theorem R.newBox (h:R E.ntmps F σ ρ a w G)(hd:gM E.ntmps o){nb:Nat}(hf:σ (kB nb)=none){cs:Array Value}{ty:TypeId}{ls:List aW}(hl:aD σ ρ G w ls cs.toList) :
  R E.ntmps F (upds σ (fB o none (.one (.px nb 0))++[(kB nb,.box false ls)])) ρ (a.put o.dst (.pointer (some ⟨w.heap.size,0,none⟩))) (pushB w cs ty) (Aa5 G w nb):=by
 have hne:∀ b,G.own b≠.frz->b≠w.heap.size:=fun b hb e=>hb (h.frame.fresh b (by omega))
 have hkeys:=Ia1 o none (.one (.px nb 0))
 have hR:∀ r,upds σ (fB o none (.one (.px nb 0))++[(kB nb,aU.box false ls)]) (kR r)=σ (kR r):=fun r=>Eb7 r hkeys
 have hfr:Fr σ G w (upds σ (fB o none (.one (.px nb 0))++[(kB nb,.box false ls)])) (Aa5 G w nb) (pushB w cs ty):=by
  refine⟨fun b hb hlt=>?_,fun r k _ hv=>?_,fun r k hk=>hk.same hR,fun r k b p _ _ hb=>?_,fun r k m _ hv=>⟨?_,fun b p hb=>?_⟩,fun _ _=>rfl,fun b hb=>?_,fun k hk=>fI _ _ _ (.inl hk),fun r x m k _ b p hb=>?_⟩
  ·have hn:b≠w.heap.size:=by omega
   exact⟨by simp only[Aa5,if_neg hn];exact hb,nI hn⟩
  ·obtain⟨x,m,st,e,hs⟩:=hv
   exact⟨x,m,st,by rw[<- hR];exact e,hs⟩
  ·have hn:=hne b (by rw[hb];simp)
   exact⟨.inl (by simp only[Aa5,if_neg hn];exact hb),nI hn⟩
  ·obtain⟨x,e⟩:=hv
   exact⟨x,by rw[<- hR];exact e⟩
  ·have hn:=hne b (by rw[hb];simp)
   simp only[Aa5,if_neg hn];exact hb
  ·have:b≠nb:=fun e=>by rw[e,hf]at hb;cases hb
   simp only[Aa5,if_neg this]
  ·by_cases hn:b=w.heap.size
   ·simp only[Aa5,if_pos hn]at hb;cases hb
   ·simp only[Aa5,if_neg hn]at hb;exact hb
 refine h.upd _ hfr (by rw[Ca7];exact h.tmps) (by rw[put_defers];exact h.defers) (h.frame.push cs ty fun b hb=>.inl (by simp only[Aa5,if_neg hb])) (fun t ht=>Gat ht) (fun b ro bs hb _=>?_) (fun b bs hb hlt ho=>?_) (fun k c hk hk'=>?_)
 ·obtain⟨_,h2,_⟩:=h.box hb
  have hn:=hne (G.bx b).block (by rw[h2];split<;>simp)
  exact⟨by simp only[Aa5,if_neg hn],nI hn⟩
 ·rcases List.mem_append.1 hb with hb|hb
  ·obtain⟨t,e⟩:=hkeys _ _ hb
   exact absurd e.symm oP
  ·simp only[Qb6,Prod.mk.injEq]at hb
   obtain rfl:=Fa2 hb.1
   simp only[Aa5,if_true]at hlt
   have:=h.frame.size
   omega
 ·rcases List.mem_append.1 hk with hk|hk
  ·obtain⟨d,hd',rfl,rfl⟩:=Aaz hk
   refine⟨d,rfl,fun _=>?_⟩
   rw[hd',qZ _ _ _ _ _ (hd d hd') h.tmps]
   simp only[dV,aB,Aa5,if_true]
   exact⟨by simp[Addr.add],fI _ _ _ (.inr ⟨_,Qby _ (List.mem_singleton.2 rfl)⟩)⟩
  ·simp only[Qb6,Prod.mk.injEq]at hk
   obtain⟨rfl,rfl⟩:=hk
   refine⟨nb,rfl,by simp[Aa5],by simp[Aa5],fun j l hj=>?_⟩
   obtain⟨v,h1,h2⟩:=hl.get hj
   refine⟨v,?_,?_,aB.mono hfr l v h2⟩
   ·simp only[Aa5,if_true]
    rw[qX]
    simpa using h1
   ·simp only[Aa5,if_true]
    exact yV j
theorem Xa0 (hR:R E.ntmps F σ ρ a w G)(hd:gM E.ntmps o)(hti:yA P E.ti){nv nb nr:Nat}{mv mvs:Bool}(hf:Eae σ nb nr){e:TypeId}{x:Operand}(ho:o.op=.box e x){res:dD}
  (h:(tJ E mv mvs nv nb nr g o).eval σ=some res) (hs:aQ cf ρ g nv res.lets):iP P E F σ ρ a w g o Q res.upd:=by
 simp only[tJ,ho,aA,Qbp,tiR,bA]at h
 obtain⟨ti,h1,sv,h2,h⟩:=h
 split at h
 ·rename_i ls hls
  simp only[aA,Qbp,aL]at h
  obtain⟨_,h3,h⟩:=h
  split at h3
  ·rename_i hb
   simp only[Qbq]at hb
   obtain rfl:=zA hb.1.2
   simp only[wP,aC,Option.some.injEq]at h
   subst h
   refine⟨fun hg=>?_,fun hg=>by simp[gOn]at hg⟩
   have h4:=jC hls (iC hR hg h2)
   refine qF (v:=.pointer (some ⟨w.heap.size,0,none⟩)) (w':=pushB w (a.eval x).cells e) ?_ ⟨_,hR.newBox hd hf.nb h4⟩
   unfold execOp
   simp only[ho]
   refine gX ?_
   simp only[Instr.box,Sem.run_bind,Kaq,Result.andThen_ok,Sem.run_pure]
  ·cases h3
 ·cases h
theorem Lav {v:Value}{c:CK}(h:zeroCell v c=true):aB σ ρ G w (gU c) v:=by
 unfold zeroCell at h
 split at h
 ·simp only[Qbq,decide_eq_true_eq]at h
  obtain⟨⟨rfl,rfl⟩,rfl⟩:=h
  simp only[gU,aB,aM.val]
  exact .int _ _
 ·simp only[Qbq,decide_eq_true_eq]at h
  obtain⟨rfl,rfl⟩:=h
  simp only[gU,aB,aM.val]
  exact .bool _
 ·rename_i s l
  simp only[Qbq,decide_eq_true_eq]at h
  obtain⟨h1,rfl⟩:=h
  simp only[gU,aB,aM.val]
  have:=Sc.str s.data.toList
  rw[h1]at this
  have e:s=⟨[].toArray⟩:=by
   apply ByteArray.ext
   apply Ubh
   simpa using h1
  rw[e]
  exact this
 ·simp only[gU,aB]
  refine⟨⟨rfl,by simp⟩,fun _=>⟨?_,fun _ z _=>trivial,trivial⟩⟩
  exact .rows none ⟨0,0,none⟩ 0 0 _ [] (fun _ _=>undef) rfl (Qbw _) (.inl rfl) (by simp) (by simp) (by simp)
 ·simp only[gU,aB]
 ·cases h
theorem Fao {v:Value}{c:CK}(h:zeroCell v c=true):v.oneCell'=true:=by
 unfold zeroCell at h
 split at h<;>first|rfl|cases h
theorem dQ.zeros {t:TypeId}{i:TI}{info:TypeInfo}{u:TypeDesc}(f:dQ P t i info u):∃ z,info.zero=some z/\aD σ ρ G w (i.cells.map gU) z.cells.toList /\
  (∀ x∈z.cells.toList,x.oneCell'=true)/\(∀ (j:Nat) (x:Value) (c:CK),z.cells[j]?=some x->i.cells[j]?=some c->zeroCell x c=true):=by
 have h:=f.zero
 unfold Tao at h
 split at h
 ·rename_i vs cs heq
  simp only[Qbq,beq_iff_eq,Rbg]at h
  obtain⟨h1,h2⟩:=h
  have hz:∀ (j:Nat) (x:Value) (c:CK),vs[j]?=some x->i.cells[j]?=some c->zeroCell x c=true:=by
   intro j x c hx hc
   exact h2 (x,c) (Rba (i:=j) (by
    rw[List.getElem?_zip_eq_some]
    exact⟨by simpa using hx,hc⟩))
  refine⟨_,heq,.of_get (by simpa[Value.cells] using h1) fun j l v hj hv=>?_,fun x hx=>?_,hz⟩
  ·simp only[Rbu,Qb8]at hj
   obtain⟨c,hc,rfl⟩:=hj
   exact Lav (hz j v c (by simpa[Value.cells] using hv) hc)
  ·obtain⟨j,hj⟩:=List.mem_iff_getElem?.1 hx
   have hlt:j<i.cells.length:=by
    rw[<- h1]
    simpa[Value.cells] using (List.getElem?_eq_some_iff.1 hj).1
   exact Fao (hz j x _ (by simpa[Value.cells] using hj) (Qbz hlt))
 ·rename_i v c _ hz hcs
  have h1:=Fao h
  refine⟨v,hz,?_,fun x hx=>?_,fun j x c' hx hc=>?_⟩
  ·rw[hcs,yY h1]
   simp only[Rbh,Rbq,aD]
   exact⟨v,[],rfl,Lav h,rfl⟩
  ·rw[yY h1]at hx
   simp only[Qb6]at hx
   rw[hx];exact h1
  ·rw[yY h1]at hx
   rw[hcs]at hc
   cases j with
   | zero =>
    simp only[Qb4,Option.some.injEq]at hc
    simp at hx
    rw[<- hx,<- hc];exact h
   |succ j=>simp at hc
 ·cases h
theorem nD {t:TypeId}{info:TypeInfo}{z:Value}(h:P.info? t=some info)(hz:info.zero=some z):(zeroValue t).run P w=.ok z w:=by
 simp[zeroValue,typeInfo,h,hz]
theorem Ra7 (hR:R E.ntmps F σ ρ a w G)(hd:gM E.ntmps o)(hti:yA P E.ti){nv nb nr:Nat}{mv mvs:Bool}(hf:Eae σ nb nr){e:TypeId}(ho:o.op=.alloc e){res:dD}
  (h:(tJ E mv mvs nv nb nr g o).eval σ=some res) (hs:aQ cf ρ g nv res.lets):iP P E F σ ρ a w g o Q res.upd:=by
 simp only[tJ,ho,aA,Qbp,tiR,bA,aL]at h
 obtain⟨ti,h1,_,h2,h⟩:=h
 split at h2
 ·rename_i hb
  obtain rfl:=zA hb
  simp only[wP,aC,Option.some.injEq]at h
  subst h
  refine⟨fun hg=>?_,fun hg=>by simp[gOn]at hg⟩
  obtain⟨info,u,f⟩:=bB (hti.ok _ _ h1)
  obtain⟨z,h3,h4,h5,-⟩:=f.zeros (σ:=σ) (ρ:=ρ) (G:=G) (w:=w)
  refine qF (v:=.pointer (some ⟨w.heap.size,0,none⟩)) (w':=pushB w z.cells e) ?_ ⟨_,hR.newBox hd hf.nb h4⟩
  unfold execOp
  simp only[ho]
  refine gX ?_
  simp only[Instr.alloc,Sem.run_bind,nD f.info_ h3,Kaq,Result.andThen_ok,Sem.run_pure]
 ·cases h2
theorem mH {α:Type}{l:List α}{k:Nat}{r:List α}(h:k+r.length<=l.length):(setRange l k r).length=l.length:=by
 simp[setRange];omega
theorem jB {α:Type}{l:List α}{k:Nat}{r:List α}(h:k+r.length<=l.length)(j:Nat):(setRange l k r)[j]?=if k<=j/\j<k+r.length then r[j-k]? else l[j]?:=by
 unfold setRange
 by_cases h1:j<k
 ·rw[Qb1,Rbc (by simp;omega),Sbb,if_pos h1,if_neg (by omega)]
 ·by_cases h2:j<k+r.length
  ·rw[if_pos ⟨by omega,h2⟩,Qb1,Rbb (by simp;omega),Rbc (by simp;omega)]
   congr 1
   simp;omega
  ·rw[if_neg (by omega),Rbb (by simp;omega),Rb4]
   congr 1
   simp;omega
theorem Paf {α:Type}{l:List α}{k:Nat}{v:α}{r:List α}(h:k+(v::r).length<=l.length):setRange (l.set k v) (k+1) r=setRange l k (v::r):=by
 simp only[Qbt]at h
 apply Tb5
 intro j
 rw[jB (by simp;omega),jB (by simp;omega)]
 by_cases h1:k+1<=j/\j<k+1+r.length
 ·rw[if_pos h1,if_pos (by simp;omega),show j-k=(j-(k+1))+1 by omega,Rbz]
 ·rw[if_neg h1,Sb1]
  by_cases h2:k=j
  ·subst h2
   rw[if_pos rfl,if_pos (by omega),if_pos (by simp)]
   simp
  ·rw[if_neg h2,if_neg (by simp;omega)]
theorem Uas (off:Nat):∀ (vs:List Value) (k:Nat) (cells:Array Value),off+k+vs.length<=cells.size ->
  ((vs.zipIdx k).foldl (fun cs x=>cs.setIfInBounds (off+x.2) x.1) cells).toList=setRange cells.toList (off+k) vs
 |[],k,cells,h=>by simp[setRange]
 | v :: r, k, cells, h => by
  simp only[Qbt]at h
  simp only[List.zipIdx_cons,Sby]
  rw[Uas off r (k+1) _ (by simp;omega),Array.toList_setIfInBounds,<- Rbi,Paf (by simp;omega)]
theorem aD.setRange {ls ms:List aW}{us xs:List Value}(h:aD σ ρ G w ls us)(h':aD σ ρ G w ms xs){k:Nat}(hk:k+ms.length<=ls.length):aD σ ρ G w (setRange ls k ms) (setRange us k xs):=by
 have e1:=h.len
 have e2:=h'.len
 refine .of_get (by rw[mH (by omega),mH hk,e1]) fun i l v hi hv=>?_
 rw[jB hk]at hi
 rw[jB (by omega)]at hv
 rw[e2]at hv
 split at hi
 ·rename_i hh
  rw[if_pos hh]at hv
  obtain⟨v',h1,h2⟩:=h'.get hi
  rw[h1]at hv
  exact Option.some.inj hv▸h2
 ·rename_i hh
  rw[if_neg hh]at hv
  obtain⟨v',h1,h2⟩:=h.get hi
  rw[h1]at hv
  exact Option.some.inj hv▸h2
theorem Qaq {place:Nat->Option (Nat×Nat)}{cells:Array Value}{i off size:Nat}{v:Value}{rest:List (Nat×Value)}(hp:place i=some (off,size))(hs:v.cells.toList.length=size)(hb:off+size<=cells.size) :
  ∃ cells':Array Value,Instr.fill place cells ((i,v)::rest)=Instr.fill place cells' rest/\cells'.toList=setRange cells.toList off v.cells.toList:=by
 refine⟨v.cells.zipIdx.foldl (fun cs (x:Value×Nat)=>cs.setIfInBounds (off+x.2) x.1) cells,?_,?_⟩
 ·rw[Instr.fill,hp]
  dsimp only
  have:v.cells.size=size:=by simpa using hs
  rw[if_neg]
  simp only[this]
  simp
  omega
 ·have:=Uas off v.cells.toList 0 cells (by simpa[hs] using hb)
  rw[Rby]at this
  rw[<- this,<- Array.foldl_toList,Array.toList_zipIdx]
def Hab (σ:Nat->Option aU)(ρ:List D)(G:Gh)(w:World)(a:Act):List (Nat×Operand)->List (Nat×SV)->Prop
 |[],ps=>ps=[]
 |x::xs,ps=>∃ sv qs,ps=(x.1,sv)::qs/\dV σ ρ G w sv (a.eval x.2)/\Hab σ ρ G w a xs qs
theorem Bat (hR:R E.ntmps F σ ρ a w G)(hg:gOn ρ g=true){ty:Nat->TypeId}:∀ {xs:List (Nat×Operand)} {ps:List (Nat×SV)},(Ea1 E g ty xs).eval σ=some ps ->
  Hab σ ρ G w a xs ps
 | [], ps, h => by
  simp only[Ea1,aC,Option.some.injEq]at h
  subst h
  exact rfl
 | (i, x) :: xs, ps, h => by
  simp only[Ea1,aA,Qbp,aC,Option.some.injEq]at h
  obtain⟨sv,h1,l,h2,rfl⟩:=h
  exact⟨sv,l,rfl,iC hR hg h1,Bat hR hg h2⟩
theorem Baj {flds:List (Nat×Nat)}{place:Nat->Option (Nat×Nat)}(hpl:∀ i off t f,flds[i]?=some (off,t)->E.ti t=some f->place i=some (off,f.size)) :
  ∀ {xs:List (Nat×Operand)} {ps:List (Nat×SV)},Hab σ ρ G w a xs ps->∀ {ls ls':List aW} {us:Array Value},aD σ ρ G w ls us.toList->vL flds E.ti ls ps=some ls' ->
  ∃ us',Instr.fill place us (xs.map fun x=>(x.1,a.eval x.2))=some us'/\aD σ ρ G w ls' us'.toList
 | [], _, rfl, ls, ls', us, hl, h => by
  simp only[vL,Option.some.injEq]at h
  subst h
  exact⟨us,rfl,hl⟩
 | (i, x) :: xs, _, ⟨sv, ps, rfl, h1, hr⟩, ls, ls', us, hl, h => by
  unfold vL at h
  split at h
  ·rename_i off t hfl
   split at h
   ·rename_i f hf
    split at h
    ·rename_i vs hvs
     cases hb:(Nat.beq vs.length f.size&&Nat.ble (off+f.size) ls.length) with
     |false=>rw[hb]at h;cases h
     | true =>
      rw[hb,cond_true]at h
      simp only[Qbq,Rbv,Rb8]at hb
      have h2:=jC hvs h1
      have hlen:=hl.len
      obtain⟨us1,h3,h4⟩:=Qaq (rest:=xs.map fun x=>(x.1,a.eval x.2)) (hpl _ _ _ _ hfl hf) (by rw[h2.len];exact hb.1) (by rw[<- Tbg,hlen];exact hb.2)
      obtain⟨us',h5,h6⟩:=Baj hpl hr (us:=us1) (by rw[h4];exact hl.setRange h2 (by rw[hb.1];exact hb.2)) h
      exact⟨us',by rw[Rbh,h3];exact h5,h6⟩
    ·cases h
   ·cases h
  ·cases h
theorem Cax {α β:Type}(f:α->Sem β)(g:α->β):∀ (l:List α),(∀ x∈l,(f x).run P w=.ok (g x) w)->(l.mapM f).run P w=.ok (l.map g) w
 |[],_=>by simp
 | x :: l, h => by
  rw[List.mapM_cons,Sem.run_bind,h x (by simp)]
  simp only[Result.andThen_ok]
  rw[Sem.run_bind,Cax f g l fun y hy=>h y (by simp[hy])]
  simp
theorem Bab {α β:Type}(f:α->Sem β)(g:α->β)(l:Array α)(h:∀ x∈l.toList,(f x).run P w=.ok (g x) w):(l.mapM f).run P w=.ok (l.map g) w:=by
 rw[Array.mapM_eq_mapM_toList,map_eq_pure_bind,Sem.run_bind,Cax f g _ h]
 simp only[Result.andThen_ok,Sem.run_pure]
 congr 1
 apply Ubh
 simp
theorem zO {α β:Type}(f:List β->α->Option (List β)):∀ (l:List α),l.foldl (fun acc x=>acc.bind fun r=>f r x) none=none
 |[]=>rfl
 |x::l=>by rw[Sby];exact zO f l
theorem Bag {α β:Type}(f:List β->α->Option (List β)):∀ (l:List α) (r0 r:List β),l.foldl (fun acc x=>acc.bind fun r=>f r x) (some r0)=some r->∀ x∈l,∃ r1 r2,f r1 x=some r2
 |[],_,_,_,x,hx=>by simp at hx
 | y :: l, r0, r, h, x, hx => by
  rw[Sby,Qb3]at h
  cases hf:f r0 y with
  |none=>rw[hf,zO]at h;cases h
  | some r1 =>
   rcases List.mem_cons.1 hx with rfl|hx
   ·exact⟨r0,r1,hf⟩
   ·rw[hf]at h
    exact Bag f l r1 r h x hx
theorem Abq {d:Nat}{t:TypeId}{l:List TypeId}(h:flat P d t=some l):∃ i,P.info? t=some i:=by
 cases d with
 |zero=>cases h
 | succ d =>
  unfold flat at h
  unfold Program.underlying at h
  cases hi:P.info? t with
  |none=>rw[hi]at h;cases h
  |some i=>exact⟨i,rfl⟩
theorem Wak {d:Nat}{t:TypeId}{l:List TypeId}{fs:Array Field}(h:flat P (d+1) t=some l)(hu:P.underlying t=some (.struct fs)):∀ f∈fs.toList,∃ i,P.info? f.type=some i:=by
 unfold flat at h
 rw[hu]at h
 dsimp only at h
 intro f hf
 obtain⟨r1,r2,h1⟩:=Bag _ _ _ _ h f hf
 cases hm:flat P d f.type with
 |none=>rw[hm]at h1;cases h1
 |some m=>exact Abq hm
theorem dQ.struct {t:TypeId}{i:TI}{info:TypeInfo}{u:TypeDesc}(f:dQ P t i info u)(h:i.agg=true):∃ fs,u=.struct fs/\∀ fd∈fs.toList,∃ i,P.info? fd.type=some i:=by
 rw[f.agg]at h
 have hc:=f.cells
 cases hfl:flat P 12 t with
 |none=>rw[hfl]at hc;cases hc
 | some l =>
  unfold Ja5 at h
  split at h
  ·rename_i fs
   exact⟨fs,rfl,Wak hfl f.und⟩
  ·unfold flat at hfl
   rw[f.und]at hfl
   cases hfl
  ·cases h
theorem Ra6 (hR:R E.ntmps F σ ρ a w G)(hd:gM E.ntmps o)(hti:yA P E.ti){nv nb nr:Nat}{mv mvs:Bool}{t:TypeId}{parts:Array (Nat×Operand)}(ho:o.op=.build t parts){res:dD}
  (h:(tJ E mv mvs nv nb nr g o).eval σ=some res) (hs:aQ cf ρ g nv res.lets):iP P E F σ ρ a w g o Q res.upd:=by
 simp only[tJ,ho,aA,Qbp,tiR,bA,aL]at h
 obtain⟨ti,h1,_,h2,ps,h3,h⟩:=h
 split at h2
 ·rename_i hagg
  obtain⟨info,u,f⟩:=bB (hti.ok _ _ h1)
  obtain⟨fs,rfl,hfs⟩:=f.struct hagg
  split at h
  ·rename_i ls hls
   refine eH hR hd h hs fun hg _=>?_
   obtain⟨z,h4,h5,-,-⟩:=f.zeros (σ:=σ) (ρ:=ρ) (G:=G) (w:=w)
   have hpl:∀ (i off t':Nat) (f':TI),ti.flds[i]?=some (off,t')->E.ti t'=some f'->(fs.map fun fd=>(fd.offset,((P.info? fd.type).map (·.size)).getD 0))[i]?=some (off,f'.size):=by
    intro i off t' f' hfl hf'
    obtain⟨fs',fd,e1,e2,e3,e4⟩:=Naz f hfl
    obtain rfl:fs=fs':=by injection e1
    obtain⟨info',u',ff⟩:=bB (hti.ok _ _ hf')
    rw[Array.getElem?_map,e2,Rb5,e3,e4,ff.info_]
    simp[ff.size]
   obtain⟨us',h6,h7⟩:=Baj hpl (Bat hR hg h3) (us:=z.cells) h5 hls
   refine⟨.agg us',⟨us'.toList,by simp,h7⟩,?_⟩
   unfold execOp
   simp only[ho]
   refine gX ?_
   have hm:=Bab (P:=P) (w:=w) (fun fd:Field=>(do pure (fd.offset,<- sizeOf fd.type):Sem (Nat×Nat))) (fun fd=>(fd.offset,((P.info? fd.type).map (·.size)).getD 0)) fs (fun fd hfd=>by
    obtain⟨i,hi⟩:=hfs fd hfd
    simp only[Sem.run_bind,run_sizeOf hi,Result.andThen_ok,Sem.run_pure,hi,Rb5,Option.getD_some])
   unfold Instr.build
   simp only[Sem.run_bind,nD f.info_ h4,Result.andThen_ok,run_underlying f.und]
   rw[hm]
   have e:(parts.map fun x=>(x.1,a.eval x.2)).toList=parts.toList.map fun x=>(x.1,a.eval x.2):=by simp
   simp only[Result.andThen_ok]
   rw[e,h6]
   rfl
  ·cases h
 ·cases h2
end
end Go.Proofs.YtdpfilpckndhcaaGreatDoor.Rf

namespace Go.Proofs.YtdpfilpckndhcaaGreatDoor.Rf
set_option linter.unusedVariables false
set_option linter.unusedSimpArgs false
section
variable {P:Program} {E:Env} {F:bU} {σ:Nat->Option aU} {ρ:List D} {a:Act} {w w':World} {G:Gh} {g:Option (aM×Bool)} {o:Oper} {cf:Nat->List D->Option (List D)} {Q:Exit->Act->World->Prop} {next:Act->World->Prop}
theorem add_plain {b:Addr}(h:b.spot=none)(k:Nat):b.add k=⟨b.block,b.off+k,none⟩:=by
 cases b
 simp only at h
 subst h
 unfold Addr.add
 split<;>simp_all
theorem oK.write (h:oK F G w){B off:Nat}{vs:List Value}{ow:Ow}(ho:G.own B=ow)(hz:ow≠.frz/\ow≠.oth)
  (hb:∀ b,ow=.box b->B<F.w0.heap.size->F.own0 B=.box b->(F.rng b).1<=off/\off+vs.length<=(F.rng b).2):oK F G (w.setCells B off vs):=by
 obtain⟨e1,e2,e3⟩:=nC B vs off w
 refine⟨by rw[e1];exact h.os,by rw[e2];exact h.tape,by rw[e3];exact h.output,by rw[setCells_size];exact h.size,fun b hlt hf=>?_,fun b j hlt hj=>?_,fun b hlt=>?_⟩
 ·obtain⟨h1,h2⟩:=h.keep b hlt hf
  have hne:b≠B:=by
   rintro rfl
   rw[ho]at h2
   rw[<- h2]at hf
   rcases hf with hf|hf
   ·exact hz.1 hf
   ·exact hz.2 hf
  exact⟨by rw[fE B vs off w b hne];exact h1,h2⟩
 ·obtain⟨h1,c0,c1,e,fr,h2,h3,h4,h5⟩:=h.boxes b j hlt hj
  refine⟨h1,c0,?_⟩
  by_cases hne:b=B
  ·subst hne
   obtain⟨c',h6,h7,h8⟩:=Cat b vs off w c1 e fr h3
   refine⟨c',e,fr,h2,h6,by rw[h7];exact h4,fun k hk=>?_⟩
   have hj':ow=.box j:=by rw[<- ho];exact h1
   obtain⟨h9,h10⟩:=hb j hj' hlt hj
   rw[h8 k (by omega)]
   exact h5 k hk
  ·exact⟨c1,e,fr,h2,by rw[fE B vs off w b hne];exact h3,h4,h5⟩
 ·rw[setCells_size]at hlt
  exact h.fresh b hlt
theorem Jat (hR:R E.ntmps F σ ρ a w G)(hti:yA P E.ti){nv:Nat}{mv mvs:Bool}{t:TypeId}{x y:Operand}(ho:o.op=.store t x y){ti:TI}(hi:E.ti t=some ti){b off:Nat}{ls:List aW}{sv:SV}
  (hx:gOn ρ g=true->aB σ ρ G w (.px b off) (a.eval x)) (hy:gOn ρ g=true->dV σ ρ G w sv (a.eval y)) (hls:kP ti.agg sv=some ls) {res:dD}
  (h:(Ean nv mv mvs o g ti (.px b off) ls).eval σ=some res):iP P E F σ ρ a w g o Q res.upd:=by
 simp only[Ean,aA,aL,Qbp,aV,Qb3]at h
 obtain⟨_,h1,h⟩:=h
 split at h1
 ·rename_i hb1
  simp only[Qbq,Rbv,Tbh]at hb1
  obtain⟨hlen,hdst⟩:=hb1
  split at h
  ·rename_i bs hk
   simp only[aA,aL,Qbp]at h
   obtain⟨_,h2,h⟩:=h
   split at h2
   ·rename_i hb2
    simp only[Qbq,Rb8]at hb2
    obtain⟨⟨hle,hg0⟩,hst⟩:=hb2
    obtain rfl:=zA hg0
    simp only[aC,Option.some.injEq]at h
    subst h
    refine⟨fun hg=>?_,fun hg=>by simp[gOn]at hg⟩
    obtain⟨info,u,f⟩:=bB (hti.ok _ _ hi)
    have hl:=jC hls (hy hg)
    have hl1:=hl.ones hst
    have hll:=hl.len
    have hpx:=hx hg
    simp only[aB]at hpx
    obtain⟨h3,h4,h5⟩:=hR.box hk
    have h4:G.own (G.bx b).block=.box b:=by simpa using h4
    generalize hvs:(a.eval y).cells.toList=vs at hl hl1 hll
    have hcell:∀ j,off<=j->j<off+ls.length->∃ v,w.cell? ⟨(G.bx b).block,(G.bx b).off+j,none⟩=some v/\w.frozen? ⟨(G.bx b).block,(G.bx b).off+j,none⟩=false:=by
     intro j hj1 hj2
     have hbj:bs[j]?=some bs[j]:=Qbz (by omega)
     obtain⟨v,h6,h7,-⟩:=h5 j _ hbj
     rw[add_plain h3]at h6 h7
     exact⟨v,h6,h7⟩
    have hrun:(execOp a.eval o).run P w=.ok .skip (w.setCells (G.bx b).block ((G.bx b).off+off) vs):=by
     unfold execOp
     simp only[ho]
     have:=Fav (P:=P) (w:=w) f (b:=(G.bx b).block) (off:=(G.bx b).off+off) (v:=a.eval y) (by rw[hvs];omega)
      (fun j hj=>by
       obtain⟨v,h6,-⟩:=hcell (off+j) (by omega) (by omega)
       exact⟨v,by rw[Rbi];exact h6⟩)
      (fun j hj=>by
       obtain⟨v,-,h6⟩:=hcell (off+j) (by omega) (by omega)
       rw[Rbi];exact h6) (by rw[hvs];exact hl1)
     simp only[Instr.storeAt,Instr.sureAddr,Sem.run_bind,hpx.1,Sem.run_pure,Result.andThen_ok,add_plain h3,this,hvs]
    refine Tap hrun ⟨G,?_⟩
    have hne:∀ b',G.own b'≠.box b->b'≠(G.bx b).block:=fun b' hb e=>hb (by rw[e];exact h4)
    have hkR:∀ r,upds σ [(kB b,aU.box false (setRange bs off ls))] (kR r)=σ (kR r):=fun r=>by
     refine fV _ _ _ fun c hc=>?_
     simp only[Qb6,Prod.mk.injEq]at hc
     exact gV hc.1.symm
    have hfr:Fr σ G w (upds σ [(kB b,aU.box false (setRange bs off ls))]) G (w.setCells (G.bx b).block ((G.bx b).off+off) vs):=by
     refine⟨fun b' hb hlt=>⟨hb,fE _ _ _ _ _ (hne b' (by rw[hb];simp))⟩,fun r k _ hv=>?_,fun r k hk=>hk.same hkR,fun r k b' p _ _ hb=>⟨.inl hb,fE _ _ _ _ _ (hne b' (by rw[hb];simp))⟩,
      fun r k m _ hv=>⟨?_,fun b' p hb=>hb⟩,fun _ _=>rfl,fun _ _=>rfl,fun k hk=>fI _ _ _ (.inl hk),fun _ _ _ _ _ _ _ hb=>hb⟩
     ·obtain⟨x',m,st,e,hs⟩:=hv
      exact⟨x',m,st,by rw[<- hkR];exact e,hs⟩
     ·obtain⟨x',e⟩:=hv
      exact⟨x',by rw[<- hkR];exact e⟩
    have hsl:(setRange bs off ls).length=bs.length:=mH hle
    rw[hdst]
    refine hR.upd _ hfr hR.tmps hR.defers (hR.frame.write h4 (by simp) fun b' e hlt ho'=>?_) (fun t _=>rfl) (fun b' ro ls' hb' hnot=>?_) (fun b' ls' hb' hlt ho'=>?_) (fun k c hk1 hk2=>?_)
    ·obtain rfl:b=b':=by injection e
     have:=hR.rng b bs hk hlt ho'
     rw[this]
     dsimp only
     omega
    ·refine⟨rfl,fE _ _ _ _ _ (hne _ ?_)⟩
     obtain⟨_,h6,_⟩:=hR.box hb'
     rw[h6]
     split
     ·simp
     ·intro e
      obtain rfl:b'=b:=by injection e
      exact hnot _ (List.mem_singleton.2 rfl)
    ·simp only[Qb6,Prod.mk.injEq,aU.box.injEq,true_and]at hb'
     obtain⟨e,rfl⟩:=hb'
     obtain rfl:=Fa2 e
     rw[hsl]
     exact hR.rng b' bs hk hlt ho'
    ·simp only[Qb6,Prod.mk.injEq]at hk1
     obtain⟨rfl,rfl⟩:=hk1
     refine⟨b,rfl,h3,by simpa using h4,fun j l hj=>?_⟩
     rw[jB hle]at hj
     rw[World.frozen?_setCells,add_plain h3]
     split at hj
     ·rename_i hin
      obtain⟨v,h6,h7⟩:=hl.get hj
      obtain⟨u',h8,h9⟩:=hcell j hin.1 hin.2
      refine⟨v,?_,h9,aB.mono hfr l v h7⟩
      have:=World.cell?_setCells_in (G.bx b).block vs ((G.bx b).off+off) w (fun j' hj'=>by
       obtain⟨v',h10,-⟩:=hcell (off+j') (by omega) (by omega)
       rw[Rbi,h10];rfl) (j-off) (by omega)
      rw[show (G.bx b).off+off+(j-off)=(G.bx b).off+j by omega]at this
      rw[this,<- h6,Qbz]
     ·rename_i hout
      obtain⟨v,h6,h7,h8⟩:=h5 j l hj
      rw[add_plain h3]at h6 h7
      refine⟨v,?_,h7,aB.mono hfr l v h8⟩
      rw[World.cell?_setCells_out _ _ _ _ _ (fun _ _=>by dsimp only;omega)]
      exact h6
   ·cases h2
  ·cases h
 ·cases h1
end
end Go.Proofs.YtdpfilpckndhcaaGreatDoor.Rf

namespace Go.Proofs.YtdpfilpckndhcaaGreatDoor.Rf
set_option linter.unusedVariables false
set_option linter.unusedSimpArgs false
theorem Rp.move {own own':Nat->Ow}{w w':World}{r r':Nat}{p:List Nat}{m:Nat}{v:Value}{d:D}(h:Rp own w r p m v d)
  (hz:∀ b,own b=.frz->b<w.heap.size->own' b=.frz/\w'.heap[b]?=w.heap[b]?):∀ (p':List Nat) (m':Nat),m'<=m ->
  (∀ b t,own b=.slc r (p++t)->own' b=(if t.length<m' then .slc r' (p'++t) else .frz)/\w'.heap[b]?=w.heap[b]?)->Rp own' w' r' p' m' v d:=by
 induction h with
 |sc h=>exact fun _ _ _ _=>.sc h
 |hole v h1=>exact fun _ _ _ _=>.hole v h1
 | fz h =>
  intro p' m' hm hs
  obtain rfl:m'=0:=by omega
  exact .fz (h.mono' fun b hb hlt=>hz b hb hlt)
 | sl A a n c sz rs vs hn hc hA hsz hown hcell hrec ih =>
  rename_i p m
  intro p' m' hm hs
  have hlt:∀ i row,rs[i]?=some row->i<rs.length:=fun i row hi=>by
   rcases Rbj i rs.length with h|h
   ·exact h
   ·simp[List.getElem?_eq_none h]at hi
  have hA':∀ i row,rs[i]?=some row->A=some a:=fun i row hi=>by
   rcases hA with e|⟨e,e'⟩
   ·exact e
   ·have:=hlt i row hi;omega
  cases m' with
  | zero =>
   refine .fz (.rows A a n c sz rs vs hn hc ?_ hsz (fun i row hi j d hj=>?_) (fun i row hi j d hj=>?_))
   ·rcases hA with e|⟨e,e'⟩
    ·exact .inr e
    ·exact .inl (by omega)
   ·obtain⟨h1,h2⟩:=hs a.block [] (by simpa using (hown (hA' i row hi)).2.1)
    refine⟨by simpa using h1,?_⟩
    exact (iH (w:=w) (w':=w') (by rw[add_block];exact h2)).trans (hcell i row hi j d hj)
   ·exact (ih i row hi j d hj [] 0 (Nat.zero_le _) (fun b t hb=>by
     have:=hs b ([i*sz+j]++t) (by rw[<- Qb1];exact hb)
     simpa using this)).zero
  | succ m' =>
   refine .sl A a n c sz rs vs hn hc hA hsz (fun e=>?_) (fun i row hi j d hj=>?_) (fun i row hi j d hj=>?_)
   ·obtain⟨h1,h2,h3⟩:=hown e
    obtain⟨h4,h5⟩:=hs a.block [] (by simpa using h2)
    refine⟨h1,by simpa using h4,fun k hk=>?_⟩
    obtain⟨u,hu,hf⟩:=h3 k hk
    exact⟨u,(iH (w:=w) (w':=w') (by rw[add_block];exact h5)).trans hu,(lY (w:=w) (w':=w') (by rw[add_block];exact h5)).trans hf⟩
   ·obtain⟨h1,h2⟩:=hs a.block [] (by simpa using (hown (hA' i row hi)).2.1)
    exact (iH (w:=w) (w':=w') (by rw[add_block];exact h2)).trans (hcell i row hi j d hj)
   ·refine ih i row hi j d hj (p'++[i*sz+j]) m' (by omega) (fun b t hb=>?_)
    have:=hs b ([i*sz+j]++t) (by rw[<- Qb1];exact hb)
    simp only[Qbs,Sbf]at this
    rw[<- Qb1]at this
    refine⟨?_,this.2⟩
    rw[this.1]
    by_cases ht:t.length<m'
    ·rw[if_pos ht,if_pos (by omega)]
    ·rw[if_neg ht,if_neg (by omega)]
inductive Upd:List Nat->D->D->D->Prop
 |here (x y:D):Upd [] x y y
 | down (sz : Nat) (rs : List (List D)) (i j : Nat) (row : List D) (z z' y : D) (p : List Nat) (hi : rs[i]? = some row) (hj : row[j]? = some z)
   (h:Upd p z y z'):Upd ((i*sz+j)::p) (.rows sz rs) y (.rows sz (rs.set i (row.set j z')))
theorem Fbx {i j i' j' sz:Nat}(hj:j<sz)(hj':j'<sz)(h:i*sz+j=i'*sz+j'):i=i'/\j=j':=by
 have h1:(i*sz+j) / sz=i:=by
  rw[Nat.mul_comm,Nat.mul_add_div (by omega),Nat.div_eq_of_lt hj,Rby]
 have h2:(i'*sz+j') / sz=i':=by
  rw[Nat.mul_comm,Nat.mul_add_div (by omega),Nat.div_eq_of_lt hj',Rby]
 rw[h,h2]at h1
 subst h1
 exact⟨rfl,by omega⟩
theorem Rp.sl_inv {own:Nat->Ow}{w:World}{r:Nat}{p:List Nat}{m:Nat}{v:Value}{sz:Nat}{rs:List (List D)}(h:Rp own w r p (m+1) v (.rows sz rs)) :
  ∃ (A:Option Addr) (a:Addr) (n c:Nat) (vs:Nat->Nat->Value),v=.slice A n c/\rs.length=n/\n<=c/\(A=some a\/(A=none/\c=0))/\(∀ r∈rs,r.length=sz) /\
   (A=some a->a.spot=none/\own a.block=.slc r p/\∀ k,k<c*sz->∃ u,w.cell? (a.add k)=some u/\w.frozen? (a.add k)=false) /\
   (∀ i row,rs[i]?=some row->∀ j d,row[j]?=some d->w.cell? (a.add (i*sz+j))=some (vs i j)) /\
   (∀ i row,rs[i]?=some row->∀ j d,row[j]?=some d->Rp own w r (p++[i*sz+j]) m (vs i j) d):=by
 cases h with
 |sc h=>cases h
 |sl A a n c sz rs vs hn hc hA hsz hown hcell hrec=>exact⟨A,a,n,c,vs,rfl,hn,hc,hA,hsz,hown,hcell,hrec⟩
theorem Rp.upd {own own':Nat->Ow}{w w':World}{r M':Nat}{full:List Nat}{y:D}{u:Value}
  (hz:∀ b,own b=.frz->b<w.heap.size->own' b=.frz/\w'.heap[b]?=w.heap[b]?)
  (hs:∀ b t,own b=.slc r t->¬ full <+: t->own' b=(if t.length<M' then .slc r t else .frz)/\w'.heap[b]?=w.heap[b]?)
  (hM:full.length<=M') (hnew:Rp own' w' r full (M'-full.length) u y) :
  ∀ (p q:List Nat) (M:Nat) (v:Value) (x x':D),full=q++p->M'<=M->Rp own w r q (M-q.length) v x->Cae own w r q v p u->Upd p x y x'->Rp own' w' r q (M'-q.length) v x'
 | [], q, M, v, x, x', hf, hMM, hx, hn, hu => by
  cases hu
  simp only[Cae]at hn
  rw[Rbm]at hf
  subst hf hn
  exact hnew
 | k :: p, q, M, v, x, x', hf, hMM, hx, hn, hu => by
  generalize hk:k::p=kp at hu
  cases hu with
  |here=>cases hk
  | down sz rs i j row z z' y p' hi hj hu =>
   obtain⟨rfl,rfl⟩:=List.cons.inj hk
   have hlen:full.length=q.length+(p.length+1):=by rw[hf];simp
   obtain⟨m,hm⟩:∃ m,M-q.length=m+1:=⟨M-q.length-1,by omega⟩
   obtain⟨m',hm'⟩:∃ m',M'-q.length=m'+1:=⟨M'-q.length-1,by omega⟩
   rw[hm]at hx
   rw[hm']
   obtain⟨A,a,n,c,vs,rfl,h1,h2,h3,h4,h5,h6,h7⟩:=hx.sl_inv
   have hil:i<rs.length:=(List.getElem?_eq_some_iff.1 hi).1
   have hA:A=some a:=by
    rcases h3 with e|⟨e,e'⟩
    ·exact e
    ·omega
   subst hA
   obtain⟨h8,h9,h10⟩:=h5 rfl
   obtain⟨a',n',c',u',e1,e2,e3,e4⟩:=hn
   obtain⟨rfl,rfl,rfl⟩:a=a'/\n=n'/\c=c':=by injection e1 with a b c;exact⟨Option.some.inj a,b,c⟩
   have hcell0:=h6 i row hi j z hj
   rw[hcell0]at e3
   obtain rfl:=Option.some.inj e3
   have hq:¬ full <+: q:=by
    intro e
    have:=e.length_le
    omega
   obtain⟨hown',hheap⟩:=hs _ _ h9 hq
   rw[if_pos (by omega)]at hown'
   have hkeep:∀ k,w'.cell? (a.add k)=w.cell? (a.add k):=fun k=>iH (w:=w) (w':=w') (by rw[add_block];exact hheap)
   have hkeepf:∀ k,w'.frozen? (a.add k)=w.frozen? (a.add k):=fun k=>lY (w:=w) (w':=w') (by rw[add_block];exact hheap)
   have hrec:=Rp.upd hz hs hM hnew p (q++[i*sz+j]) M (vs i j) z z' (by rw[hf];simp) hMM (by
    have:=h7 i row hi j z hj
    rwa[show M-(q++[i*sz+j]).length=m by simp;omega]) e4 hu
   rw[show M'-(q++[i*sz+j]).length=m' by simp;omega]at hrec
   have hrowlen:row.length=sz:=h4 row (Rba hi)
   have hlt:j<sz:=by rw[<- hrowlen];exact (List.getElem?_eq_some_iff.1 hj).1
   have hget:∀ i' row',(rs.set i (row.set j z'))[i']?=some row'->∀ j' d,row'[j']?=some d->(i'=i/\j'=j/\d=z')\/(∃ row0,rs[i']?=some row0/\row0[j']?=some d/\¬ (i'=i/\j'=j)):=by
    intro i' row' hi' j' d hj'
    rw[Sb1]at hi'
    by_cases hii:i=i'
    ·subst hii
     rw[if_pos rfl,if_pos hil]at hi'
     obtain rfl:=Option.some.inj hi'
     rw[Sb1]at hj'
     by_cases hjj:j=j'
     ·subst hjj
      rw[if_pos rfl,if_pos (by omega)]at hj'
      exact .inl ⟨rfl,rfl,(Option.some.inj hj').symm⟩
     ·rw[if_neg hjj]at hj'
      exact .inr ⟨row,hi,hj',fun e=>hjj e.2.symm⟩
    ·rw[if_neg hii]at hi'
     exact .inr ⟨row',hi',hj',fun e=>hii e.1.symm⟩
   refine .sl _ a n c sz _ vs (by simpa using h1) h2 (.inl rfl) (fun row' hr=>?_) (fun _=>⟨h8,hown',fun k hk=>?_⟩) (fun i' row' hi' j' d hj'=>?_) (fun i' row' hi' j' d hj'=>?_)
   ·rcases Sb2 hr with hr|rfl
    ·exact h4 _ hr
    ·simpa using hrowlen
   ·rw[hkeep,hkeepf]
    exact h10 k hk
   ·rw[hkeep]
    rcases hget i' row' hi' j' d hj' with ⟨rfl,rfl,rfl⟩|⟨row0,h11,h12,-⟩
    ·exact hcell0
    ·exact h6 _ _ h11 _ _ h12
   ·rcases hget i' row' hi' j' d hj' with ⟨rfl,rfl,rfl⟩|⟨row0,h11,h12,hne⟩
    ·exact hrec
    ·refine (h7 _ _ h11 _ _ h12).move hz _ m' (by omega) fun b t hb=>?_
     have hnp:¬ full <+: q++[i'*sz+j']++t:=by
      intro e
      rw[hf,Qb1,List.prefix_append_right_inj]at e
      have e':=(List.cons_prefix_cons.1 e).1
      have hj'l:j'<sz:=by
       have:=(List.getElem?_eq_some_iff.1 h12).1
       rw[h4 row0 (Rba h11)]at this
       exact this
      obtain⟨h15,h16⟩:=Fbx hj'l hlt e'.symm
      exact hne ⟨h15,h16⟩
     obtain⟨h13,h14⟩:=hs b _ hb hnp
     simp only[Qbs,Sbf]at h13
     refine⟨?_,h14⟩
     rw[h13]
     by_cases ht:t.length<m'
     ·rw[if_pos ht,if_pos (by omega)]
     ·rw[if_neg ht,if_neg (by omega)]
theorem yE:∀ (l:List Step) (n:Nat),l.foldl (fun s x=>s+x.n) n=n+bT l
 |[],n=>rfl
 | s :: l, n => by
  simp only[bT,Sby]
  rw[yE l (n+s.n),yE l (0+s.n)]
  omega
theorem jD (s:Step)(l:List Step):bT (s::l)=s.n+bT l:=by
 show (s::l).foldl (fun s x=>s+x.n) 0=_
 rw[Sby,yE];omega
theorem gJ:∀ (l m:List Step),bT (l++m)=bT l+bT m
 |[],m=>by simp[bT]
 |s::l,m=>by rw[Sbk,jD,jD,gJ l m];omega
section
variable {ρ:List D} {g:Option (aM×Bool)} {cf:Nat->List D->Option (List D)}
theorem aQ.append:∀ {l m:List Step} {nv:Nat},aQ cf ρ g nv (l++m)->aQ cf ρ g nv l/\aQ cf ρ g (nv+bT l) m
 |[],m,nv,h=>⟨trivial,h⟩
 | s :: l, m, nv, h => by
  obtain⟨h1,h2⟩:=h
  obtain⟨h3,h4⟩:=aQ.append h2
  exact⟨⟨h1,h3⟩,by rw[jD,<- Rbi];exact h4⟩
theorem Sab {sz off n:Nat}{x i:D}{vs ds:List D}(h:(aO.set sz off n).run (x::i::vs)=some ds) :
  ∃ rs k iv row,x=.rows sz rs/\i=.int k iv/\0<=iv/\rs[iv.toNat]?=some row/\off+n<=row.length/\vs.length=n/\ds=[.rows sz (rs.set iv.toNat (row.take off++vs++row.drop (off+n)))]:=by
 cases x<;>cases i<;>simp only[aO.run]at h<;>first|cases h|skip
 rename_i sz' rs k iv
 split at h
 ·rename_i h1
  obtain⟨rfl,h1⟩:=h1
  split at h
  ·rename_i row hr
   split at h
   ·rename_i h2
    simp only[Option.some.injEq]at h
    exact⟨rs,k,iv,row,rfl,rfl,h1,hr,h2.1,h2.2,h.symm⟩
   ·cases h
  ·cases h
 ·cases h
theorem take_set {α:Type}{l:List α}{k:Nat}{x:α}(h:k<l.length):l.take k++[x]++l.drop (k+1)=l.set k x:=by
 apply Tb5
 intro j
 rw[Sb1]
 by_cases h1:j<k
 ·rw[Qb1,Rbc (by simp;omega),Sbb,if_pos h1,if_neg (by omega)]
 ·by_cases h2:k=j
  ·subst h2
   rw[if_pos rfl,if_pos h,Qb1,Rbb (by simp;omega)]
   simp[Nat.min_eq_left (Nat.le_of_lt h)]
  ·rw[if_neg h2,Rbb (by simp;omega),Rb4]
   congr 1
   simp;omega
theorem Dad (hg:gOn ρ g=true):∀ (q:List (aM×Nat×Nat)) (nv:Nat) (X y:aM),aQ cf ρ g nv (Nae nv X q y).1->Upd (bJ ρ q) (X.val ρ) (y.val ρ) ((Nae nv X q y).2.val ρ)
 |[],nv,X,y,_=>.here _ _
 | (i, sz, off) :: p, nv, X, y, h => by
  have hpv:bJ ρ ((i,sz,off)::p)=(mO ρ i*sz+off)::bJ ρ p:=rfl
  rw[hpv]
  cases p with
  | nil =>
   simp only[Nae]at h ⊢
   obtain⟨d,h1,h2⟩:=Dab h.1 hg
   simp only[Rbh,Rbq]at h1
   obtain⟨rs,k,iv,row,e1,e2,e3,e4,e5,e6,e7⟩:=Sab h1
   simp only[List.cons.injEq,and_true]at e7
   have hi:mO ρ i=iv.toNat:=by simp[mO,e2]
   rw[e1,hi,h2,e7,take_set (by omega)]
   exact .down sz rs iv.toNat off row _ _ _ _ e4 (Qbz (by omega)) (.here _ _)
  | cons z p =>
   have hne:Nae nv X ((i,sz,off)::z::p) y =
     ([.prim (.row sz off [false]) [X,i] 1]++(Nae (nv+1) (.v nv) (z::p) y).1++[.prim (.set sz off 1) [X,i,(Nae (nv+1) (.v nv) (z::p) y).2] 1],.v (nv+1+bT (Nae (nv+1) (.v nv) (z::p) y).1)):=rfl
   rw[hne]at h ⊢
   obtain⟨h1,h2⟩:=aQ.append h
   obtain⟨h3,h4⟩:=aQ.append h1
   obtain⟨d,h5,h6⟩:=Dab h3.1 hg
   have hn1:bT [Step.prim (.row sz off [false]) [X,i] 1]=1:=rfl
   rw[hn1]at h4
   rw[gJ,hn1,<- Rbi]at h2
   have ih:=Dad hg (z::p) (nv+1) (.v nv) y h4
   obtain⟨d',h7,h8⟩:=Dab h2.1 hg
   simp only[Rbh,Rbq]at h5 h7
   obtain⟨rs,k,iv,row,e1,e2,e3,e4,e5,e6,e7⟩:=Sab h7
   obtain⟨rs',k',iv',row',f1,f2,f3,f4,f5,f6,f7⟩:=Ya1 h5
   rw[e1]at f1
   obtain rfl:rs=rs':=by injection f1
   rw[e2]at f2
   obtain⟨rfl,rfl⟩:k=k'/\iv=iv':=by injection f2 with a b;exact⟨a,b⟩
   rw[e4]at f4
   obtain rfl:=Option.some.inj f4
   simp only[List.cons.injEq,and_true]at e7
   have hi:mO ρ i=iv.toNat:=by simp[mO,e2]
   have hz:row[off]?=some ((aM.v nv).val ρ):=by
    rw[h6]
    have:((row.drop off).take 1)[0]?=some d:=by
     rw[show [false].length=1 from rfl]at f7
     rw[<- f7];rfl
    rw[Sbb,if_pos (by omega),Rb4]at this
    simpa using this
   rw[e1,hi,h8,e7,take_set (by omega)]
   exact .down sz rs iv.toNat off row _ _ _ _ e4 hz ih
end
end Go.Proofs.YtdpfilpckndhcaaGreatDoor.Rf

namespace Go.Proofs.YtdpfilpckndhcaaGreatDoor.Rf
set_option linter.unusedVariables false
set_option linter.unusedSimpArgs false
section
variable {P:Program} {E:Env} {F:bU} {n:Nat} {σ:Nat->Option aU} {ρ:List D} {a:Act} {w w':World} {G G':Gh} {g:Option (aM×Bool)} {o:Oper} {cf:Nat->List D->Option (List D)} {Q:Exit->Act->World->Prop} {next:Act->World->Prop}
def Chg (σ:Nat->Option aU)(G:Gh)(w:World)(G':Gh)(w':World)(r:Nat)(c:aU):Prop :=
 (σ (kR r)=none/\∃ x m ver st,c=.root x m ver st) \/
 (∃ x m ver x' m',σ (kR r)=some (.root x m ver .live)/\c=.root x' m' (ver+1) .live) \/
 (∃ x m ver st,c=.root x m ver st/\st≠.live/\st≠.frozen) \/
 (∃ x m ver,σ (kR r)=some (.root x m ver .live)/\c=.root x m ver .frozen/\∀ b p,G.own b=.slc r p->G'.own b=.frz/\w'.heap[b]?=w.heap[b]?)
theorem Xag (u:List (Nat×aU))(σ:Nat->Option aU)(k:Nat)(h:∃ c,(k,c)∈u):∃ c,(k,c)∈u/\upds σ u k=some c:=by
 have h1:=fI u σ k (.inr h)
 obtain⟨c,hc⟩:=Option.isSome_iff_exists.1 h1
 rcases sW u σ k c hc with h2|⟨h2,-⟩
 ·exact⟨c,h2,hc⟩
 ·obtain⟨c',hc'⟩:=h
  exact absurd hc' (h2 c')
theorem Fr.of {u:List (Nat×aU)}(hfrz:∀ b,G.own b=.frz->b<w.heap.size->G'.own b=.frz/\w'.heap[b]?=w.heap[b]?)
  (hun:∀ r b p,(∀ c,(kR r,c)∉u)->G.own b=.slc r p->G'.own b=.slc r p/\w'.heap[b]?=w.heap[b]?)
  (hch:∀ r c,(kR r,c)∈u->upds σ u (kR r)=some c->Chg σ G w G' w' r c)
  (hfroz:∀ r x m k,σ (kR r)=some (.root x m k .frozen)->∀ b p,G'.own b=.slc r p->G.own b=.slc r p)
  (hhdr:∀ r,(σ (kR r)).isSome->G'.hdr r=G.hdr r) (hbx:∀ b,(σ (kB b)).isSome->G'.bx b=G.bx b):Fr σ G w (upds σ u) G' w':=by
 have hcase:∀ r,(∀ c,(kR r,c)∉u)\/∃ c,(kR r,c)∈u/\upds σ u (kR r)=some c/\Chg σ G w G' w' r c:=by
  intro r
  by_cases h:∃ c,(kR r,c)∈u
  ·obtain⟨c,h1,h2⟩:=Xag u σ (kR r) h
   exact .inr ⟨c,h1,h2,hch r c h1 h2⟩
  ·exact .inl fun c hc=>h ⟨c,hc⟩
 have hval:∀ r k,lJ σ r k->qY (upds σ u) r k->qY σ r k:=by
  intro r k hk hv
  rcases hcase r with h|⟨c,h1,h2,h3⟩
  ·obtain⟨x,m,st,e,hs⟩:=hv
   rw[fV u σ _ h]at e
   exact⟨x,m,st,e,hs⟩
  ·obtain⟨x,m,st,e,hs⟩:=hv
   rw[h2]at e
   obtain rfl:=Option.some.inj e
   obtain⟨x0,m0,v0,st0,e0,hk0⟩:=hk
   rcases h3 with ⟨h4,-⟩|⟨x1,m1,v1,x2,m2,h4,h5⟩|⟨x1,m1,v1,st1,h5,h6,h7⟩|⟨x1,m1,v1,h4,h5,-⟩
   ·rw[h4]at e0;cases e0
   ·rw[h4]at e0
    injection e0 with e0
    injection e0 with i1 i2 i3 i4
    injection h5 with j1 j2 j3 j4
    have:=hk0 (.inl i4.symm)
    omega
   ·injection h5 with j1 j2 j3 j4
    rw[j4]at hs
    rcases hs with hs|hs
    ·exact absurd hs h6
    ·exact absurd hs h7
   ·injection h5 with j1 j2 j3 j4
    exact⟨x1,m1,.live,by rw[h4,j3],.inl rfl⟩
 refine⟨hfrz,hval,fun r k hk=>?_,fun r k b p hv hv' hb=>?_,fun r k m hk hl=>?_,hhdr,hbx,fun k hk=>fI _ _ _ (.inl hk),hfroz⟩
 ·rcases hcase r with h|⟨c,h1,h2,h3⟩
  ·obtain⟨x,m,ver,st,e,hs⟩:=hk
   exact⟨x,m,ver,st,by rw[fV u σ _ h];exact e,hs⟩
  ·obtain⟨x0,m0,v0,st0,e0,hk0⟩:=hk
   rcases h3 with ⟨h4,-⟩|⟨x1,m1,v1,x2,m2,h4,h5⟩|⟨x1,m1,v1,st1,h5,h6,h7⟩|⟨x1,m1,v1,h4,h5,-⟩
   ·rw[h4]at e0;cases e0
   ·rw[h4]at e0
    injection e0 with e0
    injection e0 with i1 i2 i3 i4
    have:=hk0 (.inl i4.symm)
    exact⟨_,_,_,_,by rw[h2,h5],fun _=>by omega⟩
   ·exact⟨_,_,_,_,by rw[h2,h5],fun hs=>by rcases hs with hs|hs<;>contradiction⟩
   ·rw[h4]at e0
    injection e0 with e0
    injection e0 with i1 i2 i3 i4
    have:=hk0 (.inl i4.symm)
    exact⟨_,_,_,_,by rw[h2,h5],fun _=>by omega⟩
 ·rcases hcase r with h|⟨c,h1,h2,h3⟩
  ·exact⟨.inl (hun r b p h hb).1,(hun r b p h hb).2⟩
  ·obtain⟨x,m,st,e,hs⟩:=hv
   obtain⟨x',m',st',e',hs'⟩:=hv'
   rw[h2]at e'
   obtain rfl:=Option.some.inj e'
   rcases h3 with ⟨h4,-⟩|⟨x1,m1,v1,x2,m2,h4,h5⟩|⟨x1,m1,v1,st1,h5,h6,h7⟩|⟨x1,m1,v1,h4,h5,h6⟩
   ·rw[h4]at e;cases e
   ·rw[h4]at e
    injection e with e
    injection e with i1 i2 i3 i4
    injection h5 with j1 j2 j3 j4
    omega
   ·injection h5 with j1 j2 j3 j4
    rw[j4]at hs'
    rcases hs' with hs|hs
    ·exact absurd hs h6
    ·exact absurd hs h7
   ·exact⟨.inr (h6 b p hb).1,(h6 b p hb).2⟩
 ·rcases hcase r with h|⟨c,h1,h2,h3⟩
  ·obtain⟨x,e⟩:=hl
   rw[fV u σ _ h]at e
   exact⟨⟨x,e⟩,fun b p hb=>(hun r b p h hb).1⟩
  ·obtain⟨x,e⟩:=hl
   rw[h2]at e
   obtain rfl:=Option.some.inj e
   obtain⟨x0,m0,v0,st0,e0,hk0⟩:=hk
   rcases h3 with ⟨h4,-⟩|⟨x1,m1,v1,x2,m2,h4,h5⟩|⟨x1,m1,v1,st1,h5,h6,h7⟩|⟨x1,m1,v1,h4,h5,-⟩
   ·rw[h4]at e0;cases e0
   ·rw[h4]at e0
    injection e0 with e0
    injection e0 with i1 i2 i3 i4
    injection h5 with j1 j2 j3 j4
    have:=hk0 (.inl i4.symm)
    omega
   ·injection h5 with j1 j2 j3 j4
    exact absurd j4.symm h6
   ·injection h5 with j1 j2 j3 j4
    cases j4
def oV (f:Nat->List Nat->Ow):Ow->Ow
 |.slc s p=>f s p
 |o=>o
theorem R.own (h:R E.ntmps F σ ρ a w G)(hd:gM E.ntmps o){sv:SV}{v:Value}{ur:List (Nat×aU)}{f:Nat->List Nat->Ow}{wr:Nat->Prop}
  (hu:∀ k c,(k,c)∈ur->∃ r,k=kR r)
  (hown:∀ b,b<w.heap.size->G'.own b=oV f (G.own b)) (hfresh:∀ b,w'.heap.size<=b->G'.own b=.frz)
  (hrest:w'.os=w.os/\w'.tape=w.tape/\w'.output=w.output/\w.heap.size<=w'.heap.size)
  (hnewown:∀ b,w.heap.size<=b->G'.own b=.frz\/∃ r p,G'.own b=.slc r p/\σ (kR r)=none)
  (hheap:∀ b,b<w.heap.size->¬ wr b->w'.heap[b]?=w.heap[b]?) (hwr:∀ b,wr b->∃ r p,G.own b=.slc r p/\∃ c,(kR r,c)∈ur)
  (hun:∀ b r p,G.own b=.slc r p->(∀ c,(kR r,c)∉ur)->f r p=.slc r p)
  (hch:∀ r c,(kR r,c)∈ur->upds σ (fB o g sv++ur) (kR r)=some c->Chg σ G w G' w' r c)
  (hfroz:∀ r x m k,σ (kR r)=some (.root x m k .frozen)->∀ s p q,f s p=.slc r q->s=r/\p=q)
  (hhdr:∀ r,(σ (kR r)).isSome->G'.hdr r=G.hdr r) (hbx:G'.bx=G.bx)
  (hval:Fr σ G w (upds σ (fB o g sv++ur)) G' w'->gOn ρ g=true->dV (upds σ (fB o g sv++ur)) ρ G' w' sv v)
  (hroot:Fr σ G w (upds σ (fB o g sv++ur)) G' w'->∀ r c,(kR r,c)∈ur->upds σ (fB o g sv++ur) (kR r)=some c->∃ x m ver st,c=.root x m ver st/\dJ (upds σ (fB o g sv++ur)) ρ G' w' r x m st) :
  R E.ntmps F (upds σ (fB o g sv++ur)) ρ (a.put o.dst v) w' G':=by
 have hkeys:=Ia1 o g sv
 have hin:∀ r c,(kR r,c)∈fB o g sv++ur->(kR r,c)∈ur:=by
  intro r c hc
  rcases List.mem_append.1 hc with hc|hc
  ·obtain⟨t,e⟩:=hkeys _ _ hc
   exact absurd e.symm jE
  ·exact hc
 have hslt:∀ b r p,G.own b=.slc r p->b<w.heap.size:=fun b r p hb=>by
  rcases Rbj b w.heap.size with h1|h1
  ·exact h1
  ·rw[h.frame.fresh b h1]at hb;cases hb
 have hstay:∀ b,b<w.heap.size->(∀ r p,G.own b≠.slc r p)->G'.own b=G.own b/\w'.heap[b]?=w.heap[b]?:=fun b hlt hb=>by
  refine⟨?_,hheap b hlt fun hw=>?_⟩
  ·rw[hown b hlt]
   unfold oV
   split
   ·rename_i s p e
    exact absurd e (hb s p)
   ·rfl
  ·obtain⟨r,p,e,-⟩:=hwr b hw
   exact hb r p e
 have hfr:Fr σ G w (upds σ (fB o g sv++ur)) G' w':=by
  refine Fr.of (fun b hb hlt=>?_) (fun r b p hnot hb=>?_) (fun r c hc hc'=>hch r c (hin r c hc) hc') (fun r x m k hk b p hb=>?_) hhdr (fun b _=>by rw[hbx])
  ·obtain⟨h1,h2⟩:=hstay b hlt (by rw[hb];simp)
   exact⟨h1.trans hb,h2⟩
  ·have hlt:=hslt b r p hb
   have hnot':∀ c,(kR r,c)∉ur:=fun c hc=>hnot c (Qby _ hc)
   refine⟨by rw[hown b hlt,hb];exact hun b r p hb hnot',hheap b hlt fun hw=>?_⟩
   obtain⟨r',p',e,c,hc⟩:=hwr b hw
   rw[hb]at e
   injection e with e1 e2
   subst e1
   exact hnot' c hc
  ·rcases Rbj b w.heap.size with hlt|hlt
   ·rw[hown b hlt]at hb
    cases e:G.own b with
    | slc s q =>
     rw[e]at hb
     obtain⟨rfl,rfl⟩:=hfroz r x m k hk s q p hb
     rfl
    |_=>rw[e]at hb;exact hb
   ·rcases hnewown b hlt with e|⟨r',p',e,hn⟩
    ·rw[e]at hb;cases hb
    ·rw[e]at hb
     injection hb with e1 e2
     subst e1
     rw[hn]at hk;cases hk
 refine h.upd _ hfr (by rw[Ca7];exact h.tmps) (by rw[put_defers];exact h.defers) ?_ (fun t ht=>Gat ht) (fun b ro bs hb _=>?_) (fun b bs hb hlt ho=>?_) (fun k c hk hk'=>?_)
 ·obtain⟨e1,e2,e3,e4⟩:=hrest
  refine⟨e1.trans h.frame.os,e2.trans h.frame.tape,e3.trans h.frame.output,by have:=h.frame.size;omega,fun b hlt hf=>?_,fun b j hlt hj=>?_,hfresh⟩
  ·obtain⟨h1,h2⟩:=h.frame.keep b hlt hf
   obtain⟨h3,h4⟩:=hstay b (by have:=h.frame.size;omega) (fun r p e=>by
    rw[e]at h2
    rw[<- h2]at hf
    rcases hf with hf|hf<;>cases hf)
   exact⟨h4.trans h1,h3.trans h2⟩
  ·obtain⟨h1,c0,c1,e,fr,h2,h3,h4⟩:=h.frame.boxes b j hlt hj
   obtain⟨h5,h6⟩:=hstay b (by have:=h.frame.size;omega) (by rw[h1];simp)
   exact⟨h5.trans h1,c0,c1,e,fr,h2,h6.trans h3,h4⟩
 ·obtain⟨_,h2,h3⟩:=h.box hb
  rcases Rbj (G.bx b).block w.heap.size with hlt|hlt
  ·exact hstay _ hlt (by rw[h2];split<;>simp)
  ·rw[h.frame.fresh _ hlt]at h2
   split at h2<;>cases h2
 ·rcases List.mem_append.1 hb with hb|hb
  ·obtain⟨t,e⟩:=hkeys _ _ hb
   exact absurd e.symm oP
  ·obtain⟨r,e⟩:=hu _ _ hb
   exact absurd e gV
 ·rcases List.mem_append.1 hk with hk|hk
  ·obtain⟨d,hd',rfl,rfl⟩:=Aaz hk
   refine⟨d,rfl,fun hg=>?_⟩
   rw[hd',qZ _ _ _ _ _ (hd d hd') h.tmps]
   exact hval hfr hg
  ·obtain⟨r,rfl⟩:=hu _ _ hk
   obtain⟨x,m,ver,st,rfl,hrr⟩:=hroot hfr r c hk hk'
   exact⟨r,rfl,by rw[hk'];rfl,hrr⟩
end
end Go.Proofs.YtdpfilpckndhcaaGreatDoor.Rf

namespace Go.Proofs.YtdpfilpckndhcaaGreatDoor.Rf
set_option linter.unusedVariables false
set_option linter.unusedSimpArgs false
section
variable {P:Program} {E:Env} {F:bU} {n:Nat} {σ:Nat->Option aU} {ρ:List D} {a:Act} {w w':World} {G G':Gh} {g:Option (aM×Bool)} {o:Oper} {cf:Nat->List D->Option (List D)} {Q:Exit->Act->World->Prop} {next:Act->World->Prop}
inductive Jak (σ:Nat->Option aU) (ρ:List D) (G:Gh) (w:World) (pu:Put) (off:Nat) (v:Value) (x:aM):Prop
 |sc (h:Sc v (x.val ρ))
 |nil (z:Nat) (hx:x.val ρ=.rows z []) (hv:v=.slice none 0 0)
 |mv (r m ver:Nat) (hm:(off,r,m)∈pu.moves) (hr:σ (kR r)=some (.root x m ver .live)) (hv:v=G.hdr r) (hd:pu.depth<=m)
 |hole (r k m:Nat) (q:List (aM×Nat×Nat)) (hm:(off,r,q)∈pu.holes) (hl:Ea6 σ r k m) (hq:q.length+1<=m) (hrp:Rp G.own w r (bJ ρ q) (m-q.length) v (x.val ρ)) (hn:Cae G.own w r [] (G.hdr r) (bJ ρ q) v) (hd:pu.depth<=m-q.length)
 |fz (hd:pu.depth=0) (h:Rd (fun b=>G.own b=.frz\/∃ r p,r∈pu.frz/\G.own b=.slc r p) w v (x.val ρ))
theorem Jak.left {A B:Put}{off:Nat}{v:Value}{x:aM}(h:Jak σ ρ G w A off v x):Jak σ ρ G w ⟨A.xs++B.xs,A.moves++B.moves,A.holes++B.holes,A.frz++B.frz,min A.depth B.depth⟩ off v x:=by
 cases h with
 |sc h=>exact .sc h
 |nil z hx hv=>exact .nil z hx hv
 |mv r m ver hm hr hv hd=>exact .mv r m ver (Qbv _ hm) hr hv (by dsimp only;omega)
 |hole r k m q hm hl hq hrp hn hd=>exact .hole r k m q (Qbv _ hm) hl hq hrp hn (by dsimp only;omega)
 |fz hd h=>exact .fz (by dsimp only;omega) (h.mono fun b hb=>⟨hb.imp id fun ⟨r,p,h1,h2⟩=>⟨r,p,Qbv _ h1,h2⟩,rfl⟩)
theorem Jak.right {A B:Put}{off:Nat}{v:Value}{x:aM}(h:Jak σ ρ G w B off v x):Jak σ ρ G w ⟨A.xs++B.xs,A.moves++B.moves,A.holes++B.holes,A.frz++B.frz,min A.depth B.depth⟩ off v x:=by
 cases h with
 |sc h=>exact .sc h
 |nil z hx hv=>exact .nil z hx hv
 |mv r m ver hm hr hv hd=>exact .mv r m ver (Qby _ hm) hr hv (by dsimp only;omega)
 |hole r k m q hm hl hq hrp hn hd=>exact .hole r k m q (Qby _ hm) hl hq hrp hn (by dsimp only;omega)
 |fz hd h=>exact .fz (by dsimp only;omega) (h.mono fun b hb=>⟨hb.imp id fun ⟨r,p,h1,h2⟩=>⟨r,p,Qby _ h1,h2⟩,rfl⟩)
theorem Sah (hR:R E.ntmps F σ ρ a w G){mv mvs:Bool}{off:Nat}{l:aW}{pu:Put}(h:(Sai mv mvs off l).eval σ=some pu){v:Value}(hl:aB σ ρ G w l v) :
  ∃ x,pu.xs=[x]/\Jak σ ρ G w pu off v x/\(∀ z∈pu.moves,z.1=off/\∃ x ver,σ (kR z.2.1)=some (.root x z.2.2 ver .live))/\(∀ z∈pu.holes,z.1=off):=by
 unfold Sai at h
 split at h
 ·rename_i x
  simp only[aC,Option.some.injEq]at h
  subst h
  simp only[aB]at hl
  exact⟨x,rfl,.sc hl,by simp,by simp⟩
 ·rename_i r
  simp only[aA,aV,Qb3]at h
  simp only[aB]at hl
  split at h
  ·rename_i x m ver hk
   cases mv with
   | true =>
    simp only[cond_true,aC,Option.some.injEq]at h
    subst h
    refine⟨x,rfl,.mv r m ver (by simp) hk hl.1 (Qbw _),fun z hz=>?_,by simp⟩
    simp only[Qb6]at hz
    subst hz
    exact⟨rfl,x,ver,hk⟩
   | false =>
    simp only[cond_false,aC,Option.some.injEq]at h
    subst h
    refine⟨x,rfl,.fz rfl ?_,by simp,by simp⟩
    have:=hR.root hk
    simp only[dJ]at this
    rw[<- hl.1]at this
    exact this.rd.mono fun b hb=>⟨hb.imp id fun ⟨q,hq⟩=>⟨r,q,by simp,hq⟩,rfl⟩
  ·rename_i x m ver hk
   simp only[aC,Option.some.injEq]at h
   subst h
   refine⟨x,rfl,.fz rfl ?_,by simp,by simp⟩
   have:=(hR.root hk).1
   rw[<- hl.1]at this
   exact this.mono fun b hb=>⟨.inl hb,rfl⟩
  ·cases h
 ·rename_i deps p nie x
  split at h
  ·rename_i z
   simp only[aC,Option.some.injEq]at h
   subst h
   refine⟨_,rfl,.nil z rfl ?_,by simp,by simp⟩
   simp only[aB]at hl
   exact (hl.2 (by simp)).2.1 trivial z rfl
  ·rename_i hne
   simp only[aA,Qbp]at h
   obtain⟨s,h1,h⟩:=h
   have hs:=fF hR h1 hl
   have hx:s.x=x:=by
    unfold Aak at h1
    simp only[aA,Qbp]at h1
    obtain⟨ds,-,h3⟩:=h1
    split at h3
    ·simp only[aC,Option.some.injEq]at h3;rw[<- h3]
    ·simp only[aA,aV,Qb3]at h3
     split at h3
     ·simp only[aC,Option.some.injEq]at h3;rw[<- h3]
     ·cases h3
    ·simp only[aC,Option.some.injEq]at h3;rw[<- h3]
   have hfz:∀ frz:List Nat,(∀ z∈s.deps,z.1∈frz)->Rd (fun b=>G.own b=.frz\/∃ r p,r∈frz/\G.own b=.slc r p) w v (x.val ρ):=by
    intro frz hz
    have:=hs.rd
    rw[hx]at this
    exact this.mono fun b hb=>⟨hb.imp id fun ⟨r,k,p,h2,h3⟩=>⟨r,p,hz _ h2,h3⟩,rfl⟩
   split at h
   ·rename_i r k m q ho
    have hown:=hs.own
    unfold xZ at hown
    rw[ho]at hown
    obtain⟨h2,h3,h4,h5,h6⟩:=hown
    rw[hx]at h5
    cases hb:(mvs&&Nat.ble (q.length+1) m) with
    | true =>
     rw[hb]at h
     simp only[cond_true,aC,Option.some.injEq]at h
     subst h
     simp only[Qbq,Rb8]at hb
     refine⟨x,rfl,.hole r k m q (by simp) h3 hb.2 h5 h6 (Qbw _),by simp,by simp⟩
    | false =>
     rw[hb]at h
     simp only[cond_false,aC,Option.some.injEq]at h
     subst h
     refine⟨x,rfl,.fz rfl (hfz _ fun z hz=>?_),by simp,by simp⟩
     rw[h2]at hz
     simp only[Qb6]at hz
     subst hz
     simp
   ·simp only[aC,Option.some.injEq]at h
    subst h
    exact⟨x,rfl,.fz rfl (hfz _ fun z hz=>Sbl hz),by simp,by simp⟩
 ·cases h
theorem wM (hR:R E.ntmps F σ ρ a w G){mv mvs:Bool}:∀ {ls:List aW} {off:Nat} {pu:Put},(vG mv mvs off ls).eval σ=some pu->∀ {vs:List Value},aD σ ρ G w ls vs ->
  pu.xs.length=ls.length/\(∀ j v x,vs[j]?=some v->pu.xs[j]?=some x->Jak σ ρ G w pu (off+j) v x) /\
  (∀ z∈pu.moves,off<=z.1/\z.1<off+ls.length/\∃ x ver,σ (kR z.2.1)=some (.root x z.2.2 ver .live))
 | [], off, pu, h, vs, hl => by
  simp only[vG,aC,Option.some.injEq]at h
  subst h
  exact⟨rfl,by simp,by simp⟩
 | l :: ls, off, pu, h, vs, hl => by
  simp only[vG,aA,Qbp,aC,Option.some.injEq]at h
  obtain⟨A,h1,B,h2,rfl⟩:=h
  simp only[aD]at hl
  obtain⟨u,us,rfl,h3,h4⟩:=hl
  obtain⟨x,h5,h6,h7,-⟩:=Sah hR h1 h3
  obtain⟨h8,h9,h10⟩:=wM hR h2 h4
  refine⟨by simp[h5,h8],fun j v y hv hy=>?_,fun z hz=>?_⟩
  ·rw[h5]at hy
   cases j with
   | zero =>
    simp only[Qb4,Option.some.injEq,Tb2]at hv hy
    subst hv hy
    exact h6.left
   | succ j =>
    simp only[Rbz,Tb2]at hv hy
    have:=(h9 j v y hv hy).right (A:=A)
    rwa[show off+1+j=off+(j+1) by omega]at this
  ·simp only[Qbt]
   rcases List.mem_append.1 hz with hz|hz
   ·obtain⟨e,h11⟩:=h7 z hz
    exact⟨by omega,by omega,h11⟩
   ·obtain⟨e1,e2,h11⟩:=h10 z hz
    exact⟨by omega,by omega,h11⟩
theorem iJ:∀ {rs:List Nat} {fr:List (Nat×aU)},(eY rs).eval σ=some fr ->
  (∀ r∈rs,(∃ x m ver,σ (kR r)=some (.root x m ver .live)/\(kR r,aU.root x m ver .frozen)∈fr)\/∃ x m ver,σ (kR r)=some (.root x m ver .frozen)) /\
  (∀ k c,(k,c)∈fr->∃ r∈rs,∃ x m ver,k=kR r/\c=.root x m ver .frozen/\σ (kR r)=some (.root x m ver .live))
 | [], fr, h => by
  simp only[eY,aC,Option.some.injEq]at h
  subst h
  simp
 | r :: rs, fr, h => by
  simp only[eY,aA,aV,Qb3]at h
  split at h
  ·rename_i x m ver hk
   simp only[aA,Qbp,aC,Option.some.injEq]at h
   obtain⟨l,h1,rfl⟩:=h
   obtain⟨h2,h3⟩:=iJ h1
   refine⟨fun s hs=>?_,fun k c hc=>?_⟩
   ·rcases List.mem_cons.1 hs with rfl|hs
    ·exact .inl ⟨x,m,ver,hk,Qb7⟩
    ·rcases h2 s hs with ⟨x',m',v',h4,h5⟩|h4
     ·exact .inl ⟨x',m',v',h4,Qb2 _ h5⟩
     ·exact .inr h4
   ·rcases List.mem_cons.1 hc with hc|hc
    ·obtain⟨rfl,rfl⟩:=Prod.mk.inj hc
     exact⟨r,Qb7,x,m,ver,rfl,rfl,hk⟩
    ·obtain⟨s,hs,h4⟩:=h3 k c hc
     exact⟨s,Qb2 _ hs,h4⟩
  ·rename_i x m ver hk
   obtain⟨h2,h3⟩:=iJ h
   refine⟨fun s hs=>?_,fun k c hc=>?_⟩
   ·rcases List.mem_cons.1 hs with rfl|hs
    ·exact .inr ⟨x,m,ver,hk⟩
    ·exact h2 s hs
   ·obtain⟨s,hs,h4⟩:=h3 k c hc
    exact⟨s,Qb2 _ hs,h4⟩
  ·cases h
end
end Go.Proofs.YtdpfilpckndhcaaGreatDoor.Rf

namespace Go.Proofs.YtdpfilpckndhcaaGreatDoor.Rf
set_option linter.unusedVariables false
set_option linter.unusedSimpArgs false
theorem oJ {l:List Nat}{n:Nat}:has l n=true↔n∈l:=by
 unfold has
 simp only[List.any_eq_true,Rbv]
 constructor
 ·rintro⟨x,h,rfl⟩;exact h
 ·exact fun h=>⟨n,h,rfl⟩
theorem Ba0 {l:List Nat}{n:Nat}:has l n=false↔n∉l:=by
 rw[<- oJ];simp
theorem xA:∀ {l:List (Nat×Nat×Nat)},distinct (l.map (·.2.1))=true->∀ z∈l,l.find? (fun y=>Nat.beq y.2.1 z.2.1)=some z
 |[],_,z,hz=>by simp at hz
 | y :: l, h, z, hz => by
  simp only[Rbh,distinct,Qbq,Rbe]at h
  rw[List.find?_cons]
  rcases List.mem_cons.1 hz with rfl|hz
  ·have:Nat.beq z.2.1 z.2.1=true:=by simp
   rw[this]
  ·have:Nat.beq y.2.1 z.2.1=false:=by
    cases e:Nat.beq y.2.1 z.2.1 with
    |false=>rfl
    | true =>
     simp only[Rbv]at e
     have h1:=Ba0.1 h.1
     rw[e]at h1
     exact absurd (Sbl (f:=fun x:Nat×Nat×Nat=>x.2.1) hz) h1
   rw[this]
   exact xA h.2 z hz
theorem Iat {l:List (Nat×Nat×Nat)}{s:Nat}(h:s∉l.map (·.2.1)):l.find? (fun y=>Nat.beq y.2.1 s)=none:=by
 rw[List.find?_eq_none]
 intro x hx
 simp only[Rbv]
 intro e
 exact h (e▸Sbl (f:=fun x:Nat×Nat×Nat=>x.2.1) hx)
section
variable {P:Program} {E:Env} {F:bU} {n:Nat} {σ:Nat->Option aU} {ρ:List D} {a:Act} {w w':World} {G G':Gh} {g:Option (aM×Bool)} {o:Oper} {cf:Nat->List D->Option (List D)} {Q:Exit->Act->World->Prop} {next:Act->World->Prop}
theorem Rd.nil {ok:Nat->Prop}{z:Nat}:Rd ok w (.slice none 0 0) (.rows z []) :=
 .rows none ⟨0,0,none⟩ 0 0 _ [] (fun _ _=>undef) rfl (Qbw _) (.inl rfl) (by simp) (by simp) (by simp)
theorem Rp.nil {own:Nat->Ow}{r:Nat}{p:List Nat}{m z:Nat}:Rp own w r p m (.slice none 0 0) (.rows z []):=by
 cases m with
 |zero=>exact .fz Rd.nil
 |succ m=>exact .sl none ⟨0,0,none⟩ 0 0 _ [] (fun _ _=>undef) rfl (Qbw _) (.inr ⟨rfl,rfl⟩) (by simp) (by simp) (by simp) (by simp)
theorem Jak.rp (hR:R E.ntmps F σ ρ a w G){pu:Put}{off:Nat}{v:Value}{x:aM}(h:Jak σ ρ G w pu off v x){own':Nat->Ow}{R:Nat}{path:List Nat}{m1:Nat}(hd:m1<=pu.depth)
  (hz:∀ b,G.own b=.frz->b<w.heap.size->own' b=.frz/\w'.heap[b]?=w.heap[b]?)
  (hmv:∀ s m,(off,s,m)∈pu.moves->∀ b t,G.own b=.slc s t->own' b=(if t.length<m1 then .slc R (path++t) else .frz)/\w'.heap[b]?=w.heap[b]?)
  (hho:∀ s q,(off,s,q)∈pu.holes->∀ b t,G.own b=.slc s (bJ ρ q++t)->own' b=(if t.length<m1 then .slc R (path++t) else .frz)/\w'.heap[b]?=w.heap[b]?)
  (hfz:∀ s∈pu.frz,∀ b p,G.own b=.slc s p->own' b=.frz/\w'.heap[b]?=w.heap[b]?):Rp own' w' R path m1 v (x.val ρ):=by
 cases h with
 |sc h=>exact .sc h
 |nil z hx hv=>rw[hx,hv];exact Rp.nil
 | mv r m ver hm hr hv hd' =>
  have:=hR.root hr
  simp only[dJ]at this
  rw[hv]
  exact this.move hz path m1 (by omega) fun b t hb=>hmv r m hm b t (by simpa using hb)
 |hole r k m q hm hl hq hrp hn hd'=>exact hrp.move hz path m1 (by omega) fun b t hb=>hho r q hm b t hb
 | fz hd' h =>
  obtain rfl:m1=0:=by omega
  refine .fz (h.mono' fun b hb hlt=>?_)
  rcases hb with hb|⟨r,p,h1,h2⟩
  ·exact hz b hb hlt
  ·exact hfz r h1 b p h2
def Aa1 (R M:Nat)(p:List Nat):Ow:=if p.length<M then .slc R p else .frz
def mF (pu:Put)(r m':Nat)(pv:List Nat)(base:Nat)(s:Nat)(p:List Nat):Ow :=
 bif has pu.frz s then .frz else match pu.moves.find? (fun y=>Nat.beq y.2.1 s) with
  |some z=>Aa1 r m' ((pv++[base+z.1])++p)
  |none=>if s=r then Aa1 r m' p else .slc s p
theorem qI {B o:Nat}{vs:List Value}{b:Addr}(hb:b.block=B->b.spot=none)(hex:∀ j,j<vs.length->(w.cell? ⟨B,o+j,none⟩).isSome=true){u:Value}(hc:w.cell? b=some u) :
  ∃ u',(w.setCells B o vs).cell? b=some u':=by
 by_cases hin:b.block=B/\o<=b.off/\b.off<o+vs.length
 ·obtain⟨h1,h2,h3⟩:=hin
  have:=World.cell?_setCells_in B vs o w hex (b.off-o) (by omega)
  have hs:=hb h1
  rw[show o+(b.off-o)=b.off by omega]at this
  have hb':b=⟨B,b.off,none⟩:=by cases b;simp only at h1 hs;subst h1 hs;rfl
  exact⟨vs[b.off-o]'(by omega),(congrArg (fun x=>(w.setCells B o vs).cell? x) hb').trans this⟩
 ·rw[World.cell?_setCells_out B vs o w b fun e1 e2=>by
   rcases Rbj b.off o with h|h
   ·exact .inl h
   ·refine .inr ?_
    rcases Rbj b.off (o+vs.length) with h'|h'
    ·exact absurd ⟨e1,h,h'⟩ hin
    ·exact h']
  exact⟨u,hc⟩
theorem Jau (hR:R E.ntmps F σ ρ a w G)(hti:yA P E.ti){nv:Nat}{mv mvs:Bool}{t:TypeId}{x y:Operand}(ho:o.op=.store t x y){ti:TI}(hi:E.ti t=some ti){l:aW}{sz:Nat}{i:aM}{off:Nat}{ls:List aW}{sv:SV}
  (hx:gOn ρ g=true->aB σ ρ G w (.pe l sz i off) (a.eval x)) (hy:gOn ρ g=true->dV σ ρ G w sv (a.eval y)) (hls:kP ti.agg sv=some ls) {res:dD}
  (h:(Ean nv mv mvs o g ti (.pe l sz i off) ls).eval σ=some res) (hst:aQ cf ρ g nv res.lets):iP P E F σ ρ a w g o Q res.upd:=by
 simp only[Ean,aA,aL,Qbp,aV,Qb3]at h
 obtain⟨_,h1,_,h2,s,h3,h⟩:=h
 split at h1
 case isFalse=>cases h1
 rename_i hb1
 simp only[Qbq,Rbv,Tbh]at hb1
 obtain⟨hlen,hdst⟩:=hb1
 split at h2
 case isFalse=>cases h2
 rename_i hg0
 obtain rfl:=zA hg0
 split at h
 case h_2=>cases h
 rename_i r k m q hown
 simp only[aA,aL,Qbp,aV,Qb3]at h
 obtain⟨_,h4,h⟩:=h
 split at h4
 case isFalse=>cases h4
 rename_i hqm
 simp only[Rb8]at hqm
 split at h
 case h_2=>cases h
 rename_i X m0 ver hk
 simp only[aA,aL,Qbp]at h
 obtain⟨pu,h5,fr,h6,_,h7,h⟩:=h
 split at h7
 case isFalse=>cases h7
 rename_i hb7
 simp only[Qbq,Rbe,Tbj,Tb0]at hb7
 obtain⟨⟨⟨⟨hfr,hmr⟩,hho⟩,hdis⟩,hmf⟩:=hb7
 simp only[aC,Option.some.injEq]at h
 subst h
 refine⟨fun hg=>?_,fun hg=>by simp[gOn]at hg⟩
 obtain⟨info,u,f⟩:=bB (hti.ok _ _ hi)
 have hl:=jC hls (hy hg)
 obtain⟨hpl,hput,hmvs⟩:=wM hR h5 hl
 obtain⟨hfz1,hfz2⟩:=iJ h6
 have hpe:=hx hg
 simp only[aB]at hpe
 obtain⟨c,n,cap,ik,iv,hp1,hp2,hp3,hp4,hp5⟩:=hpe
 have hsl:=fF hR h3 hp1
 have hor:=hsl.own
 unfold xZ at hor
 rw[hown]at hor
 obtain⟨-,⟨X0,hl0⟩,-,hrp,hnest⟩:=hor
 rw[hk]at hl0
 obtain⟨rfl,rfl,rfl⟩:X=X0/\m0=m/\ver=k:=by
  injection hl0 with e;injection e with e1 e2 e3 e4;exact⟨e1,e2,e3⟩
 have hroot:=hR.root hk
 simp only[dJ]at hroot
 obtain⟨d1,hd1,hd2⟩:=Dab hst.1 hg
 have hst2:aQ cf ρ none (nv+1) (Nae (nv+1) X q (.v nv)).1:=hst.2
 have hupd:=Dad hg q (nv+1) X (.v nv) hst2
 simp only[Sbk,Rb9,Rbh]at hd1
 obtain⟨rs,ik',iv',row,e1,e2,e3,e4,e5,e6,e7⟩:=Sab hd1
 rw[hp2]at e2
 obtain⟨rfl,rfl⟩:ik=ik'/\iv=iv':=by injection e2 with a b;exact⟨a,b⟩
 simp only[List.cons.injEq,and_true]at e7
 simp only[Rbf]at e6
 rw[e1]at hrp
 have hpvl:(bJ ρ q).length=q.length:=by simp[bJ]
 generalize hpv:bJ ρ q=pv at hupd hrp hnest hpvl
 obtain⟨md,hmd⟩:∃ md,m0-q.length=md+1:=⟨m0-q.length-1,by omega⟩
 rw[hmd]at hrp
 obtain⟨A,c',n',cap',vs0,i1,i2,i3,i4,i5,i6,i7,i8⟩:=hrp.sl_inv
 obtain⟨rfl,rfl,rfl⟩:A=some c/\n'=n/\cap'=cap:=by injection i1 with a b c;exact⟨a.symm,b.symm,c.symm⟩
 have hcc:c'=c:=by
  rcases i4 with i4|⟨i4,-⟩
  ·exact (Option.some.inj i4).symm
  ·cases i4
 subst hcc
 obtain⟨hspot,hob,hcells⟩:=i6 rfl
 have hrow:row.length=sz:=i5 row (Rba e4)
 generalize hvs:(a.eval y).cells.toList=vs at hl hput
 have hvl:vs.length=ls.length:=hl.len
 have hcell0:∀ j,j<vs.length->∃ u,w.cell? ⟨c'.block,c'.off+(iv.toNat*sz+off)+j,none⟩=some u/\w.frozen? ⟨c'.block,c'.off+(iv.toNat*sz+off)+j,none⟩=false:=by
  intro j hj
  have hk':iv.toNat*sz+off+j<cap'*sz:=by
   have h1:(iv.toNat+1)*sz<=cap'*sz:=Sbd _ (by omega)
   rw[Sbv]at h1
   omega
  have:=hcells _ hk'
  rw[add_plain hspot]at this
  rw[Rbi]
  exact this
 have hrun:(execOp a.eval o).run P w=.ok .skip (w.setCells c'.block (c'.off+(iv.toNat*sz+off)) vs):=by
  unfold execOp
  simp only[ho]
  have:=Fav (P:=P) (w:=w) f (b:=c'.block) (off:=c'.off+(iv.toNat*sz+off)) (v:=a.eval y) (by rw[hvs];omega)
   (fun j hj=>by
    obtain⟨v,h6,-⟩:=hcell0 j (by omega)
    exact⟨v,h6⟩)
   (fun j hj=>by
    obtain⟨v,-,h6⟩:=hcell0 j (by omega)
    exact h6) (by
    rw[hvs]
    intro v hv
    obtain⟨j,hj⟩:=List.mem_iff_getElem?.1 hv
    have hjl:j<pu.xs.length:=by rw[hpl,<- hvl];exact (List.getElem?_eq_some_iff.1 hj).1
    cases hput j v _ hj (Qbz hjl) with
    |sc h=>exact h.one
    |nil z _ h=>rw[h];rfl
    | mv r m ver hm hr hv hd =>
     have:=hR.root hr
     simp only[dJ]at this
     rw[hv];exact this.one
    |hole r k m q hm hl hq hrp hn hd=>exact hrp.one
    |fz _ h=>exact h.one)
  simp only[Instr.storeAt,Instr.sureAddr,Sem.run_bind,hp5,Sem.run_pure,Result.andThen_ok,add_plain hspot,this,hvs]
 generalize hm':min m0 (q.length+1+pu.depth)=m'
 generalize hw':w.setCells c'.block (c'.off+(iv.toNat*sz+off)) vs=w' at hrun
 have hheap:∀ b,b≠c'.block->w'.heap[b]?=w.heap[b]?:=fun b hb=>by rw[<- hw'];exact fE _ _ _ _ _ hb
 refine Tap hrun ⟨{ G with own:=fun b=>oV (mF pu r m' pv (iv.toNat*sz)) (G.own b) },?_⟩
 rw[hdst]
 have hfF:∀ s,s∈pu.frz->∀ p,mF pu r m' pv (iv.toNat*sz) s p=.frz:=fun s hs p=>by
  unfold mF
  rw[oJ.2 hs,cond_true]
 have hrm:r∉pu.moves.map (·.2.1):=by
  intro hh
  obtain⟨z,hz,e⟩:=List.mem_map.1 hh
  have:=hmr z hz
  simp[e]at this
 have hrF:∀ p,mF pu r m' pv (iv.toNat*sz) r p=Aa1 r m' p:=fun p=>by
  unfold mF
  rw[hfr,cond_false,Iat hrm]
  simp
 have hmF:∀ z∈pu.moves,∀ p,mF pu r m' pv (iv.toNat*sz) z.2.1 p=Aa1 r m' ((pv++[iv.toNat*sz+z.1])++p):=fun z hz p=>by
  unfold mF
  have:has pu.frz z.2.1=false:=by
   have:=hmf z hz
   simpa using this
  rw[this,cond_false,xA hdis z hz]
 have hzz:∀ b,G.own b=.frz->b<w.heap.size->oV (mF pu r m' pv (iv.toNat*sz)) (G.own b)=.frz/\w'.heap[b]?=w.heap[b]?:=fun b hb hlt=>by
  refine⟨by rw[hb];rfl,hheap b fun e=>?_⟩
  rw[e,hob]at hb
  cases hb
 have hne:∀ b s p,G.own b=.slc s p->s≠r->b≠c'.block:=fun b s p hb hs e=>by
  rw[e,hob]at hb
  injection hb with e1 e2
  exact hs e1.symm
 have hfrr:∀ s∈pu.frz,s≠r:=fun s hs e=>by
  have:=Ba0.1 hfr
  exact this (e▸hs)
 have hmvr:∀ z∈pu.moves,z.2.1≠r:=fun z hz e=>hrm (e▸Sbl (f:=fun x:Nat×Nat×Nat=>x.2.1) hz)
 have hmem:∀ {s:Nat} {c:aU},(kR s,c)∈(kR r,aU.root (Nae (nv+1) X q (.v nv)).2 m' (ver+1) .live)::(pu.moves.map fun z=>(kR z.2.1,aU.root (.c .hole) 0 0 .gone))++fr ->
   (s=r/\c=.root (Nae (nv+1) X q (.v nv)).2 m' (ver+1) .live)\/(∃ z∈pu.moves,s=z.2.1/\c=.root (.c .hole) 0 0 .gone) \/
   (s∈pu.frz/\∃ x m v,c=.root x m v .frozen/\σ (kR s)=some (.root x m v .live)):=by
  intro s c hc
  rcases List.mem_append.1 hc with hc|hc
  ·rcases List.mem_cons.1 hc with hc|hc
   ·obtain⟨e1,e2⟩:=Prod.mk.inj hc
    exact .inl ⟨gD e1,e2⟩
   ·obtain⟨z,hz,e⟩:=List.mem_map.1 hc
    obtain⟨e1,e2⟩:=Prod.mk.inj e
    exact .inr (.inl ⟨z,hz,(gD e1).symm,e2.symm⟩)
  ·obtain⟨s',hs',x',m'',v',e1,e2,e3⟩:=hfz2 _ _ hc
   obtain rfl:=gD e1
   exact .inr (.inr ⟨hs',x',m'',v',e2,e3⟩)
 have hdu:fB o none .dead=[]:=by unfold fB;rw[hdst]
 have hfin:=hR.own (o:=o) (g:=none) (fun d e=>by rw[hdst]at e;cases e) (sv:=.dead) (v:=undef) (w':=w')
  (G':={ G with own:=fun b=>oV (mF pu r m' pv (iv.toNat*sz)) (G.own b) }) (wr:=fun b=>b=c'.block)
  (ur:=(kR r,aU.root (Nae (nv+1) X q (.v nv)).2 m' (ver+1) .live)::(pu.moves.map fun z=>(kR z.2.1,aU.root (.c .hole) 0 0 .gone))++fr)
  (f:=mF pu r m' pv (iv.toNat*sz)) ?_ (fun b _=>rfl) ?_ ?_ ?_ (fun b _ hb=>hheap b hb) ?_ ?_ ?_ ?_ (fun _ _=>rfl) rfl (fun _ _=>trivial) ?_
 ·rw[hdu,Rb9,hdst]at hfin
  exact hfin
 ·intro k c hc
  rcases List.mem_append.1 hc with hc|hc
  ·rcases List.mem_cons.1 hc with hc|hc
   ·exact⟨r,(Prod.mk.inj hc).1⟩
   ·obtain⟨z,hz,e⟩:=List.mem_map.1 hc
    exact⟨z.2.1,(Prod.mk.inj e).1.symm⟩
  ·obtain⟨s',-,-,-,-,e1,-⟩:=hfz2 _ _ hc
   exact⟨s',e1⟩
 ·intro b hb
  rw[<- hw',setCells_size]at hb
  show oV _ (G.own b)=.frz
  rw[hR.frame.fresh b hb];rfl
 ·obtain⟨j1,j2,j3⟩:=nC c'.block vs (c'.off+(iv.toNat*sz+off)) w
  rw[<- hw']
  exact⟨j1,j2,j3,by rw[setCells_size];exact Qbw _⟩
 ·intro b hb
  refine .inl ?_
  show oV _ (G.own b)=.frz
  rw[hR.frame.fresh b hb];rfl
 ·rintro b rfl
  exact⟨r,pv,hob,_,Qbv _ Qb7⟩
 ·intro b s p hb hnot
  unfold mF
  have h1:has pu.frz s=false:=by
   rw[Ba0]
   intro hs
   rcases hfz1 s hs with ⟨x',m'',v',-,h8⟩|⟨x',m'',v',h8⟩
   ·exact hnot _ (Qby _ h8)
   ·exact (hR.root h8).2 b p hb
  have h2:s∉pu.moves.map (·.2.1):=by
   intro hh
   obtain⟨z,hz,e⟩:=List.mem_map.1 hh
   refine hnot (.root (.c .hole) 0 0 .gone) (Qbv _ (Qb2 _ (List.mem_map.2 ⟨z,hz,?_⟩)))
   rw[e]
  have h3:s≠r:=fun e=>hnot (.root (Nae (nv+1) X q (.v nv)).2 m' (ver+1) .live) (Qbv _ (by rw[e];exact Qb7))
  rw[h1,cond_false,Iat h2]
  simp[h3]
 ·intro s c hc _
  rcases hmem hc with ⟨rfl,rfl⟩|⟨z,hz,rfl,rfl⟩|⟨hs,x',m'',v',rfl,h8⟩
  ·exact .inr (.inl ⟨_,_,_,_,_,hk,rfl⟩)
  ·exact .inr (.inr (.inl ⟨_,_,_,_,rfl,by simp,by simp⟩))
  ·refine .inr (.inr (.inr ⟨x',m'',v',h8,rfl,fun b p hb=>⟨?_,hheap b (hne b s p hb (hfrr s hs))⟩⟩))
   show oV _ (G.own b)=.frz
   rw[hb]
   exact hfF s hs p
 ·intro r0 x0 m1 k0 hfz s p q' hF
  unfold mF at hF
  cases hh:has pu.frz s with
  |true=>rw[hh,cond_true]at hF;cases hF
  | false =>
   rw[hh,cond_false]at hF
   have hr0:r0≠r:=by
    rintro rfl
    rw[hk]at hfz
    injection hfz with e;injection e with _ _ _ e;cases e
   split at hF
   ·unfold Aa1 at hF
    split at hF
    ·injection hF with j1 j2;exact absurd j1.symm hr0
    ·cases hF
   ·split at hF
    ·unfold Aa1 at hF
     split at hF
     ·injection hF with j1 j2;exact absurd j1.symm hr0
     ·cases hF
    ·injection hF with j1 j2;exact⟨j1,j2⟩
 ·intro hfr' s c hc _
  rcases hmem hc with ⟨rfl,rfl⟩|⟨z,hz,rfl,rfl⟩|⟨hs,x',m'',v',rfl,h8⟩
  ·refine⟨_,_,_,_,rfl,?_⟩
   simp only[dJ]
   obtain⟨m1,hm1⟩:∃ m1,m'-q.length=m1+1:=⟨m'-q.length-1,by omega⟩
   have hrowNew:∀ i' row',(rs.set iv.toNat (row.take off++pu.xs.map (·.val ρ)++row.drop (off+ti.size)))[i']?=some row'->∀ j' d,row'[j']?=some d ->
     (i'=iv.toNat/\off<=j'/\j'<off+ls.length/\∃ x,pu.xs[j'-off]?=some x/\d=x.val ρ)\/(∃ row0,rs[i']?=some row0/\row0[j']?=some d/\¬ (i'=iv.toNat/\off<=j'/\j'<off+ls.length)):=by
    intro i' row' hi' j' d hj'
    have hsr:row.take off++pu.xs.map (·.val ρ)++row.drop (off+ti.size)=setRange row off (pu.xs.map (·.val ρ)):=by
     unfold setRange
     rw[Rbf,e6]
    rw[hsr,Sb1]at hi'
    by_cases hii:iv.toNat=i'
    ·subst hii
     rw[if_pos rfl,if_pos (List.getElem?_eq_some_iff.1 e4).1]at hi'
     obtain rfl:=Option.some.inj hi'
     rw[jB (by rw[Rbf];omega),Rbf]at hj'
     split at hj'
     ·rename_i hin
      rw[Rbu,Qb8]at hj'
      obtain⟨x,hx1,hx2⟩:=hj'
      exact .inl ⟨rfl,hin.1,by omega,x,hx1,hx2.symm⟩
     ·rename_i hout
      exact .inr ⟨row,e4,hj',fun e=>hout ⟨e.2.1,by omega⟩⟩
    ·rw[if_neg hii]at hi'
     exact .inr ⟨row',hi',hj',fun e=>hii e.1.symm⟩
   have hnew:Rp (fun b=>oV (mF pu s m' pv (iv.toNat*sz)) (G.own b)) w' s pv (m'-q.length) (.slice (some c') n' cap') ((aM.v nv).val ρ):=by
    rw[hd2,e7,hm1]
    refine .sl _ c' n' cap' sz _ (fun i' j'=>if i'=iv.toNat/\off<=j'/\j'<off+ls.length then vs.getD (j'-off) undef else vs0 i' j') (by simpa using i2) i3 (.inl rfl) (fun row' hr=>?_) (fun _=>⟨hspot,?_,fun k hk=>?_⟩) (fun i' row' hi' j' d hj'=>?_) (fun i' row' hi' j' d hj'=>?_)
    ·rcases Sb2 hr with hr|rfl
     ·exact i5 _ hr
     ·simp;omega
    ·show oV _ (G.own c'.block)=_
     rw[hob]
     show mF pu s m' pv (iv.toNat*sz) s pv=_
     rw[hrF,Aa1,if_pos (by omega)]
    ·obtain⟨u0,hu0,hf0⟩:=hcells k hk
     rw[<- hw',World.frozen?_setCells]
     obtain⟨u',hu'⟩:=qI (B:=c'.block) (o:=c'.off+(iv.toNat*sz+off)) (vs:=vs) (b:=c'.add k) (fun _=>by rw[add_plain hspot]) (fun j hj=>by obtain⟨u1,h9,-⟩:=hcell0 j hj;rw[h9];rfl) hu0
     exact⟨u',hu',hf0⟩
    ·rcases hrowNew i' row' hi' j' d hj' with ⟨rfl,h9,h10,x0,h11,h12⟩|⟨row0,h9,h10,h11⟩
     ·rw[if_pos ⟨rfl,h9,h10⟩,<- hw',add_plain hspot]
      have:=World.cell?_setCells_in c'.block vs (c'.off+(iv.toNat*sz+off)) w (fun j hj=>by obtain⟨u1,h9,-⟩:=hcell0 j hj;rw[h9];rfl) (j'-off) (by omega)
      rw[show c'.off+(iv.toNat*sz+off)+(j'-off)=c'.off+(iv.toNat*sz+j') by omega]at this
      rw[this,Qb5,Qbz (by omega)]
      rfl
     ·rw[if_neg h11,<- hw',World.cell?_setCells_out _ _ _ _ _ (fun _ _=>?_)]
      ·exact i7 _ _ h9 _ _ h10
      ·rw[add_plain hspot]
       dsimp only
       have hj'l:j'<sz:=by
        have:=(List.getElem?_eq_some_iff.1 h10).1
        rw[i5 row0 (Rba h9)]at this
        exact this
       by_cases hii:i'=iv.toNat
       ·subst hii
        have:¬ (off<=j'/\j'<off+ls.length):=fun e=>h11 ⟨rfl,e⟩
        omega
       ·rcases Nat.lt_or_gt_of_ne hii with hlt|hgt
        ·refine .inl ?_
         have:=Sbd sz (show i'+1<=iv.toNat by omega)
         rw[Sbv]at this
         omega
        ·refine .inr ?_
         have:=Sbd sz (show iv.toNat+1<=i' by omega)
         rw[Sbv]at this
         omega
    ·rcases hrowNew i' row' hi' j' d hj' with ⟨rfl,h9,h10,x0,h11,h12⟩|⟨row0,h9,h10,h11⟩
     ·rw[if_pos ⟨rfl,h9,h10⟩,h12]
      have hv:vs[j'-off]?=some (vs.getD (j'-off) undef):=by
       rw[Qb5,Qbz (by omega)];rfl
      have hpok:=hput (j'-off) _ _ hv h11
      rw[show off+(j'-off)=j' by omega]at hpok
      refine hpok.rp hR (by omega) hzz (fun s' m2 hm2 b t hb=>⟨?_,hheap b (hne b s' t hb (hmvr _ hm2))⟩) (fun s' q' hq'=>by rw[hho]at hq';simp at hq') (fun s' hs' b p hb=>⟨?_,hheap b (hne b s' p hb (hfrr s' hs'))⟩)
      ·show oV _ (G.own b)=_
       rw[hb]
       show mF pu s m' pv (iv.toNat*sz) s' t=_
       rw[hmF (j',s',m2) hm2,Aa1]
       simp only[Qbs,Sbf]
       by_cases ht:t.length<m1
       ·rw[if_pos ht,if_pos (by omega)]
       ·rw[if_neg ht,if_neg (by omega)]
      ·show oV _ (G.own b)=_
       rw[hb]
       exact hfF s' hs' p
     ·rw[if_neg h11]
      refine (i8 _ _ h9 _ _ h10).move hzz _ m1 (by omega) fun b t hb=>⟨?_,hheap b fun e=>?_⟩
      ·show oV _ (G.own b)=_
       rw[hb]
       show mF pu s m' pv (iv.toNat*sz) s _=_
       rw[hrF,Aa1]
       simp only[Qbs,Sbf]
       by_cases ht:t.length<m1
       ·rw[if_pos ht,if_pos (by omega)]
       ·rw[if_neg ht,if_neg (by omega)]
      ·rw[e,hob]at hb
       injection hb with _ e2
       have:=congrArg List.length e2
       simp at this
   have:=Rp.upd (own':=fun b=>oV (mF pu s m' pv (iv.toNat*sz)) (G.own b)) (w':=w') (r:=s) (M':=m') (full:=pv) hzz (fun b t hb ht=>⟨?_,hheap b fun e=>?_⟩) (by omega) (by rw[hpvl];exact hnew) pv [] m0 (G.hdr s) _ _ rfl (by omega) (by simpa using hroot) hnest hupd
   ·simpa using this
   ·show oV _ (G.own b)=_
    rw[hb]
    exact hrF t
   ·rw[e,hob]at hb
    injection hb with _ e2
    exact ht (e2▸List.prefix_rfl)
  ·exact⟨_,_,_,_,rfl,trivial⟩
  ·refine⟨x',m'',v',.frozen,rfl,?_,fun b p hb=>?_⟩
   ·have:=hR.root h8
    simp only[dJ]at this
    refine this.rd.mono' fun b hb hlt=>?_
    rcases hb with hb|⟨p,hb⟩
    ·exact hzz b hb hlt
    ·refine⟨?_,hheap b (hne b s p hb (hfrr s hs))⟩
     show oV _ (G.own b)=_
     rw[hb]
     exact hfF s hs p
   ·have hb':oV (mF pu r m' pv (iv.toNat*sz)) (G.own b)=.slc s p:=hb
    cases e:G.own b with
    | slc s' p' =>
     rw[e]at hb'
     have hb'':mF pu r m' pv (iv.toNat*sz) s' p'=.slc s p:=hb'
     by_cases hs':s'∈pu.frz
     ·rw[hfF s' hs']at hb'';cases hb''
     ·unfold mF at hb''
      rw[Ba0.2 hs',cond_false]at hb''
      have hsr:=hfrr s hs
      split at hb''
      ·unfold Aa1 at hb''
       split at hb''
       ·injection hb'' with j1 j2;exact hsr j1.symm
       ·cases hb''
      ·split at hb''
       ·unfold Aa1 at hb''
        split at hb''
        ·injection hb'' with j1 j2;exact hsr j1.symm
        ·cases hb''
       ·injection hb'' with j1 j2;exact hs' (j1▸hs)
    |_=>rw[e]at hb';cases hb'
end
end Go.Proofs.YtdpfilpckndhcaaGreatDoor.Rf

namespace Go.Proofs.YtdpfilpckndhcaaGreatDoor.Rf
set_option linter.unusedVariables false
set_option linter.unusedSimpArgs false
theorem sK:∀ (sz n:Nat) (l:List D),l.length=n*sz->∀ i row,(chunk sz n l)[i]?=some row->i<n/\row.length=sz/\∀ j d,row[j]?=some d->l[i*sz+j]?=some d
 |sz,0,l,_,i,row,h=>by simp[chunk]at h
 | sz, n + 1, l, hl, i, row, h => by
  simp only[chunk]at h
  rw[Sbv,Nat.one_mul]at hl
  cases i with
  | zero =>
   simp only[Qb4,Option.some.injEq]at h
   subst h
   refine⟨by omega,by simp;omega,fun j d hj=>?_⟩
   rw[Sbb]at hj
   split at hj
   ·simpa using hj
   ·cases hj
  | succ i =>
   simp only[Rbz]at h
   obtain⟨h1,h2,h3⟩:=sK sz n (l.drop sz) (by simp;omega) i row h
   refine⟨by omega,h2,fun j d hj=>?_⟩
   have:=h3 j d hj
   rw[Rb4]at this
   rw[<- this]
   congr 1
   rw[Sbv];omega
theorem Jab:∀ (sz n:Nat) (l:List D),(chunk sz n l).length=n
 |_,0,_=>rfl
 |sz,n+1,l=>by simp[chunk,Jab sz n]
theorem Ga2 {α:Type}(l:List α):∀ n,(Db2 l n).length=n*l.length
 |0=>by simp[Db2]
 |n+1=>by rw[Db2,Qbs,Ga2 l n,Sbv];omega
theorem Uab {α:Type}(l:List α)(h:0<l.length):∀ n j,j<n*l.length->(Db2 l n)[j]?=l[j % l.length]?
 |0,j,hj=>by simp at hj
 | n + 1, j, hj => by
  rw[Db2]
  by_cases h1:j<l.length
  ·rw[Rbc h1,Nat.mod_eq_of_lt h1]
  ·rw[Rbb (by omega),Uab l h n (j-l.length) (by rw[Sbv]at hj;omega)]
   congr 1
   rw[Nat.mod_eq_sub_mod (by omega:j ≥ l.length)]
section
variable {P:Program} {E:Env} {F:bU} {n:Nat} {σ:Nat->Option aU} {ρ:List D} {a:Act} {w w':World} {G G':Gh} {g:Option (aM×Bool)} {o:Oper} {cf:Nat->List D->Option (List D)} {Q:Exit->Act->World->Prop} {next:Act->World->Prop}
theorem Fa8 {ti:TI}{len:Nat}{place:Nat->Option (Nat×Nat)}(hpl:∀ i,i<len->place i=some (i*ti.size,ti.size)) :
  ∀ {xs:List (Nat×Operand)} {ps:List (Nat×SV)},Hab σ ρ G w a xs ps->∀ {ls ls':List aW} {us:Array Value},ls.length=len*ti.size->aD σ ρ G w ls us.toList->Dau ti len ls ps=some ls' ->
  ∃ us',Instr.fill place us (xs.map fun x=>(x.1,a.eval x.2))=some us'/\aD σ ρ G w ls' us'.toList/\ls'.length=len*ti.size
 | [], _, rfl, ls, ls', us, hn, hl, h => by
  simp only[Dau,Option.some.injEq]at h
  subst h
  exact⟨us,rfl,hl,hn⟩
 | (i, x) :: xs, _, ⟨sv, ps, rfl, h1, hr⟩, ls, ls', us, hn, hl, h => by
  unfold Dau at h
  split at h
  ·rename_i vs hvs
   cases hb:(Nat.beq vs.length ti.size&&Nat.blt i len) with
   |false=>rw[hb]at h;cases h
   | true =>
    rw[hb,cond_true]at h
    simp only[Qbq,Rbv,Nat.blt_eq]at hb
    have h2:=jC hvs h1
    have hlen:=hl.len
    have hle:i*ti.size+ti.size<=ls.length:=by
     have:=Sbd ti.size (show i+1<=len by omega)
     rw[Sbv,Nat.one_mul]at this
     omega
    obtain⟨us1,h3,h4⟩:=Qaq (rest:=xs.map fun x=>(x.1,a.eval x.2)) (hpl i hb.2) (by rw[h2.len];exact hb.1) (by rw[<- Tbg,hlen];exact hle)
    obtain⟨us',h5,h6,h7⟩:=Fa8 hpl hr (us:=us1) (ls:=setRange ls (i*ti.size) vs) (by rw[mH (by rw[hb.1];exact hle)];exact hn) (by rw[h4];exact hl.setRange h2 (by rw[hb.1];exact hle)) h
    exact⟨us',by rw[Rbh,h3];exact h5,h6,h7⟩
  ·cases h
def mkF (pu:Put)(nr m':Nat)(s:Nat)(p:List Nat):Ow :=
 bif has pu.frz s then .frz else match pu.moves.find? (fun y=>Nat.beq y.2.1 s) with
  |some z=>Aa1 nr m' ([z.1]++p)
  |none=>.slc s p
theorem Fbs (z:Array Value)(hz:0<z.size)(N j:Nat)(hj:j<N):((Array.range N).map (fun i=>z[i % z.size]!))[j]?=z[j % z.size]?:=by
 rw[Array.getElem?_map,Array.getElem?_range]
 rw[if_pos hj]
 simp only[Rb5]
 have hlt:j % z.size<z.size:=Nat.mod_lt _ hz
 rw[getElem!_pos z (j % z.size) hlt,Rb0 hlt]
theorem Ran {t:TypeId}{i:TI}{info:TypeInfo}{u:TypeDesc}(f:dQ P t i info u)(hs:0<i.size){z:Value}(hz:aD σ ρ G w (i.cells.map gU) z.cells.toList)(len:Nat) :
  aD σ ρ G w (Db2 (i.cells.map gU) len) ((Array.range (len*i.size)).map (fun j=>z.cells[j % z.cells.size]!)).toList:=by
 have hcl:(i.cells.map gU).length=i.size:=by rw[Rbf,f.len]
 have hzl:z.cells.size=i.size:=by rw[<- Tbg,hz.len,hcl]
 refine .of_get (by rw[Ga2,hcl];simp) fun j l v hj hv=>?_
 have hlt:j<len*i.size:=by
  have:=(List.getElem?_eq_some_iff.1 hj).1
  rwa[Ga2,hcl]at this
 rw[Uab _ (by omega) _ _ (by rw[hcl];exact hlt),hcl]at hj
 rw[Sbi,Fbs _ (by omega) _ _ hlt,hzl]at hv
 obtain⟨v',h1,h2⟩:=hz.get hj
 rw[Sbi,hv]at h1
 exact Option.some.inj h1▸h2
theorem xR (hR:R E.ntmps F σ ρ a w G)(hd:gM E.ntmps o)(hti:yA P E.ti){nv nb nr:Nat}{mv mvs:Bool}(hf:σ (kR nr)=none){t:TypeId}{len:Nat}{parts:Array (Nat×Operand)}(ho:o.op=.buildSlice t len parts){res:dD}
  (h:(tJ E mv mvs nv nb nr g o).eval σ=some res) (hst:aQ cf ρ g nv res.lets):iP P E F σ ρ a w g o Q res.upd:=by
 simp only[tJ,ho,aA,Qbp,tiR,bA,aL]at h
 obtain⟨st,h1,e,h2,ti,h3,ps,h4,_,h5,h⟩:=h
 split at h5
 case isFalse=>cases h5
 rename_i hb5
 simp only[Qbq,Rb8,Nat.blt_eq]at hb5
 obtain⟨⟨hsz1,hsz0⟩,hby⟩:=hb5
 obtain⟨info,u,f⟩:=bB (hti.ok _ _ h1)
 obtain rfl:=uA f h2
 obtain⟨info',u',f'⟩:=bB (hti.ok _ _ h3)
 split at h
 case h_2=>cases h
 rename_i ls hls
 simp only[aA,Qbp,aL]at h
 obtain⟨pu,h6,_,h7,fr,h8,_,h9,h⟩:=h
 split at h7
 case isFalse=>cases h7
 rename_i hb7
 split at h9
 case isFalse=>cases h9
 rename_i hb9
 simp only[Qbq,Rbe,Tbj,Tb0]at hb9
 obtain⟨⟨hdis,hmf⟩,hho⟩:=hb9
 obtain⟨hfz1,hfz2⟩:=iJ h8
 have main:gOn ρ g=true->∃ us':Array Value,(execOp a.eval o).run P w=.ok (.value (.slice (some ⟨w.heap.size,0,none⟩) len len)) (pushB w us' e)/\aD σ ρ G w ls us'.toList/\ls.length=len*ti.size:=by
  intro hg
  obtain⟨z,hz1,hz2,-,-⟩:=f'.zeros (σ:=σ) (ρ:=ρ) (G:=G) (w:=w)
  have hz3:=Ran f' hsz0 hz2 len
  have hcl:(ti.cells.map gU).length=ti.size:=by rw[Rbf,f'.len]
  obtain⟨us',hfl,hl,hll⟩:=Fa8 (place:=fun i=>some (i*ti.size,ti.size)) (fun i _=>rfl) (Bat hR hg h4) (ls:=Db2 (ti.cells.map gU) len) (by rw[Ga2,hcl]) hz3 hls
  refine⟨us',?_,hl,hll⟩
  ·unfold execOp
   simp only[ho]
   refine gX ?_
   unfold Instr.buildSlice
   simp only[Sem.run_bind,run_underlying f.und,Result.andThen_ok,f'.sizeOf]
   have hle:¬ len*ti.size>2 ^ 24:=by
    have:(2:Nat) ^ 24=16777216:=by decide
    omega
   rw[if_neg hle]
   have e1:(parts.map fun x=>(x.1,a.eval x.2)).toList=parts.toList.map fun x=>(x.1,a.eval x.2):=by simp
   by_cases h0:len*ti.size=0
   ·have hus:Instr.fill (fun i=>some (i*ti.size,ti.size)) ((Array.range (len*ti.size)).map (fun j=>(#[]:Array Value)[j % (#[]:Array Value).size]!)) (parts.map fun x=>(x.1,a.eval x.2)).toList=some us':=by
     rw[e1,<- hfl]
     congr 1
     rw[h0]
     simp
    simp only[Sem.run_bind,Sem.run_pure,Result.andThen_ok,h0,if_true]at hus ⊢
    rw[hus]
    simp[newRow,pushB]
   ·simp only[Sem.run_bind,if_neg h0,nD f'.info_ hz1,Result.andThen_ok,Sem.run_pure]
    rw[e1,hfl]
    simp[newRow,pushB]
 have hone:∀ us':Array Value,aD σ ρ G w ls us'.toList->pu.xs.length=ls.length/\(∀ j v x,us'.toList[j]?=some v->pu.xs[j]?=some x->Jak σ ρ G w pu (0+j) v x):=fun us' hl=>by
  obtain⟨h1,h2,-⟩:=wM hR h6 hl
  exact⟨h1,h2⟩
 cases hgg:noG g with
 | false =>
  rw[hgg,cond_false]at h
  rw[hgg,Bool.false_or]at hb7
  simp only[Qbq,Tb0]at hb7
  obtain⟨⟨hm0,-⟩,hf0⟩:=hb7
  simp only[wP,aC,Option.some.injEq]at h
  subst h
  simp only[Gae,Rbm]
  refine⟨fun hg=>?_,fun hg=>Lbw hR hd hg⟩
  obtain⟨us',hrun,hl,hll⟩:=main hg
  obtain⟨hpl,hput⟩:=hone us' hl
  obtain⟨d,hd1,hd2⟩:=iB hst hg
  refine qF hrun ⟨G,?_⟩
  have hfin:=hR.own hd (g:=g) (sv:=.one (.sn [] .no false (.v nv))) (v:=.slice (some ⟨w.heap.size,0,none⟩) len len) (w':=pushB w us' e) (G':=G) (ur:=[]) (f:=fun s p=>.slc s p) (wr:=fun _=>False)
   (by simp) (fun b _=>by cases hb:G.own b<;>rfl) (fun b hb=>hR.frame.fresh b (by rw[mJ]at hb;omega)) ⟨rfl,rfl,rfl,by rw[mJ];omega⟩ (fun b hb=>.inl (hR.frame.fresh b hb))
   (fun b hlt _=>nI (by omega)) (fun _ h=>h.elim) (fun _ _ _ _ _=>rfl) (by simp) (fun _ _ _ _ _ s p q h=>by injection h with h1 h2;exact⟨h1,h2⟩) (fun _ _=>rfl) rfl (fun hfr _=>?_) (by simp)
  ·rw[Rbm]at hfin
   exact hfin
  ·simp only[dV,aB]
   refine⟨⟨rfl,by simp⟩,fun _=>⟨?_,by simp,trivial⟩⟩
   simp only[aO.run]at hd1
   split at hd1
   case isFalse=>cases hd1
   rename_i hxl
   simp only[Option.some.injEq,List.cons.injEq,and_true]at hd1
   rw[hd2,<- hd1]
   refine .rows _ ⟨w.heap.size,0,none⟩ len len ti.size _ (fun i j=>us'.toList.getD (i*ti.size+j) undef) (Jab _ _ _) (Qbw _) (.inr rfl) (fun row hr=>?_) (fun i row hi j d hj=>?_) (fun i row hi j d hj=>?_)
   ·obtain⟨i,hi⟩:=List.mem_iff_getElem?.1 hr
    exact (sK _ _ _ hxl i row hi).2.1
   ·obtain⟨h10,h11,h12⟩:=sK _ _ _ hxl i row hi
    have h13:=(List.getElem?_eq_some_iff.1 (h12 j d hj)).1
    refine⟨.inl (hR.frame.fresh _ (Qbw _)),?_⟩
    rw[qX]
    have h14:i*ti.size+j<us'.toList.length:=by rw[hl.len,<- hpl];simpa using h13
    rw[Qb5,Qbz h14,<- Sbi,Qbz h14]
    rfl
   ·obtain⟨h10,h11,h12⟩:=sK _ _ _ hxl i row hi
    have h13:=h12 j d hj
    rw[Rbu,Qb8]at h13
    obtain⟨x,hx1,rfl⟩:=h13
    have h14:i*ti.size+j<us'.toList.length:=by rw[hl.len,<- hpl];exact (List.getElem?_eq_some_iff.1 hx1).1
    have hv:us'.toList[i*ti.size+j]?=some (us'.toList.getD (i*ti.size+j) undef):=by
     rw[Qb5,Qbz h14];rfl
    cases hput _ _ _ hv hx1 with
    |sc h=>exact .sc h
    |nil z hx hv=>rw[hx,hv];exact Rd.nil
    |mv r m ver hm hr hv hd'=>rw[hm0]at hm;simp at hm
    |hole r k m q hm hl hq hrp hn hd'=>rw[hho]at hm;simp at hm
    | fz hd' h =>
     refine h.mono' fun b hb hlt=>?_
     rcases hb with hb|⟨r,p,h1,-⟩
     ·exact⟨.inl hb,nI (by omega)⟩
     ·rw[hf0]at h1;simp at h1
 | true =>
  obtain rfl:=zA hgg
  rw[hgg,cond_true]at h
  simp only[wP,aC,Option.some.injEq]at h
  subst h
  simp only[Gae]
  refine⟨fun hg=>?_,fun hg=>by simp[gOn]at hg⟩
  obtain⟨us',hrun,hl,hll⟩:=main hg
  obtain⟨hpl,hput⟩:=hone us' hl
  obtain⟨d,hd1,hd2⟩:=iB hst hg
  generalize hM:min big (pu.depth+1)=M
  obtain⟨m1,rfl⟩:∃ m1,M=m1+1:=⟨M-1,by rw[<- hM];unfold big;omega⟩
  have hN:w.heap.size=w.heap.size:=rfl
  have hdr:∀ r,(σ (kR r)).isSome->r≠nr:=fun r hr e=>by
   rw[e,hf]at hr;cases hr
  refine qF hrun ⟨{ G with own:=fun b=>if b=w.heap.size then .slc nr [] else oV (mkF pu nr (m1+1)) (G.own b),hdr:=fun r=>if r=nr then .slice (some ⟨w.heap.size,0,none⟩) len len else G.hdr r },?_⟩
  have hfF:∀ s,s∈pu.frz->∀ p,mkF pu nr (m1+1) s p=.frz:=fun s hs p=>by
   unfold mkF
   rw[oJ.2 hs,cond_true]
  have hmF:∀ z∈pu.moves,∀ p,mkF pu nr (m1+1) z.2.1 p=Aa1 nr (m1+1) ([z.1]++p):=fun z hz p=>by
   unfold mkF
   have:has pu.frz z.2.1=false:=by
    have:=hmf z hz
    simpa using this
   rw[this,cond_false,xA hdis z hz]
  have hslt:∀ b,G.own b≠.frz->b<w.heap.size:=fun b hb=>by
   rcases Rbj b w.heap.size with h|h
   ·exact h
   ·exact absurd (hR.frame.fresh b h) hb
  have hheap:∀ b,b≠w.heap.size->(pushB w us' e).heap[b]?=w.heap[b]?:=fun b hb=>nI hb
  have hmem:∀ {s:Nat} {c:aU},(kR s,c)∈(kR nr,aU.root (.v nv) (m1+1) 0 .live)::(pu.moves.map fun z=>(kR z.2.1,aU.root (.c .hole) 0 0 .gone))++fr ->
    (s=nr/\c=.root (.v nv) (m1+1) 0 .live)\/(∃ z∈pu.moves,s=z.2.1/\c=.root (.c .hole) 0 0 .gone) \/
    (s∈pu.frz/\∃ x m v,c=.root x m v .frozen/\σ (kR s)=some (.root x m v .live)):=by
   intro s c hc
   rcases List.mem_append.1 hc with hc|hc
   ·rcases List.mem_cons.1 hc with hc|hc
    ·obtain⟨e1,e2⟩:=Prod.mk.inj hc
     exact .inl ⟨gD e1,e2⟩
    ·obtain⟨z,hz,e⟩:=List.mem_map.1 hc
     obtain⟨e1,e2⟩:=Prod.mk.inj e
     exact .inr (.inl ⟨z,hz,(gD e1).symm,e2.symm⟩)
   ·obtain⟨s',hs',x',m'',v',e1,e2,e3⟩:=hfz2 _ _ hc
    obtain rfl:=gD e1
    exact .inr (.inr ⟨hs',x',m'',v',e2,e3⟩)
  have hnrσ:σ (kR nr)=none:=hf
  have hfzr:∀ s,s∈pu.frz->s≠nr:=fun s hs e=>by
   rcases hfz1 s hs with ⟨x',m'',v',h8,-⟩|⟨x',m'',v',h8⟩<;>rw[e,hnrσ]at h8<;>cases h8
  have hzz:∀ b,G.own b=.frz->b<w.heap.size->(if b=w.heap.size then Ow.slc nr [] else oV (mkF pu nr (m1+1)) (G.own b))=.frz/\(pushB w us' e).heap[b]?=w.heap[b]?:=fun b hb hlt=>by
   rw[if_neg (by omega),hb]
   exact⟨rfl,hheap b (by omega)⟩
  have hown':∀ b s p,G.own b=.slc s p->(if b=w.heap.size then Ow.slc nr [] else oV (mkF pu nr (m1+1)) (G.own b))=mkF pu nr (m1+1) s p/\(pushB w us' e).heap[b]?=w.heap[b]?:=fun b s p hb=>by
   have:=hslt b (by rw[hb];simp)
   rw[if_neg (by omega),hb]
   exact⟨rfl,hheap b (by omega)⟩
  refine hR.own hd (wr:=fun _=>False) (f:=mkF pu nr (m1+1)) ?_ ?_ ?_ ?_ ?_ (fun b hlt _=>hheap b (by omega)) (fun _ h=>h.elim) ?_ ?_ ?_ ?_ rfl ?_ ?_
  ·intro k c hc
   rcases List.mem_append.1 hc with hc|hc
   ·rcases List.mem_cons.1 hc with hc|hc
    ·exact⟨nr,(Prod.mk.inj hc).1⟩
    ·obtain⟨z,hz,e⟩:=List.mem_map.1 hc
     exact⟨z.2.1,(Prod.mk.inj e).1.symm⟩
   ·obtain⟨s',-,-,-,-,e1,-⟩:=hfz2 _ _ hc
    exact⟨s',e1⟩
  ·intro b hlt
   show (if b=w.heap.size then Ow.slc nr [] else _)=_
   rw[if_neg (by omega)]
  ·intro b hb
   rw[mJ]at hb
   show (if b=w.heap.size then Ow.slc nr [] else oV _ (G.own b))=.frz
   rw[if_neg (by omega),hR.frame.fresh b (by omega)];rfl
  ·exact⟨rfl,rfl,rfl,by rw[mJ];omega⟩
  ·intro b hb
   show (if b=w.heap.size then Ow.slc nr [] else oV _ (G.own b))=.frz\/∃ r p,(if b=w.heap.size then Ow.slc nr [] else oV _ (G.own b))=.slc r p/\_
   by_cases e:b=w.heap.size
   ·rw[if_pos e];exact .inr ⟨nr,[],rfl,hnrσ⟩
   ·rw[if_neg e,hR.frame.fresh b hb];exact .inl rfl
  ·intro b s p hb hnot
   unfold mkF
   have h1:has pu.frz s=false:=by
    rw[Ba0]
    intro hs
    rcases hfz1 s hs with ⟨x',m'',v',-,h8⟩|⟨x',m'',v',h8⟩
    ·exact hnot _ (Qby _ h8)
    ·exact (hR.root h8).2 b p hb
   have h2:s∉pu.moves.map (·.2.1):=by
    intro hh
    obtain⟨z,hz,e⟩:=List.mem_map.1 hh
    refine hnot (.root (.c .hole) 0 0 .gone) (Qbv _ (Qb2 _ (List.mem_map.2 ⟨z,hz,?_⟩)))
    rw[e]
   rw[h1,cond_false,Iat h2]
  ·intro s c hc _
   rcases hmem hc with ⟨rfl,rfl⟩|⟨z,hz,rfl,rfl⟩|⟨hs,x',m'',v',rfl,h8⟩
   ·exact .inl ⟨hnrσ,_,_,_,_,rfl⟩
   ·exact .inr (.inr (.inl ⟨_,_,_,_,rfl,by simp,by simp⟩))
   ·refine .inr (.inr (.inr ⟨x',m'',v',h8,rfl,fun b p hb=>?_⟩))
    obtain⟨h10,h11⟩:=hown' b s p hb
    exact⟨h10.trans (hfF s hs p),h11⟩
  ·intro r0 x0 m0 k0 hfz s p q' hF
   unfold mkF at hF
   cases hh:has pu.frz s with
   |true=>rw[hh,cond_true]at hF;cases hF
   | false =>
    rw[hh,cond_false]at hF
    split at hF
    ·unfold Aa1 at hF
     split at hF
     ·injection hF with j1 j2
      exact absurd j1.symm (hdr r0 (by rw[hfz];rfl))
     ·cases hF
    ·injection hF with j1 j2;exact⟨j1,j2⟩
  ·intro r hr
   show (if r=nr then _ else _)=_
   rw[if_neg (hdr r hr)]
  ·intro _ _
   simp only[dV,aB]
   refine⟨by simp,fI _ _ _ (.inr ⟨_,Qby _ (Qbv _ Qb7)⟩),rfl⟩
  ·intro _ s c hc _
   rcases hmem hc with ⟨rfl,rfl⟩|⟨z,hz,rfl,rfl⟩|⟨hs,x',m'',v',rfl,h8⟩
   ·refine⟨_,_,_,_,rfl,?_⟩
    simp only[dJ,if_true]
    simp only[aO.run]at hd1
    split at hd1
    case isFalse=>cases hd1
    rename_i hxl
    simp only[Option.some.injEq,List.cons.injEq,and_true]at hd1
    rw[hd2,<- hd1]
    refine .sl _ ⟨w.heap.size,0,none⟩ len len ti.size _ (fun i j=>us'.toList.getD (i*ti.size+j) undef) (Jab _ _ _) (Qbw _) (.inl rfl) (fun row hr=>?_) (fun _=>⟨rfl,by simp,fun k hk=>?_⟩) (fun i row hi j d hj=>?_) (fun i row hi j d hj=>?_)
    ·obtain⟨i,hi⟩:=List.mem_iff_getElem?.1 hr
     exact (sK _ _ _ hxl i row hi).2.1
    ·rw[qX,yV]
     have:k<us'.size:=by rw[<- Tbg,hl.len,hll];exact hk
     exact⟨us'[k],Rb0 this,rfl⟩
    ·obtain⟨h10,h11,h12⟩:=sK _ _ _ hxl i row hi
     have h13:=(List.getElem?_eq_some_iff.1 (h12 j d hj)).1
     rw[qX]
     have h14:i*ti.size+j<us'.toList.length:=by rw[hl.len,<- hpl];simpa using h13
     rw[Qb5,Qbz h14,<- Sbi,Qbz h14]
     rfl
    ·obtain⟨h10,h11,h12⟩:=sK _ _ _ hxl i row hi
     have h13:=h12 j d hj
     rw[Rbu,Qb8]at h13
     obtain⟨x,hx1,rfl⟩:=h13
     have h14:i*ti.size+j<us'.toList.length:=by rw[hl.len,<- hpl];exact (List.getElem?_eq_some_iff.1 hx1).1
     have hv:us'.toList[i*ti.size+j]?=some (us'.toList.getD (i*ti.size+j) undef):=by
      rw[Qb5,Qbz h14];rfl
     have hpok:=hput _ _ _ hv hx1
     rw[Nat.zero_add]at hpok
     refine hpok.rp hR (by unfold big at hM;omega) hzz (fun s' m2 hm2 b t hb=>?_) (fun s' q' hq'=>by rw[hho]at hq';simp at hq') (fun s' hs' b p hb=>?_)
     ·obtain⟨h15,h16⟩:=hown' b s' t hb
      refine⟨h15.trans ?_,h16⟩
      rw[hmF _ hm2,Aa1]
      simp only[Qbs,Sbf,Rb9]
      by_cases ht:t.length<m1
      ·rw[if_pos ht,if_pos (by omega)]
      ·rw[if_neg ht,if_neg (by omega)]
     ·obtain⟨h15,h16⟩:=hown' b s' p hb
      exact⟨h15.trans (hfF s' hs' p),h16⟩
   ·exact⟨_,_,_,_,rfl,trivial⟩
   ·refine⟨x',m'',v',.frozen,rfl,?_,fun b p hb=>?_⟩
    ·have:=hR.root h8
     simp only[dJ]at this ⊢
     rw[if_neg (hfzr s hs)]
     refine this.rd.mono' fun b hb hlt=>?_
     rcases hb with hb|⟨p,hb⟩
     ·exact hzz b hb hlt
     ·obtain⟨h15,h16⟩:=hown' b s p hb
      exact⟨h15.trans (hfF s hs p),h16⟩
    ·have hb':(if b=w.heap.size then Ow.slc nr [] else oV (mkF pu nr (m1+1)) (G.own b))=.slc s p:=hb
     split at hb'
     ·injection hb' with j1 _
      exact hfzr s hs j1.symm
     ·cases e:G.own b with
      | slc s' p' =>
       rw[e]at hb'
       have hb'':mkF pu nr (m1+1) s' p'=.slc s p:=hb'
       by_cases hs':s'∈pu.frz
       ·rw[hfF s' hs']at hb'';cases hb''
       ·unfold mkF at hb''
        rw[Ba0.2 hs',cond_false]at hb''
        split at hb''
        ·unfold Aa1 at hb''
         split at hb''
         ·injection hb'' with j1 j2;exact hfzr s hs j1.symm
         ·cases hb''
        ·injection hb'' with j1 j2;exact hs' (j1▸hs)
      |_=>rw[e]at hb';cases hb'
end
end Go.Proofs.YtdpfilpckndhcaaGreatDoor.Rf

namespace Go.Proofs.YtdpfilpckndhcaaGreatDoor.Rf
set_option linter.unusedVariables false
set_option linter.unusedSimpArgs false
def uB (vs:Nat->Nat->Value)(n sz:Nat):List Value:=(List.range (n*sz)).map fun k=>vs (k / sz) (k % sz)
theorem vR (vs:Nat->Nat->Value)(n sz:Nat):(uB vs n sz).length=n*sz:=by simp[uB]
theorem Fak (vs:Nat->Nat->Value){n sz i j:Nat}(hi:i<n)(hj:j<sz):(uB vs n sz)[i*sz+j]?=some (vs i j):=by
 have hlt:i*sz+j<n*sz:=by
  have:=Sbd sz (show i+1<=n by omega)
  rw[Sbv]at this
  omega
 unfold uB
 rw[Rbu,Tb9 hlt,Rb5]
 rw[Nat.mul_comm i sz,Nat.mul_add_div (by omega),Nat.div_eq_of_lt hj,Nat.mul_add_mod,Nat.mod_eq_of_lt hj,Rby]
theorem Lah {vs:Nat->Nat->Value}{n sz k:Nat}{u:Value}(h:(uB vs n sz)[k]?=some u):k / sz<n/\k % sz<sz/\k=k / sz*sz+k % sz/\u=vs (k / sz) (k % sz):=by
 have hlt:k<n*sz:=by
  have:=(List.getElem?_eq_some_iff.1 h).1
  rwa[vR]at this
 have hsz:0<sz:=by
  rcases Nat.eq_zero_or_pos sz with e|e
  ·rw[e]at hlt;simp at hlt
  ·exact e
 refine⟨(Nat.div_lt_iff_lt_mul hsz).2 hlt,Nat.mod_lt _ hsz,?_,?_⟩
 ·rw[Nat.mul_comm];exact (Nat.div_add_mod k sz).symm
 ·unfold uB at h
  rw[Rbu,Tb9 hlt,Rb5]at h
  exact (Option.some.inj h).symm
section
variable {P:Program} {E:Env} {F:bU} {n:Nat} {σ:Nat->Option aU} {ρ:List D} {a:Act} {w w':World} {G G':Gh} {g:Option (aM×Bool)} {o:Oper} {cf:Nat->List D->Option (List D)} {Q:Exit->Act->World->Prop} {next:Act->World->Prop}
theorem Kas {rs:List (List D)}{sz:Nat}{b:Addr}{vs:Nat->Nat->Value}(hsz:∀ r∈rs,r.length=sz)
  (hcell:∀ i row,rs[i]?=some row->∀ j d,row[j]?=some d->w.cell? (b.add (i*sz+j))=some (vs i j)):∀ k u,(uB vs rs.length sz)[k]?=some u->w.cell? (b.add k)=some u:=by
 intro k u h
 obtain⟨h1,h2,h3,rfl⟩:=Lah h
 have hr:rs[k / sz]?=some rs[k / sz]:=Qbz h1
 have hl:=hsz _ (Rba hr)
 have hd:rs[k / sz][k % sz]?=some (rs[k / sz][k % sz]'(by omega)):=Qbz (by omega)
 have:=hcell _ _ hr _ _ hd
 rwa[<- h3]at this
structure Mbs (w w1:World) (G:Gh) (A:Option Addr) (n n' cap sz:Nat) (olds news:List Value) (v:Value) (A':Option Addr) (cb:Addr) (cap':Nat) (grow:Bool):Prop where
 val:v=.slice A' (n+n') cap'
 aval:A'=some cb\/(A'=none/\cap'=0)
 le:n+n'<=cap'
 os:w1.os=w.os/\w1.tape=w.tape/\w1.output=w.output
 size:w1.heap.size=w.heap.size+(if grow=true then 1 else 0)
 heap:∀ b,b<w.heap.size->(grow=true\/A'=none\/b≠cb.block)->w1.heap[b]?=w.heap[b]?
 cell:∀ k u,(olds++news)[k]?=some u->w1.cell? (cb.add k)=some u
 all:∀ k,k<cap'*sz->∃ u,w1.cell? (cb.add k)=some u/\w1.frozen? (cb.add k)=false
 spot:cb.spot=none
 base:(grow=true/\A'=some cb/\cb.block=w.heap.size)\/(grow=false/\A'=some cb/\A=some cb)\/(grow=false/\A'=none)
theorem Ma3 {t tx e:TypeId}{ti:TI}{info:TypeInfo}{u u':TypeDesc}{x y:Operand}{args:Array Operand}{argTypes:Array TypeId}(ho:o.op=.call { callee:=.builtin .append,args,argTypes })
  (hargs:args.toList=[x,y]) (hat:argTypes=#[t,tx]) (hu:P.underlying t=some (.slice e)) (f:dQ P e ti info u) (hx:P.underlying tx=some u') (hx':∃ e',u'=.slice e')
  {A:Option Addr} {n cap n':Nat} {b:Addr} {olds news:List Value} (hxv:a.eval x=.slice A n cap) (hnc:n<=cap) (hA:(A=some b/\b.spot=none)\/(A=none/\cap=0))
  (hol:olds.length=n*ti.size) (hocell:∀ k u,olds[k]?=some u->w.cell? (b.add k)=some u) (hall:A=some b->∀ k,k<cap*ti.size->∃ u,w.cell? (b.add k)=some u/\w.frozen? (b.add k)=false)
  {By:Option Addr} {by':Addr} {capy:Nat} (hyv:a.eval y=.slice By n' capy) (hBy:n'=0\/By=some by') (hnl:news.length=n'*ti.size) (hncell:∀ k u,news[k]?=some u->w.cell? (by'.add k)=some u) (hn1:∀ u∈news,u.oneCell'=true)
  (hb0:0<ti.bytes) (hs0:0<ti.size) (hfit:(n+n')*ti.bytes<=dZ) :
  ∃ v w1 A' cb cap' grow,(execOp a.eval o).run P w=.ok (.value v) w1/\Mbs w w1 G A n n' cap ti.size olds news v A' cb cap' grow:=by
 obtain⟨e',rfl⟩:=hx'
 have hsrc:Src P ti.size tx (.slice By n' capy) n' news w:=by
  rcases hBy with rfl|rfl
  ·have:news=[]:=Rbx (by simpa using hnl)
   subst this
   cases By with
   |none=>exact Src.ofNil w hx capy
   |some b1=>exact Src.ofSlice w hx b1 0 capy [] (by simp) (by simp) (by simp)
  ·exact Src.ofSlice w hx by' n' capy news hnl hncell hn1
 have hop:∀ {v:Value} {w1:World},(Builtin.append_ #[t,tx] o.type #[.slice A n cap,.slice By n' capy]).run P w=.ok v w1->(execOp a.eval o).run P w=.ok (.value v) w1:=by
  intro v w1 h
  refine oC ho (s:=Builtin.append_ argTypes o.type (args.map a.eval)) (fun _=>rfl) ?_
  rw[Fba hargs,Gb8,hxv,hyv,hat]
  exact h
 have hsz:info.size=ti.size:=f.size.symm
 have hby:info.bytes=ti.bytes:=f.bytes.symm
 by_cases hroom:n+n'<=cap
 ·rcases hA with ⟨rfl,hsp⟩|⟨rfl,h0⟩
  ·
   have hbb:b=⟨b.block,b.off,none⟩:=by cases b;simp only at hsp;subst hsp;rfl
   have hcells:∀ j,j<news.length->∃ u,w.cell? ⟨b.block,b.off+n*ti.size+j,none⟩=some u/\w.frozen? ⟨b.block,b.off+n*ti.size+j,none⟩=false:=fun j hj=>by
    have:=hall rfl (n*ti.size+j) (by
     have:=Sbd ti.size hroom
     rw[Sbv]at this
     omega)
    rw[add_plain hsp,<- Rbi]at this
    exact this
   have hrun:=run_append_room_src (P:=P) w t tx o.type e info hu f.info_ b.block b.off n cap (.slice By n' capy) n' news (by rw[hsz];exact hsrc) hroom
    (fun j hj=>by rw[hsz];obtain⟨u,h1,-⟩:=hcells j hj;rw[h1];rfl) (fun j hj=>by rw[hsz];exact (hcells j hj).choose_spec.2)
   rw[<- hbb,hsz]at hrun
   refine⟨_,_,some b,b,cap,false,hop hrun,rfl,.inl rfl,hroom,nC _ _ _ _,by rw[setCells_size];simp,fun b' _ hb'=>?_,fun k u hk=>?_,fun k hk=>?_,hsp,.inr (.inl ⟨rfl,rfl,rfl⟩)⟩
   ·rcases hb' with hb'|hb'|hb'
    ·cases hb'
    ·cases hb'
    ·exact fE _ _ _ _ _ hb'
   ·by_cases hlt:k<olds.length
    ·rw[Rbc hlt]at hk
     rw[add_plain hsp,World.cell?_setCells_out _ _ _ _ _ (fun _ _=>.inl (by dsimp only;omega)),<- add_plain hsp]
     exact hocell k u hk
    ·rw[Rbb (by omega)]at hk
     have hkl:=(List.getElem?_eq_some_iff.1 hk).1
     have:=World.cell?_setCells_in b.block news (b.off+n*ti.size) w (fun j hj=>by obtain⟨u,h1,-⟩:=hcells j hj;rw[h1];rfl) (k-olds.length) hkl
     rw[show b.off+n*ti.size+(k-olds.length)=b.off+k by omega]at this
     rw[add_plain hsp,this,<- hk,Qbz]
   ·obtain⟨u0,hu0,hf0⟩:=hall rfl k hk
    rw[World.frozen?_setCells]
    obtain⟨u1,hu1⟩:=qI (B:=b.block) (o:=b.off+n*ti.size) (vs:=news) (b:=b.add k) (fun _=>by rw[add_plain hsp]) (fun j hj=>by obtain⟨u,h1,-⟩:=hcells j hj;rw[h1];rfl) hu0
    exact⟨u1,hu1,hf0⟩
  ·
   have hn0:n=0:=by omega
   have hn0':n'=0:=by omega
   subst hn0 hn0' h0
   have:news=[]:=Rbx (by simpa using hnl)
   subst this
   have:olds=[]:=Rbx (by simpa using hol)
   subst this
   refine⟨_,_,none,⟨0,0,none⟩,0,false,hop (run_append_nothing w t tx o.type e info hu f.info_ none 0 0 (Qbw _) _ (by rw[hsz];exact hsrc)),rfl,.inr ⟨rfl,rfl⟩,Qbw _,⟨rfl,rfl,rfl⟩,by simp,fun _ _ _=>rfl,by simp,by simp,rfl,.inr (.inr ⟨rfl,rfl⟩)⟩
 ·
  obtain⟨z,hz1,hz2,-,-⟩:=f.zeros (σ:=fun _=>none) (ρ:=[]) (G:=G) (w:=w)
  have hzl:z.cells.size=ti.size:=by rw[<- Tbg,hz2.len,Rbf,f.len]
  have hold:(Builtin.firstCells info.size n (.slice A n cap)).run P w.drew=.ok olds.toArray w.drew:=by
   rcases hA with ⟨rfl,hsp⟩|⟨rfl,h0⟩
   ·exact run_firstCells_some w.drew info.size n b n cap olds (by rw[hsz];exact hol) (fun j u hj=>hocell j u hj)
   ·have hn0:n=0:=by omega
    subst hn0
    have:olds=[]:=Rbx (by simpa using hol)
    subst this
    rfl
  have h1:(n+n')*1<=(n+n')*ti.bytes:=Nat.mul_le_mul_left _ hb0
  have hns:=nextslicecap_le (show cap<n+n' by omega)
  have hfit2:Builtin.nextslicecap (n+n') cap*info.bytes<=281474976710656:=by
   rw[hby]
   have h2:=Sbd ti.bytes hns
   rw[Nat.mul_assoc]at h2
   unfold dZ at hfit
   omega
  have hrun:=run_append_grow_src (P:=P) w t tx o.type e info z hu f.info_ hz1 A n cap olds hold (.slice By n' capy) n' news (by rw[hsz];exact hsrc) (by omega) (by unfold dZ at hfit;omega) hfit2
  have hge:=grownCap_ge w (n+n') cap e
  generalize hgc:grownCap w (n+n') cap e=gc at hrun hge
  have hnb:∀ b',b'≠w.heap.size->(w.drew.alloc (.cells ((olds++news).toArray++Builtin.zeroCells z.cells (gc-(n+n'))) e)).heap[b']?=w.heap[b']?:=fun b' hb'=>by
   show (w.heap.push _)[b']?=_
   rw[Ubf,if_neg hb']
  have hnew:(w.drew.alloc (.cells ((olds++news).toArray++Builtin.zeroCells z.cells (gc-(n+n'))) e)).heap[w.heap.size]?=some (.cells ((olds++news).toArray++Builtin.zeroCells z.cells (gc-(n+n'))) e (0,0)):=by
   show (w.heap.push _)[w.heap.size]?=_
   rw[Ubf,if_pos rfl]
  have hcell:∀ k,(w.drew.alloc (.cells ((olds++news).toArray++Builtin.zeroCells z.cells (gc-(n+n'))) e)).cell? ((⟨w.heap.size,0,none⟩:Addr).add k)=((olds++news).toArray++Builtin.zeroCells z.cells (gc-(n+n')))[k]?:=fun k=>by
   unfold World.cell?
   rw[add_block,hnew]
   simp[Addr.add]
   split<;>simp_all
  refine⟨_,_,some ⟨w.heap.size,0,none⟩,⟨w.heap.size,0,none⟩,gc,true,hop hrun,rfl,.inl rfl,hge,⟨rfl,rfl,rfl⟩,by show (w.heap.push _).size=_;rw[Array.size_push,if_pos rfl],fun b' hlt _=>hnb b' (by omega),fun k u hk=>?_,fun k hk=>?_,rfl,.inl ⟨rfl,rfl,rfl⟩⟩
  ·have hlt:=(List.getElem?_eq_some_iff.1 hk).1
   rw[hcell,Array.getElem?_append_left (by simpa using hlt)]
   simpa using hk
  ·have hsize:((olds++news).toArray++Builtin.zeroCells z.cells (gc-(n+n'))).size=gc*ti.size:=by
    simp only[Array.size_append,List.size_toArray,Qbs,Builtin.zeroCells,Array.size_map,Array.size_range]
    rw[hol,hnl,hzl,<- Sbv,<- Sbv]
    congr 1
    omega
   rw[hcell]
   refine⟨_,Rb0 (by omega),?_⟩
   unfold World.frozen?
   rw[add_block,hnew]
   simp
end
end Go.Proofs.YtdpfilpckndhcaaGreatDoor.Rf

namespace Go.Proofs.YtdpfilpckndhcaaGreatDoor.Rf
set_option linter.unusedVariables false
set_option linter.unusedSimpArgs false
section
variable {P:Program} {E:Env} {F:bU} {n:Nat} {σ:Nat->Option aU} {ρ:List D} {a:Act} {w w':World} {G G':Gh} {g:Option (aM×Bool)} {o:Oper} {cf:Nat->List D->Option (List D)} {Q:Exit->Act->World->Prop} {next:Act->World->Prop}
structure Side (w:World) (v:Value) (rs:List (List D)) (sz:Nat) (A:Option Addr) (b:Addr) (n cap:Nat) (vs:Nat->Nat->Value):Prop where
 val:v=.slice A n cap
 len:rs.length=n
 le:n<=cap
 rows:∀ r∈rs,r.length=sz
 cell:∀ i row,rs[i]?=some row->∀ j d,row[j]?=some d->w.cell? (b.add (i*sz+j))=some (vs i j)
def ChY (G:Gh)(w:World)(fzl:List Nat)(mvY:Option Nat)(dy:Nat)(v:Value)(d:D)(idx:Nat):Prop :=
 Sc v d\/(∃ s,mvY=some s/\2<=dy/\Rp G.own w s [idx] (dy-1) v d)\/(dy=1/\Rd (fun b=>G.own b=.frz\/∃ r p,r∈fzl/\G.own b=.slc r p) w v d)
structure YOk (σ:Nat->Option aU) (G:Gh) (w:World) (fl:Bool) (v:Value) (rb:List (List D)) (sz dy:Nat) (updY:List (Nat×aU)) (ry:List Nat) (fzl:List Nat) (mvY:Option Nat):Prop where
 side:∃ A b n cap vs,Side w v rb sz A b n cap vs/\(n=0\/A=some b)/\∀ i row,rb[i]?=some row->∀ j d,row[j]?=some d->ChY G w fzl mvY dy (vs i j) d (i*sz+j)
 upd:∀ k c,(k,c)∈updY->∃ s,k=kR s/\s∈ry/\((mvY=some s/\c=.root (.c .hole) 0 0 .gone/\∃ x m ver,σ (kR s)=some (.root x m ver .live))\/(s∈fzl/\∃ x m ver,c=.root x m ver .frozen/\σ (kR s)=some (.root x m ver .live)))
 fz:∀ s∈fzl,s∈ry/\((∃ c,(kR s,c)∈updY)\/∃ x m ver,σ (kR s)=some (.root x m ver .frozen))
 mv:∀ s,mvY=some s->s∈ry/\(∃ c,(kR s,c)∈updY)/\s∉fzl
 dy:1<=dy
 flat:fl=true->updY=[]/\fzl=[]/\mvY=none
theorem Rd.side {ok:Nat->Prop}{v:Value}{sz:Nat}{rs:List (List D)}(h:Rd ok w v (.rows sz rs)):∃ A b n cap vs,Side w v rs sz A b n cap vs/\(n=0\/A=some b)/\∀ i row,rs[i]?=some row->∀ j d,row[j]?=some d->Rd ok w (vs i j) d:=by
 obtain⟨A,b,n,c,vs,e1,e2,e3,e4,e5,e6,e7⟩:=h.inv
 exact⟨A,b,n,c,vs,⟨e1,e2,e3,e5,fun i row hi j d hj=>(e6 i row hi j d hj).2⟩,e4,e7⟩
theorem Nbg (hR:R E.ntmps F σ ρ a w G){fl:Bool}{y:SlR}{v:Value}(hy:Wa6 σ ρ G w y v){sz:Nat}{rb:List (List D)}(hx:y.x.val ρ=.rows sz rb)(hfl:fl=true->∀ r∈rb,∀ d∈r,d.isSc=true)
  {dy:Nat} {updY:List (Nat×aU)} {ry:List Nat} (h:(Taz fl y).eval σ=some (dy,updY,ry)):∃ fzl mvY,YOk σ G w fl v rb sz dy updY ry fzl mvY:=by
 have hrd:=hy.rd
 rw[hx]at hrd
 unfold Taz at h
 cases fl with
 | true =>
  simp only[cond_true,aC,Option.some.injEq,Prod.mk.injEq]at h
  obtain⟨rfl,rfl,rfl⟩:=h
  refine⟨[],none,?_,by simp,by simp,by simp,by decide,fun _=>⟨rfl,rfl,rfl⟩⟩
  obtain⟨A,b,n,c,vs,h1,h2,h3⟩:=hrd.side
  exact⟨A,b,n,c,vs,h1,h2,fun i row hi j d hj=>.inl ((h3 i row hi j d hj).sc_inv (hfl rfl row (Rba hi) d (Rba hj)))⟩
 | false =>
  simp only[cond_false]at h
  have hown:=hy.own
  unfold xZ at hown
  have frozen:∀ rs fr,(eY rs).eval σ=some fr->Rd (fun b=>G.own b=.frz\/∃ r p,r∈rs/\G.own b=.slc r p) w v (.rows sz rb)->YOk σ G w false v rb sz 1 fr rs rs none:=by
   intro rs fr hfr hrd
   obtain⟨h1,h2⟩:=iJ hfr
   refine⟨?_,fun k c hc=>?_,fun s hs=>⟨hs,?_⟩,by simp,Qbw _,by simp⟩
   ·obtain⟨A,b,n,c,vs,h3,h4,h5⟩:=hrd.side
    exact⟨A,b,n,c,vs,h3,h4,fun i row hi j d hj=>.inr (.inr ⟨rfl,h5 i row hi j d hj⟩)⟩
   ·obtain⟨s,hs,x,m,ver,e1,e2,e3⟩:=h2 k c hc
    exact⟨s,e1,hs,.inr ⟨hs,x,m,ver,e2,e3⟩⟩
   ·rcases h1 s hs with ⟨x,m,ver,e1,e2⟩|h3
    ·exact .inl ⟨_,e2⟩
    ·exact .inr h3
  split at h
  ·rename_i r k m ho
   rw[ho]at hown
   obtain⟨h1,⟨x,h2⟩,h3,h4,h5⟩:=hown
   simp only[bJ,Rbq,List.length_nil,Nat.sub_zero]at h4
   rw[hx]at h4
   cases hb:Nat.ble 2 m with
   | true =>
    rw[hb]at h
    simp only[cond_true,aC,Option.some.injEq,Prod.mk.injEq]at h
    obtain⟨rfl,rfl,rfl⟩:=h
    simp only[Rb8]at hb
    obtain⟨m',rfl⟩:∃ m',m=m'+1:=⟨m-1,by omega⟩
    obtain⟨A,b,n,c,vs,e1,e2,e3,e4,e5,e6,e7,e8⟩:=h4.sl_inv
    refine⟨[],some r,⟨A,b,n,c,vs,⟨e1,e2,e3,e5,e7⟩,?_,fun i row hi j d hj=>.inr (.inl ⟨r,rfl,hb,by simpa using e8 i row hi j d hj⟩)⟩,fun k' c' hc=>?_,by simp,fun s hs=>?_,by omega,by simp⟩
    ·rcases e4 with e4|⟨e4,e4'⟩
     ·exact .inr e4
     ·exact .inl (by omega)
    ·simp only[Qb6,Prod.mk.injEq]at hc
     exact⟨r,hc.1,by simp,.inl ⟨rfl,hc.2,x,_,k,h2⟩⟩
    ·obtain rfl:=Option.some.inj hs
     exact⟨by simp,⟨_,List.mem_singleton.2 rfl⟩,by simp⟩
   | false =>
    rw[hb]at h
    simp only[cond_false,aC,Option.some.injEq,Prod.mk.injEq]at h
    obtain⟨rfl,rfl,rfl⟩:=h
    have hm:m<=1:=by
     have:¬ 2<=m:=by rw[<- Rb8,hb];simp
     omega
    refine⟨[],none,?_,by simp,by simp,by simp,Qbw _,by simp⟩
    rcases Nat.eq_zero_or_pos m with rfl|hpos
    ·obtain⟨A,b,n,c,vs,h6,h7,h8⟩:=h4.zero.side
     exact⟨A,b,n,c,vs,h6,h7,fun i row hi j d hj=>.inr (.inr ⟨rfl,(h8 i row hi j d hj).mono fun b hb=>⟨.inl hb,rfl⟩⟩)⟩
    ·obtain rfl:m=0+1:=by omega
     obtain⟨A,b,n,c,vs,e1,e2,e3,e4,e5,e6,e7,e8⟩:=h4.sl_inv
     refine⟨A,b,n,c,vs,⟨e1,e2,e3,e5,e7⟩,?_,fun i row hi j d hj=>.inr (.inr ⟨rfl,(e8 i row hi j d hj).zero.mono fun b hb=>⟨.inl hb,rfl⟩⟩)⟩
     rcases e4 with e4|⟨e4,e4'⟩
     ·exact .inr e4
     ·exact .inl (by omega)
  ·rename_i r k m p hne ho
   rw[ho]at hown
   simp only[aA,Qbp,aC,Option.some.injEq,Prod.mk.injEq]at h
   obtain⟨fr,h6,rfl,rfl,rfl⟩:=h
   refine⟨[r],none,frozen _ _ h6 ?_⟩
   refine hrd.mono fun b hb=>⟨hb.imp id fun ⟨r',k',p',h7,h8⟩=>?_,rfl⟩
   rw[hown.1]at h7
   simp only[Qb6,Prod.mk.injEq]at h7
   exact⟨r,p',by simp,h7.1▸h8⟩
  ·split at h
   ·rename_i z hz
    simp only[aC,Option.some.injEq,Prod.mk.injEq]at h
    obtain⟨rfl,rfl,rfl⟩:=h
    rw[hz]at hx
    simp only[aM.val,D.rows.injEq]at hx
    obtain⟨rfl,rfl⟩:=hx
    refine⟨[],none,?_,by simp,by simp,by simp,by decide,by simp⟩
    obtain⟨A,b,n,c,vs,h1,h2,h3⟩:=hrd.side
    exact⟨A,b,n,c,vs,h1,h2,by simp⟩
   ·simp only[aA,Qbp,aC,Option.some.injEq,Prod.mk.injEq]at h
    obtain⟨fr,h6,rfl,rfl,rfl⟩:=h
    refine⟨y.deps.map (·.1),none,frozen _ _ h6 ?_⟩
    exact hrd.mono fun b hb=>⟨hb.imp id fun ⟨r',k',p',h7,h8⟩=>⟨r',p',Sbl (f:=fun x:Nat×Nat=>x.1) h7,h8⟩,rfl⟩
end
end Go.Proofs.YtdpfilpckndhcaaGreatDoor.Rf
