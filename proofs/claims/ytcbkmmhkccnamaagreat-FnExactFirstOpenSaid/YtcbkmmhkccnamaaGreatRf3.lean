import Derived.Test.YtcbkmmhkccnamaaGreatRf2
import Derived.Laws.IdiomCopy
import Derived.Deep.Upon
set_option linter.all false
open Array renaming getElem?_eq_getElem → Pb0, getElem?_toList → Qbj, length_toList → Rbd, getElem?_push → Sba, ext' → Sbc
open Bool renaming and_eq_true → Obz, not_eq_true' → Pbs
open List renaming mem_append_left → Ob1, getElem?_eq_some_iff → Ob2, mem_singleton → Ob3, mem_append_right → Ob4, getElem?_eq_getElem → Ob5, getElem?_cons_zero → Ob7, mem_cons → Ob8, getD_eq_getElem?_getD → Pba, mem_cons_of_mem → Pbb, append_assoc → Pbd, mem_append → Pbe, mem_cons_self → Pbf, length_append → Pbg, mem_of_getElem? → Pbh, getElem?_append_left → Pbi, getElem?_append_right → Pbk, map_cons → Pbn, getElem?_map → Pbr, length_map → Pbt, all_eq_true → Pbv, map_nil → Pbx, append_nil → Pbz, getElem?_cons_succ → Pb4, mem_map → Pb5, getElem?_drop → Pb7, length_cons → Pb9, nil_append → Qbc, getElem?_take → Qbd, eq_nil_of_length_eq_zero → Qbe, mem_map_of_mem → Qbi, length_singleton → Qbk, mem_iff_getElem? → Qbl, getElem?_set → Qb0, cons_append → Qb2, foldl_cons → Qb7, any_eq_false → Rbi, mem_or_eq_of_mem_set → Rbm, ext_getElem? → Rbp, isEmpty_iff → Rbv, singleton_append → Rby, getElem?_range → Rb8
open List.cons renaming injEq → Qbf
open Nat renaming le_refl → Pbj, add_assoc → Pbm, lt_or_ge → Pbo, beq_eq → Pbq, add_zero → Pby, ble_eq → Qba, mul_le_mul_right → Qbp, add_mul → Qbw
open Option renaming bind_eq_some_iff → Oby, bind_some → Ob6, map_eq_some_iff → Pbc, map_some → Pb6, isNone_iff_eq_none → Rbf
open Option.some renaming injEq → Ob0, inj → Pbu
open Prod.mk renaming injEq → Pbl, inj → Qb9
namespace Go.Proofs.YtcbkmmhkccnamaaGreat.Rf
theorem dH (b:Nat):∀ (vs:List Value) (o:Nat) (w:World) (k:Nat),k≠b->(w.setCells b o vs).heap[k]?=w.heap[k]?
 |[],_,_,_,_=>rfl
 | v :: r, o, w, k, h => by
  rw[World.setCells,dH b r _ _ k h];exact heap_setCell_other w _ k v h
theorem setCells_size (b:Nat):∀ (vs:List Value) (o:Nat) (w:World),(w.setCells b o vs).heap.size=w.heap.size
 |[],_,_=>rfl
 |v::r,o,w=>by rw[World.setCells,setCells_size b r];exact World.size_setCell ..
theorem jY (b:Nat):∀ (vs:List Value) (o:Nat) (w:World),(w.setCells b o vs).os=w.os/\(w.setCells b o vs).tape=w.tape/\(w.setCells b o vs).output=w.output
 |[],_,_=>⟨rfl,rfl,rfl⟩
 |v::r,o,w=>by rw[World.setCells];exact jY b r (o+1) _
theorem yN (b:Nat):∀ (vs:List Value) (o:Nat) (w:World) (c:Array Value) (e:TypeId) (fr:Nat×Nat),w.heap[b]?=some (.cells c e fr) ->
  ∃ c',(w.setCells b o vs).heap[b]?=some (.cells c' e fr)/\c'.size=c.size/\∀ k,k<o\/o+vs.length<=k->c'[k]?=c[k]?
 |[],o,w,c,e,fr,h=>⟨c,h,rfl,fun _ _=>rfl⟩
 | v :: r, o, w, c, e, fr, h => by
  have h1:(w.setCell ⟨b,o,none⟩ v).heap[b]?=some (.cells (c.setIfInBounds o v) e fr):=by
   simp[World.setCell,Array.getElem?_modify,h]
  obtain⟨c',h2,h3,h4⟩:=yN b r (o+1) _ _ e fr h1;refine⟨c',h2,by simpa using h3,fun k hk=>?_⟩;simp only[Pb9]at hk;rw[h4 k (by omega),Array.getElem?_setIfInBounds_ne (by omega)]
section
variable {P:Program} {E:Env} {F:bC} {σ:Nat->Option aN} {ρ:List D} {a:Act} {w w':World} {G:Gh} {g:Option (aI×Bool)} {o:Oper} {cf:Nat->List D->Option (List D)} {Q:Exit->Act->World->Prop} {next:Act->World->Prop}
theorem Ba4 {t:TypeId}{i:TI}{info:TypeInfo}{u:TypeDesc}(f:bV P t i info u){b off:Nat}{v:Value}(hl:v.cells.toList.length=i.size)
  (hc:∀ j,j<i.size->∃ u,w.cell? ⟨b,off+j,none⟩=some u) (hf:∀ j,j<i.size->w.frozen? ⟨b,off+j,none⟩=false) (h1:∀ x∈v.cells.toList,x.oneCell'=true) :
  (storeVar t ⟨b,off,none⟩ v).run P w=.ok () (w.setCells b off v.cells.toList):=by
 unfold storeVar;rw[Sem.run_bind,f.sizeOf];simp only[Result.andThen_ok];have:¬ v.cells.size≠i.size:=by simpa using hl
 rw[if_neg this]
 have h2:=run_storeCells_cells (P:=P) b off v.cells.toList 0 w (fun j hj=>by
  obtain⟨u,hu⟩:=hc j (by omega);rw[Pby,hu];rfl) (fun j hj=>by rw[Pby];exact hf j (by omega)) h1
 rw[Pby]at h2;simpa using h2
theorem aB.one {l:aM}{v:Value}(h:aB σ ρ G w l v)(hs:Kap l=true):v.oneCell'=true:=by
 cases l with
 |dead=>simpa[aB] using h
 |sc x=>simp only[aB]at h;exact h.one
 |su g x=>simp[Kap]at hs
 |ex r=>simp only[aB]at h;exact h.2.2
 |sn deps p nie x=>simp only[aB]at h;exact h.1.1
 |px b off=>simp only[aB]at h;rw[h.1];rfl
 |pe l sz i off=>simp only[aB]at h;obtain⟨_,_,_,_,_,_,_,_,_,e⟩:=h;rw[e];rfl
 |rp deps sz x=>simp only[aB]at h;exact h.1.1
 |pn=>simp only[aB]at h;rw[h];rfl
 |clo f eN=>simp only[aB]at h;obtain⟨_,e,_⟩:=h;rw[e];rfl
theorem aG.ones {ls:List aM}{vs:List Value}(h:aG σ ρ G w ls vs)(hs:ls.all Kap=true):∀ v∈vs,v.oneCell'=true:=by
 intro v hv;obtain⟨i,hi⟩:=Qbl.1 hv
 have aq:i<ls.length:=by
  rw[<- h.len];exact (Ob2.1 hi).1
 have hl:ls[i]?=some ls[i]:=Ob5 aq;obtain⟨v',h1,h2⟩:=h.get hl;rw[hi]at h1;obtain rfl:=Pbu h1;rw[Pbv]at hs;exact h2.one (hs _ (Pbh hl))
theorem tN {v:Value}(h:v.oneCell'=true):v.cells=#[v]:=by cases v<;>first|rfl|(simp[Value.oneCell']at h)
theorem aB.cells {l:aM}{v:Value}(h:aB σ ρ G w l v):v.cells=#[v]:=by
 by_cases hs:Kap l=true
 ·exact tN (h.one hs)
 ·cases l<;>first|(simp[Kap]at hs;done)|skip
  simp only[aB]at h
  rcases h.1 with h1|⟨rfl,-⟩
  ·exact tN h1.one
  ·rfl
theorem gW {agg:Bool}{sv:SV}{ls:List aM}{v:Value}(h:jB agg sv=some ls)(hv:bS σ ρ G w sv v):aG σ ρ G w ls v.cells.toList:=by
 unfold jB at h;split at h
 ·rename_i l
  cases agg with
  |true=>cases h
  | false =>
   obtain rfl:=Pbu h;rw[aB.cells hv];simp only[aG];exact⟨v,[],rfl,hv,rfl⟩
 ·rename_i ms
  cases agg with
  |false=>cases h
  | true =>
   obtain rfl:=Pbu h;obtain⟨vs,rfl,h1⟩:=hv;simpa[Value.cells] using h1
 ·cases h
def pushB (w:World)(c:Array Value)(e:TypeId):World:={ w with heap:=w.heap.push (.cells c e (0,0)) }
theorem kC {c:Array Value}{e:TypeId}{b:Nat}(h:b≠w.heap.size):(pushB w c e).heap[b]?=w.heap[b]?:=by
 unfold pushB;rw[Sba,if_neg h]
theorem Lag {c:Array Value}{e:TypeId}:(pushB w c e).heap[w.heap.size]?=some (.cells c e (0,0)):=by
 unfold pushB;rw[Sba,if_pos rfl]
theorem jS {c:Array Value}{e:TypeId}:(pushB w c e).heap.size=w.heap.size+1:=by
 unfold pushB;simp
theorem mG {c:Array Value}{e:TypeId}(j:Nat):(pushB w c e).cell? ((⟨w.heap.size,0,none⟩:Addr).add j)=c[j]?:=by
 unfold World.cell?;rw[add_block,Lag];simp[Addr.add];split<;>simp_all
theorem tK {c:Array Value}{e:TypeId}(j:Nat):(pushB w c e).frozen? ((⟨w.heap.size,0,none⟩:Addr).add j)=false:=by
 unfold World.frozen?;rw[add_block,Lag];simp
theorem kW.push (h:kW F G w)(c:Array Value)(e:TypeId){G':Gh}(ho:∀ b,b≠w.heap.size->G'.own b=G.own b\/((∃ r p,G.own b=.slc r p))):kW F G' (pushB w c e):=by
 refine⟨h.os,h.tape,h.output,by rw[jS];have:=h.size;omega,fun b hb hf=>?_,fun b j hb hj=>?_,fun b hb=>?_⟩
 ·have ct:b≠w.heap.size:=by have:=h.size;omega
  obtain⟨h1,h2⟩:=h.keep b hb hf;refine⟨by rw[kC ct];exact h1,?_⟩
  rcases ho b ct with h3|⟨r,p,h3⟩
  ·rw[h3];exact h2
  ·rw[h3]at h2
   rw[<- h2]at hf
   rcases hf with hf|hf<;>cases hf
 ·have ct:b≠w.heap.size:=by have:=h.size;omega
  obtain⟨h1,c0,c1,e',fr,h2,h3,h4⟩:=h.boxes b j hb hj;refine⟨?_,c0,c1,e',fr,h2,by rw[kC ct];exact h3,h4⟩
  rcases ho b ct with h5|⟨r,p,h5⟩
  ·rw[h5];exact h1
  ·rw[h5]at h1;cases h1
 ·rw[jS]at hb
  have ct:b≠w.heap.size:=by omega
  rcases ho b ct with h5|⟨r,p,h5⟩
  ·rw[h5];exact h.fresh b (by omega)
  ·rw[h.fresh b (by omega)]at h5;cases h5
def wF (G:Gh)(w:World)(nb:Nat):Gh:={ G with own:=fun b=>if b=w.heap.size then .box nb else G.own b,bx:=fun b=>if b=nb then ⟨w.heap.size,0,none⟩ else G.bx b }
structure Aas (σ:Nat->Option aN) (nb nr:Nat):Prop where
 nb:σ (kB nb)=none
 nr:∀ j,nr<=j->j<nr+bO->σ (kR j)=none
theorem Ga4 {e:TypeId}{v:Value}:(newVar e v).run P w=.ok ⟨w.heap.size,0,none⟩ (pushB w v.cells e):=by
 simp[newVar,newRow,pushB]
theorem Zas {u0:List (Nat×aN)}{nb:Nat}{ls:List aM}(r:Nat)(h:∀ k c,(k,c)∈u0->∃ t,k=kT t):upds σ (u0++[(kB nb,aN.box false ls)]) (kR r)=σ (kR r):=by
 refine dW _ _ _ fun c hc=>?_
 rcases Pbe.1 hc with hc|hc
 ·obtain⟨t,e⟩:=h _ _ hc
  exact iA e.symm
 ·simp only[Ob3,Pbl]at hc
  exact eD hc.1.symm
theorem Fam (o:Oper)(g:Option (aI×Bool))(v:SV):∀ k c,(k,c)∈dF o g v->∃ t,k=kT t:=by
 intro k c h;unfold dF at h;split at h
 ·rename_i d _
  simp only[Ob3,Pbl]at h;exact⟨d,h.1⟩
 ·simp at h
theorem vV {o:Oper}{g:Option (aI×Bool)}{v:SV}{k:Nat}{c:aN}(h:(k,c)∈dF o g v):∃ d,o.dst=some d/\k=kT d/\c=.slot g v:=by
 unfold dF at h;split at h
 ·rename_i d hd
  simp only[Ob3,Pbl]at h;exact⟨d,hd,h.1,h.2⟩
 ·simp at h
theorem Ca7 {n:Nat}{gh:Nat->Value}{v:Value}{g:Option (aI×Bool)}{sv:SV}{u1:List (Nat×aN)}{t:Nat}(h:∀ c,(kT t,c)∉dF o g sv++u1):yA n (a.put o.dst v) gh t=yA n a gh t:=by
 cases e:o.dst with
 |none=>rfl
 | some d =>
  refine Dax _ _ _ _ _ _ fun e'=>h (.slot g sv) ?_
  refine Ob1 _ ?_;unfold dF;rw[e,e'];exact Ob3.2 rfl
theorem R.newBox (h:R E.ntmps F σ ρ a w G)(hd:eO E.ntmps o){nb:Nat}(hf:σ (kB nb)=none){cs:Array Value}{ty:TypeId}{ls:List aM}(hl:aG σ ρ G w ls cs.toList) :
  R E.ntmps F (upds σ (dF o none (.one (.px nb 0))++[(kB nb,.box false ls)])) ρ (a.put o.dst (.pointer (some ⟨w.heap.size,0,none⟩))) (pushB w cs ty) (wF G w nb):=by
 have ct:∀ b,G.own b≠.frz->b≠w.heap.size:=fun b hb e=>hb (h.frame.fresh b (by omega))
 have kc:=Fam o none (.one (.px nb 0));have hR:∀ r,upds σ (dF o none (.one (.px nb 0))++[(kB nb,aN.box false ls)]) (kR r)=σ (kR r):=fun r=>Zas r kc
 have dq:Fr σ G w (upds σ (dF o none (.one (.px nb 0))++[(kB nb,.box false ls)])) (wF G w nb) (pushB w cs ty):=by
  refine⟨fun b hb aq=>?_,fun r k _ hv=>?_,fun r k hk=>hk.same hR,fun r k b p _ _ hb=>?_,fun r k m _ hv=>⟨?_,fun b p hb=>?_⟩,fun _ _=>rfl,fun b hb=>?_,fun k hk=>dL _ _ _ (.inl hk),fun r x m k _ b p hb=>?_⟩
  ·have hn:b≠w.heap.size:=by omega
   exact⟨by simp only[wF,if_neg hn];exact hb,kC hn⟩
  ·obtain⟨x,m,st,e,hs⟩:=hv
   exact⟨x,m,st,by rw[<- hR];exact e,hs⟩
  ·have hn:=ct b (by rw[hb];simp)
   exact⟨.inl (by simp only[wF,if_neg hn];exact hb),kC hn⟩
  ·obtain⟨x,e⟩:=hv
   exact⟨x,by rw[<- hR];exact e⟩
  ·have hn:=ct b (by rw[hb];simp)
   simp only[wF,if_neg hn];exact hb
  ·have:b≠nb:=fun e=>by rw[e,hf]at hb;cases hb
   simp only[wF,if_neg this]
  ·by_cases hn:b=w.heap.size
   ·simp only[wF,if_pos hn]at hb;cases hb
   ·simp only[wF,if_neg hn]at hb;exact hb
 refine h.upd _ dq (by rw[zA];exact h.tmps) (by rw[put_defers];exact h.defers) (h.frame.push cs ty fun b hb=>.inl (by simp only[wF,if_neg hb])) (fun t ht=>Ca7 ht) (fun b ro bs hb _=>?_) (fun b bs hb aq ho=>?_) (fun k c hk jh=>?_)
 ·obtain⟨_,h2,_⟩:=h.box hb
  have hn:=ct (G.bx b).block (by rw[h2];split<;>simp);exact⟨by simp only[wF,if_neg hn],kC hn⟩
 ·rcases Pbe.1 hb with hb|hb
  ·obtain⟨t,e⟩:=kc _ _ hb
   exact absurd e.symm kF
  ·simp only[Ob3,Pbl]at hb
   obtain rfl:=zT hb.1;simp only[wF,if_true]at aq;have:=h.frame.size;omega
 ·rcases Pbe.1 hk with hk|hk
  ·obtain⟨d,lA,rfl,rfl⟩:=vV hk
   refine⟨d,rfl,fun _=>?_⟩;rw[lA,mI _ _ _ _ _ (hd d lA) h.tmps];simp only[bS,aB,wF,if_true];exact⟨by simp[Addr.add],dL _ _ _ (.inr ⟨_,Ob4 _ (Ob3.2 rfl)⟩)⟩
  ·simp only[Ob3,Pbl]at hk
   obtain⟨rfl,rfl⟩:=hk;refine⟨nb,rfl,by simp[wF],by simp[wF],fun j l hj=>?_⟩;obtain⟨v,h1,h2⟩:=hl.get hj;refine⟨v,?_,?_,aB.mono dq l v h2⟩
   ·simp only[wF,if_true]
    rw[mG];simpa using h1
   ·simp only[wF,if_true]
    exact tK j
theorem Tap (hR:R E.ntmps F σ ρ a w G)(hd:eO E.ntmps o)(hti:sM P E.ti){nv nb nr:Nat}{mv cN:Bool}(hf:Aas σ nb nr){e:TypeId}{x:Operand}(ho:o.op=.box e x){res:bI}
  (h:(nL E mv cN nv nb nr g o).eval σ=some res) (hs:aJ cf ρ g nv res.lets):gD P E F σ ρ a w g o Q res.upd:=by
 simp only[nL,ho,aA,Oby,tiR,aT]at h;obtain⟨ti,h1,sv,h2,h⟩:=h;split at h
 ·rename_i ls qw
  simp only[aA,Oby,aH]at h;obtain⟨_,h3,h⟩:=h;split at h3
  ·rename_i hb
   simp only[Obz]at hb;obtain rfl:=tQ hb.1.2;simp only[qH,aF,Ob0]at h;subst h;refine⟨fun hg=>?_,fun hg=>by simp[gOn]at hg⟩;have h4:=gW qw (fI hR hg h2);refine lN (v:=.pointer (some ⟨w.heap.size,0,none⟩)) (w':=pushB w (a.eval x).cells e) ?_ ⟨_,hR.newBox hd hf.nb h4⟩;unfold execOp;simp only[ho];refine fC ?_;simp only[Instr.box,Sem.run_bind,Ga4,Result.andThen_ok,Sem.run_pure]
  ·cases h3
 ·cases h
theorem Iaa {v:Value}{c:CK}(h:zeroCell v c=true):aB σ ρ G w (fA c) v:=by
 unfold zeroCell at h;split at h
 ·simp only[Obz,decide_eq_true_eq]at h
  obtain⟨⟨rfl,rfl⟩,rfl⟩:=h;simp only[fA,aB,aI.val];exact .int _ _
 ·simp only[Obz,decide_eq_true_eq]at h
  obtain⟨rfl,rfl⟩:=h;simp only[fA,aB,aI.val];exact .bool _
 ·rename_i s l
  simp only[Obz,decide_eq_true_eq]at h;obtain⟨h1,rfl⟩:=h;simp only[fA,aB,aI.val];have:=Sc.str s.data.toList;rw[h1]at this
  have e:s=⟨[].toArray⟩:=by
   apply ByteArray.ext;apply Sbc;simpa using h1
  rw[e];exact this
 ·simp only[fA,aB]
  refine⟨⟨rfl,by simp⟩,fun _=>⟨?_,fun _ z _=>trivial,trivial⟩⟩;exact .rows none ⟨0,0,none⟩ 0 0 _ [] (fun _ _=>undef) rfl (Pbj _) (.inl rfl) (by simp) (by simp) (by simp)
 ·simp only[fA,aB]
 ·cases h
theorem Baw {v:Value}{c:CK}(h:zeroCell v c=true):v.oneCell'=true:=by
 unfold zeroCell at h;split at h<;>first|rfl|cases h
theorem bV.zeros {t:TypeId}{i:TI}{info:TypeInfo}{u:TypeDesc}(f:bV P t i info u):∃ z,info.zero=some z/\aG σ ρ G w (i.cells.map fA) z.cells.toList /\
  (∀ x∈z.cells.toList,x.oneCell'=true)/\(∀ (j:Nat) (x:Value) (c:CK),z.cells[j]?=some x->i.cells[j]?=some c->zeroCell x c=true):=by
 have h:=f.zero;unfold Oa5 at h;split at h
 ·rename_i vs cs heq
  simp only[Obz,beq_iff_eq,Pbv]at h;obtain⟨h1,h2⟩:=h
  have hz:∀ (j:Nat) (x:Value) (c:CK),vs[j]?=some x->i.cells[j]?=some c->zeroCell x c=true:=by
   intro j x c hx hc
   exact h2 (x,c) (Pbh (i:=j) (by
    rw[List.getElem?_zip_eq_some];exact⟨by simpa using hx,hc⟩))
  refine⟨_,heq,.of_get (by simpa[Value.cells] using h1) fun j l v hj hv=>?_,fun x hx=>?_,hz⟩
  ·simp only[Pbr,Pbc]at hj
   obtain⟨c,hc,rfl⟩:=hj;exact Iaa (hz j v c (by simpa[Value.cells] using hv) hc)
  ·obtain⟨j,hj⟩:=Qbl.1 hx
   have aq:j<i.cells.length:=by
    rw[<- h1];simpa[Value.cells] using (Ob2.1 hj).1
   exact Baw (hz j x _ (by simpa[Value.cells] using hj) (Ob5 aq))
 ·rename_i v c _ hz hcs
  have h1:=Baw h;refine⟨v,hz,?_,fun x hx=>?_,fun j x c' hx hc=>?_⟩
  ·rw[hcs,tN h1]
   simp only[Pbn,Pbx,aG];exact⟨v,[],rfl,Iaa h,rfl⟩
  ·rw[tN h1]at hx
   simp only[Ob3]at hx;rw[hx];exact h1
  ·rw[tN h1]at hx
   rw[hcs]at hc
   cases j with
   | zero =>
    simp only[Ob7,Ob0]at hc;simp at hx;rw[<- hx,<- hc];exact h
   |succ j=>simp at hc
 ·cases h
theorem jZ {t:TypeId}{info:TypeInfo}{z:Value}(h:P.info? t=some info)(hz:info.zero=some z):(zeroValue t).run P w=.ok z w:=by
 simp[zeroValue,typeInfo,h,hz]
theorem Na0 (hR:R E.ntmps F σ ρ a w G)(hd:eO E.ntmps o)(hti:sM P E.ti){nv nb nr:Nat}{mv cN:Bool}(hf:Aas σ nb nr){e:TypeId}(ho:o.op=.alloc e){res:bI}
  (h:(nL E mv cN nv nb nr g o).eval σ=some res) (hs:aJ cf ρ g nv res.lets):gD P E F σ ρ a w g o Q res.upd:=by
 simp only[nL,ho,aA,Oby,tiR,aT,aH]at h;obtain⟨ti,h1,_,h2,h⟩:=h;split at h2
 ·rename_i hb
  obtain rfl:=tQ hb;simp only[qH,aF,Ob0]at h;subst h;refine⟨fun hg=>?_,fun hg=>by simp[gOn]at hg⟩;obtain⟨info,u,f⟩:=aV (hti.ok _ _ h1);obtain⟨z,h3,h4,h5,-⟩:=f.zeros (σ:=σ) (ρ:=ρ) (G:=G) (w:=w);refine lN (v:=.pointer (some ⟨w.heap.size,0,none⟩)) (w':=pushB w z.cells e) ?_ ⟨_,hR.newBox hd hf.nb h4⟩;unfold execOp;simp only[ho];refine fC ?_;simp only[Instr.alloc,Sem.run_bind,jZ f.info_ h3,Ga4,Result.andThen_ok,Sem.run_pure]
 ·cases h2
theorem jR {α:Type}{l:List α}{k:Nat}{r:List α}(h:k+r.length<=l.length):(setRange l k r).length=l.length:=by
 simp[setRange];omega
theorem gV {α:Type}{l:List α}{k:Nat}{r:List α}(h:k+r.length<=l.length)(j:Nat):(setRange l k r)[j]?=if k<=j/\j<k+r.length then r[j-k]? else l[j]?:=by
 unfold setRange;by_cases h1:j<k
 ·rw[Pbd,Pbi (by simp;omega),Qbd,if_pos h1,if_neg (by omega)]
 ·by_cases h2:j<k+r.length
  ·rw[if_pos ⟨by omega,h2⟩,Pbd,Pbk (by simp;omega),Pbi (by simp;omega)]
   congr 1
   simp;omega
  ·rw[if_neg (by omega),Pbk (by simp;omega),Pb7]
   congr 1
   simp;omega
theorem Ka2 {α:Type}{l:List α}{k:Nat}{v:α}{r:List α}(h:k+(v::r).length<=l.length):setRange (l.set k v) (k+1) r=setRange l k (v::r):=by
 simp only[Pb9]at h;apply Rbp;intro j;rw[gV (by simp;omega),gV (by simp;omega)];by_cases h1:k+1<=j/\j<k+1+r.length
 ·rw[if_pos h1,if_pos (by simp;omega),show j-k=(j-(k+1))+1 by omega,Pb4]
 ·rw[if_neg h1,Qb0]
  by_cases h2:k=j
  ·subst h2
   rw[if_pos rfl,if_pos (by omega),if_pos (by simp)];simp
  ·rw[if_neg h2,if_neg (by simp;omega)]
theorem Qai (off:Nat):∀ (vs:List Value) (k:Nat) (cells:Array Value),off+k+vs.length<=cells.size ->
  ((vs.zipIdx k).foldl (fun cs x=>cs.setIfInBounds (off+x.2) x.1) cells).toList=setRange cells.toList (off+k) vs
 |[],k,cells,h=>by simp[setRange]
 | v :: r, k, cells, h => by
  simp only[Pb9]at h;simp only[List.zipIdx_cons,Qb7];rw[Qai off r (k+1) _ (by simp;omega),Array.toList_setIfInBounds,<- Pbm,Ka2 (by simp;omega)]
theorem aG.setRange {ls ms:List aM}{us xs:List Value}(h:aG σ ρ G w ls us)(h':aG σ ρ G w ms xs){k:Nat}(hk:k+ms.length<=ls.length):aG σ ρ G w (setRange ls k ms) (setRange us k xs):=by
 have e1:=h.len;have e2:=h'.len;refine .of_get (by rw[jR (by omega),jR hk,e1]) fun i l v hi hv=>?_
 rw[gV hk]at hi;rw[gV (by omega)]at hv;rw[e2]at hv;split at hi
 ·rename_i hh
  rw[if_pos hh]at hv;obtain⟨v',h1,h2⟩:=h'.get hi;rw[h1]at hv;exact Pbu hv▸h2
 ·rename_i hh
  rw[if_neg hh]at hv;obtain⟨v',h1,h2⟩:=h.get hi;rw[h1]at hv;exact Pbu hv▸h2
theorem Maj {place:Nat->Option (Nat×Nat)}{cells:Array Value}{i off size:Nat}{v:Value}{rest:List (Nat×Value)}(hp:place i=some (off,size))(hs:v.cells.toList.length=size)(hb:off+size<=cells.size) :
  ∃ cells':Array Value,Instr.fill place cells ((i,v)::rest)=Instr.fill place cells' rest/\cells'.toList=setRange cells.toList off v.cells.toList:=by
 refine⟨v.cells.zipIdx.foldl (fun cs (x:Value×Nat)=>cs.setIfInBounds (off+x.2) x.1) cells,?_,?_⟩
 ·rw[Instr.fill,hp]
  dsimp only;have:v.cells.size=size:=by simpa using hs
  rw[if_neg];simp only[this];simp;omega
 ·have:=Qai off v.cells.toList 0 cells (by simpa[hs] using hb)
  rw[Pby]at this;rw[<- this,<- Array.foldl_toList,Array.toList_zipIdx]
def Dan (σ:Nat->Option aN)(ρ:List D)(G:Gh)(w:World)(a:Act):List (Nat×Operand)->List (Nat×SV)->Prop
 |[],ps=>ps=[]
 |x::xs,ps=>∃ sv qs,ps=(x.1,sv)::qs/\bS σ ρ G w sv (a.eval x.2)/\Dan σ ρ G w a xs qs
theorem xE (hR:R E.ntmps F σ ρ a w G)(hg:gOn ρ g=true){ty:Nat->TypeId}:∀ {xs:List (Nat×Operand)} {ps:List (Nat×SV)},(Aa5 E g ty xs).eval σ=some ps ->
  Dan σ ρ G w a xs ps
 | [], ps, h => by
  simp only[Aa5,aF,Ob0]at h;subst h;exact rfl
 | (i, x) :: xs, ps, h => by
  simp only[Aa5,aA,Oby,aF,Ob0]at h;obtain⟨sv,h1,l,h2,rfl⟩:=h;exact⟨sv,l,rfl,fI hR hg h1,xE hR hg h2⟩
theorem wW {flds:List (Nat×Nat)}{place:Nat->Option (Nat×Nat)}(n9:∀ i off t f,flds[i]?=some (off,t)->E.ti t=some f->place i=some (off,f.size)) :
  ∀ {xs:List (Nat×Operand)} {ps:List (Nat×SV)},Dan σ ρ G w a xs ps->∀ {ls jn:List aM} {us:Array Value},aG σ ρ G w ls us.toList->pE flds E.ti ls ps=some jn ->
  ∃ cD,Instr.fill place us (xs.map fun x=>(x.1,a.eval x.2))=some cD/\aG σ ρ G w jn cD.toList
 | [], _, rfl, ls, jn, us, hl, h => by
  simp only[pE,Ob0]at h;subst h;exact⟨us,rfl,hl⟩
 | (i, x) :: xs, _, ⟨sv, ps, rfl, h1, hr⟩, ls, jn, us, hl, h => by
  unfold pE at h;split at h
  ·rename_i off t fX
   split at h
   ·rename_i f hf
    split at h
    ·rename_i vs kd
     cases hb:(Nat.beq vs.length f.size&&Nat.ble (off+f.size) ls.length) with
     |false=>rw[hb]at h;cases h
     | true =>
      rw[hb,cond_true]at h;simp only[Obz,Pbq,Qba]at hb;have h2:=gW kd h1;have hlen:=hl.len;obtain⟨us1,h3,h4⟩:=Maj (rest:=xs.map fun x=>(x.1,a.eval x.2)) (n9 _ _ _ _ fX hf) (by rw[h2.len];exact hb.1) (by rw[<- Rbd,hlen];exact hb.2);obtain⟨cD,h5,h6⟩:=wW n9 hr (us:=us1) (by rw[h4];exact hl.setRange h2 (by rw[hb.1];exact hb.2)) h;exact⟨cD,by rw[Pbn,h3];exact h5,h6⟩
    ·cases h
   ·cases h
  ·cases h
theorem yQ {α β:Type}(f:α->Sem β)(g:α->β):∀ (l:List α),(∀ x∈l,(f x).run P w=.ok (g x) w)->(l.mapM f).run P w=.ok (l.map g) w
 |[],_=>by simp
 | x :: l, h => by
  rw[List.mapM_cons,Sem.run_bind,h x (by simp)];simp only[Result.andThen_ok];rw[Sem.run_bind,yQ f g l fun y hy=>h y (by simp[hy])];simp
theorem wL {α β:Type}(f:α->Sem β)(g:α->β)(l:Array α)(h:∀ x∈l.toList,(f x).run P w=.ok (g x) w):(l.mapM f).run P w=.ok (l.map g) w:=by
 rw[Array.mapM_eq_mapM_toList,map_eq_pure_bind,Sem.run_bind,yQ f g _ h];simp only[Result.andThen_ok,Sem.run_pure];congr 1;apply Sbc;simp
theorem uH {α β:Type}(f:List β->α->Option (List β)):∀ (l:List α),l.foldl (fun acc x=>acc.bind fun r=>f r x) none=none
 |[]=>rfl
 |x::l=>by rw[Qb7];exact uH f l
theorem wU {α β:Type}(f:List β->α->Option (List β)):∀ (l:List α) (r0 r:List β),l.foldl (fun acc x=>acc.bind fun r=>f r x) (some r0)=some r->∀ x∈l,∃ r1 r2,f r1 x=some r2
 |[],_,_,_,x,hx=>by simp at hx
 | y :: l, r0, r, h, x, hx => by
  rw[Qb7,Ob6]at h
  cases hf:f r0 y with
  |none=>rw[hf,uH]at h;cases h
  | some r1 =>
   rcases Ob8.1 hx with rfl|hx
   ·exact⟨r0,r1,hf⟩
   ·rw[hf]at h
    exact wU f l r1 r h x hx
theorem Vah {d:Nat}{t:TypeId}{l:List TypeId}(h:flat P d t=some l):∃ i,P.info? t=some i:=by
 cases d with
 |zero=>cases h
 | succ d =>
  unfold flat at h;unfold Program.underlying at h
  cases hi:P.info? t with
  |none=>rw[hi]at h;cases h
  |some i=>exact⟨i,rfl⟩
theorem Sad {d:Nat}{t:TypeId}{l:List TypeId}{fs:Array Field}(h:flat P (d+1) t=some l)(hu:P.underlying t=some (.struct fs)):∀ f∈fs.toList,∃ i,P.info? f.type=some i:=by
 unfold flat at h;rw[hu]at h;dsimp only at h;intro f hf;obtain⟨r1,r2,h1⟩:=wU _ _ _ _ h f hf
 cases hm:flat P d f.type with
 |none=>rw[hm]at h1;cases h1
 |some m=>exact Vah hm
theorem bV.struct {t:TypeId}{i:TI}{info:TypeInfo}{u:TypeDesc}(f:bV P t i info u)(h:i.agg=true):∃ fs,u=.struct fs/\∀ fd∈fs.toList,∃ i,P.info? fd.type=some i:=by
 rw[f.agg]at h;have hc:=f.cells
 cases fX:flat P 12 t with
 |none=>rw[fX]at hc;cases hc
 | some l =>
  unfold Gap at h;split at h
  ·rename_i fs
   exact⟨fs,rfl,Sad fX f.und⟩
  ·unfold flat at fX
   rw[f.und]at fX;cases fX
  ·cases h
theorem Naz (hR:R E.ntmps F σ ρ a w G)(hd:eO E.ntmps o)(hti:sM P E.ti){nv nb nr:Nat}{mv cN:Bool}{t:TypeId}{parts:Array (Nat×Operand)}(ho:o.op=.build t parts){res:bI}
  (h:(nL E mv cN nv nb nr g o).eval σ=some res) (hs:aJ cf ρ g nv res.lets):gD P E F σ ρ a w g o Q res.upd:=by
 simp only[nL,ho,aA,Oby,tiR,aT,aH]at h;obtain⟨ti,h1,_,h2,ps,h3,h⟩:=h;split at h2
 ·rename_i kO
  obtain⟨info,u,f⟩:=aV (hti.ok _ _ h1);obtain⟨fs,rfl,hfs⟩:=f.struct kO;split at h
  ·rename_i ls qw
   refine dB hR hd h hs fun hg _=>?_
   obtain⟨z,h4,h5,-,-⟩:=f.zeros (σ:=σ) (ρ:=ρ) (G:=G) (w:=w)
   have n9:∀ (i off t':Nat) (f':TI),ti.flds[i]?=some (off,t')->E.ti t'=some f'->(fs.map fun fd=>(fd.offset,((P.info? fd.type).map (·.size)).getD 0))[i]?=some (off,f'.size):=by
    intro i off t' f' fX zd;obtain⟨fs',fd,e1,e2,e3,e4⟩:=Jan f fX;obtain rfl:fs=fs':=by injection e1
    obtain⟨ia,u',ff⟩:=aV (hti.ok _ _ zd);rw[Array.getElem?_map,e2,Pb6,e3,e4,ff.info_];simp[ff.size]
   obtain⟨cD,h6,h7⟩:=wW n9 (xE hR hg h3) (us:=z.cells) h5 qw;refine⟨.agg cD,⟨cD.toList,by simp,h7⟩,?_⟩;unfold execOp;simp only[ho];refine fC ?_
   have hm:=wL (P:=P) (w:=w) (fun fd:Field=>(do pure (fd.offset,<- sizeOf fd.type):Sem (Nat×Nat))) (fun fd=>(fd.offset,((P.info? fd.type).map (·.size)).getD 0)) fs (fun fd hfd=>by
    obtain⟨i,hi⟩:=hfs fd hfd;simp only[Sem.run_bind,run_sizeOf hi,Result.andThen_ok,Sem.run_pure,hi,Pb6,Option.getD_some])
   unfold Instr.build;simp only[Sem.run_bind,jZ f.info_ h4,Result.andThen_ok,run_underlying f.und];rw[hm];have e:(parts.map fun x=>(x.1,a.eval x.2)).toList=parts.toList.map fun x=>(x.1,a.eval x.2):=by simp
   simp only[Result.andThen_ok];rw[e,h6];rfl
  ·cases h
 ·cases h2
end
section
variable {P:Program} {E:Env} {F:bC} {σ:Nat->Option aN} {ρ:List D} {a:Act} {w w':World} {G:Gh} {g:Option (aI×Bool)} {o:Oper} {cf:Nat->List D->Option (List D)} {Q:Exit->Act->World->Prop} {next:Act->World->Prop}
theorem add_plain {b:Addr}(h:b.spot=none)(k:Nat):b.add k=⟨b.block,b.off+k,none⟩:=by
 cases b;simp only at h;subst h;unfold Addr.add;split<;>simp_all
theorem kW.write (h:kW F G w){B off:Nat}{vs:List Value}{ow:Ow}(ho:G.own B=ow)(hz:ow≠.frz/\ow≠.oth)
  (hb:∀ b,ow=.box b->B<F.w0.heap.size->F.own0 B=.box b->(F.rng b).1<=off/\off+vs.length<=(F.rng b).2):kW F G (w.setCells B off vs):=by
 obtain⟨e1,e2,e3⟩:=jY B vs off w;refine⟨by rw[e1];exact h.os,by rw[e2];exact h.tape,by rw[e3];exact h.output,by rw[setCells_size];exact h.size,fun b aq hf=>?_,fun b j aq hj=>?_,fun b aq=>?_⟩
 ·obtain⟨h1,h2⟩:=h.keep b aq hf
  have ct:b≠B:=by
   rintro rfl
   rw[ho]at h2;rw[<- h2]at hf
   rcases hf with hf|hf
   ·exact hz.1 hf
   ·exact hz.2 hf
  exact⟨by rw[dH B vs off w b ct];exact h1,h2⟩
 ·obtain⟨h1,c0,c1,e,fr,h2,h3,h4,h5⟩:=h.boxes b j aq hj
  refine⟨h1,c0,?_⟩;by_cases ct:b=B
  ·subst ct
   obtain⟨c',h6,h7,h8⟩:=yN b vs off w c1 e fr h3;refine⟨c',e,fr,h2,h6,by rw[h7];exact h4,fun k hk=>?_⟩;have gn:ow=.box j:=by rw[<- ho];exact h1
   obtain⟨h9,cd⟩:=hb j gn aq hj;rw[h8 k (by omega)];exact h5 k hk
  ·exact⟨c1,e,fr,h2,by rw[dH B vs off w b ct];exact h3,h4,h5⟩
 ·rw[setCells_size]at aq
  exact h.fresh b aq
theorem Gab (hR:R E.ntmps F σ ρ a w G)(hti:sM P E.ti){nv:Nat}{mv cN:Bool}{t:TypeId}{x y:Operand}(ho:o.op=.store t x y){ti:TI}(hi:E.ti t=some ti){b off:Nat}{ls:List aM}{sv:SV}
  (hx:gOn ρ g=true->aB σ ρ G w (.px b off) (a.eval x)) (hy:gOn ρ g=true->bS σ ρ G w sv (a.eval y)) (qw:jB ti.agg sv=some ls) {res:bI}
  (h:(Aaz nv mv cN o g ti (.px b off) ls).eval σ=some res):gD P E F σ ρ a w g o Q res.upd:=by
 simp only[Aaz,aA,aH,Oby,aP,Ob6]at h;obtain⟨_,h1,h⟩:=h;split at h1
 ·rename_i oo
  simp only[Obz,Pbq,Rbf]at oo;obtain⟨hlen,qj⟩:=oo;split at h
  ·rename_i bs hk
   simp only[aA,aH,Oby]at h;obtain⟨_,h2,h⟩:=h;split at h2
   ·rename_i kA
    simp only[Obz,Qba]at kA;obtain⟨⟨hle,yd⟩,ba⟩:=kA;obtain rfl:=tQ yd;simp only[aF,Ob0]at h;subst h;refine⟨fun hg=>?_,fun hg=>by simp[gOn]at hg⟩;obtain⟨info,u,f⟩:=aV (hti.ok _ _ hi);have hl:=gW qw (hy hg);have oq:=hl.ones ba;have si:=hl.len;have hpx:=hx hg;simp only[aB]at hpx;obtain⟨h3,h4,h5⟩:=hR.box hk;have h4:G.own (G.bx b).block=.box b:=by simpa using h4
    generalize kd:(a.eval y).cells.toList=vs at hl oq si
    have bc:∀ j,off<=j->j<off+ls.length->∃ v,w.cell? ⟨(G.bx b).block,(G.bx b).off+j,none⟩=some v/\w.frozen? ⟨(G.bx b).block,(G.bx b).off+j,none⟩=false:=by
     intro j hj1 jg;have sL:bs[j]?=some bs[j]:=Ob5 (by omega);obtain⟨v,h6,h7,-⟩:=h5 j _ sL;rw[add_plain h3]at h6 h7;exact⟨v,h6,h7⟩
    have bd:(execOp a.eval o).run P w=.ok .skip (w.setCells (G.bx b).block ((G.bx b).off+off) vs):=by
     unfold execOp;simp only[ho]
     have:=Ba4 (P:=P) (w:=w) f (b:=(G.bx b).block) (off:=(G.bx b).off+off) (v:=a.eval y) (by rw[kd];omega)
      (fun j hj=>by
       obtain⟨v,h6,-⟩:=bc (off+j) (by omega) (by omega);exact⟨v,by rw[Pbm];exact h6⟩)
      (fun j hj=>by
       obtain⟨v,-,h6⟩:=bc (off+j) (by omega) (by omega);rw[Pbm];exact h6) (by rw[kd];exact oq)
     simp only[Instr.storeAt,Instr.sureAddr,Sem.run_bind,hpx.1,Sem.run_pure,Result.andThen_ok,add_plain h3,this,kd]
    refine Oa6 bd ⟨G,?_⟩;have ct:∀ b',G.own b'≠.box b->b'≠(G.bx b).block:=fun b' hb e=>hb (by rw[e];exact h4)
    have hkR:∀ r,upds σ [(kB b,aN.box false (setRange bs off ls))] (kR r)=σ (kR r):=fun r=>by
     refine dW _ _ _ fun c hc=>?_
     simp only[Ob3,Pbl]at hc;exact eD hc.1.symm
    have dq:Fr σ G w (upds σ [(kB b,aN.box false (setRange bs off ls))]) G (w.setCells (G.bx b).block ((G.bx b).off+off) vs):=by
     refine⟨fun b' hb aq=>⟨hb,dH _ _ _ _ _ (ct b' (by rw[hb];simp))⟩,fun r k _ hv=>?_,fun r k hk=>hk.same hkR,fun r k b' p _ _ hb=>⟨.inl hb,dH _ _ _ _ _ (ct b' (by rw[hb];simp))⟩,
      fun r k m _ hv=>⟨?_,fun b' p hb=>hb⟩,fun _ _=>rfl,fun _ _=>rfl,fun k hk=>dL _ _ _ (.inl hk),fun _ _ _ _ _ _ _ hb=>hb⟩
     ·obtain⟨x',m,st,e,hs⟩:=hv
      exact⟨x',m,st,by rw[<- hkR];exact e,hs⟩
     ·obtain⟨x',e⟩:=hv
      exact⟨x',by rw[<- hkR];exact e⟩
    have gj:(setRange bs off ls).length=bs.length:=jR hle;rw[qj];refine hR.upd _ dq hR.tmps hR.defers (hR.frame.write h4 (by simp) fun b' e aq qt=>?_) (fun t _=>rfl) (fun b' ro jn cI gm=>?_) (fun b' jn cI aq qt=>?_) (fun k c hk1 hk2=>?_)
    ·obtain rfl:b=b':=by injection e
     have:=hR.rng b bs hk aq qt;rw[this];dsimp only;omega
    ·refine⟨rfl,dH _ _ _ _ _ (ct _ ?_)⟩
     obtain⟨_,h6,_⟩:=hR.box cI;rw[h6];split
     ·simp
     ·intro e
      obtain rfl:b'=b:=by injection e
      exact gm _ (Ob3.2 rfl)
    ·simp only[Ob3,Pbl,aN.box.injEq,true_and]at cI
     obtain⟨e,rfl⟩:=cI;obtain rfl:=zT e;rw[gj];exact hR.rng b' bs hk aq qt
    ·simp only[Ob3,Pbl]at hk1
     obtain⟨rfl,rfl⟩:=hk1;refine⟨b,rfl,h3,by simpa using h4,fun j l hj=>?_⟩;rw[gV hle]at hj;rw[World.frozen?_setCells,add_plain h3];split at hj
     ·rename_i gE
      obtain⟨v,h6,h7⟩:=hl.get hj;obtain⟨u',h8,h9⟩:=bc j gE.1 gE.2;refine⟨v,?_,h9,aB.mono dq l v h7⟩
      have:=World.cell?_setCells_in (G.bx b).block vs ((G.bx b).off+off) w (fun j' gn=>by
       obtain⟨v',cd,-⟩:=bc (off+j') (by omega) (by omega);rw[Pbm,cd];rfl) (j-off) (by omega)
      rw[show (G.bx b).off+off+(j-off)=(G.bx b).off+j by omega]at this;rw[this,<- h6,Ob5]
     ·rename_i zk
      obtain⟨v,h6,h7,h8⟩:=h5 j l hj;rw[add_plain h3]at h6 h7;refine⟨v,?_,h7,aB.mono dq l v h8⟩;rw[World.cell?_setCells_out _ _ _ _ _ (fun _ _=>by dsimp only;omega)];exact h6
   ·cases h2
  ·cases h
 ·cases h1
end
theorem Rp.move {own own':Nat->Ow}{w w':World}{r r':Nat}{p:List Nat}{m:Nat}{v:Value}{d:D}(h:Rp own w r p m v d)
  (hz:∀ b,own b=.frz->b<w.heap.size->own' b=.frz/\w'.heap[b]?=w.heap[b]?):∀ (p':List Nat) (m':Nat),m'<=m ->
  (∀ b t,own b=.slc r (p++t)->own' b=(if t.length<m' then .slc r' (p'++t) else .frz)/\w'.heap[b]?=w.heap[b]?)->Rp own' w' r' p' m' v d:=by
 induction h with
 |sc h=>exact fun _ _ _ _=>.sc h
 |hole v h1=>exact fun _ _ _ _=>.hole v h1
 | fz h =>
  intro p' m' hm hs;obtain rfl:m'=0:=by omega
  exact .fz (h.mono' fun b hb aq=>hz b hb aq)
 | sl A a n c sz rs vs hn hc hA dm a7 bc b5 ih =>
  rename_i p m;intro p' m' hm hs
  have aq:∀ i row,rs[i]?=some row->i<rs.length:=fun i row hi=>by
   rcases Pbo i rs.length with h|h
   ·exact h
   ·simp[List.getElem?_eq_none h]at hi
  have vw:∀ i row,rs[i]?=some row->A=some a:=fun i row hi=>by
   rcases hA with e|⟨e,e'⟩
   ·exact e
   ·have:=aq i row hi;omega
  cases m' with
  | zero =>
   refine .fz (.rows A a n c sz rs vs hn hc ?_ dm (fun i row hi j d hj=>?_) (fun i row hi j d hj=>?_))
   ·rcases hA with e|⟨e,e'⟩
    ·exact .inr e
    ·exact .inl (by omega)
   ·obtain⟨h1,h2⟩:=hs a.block [] (by simpa using (a7 (vw i row hi)).2.1)
    refine⟨by simpa using h1,?_⟩;exact (eY (w:=w) (w':=w') (by rw[add_block];exact h2)).trans (bc i row hi j d hj)
   ·exact (ih i row hi j d hj [] 0 (Nat.zero_le _) (fun b t hb=>by
     have:=hs b ([i*sz+j]++t) (by rw[<- Pbd];exact hb);simpa using this)).zero
  | succ m' =>
   refine .sl A a n c sz rs vs hn hc hA dm (fun e=>?_) (fun i row hi j d hj=>?_) (fun i row hi j d hj=>?_)
   ·obtain⟨h1,h2,h3⟩:=a7 e
    obtain⟨h4,h5⟩:=hs a.block [] (by simpa using h2);refine⟨h1,by simpa using h4,fun k hk=>?_⟩;obtain⟨u,hu,hf⟩:=h3 k hk;exact⟨u,(eY (w:=w) (w':=w') (by rw[add_block];exact h5)).trans hu,(jL (w:=w) (w':=w') (by rw[add_block];exact h5)).trans hf⟩
   ·obtain⟨h1,h2⟩:=hs a.block [] (by simpa using (a7 (vw i row hi)).2.1)
    exact (eY (w:=w) (w':=w') (by rw[add_block];exact h2)).trans (bc i row hi j d hj)
   ·refine ih i row hi j d hj (p'++[i*sz+j]) m' (by omega) (fun b t hb=>?_)
    have:=hs b ([i*sz+j]++t) (by rw[<- Pbd];exact hb);simp only[Pbg,Qbk]at this;rw[<- Pbd]at this;refine⟨?_,this.2⟩;rw[this.1];by_cases ht:t.length<m'
    ·rw[if_pos ht,if_pos (by omega)]
    ·rw[if_neg ht,if_neg (by omega)]
inductive Upd:List Nat->D->D->D->Prop
 |here (x y:D):Upd [] x y y
 | down (sz : Nat) (rs : List (List D)) (i j : Nat) (row : List D) (z z' y : D) (p : List Nat) (hi : rs[i]? = some row) (hj : row[j]? = some z)
   (h:Upd p z y z'):Upd ((i*sz+j)::p) (.rows sz rs) y (.rows sz (rs.set i (row.set j z')))
theorem Abd {i j i' j' sz:Nat}(hj:j<sz)(gn:j'<sz)(h:i*sz+j=i'*sz+j'):i=i'/\j=j':=by
 have h1:(i*sz+j) / sz=i:=by
  rw[Nat.mul_comm,Nat.mul_add_div (by omega),Nat.div_eq_of_lt hj,Pby]
 have h2:(i'*sz+j') / sz=i':=by
  rw[Nat.mul_comm,Nat.mul_add_div (by omega),Nat.div_eq_of_lt gn,Pby]
 rw[h,h2]at h1;subst h1;exact⟨rfl,by omega⟩
theorem Rp.sl_inv {own:Nat->Ow}{w:World}{r:Nat}{p:List Nat}{m:Nat}{v:Value}{sz:Nat}{rs:List (List D)}(h:Rp own w r p (m+1) v (.rows sz rs)) :
  ∃ (A:Option Addr) (a:Addr) (n c:Nat) (vs:Nat->Nat->Value),v=.slice A n c/\rs.length=n/\n<=c/\(A=some a\/(A=none/\c=0))/\(∀ r∈rs,r.length=sz) /\
   (A=some a->a.spot=none/\own a.block=.slc r p/\∀ k,k<c*sz->∃ u,w.cell? (a.add k)=some u/\w.frozen? (a.add k)=false) /\
   (∀ i row,rs[i]?=some row->∀ j d,row[j]?=some d->w.cell? (a.add (i*sz+j))=some (vs i j)) /\
   (∀ i row,rs[i]?=some row->∀ j d,row[j]?=some d->Rp own w r (p++[i*sz+j]) m (vs i j) d):=by
 cases h with
 |sc h=>cases h
 |sl A a n c sz rs vs hn hc hA dm a7 bc b5=>exact⟨A,a,n,c,vs,rfl,hn,hc,hA,dm,a7,bc,b5⟩
theorem Rp.upd {own own':Nat->Ow}{w w':World}{r M':Nat}{full:List Nat}{y:D}{u:Value}
  (hz:∀ b,own b=.frz->b<w.heap.size->own' b=.frz/\w'.heap[b]?=w.heap[b]?)
  (hs:∀ b t,own b=.slc r t->¬ full <+: t->own' b=(if t.length<M' then .slc r t else .frz)/\w'.heap[b]?=w.heap[b]?)
  (hM:full.length<=M') (ga:Rp own' w' r full (M'-full.length) u y) :
  ∀ (p q:List Nat) (M:Nat) (v:Value) (x x':D),full=q++p->M'<=M->Rp own w r q (M-q.length) v x->wG own w r q v p u->Upd p x y x'->Rp own' w' r q (M'-q.length) v x'
 | [], q, M, v, x, x', hf, hMM, hx, hn, hu => by
  cases hu;simp only[wG]at hn;rw[Pbz]at hf;subst hf hn;exact ga
 | k :: p, q, M, v, x, x', hf, hMM, hx, hn, hu => by
  generalize hk:k::p=kp at hu
  cases hu with
  |here=>cases hk
  | down sz rs i j row z z' y p' hi hj hu =>
   obtain⟨rfl,rfl⟩:=List.cons.inj hk;have hlen:full.length=q.length+(p.length+1):=by rw[hf];simp
   obtain⟨m,hm⟩:∃ m,M-q.length=m+1:=⟨M-q.length-1,by omega⟩;obtain⟨m',nf⟩:∃ m',M'-q.length=m'+1:=⟨M'-q.length-1,by omega⟩;rw[hm]at hx;rw[nf];obtain⟨A,a,n,c,vs,rfl,h1,h2,h3,h4,h5,h6,h7⟩:=hx.sl_inv;have nF:i<rs.length:=(Ob2.1 hi).1
   have hA:A=some a:=by
    rcases h3 with e|⟨e,e'⟩
    ·exact e
    ·omega
   subst hA;obtain⟨h8,h9,cd⟩:=h5 rfl;obtain⟨a',n',c',u',e1,e2,e3,e4⟩:=hn;obtain⟨rfl,rfl,rfl⟩:a=a'/\n=n'/\c=c':=by injection e1 with a b c;exact⟨Pbu a,b,c⟩
   have gk:=h6 i row hi j z hj;rw[gk]at e3;obtain rfl:=Pbu e3
   have hq:¬ full <+: q:=by
    intro e;have:=e.length_le;omega
   obtain⟨fg,b8⟩:=hs _ _ h9 hq;rw[if_pos (by omega)]at fg;have ja:∀ k,w'.cell? (a.add k)=w.cell? (a.add k):=fun k=>eY (w:=w) (w':=w') (by rw[add_block];exact b8)
   have oX:∀ k,w'.frozen? (a.add k)=w.frozen? (a.add k):=fun k=>jL (w:=w) (w':=w') (by rw[add_block];exact b8)
   have b5:=Rp.upd hz hs hM ga p (q++[i*sz+j]) M (vs i j) z z' (by rw[hf];simp) hMM (by
    have:=h7 i row hi j z hj;rwa[show M-(q++[i*sz+j]).length=m by simp;omega]) e4 hu
   rw[show M'-(q++[i*sz+j]).length=m' by simp;omega]at b5;have jo:row.length=sz:=h4 row (Pbh hi);have aq:j<sz:=by rw[<- jo];exact (Ob2.1 hj).1
   have ma:∀ i' eA,(rs.set i (row.set j z'))[i']?=some eA->∀ j' d,eA[j']?=some d->(i'=i/\j'=j/\d=z')\/(∃ row0,rs[i']?=some row0/\row0[j']?=some d/\¬ (i'=i/\j'=j)):=by
    intro i' eA fb j' d gn;rw[Qb0]at fb;by_cases pH:i=i'
    ·subst pH
     rw[if_pos rfl,if_pos nF]at fb;obtain rfl:=Pbu fb;rw[Qb0]at gn;by_cases uo:j=j'
     ·subst uo
      rw[if_pos rfl,if_pos (by omega)]at gn;exact .inl ⟨rfl,rfl,(Pbu gn).symm⟩
     ·rw[if_neg uo]at gn
      exact .inr ⟨row,hi,gn,fun e=>uo e.2.symm⟩
    ·rw[if_neg pH]at fb
     exact .inr ⟨eA,fb,gn,fun e=>pH e.1.symm⟩
   refine .sl _ a n c sz _ vs (by simpa using h1) h2 (.inl rfl) (fun eA hr=>?_) (fun _=>⟨h8,fg,fun k hk=>?_⟩) (fun i' eA fb j' d gn=>?_) (fun i' eA fb j' d gn=>?_)
   ·rcases Rbm hr with hr|rfl
    ·exact h4 _ hr
    ·simpa using jo
   ·rw[ja,oX]
    exact cd k hk
   ·rw[ja]
    rcases ma i' eA fb j' d gn with ⟨rfl,rfl,rfl⟩|⟨row0,db,fj,-⟩
    ·exact gk
    ·exact h6 _ _ db _ _ fj
   ·rcases ma i' eA fb j' d gn with ⟨rfl,rfl,rfl⟩|⟨row0,db,fj,ct⟩
    ·exact b5
    ·refine (h7 _ _ db _ _ fj).move hz _ m' (by omega) fun b t hb=>?_
     have hnp:¬ full <+: q++[i'*sz+j']++t:=by
      intro e;rw[hf,Pbd,List.prefix_append_right_inj]at e;have e':=(List.cons_prefix_cons.1 e).1
      have uh:j'<sz:=by
       have:=(Ob2.1 fj).1;rw[h4 row0 (Pbh db)]at this;exact this
      obtain⟨ll,l8⟩:=Abd uh aq e'.symm;exact ct ⟨ll,l8⟩
     obtain⟨hJ,j9⟩:=hs b _ hb hnp;simp only[Pbg,Qbk]at hJ;refine⟨?_,j9⟩;rw[hJ];by_cases ht:t.length<m'
     ·rw[if_pos ht,if_pos (by omega)]
     ·rw[if_neg ht,if_neg (by omega)]
theorem sP:∀ (l:List Step) (n:Nat),l.foldl (fun s x=>s+x.n) n=n+bD l
 |[],n=>rfl
 | s :: l, n => by
  simp only[bD,Qb7];rw[sP l (n+s.n),sP l (0+s.n)];omega
theorem gZ (s:Step)(l:List Step):bD (s::l)=s.n+bD l:=by
 show (s::l).foldl (fun s x=>s+x.n) 0=_
 rw[Qb7,sP];omega
theorem eB:∀ (l m:List Step),bD (l++m)=bD l+bD m
 |[],m=>by simp[bD]
 |s::l,m=>by rw[Qb2,gZ,gZ,eB l m];omega
section
variable {ρ:List D} {g:Option (aI×Bool)} {cf:Nat->List D->Option (List D)}
theorem aJ.append:∀ {l m:List Step} {nv:Nat},aJ cf ρ g nv (l++m)->aJ cf ρ g nv l/\aJ cf ρ g (nv+bD l) m
 |[],m,nv,h=>⟨trivial,h⟩
 | s :: l, m, nv, h => by
  obtain⟨h1,h2⟩:=h;obtain⟨h3,h4⟩:=aJ.append h2;exact⟨⟨h1,h3⟩,by rw[gZ,<- Pbm];exact h4⟩
theorem Na1 {sz off n:Nat}{x i:D}{vs ds:List D}(h:(aY.set sz off n).run (x::i::vs)=some ds) :
  ∃ rs k iv row,x=.rows sz rs/\i=.int k iv/\0<=iv/\rs[iv.toNat]?=some row/\off+n<=row.length/\vs.length=n/\ds=[.rows sz (rs.set iv.toNat (row.take off++vs++row.drop (off+n)))]:=by
 cases x<;>cases i<;>simp only[aY.run]at h<;>first|cases h|skip
 rename_i ob rs k iv;split at h
 ·rename_i h1
  obtain⟨rfl,h1⟩:=h1;split at h
  ·rename_i row hr
   split at h
   ·rename_i h2
    simp only[Ob0]at h;exact⟨rs,k,iv,row,rfl,rfl,h1,hr,h2.1,h2.2,h.symm⟩
   ·cases h
  ·cases h
 ·cases h
theorem take_set {α:Type}{l:List α}{k:Nat}{x:α}(h:k<l.length):l.take k++[x]++l.drop (k+1)=l.set k x:=by
 apply Rbp;intro j;rw[Qb0];by_cases h1:j<k
 ·rw[Pbd,Pbi (by simp;omega),Qbd,if_pos h1,if_neg (by omega)]
 ·by_cases h2:k=j
  ·subst h2
   rw[if_pos rfl,if_pos h,Pbd,Pbk (by simp;omega)];simp[Nat.min_eq_left (Nat.le_of_lt h)]
  ·rw[if_neg h2,Pbk (by simp;omega),Pb7]
   congr 1
   simp;omega
theorem zF (hg:gOn ρ g=true):∀ (q:List (aI×Nat×Nat)) (nv:Nat) (X y:aI),aJ cf ρ g nv (Ia3 nv X q y).1->Upd (aZ ρ q) (X.val ρ) (y.val ρ) ((Ia3 nv X q y).2.val ρ)
 |[],nv,X,y,_=>.here _ _
 | (i, sz, off) :: p, nv, X, y, h => by
  have ym:aZ ρ ((i,sz,off)::p)=(jT ρ i*sz+off)::aZ ρ p:=rfl;rw[ym]
  cases p with
  | nil =>
   simp only[Ia3]at h ⊢;obtain⟨d,h1,h2⟩:=zD h.1 hg;simp only[Pbn,Pbx]at h1;obtain⟨rs,k,iv,row,e1,e2,e3,e4,e5,e6,e7⟩:=Na1 h1;simp only[Qbf,and_true]at e7;have hi:jT ρ i=iv.toNat:=by simp[jT,e2]
   rw[e1,hi,h2,e7,take_set (by omega)];exact .down sz rs iv.toNat off row _ _ _ _ e4 (Ob5 (by omega)) (.here _ _)
  | cons z p =>
   have ct:Ia3 nv X ((i,sz,off)::z::p) y =
     ([.prim (.row sz off [false]) [X,i] 1]++(Ia3 (nv+1) (.v nv) (z::p) y).1++[.prim (.set sz off 1) [X,i,(Ia3 (nv+1) (.v nv) (z::p) y).2] 1],.v (nv+1+bD (Ia3 (nv+1) (.v nv) (z::p) y).1)):=rfl
   rw[ct]at h ⊢;obtain⟨h1,h2⟩:=aJ.append h;obtain⟨h3,h4⟩:=aJ.append h1;obtain⟨d,h5,h6⟩:=zD h3.1 hg;have sC:bD [Step.prim (.row sz off [false]) [X,i] 1]=1:=rfl;rw[sC]at h4;rw[eB,sC,<- Pbm]at h2;have ih:=zF hg (z::p) (nv+1) (.v nv) y h4;obtain⟨d',h7,h8⟩:=zD h2.1 hg;simp only[Pbn,Pbx]at h5 h7;obtain⟨rs,k,iv,row,e1,e2,e3,e4,e5,e6,e7⟩:=Na1 h7;obtain⟨rs',k',iv',eA,f1,f2,f3,f4,f5,f6,f7⟩:=Tay h5;rw[e1]at f1;obtain rfl:rs=rs':=by injection f1
   rw[e2]at f2;obtain⟨rfl,rfl⟩:k=k'/\iv=iv':=by injection f2 with a b;exact⟨a,b⟩
   rw[e4]at f4;obtain rfl:=Pbu f4;simp only[Qbf,and_true]at e7;have hi:jT ρ i=iv.toNat:=by simp[jT,e2]
   have hz:row[off]?=some ((aI.v nv).val ρ):=by
    rw[h6]
    have:((row.drop off).take 1)[0]?=some d:=by
     rw[show [false].length=1 from rfl]at f7;rw[<- f7];rfl
    rw[Qbd,if_pos (by omega),Pb7]at this;simpa using this
   rw[e1,hi,h8,e7,take_set (by omega)];exact .down sz rs iv.toNat off row _ _ _ _ e4 hz ih
end
section
variable {P:Program} {E:Env} {F:bC} {n:Nat} {σ:Nat->Option aN} {ρ:List D} {a:Act} {w w':World} {G G':Gh} {g:Option (aI×Bool)} {o:Oper} {cf:Nat->List D->Option (List D)} {Q:Exit->Act->World->Prop} {next:Act->World->Prop}
def Chg (σ:Nat->Option aN)(G:Gh)(w:World)(G':Gh)(w':World)(r:Nat)(c:aN):Prop :=
 (σ (kR r)=none/\∃ x m aE st,c=.root x m aE st) \/
 (∃ x m aE x' m',σ (kR r)=some (.root x m aE .live)/\c=.root x' m' (aE+1) .live) \/
 (∃ x m aE st,c=.root x m aE st/\st≠.live/\st≠.frozen) \/
 (∃ x m aE,σ (kR r)=some (.root x m aE .live)/\c=.root x m aE .frozen/\∀ b p,G.own b=.slc r p->G'.own b=.frz/\w'.heap[b]?=w.heap[b]?)
theorem Sa9 (u:List (Nat×aN))(σ:Nat->Option aN)(k:Nat)(h:∃ c,(k,c)∈u):∃ c,(k,c)∈u/\upds σ u k=some c:=by
 have h1:=dL u σ k (.inr h);obtain⟨c,hc⟩:=Option.isSome_iff_exists.1 h1
 rcases nI u σ k c hc with h2|⟨h2,-⟩
 ·exact⟨c,h2,hc⟩
 ·obtain⟨c',ic⟩:=h
  exact absurd ic (h2 c')
theorem Fr.of {u:List (Nat×aN)}(xe:∀ b,G.own b=.frz->b<w.heap.size->G'.own b=.frz/\w'.heap[b]?=w.heap[b]?)
  (yc:∀ r b p,(∀ c,(kR r,c)∉u)->G.own b=.slc r p->G'.own b=.slc r p/\w'.heap[b]?=w.heap[b]?)
  (yk:∀ r c,(kR r,c)∈u->upds σ u (kR r)=some c->Chg σ G w G' w' r c)
  (oe:∀ r x m k,σ (kR r)=some (.root x m k .frozen)->∀ b p,G'.own b=.slc r p->G.own b=.slc r p)
  (q7:∀ r,(σ (kR r)).isSome->G'.hdr r=G.hdr r) (fv:∀ b,(σ (kB b)).isSome->G'.bx b=G.bx b):Fr σ G w (upds σ u) G' w':=by
 have lp:∀ r,(∀ c,(kR r,c)∉u)\/∃ c,(kR r,c)∈u/\upds σ u (kR r)=some c/\Chg σ G w G' w' r c:=by
  intro r;by_cases h:∃ c,(kR r,c)∈u
  ·obtain⟨c,h1,h2⟩:=Sa9 u σ (kR r) h
   exact .inr ⟨c,h1,h2,yk r c h1 h2⟩
  ·exact .inl fun c hc=>h ⟨c,hc⟩
 have dt:∀ r k,iK σ r k->kL (upds σ u) r k->kL σ r k:=by
  intro r k hk hv
  rcases lp r with h|⟨c,h1,h2,h3⟩
  ·obtain⟨x,m,st,e,hs⟩:=hv
   rw[dW u σ _ h]at e;exact⟨x,m,st,e,hs⟩
  ·obtain⟨x,m,st,e,hs⟩:=hv
   rw[h2]at e;obtain rfl:=Pbu e;obtain⟨x0,m0,v0,st0,e0,xT⟩:=hk
   rcases h3 with ⟨h4,-⟩|⟨x1,m1,v1,x2,m2,h4,h5⟩|⟨x1,m1,v1,st1,h5,h6,h7⟩|⟨x1,m1,v1,h4,h5,-⟩
   ·rw[h4]at e0;cases e0
   ·rw[h4]at e0
    injection e0 with e0
    injection e0 with i1 i2 i3 i4
    injection h5 with j1 j2 j3 j4
    have:=xT (.inl i4.symm);omega
   ·injection h5 with j1 j2 j3 j4
    rw[j4]at hs
    rcases hs with hs|hs
    ·exact absurd hs h6
    ·exact absurd hs h7
   ·injection h5 with j1 j2 j3 j4
    exact⟨x1,m1,.live,by rw[h4,j3],.inl rfl⟩
 refine⟨xe,dt,fun r k hk=>?_,fun r k b p hv wv hb=>?_,fun r k m hk hl=>?_,q7,fv,fun k hk=>dL _ _ _ (.inl hk),oe⟩
 ·rcases lp r with h|⟨c,h1,h2,h3⟩
  ·obtain⟨x,m,aE,st,e,hs⟩:=hk
   exact⟨x,m,aE,st,by rw[dW u σ _ h];exact e,hs⟩
  ·obtain⟨x0,m0,v0,st0,e0,xT⟩:=hk
   rcases h3 with ⟨h4,-⟩|⟨x1,m1,v1,x2,m2,h4,h5⟩|⟨x1,m1,v1,st1,h5,h6,h7⟩|⟨x1,m1,v1,h4,h5,-⟩
   ·rw[h4]at e0;cases e0
   ·rw[h4]at e0
    injection e0 with e0
    injection e0 with i1 i2 i3 i4
    have:=xT (.inl i4.symm);exact⟨_,_,_,_,by rw[h2,h5],fun _=>by omega⟩
   ·exact⟨_,_,_,_,by rw[h2,h5],fun hs=>by rcases hs with hs|hs<;>contradiction⟩
   ·rw[h4]at e0
    injection e0 with e0
    injection e0 with i1 i2 i3 i4
    have:=xT (.inl i4.symm);exact⟨_,_,_,_,by rw[h2,h5],fun _=>by omega⟩
 ·rcases lp r with h|⟨c,h1,h2,h3⟩
  ·exact⟨.inl (yc r b p h hb).1,(yc r b p h hb).2⟩
  ·obtain⟨x,m,st,e,hs⟩:=hv
   obtain⟨x',m',s7,e',jf⟩:=wv;rw[h2]at e';obtain rfl:=Pbu e'
   rcases h3 with ⟨h4,-⟩|⟨x1,m1,v1,x2,m2,h4,h5⟩|⟨x1,m1,v1,st1,h5,h6,h7⟩|⟨x1,m1,v1,h4,h5,h6⟩
   ·rw[h4]at e;cases e
   ·rw[h4]at e
    injection e with e
    injection e with i1 i2 i3 i4
    injection h5 with j1 j2 j3 j4
    omega
   ·injection h5 with j1 j2 j3 j4
    rw[j4]at jf
    rcases jf with hs|hs
    ·exact absurd hs h6
    ·exact absurd hs h7
   ·exact⟨.inr (h6 b p hb).1,(h6 b p hb).2⟩
 ·rcases lp r with h|⟨c,h1,h2,h3⟩
  ·obtain⟨x,e⟩:=hl
   rw[dW u σ _ h]at e;exact⟨⟨x,e⟩,fun b p hb=>(yc r b p h hb).1⟩
  ·obtain⟨x,e⟩:=hl
   rw[h2]at e;obtain rfl:=Pbu e;obtain⟨x0,m0,v0,st0,e0,xT⟩:=hk
   rcases h3 with ⟨h4,-⟩|⟨x1,m1,v1,x2,m2,h4,h5⟩|⟨x1,m1,v1,st1,h5,h6,h7⟩|⟨x1,m1,v1,h4,h5,-⟩
   ·rw[h4]at e0;cases e0
   ·rw[h4]at e0
    injection e0 with e0
    injection e0 with i1 i2 i3 i4
    injection h5 with j1 j2 j3 j4
    have:=xT (.inl i4.symm);omega
   ·injection h5 with j1 j2 j3 j4
    exact absurd j4.symm h6
   ·injection h5 with j1 j2 j3 j4
    cases j4
def kZ (f:Nat->List Nat->Ow):Ow->Ow
 |.slc s p=>f s p
 |o=>o
theorem R.own (h:R E.ntmps F σ ρ a w G)(hd:eO E.ntmps o){sv:SV}{v:Value}{ur:List (Nat×aN)}{f:Nat->List Nat->Ow}{wr:Nat->Prop}
  (hu:∀ k c,(k,c)∈ur->∃ r,k=kR r)
  (a7:∀ b,b<w.heap.size->G'.own b=kZ f (G.own b)) (xd:∀ b,w'.heap.size<=b->G'.own b=.frz)
  (qT:w'.os=w.os/\w'.tape=w.tape/\w'.output=w.output/\w.heap.size<=w'.heap.size)
  (tP:∀ b,w.heap.size<=b->G'.own b=.frz\/∃ r p,G'.own b=.slc r p/\σ (kR r)=none)
  (b8:∀ b,b<w.heap.size->¬ wr b->w'.heap[b]?=w.heap[b]?) (hwr:∀ b,wr b->∃ r p,G.own b=.slc r p/\∃ c,(kR r,c)∈ur)
  (yc:∀ b r p,G.own b=.slc r p->(∀ c,(kR r,c)∉ur)->f r p=.slc r p)
  (yk:∀ r c,(kR r,c)∈ur->upds σ (dF o g sv++ur) (kR r)=some c->Chg σ G w G' w' r c)
  (oe:∀ r x m k,σ (kR r)=some (.root x m k .frozen)->∀ s p q,f s p=.slc r q->s=r/\p=q)
  (q7:∀ r,(σ (kR r)).isSome->G'.hdr r=G.hdr r) (fv:G'.bx=G.bx)
  (dt:Fr σ G w (upds σ (dF o g sv++ur)) G' w'->gOn ρ g=true->bS (upds σ (dF o g sv++ur)) ρ G' w' sv v)
  (e9:Fr σ G w (upds σ (dF o g sv++ur)) G' w'->∀ r c,(kR r,c)∈ur->upds σ (dF o g sv++ur) (kR r)=some c->∃ x m aE st,c=.root x m aE st/\bK (upds σ (dF o g sv++ur)) ρ G' w' r x m st) :
  R E.ntmps F (upds σ (dF o g sv++ur)) ρ (a.put o.dst v) w' G':=by
 have kc:=Fam o g sv
 have gE:∀ r c,(kR r,c)∈dF o g sv++ur->(kR r,c)∈ur:=by
  intro r c hc
  rcases Pbe.1 hc with hc|hc
  ·obtain⟨t,e⟩:=kc _ _ hc
   exact absurd e.symm iA
  ·exact hc
 have k7:∀ b r p,G.own b=.slc r p->b<w.heap.size:=fun b r p hb=>by
  rcases Pbo b w.heap.size with h1|h1
  ·exact h1
  ·rw[h.frame.fresh b h1]at hb;cases hb
 have pL:∀ b,b<w.heap.size->(∀ r p,G.own b≠.slc r p)->G'.own b=G.own b/\w'.heap[b]?=w.heap[b]?:=fun b aq hb=>by
  refine⟨?_,b8 b aq fun hw=>?_⟩
  ·rw[a7 b aq]
   unfold kZ;split
   ·rename_i s p e
    exact absurd e (hb s p)
   ·rfl
  ·obtain⟨r,p,e,-⟩:=hwr b hw
   exact hb r p e
 have dq:Fr σ G w (upds σ (dF o g sv++ur)) G' w':=by
  refine Fr.of (fun b hb aq=>?_) (fun r b p gm hb=>?_) (fun r c hc ic=>yk r c (gE r c hc) ic) (fun r x m k hk b p hb=>?_) q7 (fun b _=>by rw[fv])
  ·obtain⟨h1,h2⟩:=pL b aq (by rw[hb];simp)
   exact⟨h1.trans hb,h2⟩
  ·have aq:=k7 b r p hb
   have v8:∀ c,(kR r,c)∉ur:=fun c hc=>gm c (Ob4 _ hc)
   refine⟨by rw[a7 b aq,hb];exact yc b r p hb v8,b8 b aq fun hw=>?_⟩;obtain⟨r',p',e,c,hc⟩:=hwr b hw;rw[hb]at e
   injection e with e1 e2
   subst e1;exact v8 c hc
  ·rcases Pbo b w.heap.size with aq|aq
   ·rw[a7 b aq]at hb
    cases e:G.own b with
    | slc s q =>
     rw[e]at hb;obtain⟨rfl,rfl⟩:=oe r x m k hk s q p hb;rfl
    |_=>rw[e]at hb;exact hb
   ·rcases tP b aq with e|⟨r',p',e,hn⟩
    ·rw[e]at hb;cases hb
    ·rw[e]at hb
     injection hb with e1 e2
     subst e1;rw[hn]at hk;cases hk
 refine h.upd _ dq (by rw[zA];exact h.tmps) (by rw[put_defers];exact h.defers) ?_ (fun t ht=>Ca7 ht) (fun b ro bs hb _=>?_) (fun b bs hb aq ho=>?_) (fun k c hk jh=>?_)
 ·obtain⟨e1,e2,e3,e4⟩:=qT
  refine⟨e1.trans h.frame.os,e2.trans h.frame.tape,e3.trans h.frame.output,by have:=h.frame.size;omega,fun b aq hf=>?_,fun b j aq hj=>?_,xd⟩
  ·obtain⟨h1,h2⟩:=h.frame.keep b aq hf
   obtain⟨h3,h4⟩:=pL b (by have:=h.frame.size;omega) (fun r p e=>by
    rw[e]at h2;rw[<- h2]at hf
    rcases hf with hf|hf<;>cases hf)
   exact⟨h4.trans h1,h3.trans h2⟩
  ·obtain⟨h1,c0,c1,e,fr,h2,h3,h4⟩:=h.frame.boxes b j aq hj
   obtain⟨h5,h6⟩:=pL b (by have:=h.frame.size;omega) (by rw[h1];simp);exact⟨h5.trans h1,c0,c1,e,fr,h2,h6.trans h3,h4⟩
 ·obtain⟨_,h2,h3⟩:=h.box hb
  rcases Pbo (G.bx b).block w.heap.size with aq|aq
  ·exact pL _ aq (by rw[h2];split<;>simp)
  ·rw[h.frame.fresh _ aq]at h2
   split at h2<;>cases h2
 ·rcases Pbe.1 hb with hb|hb
  ·obtain⟨t,e⟩:=kc _ _ hb
   exact absurd e.symm kF
  ·obtain⟨r,e⟩:=hu _ _ hb
   exact absurd e eD
 ·rcases Pbe.1 hk with hk|hk
  ·obtain⟨d,lA,rfl,rfl⟩:=vV hk
   refine⟨d,rfl,fun hg=>?_⟩;rw[lA,mI _ _ _ _ _ (hd d lA) h.tmps];exact dt dq hg
  ·obtain⟨r,rfl⟩:=hu _ _ hk
   obtain⟨x,m,aE,st,rfl,sX⟩:=e9 dq r c hk jh;exact⟨r,rfl,by rw[jh];rfl,sX⟩
end
section
variable {P:Program} {E:Env} {F:bC} {n:Nat} {σ:Nat->Option aN} {ρ:List D} {a:Act} {w w':World} {G G':Gh} {g:Option (aI×Bool)} {o:Oper} {cf:Nat->List D->Option (List D)} {Q:Exit->Act->World->Prop} {next:Act->World->Prop}
inductive Fa5 (σ:Nat->Option aN) (ρ:List D) (G:Gh) (w:World) (pu:Put) (off:Nat) (v:Value) (x:aI):Prop
 |sc (h:Sc v (x.val ρ))
 |nil (z:Nat) (hx:x.val ρ=.rows z []) (hv:v=.slice none 0 0)
 |mv (r m aE:Nat) (hm:(off,r,m)∈pu.moves) (hr:σ (kR r)=some (.root x m aE .live)) (hv:v=G.hdr r) (hd:pu.depth<=m)
 |hole (r k m:Nat) (q:List (aI×Nat×Nat)) (hm:(off,r,q)∈pu.holes) (hl:wD σ r k m) (hq:q.length+1<=m) (fa:Rp G.own w r (aZ ρ q) (m-q.length) v (x.val ρ)) (hn:wG G.own w r [] (G.hdr r) (aZ ρ q) v) (hd:pu.depth<=m-q.length)
 |fz (hd:pu.depth=0) (h:Rd (fun b=>G.own b=.frz\/∃ r p,r∈pu.frz/\G.own b=.slc r p) w v (x.val ρ))
theorem Fa5.left {A B:Put}{off:Nat}{v:Value}{x:aI}(h:Fa5 σ ρ G w A off v x):Fa5 σ ρ G w ⟨A.xs++B.xs,A.moves++B.moves,A.holes++B.holes,A.frz++B.frz,min A.depth B.depth⟩ off v x:=by
 cases h with
 |sc h=>exact .sc h
 |nil z hx hv=>exact .nil z hx hv
 |mv r m aE hm hr hv hd=>exact .mv r m aE (Ob1 _ hm) hr hv (by dsimp only;omega)
 |hole r k m q hm hl hq fa hn hd=>exact .hole r k m q (Ob1 _ hm) hl hq fa hn (by dsimp only;omega)
 |fz hd h=>exact .fz (by dsimp only;omega) (h.mono fun b hb=>⟨hb.imp id fun ⟨r,p,h1,h2⟩=>⟨r,p,Ob1 _ h1,h2⟩,rfl⟩)
theorem Fa5.right {A B:Put}{off:Nat}{v:Value}{x:aI}(h:Fa5 σ ρ G w B off v x):Fa5 σ ρ G w ⟨A.xs++B.xs,A.moves++B.moves,A.holes++B.holes,A.frz++B.frz,min A.depth B.depth⟩ off v x:=by
 cases h with
 |sc h=>exact .sc h
 |nil z hx hv=>exact .nil z hx hv
 |mv r m aE hm hr hv hd=>exact .mv r m aE (Ob4 _ hm) hr hv (by dsimp only;omega)
 |hole r k m q hm hl hq fa hn hd=>exact .hole r k m q (Ob4 _ hm) hl hq fa hn (by dsimp only;omega)
 |fz hd h=>exact .fz (by dsimp only;omega) (h.mono fun b hb=>⟨hb.imp id fun ⟨r,p,h1,h2⟩=>⟨r,p,Ob4 _ h1,h2⟩,rfl⟩)
theorem Na9 (hR:R E.ntmps F σ ρ a w G){mv cN:Bool}{off:Nat}{l:aM}{pu:Put}(h:(Oaa mv cN off l).eval σ=some pu){v:Value}(hl:aB σ ρ G w l v) :
  ∃ x,pu.xs=[x]/\Fa5 σ ρ G w pu off v x/\(∀ z∈pu.moves,z.1=off/\∃ x aE,σ (kR z.2.1)=some (.root x z.2.2 aE .live))/\(∀ z∈pu.holes,z.1=off):=by
 unfold Oaa at h;split at h
 ·rename_i x
  simp only[aF,Ob0]at h;subst h;simp only[aB]at hl;exact⟨x,rfl,.sc hl,by simp,by simp⟩
 ·rename_i r
  simp only[aA,aP,Ob6]at h;simp only[aB]at hl;split at h
  ·rename_i x m aE hk
   cases mv with
   | true =>
    simp only[cond_true,aF,Ob0]at h;subst h;refine⟨x,rfl,.mv r m aE (by simp) hk hl.1 (Pbj _),fun z hz=>?_,by simp⟩;simp only[Ob3]at hz;subst hz;exact⟨rfl,x,aE,hk⟩
   | false =>
    simp only[cond_false,aF,Ob0]at h;subst h;refine⟨x,rfl,.fz rfl ?_,by simp,by simp⟩;have:=hR.root hk;simp only[bK]at this;rw[<- hl.1]at this;exact this.rd.mono fun b hb=>⟨hb.imp id fun ⟨q,hq⟩=>⟨r,q,by simp,hq⟩,rfl⟩
  ·rename_i x m aE hk
   simp only[aF,Ob0]at h;subst h;refine⟨x,rfl,.fz rfl ?_,by simp,by simp⟩;have:=(hR.root hk).1;rw[<- hl.1]at this;exact this.mono fun b hb=>⟨.inl hb,rfl⟩
  ·cases h
 ·rename_i deps p nie x
  split at h
  ·rename_i z
   simp only[aF,Ob0]at h;subst h;refine⟨_,rfl,.nil z rfl ?_,by simp,by simp⟩;simp only[aB]at hl;exact (hl.2 (by simp)).2.1 trivial z rfl
  ·rename_i ct
   simp only[aA,Oby]at h;obtain⟨s,h1,h⟩:=h;have hs:=dI hR h1 hl
   have hx:s.x=x:=by
    unfold vJ at h1;simp only[aA,Oby]at h1;obtain⟨ds,-,h3⟩:=h1;split at h3
    ·simp only[aF,Ob0]at h3;rw[<- h3]
    ·simp only[aA,aP,Ob6]at h3
     split at h3
     ·simp only[aF,Ob0]at h3;rw[<- h3]
     ·cases h3
    ·simp only[aF,Ob0]at h3;rw[<- h3]
   have lB:∀ frz:List Nat,(∀ z∈s.deps,z.1∈frz)->Rd (fun b=>G.own b=.frz\/∃ r p,r∈frz/\G.own b=.slc r p) w v (x.val ρ):=by
    intro frz hz;have:=hs.rd;rw[hx]at this;exact this.mono fun b hb=>⟨hb.imp id fun ⟨r,k,p,h2,h3⟩=>⟨r,p,hz _ h2,h3⟩,rfl⟩
   split at h
   ·rename_i r k m q ho
    have a7:=hs.own;unfold sD at a7;rw[ho]at a7;obtain⟨h2,h3,h4,h5,h6⟩:=a7;rw[hx]at h5
    cases hb:(cN&&Nat.ble (q.length+1) m) with
    | true =>
     rw[hb]at h;simp only[cond_true,aF,Ob0]at h;subst h;simp only[Obz,Qba]at hb;refine⟨x,rfl,.hole r k m q (by simp) h3 hb.2 h5 h6 (Pbj _),by simp,by simp⟩
    | false =>
     rw[hb]at h;simp only[cond_false,aF,Ob0]at h;subst h;refine⟨x,rfl,.fz rfl (lB _ fun z hz=>?_),by simp,by simp⟩;rw[h2]at hz;simp only[Ob3]at hz;subst hz;simp
   ·simp only[aF,Ob0]at h
    subst h;exact⟨x,rfl,.fz rfl (lB _ fun z hz=>Qbi hz),by simp,by simp⟩
 ·cases h
theorem qF (hR:R E.ntmps F σ ρ a w G){mv cN:Bool}:∀ {ls:List aM} {off:Nat} {pu:Put},(oQ mv cN off ls).eval σ=some pu->∀ {vs:List Value},aG σ ρ G w ls vs ->
  pu.xs.length=ls.length/\(∀ j v x,vs[j]?=some v->pu.xs[j]?=some x->Fa5 σ ρ G w pu (off+j) v x) /\
  (∀ z∈pu.moves,off<=z.1/\z.1<off+ls.length/\∃ x aE,σ (kR z.2.1)=some (.root x z.2.2 aE .live))
 | [], off, pu, h, vs, hl => by
  simp only[oQ,aF,Ob0]at h;subst h;exact⟨rfl,by simp,by simp⟩
 | l :: ls, off, pu, h, vs, hl => by
  simp only[oQ,aA,Oby,aF,Ob0]at h;obtain⟨A,h1,B,h2,rfl⟩:=h;simp only[aG]at hl;obtain⟨u,us,rfl,h3,h4⟩:=hl;obtain⟨x,h5,h6,h7,-⟩:=Na9 hR h1 h3;obtain⟨h8,h9,cd⟩:=qF hR h2 h4;refine⟨by simp[h5,h8],fun j v y hv hy=>?_,fun z hz=>?_⟩
  ·rw[h5]at hy
   cases j with
   | zero =>
    simp only[Ob7,Ob0,Rby]at hv hy;subst hv hy;exact h6.left
   | succ j =>
    simp only[Pb4,Rby]at hv hy;have:=(h9 j v y hv hy).right (A:=A);rwa[show off+1+j=off+(j+1) by omega]at this
  ·simp only[Pb9]
   rcases Pbe.1 hz with hz|hz
   ·obtain⟨e,db⟩:=h7 z hz
    exact⟨by omega,by omega,db⟩
   ·obtain⟨e1,e2,db⟩:=cd z hz
    exact⟨by omega,by omega,db⟩
theorem fQ:∀ {rs:List Nat} {fr:List (Nat×aN)},(dD rs).eval σ=some fr ->
  (∀ r∈rs,(∃ x m aE,σ (kR r)=some (.root x m aE .live)/\(kR r,aN.root x m aE .frozen)∈fr)\/∃ x m aE,σ (kR r)=some (.root x m aE .frozen)) /\
  (∀ k c,(k,c)∈fr->∃ r∈rs,∃ x m aE,k=kR r/\c=.root x m aE .frozen/\σ (kR r)=some (.root x m aE .live))
 | [], fr, h => by
  simp only[dD,aF,Ob0]at h;subst h;simp
 | r :: rs, fr, h => by
  simp only[dD,aA,aP,Ob6]at h;split at h
  ·rename_i x m aE hk
   simp only[aA,Oby,aF,Ob0]at h;obtain⟨l,h1,rfl⟩:=h;obtain⟨h2,h3⟩:=fQ h1;refine⟨fun s hs=>?_,fun k c hc=>?_⟩
   ·rcases Ob8.1 hs with rfl|hs
    ·exact .inl ⟨x,m,aE,hk,Pbf⟩
    ·rcases h2 s hs with ⟨x',m',v',h4,h5⟩|h4
     ·exact .inl ⟨x',m',v',h4,Pbb _ h5⟩
     ·exact .inr h4
   ·rcases Ob8.1 hc with hc|hc
    ·obtain⟨rfl,rfl⟩:=Qb9 hc
     exact⟨r,Pbf,x,m,aE,rfl,rfl,hk⟩
    ·obtain⟨s,hs,h4⟩:=h3 k c hc
     exact⟨s,Pbb _ hs,h4⟩
  ·rename_i x m aE hk
   obtain⟨h2,h3⟩:=fQ h;refine⟨fun s hs=>?_,fun k c hc=>?_⟩
   ·rcases Ob8.1 hs with rfl|hs
    ·exact .inr ⟨x,m,aE,hk⟩
    ·exact h2 s hs
   ·obtain⟨s,hs,h4⟩:=h3 k c hc
    exact⟨s,Pbb _ hs,h4⟩
  ·cases h
end
theorem kV {l:List Nat}{n:Nat}:has l n=true↔n∈l:=by
 unfold has;simp only[List.any_eq_true,Pbq];constructor
 ·rintro⟨x,h,rfl⟩;exact h
 ·exact fun h=>⟨n,h,rfl⟩
theorem xL {l:List Nat}{n:Nat}:has l n=false↔n∉l:=by
 rw[<- kV];simp
theorem qO:∀ {l:List (Nat×Nat×Nat)},distinct (l.map (·.2.1))=true->∀ z∈l,l.find? (fun y=>Nat.beq y.2.1 z.2.1)=some z
 |[],_,z,hz=>by simp at hz
 | y :: l, h, z, hz => by
  simp only[Pbn,distinct,Obz,Pbs]at h;rw[List.find?_cons]
  rcases Ob8.1 hz with rfl|hz
  ·have:Nat.beq z.2.1 z.2.1=true:=by simp
   rw[this]
  ·have:Nat.beq y.2.1 z.2.1=false:=by
    cases e:Nat.beq y.2.1 z.2.1 with
    |false=>rfl
    | true =>
     simp only[Pbq]at e;have h1:=xL.1 h.1;rw[e]at h1;exact absurd (Qbi (f:=fun x:Nat×Nat×Nat=>x.2.1) hz) h1
   rw[this];exact qO h.2 z hz
theorem Fae {l:List (Nat×Nat×Nat)}{s:Nat}(h:s∉l.map (·.2.1)):l.find? (fun y=>Nat.beq y.2.1 s)=none:=by
 rw[List.find?_eq_none];intro x hx;simp only[Pbq];intro e;exact h (e▸Qbi (f:=fun x:Nat×Nat×Nat=>x.2.1) hx)
section
variable {P:Program} {E:Env} {F:bC} {n:Nat} {σ:Nat->Option aN} {ρ:List D} {a:Act} {w w':World} {G G':Gh} {g:Option (aI×Bool)} {o:Oper} {cf:Nat->List D->Option (List D)} {Q:Exit->Act->World->Prop} {next:Act->World->Prop}
theorem Rd.nil {ok:Nat->Prop}{z:Nat}:Rd ok w (.slice none 0 0) (.rows z []) :=
 .rows none ⟨0,0,none⟩ 0 0 _ [] (fun _ _=>undef) rfl (Pbj _) (.inl rfl) (by simp) (by simp) (by simp)
theorem Rp.nil {own:Nat->Ow}{r:Nat}{p:List Nat}{m z:Nat}:Rp own w r p m (.slice none 0 0) (.rows z []):=by
 cases m with
 |zero=>exact .fz Rd.nil
 |succ m=>exact .sl none ⟨0,0,none⟩ 0 0 _ [] (fun _ _=>undef) rfl (Pbj _) (.inr ⟨rfl,rfl⟩) (by simp) (by simp) (by simp) (by simp)
theorem Fa5.rp (hR:R E.ntmps F σ ρ a w G){pu:Put}{off:Nat}{v:Value}{x:aI}(h:Fa5 σ ρ G w pu off v x){own':Nat->Ow}{R:Nat}{path:List Nat}{m1:Nat}(hd:m1<=pu.depth)
  (hz:∀ b,G.own b=.frz->b<w.heap.size->own' b=.frz/\w'.heap[b]?=w.heap[b]?)
  (hmv:∀ s m,(off,s,m)∈pu.moves->∀ b t,G.own b=.slc s t->own' b=(if t.length<m1 then .slc R (path++t) else .frz)/\w'.heap[b]?=w.heap[b]?)
  (yq:∀ s q,(off,s,q)∈pu.holes->∀ b t,G.own b=.slc s (aZ ρ q++t)->own' b=(if t.length<m1 then .slc R (path++t) else .frz)/\w'.heap[b]?=w.heap[b]?)
  (lB:∀ s∈pu.frz,∀ b p,G.own b=.slc s p->own' b=.frz/\w'.heap[b]?=w.heap[b]?):Rp own' w' R path m1 v (x.val ρ):=by
 cases h with
 |sc h=>exact .sc h
 |nil z hx hv=>rw[hx,hv];exact Rp.nil
 | mv r m aE hm hr hv lA =>
  have:=hR.root hr;simp only[bK]at this;rw[hv];exact this.move hz path m1 (by omega) fun b t hb=>hmv r m hm b t (by simpa using hb)
 |hole r k m q hm hl hq fa hn lA=>exact fa.move hz path m1 (by omega) fun b t hb=>yq r q hm b t hb
 | fz lA h =>
  obtain rfl:m1=0:=by omega
  refine .fz (h.mono' fun b hb aq=>?_)
  rcases hb with hb|⟨r,p,h1,h2⟩
  ·exact hz b hb aq
  ·exact lB r h1 b p h2
def vX (R M:Nat)(p:List Nat):Ow:=if p.length<M then .slc R p else .frz
def jQ (pu:Put)(r m':Nat)(pv:List Nat)(base:Nat)(s:Nat)(p:List Nat):Ow :=
 bif has pu.frz s then .frz else match pu.moves.find? (fun y=>Nat.beq y.2.1 s) with
  |some z=>vX r m' ((pv++[base+z.1])++p)
  |none=>if s=r then vX r m' p else .slc s p
theorem lT {B o:Nat}{vs:List Value}{b:Addr}(hb:b.block=B->b.spot=none)(hex:∀ j,j<vs.length->(w.cell? ⟨B,o+j,none⟩).isSome=true){u:Value}(hc:w.cell? b=some u) :
  ∃ u',(w.setCells B o vs).cell? b=some u':=by
 by_cases gE:b.block=B/\o<=b.off/\b.off<o+vs.length
 ·obtain⟨h1,h2,h3⟩:=gE
  have:=World.cell?_setCells_in B vs o w hex (b.off-o) (by omega);have hs:=hb h1;rw[show o+(b.off-o)=b.off by omega]at this;have cI:b=⟨B,b.off,none⟩:=by cases b;simp only at h1 hs;subst h1 hs;rfl
  exact⟨vs[b.off-o]'(by omega),(congrArg (fun x=>(w.setCells B o vs).cell? x) cI).trans this⟩
 ·rw[World.cell?_setCells_out B vs o w b fun e1 e2=>by
   rcases Pbo b.off o with h|h
   ·exact .inl h
   ·refine .inr ?_
    rcases Pbo b.off (o+vs.length) with h'|h'
    ·exact absurd ⟨e1,h,h'⟩ gE
    ·exact h']
  exact⟨u,hc⟩
theorem Gac (hR:R E.ntmps F σ ρ a w G)(hti:sM P E.ti){nv:Nat}{mv cN:Bool}{t:TypeId}{x y:Operand}(ho:o.op=.store t x y){ti:TI}(hi:E.ti t=some ti){l:aM}{sz:Nat}{i:aI}{off:Nat}{ls:List aM}{sv:SV}
  (hx:gOn ρ g=true->aB σ ρ G w (.pe l sz i off) (a.eval x)) (hy:gOn ρ g=true->bS σ ρ G w sv (a.eval y)) (qw:jB ti.agg sv=some ls) {res:bI}
  (h:(Aaz nv mv cN o g ti (.pe l sz i off) ls).eval σ=some res) (ba:aJ cf ρ g nv res.lets):gD P E F σ ρ a w g o Q res.upd:=by
 simp only[Aaz,aA,aH,Oby,aP,Ob6]at h;obtain⟨_,h1,_,h2,s,h3,h⟩:=h;split at h1
 case isFalse=>cases h1
 rename_i oo;simp only[Obz,Pbq,Rbf]at oo;obtain⟨hlen,qj⟩:=oo;split at h2
 case isFalse=>cases h2
 rename_i yd;obtain rfl:=tQ yd;split at h
 case h_2=>cases h
 rename_i r k m q a7;simp only[aA,aH,Oby,aP,Ob6]at h;obtain⟨_,h4,h⟩:=h;split at h4
 case isFalse=>cases h4
 rename_i hqm;simp only[Qba]at hqm;split at h
 case h_2=>cases h
 rename_i X m0 aE hk;simp only[aA,aH,Oby]at h;obtain⟨pu,h5,fr,h6,_,h7,h⟩:=h;split at h7
 case isFalse=>cases h7
 rename_i q9;simp only[Obz,Pbs,Rbi,Rbv]at q9;obtain⟨⟨⟨⟨dq,hmr⟩,yq⟩,mw⟩,hmf⟩:=q9;simp only[aF,Ob0]at h;subst h;refine⟨fun hg=>?_,fun hg=>by simp[gOn]at hg⟩;obtain⟨info,u,f⟩:=aV (hti.ok _ _ hi);have hl:=gW qw (hy hg);obtain⟨n9,k8,hmvs⟩:=qF hR h5 hl;obtain⟨tv,rv⟩:=fQ h6;have hpe:=hx hg;simp only[aB]at hpe;obtain⟨c,n,cap,ik,iv,hp1,mc,hp3,hp4,hp5⟩:=hpe;have gj:=dI hR h3 hp1;have mS:=gj.own;unfold sD at mS;rw[a7]at mS;obtain⟨-,⟨X0,lO⟩,-,fa,kg⟩:=mS;rw[hk]at lO
 obtain⟨rfl,rfl,rfl⟩:X=X0/\m0=m/\aE=k:=by
  injection lO with e;injection e with e1 e2 e3 e4;exact⟨e1,e2,e3⟩
 have e9:=hR.root hk;simp only[bK]at e9;obtain⟨d1,gp,qf⟩:=zD ba.1 hg;have lf:aJ cf ρ none (nv+1) (Ia3 (nv+1) X q (.v nv)).1:=ba.2;have mm:=zF hg q (nv+1) X (.v nv) lf;simp only[Qb2,Qbc,Pbn]at gp;obtain⟨rs,ik',iv',row,e1,e2,e3,e4,e5,e6,e7⟩:=Na1 gp;rw[mc]at e2;obtain⟨rfl,rfl⟩:ik=ik'/\iv=iv':=by injection e2 with a b;exact⟨a,b⟩
 simp only[Qbf,and_true]at e7;simp only[Pbt]at e6;rw[e1]at fa;have tk:(aZ ρ q).length=q.length:=by simp[aZ]
 generalize ym:aZ ρ q=pv at mm fa kg tk;obtain⟨md,hmd⟩:∃ md,m0-q.length=md+1:=⟨m0-q.length-1,by omega⟩;rw[hmd]at fa;obtain⟨A,c',n',gS,vs0,i1,i2,i3,i4,i5,i6,i7,i8⟩:=fa.sl_inv;obtain⟨rfl,rfl,rfl⟩:A=some c/\n'=n/\gS=cap:=by injection i1 with a b c;exact⟨a.symm,b.symm,c.symm⟩
 have hcc:c'=c:=by
  rcases i4 with i4|⟨i4,-⟩
  ·exact (Pbu i4).symm
  ·cases i4
 subst hcc;obtain⟨gC,oz,cJ⟩:=i6 rfl;have gR:row.length=sz:=i5 row (Pbh e4);generalize kd:(a.eval y).cells.toList=vs at hl k8;have hvl:vs.length=ls.length:=hl.len
 have gk:∀ j,j<vs.length->∃ u,w.cell? ⟨c'.block,c'.off+(iv.toNat*sz+off)+j,none⟩=some u/\w.frozen? ⟨c'.block,c'.off+(iv.toNat*sz+off)+j,none⟩=false:=by
  intro j hj
  have jh:iv.toNat*sz+off+j<gS*sz:=by
   have h1:(iv.toNat+1)*sz<=gS*sz:=Qbp _ (by omega);rw[Qbw]at h1;omega
  have:=cJ _ jh;rw[add_plain gC]at this;rw[Pbm];exact this
 have bd:(execOp a.eval o).run P w=.ok .skip (w.setCells c'.block (c'.off+(iv.toNat*sz+off)) vs):=by
  unfold execOp;simp only[ho]
  have:=Ba4 (P:=P) (w:=w) f (b:=c'.block) (off:=c'.off+(iv.toNat*sz+off)) (v:=a.eval y) (by rw[kd];omega)
   (fun j hj=>by
    obtain⟨v,h6,-⟩:=gk j (by omega);exact⟨v,h6⟩)
   (fun j hj=>by
    obtain⟨v,-,h6⟩:=gk j (by omega)
    exact h6) (by
    rw[kd];intro v hv;obtain⟨j,hj⟩:=Qbl.1 hv;have lz:j<pu.xs.length:=by rw[n9,<- hvl];exact (Ob2.1 hj).1
    cases k8 j v _ hj (Ob5 lz) with
    |sc h=>exact h.one
    |nil z _ h=>rw[h];rfl
    | mv r m aE hm hr hv hd =>
     have:=hR.root hr;simp only[bK]at this;rw[hv];exact this.one
    |hole r k m q hm hl hq fa hn hd=>exact fa.one
    |fz _ h=>exact h.one)
  simp only[Instr.storeAt,Instr.sureAddr,Sem.run_bind,hp5,Sem.run_pure,Result.andThen_ok,add_plain gC,this,kd]
 generalize nf:min m0 (q.length+1+pu.depth)=m';generalize uu:w.setCells c'.block (c'.off+(iv.toNat*sz+off)) vs=w' at bd;have b8:∀ b,b≠c'.block->w'.heap[b]?=w.heap[b]?:=fun b hb=>by rw[<- uu];exact dH _ _ _ _ _ hb
 refine Oa6 bd ⟨{ G with own:=fun b=>kZ (jQ pu r m' pv (iv.toNat*sz)) (G.own b) },?_⟩;rw[qj]
 have tj:∀ s,s∈pu.frz->∀ p,jQ pu r m' pv (iv.toNat*sz) s p=.frz:=fun s hs p=>by
  unfold jQ;rw[kV.2 hs,cond_true]
 have hrm:r∉pu.moves.map (·.2.1):=by
  intro hh;obtain⟨z,hz,e⟩:=Pb5.1 hh;have:=hmr z hz;simp[e]at this
 have hrF:∀ p,jQ pu r m' pv (iv.toNat*sz) r p=vX r m' p:=fun p=>by
  unfold jQ;rw[dq,cond_false,Fae hrm];simp
 have hmF:∀ z∈pu.moves,∀ p,jQ pu r m' pv (iv.toNat*sz) z.2.1 p=vX r m' ((pv++[iv.toNat*sz+z.1])++p):=fun z hz p=>by
  unfold jQ
  have:has pu.frz z.2.1=false:=by
   have:=hmf z hz;simpa using this
  rw[this,cond_false,qO mw z hz]
 have p7:∀ b,G.own b=.frz->b<w.heap.size->kZ (jQ pu r m' pv (iv.toNat*sz)) (G.own b)=.frz/\w'.heap[b]?=w.heap[b]?:=fun b hb aq=>by
  refine⟨by rw[hb];rfl,b8 b fun e=>?_⟩;rw[e,oz]at hb;cases hb
 have ct:∀ b s p,G.own b=.slc s p->s≠r->b≠c'.block:=fun b s p hb hs e=>by
  rw[e,oz]at hb
  injection hb with e1 e2
  exact hs e1.symm
 have tM:∀ s∈pu.frz,s≠r:=fun s hs e=>by
  have:=xL.1 dq;exact this (e▸hs)
 have a4a:∀ z∈pu.moves,z.2.1≠r:=fun z hz e=>hrm (e▸Qbi (f:=fun x:Nat×Nat×Nat=>x.2.1) hz)
 have b9:∀ {s:Nat} {c:aN},(kR s,c)∈(kR r,aN.root (Ia3 (nv+1) X q (.v nv)).2 m' (aE+1) .live)::(pu.moves.map fun z=>(kR z.2.1,aN.root (.c .hole) 0 0 .gone))++fr ->
   (s=r/\c=.root (Ia3 (nv+1) X q (.v nv)).2 m' (aE+1) .live)\/(∃ z∈pu.moves,s=z.2.1/\c=.root (.c .hole) 0 0 .gone) \/
   (s∈pu.frz/\∃ x m v,c=.root x m v .frozen/\σ (kR s)=some (.root x m v .live)):=by
  intro s c hc
  rcases Pbe.1 hc with hc|hc
  ·rcases Ob8.1 hc with hc|hc
   ·obtain⟨e1,e2⟩:=Qb9 hc
    exact .inl ⟨dY e1,e2⟩
   ·obtain⟨z,hz,e⟩:=Pb5.1 hc
    obtain⟨e1,e2⟩:=Qb9 e;exact .inr (.inl ⟨z,hz,(dY e1).symm,e2.symm⟩)
  ·obtain⟨s',jf,x',oa,v',e1,e2,e3⟩:=rv _ _ hc
   obtain rfl:=dY e1;exact .inr (.inr ⟨jf,x',oa,v',e2,e3⟩)
 have hdu:dF o none .dead=[]:=by unfold dF;rw[qj]
 have gr:=hR.own (o:=o) (g:=none) (fun d e=>by rw[qj]at e;cases e) (sv:=.dead) (v:=undef) (w':=w')
  (G':={ G with own:=fun b=>kZ (jQ pu r m' pv (iv.toNat*sz)) (G.own b) }) (wr:=fun b=>b=c'.block)
  (ur:=(kR r,aN.root (Ia3 (nv+1) X q (.v nv)).2 m' (aE+1) .live)::(pu.moves.map fun z=>(kR z.2.1,aN.root (.c .hole) 0 0 .gone))++fr)
  (f:=jQ pu r m' pv (iv.toNat*sz)) ?_ (fun b _=>rfl) ?_ ?_ ?_ (fun b _ hb=>b8 b hb) ?_ ?_ ?_ ?_ (fun _ _=>rfl) rfl (fun _ _=>trivial) ?_
 ·rw[hdu,Qbc,qj]at gr
  exact gr
 ·intro k c hc
  rcases Pbe.1 hc with hc|hc
  ·rcases Ob8.1 hc with hc|hc
   ·exact⟨r,(Qb9 hc).1⟩
   ·obtain⟨z,hz,e⟩:=Pb5.1 hc
    exact⟨z.2.1,(Qb9 e).1.symm⟩
  ·obtain⟨s',-,-,-,-,e1,-⟩:=rv _ _ hc
   exact⟨s',e1⟩
 ·intro b hb
  rw[<- uu,setCells_size]at hb;show kZ _ (G.own b)=.frz
  rw[hR.frame.fresh b hb];rfl
 ·obtain⟨j1,j2,j3⟩:=jY c'.block vs (c'.off+(iv.toNat*sz+off)) w
  rw[<- uu];exact⟨j1,j2,j3,by rw[setCells_size];exact Pbj _⟩
 ·intro b hb
  refine .inl ?_;show kZ _ (G.own b)=.frz
  rw[hR.frame.fresh b hb];rfl
 ·rintro b rfl
  exact⟨r,pv,oz,_,Ob1 _ Pbf⟩
 ·intro b s p hb gm
  unfold jQ
  have h1:has pu.frz s=false:=by
   rw[xL];intro hs
   rcases tv s hs with ⟨x',oa,v',-,h8⟩|⟨x',oa,v',h8⟩
   ·exact gm _ (Ob4 _ h8)
   ·exact (hR.root h8).2 b p hb
  have h2:s∉pu.moves.map (·.2.1):=by
   intro hh;obtain⟨z,hz,e⟩:=Pb5.1 hh;refine gm (.root (.c .hole) 0 0 .gone) (Ob1 _ (Pbb _ (Pb5.2 ⟨z,hz,?_⟩)));rw[e]
  have h3:s≠r:=fun e=>gm (.root (Ia3 (nv+1) X q (.v nv)).2 m' (aE+1) .live) (Ob1 _ (by rw[e];exact Pbf))
  rw[h1,cond_false,Fae h2];simp[h3]
 ·intro s c hc _
  rcases b9 hc with ⟨rfl,rfl⟩|⟨z,hz,rfl,rfl⟩|⟨hs,x',oa,v',rfl,h8⟩
  ·exact .inr (.inl ⟨_,_,_,_,_,hk,rfl⟩)
  ·exact .inr (.inr (.inl ⟨_,_,_,_,rfl,by simp,by simp⟩))
  ·refine .inr (.inr (.inr ⟨x',oa,v',h8,rfl,fun b p hb=>⟨?_,b8 b (ct b s p hb (tM s hs))⟩⟩))
   show kZ _ (G.own b)=.frz
   rw[hb];exact tj s hs p
 ·intro r0 x0 m1 k0 lB s p q' hF
  unfold jQ at hF
  cases hh:has pu.frz s with
  |true=>rw[hh,cond_true]at hF;cases hF
  | false =>
   rw[hh,cond_false]at hF
   have xi:r0≠r:=by
    rintro rfl
    rw[hk]at lB
    injection lB with e;injection e with _ _ _ e;cases e
   split at hF
   ·unfold vX at hF
    split at hF
    ·injection hF with j1 j2;exact absurd j1.symm xi
    ·cases hF
   ·split at hF
    ·unfold vX at hF
     split at hF
     ·injection hF with j1 j2;exact absurd j1.symm xi
     ·cases hF
    ·injection hF with j1 j2;exact⟨j1,j2⟩
 ·intro hfr' s c hc _
  rcases b9 hc with ⟨rfl,rfl⟩|⟨z,hz,rfl,rfl⟩|⟨hs,x',oa,v',rfl,h8⟩
  ·refine⟨_,_,_,_,rfl,?_⟩
   simp only[bK];obtain⟨m1,nh⟩:∃ m1,m'-q.length=m1+1:=⟨m'-q.length-1,by omega⟩
   have pC:∀ i' eA,(rs.set iv.toNat (row.take off++pu.xs.map (·.val ρ)++row.drop (off+ti.size)))[i']?=some eA->∀ j' d,eA[j']?=some d ->
     (i'=iv.toNat/\off<=j'/\j'<off+ls.length/\∃ x,pu.xs[j'-off]?=some x/\d=x.val ρ)\/(∃ row0,rs[i']?=some row0/\row0[j']?=some d/\¬ (i'=iv.toNat/\off<=j'/\j'<off+ls.length)):=by
    intro i' eA fb j' d gn
    have hsr:row.take off++pu.xs.map (·.val ρ)++row.drop (off+ti.size)=setRange row off (pu.xs.map (·.val ρ)):=by
     unfold setRange;rw[Pbt,e6]
    rw[hsr,Qb0]at fb;by_cases pH:iv.toNat=i'
    ·subst pH
     rw[if_pos rfl,if_pos (Ob2.1 e4).1]at fb;obtain rfl:=Pbu fb;rw[gV (by rw[Pbt];omega),Pbt]at gn;split at gn
     ·rename_i gE
      rw[Pbr,Pbc]at gn;obtain⟨x,nx,nc⟩:=gn;exact .inl ⟨rfl,gE.1,by omega,x,nx,nc.symm⟩
     ·rename_i zk
      exact .inr ⟨row,e4,gn,fun e=>zk ⟨e.2.1,by omega⟩⟩
    ·rw[if_neg pH]at fb
     exact .inr ⟨eA,fb,gn,fun e=>pH e.1.symm⟩
   have ga:Rp (fun b=>kZ (jQ pu s m' pv (iv.toNat*sz)) (G.own b)) w' s pv (m'-q.length) (.slice (some c') n' gS) ((aI.v nv).val ρ):=by
    rw[qf,e7,nh];refine .sl _ c' n' gS sz _ (fun i' j'=>if i'=iv.toNat/\off<=j'/\j'<off+ls.length then vs.getD (j'-off) undef else vs0 i' j') (by simpa using i2) i3 (.inl rfl) (fun eA hr=>?_) (fun _=>⟨gC,?_,fun k hk=>?_⟩) (fun i' eA fb j' d gn=>?_) (fun i' eA fb j' d gn=>?_)
    ·rcases Rbm hr with hr|rfl
     ·exact i5 _ hr
     ·simp;omega
    ·show kZ _ (G.own c'.block)=_
     rw[oz];show jQ pu s m' pv (iv.toNat*sz) s pv=_
     rw[hrF,vX,if_pos (by omega)]
    ·obtain⟨u0,hu0,we⟩:=cJ k hk
     rw[<- uu,World.frozen?_setCells];obtain⟨u',hu'⟩:=lT (B:=c'.block) (o:=c'.off+(iv.toNat*sz+off)) (vs:=vs) (b:=c'.add k) (fun _=>by rw[add_plain gC]) (fun j hj=>by obtain⟨u1,h9,-⟩:=gk j hj;rw[h9];rfl) hu0;exact⟨u',hu',we⟩
    ·rcases pC i' eA fb j' d gn with ⟨rfl,h9,cd,x0,db,fj⟩|⟨row0,h9,cd,db⟩
     ·rw[if_pos ⟨rfl,h9,cd⟩,<- uu,add_plain gC]
      have:=World.cell?_setCells_in c'.block vs (c'.off+(iv.toNat*sz+off)) w (fun j hj=>by obtain⟨u1,h9,-⟩:=gk j hj;rw[h9];rfl) (j'-off) (by omega);rw[show c'.off+(iv.toNat*sz+off)+(j'-off)=c'.off+(iv.toNat*sz+j') by omega]at this;rw[this,Pba,Ob5 (by omega)];rfl
     ·rw[if_neg db,<- uu,World.cell?_setCells_out _ _ _ _ _ (fun _ _=>?_)]
      ·exact i7 _ _ h9 _ _ cd
      ·rw[add_plain gC]
       dsimp only
       have uh:j'<sz:=by
        have:=(Ob2.1 cd).1;rw[i5 row0 (Pbh h9)]at this;exact this
       by_cases pH:i'=iv.toNat
       ·subst pH
        have:¬ (off<=j'/\j'<off+ls.length):=fun e=>db ⟨rfl,e⟩
        omega
       ·rcases Nat.lt_or_gt_of_ne pH with aq|hgt
        ·refine .inl ?_
         have:=Qbp sz (show i'+1<=iv.toNat by omega);rw[Qbw]at this;omega
        ·refine .inr ?_
         have:=Qbp sz (show iv.toNat+1<=i' by omega);rw[Qbw]at this;omega
    ·rcases pC i' eA fb j' d gn with ⟨rfl,h9,cd,x0,db,fj⟩|⟨row0,h9,cd,db⟩
     ·rw[if_pos ⟨rfl,h9,cd⟩,fj]
      have hv:vs[j'-off]?=some (vs.getD (j'-off) undef):=by
       rw[Pba,Ob5 (by omega)];rfl
      have se:=k8 (j'-off) _ _ hv db;rw[show off+(j'-off)=j' by omega]at se;refine se.rp hR (by omega) p7 (fun s' m2 xa b t hb=>⟨?_,b8 b (ct b s' t hb (a4a _ xa))⟩) (fun s' q' je=>by rw[yq]at je;simp at je) (fun s' jf b p hb=>⟨?_,b8 b (ct b s' p hb (tM s' jf))⟩)
      ·show kZ _ (G.own b)=_
       rw[hb];show jQ pu s m' pv (iv.toNat*sz) s' t=_
       rw[hmF (j',s',m2) xa,vX];simp only[Pbg,Qbk];by_cases ht:t.length<m1
       ·rw[if_pos ht,if_pos (by omega)]
       ·rw[if_neg ht,if_neg (by omega)]
      ·show kZ _ (G.own b)=_
       rw[hb];exact tj s' jf p
     ·rw[if_neg db]
      refine (i8 _ _ h9 _ _ cd).move p7 _ m1 (by omega) fun b t hb=>⟨?_,b8 b fun e=>?_⟩
      ·show kZ _ (G.own b)=_
       rw[hb];show jQ pu s m' pv (iv.toNat*sz) s _=_
       rw[hrF,vX];simp only[Pbg,Qbk];by_cases ht:t.length<m1
       ·rw[if_pos ht,if_pos (by omega)]
       ·rw[if_neg ht,if_neg (by omega)]
      ·rw[e,oz]at hb
       injection hb with _ e2
       have:=congrArg List.length e2;simp at this
   have:=Rp.upd (own':=fun b=>kZ (jQ pu s m' pv (iv.toNat*sz)) (G.own b)) (w':=w') (r:=s) (M':=m') (full:=pv) p7 (fun b t hb ht=>⟨?_,b8 b fun e=>?_⟩) (by omega) (by rw[tk];exact ga) pv [] m0 (G.hdr s) _ _ rfl (by omega) (by simpa using e9) kg mm
   ·simpa using this
   ·show kZ _ (G.own b)=_
    rw[hb];exact hrF t
   ·rw[e,oz]at hb
    injection hb with _ e2
    exact ht (e2▸List.prefix_rfl)
  ·exact⟨_,_,_,_,rfl,trivial⟩
  ·refine⟨x',oa,v',.frozen,rfl,?_,fun b p hb=>?_⟩
   ·have:=hR.root h8
    simp only[bK]at this;refine this.rd.mono' fun b hb aq=>?_
    rcases hb with hb|⟨p,hb⟩
    ·exact p7 b hb aq
    ·refine⟨?_,b8 b (ct b s p hb (tM s hs))⟩
     show kZ _ (G.own b)=_
     rw[hb];exact tj s hs p
   ·have cI:kZ (jQ pu r m' pv (iv.toNat*sz)) (G.own b)=.slc s p:=hb
    cases e:G.own b with
    | slc s' p' =>
     rw[e]at cI;have fh:jQ pu r m' pv (iv.toNat*sz) s' p'=.slc s p:=cI;by_cases jf:s'∈pu.frz
     ·rw[tj s' jf]at fh;cases fh
     ·unfold jQ at fh
      rw[xL.2 jf,cond_false]at fh;have hsr:=tM s hs;split at fh
      ·unfold vX at fh
       split at fh
       ·injection fh with j1 j2;exact hsr j1.symm
       ·cases fh
      ·split at fh
       ·unfold vX at fh
        split at fh
        ·injection fh with j1 j2;exact hsr j1.symm
        ·cases fh
       ·injection fh with j1 j2;exact jf (j1▸hs)
    |_=>rw[e]at cI;cases cI
end
theorem nC:∀ (sz n:Nat) (l:List D),l.length=n*sz->∀ i row,(chunk sz n l)[i]?=some row->i<n/\row.length=sz/\∀ j d,row[j]?=some d->l[i*sz+j]?=some d
 |sz,0,l,_,i,row,h=>by simp[chunk]at h
 | sz, n + 1, l, hl, i, row, h => by
  simp only[chunk]at h;rw[Qbw,Nat.one_mul]at hl
  cases i with
  | zero =>
   simp only[Ob7,Ob0]at h;subst h;refine⟨by omega,by simp;omega,fun j d hj=>?_⟩;rw[Qbd]at hj;split at hj
   ·simpa using hj
   ·cases hj
  | succ i =>
   simp only[Pb4]at h;obtain⟨h1,h2,h3⟩:=nC sz n (l.drop sz) (by simp;omega) i row h;refine⟨by omega,h2,fun j d hj=>?_⟩;have:=h3 j d hj;rw[Pb7]at this;rw[<- this];congr 1;rw[Qbw];omega
theorem Fav:∀ (sz n:Nat) (l:List D),(chunk sz n l).length=n
 |_,0,_=>rfl
 |sz,n+1,l=>by simp[chunk,Fav sz n]
theorem Daf {α:Type}(l:List α):∀ n,(Yah l n).length=n*l.length
 |0=>by simp[Yah]
 |n+1=>by rw[Yah,Pbg,Daf l n,Qbw];omega
theorem Pav {α:Type}(l:List α)(h:0<l.length):∀ n j,j<n*l.length->(Yah l n)[j]?=l[j % l.length]?
 |0,j,hj=>by simp at hj
 | n + 1, j, hj => by
  rw[Yah];by_cases h1:j<l.length
  ·rw[Pbi h1,Nat.mod_eq_of_lt h1]
  ·rw[Pbk (by omega),Pav l h n (j-l.length) (by rw[Qbw]at hj;omega)]
   congr 1;rw[Nat.mod_eq_sub_mod (by omega:j ≥ l.length)]
section
variable {P:Program} {E:Env} {F:bC} {n:Nat} {σ:Nat->Option aN} {ρ:List D} {a:Act} {w w':World} {G G':Gh} {g:Option (aI×Bool)} {o:Oper} {cf:Nat->List D->Option (List D)} {Q:Exit->Act->World->Prop} {next:Act->World->Prop}
theorem Cag {ti:TI}{len:Nat}{place:Nat->Option (Nat×Nat)}(n9:∀ i,i<len->place i=some (i*ti.size,ti.size)) :
  ∀ {xs:List (Nat×Operand)} {ps:List (Nat×SV)},Dan σ ρ G w a xs ps->∀ {ls jn:List aM} {us:Array Value},ls.length=len*ti.size->aG σ ρ G w ls us.toList->Aad ti len ls ps=some jn ->
  ∃ cD,Instr.fill place us (xs.map fun x=>(x.1,a.eval x.2))=some cD/\aG σ ρ G w jn cD.toList/\jn.length=len*ti.size
 | [], _, rfl, ls, jn, us, hn, hl, h => by
  simp only[Aad,Ob0]at h;subst h;exact⟨us,rfl,hl,hn⟩
 | (i, x) :: xs, _, ⟨sv, ps, rfl, h1, hr⟩, ls, jn, us, hn, hl, h => by
  unfold Aad at h;split at h
  ·rename_i vs kd
   cases hb:(Nat.beq vs.length ti.size&&Nat.blt i len) with
   |false=>rw[hb]at h;cases h
   | true =>
    rw[hb,cond_true]at h;simp only[Obz,Pbq,Nat.blt_eq]at hb;have h2:=gW kd h1;have hlen:=hl.len
    have hle:i*ti.size+ti.size<=ls.length:=by
     have:=Qbp ti.size (show i+1<=len by omega);rw[Qbw,Nat.one_mul]at this;omega
    obtain⟨us1,h3,h4⟩:=Maj (rest:=xs.map fun x=>(x.1,a.eval x.2)) (n9 i hb.2) (by rw[h2.len];exact hb.1) (by rw[<- Rbd,hlen];exact hle);obtain⟨cD,h5,h6,h7⟩:=Cag n9 hr (us:=us1) (ls:=setRange ls (i*ti.size) vs) (by rw[jR (by rw[hb.1];exact hle)];exact hn) (by rw[h4];exact hl.setRange h2 (by rw[hb.1];exact hle)) h;exact⟨cD,by rw[Pbn,h3];exact h5,h6,h7⟩
  ·cases h
def mkF (pu:Put)(nr m':Nat)(s:Nat)(p:List Nat):Ow :=
 bif has pu.frz s then .frz else match pu.moves.find? (fun y=>Nat.beq y.2.1 s) with
  |some z=>vX nr m' ([z.1]++p)
  |none=>.slc s p
theorem Aba (z:Array Value)(hz:0<z.size)(N j:Nat)(hj:j<N):((Array.range N).map (fun i=>z[i % z.size]!))[j]?=z[j % z.size]?:=by
 rw[Array.getElem?_map,Array.getElem?_range];rw[if_pos hj];simp only[Pb6];have aq:j % z.size<z.size:=Nat.mod_lt _ hz;rw[getElem!_pos z (j % z.size) aq,Pb0 aq]
theorem Naf {t:TypeId}{i:TI}{info:TypeInfo}{u:TypeDesc}(f:bV P t i info u)(hs:0<i.size){z:Value}(hz:aG σ ρ G w (i.cells.map fA) z.cells.toList)(len:Nat) :
  aG σ ρ G w (Yah (i.cells.map fA) len) ((Array.range (len*i.size)).map (fun j=>z.cells[j % z.cells.size]!)).toList:=by
 have jx:(i.cells.map fA).length=i.size:=by rw[Pbt,f.len]
 have yb:z.cells.size=i.size:=by rw[<- Rbd,hz.len,jx]
 refine .of_get (by rw[Daf,jx];simp) fun j l v hj hv=>?_
 have aq:j<len*i.size:=by
  have:=(Ob2.1 hj).1;rwa[Daf,jx]at this
 rw[Pav _ (by omega) _ _ (by rw[jx];exact aq),jx]at hj;rw[Qbj,Aba _ (by omega) _ _ aq,yb]at hv;obtain⟨v',h1,h2⟩:=hz.get hj;rw[Qbj,hv]at h1;exact Pbu h1▸h2
theorem rU (hR:R E.ntmps F σ ρ a w G)(hd:eO E.ntmps o)(hti:sM P E.ti){nv nb nr:Nat}{mv cN:Bool}(hf:σ (kR nr)=none){t:TypeId}{len:Nat}{parts:Array (Nat×Operand)}(ho:o.op=.buildSlice t len parts){res:bI}
  (h:(nL E mv cN nv nb nr g o).eval σ=some res) (ba:aJ cf ρ g nv res.lets):gD P E F σ ρ a w g o Q res.upd:=by
 simp only[nL,ho,aA,Oby,tiR,aT,aH]at h;obtain⟨st,h1,e,h2,ti,h3,ps,h4,_,h5,h⟩:=h;split at h5
 case isFalse=>cases h5
 rename_i hb5;simp only[Obz,Qba,Nat.blt_eq]at hb5;obtain⟨⟨hsz1,a5r⟩,y6⟩:=hb5;obtain⟨info,u,f⟩:=aV (hti.ok _ _ h1);obtain rfl:=nT f h2;obtain⟨ia,u',f'⟩:=aV (hti.ok _ _ h3);split at h
 case h_2=>cases h
 rename_i ls qw;simp only[aA,Oby,aH]at h;obtain⟨pu,h6,_,h7,fr,h8,_,h9,h⟩:=h;split at h7
 case isFalse=>cases h7
 rename_i q9;split at h9
 case isFalse=>cases h9
 rename_i hb9;simp only[Obz,Pbs,Rbi,Rbv]at hb9;obtain⟨⟨mw,hmf⟩,yq⟩:=hb9;obtain⟨tv,rv⟩:=fQ h8
 have main:gOn ρ g=true->∃ cD:Array Value,(execOp a.eval o).run P w=.ok (.value (.slice (some ⟨w.heap.size,0,none⟩) len len)) (pushB w cD e)/\aG σ ρ G w ls cD.toList/\ls.length=len*ti.size:=by
  intro hg;obtain⟨z,ql,p4,-,-⟩:=f'.zeros (σ:=σ) (ρ:=ρ) (G:=G) (w:=w);have zh:=Naf f' a5r p4 len;have jx:(ti.cells.map fA).length=ti.size:=by rw[Pbt,f'.len]
  obtain⟨cD,fX,hl,si⟩:=Cag (place:=fun i=>some (i*ti.size,ti.size)) (fun i _=>rfl) (xE hR hg h4) (ls:=Yah (ti.cells.map fA) len) (by rw[Daf,jx]) zh qw;refine⟨cD,?_,hl,si⟩
  ·unfold execOp
   simp only[ho];refine fC ?_;unfold Instr.buildSlice;simp only[Sem.run_bind,run_underlying f.und,Result.andThen_ok,f'.sizeOf]
   have hle:¬ len*ti.size>2 ^ 24:=by
    have:(2:Nat) ^ 24=16777216:=by decide
    omega
   rw[if_neg hle];have e1:(parts.map fun x=>(x.1,a.eval x.2)).toList=parts.toList.map fun x=>(x.1,a.eval x.2):=by simp
   by_cases h0:len*ti.size=0
   ·have xF:Instr.fill (fun i=>some (i*ti.size,ti.size)) ((Array.range (len*ti.size)).map (fun j=>(#[]:Array Value)[j % (#[]:Array Value).size]!)) (parts.map fun x=>(x.1,a.eval x.2)).toList=some cD:=by
     rw[e1,<- fX];congr 1;rw[h0];simp
    simp only[Sem.run_bind,Sem.run_pure,Result.andThen_ok,h0,if_true]at xF ⊢;rw[xF];simp[newRow,pushB]
   ·simp only[Sem.run_bind,if_neg h0,jZ f'.info_ ql,Result.andThen_ok,Sem.run_pure]
    rw[e1,fX];simp[newRow,pushB]
 have mb:∀ cD:Array Value,aG σ ρ G w ls cD.toList->pu.xs.length=ls.length/\(∀ j v x,cD.toList[j]?=some v->pu.xs[j]?=some x->Fa5 σ ρ G w pu (0+j) v x):=fun cD hl=>by
  obtain⟨h1,h2,-⟩:=qF hR h6 hl;exact⟨h1,h2⟩
 cases hgg:noG g with
 | false =>
  rw[hgg,cond_false]at h;rw[hgg,Bool.false_or]at q9;simp only[Obz,Rbv]at q9;obtain⟨⟨hm0,-⟩,we⟩:=q9;simp only[qH,aF,Ob0]at h;subst h;simp only[Cam,Pbz];refine⟨fun hg=>?_,fun hg=>Ebz hR hd hg⟩;obtain⟨cD,bd,hl,si⟩:=main hg;obtain⟨n9,k8⟩:=mb cD hl;obtain⟨d,gp,qf⟩:=fF ba hg;refine lN bd ⟨G,?_⟩
  have gr:=hR.own hd (g:=g) (sv:=.one (.sn [] .no false (.v nv))) (v:=.slice (some ⟨w.heap.size,0,none⟩) len len) (w':=pushB w cD e) (G':=G) (ur:=[]) (f:=fun s p=>.slc s p) (wr:=fun _=>False)
   (by simp) (fun b _=>by cases hb:G.own b<;>rfl) (fun b hb=>hR.frame.fresh b (by rw[jS]at hb;omega)) ⟨rfl,rfl,rfl,by rw[jS];omega⟩ (fun b hb=>.inl (hR.frame.fresh b hb))
   (fun b aq _=>kC (by omega)) (fun _ h=>h.elim) (fun _ _ _ _ _=>rfl) (by simp) (fun _ _ _ _ _ s p q h=>by injection h with h1 h2;exact⟨h1,h2⟩) (fun _ _=>rfl) rfl (fun dq _=>?_) (by simp)
  ·rw[Pbz]at gr
   exact gr
  ·simp only[bS,aB]
   refine⟨⟨rfl,by simp⟩,fun _=>⟨?_,by simp,trivial⟩⟩;simp only[aY.run]at gp;split at gp
   case isFalse=>cases gp
   rename_i qu;simp only[Ob0,Qbf,and_true]at gp;rw[qf,<- gp];refine .rows _ ⟨w.heap.size,0,none⟩ len len ti.size _ (fun i j=>cD.toList.getD (i*ti.size+j) undef) (Fav _ _ _) (Pbj _) (.inr rfl) (fun row hr=>?_) (fun i row hi j d hj=>?_) (fun i row hi j d hj=>?_)
   ·obtain⟨i,hi⟩:=Qbl.1 hr
    exact (nC _ _ _ qu i row hi).2.1
   ·obtain⟨cd,db,fj⟩:=nC _ _ _ qu i row hi
    have hJ:=(Ob2.1 (fj j d hj)).1;refine⟨.inl (hR.frame.fresh _ (Pbj _)),?_⟩;rw[mG];have j9:i*ti.size+j<cD.toList.length:=by rw[hl.len,<- n9];simpa using hJ
    rw[Pba,Ob5 j9,<- Qbj,Ob5 j9];rfl
   ·obtain⟨cd,db,fj⟩:=nC _ _ _ qu i row hi
    have hJ:=fj j d hj;rw[Pbr,Pbc]at hJ;obtain⟨x,nx,rfl⟩:=hJ;have j9:i*ti.size+j<cD.toList.length:=by rw[hl.len,<- n9];exact (Ob2.1 nx).1
    have hv:cD.toList[i*ti.size+j]?=some (cD.toList.getD (i*ti.size+j) undef):=by
     rw[Pba,Ob5 j9];rfl
    cases k8 _ _ _ hv nx with
    |sc h=>exact .sc h
    |nil z hx hv=>rw[hx,hv];exact Rd.nil
    |mv r m aE hm hr hv lA=>rw[hm0]at hm;simp at hm
    |hole r k m q hm hl hq fa hn lA=>rw[yq]at hm;simp at hm
    | fz lA h =>
     refine h.mono' fun b hb aq=>?_
     rcases hb with hb|⟨r,p,h1,-⟩
     ·exact⟨.inl hb,kC (by omega)⟩
     ·rw[we]at h1;simp at h1
 | true =>
  obtain rfl:=tQ hgg;rw[hgg,cond_true]at h;simp only[qH,aF,Ob0]at h;subst h;simp only[Cam];refine⟨fun hg=>?_,fun hg=>by simp[gOn]at hg⟩;obtain⟨cD,bd,hl,si⟩:=main hg;obtain⟨n9,k8⟩:=mb cD hl;obtain⟨d,gp,qf⟩:=fF ba hg;generalize hM:min big (pu.depth+1)=M;obtain⟨m1,rfl⟩:∃ m1,M=m1+1:=⟨M-1,by rw[<- hM];unfold big;omega⟩;have hN:w.heap.size=w.heap.size:=rfl
  have hdr:∀ r,(σ (kR r)).isSome->r≠nr:=fun r hr e=>by
   rw[e,hf]at hr;cases hr
  refine lN bd ⟨{ G with own:=fun b=>if b=w.heap.size then .slc nr [] else kZ (mkF pu nr (m1+1)) (G.own b),hdr:=fun r=>if r=nr then .slice (some ⟨w.heap.size,0,none⟩) len len else G.hdr r },?_⟩
  have tj:∀ s,s∈pu.frz->∀ p,mkF pu nr (m1+1) s p=.frz:=fun s hs p=>by
   unfold mkF;rw[kV.2 hs,cond_true]
  have hmF:∀ z∈pu.moves,∀ p,mkF pu nr (m1+1) z.2.1 p=vX nr (m1+1) ([z.1]++p):=fun z hz p=>by
   unfold mkF
   have:has pu.frz z.2.1=false:=by
    have:=hmf z hz;simpa using this
   rw[this,cond_false,qO mw z hz]
  have k7:∀ b,G.own b≠.frz->b<w.heap.size:=fun b hb=>by
   rcases Pbo b w.heap.size with h|h
   ·exact h
   ·exact absurd (hR.frame.fresh b h) hb
  have b8:∀ b,b≠w.heap.size->(pushB w cD e).heap[b]?=w.heap[b]?:=fun b hb=>kC hb
  have b9:∀ {s:Nat} {c:aN},(kR s,c)∈(kR nr,aN.root (.v nv) (m1+1) 0 .live)::(pu.moves.map fun z=>(kR z.2.1,aN.root (.c .hole) 0 0 .gone))++fr ->
    (s=nr/\c=.root (.v nv) (m1+1) 0 .live)\/(∃ z∈pu.moves,s=z.2.1/\c=.root (.c .hole) 0 0 .gone) \/
    (s∈pu.frz/\∃ x m v,c=.root x m v .frozen/\σ (kR s)=some (.root x m v .live)):=by
   intro s c hc
   rcases Pbe.1 hc with hc|hc
   ·rcases Ob8.1 hc with hc|hc
    ·obtain⟨e1,e2⟩:=Qb9 hc
     exact .inl ⟨dY e1,e2⟩
    ·obtain⟨z,hz,e⟩:=Pb5.1 hc
     obtain⟨e1,e2⟩:=Qb9 e;exact .inr (.inl ⟨z,hz,(dY e1).symm,e2.symm⟩)
   ·obtain⟨s',jf,x',oa,v',e1,e2,e3⟩:=rv _ _ hc
    obtain rfl:=dY e1;exact .inr (.inr ⟨jf,x',oa,v',e2,e3⟩)
  have ig:σ (kR nr)=none:=hf
  have wh:∀ s,s∈pu.frz->s≠nr:=fun s hs e=>by
   rcases tv s hs with ⟨x',oa,v',h8,-⟩|⟨x',oa,v',h8⟩<;>rw[e,ig]at h8<;>cases h8
  have p7:∀ b,G.own b=.frz->b<w.heap.size->(if b=w.heap.size then Ow.slc nr [] else kZ (mkF pu nr (m1+1)) (G.own b))=.frz/\(pushB w cD e).heap[b]?=w.heap[b]?:=fun b hb aq=>by
   rw[if_neg (by omega),hb];exact⟨rfl,b8 b (by omega)⟩
  have fg:∀ b s p,G.own b=.slc s p->(if b=w.heap.size then Ow.slc nr [] else kZ (mkF pu nr (m1+1)) (G.own b))=mkF pu nr (m1+1) s p/\(pushB w cD e).heap[b]?=w.heap[b]?:=fun b s p hb=>by
   have:=k7 b (by rw[hb];simp);rw[if_neg (by omega),hb];exact⟨rfl,b8 b (by omega)⟩
  refine hR.own hd (wr:=fun _=>False) (f:=mkF pu nr (m1+1)) ?_ ?_ ?_ ?_ ?_ (fun b aq _=>b8 b (by omega)) (fun _ h=>h.elim) ?_ ?_ ?_ ?_ rfl ?_ ?_
  ·intro k c hc
   rcases Pbe.1 hc with hc|hc
   ·rcases Ob8.1 hc with hc|hc
    ·exact⟨nr,(Qb9 hc).1⟩
    ·obtain⟨z,hz,e⟩:=Pb5.1 hc
     exact⟨z.2.1,(Qb9 e).1.symm⟩
   ·obtain⟨s',-,-,-,-,e1,-⟩:=rv _ _ hc
    exact⟨s',e1⟩
  ·intro b aq
   show (if b=w.heap.size then Ow.slc nr [] else _)=_
   rw[if_neg (by omega)]
  ·intro b hb
   rw[jS]at hb;show (if b=w.heap.size then Ow.slc nr [] else kZ _ (G.own b))=.frz
   rw[if_neg (by omega),hR.frame.fresh b (by omega)];rfl
  ·exact⟨rfl,rfl,rfl,by rw[jS];omega⟩
  ·intro b hb
   show (if b=w.heap.size then Ow.slc nr [] else kZ _ (G.own b))=.frz\/∃ r p,(if b=w.heap.size then Ow.slc nr [] else kZ _ (G.own b))=.slc r p/\_
   by_cases e:b=w.heap.size
   ·rw[if_pos e];exact .inr ⟨nr,[],rfl,ig⟩
   ·rw[if_neg e,hR.frame.fresh b hb];exact .inl rfl
  ·intro b s p hb gm
   unfold mkF
   have h1:has pu.frz s=false:=by
    rw[xL];intro hs
    rcases tv s hs with ⟨x',oa,v',-,h8⟩|⟨x',oa,v',h8⟩
    ·exact gm _ (Ob4 _ h8)
    ·exact (hR.root h8).2 b p hb
   have h2:s∉pu.moves.map (·.2.1):=by
    intro hh;obtain⟨z,hz,e⟩:=Pb5.1 hh;refine gm (.root (.c .hole) 0 0 .gone) (Ob1 _ (Pbb _ (Pb5.2 ⟨z,hz,?_⟩)));rw[e]
   rw[h1,cond_false,Fae h2]
  ·intro s c hc _
   rcases b9 hc with ⟨rfl,rfl⟩|⟨z,hz,rfl,rfl⟩|⟨hs,x',oa,v',rfl,h8⟩
   ·exact .inl ⟨ig,_,_,_,_,rfl⟩
   ·exact .inr (.inr (.inl ⟨_,_,_,_,rfl,by simp,by simp⟩))
   ·refine .inr (.inr (.inr ⟨x',oa,v',h8,rfl,fun b p hb=>?_⟩))
    obtain⟨cd,db⟩:=fg b s p hb;exact⟨cd.trans (tj s hs p),db⟩
  ·intro r0 x0 m0 k0 lB s p q' hF
   unfold mkF at hF
   cases hh:has pu.frz s with
   |true=>rw[hh,cond_true]at hF;cases hF
   | false =>
    rw[hh,cond_false]at hF;split at hF
    ·unfold vX at hF
     split at hF
     ·injection hF with j1 j2
      exact absurd j1.symm (hdr r0 (by rw[lB];rfl))
     ·cases hF
    ·injection hF with j1 j2;exact⟨j1,j2⟩
  ·intro r hr
   show (if r=nr then _ else _)=_
   rw[if_neg (hdr r hr)]
  ·intro _ _
   simp only[bS,aB];refine⟨by simp,dL _ _ _ (.inr ⟨_,Ob4 _ (Ob1 _ Pbf)⟩),rfl⟩
  ·intro _ s c hc _
   rcases b9 hc with ⟨rfl,rfl⟩|⟨z,hz,rfl,rfl⟩|⟨hs,x',oa,v',rfl,h8⟩
   ·refine⟨_,_,_,_,rfl,?_⟩
    simp only[bK,if_true];simp only[aY.run]at gp;split at gp
    case isFalse=>cases gp
    rename_i qu;simp only[Ob0,Qbf,and_true]at gp;rw[qf,<- gp];refine .sl _ ⟨w.heap.size,0,none⟩ len len ti.size _ (fun i j=>cD.toList.getD (i*ti.size+j) undef) (Fav _ _ _) (Pbj _) (.inl rfl) (fun row hr=>?_) (fun _=>⟨rfl,by simp,fun k hk=>?_⟩) (fun i row hi j d hj=>?_) (fun i row hi j d hj=>?_)
    ·obtain⟨i,hi⟩:=Qbl.1 hr
     exact (nC _ _ _ qu i row hi).2.1
    ·rw[mG,tK]
     have:k<cD.size:=by rw[<- Rbd,hl.len,si];exact hk
     exact⟨cD[k],Pb0 this,rfl⟩
    ·obtain⟨cd,db,fj⟩:=nC _ _ _ qu i row hi
     have hJ:=(Ob2.1 (fj j d hj)).1;rw[mG];have j9:i*ti.size+j<cD.toList.length:=by rw[hl.len,<- n9];simpa using hJ
     rw[Pba,Ob5 j9,<- Qbj,Ob5 j9];rfl
    ·obtain⟨cd,db,fj⟩:=nC _ _ _ qu i row hi
     have hJ:=fj j d hj;rw[Pbr,Pbc]at hJ;obtain⟨x,nx,rfl⟩:=hJ;have j9:i*ti.size+j<cD.toList.length:=by rw[hl.len,<- n9];exact (Ob2.1 nx).1
     have hv:cD.toList[i*ti.size+j]?=some (cD.toList.getD (i*ti.size+j) undef):=by
      rw[Pba,Ob5 j9];rfl
     have se:=k8 _ _ _ hv nx;rw[Nat.zero_add]at se;refine se.rp hR (by unfold big at hM;omega) p7 (fun s' m2 xa b t hb=>?_) (fun s' q' je=>by rw[yq]at je;simp at je) (fun s' jf b p hb=>?_)
     ·obtain⟨ll,l8⟩:=fg b s' t hb
      refine⟨ll.trans ?_,l8⟩;rw[hmF _ xa,vX];simp only[Pbg,Qbk,Qbc];by_cases ht:t.length<m1
      ·rw[if_pos ht,if_pos (by omega)]
      ·rw[if_neg ht,if_neg (by omega)]
     ·obtain⟨ll,l8⟩:=fg b s' p hb
      exact⟨ll.trans (tj s' jf p),l8⟩
   ·exact⟨_,_,_,_,rfl,trivial⟩
   ·refine⟨x',oa,v',.frozen,rfl,?_,fun b p hb=>?_⟩
    ·have:=hR.root h8
     simp only[bK]at this ⊢;rw[if_neg (wh s hs)];refine this.rd.mono' fun b hb aq=>?_
     rcases hb with hb|⟨p,hb⟩
     ·exact p7 b hb aq
     ·obtain⟨ll,l8⟩:=fg b s p hb
      exact⟨ll.trans (tj s hs p),l8⟩
    ·have cI:(if b=w.heap.size then Ow.slc nr [] else kZ (mkF pu nr (m1+1)) (G.own b))=.slc s p:=hb
     split at cI
     ·injection cI with j1 _
      exact wh s hs j1.symm
     ·cases e:G.own b with
      | slc s' p' =>
       rw[e]at cI;have fh:mkF pu nr (m1+1) s' p'=.slc s p:=cI;by_cases jf:s'∈pu.frz
       ·rw[tj s' jf]at fh;cases fh
       ·unfold mkF at fh
        rw[xL.2 jf,cond_false]at fh;split at fh
        ·unfold vX at fh
         split at fh
         ·injection fh with j1 j2;exact wh s hs j1.symm
         ·cases fh
        ·injection fh with j1 j2;exact jf (j1▸hs)
      |_=>rw[e]at cI;cases cI
end
def nV (vs:Nat->Nat->Value)(n sz:Nat):List Value:=(List.range (n*sz)).map fun k=>vs (k / sz) (k % sz)
theorem pI (vs:Nat->Nat->Value)(n sz:Nat):(nV vs n sz).length=n*sz:=by simp[nV]
theorem Bao (vs:Nat->Nat->Value){n sz i j:Nat}(hi:i<n)(hj:j<sz):(nV vs n sz)[i*sz+j]?=some (vs i j):=by
 have aq:i*sz+j<n*sz:=by
  have:=Qbp sz (show i+1<=n by omega);rw[Qbw]at this;omega
 unfold nV;rw[Pbr,Rb8 aq,Pb6];rw[Nat.mul_comm i sz,Nat.mul_add_div (by omega),Nat.div_eq_of_lt hj,Nat.mul_add_mod,Nat.mod_eq_of_lt hj,Pby]
theorem Ha0 {vs:Nat->Nat->Value}{n sz k:Nat}{u:Value}(h:(nV vs n sz)[k]?=some u):k / sz<n/\k % sz<sz/\k=k / sz*sz+k % sz/\u=vs (k / sz) (k % sz):=by
 have aq:k<n*sz:=by
  have:=(Ob2.1 h).1;rwa[pI]at this
 have dm:0<sz:=by
  rcases Nat.eq_zero_or_pos sz with e|e
  ·rw[e]at aq;simp at aq
  ·exact e
 refine⟨(Nat.div_lt_iff_lt_mul dm).2 aq,Nat.mod_lt _ dm,?_,?_⟩
 ·rw[Nat.mul_comm];exact (Nat.div_add_mod k sz).symm
 ·unfold nV at h
  rw[Pbr,Rb8 aq,Pb6]at h;exact (Pbu h).symm
section
variable {P:Program} {E:Env} {F:bC} {n:Nat} {σ:Nat->Option aN} {ρ:List D} {a:Act} {w w':World} {G G':Gh} {g:Option (aI×Bool)} {o:Oper} {cf:Nat->List D->Option (List D)} {Q:Exit->Act->World->Prop} {next:Act->World->Prop}
theorem Ga6 {rs:List (List D)}{sz:Nat}{b:Addr}{vs:Nat->Nat->Value}(dm:∀ r∈rs,r.length=sz)
  (bc:∀ i row,rs[i]?=some row->∀ j d,row[j]?=some d->w.cell? (b.add (i*sz+j))=some (vs i j)):∀ k u,(nV vs rs.length sz)[k]?=some u->w.cell? (b.add k)=some u:=by
 intro k u h;obtain⟨h1,h2,h3,rfl⟩:=Ha0 h;have hr:rs[k / sz]?=some rs[k / sz]:=Ob5 h1;have hl:=dm _ (Pbh hr);have hd:rs[k / sz][k % sz]?=some (rs[k / sz][k % sz]'(by omega)):=Ob5 (by omega);have:=bc _ _ hr _ _ hd;rwa[<- h3]at this
structure Fbw (w w1:World) (G:Gh) (A:Option Addr) (n n' cap sz:Nat) (olds news:List Value) (v:Value) (A':Option Addr) (cb:Addr) (gS:Nat) (grow:Bool):Prop where
 val:v=.slice A' (n+n') gS
 aval:A'=some cb\/(A'=none/\gS=0)
 le:n+n'<=gS
 os:w1.os=w.os/\w1.tape=w.tape/\w1.output=w.output
 size:w1.heap.size=w.heap.size+(if grow=true then 1 else 0)
 heap:∀ b,b<w.heap.size->(grow=true\/A'=none\/b≠cb.block)->w1.heap[b]?=w.heap[b]?
 cell:∀ k u,(olds++news)[k]?=some u->w1.cell? (cb.add k)=some u
 all:∀ k,k<gS*sz->∃ u,w1.cell? (cb.add k)=some u/\w1.frozen? (cb.add k)=false
 spot:cb.spot=none
 base:(grow=true/\A'=some cb/\cb.block=w.heap.size)\/(grow=false/\A'=some cb/\A=some cb)\/(grow=false/\A'=none)
theorem Ias {t tx e:TypeId}{ti:TI}{info:TypeInfo}{u u':TypeDesc}{x y:Operand}{args:Array Operand}{argTypes:Array TypeId}(ho:o.op=.call { callee:=.builtin .append,args,argTypes })
  (dj:args.toList=[x,y]) (kb:argTypes=#[t,tx]) (hu:P.underlying t=some (.slice e)) (f:bV P e ti info u) (hx:P.underlying tx=some u') (sh:∃ e',u'=.slice e')
  {A:Option Addr} {n cap n':Nat} {b:Addr} {olds news:List Value} (hxv:a.eval x=.slice A n cap) (hnc:n<=cap) (hA:(A=some b/\b.spot=none)\/(A=none/\cap=0))
  (qh:olds.length=n*ti.size) (s4:∀ k u,olds[k]?=some u->w.cell? (b.add k)=some u) (cE:A=some b->∀ k,k<cap*ti.size->∃ u,w.cell? (b.add k)=some u/\w.frozen? (b.add k)=false)
  {By:Option Addr} {yn:Addr} {ln:Nat} (xu:a.eval y=.slice By n' ln) (hBy:n'=0\/By=some yn) (ya:news.length=n'*ti.size) (wg:∀ k u,news[k]?=some u->w.cell? (yn.add k)=some u) (sC:∀ u∈news,u.oneCell'=true)
  (hb0:0<ti.bytes) (hs0:0<ti.size) (eR:(n+n')*ti.bytes<=iF) :
  ∃ v w1 A' cb gS grow,(execOp a.eval o).run P w=.ok (.value v) w1/\Fbw w w1 G A n n' cap ti.size olds news v A' cb gS grow:=by
 obtain⟨e',rfl⟩:=sh
 have pg:Src P ti.size tx (.slice By n' ln) n' news w:=by
  rcases hBy with rfl|rfl
  ·have:news=[]:=Qbe (by simpa using ya)
   subst this
   cases By with
   |none=>exact Src.ofNil w hx ln
   |some b1=>exact Src.ofSlice w hx b1 0 ln [] (by simp) (by simp) (by simp)
  ·exact Src.ofSlice w hx yn n' ln news ya wg sC
 have ju:∀ {v:Value} {w1:World},(Builtin.append_ #[t,tx] o.type #[.slice A n cap,.slice By n' ln]).run P w=.ok v w1->(execOp a.eval o).run P w=.ok (.value v) w1:=by
  intro v w1 h;refine kQ ho (s:=Builtin.append_ argTypes o.type (args.map a.eval)) (fun _=>rfl) ?_;rw[Zav dj,Bbo,hxv,xu,kb];exact h
 have dm:info.size=ti.size:=f.size.symm;have y6:info.bytes=ti.bytes:=f.bytes.symm;by_cases nz:n+n'<=cap
 ·rcases hA with ⟨rfl,iq⟩|⟨rfl,h0⟩
  ·
   have ze:b=⟨b.block,b.off,none⟩:=by cases b;simp only at iq;subst iq;rfl
   have cJ:∀ j,j<news.length->∃ u,w.cell? ⟨b.block,b.off+n*ti.size+j,none⟩=some u/\w.frozen? ⟨b.block,b.off+n*ti.size+j,none⟩=false:=fun j hj=>by
    have:=cE rfl (n*ti.size+j) (by
     have:=Qbp ti.size nz;rw[Qbw]at this
     omega)
    rw[add_plain iq,<- Pbm]at this;exact this
   have bd:=run_append_room_src (P:=P) w t tx o.type e info hu f.info_ b.block b.off n cap (.slice By n' ln) n' news (by rw[dm];exact pg) nz
    (fun j hj=>by rw[dm];obtain⟨u,h1,-⟩:=cJ j hj;rw[h1];rfl) (fun j hj=>by rw[dm];exact (cJ j hj).choose_spec.2)
   rw[<- ze,dm]at bd;refine⟨_,_,some b,b,cap,false,ju bd,rfl,.inl rfl,nz,jY _ _ _ _,by rw[setCells_size];simp,fun b' _ cI=>?_,fun k u hk=>?_,fun k hk=>?_,iq,.inr (.inl ⟨rfl,rfl,rfl⟩)⟩
   ·rcases cI with cI|cI|cI
    ·cases cI
    ·cases cI
    ·exact dH _ _ _ _ _ cI
   ·by_cases aq:k<olds.length
    ·rw[Pbi aq]at hk
     rw[add_plain iq,World.cell?_setCells_out _ _ _ _ _ (fun _ _=>.inl (by dsimp only;omega)),<- add_plain iq];exact s4 k u hk
    ·rw[Pbk (by omega)]at hk
     have xk:=(Ob2.1 hk).1;have:=World.cell?_setCells_in b.block news (b.off+n*ti.size) w (fun j hj=>by obtain⟨u,h1,-⟩:=cJ j hj;rw[h1];rfl) (k-olds.length) xk;rw[show b.off+n*ti.size+(k-olds.length)=b.off+k by omega]at this;rw[add_plain iq,this,<- hk,Ob5]
   ·obtain⟨u0,hu0,we⟩:=cE rfl k hk
    rw[World.frozen?_setCells];obtain⟨u1,hu1⟩:=lT (B:=b.block) (o:=b.off+n*ti.size) (vs:=news) (b:=b.add k) (fun _=>by rw[add_plain iq]) (fun j hj=>by obtain⟨u,h1,-⟩:=cJ j hj;rw[h1];rfl) hu0;exact⟨u1,hu1,we⟩
  ·
   have zx:n=0:=by omega
   have a5y:n'=0:=by omega
   subst zx a5y h0;have:news=[]:=Qbe (by simpa using ya);subst this;have:olds=[]:=Qbe (by simpa using qh);subst this;refine⟨_,_,none,⟨0,0,none⟩,0,false,ju (run_append_nothing w t tx o.type e info hu f.info_ none 0 0 (Pbj _) _ (by rw[dm];exact pg)),rfl,.inr ⟨rfl,rfl⟩,Pbj _,⟨rfl,rfl,rfl⟩,by simp,fun _ _ _=>rfl,by simp,by simp,rfl,.inr (.inr ⟨rfl,rfl⟩)⟩
 ·
  obtain⟨z,ql,p4,-,-⟩:=f.zeros (σ:=fun _=>none) (ρ:=[]) (G:=G) (w:=w);have yb:z.cells.size=ti.size:=by rw[<- Rbd,p4.len,Pbt,f.len]
  have hold:(Builtin.firstCells info.size n (.slice A n cap)).run P w.drew=.ok olds.toArray w.drew:=by
   rcases hA with ⟨rfl,iq⟩|⟨rfl,h0⟩
   ·exact run_firstCells_some w.drew info.size n b n cap olds (by rw[dm];exact qh) (fun j u hj=>s4 j u hj)
   ·have zx:n=0:=by omega
    subst zx;have:olds=[]:=Qbe (by simpa using qh);subst this;rfl
  have h1:(n+n')*1<=(n+n')*ti.bytes:=Nat.mul_le_mul_left _ hb0;have vk:=nextslicecap_le (show cap<n+n' by omega)
  have a0x:Builtin.nextslicecap (n+n') cap*info.bytes<=281474976710656:=by
   rw[y6];have h2:=Qbp ti.bytes vk;rw[Nat.mul_assoc]at h2;unfold iF at eR;omega
  have bd:=run_append_grow_src (P:=P) w t tx o.type e info z hu f.info_ ql A n cap olds hold (.slice By n' ln) n' news (by rw[dm];exact pg) (by omega) (by unfold iF at eR;omega) a0x;have mf:=grownCap_ge w (n+n') cap e;generalize hgc:grownCap w (n+n') cap e=gc at bd mf
  have sY:∀ b',b'≠w.heap.size->(w.drew.alloc (.cells ((olds++news).toArray++Builtin.zeroCells z.cells (gc-(n+n'))) e)).heap[b']?=w.heap[b']?:=fun b' cI=>by
   show (w.heap.push _)[b']?=_
   rw[Sba,if_neg cI]
  have ga:(w.drew.alloc (.cells ((olds++news).toArray++Builtin.zeroCells z.cells (gc-(n+n'))) e)).heap[w.heap.size]?=some (.cells ((olds++news).toArray++Builtin.zeroCells z.cells (gc-(n+n'))) e (0,0)):=by
   show (w.heap.push _)[w.heap.size]?=_
   rw[Sba,if_pos rfl]
  have bc:∀ k,(w.drew.alloc (.cells ((olds++news).toArray++Builtin.zeroCells z.cells (gc-(n+n'))) e)).cell? ((⟨w.heap.size,0,none⟩:Addr).add k)=((olds++news).toArray++Builtin.zeroCells z.cells (gc-(n+n')))[k]?:=fun k=>by
   unfold World.cell?;rw[add_block,ga];simp[Addr.add];split<;>simp_all
  refine⟨_,_,some ⟨w.heap.size,0,none⟩,⟨w.heap.size,0,none⟩,gc,true,ju bd,rfl,.inl rfl,mf,⟨rfl,rfl,rfl⟩,by show (w.heap.push _).size=_;rw[Array.size_push,if_pos rfl],fun b' aq _=>sY b' (by omega),fun k u hk=>?_,fun k hk=>?_,rfl,.inl ⟨rfl,rfl,rfl⟩⟩
  ·have aq:=(Ob2.1 hk).1
   rw[bc,Array.getElem?_append_left (by simpa using aq)];simpa using hk
  ·have rS:((olds++news).toArray++Builtin.zeroCells z.cells (gc-(n+n'))).size=gc*ti.size:=by
    simp only[Array.size_append,List.size_toArray,Pbg,Builtin.zeroCells,Array.size_map,Array.size_range];rw[qh,ya,yb,<- Qbw,<- Qbw];congr 1;omega
   rw[bc];refine⟨_,Pb0 (by omega),?_⟩;unfold World.frozen?;rw[add_block,ga];simp
end
section
variable {P:Program} {E:Env} {F:bC} {n:Nat} {σ:Nat->Option aN} {ρ:List D} {a:Act} {w w':World} {G G':Gh} {g:Option (aI×Bool)} {o:Oper} {cf:Nat->List D->Option (List D)} {Q:Exit->Act->World->Prop} {next:Act->World->Prop}
structure Side (w:World) (v:Value) (rs:List (List D)) (sz:Nat) (A:Option Addr) (b:Addr) (n cap:Nat) (vs:Nat->Nat->Value):Prop where
 val:v=.slice A n cap
 len:rs.length=n
 le:n<=cap
 rows:∀ r∈rs,r.length=sz
 cell:∀ i row,rs[i]?=some row->∀ j d,row[j]?=some d->w.cell? (b.add (i*sz+j))=some (vs i j)
def ChY (G:Gh)(w:World)(km:List Nat)(lh:Option Nat)(dy:Nat)(v:Value)(d:D)(idx:Nat):Prop :=
 Sc v d\/(∃ s,lh=some s/\2<=dy/\Rp G.own w s [idx] (dy-1) v d)\/(dy=1/\Rd (fun b=>G.own b=.frz\/∃ r p,r∈km/\G.own b=.slc r p) w v d)
structure YOk (σ:Nat->Option aN) (G:Gh) (w:World) (fl:Bool) (v:Value) (rb:List (List D)) (sz dy:Nat) (fR:List (Nat×aN)) (ry:List Nat) (km:List Nat) (lh:Option Nat):Prop where
 side:∃ A b n cap vs,Side w v rb sz A b n cap vs/\(n=0\/A=some b)/\∀ i row,rb[i]?=some row->∀ j d,row[j]?=some d->ChY G w km lh dy (vs i j) d (i*sz+j)
 upd:∀ k c,(k,c)∈fR->∃ s,k=kR s/\s∈ry/\((lh=some s/\c=.root (.c .hole) 0 0 .gone/\∃ x m aE,σ (kR s)=some (.root x m aE .live))\/(s∈km/\∃ x m aE,c=.root x m aE .frozen/\σ (kR s)=some (.root x m aE .live)))
 fz:∀ s∈km,s∈ry/\((∃ c,(kR s,c)∈fR)\/∃ x m aE,σ (kR s)=some (.root x m aE .frozen))
 mv:∀ s,lh=some s->s∈ry/\(∃ c,(kR s,c)∈fR)/\s∉km
 dy:1<=dy
 flat:fl=true->fR=[]/\km=[]/\lh=none
theorem Rd.side {ok:Nat->Prop}{v:Value}{sz:Nat}{rs:List (List D)}(h:Rd ok w v (.rows sz rs)):∃ A b n cap vs,Side w v rs sz A b n cap vs/\(n=0\/A=some b)/\∀ i row,rs[i]?=some row->∀ j d,row[j]?=some d->Rd ok w (vs i j) d:=by
 obtain⟨A,b,n,c,vs,e1,e2,e3,e4,e5,e6,e7⟩:=h.inv;exact⟨A,b,n,c,vs,⟨e1,e2,e3,e5,fun i row hi j d hj=>(e6 i row hi j d hj).2⟩,e4,e7⟩
theorem Ibv (hR:R E.ntmps F σ ρ a w G){fl:Bool}{y:SlR}{v:Value}(hy:Sa0 σ ρ G w y v){sz:Nat}{rb:List (List D)}(hx:y.x.val ρ=.rows sz rb)(fX:fl=true->∀ r∈rb,∀ d∈r,d.isSc=true)
  {dy:Nat} {fR:List (Nat×aN)} {ry:List Nat} (h:(Pae fl y).eval σ=some (dy,fR,ry)):∃ km lh,YOk σ G w fl v rb sz dy fR ry km lh:=by
 have gA:=hy.rd;rw[hx]at gA;unfold Pae at h
 cases fl with
 | true =>
  simp only[cond_true,aF,Ob0,Pbl]at h;obtain⟨rfl,rfl,rfl⟩:=h;refine⟨[],none,?_,by simp,by simp,by simp,by decide,fun _=>⟨rfl,rfl,rfl⟩⟩;obtain⟨A,b,n,c,vs,h1,h2,h3⟩:=gA.side;exact⟨A,b,n,c,vs,h1,h2,fun i row hi j d hj=>.inl ((h3 i row hi j d hj).sc_inv (fX rfl row (Pbh hi) d (Pbh hj)))⟩
 | false =>
  simp only[cond_false]at h;have a7:=hy.own;unfold sD at a7
  have frozen:∀ rs fr,(dD rs).eval σ=some fr->Rd (fun b=>G.own b=.frz\/∃ r p,r∈rs/\G.own b=.slc r p) w v (.rows sz rb)->YOk σ G w false v rb sz 1 fr rs rs none:=by
   intro rs fr dq gA;obtain⟨h1,h2⟩:=fQ dq;refine⟨?_,fun k c hc=>?_,fun s hs=>⟨hs,?_⟩,by simp,Pbj _,by simp⟩
   ·obtain⟨A,b,n,c,vs,h3,h4,h5⟩:=gA.side
    exact⟨A,b,n,c,vs,h3,h4,fun i row hi j d hj=>.inr (.inr ⟨rfl,h5 i row hi j d hj⟩)⟩
   ·obtain⟨s,hs,x,m,aE,e1,e2,e3⟩:=h2 k c hc
    exact⟨s,e1,hs,.inr ⟨hs,x,m,aE,e2,e3⟩⟩
   ·rcases h1 s hs with ⟨x,m,aE,e1,e2⟩|h3
    ·exact .inl ⟨_,e2⟩
    ·exact .inr h3
  split at h
  ·rename_i r k m ho
   rw[ho]at a7;obtain⟨h1,⟨x,h2⟩,h3,h4,h5⟩:=a7;simp only[aZ,Pbx,List.length_nil,Nat.sub_zero]at h4;rw[hx]at h4
   cases hb:Nat.ble 2 m with
   | true =>
    rw[hb]at h;simp only[cond_true,aF,Ob0,Pbl]at h;obtain⟨rfl,rfl,rfl⟩:=h;simp only[Qba]at hb;obtain⟨m',rfl⟩:∃ m',m=m'+1:=⟨m-1,by omega⟩;obtain⟨A,b,n,c,vs,e1,e2,e3,e4,e5,e6,e7,e8⟩:=h4.sl_inv;refine⟨[],some r,⟨A,b,n,c,vs,⟨e1,e2,e3,e5,e7⟩,?_,fun i row hi j d hj=>.inr (.inl ⟨r,rfl,hb,by simpa using e8 i row hi j d hj⟩)⟩,fun k' c' hc=>?_,by simp,fun s hs=>?_,by omega,by simp⟩
    ·rcases e4 with e4|⟨e4,qq⟩
     ·exact .inr e4
     ·exact .inl (by omega)
    ·simp only[Ob3,Pbl]at hc
     exact⟨r,hc.1,by simp,.inl ⟨rfl,hc.2,x,_,k,h2⟩⟩
    ·obtain rfl:=Pbu hs
     exact⟨by simp,⟨_,Ob3.2 rfl⟩,by simp⟩
   | false =>
    rw[hb]at h;simp only[cond_false,aF,Ob0,Pbl]at h;obtain⟨rfl,rfl,rfl⟩:=h
    have hm:m<=1:=by
     have:¬ 2<=m:=by rw[<- Qba,hb];simp
     omega
    refine⟨[],none,?_,by simp,by simp,by simp,Pbj _,by simp⟩
    rcases Nat.eq_zero_or_pos m with rfl|lP
    ·obtain⟨A,b,n,c,vs,h6,h7,h8⟩:=h4.zero.side
     exact⟨A,b,n,c,vs,h6,h7,fun i row hi j d hj=>.inr (.inr ⟨rfl,(h8 i row hi j d hj).mono fun b hb=>⟨.inl hb,rfl⟩⟩)⟩
    ·obtain rfl:m=0+1:=by omega
     obtain⟨A,b,n,c,vs,e1,e2,e3,e4,e5,e6,e7,e8⟩:=h4.sl_inv;refine⟨A,b,n,c,vs,⟨e1,e2,e3,e5,e7⟩,?_,fun i row hi j d hj=>.inr (.inr ⟨rfl,(e8 i row hi j d hj).zero.mono fun b hb=>⟨.inl hb,rfl⟩⟩)⟩
     rcases e4 with e4|⟨e4,qq⟩
     ·exact .inr e4
     ·exact .inl (by omega)
  ·rename_i r k m p ct ho
   rw[ho]at a7;simp only[aA,Oby,aF,Ob0,Pbl]at h;obtain⟨fr,h6,rfl,rfl,rfl⟩:=h;refine⟨[r],none,frozen _ _ h6 ?_⟩;refine gA.mono fun b hb=>⟨hb.imp id fun ⟨r',k',p',h7,h8⟩=>?_,rfl⟩
   rw[a7.1]at h7;simp only[Ob3,Pbl]at h7;exact⟨r,p',by simp,h7.1▸h8⟩
  ·split at h
   ·rename_i z hz
    simp only[aF,Ob0,Pbl]at h;obtain⟨rfl,rfl,rfl⟩:=h;rw[hz]at hx;simp only[aI.val,D.rows.injEq]at hx;obtain⟨rfl,rfl⟩:=hx;refine⟨[],none,?_,by simp,by simp,by simp,by decide,by simp⟩;obtain⟨A,b,n,c,vs,h1,h2,h3⟩:=gA.side;exact⟨A,b,n,c,vs,h1,h2,by simp⟩
   ·simp only[aA,Oby,aF,Ob0,Pbl]at h
    obtain⟨fr,h6,rfl,rfl,rfl⟩:=h;refine⟨y.deps.map (·.1),none,frozen _ _ h6 ?_⟩;exact gA.mono fun b hb=>⟨hb.imp id fun ⟨r',k',p',h7,h8⟩=>⟨r',p',Qbi (f:=fun x:Nat×Nat=>x.1) h7,h8⟩,rfl⟩
end
end Go.Proofs.YtcbkmmhkccnamaaGreat.Rf
