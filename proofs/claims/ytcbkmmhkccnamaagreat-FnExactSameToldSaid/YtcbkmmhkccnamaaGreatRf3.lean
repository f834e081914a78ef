/- Terms for so program's functions, and nh they are right: part 3 of 10. -/
import Derived.Test.YtcbkmmhkccnamaaGreatRf2
import Derived.Laws.IdiomCopy
import Derived.Deep.Upon
open Array renaming getElem?_eq_getElem → Acr, getElem?_toList → Bca, length_toList → Cca, getElem?_push → Dcd, ext' → Dce
open Bool renaming and_eq_true → Zbo, not_eq_true' → Ach
open List renaming mem_append_left → Zbp, getElem?_eq_getElem → Zbq, mem_append_right → Zbs, length_append → Zbt, getD_eq_getElem?_getD → Zbu, getElem?_cons_zero → Zbw, append_assoc → Zbx, mem_cons_of_mem → Zby, mem_singleton → Zb0, length_cons → Zb1, length_map → Zb3, mem_of_getElem? → Zb4, mem_cons_self → Zb5, getElem?_append_right → Zb8, getElem?_append_left → Zb9, all_eq_true → Acd, getElem?_map → Ace, append_nil → Acf, map_cons → Acg, map_nil → Acm, getElem?_drop → Acv, getElem?_cons_succ → Acy, nil_append → Ac0, length_singleton → Ac3, getElem?_take → Ac4, eq_nil_of_length_eq_zero → Ac5, mem_map_of_mem → Bci, cons_append → Bcq, getElem?_set → Bcr, foldl_cons → Bc3, singleton_append → Bc9, ext_getElem? → Cch, any_eq_false → Cci, mem_or_eq_of_mem_set → Cck, isEmpty_iff → Ccy, getElem?_range → Dca
open Nat renaming le_refl → Zb2, lt_or_ge → Aca, add_assoc → Acb, beq_eq → Acj, add_zero → Ack, ble_eq → Ac2, mul_le_mul_right → Bcc, add_mul → Bce, mul_comm → Cc0, div_eq_of_lt → Cc4
open Option renaming bind_eq_some_iff → Zbn, bind_some → Zbv, map_eq_some_iff → Zbz, map_some → Acz, isNone_iff_eq_none → Ccc
set_option linter.unusedSimpArgs false
set_option linter.unusedVariables false
set_option linter.unnecessarySimpa false
set_option linter.unusedSectionVars false
namespace Go.Proofs.YtcbkmmhkccnamaaGreat.Rf
theorem dB (b:Nat):∀ (vs:List Value) (o:Nat) (w:World) (k:Nat),k≠b->(w.setCells b o vs).heap[k]?=w.heap[k]?
 |[],_,_,_,_=>rfl
 | v :: r, o, w, k, h => by
  rw[World.setCells,dB b r _ _ k h];exact heap_setCell_other w _ k v h
theorem setCells_size (b:Nat):∀ (vs:List Value) (o:Nat) (w:World),(w.setCells b o vs).heap.size=w.heap.size
 |[],_,_=>rfl
 |v::r,o,w=>by rw[World.setCells,setCells_size b r];exact World.size_setCell ..
theorem iK (b:Nat):∀ (vs:List Value) (o:Nat) (w:World),(w.setCells b o vs).os=w.os/\(w.setCells b o vs).tape=w.tape/\(w.setCells b o vs).output=w.output
 |[],_,_=>⟨rfl,rfl,rfl⟩
 |v::r,o,w=>by rw[World.setCells];exact iK b r (o+1) _
theorem Bal (b:Nat):∀ (vs:List Value) (o:Nat) (w:World) (c:Array Value) (e:TypeId) (fr:Nat×Nat),w.heap[b]?=some (.cells c e fr) ->
  ∃ c',(w.setCells b o vs).heap[b]?=some (.cells c' e fr)/\c'.size=c.size/\∀ k,k<o\/o+vs.length<=k->c'[k]?=c[k]?
 |[],o,w,c,e,fr,h=>⟨c,h,rfl,fun _ _=>rfl⟩
 | v :: r, o, w, c, e, fr, h => by
  have h1:(w.setCell ⟨b,o,none⟩ v).heap[b]?=some (.cells (c.setIfInBounds o v) e fr):=by
   simp[World.setCell,Array.getElem?_modify,h]
  obtain⟨c',h2,h3,h4⟩:=Bal b r (o+1) _ _ e fr h1;refine⟨c',h2,by simpa using h3,fun k hk=>?_⟩;simp only[Zb1]at hk;rw[h4 k (by omega),Array.getElem?_setIfInBounds_ne (by omega)]
section
variable {P:Program} {E:Env} {F:bG} {σ:Nat->Option aS} {ρ:List D} {a:Act} {w w':World} {G:Gh} {g:Option (aK×Bool)} {o:Oper} {cf:Nat->List D->Option (List D)} {Q:Exit->Act->World->Prop} {next:Act->World->Prop}
theorem Ea4 {t:TypeId}{i:TI}{info:TypeInfo}{u:TypeDesc}(f:cK P t i info u){b off:Nat}{v:Value}(hl:v.cells.toList.length=i.size)
  (hc:∀ j,j<i.size->∃ u,w.cell? ⟨b,off+j,none⟩=some u) (hf:∀ j,j<i.size->w.frozen? ⟨b,off+j,none⟩=false) (h1:∀ x∈v.cells.toList,x.oneCell'=true) :
  (storeVar t ⟨b,off,none⟩ v).run P w=.ok () (w.setCells b off v.cells.toList):=by
 unfold storeVar;rw[Sem.run_bind,f.sizeOf];simp only[Result.andThen_ok];have:¬ v.cells.size≠i.size:=by simpa using hl
 rw[if_neg this]
 have h2:=run_storeCells_cells (P:=P) b off v.cells.toList 0 w (fun j hj=>by
  obtain⟨u,hu⟩:=hc j (by omega);rw[Ack,hu];rfl) (fun j hj=>by rw[Ack];exact hf j (by omega)) h1
 rw[Ack]at h2;simpa using h2
theorem aB.one {l:aR}{v:Value}(h:aB σ ρ G w l v)(hs:Oa5 l=true):v.oneCell'=true:=by
 cases l with
 |dead=>simpa[aB] using h
 |sc x=>simp only[aB]at h;exact h.one
 |su g x=>simp[Oa5]at hs
 |ex r=>simp only[aB]at h;exact h.2.2
 |sn deps p nie x=>simp only[aB]at h;exact h.1.1
 |px b off=>simp only[aB]at h;rw[h.1];rfl
 |pe l sz i off=>simp only[aB]at h;obtain⟨_,_,_,_,_,_,_,_,_,e⟩:=h;rw[e];rfl
 |rp deps sz x=>simp only[aB]at h;exact h.1.1
 |pn=>simp only[aB]at h;rw[h];rfl
 |clo f fj=>simp only[aB]at h;obtain⟨_,e,_⟩:=h;rw[e];rfl
theorem aG.ones {ls:List aR}{vs:List Value}(h:aG σ ρ G w ls vs)(hs:ls.all Oa5=true):∀ v∈vs,v.oneCell'=true:=by
 intro v hv;obtain⟨i,hi⟩:=List.mem_iff_getElem?.1 hv
 have hlt:i<ls.length:=by
  rw[<- h.len];exact (List.getElem?_eq_some_iff.1 hi).1
 have hl:ls[i]?=some ls[i]:=Zbq hlt;obtain⟨v',h1,h2⟩:=h.get hl;rw[hi]at h1;obtain rfl:=Option.some.inj h1;rw[Acd]at hs;exact h2.one (hs _ (Zb4 hl))
theorem wH {v:Value}(h:v.oneCell'=true):v.cells=#[v]:=by cases v<;>first|rfl|(simp[Value.oneCell']at h)
theorem aB.cells {l:aR}{v:Value}(h:aB σ ρ G w l v):v.cells=#[v]:=by
 by_cases hs:Oa5 l=true
 ·exact wH (h.one hs)
 ·cases l<;>first|(simp[Oa5]at hs;done)|skip
  simp only[aB]at h
  rcases h.1 with h1|⟨rfl,-⟩
  ·exact wH h1.one
  ·rfl
theorem iG {agg:Bool}{sv:SV}{ls:List aR}{v:Value}(h:jY agg sv=some ls)(hv:bY σ ρ G w sv v):aG σ ρ G w ls v.cells.toList:=by
 unfold jY at h;split at h
 ·rename_i l
  cases agg with
  |true=>cases h
  | false =>
   obtain rfl:=Option.some.inj h;rw[aB.cells hv];simp only[aG];exact⟨v,[],rfl,hv,rfl⟩
 ·rename_i ms
  cases agg with
  |false=>cases h
  | true =>
   obtain rfl:=Option.some.inj h;obtain⟨vs,rfl,h1⟩:=hv;simpa[Value.cells] using h1
 ·cases h
def pushB (w:World)(c:Array Value)(e:TypeId):World:={ w with heap:=w.heap.push (.cells c e (0,0)) }
theorem lL {c:Array Value}{e:TypeId}{b:Nat}(h:b≠w.heap.size):(pushB w c e).heap[b]?=w.heap[b]?:=by
 unfold pushB;rw[Dcd,if_neg h]
theorem Pa5 {c:Array Value}{e:TypeId}:(pushB w c e).heap[w.heap.size]?=some (.cells c e (0,0)):=by
 unfold pushB;rw[Dcd,if_pos rfl]
theorem kX {c:Array Value}{e:TypeId}:(pushB w c e).heap.size=w.heap.size+1:=by
 unfold pushB;simp
theorem nX {c:Array Value}{e:TypeId}(j:Nat):(pushB w c e).cell? ((⟨w.heap.size,0,none⟩:Addr).add j)=c[j]?:=by
 unfold World.cell?;rw[add_block,Pa5];simp[Addr.add];split<;>simp_all
theorem wE {c:Array Value}{e:TypeId}(j:Nat):(pushB w c e).frozen? ((⟨w.heap.size,0,none⟩:Addr).add j)=false:=by
 unfold World.frozen?;rw[add_block,Pa5];simp
theorem mJ.push (h:mJ F G w)(c:Array Value)(e:TypeId){G':Gh}(ho:∀ b,b≠w.heap.size->G'.own b=G.own b\/((∃ r p,G.own b=.slc r p))):mJ F G' (pushB w c e):=by
 refine⟨h.os,h.tape,h.output,by rw[kX];have:=h.size;omega,fun b hb hf=>?_,fun b j hb hj=>?_,fun b hb=>?_⟩
 ·have cL:b≠w.heap.size:=by have:=h.size;omega
  obtain⟨h1,h2⟩:=h.keep b hb hf;refine⟨by rw[lL cL];exact h1,?_⟩
  rcases ho b cL with h3|⟨r,p,h3⟩
  ·rw[h3];exact h2
  ·rw[h3]at h2
   rw[<- h2]at hf
   rcases hf with hf|hf<;>cases hf
 ·have cL:b≠w.heap.size:=by have:=h.size;omega
  obtain⟨h1,c0,c1,e',fr,h2,h3,h4⟩:=h.boxes b j hb hj;refine⟨?_,c0,c1,e',fr,h2,by rw[lL cL];exact h3,h4⟩
  rcases ho b cL with h5|⟨r,p,h5⟩
  ·rw[h5];exact h1
  ·rw[h5]at h1;cases h1
 ·rw[kX]at hb
  have cL:b≠w.heap.size:=by omega
  rcases ho b cL with h5|⟨r,p,h5⟩
  ·rw[h5];exact h.fresh b (by omega)
  ·rw[h.fresh b (by omega)]at h5;cases h5
def zG (G:Gh)(w:World)(nb:Nat):Gh:={ G with own:=fun b=>if b=w.heap.size then .box nb else G.own b,bx:=fun b=>if b=nb then ⟨w.heap.size,0,none⟩ else G.bx b }
structure Dah (σ:Nat->Option aS) (nb nr:Nat):Prop where
 nb:σ (kB nb)=none
 nr:∀ j,nr<=j->j<nr+bU->σ (kR j)=none
theorem Ka2 {e:TypeId}{v:Value}:(newVar e v).run P w=.ok ⟨w.heap.size,0,none⟩ (pushB w v.cells e):=by
 simp[newVar,newRow,pushB]
theorem Iba {u0:List (Nat×aS)}{nb:Nat}{ls:List aR}(r:Nat)(h:∀ k c,(k,c)∈u0->∃ t,k=kT t):upds σ (u0++[(kB nb,aS.box false ls)]) (kR r)=σ (kR r):=by
 refine eP _ _ _ fun c hc=>?_
 rcases List.mem_append.1 hc with hc|hc
 ·obtain⟨t,e⟩:=h _ _ hc
  exact iM e.symm
 ·simp only[Zb0,Prod.mk.injEq]at hc
  exact fB hc.1.symm
theorem Ia6 (o:Oper)(g:Option (aK×Bool))(v:SV):∀ k c,(k,c)∈dS o g v->∃ t,k=kT t:=by
 intro k c h;unfold dS at h;split at h
 ·rename_i d _
  simp only[Zb0,Prod.mk.injEq]at h;exact⟨d,h.1⟩
 ·simp at h
theorem yQ {o:Oper}{g:Option (aK×Bool)}{v:SV}{k:Nat}{c:aS}(h:(k,c)∈dS o g v):∃ d,o.dst=some d/\k=kT d/\c=.slot g v:=by
 unfold dS at h;split at h
 ·rename_i d hd
  simp only[Zb0,Prod.mk.injEq]at h;exact⟨d,hd,h.1,h.2⟩
 ·simp at h
theorem Gab {n:Nat}{gh:Nat->Value}{v:Value}{g:Option (aK×Bool)}{sv:SV}{u1:List (Nat×aS)}{t:Nat}(h:∀ c,(kT t,c)∉dS o g sv++u1):Aa7 n (a.put o.dst v) gh t=Aa7 n a gh t:=by
 cases e:o.dst with
 |none=>rfl
 | some d =>
  refine Ga3 _ _ _ _ _ _ fun e'=>h (.slot g sv) ?_
  refine Zbp _ ?_;unfold dS;rw[e,e'];exact List.mem_singleton.2 rfl
theorem R.newBox (h:R E.ntmps F σ ρ a w G)(hd:fD E.ntmps o){nb:Nat}(hf:σ (kB nb)=none){cs:Array Value}{ty:TypeId}{ls:List aR}(hl:aG σ ρ G w ls cs.toList) :
  R E.ntmps F (upds σ (dS o none (.one (.px nb 0))++[(kB nb,.box false ls)])) ρ (a.put o.dst (.pointer (some ⟨w.heap.size,0,none⟩))) (pushB w cs ty) (zG G w nb):=by
 have cL:∀ b,G.own b≠.frz->b≠w.heap.size:=fun b hb e=>hb (h.frame.fresh b (by omega))
 have k7:=Ia6 o none (.one (.px nb 0));have hR:∀ r,upds σ (dS o none (.one (.px nb 0))++[(kB nb,aS.box false ls)]) (kR r)=σ (kR r):=fun r=>Iba r k7
 have ej:Fr σ G w (upds σ (dS o none (.one (.px nb 0))++[(kB nb,.box false ls)])) (zG G w nb) (pushB w cs ty):=by
  refine⟨fun b hb hlt=>?_,fun r k _ hv=>?_,fun r k hk=>hk.same hR,fun r k b p _ _ hb=>?_,fun r k m _ hv=>⟨?_,fun b p hb=>?_⟩,fun _ _=>rfl,fun b hb=>?_,fun k hk=>dX _ _ _ (.inl hk),fun r x m k _ b p hb=>?_⟩
  ·have hn:b≠w.heap.size:=by omega
   exact⟨by simp only[zG,if_neg hn];exact hb,lL hn⟩
  ·obtain⟨x,m,st,e,hs⟩:=hv
   exact⟨x,m,st,by rw[<- hR];exact e,hs⟩
  ·have hn:=cL b (by rw[hb];simp)
   exact⟨.inl (by simp only[zG,if_neg hn];exact hb),lL hn⟩
  ·obtain⟨x,e⟩:=hv
   exact⟨x,by rw[<- hR];exact e⟩
  ·have hn:=cL b (by rw[hb];simp)
   simp only[zG,if_neg hn];exact hb
  ·have:b≠nb:=fun e=>by rw[e,hf]at hb;cases hb
   simp only[zG,if_neg this]
  ·by_cases hn:b=w.heap.size
   ·simp only[zG,if_pos hn]at hb;cases hb
   ·simp only[zG,if_neg hn]at hb;exact hb
 refine h.upd _ ej (by rw[Baz];exact h.tmps) (by rw[put_defers];exact h.defers) (h.frame.push cs ty fun b hb=>.inl (by simp only[zG,if_neg hb])) (fun t ht=>Gab ht) (fun b ro bs hb _=>?_) (fun b bs hb hlt ho=>?_) (fun k c hk jt=>?_)
 ·obtain⟨_,h2,_⟩:=h.box hb
  have hn:=cL (G.bx b).block (by rw[h2];split<;>simp);exact⟨by simp only[zG,if_neg hn],lL hn⟩
 ·rcases List.mem_append.1 hb with hb|hb
  ·obtain⟨t,e⟩:=k7 _ _ hb
   exact absurd e.symm lQ
  ·simp only[Zb0,Prod.mk.injEq]at hb
   obtain rfl:=Caj hb.1;simp only[zG,if_true]at hlt;have:=h.frame.size;omega
 ·rcases List.mem_append.1 hk with hk|hk
  ·obtain⟨d,mA,rfl,rfl⟩:=yQ hk
   refine⟨d,rfl,fun _=>?_⟩;rw[mA,oF _ _ _ _ _ (hd d mA) h.tmps];simp only[bY,aB,zG,if_true];exact⟨by simp[Addr.add],dX _ _ _ (.inr ⟨_,Zbs _ (List.mem_singleton.2 rfl)⟩)⟩
  ·simp only[Zb0,Prod.mk.injEq]at hk
   obtain⟨rfl,rfl⟩:=hk;refine⟨nb,rfl,by simp[zG],by simp[zG],fun j l hj=>?_⟩;obtain⟨v,h1,h2⟩:=hl.get hj;refine⟨v,?_,?_,aB.mono ej l v h2⟩
   ·simp only[zG,if_true]
    rw[nX];simpa using h1
   ·simp only[zG,if_true]
    exact wE j
theorem Zap (hR:R E.ntmps F σ ρ a w G)(hd:fD E.ntmps o)(hti:vJ P E.ti){nv nb nr:Nat}{mv dq:Bool}(hf:Dah σ nb nr){e:TypeId}{x:Operand}(ho:o.op=.box e x){res:bN}
  (h:(qD E mv dq nv nb nr g o).eval σ=some res) (hs:aN cf ρ g nv res.lets):gT P E F σ ρ a w g o Q res.upd:=by
 simp only[qD,ho,aA,Zbn,tiR,aW]at h;obtain⟨ti,h1,sv,h2,h⟩:=h;split at h
 ·rename_i ls s4
  simp only[aA,Zbn,aJ]at h;obtain⟨_,h3,h⟩:=h;split at h3
  ·rename_i hb
   simp only[Zbo]at hb;obtain rfl:=wK hb.1.2;simp only[tV,aF,Option.some.injEq]at h;subst h;refine⟨fun hg=>?_,fun hg=>by simp[gOn]at hg⟩;have h4:=iG s4 (fV hR hg h2);refine nK (v:=.pointer (some ⟨w.heap.size,0,none⟩)) (w':=pushB w (a.eval x).cells e) ?_ ⟨_,hR.newBox hd hf.nb h4⟩;unfold execOp;simp only[ho];refine fM ?_;simp only[Instr.box,Sem.run_bind,Ka2,Result.andThen_ok,Sem.run_pure]
  ·cases h3
 ·cases h
theorem Mae {v:Value}{c:CK}(h:zeroCell v c=true):aB σ ρ G w (fH c) v:=by
 unfold zeroCell at h;split at h
 ·simp only[Zbo,decide_eq_true_eq]at h
  obtain⟨⟨rfl,rfl⟩,rfl⟩:=h;simp only[fH,aB,aK.val];exact .int _ _
 ·simp only[Zbo,decide_eq_true_eq]at h
  obtain⟨rfl,rfl⟩:=h;simp only[fH,aB,aK.val];exact .bool _
 ·rename_i s l
  simp only[Zbo,decide_eq_true_eq]at h;obtain⟨h1,rfl⟩:=h;simp only[fH,aB,aK.val];have:=Sc.str s.data.toList;rw[h1]at this
  have e:s=⟨[].toArray⟩:=by
   apply ByteArray.ext;apply Dce;simpa using h1
  rw[e];exact this
 ·simp only[fH,aB]
  refine⟨⟨rfl,by simp⟩,fun _=>⟨?_,fun _ z _=>trivial,trivial⟩⟩;exact .rows none ⟨0,0,none⟩ 0 0 _ [] (fun _ _=>undef) rfl (Zb2 _) (.inl rfl) (by simp) (by simp) (by simp)
 ·simp only[fH,aB]
 ·cases h
theorem Eau {v:Value}{c:CK}(h:zeroCell v c=true):v.oneCell'=true:=by
 unfold zeroCell at h;split at h<;>first|rfl|cases h
theorem cK.zeros {t:TypeId}{i:TI}{info:TypeInfo}{u:TypeDesc}(f:cK P t i info u):∃ z,info.zero=some z/\aG σ ρ G w (i.cells.map fH) z.cells.toList /\
  (∀ x∈z.cells.toList,x.oneCell'=true)/\(∀ (j:Nat) (x:Value) (c:CK),z.cells[j]?=some x->i.cells[j]?=some c->zeroCell x c=true):=by
 have h:=f.zero;unfold Uah at h;split at h
 ·rename_i vs cs heq
  simp only[Zbo,beq_iff_eq,Acd]at h;obtain⟨h1,h2⟩:=h
  have hz:∀ (j:Nat) (x:Value) (c:CK),vs[j]?=some x->i.cells[j]?=some c->zeroCell x c=true:=by
   intro j x c hx hc
   exact h2 (x,c) (Zb4 (i:=j) (by
    rw[List.getElem?_zip_eq_some];exact⟨by simpa using hx,hc⟩))
  refine⟨_,heq,.of_get (by simpa[Value.cells] using h1) fun j l v hj hv=>?_,fun x hx=>?_,hz⟩
  ·simp only[Ace,Zbz]at hj
   obtain⟨c,hc,rfl⟩:=hj;exact Mae (hz j v c (by simpa[Value.cells] using hv) hc)
  ·obtain⟨j,hj⟩:=List.mem_iff_getElem?.1 hx
   have hlt:j<i.cells.length:=by
    rw[<- h1];simpa[Value.cells] using (List.getElem?_eq_some_iff.1 hj).1
   exact Eau (hz j x _ (by simpa[Value.cells] using hj) (Zbq hlt))
 ·rename_i v c _ hz hcs
  have h1:=Eau h;refine⟨v,hz,?_,fun x hx=>?_,fun j x c' hx hc=>?_⟩
  ·rw[hcs,wH h1]
   simp only[Acg,Acm,aG];exact⟨v,[],rfl,Mae h,rfl⟩
  ·rw[wH h1]at hx
   simp only[Zb0]at hx;rw[hx];exact h1
  ·rw[wH h1]at hx
   rw[hcs]at hc
   cases j with
   | zero =>
    simp only[Zbw,Option.some.injEq]at hc;simp at hx;rw[<- hx,<- hc];exact h
   |succ j=>simp at hc
 ·cases h
theorem lK {t:TypeId}{info:TypeInfo}{z:Value}(h:P.info? t=some info)(hz:info.zero=some z):(zeroValue t).run P w=.ok z w:=by
 simp[zeroValue,typeInfo,h,hz]
theorem Sa0 (hR:R E.ntmps F σ ρ a w G)(hd:fD E.ntmps o)(hti:vJ P E.ti){nv nb nr:Nat}{mv dq:Bool}(hf:Dah σ nb nr){e:TypeId}(ho:o.op=.alloc e){res:bN}
  (h:(qD E mv dq nv nb nr g o).eval σ=some res) (hs:aN cf ρ g nv res.lets):gT P E F σ ρ a w g o Q res.upd:=by
 simp only[qD,ho,aA,Zbn,tiR,aW,aJ]at h;obtain⟨ti,h1,_,h2,h⟩:=h;split at h2
 ·rename_i hb
  obtain rfl:=wK hb;simp only[tV,aF,Option.some.injEq]at h;subst h;refine⟨fun hg=>?_,fun hg=>by simp[gOn]at hg⟩;obtain⟨info,u,f⟩:=aX (hti.ok _ _ h1);obtain⟨z,h3,h4,h5,-⟩:=f.zeros (σ:=σ) (ρ:=ρ) (G:=G) (w:=w);refine nK (v:=.pointer (some ⟨w.heap.size,0,none⟩)) (w':=pushB w z.cells e) ?_ ⟨_,hR.newBox hd hf.nb h4⟩;unfold execOp;simp only[ho];refine fM ?_;simp only[Instr.alloc,Sem.run_bind,lK f.info_ h3,Ka2,Result.andThen_ok,Sem.run_pure]
 ·cases h2
theorem kW {α:Type}{l:List α}{k:Nat}{r:List α}(h:k+r.length<=l.length):(setRange l k r).length=l.length:=by
 simp[setRange];omega
theorem iF {α:Type}{l:List α}{k:Nat}{r:List α}(h:k+r.length<=l.length)(j:Nat):(setRange l k r)[j]?=if k<=j/\j<k+r.length then r[j-k]? else l[j]?:=by
 unfold setRange;by_cases h1:j<k
 ·rw[Zbx,Zb9 (by simp;omega),Ac4,if_pos h1,if_neg (by omega)]
 ·by_cases h2:j<k+r.length
  ·rw[if_pos ⟨by omega,h2⟩,Zbx,Zb8 (by simp;omega),Zb9 (by simp;omega)]
   congr 1
   simp;omega
  ·rw[if_neg (by omega),Zb8 (by simp;omega),Acv]
   congr 1
   simp;omega
theorem Paq {α:Type}{l:List α}{k:Nat}{v:α}{r:List α}(h:k+(v::r).length<=l.length):setRange (l.set k v) (k+1) r=setRange l k (v::r):=by
 simp only[Zb1]at h;apply Cch;intro j;rw[iF (by simp;omega),iF (by simp;omega)];by_cases h1:k+1<=j/\j<k+1+r.length
 ·rw[if_pos h1,if_pos (by simp;omega),show j-k=(j-(k+1))+1 by omega,Acy]
 ·rw[if_neg h1,Bcr]
  by_cases h2:k=j
  ·subst h2
   rw[if_pos rfl,if_pos (by omega),if_pos (by simp)];simp
  ·rw[if_neg h2,if_neg (by simp;omega)]
theorem Va1 (off:Nat):∀ (vs:List Value) (k:Nat) (cells:Array Value),off+k+vs.length<=cells.size ->
  ((vs.zipIdx k).foldl (fun cs x=>cs.setIfInBounds (off+x.2) x.1) cells).toList=setRange cells.toList (off+k) vs
 |[],k,cells,h=>by simp[setRange]
 | v :: r, k, cells, h => by
  simp only[Zb1]at h;simp only[List.zipIdx_cons,Bc3];rw[Va1 off r (k+1) _ (by simp;omega),Array.toList_setIfInBounds,<- Acb,Paq (by simp;omega)]
theorem aG.setRange {ls ms:List aR}{us xs:List Value}(h:aG σ ρ G w ls us)(h':aG σ ρ G w ms xs){k:Nat}(hk:k+ms.length<=ls.length):aG σ ρ G w (setRange ls k ms) (setRange us k xs):=by
 have e1:=h.len;have e2:=h'.len;refine .of_get (by rw[kW (by omega),kW hk,e1]) fun i l v hi hv=>?_
 rw[iF hk]at hi;rw[iF (by omega)]at hv;rw[e2]at hv;split at hi
 ·rename_i hh
  rw[if_pos hh]at hv;obtain⟨v',h1,h2⟩:=h'.get hi;rw[h1]at hv;exact Option.some.inj hv▸h2
 ·rename_i hh
  rw[if_neg hh]at hv;obtain⟨v',h1,h2⟩:=h.get hi;rw[h1]at hv;exact Option.some.inj hv▸h2
theorem Rab {place:Nat->Option (Nat×Nat)}{cells:Array Value}{i off size:Nat}{v:Value}{rest:List (Nat×Value)}(hp:place i=some (off,size))(hs:v.cells.toList.length=size)(hb:off+size<=cells.size) :
  ∃ cells':Array Value,Instr.fill place cells ((i,v)::rest)=Instr.fill place cells' rest/\cells'.toList=setRange cells.toList off v.cells.toList:=by
 refine⟨v.cells.zipIdx.foldl (fun cs (x:Value×Nat)=>cs.setIfInBounds (off+x.2) x.1) cells,?_,?_⟩
 ·rw[Instr.fill,hp]
  dsimp only;have:v.cells.size=size:=by simpa using hs
  rw[if_neg];simp only[this];simp;omega
 ·have:=Va1 off v.cells.toList 0 cells (by simpa[hs] using hb)
  rw[Ack]at this;rw[<- this,<- Array.foldl_toList,Array.toList_zipIdx]
def Gaw (σ:Nat->Option aS)(ρ:List D)(G:Gh)(w:World)(a:Act):List (Nat×Operand)->List (Nat×SV)->Prop
 |[],ps=>ps=[]
 |x::xs,ps=>∃ sv qs,ps=(x.1,sv)::qs/\bY σ ρ G w sv (a.eval x.2)/\Gaw σ ρ G w a xs qs
theorem Aai (hR:R E.ntmps F σ ρ a w G)(hg:gOn ρ g=true){ty:Nat->TypeId}:∀ {xs:List (Nat×Operand)} {ps:List (Nat×SV)},(Dax E g ty xs).eval σ=some ps ->
  Gaw σ ρ G w a xs ps
 | [], ps, h => by
  simp only[Dax,aF,Option.some.injEq]at h;subst h;exact rfl
 | (i, x) :: xs, ps, h => by
  simp only[Dax,aA,Zbn,aF,Option.some.injEq]at h;obtain⟨sv,h1,l,h2,rfl⟩:=h;exact⟨sv,l,rfl,fV hR hg h1,Aai hR hg h2⟩
theorem zY {flds:List (Nat×Nat)}{place:Nat->Option (Nat×Nat)}(ob:∀ i off t f,flds[i]?=some (off,t)->E.ti t=some f->place i=some (off,f.size)) :
  ∀ {xs:List (Nat×Operand)} {ps:List (Nat×SV)},Gaw σ ρ G w a xs ps->∀ {ls jv:List aR} {us:Array Value},aG σ ρ G w ls us.toList->sK flds E.ti ls ps=some jv ->
  ∃ da,Instr.fill place us (xs.map fun x=>(x.1,a.eval x.2))=some da/\aG σ ρ G w jv da.toList
 | [], _, rfl, ls, jv, us, hl, h => by
  simp only[sK,Option.some.injEq]at h;subst h;exact⟨us,rfl,hl⟩
 | (i, x) :: xs, _, ⟨sv, ps, rfl, h1, hr⟩, ls, jv, us, hl, h => by
  unfold sK at h;split at h
  ·rename_i off t fR
   split at h
   ·rename_i f hf
    split at h
    ·rename_i vs kA
     cases hb:(Nat.beq vs.length f.size&&Nat.ble (off+f.size) ls.length) with
     |false=>rw[hb]at h;cases h
     | true =>
      rw[hb,cond_true]at h;simp only[Zbo,Acj,Ac2]at hb;have h2:=iG kA h1;have hlen:=hl.len;obtain⟨us1,h3,h4⟩:=Rab (rest:=xs.map fun x=>(x.1,a.eval x.2)) (ob _ _ _ _ fR hf) (by rw[h2.len];exact hb.1) (by rw[<- Cca,hlen];exact hb.2);obtain⟨da,h5,h6⟩:=zY ob hr (us:=us1) (by rw[h4];exact hl.setRange h2 (by rw[hb.1];exact hb.2)) h;exact⟨da,by rw[Acg,h3];exact h5,h6⟩
    ·cases h
   ·cases h
  ·cases h
theorem Bao {α β:Type}(f:α->Sem β)(g:α->β):∀ (l:List α),(∀ x∈l,(f x).run P w=.ok (g x) w)->(l.mapM f).run P w=.ok (l.map g) w
 |[],_=>by simp
 | x :: l, h => by
  rw[List.mapM_cons,Sem.run_bind,h x (by simp)];simp only[Result.andThen_ok];rw[Sem.run_bind,Bao f g l fun y hy=>h y (by simp[hy])];simp
theorem zN {α β:Type}(f:α->Sem β)(g:α->β)(l:Array α)(h:∀ x∈l.toList,(f x).run P w=.ok (g x) w):(l.mapM f).run P w=.ok (l.map g) w:=by
 rw[Array.mapM_eq_mapM_toList,map_eq_pure_bind,Sem.run_bind,Bao f g _ h];simp only[Result.andThen_ok,Sem.run_pure];congr 1;apply Dce;simp
theorem wX {α β:Type}(f:List β->α->Option (List β)):∀ (l:List α),l.foldl (fun acc x=>acc.bind fun r=>f r x) none=none
 |[]=>rfl
 |x::l=>by rw[Bc3];exact wX f l
theorem zW {α β:Type}(f:List β->α->Option (List β)):∀ (l:List α) (r0 r:List β),l.foldl (fun acc x=>acc.bind fun r=>f r x) (some r0)=some r->∀ x∈l,∃ r1 r2,f r1 x=some r2
 |[],_,_,_,x,hx=>by simp at hx
 | y :: l, r0, r, h, x, hx => by
  rw[Bc3,Zbv]at h
  cases hf:f r0 y with
  |none=>rw[hf,wX]at h;cases h
  | some r1 =>
   rcases List.mem_cons.1 hx with rfl|hx
   ·exact⟨r0,r1,hf⟩
   ·rw[hf]at h
    exact zW f l r1 r h x hx
theorem Bb3 {d:Nat}{t:TypeId}{l:List TypeId}(h:flat P d t=some l):∃ i,P.info? t=some i:=by
 cases d with
 |zero=>cases h
 | succ d =>
  unfold flat at h;unfold Program.underlying at h
  cases hi:P.info? t with
  |none=>rw[hi]at h;cases h
  |some i=>exact⟨i,rfl⟩
theorem Yah {d:Nat}{t:TypeId}{l:List TypeId}{fs:Array Field}(h:flat P (d+1) t=some l)(hu:P.underlying t=some (.struct fs)):∀ f∈fs.toList,∃ i,P.info? f.type=some i:=by
 unfold flat at h;rw[hu]at h;dsimp only at h;intro f hf;obtain⟨r1,r2,h1⟩:=zW _ _ _ _ h f hf
 cases hm:flat P d f.type with
 |none=>rw[hm]at h1;cases h1
 |some m=>exact Bb3 hm
theorem cK.struct {t:TypeId}{i:TI}{info:TypeInfo}{u:TypeDesc}(f:cK P t i info u)(h:i.agg=true):∃ fs,u=.struct fs/\∀ fd∈fs.toList,∃ i,P.info? fd.type=some i:=by
 rw[f.agg]at h;have hc:=f.cells
 cases fR:flat P 12 t with
 |none=>rw[fR]at hc;cases hc
 | some l =>
  unfold Kaj at h;split at h
  ·rename_i fs
   exact⟨fs,rfl,Yah fR f.und⟩
  ·unfold flat at fR
   rw[f.und]at fR;cases fR
  ·cases h
theorem Saz (hR:R E.ntmps F σ ρ a w G)(hd:fD E.ntmps o)(hti:vJ P E.ti){nv nb nr:Nat}{mv dq:Bool}{t:TypeId}{parts:Array (Nat×Operand)}(ho:o.op=.build t parts){res:bN}
  (h:(qD E mv dq nv nb nr g o).eval σ=some res) (hs:aN cf ρ g nv res.lets):gT P E F σ ρ a w g o Q res.upd:=by
 simp only[qD,ho,aA,Zbn,tiR,aW,aJ]at h;obtain⟨ti,h1,_,h2,ps,h3,h⟩:=h;split at h2
 ·rename_i mb
  obtain⟨info,u,f⟩:=aX (hti.ok _ _ h1);obtain⟨fs,rfl,hfs⟩:=f.struct mb;split at h
  ·rename_i ls s4
   refine dM hR hd h hs fun hg _=>?_
   obtain⟨z,h4,h5,-,-⟩:=f.zeros (σ:=σ) (ρ:=ρ) (G:=G) (w:=w)
   have ob:∀ (i off t':Nat) (f':TI),ti.flds[i]?=some (off,t')->E.ti t'=some f'->(fs.map fun fd=>(fd.offset,((P.info? fd.type).map (·.size)).getD 0))[i]?=some (off,f'.size):=by
    intro i off t' f' fR hf';obtain⟨fs',fd,e1,e2,e3,e4⟩:=Naw f fR;obtain rfl:fs=fs':=by injection e1
    obtain⟨ir,u',ff⟩:=aX (hti.ok _ _ hf');rw[Array.getElem?_map,e2,Acz,e3,e4,ff.info_];simp[ff.size]
   obtain⟨da,h6,h7⟩:=zY ob (Aai hR hg h3) (us:=z.cells) h5 s4;refine⟨.agg da,⟨da.toList,by simp,h7⟩,?_⟩;unfold execOp;simp only[ho];refine fM ?_
   have hm:=zN (P:=P) (w:=w) (fun fd:Field=>(do pure (fd.offset,<- sizeOf fd.type):Sem (Nat×Nat))) (fun fd=>(fd.offset,((P.info? fd.type).map (·.size)).getD 0)) fs (fun fd hfd=>by
    obtain⟨i,hi⟩:=hfs fd hfd;simp only[Sem.run_bind,run_sizeOf hi,Result.andThen_ok,Sem.run_pure,hi,Acz,Option.getD_some])
   unfold Instr.build;simp only[Sem.run_bind,lK f.info_ h4,Result.andThen_ok,run_underlying f.und];rw[hm];have e:(parts.map fun x=>(x.1,a.eval x.2)).toList=parts.toList.map fun x=>(x.1,a.eval x.2):=by simp
   simp only[Result.andThen_ok];rw[e,h6];rfl
  ·cases h
 ·cases h2
end
section
variable {P:Program} {E:Env} {F:bG} {σ:Nat->Option aS} {ρ:List D} {a:Act} {w w':World} {G:Gh} {g:Option (aK×Bool)} {o:Oper} {cf:Nat->List D->Option (List D)} {Q:Exit->Act->World->Prop} {next:Act->World->Prop}
theorem add_plain {b:Addr}(h:b.spot=none)(k:Nat):b.add k=⟨b.block,b.off+k,none⟩:=by
 cases b;simp only at h;subst h;unfold Addr.add;split<;>simp_all
theorem mJ.write (h:mJ F G w){B off:Nat}{vs:List Value}{ow:Ow}(ho:G.own B=ow)(hz:ow≠.frz/\ow≠.oth)
  (hb:∀ b,ow=.box b->B<F.w0.heap.size->F.own0 B=.box b->(F.rng b).1<=off/\off+vs.length<=(F.rng b).2):mJ F G (w.setCells B off vs):=by
 obtain⟨e1,e2,e3⟩:=iK B vs off w;refine⟨by rw[e1];exact h.os,by rw[e2];exact h.tape,by rw[e3];exact h.output,by rw[setCells_size];exact h.size,fun b hlt hf=>?_,fun b j hlt hj=>?_,fun b hlt=>?_⟩
 ·obtain⟨h1,h2⟩:=h.keep b hlt hf
  have cL:b≠B:=by
   rintro rfl
   rw[ho]at h2;rw[<- h2]at hf
   rcases hf with hf|hf
   ·exact hz.1 hf
   ·exact hz.2 hf
  exact⟨by rw[dB B vs off w b cL];exact h1,h2⟩
 ·obtain⟨h1,c0,c1,e,fr,h2,h3,h4,h5⟩:=h.boxes b j hlt hj
  refine⟨h1,c0,?_⟩;by_cases cL:b=B
  ·subst cL
   obtain⟨c',h6,h7,h8⟩:=Bal b vs off w c1 e fr h3;refine⟨c',e,fr,h2,h6,by rw[h7];exact h4,fun k hk=>?_⟩;have gR:ow=.box j:=by rw[<- ho];exact h1
   obtain⟨h9,cQ⟩:=hb j gR hlt hj;rw[h8 k (by omega)];exact h5 k hk
  ·exact⟨c1,e,fr,h2,by rw[dB B vs off w b cL];exact h3,h4,h5⟩
 ·rw[setCells_size]at hlt
  exact h.fresh b hlt
theorem Ja4 (hR:R E.ntmps F σ ρ a w G)(hti:vJ P E.ti){nv:Nat}{mv dq:Bool}{t:TypeId}{x y:Operand}(ho:o.op=.store t x y){ti:TI}(hi:E.ti t=some ti){b off:Nat}{ls:List aR}{sv:SV}
  (hx:gOn ρ g=true->aB σ ρ G w (.px b off) (a.eval x)) (hy:gOn ρ g=true->bY σ ρ G w sv (a.eval y)) (s4:jY ti.agg sv=some ls) {res:bN}
  (h:(Dao nv mv dq o g ti (.px b off) ls).eval σ=some res):gT P E F σ ρ a w g o Q res.upd:=by
 simp only[Dao,aA,aJ,Zbn,aU,Zbv]at h;obtain⟨_,h1,h⟩:=h;split at h1
 ·rename_i qc
  simp only[Zbo,Acj,Ccc]at qc;obtain⟨hlen,sd⟩:=qc;split at h
  ·rename_i bs hk
   simp only[aA,aJ,Zbn]at h;obtain⟨_,h2,h⟩:=h;split at h2
   ·rename_i im
    simp only[Zbo,Ac2]at im;obtain⟨⟨hle,y5⟩,aE⟩:=im;obtain rfl:=wK y5;simp only[aF,Option.some.injEq]at h;subst h;refine⟨fun hg=>?_,fun hg=>by simp[gOn]at hg⟩;obtain⟨info,u,f⟩:=aX (hti.ok _ _ hi);have hl:=iG s4 (hy hg);have lp:=hl.ones aE;have lj:=hl.len;have hpx:=hx hg;simp only[aB]at hpx;obtain⟨h3,h4,h5⟩:=hR.box hk;have h4:G.own (G.bx b).block=.box b:=by simpa using h4
    generalize kA:(a.eval y).cells.toList=vs at hl lp lj
    have bb:∀ j,off<=j->j<off+ls.length->∃ v,w.cell? ⟨(G.bx b).block,(G.bx b).off+j,none⟩=some v/\w.frozen? ⟨(G.bx b).block,(G.bx b).off+j,none⟩=false:=by
     intro j hj1 jn;have hbj:bs[j]?=some bs[j]:=Zbq (by omega);obtain⟨v,h6,h7,-⟩:=h5 j _ hbj;rw[add_plain h3]at h6 h7;exact⟨v,h6,h7⟩
    have bh:(execOp a.eval o).run P w=.ok .skip (w.setCells (G.bx b).block ((G.bx b).off+off) vs):=by
     unfold execOp;simp only[ho]
     have:=Ea4 (P:=P) (w:=w) f (b:=(G.bx b).block) (off:=(G.bx b).off+off) (v:=a.eval y) (by rw[kA];omega)
      (fun j hj=>by
       obtain⟨v,h6,-⟩:=bb (off+j) (by omega) (by omega);exact⟨v,by rw[Acb];exact h6⟩)
      (fun j hj=>by
       obtain⟨v,-,h6⟩:=bb (off+j) (by omega) (by omega);rw[Acb];exact h6) (by rw[kA];exact lp)
     simp only[Instr.storeAt,Instr.sureAddr,Sem.run_bind,hpx.1,Sem.run_pure,Result.andThen_ok,add_plain h3,this,kA]
    refine Uai bh ⟨G,?_⟩;have cL:∀ b',G.own b'≠.box b->b'≠(G.bx b).block:=fun b' hb e=>hb (by rw[e];exact h4)
    have hkR:∀ r,upds σ [(kB b,aS.box false (setRange bs off ls))] (kR r)=σ (kR r):=fun r=>by
     refine eP _ _ _ fun c hc=>?_
     simp only[Zb0,Prod.mk.injEq]at hc;exact fB hc.1.symm
    have ej:Fr σ G w (upds σ [(kB b,aS.box false (setRange bs off ls))]) G (w.setCells (G.bx b).block ((G.bx b).off+off) vs):=by
     refine⟨fun b' hb hlt=>⟨hb,dB _ _ _ _ _ (cL b' (by rw[hb];simp))⟩,fun r k _ hv=>?_,fun r k hk=>hk.same hkR,fun r k b' p _ _ hb=>⟨.inl hb,dB _ _ _ _ _ (cL b' (by rw[hb];simp))⟩,
      fun r k m _ hv=>⟨?_,fun b' p hb=>hb⟩,fun _ _=>rfl,fun _ _=>rfl,fun k hk=>dX _ _ _ (.inl hk),fun _ _ _ _ _ _ _ hb=>hb⟩
     ·obtain⟨x',m,st,e,hs⟩:=hv
      exact⟨x',m,st,by rw[<- hkR];exact e,hs⟩
     ·obtain⟨x',e⟩:=hv
      exact⟨x',by rw[<- hkR];exact e⟩
    have gw:(setRange bs off ls).length=bs.length:=kW hle;rw[sd];refine hR.upd _ ej hR.tmps hR.defers (hR.frame.write h4 (by simp) fun b' e hlt sr=>?_) (fun t _=>rfl) (fun b' ro jv de gg=>?_) (fun b' jv de hlt sr=>?_) (fun k c hk1 u5=>?_)
    ·obtain rfl:b=b':=by injection e
     have:=hR.rng b bs hk hlt sr;rw[this];dsimp only;omega
    ·refine⟨rfl,dB _ _ _ _ _ (cL _ ?_)⟩
     obtain⟨_,h6,_⟩:=hR.box de;rw[h6];split
     ·simp
     ·intro e
      obtain rfl:b'=b:=by injection e
      exact gg _ (List.mem_singleton.2 rfl)
    ·simp only[Zb0,Prod.mk.injEq,aS.box.injEq,true_and]at de
     obtain⟨e,rfl⟩:=de;obtain rfl:=Caj e;rw[gw];exact hR.rng b' bs hk hlt sr
    ·simp only[Zb0,Prod.mk.injEq]at hk1
     obtain⟨rfl,rfl⟩:=hk1;refine⟨b,rfl,h3,by simpa using h4,fun j l hj=>?_⟩;rw[iF hle]at hj;rw[World.frozen?_setCells,add_plain h3];split at hj
     ·rename_i jo
      obtain⟨v,h6,h7⟩:=hl.get hj;obtain⟨u',h8,h9⟩:=bb j jo.1 jo.2;refine⟨v,?_,h9,aB.mono ej l v h7⟩
      have:=World.cell?_setCells_in (G.bx b).block vs ((G.bx b).off+off) w (fun j' gR=>by
       obtain⟨v',cQ,-⟩:=bb (off+j') (by omega) (by omega);rw[Acb,cQ];rfl) (j-off) (by omega)
      rw[show (G.bx b).off+off+(j-off)=(G.bx b).off+j by omega]at this;rw[this,<- h6,Zbq]
     ·rename_i a2q
      obtain⟨v,h6,h7,h8⟩:=h5 j l hj;rw[add_plain h3]at h6 h7;refine⟨v,?_,h7,aB.mono ej l v h8⟩;rw[World.cell?_setCells_out _ _ _ _ _ (fun _ _=>by dsimp only;omega)];exact h6
   ·cases h2
  ·cases h
 ·cases h1
end
theorem Rp.move {own own':Nat->Ow}{w w':World}{r r':Nat}{p:List Nat}{m:Nat}{v:Value}{d:D}(h:Rp own w r p m v d)
  (hz:∀ b,own b=.frz->b<w.heap.size->own' b=.frz/\w'.heap[b]?=w.heap[b]?):∀ (p':List Nat) (m':Nat),m'<=m ->
  (∀ b t,own b=.slc r (p++t)->own' b=(if t.length<m' then .slc r' (p'++t) else .frz)/\w'.heap[b]?=w.heap[b]?)->Rp own' w' r' p' m' v d:=by
 induction h with
 |sc h=>exact fun _ _ _ _=>.sc h
 |hole v h1=>exact fun _ _ _ _=>.hole v h1
 | fz h =>
  intro p' m' hm hs;obtain rfl:m'=0:=by omega
  exact .fz (h.mono' fun b hb hlt=>hz b hb hlt)
 | sl A a n c sz rs vs hn hc hA df az bb cq ih =>
  rename_i p m;intro p' m' hm hs
  have hlt:∀ i row,rs[i]?=some row->i<rs.length:=fun i row hi=>by
   rcases Aca i rs.length with h|h
   ·exact h
   ·simp[List.getElem?_eq_none h]at hi
  have yd:∀ i row,rs[i]?=some row->A=some a:=fun i row hi=>by
   rcases hA with e|⟨e,e'⟩
   ·exact e
   ·have:=hlt i row hi;omega
  cases m' with
  | zero =>
   refine .fz (.rows A a n c sz rs vs hn hc ?_ df (fun i row hi j d hj=>?_) (fun i row hi j d hj=>?_))
   ·rcases hA with e|⟨e,e'⟩
    ·exact .inr e
    ·exact .inl (by omega)
   ·obtain⟨h1,h2⟩:=hs a.block [] (by simpa using (az (yd i row hi)).2.1)
    refine⟨by simpa using h1,?_⟩;exact (eU (w:=w) (w':=w') (by rw[add_block];exact h2)).trans (bb i row hi j d hj)
   ·exact (ih i row hi j d hj [] 0 (Nat.zero_le _) (fun b t hb=>by
     have:=hs b ([i*sz+j]++t) (by rw[<- Zbx];exact hb);simpa using this)).zero
  | succ m' =>
   refine .sl A a n c sz rs vs hn hc hA df (fun e=>?_) (fun i row hi j d hj=>?_) (fun i row hi j d hj=>?_)
   ·obtain⟨h1,h2,h3⟩:=az e
    obtain⟨h4,h5⟩:=hs a.block [] (by simpa using h2);refine⟨h1,by simpa using h4,fun k hk=>?_⟩;obtain⟨u,hu,hf⟩:=h3 k hk;exact⟨u,(eU (w:=w) (w':=w') (by rw[add_block];exact h5)).trans hu,(kN (w:=w) (w':=w') (by rw[add_block];exact h5)).trans hf⟩
   ·obtain⟨h1,h2⟩:=hs a.block [] (by simpa using (az (yd i row hi)).2.1)
    exact (eU (w:=w) (w':=w') (by rw[add_block];exact h2)).trans (bb i row hi j d hj)
   ·refine ih i row hi j d hj (p'++[i*sz+j]) m' (by omega) (fun b t hb=>?_)
    have:=hs b ([i*sz+j]++t) (by rw[<- Zbx];exact hb);simp only[Zbt,Ac3]at this;rw[<- Zbx]at this;refine⟨?_,this.2⟩;rw[this.1];by_cases ht:t.length<m'
    ·rw[if_pos ht,if_pos (by omega)]
    ·rw[if_neg ht,if_neg (by omega)]
inductive Upd:List Nat->D->D->D->Prop
 |here (x y:D):Upd [] x y y
 | down (sz : Nat) (rs : List (List D)) (i j : Nat) (row : List D) (z z' y : D) (p : List Nat) (hi : rs[i]? = some row) (hj : row[j]? = some z)
   (h:Upd p z y z'):Upd ((i*sz+j)::p) (.rows sz rs) y (.rows sz (rs.set i (row.set j z')))
theorem Ibz {i j i' j' sz:Nat}(hj:j<sz)(gR:j'<sz)(h:i*sz+j=i'*sz+j'):i=i'/\j=j':=by
 have h1:(i*sz+j) / sz=i:=by
  rw[Cc0,Nat.mul_add_div (by omega),Cc4 hj,Ack]
 have h2:(i'*sz+j') / sz=i':=by
  rw[Cc0,Nat.mul_add_div (by omega),Cc4 gR,Ack]
 rw[h,h2]at h1;subst h1;exact⟨rfl,by omega⟩
theorem Rp.sl_inv {own:Nat->Ow}{w:World}{r:Nat}{p:List Nat}{m:Nat}{v:Value}{sz:Nat}{rs:List (List D)}(h:Rp own w r p (m+1) v (.rows sz rs)) :
  ∃ (A:Option Addr) (a:Addr) (n c:Nat) (vs:Nat->Nat->Value),v=.slice A n c/\rs.length=n/\n<=c/\(A=some a\/(A=none/\c=0))/\(∀ r∈rs,r.length=sz) /\
   (A=some a->a.spot=none/\own a.block=.slc r p/\∀ k,k<c*sz->∃ u,w.cell? (a.add k)=some u/\w.frozen? (a.add k)=false) /\
   (∀ i row,rs[i]?=some row->∀ j d,row[j]?=some d->w.cell? (a.add (i*sz+j))=some (vs i j)) /\
   (∀ i row,rs[i]?=some row->∀ j d,row[j]?=some d->Rp own w r (p++[i*sz+j]) m (vs i j) d):=by
 cases h with
 |sc h=>cases h
 |sl A a n c sz rs vs hn hc hA df az bb cq=>exact⟨A,a,n,c,vs,rfl,hn,hc,hA,df,az,bb,cq⟩
theorem Rp.upd {own own':Nat->Ow}{w w':World}{r M':Nat}{full:List Nat}{y:D}{u:Value}
  (hz:∀ b,own b=.frz->b<w.heap.size->own' b=.frz/\w'.heap[b]?=w.heap[b]?)
  (hs:∀ b t,own b=.slc r t->¬ full <+: t->own' b=(if t.length<M' then .slc r t else .frz)/\w'.heap[b]?=w.heap[b]?)
  (hM:full.length<=M') (gn:Rp own' w' r full (M'-full.length) u y) :
  ∀ (p q:List Nat) (M:Nat) (v:Value) (x x':D),full=q++p->M'<=M->Rp own w r q (M-q.length) v x->zI own w r q v p u->Upd p x y x'->Rp own' w' r q (M'-q.length) v x'
 | [], q, M, v, x, x', hf, hMM, hx, hn, hu => by
  cases hu;simp only[zI]at hn;rw[Acf]at hf;subst hf hn;exact gn
 | k :: p, q, M, v, x, x', hf, hMM, hx, hn, hu => by
  generalize hk:k::p=kp at hu
  cases hu with
  |here=>cases hk
  | down sz rs i j row z z' y p' hi hj hu =>
   obtain⟨rfl,rfl⟩:=List.cons.inj hk;have hlen:full.length=q.length+(p.length+1):=by rw[hf];simp
   obtain⟨m,hm⟩:∃ m,M-q.length=m+1:=⟨M-q.length-1,by omega⟩;obtain⟨m',oz⟩:∃ m',M'-q.length=m'+1:=⟨M'-q.length-1,by omega⟩;rw[hm]at hx;rw[oz];obtain⟨A,a,n,c,vs,rfl,h1,h2,h3,h4,h5,h6,h7⟩:=hx.sl_inv;have lg:i<rs.length:=(List.getElem?_eq_some_iff.1 hi).1
   have hA:A=some a:=by
    rcases h3 with e|⟨e,e'⟩
    ·exact e
    ·omega
   subst hA;obtain⟨h8,h9,cQ⟩:=h5 rfl;obtain⟨a',n',c',u',e1,e2,e3,e4⟩:=hn;obtain⟨rfl,rfl,rfl⟩:a=a'/\n=n'/\c=c':=by injection e1 with a b c;exact⟨Option.some.inj a,b,c⟩
   have gA:=h6 i row hi j z hj;rw[gA]at e3;obtain rfl:=Option.some.inj e3
   have hq:¬ full <+: q:=by
    intro e;have:=e.length_le;omega
   obtain⟨fv,b7⟩:=hs _ _ h9 hq;rw[if_pos (by omega)]at fv;have fu:∀ k,w'.cell? (a.add k)=w.cell? (a.add k):=fun k=>eU (w:=w) (w':=w') (by rw[add_block];exact b7)
   have qi:∀ k,w'.frozen? (a.add k)=w.frozen? (a.add k):=fun k=>kN (w:=w) (w':=w') (by rw[add_block];exact b7)
   have cq:=Rp.upd hz hs hM gn p (q++[i*sz+j]) M (vs i j) z z' (by rw[hf];simp) hMM (by
    have:=h7 i row hi j z hj;rwa[show M-(q++[i*sz+j]).length=m by simp;omega]) e4 hu
   rw[show M'-(q++[i*sz+j]).length=m' by simp;omega]at cq;have j9:row.length=sz:=h4 row (Zb4 hi);have hlt:j<sz:=by rw[<- j9];exact (List.getElem?_eq_some_iff.1 hj).1
   have mN:∀ i' eW,(rs.set i (row.set j z'))[i']?=some eW->∀ j' d,eW[j']?=some d->(i'=i/\j'=j/\d=z')\/(∃ row0,rs[i']?=some row0/\row0[j']?=some d/\¬ (i'=i/\j'=j)):=by
    intro i' eW eS j' d gR;rw[Bcr]at eS;by_cases q0:i=i'
    ·subst q0
     rw[if_pos rfl,if_pos lg]at eS;obtain rfl:=Option.some.inj eS;rw[Bcr]at gR;by_cases v8:j=j'
     ·subst v8
      rw[if_pos rfl,if_pos (by omega)]at gR;exact .inl ⟨rfl,rfl,(Option.some.inj gR).symm⟩
     ·rw[if_neg v8]at gR
      exact .inr ⟨row,hi,gR,fun e=>v8 e.2.symm⟩
    ·rw[if_neg q0]at eS
     exact .inr ⟨eW,eS,gR,fun e=>q0 e.1.symm⟩
   refine .sl _ a n c sz _ vs (by simpa using h1) h2 (.inl rfl) (fun eW hr=>?_) (fun _=>⟨h8,fv,fun k hk=>?_⟩) (fun i' eW eS j' d gR=>?_) (fun i' eW eS j' d gR=>?_)
   ·rcases Cck hr with hr|rfl
    ·exact h4 _ hr
    ·simpa using j9
   ·rw[fu,qi]
    exact cQ k hk
   ·rw[fu]
    rcases mN i' eW eS j' d gR with ⟨rfl,rfl,rfl⟩|⟨row0,dz,fy,-⟩
    ·exact gA
    ·exact h6 _ _ dz _ _ fy
   ·rcases mN i' eW eS j' d gR with ⟨rfl,rfl,rfl⟩|⟨row0,dz,fy,cL⟩
    ·exact cq
    ·refine (h7 _ _ dz _ _ fy).move hz _ m' (by omega) fun b t hb=>?_
     have hnp:¬ full <+: q++[i'*sz+j']++t:=by
      intro e;rw[hf,Zbx,List.prefix_append_right_inj]at e;have e':=(List.cons_prefix_cons.1 e).1
      have vt:j'<sz:=by
       have:=(List.getElem?_eq_some_iff.1 fy).1;rw[h4 row0 (Zb4 dz)]at this;exact this
      obtain⟨mm,mL⟩:=Ibz vt hlt e'.symm;exact cL ⟨mm,mL⟩
     obtain⟨iq,ko⟩:=hs b _ hb hnp;simp only[Zbt,Ac3]at iq;refine⟨?_,ko⟩;rw[iq];by_cases ht:t.length<m'
     ·rw[if_pos ht,if_pos (by omega)]
     ·rw[if_neg ht,if_neg (by omega)]
theorem vL:∀ (l:List Step) (n:Nat),l.foldl (fun s x=>s+x.n) n=n+bH l
 |[],n=>rfl
 | s :: l, n => by
  simp only[bH,Bc3];rw[vL l (n+s.n),vL l (0+s.n)];omega
theorem iJ (s:Step)(l:List Step):bH (s::l)=s.n+bH l:=by
 show (s::l).foldl (fun s x=>s+x.n) 0=_
 rw[Bc3,vL];omega
theorem fA:∀ (l m:List Step),bH (l++m)=bH l+bH m
 |[],m=>by simp[bH]
 |s::l,m=>by rw[Bcq,iJ,iJ,fA l m];omega
section
variable {ρ:List D} {g:Option (aK×Bool)} {cf:Nat->List D->Option (List D)}
theorem aN.append:∀ {l m:List Step} {nv:Nat},aN cf ρ g nv (l++m)->aN cf ρ g nv l/\aN cf ρ g (nv+bH l) m
 |[],m,nv,h=>⟨trivial,h⟩
 | s :: l, m, nv, h => by
  obtain⟨h1,h2⟩:=h;obtain⟨h3,h4⟩:=aN.append h2;exact⟨⟨h1,h3⟩,by rw[iJ,<- Acb];exact h4⟩
theorem Sa1 {sz off n:Nat}{x i:D}{vs ds:List D}(h:(aT.set sz off n).run (x::i::vs)=some ds) :
  ∃ rs k iv row,x=.rows sz rs/\i=.int k iv/\0<=iv/\rs[iv.toNat]?=some row/\off+n<=row.length/\vs.length=n/\ds=[.rows sz (rs.set iv.toNat (row.take off++vs++row.drop (off+n)))]:=by
 cases x<;>cases i<;>simp only[aT.run]at h<;>first|cases h|skip
 rename_i pd rs k iv;split at h
 ·rename_i h1
  obtain⟨rfl,h1⟩:=h1;split at h
  ·rename_i row hr
   split at h
   ·rename_i h2
    simp only[Option.some.injEq]at h;exact⟨rs,k,iv,row,rfl,rfl,h1,hr,h2.1,h2.2,h.symm⟩
   ·cases h
  ·cases h
 ·cases h
theorem take_set {α:Type}{l:List α}{k:Nat}{x:α}(h:k<l.length):l.take k++[x]++l.drop (k+1)=l.set k x:=by
 apply Cch;intro j;rw[Bcr];by_cases h1:j<k
 ·rw[Zbx,Zb9 (by simp;omega),Ac4,if_pos h1,if_neg (by omega)]
 ·by_cases h2:k=j
  ·subst h2
   rw[if_pos rfl,if_pos h,Zbx,Zb8 (by simp;omega)];simp[Nat.min_eq_left (Nat.le_of_lt h)]
  ·rw[if_neg h2,Zb8 (by simp;omega),Acv]
   congr 1
   simp;omega
theorem Ba6 (hg:gOn ρ g=true):∀ (q:List (aK×Nat×Nat)) (nv:Nat) (X y:aK),aN cf ρ g nv (Nab nv X q y).1->Upd (bB ρ q) (X.val ρ) (y.val ρ) ((Nab nv X q y).2.val ρ)
 |[],nv,X,y,_=>.here _ _
 | (i, sz, off) :: p, nv, X, y, h => by
  have hpv:bB ρ ((i,sz,off)::p)=(kY ρ i*sz+off)::bB ρ p:=rfl;rw[hpv]
  cases p with
  | nil =>
   simp only[Nab]at h ⊢;obtain⟨d,h1,h2⟩:=Ba5 h.1 hg;simp only[Acg,Acm]at h1;obtain⟨rs,k,iv,row,e1,e2,e3,e4,e5,e6,e7⟩:=Sa1 h1;simp only[List.cons.injEq,and_true]at e7;have hi:kY ρ i=iv.toNat:=by simp[kY,e2]
   rw[e1,hi,h2,e7,take_set (by omega)];exact .down sz rs iv.toNat off row _ _ _ _ e4 (Zbq (by omega)) (.here _ _)
  | cons z p =>
   have cL:Nab nv X ((i,sz,off)::z::p) y =
     ([.prim (.row sz off [false]) [X,i] 1]++(Nab (nv+1) (.v nv) (z::p) y).1++[.prim (.set sz off 1) [X,i,(Nab (nv+1) (.v nv) (z::p) y).2] 1],.v (nv+1+bH (Nab (nv+1) (.v nv) (z::p) y).1)):=rfl
   rw[cL]at h ⊢;obtain⟨h1,h2⟩:=aN.append h;obtain⟨h3,h4⟩:=aN.append h1;obtain⟨d,h5,h6⟩:=Ba5 h3.1 hg;have uy:bH [Step.prim (.row sz off [false]) [X,i] 1]=1:=rfl;rw[uy]at h4;rw[fA,uy,<- Acb]at h2;have ih:=Ba6 hg (z::p) (nv+1) (.v nv) y h4;obtain⟨d',h7,h8⟩:=Ba5 h2.1 hg;simp only[Acg,Acm]at h5 h7;obtain⟨rs,k,iv,row,e1,e2,e3,e4,e5,e6,e7⟩:=Sa1 h7;obtain⟨rs',k',iv',eW,f1,f2,f3,f4,f5,f6,f7⟩:=Za0 h5;rw[e1]at f1;obtain rfl:rs=rs':=by injection f1
   rw[e2]at f2;obtain⟨rfl,rfl⟩:k=k'/\iv=iv':=by injection f2 with a b;exact⟨a,b⟩
   rw[e4]at f4;obtain rfl:=Option.some.inj f4;simp only[List.cons.injEq,and_true]at e7;have hi:kY ρ i=iv.toNat:=by simp[kY,e2]
   have hz:row[off]?=some ((aK.v nv).val ρ):=by
    rw[h6]
    have:((row.drop off).take 1)[0]?=some d:=by
     rw[show [false].length=1 from rfl]at f7;rw[<- f7];rfl
    rw[Ac4,if_pos (by omega),Acv]at this;simpa using this
   rw[e1,hi,h8,e7,take_set (by omega)];exact .down sz rs iv.toNat off row _ _ _ _ e4 hz ih
end
section
variable {P:Program} {E:Env} {F:bG} {n:Nat} {σ:Nat->Option aS} {ρ:List D} {a:Act} {w w':World} {G G':Gh} {g:Option (aK×Bool)} {o:Oper} {cf:Nat->List D->Option (List D)} {Q:Exit->Act->World->Prop} {next:Act->World->Prop}
def Chg (σ:Nat->Option aS)(G:Gh)(w:World)(G':Gh)(w':World)(r:Nat)(c:aS):Prop :=
 (σ (kR r)=none/\∃ x m bc st,c=.root x m bc st) \/
 (∃ x m bc x' m',σ (kR r)=some (.root x m bc .live)/\c=.root x' m' (bc+1) .live) \/
 (∃ x m bc st,c=.root x m bc st/\st≠.live/\st≠.frozen) \/
 (∃ x m bc,σ (kR r)=some (.root x m bc .live)/\c=.root x m bc .frozen/\∀ b p,G.own b=.slc r p->G'.own b=.frz/\w'.heap[b]?=w.heap[b]?)
theorem Ya9 (u:List (Nat×aS))(σ:Nat->Option aS)(k:Nat)(h:∃ c,(k,c)∈u):∃ c,(k,c)∈u/\upds σ u k=some c:=by
 have h1:=dX u σ k (.inr h);obtain⟨c,hc⟩:=Option.isSome_iff_exists.1 h1
 rcases pX u σ k c hc with h2|⟨h2,-⟩
 ·exact⟨c,h2,hc⟩
 ·obtain⟨c',gy⟩:=h
  exact absurd gy (h2 c')
theorem Fr.of {u:List (Nat×aS)}(y9:∀ b,G.own b=.frz->b<w.heap.size->G'.own b=.frz/\w'.heap[b]?=w.heap[b]?)
  (y3:∀ r b p,(∀ c,(kR r,c)∉u)->G.own b=.slc r p->G'.own b=.slc r p/\w'.heap[b]?=w.heap[b]?)
  (hch:∀ r c,(kR r,c)∈u->upds σ u (kR r)=some c->Chg σ G w G' w' r c)
  (pw:∀ r x m k,σ (kR r)=some (.root x m k .frozen)->∀ b p,G'.own b=.slc r p->G.own b=.slc r p)
  (sR:∀ r,(σ (kR r)).isSome->G'.hdr r=G.hdr r) (gb:∀ b,(σ (kB b)).isSome->G'.bx b=G.bx b):Fr σ G w (upds σ u) G' w':=by
 have mh:∀ r,(∀ c,(kR r,c)∉u)\/∃ c,(kR r,c)∈u/\upds σ u (kR r)=some c/\Chg σ G w G' w' r c:=by
  intro r;by_cases h:∃ c,(kR r,c)∈u
  ·obtain⟨c,h1,h2⟩:=Ya9 u σ (kR r) h
   exact .inr ⟨c,h1,h2,hch r c h1 h2⟩
  ·exact .inl fun c hc=>h ⟨c,hc⟩
 have dm:∀ r k,jB σ r k->lY (upds σ u) r k->lY σ r k:=by
  intro r k hk hv
  rcases mh r with h|⟨c,h1,h2,h3⟩
  ·obtain⟨x,m,st,e,hs⟩:=hv
   rw[eP u σ _ h]at e;exact⟨x,m,st,e,hs⟩
  ·obtain⟨x,m,st,e,hs⟩:=hv
   rw[h2]at e;obtain rfl:=Option.some.inj e;obtain⟨x0,m0,v0,st0,e0,zw⟩:=hk
   rcases h3 with ⟨h4,-⟩|⟨x1,m1,v1,x2,m2,h4,h5⟩|⟨x1,m1,v1,st1,h5,h6,h7⟩|⟨x1,m1,v1,h4,h5,-⟩
   ·rw[h4]at e0;cases e0
   ·rw[h4]at e0
    injection e0 with e0
    injection e0 with i1 i2 i3 i4
    injection h5 with j1 j2 j3 j4
    have:=zw (.inl i4.symm);omega
   ·injection h5 with j1 j2 j3 j4
    rw[j4]at hs
    rcases hs with hs|hs
    ·exact absurd hs h6
    ·exact absurd hs h7
   ·injection h5 with j1 j2 j3 j4
    exact⟨x1,m1,.live,by rw[h4,j3],.inl rfl⟩
 refine⟨y9,dm,fun r k hk=>?_,fun r k b p hv zy hb=>?_,fun r k m hk hl=>?_,sR,gb,fun k hk=>dX _ _ _ (.inl hk),pw⟩
 ·rcases mh r with h|⟨c,h1,h2,h3⟩
  ·obtain⟨x,m,bc,st,e,hs⟩:=hk
   exact⟨x,m,bc,st,by rw[eP u σ _ h];exact e,hs⟩
  ·obtain⟨x0,m0,v0,st0,e0,zw⟩:=hk
   rcases h3 with ⟨h4,-⟩|⟨x1,m1,v1,x2,m2,h4,h5⟩|⟨x1,m1,v1,st1,h5,h6,h7⟩|⟨x1,m1,v1,h4,h5,-⟩
   ·rw[h4]at e0;cases e0
   ·rw[h4]at e0
    injection e0 with e0
    injection e0 with i1 i2 i3 i4
    have:=zw (.inl i4.symm);exact⟨_,_,_,_,by rw[h2,h5],fun _=>by omega⟩
   ·exact⟨_,_,_,_,by rw[h2,h5],fun hs=>by rcases hs with hs|hs<;>contradiction⟩
   ·rw[h4]at e0
    injection e0 with e0
    injection e0 with i1 i2 i3 i4
    have:=zw (.inl i4.symm);exact⟨_,_,_,_,by rw[h2,h5],fun _=>by omega⟩
 ·rcases mh r with h|⟨c,h1,h2,h3⟩
  ·exact⟨.inl (y3 r b p h hb).1,(y3 r b p h hb).2⟩
  ·obtain⟨x,m,st,e,hs⟩:=hv
   obtain⟨x',m',ve,e',ju⟩:=zy;rw[h2]at e';obtain rfl:=Option.some.inj e'
   rcases h3 with ⟨h4,-⟩|⟨x1,m1,v1,x2,m2,h4,h5⟩|⟨x1,m1,v1,st1,h5,h6,h7⟩|⟨x1,m1,v1,h4,h5,h6⟩
   ·rw[h4]at e;cases e
   ·rw[h4]at e
    injection e with e
    injection e with i1 i2 i3 i4
    injection h5 with j1 j2 j3 j4
    omega
   ·injection h5 with j1 j2 j3 j4
    rw[j4]at ju
    rcases ju with hs|hs
    ·exact absurd hs h6
    ·exact absurd hs h7
   ·exact⟨.inr (h6 b p hb).1,(h6 b p hb).2⟩
 ·rcases mh r with h|⟨c,h1,h2,h3⟩
  ·obtain⟨x,e⟩:=hl
   rw[eP u σ _ h]at e;exact⟨⟨x,e⟩,fun b p hb=>(y3 r b p h hb).1⟩
  ·obtain⟨x,e⟩:=hl
   rw[h2]at e;obtain rfl:=Option.some.inj e;obtain⟨x0,m0,v0,st0,e0,zw⟩:=hk
   rcases h3 with ⟨h4,-⟩|⟨x1,m1,v1,x2,m2,h4,h5⟩|⟨x1,m1,v1,st1,h5,h6,h7⟩|⟨x1,m1,v1,h4,h5,-⟩
   ·rw[h4]at e0;cases e0
   ·rw[h4]at e0
    injection e0 with e0
    injection e0 with i1 i2 i3 i4
    injection h5 with j1 j2 j3 j4
    have:=zw (.inl i4.symm);omega
   ·injection h5 with j1 j2 j3 j4
    exact absurd j4.symm h6
   ·injection h5 with j1 j2 j3 j4
    cases j4
def mP (f:Nat->List Nat->Ow):Ow->Ow
 |.slc s p=>f s p
 |o=>o
theorem R.own (h:R E.ntmps F σ ρ a w G)(hd:fD E.ntmps o){sv:SV}{v:Value}{ur:List (Nat×aS)}{f:Nat->List Nat->Ow}{wr:Nat->Prop}
  (hu:∀ k c,(k,c)∈ur->∃ r,k=kR r)
  (az:∀ b,b<w.heap.size->G'.own b=mP f (G.own b)) (a0f:∀ b,w'.heap.size<=b->G'.own b=.frz)
  (ma:w'.os=w.os/\w'.tape=w.tape/\w'.output=w.output/\w.heap.size<=w'.heap.size)
  (v7:∀ b,w.heap.size<=b->G'.own b=.frz\/∃ r p,G'.own b=.slc r p/\σ (kR r)=none)
  (b7:∀ b,b<w.heap.size->¬ wr b->w'.heap[b]?=w.heap[b]?) (hwr:∀ b,wr b->∃ r p,G.own b=.slc r p/\∃ c,(kR r,c)∈ur)
  (y3:∀ b r p,G.own b=.slc r p->(∀ c,(kR r,c)∉ur)->f r p=.slc r p)
  (hch:∀ r c,(kR r,c)∈ur->upds σ (dS o g sv++ur) (kR r)=some c->Chg σ G w G' w' r c)
  (pw:∀ r x m k,σ (kR r)=some (.root x m k .frozen)->∀ s p q,f s p=.slc r q->s=r/\p=q)
  (sR:∀ r,(σ (kR r)).isSome->G'.hdr r=G.hdr r) (gb:G'.bx=G.bx)
  (dm:Fr σ G w (upds σ (dS o g sv++ur)) G' w'->gOn ρ g=true->bY (upds σ (dS o g sv++ur)) ρ G' w' sv v)
  (eV:Fr σ G w (upds σ (dS o g sv++ur)) G' w'->∀ r c,(kR r,c)∈ur->upds σ (dS o g sv++ur) (kR r)=some c->∃ x m bc st,c=.root x m bc st/\bP (upds σ (dS o g sv++ur)) ρ G' w' r x m st) :
  R E.ntmps F (upds σ (dS o g sv++ur)) ρ (a.put o.dst v) w' G':=by
 have k7:=Ia6 o g sv
 have jo:∀ r c,(kR r,c)∈dS o g sv++ur->(kR r,c)∈ur:=by
  intro r c hc
  rcases List.mem_append.1 hc with hc|hc
  ·obtain⟨t,e⟩:=k7 _ _ hc
   exact absurd e.symm iM
  ·exact hc
 have mz:∀ b r p,G.own b=.slc r p->b<w.heap.size:=fun b r p hb=>by
  rcases Aca b w.heap.size with h1|h1
  ·exact h1
  ·rw[h.frame.fresh b h1]at hb;cases hb
 have rj:∀ b,b<w.heap.size->(∀ r p,G.own b≠.slc r p)->G'.own b=G.own b/\w'.heap[b]?=w.heap[b]?:=fun b hlt hb=>by
  refine⟨?_,b7 b hlt fun hw=>?_⟩
  ·rw[az b hlt]
   unfold mP;split
   ·rename_i s p e
    exact absurd e (hb s p)
   ·rfl
  ·obtain⟨r,p,e,-⟩:=hwr b hw
   exact hb r p e
 have ej:Fr σ G w (upds σ (dS o g sv++ur)) G' w':=by
  refine Fr.of (fun b hb hlt=>?_) (fun r b p gg hb=>?_) (fun r c hc gy=>hch r c (jo r c hc) gy) (fun r x m k hk b p hb=>?_) sR (fun b _=>by rw[gb])
  ·obtain⟨h1,h2⟩:=rj b hlt (by rw[hb];simp)
   exact⟨h1.trans hb,h2⟩
  ·have hlt:=mz b r p hb
   have xo:∀ c,(kR r,c)∉ur:=fun c hc=>gg c (Zbs _ hc)
   refine⟨by rw[az b hlt,hb];exact y3 b r p hb xo,b7 b hlt fun hw=>?_⟩;obtain⟨r',p',e,c,hc⟩:=hwr b hw;rw[hb]at e
   injection e with e1 e2
   subst e1;exact xo c hc
  ·rcases Aca b w.heap.size with hlt|hlt
   ·rw[az b hlt]at hb
    cases e:G.own b with
    | slc s q =>
     rw[e]at hb;obtain⟨rfl,rfl⟩:=pw r x m k hk s q p hb;rfl
    |_=>rw[e]at hb;exact hb
   ·rcases v7 b hlt with e|⟨r',p',e,hn⟩
    ·rw[e]at hb;cases hb
    ·rw[e]at hb
     injection hb with e1 e2
     subst e1;rw[hn]at hk;cases hk
 refine h.upd _ ej (by rw[Baz];exact h.tmps) (by rw[put_defers];exact h.defers) ?_ (fun t ht=>Gab ht) (fun b ro bs hb _=>?_) (fun b bs hb hlt ho=>?_) (fun k c hk jt=>?_)
 ·obtain⟨e1,e2,e3,e4⟩:=ma
  refine⟨e1.trans h.frame.os,e2.trans h.frame.tape,e3.trans h.frame.output,by have:=h.frame.size;omega,fun b hlt hf=>?_,fun b j hlt hj=>?_,a0f⟩
  ·obtain⟨h1,h2⟩:=h.frame.keep b hlt hf
   obtain⟨h3,h4⟩:=rj b (by have:=h.frame.size;omega) (fun r p e=>by
    rw[e]at h2;rw[<- h2]at hf
    rcases hf with hf|hf<;>cases hf)
   exact⟨h4.trans h1,h3.trans h2⟩
  ·obtain⟨h1,c0,c1,e,fr,h2,h3,h4⟩:=h.frame.boxes b j hlt hj
   obtain⟨h5,h6⟩:=rj b (by have:=h.frame.size;omega) (by rw[h1];simp);exact⟨h5.trans h1,c0,c1,e,fr,h2,h6.trans h3,h4⟩
 ·obtain⟨_,h2,h3⟩:=h.box hb
  rcases Aca (G.bx b).block w.heap.size with hlt|hlt
  ·exact rj _ hlt (by rw[h2];split<;>simp)
  ·rw[h.frame.fresh _ hlt]at h2
   split at h2<;>cases h2
 ·rcases List.mem_append.1 hb with hb|hb
  ·obtain⟨t,e⟩:=k7 _ _ hb
   exact absurd e.symm lQ
  ·obtain⟨r,e⟩:=hu _ _ hb
   exact absurd e fB
 ·rcases List.mem_append.1 hk with hk|hk
  ·obtain⟨d,mA,rfl,rfl⟩:=yQ hk
   refine⟨d,rfl,fun hg=>?_⟩;rw[mA,oF _ _ _ _ _ (hd d mA) h.tmps];exact dm ej hg
  ·obtain⟨r,rfl⟩:=hu _ _ hk
   obtain⟨x,m,bc,st,rfl,vd⟩:=eV ej r c hk jt;exact⟨r,rfl,by rw[jt];rfl,vd⟩
end
section
variable {P:Program} {E:Env} {F:bG} {n:Nat} {σ:Nat->Option aS} {ρ:List D} {a:Act} {w w':World} {G G':Gh} {g:Option (aK×Bool)} {o:Oper} {cf:Nat->List D->Option (List D)} {Q:Exit->Act->World->Prop} {next:Act->World->Prop}
inductive Jav (σ:Nat->Option aS) (ρ:List D) (G:Gh) (w:World) (pu:Put) (off:Nat) (v:Value) (x:aK):Prop
 |sc (h:Sc v (x.val ρ))
 |nil (z:Nat) (hx:x.val ρ=.rows z []) (hv:v=.slice none 0 0)
 |mv (r m bc:Nat) (hm:(off,r,m)∈pu.moves) (hr:σ (kR r)=some (.root x m bc .live)) (hv:v=G.hdr r) (hd:pu.depth<=m)
 |hole (r k m:Nat) (q:List (aK×Nat×Nat)) (hm:(off,r,q)∈pu.holes) (hl:yZ σ r k m) (hq:q.length+1<=m) (fg:Rp G.own w r (bB ρ q) (m-q.length) v (x.val ρ)) (hn:zI G.own w r [] (G.hdr r) (bB ρ q) v) (hd:pu.depth<=m-q.length)
 |fz (hd:pu.depth=0) (h:Rd (fun b=>G.own b=.frz\/∃ r p,r∈pu.frz/\G.own b=.slc r p) w v (x.val ρ))
theorem Jav.left {A B:Put}{off:Nat}{v:Value}{x:aK}(h:Jav σ ρ G w A off v x):Jav σ ρ G w ⟨A.xs++B.xs,A.moves++B.moves,A.holes++B.holes,A.frz++B.frz,min A.depth B.depth⟩ off v x:=by
 cases h with
 |sc h=>exact .sc h
 |nil z hx hv=>exact .nil z hx hv
 |mv r m bc hm hr hv hd=>exact .mv r m bc (Zbp _ hm) hr hv (by dsimp only;omega)
 |hole r k m q hm hl hq fg hn hd=>exact .hole r k m q (Zbp _ hm) hl hq fg hn (by dsimp only;omega)
 |fz hd h=>exact .fz (by dsimp only;omega) (h.mono fun b hb=>⟨hb.imp id fun ⟨r,p,h1,h2⟩=>⟨r,p,Zbp _ h1,h2⟩,rfl⟩)
theorem Jav.right {A B:Put}{off:Nat}{v:Value}{x:aK}(h:Jav σ ρ G w B off v x):Jav σ ρ G w ⟨A.xs++B.xs,A.moves++B.moves,A.holes++B.holes,A.frz++B.frz,min A.depth B.depth⟩ off v x:=by
 cases h with
 |sc h=>exact .sc h
 |nil z hx hv=>exact .nil z hx hv
 |mv r m bc hm hr hv hd=>exact .mv r m bc (Zbs _ hm) hr hv (by dsimp only;omega)
 |hole r k m q hm hl hq fg hn hd=>exact .hole r k m q (Zbs _ hm) hl hq fg hn (by dsimp only;omega)
 |fz hd h=>exact .fz (by dsimp only;omega) (h.mono fun b hb=>⟨hb.imp id fun ⟨r,p,h1,h2⟩=>⟨r,p,Zbs _ h1,h2⟩,rfl⟩)
theorem Taa (hR:R E.ntmps F σ ρ a w G){mv dq:Bool}{off:Nat}{l:aR}{pu:Put}(h:(Tab mv dq off l).eval σ=some pu){v:Value}(hl:aB σ ρ G w l v) :
  ∃ x,pu.xs=[x]/\Jav σ ρ G w pu off v x/\(∀ z∈pu.moves,z.1=off/\∃ x bc,σ (kR z.2.1)=some (.root x z.2.2 bc .live))/\(∀ z∈pu.holes,z.1=off):=by
 unfold Tab at h;split at h
 ·rename_i x
  simp only[aF,Option.some.injEq]at h;subst h;simp only[aB]at hl;exact⟨x,rfl,.sc hl,by simp,by simp⟩
 ·rename_i r
  simp only[aA,aU,Zbv]at h;simp only[aB]at hl;split at h
  ·rename_i x m bc hk
   cases mv with
   | true =>
    simp only[cond_true,aF,Option.some.injEq]at h;subst h;refine⟨x,rfl,.mv r m bc (by simp) hk hl.1 (Zb2 _),fun z hz=>?_,by simp⟩;simp only[Zb0]at hz;subst hz;exact⟨rfl,x,bc,hk⟩
   | false =>
    simp only[cond_false,aF,Option.some.injEq]at h;subst h;refine⟨x,rfl,.fz rfl ?_,by simp,by simp⟩;have:=hR.root hk;simp only[bP]at this;rw[<- hl.1]at this;exact this.rd.mono fun b hb=>⟨hb.imp id fun ⟨q,hq⟩=>⟨r,q,by simp,hq⟩,rfl⟩
  ·rename_i x m bc hk
   simp only[aF,Option.some.injEq]at h;subst h;refine⟨x,rfl,.fz rfl ?_,by simp,by simp⟩;have:=(hR.root hk).1;rw[<- hl.1]at this;exact this.mono fun b hb=>⟨.inl hb,rfl⟩
  ·cases h
 ·rename_i deps p nie x
  split at h
  ·rename_i z
   simp only[aF,Option.some.injEq]at h;subst h;refine⟨_,rfl,.nil z rfl ?_,by simp,by simp⟩;simp only[aB]at hl;exact (hl.2 (by simp)).2.1 trivial z rfl
  ·rename_i cL
   simp only[aA,Zbn]at h;obtain⟨s,h1,h⟩:=h;have hs:=dU hR h1 hl
   have hx:s.x=x:=by
    unfold yB at h1;simp only[aA,Zbn]at h1;obtain⟨ds,-,h3⟩:=h1;split at h3
    ·simp only[aF,Option.some.injEq]at h3;rw[<- h3]
    ·simp only[aA,aU,Zbv]at h3
     split at h3
     ·simp only[aF,Option.some.injEq]at h3;rw[<- h3]
     ·cases h3
    ·simp only[aF,Option.some.injEq]at h3;rw[<- h3]
   have mT:∀ frz:List Nat,(∀ z∈s.deps,z.1∈frz)->Rd (fun b=>G.own b=.frz\/∃ r p,r∈frz/\G.own b=.slc r p) w v (x.val ρ):=by
    intro frz hz;have:=hs.rd;rw[hx]at this;exact this.mono fun b hb=>⟨hb.imp id fun ⟨r,k,p,h2,h3⟩=>⟨r,p,hz _ h2,h3⟩,rfl⟩
   split at h
   ·rename_i r k m q ho
    have az:=hs.own;unfold vF at az;rw[ho]at az;obtain⟨h2,h3,h4,h5,h6⟩:=az;rw[hx]at h5
    cases hb:(dq&&Nat.ble (q.length+1) m) with
    | true =>
     rw[hb]at h;simp only[cond_true,aF,Option.some.injEq]at h;subst h;simp only[Zbo,Ac2]at hb;refine⟨x,rfl,.hole r k m q (by simp) h3 hb.2 h5 h6 (Zb2 _),by simp,by simp⟩
    | false =>
     rw[hb]at h;simp only[cond_false,aF,Option.some.injEq]at h;subst h;refine⟨x,rfl,.fz rfl (mT _ fun z hz=>?_),by simp,by simp⟩;rw[h2]at hz;simp only[Zb0]at hz;subst hz;simp
   ·simp only[aF,Option.some.injEq]at h
    subst h;exact⟨x,rfl,.fz rfl (mT _ fun z hz=>Bci hz),by simp,by simp⟩
 ·cases h
theorem tQ (hR:R E.ntmps F σ ρ a w G){mv dq:Bool}:∀ {ls:List aR} {off:Nat} {pu:Put},(rY mv dq off ls).eval σ=some pu->∀ {vs:List Value},aG σ ρ G w ls vs ->
  pu.xs.length=ls.length/\(∀ j v x,vs[j]?=some v->pu.xs[j]?=some x->Jav σ ρ G w pu (off+j) v x) /\
  (∀ z∈pu.moves,off<=z.1/\z.1<off+ls.length/\∃ x bc,σ (kR z.2.1)=some (.root x z.2.2 bc .live))
 | [], off, pu, h, vs, hl => by
  simp only[rY,aF,Option.some.injEq]at h;subst h;exact⟨rfl,by simp,by simp⟩
 | l :: ls, off, pu, h, vs, hl => by
  simp only[rY,aA,Zbn,aF,Option.some.injEq]at h;obtain⟨A,h1,B,h2,rfl⟩:=h;simp only[aG]at hl;obtain⟨u,us,rfl,h3,h4⟩:=hl;obtain⟨x,h5,h6,h7,-⟩:=Taa hR h1 h3;obtain⟨h8,h9,cQ⟩:=tQ hR h2 h4;refine⟨by simp[h5,h8],fun j v y hv hy=>?_,fun z hz=>?_⟩
  ·rw[h5]at hy
   cases j with
   | zero =>
    simp only[Zbw,Option.some.injEq,Bc9]at hv hy;subst hv hy;exact h6.left
   | succ j =>
    simp only[Acy,Bc9]at hv hy;have:=(h9 j v y hv hy).right (A:=A);rwa[show off+1+j=off+(j+1) by omega]at this
  ·simp only[Zb1]
   rcases List.mem_append.1 hz with hz|hz
   ·obtain⟨e,dz⟩:=h7 z hz
    exact⟨by omega,by omega,dz⟩
   ·obtain⟨e1,e2,dz⟩:=cQ z hz
    exact⟨by omega,by omega,dz⟩
theorem gH:∀ {rs:List Nat} {fr:List (Nat×aS)},(dQ rs).eval σ=some fr ->
  (∀ r∈rs,(∃ x m bc,σ (kR r)=some (.root x m bc .live)/\(kR r,aS.root x m bc .frozen)∈fr)\/∃ x m bc,σ (kR r)=some (.root x m bc .frozen)) /\
  (∀ k c,(k,c)∈fr->∃ r∈rs,∃ x m bc,k=kR r/\c=.root x m bc .frozen/\σ (kR r)=some (.root x m bc .live))
 | [], fr, h => by
  simp only[dQ,aF,Option.some.injEq]at h;subst h;simp
 | r :: rs, fr, h => by
  simp only[dQ,aA,aU,Zbv]at h;split at h
  ·rename_i x m bc hk
   simp only[aA,Zbn,aF,Option.some.injEq]at h;obtain⟨l,h1,rfl⟩:=h;obtain⟨h2,h3⟩:=gH h1;refine⟨fun s hs=>?_,fun k c hc=>?_⟩
   ·rcases List.mem_cons.1 hs with rfl|hs
    ·exact .inl ⟨x,m,bc,hk,Zb5⟩
    ·rcases h2 s hs with ⟨x',m',v',h4,h5⟩|h4
     ·exact .inl ⟨x',m',v',h4,Zby _ h5⟩
     ·exact .inr h4
   ·rcases List.mem_cons.1 hc with hc|hc
    ·obtain⟨rfl,rfl⟩:=Prod.mk.inj hc
     exact⟨r,Zb5,x,m,bc,rfl,rfl,hk⟩
    ·obtain⟨s,hs,h4⟩:=h3 k c hc
     exact⟨s,Zby _ hs,h4⟩
  ·rename_i x m bc hk
   obtain⟨h2,h3⟩:=gH h;refine⟨fun s hs=>?_,fun k c hc=>?_⟩
   ·rcases List.mem_cons.1 hs with rfl|hs
    ·exact .inr ⟨x,m,bc,hk⟩
    ·exact h2 s hs
   ·obtain⟨s,hs,h4⟩:=h3 k c hc
    exact⟨s,Zby _ hs,h4⟩
  ·cases h
end
theorem mI {l:List Nat}{n:Nat}:has l n=true↔n∈l:=by
 unfold has;simp only[List.any_eq_true,Acj];constructor
 ·rintro⟨x,h,rfl⟩;exact h
 ·exact fun h=>⟨n,h,rfl⟩
theorem Aaq {l:List Nat}{n:Nat}:has l n=false↔n∉l:=by
 rw[<- mI];simp
theorem uC:∀ {l:List (Nat×Nat×Nat)},distinct (l.map (·.2.1))=true->∀ z∈l,l.find? (fun y=>Nat.beq y.2.1 z.2.1)=some z
 |[],_,z,hz=>by simp at hz
 | y :: l, h, z, hz => by
  simp only[Acg,distinct,Zbo,Ach]at h;rw[List.find?_cons]
  rcases List.mem_cons.1 hz with rfl|hz
  ·have:Nat.beq z.2.1 z.2.1=true:=by simp
   rw[this]
  ·have:Nat.beq y.2.1 z.2.1=false:=by
    cases e:Nat.beq y.2.1 z.2.1 with
    |false=>rfl
    | true =>
     simp only[Acj]at e;have h1:=Aaq.1 h.1;rw[e]at h1;exact absurd (Bci (f:=fun x:Nat×Nat×Nat=>x.2.1) hz) h1
   rw[this];exact uC h.2 z hz
theorem Iax {l:List (Nat×Nat×Nat)}{s:Nat}(h:s∉l.map (·.2.1)):l.find? (fun y=>Nat.beq y.2.1 s)=none:=by
 rw[List.find?_eq_none];intro x hx;simp only[Acj];intro e;exact h (e▸Bci (f:=fun x:Nat×Nat×Nat=>x.2.1) hx)
section
variable {P:Program} {E:Env} {F:bG} {n:Nat} {σ:Nat->Option aS} {ρ:List D} {a:Act} {w w':World} {G G':Gh} {g:Option (aK×Bool)} {o:Oper} {cf:Nat->List D->Option (List D)} {Q:Exit->Act->World->Prop} {next:Act->World->Prop}
theorem Rd.nil {ok:Nat->Prop}{z:Nat}:Rd ok w (.slice none 0 0) (.rows z []) :=
 .rows none ⟨0,0,none⟩ 0 0 _ [] (fun _ _=>undef) rfl (Zb2 _) (.inl rfl) (by simp) (by simp) (by simp)
theorem Rp.nil {own:Nat->Ow}{r:Nat}{p:List Nat}{m z:Nat}:Rp own w r p m (.slice none 0 0) (.rows z []):=by
 cases m with
 |zero=>exact .fz Rd.nil
 |succ m=>exact .sl none ⟨0,0,none⟩ 0 0 _ [] (fun _ _=>undef) rfl (Zb2 _) (.inr ⟨rfl,rfl⟩) (by simp) (by simp) (by simp) (by simp)
theorem Jav.rp (hR:R E.ntmps F σ ρ a w G){pu:Put}{off:Nat}{v:Value}{x:aK}(h:Jav σ ρ G w pu off v x){own':Nat->Ow}{R:Nat}{path:List Nat}{m1:Nat}(hd:m1<=pu.depth)
  (hz:∀ b,G.own b=.frz->b<w.heap.size->own' b=.frz/\w'.heap[b]?=w.heap[b]?)
  (hmv:∀ s m,(off,s,m)∈pu.moves->∀ b t,G.own b=.slc s t->own' b=(if t.length<m1 then .slc R (path++t) else .frz)/\w'.heap[b]?=w.heap[b]?)
  (hho:∀ s q,(off,s,q)∈pu.holes->∀ b t,G.own b=.slc s (bB ρ q++t)->own' b=(if t.length<m1 then .slc R (path++t) else .frz)/\w'.heap[b]?=w.heap[b]?)
  (mT:∀ s∈pu.frz,∀ b p,G.own b=.slc s p->own' b=.frz/\w'.heap[b]?=w.heap[b]?):Rp own' w' R path m1 v (x.val ρ):=by
 cases h with
 |sc h=>exact .sc h
 |nil z hx hv=>rw[hx,hv];exact Rp.nil
 | mv r m bc hm hr hv mA =>
  have:=hR.root hr;simp only[bP]at this;rw[hv];exact this.move hz path m1 (by omega) fun b t hb=>hmv r m hm b t (by simpa using hb)
 |hole r k m q hm hl hq fg hn mA=>exact fg.move hz path m1 (by omega) fun b t hb=>hho r q hm b t hb
 | fz mA h =>
  obtain rfl:m1=0:=by omega
  refine .fz (h.mono' fun b hb hlt=>?_)
  rcases hb with hb|⟨r,p,h1,h2⟩
  ·exact hz b hb hlt
  ·exact mT r h1 b p h2
def yS (R M:Nat)(p:List Nat):Ow:=if p.length<M then .slc R p else .frz
def kV (pu:Put)(r m':Nat)(pv:List Nat)(base:Nat)(s:Nat)(p:List Nat):Ow :=
 bif has pu.frz s then .frz else match pu.moves.find? (fun y=>Nat.beq y.2.1 s) with
  |some z=>yS r m' ((pv++[base+z.1])++p)
  |none=>if s=r then yS r m' p else .slc s p
theorem jV {B o:Nat}{vs:List Value}{b:Addr}(hb:b.block=B->b.spot=none)(hex:∀ j,j<vs.length->(w.cell? ⟨B,o+j,none⟩).isSome=true){u:Value}(hc:w.cell? b=some u) :
  ∃ u',(w.setCells B o vs).cell? b=some u':=by
 by_cases jo:b.block=B/\o<=b.off/\b.off<o+vs.length
 ·obtain⟨h1,h2,h3⟩:=jo
  have:=World.cell?_setCells_in B vs o w hex (b.off-o) (by omega);have hs:=hb h1;rw[show o+(b.off-o)=b.off by omega]at this;have de:b=⟨B,b.off,none⟩:=by cases b;simp only at h1 hs;subst h1 hs;rfl
  exact⟨vs[b.off-o]'(by omega),(congrArg (fun x=>(w.setCells B o vs).cell? x) de).trans this⟩
 ·rw[World.cell?_setCells_out B vs o w b fun e1 e2=>by
   rcases Aca b.off o with h|h
   ·exact .inl h
   ·refine .inr ?_
    rcases Aca b.off (o+vs.length) with h'|h'
    ·exact absurd ⟨e1,h,h'⟩ jo
    ·exact h']
  exact⟨u,hc⟩
theorem Ja5 (hR:R E.ntmps F σ ρ a w G)(hti:vJ P E.ti){nv:Nat}{mv dq:Bool}{t:TypeId}{x y:Operand}(ho:o.op=.store t x y){ti:TI}(hi:E.ti t=some ti){l:aR}{sz:Nat}{i:aK}{off:Nat}{ls:List aR}{sv:SV}
  (hx:gOn ρ g=true->aB σ ρ G w (.pe l sz i off) (a.eval x)) (hy:gOn ρ g=true->bY σ ρ G w sv (a.eval y)) (s4:jY ti.agg sv=some ls) {res:bN}
  (h:(Dao nv mv dq o g ti (.pe l sz i off) ls).eval σ=some res) (aE:aN cf ρ g nv res.lets):gT P E F σ ρ a w g o Q res.upd:=by
 simp only[Dao,aA,aJ,Zbn,aU,Zbv]at h;obtain⟨_,h1,_,h2,s,h3,h⟩:=h;split at h1
 case isFalse=>cases h1
 rename_i qc;simp only[Zbo,Acj,Ccc]at qc;obtain⟨hlen,sd⟩:=qc;split at h2
 case isFalse=>cases h2
 rename_i y5;obtain rfl:=wK y5;split at h
 case h_2=>cases h
 rename_i r k m q az;simp only[aA,aJ,Zbn,aU,Zbv]at h;obtain⟨_,h4,h⟩:=h;split at h4
 case isFalse=>cases h4
 rename_i hqm;simp only[Ac2]at hqm;split at h
 case h_2=>cases h
 rename_i X m0 bc hk;simp only[aA,aJ,Zbn]at h;obtain⟨pu,h5,fr,h6,_,h7,h⟩:=h;split at h7
 case isFalse=>cases h7
 rename_i uj;simp only[Zbo,Ach,Cci,Ccy]at uj;obtain⟨⟨⟨⟨ej,hmr⟩,hho⟩,n5⟩,hmf⟩:=uj;simp only[aF,Option.some.injEq]at h;subst h;refine⟨fun hg=>?_,fun hg=>by simp[gOn]at hg⟩;obtain⟨info,u,f⟩:=aX (hti.ok _ _ hi);have hl:=iG s4 (hy hg);obtain⟨ob,lE,hmvs⟩:=tQ hR h5 hl;obtain⟨wh,tp⟩:=gH h6;have hpe:=hx hg;simp only[aB]at hpe;obtain⟨c,n,cap,ik,iv,hp1,zn,hp3,hp4,hp5⟩:=hpe;have gw:=dU hR h3 hp1;have oe:=gw.own;unfold vF at oe;rw[az]at oe;obtain⟨-,⟨X0,ni⟩,-,fg,kO⟩:=oe;rw[hk]at ni
 obtain⟨rfl,rfl,rfl⟩:X=X0/\m0=m/\bc=k:=by
  injection ni with e;injection e with e1 e2 e3 e4;exact⟨e1,e2,e3⟩
 have eV:=hR.root hk;simp only[bP]at eV;obtain⟨d1,fx,qd⟩:=Ba5 aE.1 hg;have mj:aN cf ρ none (nv+1) (Nab (nv+1) X q (.v nv)).1:=aE.2;have nF:=Ba6 hg q (nv+1) X (.v nv) mj;simp only[Bcq,Ac0,Acg]at fx;obtain⟨rs,ik',iv',row,e1,e2,e3,e4,e5,e6,e7⟩:=Sa1 fx;rw[zn]at e2;obtain⟨rfl,rfl⟩:ik=ik'/\iv=iv':=by injection e2 with a b;exact⟨a,b⟩
 simp only[List.cons.injEq,and_true]at e7;simp only[Zb3]at e6;rw[e1]at fg;have wk:(bB ρ q).length=q.length:=by simp[bB]
 generalize hpv:bB ρ q=pv at nF fg kO wk;obtain⟨md,hmd⟩:∃ md,m0-q.length=md+1:=⟨m0-q.length-1,by omega⟩;rw[hmd]at fg;obtain⟨A,c',n',ij,vs0,i1,i2,i3,i4,i5,i6,i7,i8⟩:=fg.sl_inv;obtain⟨rfl,rfl,rfl⟩:A=some c/\n'=n/\ij=cap:=by injection i1 with a b c;exact⟨a.symm,b.symm,c.symm⟩
 have hcc:c'=c:=by
  rcases i4 with i4|⟨i4,-⟩
  ·exact (Option.some.inj i4).symm
  ·cases i4
 subst hcc;obtain⟨fh,mC,cG⟩:=i6 rfl;have fL:row.length=sz:=i5 row (Zb4 e4);generalize kA:(a.eval y).cells.toList=vs at hl lE;have hvl:vs.length=ls.length:=hl.len
 have gA:∀ j,j<vs.length->∃ u,w.cell? ⟨c'.block,c'.off+(iv.toNat*sz+off)+j,none⟩=some u/\w.frozen? ⟨c'.block,c'.off+(iv.toNat*sz+off)+j,none⟩=false:=by
  intro j hj
  have jt:iv.toNat*sz+off+j<ij*sz:=by
   have h1:(iv.toNat+1)*sz<=ij*sz:=Bcc _ (by omega);rw[Bce]at h1;omega
  have:=cG _ jt;rw[add_plain fh]at this;rw[Acb];exact this
 have bh:(execOp a.eval o).run P w=.ok .skip (w.setCells c'.block (c'.off+(iv.toNat*sz+off)) vs):=by
  unfold execOp;simp only[ho]
  have:=Ea4 (P:=P) (w:=w) f (b:=c'.block) (off:=c'.off+(iv.toNat*sz+off)) (v:=a.eval y) (by rw[kA];omega)
   (fun j hj=>by
    obtain⟨v,h6,-⟩:=gA j (by omega);exact⟨v,h6⟩)
   (fun j hj=>by
    obtain⟨v,-,h6⟩:=gA j (by omega)
    exact h6) (by
    rw[kA];intro v hv;obtain⟨j,hj⟩:=List.mem_iff_getElem?.1 hv;have kg:j<pu.xs.length:=by rw[ob,<- hvl];exact (List.getElem?_eq_some_iff.1 hj).1
    cases lE j v _ hj (Zbq kg) with
    |sc h=>exact h.one
    |nil z _ h=>rw[h];rfl
    | mv r m bc hm hr hv hd =>
     have:=hR.root hr;simp only[bP]at this;rw[hv];exact this.one
    |hole r k m q hm hl hq fg hn hd=>exact fg.one
    |fz _ h=>exact h.one)
  simp only[Instr.storeAt,Instr.sureAddr,Sem.run_bind,hp5,Sem.run_pure,Result.andThen_ok,add_plain fh,this,kA]
 generalize oz:min m0 (q.length+1+pu.depth)=m';generalize yx:w.setCells c'.block (c'.off+(iv.toNat*sz+off)) vs=w' at bh;have b7:∀ b,b≠c'.block->w'.heap[b]?=w.heap[b]?:=fun b hb=>by rw[<- yx];exact dB _ _ _ _ _ hb
 refine Uai bh ⟨{ G with own:=fun b=>mP (kV pu r m' pv (iv.toNat*sz)) (G.own b) },?_⟩;rw[sd]
 have vn:∀ s,s∈pu.frz->∀ p,kV pu r m' pv (iv.toNat*sz) s p=.frz:=fun s hs p=>by
  unfold kV;rw[mI.2 hs,cond_true]
 have hrm:r∉pu.moves.map (·.2.1):=by
  intro hh;obtain⟨z,hz,e⟩:=List.mem_map.1 hh;have:=hmr z hz;simp[e]at this
 have hrF:∀ p,kV pu r m' pv (iv.toNat*sz) r p=yS r m' p:=fun p=>by
  unfold kV;rw[ej,cond_false,Iax hrm];simp
 have hmF:∀ z∈pu.moves,∀ p,kV pu r m' pv (iv.toNat*sz) z.2.1 p=yS r m' ((pv++[iv.toNat*sz+z.1])++p):=fun z hz p=>by
  unfold kV
  have:has pu.frz z.2.1=false:=by
   have:=hmf z hz;simpa using this
  rw[this,cond_false,uC n5 z hz]
 have ql:∀ b,G.own b=.frz->b<w.heap.size->mP (kV pu r m' pv (iv.toNat*sz)) (G.own b)=.frz/\w'.heap[b]?=w.heap[b]?:=fun b hb hlt=>by
  refine⟨by rw[hb];rfl,b7 b fun e=>?_⟩;rw[e,mC]at hb;cases hb
 have cL:∀ b s p,G.own b=.slc s p->s≠r->b≠c'.block:=fun b s p hb hs e=>by
  rw[e,mC]at hb
  injection hb with e1 e2
  exact hs e1.symm
 have wy:∀ s∈pu.frz,s≠r:=fun s hs e=>by
  have:=Aaq.1 ej;exact this (e▸hs)
 have a6x:∀ z∈pu.moves,z.2.1≠r:=fun z hz e=>hrm (e▸Bci (f:=fun x:Nat×Nat×Nat=>x.2.1) hz)
 have db:∀ {s:Nat} {c:aS},(kR s,c)∈(kR r,aS.root (Nab (nv+1) X q (.v nv)).2 m' (bc+1) .live)::(pu.moves.map fun z=>(kR z.2.1,aS.root (.c .hole) 0 0 .gone))++fr ->
   (s=r/\c=.root (Nab (nv+1) X q (.v nv)).2 m' (bc+1) .live)\/(∃ z∈pu.moves,s=z.2.1/\c=.root (.c .hole) 0 0 .gone) \/
   (s∈pu.frz/\∃ x m v,c=.root x m v .frozen/\σ (kR s)=some (.root x m v .live)):=by
  intro s c hc
  rcases List.mem_append.1 hc with hc|hc
  ·rcases List.mem_cons.1 hc with hc|hc
   ·obtain⟨e1,e2⟩:=Prod.mk.inj hc
    exact .inl ⟨eT e1,e2⟩
   ·obtain⟨z,hz,e⟩:=List.mem_map.1 hc
    obtain⟨e1,e2⟩:=Prod.mk.inj e;exact .inr (.inl ⟨z,hz,(eT e1).symm,e2.symm⟩)
  ·obtain⟨s',ju,x',oY,v',e1,e2,e3⟩:=tp _ _ hc
   obtain rfl:=eT e1;exact .inr (.inr ⟨ju,x',oY,v',e2,e3⟩)
 have hdu:dS o none .dead=[]:=by unfold dS;rw[sd]
 have eI:=hR.own (o:=o) (g:=none) (fun d e=>by rw[sd]at e;cases e) (sv:=.dead) (v:=undef) (w':=w')
  (G':={ G with own:=fun b=>mP (kV pu r m' pv (iv.toNat*sz)) (G.own b) }) (wr:=fun b=>b=c'.block)
  (ur:=(kR r,aS.root (Nab (nv+1) X q (.v nv)).2 m' (bc+1) .live)::(pu.moves.map fun z=>(kR z.2.1,aS.root (.c .hole) 0 0 .gone))++fr)
  (f:=kV pu r m' pv (iv.toNat*sz)) ?_ (fun b _=>rfl) ?_ ?_ ?_ (fun b _ hb=>b7 b hb) ?_ ?_ ?_ ?_ (fun _ _=>rfl) rfl (fun _ _=>trivial) ?_
 ·rw[hdu,Ac0,sd]at eI
  exact eI
 ·intro k c hc
  rcases List.mem_append.1 hc with hc|hc
  ·rcases List.mem_cons.1 hc with hc|hc
   ·exact⟨r,(Prod.mk.inj hc).1⟩
   ·obtain⟨z,hz,e⟩:=List.mem_map.1 hc
    exact⟨z.2.1,(Prod.mk.inj e).1.symm⟩
  ·obtain⟨s',-,-,-,-,e1,-⟩:=tp _ _ hc
   exact⟨s',e1⟩
 ·intro b hb
  rw[<- yx,setCells_size]at hb;show mP _ (G.own b)=.frz
  rw[hR.frame.fresh b hb];rfl
 ·obtain⟨j1,j2,j3⟩:=iK c'.block vs (c'.off+(iv.toNat*sz+off)) w
  rw[<- yx];exact⟨j1,j2,j3,by rw[setCells_size];exact Zb2 _⟩
 ·intro b hb
  refine .inl ?_;show mP _ (G.own b)=.frz
  rw[hR.frame.fresh b hb];rfl
 ·rintro b rfl
  exact⟨r,pv,mC,_,Zbp _ Zb5⟩
 ·intro b s p hb gg
  unfold kV
  have h1:has pu.frz s=false:=by
   rw[Aaq];intro hs
   rcases wh s hs with ⟨x',oY,v',-,h8⟩|⟨x',oY,v',h8⟩
   ·exact gg _ (Zbs _ h8)
   ·exact (hR.root h8).2 b p hb
  have h2:s∉pu.moves.map (·.2.1):=by
   intro hh;obtain⟨z,hz,e⟩:=List.mem_map.1 hh;refine gg (.root (.c .hole) 0 0 .gone) (Zbp _ (Zby _ (List.mem_map.2 ⟨z,hz,?_⟩)));rw[e]
  have h3:s≠r:=fun e=>gg (.root (Nab (nv+1) X q (.v nv)).2 m' (bc+1) .live) (Zbp _ (by rw[e];exact Zb5))
  rw[h1,cond_false,Iax h2];simp[h3]
 ·intro s c hc _
  rcases db hc with ⟨rfl,rfl⟩|⟨z,hz,rfl,rfl⟩|⟨hs,x',oY,v',rfl,h8⟩
  ·exact .inr (.inl ⟨_,_,_,_,_,hk,rfl⟩)
  ·exact .inr (.inr (.inl ⟨_,_,_,_,rfl,by simp,by simp⟩))
  ·refine .inr (.inr (.inr ⟨x',oY,v',h8,rfl,fun b p hb=>⟨?_,b7 b (cL b s p hb (wy s hs))⟩⟩))
   show mP _ (G.own b)=.frz
   rw[hb];exact vn s hs p
 ·intro r0 x0 m1 k0 mT s p q' hF
  unfold kV at hF
  cases hh:has pu.frz s with
  |true=>rw[hh,cond_true]at hF;cases hF
  | false =>
   rw[hh,cond_false]at hF
   have hr0:r0≠r:=by
    rintro rfl
    rw[hk]at mT
    injection mT with e;injection e with _ _ _ e;cases e
   split at hF
   ·unfold yS at hF
    split at hF
    ·injection hF with j1 j2;exact absurd j1.symm hr0
    ·cases hF
   ·split at hF
    ·unfold yS at hF
     split at hF
     ·injection hF with j1 j2;exact absurd j1.symm hr0
     ·cases hF
    ·injection hF with j1 j2;exact⟨j1,j2⟩
 ·intro hfr' s c hc _
  rcases db hc with ⟨rfl,rfl⟩|⟨z,hz,rfl,rfl⟩|⟨hs,x',oY,v',rfl,h8⟩
  ·refine⟨_,_,_,_,rfl,?_⟩
   simp only[bP];obtain⟨m1,oS⟩:∃ m1,m'-q.length=m1+1:=⟨m'-q.length-1,by omega⟩
   have qp:∀ i' eW,(rs.set iv.toNat (row.take off++pu.xs.map (·.val ρ)++row.drop (off+ti.size)))[i']?=some eW->∀ j' d,eW[j']?=some d ->
     (i'=iv.toNat/\off<=j'/\j'<off+ls.length/\∃ x,pu.xs[j'-off]?=some x/\d=x.val ρ)\/(∃ row0,rs[i']?=some row0/\row0[j']?=some d/\¬ (i'=iv.toNat/\off<=j'/\j'<off+ls.length)):=by
    intro i' eW eS j' d gR
    have hsr:row.take off++pu.xs.map (·.val ρ)++row.drop (off+ti.size)=setRange row off (pu.xs.map (·.val ρ)):=by
     unfold setRange;rw[Zb3,e6]
    rw[hsr,Bcr]at eS;by_cases q0:iv.toNat=i'
    ·subst q0
     rw[if_pos rfl,if_pos (List.getElem?_eq_some_iff.1 e4).1]at eS;obtain rfl:=Option.some.inj eS;rw[iF (by rw[Zb3];omega),Zb3]at gR;split at gR
     ·rename_i jo
      rw[Ace,Zbz]at gR;obtain⟨x,nu,lv⟩:=gR;exact .inl ⟨rfl,jo.1,by omega,x,nu,lv.symm⟩
     ·rename_i a2q
      exact .inr ⟨row,e4,gR,fun e=>a2q ⟨e.2.1,by omega⟩⟩
    ·rw[if_neg q0]at eS
     exact .inr ⟨eW,eS,gR,fun e=>q0 e.1.symm⟩
   have gn:Rp (fun b=>mP (kV pu s m' pv (iv.toNat*sz)) (G.own b)) w' s pv (m'-q.length) (.slice (some c') n' ij) ((aK.v nv).val ρ):=by
    rw[qd,e7,oS];refine .sl _ c' n' ij sz _ (fun i' j'=>if i'=iv.toNat/\off<=j'/\j'<off+ls.length then vs.getD (j'-off) undef else vs0 i' j') (by simpa using i2) i3 (.inl rfl) (fun eW hr=>?_) (fun _=>⟨fh,?_,fun k hk=>?_⟩) (fun i' eW eS j' d gR=>?_) (fun i' eW eS j' d gR=>?_)
    ·rcases Cck hr with hr|rfl
     ·exact i5 _ hr
     ·simp;omega
    ·show mP _ (G.own c'.block)=_
     rw[mC];show kV pu s m' pv (iv.toNat*sz) s pv=_
     rw[hrF,yS,if_pos (by omega)]
    ·obtain⟨u0,uu,hf0⟩:=cG k hk
     rw[<- yx,World.frozen?_setCells];obtain⟨u',hu'⟩:=jV (B:=c'.block) (o:=c'.off+(iv.toNat*sz+off)) (vs:=vs) (b:=c'.add k) (fun _=>by rw[add_plain fh]) (fun j hj=>by obtain⟨u1,h9,-⟩:=gA j hj;rw[h9];rfl) uu;exact⟨u',hu',hf0⟩
    ·rcases qp i' eW eS j' d gR with ⟨rfl,h9,cQ,x0,dz,fy⟩|⟨row0,h9,cQ,dz⟩
     ·rw[if_pos ⟨rfl,h9,cQ⟩,<- yx,add_plain fh]
      have:=World.cell?_setCells_in c'.block vs (c'.off+(iv.toNat*sz+off)) w (fun j hj=>by obtain⟨u1,h9,-⟩:=gA j hj;rw[h9];rfl) (j'-off) (by omega);rw[show c'.off+(iv.toNat*sz+off)+(j'-off)=c'.off+(iv.toNat*sz+j') by omega]at this;rw[this,Zbu,Zbq (by omega)];rfl
     ·rw[if_neg dz,<- yx,World.cell?_setCells_out _ _ _ _ _ (fun _ _=>?_)]
      ·exact i7 _ _ h9 _ _ cQ
      ·rw[add_plain fh]
       dsimp only
       have vt:j'<sz:=by
        have:=(List.getElem?_eq_some_iff.1 cQ).1;rw[i5 row0 (Zb4 h9)]at this;exact this
       by_cases q0:i'=iv.toNat
       ·subst q0
        have:¬ (off<=j'/\j'<off+ls.length):=fun e=>dz ⟨rfl,e⟩
        omega
       ·rcases Nat.lt_or_gt_of_ne q0 with hlt|hgt
        ·refine .inl ?_
         have:=Bcc sz (show i'+1<=iv.toNat by omega);rw[Bce]at this;omega
        ·refine .inr ?_
         have:=Bcc sz (show iv.toNat+1<=i' by omega);rw[Bce]at this;omega
    ·rcases qp i' eW eS j' d gR with ⟨rfl,h9,cQ,x0,dz,fy⟩|⟨row0,h9,cQ,dz⟩
     ·rw[if_pos ⟨rfl,h9,cQ⟩,fy]
      have hv:vs[j'-off]?=some (vs.getD (j'-off) undef):=by
       rw[Zbu,Zbq (by omega)];rfl
      have sC:=lE (j'-off) _ _ hv dz;rw[show off+(j'-off)=j' by omega]at sC;refine sC.rp hR (by omega) ql (fun s' m2 hm2 b t hb=>⟨?_,b7 b (cL b s' t hb (a6x _ hm2))⟩) (fun s' q' kn=>by rw[hho]at kn;simp at kn) (fun s' ju b p hb=>⟨?_,b7 b (cL b s' p hb (wy s' ju))⟩)
      ·show mP _ (G.own b)=_
       rw[hb];show kV pu s m' pv (iv.toNat*sz) s' t=_
       rw[hmF (j',s',m2) hm2,yS];simp only[Zbt,Ac3];by_cases ht:t.length<m1
       ·rw[if_pos ht,if_pos (by omega)]
       ·rw[if_neg ht,if_neg (by omega)]
      ·show mP _ (G.own b)=_
       rw[hb];exact vn s' ju p
     ·rw[if_neg dz]
      refine (i8 _ _ h9 _ _ cQ).move ql _ m1 (by omega) fun b t hb=>⟨?_,b7 b fun e=>?_⟩
      ·show mP _ (G.own b)=_
       rw[hb];show kV pu s m' pv (iv.toNat*sz) s _=_
       rw[hrF,yS];simp only[Zbt,Ac3];by_cases ht:t.length<m1
       ·rw[if_pos ht,if_pos (by omega)]
       ·rw[if_neg ht,if_neg (by omega)]
      ·rw[e,mC]at hb
       injection hb with _ e2
       have:=congrArg List.length e2;simp at this
   have:=Rp.upd (own':=fun b=>mP (kV pu s m' pv (iv.toNat*sz)) (G.own b)) (w':=w') (r:=s) (M':=m') (full:=pv) ql (fun b t hb ht=>⟨?_,b7 b fun e=>?_⟩) (by omega) (by rw[wk];exact gn) pv [] m0 (G.hdr s) _ _ rfl (by omega) (by simpa using eV) kO nF
   ·simpa using this
   ·show mP _ (G.own b)=_
    rw[hb];exact hrF t
   ·rw[e,mC]at hb
    injection hb with _ e2
    exact ht (e2▸List.prefix_rfl)
  ·exact⟨_,_,_,_,rfl,trivial⟩
  ·refine⟨x',oY,v',.frozen,rfl,?_,fun b p hb=>?_⟩
   ·have:=hR.root h8
    simp only[bP]at this;refine this.rd.mono' fun b hb hlt=>?_
    rcases hb with hb|⟨p,hb⟩
    ·exact ql b hb hlt
    ·refine⟨?_,b7 b (cL b s p hb (wy s hs))⟩
     show mP _ (G.own b)=_
     rw[hb];exact vn s hs p
   ·have de:mP (kV pu r m' pv (iv.toNat*sz)) (G.own b)=.slc s p:=hb
    cases e:G.own b with
    | slc s' p' =>
     rw[e]at de;have fw:kV pu r m' pv (iv.toNat*sz) s' p'=.slc s p:=de;by_cases ju:s'∈pu.frz
     ·rw[vn s' ju]at fw;cases fw
     ·unfold kV at fw
      rw[Aaq.2 ju,cond_false]at fw;have hsr:=wy s hs;split at fw
      ·unfold yS at fw
       split at fw
       ·injection fw with j1 j2;exact hsr j1.symm
       ·cases fw
      ·split at fw
       ·unfold yS at fw
        split at fw
        ·injection fw with j1 j2;exact hsr j1.symm
        ·cases fw
       ·injection fw with j1 j2;exact ju (j1▸hs)
    |_=>rw[e]at de;cases de
end
theorem pK:∀ (sz n:Nat) (l:List D),l.length=n*sz->∀ i row,(chunk sz n l)[i]?=some row->i<n/\row.length=sz/\∀ j d,row[j]?=some d->l[i*sz+j]?=some d
 |sz,0,l,_,i,row,h=>by simp[chunk]at h
 | sz, n + 1, l, hl, i, row, h => by
  simp only[chunk]at h;rw[Bce,Nat.one_mul]at hl
  cases i with
  | zero =>
   simp only[Zbw,Option.some.injEq]at h;subst h;refine⟨by omega,by simp;omega,fun j d hj=>?_⟩;rw[Ac4]at hj;split at hj
   ·simpa using hj
   ·cases hj
  | succ i =>
   simp only[Acy]at h;obtain⟨h1,h2,h3⟩:=pK sz n (l.drop sz) (by simp;omega) i row h;refine⟨by omega,h2,fun j d hj=>?_⟩;have:=h3 j d hj;rw[Acv]at this;rw[<- this];congr 1;rw[Bce];omega
theorem Jaj:∀ (sz n:Nat) (l:List D),(chunk sz n l).length=n
 |_,0,_=>rfl
 |sz,n+1,l=>by simp[chunk,Jaj sz n]
theorem Gai {α:Type}(l:List α):∀ n,(Gbb l n).length=n*l.length
 |0=>by simp[Gbb]
 |n+1=>by rw[Gbb,Zbt,Gai l n,Bce];omega
theorem Vac {α:Type}(l:List α)(h:0<l.length):∀ n j,j<n*l.length->(Gbb l n)[j]?=l[j % l.length]?
 |0,j,hj=>by simp at hj
 | n + 1, j, hj => by
  rw[Gbb];by_cases h1:j<l.length
  ·rw[Zb9 h1,Nat.mod_eq_of_lt h1]
  ·rw[Zb8 (by omega),Vac l h n (j-l.length) (by rw[Bce]at hj;omega)]
   congr 1;rw[Nat.mod_eq_sub_mod (by omega:j ≥ l.length)]
section
variable {P:Program} {E:Env} {F:bG} {n:Nat} {σ:Nat->Option aS} {ρ:List D} {a:Act} {w w':World} {G G':Gh} {g:Option (aK×Bool)} {o:Oper} {cf:Nat->List D->Option (List D)} {Q:Exit->Act->World->Prop} {next:Act->World->Prop}
theorem Fal {ti:TI}{len:Nat}{place:Nat->Option (Nat×Nat)}(ob:∀ i,i<len->place i=some (i*ti.size,ti.size)) :
  ∀ {xs:List (Nat×Operand)} {ps:List (Nat×SV)},Gaw σ ρ G w a xs ps->∀ {ls jv:List aR} {us:Array Value},ls.length=len*ti.size->aG σ ρ G w ls us.toList->Cav ti len ls ps=some jv ->
  ∃ da,Instr.fill place us (xs.map fun x=>(x.1,a.eval x.2))=some da/\aG σ ρ G w jv da.toList/\jv.length=len*ti.size
 | [], _, rfl, ls, jv, us, hn, hl, h => by
  simp only[Cav,Option.some.injEq]at h;subst h;exact⟨us,rfl,hl,hn⟩
 | (i, x) :: xs, _, ⟨sv, ps, rfl, h1, hr⟩, ls, jv, us, hn, hl, h => by
  unfold Cav at h;split at h
  ·rename_i vs kA
   cases hb:(Nat.beq vs.length ti.size&&Nat.blt i len) with
   |false=>rw[hb]at h;cases h
   | true =>
    rw[hb,cond_true]at h;simp only[Zbo,Acj,Nat.blt_eq]at hb;have h2:=iG kA h1;have hlen:=hl.len
    have hle:i*ti.size+ti.size<=ls.length:=by
     have:=Bcc ti.size (show i+1<=len by omega);rw[Bce,Nat.one_mul]at this;omega
    obtain⟨us1,h3,h4⟩:=Rab (rest:=xs.map fun x=>(x.1,a.eval x.2)) (ob i hb.2) (by rw[h2.len];exact hb.1) (by rw[<- Cca,hlen];exact hle);obtain⟨da,h5,h6,h7⟩:=Fal ob hr (us:=us1) (ls:=setRange ls (i*ti.size) vs) (by rw[kW (by rw[hb.1];exact hle)];exact hn) (by rw[h4];exact hl.setRange h2 (by rw[hb.1];exact hle)) h;exact⟨da,by rw[Acg,h3];exact h5,h6,h7⟩
  ·cases h
def mkF (pu:Put)(nr m':Nat)(s:Nat)(p:List Nat):Ow :=
 bif has pu.frz s then .frz else match pu.moves.find? (fun y=>Nat.beq y.2.1 s) with
  |some z=>yS nr m' ([z.1]++p)
  |none=>.slc s p
theorem Ibu (z:Array Value)(hz:0<z.size)(N j:Nat)(hj:j<N):((Array.range N).map (fun i=>z[i % z.size]!))[j]?=z[j % z.size]?:=by
 rw[Array.getElem?_map,Array.getElem?_range];rw[if_pos hj];simp only[Acz];have hlt:j % z.size<z.size:=Nat.mod_lt _ hz;rw[getElem!_pos z (j % z.size) hlt,Acr hlt]
theorem Sah {t:TypeId}{i:TI}{info:TypeInfo}{u:TypeDesc}(f:cK P t i info u)(hs:0<i.size){z:Value}(hz:aG σ ρ G w (i.cells.map fH) z.cells.toList)(len:Nat) :
  aG σ ρ G w (Gbb (i.cells.map fH) len) ((Array.range (len*i.size)).map (fun j=>z.cells[j % z.cells.size]!)).toList:=by
 have hL:(i.cells.map fH).length=i.size:=by rw[Zb3,f.len]
 have zz:z.cells.size=i.size:=by rw[<- Cca,hz.len,hL]
 refine .of_get (by rw[Gai,hL];simp) fun j l v hj hv=>?_
 have hlt:j<len*i.size:=by
  have:=(List.getElem?_eq_some_iff.1 hj).1;rwa[Gai,hL]at this
 rw[Vac _ (by omega) _ _ (by rw[hL];exact hlt),hL]at hj;rw[Bca,Ibu _ (by omega) _ _ hlt,zz]at hv;obtain⟨v',h1,h2⟩:=hz.get hj;rw[Bca,hv]at h1;exact Option.some.inj h1▸h2
theorem uW (hR:R E.ntmps F σ ρ a w G)(hd:fD E.ntmps o)(hti:vJ P E.ti){nv nb nr:Nat}{mv dq:Bool}(hf:σ (kR nr)=none){t:TypeId}{len:Nat}{parts:Array (Nat×Operand)}(ho:o.op=.buildSlice t len parts){res:bN}
  (h:(qD E mv dq nv nb nr g o).eval σ=some res) (aE:aN cf ρ g nv res.lets):gT P E F σ ρ a w g o Q res.upd:=by
 simp only[qD,ho,aA,Zbn,tiR,aW,aJ]at h;obtain⟨st,h1,e,h2,ti,h3,ps,h4,_,h5,h⟩:=h;split at h5
 case isFalse=>cases h5
 rename_i hb5;simp only[Zbo,Ac2,Nat.blt_eq]at hb5;obtain⟨⟨hsz1,a5i⟩,zl⟩:=hb5;obtain⟨info,u,f⟩:=aX (hti.ok _ _ h1);obtain rfl:=qP f h2;obtain⟨ir,u',f'⟩:=aX (hti.ok _ _ h3);split at h
 case h_2=>cases h
 rename_i ls s4;simp only[aA,Zbn,aJ]at h;obtain⟨pu,h6,_,h7,fr,h8,_,h9,h⟩:=h;split at h7
 case isFalse=>cases h7
 rename_i uj;split at h9
 case isFalse=>cases h9
 rename_i hb9;simp only[Zbo,Ach,Cci,Ccy]at hb9;obtain⟨⟨n5,hmf⟩,hho⟩:=hb9;obtain⟨wh,tp⟩:=gH h8
 have main:gOn ρ g=true->∃ da:Array Value,(execOp a.eval o).run P w=.ok (.value (.slice (some ⟨w.heap.size,0,none⟩) len len)) (pushB w da e)/\aG σ ρ G w ls da.toList/\ls.length=len*ti.size:=by
  intro hg;obtain⟨z,na,p5,-,-⟩:=f'.zeros (σ:=σ) (ρ:=ρ) (G:=G) (w:=w);have hz3:=Sah f' a5i p5 len;have hL:(ti.cells.map fH).length=ti.size:=by rw[Zb3,f'.len]
  obtain⟨da,fR,hl,lj⟩:=Fal (place:=fun i=>some (i*ti.size,ti.size)) (fun i _=>rfl) (Aai hR hg h4) (ls:=Gbb (ti.cells.map fH) len) (by rw[Gai,hL]) hz3 s4;refine⟨da,?_,hl,lj⟩
  ·unfold execOp
   simp only[ho];refine fM ?_;unfold Instr.buildSlice;simp only[Sem.run_bind,run_underlying f.und,Result.andThen_ok,f'.sizeOf]
   have hle:¬ len*ti.size>2 ^ 24:=by
    have:(2:Nat) ^ 24=16777216:=by decide
    omega
   rw[if_neg hle];have e1:(parts.map fun x=>(x.1,a.eval x.2)).toList=parts.toList.map fun x=>(x.1,a.eval x.2):=by simp
   by_cases h0:len*ti.size=0
   ·have sb:Instr.fill (fun i=>some (i*ti.size,ti.size)) ((Array.range (len*ti.size)).map (fun j=>(#[]:Array Value)[j % (#[]:Array Value).size]!)) (parts.map fun x=>(x.1,a.eval x.2)).toList=some da:=by
     rw[e1,<- fR];congr 1;rw[h0];simp
    simp only[Sem.run_bind,Sem.run_pure,Result.andThen_ok,h0,if_true]at sb ⊢;rw[sb];simp[newRow,pushB]
   ·simp only[Sem.run_bind,if_neg h0,lK f'.info_ na,Result.andThen_ok,Sem.run_pure]
    rw[e1,fR];simp[newRow,pushB]
 have lh:∀ da:Array Value,aG σ ρ G w ls da.toList->pu.xs.length=ls.length/\(∀ j v x,da.toList[j]?=some v->pu.xs[j]?=some x->Jav σ ρ G w pu (0+j) v x):=fun da hl=>by
  obtain⟨h1,h2,-⟩:=tQ hR h6 hl;exact⟨h1,h2⟩
 cases hgg:noG g with
 | false =>
  rw[hgg,cond_false]at h;rw[hgg,Bool.false_or]at uj;simp only[Zbo,Ccy]at uj;obtain⟨⟨hm0,-⟩,hf0⟩:=uj;simp only[tV,aF,Option.some.injEq]at h;subst h;simp only[Far,Acf];refine⟨fun hg=>?_,fun hg=>Obl hR hd hg⟩;obtain⟨da,bh,hl,lj⟩:=main hg;obtain⟨ob,lE⟩:=lh da hl;obtain⟨d,fx,qd⟩:=fP aE hg;refine nK bh ⟨G,?_⟩
  have eI:=hR.own hd (g:=g) (sv:=.one (.sn [] .no false (.v nv))) (v:=.slice (some ⟨w.heap.size,0,none⟩) len len) (w':=pushB w da e) (G':=G) (ur:=[]) (f:=fun s p=>.slc s p) (wr:=fun _=>False)
   (by simp) (fun b _=>by cases hb:G.own b<;>rfl) (fun b hb=>hR.frame.fresh b (by rw[kX]at hb;omega)) ⟨rfl,rfl,rfl,by rw[kX];omega⟩ (fun b hb=>.inl (hR.frame.fresh b hb))
   (fun b hlt _=>lL (by omega)) (fun _ h=>h.elim) (fun _ _ _ _ _=>rfl) (by simp) (fun _ _ _ _ _ s p q h=>by injection h with h1 h2;exact⟨h1,h2⟩) (fun _ _=>rfl) rfl (fun ej _=>?_) (by simp)
  ·rw[Acf]at eI
   exact eI
  ·simp only[bY,aB]
   refine⟨⟨rfl,by simp⟩,fun _=>⟨?_,by simp,trivial⟩⟩;simp only[aT.run]at fx;split at fx
   case isFalse=>cases fx
   rename_i qg;simp only[Option.some.injEq,List.cons.injEq,and_true]at fx;rw[qd,<- fx];refine .rows _ ⟨w.heap.size,0,none⟩ len len ti.size _ (fun i j=>da.toList.getD (i*ti.size+j) undef) (Jaj _ _ _) (Zb2 _) (.inr rfl) (fun row hr=>?_) (fun i row hi j d hj=>?_) (fun i row hi j d hj=>?_)
   ·obtain⟨i,hi⟩:=List.mem_iff_getElem?.1 hr
    exact (pK _ _ _ qg i row hi).2.1
   ·obtain⟨cQ,dz,fy⟩:=pK _ _ _ qg i row hi
    have iq:=(List.getElem?_eq_some_iff.1 (fy j d hj)).1;refine⟨.inl (hR.frame.fresh _ (Zb2 _)),?_⟩;rw[nX];have ko:i*ti.size+j<da.toList.length:=by rw[hl.len,<- ob];simpa using iq
    rw[Zbu,Zbq ko,<- Bca,Zbq ko];rfl
   ·obtain⟨cQ,dz,fy⟩:=pK _ _ _ qg i row hi
    have iq:=fy j d hj;rw[Ace,Zbz]at iq;obtain⟨x,nu,rfl⟩:=iq;have ko:i*ti.size+j<da.toList.length:=by rw[hl.len,<- ob];exact (List.getElem?_eq_some_iff.1 nu).1
    have hv:da.toList[i*ti.size+j]?=some (da.toList.getD (i*ti.size+j) undef):=by
     rw[Zbu,Zbq ko];rfl
    cases lE _ _ _ hv nu with
    |sc h=>exact .sc h
    |nil z hx hv=>rw[hx,hv];exact Rd.nil
    |mv r m bc hm hr hv mA=>rw[hm0]at hm;simp at hm
    |hole r k m q hm hl hq fg hn mA=>rw[hho]at hm;simp at hm
    | fz mA h =>
     refine h.mono' fun b hb hlt=>?_
     rcases hb with hb|⟨r,p,h1,-⟩
     ·exact⟨.inl hb,lL (by omega)⟩
     ·rw[hf0]at h1;simp at h1
 | true =>
  obtain rfl:=wK hgg;rw[hgg,cond_true]at h;simp only[tV,aF,Option.some.injEq]at h;subst h;simp only[Far];refine⟨fun hg=>?_,fun hg=>by simp[gOn]at hg⟩;obtain⟨da,bh,hl,lj⟩:=main hg;obtain⟨ob,lE⟩:=lh da hl;obtain⟨d,fx,qd⟩:=fP aE hg;generalize hM:min big (pu.depth+1)=M;obtain⟨m1,rfl⟩:∃ m1,M=m1+1:=⟨M-1,by rw[<- hM];unfold big;omega⟩;have hN:w.heap.size=w.heap.size:=rfl
  have hdr:∀ r,(σ (kR r)).isSome->r≠nr:=fun r hr e=>by
   rw[e,hf]at hr;cases hr
  refine nK bh ⟨{ G with own:=fun b=>if b=w.heap.size then .slc nr [] else mP (mkF pu nr (m1+1)) (G.own b),hdr:=fun r=>if r=nr then .slice (some ⟨w.heap.size,0,none⟩) len len else G.hdr r },?_⟩
  have vn:∀ s,s∈pu.frz->∀ p,mkF pu nr (m1+1) s p=.frz:=fun s hs p=>by
   unfold mkF;rw[mI.2 hs,cond_true]
  have hmF:∀ z∈pu.moves,∀ p,mkF pu nr (m1+1) z.2.1 p=yS nr (m1+1) ([z.1]++p):=fun z hz p=>by
   unfold mkF
   have:has pu.frz z.2.1=false:=by
    have:=hmf z hz;simpa using this
   rw[this,cond_false,uC n5 z hz]
  have mz:∀ b,G.own b≠.frz->b<w.heap.size:=fun b hb=>by
   rcases Aca b w.heap.size with h|h
   ·exact h
   ·exact absurd (hR.frame.fresh b h) hb
  have b7:∀ b,b≠w.heap.size->(pushB w da e).heap[b]?=w.heap[b]?:=fun b hb=>lL hb
  have db:∀ {s:Nat} {c:aS},(kR s,c)∈(kR nr,aS.root (.v nv) (m1+1) 0 .live)::(pu.moves.map fun z=>(kR z.2.1,aS.root (.c .hole) 0 0 .gone))++fr ->
    (s=nr/\c=.root (.v nv) (m1+1) 0 .live)\/(∃ z∈pu.moves,s=z.2.1/\c=.root (.c .hole) 0 0 .gone) \/
    (s∈pu.frz/\∃ x m v,c=.root x m v .frozen/\σ (kR s)=some (.root x m v .live)):=by
   intro s c hc
   rcases List.mem_append.1 hc with hc|hc
   ·rcases List.mem_cons.1 hc with hc|hc
    ·obtain⟨e1,e2⟩:=Prod.mk.inj hc
     exact .inl ⟨eT e1,e2⟩
    ·obtain⟨z,hz,e⟩:=List.mem_map.1 hc
     obtain⟨e1,e2⟩:=Prod.mk.inj e;exact .inr (.inl ⟨z,hz,(eT e1).symm,e2.symm⟩)
   ·obtain⟨s',ju,x',oY,v',e1,e2,e3⟩:=tp _ _ hc
    obtain rfl:=eT e1;exact .inr (.inr ⟨ju,x',oY,v',e2,e3⟩)
  have iS:σ (kR nr)=none:=hf
  have zj:∀ s,s∈pu.frz->s≠nr:=fun s hs e=>by
   rcases wh s hs with ⟨x',oY,v',h8,-⟩|⟨x',oY,v',h8⟩<;>rw[e,iS]at h8<;>cases h8
  have ql:∀ b,G.own b=.frz->b<w.heap.size->(if b=w.heap.size then Ow.slc nr [] else mP (mkF pu nr (m1+1)) (G.own b))=.frz/\(pushB w da e).heap[b]?=w.heap[b]?:=fun b hb hlt=>by
   rw[if_neg (by omega),hb];exact⟨rfl,b7 b (by omega)⟩
  have fv:∀ b s p,G.own b=.slc s p->(if b=w.heap.size then Ow.slc nr [] else mP (mkF pu nr (m1+1)) (G.own b))=mkF pu nr (m1+1) s p/\(pushB w da e).heap[b]?=w.heap[b]?:=fun b s p hb=>by
   have:=mz b (by rw[hb];simp);rw[if_neg (by omega),hb];exact⟨rfl,b7 b (by omega)⟩
  refine hR.own hd (wr:=fun _=>False) (f:=mkF pu nr (m1+1)) ?_ ?_ ?_ ?_ ?_ (fun b hlt _=>b7 b (by omega)) (fun _ h=>h.elim) ?_ ?_ ?_ ?_ rfl ?_ ?_
  ·intro k c hc
   rcases List.mem_append.1 hc with hc|hc
   ·rcases List.mem_cons.1 hc with hc|hc
    ·exact⟨nr,(Prod.mk.inj hc).1⟩
    ·obtain⟨z,hz,e⟩:=List.mem_map.1 hc
     exact⟨z.2.1,(Prod.mk.inj e).1.symm⟩
   ·obtain⟨s',-,-,-,-,e1,-⟩:=tp _ _ hc
    exact⟨s',e1⟩
  ·intro b hlt
   show (if b=w.heap.size then Ow.slc nr [] else _)=_
   rw[if_neg (by omega)]
  ·intro b hb
   rw[kX]at hb;show (if b=w.heap.size then Ow.slc nr [] else mP _ (G.own b))=.frz
   rw[if_neg (by omega),hR.frame.fresh b (by omega)];rfl
  ·exact⟨rfl,rfl,rfl,by rw[kX];omega⟩
  ·intro b hb
   show (if b=w.heap.size then Ow.slc nr [] else mP _ (G.own b))=.frz\/∃ r p,(if b=w.heap.size then Ow.slc nr [] else mP _ (G.own b))=.slc r p/\_
   by_cases e:b=w.heap.size
   ·rw[if_pos e];exact .inr ⟨nr,[],rfl,iS⟩
   ·rw[if_neg e,hR.frame.fresh b hb];exact .inl rfl
  ·intro b s p hb gg
   unfold mkF
   have h1:has pu.frz s=false:=by
    rw[Aaq];intro hs
    rcases wh s hs with ⟨x',oY,v',-,h8⟩|⟨x',oY,v',h8⟩
    ·exact gg _ (Zbs _ h8)
    ·exact (hR.root h8).2 b p hb
   have h2:s∉pu.moves.map (·.2.1):=by
    intro hh;obtain⟨z,hz,e⟩:=List.mem_map.1 hh;refine gg (.root (.c .hole) 0 0 .gone) (Zbp _ (Zby _ (List.mem_map.2 ⟨z,hz,?_⟩)));rw[e]
   rw[h1,cond_false,Iax h2]
  ·intro s c hc _
   rcases db hc with ⟨rfl,rfl⟩|⟨z,hz,rfl,rfl⟩|⟨hs,x',oY,v',rfl,h8⟩
   ·exact .inl ⟨iS,_,_,_,_,rfl⟩
   ·exact .inr (.inr (.inl ⟨_,_,_,_,rfl,by simp,by simp⟩))
   ·refine .inr (.inr (.inr ⟨x',oY,v',h8,rfl,fun b p hb=>?_⟩))
    obtain⟨cQ,dz⟩:=fv b s p hb;exact⟨cQ.trans (vn s hs p),dz⟩
  ·intro r0 x0 m0 k0 mT s p q' hF
   unfold mkF at hF
   cases hh:has pu.frz s with
   |true=>rw[hh,cond_true]at hF;cases hF
   | false =>
    rw[hh,cond_false]at hF;split at hF
    ·unfold yS at hF
     split at hF
     ·injection hF with j1 j2
      exact absurd j1.symm (hdr r0 (by rw[mT];rfl))
     ·cases hF
    ·injection hF with j1 j2;exact⟨j1,j2⟩
  ·intro r hr
   show (if r=nr then _ else _)=_
   rw[if_neg (hdr r hr)]
  ·intro _ _
   simp only[bY,aB];refine⟨by simp,dX _ _ _ (.inr ⟨_,Zbs _ (Zbp _ Zb5)⟩),rfl⟩
  ·intro _ s c hc _
   rcases db hc with ⟨rfl,rfl⟩|⟨z,hz,rfl,rfl⟩|⟨hs,x',oY,v',rfl,h8⟩
   ·refine⟨_,_,_,_,rfl,?_⟩
    simp only[bP,if_true];simp only[aT.run]at fx;split at fx
    case isFalse=>cases fx
    rename_i qg;simp only[Option.some.injEq,List.cons.injEq,and_true]at fx;rw[qd,<- fx];refine .sl _ ⟨w.heap.size,0,none⟩ len len ti.size _ (fun i j=>da.toList.getD (i*ti.size+j) undef) (Jaj _ _ _) (Zb2 _) (.inl rfl) (fun row hr=>?_) (fun _=>⟨rfl,by simp,fun k hk=>?_⟩) (fun i row hi j d hj=>?_) (fun i row hi j d hj=>?_)
    ·obtain⟨i,hi⟩:=List.mem_iff_getElem?.1 hr
     exact (pK _ _ _ qg i row hi).2.1
    ·rw[nX,wE]
     have:k<da.size:=by rw[<- Cca,hl.len,lj];exact hk
     exact⟨da[k],Acr this,rfl⟩
    ·obtain⟨cQ,dz,fy⟩:=pK _ _ _ qg i row hi
     have iq:=(List.getElem?_eq_some_iff.1 (fy j d hj)).1;rw[nX];have ko:i*ti.size+j<da.toList.length:=by rw[hl.len,<- ob];simpa using iq
     rw[Zbu,Zbq ko,<- Bca,Zbq ko];rfl
    ·obtain⟨cQ,dz,fy⟩:=pK _ _ _ qg i row hi
     have iq:=fy j d hj;rw[Ace,Zbz]at iq;obtain⟨x,nu,rfl⟩:=iq;have ko:i*ti.size+j<da.toList.length:=by rw[hl.len,<- ob];exact (List.getElem?_eq_some_iff.1 nu).1
     have hv:da.toList[i*ti.size+j]?=some (da.toList.getD (i*ti.size+j) undef):=by
      rw[Zbu,Zbq ko];rfl
     have sC:=lE _ _ _ hv nu;rw[Nat.zero_add]at sC;refine sC.rp hR (by unfold big at hM;omega) ql (fun s' m2 hm2 b t hb=>?_) (fun s' q' kn=>by rw[hho]at kn;simp at kn) (fun s' ju b p hb=>?_)
     ·obtain⟨mm,mL⟩:=fv b s' t hb
      refine⟨mm.trans ?_,mL⟩;rw[hmF _ hm2,yS];simp only[Zbt,Ac3,Ac0];by_cases ht:t.length<m1
      ·rw[if_pos ht,if_pos (by omega)]
      ·rw[if_neg ht,if_neg (by omega)]
     ·obtain⟨mm,mL⟩:=fv b s' p hb
      exact⟨mm.trans (vn s' ju p),mL⟩
   ·exact⟨_,_,_,_,rfl,trivial⟩
   ·refine⟨x',oY,v',.frozen,rfl,?_,fun b p hb=>?_⟩
    ·have:=hR.root h8
     simp only[bP]at this ⊢;rw[if_neg (zj s hs)];refine this.rd.mono' fun b hb hlt=>?_
     rcases hb with hb|⟨p,hb⟩
     ·exact ql b hb hlt
     ·obtain⟨mm,mL⟩:=fv b s p hb
      exact⟨mm.trans (vn s hs p),mL⟩
    ·have de:(if b=w.heap.size then Ow.slc nr [] else mP (mkF pu nr (m1+1)) (G.own b))=.slc s p:=hb
     split at de
     ·injection de with j1 _
      exact zj s hs j1.symm
     ·cases e:G.own b with
      | slc s' p' =>
       rw[e]at de;have fw:mkF pu nr (m1+1) s' p'=.slc s p:=de;by_cases ju:s'∈pu.frz
       ·rw[vn s' ju]at fw;cases fw
       ·unfold mkF at fw
        rw[Aaq.2 ju,cond_false]at fw;split at fw
        ·unfold yS at fw
         split at fw
         ·injection fw with j1 j2;exact zj s hs j1.symm
         ·cases fw
        ·injection fw with j1 j2;exact ju (j1▸hs)
      |_=>rw[e]at de;cases de
end
def lT (vs:Nat->Nat->Value)(n sz:Nat):List Value:=(List.range (n*sz)).map fun k=>vs (k / sz) (k % sz)
theorem nY (vs:Nat->Nat->Value)(n sz:Nat):(lT vs n sz).length=n*sz:=by simp[lT]
theorem yV (vs:Nat->Nat->Value){n sz i j:Nat}(hi:i<n)(hj:j<sz):(lT vs n sz)[i*sz+j]?=some (vs i j):=by
 have hlt:i*sz+j<n*sz:=by
  have:=Bcc sz (show i+1<=n by omega);rw[Bce]at this;omega
 unfold lT;rw[Ace,Dca hlt,Acz];rw[Cc0 i sz,Nat.mul_add_div (by omega),Cc4 hj,Nat.mul_add_mod,Nat.mod_eq_of_lt hj,Ack]
theorem Ean {vs:Nat->Nat->Value}{n sz k:Nat}{u:Value}(h:(lT vs n sz)[k]?=some u):k / sz<n/\k % sz<sz/\k=k / sz*sz+k % sz/\u=vs (k / sz) (k % sz):=by
 have hlt:k<n*sz:=by
  have:=(List.getElem?_eq_some_iff.1 h).1;rwa[nY]at this
 have df:0<sz:=by
  rcases Nat.eq_zero_or_pos sz with e|e
  ·rw[e]at hlt;simp at hlt
  ·exact e
 refine⟨(Nat.div_lt_iff_lt_mul df).2 hlt,Nat.mod_lt _ df,?_,?_⟩
 ·rw[Cc0];exact (Nat.div_add_mod k sz).symm
 ·unfold lT at h
  rw[Ace,Dca hlt,Acz]at h;exact (Option.some.inj h).symm
section
variable {P:Program} {E:Env} {F:bG} {n:Nat} {σ:Nat->Option aS} {ρ:List D} {a:Act} {w w':World} {G G':Gh} {g:Option (aK×Bool)} {o:Oper} {cf:Nat->List D->Option (List D)} {Q:Exit->Act->World->Prop} {next:Act->World->Prop}
theorem Dav {rs:List (List D)}{sz:Nat}{b:Addr}{vs:Nat->Nat->Value}(df:∀ r∈rs,r.length=sz)
  (bb:∀ i row,rs[i]?=some row->∀ j d,row[j]?=some d->w.cell? (b.add (i*sz+j))=some (vs i j)):∀ k u,(lT vs rs.length sz)[k]?=some u->w.cell? (b.add k)=some u:=by
 intro k u h;obtain⟨h1,h2,h3,rfl⟩:=Ean h;have hr:rs[k / sz]?=some rs[k / sz]:=Zbq h1;have hl:=df _ (Zb4 hr);have hd:rs[k / sz][k % sz]?=some (rs[k / sz][k % sz]'(by omega)):=Zbq (by omega);have:=bb _ _ hr _ _ hd;rwa[<- h3]at this
structure Pbf (w w1:World) (G:Gh) (A:Option Addr) (n n' cap sz:Nat) (olds news:List Value) (v:Value) (A':Option Addr) (cb:Addr) (ij:Nat) (grow:Bool):Prop where
 val:v=.slice A' (n+n') ij
 aval:A'=some cb\/(A'=none/\ij=0)
 le:n+n'<=ij
 os:w1.os=w.os/\w1.tape=w.tape/\w1.output=w.output
 size:w1.heap.size=w.heap.size+(if grow=true then 1 else 0)
 heap:∀ b,b<w.heap.size->(grow=true\/A'=none\/b≠cb.block)->w1.heap[b]?=w.heap[b]?
 cell:∀ k u,(olds++news)[k]?=some u->w1.cell? (cb.add k)=some u
 all:∀ k,k<ij*sz->∃ u,w1.cell? (cb.add k)=some u/\w1.frozen? (cb.add k)=false
 spot:cb.spot=none
 base:(grow=true/\A'=some cb/\cb.block=w.heap.size)\/(grow=false/\A'=some cb/\A=some cb)\/(grow=false/\A'=none)
theorem Ma1 {t tx e:TypeId}{ti:TI}{info:TypeInfo}{u u':TypeDesc}{x y:Operand}{args:Array Operand}{argTypes:Array TypeId}(ho:o.op=.call { callee:=.builtin .append,args,argTypes })
  (eu:args.toList=[x,y]) (il:argTypes=#[t,tx]) (hu:P.underlying t=some (.slice e)) (f:cK P e ti info u) (hx:P.underlying tx=some u') (pN:∃ e',u'=.slice e')
  {A:Option Addr} {n cap n':Nat} {b:Addr} {olds news:List Value} (hxv:a.eval x=.slice A n cap) (hnc:n<=cap) (hA:(A=some b/\b.spot=none)\/(A=none/\cap=0))
  (rz:olds.length=n*ti.size) (um:∀ k u,olds[k]?=some u->w.cell? (b.add k)=some u) (cP:A=some b->∀ k,k<cap*ti.size->∃ u,w.cell? (b.add k)=some u/\w.frozen? (b.add k)=false)
  {By:Option Addr} {by':Addr} {mo:Nat} (zv:a.eval y=.slice By n' mo) (hBy:n'=0\/By=some by') (vA:news.length=n'*ti.size) (y7:∀ k u,news[k]?=some u->w.cell? (by'.add k)=some u) (uy:∀ u∈news,u.oneCell'=true)
  (hb0:0<ti.bytes) (hs0:0<ti.size) (fp:(n+n')*ti.bytes<=eD) :
  ∃ v w1 A' cb ij grow,(execOp a.eval o).run P w=.ok (.value v) w1/\Pbf w w1 G A n n' cap ti.size olds news v A' cb ij grow:=by
 obtain⟨e',rfl⟩:=pN
 have pZ:Src P ti.size tx (.slice By n' mo) n' news w:=by
  rcases hBy with rfl|rfl
  ·have:news=[]:=Ac5 (by simpa using vA)
   subst this
   cases By with
   |none=>exact Src.ofNil w hx mo
   |some b1=>exact Src.ofSlice w hx b1 0 mo [] (by simp) (by simp) (by simp)
  ·exact Src.ofSlice w hx by' n' mo news vA y7 uy
 have kb:∀ {v:Value} {w1:World},(Builtin.append_ #[t,tx] o.type #[.slice A n cap,.slice By n' mo]).run P w=.ok v w1->(execOp a.eval o).run P w=.ok (.value v) w1:=by
  intro v w1 h;refine mE ho (s:=Builtin.append_ argTypes o.type (args.map a.eval)) (fun _=>rfl) ?_;rw[Ibf eu,Kbb,hxv,zv,il];exact h
 have df:info.size=ti.size:=f.size.symm;have zl:info.bytes=ti.bytes:=f.bytes.symm;by_cases nn:n+n'<=cap
 ·rcases hA with ⟨rfl,jd⟩|⟨rfl,h0⟩
  ·
   have hbb:b=⟨b.block,b.off,none⟩:=by cases b;simp only at jd;subst jd;rfl
   have cG:∀ j,j<news.length->∃ u,w.cell? ⟨b.block,b.off+n*ti.size+j,none⟩=some u/\w.frozen? ⟨b.block,b.off+n*ti.size+j,none⟩=false:=fun j hj=>by
    have:=cP rfl (n*ti.size+j) (by
     have:=Bcc ti.size nn;rw[Bce]at this
     omega)
    rw[add_plain jd,<- Acb]at this;exact this
   have bh:=run_append_room_src (P:=P) w t tx o.type e info hu f.info_ b.block b.off n cap (.slice By n' mo) n' news (by rw[df];exact pZ) nn
    (fun j hj=>by rw[df];obtain⟨u,h1,-⟩:=cG j hj;rw[h1];rfl) (fun j hj=>by rw[df];exact (cG j hj).choose_spec.2)
   rw[<- hbb,df]at bh;refine⟨_,_,some b,b,cap,false,kb bh,rfl,.inl rfl,nn,iK _ _ _ _,by rw[setCells_size];simp,fun b' _ de=>?_,fun k u hk=>?_,fun k hk=>?_,jd,.inr (.inl ⟨rfl,rfl,rfl⟩)⟩
   ·rcases de with de|de|de
    ·cases de
    ·cases de
    ·exact dB _ _ _ _ _ de
   ·by_cases hlt:k<olds.length
    ·rw[Zb9 hlt]at hk
     rw[add_plain jd,World.cell?_setCells_out _ _ _ _ _ (fun _ _=>.inl (by dsimp only;omega)),<- add_plain jd];exact um k u hk
    ·rw[Zb8 (by omega)]at hk
     have qq:=(List.getElem?_eq_some_iff.1 hk).1;have:=World.cell?_setCells_in b.block news (b.off+n*ti.size) w (fun j hj=>by obtain⟨u,h1,-⟩:=cG j hj;rw[h1];rfl) (k-olds.length) qq;rw[show b.off+n*ti.size+(k-olds.length)=b.off+k by omega]at this;rw[add_plain jd,this,<- hk,Zbq]
   ·obtain⟨u0,uu,hf0⟩:=cP rfl k hk
    rw[World.frozen?_setCells];obtain⟨u1,yq⟩:=jV (B:=b.block) (o:=b.off+n*ti.size) (vs:=news) (b:=b.add k) (fun _=>by rw[add_plain jd]) (fun j hj=>by obtain⟨u,h1,-⟩:=cG j hj;rw[h1];rfl) uu;exact⟨u1,yq,hf0⟩
  ·
   have hn0:n=0:=by omega
   have a68:n'=0:=by omega
   subst hn0 a68 h0;have:news=[]:=Ac5 (by simpa using vA);subst this;have:olds=[]:=Ac5 (by simpa using rz);subst this;refine⟨_,_,none,⟨0,0,none⟩,0,false,kb (run_append_nothing w t tx o.type e info hu f.info_ none 0 0 (Zb2 _) _ (by rw[df];exact pZ)),rfl,.inr ⟨rfl,rfl⟩,Zb2 _,⟨rfl,rfl,rfl⟩,by simp,fun _ _ _=>rfl,by simp,by simp,rfl,.inr (.inr ⟨rfl,rfl⟩)⟩
 ·
  obtain⟨z,na,p5,-,-⟩:=f.zeros (σ:=fun _=>none) (ρ:=[]) (G:=G) (w:=w);have zz:z.cells.size=ti.size:=by rw[<- Cca,p5.len,Zb3,f.len]
  have hold:(Builtin.firstCells info.size n (.slice A n cap)).run P w.drew=.ok olds.toArray w.drew:=by
   rcases hA with ⟨rfl,jd⟩|⟨rfl,h0⟩
   ·exact run_firstCells_some w.drew info.size n b n cap olds (by rw[df];exact rz) (fun j u hj=>um j u hj)
   ·have hn0:n=0:=by omega
    subst hn0;have:olds=[]:=Ac5 (by simpa using rz);subst this;rfl
  have h1:(n+n')*1<=(n+n')*ti.bytes:=Nat.mul_le_mul_left _ hb0;have xp:=nextslicecap_le (show cap<n+n' by omega)
  have a3q:Builtin.nextslicecap (n+n') cap*info.bytes<=281474976710656:=by
   rw[zl];have h2:=Bcc ti.bytes xp;rw[Nat.mul_assoc]at h2;unfold eD at fp;omega
  have bh:=run_append_grow_src (P:=P) w t tx o.type e info z hu f.info_ na A n cap olds hold (.slice By n' mo) n' news (by rw[df];exact pZ) (by omega) (by unfold eD at fp;omega) a3q;have lB:=grownCap_ge w (n+n') cap e;generalize hgc:grownCap w (n+n') cap e=gc at bh lB
  have uz:∀ b',b'≠w.heap.size->(w.drew.alloc (.cells ((olds++news).toArray++Builtin.zeroCells z.cells (gc-(n+n'))) e)).heap[b']?=w.heap[b']?:=fun b' de=>by
   show (w.heap.push _)[b']?=_
   rw[Dcd,if_neg de]
  have gn:(w.drew.alloc (.cells ((olds++news).toArray++Builtin.zeroCells z.cells (gc-(n+n'))) e)).heap[w.heap.size]?=some (.cells ((olds++news).toArray++Builtin.zeroCells z.cells (gc-(n+n'))) e (0,0)):=by
   show (w.heap.push _)[w.heap.size]?=_
   rw[Dcd,if_pos rfl]
  have bb:∀ k,(w.drew.alloc (.cells ((olds++news).toArray++Builtin.zeroCells z.cells (gc-(n+n'))) e)).cell? ((⟨w.heap.size,0,none⟩:Addr).add k)=((olds++news).toArray++Builtin.zeroCells z.cells (gc-(n+n')))[k]?:=fun k=>by
   unfold World.cell?;rw[add_block,gn];simp[Addr.add];split<;>simp_all
  refine⟨_,_,some ⟨w.heap.size,0,none⟩,⟨w.heap.size,0,none⟩,gc,true,kb bh,rfl,.inl rfl,lB,⟨rfl,rfl,rfl⟩,by show (w.heap.push _).size=_;rw[Array.size_push,if_pos rfl],fun b' hlt _=>uz b' (by omega),fun k u hk=>?_,fun k hk=>?_,rfl,.inl ⟨rfl,rfl,rfl⟩⟩
  ·have hlt:=(List.getElem?_eq_some_iff.1 hk).1
   rw[bb,Array.getElem?_append_left (by simpa using hlt)];simpa using hk
  ·have p4:((olds++news).toArray++Builtin.zeroCells z.cells (gc-(n+n'))).size=gc*ti.size:=by
    simp only[Array.size_append,List.size_toArray,Zbt,Builtin.zeroCells,Array.size_map,Array.size_range];rw[rz,vA,zz,<- Bce,<- Bce];congr 1;omega
   rw[bb];refine⟨_,Acr (by omega),?_⟩;unfold World.frozen?;rw[add_block,gn];simp
end
section
variable {P:Program} {E:Env} {F:bG} {n:Nat} {σ:Nat->Option aS} {ρ:List D} {a:Act} {w w':World} {G G':Gh} {g:Option (aK×Bool)} {o:Oper} {cf:Nat->List D->Option (List D)} {Q:Exit->Act->World->Prop} {next:Act->World->Prop}
structure Side (w:World) (v:Value) (rs:List (List D)) (sz:Nat) (A:Option Addr) (b:Addr) (n cap:Nat) (vs:Nat->Nat->Value):Prop where
 val:v=.slice A n cap
 len:rs.length=n
 le:n<=cap
 rows:∀ r∈rs,r.length=sz
 cell:∀ i row,rs[i]?=some row->∀ j d,row[j]?=some d->w.cell? (b.add (i*sz+j))=some (vs i j)
def ChY (G:Gh)(w:World)(k9:List Nat)(mg:Option Nat)(dy:Nat)(v:Value)(d:D)(idx:Nat):Prop :=
 Sc v d\/(∃ s,mg=some s/\2<=dy/\Rp G.own w s [idx] (dy-1) v d)\/(dy=1/\Rd (fun b=>G.own b=.frz\/∃ r p,r∈k9/\G.own b=.slc r p) w v d)
structure YOk (σ:Nat->Option aS) (G:Gh) (w:World) (fl:Bool) (v:Value) (rb:List (List D)) (sz dy:Nat) (gi:List (Nat×aS)) (ry:List Nat) (k9:List Nat) (mg:Option Nat):Prop where
 side:∃ A b n cap vs,Side w v rb sz A b n cap vs/\(n=0\/A=some b)/\∀ i row,rb[i]?=some row->∀ j d,row[j]?=some d->ChY G w k9 mg dy (vs i j) d (i*sz+j)
 upd:∀ k c,(k,c)∈gi->∃ s,k=kR s/\s∈ry/\((mg=some s/\c=.root (.c .hole) 0 0 .gone/\∃ x m bc,σ (kR s)=some (.root x m bc .live))\/(s∈k9/\∃ x m bc,c=.root x m bc .frozen/\σ (kR s)=some (.root x m bc .live)))
 fz:∀ s∈k9,s∈ry/\((∃ c,(kR s,c)∈gi)\/∃ x m bc,σ (kR s)=some (.root x m bc .frozen))
 mv:∀ s,mg=some s->s∈ry/\(∃ c,(kR s,c)∈gi)/\s∉k9
 dy:1<=dy
 flat:fl=true->gi=[]/\k9=[]/\mg=none
theorem Rd.side {ok:Nat->Prop}{v:Value}{sz:Nat}{rs:List (List D)}(h:Rd ok w v (.rows sz rs)):∃ A b n cap vs,Side w v rs sz A b n cap vs/\(n=0\/A=some b)/\∀ i row,rs[i]?=some row->∀ j d,row[j]?=some d->Rd ok w (vs i j) d:=by
 obtain⟨A,b,n,c,vs,e1,e2,e3,e4,e5,e6,e7⟩:=h.inv;exact⟨A,b,n,c,vs,⟨e1,e2,e3,e5,fun i row hi j d hj=>(e6 i row hi j d hj).2⟩,e4,e7⟩
theorem Rb7 (hR:R E.ntmps F σ ρ a w G){fl:Bool}{y:SlR}{v:Value}(hy:Ya4 σ ρ G w y v){sz:Nat}{rb:List (List D)}(hx:y.x.val ρ=.rows sz rb)(fR:fl=true->∀ r∈rb,∀ d∈r,d.isSc=true)
  {dy:Nat} {gi:List (Nat×aS)} {ry:List Nat} (h:(Uau fl y).eval σ=some (dy,gi,ry)):∃ k9 mg,YOk σ G w fl v rb sz dy gi ry k9 mg:=by
 have gE:=hy.rd;rw[hx]at gE;unfold Uau at h
 cases fl with
 | true =>
  simp only[cond_true,aF,Option.some.injEq,Prod.mk.injEq]at h;obtain⟨rfl,rfl,rfl⟩:=h;refine⟨[],none,?_,by simp,by simp,by simp,by decide,fun _=>⟨rfl,rfl,rfl⟩⟩;obtain⟨A,b,n,c,vs,h1,h2,h3⟩:=gE.side;exact⟨A,b,n,c,vs,h1,h2,fun i row hi j d hj=>.inl ((h3 i row hi j d hj).sc_inv (fR rfl row (Zb4 hi) d (Zb4 hj)))⟩
 | false =>
  simp only[cond_false]at h;have az:=hy.own;unfold vF at az
  have frozen:∀ rs fr,(dQ rs).eval σ=some fr->Rd (fun b=>G.own b=.frz\/∃ r p,r∈rs/\G.own b=.slc r p) w v (.rows sz rb)->YOk σ G w false v rb sz 1 fr rs rs none:=by
   intro rs fr ej gE;obtain⟨h1,h2⟩:=gH ej;refine⟨?_,fun k c hc=>?_,fun s hs=>⟨hs,?_⟩,by simp,Zb2 _,by simp⟩
   ·obtain⟨A,b,n,c,vs,h3,h4,h5⟩:=gE.side
    exact⟨A,b,n,c,vs,h3,h4,fun i row hi j d hj=>.inr (.inr ⟨rfl,h5 i row hi j d hj⟩)⟩
   ·obtain⟨s,hs,x,m,bc,e1,e2,e3⟩:=h2 k c hc
    exact⟨s,e1,hs,.inr ⟨hs,x,m,bc,e2,e3⟩⟩
   ·rcases h1 s hs with ⟨x,m,bc,e1,e2⟩|h3
    ·exact .inl ⟨_,e2⟩
    ·exact .inr h3
  split at h
  ·rename_i r k m ho
   rw[ho]at az;obtain⟨h1,⟨x,h2⟩,h3,h4,h5⟩:=az;simp only[bB,Acm,List.length_nil,Nat.sub_zero]at h4;rw[hx]at h4
   cases hb:Nat.ble 2 m with
   | true =>
    rw[hb]at h;simp only[cond_true,aF,Option.some.injEq,Prod.mk.injEq]at h;obtain⟨rfl,rfl,rfl⟩:=h;simp only[Ac2]at hb;obtain⟨m',rfl⟩:∃ m',m=m'+1:=⟨m-1,by omega⟩;obtain⟨A,b,n,c,vs,e1,e2,e3,e4,e5,e6,e7,e8⟩:=h4.sl_inv;refine⟨[],some r,⟨A,b,n,c,vs,⟨e1,e2,e3,e5,e7⟩,?_,fun i row hi j d hj=>.inr (.inl ⟨r,rfl,hb,by simpa using e8 i row hi j d hj⟩)⟩,fun k' c' hc=>?_,by simp,fun s hs=>?_,by omega,by simp⟩
    ·rcases e4 with e4|⟨e4,sw⟩
     ·exact .inr e4
     ·exact .inl (by omega)
    ·simp only[Zb0,Prod.mk.injEq]at hc
     exact⟨r,hc.1,by simp,.inl ⟨rfl,hc.2,x,_,k,h2⟩⟩
    ·obtain rfl:=Option.some.inj hs
     exact⟨by simp,⟨_,List.mem_singleton.2 rfl⟩,by simp⟩
   | false =>
    rw[hb]at h;simp only[cond_false,aF,Option.some.injEq,Prod.mk.injEq]at h;obtain⟨rfl,rfl,rfl⟩:=h
    have hm:m<=1:=by
     have:¬ 2<=m:=by rw[<- Ac2,hb];simp
     omega
    refine⟨[],none,?_,by simp,by simp,by simp,Zb2 _,by simp⟩
    rcases Nat.eq_zero_or_pos m with rfl|ig
    ·obtain⟨A,b,n,c,vs,h6,h7,h8⟩:=h4.zero.side
     exact⟨A,b,n,c,vs,h6,h7,fun i row hi j d hj=>.inr (.inr ⟨rfl,(h8 i row hi j d hj).mono fun b hb=>⟨.inl hb,rfl⟩⟩)⟩
    ·obtain rfl:m=0+1:=by omega
     obtain⟨A,b,n,c,vs,e1,e2,e3,e4,e5,e6,e7,e8⟩:=h4.sl_inv;refine⟨A,b,n,c,vs,⟨e1,e2,e3,e5,e7⟩,?_,fun i row hi j d hj=>.inr (.inr ⟨rfl,(e8 i row hi j d hj).zero.mono fun b hb=>⟨.inl hb,rfl⟩⟩)⟩
     rcases e4 with e4|⟨e4,sw⟩
     ·exact .inr e4
     ·exact .inl (by omega)
  ·rename_i r k m p cL ho
   rw[ho]at az;simp only[aA,Zbn,aF,Option.some.injEq,Prod.mk.injEq]at h;obtain⟨fr,h6,rfl,rfl,rfl⟩:=h;refine⟨[r],none,frozen _ _ h6 ?_⟩;refine gE.mono fun b hb=>⟨hb.imp id fun ⟨r',k',p',h7,h8⟩=>?_,rfl⟩
   rw[az.1]at h7;simp only[Zb0,Prod.mk.injEq]at h7;exact⟨r,p',by simp,h7.1▸h8⟩
  ·split at h
   ·rename_i z hz
    simp only[aF,Option.some.injEq,Prod.mk.injEq]at h;obtain⟨rfl,rfl,rfl⟩:=h;rw[hz]at hx;simp only[aK.val,D.rows.injEq]at hx;obtain⟨rfl,rfl⟩:=hx;refine⟨[],none,?_,by simp,by simp,by simp,by decide,by simp⟩;obtain⟨A,b,n,c,vs,h1,h2,h3⟩:=gE.side;exact⟨A,b,n,c,vs,h1,h2,by simp⟩
   ·simp only[aA,Zbn,aF,Option.some.injEq,Prod.mk.injEq]at h
    obtain⟨fr,h6,rfl,rfl,rfl⟩:=h;refine⟨y.deps.map (·.1),none,frozen _ _ h6 ?_⟩;exact gE.mono fun b hb=>⟨hb.imp id fun ⟨r',k',p',h7,h8⟩=>⟨r',p',Bci (f:=fun x:Nat×Nat=>x.1) h7,h8⟩,rfl⟩
end
end Go.Proofs.YtcbkmmhkccnamaaGreat.Rf
