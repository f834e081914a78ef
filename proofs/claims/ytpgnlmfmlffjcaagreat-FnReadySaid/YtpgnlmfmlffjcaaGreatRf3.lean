/- Terms for the program's functions, and that they are right: part 3 of 10. -/
import Derived.Test.YtpgnlmfmlffjcaaGreatRf2
import Derived.Laws.IdiomCopy
import Derived.Deep.Upon
open Array renaming getElem?_eq_getElem → Tb3, getElem?_toList → Ubj, length_toList → Vbo, getElem?_push → Wbr, ext' → Wbs
open Bool renaming and_eq_true → Sbu, not_eq_true' → Tbm
open List renaming length_cons → Sbw, length_append → Sby, mem_append_left → Sbz, getElem?_eq_getElem → Sb0, mem_append_right → Sb2, append_assoc → Sb3, getD_eq_getElem?_getD → Sb4, length_map → Sb5, getElem?_cons_zero → Sb8, mem_singleton → Sb9, mem_cons_of_mem → Tba, append_nil → Tbb, mem_cons_self → Tbe, getElem?_append_right → Tbf, mem_of_getElem? → Tbg, getElem?_append_left → Tbj, map_cons → Tbn, getElem?_map → Tbo, all_eq_true → Tbp, map_nil → Tbw, nil_append → Tb2, getElem?_drop → Tb5, getElem?_cons_succ → Tb9, getElem?_take → Ubg, eq_nil_of_length_eq_zero → Ubh, length_singleton → Ubi, mem_map_of_mem → Ubt, cons_append → Ub3, getElem?_set → Ub5, foldl_cons → Vbg, singleton_append → Vbl, ext_getElem? → Vbv, any_eq_false → Vbw, mem_or_eq_of_mem_set → Vb4, isEmpty_iff → Wbf, getElem?_range → Wbn
open Nat renaming le_refl → Sb7, lt_or_ge → Tbi, add_assoc → Tbl, add_zero → Tbs, beq_eq → Tbv, ble_eq → Ubf, mul_le_mul_right → Ubl, add_mul → Ubm, mul_comm → Wbh, div_eq_of_lt → Wbj
open Option renaming bind_eq_some_iff → Sbt, bind_some → Sb6, map_eq_some_iff → Tbd, map_some → Ubd, isNone_iff_eq_none → Vbr
set_option linter.unusedSimpArgs false
set_option linter.unusedVariables false
set_option linter.unnecessarySimpa false
set_option linter.unusedSectionVars false
namespace Go.Proofs.YtpgnlmfmlffjcaaGreat.Rf
set_option linter.unusedVariables false
set_option linter.unusedSimpArgs false
theorem eD (b:Nat):∀ (vs:List Value) (o:Nat) (w:World) (k:Nat),k≠b->(w.setCells b o vs).heap[k]?=w.heap[k]?
 |[],_,_,_,_=>rfl
 | v :: r, o, w, k, h => by
  rw[World.setCells,eD b r _ _ k h]
  exact heap_setCell_other w _ k v h
theorem setCells_size (b:Nat):∀ (vs:List Value) (o:Nat) (w:World),(w.setCells b o vs).heap.size=w.heap.size
 |[],_,_=>rfl
 |v::r,o,w=>by rw[World.setCells,setCells_size b r];exact World.size_setCell ..
theorem kQ (b:Nat):∀ (vs:List Value) (o:Nat) (w:World),(w.setCells b o vs).os=w.os/\(w.setCells b o vs).tape=w.tape/\(w.setCells b o vs).output=w.output
 |[],_,_=>⟨rfl,rfl,rfl⟩
 |v::r,o,w=>by rw[World.setCells];exact kQ b r (o+1) _
theorem Fav (b:Nat):∀ (vs:List Value) (o:Nat) (w:World) (c:Array Value) (e:TypeId) (fr:Nat×Nat),w.heap[b]?=some (.cells c e fr) ->
  ∃ c',(w.setCells b o vs).heap[b]?=some (.cells c' e fr)/\c'.size=c.size/\∀ k,k<o\/o+vs.length<=k->c'[k]?=c[k]?
 |[],o,w,c,e,fr,h=>⟨c,h,rfl,fun _ _=>rfl⟩
 | v :: r, o, w, c, e, fr, h => by
  have h1:(w.setCell ⟨b,o,none⟩ v).heap[b]?=some (.cells (c.setIfInBounds o v) e fr):=by
   simp[World.setCell,Array.getElem?_modify,h]
  obtain⟨c',h2,h3,h4⟩:=Fav b r (o+1) _ _ e fr h1
  refine⟨c',h2,by simpa using h3,fun k hk=>?_⟩
  simp only[Sbw]at hk
  rw[h4 k (by omega),Array.getElem?_setIfInBounds_ne (by omega)]
section
variable {P:Program} {E:Env} {F:cB} {σ:Nat->Option aW} {ρ:List D} {a:Act} {w w':World} {G:Gh} {g:Option (aO×Bool)} {o:Oper} {cf:Nat->List D->Option (List D)} {Q:Exit->Act->World->Prop} {next:Act->World->Prop}
theorem Ia0 {t:TypeId}{i:TI}{info:TypeInfo}{u:TypeDesc}(f:dW P t i info u){b off:Nat}{v:Value}(hl:v.cells.toList.length=i.size)
  (hc:∀ j,j<i.size->∃ u,w.cell? ⟨b,off+j,none⟩=some u) (hf:∀ j,j<i.size->w.frozen? ⟨b,off+j,none⟩=false) (h1:∀ x∈v.cells.toList,x.oneCell'=true) :
  (storeVar t ⟨b,off,none⟩ v).run P w=.ok () (w.setCells b off v.cells.toList):=by
 unfold storeVar
 rw[Sem.run_bind,f.sizeOf]
 simp only[Result.andThen_ok]
 have:¬ v.cells.size≠i.size:=by simpa using hl
 rw[if_neg this]
 have h2:=run_storeCells_cells (P:=P) b off v.cells.toList 0 w (fun j hj=>by
  obtain⟨u,hu⟩:=hc j (by omega)
  rw[Tbs,hu];rfl) (fun j hj=>by rw[Tbs];exact hf j (by omega)) h1
 rw[Tbs]at h2
 simpa using h2
theorem aD.one {l:aZ}{v:Value}(h:aD σ ρ G w l v)(hs:Sao l=true):v.oneCell'=true:=by
 cases l with
 |dead=>simpa[aD] using h
 |sc x=>simp only[aD]at h;exact h.one
 |su g x=>simp[Sao]at hs
 |ex r=>simp only[aD]at h;exact h.2.2
 |sn deps p nie x=>simp only[aD]at h;exact h.1.1
 |px b off=>simp only[aD]at h;rw[h.1];rfl
 |pe l sz i off=>simp only[aD]at h;obtain⟨_,_,_,_,_,_,_,_,_,e⟩:=h;rw[e];rfl
 |rp deps sz x=>simp only[aD]at h;exact h.1.1
 |pn=>simp only[aD]at h;rw[h];rfl
 |clo f caps=>simp only[aD]at h;obtain⟨_,e,_⟩:=h;rw[e];rfl
theorem aK.ones {ls:List aZ}{vs:List Value}(h:aK σ ρ G w ls vs)(hs:ls.all Sao=true):∀ v∈vs,v.oneCell'=true:=by
 intro v hv
 obtain⟨i,hi⟩:=List.mem_iff_getElem?.1 hv
 have hlt:i<ls.length:=by
  rw[<- h.len]
  exact (List.getElem?_eq_some_iff.1 hi).1
 have hl:ls[i]?=some ls[i]:=Sb0 hlt
 obtain⟨v',h1,h2⟩:=h.get hl
 rw[hi]at h1
 obtain rfl:=Option.some.inj h1
 rw[Tbp]at hs
 exact h2.one (hs _ (Tbg hl))
theorem Aa8 {v:Value}(h:v.oneCell'=true):v.cells=#[v]:=by cases v<;>first|rfl|(simp[Value.oneCell']at h)
theorem aD.cells {l:aZ}{v:Value}(h:aD σ ρ G w l v):v.cells=#[v]:=by
 by_cases hs:Sao l=true
 ·exact Aa8 (h.one hs)
 ·cases l<;>first|(simp[Sao]at hs;done)|skip
  simp only[aD]at h
  rcases h.1 with h1|⟨rfl,-⟩
  ·exact Aa8 h1.one
  ·rfl
theorem kL {agg:Bool}{sv:SV}{ls:List aZ}{v:Value}(h:nH agg sv=some ls)(hv:eB σ ρ G w sv v):aK σ ρ G w ls v.cells.toList:=by
 unfold nH at h
 split at h
 ·rename_i l
  cases agg with
  |true=>cases h
  | false =>
   obtain rfl:=Option.some.inj h
   rw[aD.cells hv]
   simp only[aK]
   exact⟨v,[],rfl,hv,rfl⟩
 ·rename_i ms
  cases agg with
  |false=>cases h
  | true =>
   obtain rfl:=Option.some.inj h
   obtain⟨vs,rfl,h1⟩:=hv
   simpa[Value.cells] using h1
 ·cases h
def pushB (w:World)(c:Array Value)(e:TypeId):World:={ w with heap:=w.heap.push (.cells c e (0,0)) }
theorem pV {c:Array Value}{e:TypeId}{b:Nat}(h:b≠w.heap.size):(pushB w c e).heap[b]?=w.heap[b]?:=by
 unfold pushB
 rw[Wbr,if_neg h]
theorem Ta7 {c:Array Value}{e:TypeId}:(pushB w c e).heap[w.heap.size]?=some (.cells c e (0,0)):=by
 unfold pushB
 rw[Wbr,if_pos rfl]
theorem oZ {c:Array Value}{e:TypeId}:(pushB w c e).heap.size=w.heap.size+1:=by
 unfold pushB
 simp
theorem uD {c:Array Value}{e:TypeId}(j:Nat):(pushB w c e).cell? ((⟨w.heap.size,0,none⟩:Addr).add j)=c[j]?:=by
 unfold World.cell?
 rw[add_block,Ta7]
 simp[Addr.add]
 split<;>simp_all
theorem Aa5 {c:Array Value}{e:TypeId}(j:Nat):(pushB w c e).frozen? ((⟨w.heap.size,0,none⟩:Addr).add j)=false:=by
 unfold World.frozen?
 rw[add_block,Ta7]
 simp
theorem rH.push (h:rH F G w)(c:Array Value)(e:TypeId){G':Gh}(ho:∀ b,b≠w.heap.size->G'.own b=G.own b\/((∃ r p,G.own b=.slc r p))):rH F G' (pushB w c e):=by
 refine⟨h.os,h.tape,h.output,by rw[oZ];have:=h.size;omega,fun b hb hf=>?_,fun b j hb hj=>?_,fun b hb=>?_⟩
 ·have hne:b≠w.heap.size:=by have:=h.size;omega
  obtain⟨h1,h2⟩:=h.keep b hb hf
  refine⟨by rw[pV hne];exact h1,?_⟩
  rcases ho b hne with h3|⟨r,p,h3⟩
  ·rw[h3];exact h2
  ·rw[h3]at h2
   rw[<- h2]at hf
   rcases hf with hf|hf<;>cases hf
 ·have hne:b≠w.heap.size:=by have:=h.size;omega
  obtain⟨h1,c0,c1,e',fr,h2,h3,h4⟩:=h.boxes b j hb hj
  refine⟨?_,c0,c1,e',fr,h2,by rw[pV hne];exact h3,h4⟩
  rcases ho b hne with h5|⟨r,p,h5⟩
  ·rw[h5];exact h1
  ·rw[h5]at h1;cases h1
 ·rw[oZ]at hb
  have hne:b≠w.heap.size:=by omega
  rcases ho b hne with h5|⟨r,p,h5⟩
  ·rw[h5];exact h.fresh b (by omega)
  ·rw[h.fresh b (by omega)]at h5;cases h5
def Ca8 (G:Gh)(w:World)(nb:Nat):Gh:={ G with own:=fun b=>if b=w.heap.size then .box nb else G.own b,bx:=fun b=>if b=nb then ⟨w.heap.size,0,none⟩ else G.bx b }
structure Haf (σ:Nat->Option aW) (nb nr:Nat):Prop where
 nb:σ (kB nb)=none
 nr:∀ j,nr<=j->j<nr+dO->σ (kR j)=none
theorem Oai {e:TypeId}{v:Value}:(newVar e v).run P w=.ok ⟨w.heap.size,0,none⟩ (pushB w v.cells e):=by
 simp[newVar,newRow,pushB]
theorem Ibn {u0:List (Nat×aW)}{nb:Nat}{ls:List aZ}(r:Nat)(h:∀ k c,(k,c)∈u0->∃ t,k=kT t):upds σ (u0++[(kB nb,aW.box false ls)]) (kR r)=σ (kR r):=by
 refine gZ _ _ _ fun c hc=>?_
 rcases List.mem_append.1 hc with hc|hc
 ·obtain⟨t,e⟩:=h _ _ hc
  exact kU e.symm
 ·simp only[Sb9,Prod.mk.injEq]at hc
  exact iX hc.1.symm
theorem Mak (o:Oper)(g:Option (aO×Bool))(v:SV):∀ k c,(k,c)∈fU o g v->∃ t,k=kT t:=by
 intro k c h
 unfold fU at h
 split at h
 ·rename_i d _
  simp only[Sb9,Prod.mk.injEq]at h
  exact⟨d,h.1⟩
 ·simp at h
theorem Cax {o:Oper}{g:Option (aO×Bool)}{v:SV}{k:Nat}{c:aW}(h:(k,c)∈fU o g v):∃ d,o.dst=some d/\k=kT d/\c=.slot g v:=by
 unfold fU at h
 split at h
 ·rename_i d hd
  simp only[Sb9,Prod.mk.injEq]at h
  exact⟨d,hd,h.1,h.2⟩
 ·simp at h
theorem Jaz {n:Nat}{gh:Nat->Value}{v:Value}{g:Option (aO×Bool)}{sv:SV}{u1:List (Nat×aW)}{t:Nat}(h:∀ c,(kT t,c)∉fU o g sv++u1):Eaq n (a.put o.dst v) gh t=Eaq n a gh t:=by
 cases e:o.dst with
 |none=>rfl
 | some d =>
  refine Kao _ _ _ _ _ _ fun e'=>h (.slot g sv) ?_
  refine Sbz _ ?_
  unfold fU
  rw[e,e']
  exact List.mem_singleton.2 rfl
theorem R.newBox (h:R E.ntmps F σ ρ a w G)(hd:iJ E.ntmps o){nb:Nat}(hf:σ (kB nb)=none){cs:Array Value}{ty:TypeId}{ls:List aZ}(hl:aK σ ρ G w ls cs.toList) :
  R E.ntmps F (upds σ (fU o none (.one (.px nb 0))++[(kB nb,.box false ls)])) ρ (a.put o.dst (.pointer (some ⟨w.heap.size,0,none⟩))) (pushB w cs ty) (Ca8 G w nb):=by
 have hne:∀ b,G.own b≠.frz->b≠w.heap.size:=fun b hb e=>hb (h.frame.fresh b (by omega))
 have hkeys:=Mak o none (.one (.px nb 0))
 have hR:∀ r,upds σ (fU o none (.one (.px nb 0))++[(kB nb,aW.box false ls)]) (kR r)=σ (kR r):=fun r=>Ibn r hkeys
 have hfr:Fr σ G w (upds σ (fU o none (.one (.px nb 0))++[(kB nb,.box false ls)])) (Ca8 G w nb) (pushB w cs ty):=by
  refine⟨fun b hb hlt=>?_,fun r k _ hv=>?_,fun r k hk=>hk.same hR,fun r k b p _ _ hb=>?_,fun r k m _ hv=>⟨?_,fun b p hb=>?_⟩,fun _ _=>rfl,fun b hb=>?_,fun k hk=>gD _ _ _ (.inl hk),fun r x m k _ b p hb=>?_⟩
  ·have hn:b≠w.heap.size:=by omega
   exact⟨by simp only[Ca8,if_neg hn];exact hb,pV hn⟩
  ·obtain⟨x,m,st,e,hs⟩:=hv
   exact⟨x,m,st,by rw[<- hR];exact e,hs⟩
  ·have hn:=hne b (by rw[hb];simp)
   exact⟨.inl (by simp only[Ca8,if_neg hn];exact hb),pV hn⟩
  ·obtain⟨x,e⟩:=hv
   exact⟨x,by rw[<- hR];exact e⟩
  ·have hn:=hne b (by rw[hb];simp)
   simp only[Ca8,if_neg hn];exact hb
  ·have:b≠nb:=fun e=>by rw[e,hf]at hb;cases hb
   simp only[Ca8,if_neg this]
  ·by_cases hn:b=w.heap.size
   ·simp only[Ca8,if_pos hn]at hb;cases hb
   ·simp only[Ca8,if_neg hn]at hb;exact hb
 refine h.upd _ hfr (by rw[Fa7];exact h.tmps) (by rw[put_defers];exact h.defers) (h.frame.push cs ty fun b hb=>.inl (by simp only[Ca8,if_neg hb])) (fun t ht=>Jaz ht) (fun b ro bs hb _=>?_) (fun b bs hb hlt ho=>?_) (fun k c hk hk'=>?_)
 ·obtain⟨_,h2,_⟩:=h.box hb
  have hn:=hne (G.bx b).block (by rw[h2];split<;>simp)
  exact⟨by simp only[Ca8,if_neg hn],pV hn⟩
 ·rcases List.mem_append.1 hb with hb|hb
  ·obtain⟨t,e⟩:=hkeys _ _ hb
   exact absurd e.symm rO
  ·simp only[Sb9,Prod.mk.injEq]at hb
   obtain rfl:=Ia6 hb.1
   simp only[Ca8,if_true]at hlt
   have:=h.frame.size
   omega
 ·rcases List.mem_append.1 hk with hk|hk
  ·obtain⟨d,hd',rfl,rfl⟩:=Cax hk
   refine⟨d,rfl,fun _=>?_⟩
   rw[hd',uK _ _ _ _ _ (hd d hd') h.tmps]
   simp only[eB,aD,Ca8,if_true]
   exact⟨by simp[Addr.add],gD _ _ _ (.inr ⟨_,Sb2 _ (List.mem_singleton.2 rfl)⟩)⟩
  ·simp only[Sb9,Prod.mk.injEq]at hk
   obtain⟨rfl,rfl⟩:=hk
   refine⟨nb,rfl,by simp[Ca8],by simp[Ca8],fun j l hj=>?_⟩
   obtain⟨v,h1,h2⟩:=hl.get hj
   refine⟨v,?_,?_,aD.mono hfr l v h2⟩
   ·simp only[Ca8,if_true]
    rw[uD]
    simpa using h1
   ·simp only[Ca8,if_true]
    exact Aa5 j
theorem Dbq (hR:R E.ntmps F σ ρ a w G)(hd:iJ E.ntmps o)(hti:Aaj P E.ti){nv nb nr:Nat}{mv mvs:Bool}(hf:Haf σ nb nr){e:TypeId}{x:Operand}(ho:o.op=.box e x){res:dG}
  (h:(vT E mv mvs nv nb nr g o).eval σ=some res) (hs:aR cf ρ g nv res.lets):jR P E F σ ρ a w g o Q res.upd:=by
 simp only[vT,ho,aC,Sbt,tiR,bF]at h
 obtain⟨ti,h1,sv,h2,h⟩:=h
 split at h
 ·rename_i ls hls
  simp only[aC,Sbt,aP]at h
  obtain⟨_,h3,h⟩:=h
  split at h3
  ·rename_i hb
   simp only[Sbu]at hb
   obtain rfl:=Baa hb.1.2
   simp only[zA,aH,Option.some.injEq]at h
   subst h
   refine⟨fun hg=>?_,fun hg=>by simp[gOn]at hg⟩
   have h4:=kL hls (jG hR hg h2)
   refine tK (v:=.pointer (some ⟨w.heap.size,0,none⟩)) (w':=pushB w (a.eval x).cells e) ?_ ⟨_,hR.newBox hd hf.nb h4⟩
   unfold execOp
   simp only[ho]
   refine iZ ?_
   simp only[Instr.box,Sem.run_bind,Oai,Result.andThen_ok,Sem.run_pure]
  ·cases h3
 ·cases h
theorem Pao {v:Value}{c:CK}(h:zeroCell v c=true):aD σ ρ G w (iW c) v:=by
 unfold zeroCell at h
 split at h
 ·simp only[Sbu,decide_eq_true_eq]at h
  obtain⟨⟨rfl,rfl⟩,rfl⟩:=h
  simp only[iW,aD,aO.val]
  exact .int _ _
 ·simp only[Sbu,decide_eq_true_eq]at h
  obtain⟨rfl,rfl⟩:=h
  simp only[iW,aD,aO.val]
  exact .bool _
 ·rename_i s l
  simp only[Sbu,decide_eq_true_eq]at h
  obtain⟨h1,rfl⟩:=h
  simp only[iW,aD,aO.val]
  have:=Sc.str s.data.toList
  rw[h1]at this
  have e:s=⟨[].toArray⟩:=by
   apply ByteArray.ext
   apply Wbs
   simpa using h1
  rw[e]
  exact this
 ·simp only[iW,aD]
  refine⟨⟨rfl,by simp⟩,fun _=>⟨?_,fun _ z _=>trivial,trivial⟩⟩
  exact .rows none ⟨0,0,none⟩ 0 0 _ [] (fun _ _=>undef) rfl (Sb7 _) (.inl rfl) (by simp) (by simp) (by simp)
 ·simp only[iW,aD]
 ·cases h
theorem Ias {v:Value}{c:CK}(h:zeroCell v c=true):v.oneCell'=true:=by
 unfold zeroCell at h
 split at h<;>first|rfl|cases h
theorem dW.zeros {t:TypeId}{i:TI}{info:TypeInfo}{u:TypeDesc}(f:dW P t i info u):∃ z,info.zero=some z/\aK σ ρ G w (i.cells.map iW) z.cells.toList /\
  (∀ x∈z.cells.toList,x.oneCell'=true)/\(∀ (j:Nat) (x:Value) (c:CK),z.cells[j]?=some x->i.cells[j]?=some c->zeroCell x c=true):=by
 have h:=f.zero
 unfold Xa4 at h
 split at h
 ·rename_i vs cs heq
  simp only[Sbu,beq_iff_eq,Tbp]at h
  obtain⟨h1,h2⟩:=h
  have hz:∀ (j:Nat) (x:Value) (c:CK),vs[j]?=some x->i.cells[j]?=some c->zeroCell x c=true:=by
   intro j x c hx hc
   exact h2 (x,c) (Tbg (i:=j) (by
    rw[List.getElem?_zip_eq_some]
    exact⟨by simpa using hx,hc⟩))
  refine⟨_,heq,.of_get (by simpa[Value.cells] using h1) fun j l v hj hv=>?_,fun x hx=>?_,hz⟩
  ·simp only[Tbo,Tbd]at hj
   obtain⟨c,hc,rfl⟩:=hj
   exact Pao (hz j v c (by simpa[Value.cells] using hv) hc)
  ·obtain⟨j,hj⟩:=List.mem_iff_getElem?.1 hx
   have hlt:j<i.cells.length:=by
    rw[<- h1]
    simpa[Value.cells] using (List.getElem?_eq_some_iff.1 hj).1
   exact Ias (hz j x _ (by simpa[Value.cells] using hj) (Sb0 hlt))
 ·rename_i v c _ hz hcs
  have h1:=Ias h
  refine⟨v,hz,?_,fun x hx=>?_,fun j x c' hx hc=>?_⟩
  ·rw[hcs,Aa8 h1]
   simp only[Tbn,Tbw,aK]
   exact⟨v,[],rfl,Pao h,rfl⟩
  ·rw[Aa8 h1]at hx
   simp only[Sb9]at hx
   rw[hx];exact h1
  ·rw[Aa8 h1]at hx
   rw[hcs]at hc
   cases j with
   | zero =>
    simp only[Sb8,Option.some.injEq]at hc
    simp at hx
    rw[<- hx,<- hc];exact h
   |succ j=>simp at hc
 ·cases h
theorem pU {t:TypeId}{info:TypeInfo}{z:Value}(h:P.info? t=some info)(hz:info.zero=some z):(zeroValue t).run P w=.ok z w:=by
 simp[zeroValue,typeInfo,h,hz]
theorem Wao (hR:R E.ntmps F σ ρ a w G)(hd:iJ E.ntmps o)(hti:Aaj P E.ti){nv nb nr:Nat}{mv mvs:Bool}(hf:Haf σ nb nr){e:TypeId}(ho:o.op=.alloc e){res:dG}
  (h:(vT E mv mvs nv nb nr g o).eval σ=some res) (hs:aR cf ρ g nv res.lets):jR P E F σ ρ a w g o Q res.upd:=by
 simp only[vT,ho,aC,Sbt,tiR,bF,aP]at h
 obtain⟨ti,h1,_,h2,h⟩:=h
 split at h2
 ·rename_i hb
  obtain rfl:=Baa hb
  simp only[zA,aH,Option.some.injEq]at h
  subst h
  refine⟨fun hg=>?_,fun hg=>by simp[gOn]at hg⟩
  obtain⟨info,u,f⟩:=bG (hti.ok _ _ h1)
  obtain⟨z,h3,h4,h5,-⟩:=f.zeros (σ:=σ) (ρ:=ρ) (G:=G) (w:=w)
  refine tK (v:=.pointer (some ⟨w.heap.size,0,none⟩)) (w':=pushB w z.cells e) ?_ ⟨_,hR.newBox hd hf.nb h4⟩
  unfold execOp
  simp only[ho]
  refine iZ ?_
  simp only[Instr.alloc,Sem.run_bind,pU f.info_ h3,Oai,Result.andThen_ok,Sem.run_pure]
 ·cases h2
theorem oW {α:Type}{l:List α}{k:Nat}{r:List α}(h:k+r.length<=l.length):(setRange l k r).length=l.length:=by
 simp[setRange];omega
theorem kK {α:Type}{l:List α}{k:Nat}{r:List α}(h:k+r.length<=l.length)(j:Nat):(setRange l k r)[j]?=if k<=j/\j<k+r.length then r[j-k]? else l[j]?:=by
 unfold setRange
 by_cases h1:j<k
 ·rw[Sb3,Tbj (by simp;omega),Ubg,if_pos h1,if_neg (by omega)]
 ·by_cases h2:j<k+r.length
  ·rw[if_pos ⟨by omega,h2⟩,Sb3,Tbf (by simp;omega),Tbj (by simp;omega)]
   congr 1
   simp;omega
  ·rw[if_neg (by omega),Tbf (by simp;omega),Tb5]
   congr 1
   simp;omega
theorem Tat {α:Type}{l:List α}{k:Nat}{v:α}{r:List α}(h:k+(v::r).length<=l.length):setRange (l.set k v) (k+1) r=setRange l k (v::r):=by
 simp only[Sbw]at h
 apply Vbv
 intro j
 rw[kK (by simp;omega),kK (by simp;omega)]
 by_cases h1:k+1<=j/\j<k+1+r.length
 ·rw[if_pos h1,if_pos (by simp;omega),show j-k=(j-(k+1))+1 by omega,Tb9]
 ·rw[if_neg h1,Ub5]
  by_cases h2:k=j
  ·subst h2
   rw[if_pos rfl,if_pos (by omega),if_pos (by simp)]
   simp
  ·rw[if_neg h2,if_neg (by simp;omega)]
theorem Ab4 (off:Nat):∀ (vs:List Value) (k:Nat) (cells:Array Value),off+k+vs.length<=cells.size ->
  ((vs.zipIdx k).foldl (fun cs x=>cs.setIfInBounds (off+x.2) x.1) cells).toList=setRange cells.toList (off+k) vs
 |[],k,cells,h=>by simp[setRange]
 | v :: r, k, cells, h => by
  simp only[Sbw]at h
  simp only[List.zipIdx_cons,Vbg]
  rw[Ab4 off r (k+1) _ (by simp;omega),Array.toList_setIfInBounds,<- Tbl,Tat (by simp;omega)]
theorem aK.setRange {ls ms:List aZ}{us xs:List Value}(h:aK σ ρ G w ls us)(h':aK σ ρ G w ms xs){k:Nat}(hk:k+ms.length<=ls.length):aK σ ρ G w (setRange ls k ms) (setRange us k xs):=by
 have e1:=h.len
 have e2:=h'.len
 refine .of_get (by rw[oW (by omega),oW hk,e1]) fun i l v hi hv=>?_
 rw[kK hk]at hi
 rw[kK (by omega)]at hv
 rw[e2]at hv
 split at hi
 ·rename_i hh
  rw[if_pos hh]at hv
  obtain⟨v',h1,h2⟩:=h'.get hi
  rw[h1]at hv
  exact Option.some.inj hv▸h2
 ·rename_i hh
  rw[if_neg hh]at hv
  obtain⟨v',h1,h2⟩:=h.get hi
  rw[h1]at hv
  exact Option.some.inj hv▸h2
theorem Ua6 {place:Nat->Option (Nat×Nat)}{cells:Array Value}{i off size:Nat}{v:Value}{rest:List (Nat×Value)}(hp:place i=some (off,size))(hs:v.cells.toList.length=size)(hb:off+size<=cells.size) :
  ∃ cells':Array Value,Instr.fill place cells ((i,v)::rest)=Instr.fill place cells' rest/\cells'.toList=setRange cells.toList off v.cells.toList:=by
 refine⟨v.cells.zipIdx.foldl (fun cs (x:Value×Nat)=>cs.setIfInBounds (off+x.2) x.1) cells,?_,?_⟩
 ·rw[Instr.fill,hp]
  dsimp only
  have:v.cells.size=size:=by simpa using hs
  rw[if_neg]
  simp only[this]
  simp
  omega
 ·have:=Ab4 off v.cells.toList 0 cells (by simpa[hs] using hb)
  rw[Tbs]at this
  rw[<- this,<- Array.foldl_toList,Array.toList_zipIdx]
def Kah (σ:Nat->Option aW)(ρ:List D)(G:Gh)(w:World)(a:Act):List (Nat×Operand)->List (Nat×SV)->Prop
 |[],ps=>ps=[]
 |x::xs,ps=>∃ sv qs,ps=(x.1,sv)::qs/\eB σ ρ G w sv (a.eval x.2)/\Kah σ ρ G w a xs qs
theorem Da0 (hR:R E.ntmps F σ ρ a w G)(hg:gOn ρ g=true){ty:Nat->TypeId}:∀ {xs:List (Nat×Operand)} {ps:List (Nat×SV)},(Haq E g ty xs).eval σ=some ps ->
  Kah σ ρ G w a xs ps
 | [], ps, h => by
  simp only[Haq,aH,Option.some.injEq]at h
  subst h
  exact rfl
 | (i, x) :: xs, ps, h => by
  simp only[Haq,aC,Sbt,aH,Option.some.injEq]at h
  obtain⟨sv,h1,l,h2,rfl⟩:=h
  exact⟨sv,l,rfl,jG hR hg h1,Da0 hR hg h2⟩
theorem Dap {flds:List (Nat×Nat)}{place:Nat->Option (Nat×Nat)}(hpl:∀ i off t f,flds[i]?=some (off,t)->E.ti t=some f->place i=some (off,f.size)) :
  ∀ {xs:List (Nat×Operand)} {ps:List (Nat×SV)},Kah σ ρ G w a xs ps->∀ {ls ls':List aZ} {us:Array Value},aK σ ρ G w ls us.toList->xU flds E.ti ls ps=some ls' ->
  ∃ us',Instr.fill place us (xs.map fun x=>(x.1,a.eval x.2))=some us'/\aK σ ρ G w ls' us'.toList
 | [], _, rfl, ls, ls', us, hl, h => by
  simp only[xU,Option.some.injEq]at h
  subst h
  exact⟨us,rfl,hl⟩
 | (i, x) :: xs, _, ⟨sv, ps, rfl, h1, hr⟩, ls, ls', us, hl, h => by
  unfold xU at h
  split at h
  ·rename_i off t hfl
   split at h
   ·rename_i f hf
    split at h
    ·rename_i vs hvs
     cases hb:(Nat.beq vs.length f.size&&Nat.ble (off+f.size) ls.length) with
     |false=>rw[hb]at h;cases h
     | true =>
      rw[hb,cond_true]at h
      simp only[Sbu,Tbv,Ubf]at hb
      have h2:=kL hvs h1
      have hlen:=hl.len
      obtain⟨us1,h3,h4⟩:=Ua6 (rest:=xs.map fun x=>(x.1,a.eval x.2)) (hpl _ _ _ _ hfl hf) (by rw[h2.len];exact hb.1) (by rw[<- Vbo,hlen];exact hb.2)
      obtain⟨us',h5,h6⟩:=Dap hpl hr (us:=us1) (by rw[h4];exact hl.setRange h2 (by rw[hb.1];exact hb.2)) h
      exact⟨us',by rw[Tbn,h3];exact h5,h6⟩
    ·cases h
   ·cases h
  ·cases h
theorem Fay {α β:Type}(f:α->Sem β)(g:α->β):∀ (l:List α),(∀ x∈l,(f x).run P w=.ok (g x) w)->(l.mapM f).run P w=.ok (l.map g) w
 |[],_=>by simp
 | x :: l, h => by
  rw[List.mapM_cons,Sem.run_bind,h x (by simp)]
  simp only[Result.andThen_ok]
  rw[Sem.run_bind,Fay f g l fun y hy=>h y (by simp[hy])]
  simp
theorem Daf {α β:Type}(f:α->Sem β)(g:α->β)(l:Array α)(h:∀ x∈l.toList,(f x).run P w=.ok (g x) w):(l.mapM f).run P w=.ok (l.map g) w:=by
 rw[Array.mapM_eq_mapM_toList,map_eq_pure_bind,Sem.run_bind,Fay f g _ h]
 simp only[Result.andThen_ok,Sem.run_pure]
 congr 1
 apply Wbs
 simp
theorem Bar {α β:Type}(f:List β->α->Option (List β)):∀ (l:List α),l.foldl (fun acc x=>acc.bind fun r=>f r x) none=none
 |[]=>rfl
 |x::l=>by rw[Vbg];exact Bar f l
theorem Dan {α β:Type}(f:List β->α->Option (List β)):∀ (l:List α) (r0 r:List β),l.foldl (fun acc x=>acc.bind fun r=>f r x) (some r0)=some r->∀ x∈l,∃ r1 r2,f r1 x=some r2
 |[],_,_,_,x,hx=>by simp at hx
 | y :: l, r0, r, h, x, hx => by
  rw[Vbg,Sb6]at h
  cases hf:f r0 y with
  |none=>rw[hf,Bar]at h;cases h
  | some r1 =>
   rcases List.mem_cons.1 hx with rfl|hx
   ·exact⟨r0,r1,hf⟩
   ·rw[hf]at h
    exact Dan f l r1 r h x hx
theorem Fbj {d:Nat}{t:TypeId}{l:List TypeId}(h:flat P d t=some l):∃ i,P.info? t=some i:=by
 cases d with
 |zero=>cases h
 | succ d =>
  unfold flat at h
  unfold Program.underlying at h
  cases hi:P.info? t with
  |none=>rw[hi]at h;cases h
  |some i=>exact⟨i,rfl⟩
theorem Cbl {d:Nat}{t:TypeId}{l:List TypeId}{fs:Array Field}(h:flat P (d+1) t=some l)(hu:P.underlying t=some (.struct fs)):∀ f∈fs.toList,∃ i,P.info? f.type=some i:=by
 unfold flat at h
 rw[hu]at h
 dsimp only at h
 intro f hf
 obtain⟨r1,r2,h1⟩:=Dan _ _ _ _ h f hf
 cases hm:flat P d f.type with
 |none=>rw[hm]at h1;cases h1
 |some m=>exact Fbj hm
theorem dW.struct {t:TypeId}{i:TI}{info:TypeInfo}{u:TypeDesc}(f:dW P t i info u)(h:i.agg=true):∃ fs,u=.struct fs/\∀ fd∈fs.toList,∃ i,P.info? fd.type=some i:=by
 rw[f.agg]at h
 have hc:=f.cells
 cases hfl:flat P 12 t with
 |none=>rw[hfl]at hc;cases hc
 | some l =>
  unfold Na0 at h
  split at h
  ·rename_i fs
   exact⟨fs,rfl,Cbl hfl f.und⟩
  ·unfold flat at hfl
   rw[f.und]at hfl
   cases hfl
  ·cases h
theorem Wan (hR:R E.ntmps F σ ρ a w G)(hd:iJ E.ntmps o)(hti:Aaj P E.ti){nv nb nr:Nat}{mv mvs:Bool}{t:TypeId}{parts:Array (Nat×Operand)}(ho:o.op=.build t parts){res:dG}
  (h:(vT E mv mvs nv nb nr g o).eval σ=some res) (hs:aR cf ρ g nv res.lets):jR P E F σ ρ a w g o Q res.upd:=by
 simp only[vT,ho,aC,Sbt,tiR,bF,aP]at h
 obtain⟨ti,h1,_,h2,ps,h3,h⟩:=h
 split at h2
 ·rename_i hagg
  obtain⟨info,u,f⟩:=bG (hti.ok _ _ h1)
  obtain⟨fs,rfl,hfs⟩:=f.struct hagg
  split at h
  ·rename_i ls hls
   refine fC hR hd h hs fun hg _=>?_
   obtain⟨z,h4,h5,-,-⟩:=f.zeros (σ:=σ) (ρ:=ρ) (G:=G) (w:=w)
   have hpl:∀ (i off t':Nat) (f':TI),ti.flds[i]?=some (off,t')->E.ti t'=some f'->(fs.map fun fd=>(fd.offset,((P.info? fd.type).map (·.size)).getD 0))[i]?=some (off,f'.size):=by
    intro i off t' f' hfl hf'
    obtain⟨fs',fd,e1,e2,e3,e4⟩:=Qa7 f hfl
    obtain rfl:fs=fs':=by injection e1
    obtain⟨info',u',ff⟩:=bG (hti.ok _ _ hf')
    rw[Array.getElem?_map,e2,Ubd,e3,e4,ff.info_]
    simp[ff.size]
   obtain⟨us',h6,h7⟩:=Dap hpl (Da0 hR hg h3) (us:=z.cells) h5 hls
   refine⟨.agg us',⟨us'.toList,by simp,h7⟩,?_⟩
   unfold execOp
   simp only[ho]
   refine iZ ?_
   have hm:=Daf (P:=P) (w:=w) (fun fd:Field=>(do pure (fd.offset,<- sizeOf fd.type):Sem (Nat×Nat))) (fun fd=>(fd.offset,((P.info? fd.type).map (·.size)).getD 0)) fs (fun fd hfd=>by
    obtain⟨i,hi⟩:=hfs fd hfd
    simp only[Sem.run_bind,run_sizeOf hi,Result.andThen_ok,Sem.run_pure,hi,Ubd,Option.getD_some])
   unfold Instr.build
   simp only[Sem.run_bind,pU f.info_ h4,Result.andThen_ok,run_underlying f.und]
   rw[hm]
   have e:(parts.map fun x=>(x.1,a.eval x.2)).toList=parts.toList.map fun x=>(x.1,a.eval x.2):=by simp
   simp only[Result.andThen_ok]
   rw[e,h6]
   rfl
  ·cases h
 ·cases h2
end
end Go.Proofs.YtpgnlmfmlffjcaaGreat.Rf

namespace Go.Proofs.YtpgnlmfmlffjcaaGreat.Rf
set_option linter.unusedVariables false
set_option linter.unusedSimpArgs false
section
variable {P:Program} {E:Env} {F:cB} {σ:Nat->Option aW} {ρ:List D} {a:Act} {w w':World} {G:Gh} {g:Option (aO×Bool)} {o:Oper} {cf:Nat->List D->Option (List D)} {Q:Exit->Act->World->Prop} {next:Act->World->Prop}
theorem add_plain {b:Addr}(h:b.spot=none)(k:Nat):b.add k=⟨b.block,b.off+k,none⟩:=by
 cases b
 simp only at h
 subst h
 unfold Addr.add
 split<;>simp_all
theorem rH.write (h:rH F G w){B off:Nat}{vs:List Value}{ow:Ow}(ho:G.own B=ow)(hz:ow≠.frz/\ow≠.oth)
  (hb:∀ b,ow=.box b->B<F.w0.heap.size->F.own0 B=.box b->(F.rng b).1<=off/\off+vs.length<=(F.rng b).2):rH F G (w.setCells B off vs):=by
 obtain⟨e1,e2,e3⟩:=kQ B vs off w
 refine⟨by rw[e1];exact h.os,by rw[e2];exact h.tape,by rw[e3];exact h.output,by rw[setCells_size];exact h.size,fun b hlt hf=>?_,fun b j hlt hj=>?_,fun b hlt=>?_⟩
 ·obtain⟨h1,h2⟩:=h.keep b hlt hf
  have hne:b≠B:=by
   rintro rfl
   rw[ho]at h2
   rw[<- h2]at hf
   rcases hf with hf|hf
   ·exact hz.1 hf
   ·exact hz.2 hf
  exact⟨by rw[eD B vs off w b hne];exact h1,h2⟩
 ·obtain⟨h1,c0,c1,e,fr,h2,h3,h4,h5⟩:=h.boxes b j hlt hj
  refine⟨h1,c0,?_⟩
  by_cases hne:b=B
  ·subst hne
   obtain⟨c',h6,h7,h8⟩:=Fav b vs off w c1 e fr h3
   refine⟨c',e,fr,h2,h6,by rw[h7];exact h4,fun k hk=>?_⟩
   have hj':ow=.box j:=by rw[<- ho];exact h1
   obtain⟨h9,h10⟩:=hb j hj' hlt hj
   rw[h8 k (by omega)]
   exact h5 k hk
  ·exact⟨c1,e,fr,h2,by rw[eD B vs off w b hne];exact h3,h4,h5⟩
 ·rw[setCells_size]at hlt
  exact h.fresh b hlt
theorem Nan (hR:R E.ntmps F σ ρ a w G)(hti:Aaj P E.ti){nv:Nat}{mv mvs:Bool}{t:TypeId}{x y:Operand}(ho:o.op=.store t x y){ti:TI}(hi:E.ti t=some ti){b off:Nat}{ls:List aZ}{sv:SV}
  (hx:gOn ρ g=true->aD σ ρ G w (.px b off) (a.eval x)) (hy:gOn ρ g=true->eB σ ρ G w sv (a.eval y)) (hls:nH ti.agg sv=some ls) {res:dG}
  (h:(Hak nv mv mvs o g ti (.px b off) ls).eval σ=some res):jR P E F σ ρ a w g o Q res.upd:=by
 simp only[Hak,aC,aP,Sbt,aX,Sb6]at h
 obtain⟨_,h1,h⟩:=h
 split at h1
 ·rename_i hb1
  simp only[Sbu,Tbv,Vbr]at hb1
  obtain⟨hlen,hdst⟩:=hb1
  split at h
  ·rename_i bs hk
   simp only[aC,aP,Sbt]at h
   obtain⟨_,h2,h⟩:=h
   split at h2
   ·rename_i hb2
    simp only[Sbu,Ubf]at hb2
    obtain⟨⟨hle,hg0⟩,hst⟩:=hb2
    obtain rfl:=Baa hg0
    simp only[aH,Option.some.injEq]at h
    subst h
    refine⟨fun hg=>?_,fun hg=>by simp[gOn]at hg⟩
    obtain⟨info,u,f⟩:=bG (hti.ok _ _ hi)
    have hl:=kL hls (hy hg)
    have hl1:=hl.ones hst
    have hll:=hl.len
    have hpx:=hx hg
    simp only[aD]at hpx
    obtain⟨h3,h4,h5⟩:=hR.box hk
    have h4:G.own (G.bx b).block=.box b:=by simpa using h4
    generalize hvs:(a.eval y).cells.toList=vs at hl hl1 hll
    have hcell:∀ j,off<=j->j<off+ls.length->∃ v,w.cell? ⟨(G.bx b).block,(G.bx b).off+j,none⟩=some v/\w.frozen? ⟨(G.bx b).block,(G.bx b).off+j,none⟩=false:=by
     intro j hj1 hj2
     have hbj:bs[j]?=some bs[j]:=Sb0 (by omega)
     obtain⟨v,h6,h7,-⟩:=h5 j _ hbj
     rw[add_plain h3]at h6 h7
     exact⟨v,h6,h7⟩
    have hrun:(execOp a.eval o).run P w=.ok .skip (w.setCells (G.bx b).block ((G.bx b).off+off) vs):=by
     unfold execOp
     simp only[ho]
     have:=Ia0 (P:=P) (w:=w) f (b:=(G.bx b).block) (off:=(G.bx b).off+off) (v:=a.eval y) (by rw[hvs];omega)
      (fun j hj=>by
       obtain⟨v,h6,-⟩:=hcell (off+j) (by omega) (by omega)
       exact⟨v,by rw[Tbl];exact h6⟩)
      (fun j hj=>by
       obtain⟨v,-,h6⟩:=hcell (off+j) (by omega) (by omega)
       rw[Tbl];exact h6) (by rw[hvs];exact hl1)
     simp only[Instr.storeAt,Instr.sureAddr,Sem.run_bind,hpx.1,Sem.run_pure,Result.andThen_ok,add_plain h3,this,hvs]
    refine Xa5 hrun ⟨G,?_⟩
    have hne:∀ b',G.own b'≠.box b->b'≠(G.bx b).block:=fun b' hb e=>hb (by rw[e];exact h4)
    have hkR:∀ r,upds σ [(kB b,aW.box false (setRange bs off ls))] (kR r)=σ (kR r):=fun r=>by
     refine gZ _ _ _ fun c hc=>?_
     simp only[Sb9,Prod.mk.injEq]at hc
     exact iX hc.1.symm
    have hfr:Fr σ G w (upds σ [(kB b,aW.box false (setRange bs off ls))]) G (w.setCells (G.bx b).block ((G.bx b).off+off) vs):=by
     refine⟨fun b' hb hlt=>⟨hb,eD _ _ _ _ _ (hne b' (by rw[hb];simp))⟩,fun r k _ hv=>?_,fun r k hk=>hk.same hkR,fun r k b' p _ _ hb=>⟨.inl hb,eD _ _ _ _ _ (hne b' (by rw[hb];simp))⟩,
      fun r k m _ hv=>⟨?_,fun b' p hb=>hb⟩,fun _ _=>rfl,fun _ _=>rfl,fun k hk=>gD _ _ _ (.inl hk),fun _ _ _ _ _ _ _ hb=>hb⟩
     ·obtain⟨x',m,st,e,hs⟩:=hv
      exact⟨x',m,st,by rw[<- hkR];exact e,hs⟩
     ·obtain⟨x',e⟩:=hv
      exact⟨x',by rw[<- hkR];exact e⟩
    have hsl:(setRange bs off ls).length=bs.length:=oW hle
    rw[hdst]
    refine hR.upd _ hfr hR.tmps hR.defers (hR.frame.write h4 (by simp) fun b' e hlt ho'=>?_) (fun t _=>rfl) (fun b' ro ls' hb' hnot=>?_) (fun b' ls' hb' hlt ho'=>?_) (fun k c hk1 hk2=>?_)
    ·obtain rfl:b=b':=by injection e
     have:=hR.rng b bs hk hlt ho'
     rw[this]
     dsimp only
     omega
    ·refine⟨rfl,eD _ _ _ _ _ (hne _ ?_)⟩
     obtain⟨_,h6,_⟩:=hR.box hb'
     rw[h6]
     split
     ·simp
     ·intro e
      obtain rfl:b'=b:=by injection e
      exact hnot _ (List.mem_singleton.2 rfl)
    ·simp only[Sb9,Prod.mk.injEq,aW.box.injEq,true_and]at hb'
     obtain⟨e,rfl⟩:=hb'
     obtain rfl:=Ia6 e
     rw[hsl]
     exact hR.rng b' bs hk hlt ho'
    ·simp only[Sb9,Prod.mk.injEq]at hk1
     obtain⟨rfl,rfl⟩:=hk1
     refine⟨b,rfl,h3,by simpa using h4,fun j l hj=>?_⟩
     rw[kK hle]at hj
     rw[World.frozen?_setCells,add_plain h3]
     split at hj
     ·rename_i hin
      obtain⟨v,h6,h7⟩:=hl.get hj
      obtain⟨u',h8,h9⟩:=hcell j hin.1 hin.2
      refine⟨v,?_,h9,aD.mono hfr l v h7⟩
      have:=World.cell?_setCells_in (G.bx b).block vs ((G.bx b).off+off) w (fun j' hj'=>by
       obtain⟨v',h10,-⟩:=hcell (off+j') (by omega) (by omega)
       rw[Tbl,h10];rfl) (j-off) (by omega)
      rw[show (G.bx b).off+off+(j-off)=(G.bx b).off+j by omega]at this
      rw[this,<- h6,Sb0]
     ·rename_i hout
      obtain⟨v,h6,h7,h8⟩:=h5 j l hj
      rw[add_plain h3]at h6 h7
      refine⟨v,?_,h7,aD.mono hfr l v h8⟩
      rw[World.cell?_setCells_out _ _ _ _ _ (fun _ _=>by dsimp only;omega)]
      exact h6
   ·cases h2
  ·cases h
 ·cases h1
end
end Go.Proofs.YtpgnlmfmlffjcaaGreat.Rf

namespace Go.Proofs.YtpgnlmfmlffjcaaGreat.Rf
set_option linter.unusedVariables false
set_option linter.unusedSimpArgs false
theorem Rp.move {own own':Nat->Ow}{w w':World}{r r':Nat}{p:List Nat}{m:Nat}{v:Value}{d:D}(h:Rp own w r p m v d)
  (hz:∀ b,own b=.frz->b<w.heap.size->own' b=.frz/\w'.heap[b]?=w.heap[b]?):∀ (p':List Nat) (m':Nat),m'<=m ->
  (∀ b t,own b=.slc r (p++t)->own' b=(if t.length<m' then .slc r' (p'++t) else .frz)/\w'.heap[b]?=w.heap[b]?)->Rp own' w' r' p' m' v d:=by
 induction h with
 |sc h=>exact fun _ _ _ _=>.sc h
 |hole v h1=>exact fun _ _ _ _=>.hole v h1
 | fz h =>
  intro p' m' hm hs
  obtain rfl:m'=0:=by omega
  exact .fz (h.mono' fun b hb hlt=>hz b hb hlt)
 | sl A a n c sz rs vs hn hc hA hsz hown hcell hrec ih =>
  rename_i p m
  intro p' m' hm hs
  have hlt:∀ i row,rs[i]?=some row->i<rs.length:=fun i row hi=>by
   rcases Tbi i rs.length with h|h
   ·exact h
   ·simp[List.getElem?_eq_none h]at hi
  have hA':∀ i row,rs[i]?=some row->A=some a:=fun i row hi=>by
   rcases hA with e|⟨e,e'⟩
   ·exact e
   ·have:=hlt i row hi;omega
  cases m' with
  | zero =>
   refine .fz (.rows A a n c sz rs vs hn hc ?_ hsz (fun i row hi j d hj=>?_) (fun i row hi j d hj=>?_))
   ·rcases hA with e|⟨e,e'⟩
    ·exact .inr e
    ·exact .inl (by omega)
   ·obtain⟨h1,h2⟩:=hs a.block [] (by simpa using (hown (hA' i row hi)).2.1)
    refine⟨by simpa using h1,?_⟩
    exact (iC (w:=w) (w':=w') (by rw[add_block];exact h2)).trans (hcell i row hi j d hj)
   ·exact (ih i row hi j d hj [] 0 (Nat.zero_le _) (fun b t hb=>by
     have:=hs b ([i*sz+j]++t) (by rw[<- Sb3];exact hb)
     simpa using this)).zero
  | succ m' =>
   refine .sl A a n c sz rs vs hn hc hA hsz (fun e=>?_) (fun i row hi j d hj=>?_) (fun i row hi j d hj=>?_)
   ·obtain⟨h1,h2,h3⟩:=hown e
    obtain⟨h4,h5⟩:=hs a.block [] (by simpa using h2)
    refine⟨h1,by simpa using h4,fun k hk=>?_⟩
    obtain⟨u,hu,hf⟩:=h3 k hk
    exact⟨u,(iC (w:=w) (w':=w') (by rw[add_block];exact h5)).trans hu,(oK (w:=w) (w':=w') (by rw[add_block];exact h5)).trans hf⟩
   ·obtain⟨h1,h2⟩:=hs a.block [] (by simpa using (hown (hA' i row hi)).2.1)
    exact (iC (w:=w) (w':=w') (by rw[add_block];exact h2)).trans (hcell i row hi j d hj)
   ·refine ih i row hi j d hj (p'++[i*sz+j]) m' (by omega) (fun b t hb=>?_)
    have:=hs b ([i*sz+j]++t) (by rw[<- Sb3];exact hb)
    simp only[Sby,Ubi]at this
    rw[<- Sb3]at this
    refine⟨?_,this.2⟩
    rw[this.1]
    by_cases ht:t.length<m'
    ·rw[if_pos ht,if_pos (by omega)]
    ·rw[if_neg ht,if_neg (by omega)]
inductive Upd:List Nat->D->D->D->Prop
 |here (x y:D):Upd [] x y y
 | down (sz : Nat) (rs : List (List D)) (i j : Nat) (row : List D) (z z' y : D) (p : List Nat) (hi : rs[i]? = some row) (hj : row[j]? = some z)
   (h:Upd p z y z'):Upd ((i*sz+j)::p) (.rows sz rs) y (.rows sz (rs.set i (row.set j z')))
theorem Lbo {i j i' j' sz:Nat}(hj:j<sz)(hj':j'<sz)(h:i*sz+j=i'*sz+j'):i=i'/\j=j':=by
 have h1:(i*sz+j) / sz=i:=by
  rw[Wbh,Nat.mul_add_div (by omega),Wbj hj,Tbs]
 have h2:(i'*sz+j') / sz=i':=by
  rw[Wbh,Nat.mul_add_div (by omega),Wbj hj',Tbs]
 rw[h,h2]at h1
 subst h1
 exact⟨rfl,by omega⟩
theorem Rp.sl_inv {own:Nat->Ow}{w:World}{r:Nat}{p:List Nat}{m:Nat}{v:Value}{sz:Nat}{rs:List (List D)}(h:Rp own w r p (m+1) v (.rows sz rs)) :
  ∃ (A:Option Addr) (a:Addr) (n c:Nat) (vs:Nat->Nat->Value),v=.slice A n c/\rs.length=n/\n<=c/\(A=some a\/(A=none/\c=0))/\(∀ r∈rs,r.length=sz) /\
   (A=some a->a.spot=none/\own a.block=.slc r p/\∀ k,k<c*sz->∃ u,w.cell? (a.add k)=some u/\w.frozen? (a.add k)=false) /\
   (∀ i row,rs[i]?=some row->∀ j d,row[j]?=some d->w.cell? (a.add (i*sz+j))=some (vs i j)) /\
   (∀ i row,rs[i]?=some row->∀ j d,row[j]?=some d->Rp own w r (p++[i*sz+j]) m (vs i j) d):=by
 cases h with
 |sc h=>cases h
 |sl A a n c sz rs vs hn hc hA hsz hown hcell hrec=>exact⟨A,a,n,c,vs,rfl,hn,hc,hA,hsz,hown,hcell,hrec⟩
theorem Rp.upd {own own':Nat->Ow}{w w':World}{r M':Nat}{full:List Nat}{y:D}{u:Value}
  (hz:∀ b,own b=.frz->b<w.heap.size->own' b=.frz/\w'.heap[b]?=w.heap[b]?)
  (hs:∀ b t,own b=.slc r t->¬ full <+: t->own' b=(if t.length<M' then .slc r t else .frz)/\w'.heap[b]?=w.heap[b]?)
  (hM:full.length<=M') (hnew:Rp own' w' r full (M'-full.length) u y) :
  ∀ (p q:List Nat) (M:Nat) (v:Value) (x x':D),full=q++p->M'<=M->Rp own w r q (M-q.length) v x->Eas own w r q v p u->Upd p x y x'->Rp own' w' r q (M'-q.length) v x'
 | [], q, M, v, x, x', hf, hMM, hx, hn, hu => by
  cases hu
  simp only[Eas]at hn
  rw[Tbb]at hf
  subst hf hn
  exact hnew
 | k :: p, q, M, v, x, x', hf, hMM, hx, hn, hu => by
  generalize hk:k::p=kp at hu
  cases hu with
  |here=>cases hk
  | down sz rs i j row z z' y p' hi hj hu =>
   obtain⟨rfl,rfl⟩:=List.cons.inj hk
   have hlen:full.length=q.length+(p.length+1):=by rw[hf];simp
   obtain⟨m,hm⟩:∃ m,M-q.length=m+1:=⟨M-q.length-1,by omega⟩
   obtain⟨m',hm'⟩:∃ m',M'-q.length=m'+1:=⟨M'-q.length-1,by omega⟩
   rw[hm]at hx
   rw[hm']
   obtain⟨A,a,n,c,vs,rfl,h1,h2,h3,h4,h5,h6,h7⟩:=hx.sl_inv
   have hil:i<rs.length:=(List.getElem?_eq_some_iff.1 hi).1
   have hA:A=some a:=by
    rcases h3 with e|⟨e,e'⟩
    ·exact e
    ·omega
   subst hA
   obtain⟨h8,h9,h10⟩:=h5 rfl
   obtain⟨a',n',c',u',e1,e2,e3,e4⟩:=hn
   obtain⟨rfl,rfl,rfl⟩:a=a'/\n=n'/\c=c':=by injection e1 with a b c;exact⟨Option.some.inj a,b,c⟩
   have hcell0:=h6 i row hi j z hj
   rw[hcell0]at e3
   obtain rfl:=Option.some.inj e3
   have hq:¬ full <+: q:=by
    intro e
    have:=e.length_le
    omega
   obtain⟨hown',hheap⟩:=hs _ _ h9 hq
   rw[if_pos (by omega)]at hown'
   have hkeep:∀ k,w'.cell? (a.add k)=w.cell? (a.add k):=fun k=>iC (w:=w) (w':=w') (by rw[add_block];exact hheap)
   have hkeepf:∀ k,w'.frozen? (a.add k)=w.frozen? (a.add k):=fun k=>oK (w:=w) (w':=w') (by rw[add_block];exact hheap)
   have hrec:=Rp.upd hz hs hM hnew p (q++[i*sz+j]) M (vs i j) z z' (by rw[hf];simp) hMM (by
    have:=h7 i row hi j z hj
    rwa[show M-(q++[i*sz+j]).length=m by simp;omega]) e4 hu
   rw[show M'-(q++[i*sz+j]).length=m' by simp;omega]at hrec
   have hrowlen:row.length=sz:=h4 row (Tbg hi)
   have hlt:j<sz:=by rw[<- hrowlen];exact (List.getElem?_eq_some_iff.1 hj).1
   have hget:∀ i' row',(rs.set i (row.set j z'))[i']?=some row'->∀ j' d,row'[j']?=some d->(i'=i/\j'=j/\d=z')\/(∃ row0,rs[i']?=some row0/\row0[j']?=some d/\¬ (i'=i/\j'=j)):=by
    intro i' row' hi' j' d hj'
    rw[Ub5]at hi'
    by_cases hii:i=i'
    ·subst hii
     rw[if_pos rfl,if_pos hil]at hi'
     obtain rfl:=Option.some.inj hi'
     rw[Ub5]at hj'
     by_cases hjj:j=j'
     ·subst hjj
      rw[if_pos rfl,if_pos (by omega)]at hj'
      exact .inl ⟨rfl,rfl,(Option.some.inj hj').symm⟩
     ·rw[if_neg hjj]at hj'
      exact .inr ⟨row,hi,hj',fun e=>hjj e.2.symm⟩
    ·rw[if_neg hii]at hi'
     exact .inr ⟨row',hi',hj',fun e=>hii e.1.symm⟩
   refine .sl _ a n c sz _ vs (by simpa using h1) h2 (.inl rfl) (fun row' hr=>?_) (fun _=>⟨h8,hown',fun k hk=>?_⟩) (fun i' row' hi' j' d hj'=>?_) (fun i' row' hi' j' d hj'=>?_)
   ·rcases Vb4 hr with hr|rfl
    ·exact h4 _ hr
    ·simpa using hrowlen
   ·rw[hkeep,hkeepf]
    exact h10 k hk
   ·rw[hkeep]
    rcases hget i' row' hi' j' d hj' with ⟨rfl,rfl,rfl⟩|⟨row0,h11,h12,-⟩
    ·exact hcell0
    ·exact h6 _ _ h11 _ _ h12
   ·rcases hget i' row' hi' j' d hj' with ⟨rfl,rfl,rfl⟩|⟨row0,h11,h12,hne⟩
    ·exact hrec
    ·refine (h7 _ _ h11 _ _ h12).move hz _ m' (by omega) fun b t hb=>?_
     have hnp:¬ full <+: q++[i'*sz+j']++t:=by
      intro e
      rw[hf,Sb3,List.prefix_append_right_inj]at e
      have e':=(List.cons_prefix_cons.1 e).1
      have hj'l:j'<sz:=by
       have:=(List.getElem?_eq_some_iff.1 h12).1
       rw[h4 row0 (Tbg h11)]at this
       exact this
      obtain⟨h15,h16⟩:=Lbo hj'l hlt e'.symm
      exact hne ⟨h15,h16⟩
     obtain⟨h13,h14⟩:=hs b _ hb hnp
     simp only[Sby,Ubi]at h13
     refine⟨?_,h14⟩
     rw[h13]
     by_cases ht:t.length<m'
     ·rw[if_pos ht,if_pos (by omega)]
     ·rw[if_neg ht,if_neg (by omega)]
theorem Aao:∀ (l:List Step) (n:Nat),l.foldl (fun s x=>s+x.n) n=n+bZ l
 |[],n=>rfl
 | s :: l, n => by
  simp only[bZ,Vbg]
  rw[Aao l (n+s.n),Aao l (0+s.n)]
  omega
theorem kP (s:Step)(l:List Step):bZ (s::l)=s.n+bZ l:=by
 show (s::l).foldl (fun s x=>s+x.n) 0=_
 rw[Vbg,Aao];omega
theorem iF:∀ (l m:List Step),bZ (l++m)=bZ l+bZ m
 |[],m=>by simp[bZ]
 |s::l,m=>by rw[Ub3,kP,kP,iF l m];omega
section
variable {ρ:List D} {g:Option (aO×Bool)} {cf:Nat->List D->Option (List D)}
theorem aR.append:∀ {l m:List Step} {nv:Nat},aR cf ρ g nv (l++m)->aR cf ρ g nv l/\aR cf ρ g (nv+bZ l) m
 |[],m,nv,h=>⟨trivial,h⟩
 | s :: l, m, nv, h => by
  obtain⟨h1,h2⟩:=h
  obtain⟨h3,h4⟩:=aR.append h2
  exact⟨⟨h1,h3⟩,by rw[kP,<- Tbl];exact h4⟩
theorem Waq {sz off n:Nat}{x i:D}{vs ds:List D}(h:(aN.set sz off n).run (x::i::vs)=some ds) :
  ∃ rs k iv row,x=.rows sz rs/\i=.int k iv/\0<=iv/\rs[iv.toNat]?=some row/\off+n<=row.length/\vs.length=n/\ds=[.rows sz (rs.set iv.toNat (row.take off++vs++row.drop (off+n)))]:=by
 cases x<;>cases i<;>simp only[aN.run]at h<;>first|cases h|skip
 rename_i sz' rs k iv
 split at h
 ·rename_i h1
  obtain⟨rfl,h1⟩:=h1
  split at h
  ·rename_i row hr
   split at h
   ·rename_i h2
    simp only[Option.some.injEq]at h
    exact⟨rs,k,iv,row,rfl,rfl,h1,hr,h2.1,h2.2,h.symm⟩
   ·cases h
  ·cases h
 ·cases h
theorem take_set {α:Type}{l:List α}{k:Nat}{x:α}(h:k<l.length):l.take k++[x]++l.drop (k+1)=l.set k x:=by
 apply Vbv
 intro j
 rw[Ub5]
 by_cases h1:j<k
 ·rw[Sb3,Tbj (by simp;omega),Ubg,if_pos h1,if_neg (by omega)]
 ·by_cases h2:k=j
  ·subst h2
   rw[if_pos rfl,if_pos h,Sb3,Tbf (by simp;omega)]
   simp[Nat.min_eq_left (Nat.le_of_lt h)]
  ·rw[if_neg h2,Tbf (by simp;omega),Tb5]
   congr 1
   simp;omega
theorem Gad (hg:gOn ρ g=true):∀ (q:List (aO×Nat×Nat)) (nv:Nat) (X y:aO),aR cf ρ g nv (Qae nv X q y).1->Upd (bM ρ q) (X.val ρ) (y.val ρ) ((Qae nv X q y).2.val ρ)
 |[],nv,X,y,_=>.here _ _
 | (i, sz, off) :: p, nv, X, y, h => by
  have hpv:bM ρ ((i,sz,off)::p)=(pF ρ i*sz+off)::bM ρ p:=rfl
  rw[hpv]
  cases p with
  | nil =>
   simp only[Qae]at h ⊢
   obtain⟨d,h1,h2⟩:=Gab h.1 hg
   simp only[Tbn,Tbw]at h1
   obtain⟨rs,k,iv,row,e1,e2,e3,e4,e5,e6,e7⟩:=Waq h1
   simp only[List.cons.injEq,and_true]at e7
   have hi:pF ρ i=iv.toNat:=by simp[pF,e2]
   rw[e1,hi,h2,e7,take_set (by omega)]
   exact .down sz rs iv.toNat off row _ _ _ _ e4 (Sb0 (by omega)) (.here _ _)
  | cons z p =>
   have hne:Qae nv X ((i,sz,off)::z::p) y =
     ([.prim (.row sz off [false]) [X,i] 1]++(Qae (nv+1) (.v nv) (z::p) y).1++[.prim (.set sz off 1) [X,i,(Qae (nv+1) (.v nv) (z::p) y).2] 1],.v (nv+1+bZ (Qae (nv+1) (.v nv) (z::p) y).1)):=rfl
   rw[hne]at h ⊢
   obtain⟨h1,h2⟩:=aR.append h
   obtain⟨h3,h4⟩:=aR.append h1
   obtain⟨d,h5,h6⟩:=Gab h3.1 hg
   have hn1:bZ [Step.prim (.row sz off [false]) [X,i] 1]=1:=rfl
   rw[hn1]at h4
   rw[iF,hn1,<- Tbl]at h2
   have ih:=Gad hg (z::p) (nv+1) (.v nv) y h4
   obtain⟨d',h7,h8⟩:=Gab h2.1 hg
   simp only[Tbn,Tbw]at h5 h7
   obtain⟨rs,k,iv,row,e1,e2,e3,e4,e5,e6,e7⟩:=Waq h7
   obtain⟨rs',k',iv',row',f1,f2,f3,f4,f5,f6,f7⟩:=Db0 h5
   rw[e1]at f1
   obtain rfl:rs=rs':=by injection f1
   rw[e2]at f2
   obtain⟨rfl,rfl⟩:k=k'/\iv=iv':=by injection f2 with a b;exact⟨a,b⟩
   rw[e4]at f4
   obtain rfl:=Option.some.inj f4
   simp only[List.cons.injEq,and_true]at e7
   have hi:pF ρ i=iv.toNat:=by simp[pF,e2]
   have hz:row[off]?=some ((aO.v nv).val ρ):=by
    rw[h6]
    have:((row.drop off).take 1)[0]?=some d:=by
     rw[show [false].length=1 from rfl]at f7
     rw[<- f7];rfl
    rw[Ubg,if_pos (by omega),Tb5]at this
    simpa using this
   rw[e1,hi,h8,e7,take_set (by omega)]
   exact .down sz rs iv.toNat off row _ _ _ _ e4 hz ih
end
end Go.Proofs.YtpgnlmfmlffjcaaGreat.Rf

namespace Go.Proofs.YtpgnlmfmlffjcaaGreat.Rf
set_option linter.unusedVariables false
set_option linter.unusedSimpArgs false
section
variable {P:Program} {E:Env} {F:cB} {n:Nat} {σ:Nat->Option aW} {ρ:List D} {a:Act} {w w':World} {G G':Gh} {g:Option (aO×Bool)} {o:Oper} {cf:Nat->List D->Option (List D)} {Q:Exit->Act->World->Prop} {next:Act->World->Prop}
def Chg (σ:Nat->Option aW)(G:Gh)(w:World)(G':Gh)(w':World)(r:Nat)(c:aW):Prop :=
 (σ (kR r)=none/\∃ x m ver st,c=.root x m ver st) \/
 (∃ x m ver x' m',σ (kR r)=some (.root x m ver .live)/\c=.root x' m' (ver+1) .live) \/
 (∃ x m ver st,c=.root x m ver st/\st≠.live/\st≠.frozen) \/
 (∃ x m ver,σ (kR r)=some (.root x m ver .live)/\c=.root x m ver .frozen/\∀ b p,G.own b=.slc r p->G'.own b=.frz/\w'.heap[b]?=w.heap[b]?)
theorem Dbb (u:List (Nat×aW))(σ:Nat->Option aW)(k:Nat)(h:∃ c,(k,c)∈u):∃ c,(k,c)∈u/\upds σ u k=some c:=by
 have h1:=gD u σ k (.inr h)
 obtain⟨c,hc⟩:=Option.isSome_iff_exists.1 h1
 rcases vQ u σ k c hc with h2|⟨h2,-⟩
 ·exact⟨c,h2,hc⟩
 ·obtain⟨c',hc'⟩:=h
  exact absurd hc' (h2 c')
theorem Fr.of {u:List (Nat×aW)}(hfrz:∀ b,G.own b=.frz->b<w.heap.size->G'.own b=.frz/\w'.heap[b]?=w.heap[b]?)
  (hun:∀ r b p,(∀ c,(kR r,c)∉u)->G.own b=.slc r p->G'.own b=.slc r p/\w'.heap[b]?=w.heap[b]?)
  (hch:∀ r c,(kR r,c)∈u->upds σ u (kR r)=some c->Chg σ G w G' w' r c)
  (hfroz:∀ r x m k,σ (kR r)=some (.root x m k .frozen)->∀ b p,G'.own b=.slc r p->G.own b=.slc r p)
  (hhdr:∀ r,(σ (kR r)).isSome->G'.hdr r=G.hdr r) (hbx:∀ b,(σ (kB b)).isSome->G'.bx b=G.bx b):Fr σ G w (upds σ u) G' w':=by
 have hcase:∀ r,(∀ c,(kR r,c)∉u)\/∃ c,(kR r,c)∈u/\upds σ u (kR r)=some c/\Chg σ G w G' w' r c:=by
  intro r
  by_cases h:∃ c,(kR r,c)∈u
  ·obtain⟨c,h1,h2⟩:=Dbb u σ (kR r) h
   exact .inr ⟨c,h1,h2,hch r c h1 h2⟩
  ·exact .inl fun c hc=>h ⟨c,hc⟩
 have hval:∀ r k,nS σ r k->uJ (upds σ u) r k->uJ σ r k:=by
  intro r k hk hv
  rcases hcase r with h|⟨c,h1,h2,h3⟩
  ·obtain⟨x,m,st,e,hs⟩:=hv
   rw[gZ u σ _ h]at e
   exact⟨x,m,st,e,hs⟩
  ·obtain⟨x,m,st,e,hs⟩:=hv
   rw[h2]at e
   obtain rfl:=Option.some.inj e
   obtain⟨x0,m0,v0,st0,e0,hk0⟩:=hk
   rcases h3 with ⟨h4,-⟩|⟨x1,m1,v1,x2,m2,h4,h5⟩|⟨x1,m1,v1,st1,h5,h6,h7⟩|⟨x1,m1,v1,h4,h5,-⟩
   ·rw[h4]at e0;cases e0
   ·rw[h4]at e0
    injection e0 with e0
    injection e0 with i1 i2 i3 i4
    injection h5 with j1 j2 j3 j4
    have:=hk0 (.inl i4.symm)
    omega
   ·injection h5 with j1 j2 j3 j4
    rw[j4]at hs
    rcases hs with hs|hs
    ·exact absurd hs h6
    ·exact absurd hs h7
   ·injection h5 with j1 j2 j3 j4
    exact⟨x1,m1,.live,by rw[h4,j3],.inl rfl⟩
 refine⟨hfrz,hval,fun r k hk=>?_,fun r k b p hv hv' hb=>?_,fun r k m hk hl=>?_,hhdr,hbx,fun k hk=>gD _ _ _ (.inl hk),hfroz⟩
 ·rcases hcase r with h|⟨c,h1,h2,h3⟩
  ·obtain⟨x,m,ver,st,e,hs⟩:=hk
   exact⟨x,m,ver,st,by rw[gZ u σ _ h];exact e,hs⟩
  ·obtain⟨x0,m0,v0,st0,e0,hk0⟩:=hk
   rcases h3 with ⟨h4,-⟩|⟨x1,m1,v1,x2,m2,h4,h5⟩|⟨x1,m1,v1,st1,h5,h6,h7⟩|⟨x1,m1,v1,h4,h5,-⟩
   ·rw[h4]at e0;cases e0
   ·rw[h4]at e0
    injection e0 with e0
    injection e0 with i1 i2 i3 i4
    have:=hk0 (.inl i4.symm)
    exact⟨_,_,_,_,by rw[h2,h5],fun _=>by omega⟩
   ·exact⟨_,_,_,_,by rw[h2,h5],fun hs=>by rcases hs with hs|hs<;>contradiction⟩
   ·rw[h4]at e0
    injection e0 with e0
    injection e0 with i1 i2 i3 i4
    have:=hk0 (.inl i4.symm)
    exact⟨_,_,_,_,by rw[h2,h5],fun _=>by omega⟩
 ·rcases hcase r with h|⟨c,h1,h2,h3⟩
  ·exact⟨.inl (hun r b p h hb).1,(hun r b p h hb).2⟩
  ·obtain⟨x,m,st,e,hs⟩:=hv
   obtain⟨x',m',st',e',hs'⟩:=hv'
   rw[h2]at e'
   obtain rfl:=Option.some.inj e'
   rcases h3 with ⟨h4,-⟩|⟨x1,m1,v1,x2,m2,h4,h5⟩|⟨x1,m1,v1,st1,h5,h6,h7⟩|⟨x1,m1,v1,h4,h5,h6⟩
   ·rw[h4]at e;cases e
   ·rw[h4]at e
    injection e with e
    injection e with i1 i2 i3 i4
    injection h5 with j1 j2 j3 j4
    omega
   ·injection h5 with j1 j2 j3 j4
    rw[j4]at hs'
    rcases hs' with hs|hs
    ·exact absurd hs h6
    ·exact absurd hs h7
   ·exact⟨.inr (h6 b p hb).1,(h6 b p hb).2⟩
 ·rcases hcase r with h|⟨c,h1,h2,h3⟩
  ·obtain⟨x,e⟩:=hl
   rw[gZ u σ _ h]at e
   exact⟨⟨x,e⟩,fun b p hb=>(hun r b p h hb).1⟩
  ·obtain⟨x,e⟩:=hl
   rw[h2]at e
   obtain rfl:=Option.some.inj e
   obtain⟨x0,m0,v0,st0,e0,hk0⟩:=hk
   rcases h3 with ⟨h4,-⟩|⟨x1,m1,v1,x2,m2,h4,h5⟩|⟨x1,m1,v1,st1,h5,h6,h7⟩|⟨x1,m1,v1,h4,h5,-⟩
   ·rw[h4]at e0;cases e0
   ·rw[h4]at e0
    injection e0 with e0
    injection e0 with i1 i2 i3 i4
    injection h5 with j1 j2 j3 j4
    have:=hk0 (.inl i4.symm)
    omega
   ·injection h5 with j1 j2 j3 j4
    exact absurd j4.symm h6
   ·injection h5 with j1 j2 j3 j4
    cases j4
def rY (f:Nat->List Nat->Ow):Ow->Ow
 |.slc s p=>f s p
 |o=>o
theorem R.own (h:R E.ntmps F σ ρ a w G)(hd:iJ E.ntmps o){sv:SV}{v:Value}{ur:List (Nat×aW)}{f:Nat->List Nat->Ow}{wr:Nat->Prop}
  (hu:∀ k c,(k,c)∈ur->∃ r,k=kR r)
  (hown:∀ b,b<w.heap.size->G'.own b=rY f (G.own b)) (hfresh:∀ b,w'.heap.size<=b->G'.own b=.frz)
  (hrest:w'.os=w.os/\w'.tape=w.tape/\w'.output=w.output/\w.heap.size<=w'.heap.size)
  (hnewown:∀ b,w.heap.size<=b->G'.own b=.frz\/∃ r p,G'.own b=.slc r p/\σ (kR r)=none)
  (hheap:∀ b,b<w.heap.size->¬ wr b->w'.heap[b]?=w.heap[b]?) (hwr:∀ b,wr b->∃ r p,G.own b=.slc r p/\∃ c,(kR r,c)∈ur)
  (hun:∀ b r p,G.own b=.slc r p->(∀ c,(kR r,c)∉ur)->f r p=.slc r p)
  (hch:∀ r c,(kR r,c)∈ur->upds σ (fU o g sv++ur) (kR r)=some c->Chg σ G w G' w' r c)
  (hfroz:∀ r x m k,σ (kR r)=some (.root x m k .frozen)->∀ s p q,f s p=.slc r q->s=r/\p=q)
  (hhdr:∀ r,(σ (kR r)).isSome->G'.hdr r=G.hdr r) (hbx:G'.bx=G.bx)
  (hval:Fr σ G w (upds σ (fU o g sv++ur)) G' w'->gOn ρ g=true->eB (upds σ (fU o g sv++ur)) ρ G' w' sv v)
  (hroot:Fr σ G w (upds σ (fU o g sv++ur)) G' w'->∀ r c,(kR r,c)∈ur->upds σ (fU o g sv++ur) (kR r)=some c->∃ x m ver st,c=.root x m ver st/\dJ (upds σ (fU o g sv++ur)) ρ G' w' r x m st) :
  R E.ntmps F (upds σ (fU o g sv++ur)) ρ (a.put o.dst v) w' G':=by
 have hkeys:=Mak o g sv
 have hin:∀ r c,(kR r,c)∈fU o g sv++ur->(kR r,c)∈ur:=by
  intro r c hc
  rcases List.mem_append.1 hc with hc|hc
  ·obtain⟨t,e⟩:=hkeys _ _ hc
   exact absurd e.symm kU
  ·exact hc
 have hslt:∀ b r p,G.own b=.slc r p->b<w.heap.size:=fun b r p hb=>by
  rcases Tbi b w.heap.size with h1|h1
  ·exact h1
  ·rw[h.frame.fresh b h1]at hb;cases hb
 have hstay:∀ b,b<w.heap.size->(∀ r p,G.own b≠.slc r p)->G'.own b=G.own b/\w'.heap[b]?=w.heap[b]?:=fun b hlt hb=>by
  refine⟨?_,hheap b hlt fun hw=>?_⟩
  ·rw[hown b hlt]
   unfold rY
   split
   ·rename_i s p e
    exact absurd e (hb s p)
   ·rfl
  ·obtain⟨r,p,e,-⟩:=hwr b hw
   exact hb r p e
 have hfr:Fr σ G w (upds σ (fU o g sv++ur)) G' w':=by
  refine Fr.of (fun b hb hlt=>?_) (fun r b p hnot hb=>?_) (fun r c hc hc'=>hch r c (hin r c hc) hc') (fun r x m k hk b p hb=>?_) hhdr (fun b _=>by rw[hbx])
  ·obtain⟨h1,h2⟩:=hstay b hlt (by rw[hb];simp)
   exact⟨h1.trans hb,h2⟩
  ·have hlt:=hslt b r p hb
   have hnot':∀ c,(kR r,c)∉ur:=fun c hc=>hnot c (Sb2 _ hc)
   refine⟨by rw[hown b hlt,hb];exact hun b r p hb hnot',hheap b hlt fun hw=>?_⟩
   obtain⟨r',p',e,c,hc⟩:=hwr b hw
   rw[hb]at e
   injection e with e1 e2
   subst e1
   exact hnot' c hc
  ·rcases Tbi b w.heap.size with hlt|hlt
   ·rw[hown b hlt]at hb
    cases e:G.own b with
    | slc s q =>
     rw[e]at hb
     obtain⟨rfl,rfl⟩:=hfroz r x m k hk s q p hb
     rfl
    |_=>rw[e]at hb;exact hb
   ·rcases hnewown b hlt with e|⟨r',p',e,hn⟩
    ·rw[e]at hb;cases hb
    ·rw[e]at hb
     injection hb with e1 e2
     subst e1
     rw[hn]at hk;cases hk
 refine h.upd _ hfr (by rw[Fa7];exact h.tmps) (by rw[put_defers];exact h.defers) ?_ (fun t ht=>Jaz ht) (fun b ro bs hb _=>?_) (fun b bs hb hlt ho=>?_) (fun k c hk hk'=>?_)
 ·obtain⟨e1,e2,e3,e4⟩:=hrest
  refine⟨e1.trans h.frame.os,e2.trans h.frame.tape,e3.trans h.frame.output,by have:=h.frame.size;omega,fun b hlt hf=>?_,fun b j hlt hj=>?_,hfresh⟩
  ·obtain⟨h1,h2⟩:=h.frame.keep b hlt hf
   obtain⟨h3,h4⟩:=hstay b (by have:=h.frame.size;omega) (fun r p e=>by
    rw[e]at h2
    rw[<- h2]at hf
    rcases hf with hf|hf<;>cases hf)
   exact⟨h4.trans h1,h3.trans h2⟩
  ·obtain⟨h1,c0,c1,e,fr,h2,h3,h4⟩:=h.frame.boxes b j hlt hj
   obtain⟨h5,h6⟩:=hstay b (by have:=h.frame.size;omega) (by rw[h1];simp)
   exact⟨h5.trans h1,c0,c1,e,fr,h2,h6.trans h3,h4⟩
 ·obtain⟨_,h2,h3⟩:=h.box hb
  rcases Tbi (G.bx b).block w.heap.size with hlt|hlt
  ·exact hstay _ hlt (by rw[h2];split<;>simp)
  ·rw[h.frame.fresh _ hlt]at h2
   split at h2<;>cases h2
 ·rcases List.mem_append.1 hb with hb|hb
  ·obtain⟨t,e⟩:=hkeys _ _ hb
   exact absurd e.symm rO
  ·obtain⟨r,e⟩:=hu _ _ hb
   exact absurd e iX
 ·rcases List.mem_append.1 hk with hk|hk
  ·obtain⟨d,hd',rfl,rfl⟩:=Cax hk
   refine⟨d,rfl,fun hg=>?_⟩
   rw[hd',uK _ _ _ _ _ (hd d hd') h.tmps]
   exact hval hfr hg
  ·obtain⟨r,rfl⟩:=hu _ _ hk
   obtain⟨x,m,ver,st,rfl,hrr⟩:=hroot hfr r c hk hk'
   exact⟨r,rfl,by rw[hk'];rfl,hrr⟩
end
end Go.Proofs.YtpgnlmfmlffjcaaGreat.Rf

namespace Go.Proofs.YtpgnlmfmlffjcaaGreat.Rf
set_option linter.unusedVariables false
set_option linter.unusedSimpArgs false
section
variable {P:Program} {E:Env} {F:cB} {n:Nat} {σ:Nat->Option aW} {ρ:List D} {a:Act} {w w':World} {G G':Gh} {g:Option (aO×Bool)} {o:Oper} {cf:Nat->List D->Option (List D)} {Q:Exit->Act->World->Prop} {next:Act->World->Prop}
inductive Naa (σ:Nat->Option aW) (ρ:List D) (G:Gh) (w:World) (pu:Put) (off:Nat) (v:Value) (x:aO):Prop
 |sc (h:Sc v (x.val ρ))
 |nil (z:Nat) (hx:x.val ρ=.rows z []) (hv:v=.slice none 0 0)
 |mv (r m ver:Nat) (hm:(off,r,m)∈pu.moves) (hr:σ (kR r)=some (.root x m ver .live)) (hv:v=G.hdr r) (hd:pu.depth<=m)
 |hole (r k m:Nat) (q:List (aO×Nat×Nat)) (hm:(off,r,q)∈pu.holes) (hl:Hay σ r k m) (hq:q.length+1<=m) (hrp:Rp G.own w r (bM ρ q) (m-q.length) v (x.val ρ)) (hn:Eas G.own w r [] (G.hdr r) (bM ρ q) v) (hd:pu.depth<=m-q.length)
 |fz (hd:pu.depth=0) (h:Rd (fun b=>G.own b=.frz\/∃ r p,r∈pu.frz/\G.own b=.slc r p) w v (x.val ρ))
theorem Naa.left {A B:Put}{off:Nat}{v:Value}{x:aO}(h:Naa σ ρ G w A off v x):Naa σ ρ G w ⟨A.xs++B.xs,A.moves++B.moves,A.holes++B.holes,A.frz++B.frz,min A.depth B.depth⟩ off v x:=by
 cases h with
 |sc h=>exact .sc h
 |nil z hx hv=>exact .nil z hx hv
 |mv r m ver hm hr hv hd=>exact .mv r m ver (Sbz _ hm) hr hv (by dsimp only;omega)
 |hole r k m q hm hl hq hrp hn hd=>exact .hole r k m q (Sbz _ hm) hl hq hrp hn (by dsimp only;omega)
 |fz hd h=>exact .fz (by dsimp only;omega) (h.mono fun b hb=>⟨hb.imp id fun ⟨r,p,h1,h2⟩=>⟨r,p,Sbz _ h1,h2⟩,rfl⟩)
theorem Naa.right {A B:Put}{off:Nat}{v:Value}{x:aO}(h:Naa σ ρ G w B off v x):Naa σ ρ G w ⟨A.xs++B.xs,A.moves++B.moves,A.holes++B.holes,A.frz++B.frz,min A.depth B.depth⟩ off v x:=by
 cases h with
 |sc h=>exact .sc h
 |nil z hx hv=>exact .nil z hx hv
 |mv r m ver hm hr hv hd=>exact .mv r m ver (Sb2 _ hm) hr hv (by dsimp only;omega)
 |hole r k m q hm hl hq hrp hn hd=>exact .hole r k m q (Sb2 _ hm) hl hq hrp hn (by dsimp only;omega)
 |fz hd h=>exact .fz (by dsimp only;omega) (h.mono fun b hb=>⟨hb.imp id fun ⟨r,p,h1,h2⟩=>⟨r,p,Sb2 _ h1,h2⟩,rfl⟩)
theorem Waw (hR:R E.ntmps F σ ρ a w G){mv mvs:Bool}{off:Nat}{l:aZ}{pu:Put}(h:(Wax mv mvs off l).eval σ=some pu){v:Value}(hl:aD σ ρ G w l v) :
  ∃ x,pu.xs=[x]/\Naa σ ρ G w pu off v x/\(∀ z∈pu.moves,z.1=off/\∃ x ver,σ (kR z.2.1)=some (.root x z.2.2 ver .live))/\(∀ z∈pu.holes,z.1=off):=by
 unfold Wax at h
 split at h
 ·rename_i x
  simp only[aH,Option.some.injEq]at h
  subst h
  simp only[aD]at hl
  exact⟨x,rfl,.sc hl,by simp,by simp⟩
 ·rename_i r
  simp only[aC,aX,Sb6]at h
  simp only[aD]at hl
  split at h
  ·rename_i x m ver hk
   cases mv with
   | true =>
    simp only[cond_true,aH,Option.some.injEq]at h
    subst h
    refine⟨x,rfl,.mv r m ver (by simp) hk hl.1 (Sb7 _),fun z hz=>?_,by simp⟩
    simp only[Sb9]at hz
    subst hz
    exact⟨rfl,x,ver,hk⟩
   | false =>
    simp only[cond_false,aH,Option.some.injEq]at h
    subst h
    refine⟨x,rfl,.fz rfl ?_,by simp,by simp⟩
    have:=hR.root hk
    simp only[dJ]at this
    rw[<- hl.1]at this
    exact this.rd.mono fun b hb=>⟨hb.imp id fun ⟨q,hq⟩=>⟨r,q,by simp,hq⟩,rfl⟩
  ·rename_i x m ver hk
   simp only[aH,Option.some.injEq]at h
   subst h
   refine⟨x,rfl,.fz rfl ?_,by simp,by simp⟩
   have:=(hR.root hk).1
   rw[<- hl.1]at this
   exact this.mono fun b hb=>⟨.inl hb,rfl⟩
  ·cases h
 ·rename_i deps p nie x
  split at h
  ·rename_i z
   simp only[aH,Option.some.injEq]at h
   subst h
   refine⟨_,rfl,.nil z rfl ?_,by simp,by simp⟩
   simp only[aD]at hl
   exact (hl.2 (by simp)).2.1 trivial z rfl
  ·rename_i hne
   simp only[aC,Sbt]at h
   obtain⟨s,h1,h⟩:=h
   have hs:=fV hR h1 hl
   have hx:s.x=x:=by
    unfold Caf at h1
    simp only[aC,Sbt]at h1
    obtain⟨ds,-,h3⟩:=h1
    split at h3
    ·simp only[aH,Option.some.injEq]at h3;rw[<- h3]
    ·simp only[aC,aX,Sb6]at h3
     split at h3
     ·simp only[aH,Option.some.injEq]at h3;rw[<- h3]
     ·cases h3
    ·simp only[aH,Option.some.injEq]at h3;rw[<- h3]
   have hfz:∀ frz:List Nat,(∀ z∈s.deps,z.1∈frz)->Rd (fun b=>G.own b=.frz\/∃ r p,r∈frz/\G.own b=.slc r p) w v (x.val ρ):=by
    intro frz hz
    have:=hs.rd
    rw[hx]at this
    exact this.mono fun b hb=>⟨hb.imp id fun ⟨r,k,p,h2,h3⟩=>⟨r,p,hz _ h2,h3⟩,rfl⟩
   split at h
   ·rename_i r k m q ho
    have hown:=hs.own
    unfold Aak at hown
    rw[ho]at hown
    obtain⟨h2,h3,h4,h5,h6⟩:=hown
    rw[hx]at h5
    cases hb:(mvs&&Nat.ble (q.length+1) m) with
    | true =>
     rw[hb]at h
     simp only[cond_true,aH,Option.some.injEq]at h
     subst h
     simp only[Sbu,Ubf]at hb
     refine⟨x,rfl,.hole r k m q (by simp) h3 hb.2 h5 h6 (Sb7 _),by simp,by simp⟩
    | false =>
     rw[hb]at h
     simp only[cond_false,aH,Option.some.injEq]at h
     subst h
     refine⟨x,rfl,.fz rfl (hfz _ fun z hz=>?_),by simp,by simp⟩
     rw[h2]at hz
     simp only[Sb9]at hz
     subst hz
     simp
   ·simp only[aH,Option.some.injEq]at h
    subst h
    exact⟨x,rfl,.fz rfl (hfz _ fun z hz=>Ubt hz),by simp,by simp⟩
 ·cases h
theorem yY (hR:R E.ntmps F σ ρ a w G){mv mvs:Bool}:∀ {ls:List aZ} {off:Nat} {pu:Put},(xG mv mvs off ls).eval σ=some pu->∀ {vs:List Value},aK σ ρ G w ls vs ->
  pu.xs.length=ls.length/\(∀ j v x,vs[j]?=some v->pu.xs[j]?=some x->Naa σ ρ G w pu (off+j) v x) /\
  (∀ z∈pu.moves,off<=z.1/\z.1<off+ls.length/\∃ x ver,σ (kR z.2.1)=some (.root x z.2.2 ver .live))
 | [], off, pu, h, vs, hl => by
  simp only[xG,aH,Option.some.injEq]at h
  subst h
  exact⟨rfl,by simp,by simp⟩
 | l :: ls, off, pu, h, vs, hl => by
  simp only[xG,aC,Sbt,aH,Option.some.injEq]at h
  obtain⟨A,h1,B,h2,rfl⟩:=h
  simp only[aK]at hl
  obtain⟨u,us,rfl,h3,h4⟩:=hl
  obtain⟨x,h5,h6,h7,-⟩:=Waw hR h1 h3
  obtain⟨h8,h9,h10⟩:=yY hR h2 h4
  refine⟨by simp[h5,h8],fun j v y hv hy=>?_,fun z hz=>?_⟩
  ·rw[h5]at hy
   cases j with
   | zero =>
    simp only[Sb8,Option.some.injEq,Vbl]at hv hy
    subst hv hy
    exact h6.left
   | succ j =>
    simp only[Tb9,Vbl]at hv hy
    have:=(h9 j v y hv hy).right (A:=A)
    rwa[show off+1+j=off+(j+1) by omega]at this
  ·simp only[Sbw]
   rcases List.mem_append.1 hz with hz|hz
   ·obtain⟨e,h11⟩:=h7 z hz
    exact⟨by omega,by omega,h11⟩
   ·obtain⟨e1,e2,h11⟩:=h10 z hz
    exact⟨by omega,by omega,h11⟩
theorem jM:∀ {rs:List Nat} {fr:List (Nat×aW)},(fO rs).eval σ=some fr ->
  (∀ r∈rs,(∃ x m ver,σ (kR r)=some (.root x m ver .live)/\(kR r,aW.root x m ver .frozen)∈fr)\/∃ x m ver,σ (kR r)=some (.root x m ver .frozen)) /\
  (∀ k c,(k,c)∈fr->∃ r∈rs,∃ x m ver,k=kR r/\c=.root x m ver .frozen/\σ (kR r)=some (.root x m ver .live))
 | [], fr, h => by
  simp only[fO,aH,Option.some.injEq]at h
  subst h
  simp
 | r :: rs, fr, h => by
  simp only[fO,aC,aX,Sb6]at h
  split at h
  ·rename_i x m ver hk
   simp only[aC,Sbt,aH,Option.some.injEq]at h
   obtain⟨l,h1,rfl⟩:=h
   obtain⟨h2,h3⟩:=jM h1
   refine⟨fun s hs=>?_,fun k c hc=>?_⟩
   ·rcases List.mem_cons.1 hs with rfl|hs
    ·exact .inl ⟨x,m,ver,hk,Tbe⟩
    ·rcases h2 s hs with ⟨x',m',v',h4,h5⟩|h4
     ·exact .inl ⟨x',m',v',h4,Tba _ h5⟩
     ·exact .inr h4
   ·rcases List.mem_cons.1 hc with hc|hc
    ·obtain⟨rfl,rfl⟩:=Prod.mk.inj hc
     exact⟨r,Tbe,x,m,ver,rfl,rfl,hk⟩
    ·obtain⟨s,hs,h4⟩:=h3 k c hc
     exact⟨s,Tba _ hs,h4⟩
  ·rename_i x m ver hk
   obtain⟨h2,h3⟩:=jM h
   refine⟨fun s hs=>?_,fun k c hc=>?_⟩
   ·rcases List.mem_cons.1 hs with rfl|hs
    ·exact .inr ⟨x,m,ver,hk⟩
    ·exact h2 s hs
   ·obtain⟨s,hs,h4⟩:=h3 k c hc
    exact⟨s,Tba _ hs,h4⟩
  ·cases h
end
end Go.Proofs.YtpgnlmfmlffjcaaGreat.Rf

namespace Go.Proofs.YtpgnlmfmlffjcaaGreat.Rf
set_option linter.unusedVariables false
set_option linter.unusedSimpArgs false
theorem rC {l:List Nat}{n:Nat}:has l n=true↔n∈l:=by
 unfold has
 simp only[List.any_eq_true,Tbv]
 constructor
 ·rintro⟨x,h,rfl⟩;exact h
 ·exact fun h=>⟨n,h,rfl⟩
theorem Da9 {l:List Nat}{n:Nat}:has l n=false↔n∉l:=by
 rw[<- rC];simp
theorem zL:∀ {l:List (Nat×Nat×Nat)},distinct (l.map (·.2.1))=true->∀ z∈l,l.find? (fun y=>Nat.beq y.2.1 z.2.1)=some z
 |[],_,z,hz=>by simp at hz
 | y :: l, h, z, hz => by
  simp only[Tbn,distinct,Sbu,Tbm]at h
  rw[List.find?_cons]
  rcases List.mem_cons.1 hz with rfl|hz
  ·have:Nat.beq z.2.1 z.2.1=true:=by simp
   rw[this]
  ·have:Nat.beq y.2.1 z.2.1=false:=by
    cases e:Nat.beq y.2.1 z.2.1 with
    |false=>rfl
    | true =>
     simp only[Tbv]at e
     have h1:=Da9.1 h.1
     rw[e]at h1
     exact absurd (Ubt (f:=fun x:Nat×Nat×Nat=>x.2.1) hz) h1
   rw[this]
   exact zL h.2 z hz
theorem Mac {l:List (Nat×Nat×Nat)}{s:Nat}(h:s∉l.map (·.2.1)):l.find? (fun y=>Nat.beq y.2.1 s)=none:=by
 rw[List.find?_eq_none]
 intro x hx
 simp only[Tbv]
 intro e
 exact h (e▸Ubt (f:=fun x:Nat×Nat×Nat=>x.2.1) hx)
section
variable {P:Program} {E:Env} {F:cB} {n:Nat} {σ:Nat->Option aW} {ρ:List D} {a:Act} {w w':World} {G G':Gh} {g:Option (aO×Bool)} {o:Oper} {cf:Nat->List D->Option (List D)} {Q:Exit->Act->World->Prop} {next:Act->World->Prop}
theorem Rd.nil {ok:Nat->Prop}{z:Nat}:Rd ok w (.slice none 0 0) (.rows z []) :=
 .rows none ⟨0,0,none⟩ 0 0 _ [] (fun _ _=>undef) rfl (Sb7 _) (.inl rfl) (by simp) (by simp) (by simp)
theorem Rp.nil {own:Nat->Ow}{r:Nat}{p:List Nat}{m z:Nat}:Rp own w r p m (.slice none 0 0) (.rows z []):=by
 cases m with
 |zero=>exact .fz Rd.nil
 |succ m=>exact .sl none ⟨0,0,none⟩ 0 0 _ [] (fun _ _=>undef) rfl (Sb7 _) (.inr ⟨rfl,rfl⟩) (by simp) (by simp) (by simp) (by simp)
theorem Naa.rp (hR:R E.ntmps F σ ρ a w G){pu:Put}{off:Nat}{v:Value}{x:aO}(h:Naa σ ρ G w pu off v x){own':Nat->Ow}{R:Nat}{path:List Nat}{m1:Nat}(hd:m1<=pu.depth)
  (hz:∀ b,G.own b=.frz->b<w.heap.size->own' b=.frz/\w'.heap[b]?=w.heap[b]?)
  (hmv:∀ s m,(off,s,m)∈pu.moves->∀ b t,G.own b=.slc s t->own' b=(if t.length<m1 then .slc R (path++t) else .frz)/\w'.heap[b]?=w.heap[b]?)
  (hho:∀ s q,(off,s,q)∈pu.holes->∀ b t,G.own b=.slc s (bM ρ q++t)->own' b=(if t.length<m1 then .slc R (path++t) else .frz)/\w'.heap[b]?=w.heap[b]?)
  (hfz:∀ s∈pu.frz,∀ b p,G.own b=.slc s p->own' b=.frz/\w'.heap[b]?=w.heap[b]?):Rp own' w' R path m1 v (x.val ρ):=by
 cases h with
 |sc h=>exact .sc h
 |nil z hx hv=>rw[hx,hv];exact Rp.nil
 | mv r m ver hm hr hv hd' =>
  have:=hR.root hr
  simp only[dJ]at this
  rw[hv]
  exact this.move hz path m1 (by omega) fun b t hb=>hmv r m hm b t (by simpa using hb)
 |hole r k m q hm hl hq hrp hn hd'=>exact hrp.move hz path m1 (by omega) fun b t hb=>hho r q hm b t hb
 | fz hd' h =>
  obtain rfl:m1=0:=by omega
  refine .fz (h.mono' fun b hb hlt=>?_)
  rcases hb with hb|⟨r,p,h1,h2⟩
  ·exact hz b hb hlt
  ·exact hfz r h1 b p h2
def Ca1 (R M:Nat)(p:List Nat):Ow:=if p.length<M then .slc R p else .frz
def oU (pu:Put)(r m':Nat)(pv:List Nat)(base:Nat)(s:Nat)(p:List Nat):Ow :=
 bif has pu.frz s then .frz else match pu.moves.find? (fun y=>Nat.beq y.2.1 s) with
  |some z=>Ca1 r m' ((pv++[base+z.1])++p)
  |none=>if s=r then Ca1 r m' p else .slc s p
theorem nD {B o:Nat}{vs:List Value}{b:Addr}(hb:b.block=B->b.spot=none)(hex:∀ j,j<vs.length->(w.cell? ⟨B,o+j,none⟩).isSome=true){u:Value}(hc:w.cell? b=some u) :
  ∃ u',(w.setCells B o vs).cell? b=some u':=by
 by_cases hin:b.block=B/\o<=b.off/\b.off<o+vs.length
 ·obtain⟨h1,h2,h3⟩:=hin
  have:=World.cell?_setCells_in B vs o w hex (b.off-o) (by omega)
  have hs:=hb h1
  rw[show o+(b.off-o)=b.off by omega]at this
  have hb':b=⟨B,b.off,none⟩:=by cases b;simp only at h1 hs;subst h1 hs;rfl
  exact⟨vs[b.off-o]'(by omega),(congrArg (fun x=>(w.setCells B o vs).cell? x) hb').trans this⟩
 ·rw[World.cell?_setCells_out B vs o w b fun e1 e2=>by
   rcases Tbi b.off o with h|h
   ·exact .inl h
   ·refine .inr ?_
    rcases Tbi b.off (o+vs.length) with h'|h'
    ·exact absurd ⟨e1,h,h'⟩ hin
    ·exact h']
  exact⟨u,hc⟩
theorem Nao (hR:R E.ntmps F σ ρ a w G)(hti:Aaj P E.ti){nv:Nat}{mv mvs:Bool}{t:TypeId}{x y:Operand}(ho:o.op=.store t x y){ti:TI}(hi:E.ti t=some ti){l:aZ}{sz:Nat}{i:aO}{off:Nat}{ls:List aZ}{sv:SV}
  (hx:gOn ρ g=true->aD σ ρ G w (.pe l sz i off) (a.eval x)) (hy:gOn ρ g=true->eB σ ρ G w sv (a.eval y)) (hls:nH ti.agg sv=some ls) {res:dG}
  (h:(Hak nv mv mvs o g ti (.pe l sz i off) ls).eval σ=some res) (hst:aR cf ρ g nv res.lets):jR P E F σ ρ a w g o Q res.upd:=by
 simp only[Hak,aC,aP,Sbt,aX,Sb6]at h
 obtain⟨_,h1,_,h2,s,h3,h⟩:=h
 split at h1
 case isFalse=>cases h1
 rename_i hb1
 simp only[Sbu,Tbv,Vbr]at hb1
 obtain⟨hlen,hdst⟩:=hb1
 split at h2
 case isFalse=>cases h2
 rename_i hg0
 obtain rfl:=Baa hg0
 split at h
 case h_2=>cases h
 rename_i r k m q hown
 simp only[aC,aP,Sbt,aX,Sb6]at h
 obtain⟨_,h4,h⟩:=h
 split at h4
 case isFalse=>cases h4
 rename_i hqm
 simp only[Ubf]at hqm
 split at h
 case h_2=>cases h
 rename_i X m0 ver hk
 simp only[aC,aP,Sbt]at h
 obtain⟨pu,h5,fr,h6,_,h7,h⟩:=h
 split at h7
 case isFalse=>cases h7
 rename_i hb7
 simp only[Sbu,Tbm,Vbw,Wbf]at hb7
 obtain⟨⟨⟨⟨hfr,hmr⟩,hho⟩,hdis⟩,hmf⟩:=hb7
 simp only[aH,Option.some.injEq]at h
 subst h
 refine⟨fun hg=>?_,fun hg=>by simp[gOn]at hg⟩
 obtain⟨info,u,f⟩:=bG (hti.ok _ _ hi)
 have hl:=kL hls (hy hg)
 obtain⟨hpl,hput,hmvs⟩:=yY hR h5 hl
 obtain⟨hfz1,hfz2⟩:=jM h6
 have hpe:=hx hg
 simp only[aD]at hpe
 obtain⟨c,n,cap,ik,iv,hp1,hp2,hp3,hp4,hp5⟩:=hpe
 have hsl:=fV hR h3 hp1
 have hor:=hsl.own
 unfold Aak at hor
 rw[hown]at hor
 obtain⟨-,⟨X0,hl0⟩,-,hrp,hnest⟩:=hor
 rw[hk]at hl0
 obtain⟨rfl,rfl,rfl⟩:X=X0/\m0=m/\ver=k:=by
  injection hl0 with e;injection e with e1 e2 e3 e4;exact⟨e1,e2,e3⟩
 have hroot:=hR.root hk
 simp only[dJ]at hroot
 obtain⟨d1,hd1,hd2⟩:=Gab hst.1 hg
 have hst2:aR cf ρ none (nv+1) (Qae (nv+1) X q (.v nv)).1:=hst.2
 have hupd:=Gad hg q (nv+1) X (.v nv) hst2
 simp only[Ub3,Tb2,Tbn]at hd1
 obtain⟨rs,ik',iv',row,e1,e2,e3,e4,e5,e6,e7⟩:=Waq hd1
 rw[hp2]at e2
 obtain⟨rfl,rfl⟩:ik=ik'/\iv=iv':=by injection e2 with a b;exact⟨a,b⟩
 simp only[List.cons.injEq,and_true]at e7
 simp only[Sb5]at e6
 rw[e1]at hrp
 have hpvl:(bM ρ q).length=q.length:=by simp[bM]
 generalize hpv:bM ρ q=pv at hupd hrp hnest hpvl
 obtain⟨md,hmd⟩:∃ md,m0-q.length=md+1:=⟨m0-q.length-1,by omega⟩
 rw[hmd]at hrp
 obtain⟨A,c',n',cap',vs0,i1,i2,i3,i4,i5,i6,i7,i8⟩:=hrp.sl_inv
 obtain⟨rfl,rfl,rfl⟩:A=some c/\n'=n/\cap'=cap:=by injection i1 with a b c;exact⟨a.symm,b.symm,c.symm⟩
 have hcc:c'=c:=by
  rcases i4 with i4|⟨i4,-⟩
  ·exact (Option.some.inj i4).symm
  ·cases i4
 subst hcc
 obtain⟨hspot,hob,hcells⟩:=i6 rfl
 have hrow:row.length=sz:=i5 row (Tbg e4)
 generalize hvs:(a.eval y).cells.toList=vs at hl hput
 have hvl:vs.length=ls.length:=hl.len
 have hcell0:∀ j,j<vs.length->∃ u,w.cell? ⟨c'.block,c'.off+(iv.toNat*sz+off)+j,none⟩=some u/\w.frozen? ⟨c'.block,c'.off+(iv.toNat*sz+off)+j,none⟩=false:=by
  intro j hj
  have hk':iv.toNat*sz+off+j<cap'*sz:=by
   have h1:(iv.toNat+1)*sz<=cap'*sz:=Ubl _ (by omega)
   rw[Ubm]at h1
   omega
  have:=hcells _ hk'
  rw[add_plain hspot]at this
  rw[Tbl]
  exact this
 have hrun:(execOp a.eval o).run P w=.ok .skip (w.setCells c'.block (c'.off+(iv.toNat*sz+off)) vs):=by
  unfold execOp
  simp only[ho]
  have:=Ia0 (P:=P) (w:=w) f (b:=c'.block) (off:=c'.off+(iv.toNat*sz+off)) (v:=a.eval y) (by rw[hvs];omega)
   (fun j hj=>by
    obtain⟨v,h6,-⟩:=hcell0 j (by omega)
    exact⟨v,h6⟩)
   (fun j hj=>by
    obtain⟨v,-,h6⟩:=hcell0 j (by omega)
    exact h6) (by
    rw[hvs]
    intro v hv
    obtain⟨j,hj⟩:=List.mem_iff_getElem?.1 hv
    have hjl:j<pu.xs.length:=by rw[hpl,<- hvl];exact (List.getElem?_eq_some_iff.1 hj).1
    cases hput j v _ hj (Sb0 hjl) with
    |sc h=>exact h.one
    |nil z _ h=>rw[h];rfl
    | mv r m ver hm hr hv hd =>
     have:=hR.root hr
     simp only[dJ]at this
     rw[hv];exact this.one
    |hole r k m q hm hl hq hrp hn hd=>exact hrp.one
    |fz _ h=>exact h.one)
  simp only[Instr.storeAt,Instr.sureAddr,Sem.run_bind,hp5,Sem.run_pure,Result.andThen_ok,add_plain hspot,this,hvs]
 generalize hm':min m0 (q.length+1+pu.depth)=m'
 generalize hw':w.setCells c'.block (c'.off+(iv.toNat*sz+off)) vs=w' at hrun
 have hheap:∀ b,b≠c'.block->w'.heap[b]?=w.heap[b]?:=fun b hb=>by rw[<- hw'];exact eD _ _ _ _ _ hb
 refine Xa5 hrun ⟨{ G with own:=fun b=>rY (oU pu r m' pv (iv.toNat*sz)) (G.own b) },?_⟩
 rw[hdst]
 have hfF:∀ s,s∈pu.frz->∀ p,oU pu r m' pv (iv.toNat*sz) s p=.frz:=fun s hs p=>by
  unfold oU
  rw[rC.2 hs,cond_true]
 have hrm:r∉pu.moves.map (·.2.1):=by
  intro hh
  obtain⟨z,hz,e⟩:=List.mem_map.1 hh
  have:=hmr z hz
  simp[e]at this
 have hrF:∀ p,oU pu r m' pv (iv.toNat*sz) r p=Ca1 r m' p:=fun p=>by
  unfold oU
  rw[hfr,cond_false,Mac hrm]
  simp
 have hmF:∀ z∈pu.moves,∀ p,oU pu r m' pv (iv.toNat*sz) z.2.1 p=Ca1 r m' ((pv++[iv.toNat*sz+z.1])++p):=fun z hz p=>by
  unfold oU
  have:has pu.frz z.2.1=false:=by
   have:=hmf z hz
   simpa using this
  rw[this,cond_false,zL hdis z hz]
 have hzz:∀ b,G.own b=.frz->b<w.heap.size->rY (oU pu r m' pv (iv.toNat*sz)) (G.own b)=.frz/\w'.heap[b]?=w.heap[b]?:=fun b hb hlt=>by
  refine⟨by rw[hb];rfl,hheap b fun e=>?_⟩
  rw[e,hob]at hb
  cases hb
 have hne:∀ b s p,G.own b=.slc s p->s≠r->b≠c'.block:=fun b s p hb hs e=>by
  rw[e,hob]at hb
  injection hb with e1 e2
  exact hs e1.symm
 have hfrr:∀ s∈pu.frz,s≠r:=fun s hs e=>by
  have:=Da9.1 hfr
  exact this (e▸hs)
 have hmvr:∀ z∈pu.moves,z.2.1≠r:=fun z hz e=>hrm (e▸Ubt (f:=fun x:Nat×Nat×Nat=>x.2.1) hz)
 have hmem:∀ {s:Nat} {c:aW},(kR s,c)∈(kR r,aW.root (Qae (nv+1) X q (.v nv)).2 m' (ver+1) .live)::(pu.moves.map fun z=>(kR z.2.1,aW.root (.c .hole) 0 0 .gone))++fr ->
   (s=r/\c=.root (Qae (nv+1) X q (.v nv)).2 m' (ver+1) .live)\/(∃ z∈pu.moves,s=z.2.1/\c=.root (.c .hole) 0 0 .gone) \/
   (s∈pu.frz/\∃ x m v,c=.root x m v .frozen/\σ (kR s)=some (.root x m v .live)):=by
  intro s c hc
  rcases List.mem_append.1 hc with hc|hc
  ·rcases List.mem_cons.1 hc with hc|hc
   ·obtain⟨e1,e2⟩:=Prod.mk.inj hc
    exact .inl ⟨iB e1,e2⟩
   ·obtain⟨z,hz,e⟩:=List.mem_map.1 hc
    obtain⟨e1,e2⟩:=Prod.mk.inj e
    exact .inr (.inl ⟨z,hz,(iB e1).symm,e2.symm⟩)
  ·obtain⟨s',hs',x',m'',v',e1,e2,e3⟩:=hfz2 _ _ hc
   obtain rfl:=iB e1
   exact .inr (.inr ⟨hs',x',m'',v',e2,e3⟩)
 have hdu:fU o none .dead=[]:=by unfold fU;rw[hdst]
 have hfin:=hR.own (o:=o) (g:=none) (fun d e=>by rw[hdst]at e;cases e) (sv:=.dead) (v:=undef) (w':=w')
  (G':={ G with own:=fun b=>rY (oU pu r m' pv (iv.toNat*sz)) (G.own b) }) (wr:=fun b=>b=c'.block)
  (ur:=(kR r,aW.root (Qae (nv+1) X q (.v nv)).2 m' (ver+1) .live)::(pu.moves.map fun z=>(kR z.2.1,aW.root (.c .hole) 0 0 .gone))++fr)
  (f:=oU pu r m' pv (iv.toNat*sz)) ?_ (fun b _=>rfl) ?_ ?_ ?_ (fun b _ hb=>hheap b hb) ?_ ?_ ?_ ?_ (fun _ _=>rfl) rfl (fun _ _=>trivial) ?_
 ·rw[hdu,Tb2,hdst]at hfin
  exact hfin
 ·intro k c hc
  rcases List.mem_append.1 hc with hc|hc
  ·rcases List.mem_cons.1 hc with hc|hc
   ·exact⟨r,(Prod.mk.inj hc).1⟩
   ·obtain⟨z,hz,e⟩:=List.mem_map.1 hc
    exact⟨z.2.1,(Prod.mk.inj e).1.symm⟩
  ·obtain⟨s',-,-,-,-,e1,-⟩:=hfz2 _ _ hc
   exact⟨s',e1⟩
 ·intro b hb
  rw[<- hw',setCells_size]at hb
  show rY _ (G.own b)=.frz
  rw[hR.frame.fresh b hb];rfl
 ·obtain⟨j1,j2,j3⟩:=kQ c'.block vs (c'.off+(iv.toNat*sz+off)) w
  rw[<- hw']
  exact⟨j1,j2,j3,by rw[setCells_size];exact Sb7 _⟩
 ·intro b hb
  refine .inl ?_
  show rY _ (G.own b)=.frz
  rw[hR.frame.fresh b hb];rfl
 ·rintro b rfl
  exact⟨r,pv,hob,_,Sbz _ Tbe⟩
 ·intro b s p hb hnot
  unfold oU
  have h1:has pu.frz s=false:=by
   rw[Da9]
   intro hs
   rcases hfz1 s hs with ⟨x',m'',v',-,h8⟩|⟨x',m'',v',h8⟩
   ·exact hnot _ (Sb2 _ h8)
   ·exact (hR.root h8).2 b p hb
  have h2:s∉pu.moves.map (·.2.1):=by
   intro hh
   obtain⟨z,hz,e⟩:=List.mem_map.1 hh
   refine hnot (.root (.c .hole) 0 0 .gone) (Sbz _ (Tba _ (List.mem_map.2 ⟨z,hz,?_⟩)))
   rw[e]
  have h3:s≠r:=fun e=>hnot (.root (Qae (nv+1) X q (.v nv)).2 m' (ver+1) .live) (Sbz _ (by rw[e];exact Tbe))
  rw[h1,cond_false,Mac h2]
  simp[h3]
 ·intro s c hc _
  rcases hmem hc with ⟨rfl,rfl⟩|⟨z,hz,rfl,rfl⟩|⟨hs,x',m'',v',rfl,h8⟩
  ·exact .inr (.inl ⟨_,_,_,_,_,hk,rfl⟩)
  ·exact .inr (.inr (.inl ⟨_,_,_,_,rfl,by simp,by simp⟩))
  ·refine .inr (.inr (.inr ⟨x',m'',v',h8,rfl,fun b p hb=>⟨?_,hheap b (hne b s p hb (hfrr s hs))⟩⟩))
   show rY _ (G.own b)=.frz
   rw[hb]
   exact hfF s hs p
 ·intro r0 x0 m1 k0 hfz s p q' hF
  unfold oU at hF
  cases hh:has pu.frz s with
  |true=>rw[hh,cond_true]at hF;cases hF
  | false =>
   rw[hh,cond_false]at hF
   have hr0:r0≠r:=by
    rintro rfl
    rw[hk]at hfz
    injection hfz with e;injection e with _ _ _ e;cases e
   split at hF
   ·unfold Ca1 at hF
    split at hF
    ·injection hF with j1 j2;exact absurd j1.symm hr0
    ·cases hF
   ·split at hF
    ·unfold Ca1 at hF
     split at hF
     ·injection hF with j1 j2;exact absurd j1.symm hr0
     ·cases hF
    ·injection hF with j1 j2;exact⟨j1,j2⟩
 ·intro hfr' s c hc _
  rcases hmem hc with ⟨rfl,rfl⟩|⟨z,hz,rfl,rfl⟩|⟨hs,x',m'',v',rfl,h8⟩
  ·refine⟨_,_,_,_,rfl,?_⟩
   simp only[dJ]
   obtain⟨m1,hm1⟩:∃ m1,m'-q.length=m1+1:=⟨m'-q.length-1,by omega⟩
   have hrowNew:∀ i' row',(rs.set iv.toNat (row.take off++pu.xs.map (·.val ρ)++row.drop (off+ti.size)))[i']?=some row'->∀ j' d,row'[j']?=some d ->
     (i'=iv.toNat/\off<=j'/\j'<off+ls.length/\∃ x,pu.xs[j'-off]?=some x/\d=x.val ρ)\/(∃ row0,rs[i']?=some row0/\row0[j']?=some d/\¬ (i'=iv.toNat/\off<=j'/\j'<off+ls.length)):=by
    intro i' row' hi' j' d hj'
    have hsr:row.take off++pu.xs.map (·.val ρ)++row.drop (off+ti.size)=setRange row off (pu.xs.map (·.val ρ)):=by
     unfold setRange
     rw[Sb5,e6]
    rw[hsr,Ub5]at hi'
    by_cases hii:iv.toNat=i'
    ·subst hii
     rw[if_pos rfl,if_pos (List.getElem?_eq_some_iff.1 e4).1]at hi'
     obtain rfl:=Option.some.inj hi'
     rw[kK (by rw[Sb5];omega),Sb5]at hj'
     split at hj'
     ·rename_i hin
      rw[Tbo,Tbd]at hj'
      obtain⟨x,hx1,hx2⟩:=hj'
      exact .inl ⟨rfl,hin.1,by omega,x,hx1,hx2.symm⟩
     ·rename_i hout
      exact .inr ⟨row,e4,hj',fun e=>hout ⟨e.2.1,by omega⟩⟩
    ·rw[if_neg hii]at hi'
     exact .inr ⟨row',hi',hj',fun e=>hii e.1.symm⟩
   have hnew:Rp (fun b=>rY (oU pu s m' pv (iv.toNat*sz)) (G.own b)) w' s pv (m'-q.length) (.slice (some c') n' cap') ((aO.v nv).val ρ):=by
    rw[hd2,e7,hm1]
    refine .sl _ c' n' cap' sz _ (fun i' j'=>if i'=iv.toNat/\off<=j'/\j'<off+ls.length then vs.getD (j'-off) undef else vs0 i' j') (by simpa using i2) i3 (.inl rfl) (fun row' hr=>?_) (fun _=>⟨hspot,?_,fun k hk=>?_⟩) (fun i' row' hi' j' d hj'=>?_) (fun i' row' hi' j' d hj'=>?_)
    ·rcases Vb4 hr with hr|rfl
     ·exact i5 _ hr
     ·simp;omega
    ·show rY _ (G.own c'.block)=_
     rw[hob]
     show oU pu s m' pv (iv.toNat*sz) s pv=_
     rw[hrF,Ca1,if_pos (by omega)]
    ·obtain⟨u0,hu0,hf0⟩:=hcells k hk
     rw[<- hw',World.frozen?_setCells]
     obtain⟨u',hu'⟩:=nD (B:=c'.block) (o:=c'.off+(iv.toNat*sz+off)) (vs:=vs) (b:=c'.add k) (fun _=>by rw[add_plain hspot]) (fun j hj=>by obtain⟨u1,h9,-⟩:=hcell0 j hj;rw[h9];rfl) hu0
     exact⟨u',hu',hf0⟩
    ·rcases hrowNew i' row' hi' j' d hj' with ⟨rfl,h9,h10,x0,h11,h12⟩|⟨row0,h9,h10,h11⟩
     ·rw[if_pos ⟨rfl,h9,h10⟩,<- hw',add_plain hspot]
      have:=World.cell?_setCells_in c'.block vs (c'.off+(iv.toNat*sz+off)) w (fun j hj=>by obtain⟨u1,h9,-⟩:=hcell0 j hj;rw[h9];rfl) (j'-off) (by omega)
      rw[show c'.off+(iv.toNat*sz+off)+(j'-off)=c'.off+(iv.toNat*sz+j') by omega]at this
      rw[this,Sb4,Sb0 (by omega)]
      rfl
     ·rw[if_neg h11,<- hw',World.cell?_setCells_out _ _ _ _ _ (fun _ _=>?_)]
      ·exact i7 _ _ h9 _ _ h10
      ·rw[add_plain hspot]
       dsimp only
       have hj'l:j'<sz:=by
        have:=(List.getElem?_eq_some_iff.1 h10).1
        rw[i5 row0 (Tbg h9)]at this
        exact this
       by_cases hii:i'=iv.toNat
       ·subst hii
        have:¬ (off<=j'/\j'<off+ls.length):=fun e=>h11 ⟨rfl,e⟩
        omega
       ·rcases Nat.lt_or_gt_of_ne hii with hlt|hgt
        ·refine .inl ?_
         have:=Ubl sz (show i'+1<=iv.toNat by omega)
         rw[Ubm]at this
         omega
        ·refine .inr ?_
         have:=Ubl sz (show iv.toNat+1<=i' by omega)
         rw[Ubm]at this
         omega
    ·rcases hrowNew i' row' hi' j' d hj' with ⟨rfl,h9,h10,x0,h11,h12⟩|⟨row0,h9,h10,h11⟩
     ·rw[if_pos ⟨rfl,h9,h10⟩,h12]
      have hv:vs[j'-off]?=some (vs.getD (j'-off) undef):=by
       rw[Sb4,Sb0 (by omega)];rfl
      have hpok:=hput (j'-off) _ _ hv h11
      rw[show off+(j'-off)=j' by omega]at hpok
      refine hpok.rp hR (by omega) hzz (fun s' m2 hm2 b t hb=>⟨?_,hheap b (hne b s' t hb (hmvr _ hm2))⟩) (fun s' q' hq'=>by rw[hho]at hq';simp at hq') (fun s' hs' b p hb=>⟨?_,hheap b (hne b s' p hb (hfrr s' hs'))⟩)
      ·show rY _ (G.own b)=_
       rw[hb]
       show oU pu s m' pv (iv.toNat*sz) s' t=_
       rw[hmF (j',s',m2) hm2,Ca1]
       simp only[Sby,Ubi]
       by_cases ht:t.length<m1
       ·rw[if_pos ht,if_pos (by omega)]
       ·rw[if_neg ht,if_neg (by omega)]
      ·show rY _ (G.own b)=_
       rw[hb]
       exact hfF s' hs' p
     ·rw[if_neg h11]
      refine (i8 _ _ h9 _ _ h10).move hzz _ m1 (by omega) fun b t hb=>⟨?_,hheap b fun e=>?_⟩
      ·show rY _ (G.own b)=_
       rw[hb]
       show oU pu s m' pv (iv.toNat*sz) s _=_
       rw[hrF,Ca1]
       simp only[Sby,Ubi]
       by_cases ht:t.length<m1
       ·rw[if_pos ht,if_pos (by omega)]
       ·rw[if_neg ht,if_neg (by omega)]
      ·rw[e,hob]at hb
       injection hb with _ e2
       have:=congrArg List.length e2
       simp at this
   have:=Rp.upd (own':=fun b=>rY (oU pu s m' pv (iv.toNat*sz)) (G.own b)) (w':=w') (r:=s) (M':=m') (full:=pv) hzz (fun b t hb ht=>⟨?_,hheap b fun e=>?_⟩) (by omega) (by rw[hpvl];exact hnew) pv [] m0 (G.hdr s) _ _ rfl (by omega) (by simpa using hroot) hnest hupd
   ·simpa using this
   ·show rY _ (G.own b)=_
    rw[hb]
    exact hrF t
   ·rw[e,hob]at hb
    injection hb with _ e2
    exact ht (e2▸List.prefix_rfl)
  ·exact⟨_,_,_,_,rfl,trivial⟩
  ·refine⟨x',m'',v',.frozen,rfl,?_,fun b p hb=>?_⟩
   ·have:=hR.root h8
    simp only[dJ]at this
    refine this.rd.mono' fun b hb hlt=>?_
    rcases hb with hb|⟨p,hb⟩
    ·exact hzz b hb hlt
    ·refine⟨?_,hheap b (hne b s p hb (hfrr s hs))⟩
     show rY _ (G.own b)=_
     rw[hb]
     exact hfF s hs p
   ·have hb':rY (oU pu r m' pv (iv.toNat*sz)) (G.own b)=.slc s p:=hb
    cases e:G.own b with
    | slc s' p' =>
     rw[e]at hb'
     have hb'':oU pu r m' pv (iv.toNat*sz) s' p'=.slc s p:=hb'
     by_cases hs':s'∈pu.frz
     ·rw[hfF s' hs']at hb'';cases hb''
     ·unfold oU at hb''
      rw[Da9.2 hs',cond_false]at hb''
      have hsr:=hfrr s hs
      split at hb''
      ·unfold Ca1 at hb''
       split at hb''
       ·injection hb'' with j1 j2;exact hsr j1.symm
       ·cases hb''
      ·split at hb''
       ·unfold Ca1 at hb''
        split at hb''
        ·injection hb'' with j1 j2;exact hsr j1.symm
        ·cases hb''
       ·injection hb'' with j1 j2;exact hs' (j1▸hs)
    |_=>rw[e]at hb';cases hb'
end
end Go.Proofs.YtpgnlmfmlffjcaaGreat.Rf

namespace Go.Proofs.YtpgnlmfmlffjcaaGreat.Rf
set_option linter.unusedVariables false
set_option linter.unusedSimpArgs false
theorem vI:∀ (sz n:Nat) (l:List D),l.length=n*sz->∀ i row,(chunk sz n l)[i]?=some row->i<n/\row.length=sz/\∀ j d,row[j]?=some d->l[i*sz+j]?=some d
 |sz,0,l,_,i,row,h=>by simp[chunk]at h
 | sz, n + 1, l, hl, i, row, h => by
  simp only[chunk]at h
  rw[Ubm,Nat.one_mul]at hl
  cases i with
  | zero =>
   simp only[Sb8,Option.some.injEq]at h
   subst h
   refine⟨by omega,by simp;omega,fun j d hj=>?_⟩
   rw[Ubg]at hj
   split at hj
   ·simpa using hj
   ·cases hj
  | succ i =>
   simp only[Tb9]at h
   obtain⟨h1,h2,h3⟩:=vI sz n (l.drop sz) (by simp;omega) i row h
   refine⟨by omega,h2,fun j d hj=>?_⟩
   have:=h3 j d hj
   rw[Tb5]at this
   rw[<- this]
   congr 1
   rw[Ubm];omega
theorem Maz:∀ (sz n:Nat) (l:List D),(chunk sz n l).length=n
 |_,0,_=>rfl
 |sz,n+1,l=>by simp[chunk,Maz sz n]
theorem Ja6 {α:Type}(l:List α):∀ n,(Hbh l n).length=n*l.length
 |0=>by simp[Hbh]
 |n+1=>by rw[Hbh,Sby,Ja6 l n,Ubm];omega
theorem Abn {α:Type}(l:List α)(h:0<l.length):∀ n j,j<n*l.length->(Hbh l n)[j]?=l[j % l.length]?
 |0,j,hj=>by simp at hj
 | n + 1, j, hj => by
  rw[Hbh]
  by_cases h1:j<l.length
  ·rw[Tbj h1,Nat.mod_eq_of_lt h1]
  ·rw[Tbf (by omega),Abn l h n (j-l.length) (by rw[Ubm]at hj;omega)]
   congr 1
   rw[Nat.mod_eq_sub_mod (by omega:j ≥ l.length)]
section
variable {P:Program} {E:Env} {F:cB} {n:Nat} {σ:Nat->Option aW} {ρ:List D} {a:Act} {w w':World} {G G':Gh} {g:Option (aO×Bool)} {o:Oper} {cf:Nat->List D->Option (List D)} {Q:Exit->Act->World->Prop} {next:Act->World->Prop}
theorem Jae {ti:TI}{len:Nat}{place:Nat->Option (Nat×Nat)}(hpl:∀ i,i<len->place i=some (i*ti.size,ti.size)) :
  ∀ {xs:List (Nat×Operand)} {ps:List (Nat×SV)},Kah σ ρ G w a xs ps->∀ {ls ls':List aZ} {us:Array Value},ls.length=len*ti.size->aK σ ρ G w ls us.toList->Gau ti len ls ps=some ls' ->
  ∃ us',Instr.fill place us (xs.map fun x=>(x.1,a.eval x.2))=some us'/\aK σ ρ G w ls' us'.toList/\ls'.length=len*ti.size
 | [], _, rfl, ls, ls', us, hn, hl, h => by
  simp only[Gau,Option.some.injEq]at h
  subst h
  exact⟨us,rfl,hl,hn⟩
 | (i, x) :: xs, _, ⟨sv, ps, rfl, h1, hr⟩, ls, ls', us, hn, hl, h => by
  unfold Gau at h
  split at h
  ·rename_i vs hvs
   cases hb:(Nat.beq vs.length ti.size&&Nat.blt i len) with
   |false=>rw[hb]at h;cases h
   | true =>
    rw[hb,cond_true]at h
    simp only[Sbu,Tbv,Nat.blt_eq]at hb
    have h2:=kL hvs h1
    have hlen:=hl.len
    have hle:i*ti.size+ti.size<=ls.length:=by
     have:=Ubl ti.size (show i+1<=len by omega)
     rw[Ubm,Nat.one_mul]at this
     omega
    obtain⟨us1,h3,h4⟩:=Ua6 (rest:=xs.map fun x=>(x.1,a.eval x.2)) (hpl i hb.2) (by rw[h2.len];exact hb.1) (by rw[<- Vbo,hlen];exact hle)
    obtain⟨us',h5,h6,h7⟩:=Jae hpl hr (us:=us1) (ls:=setRange ls (i*ti.size) vs) (by rw[oW (by rw[hb.1];exact hle)];exact hn) (by rw[h4];exact hl.setRange h2 (by rw[hb.1];exact hle)) h
    exact⟨us',by rw[Tbn,h3];exact h5,h6,h7⟩
  ·cases h
def mkF (pu:Put)(nr m':Nat)(s:Nat)(p:List Nat):Ow :=
 bif has pu.frz s then .frz else match pu.moves.find? (fun y=>Nat.beq y.2.1 s) with
  |some z=>Ca1 nr m' ([z.1]++p)
  |none=>.slc s p
theorem Lbk (z:Array Value)(hz:0<z.size)(N j:Nat)(hj:j<N):((Array.range N).map (fun i=>z[i % z.size]!))[j]?=z[j % z.size]?:=by
 rw[Array.getElem?_map,Array.getElem?_range]
 rw[if_pos hj]
 simp only[Ubd]
 have hlt:j % z.size<z.size:=Nat.mod_lt _ hz
 rw[getElem!_pos z (j % z.size) hlt,Tb3 hlt]
theorem Va3 {t:TypeId}{i:TI}{info:TypeInfo}{u:TypeDesc}(f:dW P t i info u)(hs:0<i.size){z:Value}(hz:aK σ ρ G w (i.cells.map iW) z.cells.toList)(len:Nat) :
  aK σ ρ G w (Hbh (i.cells.map iW) len) ((Array.range (len*i.size)).map (fun j=>z.cells[j % z.cells.size]!)).toList:=by
 have hcl:(i.cells.map iW).length=i.size:=by rw[Sb5,f.len]
 have hzl:z.cells.size=i.size:=by rw[<- Vbo,hz.len,hcl]
 refine .of_get (by rw[Ja6,hcl];simp) fun j l v hj hv=>?_
 have hlt:j<len*i.size:=by
  have:=(List.getElem?_eq_some_iff.1 hj).1
  rwa[Ja6,hcl]at this
 rw[Abn _ (by omega) _ _ (by rw[hcl];exact hlt),hcl]at hj
 rw[Ubj,Lbk _ (by omega) _ _ hlt,hzl]at hv
 obtain⟨v',h1,h2⟩:=hz.get hj
 rw[Ubj,hv]at h1
 exact Option.some.inj h1▸h2
theorem Aad (hR:R E.ntmps F σ ρ a w G)(hd:iJ E.ntmps o)(hti:Aaj P E.ti){nv nb nr:Nat}{mv mvs:Bool}(hf:σ (kR nr)=none){t:TypeId}{len:Nat}{parts:Array (Nat×Operand)}(ho:o.op=.buildSlice t len parts){res:dG}
  (h:(vT E mv mvs nv nb nr g o).eval σ=some res) (hst:aR cf ρ g nv res.lets):jR P E F σ ρ a w g o Q res.upd:=by
 simp only[vT,ho,aC,Sbt,tiR,bF,aP]at h
 obtain⟨st,h1,e,h2,ti,h3,ps,h4,_,h5,h⟩:=h
 split at h5
 case isFalse=>cases h5
 rename_i hb5
 simp only[Sbu,Ubf,Nat.blt_eq]at hb5
 obtain⟨⟨hsz1,hsz0⟩,hby⟩:=hb5
 obtain⟨info,u,f⟩:=bG (hti.ok _ _ h1)
 obtain rfl:=wF f h2
 obtain⟨info',u',f'⟩:=bG (hti.ok _ _ h3)
 split at h
 case h_2=>cases h
 rename_i ls hls
 simp only[aC,Sbt,aP]at h
 obtain⟨pu,h6,_,h7,fr,h8,_,h9,h⟩:=h
 split at h7
 case isFalse=>cases h7
 rename_i hb7
 split at h9
 case isFalse=>cases h9
 rename_i hb9
 simp only[Sbu,Tbm,Vbw,Wbf]at hb9
 obtain⟨⟨hdis,hmf⟩,hho⟩:=hb9
 obtain⟨hfz1,hfz2⟩:=jM h8
 have main:gOn ρ g=true->∃ us':Array Value,(execOp a.eval o).run P w=.ok (.value (.slice (some ⟨w.heap.size,0,none⟩) len len)) (pushB w us' e)/\aK σ ρ G w ls us'.toList/\ls.length=len*ti.size:=by
  intro hg
  obtain⟨z,hz1,hz2,-,-⟩:=f'.zeros (σ:=σ) (ρ:=ρ) (G:=G) (w:=w)
  have hz3:=Va3 f' hsz0 hz2 len
  have hcl:(ti.cells.map iW).length=ti.size:=by rw[Sb5,f'.len]
  obtain⟨us',hfl,hl,hll⟩:=Jae (place:=fun i=>some (i*ti.size,ti.size)) (fun i _=>rfl) (Da0 hR hg h4) (ls:=Hbh (ti.cells.map iW) len) (by rw[Ja6,hcl]) hz3 hls
  refine⟨us',?_,hl,hll⟩
  ·unfold execOp
   simp only[ho]
   refine iZ ?_
   unfold Instr.buildSlice
   simp only[Sem.run_bind,run_underlying f.und,Result.andThen_ok,f'.sizeOf]
   have hle:¬ len*ti.size>2 ^ 24:=by
    have:(2:Nat) ^ 24=16777216:=by decide
    omega
   rw[if_neg hle]
   have e1:(parts.map fun x=>(x.1,a.eval x.2)).toList=parts.toList.map fun x=>(x.1,a.eval x.2):=by simp
   by_cases h0:len*ti.size=0
   ·have hus:Instr.fill (fun i=>some (i*ti.size,ti.size)) ((Array.range (len*ti.size)).map (fun j=>(#[]:Array Value)[j % (#[]:Array Value).size]!)) (parts.map fun x=>(x.1,a.eval x.2)).toList=some us':=by
     rw[e1,<- hfl]
     congr 1
     rw[h0]
     simp
    simp only[Sem.run_bind,Sem.run_pure,Result.andThen_ok,h0,if_true]at hus ⊢
    rw[hus]
    simp[newRow,pushB]
   ·simp only[Sem.run_bind,if_neg h0,pU f'.info_ hz1,Result.andThen_ok,Sem.run_pure]
    rw[e1,hfl]
    simp[newRow,pushB]
 have hone:∀ us':Array Value,aK σ ρ G w ls us'.toList->pu.xs.length=ls.length/\(∀ j v x,us'.toList[j]?=some v->pu.xs[j]?=some x->Naa σ ρ G w pu (0+j) v x):=fun us' hl=>by
  obtain⟨h1,h2,-⟩:=yY hR h6 hl
  exact⟨h1,h2⟩
 cases hgg:noG g with
 | false =>
  rw[hgg,cond_false]at h
  rw[hgg,Bool.false_or]at hb7
  simp only[Sbu,Wbf]at hb7
  obtain⟨⟨hm0,-⟩,hf0⟩:=hb7
  simp only[zA,aH,Option.some.injEq]at h
  subst h
  simp only[Jak,Tbb]
  refine⟨fun hg=>?_,fun hg=>Ob9 hR hd hg⟩
  obtain⟨us',hrun,hl,hll⟩:=main hg
  obtain⟨hpl,hput⟩:=hone us' hl
  obtain⟨d,hd1,hd2⟩:=jD hst hg
  refine tK hrun ⟨G,?_⟩
  have hfin:=hR.own hd (g:=g) (sv:=.one (.sn [] .no false (.v nv))) (v:=.slice (some ⟨w.heap.size,0,none⟩) len len) (w':=pushB w us' e) (G':=G) (ur:=[]) (f:=fun s p=>.slc s p) (wr:=fun _=>False)
   (by simp) (fun b _=>by cases hb:G.own b<;>rfl) (fun b hb=>hR.frame.fresh b (by rw[oZ]at hb;omega)) ⟨rfl,rfl,rfl,by rw[oZ];omega⟩ (fun b hb=>.inl (hR.frame.fresh b hb))
   (fun b hlt _=>pV (by omega)) (fun _ h=>h.elim) (fun _ _ _ _ _=>rfl) (by simp) (fun _ _ _ _ _ s p q h=>by injection h with h1 h2;exact⟨h1,h2⟩) (fun _ _=>rfl) rfl (fun hfr _=>?_) (by simp)
  ·rw[Tbb]at hfin
   exact hfin
  ·simp only[eB,aD]
   refine⟨⟨rfl,by simp⟩,fun _=>⟨?_,by simp,trivial⟩⟩
   simp only[aN.run]at hd1
   split at hd1
   case isFalse=>cases hd1
   rename_i hxl
   simp only[Option.some.injEq,List.cons.injEq,and_true]at hd1
   rw[hd2,<- hd1]
   refine .rows _ ⟨w.heap.size,0,none⟩ len len ti.size _ (fun i j=>us'.toList.getD (i*ti.size+j) undef) (Maz _ _ _) (Sb7 _) (.inr rfl) (fun row hr=>?_) (fun i row hi j d hj=>?_) (fun i row hi j d hj=>?_)
   ·obtain⟨i,hi⟩:=List.mem_iff_getElem?.1 hr
    exact (vI _ _ _ hxl i row hi).2.1
   ·obtain⟨h10,h11,h12⟩:=vI _ _ _ hxl i row hi
    have h13:=(List.getElem?_eq_some_iff.1 (h12 j d hj)).1
    refine⟨.inl (hR.frame.fresh _ (Sb7 _)),?_⟩
    rw[uD]
    have h14:i*ti.size+j<us'.toList.length:=by rw[hl.len,<- hpl];simpa using h13
    rw[Sb4,Sb0 h14,<- Ubj,Sb0 h14]
    rfl
   ·obtain⟨h10,h11,h12⟩:=vI _ _ _ hxl i row hi
    have h13:=h12 j d hj
    rw[Tbo,Tbd]at h13
    obtain⟨x,hx1,rfl⟩:=h13
    have h14:i*ti.size+j<us'.toList.length:=by rw[hl.len,<- hpl];exact (List.getElem?_eq_some_iff.1 hx1).1
    have hv:us'.toList[i*ti.size+j]?=some (us'.toList.getD (i*ti.size+j) undef):=by
     rw[Sb4,Sb0 h14];rfl
    cases hput _ _ _ hv hx1 with
    |sc h=>exact .sc h
    |nil z hx hv=>rw[hx,hv];exact Rd.nil
    |mv r m ver hm hr hv hd'=>rw[hm0]at hm;simp at hm
    |hole r k m q hm hl hq hrp hn hd'=>rw[hho]at hm;simp at hm
    | fz hd' h =>
     refine h.mono' fun b hb hlt=>?_
     rcases hb with hb|⟨r,p,h1,-⟩
     ·exact⟨.inl hb,pV (by omega)⟩
     ·rw[hf0]at h1;simp at h1
 | true =>
  obtain rfl:=Baa hgg
  rw[hgg,cond_true]at h
  simp only[zA,aH,Option.some.injEq]at h
  subst h
  simp only[Jak]
  refine⟨fun hg=>?_,fun hg=>by simp[gOn]at hg⟩
  obtain⟨us',hrun,hl,hll⟩:=main hg
  obtain⟨hpl,hput⟩:=hone us' hl
  obtain⟨d,hd1,hd2⟩:=jD hst hg
  generalize hM:min big (pu.depth+1)=M
  obtain⟨m1,rfl⟩:∃ m1,M=m1+1:=⟨M-1,by rw[<- hM];unfold big;omega⟩
  have hN:w.heap.size=w.heap.size:=rfl
  have hdr:∀ r,(σ (kR r)).isSome->r≠nr:=fun r hr e=>by
   rw[e,hf]at hr;cases hr
  refine tK hrun ⟨{ G with own:=fun b=>if b=w.heap.size then .slc nr [] else rY (mkF pu nr (m1+1)) (G.own b),hdr:=fun r=>if r=nr then .slice (some ⟨w.heap.size,0,none⟩) len len else G.hdr r },?_⟩
  have hfF:∀ s,s∈pu.frz->∀ p,mkF pu nr (m1+1) s p=.frz:=fun s hs p=>by
   unfold mkF
   rw[rC.2 hs,cond_true]
  have hmF:∀ z∈pu.moves,∀ p,mkF pu nr (m1+1) z.2.1 p=Ca1 nr (m1+1) ([z.1]++p):=fun z hz p=>by
   unfold mkF
   have:has pu.frz z.2.1=false:=by
    have:=hmf z hz
    simpa using this
   rw[this,cond_false,zL hdis z hz]
  have hslt:∀ b,G.own b≠.frz->b<w.heap.size:=fun b hb=>by
   rcases Tbi b w.heap.size with h|h
   ·exact h
   ·exact absurd (hR.frame.fresh b h) hb
  have hheap:∀ b,b≠w.heap.size->(pushB w us' e).heap[b]?=w.heap[b]?:=fun b hb=>pV hb
  have hmem:∀ {s:Nat} {c:aW},(kR s,c)∈(kR nr,aW.root (.v nv) (m1+1) 0 .live)::(pu.moves.map fun z=>(kR z.2.1,aW.root (.c .hole) 0 0 .gone))++fr ->
    (s=nr/\c=.root (.v nv) (m1+1) 0 .live)\/(∃ z∈pu.moves,s=z.2.1/\c=.root (.c .hole) 0 0 .gone) \/
    (s∈pu.frz/\∃ x m v,c=.root x m v .frozen/\σ (kR s)=some (.root x m v .live)):=by
   intro s c hc
   rcases List.mem_append.1 hc with hc|hc
   ·rcases List.mem_cons.1 hc with hc|hc
    ·obtain⟨e1,e2⟩:=Prod.mk.inj hc
     exact .inl ⟨iB e1,e2⟩
    ·obtain⟨z,hz,e⟩:=List.mem_map.1 hc
     obtain⟨e1,e2⟩:=Prod.mk.inj e
     exact .inr (.inl ⟨z,hz,(iB e1).symm,e2.symm⟩)
   ·obtain⟨s',hs',x',m'',v',e1,e2,e3⟩:=hfz2 _ _ hc
    obtain rfl:=iB e1
    exact .inr (.inr ⟨hs',x',m'',v',e2,e3⟩)
  have hnrσ:σ (kR nr)=none:=hf
  have hfzr:∀ s,s∈pu.frz->s≠nr:=fun s hs e=>by
   rcases hfz1 s hs with ⟨x',m'',v',h8,-⟩|⟨x',m'',v',h8⟩<;>rw[e,hnrσ]at h8<;>cases h8
  have hzz:∀ b,G.own b=.frz->b<w.heap.size->(if b=w.heap.size then Ow.slc nr [] else rY (mkF pu nr (m1+1)) (G.own b))=.frz/\(pushB w us' e).heap[b]?=w.heap[b]?:=fun b hb hlt=>by
   rw[if_neg (by omega),hb]
   exact⟨rfl,hheap b (by omega)⟩
  have hown':∀ b s p,G.own b=.slc s p->(if b=w.heap.size then Ow.slc nr [] else rY (mkF pu nr (m1+1)) (G.own b))=mkF pu nr (m1+1) s p/\(pushB w us' e).heap[b]?=w.heap[b]?:=fun b s p hb=>by
   have:=hslt b (by rw[hb];simp)
   rw[if_neg (by omega),hb]
   exact⟨rfl,hheap b (by omega)⟩
  refine hR.own hd (wr:=fun _=>False) (f:=mkF pu nr (m1+1)) ?_ ?_ ?_ ?_ ?_ (fun b hlt _=>hheap b (by omega)) (fun _ h=>h.elim) ?_ ?_ ?_ ?_ rfl ?_ ?_
  ·intro k c hc
   rcases List.mem_append.1 hc with hc|hc
   ·rcases List.mem_cons.1 hc with hc|hc
    ·exact⟨nr,(Prod.mk.inj hc).1⟩
    ·obtain⟨z,hz,e⟩:=List.mem_map.1 hc
     exact⟨z.2.1,(Prod.mk.inj e).1.symm⟩
   ·obtain⟨s',-,-,-,-,e1,-⟩:=hfz2 _ _ hc
    exact⟨s',e1⟩
  ·intro b hlt
   show (if b=w.heap.size then Ow.slc nr [] else _)=_
   rw[if_neg (by omega)]
  ·intro b hb
   rw[oZ]at hb
   show (if b=w.heap.size then Ow.slc nr [] else rY _ (G.own b))=.frz
   rw[if_neg (by omega),hR.frame.fresh b (by omega)];rfl
  ·exact⟨rfl,rfl,rfl,by rw[oZ];omega⟩
  ·intro b hb
   show (if b=w.heap.size then Ow.slc nr [] else rY _ (G.own b))=.frz\/∃ r p,(if b=w.heap.size then Ow.slc nr [] else rY _ (G.own b))=.slc r p/\_
   by_cases e:b=w.heap.size
   ·rw[if_pos e];exact .inr ⟨nr,[],rfl,hnrσ⟩
   ·rw[if_neg e,hR.frame.fresh b hb];exact .inl rfl
  ·intro b s p hb hnot
   unfold mkF
   have h1:has pu.frz s=false:=by
    rw[Da9]
    intro hs
    rcases hfz1 s hs with ⟨x',m'',v',-,h8⟩|⟨x',m'',v',h8⟩
    ·exact hnot _ (Sb2 _ h8)
    ·exact (hR.root h8).2 b p hb
   have h2:s∉pu.moves.map (·.2.1):=by
    intro hh
    obtain⟨z,hz,e⟩:=List.mem_map.1 hh
    refine hnot (.root (.c .hole) 0 0 .gone) (Sbz _ (Tba _ (List.mem_map.2 ⟨z,hz,?_⟩)))
    rw[e]
   rw[h1,cond_false,Mac h2]
  ·intro s c hc _
   rcases hmem hc with ⟨rfl,rfl⟩|⟨z,hz,rfl,rfl⟩|⟨hs,x',m'',v',rfl,h8⟩
   ·exact .inl ⟨hnrσ,_,_,_,_,rfl⟩
   ·exact .inr (.inr (.inl ⟨_,_,_,_,rfl,by simp,by simp⟩))
   ·refine .inr (.inr (.inr ⟨x',m'',v',h8,rfl,fun b p hb=>?_⟩))
    obtain⟨h10,h11⟩:=hown' b s p hb
    exact⟨h10.trans (hfF s hs p),h11⟩
  ·intro r0 x0 m0 k0 hfz s p q' hF
   unfold mkF at hF
   cases hh:has pu.frz s with
   |true=>rw[hh,cond_true]at hF;cases hF
   | false =>
    rw[hh,cond_false]at hF
    split at hF
    ·unfold Ca1 at hF
     split at hF
     ·injection hF with j1 j2
      exact absurd j1.symm (hdr r0 (by rw[hfz];rfl))
     ·cases hF
    ·injection hF with j1 j2;exact⟨j1,j2⟩
  ·intro r hr
   show (if r=nr then _ else _)=_
   rw[if_neg (hdr r hr)]
  ·intro _ _
   simp only[eB,aD]
   refine⟨by simp,gD _ _ _ (.inr ⟨_,Sb2 _ (Sbz _ Tbe)⟩),rfl⟩
  ·intro _ s c hc _
   rcases hmem hc with ⟨rfl,rfl⟩|⟨z,hz,rfl,rfl⟩|⟨hs,x',m'',v',rfl,h8⟩
   ·refine⟨_,_,_,_,rfl,?_⟩
    simp only[dJ,if_true]
    simp only[aN.run]at hd1
    split at hd1
    case isFalse=>cases hd1
    rename_i hxl
    simp only[Option.some.injEq,List.cons.injEq,and_true]at hd1
    rw[hd2,<- hd1]
    refine .sl _ ⟨w.heap.size,0,none⟩ len len ti.size _ (fun i j=>us'.toList.getD (i*ti.size+j) undef) (Maz _ _ _) (Sb7 _) (.inl rfl) (fun row hr=>?_) (fun _=>⟨rfl,by simp,fun k hk=>?_⟩) (fun i row hi j d hj=>?_) (fun i row hi j d hj=>?_)
    ·obtain⟨i,hi⟩:=List.mem_iff_getElem?.1 hr
     exact (vI _ _ _ hxl i row hi).2.1
    ·rw[uD,Aa5]
     have:k<us'.size:=by rw[<- Vbo,hl.len,hll];exact hk
     exact⟨us'[k],Tb3 this,rfl⟩
    ·obtain⟨h10,h11,h12⟩:=vI _ _ _ hxl i row hi
     have h13:=(List.getElem?_eq_some_iff.1 (h12 j d hj)).1
     rw[uD]
     have h14:i*ti.size+j<us'.toList.length:=by rw[hl.len,<- hpl];simpa using h13
     rw[Sb4,Sb0 h14,<- Ubj,Sb0 h14]
     rfl
    ·obtain⟨h10,h11,h12⟩:=vI _ _ _ hxl i row hi
     have h13:=h12 j d hj
     rw[Tbo,Tbd]at h13
     obtain⟨x,hx1,rfl⟩:=h13
     have h14:i*ti.size+j<us'.toList.length:=by rw[hl.len,<- hpl];exact (List.getElem?_eq_some_iff.1 hx1).1
     have hv:us'.toList[i*ti.size+j]?=some (us'.toList.getD (i*ti.size+j) undef):=by
      rw[Sb4,Sb0 h14];rfl
     have hpok:=hput _ _ _ hv hx1
     rw[Nat.zero_add]at hpok
     refine hpok.rp hR (by unfold big at hM;omega) hzz (fun s' m2 hm2 b t hb=>?_) (fun s' q' hq'=>by rw[hho]at hq';simp at hq') (fun s' hs' b p hb=>?_)
     ·obtain⟨h15,h16⟩:=hown' b s' t hb
      refine⟨h15.trans ?_,h16⟩
      rw[hmF _ hm2,Ca1]
      simp only[Sby,Ubi,Tb2]
      by_cases ht:t.length<m1
      ·rw[if_pos ht,if_pos (by omega)]
      ·rw[if_neg ht,if_neg (by omega)]
     ·obtain⟨h15,h16⟩:=hown' b s' p hb
      exact⟨h15.trans (hfF s' hs' p),h16⟩
   ·exact⟨_,_,_,_,rfl,trivial⟩
   ·refine⟨x',m'',v',.frozen,rfl,?_,fun b p hb=>?_⟩
    ·have:=hR.root h8
     simp only[dJ]at this ⊢
     rw[if_neg (hfzr s hs)]
     refine this.rd.mono' fun b hb hlt=>?_
     rcases hb with hb|⟨p,hb⟩
     ·exact hzz b hb hlt
     ·obtain⟨h15,h16⟩:=hown' b s p hb
      exact⟨h15.trans (hfF s hs p),h16⟩
    ·have hb':(if b=w.heap.size then Ow.slc nr [] else rY (mkF pu nr (m1+1)) (G.own b))=.slc s p:=hb
     split at hb'
     ·injection hb' with j1 _
      exact hfzr s hs j1.symm
     ·cases e:G.own b with
      | slc s' p' =>
       rw[e]at hb'
       have hb'':mkF pu nr (m1+1) s' p'=.slc s p:=hb'
       by_cases hs':s'∈pu.frz
       ·rw[hfF s' hs']at hb'';cases hb''
       ·unfold mkF at hb''
        rw[Da9.2 hs',cond_false]at hb''
        split at hb''
        ·unfold Ca1 at hb''
         split at hb''
         ·injection hb'' with j1 j2;exact hfzr s hs j1.symm
         ·cases hb''
        ·injection hb'' with j1 j2;exact hs' (j1▸hs)
      |_=>rw[e]at hb';cases hb'
end
end Go.Proofs.YtpgnlmfmlffjcaaGreat.Rf

namespace Go.Proofs.YtpgnlmfmlffjcaaGreat.Rf
set_option linter.unusedVariables false
set_option linter.unusedSimpArgs false
def qH (vs:Nat->Nat->Value)(n sz:Nat):List Value:=(List.range (n*sz)).map fun k=>vs (k / sz) (k % sz)
theorem uH (vs:Nat->Nat->Value)(n sz:Nat):(qH vs n sz).length=n*sz:=by simp[qH]
theorem Ca3 (vs:Nat->Nat->Value){n sz i j:Nat}(hi:i<n)(hj:j<sz):(qH vs n sz)[i*sz+j]?=some (vs i j):=by
 have hlt:i*sz+j<n*sz:=by
  have:=Ubl sz (show i+1<=n by omega)
  rw[Ubm]at this
  omega
 unfold qH
 rw[Tbo,Wbn hlt,Ubd]
 rw[Wbh i sz,Nat.mul_add_div (by omega),Wbj hj,Nat.mul_add_mod,Nat.mod_eq_of_lt hj,Tbs]
theorem Iao {vs:Nat->Nat->Value}{n sz k:Nat}{u:Value}(h:(qH vs n sz)[k]?=some u):k / sz<n/\k % sz<sz/\k=k / sz*sz+k % sz/\u=vs (k / sz) (k % sz):=by
 have hlt:k<n*sz:=by
  have:=(List.getElem?_eq_some_iff.1 h).1
  rwa[uH]at this
 have hsz:0<sz:=by
  rcases Nat.eq_zero_or_pos sz with e|e
  ·rw[e]at hlt;simp at hlt
  ·exact e
 refine⟨(Nat.div_lt_iff_lt_mul hsz).2 hlt,Nat.mod_lt _ hsz,?_,?_⟩
 ·rw[Wbh];exact (Nat.div_add_mod k sz).symm
 ·unfold qH at h
  rw[Tbo,Wbn hlt,Ubd]at h
  exact (Option.some.inj h).symm
section
variable {P:Program} {E:Env} {F:cB} {n:Nat} {σ:Nat->Option aW} {ρ:List D} {a:Act} {w w':World} {G G':Gh} {g:Option (aO×Bool)} {o:Oper} {cf:Nat->List D->Option (List D)} {Q:Exit->Act->World->Prop} {next:Act->World->Prop}
theorem Hap {rs:List (List D)}{sz:Nat}{b:Addr}{vs:Nat->Nat->Value}(hsz:∀ r∈rs,r.length=sz)
  (hcell:∀ i row,rs[i]?=some row->∀ j d,row[j]?=some d->w.cell? (b.add (i*sz+j))=some (vs i j)):∀ k u,(qH vs rs.length sz)[k]?=some u->w.cell? (b.add k)=some u:=by
 intro k u h
 obtain⟨h1,h2,h3,rfl⟩:=Iao h
 have hr:rs[k / sz]?=some rs[k / sz]:=Sb0 h1
 have hl:=hsz _ (Tbg hr)
 have hd:rs[k / sz][k % sz]?=some (rs[k / sz][k % sz]'(by omega)):=Sb0 (by omega)
 have:=hcell _ _ hr _ _ hd
 rwa[<- h3]at this
structure Qbt (w w1:World) (G:Gh) (A:Option Addr) (n n' cap sz:Nat) (olds news:List Value) (v:Value) (A':Option Addr) (cb:Addr) (cap':Nat) (grow:Bool):Prop where
 val:v=.slice A' (n+n') cap'
 aval:A'=some cb\/(A'=none/\cap'=0)
 le:n+n'<=cap'
 os:w1.os=w.os/\w1.tape=w.tape/\w1.output=w.output
 size:w1.heap.size=w.heap.size+(if grow=true then 1 else 0)
 heap:∀ b,b<w.heap.size->(grow=true\/A'=none\/b≠cb.block)->w1.heap[b]?=w.heap[b]?
 cell:∀ k u,(olds++news)[k]?=some u->w1.cell? (cb.add k)=some u
 all:∀ k,k<cap'*sz->∃ u,w1.cell? (cb.add k)=some u/\w1.frozen? (cb.add k)=false
 spot:cb.spot=none
 base:(grow=true/\A'=some cb/\cb.block=w.heap.size)\/(grow=false/\A'=some cb/\A=some cb)\/(grow=false/\A'=none)
theorem Pa3 {t tx e:TypeId}{ti:TI}{info:TypeInfo}{u u':TypeDesc}{x y:Operand}{args:Array Operand}{argTypes:Array TypeId}(ho:o.op=.call { callee:=.builtin .append,args,argTypes })
  (hargs:args.toList=[x,y]) (hat:argTypes=#[t,tx]) (hu:P.underlying t=some (.slice e)) (f:dW P e ti info u) (hx:P.underlying tx=some u') (hx':∃ e',u'=.slice e')
  {A:Option Addr} {n cap n':Nat} {b:Addr} {olds news:List Value} (hxv:a.eval x=.slice A n cap) (hnc:n<=cap) (hA:(A=some b/\b.spot=none)\/(A=none/\cap=0))
  (hol:olds.length=n*ti.size) (hocell:∀ k u,olds[k]?=some u->w.cell? (b.add k)=some u) (hall:A=some b->∀ k,k<cap*ti.size->∃ u,w.cell? (b.add k)=some u/\w.frozen? (b.add k)=false)
  {By:Option Addr} {by':Addr} {capy:Nat} (hyv:a.eval y=.slice By n' capy) (hBy:n'=0\/By=some by') (hnl:news.length=n'*ti.size) (hncell:∀ k u,news[k]?=some u->w.cell? (by'.add k)=some u) (hn1:∀ u∈news,u.oneCell'=true)
  (hb0:0<ti.bytes) (hs0:0<ti.size) (hfit:(n+n')*ti.bytes<=dF) :
  ∃ v w1 A' cb cap' grow,(execOp a.eval o).run P w=.ok (.value v) w1/\Qbt w w1 G A n n' cap ti.size olds news v A' cb cap' grow:=by
 obtain⟨e',rfl⟩:=hx'
 have hsrc:Src P ti.size tx (.slice By n' capy) n' news w:=by
  rcases hBy with rfl|rfl
  ·have:news=[]:=Ubh (by simpa using hnl)
   subst this
   cases By with
   |none=>exact Src.ofNil w hx capy
   |some b1=>exact Src.ofSlice w hx b1 0 capy [] (by simp) (by simp) (by simp)
  ·exact Src.ofSlice w hx by' n' capy news hnl hncell hn1
 have hop:∀ {v:Value} {w1:World},(Builtin.append_ #[t,tx] o.type #[.slice A n cap,.slice By n' capy]).run P w=.ok v w1->(execOp a.eval o).run P w=.ok (.value v) w1:=by
  intro v w1 h
  refine qW ho (s:=Builtin.append_ argTypes o.type (args.map a.eval)) (fun _=>rfl) ?_
  rw[Ibs hargs,Mb2,hxv,hyv,hat]
  exact h
 have hsz:info.size=ti.size:=f.size.symm
 have hby:info.bytes=ti.bytes:=f.bytes.symm
 by_cases hroom:n+n'<=cap
 ·rcases hA with ⟨rfl,hsp⟩|⟨rfl,h0⟩
  ·
   have hbb:b=⟨b.block,b.off,none⟩:=by cases b;simp only at hsp;subst hsp;rfl
   have hcells:∀ j,j<news.length->∃ u,w.cell? ⟨b.block,b.off+n*ti.size+j,none⟩=some u/\w.frozen? ⟨b.block,b.off+n*ti.size+j,none⟩=false:=fun j hj=>by
    have:=hall rfl (n*ti.size+j) (by
     have:=Ubl ti.size hroom
     rw[Ubm]at this
     omega)
    rw[add_plain hsp,<- Tbl]at this
    exact this
   have hrun:=run_append_room_src (P:=P) w t tx o.type e info hu f.info_ b.block b.off n cap (.slice By n' capy) n' news (by rw[hsz];exact hsrc) hroom
    (fun j hj=>by rw[hsz];obtain⟨u,h1,-⟩:=hcells j hj;rw[h1];rfl) (fun j hj=>by rw[hsz];exact (hcells j hj).choose_spec.2)
   rw[<- hbb,hsz]at hrun
   refine⟨_,_,some b,b,cap,false,hop hrun,rfl,.inl rfl,hroom,kQ _ _ _ _,by rw[setCells_size];simp,fun b' _ hb'=>?_,fun k u hk=>?_,fun k hk=>?_,hsp,.inr (.inl ⟨rfl,rfl,rfl⟩)⟩
   ·rcases hb' with hb'|hb'|hb'
    ·cases hb'
    ·cases hb'
    ·exact eD _ _ _ _ _ hb'
   ·by_cases hlt:k<olds.length
    ·rw[Tbj hlt]at hk
     rw[add_plain hsp,World.cell?_setCells_out _ _ _ _ _ (fun _ _=>.inl (by dsimp only;omega)),<- add_plain hsp]
     exact hocell k u hk
    ·rw[Tbf (by omega)]at hk
     have hkl:=(List.getElem?_eq_some_iff.1 hk).1
     have:=World.cell?_setCells_in b.block news (b.off+n*ti.size) w (fun j hj=>by obtain⟨u,h1,-⟩:=hcells j hj;rw[h1];rfl) (k-olds.length) hkl
     rw[show b.off+n*ti.size+(k-olds.length)=b.off+k by omega]at this
     rw[add_plain hsp,this,<- hk,Sb0]
   ·obtain⟨u0,hu0,hf0⟩:=hall rfl k hk
    rw[World.frozen?_setCells]
    obtain⟨u1,hu1⟩:=nD (B:=b.block) (o:=b.off+n*ti.size) (vs:=news) (b:=b.add k) (fun _=>by rw[add_plain hsp]) (fun j hj=>by obtain⟨u,h1,-⟩:=hcells j hj;rw[h1];rfl) hu0
    exact⟨u1,hu1,hf0⟩
  ·
   have hn0:n=0:=by omega
   have hn0':n'=0:=by omega
   subst hn0 hn0' h0
   have:news=[]:=Ubh (by simpa using hnl)
   subst this
   have:olds=[]:=Ubh (by simpa using hol)
   subst this
   refine⟨_,_,none,⟨0,0,none⟩,0,false,hop (run_append_nothing w t tx o.type e info hu f.info_ none 0 0 (Sb7 _) _ (by rw[hsz];exact hsrc)),rfl,.inr ⟨rfl,rfl⟩,Sb7 _,⟨rfl,rfl,rfl⟩,by simp,fun _ _ _=>rfl,by simp,by simp,rfl,.inr (.inr ⟨rfl,rfl⟩)⟩
 ·
  obtain⟨z,hz1,hz2,-,-⟩:=f.zeros (σ:=fun _=>none) (ρ:=[]) (G:=G) (w:=w)
  have hzl:z.cells.size=ti.size:=by rw[<- Vbo,hz2.len,Sb5,f.len]
  have hold:(Builtin.firstCells info.size n (.slice A n cap)).run P w.drew=.ok olds.toArray w.drew:=by
   rcases hA with ⟨rfl,hsp⟩|⟨rfl,h0⟩
   ·exact run_firstCells_some w.drew info.size n b n cap olds (by rw[hsz];exact hol) (fun j u hj=>hocell j u hj)
   ·have hn0:n=0:=by omega
    subst hn0
    have:olds=[]:=Ubh (by simpa using hol)
    subst this
    rfl
  have h1:(n+n')*1<=(n+n')*ti.bytes:=Nat.mul_le_mul_left _ hb0
  have hns:=nextslicecap_le (show cap<n+n' by omega)
  have hfit2:Builtin.nextslicecap (n+n') cap*info.bytes<=281474976710656:=by
   rw[hby]
   have h2:=Ubl ti.bytes hns
   rw[Nat.mul_assoc]at h2
   unfold dF at hfit
   omega
  have hrun:=run_append_grow_src (P:=P) w t tx o.type e info z hu f.info_ hz1 A n cap olds hold (.slice By n' capy) n' news (by rw[hsz];exact hsrc) (by omega) (by unfold dF at hfit;omega) hfit2
  have hge:=grownCap_ge w (n+n') cap e
  generalize hgc:grownCap w (n+n') cap e=gc at hrun hge
  have hnb:∀ b',b'≠w.heap.size->(w.drew.alloc (.cells ((olds++news).toArray++Builtin.zeroCells z.cells (gc-(n+n'))) e)).heap[b']?=w.heap[b']?:=fun b' hb'=>by
   show (w.heap.push _)[b']?=_
   rw[Wbr,if_neg hb']
  have hnew:(w.drew.alloc (.cells ((olds++news).toArray++Builtin.zeroCells z.cells (gc-(n+n'))) e)).heap[w.heap.size]?=some (.cells ((olds++news).toArray++Builtin.zeroCells z.cells (gc-(n+n'))) e (0,0)):=by
   show (w.heap.push _)[w.heap.size]?=_
   rw[Wbr,if_pos rfl]
  have hcell:∀ k,(w.drew.alloc (.cells ((olds++news).toArray++Builtin.zeroCells z.cells (gc-(n+n'))) e)).cell? ((⟨w.heap.size,0,none⟩:Addr).add k)=((olds++news).toArray++Builtin.zeroCells z.cells (gc-(n+n')))[k]?:=fun k=>by
   unfold World.cell?
   rw[add_block,hnew]
   simp[Addr.add]
   split<;>simp_all
  refine⟨_,_,some ⟨w.heap.size,0,none⟩,⟨w.heap.size,0,none⟩,gc,true,hop hrun,rfl,.inl rfl,hge,⟨rfl,rfl,rfl⟩,by show (w.heap.push _).size=_;rw[Array.size_push,if_pos rfl],fun b' hlt _=>hnb b' (by omega),fun k u hk=>?_,fun k hk=>?_,rfl,.inl ⟨rfl,rfl,rfl⟩⟩
  ·have hlt:=(List.getElem?_eq_some_iff.1 hk).1
   rw[hcell,Array.getElem?_append_left (by simpa using hlt)]
   simpa using hk
  ·have hsize:((olds++news).toArray++Builtin.zeroCells z.cells (gc-(n+n'))).size=gc*ti.size:=by
    simp only[Array.size_append,List.size_toArray,Sby,Builtin.zeroCells,Array.size_map,Array.size_range]
    rw[hol,hnl,hzl,<- Ubm,<- Ubm]
    congr 1
    omega
   rw[hcell]
   refine⟨_,Tb3 (by omega),?_⟩
   unfold World.frozen?
   rw[add_block,hnew]
   simp
end
end Go.Proofs.YtpgnlmfmlffjcaaGreat.Rf

namespace Go.Proofs.YtpgnlmfmlffjcaaGreat.Rf
set_option linter.unusedVariables false
set_option linter.unusedSimpArgs false
section
variable {P:Program} {E:Env} {F:cB} {n:Nat} {σ:Nat->Option aW} {ρ:List D} {a:Act} {w w':World} {G G':Gh} {g:Option (aO×Bool)} {o:Oper} {cf:Nat->List D->Option (List D)} {Q:Exit->Act->World->Prop} {next:Act->World->Prop}
structure Side (w:World) (v:Value) (rs:List (List D)) (sz:Nat) (A:Option Addr) (b:Addr) (n cap:Nat) (vs:Nat->Nat->Value):Prop where
 val:v=.slice A n cap
 len:rs.length=n
 le:n<=cap
 rows:∀ r∈rs,r.length=sz
 cell:∀ i row,rs[i]?=some row->∀ j d,row[j]?=some d->w.cell? (b.add (i*sz+j))=some (vs i j)
def ChY (G:Gh)(w:World)(fzl:List Nat)(mvY:Option Nat)(dy:Nat)(v:Value)(d:D)(idx:Nat):Prop :=
 Sc v d\/(∃ s,mvY=some s/\2<=dy/\Rp G.own w s [idx] (dy-1) v d)\/(dy=1/\Rd (fun b=>G.own b=.frz\/∃ r p,r∈fzl/\G.own b=.slc r p) w v d)
structure YOk (σ:Nat->Option aW) (G:Gh) (w:World) (fl:Bool) (v:Value) (rb:List (List D)) (sz dy:Nat) (updY:List (Nat×aW)) (ry:List Nat) (fzl:List Nat) (mvY:Option Nat):Prop where
 side:∃ A b n cap vs,Side w v rb sz A b n cap vs/\(n=0\/A=some b)/\∀ i row,rb[i]?=some row->∀ j d,row[j]?=some d->ChY G w fzl mvY dy (vs i j) d (i*sz+j)
 upd:∀ k c,(k,c)∈updY->∃ s,k=kR s/\s∈ry/\((mvY=some s/\c=.root (.c .hole) 0 0 .gone/\∃ x m ver,σ (kR s)=some (.root x m ver .live))\/(s∈fzl/\∃ x m ver,c=.root x m ver .frozen/\σ (kR s)=some (.root x m ver .live)))
 fz:∀ s∈fzl,s∈ry/\((∃ c,(kR s,c)∈updY)\/∃ x m ver,σ (kR s)=some (.root x m ver .frozen))
 mv:∀ s,mvY=some s->s∈ry/\(∃ c,(kR s,c)∈updY)/\s∉fzl
 dy:1<=dy
 flat:fl=true->updY=[]/\fzl=[]/\mvY=none
theorem Rd.side {ok:Nat->Prop}{v:Value}{sz:Nat}{rs:List (List D)}(h:Rd ok w v (.rows sz rs)):∃ A b n cap vs,Side w v rs sz A b n cap vs/\(n=0\/A=some b)/\∀ i row,rs[i]?=some row->∀ j d,row[j]?=some d->Rd ok w (vs i j) d:=by
 obtain⟨A,b,n,c,vs,e1,e2,e3,e4,e5,e6,e7⟩:=h.inv
 exact⟨A,b,n,c,vs,⟨e1,e2,e3,e5,fun i row hi j d hj=>(e6 i row hi j d hj).2⟩,e4,e7⟩
theorem Qb2 (hR:R E.ntmps F σ ρ a w G){fl:Bool}{y:SlR}{v:Value}(hy:Cb2 σ ρ G w y v){sz:Nat}{rb:List (List D)}(hx:y.x.val ρ=.rows sz rb)(hfl:fl=true->∀ r∈rb,∀ d∈r,d.isSc=true)
  {dy:Nat} {updY:List (Nat×aW)} {ry:List Nat} (h:(Abc fl y).eval σ=some (dy,updY,ry)):∃ fzl mvY,YOk σ G w fl v rb sz dy updY ry fzl mvY:=by
 have hrd:=hy.rd
 rw[hx]at hrd
 unfold Abc at h
 cases fl with
 | true =>
  simp only[cond_true,aH,Option.some.injEq,Prod.mk.injEq]at h
  obtain⟨rfl,rfl,rfl⟩:=h
  refine⟨[],none,?_,by simp,by simp,by simp,by decide,fun _=>⟨rfl,rfl,rfl⟩⟩
  obtain⟨A,b,n,c,vs,h1,h2,h3⟩:=hrd.side
  exact⟨A,b,n,c,vs,h1,h2,fun i row hi j d hj=>.inl ((h3 i row hi j d hj).sc_inv (hfl rfl row (Tbg hi) d (Tbg hj)))⟩
 | false =>
  simp only[cond_false]at h
  have hown:=hy.own
  unfold Aak at hown
  have frozen:∀ rs fr,(fO rs).eval σ=some fr->Rd (fun b=>G.own b=.frz\/∃ r p,r∈rs/\G.own b=.slc r p) w v (.rows sz rb)->YOk σ G w false v rb sz 1 fr rs rs none:=by
   intro rs fr hfr hrd
   obtain⟨h1,h2⟩:=jM hfr
   refine⟨?_,fun k c hc=>?_,fun s hs=>⟨hs,?_⟩,by simp,Sb7 _,by simp⟩
   ·obtain⟨A,b,n,c,vs,h3,h4,h5⟩:=hrd.side
    exact⟨A,b,n,c,vs,h3,h4,fun i row hi j d hj=>.inr (.inr ⟨rfl,h5 i row hi j d hj⟩)⟩
   ·obtain⟨s,hs,x,m,ver,e1,e2,e3⟩:=h2 k c hc
    exact⟨s,e1,hs,.inr ⟨hs,x,m,ver,e2,e3⟩⟩
   ·rcases h1 s hs with ⟨x,m,ver,e1,e2⟩|h3
    ·exact .inl ⟨_,e2⟩
    ·exact .inr h3
  split at h
  ·rename_i r k m ho
   rw[ho]at hown
   obtain⟨h1,⟨x,h2⟩,h3,h4,h5⟩:=hown
   simp only[bM,Tbw,List.length_nil,Nat.sub_zero]at h4
   rw[hx]at h4
   cases hb:Nat.ble 2 m with
   | true =>
    rw[hb]at h
    simp only[cond_true,aH,Option.some.injEq,Prod.mk.injEq]at h
    obtain⟨rfl,rfl,rfl⟩:=h
    simp only[Ubf]at hb
    obtain⟨m',rfl⟩:∃ m',m=m'+1:=⟨m-1,by omega⟩
    obtain⟨A,b,n,c,vs,e1,e2,e3,e4,e5,e6,e7,e8⟩:=h4.sl_inv
    refine⟨[],some r,⟨A,b,n,c,vs,⟨e1,e2,e3,e5,e7⟩,?_,fun i row hi j d hj=>.inr (.inl ⟨r,rfl,hb,by simpa using e8 i row hi j d hj⟩)⟩,fun k' c' hc=>?_,by simp,fun s hs=>?_,by omega,by simp⟩
    ·rcases e4 with e4|⟨e4,e4'⟩
     ·exact .inr e4
     ·exact .inl (by omega)
    ·simp only[Sb9,Prod.mk.injEq]at hc
     exact⟨r,hc.1,by simp,.inl ⟨rfl,hc.2,x,_,k,h2⟩⟩
    ·obtain rfl:=Option.some.inj hs
     exact⟨by simp,⟨_,List.mem_singleton.2 rfl⟩,by simp⟩
   | false =>
    rw[hb]at h
    simp only[cond_false,aH,Option.some.injEq,Prod.mk.injEq]at h
    obtain⟨rfl,rfl,rfl⟩:=h
    have hm:m<=1:=by
     have:¬ 2<=m:=by rw[<- Ubf,hb];simp
     omega
    refine⟨[],none,?_,by simp,by simp,by simp,Sb7 _,by simp⟩
    rcases Nat.eq_zero_or_pos m with rfl|hpos
    ·obtain⟨A,b,n,c,vs,h6,h7,h8⟩:=h4.zero.side
     exact⟨A,b,n,c,vs,h6,h7,fun i row hi j d hj=>.inr (.inr ⟨rfl,(h8 i row hi j d hj).mono fun b hb=>⟨.inl hb,rfl⟩⟩)⟩
    ·obtain rfl:m=0+1:=by omega
     obtain⟨A,b,n,c,vs,e1,e2,e3,e4,e5,e6,e7,e8⟩:=h4.sl_inv
     refine⟨A,b,n,c,vs,⟨e1,e2,e3,e5,e7⟩,?_,fun i row hi j d hj=>.inr (.inr ⟨rfl,(e8 i row hi j d hj).zero.mono fun b hb=>⟨.inl hb,rfl⟩⟩)⟩
     rcases e4 with e4|⟨e4,e4'⟩
     ·exact .inr e4
     ·exact .inl (by omega)
  ·rename_i r k m p hne ho
   rw[ho]at hown
   simp only[aC,Sbt,aH,Option.some.injEq,Prod.mk.injEq]at h
   obtain⟨fr,h6,rfl,rfl,rfl⟩:=h
   refine⟨[r],none,frozen _ _ h6 ?_⟩
   refine hrd.mono fun b hb=>⟨hb.imp id fun ⟨r',k',p',h7,h8⟩=>?_,rfl⟩
   rw[hown.1]at h7
   simp only[Sb9,Prod.mk.injEq]at h7
   exact⟨r,p',by simp,h7.1▸h8⟩
  ·split at h
   ·rename_i z hz
    simp only[aH,Option.some.injEq,Prod.mk.injEq]at h
    obtain⟨rfl,rfl,rfl⟩:=h
    rw[hz]at hx
    simp only[aO.val,D.rows.injEq]at hx
    obtain⟨rfl,rfl⟩:=hx
    refine⟨[],none,?_,by simp,by simp,by simp,by decide,by simp⟩
    obtain⟨A,b,n,c,vs,h1,h2,h3⟩:=hrd.side
    exact⟨A,b,n,c,vs,h1,h2,by simp⟩
   ·simp only[aC,Sbt,aH,Option.some.injEq,Prod.mk.injEq]at h
    obtain⟨fr,h6,rfl,rfl,rfl⟩:=h
    refine⟨y.deps.map (·.1),none,frozen _ _ h6 ?_⟩
    exact hrd.mono fun b hb=>⟨hb.imp id fun ⟨r',k',p',h7,h8⟩=>⟨r',p',Ubt (f:=fun x:Nat×Nat=>x.1) h7,h8⟩,rfl⟩
end
end Go.Proofs.YtpgnlmfmlffjcaaGreat.Rf
