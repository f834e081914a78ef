/- Terms for qq program's functions, and my they are right: part 4 of 9. -/
import Derived.Test.YtcbkmmhkccnamaaGreatRf3
import Derived.Laws.MakeOwn
open Array renaming getElem?_eq_getElem → Pbd, length_toList → Qbk, ext' → Rbl
open Bool renaming and_eq_true → Obh, not_eq_true' → Ob6
open List renaming mem_append_left → Obi, mem_append_right → Obk, getElem?_eq_getElem → Obl, getElem?_cons_zero → Obn, mem_cons_of_mem → Obq, append_assoc → Obs, mem_singleton → Obt, mem_cons_self → Obu, length_append → Obv, mem_of_getElem? → Obw, getElem?_append_left → Obx, getElem?_append_right → Obz, map_cons → Ob1, replicate → Ob3, getElem?_map → Ob5, length_map → Ob7, all_eq_true → Ob8, map_nil → Pba, append_nil → Pbc, length_take → Pb3, ext_getElem? → Qby, map_congr_left → Rbi
open Nat renaming le_refl → Oby, add_assoc → Ob0, lt_or_ge → Ob2, beq_eq → Ob4, add_zero → Pbb, add_sub_cancel_left → Pbe, blt_eq → Pbf, ble_eq → Pbn, blt → Pbs, le_succ → Qbx, le_add_right → Rbc
open Option renaming bind_eq_some_iff → Obg, bind_some → Obm, map_eq_some_iff → Obr, isNone_iff_eq_none → Qbm
set_option linter.unusedSimpArgs false
set_option linter.unusedVariables false
set_option linter.unnecessarySimpa false
set_option linter.unusedSectionVars false
namespace Go.Proofs.YtcbkmmhkccnamaaGreat.Rf
def Sau (jz:List Nat)(la:Option Nat)(nsz:Nat)(src:Option (Nat×List Nat×Nat))(nr M:Nat)(s:Nat)(p:List Nat):Ow :=
 if s∈jz then .frz else if la=some s then (match p with
  |k::t=>vQ nr M ((nsz+k)::t)
  |[]=>.frz) else
 match src with
 |some (r,pq,mr)=>if s=r then (if pq <+: p then vQ nr M (p.drop pq.length) else vQ r mr p) else .slc s p
 |none=>.slc s p
section
variable {P:Program} {E:Env} {F:bC} {n:Nat} {σ:Nat->Option aN} {ρ:List D} {a:Act} {w w':World} {G G':Gh} {g:Option (aI×Bool)} {o:Oper} {cf:Nat->List D->Option (List D)} {Q:Exit->Act->World->Prop} {next:Act->World->Prop}
structure XOk (σ:Nat->Option aN) (ρ:List D) (G:Gh) (w:World) (v:Value) (ra:List (List D)) (sz m:Nat) (updX:List (Nat×aN)) (src:Option (Nat×List Nat×Nat)) (A:Option Addr) (b:Addr) (n cap:Nat) (vs:Nat->Nat->Value):Prop where
 side:Side w v ra sz A b n cap vs
 base:(A=some b/\b.spot=none)\/(A=none/\cap=0)
 own:A=some b->∃ r pq mr,src=some (r,pq,mr)/\G.own b.block=.slc r pq
 all:A=some b->∀ k,k<cap*sz->∃ u,w.cell? (b.add k)=some u/\w.frozen? (b.add k)=false
 ch:∀ i row,ra[i]?=some row->∀ j d,row[j]?=some d->∃ r pq mr,src=some (r,pq,mr)/\Rp G.own w r (pq++[i*sz+j]) (m-1) (vs i j) d
 m:1<=m
 upd:(src=none/\updX=[])\/∃ r pq mr X k,src=some (r,pq,mr)/\σ (kR r)=some (.root X mr k .live) /\
  ((pq=[]/\updX=[(kR r,.root (.c .hole) 0 0 .gone)])\/(∃ X',updX=[(kR r,.root X' mr (k+1) .live)]/\Upd pq (X.val ρ) .hole (X'.val ρ)/\wB G.own w r [] (G.hdr r) pq v/\pq.length<mr))
theorem Zal (hR:R E.ntmps F σ ρ a w G)(hd:eG E.ntmps o){nb nr:Nat}(hf:Aal σ nb nr){fl:Bool}{vx vy v:Value}{ra rb:List (List D)}{sz m dy M:Nat}{updX fR:List (Nat×aN)}{src:Option (Nat×List Nat×Nat)}{ry jz:List Nat}{la:Option Nat}
  {A By:Option Addr} {b yu:Addr} {n n' cap ky:Nat} {vs s4:Nat->Nat->Value}
  (hX:XOk σ ρ G w vx ra sz m updX src A b n cap vs) (hY:YOk σ G w fl vy rb sz dy fR ry jz la)
  (pA:Side w vy rb sz By yu n' ky s4) (hYc:∀ i row,rb[i]?=some row->∀ j d,row[j]?=some d->ChY G w jz la dy (s4 i j) d (i*sz+j))
  {w1:World} {A':Option Addr} {cb:Addr} {gE:Nat} {grow:Bool} (hA:Fbi w w1 G A n n' cap sz (nT vs n sz) (nT s4 n' sz) v A' cb gE grow)
  (jl:fl=true->∀ r∈ra++rb,∀ d∈r,d.isSc=true) (hM1:1<=M) (hM:fl=false->M<=m/\M<=dy)
  (uv:∀ r pq mr,src=some (r,pq,mr)->r∉ry\/fl=true) {y:aI} (hy:y.val ρ=.rows sz (ra++rb)) :
  ∃ G',R E.ntmps F (upds σ (dE o none (.one (.ex nr))++((kR nr,.root y M 0 .live)::updX++fR))) ρ (a.put o.dst v) w1 G':=by
 obtain⟨M,rfl⟩:∃ M',M=M'+1:=⟨M-1,by omega⟩;have ie:σ (kR nr)=none:=hf.nr nr (Oby _) (by unfold bN;omega)
 have k9:∀ b,G.own b≠.frz->b<w.heap.size:=fun b hb=>by
  rcases Ob2 b w.heap.size with h|h
  ·exact h
  ·exact absurd (hR.frame.fresh b h) hb
 have a0v:∀ r pq mr,src=some (r,pq,mr)->r∉jz/\la≠some r:=by
  intro r pq mr e
  rcases uv r pq mr e with h|h
  ·exact⟨fun hh=>h (hY.fz r hh).1,fun hh=>h (hY.mv r hh).1⟩
  ·obtain⟨-,h2,h3⟩:=hY.flat h
   rw[h2,h3];simp
 have oY:∀ r pq mr,src=some (r,pq,mr)->∃ X k,σ (kR r)=some (.root X mr k .live)/\∃ c,(kR r,c)∈updX:=by
  intro r pq mr e
  rcases hX.upd with ⟨h1,-⟩|⟨r',ue,qw,X,k,h1,h2,h3⟩
  ·rw[h1]at e;cases e
  ·rw[h1]at e
   obtain⟨rfl,rfl,rfl⟩:r'=r/\ue=pq/\qw=mr:=by injection e with e;injection e with e1 e;injection e with e2 e3;exact⟨e1,e2,e3⟩
   refine⟨X,k,h2,?_⟩
   rcases h3 with ⟨-,h3⟩|⟨X',h3,-⟩<;>exact⟨_,by rw[h3];exact List.mem_singleton.2 rfl⟩
 have yd:grow=false->A'≠none->∃ r pq mr,src=some (r,pq,mr)/\G.own cb.block=.slc r pq:=by
  intro hg cn
  rcases hA.base with ⟨h1,-⟩|⟨-,-,h2⟩|⟨-,h2⟩
  ·rw[hg]at h1;cases h1
  ·rcases hX.base with ⟨h3,h4⟩|⟨h3,-⟩
   ·rw[h2]at h3
    obtain rfl:=Option.some.inj h3;exact hX.own h2
   ·rw[h2]at h3;cases h3
  ·exact absurd h2 cn
 have b8:∀ b,b<w.heap.size->(∀ r pq mr,src=some (r,pq,mr)->G.own b≠.slc r pq)->w1.heap[b]?=w.heap[b]?:=by
  intro b' ar cF;refine hA.heap b' ar ?_
  cases hg:grow with
  |true=>exact .inl rfl
  | false =>
   by_cases cn:A'=none
   ·exact .inr (.inl cn)
   ·obtain⟨r,pq,mr,h1,h2⟩:=yd hg cn
    exact .inr (.inr fun e=>cF r pq mr h1 (e▸h2))
 generalize a7:(fun b'=>if b'=w.heap.size then (if grow=true then Ow.slc nr [] else .frz) else kX (Sau jz la (n*sz) src nr (M+1)) (G.own b'))=own'
 have fg:∀ b' s p,G.own b'=.slc s p->own' b'=Sau jz la (n*sz) src nr (M+1) s p:=fun b' s p hb=>by
  have:=k9 b' (by rw[hb];simp);rw[<- a7];dsimp only;rw[if_neg (by omega),hb];rfl
 have hz:∀ b',G.own b'=.frz->b'<w.heap.size->own' b'=.frz/\w1.heap[b']?=w.heap[b']?:=fun b' hb ar=>by
  refine⟨?_,b8 b' ar fun _ _ _ _=>by rw[hb];simp⟩;rw[<- a7];dsimp only;rw[if_neg (by omega),hb];rfl
 have xw:∀ s∈jz,∀ p,Sau jz la (n*sz) src nr (M+1) s p=.frz:=fun s hs p=>by
  unfold Sau;rw[if_pos hs]
 have rj:∀ r pq mr,src=some (r,pq,mr)->∀ p,Sau jz la (n*sz) src nr (M+1) r p=if pq <+: p then vQ nr (M+1) (p.drop pq.length) else vQ r mr p:=fun r pq mr e p=>by
  obtain⟨h1,h2⟩:=a0v r pq mr e;unfold Sau;rw[if_neg h1,if_neg h2,e];simp
 have q8:∀ s,s∈ry->fl=false->∀ r pq mr,src=some (r,pq,mr)->s≠r:=fun s hs fX r pq mr e h=>by
  rcases uv r pq mr e with h1|h1
  ·exact h1 (h▸hs)
  ·rw[fX]at h1;cases h1
 have hold:∀ i row,ra[i]?=some row->∀ j d,row[j]?=some d->w1.cell? (cb.add (i*sz+j))=some (vs i j)/\Rp own' w1 nr [i*sz+j] M (vs i j) d:=by
  intro i row hi j d hj;have oh:i<n:=by rw[<- hX.side.len];exact (List.getElem?_eq_some_iff.1 hi).1
  have l7:j<sz:=by
   have:=(List.getElem?_eq_some_iff.1 hj).1;rwa[hX.side.rows row (Obw hi)]at this
  refine⟨hA.cell _ _ (by rw[Obx];exact Bah vs oh l7;exact (List.getElem?_eq_some_iff.1 (Bah vs oh l7)).1),?_⟩;obtain⟨r,pq,mr,e,h1⟩:=hX.ch i row hi j d hj
  cases fX:fl with
  |true=>exact .sc (h1.sc_inv (jl fX row (Obi _ (Obw hi)) d (Obw hj)))
  | false =>
   obtain⟨h2,h3⟩:=hM fX;refine h1.move hz _ M (by omega) fun b' t hb=>⟨?_,b8 b' (k9 b' (by rw[hb];simp)) fun r' ue qw e' hh=>?_⟩
   ·rw[fg b' _ _ hb,rj r pq mr e,if_pos (by rw[Obs];exact List.prefix_append _ _),Obs,List.drop_left,vQ]
    simp only[Obv,List.length_singleton];by_cases ht:t.length<M
    ·rw[if_pos ht,if_pos (by omega)]
    ·rw[if_neg ht,if_neg (by omega)]
   ·rw[e]at e'
    obtain⟨rfl,rfl,rfl⟩:r=r'/\pq=ue/\mr=qw:=by injection e' with e;injection e with e1 e;injection e with e2 e3;exact⟨e1,e2,e3⟩
    rw[hb]at hh
    injection hh with _ hh
    have:=congrArg List.length hh;simp at this
 have ga:∀ i row,rb[i]?=some row->∀ j d,row[j]?=some d->w1.cell? (cb.add ((n+i)*sz+j))=some (s4 i j)/\Rp own' w1 nr [(n+i)*sz+j] M (s4 i j) d:=by
  intro i row hi j d hj;have oh:i<n':=by rw[<- pA.len];exact (List.getElem?_eq_some_iff.1 hi).1
  have l7:j<sz:=by
   have:=(List.getElem?_eq_some_iff.1 hj).1;rwa[pA.rows row (Obw hi)]at this
  have kk:(n+i)*sz+j=n*sz+(i*sz+j):=by rw[Nat.add_mul];omega
  refine⟨hA.cell _ _ (by rw[kk,Obz (by rw[pE];omega),pE,Pbe];exact Bah s4 oh l7),?_⟩;have lq:fl=true->d.isSc=true:=fun fX=>jl fX row (Obk _ (Obw hi)) d (Obw hj)
  rcases hYc i row hi j d hj with h1|⟨s,h1,h2,h3⟩|⟨h1,h2⟩
  ·exact .sc h1
  ·cases fX:fl with
   |true=>exact .sc (h3.sc_inv (lq fX))
   | false =>
    obtain⟨h4,h5⟩:=hM fX;obtain⟨h6,-,h7⟩:=hY.mv s h1;refine h3.move hz _ M (by omega) fun b' t hb=>⟨?_,b8 b' (k9 b' (by rw[hb];simp)) fun r' ue qw e' hh=>?_⟩
    ·rw[fg b' _ _ hb]
     unfold Sau;rw[if_neg h7,if_pos h1];simp only[List.singleton_append];rw[vQ,kk];simp only[List.length_cons];by_cases ht:t.length<M
     ·rw[if_pos ht,if_pos (by omega)]
     ·rw[if_neg ht,if_neg (by omega)]
    ·rw[hb]at hh
     injection hh with hh _
     exact q8 s h6 fX r' ue qw e' hh
  ·cases fX:fl with
   |true=>exact .sc (h2.sc_inv (lq fX))
   | false =>
    obtain⟨h4,h5⟩:=hM fX;obtain rfl:M=0:=by omega
    refine .fz (h2.mono' fun b' hb ar=>?_)
    rcases hb with hb|⟨r',p',h6,hb⟩
    ·exact hz b' hb ar
    ·refine⟨by rw[fg b' _ _ hb,xw r' h6],b8 b' ar fun r'' ue qw e' hh=>?_⟩
     rw[hb]at hh
     injection hh with hh _
     exact q8 r' (hY.fz r' h6).1 fX r'' ue qw e' hh
 have dh:∀ {s:Nat} {c:aN},(kR s,c)∈(kR nr,aN.root y (M+1) 0 .live)::updX++fR ->
   (s=nr/\c=.root y (M+1) 0 .live) \/
   (∃ pq mr X k,src=some (s,pq,mr)/\σ (kR s)=some (.root X mr k .live)/\(c=.root (.c .hole) 0 0 .gone\/∃ X',c=.root X' mr (k+1) .live/\Upd pq (X.val ρ) .hole (X'.val ρ)/\wB G.own w s [] (G.hdr s) pq vx/\pq.length<mr)) \/
   (la=some s/\s∈ry/\c=.root (.c .hole) 0 0 .gone) \/
   (s∈jz/\s∈ry/\∃ x m v,c=.root x m v .frozen/\σ (kR s)=some (.root x m v .live)):=by
  intro s c hc
  rcases List.mem_append.1 hc with hc|hc
  ·rcases List.mem_cons.1 hc with hc|hc
   ·obtain⟨e1,e2⟩:=Prod.mk.inj hc
    exact .inl ⟨dW e1,e2⟩
   ·rcases hX.upd with ⟨-,h2⟩|⟨r,pq,mr,X,k,h1,h2,h3⟩
    ·rw[h2]at hc;simp at hc
    ·rcases h3 with ⟨h4,h5⟩|⟨X',h5,h6⟩
     ·rw[h5]at hc
      simp only[Obt,Prod.mk.injEq]at hc;obtain⟨e1,e2⟩:=hc;obtain rfl:=dW e1;exact .inr (.inl ⟨pq,mr,X,k,h1,h2,.inl e2⟩)
     ·rw[h5]at hc
      simp only[Obt,Prod.mk.injEq]at hc;obtain⟨e1,e2⟩:=hc;obtain rfl:=dW e1;exact .inr (.inl ⟨pq,mr,X,k,h1,h2,.inr ⟨X',e2,h6⟩⟩)
  ·obtain⟨s',e1,h1,h2⟩:=hY.upd _ _ hc
   obtain rfl:=dW e1
   rcases h2 with ⟨h2,h3,-⟩|⟨h2,x,m,aE,h3,h4⟩
   ·exact .inr (.inr (.inl ⟨h2,h1,h3⟩))
   ·exact .inr (.inr (.inr ⟨h2,h1,x,m,aE,h3,h4⟩))
 have ko:∀ r,(σ (kR r)).isSome->r≠nr:=fun r hr e=>by rw[e,ie]at hr;cases hr
 have sh:∀ s,s∈jz->fl=false:=fun s hs=>by
  cases fX:fl with
  |false=>rfl
  |true=>rw[(hY.flat fX).2.1]at hs;simp at hs
 refine⟨{ G with own:=own',hdr:=fun r=>if r=nr then v else G.hdr r },hR.own hd (f:=Sau jz la (n*sz) src nr (M+1)) (wr:=fun b'=>b'=cb.block/\grow=false/\A'≠none) ?_ ?_ ?_ ?_ ?_ ?_ ?_ ?_ ?_ ?_ ?_ rfl ?_ ?_⟩
 ·intro k c hc
  rcases List.mem_append.1 hc with hc|hc
  ·rcases List.mem_cons.1 hc with hc|hc
   ·exact⟨nr,(Prod.mk.inj hc).1⟩
   ·rcases hX.upd with ⟨-,h2⟩|⟨r,pq,mr,X,k',h1,h2,h3⟩
    ·rw[h2]at hc;simp at hc
    ·rcases h3 with ⟨h4,h5⟩|⟨X',h5,h6⟩<;>(rw[h5]at hc;simp only[Obt,Prod.mk.injEq]at hc;exact⟨r,hc.1⟩)
  ·obtain⟨s',e1,-⟩:=hY.upd _ _ hc
   exact⟨s',e1⟩
 ·intro b' ar
  show own' b'=_
  rw[<- a7];dsimp only;rw[if_neg (by omega)]
 ·intro b' hb
  rw[hA.size]at hb;show own' b'=.frz
  rw[<- a7];dsimp only;by_cases e:b'=w.heap.size
  ·rw[if_pos e]
   cases hg:grow with
   |true=>rw[hg]at hb;simp at hb;omega
   |false=>simp
  ·rw[if_neg e,hR.frame.fresh b' (by split at hb<;>omega)];rfl
 ·exact⟨hA.os.1,hA.os.2.1,hA.os.2.2,by rw[hA.size];omega⟩
 ·intro b' hb
  show own' b'=.frz\/∃ r p,own' b'=.slc r p/\_
  rw[<- a7];dsimp only;by_cases e:b'=w.heap.size
  ·rw[if_pos e]
   cases hg:grow with
   |true=>exact .inr ⟨nr,[],by simp,ie⟩
   |false=>exact .inl (by simp)
  ·rw[if_neg e,hR.frame.fresh b' hb];exact .inl rfl
 ·intro b' ar hnw
  refine hA.heap b' ar ?_
  cases hg:grow with
  |true=>exact .inl rfl
  | false =>
   by_cases cn:A'=none
   ·exact .inr (.inl cn)
   ·exact .inr (.inr fun e=>hnw ⟨e,hg,cn⟩)
 ·rintro b' ⟨rfl,hg,cn⟩
  obtain⟨r,pq,mr,h1,h2⟩:=yd hg cn;obtain⟨X,k,-,c,hc⟩:=oY r pq mr h1;exact⟨r,pq,h2,c,Obi _ (Obq _ hc)⟩
 ·intro b' s p hb gl
  have h1:s∉jz:=fun hs=>by
   rcases (hY.fz s hs).2 with ⟨c,hc⟩|⟨x,m,aE,h⟩
   ·exact gl c (Obk _ hc)
   ·exact (hR.root h).2 b' p hb
  have h2:la≠some s:=fun hs=>by
   obtain⟨c,hc⟩:=(hY.mv s hs).2.1;exact gl c (Obk _ hc)
  unfold Sau;rw[if_neg h1,if_neg h2]
  cases oz:src with
  |none=>rfl
  | some x =>
   obtain⟨r,pq,mr⟩:=x;dsimp only;rw[if_neg];intro e;obtain⟨X,k,-,c,hc⟩:=oY r pq mr oz;exact gl c (Obi _ (Obq _ (e▸hc)))
 ·intro s c hc _
  rcases dh hc with ⟨rfl,rfl⟩|⟨pq,mr,X,k,h1,h2,h3⟩|⟨h1,h2,rfl⟩|⟨h1,h2,x,m',aE,rfl,h4⟩
  ·exact .inl ⟨ie,_,_,_,_,rfl⟩
  ·rcases h3 with rfl|⟨X',rfl,-⟩
   ·exact .inr (.inr (.inl ⟨_,_,_,_,rfl,by simp,by simp⟩))
   ·exact .inr (.inl ⟨_,_,_,_,_,h2,rfl⟩)
  ·exact .inr (.inr (.inl ⟨_,_,_,_,rfl,by simp,by simp⟩))
  ·refine .inr (.inr (.inr ⟨x,m',aE,h4,rfl,fun b' p hb=>⟨?_,b8 b' (k9 b' (by rw[hb];simp)) fun r pq mr e hh=>?_⟩⟩))
   ·show own' b'=.frz
    rw[fg b' _ _ hb,xw s h1]
   ·rw[hb]at hh
    injection hh with hh _
    exact q8 s h2 (sh s h1) r pq mr e hh
 ·intro r0 x0 m0 k0 lP s p q hF
  have xT:=ko r0 (by rw[lP];rfl)
  have oy:∀ R M' q',vQ R M' q'=.slc r0 q->R=r0:=by
   intro R M' q' h;unfold vQ at h;split at h
   ·injection h
   ·cases h
  unfold Sau at hF;split at hF
  ·cases hF
  ·split at hF
   ·split at hF
    ·exact absurd (oy _ _ _ hF).symm xT
    ·cases hF
   ·split at hF
    ·rename_i _ r pq mr
     split at hF
     ·split at hF
      ·exact absurd (oy _ _ _ hF).symm xT
      ·have:=oy _ _ _ hF
       subst this;obtain⟨X,k,h,-⟩:=oY r pq mr rfl;rw[h]at lP
       injection lP with e;injection e with _ _ _ e;cases e
     ·injection hF with h1 h2;exact⟨h1,h2⟩
    ·injection hF with h1 h2;exact⟨h1,h2⟩
 ·intro r hr
  show (if r=nr then _ else _)=_
  rw[if_neg (ko r hr)]
 ·intro _ _
  simp only[bR,aB,if_true];refine⟨trivial,dJ _ _ _ (.inr ⟨_,Obk _ (Obi _ Obu)⟩),by rw[hA.val];rfl⟩
 ·intro _ s c hc _
  rcases dh hc with ⟨rfl,rfl⟩|⟨pq,mr,X,k,h1,h2,h3⟩|⟨h1,h2,rfl⟩|⟨h1,h2,x,m',aE,rfl,h4⟩
  ·refine⟨_,_,_,_,rfl,?_⟩
   simp only[bK,if_true];rw[hy,hA.val]
   have lf:∀ i row,(ra++rb)[i]?=some row->(i<n/\ra[i]?=some row)\/(n<=i/\rb[i-n]?=some row):=by
    intro i row hi;by_cases ar:i<ra.length
    ·rw[Obx ar]at hi
     exact .inl ⟨by rw[<- hX.side.len];exact ar,hi⟩
    ·rw[Obz (by omega),hX.side.len]at hi
     exact .inr ⟨by rw[<- hX.side.len];omega,hi⟩
   refine .sl _ cb (n+n') gE sz _ (fun i j=>if i<n then vs i j else s4 (i-n) j) (by simp[hX.side.len,pA.len]) hA.le hA.aval (fun row hr=>?_) (fun kO=>⟨hA.spot,?_,fun k hk=>hA.all k hk⟩) (fun i row hi j d hj=>?_) (fun i row hi j d hj=>?_)
   ·rcases List.mem_append.1 hr with hr|hr
    ·exact hX.side.rows _ hr
    ·exact pA.rows _ hr
   ·rcases hA.base with ⟨h1,-,h2⟩|⟨h1,-⟩|⟨-,h2⟩
    ·rw[<- a7]
     dsimp only;rw[if_pos h2,if_pos h1]
    rotate_left
    ·rw[h2]at kO;cases kO
    ·obtain⟨r,pq,mr,h2,h3⟩:=yd h1 (by rw[kO];simp)
     rw[fg _ _ _ h3,rj r pq mr h2,if_pos List.prefix_rfl];simp[vQ]
   ·rcases lf i row hi with ⟨h1,h2⟩|⟨h1,h2⟩
    ·rw[if_pos h1];exact (hold i row h2 j d hj).1
    ·rw[if_neg (by omega)]
     have:=(ga _ row h2 j d hj).1;rwa[show n+(i-n)=i by omega]at this
   ·rcases lf i row hi with ⟨h1,h2⟩|⟨h1,h2⟩
    ·rw[if_pos h1];exact (hold i row h2 j d hj).2
    ·rw[if_neg (by omega)]
     have:=(ga _ row h2 j d hj).2;rwa[show n+(i-n)=i by omega]at this
  ·rcases h3 with rfl|⟨X',rfl,h4,h5,h6⟩
   ·exact⟨_,_,_,_,rfl,trivial⟩
   ·refine⟨_,_,_,_,rfl,?_⟩
    simp only[bK];rw[if_neg (ko s (by rw[h2];rfl))];have hr:=hR.root h2;simp only[bK]at hr;have:=Rp.upd (own':=own') (w':=w1) (r:=s) (M':=mr) (full:=pq) hz (fun b' t hb ht=>⟨?_,b8 b' (k9 b' (by rw[hb];simp)) fun r' ue qw e' hh=>?_⟩) (by omega) (.hole _ (by rw[hX.side.val];rfl)) pq [] mr (G.hdr s) _ _ rfl (Oby _) (by simpa using hr) h5 h4
    ·simpa using this
    ·rw[fg b' _ _ hb,rj s pq mr h1,if_neg ht]
     rfl
    ·rw[h1]at e'
     obtain⟨-,rfl,-⟩:s=r'/\pq=ue/\mr=qw:=by injection e' with e;injection e with e1 e;injection e with e2 e3;exact⟨e1,e2,e3⟩
     rw[hb]at hh
     injection hh with _ hh
     exact ht (hh▸List.prefix_rfl)
  ·exact⟨_,_,_,_,rfl,trivial⟩
  ·refine⟨x,m',aE,.frozen,rfl,?_,fun b' p hb=>?_⟩
   ·have:=hR.root h4
    simp only[bK]at this ⊢;rw[if_neg (ko s (by rw[h4];rfl))];refine this.rd.mono' fun b' hb ar=>?_
    rcases hb with hb|⟨p,hb⟩
    ·exact hz b' hb ar
    ·refine⟨by rw[fg b' _ _ hb,xw s h1],b8 b' ar fun r pq mr e hh=>?_⟩
     rw[hb]at hh
     injection hh with hh _
     exact q8 s h2 (sh s h1) r pq mr e hh
   ·have cF:own' b'=.slc s p:=hb
    have yp:=ko s (by rw[h4];rfl)
    have oy:∀ R M' q',R≠s->vQ R M' q'≠.slc s p:=by
     intro R M' q' gv h;unfold vQ at h;split at h
     ·injection h with h _;exact gv h
     ·cases h
    rcases Ob2 b' w.heap.size with ar|ma
    ·rw[<- a7]at cF
     dsimp only at cF;rw[if_neg (by omega)]at cF
     cases e:G.own b' with
     | slc s' p' =>
      rw[e]at cF;have hF:Sau jz la (n*sz) src nr (M+1) s' p'=.slc s p:=cF;unfold Sau at hF;split at hF
      ·cases hF
      ·rename_i jf
       split at hF
       ·split at hF
        ·exact oy _ _ _ yp.symm hF
        ·cases hF
       ·split at hF
        ·rename_i _ r pq mr
         split at hF
         ·split at hF
          ·exact oy _ _ _ yp.symm hF
          ·exact oy _ _ _ (q8 s h2 (sh s h1) r pq mr rfl).symm hF
         ·injection hF with h5 _;exact jf (h5▸h1)
        ·injection hF with h5 _;exact jf (h5▸h1)
     |_=>rw[e]at cF;cases cF
    ·rw[<- a7]at cF
     dsimp only at cF;by_cases e:b'=w.heap.size
     ·rw[if_pos e]at cF
      split at cF
      ·injection cF with h5 _;exact yp h5.symm
      ·cases cF
     ·rw[if_neg e,hR.frame.fresh b' ma]at cF
      cases cF
end
section
variable {P:Program} {E:Env} {F:bC} {n:Nat} {σ:Nat->Option aN} {ρ:List D} {a:Act} {w w':World} {G G':Gh} {g:Option (aI×Bool)} {o:Oper} {cf:Nat->List D->Option (List D)} {Q:Exit->Act->World->Prop} {next:Act->World->Prop}
theorem Bb7 {sz bytes:Nat}{fl:Bool}{x y:D}{ds:List D}(h:(aY.app sz bytes fl).run [x,y]=some ds) :
  ∃ ra rb,x=.rows sz ra/\y=.rows sz rb/\(fl=true->∀ r∈ra++rb,∀ d∈r,d.isSc=true)/\(ra.length+rb.length)*bytes<=iB/\ds=[.rows sz (ra++rb)]:=by
 cases x<;>cases y<;>simp only[aY.run]at h<;>first|cases h|skip
 rename_i s1 ra s2 rb;split at h
 ·rename_i h1
  obtain⟨rfl,rfl,h2,h3⟩:=h1;simp only[Option.some.injEq]at h;refine⟨ra,rb,rfl,rfl,fun hf=>?_,h3,h.symm⟩;rw[hf]at h2;simp only[Bool.not_true,Bool.false_or,Ob8]at h2;exact fun r hr d hd=>h2 r hr d hd
 ·cases h
theorem XOk.ofRp {v:Value}{ra:List (List D)}{sz md r mr:Nat}{pq:List Nat}{updX:List (Nat×aN)}(h:Rp G.own w r pq md v (.rows sz ra))(h1:1<=md){X:aI}{k:Nat}(hk:σ (kR r)=some (.root X mr k .live))
  (hu:(pq=[]/\updX=[(kR r,.root (.c .hole) 0 0 .gone)])\/(∃ X',updX=[(kR r,.root X' mr (k+1) .live)]/\Upd pq (X.val ρ) .hole (X'.val ρ)/\wB G.own w r [] (G.hdr r) pq v/\pq.length<mr)) :
  ∃ A b n cap vs,XOk σ ρ G w v ra sz md updX (some (r,pq,mr)) A b n cap vs:=by
 obtain⟨m',rfl⟩:∃ m',md=m'+1:=⟨md-1,by omega⟩;obtain⟨A,b,n,c,vs,e1,e2,e3,e4,e5,e6,e7,e8⟩:=h.sl_inv;refine⟨A,b,n,c,vs,⟨e1,e2,e3,e5,e7⟩,?_,fun hA=>⟨r,pq,mr,rfl,(e6 hA).2.1⟩,fun hA=>(e6 hA).2.2,fun i row hi j d hj=>⟨r,pq,mr,rfl,e8 i row hi j d hj⟩,h1,.inr ⟨r,pq,mr,X,k,rfl,hk,hu⟩⟩
 rcases e4 with e4|e4
 ·exact .inl ⟨e4,(e6 e4).1⟩
 ·exact .inr e4
theorem Bb8 (hR:R E.ntmps F σ ρ a w G)(hd:eG E.ntmps o){nb nr nv:Nat}(hf:Aal σ nb nr){t tx e:TypeId}{ti:TI}{info:TypeInfo}{u u':TypeDesc}{x y:Operand}{args:Array Operand}{argTypes:Array TypeId}
  (ho:o.op=.call { callee:=.builtin .append,args,argTypes }) (dj:args.toList=[x,y]) (j9:argTypes=#[t,tx]) (hu:P.underlying t=some (.slice e)) (f:bU P e ti info u) (hx:P.underlying tx=some u') (rk:∃ e',u'=.slice e')
  (zy:0<ti.bytes) (hs0:0<ti.size) {ys:SlR} (yf:Sap σ ρ G w ys (a.eval y)) {dy:Nat} {fR:List (Nat×aN)} {ry:List Nat} (hY:(Oa5 (Jay ti.cells) ys).eval σ=some (dy,fR,ry))
  {sx:aI} {m:Nat} {pre:List Step} {updX:List (Nat×aN)} (ba:aJ cf ρ none nv (pre++[.prim (.app ti.size ti.bytes (Jay ti.cells)) [sx,ys.x] 1]))
  (hXs:∀ ra,sx.val ρ=.rows ti.size ra->∃ src A b n cap vs,XOk σ ρ G w (a.eval x) ra ti.size m updX src A b n cap vs/\∀ r pq mr,src=some (r,pq,mr)->r∉ry\/Jay ti.cells=true) :
  o.wp P a w (Nx E.ntmps F σ ρ (dE o none (.one (.ex nr))++((kR nr,.root (.v (nv+bD pre)) (bif Jay ti.cells then big else min m dy) 0 .live)::updX++fR))) Q:=by
 obtain⟨-,lj⟩:=aJ.append ba;obtain⟨d,h1,h2⟩:=yV lj.1 (show gOn ρ none=true from rfl);simp only[Ob1,Pba]at h1;obtain⟨ra,rb,e1,e2,e3,e4,e5⟩:=Bb7 h1;simp only[List.cons.injEq,and_true]at e5;obtain⟨src,A,b,n,cap,vs,hX,mz⟩:=hXs ra e1;obtain⟨jz,la,hYo⟩:=Ibh hR yf e2 (fun fX r hr d hd=>e3 fX r (Obk _ hr) d hd) hY;obtain⟨By,yu,n',ky,s4,pA,hYb,hYc⟩:=hYo.side;have om:(nT vs n ti.size).length=n*ti.size:=pE _ _ _;have ln:(nT s4 n' ti.size).length=n'*ti.size:=pE _ _ _;have zt:=Gaz hX.side.rows hX.side.cell;have sg:=Gaz pA.rows pA.cell;rw[hX.side.len]at zt;rw[pA.len]at sg
 have a0f:∀ u∈nT s4 n' ti.size,u.oneCell'=true:=by
  intro u hu;obtain⟨k,hk⟩:=List.mem_iff_getElem?.1 hu;obtain⟨k1,k2,k3,rfl⟩:=Hat hk;have hr:rb[k / ti.size]?=some (rb[k / ti.size]'(by rw[pA.len];exact k1)):=Obl _;have wh:=pA.rows _ (Obw hr);have lq:(rb[k / ti.size]'(by rw[pA.len];exact k1))[k % ti.size]?=some _:=Obl (by rw[wh];exact k2)
  rcases hYc _ _ hr _ _ lq with h|⟨_,_,_,h⟩|⟨_,h⟩
  ·exact h.one
  ·exact h.one
  ·exact h.one
 have hM1:1<=(bif Jay ti.cells then big else min m dy):=by
  have:=hX.m;have:=hYo.dy
  cases Jay ti.cells with
  |true=>simp only[cond_true];unfold big;omega
  |false=>simp only[cond_false];omega
 have hM:Jay ti.cells=false->(bif Jay ti.cells then big else min m dy)<=m/\(bif Jay ti.cells then big else min m dy)<=dy:=fun h=>by
  rw[h,cond_false];omega
 have xi:(aI.v (nv+bD pre)).val ρ=.rows ti.size (ra++rb):=h2.trans e5;obtain⟨v,w1,A',cb,gE,grow,bf,hA⟩:=Iak (P:=P) (w:=w) (G:=G) (a:=a) (o:=o) ho dj j9 hu f hx rk (A:=A) (n:=n) (cap:=cap) (n':=n') (b:=b) (olds:=nT vs n ti.size) (news:=nT s4 n' ti.size) hX.side.val hX.side.le hX.base om zt hX.all pA.val hYb ln sg a0f zy hs0 (by rw[<- hX.side.len,<- pA.len];exact e4);exact lK bf (Zal hR hd hf hX hYo pA hYc hA e3 hM1 hM mz xi)
theorem Kan (hR:R E.ntmps F σ ρ a w G)(hd:eG E.ntmps o)(hti:sG P E.ti){nv nb nr:Nat}{mv cL:Bool}(hf:Aal σ nb nr){args:Array Operand}{argTypes:Array TypeId}(ho:o.op=.call { callee:=.builtin .append,args,argTypes })
    {x y:Operand} (dj:args.toList=[x,y]) {t ty:TypeId} {ti ei yi:TI} {e:Nat} (ht:argTypes[0]?=some t) (hty:argTypes[1]?=some ty) (hi:E.ti t=some ti) (he:ti.elem=some e) (xn:E.ti e=some ei) (vc:E.ti ty=some yi)
    (fq:(yi.elem.isSome&&Pbs 0 ei.size&&noG g&&Pbs 0 ei.bytes&&Nat.beq argTypes.size 2)=true) {lx ly:aM} (h1:(rdL E g t x).eval σ=some lx) (h2:(rdL E g ty y).eval σ=some ly) {res:bI}
    (h:(Ha8 nv nr mv cL o ei lx ly).eval σ=some res) (ba:aJ cf ρ g nv res.lets):fV P E F σ ρ a w g o Q res.upd:=by
  simp only[Obh,Pbf,Ob4]at fq;obtain⟨⟨⟨⟨a19,dm⟩,xh⟩,yk⟩,sb⟩:=fq;obtain rfl:=tH xh;refine⟨fun hg=>?_,fun hg=>by simp[gOn]at hg⟩
  have j9:argTypes=#[t,ty]:=by
    apply Rbl;apply Qby;intro k
    match k with
    |0=>simpa using ht
    |1=>simpa using hty
    |k+2=>simp[sb]
  obtain⟨i1,u1,f1⟩:=aV (hti.ok _ _ hi);obtain rfl:=nR f1 he;obtain⟨i2,u2,f2⟩:=aV (hti.ok _ _ xn);obtain⟨i3,u3,f3⟩:=aV (hti.ok _ _ vc);have hu3:=Fag f3 a19;have vg:=eO hR hg h1;have hly:=eO hR hg h2;simp only[Ha8,aA,Obg]at h;obtain⟨ys,h3,⟨dy,fR,ry⟩,h4,h⟩:=h;have yf:=dH hR h3 hly
  have fin:∀ {sx:aI} {m:Nat} {pre:List Step} {updX:List (Nat×aN)},(uW nv nr o ei ys dy fR sx m pre updX).eval σ=some res ->
      (aJ cf ρ none nv pre->∀ ra,sx.val ρ=.rows ei.size ra->∃ src A b n cap vs,XOk σ ρ G w (a.eval x) ra ei.size m updX src A b n cap vs/\∀ r pq mr,src=some (r,pq,mr)->r∉ry\/Jay ei.cells=true) ->
      o.wp P a w (Nx E.ntmps F σ ρ res.upd) Q:=by
    intro sx m pre updX gr hXs;simp only[uW,qE,aF,Option.some.injEq]at gr;subst gr;simp only[Caf];exact Bb8 hR hd hf ho dj j9 f1.und f2 f3.und hu3 yk dm yf h4 ba (hXs (aJ.append ba).1)
  dsimp only at h;split at h
  · rename_i p z
    refine fin h fun _ ra uq=>?_
    simp only[aI.val,D.rows.injEq]at uq;obtain⟨rfl,rfl⟩:=uq;simp only[aB]at vg;have hv:=(vg.2 (by simp)).2.1 trivial _ rfl;exact⟨none,none,⟨0,0,none⟩,0,0,fun _ _=>undef,⟨⟨hv,rfl,Oby _,by simp,by simp⟩,.inr ⟨rfl,rfl⟩,by simp,by simp,by simp,by decide,.inl ⟨rfl,rfl⟩⟩,by simp⟩
  · simp only[aA,Obg]at h
    obtain⟨s,h5,h⟩:=h;have hs:=dH hR h5 vg;split at h
    · rename_i r k m q a7
      simp only[aA,aH,Obg]at h;obtain⟨_,h6,h⟩:=h;split at h6
      case isFalse=>cases h6
      rename_i zj;simp only[Obh,Bool.or_eq_true,Ob6,Pbn]at zj;have mC:=hs.own;unfold rX at mC;rw[a7]at mC;obtain⟨-,⟨X,hk⟩,mC⟩:=mC;have mz:r∉ry\/Jay ei.cells=true:=zj.1.imp (fun h=>xE.1 h) id;split at h
      · refine fin h fun _ ra uq=>?_
        obtain⟨-,fa,-⟩:=mC;simp only[aZ,Pba,List.length_nil,Nat.sub_zero]at fa;rw[uq]at fa;obtain⟨A,b,n,cap,vs,hX⟩:=XOk.ofRp (ρ:=ρ) fa zj.2 hk (updX:=[(kR r,.root (.c .hole) 0 0 .gone)]) (.inl ⟨rfl,rfl⟩)
        exact ⟨_, A, b, n, cap, vs, hX, fun r' pq mr e => by obtain rfl : r = r' := by injection e with e; injection e
                                                             exact mz⟩
      · rw[fZ]at h
        split at h
        · refine fin h fun _ ra uq=>?_
          have fa:Rp G.own w r [] m (a.eval x) (s.x.val ρ):=mC;rw[uq]at fa;obtain⟨A,b,n,cap,vs,hX⟩:=XOk.ofRp (ρ:=ρ) fa zj.2 hk (updX:=[(kR r,.root (.c .hole) 0 0 .gone)]) (.inl ⟨rfl,rfl⟩)
          exact ⟨_, A, b, n, cap, vs, hX, fun r' pq mr e => by obtain rfl : r = r' := by injection e with e; injection e
                                                               exact mz⟩
        · cases h
      · rename_i q cn
        simp only[aA,aH,Obg,aO,Obm]at h;obtain⟨_,h7,h⟩:=h;split at h7
        case isFalse=>cases h7
        rename_i rv;simp only[Obh,Pbn,Ob6]at rv;rw[hk]at h;dsimp only at h;refine fin h fun ew ra uq=>?_
        obtain⟨hqm,fa,kd⟩:=mC;rw[uq]at fa;have mw:=yX hg q nv X (.c .hole) ew;obtain⟨A,b,n,cap,vs,hX⟩:=XOk.ofRp (ρ:=ρ) fa (by omega) hk (.inr ⟨_,rfl,mw,kd,by simp[aZ];omega⟩)
        exact ⟨_, A, b, n, cap, vs, hX, fun r' pq mr e => by obtain rfl : r = r' := by injection e with e; injection e
                                                             exact mz⟩
      · cases h
      · cases h
    · cases h
end
section
variable {P:Program} {E:Env} {F:bC} {n:Nat} {σ:Nat->Option aN} {ρ:List D} {a:Act} {w w':World} {G G':Gh} {g:Option (aI×Bool)} {o:Oper} {cf:Nat->List D->Option (List D)} {Q:Exit->Act->World->Prop} {next:Act->World->Prop}
theorem Gaj:∀ {cs:List CK} {zs:List D},Gak cs=some zs->zs.length=cs.length/\∀ (j:Nat) (c:CK) (d:D),cs[j]?=some c->zs[j]?=some d->∀ (v:Value),zeroCell v c=true->∀ (own:Nat->Ow) (r:Nat) (p:List Nat) (m:Nat),Rp own w r p m v d
 | [], zs, h => by
  simp only[Gak,Option.some.injEq]at h;subst h;simp
 | c :: cs, zs, h => by
  have main:∀ (d0:D),(Gak cs).map (d0::·)=some zs->(∀ v,zeroCell v c=true->∀ (own:Nat->Ow) (r:Nat) (p:List Nat) (m:Nat),Rp own w r p m v d0) ->
    zs.length=(c::cs).length/\∀ (j:Nat) (c':CK) (d:D),(c::cs)[j]?=some c'->zs[j]?=some d->∀ (v:Value),zeroCell v c'=true->∀ (own:Nat->Ow) (r:Nat) (p:List Nat) (m:Nat),Rp own w r p m v d:=by
   intro d0 h0 hd0;simp only[Obr]at h0;obtain⟨zs',h1,rfl⟩:=h0;obtain⟨h2,h3⟩:=Gaj h1;refine⟨by simp[h2],fun j c' d hc hd v hv own r p m=>?_⟩
   cases j with
   | zero =>
    simp only[Obn,Option.some.injEq]at hc hd;subst hc hd;exact hd0 v hv own r p m
   |succ j=>exact h3 j c' d (by simpa using hc) (by simpa using hd) v hv own r p m
  have hz:∀ v,zeroCell v c=true->aB (fun _=>none) [] ⟨fun _=>.frz,fun _=>undef,fun _=>⟨0,0,none⟩⟩ w (eY c) v:=fun v hv=>Ha3 hv
  cases c with
  | sc z =>
   refine main z h fun v hv own r p m=>?_
   have:=hz v hv;simp only[eY,aB,aI.val]at this;exact .sc this
  | sl sz =>
   refine main (.rows sz []) h fun v hv own r p m=>?_
   have:=hz v hv;simp only[eY,aB,aI.val]at this;rw[(this.2 (by simp)).2.1 trivial sz rfl];exact Rp.nil
  |pn=>cases h
  |ot=>cases h
theorem Da4 (hR:R E.ntmps F σ ρ a w G)(hd:eG E.ntmps o)(hti:sG P E.ti){nv nb nr:Nat}{mv cL:Bool}(hf:Aal σ nb nr){t:TypeId}{l c:Operand}(ho:o.op=.makeSlice t l c){res:bI}
  (h:(nI E mv cL nv nb nr g o).eval σ=some res) (ba:aJ cf ρ g nv res.lets):fV P E F σ ρ a w g o Q res.upd:=by
 simp only[nI,ho,aA,Obg,tiR,aS,aH]at h;obtain⟨st,h1,e,h2,ti,h3,_,h4,xl,h5,xc,h6,_,h7,zs,h8,h⟩:=h;split at h4
 case isFalse=>cases h4
 rename_i xh;obtain rfl:=tH xh;split at h7
 case isFalse=>cases h7
 rename_i rv;simp only[Obh,Pbf]at rv;obtain⟨⟨hxx,dm⟩,yk⟩:=rv;obtain rfl:=aI.beq0_eq hxx;obtain⟨info,u,f⟩:=aV (hti.ok _ _ h1);obtain rfl:=nR f h2;obtain⟨hJ,u',f'⟩:=aV (hti.ok _ _ h3);simp only[qE,aF,Option.some.injEq]at h;subst h;simp only[Caf];refine⟨fun hg=>?_,fun hg=>by simp[gOn]at hg⟩;obtain⟨d,gp,qi⟩:=fC ba hg;have hl:=iJ hR hg h5;have hc:=iJ hR hg h6;simp only[Ob1,Pba]at gp;generalize zf:xl.val ρ=xv at gp hl hc;cases xv<;>simp only[aY.run]at gp<;>first|cases gp|skip
 rename_i k len;split at gp
 case isFalse=>cases gp
 rename_i hlen;obtain⟨h0,hbound⟩:=hlen;simp only[Option.some.injEq,List.cons.injEq,and_true]at gp;obtain⟨z,qe,pD,-,hz3⟩:=f'.zeros (σ:=σ) (ρ:=ρ) (G:=G) (w:=w);obtain⟨wA,wy⟩:=Gaj (w:=pushB w (madeCells z.cells (len.toNat*hJ.size)) e) h8;have ju:=f'.len;have yt:z.cells.size=ti.size:=by rw[<- Qbk,pD.len,Ob7,ju]
 have ar:len.toNat*1<=len.toNat*ti.bytes:=Nat.mul_le_mul_left _ yk;unfold iB at hbound
 have bf:(execOp a.eval o).run P w=.ok (.value (.slice (some ⟨w.heap.size,0,none⟩) len.toNat len.toNat)) (pushB w (madeCells z.cells (len.toNat*hJ.size)) e):=by
  unfold execOp;simp only[ho];refine fA ?_;rw[hl.int_inv,hc.int_inv]
  have oi:(hJ.bytes:Int)*len<=281474976710656:=by
   rw[<- f'.bytes];have:((ti.bytes*len.toNat:Nat):Int)<=281474976710656:=by rw[Nat.mul_comm]at hbound;omega
   rw[Int.natCast_mul]at this;rwa[show ((len.toNat:Nat):Int)=len by omega]at this
  exact run_make w t e hJ z f.und f'.info_ qe k k len len h0 (Int.le_refl _) oi (by omega)
 have ie:σ (kR nr)=none:=hf.nr nr (Oby _) (by unfold bN;omega);have ko:∀ r,(σ (kR r)).isSome->r≠nr:=fun r hr e=>by rw[e,ie]at hr;cases hr
 have k9:∀ b,G.own b≠.frz->b<w.heap.size:=fun b hb=>by
  rcases Ob2 b w.heap.size with h|h
  ·exact h
  ·exact absurd (hR.frame.fresh b h) hb
 refine lK bf ⟨{ G with own:=fun b=>if b=w.heap.size then .slc nr [] else G.own b,hdr:=fun r=>if r=nr then .slice (some ⟨w.heap.size,0,none⟩) len.toNat len.toNat else G.hdr r },?_⟩;refine hR.own hd (wr:=fun _=>False) (f:=fun s p=>.slc s p) ?_ ?_ ?_ ?_ ?_ (fun b ar _=>jZ (by omega)) (fun _ h=>h.elim) (fun _ _ _ _ _=>rfl) ?_ (fun _ _ _ _ _ s p q h=>by injection h with h1 h2;exact⟨h1,h2⟩) ?_ rfl ?_ ?_
 ·intro k c hc
  simp only[Obt,Prod.mk.injEq]at hc;exact⟨nr,hc.1⟩
 ·intro b ar
  show (if b=w.heap.size then Ow.slc nr [] else _)=_
  rw[if_neg (by omega)];cases hb:G.own b<;>rfl
 ·intro b hb
  rw[jR]at hb;show (if b=w.heap.size then Ow.slc nr [] else G.own b)=.frz
  rw[if_neg (by omega)];exact hR.frame.fresh b (by omega)
 ·exact⟨rfl,rfl,rfl,by rw[jR];omega⟩
 ·intro b hb
  show (if b=w.heap.size then Ow.slc nr [] else G.own b)=.frz\/∃ r p,(if b=w.heap.size then Ow.slc nr [] else G.own b)=.slc r p/\_
  by_cases e:b=w.heap.size
  ·rw[if_pos e];exact .inr ⟨nr,[],rfl,ie⟩
  ·rw[if_neg e];exact .inl (hR.frame.fresh b hb)
 ·intro s c hc _
  simp only[Obt,Prod.mk.injEq]at hc;obtain⟨e1,rfl⟩:=hc;obtain rfl:=dW e1;exact .inl ⟨ie,_,_,_,_,rfl⟩
 ·intro r hr
  show (if r=nr then _ else _)=_
  rw[if_neg (ko r hr)]
 ·intro _ _
  simp only[bR,aB,if_true];exact⟨trivial,dJ _ _ _ (.inr ⟨_,Obk _ (List.mem_singleton.2 rfl)⟩),rfl⟩
 ·intro _ s c hc _
  simp only[Obt,Prod.mk.injEq]at hc;obtain⟨e1,rfl⟩:=hc;obtain rfl:=dW e1;refine⟨_,_,_,_,rfl,?_⟩;simp only[bK,if_true];rw[qi,<- gp];have pB:zs.length=ti.size:=by rw[wA,ju]
  have lA:∀ k,k<len.toNat*ti.size->(madeCells z.cells (len.toNat*hJ.size))[k]?=z.cells[k % ti.size]?:=by
   intro k hk;unfold madeCells;rw[Za0 _ (by omega) _ _ (by rw[<- f'.size];exact hk),yt]
  have kk:∀ i row,(Ob3 len.toNat zs)[i]?=some row->∀ j d,row[j]?=some d->i<len.toNat/\row=zs/\j<ti.size/\i*ti.size+j<len.toNat*ti.size/\(i*ti.size+j) % ti.size=j:=by
   intro i row hi j d hj;rw[List.getElem?_replicate]at hi;split at hi
   case isFalse=>cases hi
   rename_i oh;obtain rfl:=Option.some.inj hi;have l7:j<ti.size:=by rw[<- pB];exact (List.getElem?_eq_some_iff.1 hj).1
   have:=Nat.mul_le_mul_right ti.size (show i+1<=len.toNat by omega);rw[Nat.add_mul]at this;exact⟨oh,rfl,l7,by omega,by rw[Nat.mul_comm,Nat.mul_add_mod,Nat.mod_eq_of_lt l7]⟩
  refine .sl _ ⟨w.heap.size,0,none⟩ len.toNat len.toNat zs.length _ (fun i j=>z.cells[j]!) (by simp) (Oby _) (.inl rfl) (fun row hr=>?_) (fun _=>⟨rfl,by simp,fun k hk=>?_⟩) (fun i row hi j d hj=>?_) (fun i row hi j d hj=>?_)
  ·rw[List.eq_of_mem_replicate hr]
  ·rw[pB]at hk
   rw[lZ,sW,lA k hk];have hk2:k % ti.size<z.cells.size:=by rw[yt];exact Nat.mod_lt _ dm
   exact⟨_,Pbd hk2,rfl⟩
  ·obtain⟨i1,rfl,i3,i4,i5⟩:=kk i row hi j d hj
   rw[lZ,pB,lA _ i4,i5,getElem!_pos z.cells j (by omega),Pbd]
  ·obtain⟨i1,rfl,i3,i4,i5⟩:=kk i row hi j d hj
   have ia:ti.cells[j]?=some ti.cells[j]:=Obl (by omega);exact wy j _ d ia hj _ (hz3 j _ _ (by rw[getElem!_pos z.cells j (by omega),Pbd]) ia) _ _ _ _
theorem Nan (hR:R E.ntmps F σ ρ a w G)(hd:eG E.ntmps o)(hti:sG P E.ti){nv:Nat}{args:Array Operand}{argTypes:Array TypeId}(ho:o.op=.call { callee:=.builtin .clear,args,argTypes })
  {x:Operand} (dj:args.toList=[x]) {t e:TypeId} {ti ei:TI} (ht:argTypes[0]?=some t) (hi:E.ti t=some ti) (he:ti.elem=some e) (xn:E.ti e=some ei) (fq:(noG g&&Nat.beq argTypes.size 1)=true) {l:aM} (hl:(rdL E g t x).eval σ=some l) {res:bI}
  (h:(Naf nv o ei l).eval σ=some res) (ba:aJ cf ρ g nv res.lets):fV P E F σ ρ a w g o Q res.upd:=by
 simp only[Obh,Ob4]at fq;obtain rfl:=tH fq.1
 have j9:argTypes=#[t]:=by
  apply Rbl;apply Qby;intro k
  match k with
  |0=>simpa using ht
  |k+1=>simp[fq.2]
 simp only[Naf,aA,Obg]at h;obtain⟨s,h1,h⟩:=h;split at h
 case h_2=>cases h
 rename_i r k m sz lo a7;simp only[aA,aH,Obg,aO,Obm]at h;obtain⟨_,h2,h⟩:=h;split at h2
 case isFalse=>cases h2
 rename_i hb;simp only[Obh,Ob4,Pbn]at hb;obtain⟨⟨rfl,a2a⟩,nn⟩:=hb;split at h
 case h_2=>cases h
 rename_i X m' aE hk;simp only[aF,Option.some.injEq]at h;subst h;refine⟨fun hg=>?_,fun hg=>by simp[gOn]at hg⟩;obtain⟨i1,u1,f1⟩:=aV (hti.ok _ _ hi);obtain rfl:=nR f1 he;obtain⟨i2,u2,f2⟩:=aV (hti.ok _ _ xn);have vg:=eO hR hg hl;have gi:=dH hR h1 vg;have mC:=gi.own;unfold rX at mC;rw[a7]at mC;obtain⟨-,⟨X0,lR⟩,hsuf⟩:=mC;rw[hk]at lR
 obtain⟨rfl,rfl,rfl⟩:X=X0/\m'=m/\aE=k:=by
  injection lR with e;injection e with e1 e2 e3 e4;exact⟨e1,e2,e3⟩
 have eA:=hR.root hk;simp only[bK]at eA;obtain⟨d,gp,qi⟩:=fC ba hg;simp only[Ob1,Pba]at gp
 obtain⟨rs,ki,L,eX,eL,hL0,ed⟩:∃ rs ki L,X.val ρ=.rows 1 rs/\lo.val ρ=.int ki L/\0<=L/\d=.rows 1 (rs.take L.toNat++(rs.drop L.toNat).map fun r=>r.map fun _=>.hole):=by
  cases eX:X.val ρ<;>cases eL:lo.val ρ<;>rw[eX,eL]at gp<;>simp only[aY.run]at gp<;>first|cases gp|skip
  split at gp
  ·rename_i hc
   obtain⟨rfl,hc⟩:=hc;simp only[Option.some.injEq,List.cons.injEq,and_true]at gp;exact⟨_,_,_,rfl,rfl,hc,gp.symm⟩
  ·cases gp
 have kk:jS ρ lo=L.toNat:=by unfold jS;rw[eL]
 dsimp only at hsuf;rw[kk]at hsuf;rw[eX]at eA;obtain⟨md,rfl⟩:∃ md,m'=md+1:=⟨m'-1,by omega⟩;obtain⟨A,b,n,c,vs,j1,j2,j3,j4,j5,j6,j7,j8⟩:=eA.sl_inv;obtain⟨A',n',c',k1,k2,k3⟩:=hsuf;rw[j1]at k1;obtain⟨rfl,rfl,rfl⟩:A=A'/\n=n'/\c=c':=by injection k1 with a b c;exact⟨a,b,c⟩
 obtain⟨z,qe,pD,hz3,-⟩:=f2.zeros (σ:=σ) (ρ:=ρ) (G:=G) (w:=w);have wA:z.cells.size=1:=by rw[<- Qbk,pD.len,Ob7,f2.len,a2a]
 generalize hZ:(Builtin.zeroCells z.cells (n-L.toNat)).toList=Z;have hZl:Z.length=n-L.toNat:=by rw[<- hZ];simp[Builtin.zeroCells,wA]
 have hZ1:∀ u∈Z,u.oneCell'=true:=by
  intro u hu;rw[<- hZ,Builtin.zeroCells,Array.mem_toList_iff,Array.mem_map]at hu;obtain⟨i,hi,rfl⟩:=hu;have ar:i % z.cells.size<z.cells.size:=Nat.mod_lt _ (by omega);rw[getElem!_pos z.cells _ ar];exact hz3 _ (Array.getElem_mem_toList ar)
 have jn:∀ {v:Value} {w1:World},(Builtin.clear_ #[t] o.type #[a.eval x]).run P w=.ok v w1->(execOp a.eval o).run P w=.ok (.value v) w1:=by
  intro v w1 h;refine kN ho (s:=Builtin.clear_ argTypes o.type (args.map a.eval)) (fun _=>rfl) ?_;rw[Jao dj,Na6,j9];exact h
 rw[k3]at jn
 obtain⟨w',bf,hw⟩:∃ w',(execOp a.eval o).run P w=.ok (.value (.tuple #[])) w'/\((n=L.toNat/\w'=w)\/(L.toNat<n/\A=some b/\w'=w.setCells b.block (b.off+L.toNat) Z)):=by
  rcases Ob2 L.toNat n with ar|ma
  ·obtain rfl:A=some b:=by
    rcases j4 with h|⟨-,h⟩
    ·exact h
    ·omega
   obtain⟨im,ov,cD⟩:=j6 rfl
   have cG:∀ j,j<Z.length->∃ u,w.cell? ⟨b.block,b.off+L.toNat+j,none⟩=some u/\w.frozen? ⟨b.block,b.off+L.toNat+j,none⟩=false:=fun j hj=>by
    have:=cD (L.toNat+j) (by omega);rw[add_plain im,<- Ob0]at this;exact this
   have ba:=run_storeCells_cells (P:=P) b.block (b.off+L.toNat) Z 0 w (fun j hj=>by obtain⟨u,h1,-⟩:=cG j hj;rw[Pbb,h1];rfl) (fun j hj=>by rw[Pbb];exact (cG j hj).choose_spec.2) hZ1;refine⟨_,jn ?_,.inr ⟨ar,rfl,rfl⟩⟩;obtain⟨q,hq⟩:∃ q,n-L.toNat=q+1:=⟨n-L.toNat-1,by omega⟩;rw[if_neg (by omega),hq];rw[hq]at hZ;simp only[Option.map_some,Nat.mul_one,add_plain im];simp only[Pbb]at ba;simp[Builtin.clear_,run_underlying f1.und,jY f2.info_ qe,hZ,ba]
  ·refine⟨w,jn ?_,.inl ⟨by omega,rfl⟩⟩
   have e0:n-L.toNat=0:=by omega
   rw[e0];simp only[Builtin.clear_];cases (if c=L.toNat then A else A.map (·.add (L.toNat*1)))<;>simp[run_underlying f1.und]
 have qT:w'.os=w.os/\w'.tape=w.tape/\w'.output=w.output/\w.heap.size<=w'.heap.size:=by
  rcases hw with ⟨-,rfl⟩|⟨-,-,rfl⟩
  ·exact⟨rfl,rfl,rfl,Oby _⟩
  ·obtain⟨q1,q2,q3⟩:=jX b.block Z (b.off+L.toNat) w
   exact⟨q1,q2,q3,by rw[setCells_size];exact Oby _⟩
 have sb:w'.heap.size=w.heap.size:=by
  rcases hw with ⟨-,rfl⟩|⟨-,-,rfl⟩
  ·rfl
  ·rw[setCells_size]
 have b8:∀ b',¬ (A=some b/\b'=b.block)->w'.heap[b']?=w.heap[b']?:=by
  intro b' cF
  rcases hw with ⟨-,rfl⟩|⟨-,hA,rfl⟩
  ·rfl
  ·exact dG _ _ _ _ _ fun e=>cF ⟨hA,e⟩
 refine lK bf ⟨G,?_⟩
 have gr:=hR.own (o:=o) hd (g:=none) (sv:=.dead) (v:=.tuple #[]) (w':=w') (G':=G) (ur:=[(kR r,.root (.v nv) (md+1) (aE+1) .live)]) (f:=fun s p=>.slc s p) (wr:=fun b'=>A=some b/\b'=b.block)
  ?_ (fun b' _=>by cases hb:G.own b'<;>rfl) (fun b' hb=>hR.frame.fresh b' (by omega)) qT (fun b' hb=>.inl (hR.frame.fresh b' hb)) (fun b' _ hb=>b8 b' hb) ?_ (fun _ _ _ _ _=>rfl) ?_ (fun _ _ _ _ _ s p q h=>by injection h with h1 h2;exact⟨h1,h2⟩) (fun _ _=>rfl) rfl (fun _ _=>trivial) ?_
 ·exact gr
 ·intro k' c' hc
  exact⟨r,(Prod.mk.inj (List.mem_singleton.1 hc)).1⟩
 ·rintro b' ⟨hA,rfl⟩
  exact⟨r,[],(j6 hA).2.1,_,List.mem_singleton.2 rfl⟩
 ·intro s' c' hc _
  obtain⟨e1,rfl⟩:=Prod.mk.inj (List.mem_singleton.1 hc);obtain rfl:=dW e1;exact .inr (.inl ⟨_,_,_,_,_,hk,rfl⟩)
 ·intro _ s' c' hc _
  obtain⟨e1,rfl⟩:=Prod.mk.inj (List.mem_singleton.1 hc);obtain rfl:=dW e1;refine⟨_,_,_,_,rfl,?_⟩;simp only[bK];rw[qi,ed,j1]
  have gx:∀ k u,w.cell? (b.add k)=some u->A=some b->(k<L.toNat->w'.cell? (b.add k)=some u)/\(∃ u',w'.cell? (b.add k)=some u')/\w'.frozen? (b.add k)=w.frozen? (b.add k):=by
   intro k u hc hA;obtain⟨im,ov,cD⟩:=j6 hA
   rcases hw with ⟨-,rfl⟩|⟨ar,-,rfl⟩
   ·exact⟨fun _=>hc,⟨u,hc⟩,rfl⟩
   ·refine⟨fun hk=>?_,?_,World.frozen?_setCells _ _ _ _ _⟩
    ·rw[add_plain im]at hc ⊢
     rw[World.cell?_setCells_out _ _ _ _ _ (fun _ _=>.inl (by dsimp only;omega))];exact hc
    ·exact lN (fun _=>by rw[add_plain im]) (fun j hj=>by
      obtain⟨u',h1,-⟩:=cD (L.toNat+j) (by omega);rw[add_plain im,<- Ob0]at h1;rw[h1];rfl) hc
  have vt:∀ i,i<n->A=some b:=fun i hi=>by
   rcases j4 with h|⟨-,h⟩
   ·exact h
   ·omega
  have gR:∀ i row,(rs.take L.toNat++(rs.drop L.toNat).map fun r=>r.map fun _=>D.hole)[i]?=some row->(i<L.toNat/\rs[i]?=some row)\/(L.toNat<=i/\∃ row0,rs[i]?=some row0/\row=row0.map fun _=>D.hole):=by
   intro i row hi;have om:(rs.take L.toNat).length=L.toNat:=by rw[Pb3];omega
   rcases Ob2 i L.toNat with ar|ma
   ·rw[Obx (by omega),List.getElem?_take,if_pos ar]at hi
    exact .inl ⟨ar,hi⟩
   ·rw[Obz (by omega),om,Ob5,Obr]at hi
    obtain⟨row0,h1,rfl⟩:=hi;rw[List.getElem?_drop,show L.toNat+(i-L.toNat)=i by omega]at h1;exact .inr ⟨ma,row0,h1,rfl⟩
  refine .sl A b n c 1 _ (fun i j=>if i<L.toNat then vs i j else (w'.cell? (b.add (i*1+j))).getD undef) ?_ j3 j4 ?_ (fun hA=>?_) (fun i row hi j d hj=>?_) (fun i row hi j d hj=>?_)
  ·rw[Obv,Pb3,Ob7,List.length_drop];omega
  ·intro row hr
   obtain⟨i,hi⟩:=List.mem_iff_getElem?.1 hr
   rcases gR i row hi with ⟨-,h⟩|⟨-,row0,h,rfl⟩
   ·exact j5 row (Obw h)
   ·rw[Ob7];exact j5 row0 (Obw h)
  ·obtain⟨im,ov,cD⟩:=j6 hA
   refine⟨im,ov,fun k hk=>?_⟩;obtain⟨u,hu,hf⟩:=cD k hk;obtain⟨-,⟨u',h1⟩,h2⟩:=gx k u hu hA;exact⟨u',h1,h2.trans hf⟩
  ·rcases gR i row hi with ⟨ar,h⟩|⟨ma,row0,h,rfl⟩
   ·rw[if_pos ar]
    have l7:j<1:=by rw[<- j5 row (Obw h)];exact (List.getElem?_eq_some_iff.1 hj).1
    exact (gx _ _ (j7 i row h j d hj) (vt i (by rw[<- j2];exact (List.getElem?_eq_some_iff.1 h).1))).1 (by omega)
   ·rw[if_neg (by omega)]
    rw[Ob5,Obr]at hj;obtain⟨d0,hj,-⟩:=hj;obtain⟨-,⟨u',h1⟩,-⟩:=gx _ _ (j7 i row0 h j d0 hj) (vt i (by rw[<- j2];exact (List.getElem?_eq_some_iff.1 h).1));rw[h1];rfl
  ·rcases gR i row hi with ⟨ar,h⟩|⟨ma,row0,h,rfl⟩
   ·rw[if_pos ar]
    have h1:=j8 i row h j d hj;have:=h1.mono' (own':=G.own) (w':=w') (r':=s') (q:=[i*1+j]) (q':=[i*1+j]) (fun b' hb _=>⟨hb,b8 b' fun ⟨hA,e⟩=>by rw[e,(j6 hA).2.1]at hb;cases hb⟩) [] (by simp) (fun b' t' hb=>⟨hb,b8 b' fun ⟨hA,e⟩=>by rw[e,(j6 hA).2.1]at hb;injection hb with _ hb;simp at hb⟩);simpa using this
   ·rw[if_neg (by omega)]
    rw[Ob5,Obr]at hj;obtain⟨d0,hj,rfl⟩:=hj;refine .hole _ ?_;have oh:i<n:=by rw[<- j2];exact (List.getElem?_eq_some_iff.1 h).1
    have hA:=vt i oh
    rcases hw with ⟨hn,-⟩|⟨ar,-,rfl⟩
    ·omega
    ·obtain⟨im,ov,cD⟩:=j6 hA
     have l7:j<1:=by rw[<- j5 row0 (Obw h)];exact (List.getElem?_eq_some_iff.1 hj).1
     have xq:i-L.toNat<Z.length:=by omega
     have:=World.cell?_setCells_in b.block Z (b.off+L.toNat) w (fun j hj=>by obtain⟨u,h1,-⟩:=cD (L.toNat+j) (by omega);rw[add_plain im,<- Ob0]at h1;rw[h1];rfl) (i-L.toNat) xq;rw[show b.off+L.toNat+(i-L.toNat)=b.off+(i*1+j) by omega]at this;rw[add_plain im,this];exact hZ1 _ (List.getElem_mem xq)
end
section
variable {P:Program} {E:Env} {F:bC} {n:Nat} {σ:Nat->Option aN} {ρ:List D} {a:Act} {w w':World} {G G':Gh} {g:Option (aI×Bool)} {o:Oper} {cf:Nat->List D->Option (List D)} {Q:Exit->Act->World->Prop} {next:Act->World->Prop}
theorem Da3 (hR:R E.ntmps F σ ρ a w G)(hti:sG P E.ti){nv nb nr:Nat}{mv cL:Bool}{t:TypeId}{x y:Operand}(ho:o.op=.store t x y){res:bI}
  (h:(nI E mv cL nv nb nr g o).eval σ=some res) (ba:aJ cf ρ g nv res.lets):fV P E F σ ρ a w g o Q res.upd:=by
 simp only[nI,ho,aA,Obg,tiR,aS]at h;obtain⟨ti,h1,p,h2,sv,h3,h⟩:=h;split at h
 case h_2=>cases h
 rename_i ls qt;have hx:gOn ρ g=true->aB σ ρ G w p (a.eval x):=fun hg=>eO hR hg h2
 have hy:gOn ρ g=true->bR σ ρ G w sv (a.eval y):=fun hg=>fF hR hg h3
 cases p with
 |px b off=>exact Fa5 hR hti ho h1 hx hy qt h
 |pe l sz i off=>exact Fa6 hR hti ho h1 hx hy qt h ba
 | _ =>
  simp only[Aas,aA,aH,Obg,bJ]at h;obtain⟨_,_,h⟩:=h;cases h
theorem Ca4 (hR:R E.ntmps F σ ρ a w G)(hd:eG E.ntmps o)(hti:sG P E.ti){nv nb nr:Nat}{mv cL:Bool}(hf:Aal σ nb nr){res:bI}
  (h:(nI E mv cL nv nb nr g o).eval σ=some res) (ba:aJ cf ρ g nv res.lets)
  (ic:∀ f args argTypes,o.op=.call { callee:=.value f,args,argTypes }->fV P E F σ ρ a w g o Q res.upd):fV P E F σ ρ a w g o Q res.upd:=by
 have h0:=h
 cases ho:o.op with
 | move x =>
  simp only[nI,ho]at h;exact Gav hR hd (.inl ho) h ba
 | assign x =>
  simp only[nI,ho]at h;exact Gav hR hd (.inr ho) h ba
 | pick c x y =>
  simp only[nI,ho]at h;exact Qa7 hR hd ho h ba
 |alloc e=>exact Nap hR hd hti hf ho h ba
 |box e x=>exact Taf hR hd hti hf ho h ba
 |build t parts=>exact Nao hR hd hti ho h ba
 |buildSlice t len parts=>exact rJ hR hd hti (hf.nr nr (Oby _) (by unfold bN;omega)) ho h ba
 | load t x =>
  simp only[nI,ho,aA,Obg,tiR,aS]at h;obtain⟨ti,h1,p,h2,h⟩:=h;exact Qa8 hR hd hti ho h1 (fun hg=>eO hR hg h2) h ba
 |store t x y=>exact Da3 hR hti ho h ba
 | nilCheck x =>
  simp only[nI,ho]at h;exact Fa7 hR hd ho h ba
 | binOp op t x y ty =>
  by_cases h1:op=.eql
  ·subst h1
   simp only[nI,ho]at h;exact Pad hR hd hti ho rfl h ba
  ·by_cases h2:op=.neq
   ·subst h2
    simp only[nI,ho]at h;exact Pad hR hd hti ho rfl h ba
   ·have h':(do
      let a <- rdA E g t x
      let b <- rdA E g ty y
      qD o g nv (.bin op) [a,b]:RdM bI).eval σ=some res:=by
     simp only[nI,ho]at h;cases op<;>first|exact h|(exact absurd rfl h1)|(exact absurd rfl h2)
    simp only[aA,Obg]at h';obtain⟨x',h3,y',h4,h5⟩:=h';exact Kam hR hd ho (fun hg=>iJ hR hg h3) (fun hg=>iJ hR hg h4) h5 ba
 | unOp op t x =>
  simp only[nI,ho]at h;exact Xat hR hd ho h ba
 | convert src dst x =>
  simp only[nI,ho,aA,Obg,tiR,aS]at h;obtain⟨s,h1,d,h2,h⟩:=h;split at h
  ·rename_i k hk
   simp only[aA,Obg,aH]at h;obtain⟨_,h3,x',h4,h⟩:=h;split at h3
   case isFalse=>cases h3
   rename_i hs;exact Qa9 hR hd hti ho h1 hs h2 hk h4 h ba
  ·rw[fZ]at h
   split at h
   case isFalse=>cases h
   rename_i yx;rw[fZ]at h;split at h
   ·rename_i hsS
    simp only[aA,Obg]at h;obtain⟨x',h4,h⟩:=h;exact Kak hR hd hti ho h1 hsS h2 yx h4 h ba
   ·simp only[aA,Obg,aH,aS]at h
    obtain⟨e,h3,ei,h4,_,h5,l,h6,r,h7,h⟩:=h;split at h5
    case isFalse=>cases h5
    rename_i hk;exact Raa hR hd hti ho h1 h3 h4 hk h2 yx h6 h7 h ba
 | makeFunc fn first eN =>
  cases fn with
  | func fn =>
   simp only[nI,ho]at h;exact Fa8 hR hd ho h ba
  |_=>simp only[nI,ho]at h;cases h
 |makeSlice t l c=>exact Da4 hR hd hti hf ho h ba
 |slice t x lo hi mx=>exact Nak hR hd hti ho h ba
 | fieldAddr t x k =>
  simp only[nI,ho,aA,Obg,tiR,aS]at h;obtain⟨ti,h1,h⟩:=h;split at h
  case h_2=>cases h
  rename_i off ft fX;simp only[aA,Obg,aH,aS]at h;obtain⟨fi,h2,_,h3,p,h4,h⟩:=h;split at h3
  case isFalse=>cases h3
  rename_i lE;exact Da6 hR hd hti ho h1 fX h2 (by simpa using lE) (by simp only[aA,Obg];exact⟨p,h4,h⟩) ba
 | field t x k =>
  simp only[nI,ho,aA,Obg,tiR,aS]at h;obtain⟨ti,h1,h⟩:=h;split at h
  case h_2=>cases h
  rename_i off ft fX;simp only[aA,Obg,aS]at h;obtain⟨fi,h2,sv,h3,h⟩:=h;exact Nam hR hd hti ho h1 fX h2 (by simp only[aA,Obg];exact⟨sv,h3,h⟩) ba
 | indexAddr t x i =>
  simp only[nI,ho,aA,Obg,tiR,aS]at h;obtain⟨ti,h1,e,h2,ei,h3,l,h4,s,h5,y,h6,u,h7,h⟩:=h;exact Da5 hR hd hti ho h1 h2 h3 (by simp only[aA,Obg];exact⟨l,h4,s,h5,y,h6,u,h7,h⟩) ba
 | index t x i =>
  simp only[nI,ho,aA,Obg,tiR,aS]at h;obtain⟨ti,h1,h⟩:=h;exact Nal hR hd hti ho h1 (by simp only[aA,Obg];exact h) ba
 | extract x i =>
  simp only[nI,ho]at h;exact Iag hR hd ho h ba
 | call c =>
  obtain⟨callee,args,argTypes⟩:=c
  cases callee with
  |value f=>exact ic f args argTypes ho
  |invoke recv name=>simp only[nI,ho]at h;cases h
  | builtin b =>
   simp only[nI,ho]at h
   cases dj:args.toList with
   | nil =>
    rw[dj]at h;cases b<;>first|(cases h;done)|skip
    all_goals
     simp only[aA,Obg,aS]at h;obtain⟨oa,h1,as,h2,h⟩:=h;obtain⟨ls,h3,h4⟩:=h2
     first
     |exact gN hR hd (.inl ⟨rfl,rfl,rfl⟩) ho (by rw[dj];exact h1) h3 h4 h ba
     |exact gN hR hd (.inr ⟨rfl,rfl,rfl⟩) ho (by rw[dj];exact h1) h3 h4 h ba
   | cons x xs =>
    rw[dj]at h
    cases xs with
    | nil =>
     cases b<;>first|(cases h;done)|skip
     ·simp only[aA,Obg,aS,tiR,aH]at h
      obtain⟨t,h1,ti,h2,e,h3,ei,h4,_,h5,l,h6,h⟩:=h;split at h5
      case isFalse=>cases h5
      rename_i fq;exact Nan hR hd hti ho dj h1 h2 h3 h4 fq h6 h ba
     ·simp only[aA,Obg,aS,tiR]at h
      obtain⟨t,h1,ti,h2,h⟩:=h;exact Tae hR hd hti ho dj h1 h2 (by simp only[aA,Obg];exact h) ba
     all_goals
      simp only[aA,Obg,aS]at h;obtain⟨oa,h1,as,h2,h⟩:=h;obtain⟨ls,h3,h4⟩:=h2
      first
      |exact gN hR hd (.inl ⟨rfl,rfl,rfl⟩) ho (by rw[dj];exact h1) h3 h4 h ba
      |exact gN hR hd (.inr ⟨rfl,rfl,rfl⟩) ho (by rw[dj];exact h1) h3 h4 h ba
    | cons y ys =>
     cases ys with
     | nil =>
      cases b<;>first|(cases h;done)|skip
      ·simp only[aA,Obg,aS,tiR,aH]at h
       obtain⟨t,h1,ty,h2,ti,h3,e,h4,ei,h5,yi,h6,_,h7,lx,h8,ly,h9,h⟩:=h;split at h7
       case isFalse=>cases h7
       rename_i fq;exact Kan hR hd hti hf ho dj h1 h2 h3 h4 h5 h6 fq h8 h9 h ba
      all_goals
       simp only[aA,Obg,aS]at h;obtain⟨oa,h1,as,h2,h⟩:=h;obtain⟨ls,h3,h4⟩:=h2
       first
       |exact gN hR hd (.inl ⟨rfl,rfl,rfl⟩) ho (by rw[dj];exact h1) h3 h4 h ba
       |exact gN hR hd (.inr ⟨rfl,rfl,rfl⟩) ho (by rw[dj];exact h1) h3 h4 h ba
     | cons z zs =>
      cases b<;>first|(cases h;done)|skip
      all_goals
       simp only[aA,Obg,aS]at h;obtain⟨oa,h1,as,h2,h⟩:=h;obtain⟨ls,h3,h4⟩:=h2
       first
       |exact gN hR hd (.inl ⟨rfl,rfl,rfl⟩) ho (by rw[dj];exact h1) h3 h4 h ba
       |exact gN hR hd (.inr ⟨rfl,rfl,rfl⟩) ho (by rw[dj];exact h1) h3 h4 h ba
 |_=>simp only[nI,ho]at h;cases h
end
theorem Tr.get_set {α:Type}:∀ (d:Nat) (t:Tr α) (n m:Nat) (x:Option α),(Tr.set d t n x).get m=if m=n then x else t.get m
 | 0, t, n, m, x => by
  simp only[Tr.set,Tr.get];by_cases h:m=n
  ·subst h;simp
  ·have:Nat.beq m n=false:=by
    cases e:Nat.beq m n with
    |false=>rfl
    |true=>simp only[Ob4]at e;exact absurd e h
   rw[this,cond_false,if_neg h]
 | d + 1, .over k y t, n, m, x => by
  simp only[Tr.set];by_cases h:m=n
  ·subst h;simp[Tr.get]
  ·have:Nat.beq m n=false:=by
    cases e:Nat.beq m n with
    |false=>rfl
    |true=>simp only[Ob4]at e;exact absurd e h
   rw[if_neg h];show (bif Nat.beq m n then x else _)=_
   rw[this,cond_false]
 | d + 1, .nil, n, m, x => by
  have ih:=fun t n m=>Tr.get_set (α:=α) d t n m x
  simp only[Tr.set];have b0:∀ k,Nat.beq k 0=decide (k=0):=fun k=>by cases k<;>simp[Nat.beq]
  have b1:∀ k,Nat.beq (k % 2) 1=decide (k % 2=1):=fun k=>by
   rcases Nat.mod_two_eq_zero_or_one k with h|h<;>rw[h]<;>rfl
  rw[b0,b1];by_cases h0:n=0
  ·simp only[h0,decide_true,cond_true,Tr.get]
   rw[b0,b1];by_cases hm:m=0
   ·simp[hm]
   ·simp[hm,Tr.get]
  ·by_cases h1:n % 2=1
   ·simp only[h0,decide_false,cond_false,h1,decide_true,cond_true,Tr.get]
    rw[b0,b1];by_cases hm:m=0
    ·subst hm;simp[Ne.symm h0]
    ·by_cases nn:m % 2=1
     ·simp only[hm,decide_false,cond_false,nn,decide_true,cond_true,ih,Tr.get]
      by_cases e:m=n
      ·rw[if_pos e,if_pos (by rw[e])]
      ·rw[if_neg e,if_neg (by omega)]
     ·have e:m≠n:=fun e=>nn (e▸h1)
      simp[hm,nn,e,Tr.get]
   ·simp only[h0,decide_false,cond_false,h1,Tr.get]
    rw[b0,b1];by_cases hm:m=0
    ·subst hm;simp[Ne.symm h0]
    ·by_cases nn:m % 2=1
     ·have e:m≠n:=fun e=>h1 (e▸nn)
      simp[hm,nn,e,Tr.get]
     ·simp only[hm,decide_false,cond_false,nn,ih,Tr.get]
      by_cases e:m=n
      ·rw[if_pos e,if_pos (by rw[e])]
      ·rw[if_neg e,if_neg (by omega)]
 | d + 1, .node y l r, n, m, x => by
  have ih:=fun t n m=>Tr.get_set (α:=α) d t n m x
  simp only[Tr.set];have b0:∀ k,Nat.beq k 0=decide (k=0):=fun k=>by cases k<;>simp[Nat.beq]
  have b1:∀ k,Nat.beq (k % 2) 1=decide (k % 2=1):=fun k=>by
   rcases Nat.mod_two_eq_zero_or_one k with h|h<;>rw[h]<;>rfl
  rw[b0,b1];by_cases h0:n=0
  ·simp only[h0,decide_true,cond_true,Tr.get]
   rw[b0,b1];by_cases hm:m=0
   ·simp[hm]
   ·simp[hm,Tr.get]
  ·by_cases h1:n % 2=1
   ·simp only[h0,decide_false,cond_false,h1,decide_true,cond_true,Tr.get]
    rw[b0,b1];by_cases hm:m=0
    ·subst hm;simp[Ne.symm h0]
    ·by_cases nn:m % 2=1
     ·simp only[hm,decide_false,cond_false,nn,decide_true,cond_true,ih,Tr.get]
      by_cases e:m=n
      ·rw[if_pos e,if_pos (by rw[e])]
      ·rw[if_neg e,if_neg (by omega)]
     ·have e:m≠n:=fun e=>nn (e▸h1)
      simp[hm,nn,e,Tr.get]
   ·simp only[h0,decide_false,cond_false,h1,Tr.get]
    rw[b0,b1];by_cases hm:m=0
    ·subst hm;simp[Ne.symm h0]
    ·by_cases nn:m % 2=1
     ·have e:m≠n:=fun e=>h1 (e▸nn)
      simp[hm,nn,e,Tr.get]
     ·simp only[hm,decide_false,cond_false,nn,ih,Tr.get]
      by_cases e:m=n
      ·rw[if_pos e,if_pos (by rw[e])]
      ·rw[if_neg e,if_neg (by omega)]
section
variable {P:Program} {E:Env} {F:bC} {n:Nat} {σ:Nat->Option aN} {ρ:List D} {a:Act} {w w':World} {G G':Gh} {g:Option (aI×Bool)} {o:Oper}
def Cb0:Value->Option Bool
 |.bool b=>some b
 |_=>none
theorem Pa7 {x:aI}{want:Bool}{v:Value}(h:Sc v (x.val ρ)\/(v=undef/\x.val ρ=.undef)):gOn ρ (some (x,want))=(Cb0 v==some want):=by
 have key:∀ d:D,x.val ρ=d->gOn ρ (some (x,want))=(match d with|.bool b=>b==want|_=>false):=by
  intro d hd;simp only[gOn,hd];cases d<;>rfl
 rcases h with h|⟨rfl,h⟩
 ·rw[key _ rfl]
  generalize x.val ρ=d at h
  cases h with
  |int k n=>rfl
  |bool b=>cases b<;>cases want<;>rfl
  |str l=>rfl
 ·rw[key _ h]
  rfl
theorem Naz (hR:R E.ntmps F σ ρ a w G){ops:Array Oper}(hd:∀ o∈ops.toList,eG E.ntmps o)(h:(Iam ops.toList o).eval σ=some g):Region.wanted o (yielded ops a.tmps)=gOn ρ g:=by
 unfold Iam at h;unfold Region.wanted;split at h
 ·rename_i ho
  simp only[aF,Option.some.injEq]at h;subst h;simp[ho,gOn]
 ·rename_i j want ho
  simp only[ho];split at h
  ·rename_i d hj
   have hdn:d<E.ntmps:=by
    cases hoj:ops.toList[j]? with
    |none=>rw[hoj]at hj;cases hj
    | some oj =>
     rw[hoj,Obm]at hj;exact hd oj (Obw hoj) d hj
   have hy:yielded ops a.tmps j=Cb0 (xS E.ntmps a F.gh d):=by
    unfold yielded xS;have:(ops[j]?).bind (·.dst)=some d:=by rw[<- hj,Array.getElem?_toList]
    rw[this,Obm,if_pos hdn];have ar:d<a.tmps.size:=by rw[hR.tmps];exact hdn
    rw[Pbd ar,Array.getD_eq_getD_getElem?,Pbd ar,Option.getD_some];cases a.tmps[d]<;>rfl
   rw[hy];simp only[Vae]at h;split at h
   ·rename_i x hk
    simp only[aF,Option.some.injEq]at h;subst h;have:=hR.slot hk rfl;simp only[bR,aB]at this;exact (Pa7 (.inl this)).symm
   ·rename_i g' x hk
    simp only[aF,Option.some.injEq]at h;subst h;have:=hR.slot hk rfl;simp only[bR,aB]at this;exact (Pa7 this.1).symm
   ·cases h
  ·cases h
end
theorem oD {n:Nat}{ρ ext:List D}{x:aI}(h:aX n x=true)(hn:n<=ρ.length):x.val (ρ++ext)=x.val ρ:=by
 refine aI.val_append (n:=n) ?_
 cases x with
 | v i =>
  simp only[aX,Pbf]at h;simp only[aI.ok];omega
 |c d=>trivial
theorem Fav {n:Nat}{ρ ext:List D}{xs:List aI}(h:xs.all (aX n)=true)(hn:n<=ρ.length):xs.map (·.val (ρ++ext))=xs.map (·.val ρ):=by
 apply Rbi;intro x hx;rw[Ob8]at h;exact oD (h x hx) hn
theorem vL {n:Nat}{ρ ext:List D}{g:Option (aI×Bool)}(h:mR n g=true)(hn:n<=ρ.length):gOn (ρ++ext) g=gOn ρ g:=by
 cases g with
 |none=>rfl
 | some z =>
  obtain⟨x,w⟩:=z;simp only[mR]at h;simp only[gOn,oD h hn]
theorem Aai {ρ ds ext:List D}{j:Nat}{d:D}(h:ds[j]?=some d):(aI.v (ρ.length+j)).val (ρ++ds++ext)=d:=by
 have ar:=(List.getElem?_eq_some_iff.1 h).1;simp only[aI.val,List.getD_eq_getElem?_getD];rw[Obs,Obz (by omega),Obx (by omega),Pbe,h];rfl
theorem uA {n m:Nat}{g:Option (aI×Bool)}(h:mR n g=true)(hm:n<=m):mR m g=true:=by
 cases g with
 |none=>rfl
 | some z =>
  obtain⟨x,w⟩:=z
  cases x with
  |v i=>simp only[mR,aX,Pbf]at h ⊢;omega
  |c d=>rfl
section
variable {cf:Nat->List D->Option (List D)}
noncomputable def Ec {β:Type}(cf:Nat->List D->Option (List D))(t:Tm β)(ρ:List D):Option (Out β):=lim fun n=>runT cf n t ρ
noncomputable def Lc {β:Type}(cf:Nat->List D->Option (List D))(body:Tm β)(ρ vs:List D):Option (Out β):=lim fun n=>iter n (fun vs=>runT cf n body (ρ++vs)) vs
theorem Cbp {β:Type}(t:Tm β)(ρ:List D):Ma4 fun n=>runT cf n t ρ:=fun n _ h=>Eae (fun f _ _ h=>h) (Qbx n) t _ _ h
theorem Jbg {β:Type}(body:Tm β)(ρ vs:List D):Ma4 fun n=>iter n (fun vs=>runT cf n body (ρ++vs)) vs :=
 fun n _ h=>kY (fun vs r hr=>Cbp body _ n r hr) (Qbx n) _ _ h
theorem Fa1 {β:Type}{t:Tm β}{ρ:List D}{o:Out β}:Ec cf t ρ=some o↔∃ n,runT cf n t ρ=some o:=fH (Cbp t ρ)
theorem fB {β:Type}(k:Kind)(xs:List aI)(e:β)(ρ:List D):Ec cf (.leaf k xs e) ρ=some ⟨k,xs,e,ρ⟩:=fI _
theorem iI {β:Type}(ρ:List D):Ec cf (.stuck:Tm β) ρ=none:=fI _
theorem Jat {β:Type}(g:Option (aI×Bool))(p:aY)(xs:List aI)(n:Nat)(k:Tm β)(ρ:List D) :
  Ec cf (.lt g p xs n k) ρ=if gOn ρ g then (p.run (xs.map (·.val ρ))).bind fun ds=>if ds.length=n then Ec cf k (ρ++ds) else none
   else Ec cf k (ρ++Ob3 n .undef):=by
 unfold Ec;simp only[runT];split
 ·cases p.run (xs.map (·.val ρ)) with
  |none=>exact fI _
  | some ds =>
   simp only[Obm];split
   ·rfl
   ·exact fI _
 ·rfl
theorem qZ {β:Type}(g:Option (aI×Bool))(f:Nat)(xs:List aI)(n:Nat)(olds:List aI)(k:Tm β)(ρ:List D) :
  Ec cf (.call g f xs n olds k) ρ=if gOn ρ g then (cf f (xs.map (·.val ρ))).bind fun ds=>if ds.length=n then Ec cf k (ρ++ds) else none
   else Ec cf k (ρ++(Ob3 (n-olds.length) .undef++olds.map (·.val ρ))):=by
 unfold Ec;simp only[runT];split
 ·cases cf f (xs.map (·.val ρ)) with
  |none=>exact fI _
  | some ds =>
   simp only[Obm];split
   ·rfl
   ·exact fI _
 ·rfl
theorem Cal {β:Type}(c:aI)(t e:Tm β)(ρ:List D) :
  Ec cf (.ite c t e) ρ=match c.val ρ with
   |.bool true=>Ec cf t ρ
   |.bool false=>Ec cf e ρ
   |_=>none:=by
 unfold Ec;simp only[runT]
 cases c.val ρ with
 |bool b=>cases b<;>rfl
 |_=>exact fI _
theorem oF {β:Type}(i:Nat)(t k:Tm β)(ρ:List D) :
  Ec cf (.bind i t k) ρ=(Ec cf t ρ).bind fun o=>if o.kind=.yield i then Ec cf k (ρ++o.vals) else some o:=by
 unfold Ec;simp only[runT];rw[Dab (a:=fun n=>runT cf n t ρ) (Cbp t ρ) (fun o=>by split;exact Cbp k _;exact fun _ _ h=>h)];congr 1;funext o;split
 ·rfl
 ·exact fI _
theorem Jau {β:Type}(init:List aI)(body:Tm β)(ρ:List D):Ec cf (.loop init body) ρ=Lc cf body ρ (init.map (·.val ρ)):=rfl
theorem Waf {β:Type}(body:Tm β)(ρ vs:List D) :
  Lc cf body ρ vs=(Ec cf body (ρ++vs)).bind fun o=>if o.kind=.cont then Lc cf body ρ o.vals else some o:=by
 have hm:∀ vs,Ma4 fun n=>iter n (fun vs=>runT cf n body (ρ++vs)) vs:=fun vs=>Jbg body ρ vs
 unfold Lc
 have e:∀ vs r,(lim fun n=>iter n (fun vs=>runT cf n body (ρ++vs)) vs)=some r↔((Ec cf body (ρ++vs)).bind fun o=>if o.kind=.cont then (lim fun n=>iter n (fun vs=>runT cf n body (ρ++vs)) o.vals) else some o)=some r:=by
  intro vs r;rw[fH (hm vs)];simp only[Obg];constructor
  ·rintro⟨n,hn⟩
   cases n with
   |zero=>cases hn
   | succ n =>
    simp only[iter,Obg]at hn;obtain⟨o,ho,hr⟩:=hn;refine⟨o,Fa1.2 ⟨n+1,ho⟩,?_⟩;split at hr
    ·rename_i hk
     rw[if_pos hk,fH (hm _)];exact⟨n+1,kY (fun _ _ h=>h) (Qbx n) _ _ hr⟩
    ·rename_i hk
     rw[if_neg hk];exact hr
  ·rintro⟨o,ho,hr⟩
   obtain⟨n,hn⟩:=Fa1.1 ho;split at hr
   ·rename_i hk
    obtain⟨m,ni⟩:=(fH (hm _)).1 hr;refine⟨max n m+1,?_⟩;simp only[iter,Obg];refine⟨o,(Cbp body (ρ++vs)).le (by omega) hn,?_⟩;rw[if_pos hk];exact kY (fun vs r h=>(Cbp body (ρ++vs)).le (by omega) h) (by omega) _ _ ni
   ·rename_i hk
    refine⟨n+1,?_⟩;simp only[iter,Obg];exact⟨o,Cbp body _ _ _ hn,by rw[if_neg hk];exact hr⟩
 exact Option.ext (e vs)
end
section
variable {cf:Nat->List D->Option (List D)}
theorem sK {g:Option (aI×Bool)}{k:Tm St}:∀ {lets:List Step} {ρ:List D} {o:Out St},mR ρ.length g=true->dP ρ.length lets=true->Ec cf (mG g k lets) ρ=some o ->
  ∃ ds,ds.length=bD lets/\Ec cf k (ρ++ds)=some o/\∀ ext,aJ cf (ρ++ds++ext) g ρ.length lets
 |[],ρ,o,_,_,h=>⟨[],rfl,by simpa[mG] using h,fun _=>trivial⟩
 | .prim p xs n :: r, ρ, o, hg, hs, h => by
  simp only[dP,Aav,Obh]at hs;obtain⟨oX,hs⟩:=hs;simp only[mG,Jat]at h
  have main:∀ ds:List D,ds.length=n->Ec cf (mG g k r) (ρ++ds)=some o->(∀ ext,Qam cf (ρ++ds++ext) g ρ.length (.prim p xs n)) ->
    ∃ ds,ds.length=bD (.prim p xs n::r)/\Ec cf k (ρ++ds)=some o/\∀ ext,aJ cf (ρ++ds++ext) g ρ.length (.prim p xs n::r):=by
   intro ds hl h1 h2;obtain⟨es,h3,h4,h5⟩:=sK (lets:=r) (ρ:=ρ++ds) (uA hg (by simp)) (by simp only[Obv,hl];exact hs) h1;refine⟨ds++es,by rw[gV];simp[hl,h3,Step.n],by rw[<- Obs];exact h4,fun ext=>⟨?_,?_⟩⟩
   ·have:=h2 (es++ext)
    simpa[Obs] using this
   ·have:=h5 ext
    simp only[Obv,hl]at this;simpa[Obs,Step.n] using this
  by_cases eJ:gOn ρ g=true
  ·rw[if_pos eJ]at h
   simp only[Obg]at h;obtain⟨ds,h1,h2⟩:=h;split at h2
   case isFalse=>cases h2
   rename_i hl;refine main ds hl h2 fun ext=>⟨fun _=>⟨ds,?_,hl,fun j d hj=>Aai hj⟩,fun oB=>?_⟩
   ·rw[Obs,Fav oX (Oby _)];exact h1
   ·rw[Obs,vL hg (Oby _),eJ]at oB;cases oB
  ·rw[if_neg eJ]at h
   refine main (Ob3 n .undef) (by simp) h fun ext=>⟨fun hon=>?_,fun _ j hj=>Aai (by simp[hj])⟩
   rw[Obs,vL hg (Oby _)]at hon;exact absurd hon eJ
 | .call f xs n olds :: r, ρ, o, hg, hs, h => by
  simp only[dP,Aav,Obh]at hs;obtain⟨⟨⟨oX,hos⟩,hle⟩,hs⟩:=hs;simp only[Pbn]at hle;simp only[mG,qZ]at h
  have main:∀ ds:List D,ds.length=n->Ec cf (mG g k r) (ρ++ds)=some o->(∀ ext,Qam cf (ρ++ds++ext) g ρ.length (.call f xs n olds)) ->
    ∃ ds,ds.length=bD (.call f xs n olds::r)/\Ec cf k (ρ++ds)=some o/\∀ ext,aJ cf (ρ++ds++ext) g ρ.length (.call f xs n olds::r):=by
   intro ds hl h1 h2;obtain⟨es,h3,h4,h5⟩:=sK (lets:=r) (ρ:=ρ++ds) (uA hg (by simp)) (by simp only[Obv,hl];exact hs) h1;refine⟨ds++es,by rw[gV];simp[hl,h3,Step.n],by rw[<- Obs];exact h4,fun ext=>⟨?_,?_⟩⟩
   ·have:=h2 (es++ext)
    simpa[Obs] using this
   ·have:=h5 ext
    simp only[Obv,hl]at this;simpa[Obs,Step.n] using this
  by_cases eJ:gOn ρ g=true
  ·rw[if_pos eJ]at h
   simp only[Obg]at h;obtain⟨ds,h1,h2⟩:=h;split at h2
   case isFalse=>cases h2
   rename_i hl;refine main ds hl h2 fun ext=>⟨fun _=>⟨ds,?_,hl,fun j d hj=>Aai hj⟩,fun oB=>?_⟩
   ·rw[Obs,Fav oX (Oby _)];exact h1
   ·rw[Obs,vL hg (Oby _),eJ]at oB;cases oB
  ·rw[if_neg eJ]at h
   refine main _ (by simp;omega) h fun ext=>⟨fun hon=>?_,fun _ j d hd=>?_⟩
   ·rw[Obs,vL hg (Oby _)]at hon
    exact absurd hon eJ
   ·rw[Obs,Fav hos (Oby _)]at hd
    exact Aai hd
end
theorem oG:∀ (u:List (Nat×aN)) (f g:Nat->Option aN) (k:Nat),f k=g k->upds f u k=upds g u k
 |[],f,g,k,h=>h
 | (k', c) :: r, f, g, k, h => by
  refine oG r _ _ k ?_;unfold Pah;split
  ·rfl
  ·exact h
theorem Iap:∀ (u:List (Nat×aN)) (s:St) (k:Nat),(s.puts u).tr.get k=upds s.tr.get u k
 |[],s,k=>rfl
 | (k', c) :: r, s, k => by
  rw[St.puts,Iap r _ k,upds];refine oG r _ _ k ?_;simp only[St.put,Tr.get_set,Pah]
theorem iA:∀ (u:List (Nat×aN)) (s:St),(s.puts u).nv=s.nv/\(s.puts u).nb=s.nb/\(s.puts u).nr=s.nr/\(s.puts u).nt=s.nt
 |[],s=>⟨rfl,rfl,rfl,rfl⟩
 |(k',c)::r,s=>by rw[St.puts];exact iA r _
theorem Caz:∀ (u:List (Nat×aN)) (f g:Nat->Option aN) (k:Nat),(∃ c,(k,c)∈u)->upds f u k=upds g u k
 |[],f,g,k,h=>by obtain⟨c,hc⟩:=h;simp at hc
 | (k', c) :: r, f, g, k, h => by
  by_cases hk:k=k'
  ·exact oG r _ _ k (by unfold Pah;rw[if_pos hk,if_pos hk])
  ·refine Caz r _ _ k ?_
   obtain⟨c',ia⟩:=h
   rcases List.mem_cons.1 ia with h1|h1
   ·exact absurd (Prod.mk.inj h1).1 hk
   ·exact⟨c',h1⟩
theorem vM {t:Tr aN}:∀ {n r:Nat},lJ t r n=true->∀ j,r<=j->j<r+n->t.get (kR j)=none
 |0,r,_,j,h1,h2=>by omega
 | n + 1, r, h, j, h1, h2 => by
  simp only[lJ,Obh,Qbm]at h;by_cases e:j=r
  ·rw[e];exact h.1
  ·exact vM h.2 j (by omega) (by omega)
theorem Ma7:∀ (u:List (Nat×aN)) (n:Nat),n<=Cbs u n
 |[],n=>Oby _
 | x :: r, n => by
  refine Nat.le_trans ?_ (Ma7 r _)
  cases h:(Nat.beq (x.1 % 3) 2&&Nat.ble n (x.1 / 3)) with
  |false=>exact Oby _
  |true=>simp only[Obh,Pbn]at h;rw[cond_true];omega
theorem Oaz:∀ {u:List (Nat×aN)} {n:Nat} {x:Nat×aN},x∈u->x.1 % 3=2->x.1 / 3<Cbs u n
 | y :: r, n, x, hx, h2 => by
  rcases List.mem_cons.1 hx with rfl|hx
  ·refine Nat.lt_of_lt_of_le ?_ (Ma7 r _)
   have e:Nat.beq (x.1 % 3) 2=true:=by rw[h2];rfl
   rw[e,Bool.true_and]
   cases h:Nat.ble n (x.1 / 3) with
   |true=>rw[cond_true];omega
   | false =>
    rw[cond_false];exact Nat.lt_of_not_le fun e=>by rw[<- Pbn,h]at e;cases e
  ·exact Oaz (u:=r) hx h2
theorem Sa3:∀ {u:List (Nat×aN)} {n m:Nat},n<=m->(∀ x∈u,x.1 % 3=2->x.1 / 3<m)->Cbs u n<=m
 |[],n,m,h,_=>h
 | y :: r, n, m, h, hu => by
  show Cbs r (bif Nat.beq (y.1 % 3) 2&&Nat.ble n (y.1 / 3) then y.1 / 3+1 else n)<=m
  refine Sa3 (u:=r) ?_ fun x hx=>hu x (Obq _ hx)
  cases hc:(Nat.beq (y.1 % 3) 2&&Nat.ble n (y.1 / 3)) with
  |false=>exact h
  | true =>
   simp only[Obh,Ob4]at hc;rw[cond_true];exact hu y Obu hc.1
theorem Uao {n nb nr:Nat}{u:List (Nat×aN)}(hk:u.all (fun x=>vY n nb nr x.1)=true)(draw:Bool):nr<=Oas draw nr u/\Oas draw nr u<=nr+bN/\∀ x∈u,x.1 % 3=2->x.1 / 3<Oas draw nr u:=by
 have hb:∀ x∈u,x.1 % 3=2->x.1 / 3<nr+bN:=by
  intro x hx h2;rw[Ob8]at hk;have:=hk _ hx;unfold vY at this;rw[h2]at this;simpa using this
 cases draw with
 |true=>exact⟨Rbc ..,Oby _,hb⟩
 |false=>exact⟨Ma7 _ _,Sa3 (Rbc ..) hb,fun x hx h2=>Oaz hx h2⟩
theorem Xa9 {s:St}{g:Option (aI×Bool)}{r:bI}{n:Nat}(h:Yaa s g r=true)(hn:n<=s.nt)(hk:r.upd.all (fun x=>vY n s.nb s.nr x.1)=true)(draw:Bool)(nv:Nat)(k:Nat) :
  ({ (s.puts r.upd) with nv:=nv,nb:=s.nb+1,nr:=Oas draw s.nr r.upd }:St).get k=upds s.get r.upd k:=by
 obtain⟨t1,t2,t3⟩:=Uao hk draw;generalize Oas draw s.nr r.upd=fj at t1 t2 t3 ⊢;simp only[Yaa,Obh,Qbm]at h;obtain⟨⟨⟨⟨h1,h2⟩,-⟩,-⟩,-⟩:=h
 have e:({ (s.puts r.upd) with nv:=nv,nb:=s.nb+1,nr:=fj }:St).get k=bif rZ s.nt (s.nb+1) fj k then upds s.tr.get r.upd k else none:=by
  unfold St.get;dsimp only;rw[Iap,(iA r.upd s).2.2.2]
 rw[e];by_cases hm:∃ c,(k,c)∈r.upd
 ·obtain⟨c,hc⟩:=hm
  have km:rZ s.nt (s.nb+1) fj k=true:=by
   rw[Ob8]at hk;have:=hk _ hc;unfold vY at this;unfold rZ;dsimp only at this
   cases b0:Nat.beq (k % 3) 0 with
   |true=>rw[b0,cond_true]at this;rw[cond_true];simp only[Pbf]at this ⊢;omega
   | false =>
    rw[b0,cond_false]at this;rw[cond_false]
    cases b1:Nat.beq (k % 3) 1 with
    |true=>rw[b1,cond_true]at this;rw[cond_true];simp only[Pbn]at this;simp only[Pbf];omega
    | false =>
     rw[cond_false,Pbf];have n0:k % 3≠0:=fun e=>by rw[e]at b0;cases b0
     have n1:k % 3≠1:=fun e=>by rw[e]at b1;cases b1
     exact t3 _ hc (by dsimp only;omega)
  rw[km,cond_true];exact Caz _ _ _ _ ⟨c,hc⟩
 ·have lb:∀ c,(k,c)∉r.upd:=fun c hc=>hm ⟨c,hc⟩
  rw[dU _ _ _ lb,dU _ _ _ lb];unfold St.get
  cases ho:rZ s.nt s.nb s.nr k with
  | true =>
   have:rZ s.nt (s.nb+1) fj k=true:=by
    unfold rZ at ho ⊢
    cases b0:Nat.beq (k % 3) 0 with
    |true=>rw[b0]at ho;exact ho
    | false =>
     rw[b0,cond_false]at ho;rw[cond_false]
     cases b1:Nat.beq (k % 3) 1 with
     |true=>rw[b1,cond_true]at ho;rw[cond_true];simp only[Pbf]at ho ⊢;omega
     |false=>rw[b1,cond_false]at ho;rw[cond_false];simp only[Pbf]at ho ⊢;omega
   rw[this]
  | false =>
   rw[cond_false]
   cases hw:rZ s.nt (s.nb+1) fj k with
   |false=>rfl
   | true =>
    rw[cond_true];unfold rZ at ho hw
    cases b0:Nat.beq (k % 3) 0 with
    |true=>rw[b0,cond_true]at ho hw;rw[ho]at hw;cases hw
    | false =>
     rw[b0,cond_false]at ho hw;have n0:k % 3≠0:=fun e=>by rw[e]at b0;cases b0
     cases b1:Nat.beq (k % 3) 1 with
     | true =>
      rw[b1,cond_true]at ho hw;simp only[Ob4]at b1;simp only[Pbf]at hw;have qo:¬ k / 3<s.nb:=fun e=>by rw[<- Pbf,ho]at e;cases e
      have:k=kB s.nb:=by unfold kB;omega
      rw[this];exact h1
     | false =>
      rw[b1,cond_false]at ho hw;have n1:k % 3≠1:=fun e=>by rw[e]at b1;cases b1
      simp only[Pbf]at hw;have qo:¬ k / 3<s.nr:=fun e=>by rw[<- Pbf,ho]at e;cases e
      have:k=kR (k / 3):=by unfold kR;omega
      rw[this];exact vM h2 _ (by omega) (by omega)
theorem La0 {s:St}:Aal s.get s.nb s.nr:=by
 refine⟨?_,fun j h1 h2=>?_⟩
 ·unfold St.get rZ kB
  have e:(3*s.nb+1) % 3=1:=by omega
  have e2:(3*s.nb+1) / 3=s.nb:=by omega
  rw[e,e2]
  have:Pbs s.nb s.nb=false:=by
   cases hb:Pbs s.nb s.nb with
   |false=>rfl
   |true=>simp at hb
  rw[this];rfl
 ·unfold St.get rZ kR
  have e:(3*j+2) % 3=2:=by omega
  have e2:(3*j+2) / 3=j:=by omega
  rw[e,e2]
  have:Pbs j s.nr=false:=by
   cases hb:Pbs j s.nr with
   |false=>rfl
   |true=>simp only[Pbf]at hb;omega
  rw[this];rfl
theorem Oay (t:Tr aN)(lo:Nat):∀ n,Ja2 t lo n<=lo+n
 |0=>Oby _
 | n + 1 => by
  unfold Ja2
  cases (t.get (kR (lo+n))).isNone with
  |true=>rw[cond_true];have:=Oay t lo n;omega
  |false=>rw[cond_false];omega
theorem Gam (t:Tr aN)(lo:Nat):∀ n j,Ja2 t lo n<=j->j<lo+n->t.get (kR j)=none
 |0,j,h1,h2=>by unfold Ja2 at h1;omega
 | n + 1, j, h1, h2 => by
  unfold Ja2 at h1
  cases h:(t.get (kR (lo+n))).isNone with
  | true =>
   rw[h,cond_true]at h1;by_cases e:j=lo+n
   ·rw[e];simpa using h
   ·exact Gam t lo n j h1 (by omega)
  |false=>rw[h,cond_false]at h1;omega
theorem Ja1 {draw:Bool}{lo:Nat}{s:St}:(trimS draw lo s).get=s.get:=by
 unfold trimS
 cases hd:(draw&&Nat.ble lo s.nr) with
 |false=>rfl
 | true =>
  simp only[Obh,Pbn]at hd;rw[cond_true];funext k;have h1:=Oay s.tr lo (s.nr-lo);have h2:=Gam s.tr lo (s.nr-lo);generalize Ja2 s.tr lo (s.nr-lo)=m at h1 h2;unfold St.get;dsimp only;unfold rZ
  cases b0:Nat.beq (k % 3) 0 with
  |true=>rfl
  | false =>
   rw[cond_false,cond_false]
   cases b1:Nat.beq (k % 3) 1 with
   |true=>rfl
   | false =>
    rw[cond_false,cond_false];have n0:k % 3≠0:=fun e=>by rw[e]at b0;cases b0
    have n1:k % 3≠1:=fun e=>by rw[e]at b1;cases b1
    have ek:k=kR (k / 3):=by unfold kR;omega
    by_cases ha:k / 3<m
    ·have e1:Pbs (k / 3) m=true:=by simpa using ha
     have e2:Pbs (k / 3) s.nr=true:=by simp only[Pbf];omega
     rw[e1,e2]
    ·have e1:Pbs (k / 3) m=false:=by
      cases e:Pbs (k / 3) m with
      |false=>rfl
      |true=>simp only[Pbf]at e;omega
     rw[e1,cond_false]
     cases e2:Pbs (k / 3) s.nr with
     |false=>rfl
     | true =>
      simp only[Pbf]at e2;rw[cond_true,ek];exact (h2 _ (by omega) (by omega)).symm
theorem uV {draw:Bool}{lo:Nat}{s:St}:(trimS draw lo s).nv=s.nv/\(trimS draw lo s).nb=s.nb/\(trimS draw lo s).nt=s.nt:=by
 unfold trimS;cases draw&&Nat.ble lo s.nr<;>exact⟨rfl,rfl,rfl⟩
section
variable {P:Program} {E:Env} {F:bC} {n:Nat} {σ:Nat->Option aN} {ρ:List D} {a:Act} {w w':World} {G G':Gh} {g:Option (aI×Bool)} {o:Oper} {cf:Nat->List D->Option (List D)} {Q:Exit->Act->World->Prop}
theorem Hal:∀ (u:List (Nat×aN)) (σ:Nat->Option aN) (k:Nat),upds σ u k=match Rau u k with
  |some c=>some c
  |none=>σ k
 |[],_,_=>rfl
 | (k', c) :: r, σ, k => by
  show upds (Pah σ k' c) r k=_
  rw[Hal r];simp only[Rau]
  cases Rau r k with
  |some d=>rfl
  | none =>
   dsimp only;unfold Pah;by_cases e:k=k'
   ·subst e
    rw[if_pos rfl];simp
   ·rw[if_neg e]
    have:Nat.beq k' k=false:=by
     cases h:Nat.beq k' k with
     |false=>rfl
     |true=>exact absurd (Nat.eq_of_beq_eq_true h).symm e
    rw[this];rfl
theorem Maa {α:Type}(u:List (Nat×aN))(m:RdM α)(σ:Nat->Option aN):(m.over u).eval σ=m.eval (upds σ u):=by
 induction m with
 |ret a=>rfl
 |no=>rfl
 | rd k f ih =>
  show ((RdM.rd k f).over u).eval σ=(f (upds σ u k)).eval (upds σ u)
  unfold RdM.over;rw[Hal u σ k]
  cases Rau u k with
  |some c=>exact ih _
  |none=>exact ih _
theorem wW:∀ (u v:List (Nat×aN)) (σ:Nat->Option aN),upds σ (u++v)=upds (upds σ u) v
 |[],_,_=>rfl
 |(k,c)::r,v,σ=>wW r v (Pah σ k c)
def wF (r nr:Nat)(pv:List Nat)(M mr:Nat)(s:Nat)(p:List Nat):Ow :=
 if s=r then (if pv <+: p then vQ nr M (p.drop pv.length) else vQ r mr p) else .slc s p
theorem Xa5 {t:Nat}{a:Act}{o:Oper}(h:o.dst=some t):a.put o.dst (a.tmps.getD t undef)=a:=by
 unfold Act.put;rw[h];dsimp only
 have:a.tmps.setIfInBounds t (a.tmps.getD t undef)=a.tmps:=by
  apply Array.ext_getElem?;intro j;rw[Array.getElem?_setIfInBounds];split
  ·rename_i e
   subst e;split
   ·rename_i ar
    exact (Pbd ar).symm
   ·rename_i ar
    rw[Array.getElem?_eq_none (by omega)]
  ·rfl
 rw[this]
theorem Kag (hR:R E.ntmps F σ ρ a w G){nv nr t:Nat}(ko:σ (kR nr)=none){l:List Step}{u:List (Nat×aN)}(h:(Gau E nv nr t).eval σ=some (some (l,u)))(ba:aJ cf ρ none nv l) :
  ∃ G',R E.ntmps F (upds σ u) ρ a w G':=by
 simp only[Gau,aA,Obg,aO,Obm]at h;split at h
 case h_2=>simp only[aF,Option.some.injEq]at h;cases h
 rename_i deps p ps nie x kb;simp only[aA,Obg]at h;obtain⟨s,h1,h⟩:=h;split at h
 case h_2=>simp only[aF,Option.some.injEq]at h;cases h
 rename_i r k m q qs a7;rw[fZ]at h;split at h
 case isFalse=>simp only[aF,Option.some.injEq]at h;cases h
 rename_i hb;simp only[Obh,Pbn,Pbf]at hb;obtain⟨hqm,htn⟩:=hb;simp only[aA,Obg,aO,Obm]at h;split at h
 case h_2=>simp only[aF,Option.some.injEq]at h;cases h
 rename_i X m' aE hk;simp only[aF,Option.some.injEq,Prod.mk.injEq]at h;obtain⟨rfl,rfl⟩:=h;have gb:=hR.slot kb (g:=none) rfl;simp only[bR]at gb;have gi:=dH hR h1 gb;have mC:=gi.own;unfold rX at mC;rw[a7]at mC;obtain⟨-,⟨X0,lR⟩,-,fa,kd⟩:=mC;rw[hk]at lR
 obtain⟨rfl,rfl,rfl⟩:X=X0/\m'=m/\aE=k:=by
  injection lR with e;injection e with e1 e2 e3 e4;exact⟨e1,e2,e3⟩
 have eA:=hR.root hk;simp only[bK]at eA;have mw:=yX (g:=none) rfl (q::qs) nv X (.c .hole) ba;have ub:(aZ ρ (q::qs)).length=qs.length+1:=by simp[aZ]
 generalize y6:aZ ρ (q::qs)=pv at mw fa kd ub;rw[show (q::qs).length=qs.length+1 from rfl]at fa;have htv:xS E.ntmps a F.gh t=a.tmps.getD t undef:=if_pos htn;generalize hv:xS E.ntmps a F.gh t=v at gb fa kd htv;obtain⟨o',qo⟩:∃ o':Oper,o'.dst=some t:=⟨{ (default:Oper) with dst:=some t },rfl⟩;have a4t:r≠nr:=fun e=>by rw[e,ko]at hk;cases hk
 have hdr:∀ r,(σ (kR r)).isSome->r≠nr:=fun r hr e=>by rw[e,ko]at hr;cases hr
 have k9:∀ b,G.own b≠.frz->b<w.heap.size:=fun b hb=>by
  rcases Ob2 b w.heap.size with h|h
  ·exact h
  ·exact absurd (hR.frame.fresh b h) hb
 have hFr:∀ p,wF r nr pv (m'-(qs.length+1)) m' r p=if pv <+: p then vQ nr (m'-(qs.length+1)) (p.drop pv.length) else vQ r m' p:=fun p=>by unfold wF;rw[if_pos rfl]
 have pB:∀ b,G.own b=.frz->b<w.heap.size->kX (wF r nr pv (m'-(qs.length+1)) m') (G.own b)=.frz/\w.heap[b]?=w.heap[b]?:=fun b hb _=>⟨by rw[hb];rfl,rfl⟩
 have gr:=hR.own (o:=o') (g:=none) (fun d e=>by rw[qo]at e;cases e;exact htn) (sv:=.one (.ex nr)) (v:=v) (w':=w)
  (G':={ G with own:=fun b=>kX (wF r nr pv (m'-(qs.length+1)) m') (G.own b),hdr:=fun s=>if s=nr then v else G.hdr s }) (wr:=fun _=>False)
  (ur:=[(kR nr,.root s.x (m'-(qs.length+1)) 0 .live),(kR r,.root (Iau nv X (q::qs) (.c .hole)).2 m' (aE+1) .live)])
  (f:=wF r nr pv (m'-(qs.length+1)) m') ?_ (fun b _=>rfl) ?_ ⟨rfl,rfl,rfl,Oby _⟩ ?_ (fun _ _ _=>rfl) (fun _ h=>h.elim) ?_ ?_ ?_ ?_ rfl ?_ ?_
 ·have e1:dE o' none (.one (.ex nr))=[(kT t,.slot none (.one (.ex nr)))]:=by unfold dE;rw[qo]
  have e2:a.put o'.dst v=a:=by rw[htv];exact Xa5 qo
  rw[e1,e2]at gr;exact⟨_,gr⟩
 ·intro k c hc
  rcases List.mem_cons.1 hc with hc|hc
  ·exact⟨nr,(Prod.mk.inj hc).1⟩
  ·exact⟨r,(Prod.mk.inj (List.mem_singleton.1 hc)).1⟩
 ·intro b hb
  show kX _ (G.own b)=.frz
  rw[hR.frame.fresh b hb];rfl
 ·intro b hb
  refine .inl ?_;show kX _ (G.own b)=.frz
  rw[hR.frame.fresh b hb];rfl
 ·intro b s' p' hb gl
  have:s'≠r:=fun e=>gl (.root (Iau nv X (q::qs) (.c .hole)).2 m' (aE+1) .live) (by rw[e];simp)
  unfold wF;rw[if_neg this]
 ·intro s' c hc _
  rcases List.mem_cons.1 hc with hc|hc
  ·obtain⟨e1,e2⟩:=Prod.mk.inj hc
   rw[dW e1,e2];exact .inl ⟨ko,_,_,_,_,rfl⟩
  ·obtain⟨e1,e2⟩:=Prod.mk.inj (List.mem_singleton.1 hc)
   rw[dW e1,e2];exact .inr (.inl ⟨_,_,_,_,_,hk,rfl⟩)
 ·intro r0 x0 m0 k0 lP s' p' q' hF
  have xT:r0≠r:=fun e=>by
   rw[e,hk]at lP
   injection lP with e;injection e with _ _ _ e;cases e
  have oA:r0≠nr:=hdr r0 (by rw[lP];rfl);unfold wF at hF;split at hF
  ·rename_i e
   split at hF
   ·unfold vQ at hF
    split at hF
    ·injection hF with j1 j2;exact absurd j1.symm oA
    ·cases hF
   ·unfold vQ at hF
    split at hF
    ·injection hF with j1 j2;exact absurd j1.symm xT
    ·cases hF
  ·injection hF with j1 j2;exact⟨j1,j2⟩
 ·intro s' jf
  show (if s'=nr then _ else _)=_
  rw[if_neg (hdr s' jf)]
 ·intro _ _
  simp only[bR,aB];exact⟨by simp,dJ _ _ _ (.inr ⟨_,Obk _ Obu⟩),fa.one⟩
 ·intro dt s' c hc _
  rcases List.mem_cons.1 hc with hc|hc
  ·obtain⟨e1,rfl⟩:=Prod.mk.inj hc
   obtain rfl:=dW e1;refine⟨_,_,_,_,rfl,?_⟩;simp only[bK,if_true];refine fa.move pB [] _ (Oby _) fun b t' hb=>⟨?_,rfl⟩
   show kX _ (G.own b)=_
   rw[hb];show wF _ _ _ _ _ _ _=_
   rw[hFr,if_pos (List.prefix_append _ _),List.drop_left];rfl
  ·obtain⟨e1,rfl⟩:=Prod.mk.inj (List.mem_singleton.1 hc)
   obtain rfl:=dW e1;refine⟨_,_,_,_,rfl,?_⟩;simp only[bK];rw[if_neg a4t];have:=Rp.upd (own':=fun b=>kX (wF s' nr pv (m'-(qs.length+1)) m') (G.own b)) (w':=w) (r:=s') (M':=m') (full:=pv) (y:=.hole) (u:=v) pB (fun b t' hb ht=>⟨?_,rfl⟩) (by omega) (.hole _ fa.one) pv [] m' (G.hdr s') _ _ rfl (Oby _) (by simpa using eA) kd mw
   ·simpa using this
   ·rw[hb]
    show wF _ _ _ _ _ _ _=_
    rw[hFr,if_neg ht];rfl
theorem Gas {mv cL:Bool}{nv nb nr:Nat}{c:Call}(h:o.op=.call c):Qa1 E mv cL nv nb nr g o=nI E mv cL nv nb nr g o:=by
 unfold Qa1;have h1:yB (cL&&noG g) o.op=none:=by rw[h];unfold yB;split<;>first|rfl|contradiction
 have h2:Ia0 (cL&&noG g&&!mv) o=none:=by
  unfold Ia0;split
  ·rw[h]
  ·rfl
 rw[h1];dsimp only;rw[h2]
theorem Qa4 {nv nr t:Nat}(ko:σ (kR (nr+1))=none){l:List Step}{u:List (Nat×aN)}(h1:(Gau E nv nr t).eval σ=some (some (l,u))):upds σ u (kR (nr+1))=none:=by
 simp only[Gau,aA,Obg,aO,Obm]at h1;split at h1
 case h_2=>simp only[aF,Option.some.injEq]at h1;cases h1
 simp only[aA,Obg]at h1;obtain⟨s,-,h1⟩:=h1;split at h1
 case h_2=>simp only[aF,Option.some.injEq]at h1;cases h1
 rw[fZ]at h1;split at h1
 case isFalse=>simp only[aF,Option.some.injEq]at h1;cases h1
 simp only[aA,Obg,aO,Obm]at h1;split at h1
 case h_2=>simp only[aF,Option.some.injEq]at h1;cases h1
 rename_i r' _ _ _ _ _ _ _ _ hk;simp only[aF,Option.some.injEq,Prod.mk.injEq]at h1;obtain⟨-,rfl⟩:=h1
 cases e:upds σ _ (kR (nr+1)) with
 |none=>rfl
 | some c =>
  exfalso
  rcases nE _ _ _ _ e with h4|⟨-,h4⟩
  ·simp only[List.mem_cons,Prod.mk.injEq,List.not_mem_nil,or_false]at h4
   rcases h4 with ⟨h4,-⟩|⟨h4,-⟩|⟨h4,-⟩
   ·exact gW h4.symm
   ·have:=dW h4;omega
   ·rw[h4,hk]at ko;cases ko
  ·rw[ko]at h4;cases h4
theorem Uag {mv cL:Bool}{nv nb nr:Nat}{ty:TypeId}{x:Operand}(ho:o.op=.load ty x){r:bI}(h:(nI E mv cL nv nb nr none o).eval σ=some r){j:Nat}{c:aN}(hc:(kR j,c)∈r.upd):False:=by
 simp only[nI,ho,aA,Obg,tiR,aS]at h;obtain⟨ti,h1,p,h2,h⟩:=h
 have kb:∀ {g':Option (aI×Bool)} {v:SV},(kR j,c)∈(match o.dst with|some d=>[(kT d,aN.slot g' v)]|none=>[])->False:=by
  intro g' v hm;split at hm
  ·simp only[Obt,Prod.mk.injEq]at hm
   exact gW hm.1.symm
  ·simp at hm
 have hC:∀ {v:SV},(Ta2 o none nv v).eval σ=some r->False:=by
  intro v h;simp only[Ta2,qE,aF,Option.some.injEq]at h;subst h;rw[Pbc]at hc;exact kb hc
 unfold Oa4 at h;split at h
 ·simp only[aA,Obg,aO,Obm]at h
  split at h
  ·simp only[aA,Obg]at h
   obtain⟨_,-,h⟩:=h;split at h
   ·exact hC h
   ·cases h
  ·cases h
 ·simp only[aA,Obg]at h
  obtain⟨s,-,h⟩:=h;split at h
  ·simp only[qD,aF,Option.some.injEq]at h
   subst h;exact kb hc
  ·simp only[qE,aF,Option.some.injEq]at h
   subst h;rw[Pbc]at hc;exact kb hc
  ·cases h
 ·cases h
theorem Tad (hR:R E.ntmps F σ ρ a w G)(hd:eG E.ntmps o)(hti:sG P E.ti){nv nb nr:Nat}{mv cL:Bool}(hf:Aal σ nb nr){res:bI}
  (h:(Qa1 E mv cL nv nb nr g o).eval σ=some res) (ba:aJ cf ρ g nv res.lets)
  (ic:∀ f args argTypes,o.op=.call { callee:=.value f,args,argTypes }->fV P E F σ ρ a w g o Q res.upd):fV P E F σ ρ a w g o Q res.upd:=by
 unfold Qa1 at h;split at h
 ·split at h
  ·exact Ca4 hR hd hti hf h ba ic
  ·
   rename_i t xf
   have hb:(cL&&noG g&&!mv)=true:=by
    cases e:(cL&&noG g&&!mv) with
    |true=>rfl
    |false=>rw[e]at xf;cases xf
   simp only[Obh]at hb;obtain rfl:=tH hb.1.2
   obtain⟨ty,x,ho⟩:∃ ty x,o.op=.load ty x:=by
    unfold Ia0 at xf;split at xf
    ·split at xf
     ·rename_i ho;exact⟨_,_,ho⟩
     ·cases xf
    ·cases xf
   simp only[aA,Obg,Maa]at h;obtain⟨r,h1,y,h2,h⟩:=h
   cases y with
   | none =>
    simp only[aF,Option.some.injEq]at h;subst h;exact Ca4 hR hd hti hf h1 ba ic
   | some lu =>
    obtain⟨l,u⟩:=lu;simp only[aF,Option.some.injEq]at h;subst h;obtain⟨nk,lz⟩:=aJ.append ba;have h0:fV P E F σ ρ a w none o Q r.upd:=Ca4 hR hd hti hf h1 nk fun f args argTypes tk=>by rw[ho]at tk;cases tk
    refine⟨fun hg=>?_,fun hg=>by simp[gOn]at hg⟩;refine Oper.wp_mono (K:=Nx E.ntmps F σ ρ r.upd) (fun a' w' ⟨G',gv⟩=>?_) (h0.1 hg)
    have ko:upds σ r.upd (kR nr)=none:=by
     have lb:=hf.nr nr (Oby _) (by unfold bN;omega)
     cases e:upds σ r.upd (kR nr) with
     |none=>rfl
     | some c =>
      exfalso
      rcases nE _ _ _ _ e with h4|⟨-,h4⟩
      ·exact Uag ho h1 h4
      ·rw[lb]at h4;cases h4
    obtain⟨G'',si⟩:=Kag gv ko h2 lz;exact⟨G'',by rw[wW];exact si⟩
 ·rename_i t im
  simp only[aA,Obg]at h;obtain⟨x,h1,h⟩:=h
  have hb:(cL&&noG g)=true:=by
   cases e:(cL&&noG g) with
   |true=>rfl
   |false=>rw[e]at im;unfold yB at im;cases im
  simp only[Obh]at hb;obtain rfl:=tH hb.2
  cases x with
  |none=>exact Ca4 hR hd hti hf h ba ic
  | some lu =>
   obtain⟨l,u⟩:=lu;simp only[aA,Obg,Maa,aF,Option.some.injEq]at h;obtain⟨r,h2,rfl⟩:=h;obtain⟨nk,lz⟩:=aJ.append ba;obtain⟨G',gv⟩:=Kag hR (hf.nr nr (Oby _) (by unfold bN;omega)) h1 nk
   have gr:fV P E F (upds σ u) ρ a w none o Q r.upd:=by
    have so:upds σ u (kR (nr+1))=none:=Qa4 (hf.nr (nr+1) (by omega) (by unfold bN;omega)) h1;unfold yB at im;split at im
    ·rename_i ho
     exact Da3 gv hti ho h2 lz
    ·rename_i ho
     exact rJ gv hd hti so ho h2 lz
    ·cases im
   refine⟨fun hg=>?_,fun hg=>by simp[gOn]at hg⟩;have e:Nx E.ntmps F σ ρ (u++r.upd)=Nx E.ntmps F (upds σ u) ρ r.upd:=by unfold Nx;rw[wW]
   rw[e];exact gr.1 hg
theorem iT {ops:List Oper}{mv cL:Bool}{nv nb nr:Nat}{res:bI}(h:(jW E ops mv cL nv nb nr o).eval σ=some (g,res)) :
  (Iam ops o).eval σ=some g/\eG E.ntmps o/\(Qa1 E mv cL nv nb nr g o).eval σ=some res/\res.upd.all (fun x=>vY E.ntmps nb nr x.1)=true:=by
 simp only[jW,aA,Obg,aH,aF,Option.some.injEq,Prod.mk.injEq]at h;obtain⟨g',h1,_,h2,res',h3,_,h4,rfl,rfl⟩:=h;refine⟨h1,fun d hd=>?_,h3,?_⟩
 ·rw[hd]at h2
  dsimp only at h2;split at h2
  ·rename_i hb;simpa using hb
  ·cases h2
 ·split at h4
  ·rename_i hb;exact hb
  ·cases h4
def Cby (P:Program)(E:Env)(F:bC)(σ:Nat->Option aN)(ρ:List D)(ops:Array Oper)(o:Oper)(Q:Exit->Act->World->Prop)(u:List (Nat×aN))(a:Act)(w:World):Prop :=
 if Region.wanted o (yielded ops a.tmps) then o.wp P a w (Nx E.ntmps F σ ρ u) Q else Nx E.ntmps F σ ρ u (a.put o.dst undef) w
theorem yC (hR:R E.ntmps F σ ρ a w G)(hti:sG P E.ti){ops:Array Oper}(np:∀ o∈ops.toList,eG E.ntmps o){mv cL:Bool}{nv nb nr:Nat}(hf:Aal σ nb nr){res:bI}
  (h:(jW E ops.toList mv cL nv nb nr o).eval σ=some (g,res)) (ba:aJ cf ρ g nv res.lets)
  (ic:∀ f args argTypes,o.op=.call { callee:=.value f,args,argTypes }->fV P E F σ ρ a w g o Q res.upd):Cby P E F σ ρ ops o Q res.upd a w:=by
 obtain⟨h1,h2,h3,-⟩:=iT h;have hs:=Tad hR h2 hti hf h3 ba ic;unfold Cby;rw[Naz hR np h1];split
 ·rename_i hg;exact hs.1 hg
 ·rename_i hg;exact hs.2 (by simpa using hg)
end
section
variable {cf:Nat->List D->Option (List D)}
theorem Oac {i:Nat}{k:Kind}:Ia7 i k=true↔k=.yield i:=by
 cases k<;>simp[Ia7]
 exact eq_comm
theorem Ray {k:Kind}:Pa4 k=true↔k=.cont:=by cases k<;>simp[Pa4]
theorem Wae {β:Type}{body:Tm β}{ρ:List D}{C:List D->Out β->Prop}
  (zc:∀ vs o,Ec cf body (ρ++vs)=some o->o.kind≠.cont->C vs o)
  (eJ:∀ vs o o',Ec cf body (ρ++vs)=some o->o.kind=.cont->C o.vals o'->Lc cf body ρ o.vals=some o'->C vs o') :
  ∀ {vs:List D} {o:Out β},Lc cf body ρ vs=some o->C vs o:=by
 intro vs o h;have h':=(fH (Jbg (cf:=cf) body ρ vs)).1 h;obtain⟨n,hn⟩:=h'
 have key:∀ m vs,iter m (fun vs=>runT cf n body (ρ++vs)) vs=some o->C vs o/\Lc cf body ρ vs=some o:=by
  intro m
  induction m with
  |zero=>intro vs h;cases h
  | succ m ih =>
   intro vs h;simp only[iter,Obg]at h;obtain⟨o1,h1,h2⟩:=h;have e1:Ec cf body (ρ++vs)=some o1:=Fa1.2 ⟨n,h1⟩;split at h2
   ·rename_i hk
    obtain⟨h3,h4⟩:=ih _ h2;exact⟨eJ vs o1 o e1 hk h3 h4,by rw[Waf,e1,Obm,if_pos hk];exact h4⟩
   ·rename_i hk
    obtain rfl:=Option.some.inj h2;exact⟨zc vs o1 e1 hk,by rw[Waf,e1,Obm,if_neg hk]⟩
 exact (key n vs hn).1
theorem tF {β:Type}{f:Kind->Bool}:∀ {t:Tm β} {ρ:List D} {o:Out β},t.no f=true->Ec cf t ρ=some o->f o.kind=false
 | .leaf k xs e, ρ, o, hn, h => by
  rw[fB]at h;obtain rfl:=Option.some.inj h;simpa[Tm.no] using hn
 |.stuck,ρ,o,hn,h=>by rw[iI]at h;cases h
 | .lt g p xs n k, ρ, o, hn, h => by
  rw[Jat]at h;split at h
  ·simp only[Obg]at h
   obtain⟨ds,-,h⟩:=h;split at h
   ·exact tF (t:=k) hn h
   ·cases h
  ·exact tF (t:=k) hn h
 | .call g c xs n os k, ρ, o, hn, h => by
  rw[qZ]at h;split at h
  ·simp only[Obg]at h
   obtain⟨ds,-,h⟩:=h;split at h
   ·exact tF (t:=k) hn h
   ·cases h
  ·exact tF (t:=k) hn h
 | .ite c t e, ρ, o, hn, h => by
  simp only[Tm.no,Obh]at hn;rw[Cal]at h;split at h
  ·exact tF hn.1 h
  ·exact tF hn.2 h
  ·cases h
 | .bind i t k, ρ, o, hn, h => by
  simp only[Tm.no,Obh]at hn;simp only[oF,Obg]at h;obtain⟨o1,h1,h2⟩:=h;split at h2
  ·exact tF hn.2 h2
  ·obtain rfl:=Option.some.inj h2
   exact tF hn.1 h1
 | .loop init b, ρ, o, hn, h => by
  rw[Jau]at h;simp only[Tm.no]at hn;exact Wae (C:=fun _ o=>f o.kind=false) (fun vs o h1 _=>tF hn h1) (fun _ _ _ _ _ h3 _=>h3) h
theorem nO {f:St->Option (Tm St)}:∀ {t t':Tm St} {ρ:List D} {o':Out St},t.graft f=some t'->Ec cf t' ρ=some o' ->
  ∃ o,Ec cf t ρ=some o/\((o.kind=.fall/\∃ r,f o.ext=some r/\Ec cf r o.env=some o')\/(o.kind≠.fall/\o'=o))
 | .leaf k xs s, t', ρ, o', hg, h => by
  cases k with
  |fall=>exact⟨_,fB ..,.inl ⟨rfl,t',hg,h⟩⟩
  | _ =>
   simp only[Tm.graft,Option.some.injEq]at hg;subst hg;rw[fB]at h;obtain rfl:=Option.some.inj h;exact⟨_,fB ..,.inr ⟨by simp,rfl⟩⟩
 | .stuck, t', ρ, o', hg, h => by
  simp only[Tm.graft,Option.some.injEq]at hg;subst hg;rw[iI]at h;cases h
 | .lt g p xs n k, t', ρ, o', hg, h => by
  simp only[Tm.graft,Obr]at hg;obtain⟨k',hk,rfl⟩:=hg;rw[Jat]at h;simp only[Jat];split at h
  ·rename_i eJ
   simp only[Obg]at h;obtain⟨ds,h1,h⟩:=h;split at h
   ·rename_i hl
    obtain⟨o,h2,h3⟩:=nO hk h;exact⟨o,by rw[if_pos eJ,h1,Obm,if_pos hl];exact h2,h3⟩
   ·cases h
  ·rename_i eJ
   obtain⟨o,h2,h3⟩:=nO hk h;exact⟨o,by rw[if_neg eJ];exact h2,h3⟩
 | .call g c xs n os k, t', ρ, o', hg, h => by
  simp only[Tm.graft,Obr]at hg;obtain⟨k',hk,rfl⟩:=hg;rw[qZ]at h;simp only[qZ];split at h
  ·rename_i eJ
   simp only[Obg]at h;obtain⟨ds,h1,h⟩:=h;split at h
   ·rename_i hl
    obtain⟨o,h2,h3⟩:=nO hk h;exact⟨o,by rw[if_pos eJ,h1,Obm,if_pos hl];exact h2,h3⟩
   ·cases h
  ·rename_i eJ
   obtain⟨o,h2,h3⟩:=nO hk h;exact⟨o,by rw[if_neg eJ];exact h2,h3⟩
 | .ite c t e, t', ρ, o', hg, h => by
  simp only[Tm.graft,Obg,Obr]at hg;obtain⟨t1,ht,e1,he,rfl⟩:=hg;rw[Cal]at h;simp only[Cal];split at h
  ·exact nO ht h
  ·exact nO he h
  ·cases h
 | .bind i t k, t', ρ, o', hg, h => by
  simp only[Tm.graft]at hg
  cases hn:t.no nA with
  |false=>rw[hn]at hg;cases hg
  | true =>
   rw[hn,cond_true,Obr]at hg;obtain⟨k',hk,rfl⟩:=hg;simp only[oF,Obg]at h;obtain⟨o1,h1,h2⟩:=h;simp only[oF,h1,Obm];split at h2
   ·rename_i hy
    rw[if_pos hy];exact nO hk h2
   ·rename_i hy
    rw[if_neg hy];obtain rfl:=Option.some.inj h2;refine⟨o1,rfl,.inr ⟨fun e=>?_,rfl⟩⟩;have:=tF hn h1;rw[e]at this;cases this
 | .loop init b, t', ρ, o', hg, h => by
  simp only[Tm.graft]at hg
  cases hn:b.no nA with
  |false=>rw[hn]at hg;cases hg
  | true =>
   rw[hn,cond_true,Option.some.injEq]at hg;subst hg;refine⟨o',h,.inr ⟨fun e=>?_,rfl⟩⟩;have:=tF (t:=.loop init b) (f:=nA) hn h;rw[e]at this;cases this
theorem iM {id:Nat}:∀ {t t':Tm St} {ρ:List D} {o':Out St},t.exitFall id=some t'->Ec cf t' ρ=some o' ->
  ∃ o,Ec cf t ρ=some o/\((mQ id o.kind=true/\o'=⟨.fall,[],o.ext,o.env⟩)\/(mQ id o.kind=false/\o'=o))
 | .leaf k xs s, t', ρ, o', hg, h => by
  cases k with
  | exit j =>
   simp only[Tm.exitFall,Option.some.injEq]at hg
   cases hb:Nat.beq id j with
   | true =>
    rw[hb,cond_true]at hg;subst hg;rw[fB]at h;obtain rfl:=Option.some.inj h;exact⟨_,fB ..,.inl ⟨by simpa[mQ] using hb,rfl⟩⟩
   | false =>
    rw[hb,cond_false]at hg;subst hg;rw[fB]at h;obtain rfl:=Option.some.inj h;exact⟨_,fB ..,.inr ⟨by simpa[mQ] using hb,rfl⟩⟩
  | _ =>
   simp only[Tm.exitFall,Option.some.injEq]at hg;subst hg;rw[fB]at h;obtain rfl:=Option.some.inj h;exact⟨_,fB ..,.inr ⟨rfl,rfl⟩⟩
 | .stuck, t', ρ, o', hg, h => by
  simp only[Tm.exitFall,Option.some.injEq]at hg;subst hg;rw[iI]at h;cases h
 | .lt g p xs n k, t', ρ, o', hg, h => by
  simp only[Tm.exitFall,Obr]at hg;obtain⟨k',hk,rfl⟩:=hg;rw[Jat]at h;simp only[Jat];split at h
  ·rename_i eJ
   simp only[Obg]at h;obtain⟨ds,h1,h⟩:=h;split at h
   ·rename_i hl
    obtain⟨o,h2,h3⟩:=iM hk h;exact⟨o,by rw[if_pos eJ,h1,Obm,if_pos hl];exact h2,h3⟩
   ·cases h
  ·rename_i eJ
   obtain⟨o,h2,h3⟩:=iM hk h;exact⟨o,by rw[if_neg eJ];exact h2,h3⟩
 | .call g c xs n os k, t', ρ, o', hg, h => by
  simp only[Tm.exitFall,Obr]at hg;obtain⟨k',hk,rfl⟩:=hg;rw[qZ]at h;simp only[qZ];split at h
  ·rename_i eJ
   simp only[Obg]at h;obtain⟨ds,h1,h⟩:=h;split at h
   ·rename_i hl
    obtain⟨o,h2,h3⟩:=iM hk h;exact⟨o,by rw[if_pos eJ,h1,Obm,if_pos hl];exact h2,h3⟩
   ·cases h
  ·rename_i eJ
   obtain⟨o,h2,h3⟩:=iM hk h;exact⟨o,by rw[if_neg eJ];exact h2,h3⟩
 | .ite c t e, t', ρ, o', hg, h => by
  simp only[Tm.exitFall,Obg,Obr]at hg;obtain⟨t1,ht,e1,he,rfl⟩:=hg;rw[Cal]at h;simp only[Cal];split at h
  ·exact iM ht h
  ·exact iM he h
  ·cases h
 | .bind i t k, t', ρ, o', hg, h => by
  simp only[Tm.exitFall]at hg
  cases hn:t.no (mQ id) with
  |false=>rw[hn]at hg;cases hg
  | true =>
   rw[hn,cond_true,Obr]at hg;obtain⟨k',hk,rfl⟩:=hg;simp only[oF,Obg]at h;obtain⟨o1,h1,h2⟩:=h;simp only[oF,h1,Obm];split at h2
   ·rename_i hy
    rw[if_pos hy];exact iM hk h2
   ·rename_i hy
    rw[if_neg hy];obtain rfl:=Option.some.inj h2;exact⟨o1,rfl,.inr ⟨tF hn h1,rfl⟩⟩
 | .loop init b, t', ρ, o', hg, h => by
  simp only[Tm.exitFall]at hg
  cases hn:b.no (mQ id) with
  |false=>rw[hn]at hg;cases hg
  | true =>
   rw[hn,cond_true,Option.some.injEq]at hg;subst hg;exact⟨o',h,.inr ⟨tF (t:=.loop init b) (f:=mQ id) hn h,rfl⟩⟩
theorem jV {out:Kind}{ij:Kind->Bool}{f:St->Option (Tm St)}(hf:∀ s r,f s=some r->∀ ρ o,Ec cf r ρ=some o->o.kind=out)
  (hc:ij .cont=false) (hy:∀ i,ij (.yield i)=false):∀ {t t':Tm St} {ρ:List D} {o':Out St},t.turn out ij f=some t'->Ec cf t' ρ=some o' ->
  ∃ o,Ec cf t ρ=some o/\((ij o.kind=true/\o'.kind=out/\∃ r,f o.ext=some r/\Ec cf r o.env=some o')\/(ij o.kind=false/\o'=o))
 | .leaf k xs s, t', ρ, o', hg, h => by
  simp only[Tm.turn]at hg
  cases hs:ij k with
  | true =>
   rw[hs,cond_true]at hg;exact⟨_,fB ..,.inl ⟨hs,hf _ _ hg _ _ h,t',hg,h⟩⟩
  | false =>
   rw[hs,cond_false,Option.some.injEq]at hg;subst hg;rw[fB]at h;obtain rfl:=Option.some.inj h;exact⟨_,fB ..,.inr ⟨hs,rfl⟩⟩
 | .stuck, t', ρ, o', hg, h => by
  simp only[Tm.turn,Option.some.injEq]at hg;subst hg;rw[iI]at h;cases h
 | .lt g p xs n k, t', ρ, o', hg, h => by
  simp only[Tm.turn,Obr]at hg;obtain⟨k',hk,rfl⟩:=hg;rw[Jat]at h;simp only[Jat];split at h
  ·rename_i eJ
   simp only[Obg]at h;obtain⟨ds,h1,h⟩:=h;split at h
   ·rename_i hl
    obtain⟨o,h2,h3⟩:=jV hf hc hy hk h;exact⟨o,by rw[if_pos eJ,h1,Obm,if_pos hl];exact h2,h3⟩
   ·cases h
  ·rename_i eJ
   obtain⟨o,h2,h3⟩:=jV hf hc hy hk h;exact⟨o,by rw[if_neg eJ];exact h2,h3⟩
 | .call g c xs n os k, t', ρ, o', hg, h => by
  simp only[Tm.turn,Obr]at hg;obtain⟨k',hk,rfl⟩:=hg;rw[qZ]at h;simp only[qZ];split at h
  ·rename_i eJ
   simp only[Obg]at h;obtain⟨ds,h1,h⟩:=h;split at h
   ·rename_i hl
    obtain⟨o,h2,h3⟩:=jV hf hc hy hk h;exact⟨o,by rw[if_pos eJ,h1,Obm,if_pos hl];exact h2,h3⟩
   ·cases h
  ·rename_i eJ
   obtain⟨o,h2,h3⟩:=jV hf hc hy hk h;exact⟨o,by rw[if_neg eJ];exact h2,h3⟩
 | .ite c t e, t', ρ, o', hg, h => by
  simp only[Tm.turn,Obg,Obr]at hg;obtain⟨t1,ht,e1,he,rfl⟩:=hg;rw[Cal]at h;simp only[Cal];split at h
  ·exact jV hf hc hy ht h
  ·exact jV hf hc hy he h
  ·cases h
 | .bind i t k, t', ρ, o', hg, h => by
  simp only[Tm.turn]at hg
  cases hiy:Ia7 i out with
  | true =>
   rw[hiy,cond_true]at hg
   cases hn:t.no ij with
   |false=>rw[hn]at hg;cases hg
   | true =>
    rw[hn,cond_true,Obr]at hg;obtain⟨k',hk,rfl⟩:=hg;simp only[oF,Obg]at h;obtain⟨o1,h1,h2⟩:=h;simp only[oF,h1,Obm];split at h2
    ·rename_i tf
     rw[if_pos tf];exact jV hf hc hy hk h2
    ·rename_i tf
     rw[if_neg tf];obtain rfl:=Option.some.inj h2;exact⟨o1,rfl,.inr ⟨tF hn h1,rfl⟩⟩
  | false =>
   rw[hiy,cond_false]at hg;simp only[Obg,Obr]at hg;obtain⟨t1,ht,k',hk,rfl⟩:=hg;have cn:out≠.yield i:=fun e=>by rw[Oac.2 e]at hiy;cases hiy
   simp only[oF,Obg]at h;obtain⟨o1',h1,h2⟩:=h;obtain⟨o1,h3,h4⟩:=jV hf hc hy ht h1;simp only[oF,h3,Obm]
   rcases h4 with ⟨h5,h6,h7⟩|⟨h5,h6⟩
   ·rw[if_neg (by rw[h6];exact cn)]at h2
    obtain rfl:=Option.some.inj h2;have:o1.kind≠.yield i:=fun e=>by rw[e,hy]at h5;cases h5
    rw[if_neg this];exact⟨o1,rfl,.inl ⟨h5,h6,h7⟩⟩
   ·subst h6
    split at h2
    ·rename_i tf
     rw[if_pos tf];exact jV hf hc hy hk h2
    ·rename_i tf
     rw[if_neg tf];obtain rfl:=Option.some.inj h2;exact⟨_,rfl,.inr ⟨h5,rfl⟩⟩
 | .loop init b, t', ρ, o', hg, h => by
  simp only[Tm.turn]at hg
  cases hic:Pa4 out with
  | true =>
   rw[hic,cond_true]at hg
   cases hn:b.no ij with
   |false=>rw[hn]at hg;cases hg
   | true =>
    rw[hn,cond_true,Option.some.injEq]at hg;subst hg;exact⟨o',h,.inr ⟨tF (t:=.loop init b) (f:=ij) hn h,rfl⟩⟩
  | false =>
   rw[hic,cond_false,Obr]at hg;obtain⟨b',hb,rfl⟩:=hg;have cn:out≠.cont:=fun e=>by rw[Ray.2 e]at hic;cases hic
   rw[Jau]at h;simp only[Jau]
   refine Wae (C:=fun vs o'=>∃ o,Lc cf b ρ vs=some o/\((ij o.kind=true/\o'.kind=out/\∃ r,f o.ext=some r/\Ec cf r o.env=some o')\/(ij o.kind=false/\o'=o)))
    (fun vs o1' h1 hk=>?_) (fun vs o1' o2 h1 hk h2 ua=>?_) h
   ·obtain⟨o1,h3,h4⟩:=jV hf hc hy hb h1
    rcases h4 with ⟨h5,h6,h7⟩|⟨h5,h6⟩
    ·have:o1.kind≠.cont:=fun e=>by rw[e,hc]at h5;cases h5
     exact⟨o1,by rw[Waf,h3,Obm,if_neg this],.inl ⟨h5,h6,h7⟩⟩
    ·subst h6
     exact⟨o1',by rw[Waf,h3,Obm,if_neg hk],.inr ⟨h5,rfl⟩⟩
   ·obtain⟨o1,h3,h4⟩:=jV hf hc hy hb h1
    rcases h4 with ⟨h5,h6,h7⟩|⟨h5,h6⟩
    ·exact absurd (h6.symm.trans hk) cn
    ·subst h6
     obtain⟨o,h8,h9⟩:=h2;exact⟨o,by rw[Waf,h3,Obm,if_pos hk];exact h8,h9⟩
end
def wT (σ:Nat->Option aN)(N:Nat):Prop:=∀ k c,σ k=some c->bP N c=true
def uP (N:Nat)(ρ fw:List D):Prop:=∀ x,aX N x=true->x.val fw=x.val ρ
theorem uP.ext {N:Nat}{ρ:List D}(h:N<=ρ.length)(e:List D):uP N ρ (ρ++e):=fun x hx=>oD hx h
section
variable {n:Nat} {F:bC} {σ:Nat->Option aN} {ρ fw:List D} {a:Act} {w:World} {G:Gh} {N:Nat}
theorem uP.gOn (h:uP N ρ fw){g:Option (aI×Bool)}(hg:mR N g=true):Go.Proofs.YtcbkmmhkccnamaaGreat.Rf.gOn fw g=Go.Proofs.YtcbkmmhkccnamaaGreat.Rf.gOn ρ g:=by
 cases g with
 |none=>rfl
 | some z =>
  obtain⟨x,w⟩:=z;simp only[mR]at hg;simp only[Go.Proofs.YtcbkmmhkccnamaaGreat.Rf.gOn,h x hg]
theorem uP.path (h:uP N ρ fw){p:List (aI×Nat×Nat)}(hp:(p.all fun x=>aX N x.1)=true):aZ fw p=aZ ρ p:=by
 unfold aZ;apply Rbi;intro x hx;rw[Ob8]at hp;unfold jS;rw[h x.1 (hp x hx)]
mutual
theorem aB.same (h:uP N ρ fw):∀ (l:aM) (v:Value),l.inScope N=true->aB σ ρ G w l v->aB σ fw G w l v
 |.dead,_,_,hl=>by simpa[aB] using hl
 | .sc x, v, hs, hl => by
  simp only[aM.inScope]at hs;simp only[aB,h x hs]at hl ⊢;exact hl
 | .su g x, v, hs, hl => by
  simp only[aM.inScope,Obh]at hs;have hg:Go.Proofs.YtcbkmmhkccnamaaGreat.Rf.gOn fw (some g)=Go.Proofs.YtcbkmmhkccnamaaGreat.Rf.gOn ρ (some g):=h.gOn (by obtain⟨y,b⟩:=g;exact hs.2);simp only[aB,h x hs.1,hg]at hl ⊢;exact hl
 |.ex r,v,_,hl=>by simpa[aB] using hl
 | .sn deps p nie x, v, hs, hl => by
  simp only[aM.inScope,Obh]at hs;simp only[aB,h x hs.1]at hl ⊢;refine⟨hl.1,fun hv=>?_⟩;obtain⟨h1,h2,h3⟩:=hl.2 hv;refine⟨h1,h2,?_⟩
  cases p with
  |no=>trivial
  |view=>exact h3
  | suf sz lo =>
   simp only[Aaj,jS]at h3 ⊢;rw[h lo hs.2];exact h3
  | path p =>
   simp only[Aaj]at h3 ⊢;rw[h.path hs.2];exact h3
 |.px b off,v,_,hl=>by simpa[aB] using hl
 | .pe l sz i off, v, hs, hl => by
  simp only[aM.inScope,Obh]at hs;simp only[aB,h i hs.2]at hl ⊢;obtain⟨a,n,c,k,iv,h1,h2⟩:=hl;exact⟨a,n,c,k,iv,aB.same h l _ hs.1 h1,h2⟩
 | .rp deps sz x, v, hs, hl => by
  simp only[aM.inScope]at hs;simp only[aB,h x hs]at hl ⊢;exact hl
 |.pn,v,_,hl=>by simpa[aB] using hl
 | .clo f eN, v, hs, hl => by
  simp only[aM.inScope]at hs;simp only[aB]at hl ⊢;obtain⟨vs,h1,h2⟩:=hl;exact⟨vs,h1,aG.same h eN vs hs h2⟩
theorem aG.same (h:uP N ρ fw):∀ (ls:List aM) (vs:List Value),bB N ls=true->aG σ ρ G w ls vs->aG σ fw G w ls vs
 |[],vs,_,hl=>by simpa[aG] using hl
 | l :: ls, vs, hs, hl => by
  simp only[bB,Obh]at hs;simp only[aG]at hl ⊢;obtain⟨u,us,e,h1,h2⟩:=hl;exact⟨u,us,e,aB.same h l u hs.1 h1,aG.same h ls us hs.2 h2⟩
end
theorem gU.same (h:uP N ρ fw):∀ (ts:List (Bool×List aM)) (us:List Value),(ts.all fun v=>bB N v.2)=true->gU σ ρ G w ts us->gU σ fw G w ts us
 |[],_,_,ht=>ht
 | (a, ls) :: r, us, hs, ht => by
  simp only[List.all_cons,Obh]at hs;obtain⟨u,cA,vs,e,h1,h2,h3⟩:=ht;exact⟨u,cA,vs,e,aG.same h ls vs hs.1 h1,h2,gU.same h r cA hs.2 h3⟩
theorem bR.same (h:uP N ρ fw){v:SV}{u:Value}(hs:uX N v=true)(hv:bR σ ρ G w v u):bR σ fw G w v u:=by
 cases v with
 |dead=>trivial
 |one l=>exact aB.same h l u hs hv
 |agg ls=>obtain⟨vs,e,h1⟩:=hv;exact⟨vs,e,aG.same h ls vs hs h1⟩
 |tup ts=>obtain⟨us,e,h1⟩:=hv;exact⟨us,e,gU.same h ts us hs h1⟩
theorem lD:∀ {ls:List aM} {j:Nat} {l:aM},bB N ls=true->ls[j]?=some l->l.inScope N=true
 |[],j,l,_,h=>by simp at h
 | m :: ls, 0, l, hs, h => by
  simp only[bB,Obh]at hs;simp only[Obn,Option.some.injEq]at h;rw[<- h];exact hs.1
 | m :: ls, j + 1, l, hs, h => by
  simp only[bB,Obh]at hs;exact lD hs.2 (by simpa using h)
theorem R.same (h:R n F σ ρ a w G)(hs:wT σ N)(hv:uP N ρ fw):R n F σ fw a w G:=by
 refine⟨h.tmps,h.defers,fun k c hk=>?_,h.frame,h.rng⟩;have jl:=hs k c hk
 cases c with
 | slot g v =>
  simp only[bP,Obh]at jl;obtain⟨t,e,h1⟩:=h.cont k _ hk;exact⟨t,e,fun hg=>(h1 (by rw[<- hv.gOn jl.1];exact hg)).same hv jl.2⟩
 | box ro ls =>
  simp only[bP]at jl;obtain⟨b,e,h1,h2,h3⟩:=h.cont k _ hk;refine⟨b,e,h1,h2,fun j l hj=>?_⟩;obtain⟨v,h4,h5,h6⟩:=h3 j l hj;exact⟨v,h4,h5,aB.same hv l v (lD jl hj) h6⟩
 | root x m aE st =>
  simp only[bP]at jl;obtain⟨r,e,h0,h1⟩:=h.cont k _ hk;refine⟨r,e,h0,?_⟩
  cases st with
  |live=>simp only[bK]at h1 ⊢;rw[hv x jl];exact h1
  |frozen=>simp only[bK]at h1 ⊢;rw[hv x jl];exact h1
  |gone=>trivial
  |fwd r'=>exact h1
theorem R.ext (h:R n F σ ρ a w G)(hs:wT σ N)(hn:N<=ρ.length)(e:List D):R n F σ (ρ++e) a w G:=h.same hs (.ext hn e)
theorem cZ {M:Nat}(h:N<=M){x:aI}(hx:aX N x=true):aX M x=true:=by
 cases x with
 |c d=>rfl
 |v i=>simp only[aX,Pbf]at hx ⊢;omega
theorem Eaj {M:Nat}(h:N<=M){p:Pth}(hx:yT N p=true):yT M p=true:=by
 cases p with
 |no=>rfl
 |view=>rfl
 |suf sz lo=>exact cZ h hx
 | path p =>
  simp only[yT,Ob8]at hx ⊢;exact fun x hm=>cZ h (hx x hm)
mutual
theorem mO {M:Nat}(h:N<=M):∀ (l:aM),l.inScope N=true->l.inScope M=true
 |.dead,_=>rfl
 |.sc x,hs=>by simp only[aM.inScope]at hs ⊢;exact cZ h hs
 |.su g x,hs=>by simp only[aM.inScope,Obh]at hs ⊢;exact⟨cZ h hs.1,cZ h hs.2⟩
 |.ex r,_=>rfl
 |.sn deps p nie x,hs=>by simp only[aM.inScope,Obh]at hs ⊢;exact⟨cZ h hs.1,Eaj h hs.2⟩
 |.px b off,_=>rfl
 |.pe l sz i off,hs=>by simp only[aM.inScope,Obh]at hs ⊢;exact⟨mO h l hs.1,cZ h hs.2⟩
 |.rp deps sz x,hs=>by simp only[aM.inScope]at hs ⊢;exact cZ h hs
 |.pn,_=>rfl
 |.clo f eN,hs=>by simp only[aM.inScope]at hs ⊢;exact gH h eN hs
theorem gH {M:Nat}(h:N<=M):∀ (ls:List aM),bB N ls=true->bB M ls=true
 |[],_=>rfl
 |l::ls,hs=>by simp only[bB,Obh]at hs ⊢;exact⟨mO h l hs.1,gH h ls hs.2⟩
end
theorem uH {M:Nat}(h:N<=M){c:aN}(hs:bP N c=true):bP M c=true:=by
 cases c with
 | slot g v =>
  simp only[bP,Obh]at hs ⊢;refine⟨uA hs.1 h,?_⟩
  cases v with
  |dead=>rfl
  |one l=>exact mO h l hs.2
  |agg ls=>exact gH h ls hs.2
  | tup ts =>
   have h2:=hs.2;simp only[uX,Ob8]at h2 ⊢;exact fun x hx=>gH h x.2 (h2 x hx)
 |box ro ls=>exact gH h ls hs
 |root x m aE st=>exact cZ h hs
theorem wT.mono {M:Nat}(hs:wT σ N)(h:N<=M):wT σ M:=fun k c hk=>uH h (hs k c hk)
theorem wT.upds {M:Nat}(hs:wT σ N)(h:N<=M){u:List (Nat×aN)}(hu:u.all (fun x=>bP M x.2)=true):wT (upds σ u) M:=by
 intro k c hk
 rcases nE u σ k c hk with h1|⟨-,h1⟩
 ·rw[Ob8]at hu
  exact hu _ h1
 ·exact uH h (hs k c h1)
end
end Go.Proofs.YtcbkmmhkccnamaaGreat.Rf
