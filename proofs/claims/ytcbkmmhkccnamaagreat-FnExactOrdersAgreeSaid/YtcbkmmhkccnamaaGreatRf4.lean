/- Terms for s6 program's functions, and nj they are right: part 4 of 10. -/
import Derived.Test.YtcbkmmhkccnamaaGreatRf3
import Derived.Laws.MakeOwn
open Array renaming getElem?_eq_getElem → Acd, length_toList → Bc5, ext' → Cc5
open Bool renaming and_eq_true → Zbd, not_eq_true' → Zb3
open List renaming mem_append_left → Zbe, getElem?_eq_getElem → Zbf, mem_append_right → Zbh, length_append → Zbi, getElem?_cons_zero → Zbl, append_assoc → Zbm, mem_cons_of_mem → Zbn, mem_singleton → Zbp, replicate → Zbq, length_map → Zbt, mem_cons_self → Zbu, mem_of_getElem? → Zbv, getElem?_append_right → Zbw, getElem?_append_left → Zbx, length_take → Zb1, getElem?_map → Zb2, append_nil → Zb4, map_cons → Zb5, all_eq_true → Zb6, map_nil → Acb, ext_getElem? → Cce, map_congr_left → Ccl
open Nat renaming le_refl → Zbr, lt_or_ge → Zbz, add_assoc → Zb0, beq_eq → Zb8, add_zero → Zb9, add_sub_cancel_left → Ace, blt_eq → Ach, ble_eq → Acr, blt → Acw, le_succ → Ccj, mul_comm → Ccr, le_add_right → Ccv
open Option renaming bind_eq_some_iff → Zbc, bind_some → Zbj, map_eq_some_iff → Zbo, isNone_iff_eq_none → Bc7
set_option linter.unusedSimpArgs false
set_option linter.unusedVariables false
set_option linter.unnecessarySimpa false
set_option linter.unusedSectionVars false
namespace Go.Proofs.YtcbkmmhkccnamaaGreat.Rf
def Yau (lh:List Nat)(mq:Option Nat)(nsz:Nat)(src:Option (Nat×List Nat×Nat))(nr M:Nat)(s:Nat)(p:List Nat):Ow :=
 if s∈lh then .frz else if mq=some s then (match p with
  |k::t=>yZ nr M ((nsz+k)::t)
  |[]=>.frz) else
 match src with
 |some (r,pq,mr)=>if s=r then (if pq <+: p then yZ nr M (p.drop pq.length) else yZ r mr p) else .slc s p
 |none=>.slc s p
section
variable {P:Program} {E:Env} {F:bH} {n:Nat} {σ:Nat->Option aS} {ρ:List D} {a:Act} {w w':World} {G G':Gh} {g:Option (aL×Bool)} {o:Oper} {cf:Nat->List D->Option (List D)} {Q:Exit->Act->World->Prop} {next:Act->World->Prop}
structure XOk (σ:Nat->Option aS) (ρ:List D) (G:Gh) (w:World) (v:Value) (ra:List (List D)) (sz m:Nat) (updX:List (Nat×aS)) (src:Option (Nat×List Nat×Nat)) (A:Option Addr) (b:Addr) (n cap:Nat) (vs:Nat->Nat->Value):Prop where
 side:Side w v ra sz A b n cap vs
 base:(A=some b/\b.spot=none)\/(A=none/\cap=0)
 own:A=some b->∃ r pq mr,src=some (r,pq,mr)/\G.own b.block=.slc r pq
 all:A=some b->∀ k,k<cap*sz->∃ u,w.cell? (b.add k)=some u/\w.frozen? (b.add k)=false
 ch:∀ i row,ra[i]?=some row->∀ j d,row[j]?=some d->∃ r pq mr,src=some (r,pq,mr)/\Rp G.own w r (pq++[i*sz+j]) (m-1) (vs i j) d
 m:1<=m
 upd:(src=none/\updX=[])\/∃ r pq mr X k,src=some (r,pq,mr)/\σ (kR r)=some (.root X mr k .live) /\
  ((pq=[]/\updX=[(kR r,.root (.c .hole) 0 0 .gone)])\/(∃ X',updX=[(kR r,.root X' mr (k+1) .live)]/\Upd pq (X.val ρ) .hole (X'.val ρ)/\zN G.own w r [] (G.hdr r) pq v/\pq.length<mr))
theorem Hbp (hR:R E.ntmps F σ ρ a w G)(hd:fG E.ntmps o){nb nr:Nat}(hf:Dao σ nb nr){fl:Bool}{vx vy v:Value}{ra rb:List (List D)}{sz m dy M:Nat}{updX gm:List (Nat×aS)}{src:Option (Nat×List Nat×Nat)}{ry lh:List Nat}{mq:Option Nat}
  {A By:Option Addr} {b by':Addr} {n n' cap mo:Nat} {vs tE:Nat->Nat->Value}
  (hX:XOk σ ρ G w vx ra sz m updX src A b n cap vs) (hY:YOk σ G w fl vy rb sz dy gm ry lh mq)
  (qm:Side w vy rb sz By by' n' mo tE) (hYc:∀ i row,rb[i]?=some row->∀ j d,row[j]?=some d->ChY G w lh mq dy (tE i j) d (i*sz+j))
  {w1:World} {A':Option Addr} {cb:Addr} {iS:Nat} {grow:Bool} (hA:Ob4 w w1 G A n n' cap sz (lW vs n sz) (lW tE n' sz) v A' cb iS grow)
  (kc:fl=true->∀ r∈ra++rb,∀ d∈r,d.isSc=true) (hM1:1<=M) (hM:fl=false->M<=m/\M<=dy)
  (xF:∀ r pq mr,src=some (r,pq,mr)->r∉ry\/fl=true) {y:aL} (hy:y.val ρ=.rows sz (ra++rb)) :
  ∃ G',R E.ntmps F (upds σ (dW o none (.one (.ex nr))++((kR nr,.root y M 0 .live)::updX++gm))) ρ (a.put o.dst v) w1 G':=by
 obtain⟨M,rfl⟩:∃ M',M=M'+1:=⟨M-1,by omega⟩;have jj:σ (kR nr)=none:=hf.nr nr (Zbr _) (by unfold bW;omega)
 have mN:∀ b,G.own b≠.frz->b<w.heap.size:=fun b hb=>by
  rcases Zbz b w.heap.size with h|h
  ·exact h
  ·exact absurd (hR.frame.fresh b h) hb
 have a1j:∀ r pq mr,src=some (r,pq,mr)->r∉lh/\mq≠some r:=by
  intro r pq mr e
  rcases xF r pq mr e with h|h
  ·exact⟨fun hh=>h (hY.fz r hh).1,fun hh=>h (hY.mv r hh).1⟩
  ·obtain⟨-,h2,h3⟩:=hY.flat h
   rw[h2,h3];simp
 have pB:∀ r pq mr,src=some (r,pq,mr)->∃ X k,σ (kR r)=some (.root X mr k .live)/\∃ c,(kR r,c)∈updX:=by
  intro r pq mr e
  rcases hX.upd with ⟨h1,-⟩|⟨r',vq,sr,X,k,h1,h2,h3⟩
  ·rw[h1]at e;cases e
  ·rw[h1]at e
   obtain⟨rfl,rfl,rfl⟩:r'=r/\vq=pq/\sr=mr:=by injection e with e;injection e with e1 e;injection e with e2 e3;exact⟨e1,e2,e3⟩
   refine⟨X,k,h2,?_⟩
   rcases h3 with ⟨-,h3⟩|⟨X',h3,-⟩<;>exact⟨_,by rw[h3];exact List.mem_singleton.2 rfl⟩
 have y8:grow=false->A'≠none->∃ r pq mr,src=some (r,pq,mr)/\G.own cb.block=.slc r pq:=by
  intro hg cJ
  rcases hA.base with ⟨h1,-⟩|⟨-,-,h2⟩|⟨-,h2⟩
  ·rw[hg]at h1;cases h1
  ·rcases hX.base with ⟨h3,h4⟩|⟨h3,-⟩
   ·rw[h2]at h3
    obtain rfl:=Option.some.inj h3;exact hX.own h2
   ·rw[h2]at h3;cases h3
  ·exact absurd h2 cJ
 have cA:∀ b,b<w.heap.size->(∀ r pq mr,src=some (r,pq,mr)->G.own b≠.slc r pq)->w1.heap[b]?=w.heap[b]?:=by
  intro b' hlt di;refine hA.heap b' hlt ?_
  cases hg:grow with
  |true=>exact .inl rfl
  | false =>
   by_cases cJ:A'=none
   ·exact .inr (.inl cJ)
   ·obtain⟨r,pq,mr,h1,h2⟩:=y8 hg cJ
    exact .inr (.inr fun e=>di r pq mr h1 (e▸h2))
 generalize a7:(fun b'=>if b'=w.heap.size then (if grow=true then Ow.slc nr [] else .frz) else mR (Yau lh mq (n*sz) src nr (M+1)) (G.own b'))=own'
 have fN:∀ b' s p,G.own b'=.slc s p->own' b'=Yau lh mq (n*sz) src nr (M+1) s p:=fun b' s p hb=>by
  have:=mN b' (by rw[hb];simp);rw[<- a7];dsimp only;rw[if_neg (by omega),hb];rfl
 have hz:∀ b',G.own b'=.frz->b'<w.heap.size->own' b'=.frz/\w1.heap[b']?=w.heap[b']?:=fun b' hb hlt=>by
  refine⟨?_,cA b' hlt fun _ _ _ _=>by rw[hb];simp⟩;rw[<- a7];dsimp only;rw[if_neg (by omega),hb];rfl
 have a0g:∀ s∈lh,∀ p,Yau lh mq (n*sz) src nr (M+1) s p=.frz:=fun s hs p=>by
  unfold Yau;rw[if_pos hs]
 have sE:∀ r pq mr,src=some (r,pq,mr)->∀ p,Yau lh mq (n*sz) src nr (M+1) r p=if pq <+: p then yZ nr (M+1) (p.drop pq.length) else yZ r mr p:=fun r pq mr e p=>by
  obtain⟨h1,h2⟩:=a1j r pq mr e;unfold Yau;rw[if_neg h1,if_neg h2,e];simp
 have tk:∀ s,s∈ry->fl=false->∀ r pq mr,src=some (r,pq,mr)->s≠r:=fun s hs fX r pq mr e h=>by
  rcases xF r pq mr e with h1|h1
  ·exact h1 (h▸hs)
  ·rw[fX]at h1;cases h1
 have hold:∀ i row,ra[i]?=some row->∀ j d,row[j]?=some d->w1.cell? (cb.add (i*sz+j))=some (vs i j)/\Rp own' w1 nr [i*sz+j] M (vs i j) d:=by
  intro i row hi j d hj;have lO:i<n:=by rw[<- hX.side.len];exact (List.getElem?_eq_some_iff.1 hi).1
  have kz:j<sz:=by
   have:=(List.getElem?_eq_some_iff.1 hj).1;rwa[hX.side.rows row (Zbv hi)]at this
  refine⟨hA.cell _ _ (by rw[Zbx];exact zC vs lO kz;exact (List.getElem?_eq_some_iff.1 (zC vs lO kz)).1),?_⟩;obtain⟨r,pq,mr,e,h1⟩:=hX.ch i row hi j d hj
  cases fX:fl with
  |true=>exact .sc (h1.sc_inv (kc fX row (Zbe _ (Zbv hi)) d (Zbv hj)))
  | false =>
   obtain⟨h2,h3⟩:=hM fX;refine h1.move hz _ M (by omega) fun b' t hb=>⟨?_,cA b' (mN b' (by rw[hb];simp)) fun r' vq sr e' hh=>?_⟩
   ·rw[fN b' _ _ hb,sE r pq mr e,if_pos (by rw[Zbm];exact List.prefix_append _ _),Zbm,List.drop_left,yZ]
    simp only[Zbi,List.length_singleton];by_cases ht:t.length<M
    ·rw[if_pos ht,if_pos (by omega)]
    ·rw[if_neg ht,if_neg (by omega)]
   ·rw[e]at e'
    obtain⟨rfl,rfl,rfl⟩:r=r'/\pq=vq/\mr=sr:=by injection e' with e;injection e with e1 e;injection e with e2 e3;exact⟨e1,e2,e3⟩
    rw[hb]at hh
    injection hh with _ hh
    have:=congrArg List.length hh;simp at this
 have gw:∀ i row,rb[i]?=some row->∀ j d,row[j]?=some d->w1.cell? (cb.add ((n+i)*sz+j))=some (tE i j)/\Rp own' w1 nr [(n+i)*sz+j] M (tE i j) d:=by
  intro i row hi j d hj;have lO:i<n':=by rw[<- qm.len];exact (List.getElem?_eq_some_iff.1 hi).1
  have kz:j<sz:=by
   have:=(List.getElem?_eq_some_iff.1 hj).1;rwa[qm.rows row (Zbv hi)]at this
  have kr:(n+i)*sz+j=n*sz+(i*sz+j):=by rw[Nat.add_mul];omega
  refine⟨hA.cell _ _ (by rw[kr,Zbw (by rw[nX];omega),nX,Ace];exact zC tE lO kz),?_⟩;have na:fl=true->d.isSc=true:=fun fX=>kc fX row (Zbh _ (Zbv hi)) d (Zbv hj)
  rcases hYc i row hi j d hj with h1|⟨s,h1,h2,h3⟩|⟨h1,h2⟩
  ·exact .sc h1
  ·cases fX:fl with
   |true=>exact .sc (h3.sc_inv (na fX))
   | false =>
    obtain⟨h4,h5⟩:=hM fX;obtain⟨h6,-,h7⟩:=hY.mv s h1;refine h3.move hz _ M (by omega) fun b' t hb=>⟨?_,cA b' (mN b' (by rw[hb];simp)) fun r' vq sr e' hh=>?_⟩
    ·rw[fN b' _ _ hb]
     unfold Yau;rw[if_neg h7,if_pos h1];simp only[List.singleton_append];rw[yZ,kr];simp only[List.length_cons];by_cases ht:t.length<M
     ·rw[if_pos ht,if_pos (by omega)]
     ·rw[if_neg ht,if_neg (by omega)]
    ·rw[hb]at hh
     injection hh with hh _
     exact tk s h6 fX r' vq sr e' hh
  ·cases fX:fl with
   |true=>exact .sc (h2.sc_inv (na fX))
   | false =>
    obtain⟨h4,h5⟩:=hM fX;obtain rfl:M=0:=by omega
    refine .fz (h2.mono' fun b' hb hlt=>?_)
    rcases hb with hb|⟨r',p',h6,hb⟩
    ·exact hz b' hb hlt
    ·refine⟨by rw[fN b' _ _ hb,a0g r' h6],cA b' hlt fun r'' vq sr e' hh=>?_⟩
     rw[hb]at hh
     injection hh with hh _
     exact tk r' (hY.fz r' h6).1 fX r'' vq sr e' hh
 have cY:∀ {s:Nat} {c:aS},(kR s,c)∈(kR nr,aS.root y (M+1) 0 .live)::updX++gm ->
   (s=nr/\c=.root y (M+1) 0 .live) \/
   (∃ pq mr X k,src=some (s,pq,mr)/\σ (kR s)=some (.root X mr k .live)/\(c=.root (.c .hole) 0 0 .gone\/∃ X',c=.root X' mr (k+1) .live/\Upd pq (X.val ρ) .hole (X'.val ρ)/\zN G.own w s [] (G.hdr s) pq vx/\pq.length<mr)) \/
   (mq=some s/\s∈ry/\c=.root (.c .hole) 0 0 .gone) \/
   (s∈lh/\s∈ry/\∃ x m v,c=.root x m v .frozen/\σ (kR s)=some (.root x m v .live)):=by
  intro s c hc
  rcases List.mem_append.1 hc with hc|hc
  ·rcases List.mem_cons.1 hc with hc|hc
   ·obtain⟨e1,e2⟩:=Prod.mk.inj hc
    exact .inl ⟨eZ e1,e2⟩
   ·rcases hX.upd with ⟨-,h2⟩|⟨r,pq,mr,X,k,h1,h2,h3⟩
    ·rw[h2]at hc;simp at hc
    ·rcases h3 with ⟨h4,h5⟩|⟨X',h5,h6⟩
     ·rw[h5]at hc
      simp only[Zbp,Prod.mk.injEq]at hc;obtain⟨e1,e2⟩:=hc;obtain rfl:=eZ e1;exact .inr (.inl ⟨pq,mr,X,k,h1,h2,.inl e2⟩)
     ·rw[h5]at hc
      simp only[Zbp,Prod.mk.injEq]at hc;obtain⟨e1,e2⟩:=hc;obtain rfl:=eZ e1;exact .inr (.inl ⟨pq,mr,X,k,h1,h2,.inr ⟨X',e2,h6⟩⟩)
  ·obtain⟨s',e1,h1,h2⟩:=hY.upd _ _ hc
   obtain rfl:=eZ e1
   rcases h2 with ⟨h2,h3,-⟩|⟨h2,x,m,bc,h3,h4⟩
   ·exact .inr (.inr (.inl ⟨h2,h1,h3⟩))
   ·exact .inr (.inr (.inr ⟨h2,h1,x,m,bc,h3,h4⟩))
 have lR:∀ r,(σ (kR r)).isSome->r≠nr:=fun r hr e=>by rw[e,jj]at hr;cases hr
 have tR:∀ s,s∈lh->fl=false:=fun s hs=>by
  cases fX:fl with
  |false=>rfl
  |true=>rw[(hY.flat fX).2.1]at hs;simp at hs
 refine⟨{ G with own:=own',hdr:=fun r=>if r=nr then v else G.hdr r },hR.own hd (f:=Yau lh mq (n*sz) src nr (M+1)) (wr:=fun b'=>b'=cb.block/\grow=false/\A'≠none) ?_ ?_ ?_ ?_ ?_ ?_ ?_ ?_ ?_ ?_ ?_ rfl ?_ ?_⟩
 ·intro k c hc
  rcases List.mem_append.1 hc with hc|hc
  ·rcases List.mem_cons.1 hc with hc|hc
   ·exact⟨nr,(Prod.mk.inj hc).1⟩
   ·rcases hX.upd with ⟨-,h2⟩|⟨r,pq,mr,X,k',h1,h2,h3⟩
    ·rw[h2]at hc;simp at hc
    ·rcases h3 with ⟨h4,h5⟩|⟨X',h5,h6⟩<;>(rw[h5]at hc;simp only[Zbp,Prod.mk.injEq]at hc;exact⟨r,hc.1⟩)
  ·obtain⟨s',e1,-⟩:=hY.upd _ _ hc
   exact⟨s',e1⟩
 ·intro b' hlt
  show own' b'=_
  rw[<- a7];dsimp only;rw[if_neg (by omega)]
 ·intro b' hb
  rw[hA.size]at hb;show own' b'=.frz
  rw[<- a7];dsimp only;by_cases e:b'=w.heap.size
  ·rw[if_pos e]
   cases hg:grow with
   |true=>rw[hg]at hb;simp at hb;omega
   |false=>simp
  ·rw[if_neg e,hR.frame.fresh b' (by split at hb<;>omega)];rfl
 ·exact⟨hA.os.1,hA.os.2.1,hA.os.2.2,by rw[hA.size];omega⟩
 ·intro b' hb
  show own' b'=.frz\/∃ r p,own' b'=.slc r p/\_
  rw[<- a7];dsimp only;by_cases e:b'=w.heap.size
  ·rw[if_pos e]
   cases hg:grow with
   |true=>exact .inr ⟨nr,[],by simp,jj⟩
   |false=>exact .inl (by simp)
  ·rw[if_neg e,hR.frame.fresh b' hb];exact .inl rfl
 ·intro b' hlt hnw
  refine hA.heap b' hlt ?_
  cases hg:grow with
  |true=>exact .inl rfl
  | false =>
   by_cases cJ:A'=none
   ·exact .inr (.inl cJ)
   ·exact .inr (.inr fun e=>hnw ⟨e,hg,cJ⟩)
 ·rintro b' ⟨rfl,hg,cJ⟩
  obtain⟨r,pq,mr,h1,h2⟩:=y8 hg cJ;obtain⟨X,k,-,c,hc⟩:=pB r pq mr h1;exact⟨r,pq,h2,c,Zbe _ (Zbn _ hc)⟩
 ·intro b' s p hb gp
  have h1:s∉lh:=fun hs=>by
   rcases (hY.fz s hs).2 with ⟨c,hc⟩|⟨x,m,bc,h⟩
   ·exact gp c (Zbh _ hc)
   ·exact (hR.root h).2 b' p hb
  have h2:mq≠some s:=fun hs=>by
   obtain⟨c,hc⟩:=(hY.mv s hs).2.1;exact gp c (Zbh _ hc)
  unfold Yau;rw[if_neg h1,if_neg h2]
  cases pL:src with
  |none=>rfl
  | some x =>
   obtain⟨r,pq,mr⟩:=x;dsimp only;rw[if_neg];intro e;obtain⟨X,k,-,c,hc⟩:=pB r pq mr pL;exact gp c (Zbe _ (Zbn _ (e▸hc)))
 ·intro s c hc _
  rcases cY hc with ⟨rfl,rfl⟩|⟨pq,mr,X,k,h1,h2,h3⟩|⟨h1,h2,rfl⟩|⟨h1,h2,x,m',bc,rfl,h4⟩
  ·exact .inl ⟨jj,_,_,_,_,rfl⟩
  ·rcases h3 with rfl|⟨X',rfl,-⟩
   ·exact .inr (.inr (.inl ⟨_,_,_,_,rfl,by simp,by simp⟩))
   ·exact .inr (.inl ⟨_,_,_,_,_,h2,rfl⟩)
  ·exact .inr (.inr (.inl ⟨_,_,_,_,rfl,by simp,by simp⟩))
  ·refine .inr (.inr (.inr ⟨x,m',bc,h4,rfl,fun b' p hb=>⟨?_,cA b' (mN b' (by rw[hb];simp)) fun r pq mr e hh=>?_⟩⟩))
   ·show own' b'=.frz
    rw[fN b' _ _ hb,a0g s h1]
   ·rw[hb]at hh
    injection hh with hh _
    exact tk s h2 (tR s h1) r pq mr e hh
 ·intro r0 x0 m0 k0 nn s p q hF
  have zp:=lR r0 (by rw[nn];rfl)
  have qd:∀ R M' q',yZ R M' q'=.slc r0 q->R=r0:=by
   intro R M' q' h;unfold yZ at h;split at h
   ·injection h
   ·cases h
  unfold Yau at hF;split at hF
  ·cases hF
  ·split at hF
   ·split at hF
    ·exact absurd (qd _ _ _ hF).symm zp
    ·cases hF
   ·split at hF
    ·rename_i _ r pq mr
     split at hF
     ·split at hF
      ·exact absurd (qd _ _ _ hF).symm zp
      ·have:=qd _ _ _ hF
       subst this;obtain⟨X,k,h,-⟩:=pB r pq mr rfl;rw[h]at nn
       injection nn with e;injection e with _ _ _ e;cases e
     ·injection hF with h1 h2;exact⟨h1,h2⟩
    ·injection hF with h1 h2;exact⟨h1,h2⟩
 ·intro r hr
  show (if r=nr then _ else _)=_
  rw[if_neg (lR r hr)]
 ·intro _ _
  simp only[cB,aB,if_true];refine⟨trivial,eD _ _ _ (.inr ⟨_,Zbh _ (Zbe _ Zbu)⟩),by rw[hA.val];rfl⟩
 ·intro _ s c hc _
  rcases cY hc with ⟨rfl,rfl⟩|⟨pq,mr,X,k,h1,h2,h3⟩|⟨h1,h2,rfl⟩|⟨h1,h2,x,m',bc,rfl,h4⟩
  ·refine⟨_,_,_,_,rfl,?_⟩
   simp only[bS,if_true];rw[hy,hA.val]
   have mS:∀ i row,(ra++rb)[i]?=some row->(i<n/\ra[i]?=some row)\/(n<=i/\rb[i-n]?=some row):=by
    intro i row hi;by_cases hlt:i<ra.length
    ·rw[Zbx hlt]at hi
     exact .inl ⟨by rw[<- hX.side.len];exact hlt,hi⟩
    ·rw[Zbw (by omega),hX.side.len]at hi
     exact .inr ⟨by rw[<- hX.side.len];omega,hi⟩
   refine .sl _ cb (n+n') iS sz _ (fun i j=>if i<n then vs i j else tE (i-n) j) (by simp[hX.side.len,qm.len]) hA.le hA.aval (fun row hr=>?_) (fun mw=>⟨hA.spot,?_,fun k hk=>hA.all k hk⟩) (fun i row hi j d hj=>?_) (fun i row hi j d hj=>?_)
   ·rcases List.mem_append.1 hr with hr|hr
    ·exact hX.side.rows _ hr
    ·exact qm.rows _ hr
   ·rcases hA.base with ⟨h1,-,h2⟩|⟨h1,-⟩|⟨-,h2⟩
    ·rw[<- a7]
     dsimp only;rw[if_pos h2,if_pos h1]
    rotate_left
    ·rw[h2]at mw;cases mw
    ·obtain⟨r,pq,mr,h2,h3⟩:=y8 h1 (by rw[mw];simp)
     rw[fN _ _ _ h3,sE r pq mr h2,if_pos List.prefix_rfl];simp[yZ]
   ·rcases mS i row hi with ⟨h1,h2⟩|⟨h1,h2⟩
    ·rw[if_pos h1];exact (hold i row h2 j d hj).1
    ·rw[if_neg (by omega)]
     have:=(gw _ row h2 j d hj).1;rwa[show n+(i-n)=i by omega]at this
   ·rcases mS i row hi with ⟨h1,h2⟩|⟨h1,h2⟩
    ·rw[if_pos h1];exact (hold i row h2 j d hj).2
    ·rw[if_neg (by omega)]
     have:=(gw _ row h2 j d hj).2;rwa[show n+(i-n)=i by omega]at this
  ·rcases h3 with rfl|⟨X',rfl,h4,h5,h6⟩
   ·exact⟨_,_,_,_,rfl,trivial⟩
   ·refine⟨_,_,_,_,rfl,?_⟩
    simp only[bS];rw[if_neg (lR s (by rw[h2];rfl))];have hr:=hR.root h2;simp only[bS]at hr;have:=Rp.upd (own':=own') (w':=w1) (r:=s) (M':=mr) (full:=pq) hz (fun b' t hb ht=>⟨?_,cA b' (mN b' (by rw[hb];simp)) fun r' vq sr e' hh=>?_⟩) (by omega) (.hole _ (by rw[hX.side.val];rfl)) pq [] mr (G.hdr s) _ _ rfl (Zbr _) (by simpa using hr) h5 h4
    ·simpa using this
    ·rw[fN b' _ _ hb,sE s pq mr h1,if_neg ht]
     rfl
    ·rw[h1]at e'
     obtain⟨-,rfl,-⟩:s=r'/\pq=vq/\mr=sr:=by injection e' with e;injection e with e1 e;injection e with e2 e3;exact⟨e1,e2,e3⟩
     rw[hb]at hh
     injection hh with _ hh
     exact ht (hh▸List.prefix_rfl)
  ·exact⟨_,_,_,_,rfl,trivial⟩
  ·refine⟨x,m',bc,.frozen,rfl,?_,fun b' p hb=>?_⟩
   ·have:=hR.root h4
    simp only[bS]at this ⊢;rw[if_neg (lR s (by rw[h4];rfl))];refine this.rd.mono' fun b' hb hlt=>?_
    rcases hb with hb|⟨p,hb⟩
    ·exact hz b' hb hlt
    ·refine⟨by rw[fN b' _ _ hb,a0g s h1],cA b' hlt fun r pq mr e hh=>?_⟩
     rw[hb]at hh
     injection hh with hh _
     exact tk s h2 (tR s h1) r pq mr e hh
   ·have di:own' b'=.slc s p:=hb
    have hsn:=lR s (by rw[h4];rfl)
    have qd:∀ R M' q',R≠s->yZ R M' q'≠.slc s p:=by
     intro R M' q' iw h;unfold yZ at h;split at h
     ·injection h with h _;exact iw h
     ·cases h
    rcases Zbz b' w.heap.size with hlt|mj
    ·rw[<- a7]at di
     dsimp only at di;rw[if_neg (by omega)]at di
     cases e:G.own b' with
     | slc s' p' =>
      rw[e]at di;have hF:Yau lh mq (n*sz) src nr (M+1) s' p'=.slc s p:=di;unfold Yau at hF;split at hF
      ·cases hF
      ·rename_i ka
       split at hF
       ·split at hF
        ·exact qd _ _ _ hsn.symm hF
        ·cases hF
       ·split at hF
        ·rename_i _ r pq mr
         split at hF
         ·split at hF
          ·exact qd _ _ _ hsn.symm hF
          ·exact qd _ _ _ (tk s h2 (tR s h1) r pq mr rfl).symm hF
         ·injection hF with h5 _;exact ka (h5▸h1)
        ·injection hF with h5 _;exact ka (h5▸h1)
     |_=>rw[e]at di;cases di
    ·rw[<- a7]at di
     dsimp only at di;by_cases e:b'=w.heap.size
     ·rw[if_pos e]at di
      split at di
      ·injection di with h5 _;exact hsn h5.symm
      ·cases di
     ·rw[if_neg e,hR.frame.fresh b' mj]at di
      cases di
end
section
variable {P:Program} {E:Env} {F:bH} {n:Nat} {σ:Nat->Option aS} {ρ:List D} {a:Act} {w w':World} {G G':Gh} {g:Option (aL×Bool)} {o:Oper} {cf:Nat->List D->Option (List D)} {Q:Exit->Act->World->Prop} {next:Act->World->Prop}
theorem Kbm {sz bytes:Nat}{fl:Bool}{x y:D}{ds:List D}(h:(aU.app sz bytes fl).run [x,y]=some ds) :
  ∃ ra rb,x=.rows sz ra/\y=.rows sz rb/\(fl=true->∀ r∈ra++rb,∀ d∈r,d.isSc=true)/\(ra.length+rb.length)*bytes<=gX/\ds=[.rows sz (ra++rb)]:=by
 cases x<;>cases y<;>simp only[aU.run]at h<;>first|cases h|skip
 rename_i s1 ra s2 rb;split at h
 ·rename_i h1
  obtain⟨rfl,rfl,h2,h3⟩:=h1;simp only[Option.some.injEq]at h;refine⟨ra,rb,rfl,rfl,fun hf=>?_,h3,h.symm⟩;rw[hf]at h2;simp only[Bool.not_true,Bool.false_or,Zb6]at h2;exact fun r hr d hd=>h2 r hr d hd
 ·cases h
theorem XOk.ofRp {v:Value}{ra:List (List D)}{sz md r mr:Nat}{pq:List Nat}{updX:List (Nat×aS)}(h:Rp G.own w r pq md v (.rows sz ra))(h1:1<=md){X:aL}{k:Nat}(hk:σ (kR r)=some (.root X mr k .live))
  (hu:(pq=[]/\updX=[(kR r,.root (.c .hole) 0 0 .gone)])\/(∃ X',updX=[(kR r,.root X' mr (k+1) .live)]/\Upd pq (X.val ρ) .hole (X'.val ρ)/\zN G.own w r [] (G.hdr r) pq v/\pq.length<mr)) :
  ∃ A b n cap vs,XOk σ ρ G w v ra sz md updX (some (r,pq,mr)) A b n cap vs:=by
 obtain⟨m',rfl⟩:∃ m',md=m'+1:=⟨md-1,by omega⟩;obtain⟨A,b,n,c,vs,e1,e2,e3,e4,e5,e6,e7,e8⟩:=h.sl_inv;refine⟨A,b,n,c,vs,⟨e1,e2,e3,e5,e7⟩,?_,fun hA=>⟨r,pq,mr,rfl,(e6 hA).2.1⟩,fun hA=>(e6 hA).2.2,fun i row hi j d hj=>⟨r,pq,mr,rfl,e8 i row hi j d hj⟩,h1,.inr ⟨r,pq,mr,X,k,rfl,hk,hu⟩⟩
 rcases e4 with e4|e4
 ·exact .inl ⟨e4,(e6 e4).1⟩
 ·exact .inr e4
theorem Kbn (hR:R E.ntmps F σ ρ a w G)(hd:fG E.ntmps o){nb nr nv:Nat}(hf:Dao σ nb nr){t tx e:TypeId}{ti:TI}{info:TypeInfo}{u u':TypeDesc}{x y:Operand}{args:Array Operand}{argTypes:Array TypeId}
  (ho:o.op=.call { callee:=.builtin .append,args,argTypes }) (e9:args.toList=[x,y]) (je:argTypes=#[t,tx]) (hu:P.underlying t=some (.slice e)) (f:dB P e ti info u) (hx:P.underlying tx=some u') (qj:∃ e',u'=.slice e')
  (hb0:0<ti.bytes) (hs0:0<ti.size) {ys:SlR} (ma:Yas σ ρ G w ys (a.eval y)) {dy:Nat} {gm:List (Nat×aS)} {ry:List Nat} (hY:(Uam (Oas ti.cells) ys).eval σ=some (dy,gm,ry))
  {sx:aL} {m:Nat} {pre:List Step} {updX:List (Nat×aS)} (aE:aN cf ρ none nv (pre++[.prim (.app ti.size ti.bytes (Oas ti.cells)) [sx,ys.x] 1]))
  (hXs:∀ ra,sx.val ρ=.rows ti.size ra->∃ src A b n cap vs,XOk σ ρ G w (a.eval x) ra ti.size m updX src A b n cap vs/\∀ r pq mr,src=some (r,pq,mr)->r∉ry\/Oas ti.cells=true) :
  o.wp P a w (Nx E.ntmps F σ ρ (dW o none (.one (.ex nr))++((kR nr,.root (.v (nv+bI pre)) (bif Oas ti.cells then big else min m dy) 0 .live)::updX++gm))) Q:=by
 obtain⟨-,mm⟩:=aN.append aE;obtain⟨d,h1,h2⟩:=Cac mm.1 (show gOn ρ none=true from rfl);simp only[Zb5,Acb]at h1;obtain⟨ra,rb,e1,e2,e3,e4,e5⟩:=Kbm h1;simp only[List.cons.injEq,and_true]at e5;obtain⟨src,A,b,n,cap,vs,hX,oc⟩:=hXs ra e1;obtain⟨lh,mq,hYo⟩:=Rbw hR ma e2 (fun fX r hr d hd=>e3 fX r (Zbh _ hr) d hd) hY;obtain⟨By,by',n',mo,tE,qm,hYb,hYc⟩:=hYo.side;have oz:(lW vs n ti.size).length=n*ti.size:=nX _ _ _;have jh:(lW tE n' ti.size).length=n'*ti.size:=nX _ _ _;have yt:=Da5 hX.side.rows hX.side.cell;have rK:=Da5 qm.rows qm.cell;rw[hX.side.len]at yt;rw[qm.len]at rK
 have a10:∀ u∈lW tE n' ti.size,u.oneCell'=true:=by
  intro u hu;obtain⟨k,hk⟩:=List.mem_iff_getElem?.1 hu;obtain⟨k1,k2,k3,rfl⟩:=Eaw hk;have hr:rb[k / ti.size]?=some (rb[k / ti.size]'(by rw[qm.len];exact k1)):=Zbf _;have sa:=qm.rows _ (Zbv hr);have na:(rb[k / ti.size]'(by rw[qm.len];exact k1))[k % ti.size]?=some _:=Zbf (by rw[sa];exact k2)
  rcases hYc _ _ hr _ _ na with h|⟨_,_,_,h⟩|⟨_,h⟩
  ·exact h.one
  ·exact h.one
  ·exact h.one
 have hM1:1<=(bif Oas ti.cells then big else min m dy):=by
  have:=hX.m;have:=hYo.dy
  cases Oas ti.cells with
  |true=>simp only[cond_true];unfold big;omega
  |false=>simp only[cond_false];omega
 have hM:Oas ti.cells=false->(bif Oas ti.cells then big else min m dy)<=m/\(bif Oas ti.cells then big else min m dy)<=dy:=fun h=>by
  rw[h,cond_false];omega
 have zq:(aL.v (nv+bI pre)).val ρ=.rows ti.size (ra++rb):=h2.trans e5;obtain⟨v,w1,A',cb,iS,grow,bj,hA⟩:=Ma7 (P:=P) (w:=w) (G:=G) (a:=a) (o:=o) ho e9 je hu f hx qj (A:=A) (n:=n) (cap:=cap) (n':=n') (b:=b) (olds:=lW vs n ti.size) (news:=lW tE n' ti.size) hX.side.val hX.side.le hX.base oz yt hX.all qm.val hYb jh rK a10 hb0 hs0 (by rw[<- hX.side.len,<- qm.len];exact e4);exact nJ bj (Hbp hR hd hf hX hYo qm hYc hA e3 hM1 hM oc zq)
theorem Pap (hR:R E.ntmps F σ ρ a w G)(hd:fG E.ntmps o)(hti:vN P E.ti){nv nb nr:Nat}{mv dt:Bool}(hf:Dao σ nb nr){args:Array Operand}{argTypes:Array TypeId}(ho:o.op=.call { callee:=.builtin .append,args,argTypes })
    {x y:Operand} (e9:args.toList=[x,y]) {t ty:TypeId} {ti ei yi:TI} {e:Nat} (ht:argTypes[0]?=some t) (hty:argTypes[1]?=some ty) (hi:E.ti t=some ti) (he:ti.elem=some e) (vo:E.ti e=some ei) (zt:E.ti ty=some yi)
    (gb:(yi.elem.isSome&&Acw 0 ei.size&&noG g&&Acw 0 ei.bytes&&Nat.beq argTypes.size 2)=true) {lx ly:aR} (h1:(rdL E g t x).eval σ=some lx) (h2:(rdL E g ty y).eval σ=some ly) {res:bP}
    (h:(Mas nv nr mv dt o ei lx ly).eval σ=some res) (aE:aN cf ρ g nv res.lets):gV P E F σ ρ a w g o Q res.upd:=by
  simp only[Zbd,Ach,Zb8]at gb;obtain⟨⟨⟨⟨a5o,dw⟩,z8⟩,zy⟩,p5⟩:=gb;obtain rfl:=wO z8;refine⟨fun hg=>?_,fun hg=>by simp[gOn]at hg⟩
  have je:argTypes=#[t,ty]:=by
    apply Cc5;apply Cce;intro k
    match k with
    |0=>simpa using ht
    |1=>simpa using hty
    |k+2=>simp[p5]
  obtain⟨i1,u1,f1⟩:=aX (hti.ok _ _ hi);obtain rfl:=qN f1 he;obtain⟨i2,u2,f2⟩:=aX (hti.ok _ _ vo);obtain⟨i3,u3,f3⟩:=aX (hti.ok _ _ zt);have hu3:=Jae f3 a5o;have yp:=fJ hR hg h1;have hly:=fJ hR hg h2;simp only[Mas,aA,Zbc]at h;obtain⟨ys,h3,⟨dy,gm,ry⟩,h4,h⟩:=h;have ma:=dX hR h3 hly
  have fin:∀ {sx:aL} {m:Nat} {pre:List Step} {updX:List (Nat×aS)},(yD nv nr o ei ys dy gm sx m pre updX).eval σ=some res ->
      (aN cf ρ none nv pre->∀ ra,sx.val ρ=.rows ei.size ra->∃ src A b n cap vs,XOk σ ρ G w (a.eval x) ra ei.size m updX src A b n cap vs/\∀ r pq mr,src=some (r,pq,mr)->r∉ry\/Oas ei.cells=true) ->
      o.wp P a w (Nx E.ntmps F σ ρ res.upd) Q:=by
    intro sx m pre updX eA hXs;simp only[yD,tX,aF,Option.some.injEq]at eA;subst eA;simp only[Faw];exact Kbn hR hd hf ho e9 je f1.und f2 f3.und hu3 zy dw ma h4 aE (hXs (aN.append aE).1)
  dsimp only at h;split at h
  · rename_i p z
    refine fin h fun _ ra wA=>?_
    simp only[aL.val,D.rows.injEq]at wA;obtain⟨rfl,rfl⟩:=wA;simp only[aB]at yp;have hv:=(yp.2 (by simp)).2.1 trivial _ rfl;exact⟨none,none,⟨0,0,none⟩,0,0,fun _ _=>undef,⟨⟨hv,rfl,Zbr _,by simp,by simp⟩,.inr ⟨rfl,rfl⟩,by simp,by simp,by simp,by decide,.inl ⟨rfl,rfl⟩⟩,by simp⟩
  · simp only[aA,Zbc]at h
    obtain⟨s,h5,h⟩:=h;have hs:=dX hR h5 yp;split at h
    · rename_i r k m q a7
      simp only[aA,aK,Zbc]at h;obtain⟨_,h6,h⟩:=h;split at h6
      case isFalse=>cases h6
      rename_i hb6;simp only[Zbd,Bool.or_eq_true,Zb3,Acr]at hb6;have ni:=hs.own;unfold vH at ni;rw[a7]at ni;obtain⟨-,⟨X,hk⟩,ni⟩:=ni;have oc:r∉ry\/Oas ei.cells=true:=hb6.1.imp (fun h=>Aaw.1 h) id;split at h
      · refine fin h fun _ ra wA=>?_
        obtain⟨-,fm,-⟩:=ni;simp only[bD,Acb,List.length_nil,Nat.sub_zero]at fm;rw[wA]at fm;obtain⟨A,b,n,cap,vs,hX⟩:=XOk.ofRp (ρ:=ρ) fm hb6.2 hk (updX:=[(kR r,.root (.c .hole) 0 0 .gone)]) (.inl ⟨rfl,rfl⟩)
        exact ⟨_, A, b, n, cap, vs, hX, fun r' pq mr e => by obtain rfl : r = r' := by injection e with e; injection e
                                                             exact oc⟩
      · rw[iA]at h
        split at h
        · refine fin h fun _ ra wA=>?_
          have fm:Rp G.own w r [] m (a.eval x) (s.x.val ρ):=ni;rw[wA]at fm;obtain⟨A,b,n,cap,vs,hX⟩:=XOk.ofRp (ρ:=ρ) fm hb6.2 hk (updX:=[(kR r,.root (.c .hole) 0 0 .gone)]) (.inl ⟨rfl,rfl⟩)
          exact ⟨_, A, b, n, cap, vs, hX, fun r' pq mr e => by obtain rfl : r = r' := by injection e with e; injection e
                                                               exact oc⟩
        · cases h
      · rename_i q cJ
        simp only[aA,aK,Zbc,aT,Zbj]at h;obtain⟨_,h7,h⟩:=h;split at h7
        case isFalse=>cases h7
        rename_i tA;simp only[Zbd,Acr,Zb3]at tA;rw[hk]at h;dsimp only at h;refine fin h fun da ra wA=>?_
        obtain⟨hqm,fm,lz⟩:=ni;rw[wA]at fm;have oh:=Cad hg q nv X (.c .hole) da;obtain⟨A,b,n,cap,vs,hX⟩:=XOk.ofRp (ρ:=ρ) fm (by omega) hk (.inr ⟨_,rfl,oh,lz,by simp[bD];omega⟩)
        exact ⟨_, A, b, n, cap, vs, hX, fun r' pq mr e => by obtain rfl : r = r' := by injection e with e; injection e
                                                             exact oc⟩
      · cases h
      · cases h
    · cases h
end
section
variable {P:Program} {E:Env} {F:bH} {n:Nat} {σ:Nat->Option aS} {ρ:List D} {a:Act} {w w':World} {G G':Gh} {g:Option (aL×Bool)} {o:Oper} {cf:Nat->List D->Option (List D)} {Q:Exit->Act->World->Prop} {next:Act->World->Prop}
theorem Kat:∀ {cs:List CK} {zs:List D},Kau cs=some zs->zs.length=cs.length/\∀ (j:Nat) (c:CK) (d:D),cs[j]?=some c->zs[j]?=some d->∀ (v:Value),zeroCell v c=true->∀ (own:Nat->Ow) (r:Nat) (p:List Nat) (m:Nat),Rp own w r p m v d
 | [], zs, h => by
  simp only[Kau,Option.some.injEq]at h;subst h;simp
 | c :: cs, zs, h => by
  have main:∀ (d0:D),(Kau cs).map (d0::·)=some zs->(∀ v,zeroCell v c=true->∀ (own:Nat->Ow) (r:Nat) (p:List Nat) (m:Nat),Rp own w r p m v d0) ->
    zs.length=(c::cs).length/\∀ (j:Nat) (c':CK) (d:D),(c::cs)[j]?=some c'->zs[j]?=some d->∀ (v:Value),zeroCell v c'=true->∀ (own:Nat->Ow) (r:Nat) (p:List Nat) (m:Nat),Rp own w r p m v d:=by
   intro d0 h0 hd0;simp only[Zbo]at h0;obtain⟨zs',h1,rfl⟩:=h0;obtain⟨h2,h3⟩:=Kat h1;refine⟨by simp[h2],fun j c' d hc hd v hv own r p m=>?_⟩
   cases j with
   | zero =>
    simp only[Zbl,Option.some.injEq]at hc hd;subst hc hd;exact hd0 v hv own r p m
   |succ j=>exact h3 j c' d (by simpa using hc) (by simpa using hd) v hv own r p m
  have hz:∀ v,zeroCell v c=true->aB (fun _=>none) [] ⟨fun _=>.frz,fun _=>undef,fun _=>⟨0,0,none⟩⟩ w (fK c) v:=fun v hv=>Mam hv
  cases c with
  | sc z =>
   refine main z h fun v hv own r p m=>?_
   have:=hz v hv;simp only[fK,aB,aL.val]at this;exact .sc this
  | sl sz =>
   refine main (.rows sz []) h fun v hv own r p m=>?_
   have:=hz v hv;simp only[fK,aB,aL.val]at this;rw[(this.2 (by simp)).2.1 trivial sz rfl];exact Rp.nil
  |pn=>cases h
  |ot=>cases h
theorem Hat (hR:R E.ntmps F σ ρ a w G)(hd:fG E.ntmps o)(hti:vN P E.ti){nv nb nr:Nat}{mv dt:Bool}(hf:Dao σ nb nr){t:TypeId}{l c:Operand}(ho:o.op=.makeSlice t l c){res:bP}
  (h:(qA E mv dt nv nb nr g o).eval σ=some res) (aE:aN cf ρ g nv res.lets):gV P E F σ ρ a w g o Q res.upd:=by
 simp only[qA,ho,aA,Zbc,tiR,aW,aK]at h;obtain⟨st,h1,e,h2,ti,h3,_,h4,xl,h5,xc,h6,_,h7,zs,h8,h⟩:=h;split at h4
 case isFalse=>cases h4
 rename_i z8;obtain rfl:=wO z8;split at h7
 case isFalse=>cases h7
 rename_i tA;simp only[Zbd,Ach]at tA;obtain⟨⟨hxx,dw⟩,zy⟩:=tA;obtain rfl:=aL.beq0_eq hxx;obtain⟨info,u,f⟩:=aX (hti.ok _ _ h1);obtain rfl:=qN f h2;obtain⟨jg,u',f'⟩:=aX (hti.ok _ _ h3);simp only[tX,aF,Option.some.injEq]at h;subst h;simp only[Faw];refine⟨fun hg=>?_,fun hg=>by simp[gOn]at hg⟩;obtain⟨d,fy,qg⟩:=fV aE hg;have hl:=jK hR hg h5;have hc:=jK hR hg h6;simp only[Zb5,Acb]at fy;generalize hxv:xl.val ρ=xv at fy hl hc;cases xv<;>simp only[aU.run]at fy<;>first|cases fy|skip
 rename_i k len;split at fy
 case isFalse=>cases fy
 rename_i hlen;obtain⟨h0,hbound⟩:=hlen;simp only[Option.some.injEq,List.cons.injEq,and_true]at fy;obtain⟨z,nu,po,-,hz3⟩:=f'.zeros (σ:=σ) (ρ:=ρ) (G:=G) (w:=w);obtain⟨zh,u7⟩:=Kat (w:=pushB w (madeCells z.cells (len.toNat*jg.size)) e) h8;have iz:=f'.len;have um:z.cells.size=ti.size:=by rw[<- Bc5,po.len,Zbt,iz]
 have hlt:len.toNat*1<=len.toNat*ti.bytes:=Nat.mul_le_mul_left _ zy;unfold gX at hbound
 have bj:(execOp a.eval o).run P w=.ok (.value (.slice (some ⟨w.heap.size,0,none⟩) len.toNat len.toNat)) (pushB w (madeCells z.cells (len.toNat*jg.size)) e):=by
  unfold execOp;simp only[ho];refine fQ ?_;rw[hl.int_inv,hc.int_inv]
  have qc:(jg.bytes:Int)*len<=281474976710656:=by
   rw[<- f'.bytes];have:((ti.bytes*len.toNat:Nat):Int)<=281474976710656:=by rw[Ccr]at hbound;omega
   rw[Int.natCast_mul]at this;rwa[show ((len.toNat:Nat):Int)=len by omega]at this
  exact run_make w t e jg z f.und f'.info_ nu k k len len h0 (Int.le_refl _) qc (by omega)
 have jj:σ (kR nr)=none:=hf.nr nr (Zbr _) (by unfold bW;omega);have lR:∀ r,(σ (kR r)).isSome->r≠nr:=fun r hr e=>by rw[e,jj]at hr;cases hr
 have mN:∀ b,G.own b≠.frz->b<w.heap.size:=fun b hb=>by
  rcases Zbz b w.heap.size with h|h
  ·exact h
  ·exact absurd (hR.frame.fresh b h) hb
 refine nJ bj ⟨{ G with own:=fun b=>if b=w.heap.size then .slc nr [] else G.own b,hdr:=fun r=>if r=nr then .slice (some ⟨w.heap.size,0,none⟩) len.toNat len.toNat else G.hdr r },?_⟩;refine hR.own hd (wr:=fun _=>False) (f:=fun s p=>.slc s p) ?_ ?_ ?_ ?_ ?_ (fun b hlt _=>lN (by omega)) (fun _ h=>h.elim) (fun _ _ _ _ _=>rfl) ?_ (fun _ _ _ _ _ s p q h=>by injection h with h1 h2;exact⟨h1,h2⟩) ?_ rfl ?_ ?_
 ·intro k c hc
  simp only[Zbp,Prod.mk.injEq]at hc;exact⟨nr,hc.1⟩
 ·intro b hlt
  show (if b=w.heap.size then Ow.slc nr [] else _)=_
  rw[if_neg (by omega)];cases hb:G.own b<;>rfl
 ·intro b hb
  rw[lC]at hb;show (if b=w.heap.size then Ow.slc nr [] else G.own b)=.frz
  rw[if_neg (by omega)];exact hR.frame.fresh b (by omega)
 ·exact⟨rfl,rfl,rfl,by rw[lC];omega⟩
 ·intro b hb
  show (if b=w.heap.size then Ow.slc nr [] else G.own b)=.frz\/∃ r p,(if b=w.heap.size then Ow.slc nr [] else G.own b)=.slc r p/\_
  by_cases e:b=w.heap.size
  ·rw[if_pos e];exact .inr ⟨nr,[],rfl,jj⟩
  ·rw[if_neg e];exact .inl (hR.frame.fresh b hb)
 ·intro s c hc _
  simp only[Zbp,Prod.mk.injEq]at hc;obtain⟨e1,rfl⟩:=hc;obtain rfl:=eZ e1;exact .inl ⟨jj,_,_,_,_,rfl⟩
 ·intro r hr
  show (if r=nr then _ else _)=_
  rw[if_neg (lR r hr)]
 ·intro _ _
  simp only[cB,aB,if_true];exact⟨trivial,eD _ _ _ (.inr ⟨_,Zbh _ (List.mem_singleton.2 rfl)⟩),rfl⟩
 ·intro _ s c hc _
  simp only[Zbp,Prod.mk.injEq]at hc;obtain⟨e1,rfl⟩:=hc;obtain rfl:=eZ e1;refine⟨_,_,_,_,rfl,?_⟩;simp only[bS,if_true];rw[qg,<- fy];have qy:zs.length=ti.size:=by rw[zh,iz]
  have np:∀ k,k<len.toNat*ti.size->(madeCells z.cells (len.toNat*jg.size))[k]?=z.cells[k % ti.size]?:=by
   intro k hk;unfold madeCells;rw[Ibc _ (by omega) _ _ (by rw[<- f'.size];exact hk),um]
  have kr:∀ i row,(Zbq len.toNat zs)[i]?=some row->∀ j d,row[j]?=some d->i<len.toNat/\row=zs/\j<ti.size/\i*ti.size+j<len.toNat*ti.size/\(i*ti.size+j) % ti.size=j:=by
   intro i row hi j d hj;rw[List.getElem?_replicate]at hi;split at hi
   case isFalse=>cases hi
   rename_i lO;obtain rfl:=Option.some.inj hi;have kz:j<ti.size:=by rw[<- qy];exact (List.getElem?_eq_some_iff.1 hj).1
   have:=Nat.mul_le_mul_right ti.size (show i+1<=len.toNat by omega);rw[Nat.add_mul]at this;exact⟨lO,rfl,kz,by omega,by rw[Ccr,Nat.mul_add_mod,Nat.mod_eq_of_lt kz]⟩
  refine .sl _ ⟨w.heap.size,0,none⟩ len.toNat len.toNat zs.length _ (fun i j=>z.cells[j]!) (by simp) (Zbr _) (.inl rfl) (fun row hr=>?_) (fun _=>⟨rfl,by simp,fun k hk=>?_⟩) (fun i row hi j d hj=>?_) (fun i row hi j d hj=>?_)
  ·rw[List.eq_of_mem_replicate hr]
  ·rw[qy]at hk
   rw[nW,wI,np k hk];have ox:k % ti.size<z.cells.size:=by rw[um];exact Nat.mod_lt _ dw
   exact⟨_,Acd ox,rfl⟩
  ·obtain⟨i1,rfl,i3,i4,i5⟩:=kr i row hi j d hj
   rw[nW,qy,np _ i4,i5,getElem!_pos z.cells j (by omega),Acd]
  ·obtain⟨i1,rfl,i3,i4,i5⟩:=kr i row hi j d hj
   have gj:ti.cells[j]?=some ti.cells[j]:=Zbf (by omega);exact u7 j _ d gj hj _ (hz3 j _ _ (by rw[getElem!_pos z.cells j (by omega),Acd]) gj) _ _ _ _
theorem Saq (hR:R E.ntmps F σ ρ a w G)(hd:fG E.ntmps o)(hti:vN P E.ti){nv:Nat}{args:Array Operand}{argTypes:Array TypeId}(ho:o.op=.call { callee:=.builtin .clear,args,argTypes })
  {x:Operand} (e9:args.toList=[x]) {t e:TypeId} {ti ei:TI} (ht:argTypes[0]?=some t) (hi:E.ti t=some ti) (he:ti.elem=some e) (vo:E.ti e=some ei) (gb:(noG g&&Nat.beq argTypes.size 1)=true) {l:aR} (hl:(rdL E g t x).eval σ=some l) {res:bP}
  (h:(Saj nv o ei l).eval σ=some res) (aE:aN cf ρ g nv res.lets):gV P E F σ ρ a w g o Q res.upd:=by
 simp only[Zbd,Zb8]at gb;obtain rfl:=wO gb.1
 have je:argTypes=#[t]:=by
  apply Cc5;apply Cce;intro k
  match k with
  |0=>simpa using ht
  |k+1=>simp[gb.2]
 simp only[Saj,aA,Zbc]at h;obtain⟨s,h1,h⟩:=h;split at h
 case h_2=>cases h
 rename_i r k m sz lo a7;simp only[aA,aK,Zbc,aT,Zbj]at h;obtain⟨_,h2,h⟩:=h;split at h2
 case isFalse=>cases h2
 rename_i hb;simp only[Zbd,Zb8,Acr]at hb;obtain⟨⟨rfl,a6v⟩,oE⟩:=hb;split at h
 case h_2=>cases h
 rename_i X m' bc hk;simp only[aF,Option.some.injEq]at h;subst h;refine⟨fun hg=>?_,fun hg=>by simp[gOn]at hg⟩;obtain⟨i1,u1,f1⟩:=aX (hti.ok _ _ hi);obtain rfl:=qN f1 he;obtain⟨i2,u2,f2⟩:=aX (hti.ok _ _ vo);have yp:=fJ hR hg hl;have hL:=dX hR h1 yp;have ni:=hL.own;unfold vH at ni;rw[a7]at ni;obtain⟨-,⟨X0,nx⟩,hsuf⟩:=ni;rw[hk]at nx
 obtain⟨rfl,rfl,rfl⟩:X=X0/\m'=m/\bc=k:=by
  injection nx with e;injection e with e1 e2 e3 e4;exact⟨e1,e2,e3⟩
 have eW:=hR.root hk;simp only[bS]at eW;obtain⟨d,fy,qg⟩:=fV aE hg;simp only[Zb5,Acb]at fy
 obtain⟨rs,ki,L,eX,eL,hL0,ed⟩:∃ rs ki L,X.val ρ=.rows 1 rs/\lo.val ρ=.int ki L/\0<=L/\d=.rows 1 (rs.take L.toNat++(rs.drop L.toNat).map fun r=>r.map fun _=>.hole):=by
  cases eX:X.val ρ<;>cases eL:lo.val ρ<;>rw[eX,eL]at fy<;>simp only[aU.run]at fy<;>first|cases fy|skip
  split at fy
  ·rename_i hc
   obtain⟨rfl,hc⟩:=hc;simp only[Option.some.injEq,List.cons.injEq,and_true]at fy;exact⟨_,_,_,rfl,rfl,hc,fy.symm⟩
  ·cases fy
 have kr:lD ρ lo=L.toNat:=by unfold lD;rw[eL]
 dsimp only at hsuf;rw[kr]at hsuf;rw[eX]at eW;obtain⟨md,rfl⟩:∃ md,m'=md+1:=⟨m'-1,by omega⟩;obtain⟨A,b,n,c,vs,j1,j2,j3,j4,j5,j6,j7,j8⟩:=eW.sl_inv;obtain⟨A',n',c',k1,k2,k3⟩:=hsuf;rw[j1]at k1;obtain⟨rfl,rfl,rfl⟩:A=A'/\n=n'/\c=c':=by injection k1 with a b c;exact⟨a,b,c⟩
 obtain⟨z,nu,po,hz3,-⟩:=f2.zeros (σ:=σ) (ρ:=ρ) (G:=G) (w:=w);have zh:z.cells.size=1:=by rw[<- Bc5,po.len,Zbt,f2.len,a6v]
 generalize hZ:(Builtin.zeroCells z.cells (n-L.toNat)).toList=Z;have hZl:Z.length=n-L.toNat:=by rw[<- hZ];simp[Builtin.zeroCells,zh]
 have hZ1:∀ u∈Z,u.oneCell'=true:=by
  intro u hu;rw[<- hZ,Builtin.zeroCells,Array.mem_toList_iff,Array.mem_map]at hu;obtain⟨i,hi,rfl⟩:=hu;have hlt:i % z.cells.size<z.cells.size:=Nat.mod_lt _ (by omega);rw[getElem!_pos z.cells _ hlt];exact hz3 _ (Array.getElem_mem_toList hlt)
 have ke:∀ {v:Value} {w1:World},(Builtin.clear_ #[t] o.type #[a.eval x]).run P w=.ok v w1->(execOp a.eval o).run P w=.ok (.value v) w1:=by
  intro v w1 h;refine mJ ho (s:=Builtin.clear_ argTypes o.type (args.map a.eval)) (fun _=>rfl) ?_;rw[Oaf e9,Sa8,je];exact h
 rw[k3]at ke
 obtain⟨w',bj,hw⟩:∃ w',(execOp a.eval o).run P w=.ok (.value (.tuple #[])) w'/\((n=L.toNat/\w'=w)\/(L.toNat<n/\A=some b/\w'=w.setCells b.block (b.off+L.toNat) Z)):=by
  rcases Zbz L.toNat n with hlt|mj
  ·obtain rfl:A=some b:=by
    rcases j4 with h|⟨-,h⟩
    ·exact h
    ·omega
   obtain⟨jq,nc,cU⟩:=j6 rfl
   have cC:∀ j,j<Z.length->∃ u,w.cell? ⟨b.block,b.off+L.toNat+j,none⟩=some u/\w.frozen? ⟨b.block,b.off+L.toNat+j,none⟩=false:=fun j hj=>by
    have:=cU (L.toNat+j) (by omega);rw[add_plain jq,<- Zb0]at this;exact this
   have aE:=run_storeCells_cells (P:=P) b.block (b.off+L.toNat) Z 0 w (fun j hj=>by obtain⟨u,h1,-⟩:=cC j hj;rw[Zb9,h1];rfl) (fun j hj=>by rw[Zb9];exact (cC j hj).choose_spec.2) hZ1;refine⟨_,ke ?_,.inr ⟨hlt,rfl,rfl⟩⟩;obtain⟨q,hq⟩:∃ q,n-L.toNat=q+1:=⟨n-L.toNat-1,by omega⟩;rw[if_neg (by omega),hq];rw[hq]at hZ;simp only[Option.map_some,Nat.mul_one,add_plain jq];simp only[Zb9]at aE;simp[Builtin.clear_,run_underlying f1.und,lM f2.info_ nu,hZ,aE]
  ·refine⟨w,ke ?_,.inl ⟨by omega,rfl⟩⟩
   have e0:n-L.toNat=0:=by omega
   rw[e0];simp only[Builtin.clear_];cases (if c=L.toNat then A else A.map (·.add (L.toNat*1)))<;>simp[run_underlying f1.und]
 have mB:w'.os=w.os/\w'.tape=w.tape/\w'.output=w.output/\w.heap.size<=w'.heap.size:=by
  rcases hw with ⟨-,rfl⟩|⟨-,-,rfl⟩
  ·exact⟨rfl,rfl,rfl,Zbr _⟩
  ·obtain⟨q1,q2,q3⟩:=iT b.block Z (b.off+L.toNat) w
   exact⟨q1,q2,q3,by rw[setCells_size];exact Zbr _⟩
 have p5:w'.heap.size=w.heap.size:=by
  rcases hw with ⟨-,rfl⟩|⟨-,-,rfl⟩
  ·rfl
  ·rw[setCells_size]
 have cA:∀ b',¬ (A=some b/\b'=b.block)->w'.heap[b']?=w.heap[b']?:=by
  intro b' di
  rcases hw with ⟨-,rfl⟩|⟨-,hA,rfl⟩
  ·rfl
  ·exact dE _ _ _ _ _ fun e=>di ⟨hA,e⟩
 refine nJ bj ⟨G,?_⟩
 have eA:=hR.own (o:=o) hd (g:=none) (sv:=.dead) (v:=.tuple #[]) (w':=w') (G':=G) (ur:=[(kR r,.root (.v nv) (md+1) (bc+1) .live)]) (f:=fun s p=>.slc s p) (wr:=fun b'=>A=some b/\b'=b.block)
  ?_ (fun b' _=>by cases hb:G.own b'<;>rfl) (fun b' hb=>hR.frame.fresh b' (by omega)) mB (fun b' hb=>.inl (hR.frame.fresh b' hb)) (fun b' _ hb=>cA b' hb) ?_ (fun _ _ _ _ _=>rfl) ?_ (fun _ _ _ _ _ s p q h=>by injection h with h1 h2;exact⟨h1,h2⟩) (fun _ _=>rfl) rfl (fun _ _=>trivial) ?_
 ·exact eA
 ·intro k' c' hc
  exact⟨r,(Prod.mk.inj (List.mem_singleton.1 hc)).1⟩
 ·rintro b' ⟨hA,rfl⟩
  exact⟨r,[],(j6 hA).2.1,_,List.mem_singleton.2 rfl⟩
 ·intro s' c' hc _
  obtain⟨e1,rfl⟩:=Prod.mk.inj (List.mem_singleton.1 hc);obtain rfl:=eZ e1;exact .inr (.inl ⟨_,_,_,_,_,hk,rfl⟩)
 ·intro _ s' c' hc _
  obtain⟨e1,rfl⟩:=Prod.mk.inj (List.mem_singleton.1 hc);obtain rfl:=eZ e1;refine⟨_,_,_,_,rfl,?_⟩;simp only[bS];rw[qg,ed,j1]
  have iu:∀ k u,w.cell? (b.add k)=some u->A=some b->(k<L.toNat->w'.cell? (b.add k)=some u)/\(∃ u',w'.cell? (b.add k)=some u')/\w'.frozen? (b.add k)=w.frozen? (b.add k):=by
   intro k u hc hA;obtain⟨jq,nc,cU⟩:=j6 hA
   rcases hw with ⟨-,rfl⟩|⟨hlt,-,rfl⟩
   ·exact⟨fun _=>hc,⟨u,hc⟩,rfl⟩
   ·refine⟨fun hk=>?_,?_,World.frozen?_setCells _ _ _ _ _⟩
    ·rw[add_plain jq]at hc ⊢
     rw[World.cell?_setCells_out _ _ _ _ _ (fun _ _=>.inl (by dsimp only;omega))];exact hc
    ·exact jY (fun _=>by rw[add_plain jq]) (fun j hj=>by
      obtain⟨u',h1,-⟩:=cU (L.toNat+j) (by omega);rw[add_plain jq,<- Zb0]at h1;rw[h1];rfl) hc
  have yo:∀ i,i<n->A=some b:=fun i hi=>by
   rcases j4 with h|⟨-,h⟩
   ·exact h
   ·omega
  have ie:∀ i row,(rs.take L.toNat++(rs.drop L.toNat).map fun r=>r.map fun _=>D.hole)[i]?=some row->(i<L.toNat/\rs[i]?=some row)\/(L.toNat<=i/\∃ row0,rs[i]?=some row0/\row=row0.map fun _=>D.hole):=by
   intro i row hi;have oz:(rs.take L.toNat).length=L.toNat:=by rw[Zb1];omega
   rcases Zbz i L.toNat with hlt|mj
   ·rw[Zbx (by omega),List.getElem?_take,if_pos hlt]at hi
    exact .inl ⟨hlt,hi⟩
   ·rw[Zbw (by omega),oz,Zb2,Zbo]at hi
    obtain⟨row0,h1,rfl⟩:=hi;rw[List.getElem?_drop,show L.toNat+(i-L.toNat)=i by omega]at h1;exact .inr ⟨mj,row0,h1,rfl⟩
  refine .sl A b n c 1 _ (fun i j=>if i<L.toNat then vs i j else (w'.cell? (b.add (i*1+j))).getD undef) ?_ j3 j4 ?_ (fun hA=>?_) (fun i row hi j d hj=>?_) (fun i row hi j d hj=>?_)
  ·rw[Zbi,Zb1,Zbt,List.length_drop];omega
  ·intro row hr
   obtain⟨i,hi⟩:=List.mem_iff_getElem?.1 hr
   rcases ie i row hi with ⟨-,h⟩|⟨-,row0,h,rfl⟩
   ·exact j5 row (Zbv h)
   ·rw[Zbt];exact j5 row0 (Zbv h)
  ·obtain⟨jq,nc,cU⟩:=j6 hA
   refine⟨jq,nc,fun k hk=>?_⟩;obtain⟨u,hu,hf⟩:=cU k hk;obtain⟨-,⟨u',h1⟩,h2⟩:=iu k u hu hA;exact⟨u',h1,h2.trans hf⟩
  ·rcases ie i row hi with ⟨hlt,h⟩|⟨mj,row0,h,rfl⟩
   ·rw[if_pos hlt]
    have kz:j<1:=by rw[<- j5 row (Zbv h)];exact (List.getElem?_eq_some_iff.1 hj).1
    exact (iu _ _ (j7 i row h j d hj) (yo i (by rw[<- j2];exact (List.getElem?_eq_some_iff.1 h).1))).1 (by omega)
   ·rw[if_neg (by omega)]
    rw[Zb2,Zbo]at hj;obtain⟨d0,hj,-⟩:=hj;obtain⟨-,⟨u',h1⟩,-⟩:=iu _ _ (j7 i row0 h j d0 hj) (yo i (by rw[<- j2];exact (List.getElem?_eq_some_iff.1 h).1));rw[h1];rfl
  ·rcases ie i row hi with ⟨hlt,h⟩|⟨mj,row0,h,rfl⟩
   ·rw[if_pos hlt]
    have h1:=j8 i row h j d hj;have:=h1.mono' (own':=G.own) (w':=w') (r':=s') (q:=[i*1+j]) (q':=[i*1+j]) (fun b' hb _=>⟨hb,cA b' fun ⟨hA,e⟩=>by rw[e,(j6 hA).2.1]at hb;cases hb⟩) [] (by simp) (fun b' t' hb=>⟨hb,cA b' fun ⟨hA,e⟩=>by rw[e,(j6 hA).2.1]at hb;injection hb with _ hb;simp at hb⟩);simpa using this
   ·rw[if_neg (by omega)]
    rw[Zb2,Zbo]at hj;obtain⟨d0,hj,rfl⟩:=hj;refine .hole _ ?_;have lO:i<n:=by rw[<- j2];exact (List.getElem?_eq_some_iff.1 h).1
    have hA:=yo i lO
    rcases hw with ⟨hn,-⟩|⟨hlt,-,rfl⟩
    ·omega
    ·obtain⟨jq,nc,cU⟩:=j6 hA
     have kz:j<1:=by rw[<- j5 row0 (Zbv h)];exact (List.getElem?_eq_some_iff.1 hj).1
     have qz:i-L.toNat<Z.length:=by omega
     have:=World.cell?_setCells_in b.block Z (b.off+L.toNat) w (fun j hj=>by obtain⟨u,h1,-⟩:=cU (L.toNat+j) (by omega);rw[add_plain jq,<- Zb0]at h1;rw[h1];rfl) (i-L.toNat) qz;rw[show b.off+L.toNat+(i-L.toNat)=b.off+(i*1+j) by omega]at this;rw[add_plain jq,this];exact hZ1 _ (List.getElem_mem qz)
end
section
variable {P:Program} {E:Env} {F:bH} {n:Nat} {σ:Nat->Option aS} {ρ:List D} {a:Act} {w w':World} {G G':Gh} {g:Option (aL×Bool)} {o:Oper} {cf:Nat->List D->Option (List D)} {Q:Exit->Act->World->Prop} {next:Act->World->Prop}
theorem Har (hR:R E.ntmps F σ ρ a w G)(hti:vN P E.ti){nv nb nr:Nat}{mv dt:Bool}{t:TypeId}{x y:Operand}(ho:o.op=.store t x y){res:bP}
  (h:(qA E mv dt nv nb nr g o).eval σ=some res) (aE:aN cf ρ g nv res.lets):gV P E F σ ρ a w g o Q res.upd:=by
 simp only[qA,ho,aA,Zbc,tiR,aW]at h;obtain⟨ti,h1,p,h2,sv,h3,h⟩:=h;split at h
 case h_2=>cases h
 rename_i ls si;have hx:gOn ρ g=true->aB σ ρ G w p (a.eval x):=fun hg=>fJ hR hg h2
 have hy:gOn ρ g=true->cB σ ρ G w sv (a.eval y):=fun hg=>gD hR hg h3
 cases p with
 |px b off=>exact Kab hR hti ho h1 hx hy si h
 |pe l sz i off=>exact Kac hR hti ho h1 hx hy si h aE
 | _ =>
  simp only[Dax,aA,aK,Zbc,bQ]at h;obtain⟨_,_,h⟩:=h;cases h
theorem Gan (hR:R E.ntmps F σ ρ a w G)(hd:fG E.ntmps o)(hti:vN P E.ti){nv nb nr:Nat}{mv dt:Bool}(hf:Dao σ nb nr){res:bP}
  (h:(qA E mv dt nv nb nr g o).eval σ=some res) (aE:aN cf ρ g nv res.lets)
  (jf:∀ f args argTypes,o.op=.call { callee:=.value f,args,argTypes }->gV P E F σ ρ a w g o Q res.upd):gV P E F σ ρ a w g o Q res.upd:=by
 have h0:=h
 cases ho:o.op with
 | move x =>
  simp only[qA,ho]at h;exact Ka8 hR hd (.inl ho) h aE
 | assign x =>
  simp only[qA,ho]at h;exact Ka8 hR hd (.inr ho) h aE
 | pick c x y =>
  simp only[qA,ho]at h;exact Wa2 hR hd ho h aE
 |alloc e=>exact Sas hR hd hti hf ho h aE
 |box e x=>exact Ya9 hR hd hti hf ho h aE
 |build t parts=>exact Sar hR hd hti ho h aE
 |buildSlice t len parts=>exact uW hR hd hti (hf.nr nr (Zbr _) (by unfold bW;omega)) ho h aE
 | load t x =>
  simp only[qA,ho,aA,Zbc,tiR,aW]at h;obtain⟨ti,h1,p,h2,h⟩:=h;exact Wa3 hR hd hti ho h1 (fun hg=>fJ hR hg h2) h aE
 |store t x y=>exact Har hR hti ho h aE
 | nilCheck x =>
  simp only[qA,ho]at h;exact Kad hR hd ho h aE
 | binOp op t x y ty =>
  by_cases h1:op=.eql
  ·subst h1
   simp only[qA,ho]at h;exact Uav hR hd hti ho rfl h aE
  ·by_cases h2:op=.neq
   ·subst h2
    simp only[qA,ho]at h;exact Uav hR hd hti ho rfl h aE
   ·have h':(do
      let a <- rdA E g t x
      let b <- rdA E g ty y
      tV o g nv (.bin op) [a,b]:RdM bP).eval σ=some res:=by
     simp only[qA,ho]at h;cases op<;>first|exact h|(exact absurd rfl h1)|(exact absurd rfl h2)
    simp only[aA,Zbc]at h';obtain⟨x',h3,y',h4,h5⟩:=h';exact Pao hR hd ho (fun hg=>jK hR hg h3) (fun hg=>jK hR hg h4) h5 aE
 | unOp op t x =>
  simp only[qA,ho]at h;exact Fbj hR hd ho h aE
 | convert src dst x =>
  simp only[qA,ho,aA,Zbc,tiR,aW]at h;obtain⟨s,h1,d,h2,h⟩:=h;split at h
  ·rename_i k hk
   simp only[aA,Zbc,aK]at h;obtain⟨_,h3,x',h4,h⟩:=h;split at h3
   case isFalse=>cases h3
   rename_i hs;exact Wa4 hR hd hti ho h1 hs h2 hk h4 h aE
  ·rw[iA]at h
   split at h
   case isFalse=>cases h
   rename_i hdS;rw[iA]at h;split at h
   ·rename_i hsS
    simp only[aA,Zbc]at h;obtain⟨x',h4,h⟩:=h;exact Pam hR hd hti ho h1 hsS h2 hdS h4 h aE
   ·simp only[aA,Zbc,aK,aW]at h
    obtain⟨e,h3,ei,h4,_,h5,l,h6,r,h7,h⟩:=h;split at h5
    case isFalse=>cases h5
    rename_i hk;exact Wa5 hR hd hti ho h1 h3 h4 hk h2 hdS h6 h7 h aE
 | makeFunc fn first fu =>
  cases fn with
  | func fn =>
   simp only[qA,ho]at h;exact Kae hR hd ho h aE
  |_=>simp only[qA,ho]at h;cases h
 |makeSlice t l c=>exact Hat hR hd hti hf ho h aE
 |slice t x lo hi mx=>exact San hR hd hti ho h aE
 | fieldAddr t x k =>
  simp only[qA,ho,aA,Zbc,tiR,aW]at h;obtain⟨ti,h1,h⟩:=h;split at h
  case h_2=>cases h
  rename_i off ft fX;simp only[aA,Zbc,aK,aW]at h;obtain⟨fi,h2,_,h3,p,h4,h⟩:=h;split at h3
  case isFalse=>cases h3
  rename_i jc;exact Hav hR hd hti ho h1 fX h2 (by simpa using jc) (by simp only[aA,Zbc];exact⟨p,h4,h⟩) aE
 | field t x k =>
  simp only[qA,ho,aA,Zbc,tiR,aW]at h;obtain⟨ti,h1,h⟩:=h;split at h
  case h_2=>cases h
  rename_i off ft fX;simp only[aA,Zbc,aW]at h;obtain⟨fi,h2,sv,h3,h⟩:=h;exact Sap hR hd hti ho h1 fX h2 (by simp only[aA,Zbc];exact⟨sv,h3,h⟩) aE
 | indexAddr t x i =>
  simp only[qA,ho,aA,Zbc,tiR,aW]at h;obtain⟨ti,h1,e,h2,ei,h3,l,h4,s,h5,y,h6,u,h7,h⟩:=h;exact Hau hR hd hti ho h1 h2 h3 (by simp only[aA,Zbc];exact⟨l,h4,s,h5,y,h6,u,h7,h⟩) aE
 | index t x i =>
  simp only[qA,ho,aA,Zbc,tiR,aW]at h;obtain⟨ti,h1,h⟩:=h;exact Sao hR hd hti ho h1 (by simp only[aA,Zbc];exact h) aE
 | extract x i =>
  simp only[qA,ho]at h;exact Ma1 hR hd ho h aE
 | call c =>
  obtain⟨callee,args,argTypes⟩:=c
  cases callee with
  |value f=>exact jf f args argTypes ho
  |invoke recv name=>simp only[qA,ho]at h;cases h
  | builtin b =>
   simp only[qA,ho]at h
   cases e9:args.toList with
   | nil =>
    rw[e9]at h;cases b<;>first|(cases h;done)|skip
    all_goals
     simp only[aA,Zbc,aW]at h;obtain⟨ph,h1,as,h2,h⟩:=h;obtain⟨ls,h3,h4⟩:=h2
     first
     |exact iK hR hd (.inl ⟨rfl,rfl,rfl⟩) ho (by rw[e9];exact h1) h3 h4 h aE
     |exact iK hR hd (.inr ⟨rfl,rfl,rfl⟩) ho (by rw[e9];exact h1) h3 h4 h aE
   | cons x xs =>
    rw[e9]at h
    cases xs with
    | nil =>
     cases b<;>first|(cases h;done)|skip
     ·simp only[aA,Zbc,aW,tiR,aK]at h
      obtain⟨t,h1,ti,h2,e,h3,ei,h4,_,h5,l,h6,h⟩:=h;split at h5
      case isFalse=>cases h5
      rename_i gb;exact Saq hR hd hti ho e9 h1 h2 h3 h4 gb h6 h aE
     ·simp only[aA,Zbc,aW,tiR]at h
      obtain⟨t,h1,ti,h2,h⟩:=h;exact Ya8 hR hd hti ho e9 h1 h2 (by simp only[aA,Zbc];exact h) aE
     all_goals
      simp only[aA,Zbc,aW]at h;obtain⟨ph,h1,as,h2,h⟩:=h;obtain⟨ls,h3,h4⟩:=h2
      first
      |exact iK hR hd (.inl ⟨rfl,rfl,rfl⟩) ho (by rw[e9];exact h1) h3 h4 h aE
      |exact iK hR hd (.inr ⟨rfl,rfl,rfl⟩) ho (by rw[e9];exact h1) h3 h4 h aE
    | cons y ys =>
     cases ys with
     | nil =>
      cases b<;>first|(cases h;done)|skip
      ·simp only[aA,Zbc,aW,tiR,aK]at h
       obtain⟨t,h1,ty,h2,ti,h3,e,h4,ei,h5,yi,h6,_,h7,lx,h8,ly,h9,h⟩:=h;split at h7
       case isFalse=>cases h7
       rename_i gb;exact Pap hR hd hti hf ho e9 h1 h2 h3 h4 h5 h6 gb h8 h9 h aE
      all_goals
       simp only[aA,Zbc,aW]at h;obtain⟨ph,h1,as,h2,h⟩:=h;obtain⟨ls,h3,h4⟩:=h2
       first
       |exact iK hR hd (.inl ⟨rfl,rfl,rfl⟩) ho (by rw[e9];exact h1) h3 h4 h aE
       |exact iK hR hd (.inr ⟨rfl,rfl,rfl⟩) ho (by rw[e9];exact h1) h3 h4 h aE
     | cons z zs =>
      cases b<;>first|(cases h;done)|skip
      all_goals
       simp only[aA,Zbc,aW]at h;obtain⟨ph,h1,as,h2,h⟩:=h;obtain⟨ls,h3,h4⟩:=h2
       first
       |exact iK hR hd (.inl ⟨rfl,rfl,rfl⟩) ho (by rw[e9];exact h1) h3 h4 h aE
       |exact iK hR hd (.inr ⟨rfl,rfl,rfl⟩) ho (by rw[e9];exact h1) h3 h4 h aE
 |_=>simp only[qA,ho]at h;cases h
end
theorem Tr.get_set {α:Type}:∀ (d:Nat) (t:Tr α) (n m:Nat) (x:Option α),(Tr.set d t n x).get m=if m=n then x else t.get m
 | 0, t, n, m, x => by
  simp only[Tr.set,Tr.get];by_cases h:m=n
  ·subst h;simp
  ·have:Nat.beq m n=false:=by
    cases e:Nat.beq m n with
    |false=>rfl
    |true=>simp only[Zb8]at e;exact absurd e h
   rw[this,cond_false,if_neg h]
 | d + 1, .over k y t, n, m, x => by
  simp only[Tr.set];by_cases h:m=n
  ·subst h;simp[Tr.get]
  ·have:Nat.beq m n=false:=by
    cases e:Nat.beq m n with
    |false=>rfl
    |true=>simp only[Zb8]at e;exact absurd e h
   rw[if_neg h];show (bif Nat.beq m n then x else _)=_
   rw[this,cond_false]
 | d + 1, .nil, n, m, x => by
  have ih:=fun t n m=>Tr.get_set (α:=α) d t n m x
  simp only[Tr.set];have b0:∀ k,Nat.beq k 0=decide (k=0):=fun k=>by cases k<;>simp[Nat.beq]
  have b1:∀ k,Nat.beq (k % 2) 1=decide (k % 2=1):=fun k=>by
   rcases Nat.mod_two_eq_zero_or_one k with h|h<;>rw[h]<;>rfl
  rw[b0,b1];by_cases h0:n=0
  ·simp only[h0,decide_true,cond_true,Tr.get]
   rw[b0,b1];by_cases hm:m=0
   ·simp[hm]
   ·simp[hm,Tr.get]
  ·by_cases h1:n % 2=1
   ·simp only[h0,decide_false,cond_false,h1,decide_true,cond_true,Tr.get]
    rw[b0,b1];by_cases hm:m=0
    ·subst hm;simp[Ne.symm h0]
    ·by_cases oE:m % 2=1
     ·simp only[hm,decide_false,cond_false,oE,decide_true,cond_true,ih,Tr.get]
      by_cases e:m=n
      ·rw[if_pos e,if_pos (by rw[e])]
      ·rw[if_neg e,if_neg (by omega)]
     ·have e:m≠n:=fun e=>oE (e▸h1)
      simp[hm,oE,e,Tr.get]
   ·simp only[h0,decide_false,cond_false,h1,Tr.get]
    rw[b0,b1];by_cases hm:m=0
    ·subst hm;simp[Ne.symm h0]
    ·by_cases oE:m % 2=1
     ·have e:m≠n:=fun e=>h1 (e▸oE)
      simp[hm,oE,e,Tr.get]
     ·simp only[hm,decide_false,cond_false,oE,ih,Tr.get]
      by_cases e:m=n
      ·rw[if_pos e,if_pos (by rw[e])]
      ·rw[if_neg e,if_neg (by omega)]
 | d + 1, .node y l r, n, m, x => by
  have ih:=fun t n m=>Tr.get_set (α:=α) d t n m x
  simp only[Tr.set];have b0:∀ k,Nat.beq k 0=decide (k=0):=fun k=>by cases k<;>simp[Nat.beq]
  have b1:∀ k,Nat.beq (k % 2) 1=decide (k % 2=1):=fun k=>by
   rcases Nat.mod_two_eq_zero_or_one k with h|h<;>rw[h]<;>rfl
  rw[b0,b1];by_cases h0:n=0
  ·simp only[h0,decide_true,cond_true,Tr.get]
   rw[b0,b1];by_cases hm:m=0
   ·simp[hm]
   ·simp[hm,Tr.get]
  ·by_cases h1:n % 2=1
   ·simp only[h0,decide_false,cond_false,h1,decide_true,cond_true,Tr.get]
    rw[b0,b1];by_cases hm:m=0
    ·subst hm;simp[Ne.symm h0]
    ·by_cases oE:m % 2=1
     ·simp only[hm,decide_false,cond_false,oE,decide_true,cond_true,ih,Tr.get]
      by_cases e:m=n
      ·rw[if_pos e,if_pos (by rw[e])]
      ·rw[if_neg e,if_neg (by omega)]
     ·have e:m≠n:=fun e=>oE (e▸h1)
      simp[hm,oE,e,Tr.get]
   ·simp only[h0,decide_false,cond_false,h1,Tr.get]
    rw[b0,b1];by_cases hm:m=0
    ·subst hm;simp[Ne.symm h0]
    ·by_cases oE:m % 2=1
     ·have e:m≠n:=fun e=>h1 (e▸oE)
      simp[hm,oE,e,Tr.get]
     ·simp only[hm,decide_false,cond_false,oE,ih,Tr.get]
      by_cases e:m=n
      ·rw[if_pos e,if_pos (by rw[e])]
      ·rw[if_neg e,if_neg (by omega)]
section
variable {P:Program} {E:Env} {F:bH} {n:Nat} {σ:Nat->Option aS} {ρ:List D} {a:Act} {w w':World} {G G':Gh} {g:Option (aL×Bool)} {o:Oper}
def Lbc:Value->Option Bool
 |.bool b=>some b
 |_=>none
theorem Vat {x:aL}{want:Bool}{v:Value}(h:Sc v (x.val ρ)\/(v=undef/\x.val ρ=.undef)):gOn ρ (some (x,want))=(Lbc v==some want):=by
 have key:∀ d:D,x.val ρ=d->gOn ρ (some (x,want))=(match d with|.bool b=>b==want|_=>false):=by
  intro d hd;simp only[gOn,hd];cases d<;>rfl
 rcases h with h|⟨rfl,h⟩
 ·rw[key _ rfl]
  generalize x.val ρ=d at h
  cases h with
  |int k n=>rfl
  |bool b=>cases b<;>cases want<;>rfl
  |str l=>rfl
 ·rw[key _ h]
  rfl
theorem Sa2 (hR:R E.ntmps F σ ρ a w G){ops:Array Oper}(hd:∀ o∈ops.toList,fG E.ntmps o)(h:(Ma9 ops.toList o).eval σ=some g):Region.wanted o (yielded ops a.tmps)=gOn ρ g:=by
 unfold Ma9 at h;unfold Region.wanted;split at h
 ·rename_i ho
  simp only[aF,Option.some.injEq]at h;subst h;simp[ho,gOn]
 ·rename_i j want ho
  simp only[ho];split at h
  ·rename_i d hj
   have hdn:d<E.ntmps:=by
    cases hoj:ops.toList[j]? with
    |none=>rw[hoj]at hj;cases hj
    | some oj =>
     rw[hoj,Zbj]at hj;exact hd oj (Zbv hoj) d hj
   have hy:yielded ops a.tmps j=Lbc (Bae E.ntmps a F.gh d):=by
    unfold yielded Bae;have:(ops[j]?).bind (·.dst)=some d:=by rw[<- hj,Array.getElem?_toList]
    rw[this,Zbj,if_pos hdn];have hlt:d<a.tmps.size:=by rw[hR.tmps];exact hdn
    rw[Acd hlt,Array.getD_eq_getD_getElem?,Acd hlt,Option.getD_some];cases a.tmps[d]<;>rfl
   rw[hy];simp only[Bbm]at h;split at h
   ·rename_i x hk
    simp only[aF,Option.some.injEq]at h;subst h;have:=hR.slot hk rfl;simp only[cB,aB]at this;exact (Vat (.inl this)).symm
   ·rename_i g' x hk
    simp only[aF,Option.some.injEq]at h;subst h;have:=hR.slot hk rfl;simp only[cB,aB]at this;exact (Vat this.1).symm
   ·cases h
  ·cases h
end
theorem qZ {n:Nat}{ρ ext:List D}{x:aL}(h:bB n x=true)(hn:n<=ρ.length):x.val (ρ++ext)=x.val ρ:=by
 refine aL.val_append (n:=n) ?_
 cases x with
 | v i =>
  simp only[bB,Ach]at h;simp only[aL.ok];omega
 |c d=>trivial
theorem Jay {n:Nat}{ρ ext:List D}{xs:List aL}(h:xs.all (bB n)=true)(hn:n<=ρ.length):xs.map (·.val (ρ++ext))=xs.map (·.val ρ):=by
 apply Ccl;intro x hx;rw[Zb6]at h;exact qZ (h x hx) hn
theorem yT {n:Nat}{ρ ext:List D}{g:Option (aL×Bool)}(h:oW n g=true)(hn:n<=ρ.length):gOn (ρ++ext) g=gOn ρ g:=by
 cases g with
 |none=>rfl
 | some z =>
  obtain⟨x,w⟩:=z;simp only[oW]at h;simp only[gOn,qZ h hn]
theorem Dak {ρ ds ext:List D}{j:Nat}{d:D}(h:ds[j]?=some d):(aL.v (ρ.length+j)).val (ρ++ds++ext)=d:=by
 have hlt:=(List.getElem?_eq_some_iff.1 h).1;simp only[aL.val,List.getD_eq_getElem?_getD];rw[Zbm,Zbw (by omega),Zbx (by omega),Ace,h];rfl
theorem xC {n m:Nat}{g:Option (aL×Bool)}(h:oW n g=true)(hm:n<=m):oW m g=true:=by
 cases g with
 |none=>rfl
 | some z =>
  obtain⟨x,w⟩:=z
  cases x with
  |v i=>simp only[oW,bB,Ach]at h ⊢;omega
  |c d=>rfl
section
variable {cf:Nat->List D->Option (List D)}
noncomputable def Ec {β:Type}(cf:Nat->List D->Option (List D))(t:Tm β)(ρ:List D):Option (Out β):=lim fun n=>runT cf n t ρ
noncomputable def Lc {β:Type}(cf:Nat->List D->Option (List D))(body:Tm β)(ρ vs:List D):Option (Out β):=lim fun n=>iter n (fun vs=>runT cf n body (ρ++vs)) vs
theorem Kb3 {β:Type}(t:Tm β)(ρ:List D):Ra8 fun n=>runT cf n t ρ:=fun n _ h=>Ha0 (fun f _ _ h=>h) (Ccj n) t _ _ h
theorem Sbt {β:Type}(body:Tm β)(ρ vs:List D):Ra8 fun n=>iter n (fun vs=>runT cf n body (ρ++vs)) vs :=
 fun n _ h=>mU (fun vs r hr=>Kb3 body _ n r hr) (Ccj n) _ _ h
theorem Ja3 {β:Type}{t:Tm β}{ρ:List D}{o:Out β}:Ec cf t ρ=some o↔∃ n,runT cf n t ρ=some o:=gG (Kb3 t ρ)
theorem fU {β:Type}(k:Kind)(xs:List aL)(e:β)(ρ:List D):Ec cf (.leaf k xs e) ρ=some ⟨k,xs,e,ρ⟩:=gH _
theorem jI {β:Type}(ρ:List D):Ec cf (.stuck:Tm β) ρ=none:=gH _
theorem Oam {β:Type}(g:Option (aL×Bool))(p:aU)(xs:List aL)(n:Nat)(k:Tm β)(ρ:List D) :
  Ec cf (.lt g p xs n k) ρ=if gOn ρ g then (p.run (xs.map (·.val ρ))).bind fun ds=>if ds.length=n then Ec cf k (ρ++ds) else none
   else Ec cf k (ρ++Zbq n .undef):=by
 unfold Ec;simp only[runT];split
 ·cases p.run (xs.map (·.val ρ)) with
  |none=>exact gH _
  | some ds =>
   simp only[Zbj];split
   ·rfl
   ·exact gH _
 ·rfl
theorem uR {β:Type}(g:Option (aL×Bool))(f:Nat)(xs:List aL)(n:Nat)(olds:List aL)(k:Tm β)(ρ:List D) :
  Ec cf (.call g f xs n olds k) ρ=if gOn ρ g then (cf f (xs.map (·.val ρ))).bind fun ds=>if ds.length=n then Ec cf k (ρ++ds) else none
   else Ec cf k (ρ++(Zbq (n-olds.length) .undef++olds.map (·.val ρ))):=by
 unfold Ec;simp only[runT];split
 ·cases cf f (xs.map (·.val ρ)) with
  |none=>exact gH _
  | some ds =>
   simp only[Zbj];split
   ·rfl
   ·exact gH _
 ·rfl
theorem Fa2 {β:Type}(c:aL)(t e:Tm β)(ρ:List D) :
  Ec cf (.ite c t e) ρ=match c.val ρ with
   |.bool true=>Ec cf t ρ
   |.bool false=>Ec cf e ρ
   |_=>none:=by
 unfold Ec;simp only[runT]
 cases c.val ρ with
 |bool b=>cases b<;>rfl
 |_=>exact gH _
theorem rF {β:Type}(i:Nat)(t k:Tm β)(ρ:List D) :
  Ec cf (.bind i t k) ρ=(Ec cf t ρ).bind fun o=>if o.kind=.yield i then Ec cf k (ρ++o.vals) else some o:=by
 unfold Ec;simp only[runT];rw[Gaw (a:=fun n=>runT cf n t ρ) (Kb3 t ρ) (fun o=>by split;exact Kb3 k _;exact fun _ _ h=>h)];congr 1;funext o;split
 ·rfl
 ·exact gH _
theorem Oan {β:Type}(init:List aL)(body:Tm β)(ρ:List D):Ec cf (.loop init body) ρ=Lc cf body ρ (init.map (·.val ρ)):=rfl
theorem Cbw {β:Type}(body:Tm β)(ρ vs:List D) :
  Lc cf body ρ vs=(Ec cf body (ρ++vs)).bind fun o=>if o.kind=.cont then Lc cf body ρ o.vals else some o:=by
 have hm:∀ vs,Ra8 fun n=>iter n (fun vs=>runT cf n body (ρ++vs)) vs:=fun vs=>Sbt body ρ vs
 unfold Lc
 have e:∀ vs r,(lim fun n=>iter n (fun vs=>runT cf n body (ρ++vs)) vs)=some r↔((Ec cf body (ρ++vs)).bind fun o=>if o.kind=.cont then (lim fun n=>iter n (fun vs=>runT cf n body (ρ++vs)) o.vals) else some o)=some r:=by
  intro vs r;rw[gG (hm vs)];simp only[Zbc];constructor
  ·rintro⟨n,hn⟩
   cases n with
   |zero=>cases hn
   | succ n =>
    simp only[iter,Zbc]at hn;obtain⟨o,ho,hr⟩:=hn;refine⟨o,Ja3.2 ⟨n+1,ho⟩,?_⟩;split at hr
    ·rename_i hk
     rw[if_pos hk,gG (hm _)];exact⟨n+1,mU (fun _ _ h=>h) (Ccj n) _ _ hr⟩
    ·rename_i hk
     rw[if_neg hk];exact hr
  ·rintro⟨o,ho,hr⟩
   obtain⟨n,hn⟩:=Ja3.1 ho;split at hr
   ·rename_i hk
    obtain⟨m,oA⟩:=(gG (hm _)).1 hr;refine⟨max n m+1,?_⟩;simp only[iter,Zbc];refine⟨o,(Kb3 body (ρ++vs)).le (by omega) hn,?_⟩;rw[if_pos hk];exact mU (fun vs r h=>(Kb3 body (ρ++vs)).le (by omega) h) (by omega) _ _ oA
   ·rename_i hk
    refine⟨n+1,?_⟩;simp only[iter,Zbc];exact⟨o,Kb3 body _ _ _ hn,by rw[if_neg hk];exact hr⟩
 exact Option.ext (e vs)
end
section
variable {cf:Nat->List D->Option (List D)}
theorem vQ {g:Option (aL×Bool)}{k:Tm St}:∀ {lets:List Step} {ρ:List D} {o:Out St},oW ρ.length g=true->eP ρ.length lets=true->Ec cf (oD g k lets) ρ=some o ->
  ∃ ds,ds.length=bI lets/\Ec cf k (ρ++ds)=some o/\∀ ext,aN cf (ρ++ds++ext) g ρ.length lets
 |[],ρ,o,_,_,h=>⟨[],rfl,by simpa[oD] using h,fun _=>trivial⟩
 | .prim p xs n :: r, ρ, o, hg, hs, h => by
  simp only[eP,Da1,Zbd]at hs;obtain⟨ny,hs⟩:=hs;simp only[oD,Oam]at h
  have main:∀ ds:List D,ds.length=n->Ec cf (oD g k r) (ρ++ds)=some o->(∀ ext,Waf cf (ρ++ds++ext) g ρ.length (.prim p xs n)) ->
    ∃ ds,ds.length=bI (.prim p xs n::r)/\Ec cf k (ρ++ds)=some o/\∀ ext,aN cf (ρ++ds++ext) g ρ.length (.prim p xs n::r):=by
   intro ds hl h1 h2;obtain⟨es,h3,h4,h5⟩:=vQ (lets:=r) (ρ:=ρ++ds) (xC hg (by simp)) (by simp only[Zbi,hl];exact hs) h1;refine⟨ds++es,by rw[iR];simp[hl,h3,Step.n],by rw[<- Zbm];exact h4,fun ext=>⟨?_,?_⟩⟩
   ·have:=h2 (es++ext)
    simpa[Zbm] using this
   ·have:=h5 ext
    simp only[Zbi,hl]at this;simpa[Zbm,Step.n] using this
  by_cases fb:gOn ρ g=true
  ·rw[if_pos fb]at h
   simp only[Zbc]at h;obtain⟨ds,h1,h2⟩:=h;split at h2
   case isFalse=>cases h2
   rename_i hl;refine main ds hl h2 fun ext=>⟨fun _=>⟨ds,?_,hl,fun j d hj=>Dak hj⟩,fun pA=>?_⟩
   ·rw[Zbm,Jay ny (Zbr _)];exact h1
   ·rw[Zbm,yT hg (Zbr _),fb]at pA;cases pA
  ·rw[if_neg fb]at h
   refine main (Zbq n .undef) (by simp) h fun ext=>⟨fun hon=>?_,fun _ j hj=>Dak (by simp[hj])⟩
   rw[Zbm,yT hg (Zbr _)]at hon;exact absurd hon fb
 | .call f xs n olds :: r, ρ, o, hg, hs, h => by
  simp only[eP,Da1,Zbd]at hs;obtain⟨⟨⟨ny,hos⟩,hle⟩,hs⟩:=hs;simp only[Acr]at hle;simp only[oD,uR]at h
  have main:∀ ds:List D,ds.length=n->Ec cf (oD g k r) (ρ++ds)=some o->(∀ ext,Waf cf (ρ++ds++ext) g ρ.length (.call f xs n olds)) ->
    ∃ ds,ds.length=bI (.call f xs n olds::r)/\Ec cf k (ρ++ds)=some o/\∀ ext,aN cf (ρ++ds++ext) g ρ.length (.call f xs n olds::r):=by
   intro ds hl h1 h2;obtain⟨es,h3,h4,h5⟩:=vQ (lets:=r) (ρ:=ρ++ds) (xC hg (by simp)) (by simp only[Zbi,hl];exact hs) h1;refine⟨ds++es,by rw[iR];simp[hl,h3,Step.n],by rw[<- Zbm];exact h4,fun ext=>⟨?_,?_⟩⟩
   ·have:=h2 (es++ext)
    simpa[Zbm] using this
   ·have:=h5 ext
    simp only[Zbi,hl]at this;simpa[Zbm,Step.n] using this
  by_cases fb:gOn ρ g=true
  ·rw[if_pos fb]at h
   simp only[Zbc]at h;obtain⟨ds,h1,h2⟩:=h;split at h2
   case isFalse=>cases h2
   rename_i hl;refine main ds hl h2 fun ext=>⟨fun _=>⟨ds,?_,hl,fun j d hj=>Dak hj⟩,fun pA=>?_⟩
   ·rw[Zbm,Jay ny (Zbr _)];exact h1
   ·rw[Zbm,yT hg (Zbr _),fb]at pA;cases pA
  ·rw[if_neg fb]at h
   refine main _ (by simp;omega) h fun ext=>⟨fun hon=>?_,fun _ j d hd=>?_⟩
   ·rw[Zbm,yT hg (Zbr _)]at hon
    exact absurd hon fb
   ·rw[Zbm,Jay hos (Zbr _)]at hd
    exact Dak hd
end
theorem rG:∀ (u:List (Nat×aS)) (f g:Nat->Option aS) (k:Nat),f k=g k->upds f u k=upds g u k
 |[],f,g,k,h=>h
 | (k', c) :: r, f, g, k, h => by
  refine rG r _ _ k ?_;unfold Uaz;split
  ·rfl
  ·exact h
theorem Nab:∀ (u:List (Nat×aS)) (s:St) (k:Nat),(s.puts u).tr.get k=upds s.tr.get u k
 |[],s,k=>rfl
 | (k', c) :: r, s, k => by
  rw[St.puts,Nab r _ k,upds];refine rG r _ _ k ?_;simp only[St.put,Tr.get_set,Uaz]
theorem jA:∀ (u:List (Nat×aS)) (s:St),(s.puts u).nv=s.nv/\(s.puts u).nb=s.nb/\(s.puts u).nr=s.nr/\(s.puts u).nt=s.nt
 |[],s=>⟨rfl,rfl,rfl,rfl⟩
 |(k',c)::r,s=>by rw[St.puts];exact jA r _
theorem Gaj:∀ (u:List (Nat×aS)) (f g:Nat->Option aS) (k:Nat),(∃ c,(k,c)∈u)->upds f u k=upds g u k
 |[],f,g,k,h=>by obtain⟨c,hc⟩:=h;simp at hc
 | (k', c) :: r, f, g, k, h => by
  by_cases hk:k=k'
  ·exact rG r _ _ k (by unfold Uaz;rw[if_pos hk,if_pos hk])
  ·refine Gaj r _ _ k ?_
   obtain⟨c',gj⟩:=h
   rcases List.mem_cons.1 gj with h1|h1
   ·exact absurd (Prod.mk.inj h1).1 hk
   ·exact⟨c',h1⟩
theorem yU {t:Tr aS}:∀ {n r:Nat},nI t r n=true->∀ j,r<=j->j<r+n->t.get (kR j)=none
 |0,r,_,j,h1,h2=>by omega
 | n + 1, r, h, j, h1, h2 => by
  simp only[nI,Zbd,Bc7]at h;by_cases e:j=r
  ·rw[e];exact h.1
  ·exact yU h.2 j (by omega) (by omega)
theorem Sab:∀ (u:List (Nat×aS)) (n:Nat),n<=Kb6 u n
 |[],n=>Zbr _
 | x :: r, n => by
  refine Nat.le_trans ?_ (Sab r _)
  cases h:(Nat.beq (x.1 % 3) 2&&Nat.ble n (x.1 / 3)) with
  |false=>exact Zbr _
  |true=>simp only[Zbd,Acr]at h;rw[cond_true];omega
theorem Uag:∀ {u:List (Nat×aS)} {n:Nat} {x:Nat×aS},x∈u->x.1 % 3=2->x.1 / 3<Kb6 u n
 | y :: r, n, x, hx, h2 => by
  rcases List.mem_cons.1 hx with rfl|hx
  ·refine Nat.lt_of_lt_of_le ?_ (Sab r _)
   have e:Nat.beq (x.1 % 3) 2=true:=by rw[h2];rfl
   rw[e,Bool.true_and]
   cases h:Nat.ble n (x.1 / 3) with
   |true=>rw[cond_true];omega
   | false =>
    rw[cond_false];exact Nat.lt_of_not_le fun e=>by rw[<- Acr,h]at e;cases e
  ·exact Uag (u:=r) hx h2
theorem Yaz:∀ {u:List (Nat×aS)} {n m:Nat},n<=m->(∀ x∈u,x.1 % 3=2->x.1 / 3<m)->Kb6 u n<=m
 |[],n,m,h,_=>h
 | y :: r, n, m, h, hu => by
  show Kb6 r (bif Nat.beq (y.1 % 3) 2&&Nat.ble n (y.1 / 3) then y.1 / 3+1 else n)<=m
  refine Yaz (u:=r) ?_ fun x hx=>hu x (Zbn _ hx)
  cases hc:(Nat.beq (y.1 % 3) 2&&Nat.ble n (y.1 / 3)) with
  |false=>exact h
  | true =>
   simp only[Zbd,Zb8]at hc;rw[cond_true];exact hu y Zbu hc.1
theorem Abr {n nb nr:Nat}{u:List (Nat×aS)}(hk:u.all (fun x=>zH n nb nr x.1)=true)(draw:Bool):nr<=Ta3 draw nr u/\Ta3 draw nr u<=nr+bW/\∀ x∈u,x.1 % 3=2->x.1 / 3<Ta3 draw nr u:=by
 have hb:∀ x∈u,x.1 % 3=2->x.1 / 3<nr+bW:=by
  intro x hx h2;rw[Zb6]at hk;have:=hk _ hx;unfold zH at this;rw[h2]at this;simpa using this
 cases draw with
 |true=>exact⟨Ccv ..,Zbr _,hb⟩
 |false=>exact⟨Sab _ _,Yaz (Ccv ..) hb,fun x hx h2=>Uag hx h2⟩
theorem Fb1 {s:St}{g:Option (aL×Bool)}{r:bP}{n:Nat}(h:Fb2 s g r=true)(hn:n<=s.nt)(hk:r.upd.all (fun x=>zH n s.nb s.nr x.1)=true)(draw:Bool)(nv:Nat)(k:Nat) :
  ({ (s.puts r.upd) with nv:=nv,nb:=s.nb+1,nr:=Ta3 draw s.nr r.upd }:St).get k=upds s.get r.upd k:=by
 obtain⟨t1,t2,t3⟩:=Abr hk draw;generalize Ta3 draw s.nr r.upd=fS at t1 t2 t3 ⊢;simp only[Fb2,Zbd,Bc7]at h;obtain⟨⟨⟨⟨h1,h2⟩,-⟩,-⟩,-⟩:=h
 have e:({ (s.puts r.upd) with nv:=nv,nb:=s.nb+1,nr:=fS }:St).get k=bif vJ s.nt (s.nb+1) fS k then upds s.tr.get r.upd k else none:=by
  unfold St.get;dsimp only;rw[Nab,(jA r.upd s).2.2.2]
 rw[e];by_cases hm:∃ c,(k,c)∈r.upd
 ·obtain⟨c,hc⟩:=hm
  have j9:vJ s.nt (s.nb+1) fS k=true:=by
   rw[Zb6]at hk;have:=hk _ hc;unfold zH at this;unfold vJ;dsimp only at this
   cases b0:Nat.beq (k % 3) 0 with
   |true=>rw[b0,cond_true]at this;rw[cond_true];simp only[Ach]at this ⊢;omega
   | false =>
    rw[b0,cond_false]at this;rw[cond_false]
    cases b1:Nat.beq (k % 3) 1 with
    |true=>rw[b1,cond_true]at this;rw[cond_true];simp only[Acr]at this;simp only[Ach];omega
    | false =>
     rw[cond_false,Ach];have n0:k % 3≠0:=fun e=>by rw[e]at b0;cases b0
     have n1:k % 3≠1:=fun e=>by rw[e]at b1;cases b1
     exact t3 _ hc (by dsimp only;omega)
  rw[j9,cond_true];exact Gaj _ _ _ _ ⟨c,hc⟩
 ·have mC:∀ c,(k,c)∉r.upd:=fun c hc=>hm ⟨c,hc⟩
  rw[eU _ _ _ mC,eU _ _ _ mC];unfold St.get
  cases ho:vJ s.nt s.nb s.nr k with
  | true =>
   have:vJ s.nt (s.nb+1) fS k=true:=by
    unfold vJ at ho ⊢
    cases b0:Nat.beq (k % 3) 0 with
    |true=>rw[b0]at ho;exact ho
    | false =>
     rw[b0,cond_false]at ho;rw[cond_false]
     cases b1:Nat.beq (k % 3) 1 with
     |true=>rw[b1,cond_true]at ho;rw[cond_true];simp only[Ach]at ho ⊢;omega
     |false=>rw[b1,cond_false]at ho;rw[cond_false];simp only[Ach]at ho ⊢;omega
   rw[this]
  | false =>
   rw[cond_false]
   cases hw:vJ s.nt (s.nb+1) fS k with
   |false=>rfl
   | true =>
    rw[cond_true];unfold vJ at ho hw
    cases b0:Nat.beq (k % 3) 0 with
    |true=>rw[b0,cond_true]at ho hw;rw[ho]at hw;cases hw
    | false =>
     rw[b0,cond_false]at ho hw;have n0:k % 3≠0:=fun e=>by rw[e]at b0;cases b0
     cases b1:Nat.beq (k % 3) 1 with
     | true =>
      rw[b1,cond_true]at ho hw;simp only[Zb8]at b1;simp only[Ach]at hw;have s7:¬ k / 3<s.nb:=fun e=>by rw[<- Ach,ho]at e;cases e
      have:k=kB s.nb:=by unfold kB;omega
      rw[this];exact h1
     | false =>
      rw[b1,cond_false]at ho hw;have n1:k % 3≠1:=fun e=>by rw[e]at b1;cases b1
      simp only[Ach]at hw;have s7:¬ k / 3<s.nr:=fun e=>by rw[<- Ach,ho]at e;cases e
      have:k=kR (k / 3):=by unfold kR;omega
      rw[this];exact yU h2 _ (by omega) (by omega)
theorem Qa2 {s:St}:Dao s.get s.nb s.nr:=by
 refine⟨?_,fun j h1 h2=>?_⟩
 ·unfold St.get vJ kB
  have e:(3*s.nb+1) % 3=1:=by omega
  have e2:(3*s.nb+1) / 3=s.nb:=by omega
  rw[e,e2]
  have:Acw s.nb s.nb=false:=by
   cases hb:Acw s.nb s.nb with
   |false=>rfl
   |true=>simp at hb
  rw[this];rfl
 ·unfold St.get vJ kR
  have e:(3*j+2) % 3=2:=by omega
  have e2:(3*j+2) / 3=j:=by omega
  rw[e,e2]
  have:Acw j s.nr=false:=by
   cases hb:Acw j s.nr with
   |false=>rfl
   |true=>simp only[Ach]at hb;omega
  rw[this];rfl
theorem Uaf (t:Tr aS)(lo:Nat):∀ n,Oaz t lo n<=lo+n
 |0=>Zbr _
 | n + 1 => by
  unfold Oaz
  cases (t.get (kR (lo+n))).isNone with
  |true=>rw[cond_true];have:=Uaf t lo n;omega
  |false=>rw[cond_false];omega
theorem Kaw (t:Tr aS)(lo:Nat):∀ n j,Oaz t lo n<=j->j<lo+n->t.get (kR j)=none
 |0,j,h1,h2=>by unfold Oaz at h1;omega
 | n + 1, j, h1, h2 => by
  unfold Oaz at h1
  cases h:(t.get (kR (lo+n))).isNone with
  | true =>
   rw[h,cond_true]at h1;by_cases e:j=lo+n
   ·rw[e];simpa using h
   ·exact Kaw t lo n j h1 (by omega)
  |false=>rw[h,cond_false]at h1;omega
theorem Oay {draw:Bool}{lo:Nat}{s:St}:(trimS draw lo s).get=s.get:=by
 unfold trimS
 cases hd:(draw&&Nat.ble lo s.nr) with
 |false=>rfl
 | true =>
  simp only[Zbd,Acr]at hd;rw[cond_true];funext k;have h1:=Uaf s.tr lo (s.nr-lo);have h2:=Kaw s.tr lo (s.nr-lo);generalize Oaz s.tr lo (s.nr-lo)=m at h1 h2;unfold St.get;dsimp only;unfold vJ
  cases b0:Nat.beq (k % 3) 0 with
  |true=>rfl
  | false =>
   rw[cond_false,cond_false]
   cases b1:Nat.beq (k % 3) 1 with
   |true=>rfl
   | false =>
    rw[cond_false,cond_false];have n0:k % 3≠0:=fun e=>by rw[e]at b0;cases b0
    have n1:k % 3≠1:=fun e=>by rw[e]at b1;cases b1
    have ek:k=kR (k / 3):=by unfold kR;omega
    by_cases ha:k / 3<m
    ·have e1:Acw (k / 3) m=true:=by simpa using ha
     have e2:Acw (k / 3) s.nr=true:=by simp only[Ach];omega
     rw[e1,e2]
    ·have e1:Acw (k / 3) m=false:=by
      cases e:Acw (k / 3) m with
      |false=>rfl
      |true=>simp only[Ach]at e;omega
     rw[e1,cond_false]
     cases e2:Acw (k / 3) s.nr with
     |false=>rfl
     | true =>
      simp only[Ach]at e2;rw[cond_true,ek];exact (h2 _ (by omega) (by omega)).symm
theorem yB {draw:Bool}{lo:Nat}{s:St}:(trimS draw lo s).nv=s.nv/\(trimS draw lo s).nb=s.nb/\(trimS draw lo s).nt=s.nt:=by
 unfold trimS;cases draw&&Nat.ble lo s.nr<;>exact⟨rfl,rfl,rfl⟩
section
variable {P:Program} {E:Env} {F:bH} {n:Nat} {σ:Nat->Option aS} {ρ:List D} {a:Act} {w w':World} {G G':Gh} {g:Option (aL×Bool)} {o:Oper} {cf:Nat->List D->Option (List D)} {Q:Exit->Act->World->Prop}
theorem La2:∀ (u:List (Nat×aS)) (σ:Nat->Option aS) (k:Nat),upds σ u k=match Xan u k with
  |some c=>some c
  |none=>σ k
 |[],_,_=>rfl
 | (k', c) :: r, σ, k => by
  show upds (Uaz σ k' c) r k=_
  rw[La2 r];simp only[Xan]
  cases Xan r k with
  |some d=>rfl
  | none =>
   dsimp only;unfold Uaz;by_cases e:k=k'
   ·subst e
    rw[if_pos rfl];simp
   ·rw[if_neg e]
    have:Nat.beq k' k=false:=by
     cases h:Nat.beq k' k with
     |false=>rfl
     |true=>exact absurd (Nat.eq_of_beq_eq_true h).symm e
    rw[this];rfl
theorem Rab {α:Type}(u:List (Nat×aS))(m:RdM α)(σ:Nat->Option aS):(m.over u).eval σ=m.eval (upds σ u):=by
 induction m with
 |ret a=>rfl
 |no=>rfl
 | rd k f ih =>
  show ((RdM.rd k f).over u).eval σ=(f (upds σ u k)).eval (upds σ u)
  unfold RdM.over;rw[La2 u σ k]
  cases Xan u k with
  |some c=>exact ih _
  |none=>exact ih _
theorem Aaj:∀ (u v:List (Nat×aS)) (σ:Nat->Option aS),upds σ (u++v)=upds (upds σ u) v
 |[],_,_=>rfl
 |(k,c)::r,v,σ=>Aaj r v (Uaz σ k c)
def zR (r nr:Nat)(pv:List Nat)(M mr:Nat)(s:Nat)(p:List Nat):Ow :=
 if s=r then (if pv <+: p then yZ nr M (p.drop pv.length) else yZ r mr p) else .slc s p
theorem Fbw {t:Nat}{a:Act}{o:Oper}(h:o.dst=some t):a.put o.dst (a.tmps.getD t undef)=a:=by
 unfold Act.put;rw[h];dsimp only
 have:a.tmps.setIfInBounds t (a.tmps.getD t undef)=a.tmps:=by
  apply Array.ext_getElem?;intro j;rw[Array.getElem?_setIfInBounds];split
  ·rename_i e
   subst e;split
   ·rename_i hlt
    exact (Acd hlt).symm
   ·rename_i hlt
    rw[Array.getElem?_eq_none (by omega)]
  ·rfl
 rw[this]
theorem Pad (hR:R E.ntmps F σ ρ a w G){nv nr t:Nat}(lR:σ (kR nr)=none){l:List Step}{u:List (Nat×aS)}(h:(Ka4 E nv nr t).eval σ=some (some (l,u)))(aE:aN cf ρ none nv l) :
  ∃ G',R E.ntmps F (upds σ u) ρ a w G':=by
 simp only[Ka4,aA,Zbc,aT,Zbj]at h;split at h
 case h_2=>simp only[aF,Option.some.injEq]at h;cases h
 rename_i deps p ps nie x lp;simp only[aA,Zbc]at h;obtain⟨s,h1,h⟩:=h;split at h
 case h_2=>simp only[aF,Option.some.injEq]at h;cases h
 rename_i r k m q qs a7;rw[iA]at h;split at h
 case isFalse=>simp only[aF,Option.some.injEq]at h;cases h
 rename_i hb;simp only[Zbd,Acr,Ach]at hb;obtain⟨hqm,htn⟩:=hb;simp only[aA,Zbc,aT,Zbj]at h;split at h
 case h_2=>simp only[aF,Option.some.injEq]at h;cases h
 rename_i X m' bc hk;simp only[aF,Option.some.injEq,Prod.mk.injEq]at h;obtain⟨rfl,rfl⟩:=h;have gE:=hR.slot lp (g:=none) rfl;simp only[cB]at gE;have hL:=dX hR h1 gE;have ni:=hL.own;unfold vH at ni;rw[a7]at ni;obtain⟨-,⟨X0,nx⟩,-,fm,lz⟩:=ni;rw[hk]at nx
 obtain⟨rfl,rfl,rfl⟩:X=X0/\m'=m/\bc=k:=by
  injection nx with e;injection e with e1 e2 e3 e4;exact⟨e1,e2,e3⟩
 have eW:=hR.root hk;simp only[bS]at eW;have oh:=Cad (g:=none) rfl (q::qs) nv X (.c .hole) aE;have wc:(bD ρ (q::qs)).length=qs.length+1:=by simp[bD]
 generalize hpv:bD ρ (q::qs)=pv at oh fm lz wc;rw[show (q::qs).length=qs.length+1 from rfl]at fm;have htv:Bae E.ntmps a F.gh t=a.tmps.getD t undef:=if_pos htn;generalize hv:Bae E.ntmps a F.gh t=v at gE fm lz htv;obtain⟨o',s7⟩:∃ o':Oper,o'.dst=some t:=⟨{ (default:Oper) with dst:=some t },rfl⟩;have a56:r≠nr:=fun e=>by rw[e,lR]at hk;cases hk
 have hdr:∀ r,(σ (kR r)).isSome->r≠nr:=fun r hr e=>by rw[e,lR]at hr;cases hr
 have mN:∀ b,G.own b≠.frz->b<w.heap.size:=fun b hb=>by
  rcases Zbz b w.heap.size with h|h
  ·exact h
  ·exact absurd (hR.frame.fresh b h) hb
 have hFr:∀ p,zR r nr pv (m'-(qs.length+1)) m' r p=if pv <+: p then yZ nr (m'-(qs.length+1)) (p.drop pv.length) else yZ r m' p:=fun p=>by unfold zR;rw[if_pos rfl]
 have qy:∀ b,G.own b=.frz->b<w.heap.size->mR (zR r nr pv (m'-(qs.length+1)) m') (G.own b)=.frz/\w.heap[b]?=w.heap[b]?:=fun b hb _=>⟨by rw[hb];rfl,rfl⟩
 have eA:=hR.own (o:=o') (g:=none) (fun d e=>by rw[s7]at e;cases e;exact htn) (sv:=.one (.ex nr)) (v:=v) (w':=w)
  (G':={ G with own:=fun b=>mR (zR r nr pv (m'-(qs.length+1)) m') (G.own b),hdr:=fun s=>if s=nr then v else G.hdr s }) (wr:=fun _=>False)
  (ur:=[(kR nr,.root s.x (m'-(qs.length+1)) 0 .live),(kR r,.root (Nah nv X (q::qs) (.c .hole)).2 m' (bc+1) .live)])
  (f:=zR r nr pv (m'-(qs.length+1)) m') ?_ (fun b _=>rfl) ?_ ⟨rfl,rfl,rfl,Zbr _⟩ ?_ (fun _ _ _=>rfl) (fun _ h=>h.elim) ?_ ?_ ?_ ?_ rfl ?_ ?_
 ·have e1:dW o' none (.one (.ex nr))=[(kT t,.slot none (.one (.ex nr)))]:=by unfold dW;rw[s7]
  have e2:a.put o'.dst v=a:=by rw[htv];exact Fbw s7
  rw[e1,e2]at eA;exact⟨_,eA⟩
 ·intro k c hc
  rcases List.mem_cons.1 hc with hc|hc
  ·exact⟨nr,(Prod.mk.inj hc).1⟩
  ·exact⟨r,(Prod.mk.inj (List.mem_singleton.1 hc)).1⟩
 ·intro b hb
  show mR _ (G.own b)=.frz
  rw[hR.frame.fresh b hb];rfl
 ·intro b hb
  refine .inl ?_;show mR _ (G.own b)=.frz
  rw[hR.frame.fresh b hb];rfl
 ·intro b s' p' hb gp
  have:s'≠r:=fun e=>gp (.root (Nah nv X (q::qs) (.c .hole)).2 m' (bc+1) .live) (by rw[e];simp)
  unfold zR;rw[if_neg this]
 ·intro s' c hc _
  rcases List.mem_cons.1 hc with hc|hc
  ·obtain⟨e1,e2⟩:=Prod.mk.inj hc
   rw[eZ e1,e2];exact .inl ⟨lR,_,_,_,_,rfl⟩
  ·obtain⟨e1,e2⟩:=Prod.mk.inj (List.mem_singleton.1 hc)
   rw[eZ e1,e2];exact .inr (.inl ⟨_,_,_,_,_,hk,rfl⟩)
 ·intro r0 x0 m0 k0 nn s' p' q' hF
  have zp:r0≠r:=fun e=>by
   rw[e,hk]at nn
   injection nn with e;injection e with _ _ _ e;cases e
  have pP:r0≠nr:=hdr r0 (by rw[nn];rfl);unfold zR at hF;split at hF
  ·rename_i e
   split at hF
   ·unfold yZ at hF
    split at hF
    ·injection hF with j1 j2;exact absurd j1.symm pP
    ·cases hF
   ·unfold yZ at hF
    split at hF
    ·injection hF with j1 j2;exact absurd j1.symm zp
    ·cases hF
  ·injection hF with j1 j2;exact⟨j1,j2⟩
 ·intro s' ka
  show (if s'=nr then _ else _)=_
  rw[if_neg (hdr s' ka)]
 ·intro _ _
  simp only[cB,aB];exact⟨by simp,eD _ _ _ (.inr ⟨_,Zbh _ Zbu⟩),fm.one⟩
 ·intro eu s' c hc _
  rcases List.mem_cons.1 hc with hc|hc
  ·obtain⟨e1,rfl⟩:=Prod.mk.inj hc
   obtain rfl:=eZ e1;refine⟨_,_,_,_,rfl,?_⟩;simp only[bS,if_true];refine fm.move qy [] _ (Zbr _) fun b t' hb=>⟨?_,rfl⟩
   show mR _ (G.own b)=_
   rw[hb];show zR _ _ _ _ _ _ _=_
   rw[hFr,if_pos (List.prefix_append _ _),List.drop_left];rfl
  ·obtain⟨e1,rfl⟩:=Prod.mk.inj (List.mem_singleton.1 hc)
   obtain rfl:=eZ e1;refine⟨_,_,_,_,rfl,?_⟩;simp only[bS];rw[if_neg a56];have:=Rp.upd (own':=fun b=>mR (zR s' nr pv (m'-(qs.length+1)) m') (G.own b)) (w':=w) (r:=s') (M':=m') (full:=pv) (y:=.hole) (u:=v) qy (fun b t' hb ht=>⟨?_,rfl⟩) (by omega) (.hole _ fm.one) pv [] m' (G.hdr s') _ _ rfl (Zbr _) (by simpa using eW) lz oh
   ·simpa using this
   ·rw[hb]
    show zR _ _ _ _ _ _ _=_
    rw[hFr,if_neg ht];rfl
theorem Ka2 {mv dt:Bool}{nv nb nr:Nat}{c:Call}(h:o.op=.call c):Wav E mv dt nv nb nr g o=qA E mv dt nv nb nr g o:=by
 unfold Wav;have h1:Bam (dt&&noG g) o.op=none:=by rw[h];unfold Bam;split<;>first|rfl|contradiction
 have h2:Nak (dt&&noG g&&!mv) o=none:=by
  unfold Nak;split
  ·rw[h]
  ·rfl
 rw[h1];dsimp only;rw[h2]
theorem Waz {nv nr t:Nat}(lR:σ (kR (nr+1))=none){l:List Step}{u:List (Nat×aS)}(h1:(Ka4 E nv nr t).eval σ=some (some (l,u))):upds σ u (kR (nr+1))=none:=by
 simp only[Ka4,aA,Zbc,aT,Zbj]at h1;split at h1
 case h_2=>simp only[aF,Option.some.injEq]at h1;cases h1
 simp only[aA,Zbc]at h1;obtain⟨s,-,h1⟩:=h1;split at h1
 case h_2=>simp only[aF,Option.some.injEq]at h1;cases h1
 rw[iA]at h1;split at h1
 case isFalse=>simp only[aF,Option.some.injEq]at h1;cases h1
 simp only[aA,Zbc,aT,Zbj]at h1;split at h1
 case h_2=>simp only[aF,Option.some.injEq]at h1;cases h1
 rename_i r' _ _ _ _ _ _ _ _ hk;simp only[aF,Option.some.injEq,Prod.mk.injEq]at h1;obtain⟨-,rfl⟩:=h1
 cases e:upds σ _ (kR (nr+1)) with
 |none=>rfl
 | some c =>
  exfalso
  rcases pW _ _ _ _ e with h4|⟨-,h4⟩
  ·simp only[List.mem_cons,Prod.mk.injEq,List.not_mem_nil,or_false]at h4
   rcases h4 with ⟨h4,-⟩|⟨h4,-⟩|⟨h4,-⟩
   ·exact iU h4.symm
   ·have:=eZ h4;omega
   ·rw[h4,hk]at lR;cases lR
  ·rw[lR]at h4;cases h4
theorem Abf {mv dt:Bool}{nv nb nr:Nat}{ty:TypeId}{x:Operand}(ho:o.op=.load ty x){r:bP}(h:(qA E mv dt nv nb nr none o).eval σ=some r){j:Nat}{c:aS}(hc:(kR j,c)∈r.upd):False:=by
 simp only[qA,ho,aA,Zbc,tiR,aW]at h;obtain⟨ti,h1,p,h2,h⟩:=h
 have lp:∀ {g':Option (aL×Bool)} {v:SV},(kR j,c)∈(match o.dst with|some d=>[(kT d,aS.slot g' v)]|none=>[])->False:=by
  intro g' v hm;split at hm
  ·simp only[Zbp,Prod.mk.injEq]at hm
   exact iU hm.1.symm
  ·simp at hm
 have hC:∀ {v:SV},(Zaz o none nv v).eval σ=some r->False:=by
  intro v h;simp only[Zaz,tX,aF,Option.some.injEq]at h;subst h;rw[Zb4]at hc;exact lp hc
 unfold Ual at h;split at h
 ·simp only[aA,Zbc,aT,Zbj]at h
  split at h
  ·simp only[aA,Zbc]at h
   obtain⟨_,-,h⟩:=h;split at h
   ·exact hC h
   ·cases h
  ·cases h
 ·simp only[aA,Zbc]at h
  obtain⟨s,-,h⟩:=h;split at h
  ·simp only[tV,aF,Option.some.injEq]at h
   subst h;exact lp hc
  ·simp only[tX,aF,Option.some.injEq]at h
   subst h;rw[Zb4]at hc;exact lp hc
  ·cases h
 ·cases h
theorem Ya7 (hR:R E.ntmps F σ ρ a w G)(hd:fG E.ntmps o)(hti:vN P E.ti){nv nb nr:Nat}{mv dt:Bool}(hf:Dao σ nb nr){res:bP}
  (h:(Wav E mv dt nv nb nr g o).eval σ=some res) (aE:aN cf ρ g nv res.lets)
  (jf:∀ f args argTypes,o.op=.call { callee:=.value f,args,argTypes }->gV P E F σ ρ a w g o Q res.upd):gV P E F σ ρ a w g o Q res.upd:=by
 unfold Wav at h;split at h
 ·split at h
  ·exact Gan hR hd hti hf h aE jf
  ·
   rename_i t hld
   have hb:(dt&&noG g&&!mv)=true:=by
    cases e:(dt&&noG g&&!mv) with
    |true=>rfl
    |false=>rw[e]at hld;cases hld
   simp only[Zbd]at hb;obtain rfl:=wO hb.1.2
   obtain⟨ty,x,ho⟩:∃ ty x,o.op=.load ty x:=by
    unfold Nak at hld;split at hld
    ·split at hld
     ·rename_i ho;exact⟨_,_,ho⟩
     ·cases hld
    ·cases hld
   simp only[aA,Zbc,Rab]at h;obtain⟨r,h1,y,h2,h⟩:=h
   cases y with
   | none =>
    simp only[aF,Option.some.injEq]at h;subst h;exact Gan hR hd hti hf h1 aE jf
   | some lu =>
    obtain⟨l,u⟩:=lu;simp only[aF,Option.some.injEq]at h;subst h;obtain⟨oB,ll⟩:=aN.append aE;have h0:gV P E F σ ρ a w none o Q r.upd:=Gan hR hd hti hf h1 oB fun f args argTypes wt=>by rw[ho]at wt;cases wt
    refine⟨fun hg=>?_,fun hg=>by simp[gOn]at hg⟩;refine Oper.wp_mono (K:=Nx E.ntmps F σ ρ r.upd) (fun a' w' ⟨G',iw⟩=>?_) (h0.1 hg)
    have lR:upds σ r.upd (kR nr)=none:=by
     have mC:=hf.nr nr (Zbr _) (by unfold bW;omega)
     cases e:upds σ r.upd (kR nr) with
     |none=>rfl
     | some c =>
      exfalso
      rcases pW _ _ _ _ e with h4|⟨-,h4⟩
      ·exact Abf ho h1 h4
      ·rw[mC]at h4;cases h4
    obtain⟨G'',te⟩:=Pad iw lR h2 ll;exact⟨G'',by rw[Aaj];exact te⟩
 ·rename_i t jq
  simp only[aA,Zbc]at h;obtain⟨x,h1,h⟩:=h
  have hb:(dt&&noG g)=true:=by
   cases e:(dt&&noG g) with
   |true=>rfl
   |false=>rw[e]at jq;unfold Bam at jq;cases jq
  simp only[Zbd]at hb;obtain rfl:=wO hb.2
  cases x with
  |none=>exact Gan hR hd hti hf h aE jf
  | some lu =>
   obtain⟨l,u⟩:=lu;simp only[aA,Zbc,Rab,aF,Option.some.injEq]at h;obtain⟨r,h2,rfl⟩:=h;obtain⟨oB,ll⟩:=aN.append aE;obtain⟨G',iw⟩:=Pad hR (hf.nr nr (Zbr _) (by unfold bW;omega)) h1 oB
   have eA:gV P E F (upds σ u) ρ a w none o Q r.upd:=by
    have th:upds σ u (kR (nr+1))=none:=Waz (hf.nr (nr+1) (by omega) (by unfold bW;omega)) h1;unfold Bam at jq;split at jq
    ·rename_i ho
     exact Har iw hti ho h2 ll
    ·rename_i ho
     exact uW iw hd hti th ho h2 ll
    ·cases jq
   refine⟨fun hg=>?_,fun hg=>by simp[gOn]at hg⟩;have e:Nx E.ntmps F σ ρ (u++r.upd)=Nx E.ntmps F (upds σ u) ρ r.upd:=by unfold Nx;rw[Aaj]
   rw[e];exact eA.1 hg
theorem jW {ops:List Oper}{mv dt:Bool}{nv nb nr:Nat}{res:bP}(h:(lJ E ops mv dt nv nb nr o).eval σ=some (g,res)) :
  (Ma9 ops o).eval σ=some g/\fG E.ntmps o/\(Wav E mv dt nv nb nr g o).eval σ=some res/\res.upd.all (fun x=>zH E.ntmps nb nr x.1)=true:=by
 simp only[lJ,aA,Zbc,aK,aF,Option.some.injEq,Prod.mk.injEq]at h;obtain⟨g',h1,_,h2,res',h3,_,h4,rfl,rfl⟩:=h;refine⟨h1,fun d hd=>?_,h3,?_⟩
 ·rw[hd]at h2
  dsimp only at h2;split at h2
  ·rename_i hb;simpa using hb
  ·cases h2
 ·split at h4
  ·rename_i hb;exact hb
  ·cases h4
def Lbb (P:Program)(E:Env)(F:bH)(σ:Nat->Option aS)(ρ:List D)(ops:Array Oper)(o:Oper)(Q:Exit->Act->World->Prop)(u:List (Nat×aS))(a:Act)(w:World):Prop :=
 if Region.wanted o (yielded ops a.tmps) then o.wp P a w (Nx E.ntmps F σ ρ u) Q else Nx E.ntmps F σ ρ u (a.put o.dst undef) w
theorem Bap (hR:R E.ntmps F σ ρ a w G)(hti:vN P E.ti){ops:Array Oper}(oX:∀ o∈ops.toList,fG E.ntmps o){mv dt:Bool}{nv nb nr:Nat}(hf:Dao σ nb nr){res:bP}
  (h:(lJ E ops.toList mv dt nv nb nr o).eval σ=some (g,res)) (aE:aN cf ρ g nv res.lets)
  (jf:∀ f args argTypes,o.op=.call { callee:=.value f,args,argTypes }->gV P E F σ ρ a w g o Q res.upd):Lbb P E F σ ρ ops o Q res.upd a w:=by
 obtain⟨h1,h2,h3,-⟩:=jW h;have hs:=Ya7 hR h2 hti hf h3 aE jf;unfold Lbb;rw[Sa2 hR oX h1];split
 ·rename_i hg;exact hs.1 hg
 ·rename_i hg;exact hs.2 (by simpa using hg)
end
section
variable {cf:Nat->List D->Option (List D)}
theorem Tae {i:Nat}{k:Kind}:Nau i k=true↔k=.yield i:=by
 cases k<;>simp[Nau]
 exact eq_comm
theorem Xas {k:Kind}:Vaq k=true↔k=.cont:=by cases k<;>simp[Vaq]
theorem Cbu {β:Type}{body:Tm β}{ρ:List D}{C:List D->Out β->Prop}
  (a2z:∀ vs o,Ec cf body (ρ++vs)=some o->o.kind≠.cont->C vs o)
  (fb:∀ vs o o',Ec cf body (ρ++vs)=some o->o.kind=.cont->C o.vals o'->Lc cf body ρ o.vals=some o'->C vs o') :
  ∀ {vs:List D} {o:Out β},Lc cf body ρ vs=some o->C vs o:=by
 intro vs o h;have h':=(gG (Sbt (cf:=cf) body ρ vs)).1 h;obtain⟨n,hn⟩:=h'
 have key:∀ m vs,iter m (fun vs=>runT cf n body (ρ++vs)) vs=some o->C vs o/\Lc cf body ρ vs=some o:=by
  intro m
  induction m with
  |zero=>intro vs h;cases h
  | succ m ih =>
   intro vs h;simp only[iter,Zbc]at h;obtain⟨o1,h1,h2⟩:=h;have e1:Ec cf body (ρ++vs)=some o1:=Ja3.2 ⟨n,h1⟩;split at h2
   ·rename_i hk
    obtain⟨h3,h4⟩:=ih _ h2;exact⟨fb vs o1 o e1 hk h3 h4,by rw[Cbw,e1,Zbj,if_pos hk];exact h4⟩
   ·rename_i hk
    obtain rfl:=Option.some.inj h2;exact⟨a2z vs o1 e1 hk,by rw[Cbw,e1,Zbj,if_neg hk]⟩
 exact (key n vs hn).1
theorem wN {β:Type}{f:Kind->Bool}:∀ {t:Tm β} {ρ:List D} {o:Out β},t.no f=true->Ec cf t ρ=some o->f o.kind=false
 | .leaf k xs e, ρ, o, hn, h => by
  rw[fU]at h;obtain rfl:=Option.some.inj h;simpa[Tm.no] using hn
 |.stuck,ρ,o,hn,h=>by rw[jI]at h;cases h
 | .lt g p xs n k, ρ, o, hn, h => by
  rw[Oam]at h;split at h
  ·simp only[Zbc]at h
   obtain⟨ds,-,h⟩:=h;split at h
   ·exact wN (t:=k) hn h
   ·cases h
  ·exact wN (t:=k) hn h
 | .call g c xs n os k, ρ, o, hn, h => by
  rw[uR]at h;split at h
  ·simp only[Zbc]at h
   obtain⟨ds,-,h⟩:=h;split at h
   ·exact wN (t:=k) hn h
   ·cases h
  ·exact wN (t:=k) hn h
 | .ite c t e, ρ, o, hn, h => by
  simp only[Tm.no,Zbd]at hn;rw[Fa2]at h;split at h
  ·exact wN hn.1 h
  ·exact wN hn.2 h
  ·cases h
 | .bind i t k, ρ, o, hn, h => by
  simp only[Tm.no,Zbd]at hn;simp only[rF,Zbc]at h;obtain⟨o1,h1,h2⟩:=h;split at h2
  ·exact wN hn.2 h2
  ·obtain rfl:=Option.some.inj h2
   exact wN hn.1 h1
 | .loop init b, ρ, o, hn, h => by
  rw[Oan]at h;simp only[Tm.no]at hn;exact Cbu (C:=fun _ o=>f o.kind=false) (fun vs o h1 _=>wN hn h1) (fun _ _ _ _ _ h3 _=>h3) h
theorem qJ {f:St->Option (Tm St)}:∀ {t t':Tm St} {ρ:List D} {o':Out St},t.graft f=some t'->Ec cf t' ρ=some o' ->
  ∃ o,Ec cf t ρ=some o/\((o.kind=.fall/\∃ r,f o.ext=some r/\Ec cf r o.env=some o')\/(o.kind≠.fall/\o'=o))
 | .leaf k xs s, t', ρ, o', hg, h => by
  cases k with
  |fall=>exact⟨_,fU ..,.inl ⟨rfl,t',hg,h⟩⟩
  | _ =>
   simp only[Tm.graft,Option.some.injEq]at hg;subst hg;rw[fU]at h;obtain rfl:=Option.some.inj h;exact⟨_,fU ..,.inr ⟨by simp,rfl⟩⟩
 | .stuck, t', ρ, o', hg, h => by
  simp only[Tm.graft,Option.some.injEq]at hg;subst hg;rw[jI]at h;cases h
 | .lt g p xs n k, t', ρ, o', hg, h => by
  simp only[Tm.graft,Zbo]at hg;obtain⟨k',hk,rfl⟩:=hg;rw[Oam]at h;simp only[Oam];split at h
  ·rename_i fb
   simp only[Zbc]at h;obtain⟨ds,h1,h⟩:=h;split at h
   ·rename_i hl
    obtain⟨o,h2,h3⟩:=qJ hk h;exact⟨o,by rw[if_pos fb,h1,Zbj,if_pos hl];exact h2,h3⟩
   ·cases h
  ·rename_i fb
   obtain⟨o,h2,h3⟩:=qJ hk h;exact⟨o,by rw[if_neg fb];exact h2,h3⟩
 | .call g c xs n os k, t', ρ, o', hg, h => by
  simp only[Tm.graft,Zbo]at hg;obtain⟨k',hk,rfl⟩:=hg;rw[uR]at h;simp only[uR];split at h
  ·rename_i fb
   simp only[Zbc]at h;obtain⟨ds,h1,h⟩:=h;split at h
   ·rename_i hl
    obtain⟨o,h2,h3⟩:=qJ hk h;exact⟨o,by rw[if_pos fb,h1,Zbj,if_pos hl];exact h2,h3⟩
   ·cases h
  ·rename_i fb
   obtain⟨o,h2,h3⟩:=qJ hk h;exact⟨o,by rw[if_neg fb];exact h2,h3⟩
 | .ite c t e, t', ρ, o', hg, h => by
  simp only[Tm.graft,Zbc,Zbo]at hg;obtain⟨t1,ht,e1,he,rfl⟩:=hg;rw[Fa2]at h;simp only[Fa2];split at h
  ·exact qJ ht h
  ·exact qJ he h
  ·cases h
 | .bind i t k, t', ρ, o', hg, h => by
  simp only[Tm.graft]at hg
  cases hn:t.no pM with
  |false=>rw[hn]at hg;cases hg
  | true =>
   rw[hn,cond_true,Zbo]at hg;obtain⟨k',hk,rfl⟩:=hg;simp only[rF,Zbc]at h;obtain⟨o1,h1,h2⟩:=h;simp only[rF,h1,Zbj];split at h2
   ·rename_i hy
    rw[if_pos hy];exact qJ hk h2
   ·rename_i hy
    rw[if_neg hy];obtain rfl:=Option.some.inj h2;refine⟨o1,rfl,.inr ⟨fun e=>?_,rfl⟩⟩;have:=wN hn h1;rw[e]at this;cases this
 | .loop init b, t', ρ, o', hg, h => by
  simp only[Tm.graft]at hg
  cases hn:b.no pM with
  |false=>rw[hn]at hg;cases hg
  | true =>
   rw[hn,cond_true,Option.some.injEq]at hg;subst hg;refine⟨o',h,.inr ⟨fun e=>?_,rfl⟩⟩;have:=wN (t:=.loop init b) (f:=pM) hn h;rw[e]at this;cases this
theorem jQ {id:Nat}:∀ {t t':Tm St} {ρ:List D} {o':Out St},t.exitFall id=some t'->Ec cf t' ρ=some o' ->
  ∃ o,Ec cf t ρ=some o/\((oO id o.kind=true/\o'=⟨.fall,[],o.ext,o.env⟩)\/(oO id o.kind=false/\o'=o))
 | .leaf k xs s, t', ρ, o', hg, h => by
  cases k with
  | exit j =>
   simp only[Tm.exitFall,Option.some.injEq]at hg
   cases hb:Nat.beq id j with
   | true =>
    rw[hb,cond_true]at hg;subst hg;rw[fU]at h;obtain rfl:=Option.some.inj h;exact⟨_,fU ..,.inl ⟨by simpa[oO] using hb,rfl⟩⟩
   | false =>
    rw[hb,cond_false]at hg;subst hg;rw[fU]at h;obtain rfl:=Option.some.inj h;exact⟨_,fU ..,.inr ⟨by simpa[oO] using hb,rfl⟩⟩
  | _ =>
   simp only[Tm.exitFall,Option.some.injEq]at hg;subst hg;rw[fU]at h;obtain rfl:=Option.some.inj h;exact⟨_,fU ..,.inr ⟨rfl,rfl⟩⟩
 | .stuck, t', ρ, o', hg, h => by
  simp only[Tm.exitFall,Option.some.injEq]at hg;subst hg;rw[jI]at h;cases h
 | .lt g p xs n k, t', ρ, o', hg, h => by
  simp only[Tm.exitFall,Zbo]at hg;obtain⟨k',hk,rfl⟩:=hg;rw[Oam]at h;simp only[Oam];split at h
  ·rename_i fb
   simp only[Zbc]at h;obtain⟨ds,h1,h⟩:=h;split at h
   ·rename_i hl
    obtain⟨o,h2,h3⟩:=jQ hk h;exact⟨o,by rw[if_pos fb,h1,Zbj,if_pos hl];exact h2,h3⟩
   ·cases h
  ·rename_i fb
   obtain⟨o,h2,h3⟩:=jQ hk h;exact⟨o,by rw[if_neg fb];exact h2,h3⟩
 | .call g c xs n os k, t', ρ, o', hg, h => by
  simp only[Tm.exitFall,Zbo]at hg;obtain⟨k',hk,rfl⟩:=hg;rw[uR]at h;simp only[uR];split at h
  ·rename_i fb
   simp only[Zbc]at h;obtain⟨ds,h1,h⟩:=h;split at h
   ·rename_i hl
    obtain⟨o,h2,h3⟩:=jQ hk h;exact⟨o,by rw[if_pos fb,h1,Zbj,if_pos hl];exact h2,h3⟩
   ·cases h
  ·rename_i fb
   obtain⟨o,h2,h3⟩:=jQ hk h;exact⟨o,by rw[if_neg fb];exact h2,h3⟩
 | .ite c t e, t', ρ, o', hg, h => by
  simp only[Tm.exitFall,Zbc,Zbo]at hg;obtain⟨t1,ht,e1,he,rfl⟩:=hg;rw[Fa2]at h;simp only[Fa2];split at h
  ·exact jQ ht h
  ·exact jQ he h
  ·cases h
 | .bind i t k, t', ρ, o', hg, h => by
  simp only[Tm.exitFall]at hg
  cases hn:t.no (oO id) with
  |false=>rw[hn]at hg;cases hg
  | true =>
   rw[hn,cond_true,Zbo]at hg;obtain⟨k',hk,rfl⟩:=hg;simp only[rF,Zbc]at h;obtain⟨o1,h1,h2⟩:=h;simp only[rF,h1,Zbj];split at h2
   ·rename_i hy
    rw[if_pos hy];exact jQ hk h2
   ·rename_i hy
    rw[if_neg hy];obtain rfl:=Option.some.inj h2;exact⟨o1,rfl,.inr ⟨wN hn h1,rfl⟩⟩
 | .loop init b, t', ρ, o', hg, h => by
  simp only[Tm.exitFall]at hg
  cases hn:b.no (oO id) with
  |false=>rw[hn]at hg;cases hg
  | true =>
   rw[hn,cond_true,Option.some.injEq]at hg;subst hg;exact⟨o',h,.inr ⟨wN (t:=.loop init b) (f:=oO id) hn h,rfl⟩⟩
theorem lI {out:Kind}{jm:Kind->Bool}{f:St->Option (Tm St)}(hf:∀ s r,f s=some r->∀ ρ o,Ec cf r ρ=some o->o.kind=out)
  (hc:jm .cont=false) (hy:∀ i,jm (.yield i)=false):∀ {t t':Tm St} {ρ:List D} {o':Out St},t.turn out jm f=some t'->Ec cf t' ρ=some o' ->
  ∃ o,Ec cf t ρ=some o/\((jm o.kind=true/\o'.kind=out/\∃ r,f o.ext=some r/\Ec cf r o.env=some o')\/(jm o.kind=false/\o'=o))
 | .leaf k xs s, t', ρ, o', hg, h => by
  simp only[Tm.turn]at hg
  cases hs:jm k with
  | true =>
   rw[hs,cond_true]at hg;exact⟨_,fU ..,.inl ⟨hs,hf _ _ hg _ _ h,t',hg,h⟩⟩
  | false =>
   rw[hs,cond_false,Option.some.injEq]at hg;subst hg;rw[fU]at h;obtain rfl:=Option.some.inj h;exact⟨_,fU ..,.inr ⟨hs,rfl⟩⟩
 | .stuck, t', ρ, o', hg, h => by
  simp only[Tm.turn,Option.some.injEq]at hg;subst hg;rw[jI]at h;cases h
 | .lt g p xs n k, t', ρ, o', hg, h => by
  simp only[Tm.turn,Zbo]at hg;obtain⟨k',hk,rfl⟩:=hg;rw[Oam]at h;simp only[Oam];split at h
  ·rename_i fb
   simp only[Zbc]at h;obtain⟨ds,h1,h⟩:=h;split at h
   ·rename_i hl
    obtain⟨o,h2,h3⟩:=lI hf hc hy hk h;exact⟨o,by rw[if_pos fb,h1,Zbj,if_pos hl];exact h2,h3⟩
   ·cases h
  ·rename_i fb
   obtain⟨o,h2,h3⟩:=lI hf hc hy hk h;exact⟨o,by rw[if_neg fb];exact h2,h3⟩
 | .call g c xs n os k, t', ρ, o', hg, h => by
  simp only[Tm.turn,Zbo]at hg;obtain⟨k',hk,rfl⟩:=hg;rw[uR]at h;simp only[uR];split at h
  ·rename_i fb
   simp only[Zbc]at h;obtain⟨ds,h1,h⟩:=h;split at h
   ·rename_i hl
    obtain⟨o,h2,h3⟩:=lI hf hc hy hk h;exact⟨o,by rw[if_pos fb,h1,Zbj,if_pos hl];exact h2,h3⟩
   ·cases h
  ·rename_i fb
   obtain⟨o,h2,h3⟩:=lI hf hc hy hk h;exact⟨o,by rw[if_neg fb];exact h2,h3⟩
 | .ite c t e, t', ρ, o', hg, h => by
  simp only[Tm.turn,Zbc,Zbo]at hg;obtain⟨t1,ht,e1,he,rfl⟩:=hg;rw[Fa2]at h;simp only[Fa2];split at h
  ·exact lI hf hc hy ht h
  ·exact lI hf hc hy he h
  ·cases h
 | .bind i t k, t', ρ, o', hg, h => by
  simp only[Tm.turn]at hg
  cases hiy:Nau i out with
  | true =>
   rw[hiy,cond_true]at hg
   cases hn:t.no jm with
   |false=>rw[hn]at hg;cases hg
   | true =>
    rw[hn,cond_true,Zbo]at hg;obtain⟨k',hk,rfl⟩:=hg;simp only[rF,Zbc]at h;obtain⟨o1,h1,h2⟩:=h;simp only[rF,h1,Zbj];split at h2
    ·rename_i sd
     rw[if_pos sd];exact lI hf hc hy hk h2
    ·rename_i sd
     rw[if_neg sd];obtain rfl:=Option.some.inj h2;exact⟨o1,rfl,.inr ⟨wN hn h1,rfl⟩⟩
  | false =>
   rw[hiy,cond_false]at hg;simp only[Zbc,Zbo]at hg;obtain⟨t1,ht,k',hk,rfl⟩:=hg;have cJ:out≠.yield i:=fun e=>by rw[Tae.2 e]at hiy;cases hiy
   simp only[rF,Zbc]at h;obtain⟨o1',h1,h2⟩:=h;obtain⟨o1,h3,h4⟩:=lI hf hc hy ht h1;simp only[rF,h3,Zbj]
   rcases h4 with ⟨h5,h6,h7⟩|⟨h5,h6⟩
   ·rw[if_neg (by rw[h6];exact cJ)]at h2
    obtain rfl:=Option.some.inj h2;have:o1.kind≠.yield i:=fun e=>by rw[e,hy]at h5;cases h5
    rw[if_neg this];exact⟨o1,rfl,.inl ⟨h5,h6,h7⟩⟩
   ·subst h6
    split at h2
    ·rename_i sd
     rw[if_pos sd];exact lI hf hc hy hk h2
    ·rename_i sd
     rw[if_neg sd];obtain rfl:=Option.some.inj h2;exact⟨_,rfl,.inr ⟨h5,rfl⟩⟩
 | .loop init b, t', ρ, o', hg, h => by
  simp only[Tm.turn]at hg
  cases hic:Vaq out with
  | true =>
   rw[hic,cond_true]at hg
   cases hn:b.no jm with
   |false=>rw[hn]at hg;cases hg
   | true =>
    rw[hn,cond_true,Option.some.injEq]at hg;subst hg;exact⟨o',h,.inr ⟨wN (t:=.loop init b) (f:=jm) hn h,rfl⟩⟩
  | false =>
   rw[hic,cond_false,Zbo]at hg;obtain⟨b',hb,rfl⟩:=hg;have cJ:out≠.cont:=fun e=>by rw[Xas.2 e]at hic;cases hic
   rw[Oan]at h;simp only[Oan]
   refine Cbu (C:=fun vs o'=>∃ o,Lc cf b ρ vs=some o/\((jm o.kind=true/\o'.kind=out/\∃ r,f o.ext=some r/\Ec cf r o.env=some o')\/(jm o.kind=false/\o'=o)))
    (fun vs o1' h1 hk=>?_) (fun vs o1' o2 h1 hk h2 uz=>?_) h
   ·obtain⟨o1,h3,h4⟩:=lI hf hc hy hb h1
    rcases h4 with ⟨h5,h6,h7⟩|⟨h5,h6⟩
    ·have:o1.kind≠.cont:=fun e=>by rw[e,hc]at h5;cases h5
     exact⟨o1,by rw[Cbw,h3,Zbj,if_neg this],.inl ⟨h5,h6,h7⟩⟩
    ·subst h6
     exact⟨o1',by rw[Cbw,h3,Zbj,if_neg hk],.inr ⟨h5,rfl⟩⟩
   ·obtain⟨o1,h3,h4⟩:=lI hf hc hy hb h1
    rcases h4 with ⟨h5,h6,h7⟩|⟨h5,h6⟩
    ·exact absurd (h6.symm.trans hk) cJ
    ·subst h6
     obtain⟨o,h8,h9⟩:=h2;exact⟨o,by rw[Cbw,h3,Zbj,if_pos hk];exact h8,h9⟩
end
def Aah (σ:Nat->Option aS)(N:Nat):Prop:=∀ k c,σ k=some c->bY N c=true
def xS (N:Nat)(ρ gg:List D):Prop:=∀ x,bB N x=true->x.val gg=x.val ρ
theorem xS.ext {N:Nat}{ρ:List D}(h:N<=ρ.length)(e:List D):xS N ρ (ρ++e):=fun x hx=>qZ hx h
section
variable {n:Nat} {F:bH} {σ:Nat->Option aS} {ρ gg:List D} {a:Act} {w:World} {G:Gh} {N:Nat}
theorem xS.gOn (h:xS N ρ gg){g:Option (aL×Bool)}(hg:oW N g=true):Go.Proofs.YtcbkmmhkccnamaaGreat.Rf.gOn gg g=Go.Proofs.YtcbkmmhkccnamaaGreat.Rf.gOn ρ g:=by
 cases g with
 |none=>rfl
 | some z =>
  obtain⟨x,w⟩:=z;simp only[oW]at hg;simp only[Go.Proofs.YtcbkmmhkccnamaaGreat.Rf.gOn,h x hg]
theorem xS.path (h:xS N ρ gg){p:List (aL×Nat×Nat)}(hp:(p.all fun x=>bB N x.1)=true):bD gg p=bD ρ p:=by
 unfold bD;apply Ccl;intro x hx;rw[Zb6]at hp;unfold lD;rw[h x.1 (hp x hx)]
mutual
theorem aB.same (h:xS N ρ gg):∀ (l:aR) (v:Value),l.inScope N=true->aB σ ρ G w l v->aB σ gg G w l v
 |.dead,_,_,hl=>by simpa[aB] using hl
 | .sc x, v, hs, hl => by
  simp only[aR.inScope]at hs;simp only[aB,h x hs]at hl ⊢;exact hl
 | .su g x, v, hs, hl => by
  simp only[aR.inScope,Zbd]at hs;have hg:Go.Proofs.YtcbkmmhkccnamaaGreat.Rf.gOn gg (some g)=Go.Proofs.YtcbkmmhkccnamaaGreat.Rf.gOn ρ (some g):=h.gOn (by obtain⟨y,b⟩:=g;exact hs.2);simp only[aB,h x hs.1,hg]at hl ⊢;exact hl
 |.ex r,v,_,hl=>by simpa[aB] using hl
 | .sn deps p nie x, v, hs, hl => by
  simp only[aR.inScope,Zbd]at hs;simp only[aB,h x hs.1]at hl ⊢;refine⟨hl.1,fun hv=>?_⟩;obtain⟨h1,h2,h3⟩:=hl.2 hv;refine⟨h1,h2,?_⟩
  cases p with
  |no=>trivial
  |view=>exact h3
  | suf sz lo =>
   simp only[Dam,lD]at h3 ⊢;rw[h lo hs.2];exact h3
  | path p =>
   simp only[Dam]at h3 ⊢;rw[h.path hs.2];exact h3
 |.px b off,v,_,hl=>by simpa[aB] using hl
 | .pe l sz i off, v, hs, hl => by
  simp only[aR.inScope,Zbd]at hs;simp only[aB,h i hs.2]at hl ⊢;obtain⟨a,n,c,k,iv,h1,h2⟩:=hl;exact⟨a,n,c,k,iv,aB.same h l _ hs.1 h1,h2⟩
 | .rp deps sz x, v, hs, hl => by
  simp only[aR.inScope]at hs;simp only[aB,h x hs]at hl ⊢;exact hl
 |.pn,v,_,hl=>by simpa[aB] using hl
 | .clo f fu, v, hs, hl => by
  simp only[aR.inScope]at hs;simp only[aB]at hl ⊢;obtain⟨vs,h1,h2⟩:=hl;exact⟨vs,h1,aG.same h fu vs hs h2⟩
theorem aG.same (h:xS N ρ gg):∀ (ls:List aR) (vs:List Value),bF N ls=true->aG σ ρ G w ls vs->aG σ gg G w ls vs
 |[],vs,_,hl=>by simpa[aG] using hl
 | l :: ls, vs, hs, hl => by
  simp only[bF,Zbd]at hs;simp only[aG]at hl ⊢;obtain⟨u,us,e,h1,h2⟩:=hl;exact⟨u,us,e,aB.same h l u hs.1 h1,aG.same h ls us hs.2 h2⟩
end
theorem iP.same (h:xS N ρ gg):∀ (ts:List (Bool×List aR)) (us:List Value),(ts.all fun v=>bF N v.2)=true->iP σ ρ G w ts us->iP σ gg G w ts us
 |[],_,_,ht=>ht
 | (a, ls) :: r, us, hs, ht => by
  simp only[List.all_cons,Zbd]at hs;obtain⟨u,cW,vs,e,h1,h2,h3⟩:=ht;exact⟨u,cW,vs,e,aG.same h ls vs hs.1 h1,h2,iP.same h r cW hs.2 h3⟩
theorem cB.same (h:xS N ρ gg){v:SV}{u:Value}(hs:yE N v=true)(hv:cB σ ρ G w v u):cB σ gg G w v u:=by
 cases v with
 |dead=>trivial
 |one l=>exact aB.same h l u hs hv
 |agg ls=>obtain⟨vs,e,h1⟩:=hv;exact⟨vs,e,aG.same h ls vs hs h1⟩
 |tup ts=>obtain⟨us,e,h1⟩:=hv;exact⟨us,e,iP.same h ts us hs h1⟩
theorem nA:∀ {ls:List aR} {j:Nat} {l:aR},bF N ls=true->ls[j]?=some l->l.inScope N=true
 |[],j,l,_,h=>by simp at h
 | m :: ls, 0, l, hs, h => by
  simp only[bF,Zbd]at hs;simp only[Zbl,Option.some.injEq]at h;rw[<- h];exact hs.1
 | m :: ls, j + 1, l, hs, h => by
  simp only[bF,Zbd]at hs;exact nA hs.2 (by simpa using h)
theorem R.same (h:R n F σ ρ a w G)(hs:Aah σ N)(hv:xS N ρ gg):R n F σ gg a w G:=by
 refine⟨h.tmps,h.defers,fun k c hk=>?_,h.frame,h.rng⟩;have kc:=hs k c hk
 cases c with
 | slot g v =>
  simp only[bY,Zbd]at kc;obtain⟨t,e,h1⟩:=h.cont k _ hk;exact⟨t,e,fun hg=>(h1 (by rw[<- hv.gOn kc.1];exact hg)).same hv kc.2⟩
 | box ro ls =>
  simp only[bY]at kc;obtain⟨b,e,h1,h2,h3⟩:=h.cont k _ hk;refine⟨b,e,h1,h2,fun j l hj=>?_⟩;obtain⟨v,h4,h5,h6⟩:=h3 j l hj;exact⟨v,h4,h5,aB.same hv l v (nA kc hj) h6⟩
 | root x m bc st =>
  simp only[bY]at kc;obtain⟨r,e,h0,h1⟩:=h.cont k _ hk;refine⟨r,e,h0,?_⟩
  cases st with
  |live=>simp only[bS]at h1 ⊢;rw[hv x kc];exact h1
  |frozen=>simp only[bS]at h1 ⊢;rw[hv x kc];exact h1
  |gone=>trivial
  |fwd r'=>exact h1
theorem R.ext (h:R n F σ ρ a w G)(hs:Aah σ N)(hn:N<=ρ.length)(e:List D):R n F σ (ρ++e) a w G:=h.same hs (.ext hn e)
theorem dP {M:Nat}(h:N<=M){x:aL}(hx:bB N x=true):bB M x=true:=by
 cases x with
 |c d=>rfl
 |v i=>simp only[bB,Ach]at hx ⊢;omega
theorem Ha5 {M:Nat}(h:N<=M){p:Pth}(hx:Ba9 N p=true):Ba9 M p=true:=by
 cases p with
 |no=>rfl
 |view=>rfl
 |suf sz lo=>exact dP h hx
 | path p =>
  simp only[Ba9,Zb6]at hx ⊢;exact fun x hm=>dP h (hx x hm)
mutual
theorem oM {M:Nat}(h:N<=M):∀ (l:aR),l.inScope N=true->l.inScope M=true
 |.dead,_=>rfl
 |.sc x,hs=>by simp only[aR.inScope]at hs ⊢;exact dP h hs
 |.su g x,hs=>by simp only[aR.inScope,Zbd]at hs ⊢;exact⟨dP h hs.1,dP h hs.2⟩
 |.ex r,_=>rfl
 |.sn deps p nie x,hs=>by simp only[aR.inScope,Zbd]at hs ⊢;exact⟨dP h hs.1,Ha5 h hs.2⟩
 |.px b off,_=>rfl
 |.pe l sz i off,hs=>by simp only[aR.inScope,Zbd]at hs ⊢;exact⟨oM h l hs.1,dP h hs.2⟩
 |.rp deps sz x,hs=>by simp only[aR.inScope]at hs ⊢;exact dP h hs
 |.pn,_=>rfl
 |.clo f fu,hs=>by simp only[aR.inScope]at hs ⊢;exact iG h fu hs
theorem iG {M:Nat}(h:N<=M):∀ (ls:List aR),bF N ls=true->bF M ls=true
 |[],_=>rfl
 |l::ls,hs=>by simp only[bF,Zbd]at hs ⊢;exact⟨oM h l hs.1,iG h ls hs.2⟩
end
theorem xM {M:Nat}(h:N<=M){c:aS}(hs:bY N c=true):bY M c=true:=by
 cases c with
 | slot g v =>
  simp only[bY,Zbd]at hs ⊢;refine⟨xC hs.1 h,?_⟩
  cases v with
  |dead=>rfl
  |one l=>exact oM h l hs.2
  |agg ls=>exact iG h ls hs.2
  | tup ts =>
   have h2:=hs.2;simp only[yE,Zb6]at h2 ⊢;exact fun x hx=>iG h x.2 (h2 x hx)
 |box ro ls=>exact iG h ls hs
 |root x m bc st=>exact dP h hs
theorem Aah.mono {M:Nat}(hs:Aah σ N)(h:N<=M):Aah σ M:=fun k c hk=>xM h (hs k c hk)
theorem Aah.upds {M:Nat}(hs:Aah σ N)(h:N<=M){u:List (Nat×aS)}(hu:u.all (fun x=>bY M x.2)=true):Aah (upds σ u) M:=by
 intro k c hk
 rcases pW u σ k c hk with h1|⟨-,h1⟩
 ·rw[Zb6]at hu
  exact hu _ h1
 ·exact xM h (hs k c h1)
end
end Go.Proofs.YtcbkmmhkccnamaaGreat.Rf
