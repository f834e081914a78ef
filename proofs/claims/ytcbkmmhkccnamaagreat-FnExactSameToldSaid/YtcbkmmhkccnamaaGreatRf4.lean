/- Terms for so program's functions, and nh they are right: part 4 of 10. -/
import Derived.Test.YtcbkmmhkccnamaaGreatRf3
import Derived.Laws.MakeOwn
open Array renaming getElem?_eq_getElem → Acr, length_toList → Cca, ext' → Dce
open Bool renaming and_eq_true → Zbo, not_eq_true' → Ach
open List renaming mem_append_left → Zbp, getElem?_eq_getElem → Zbq, mem_append_right → Zbs, length_append → Zbt, getElem?_cons_zero → Zbw, append_assoc → Zbx, mem_cons_of_mem → Zby, mem_singleton → Zb0, length_map → Zb3, mem_of_getElem? → Zb4, mem_cons_self → Zb5, replicate → Zb6, getElem?_append_right → Zb8, getElem?_append_left → Zb9, all_eq_true → Acd, getElem?_map → Ace, append_nil → Acf, map_cons → Acg, length_take → Aci, map_nil → Acm, ext_getElem? → Cch, map_congr_left → Ccs
open Nat renaming le_refl → Zb2, lt_or_ge → Aca, add_assoc → Acb, beq_eq → Acj, add_zero → Ack, add_sub_cancel_left → Acs, blt_eq → Acw, ble_eq → Ac2, blt → Ac8, le_succ → Ccp, mul_comm → Cc0, le_add_right → Cc5
open Option renaming bind_eq_some_iff → Zbn, bind_some → Zbv, map_eq_some_iff → Zbz, isNone_iff_eq_none → Ccc
set_option linter.unusedSimpArgs false
set_option linter.unusedVariables false
set_option linter.unnecessarySimpa false
set_option linter.unusedSectionVars false
namespace Go.Proofs.YtcbkmmhkccnamaaGreat.Rf
def Ya7 (k9:List Nat)(mg:Option Nat)(nsz:Nat)(src:Option (Nat×List Nat×Nat))(nr M:Nat)(s:Nat)(p:List Nat):Ow :=
 if s∈k9 then .frz else if mg=some s then (match p with
  |k::t=>yS nr M ((nsz+k)::t)
  |[]=>.frz) else
 match src with
 |some (r,pq,mr)=>if s=r then (if pq <+: p then yS nr M (p.drop pq.length) else yS r mr p) else .slc s p
 |none=>.slc s p
section
variable {P:Program} {E:Env} {F:bG} {n:Nat} {σ:Nat->Option aS} {ρ:List D} {a:Act} {w w':World} {G G':Gh} {g:Option (aK×Bool)} {o:Oper} {cf:Nat->List D->Option (List D)} {Q:Exit->Act->World->Prop} {next:Act->World->Prop}
structure XOk (σ:Nat->Option aS) (ρ:List D) (G:Gh) (w:World) (v:Value) (ra:List (List D)) (sz m:Nat) (updX:List (Nat×aS)) (src:Option (Nat×List Nat×Nat)) (A:Option Addr) (b:Addr) (n cap:Nat) (vs:Nat->Nat->Value):Prop where
 side:Side w v ra sz A b n cap vs
 base:(A=some b/\b.spot=none)\/(A=none/\cap=0)
 own:A=some b->∃ r pq mr,src=some (r,pq,mr)/\G.own b.block=.slc r pq
 all:A=some b->∀ k,k<cap*sz->∃ u,w.cell? (b.add k)=some u/\w.frozen? (b.add k)=false
 ch:∀ i row,ra[i]?=some row->∀ j d,row[j]?=some d->∃ r pq mr,src=some (r,pq,mr)/\Rp G.own w r (pq++[i*sz+j]) (m-1) (vs i j) d
 m:1<=m
 upd:(src=none/\updX=[])\/∃ r pq mr X k,src=some (r,pq,mr)/\σ (kR r)=some (.root X mr k .live) /\
  ((pq=[]/\updX=[(kR r,.root (.c .hole) 0 0 .gone)])\/(∃ X',updX=[(kR r,.root X' mr (k+1) .live)]/\Upd pq (X.val ρ) .hole (X'.val ρ)/\zI G.own w r [] (G.hdr r) pq v/\pq.length<mr))
theorem Ibg (hR:R E.ntmps F σ ρ a w G)(hd:fD E.ntmps o){nb nr:Nat}(hf:Dah σ nb nr){fl:Bool}{vx vy v:Value}{ra rb:List (List D)}{sz m dy M:Nat}{updX gi:List (Nat×aS)}{src:Option (Nat×List Nat×Nat)}{ry k9:List Nat}{mg:Option Nat}
  {A By:Option Addr} {b by':Addr} {n n' cap mo:Nat} {vs tW:Nat->Nat->Value}
  (hX:XOk σ ρ G w vx ra sz m updX src A b n cap vs) (hY:YOk σ G w fl vy rb sz dy gi ry k9 mg)
  (q9:Side w vy rb sz By by' n' mo tW) (hYc:∀ i row,rb[i]?=some row->∀ j d,row[j]?=some d->ChY G w k9 mg dy (tW i j) d (i*sz+j))
  {w1:World} {A':Option Addr} {cb:Addr} {ij:Nat} {grow:Bool} (hA:Pbf w w1 G A n n' cap sz (lT vs n sz) (lT tW n' sz) v A' cb ij grow)
  (jq:fl=true->∀ r∈ra++rb,∀ d∈r,d.isSc=true) (hM1:1<=M) (hM:fl=false->M<=m/\M<=dy)
  (yj:∀ r pq mr,src=some (r,pq,mr)->r∉ry\/fl=true) {y:aK} (hy:y.val ρ=.rows sz (ra++rb)) :
  ∃ G',R E.ntmps F (upds σ (dS o none (.one (.ex nr))++((kR nr,.root y M 0 .live)::updX++gi))) ρ (a.put o.dst v) w1 G':=by
 obtain⟨M,rfl⟩:∃ M',M=M'+1:=⟨M-1,by omega⟩;have iS:σ (kR nr)=none:=hf.nr nr (Zb2 _) (by unfold bU;omega)
 have mz:∀ b,G.own b≠.frz->b<w.heap.size:=fun b hb=>by
  rcases Aca b w.heap.size with h|h
  ·exact h
  ·exact absurd (hR.frame.fresh b h) hb
 have a3b:∀ r pq mr,src=some (r,pq,mr)->r∉k9/\mg≠some r:=by
  intro r pq mr e
  rcases yj r pq mr e with h|h
  ·exact⟨fun hh=>h (hY.fz r hh).1,fun hh=>h (hY.mv r hh).1⟩
  ·obtain⟨-,h2,h3⟩:=hY.flat h
   rw[h2,h3];simp
 have pH:∀ r pq mr,src=some (r,pq,mr)->∃ X k,σ (kR r)=some (.root X mr k .live)/\∃ c,(kR r,c)∈updX:=by
  intro r pq mr e
  rcases hX.upd with ⟨h1,-⟩|⟨r',vm,sy,X,k,h1,h2,h3⟩
  ·rw[h1]at e;cases e
  ·rw[h1]at e
   obtain⟨rfl,rfl,rfl⟩:r'=r/\vm=pq/\sy=mr:=by injection e with e;injection e with e1 e;injection e with e2 e3;exact⟨e1,e2,e3⟩
   refine⟨X,k,h2,?_⟩
   rcases h3 with ⟨-,h3⟩|⟨X',h3,-⟩<;>exact⟨_,by rw[h3];exact List.mem_singleton.2 rfl⟩
 have a0q:grow=false->A'≠none->∃ r pq mr,src=some (r,pq,mr)/\G.own cb.block=.slc r pq:=by
  intro hg cL
  rcases hA.base with ⟨h1,-⟩|⟨-,-,h2⟩|⟨-,h2⟩
  ·rw[hg]at h1;cases h1
  ·rcases hX.base with ⟨h3,h4⟩|⟨h3,-⟩
   ·rw[h2]at h3
    obtain rfl:=Option.some.inj h3;exact hX.own h2
   ·rw[h2]at h3;cases h3
  ·exact absurd h2 cL
 have b7:∀ b,b<w.heap.size->(∀ r pq mr,src=some (r,pq,mr)->G.own b≠.slc r pq)->w1.heap[b]?=w.heap[b]?:=by
  intro b' hlt de;refine hA.heap b' hlt ?_
  cases hg:grow with
  |true=>exact .inl rfl
  | false =>
   by_cases cL:A'=none
   ·exact .inr (.inl cL)
   ·obtain⟨r,pq,mr,h1,h2⟩:=a0q hg cL
    exact .inr (.inr fun e=>de r pq mr h1 (e▸h2))
 generalize az:(fun b'=>if b'=w.heap.size then (if grow=true then Ow.slc nr [] else .frz) else mP (Ya7 k9 mg (n*sz) src nr (M+1)) (G.own b'))=own'
 have fv:∀ b' s p,G.own b'=.slc s p->own' b'=Ya7 k9 mg (n*sz) src nr (M+1) s p:=fun b' s p hb=>by
  have:=mz b' (by rw[hb];simp);rw[<- az];dsimp only;rw[if_neg (by omega),hb];rfl
 have hz:∀ b',G.own b'=.frz->b'<w.heap.size->own' b'=.frz/\w1.heap[b']?=w.heap[b']?:=fun b' hb hlt=>by
  refine⟨?_,b7 b' hlt fun _ _ _ _=>by rw[hb];simp⟩;rw[<- az];dsimp only;rw[if_neg (by omega),hb];rfl
 have zm:∀ s∈k9,∀ p,Ya7 k9 mg (n*sz) src nr (M+1) s p=.frz:=fun s hs p=>by
  unfold Ya7;rw[if_pos hs]
 have tM:∀ r pq mr,src=some (r,pq,mr)->∀ p,Ya7 k9 mg (n*sz) src nr (M+1) r p=if pq <+: p then yS nr (M+1) (p.drop pq.length) else yS r mr p:=fun r pq mr e p=>by
  obtain⟨h1,h2⟩:=a3b r pq mr e;unfold Ya7;rw[if_neg h1,if_neg h2,e];simp
 have tf:∀ s,s∈ry->fl=false->∀ r pq mr,src=some (r,pq,mr)->s≠r:=fun s hs fR r pq mr e h=>by
  rcases yj r pq mr e with h1|h1
  ·exact h1 (h▸hs)
  ·rw[fR]at h1;cases h1
 have hold:∀ i row,ra[i]?=some row->∀ j d,row[j]?=some d->w1.cell? (cb.add (i*sz+j))=some (vs i j)/\Rp own' w1 nr [i*sz+j] M (vs i j) d:=by
  intro i row hi j d hj;have lg:i<n:=by rw[<- hX.side.len];exact (List.getElem?_eq_some_iff.1 hi).1
  have kg:j<sz:=by
   have:=(List.getElem?_eq_some_iff.1 hj).1;rwa[hX.side.rows row (Zb4 hi)]at this
  refine⟨hA.cell _ _ (by rw[Zb9];exact yV vs lg kg;exact (List.getElem?_eq_some_iff.1 (yV vs lg kg)).1),?_⟩;obtain⟨r,pq,mr,e,h1⟩:=hX.ch i row hi j d hj
  cases fR:fl with
  |true=>exact .sc (h1.sc_inv (jq fR row (Zbp _ (Zb4 hi)) d (Zb4 hj)))
  | false =>
   obtain⟨h2,h3⟩:=hM fR;refine h1.move hz _ M (by omega) fun b' t hb=>⟨?_,b7 b' (mz b' (by rw[hb];simp)) fun r' vm sy e' hh=>?_⟩
   ·rw[fv b' _ _ hb,tM r pq mr e,if_pos (by rw[Zbx];exact List.prefix_append _ _),Zbx,List.drop_left,yS]
    simp only[Zbt,List.length_singleton];by_cases ht:t.length<M
    ·rw[if_pos ht,if_pos (by omega)]
    ·rw[if_neg ht,if_neg (by omega)]
   ·rw[e]at e'
    obtain⟨rfl,rfl,rfl⟩:r=r'/\pq=vm/\mr=sy:=by injection e' with e;injection e with e1 e;injection e with e2 e3;exact⟨e1,e2,e3⟩
    rw[hb]at hh
    injection hh with _ hh
    have:=congrArg List.length hh;simp at this
 have gn:∀ i row,rb[i]?=some row->∀ j d,row[j]?=some d->w1.cell? (cb.add ((n+i)*sz+j))=some (tW i j)/\Rp own' w1 nr [(n+i)*sz+j] M (tW i j) d:=by
  intro i row hi j d hj;have lg:i<n':=by rw[<- q9.len];exact (List.getElem?_eq_some_iff.1 hi).1
  have kg:j<sz:=by
   have:=(List.getElem?_eq_some_iff.1 hj).1;rwa[q9.rows row (Zb4 hi)]at this
  have ka:(n+i)*sz+j=n*sz+(i*sz+j):=by rw[Nat.add_mul];omega
  refine⟨hA.cell _ _ (by rw[ka,Zb8 (by rw[nY];omega),nY,Acs];exact yV tW lg kg),?_⟩;have mA:fl=true->d.isSc=true:=fun fR=>jq fR row (Zbs _ (Zb4 hi)) d (Zb4 hj)
  rcases hYc i row hi j d hj with h1|⟨s,h1,h2,h3⟩|⟨h1,h2⟩
  ·exact .sc h1
  ·cases fR:fl with
   |true=>exact .sc (h3.sc_inv (mA fR))
   | false =>
    obtain⟨h4,h5⟩:=hM fR;obtain⟨h6,-,h7⟩:=hY.mv s h1;refine h3.move hz _ M (by omega) fun b' t hb=>⟨?_,b7 b' (mz b' (by rw[hb];simp)) fun r' vm sy e' hh=>?_⟩
    ·rw[fv b' _ _ hb]
     unfold Ya7;rw[if_neg h7,if_pos h1];simp only[List.singleton_append];rw[yS,ka];simp only[List.length_cons];by_cases ht:t.length<M
     ·rw[if_pos ht,if_pos (by omega)]
     ·rw[if_neg ht,if_neg (by omega)]
    ·rw[hb]at hh
     injection hh with hh _
     exact tf s h6 fR r' vm sy e' hh
  ·cases fR:fl with
   |true=>exact .sc (h2.sc_inv (mA fR))
   | false =>
    obtain⟨h4,h5⟩:=hM fR;obtain rfl:M=0:=by omega
    refine .fz (h2.mono' fun b' hb hlt=>?_)
    rcases hb with hb|⟨r',p',h6,hb⟩
    ·exact hz b' hb hlt
    ·refine⟨by rw[fv b' _ _ hb,zm r' h6],b7 b' hlt fun r'' vm sy e' hh=>?_⟩
     rw[hb]at hh
     injection hh with hh _
     exact tf r' (hY.fz r' h6).1 fR r'' vm sy e' hh
 have db:∀ {s:Nat} {c:aS},(kR s,c)∈(kR nr,aS.root y (M+1) 0 .live)::updX++gi ->
   (s=nr/\c=.root y (M+1) 0 .live) \/
   (∃ pq mr X k,src=some (s,pq,mr)/\σ (kR s)=some (.root X mr k .live)/\(c=.root (.c .hole) 0 0 .gone\/∃ X',c=.root X' mr (k+1) .live/\Upd pq (X.val ρ) .hole (X'.val ρ)/\zI G.own w s [] (G.hdr s) pq vx/\pq.length<mr)) \/
   (mg=some s/\s∈ry/\c=.root (.c .hole) 0 0 .gone) \/
   (s∈k9/\s∈ry/\∃ x m v,c=.root x m v .frozen/\σ (kR s)=some (.root x m v .live)):=by
  intro s c hc
  rcases List.mem_append.1 hc with hc|hc
  ·rcases List.mem_cons.1 hc with hc|hc
   ·obtain⟨e1,e2⟩:=Prod.mk.inj hc
    exact .inl ⟨eT e1,e2⟩
   ·rcases hX.upd with ⟨-,h2⟩|⟨r,pq,mr,X,k,h1,h2,h3⟩
    ·rw[h2]at hc;simp at hc
    ·rcases h3 with ⟨h4,h5⟩|⟨X',h5,h6⟩
     ·rw[h5]at hc
      simp only[Zb0,Prod.mk.injEq]at hc;obtain⟨e1,e2⟩:=hc;obtain rfl:=eT e1;exact .inr (.inl ⟨pq,mr,X,k,h1,h2,.inl e2⟩)
     ·rw[h5]at hc
      simp only[Zb0,Prod.mk.injEq]at hc;obtain⟨e1,e2⟩:=hc;obtain rfl:=eT e1;exact .inr (.inl ⟨pq,mr,X,k,h1,h2,.inr ⟨X',e2,h6⟩⟩)
  ·obtain⟨s',e1,h1,h2⟩:=hY.upd _ _ hc
   obtain rfl:=eT e1
   rcases h2 with ⟨h2,h3,-⟩|⟨h2,x,m,bc,h3,h4⟩
   ·exact .inr (.inr (.inl ⟨h2,h1,h3⟩))
   ·exact .inr (.inr (.inr ⟨h2,h1,x,m,bc,h3,h4⟩))
 have l8:∀ r,(σ (kR r)).isSome->r≠nr:=fun r hr e=>by rw[e,iS]at hr;cases hr
 have uf:∀ s,s∈k9->fl=false:=fun s hs=>by
  cases fR:fl with
  |false=>rfl
  |true=>rw[(hY.flat fR).2.1]at hs;simp at hs
 refine⟨{ G with own:=own',hdr:=fun r=>if r=nr then v else G.hdr r },hR.own hd (f:=Ya7 k9 mg (n*sz) src nr (M+1)) (wr:=fun b'=>b'=cb.block/\grow=false/\A'≠none) ?_ ?_ ?_ ?_ ?_ ?_ ?_ ?_ ?_ ?_ ?_ rfl ?_ ?_⟩
 ·intro k c hc
  rcases List.mem_append.1 hc with hc|hc
  ·rcases List.mem_cons.1 hc with hc|hc
   ·exact⟨nr,(Prod.mk.inj hc).1⟩
   ·rcases hX.upd with ⟨-,h2⟩|⟨r,pq,mr,X,k',h1,h2,h3⟩
    ·rw[h2]at hc;simp at hc
    ·rcases h3 with ⟨h4,h5⟩|⟨X',h5,h6⟩<;>(rw[h5]at hc;simp only[Zb0,Prod.mk.injEq]at hc;exact⟨r,hc.1⟩)
  ·obtain⟨s',e1,-⟩:=hY.upd _ _ hc
   exact⟨s',e1⟩
 ·intro b' hlt
  show own' b'=_
  rw[<- az];dsimp only;rw[if_neg (by omega)]
 ·intro b' hb
  rw[hA.size]at hb;show own' b'=.frz
  rw[<- az];dsimp only;by_cases e:b'=w.heap.size
  ·rw[if_pos e]
   cases hg:grow with
   |true=>rw[hg]at hb;simp at hb;omega
   |false=>simp
  ·rw[if_neg e,hR.frame.fresh b' (by split at hb<;>omega)];rfl
 ·exact⟨hA.os.1,hA.os.2.1,hA.os.2.2,by rw[hA.size];omega⟩
 ·intro b' hb
  show own' b'=.frz\/∃ r p,own' b'=.slc r p/\_
  rw[<- az];dsimp only;by_cases e:b'=w.heap.size
  ·rw[if_pos e]
   cases hg:grow with
   |true=>exact .inr ⟨nr,[],by simp,iS⟩
   |false=>exact .inl (by simp)
  ·rw[if_neg e,hR.frame.fresh b' hb];exact .inl rfl
 ·intro b' hlt hnw
  refine hA.heap b' hlt ?_
  cases hg:grow with
  |true=>exact .inl rfl
  | false =>
   by_cases cL:A'=none
   ·exact .inr (.inl cL)
   ·exact .inr (.inr fun e=>hnw ⟨e,hg,cL⟩)
 ·rintro b' ⟨rfl,hg,cL⟩
  obtain⟨r,pq,mr,h1,h2⟩:=a0q hg cL;obtain⟨X,k,-,c,hc⟩:=pH r pq mr h1;exact⟨r,pq,h2,c,Zbp _ (Zby _ hc)⟩
 ·intro b' s p hb gg
  have h1:s∉k9:=fun hs=>by
   rcases (hY.fz s hs).2 with ⟨c,hc⟩|⟨x,m,bc,h⟩
   ·exact gg c (Zbs _ hc)
   ·exact (hR.root h).2 b' p hb
  have h2:mg≠some s:=fun hs=>by
   obtain⟨c,hc⟩:=(hY.mv s hs).2.1;exact gg c (Zbs _ hc)
  unfold Ya7;rw[if_neg h1,if_neg h2]
  cases pZ:src with
  |none=>rfl
  | some x =>
   obtain⟨r,pq,mr⟩:=x;dsimp only;rw[if_neg];intro e;obtain⟨X,k,-,c,hc⟩:=pH r pq mr pZ;exact gg c (Zbp _ (Zby _ (e▸hc)))
 ·intro s c hc _
  rcases db hc with ⟨rfl,rfl⟩|⟨pq,mr,X,k,h1,h2,h3⟩|⟨h1,h2,rfl⟩|⟨h1,h2,x,m',bc,rfl,h4⟩
  ·exact .inl ⟨iS,_,_,_,_,rfl⟩
  ·rcases h3 with rfl|⟨X',rfl,-⟩
   ·exact .inr (.inr (.inl ⟨_,_,_,_,rfl,by simp,by simp⟩))
   ·exact .inr (.inl ⟨_,_,_,_,_,h2,rfl⟩)
  ·exact .inr (.inr (.inl ⟨_,_,_,_,rfl,by simp,by simp⟩))
  ·refine .inr (.inr (.inr ⟨x,m',bc,h4,rfl,fun b' p hb=>⟨?_,b7 b' (mz b' (by rw[hb];simp)) fun r pq mr e hh=>?_⟩⟩))
   ·show own' b'=.frz
    rw[fv b' _ _ hb,zm s h1]
   ·rw[hb]at hh
    injection hh with hh _
    exact tf s h2 (uf s h1) r pq mr e hh
 ·intro r0 x0 m0 k0 mT s p q hF
  have hr0:=l8 r0 (by rw[mT];rfl)
  have qe:∀ R M' q',yS R M' q'=.slc r0 q->R=r0:=by
   intro R M' q' h;unfold yS at h;split at h
   ·injection h
   ·cases h
  unfold Ya7 at hF;split at hF
  ·cases hF
  ·split at hF
   ·split at hF
    ·exact absurd (qe _ _ _ hF).symm hr0
    ·cases hF
   ·split at hF
    ·rename_i _ r pq mr
     split at hF
     ·split at hF
      ·exact absurd (qe _ _ _ hF).symm hr0
      ·have:=qe _ _ _ hF
       subst this;obtain⟨X,k,h,-⟩:=pH r pq mr rfl;rw[h]at mT
       injection mT with e;injection e with _ _ _ e;cases e
     ·injection hF with h1 h2;exact⟨h1,h2⟩
    ·injection hF with h1 h2;exact⟨h1,h2⟩
 ·intro r hr
  show (if r=nr then _ else _)=_
  rw[if_neg (l8 r hr)]
 ·intro _ _
  simp only[bY,aB,if_true];refine⟨trivial,dX _ _ _ (.inr ⟨_,Zbs _ (Zbp _ Zb5)⟩),by rw[hA.val];rfl⟩
 ·intro _ s c hc _
  rcases db hc with ⟨rfl,rfl⟩|⟨pq,mr,X,k,h1,h2,h3⟩|⟨h1,h2,rfl⟩|⟨h1,h2,x,m',bc,rfl,h4⟩
  ·refine⟨_,_,_,_,rfl,?_⟩
   simp only[bP,if_true];rw[hy,hA.val]
   have mh:∀ i row,(ra++rb)[i]?=some row->(i<n/\ra[i]?=some row)\/(n<=i/\rb[i-n]?=some row):=by
    intro i row hi;by_cases hlt:i<ra.length
    ·rw[Zb9 hlt]at hi
     exact .inl ⟨by rw[<- hX.side.len];exact hlt,hi⟩
    ·rw[Zb8 (by omega),hX.side.len]at hi
     exact .inr ⟨by rw[<- hX.side.len];omega,hi⟩
   refine .sl _ cb (n+n') ij sz _ (fun i j=>if i<n then vs i j else tW (i-n) j) (by simp[hX.side.len,q9.len]) hA.le hA.aval (fun row hr=>?_) (fun lR=>⟨hA.spot,?_,fun k hk=>hA.all k hk⟩) (fun i row hi j d hj=>?_) (fun i row hi j d hj=>?_)
   ·rcases List.mem_append.1 hr with hr|hr
    ·exact hX.side.rows _ hr
    ·exact q9.rows _ hr
   ·rcases hA.base with ⟨h1,-,h2⟩|⟨h1,-⟩|⟨-,h2⟩
    ·rw[<- az]
     dsimp only;rw[if_pos h2,if_pos h1]
    rotate_left
    ·rw[h2]at lR;cases lR
    ·obtain⟨r,pq,mr,h2,h3⟩:=a0q h1 (by rw[lR];simp)
     rw[fv _ _ _ h3,tM r pq mr h2,if_pos List.prefix_rfl];simp[yS]
   ·rcases mh i row hi with ⟨h1,h2⟩|⟨h1,h2⟩
    ·rw[if_pos h1];exact (hold i row h2 j d hj).1
    ·rw[if_neg (by omega)]
     have:=(gn _ row h2 j d hj).1;rwa[show n+(i-n)=i by omega]at this
   ·rcases mh i row hi with ⟨h1,h2⟩|⟨h1,h2⟩
    ·rw[if_pos h1];exact (hold i row h2 j d hj).2
    ·rw[if_neg (by omega)]
     have:=(gn _ row h2 j d hj).2;rwa[show n+(i-n)=i by omega]at this
  ·rcases h3 with rfl|⟨X',rfl,h4,h5,h6⟩
   ·exact⟨_,_,_,_,rfl,trivial⟩
   ·refine⟨_,_,_,_,rfl,?_⟩
    simp only[bP];rw[if_neg (l8 s (by rw[h2];rfl))];have hr:=hR.root h2;simp only[bP]at hr;have:=Rp.upd (own':=own') (w':=w1) (r:=s) (M':=mr) (full:=pq) hz (fun b' t hb ht=>⟨?_,b7 b' (mz b' (by rw[hb];simp)) fun r' vm sy e' hh=>?_⟩) (by omega) (.hole _ (by rw[hX.side.val];rfl)) pq [] mr (G.hdr s) _ _ rfl (Zb2 _) (by simpa using hr) h5 h4
    ·simpa using this
    ·rw[fv b' _ _ hb,tM s pq mr h1,if_neg ht]
     rfl
    ·rw[h1]at e'
     obtain⟨-,rfl,-⟩:s=r'/\pq=vm/\mr=sy:=by injection e' with e;injection e with e1 e;injection e with e2 e3;exact⟨e1,e2,e3⟩
     rw[hb]at hh
     injection hh with _ hh
     exact ht (hh▸List.prefix_rfl)
  ·exact⟨_,_,_,_,rfl,trivial⟩
  ·refine⟨x,m',bc,.frozen,rfl,?_,fun b' p hb=>?_⟩
   ·have:=hR.root h4
    simp only[bP]at this ⊢;rw[if_neg (l8 s (by rw[h4];rfl))];refine this.rd.mono' fun b' hb hlt=>?_
    rcases hb with hb|⟨p,hb⟩
    ·exact hz b' hb hlt
    ·refine⟨by rw[fv b' _ _ hb,zm s h1],b7 b' hlt fun r pq mr e hh=>?_⟩
     rw[hb]at hh
     injection hh with hh _
     exact tf s h2 (uf s h1) r pq mr e hh
   ·have de:own' b'=.slc s p:=hb
    have hsn:=l8 s (by rw[h4];rfl)
    have qe:∀ R M' q',R≠s->yS R M' q'≠.slc s p:=by
     intro R M' q' ie h;unfold yS at h;split at h
     ·injection h with h _;exact ie h
     ·cases h
    rcases Aca b' w.heap.size with hlt|lB
    ·rw[<- az]at de
     dsimp only at de;rw[if_neg (by omega)]at de
     cases e:G.own b' with
     | slc s' p' =>
      rw[e]at de;have hF:Ya7 k9 mg (n*sz) src nr (M+1) s' p'=.slc s p:=de;unfold Ya7 at hF;split at hF
      ·cases hF
      ·rename_i ju
       split at hF
       ·split at hF
        ·exact qe _ _ _ hsn.symm hF
        ·cases hF
       ·split at hF
        ·rename_i _ r pq mr
         split at hF
         ·split at hF
          ·exact qe _ _ _ hsn.symm hF
          ·exact qe _ _ _ (tf s h2 (uf s h1) r pq mr rfl).symm hF
         ·injection hF with h5 _;exact ju (h5▸h1)
        ·injection hF with h5 _;exact ju (h5▸h1)
     |_=>rw[e]at de;cases de
    ·rw[<- az]at de
     dsimp only at de;by_cases e:b'=w.heap.size
     ·rw[if_pos e]at de
      split at de
      ·injection de with h5 _;exact hsn h5.symm
      ·cases de
     ·rw[if_neg e,hR.frame.fresh b' lB]at de
      cases de
end
section
variable {P:Program} {E:Env} {F:bG} {n:Nat} {σ:Nat->Option aS} {ρ:List D} {a:Act} {w w':World} {G G':Gh} {g:Option (aK×Bool)} {o:Oper} {cf:Nat->List D->Option (List D)} {Q:Exit->Act->World->Prop} {next:Act->World->Prop}
theorem Kb3 {sz bytes:Nat}{fl:Bool}{x y:D}{ds:List D}(h:(aT.app sz bytes fl).run [x,y]=some ds) :
  ∃ ra rb,x=.rows sz ra/\y=.rows sz rb/\(fl=true->∀ r∈ra++rb,∀ d∈r,d.isSc=true)/\(ra.length+rb.length)*bytes<=eD/\ds=[.rows sz (ra++rb)]:=by
 cases x<;>cases y<;>simp only[aT.run]at h<;>first|cases h|skip
 rename_i s1 ra s2 rb;split at h
 ·rename_i h1
  obtain⟨rfl,rfl,h2,h3⟩:=h1;simp only[Option.some.injEq]at h;refine⟨ra,rb,rfl,rfl,fun hf=>?_,h3,h.symm⟩;rw[hf]at h2;simp only[Bool.not_true,Bool.false_or,Acd]at h2;exact fun r hr d hd=>h2 r hr d hd
 ·cases h
theorem XOk.ofRp {v:Value}{ra:List (List D)}{sz md r mr:Nat}{pq:List Nat}{updX:List (Nat×aS)}(h:Rp G.own w r pq md v (.rows sz ra))(h1:1<=md){X:aK}{k:Nat}(hk:σ (kR r)=some (.root X mr k .live))
  (hu:(pq=[]/\updX=[(kR r,.root (.c .hole) 0 0 .gone)])\/(∃ X',updX=[(kR r,.root X' mr (k+1) .live)]/\Upd pq (X.val ρ) .hole (X'.val ρ)/\zI G.own w r [] (G.hdr r) pq v/\pq.length<mr)) :
  ∃ A b n cap vs,XOk σ ρ G w v ra sz md updX (some (r,pq,mr)) A b n cap vs:=by
 obtain⟨m',rfl⟩:∃ m',md=m'+1:=⟨md-1,by omega⟩;obtain⟨A,b,n,c,vs,e1,e2,e3,e4,e5,e6,e7,e8⟩:=h.sl_inv;refine⟨A,b,n,c,vs,⟨e1,e2,e3,e5,e7⟩,?_,fun hA=>⟨r,pq,mr,rfl,(e6 hA).2.1⟩,fun hA=>(e6 hA).2.2,fun i row hi j d hj=>⟨r,pq,mr,rfl,e8 i row hi j d hj⟩,h1,.inr ⟨r,pq,mr,X,k,rfl,hk,hu⟩⟩
 rcases e4 with e4|e4
 ·exact .inl ⟨e4,(e6 e4).1⟩
 ·exact .inr e4
theorem Kb4 (hR:R E.ntmps F σ ρ a w G)(hd:fD E.ntmps o){nb nr nv:Nat}(hf:Dah σ nb nr){t tx e:TypeId}{ti:TI}{info:TypeInfo}{u u':TypeDesc}{x y:Operand}{args:Array Operand}{argTypes:Array TypeId}
  (ho:o.op=.call { callee:=.builtin .append,args,argTypes }) (eu:args.toList=[x,y]) (il:argTypes=#[t,tx]) (hu:P.underlying t=some (.slice e)) (f:cK P e ti info u) (hx:P.underlying tx=some u') (pN:∃ e',u'=.slice e')
  (hb0:0<ti.bytes) (hs0:0<ti.size) {ys:SlR} (lk:Ya4 σ ρ G w ys (a.eval y)) {dy:Nat} {gi:List (Nat×aS)} {ry:List Nat} (hY:(Uau (Oal ti.cells) ys).eval σ=some (dy,gi,ry))
  {sx:aK} {m:Nat} {pre:List Step} {updX:List (Nat×aS)} (aE:aN cf ρ none nv (pre++[.prim (.app ti.size ti.bytes (Oal ti.cells)) [sx,ys.x] 1]))
  (hXs:∀ ra,sx.val ρ=.rows ti.size ra->∃ src A b n cap vs,XOk σ ρ G w (a.eval x) ra ti.size m updX src A b n cap vs/\∀ r pq mr,src=some (r,pq,mr)->r∉ry\/Oal ti.cells=true) :
  o.wp P a w (Nx E.ntmps F σ ρ (dS o none (.one (.ex nr))++((kR nr,.root (.v (nv+bH pre)) (bif Oal ti.cells then big else min m dy) 0 .live)::updX++gi))) Q:=by
 obtain⟨-,mj⟩:=aN.append aE;obtain⟨d,h1,h2⟩:=Ba5 mj.1 (show gOn ρ none=true from rfl);simp only[Acg,Acm]at h1;obtain⟨ra,rb,e1,e2,e3,e4,e5⟩:=Kb3 h1;simp only[List.cons.injEq,and_true]at e5;obtain⟨src,A,b,n,cap,vs,hX,n5⟩:=hXs ra e1;obtain⟨k9,mg,hYo⟩:=Rb7 hR lk e2 (fun fR r hr d hd=>e3 fR r (Zbs _ hr) d hd) hY;obtain⟨By,by',n',mo,tW,q9,hYb,hYc⟩:=hYo.side;have lp:(lT vs n ti.size).length=n*ti.size:=nY _ _ _;have je:(lT tW n' ti.size).length=n'*ti.size:=nY _ _ _;have vo:=Dav hX.side.rows hX.side.cell;have qz:=Dav q9.rows q9.cell;rw[hX.side.len]at vo;rw[q9.len]at qz
 have a2b:∀ u∈lT tW n' ti.size,u.oneCell'=true:=by
  intro u hu;obtain⟨k,hk⟩:=List.mem_iff_getElem?.1 hu;obtain⟨k1,k2,k3,rfl⟩:=Ean hk;have hr:rb[k / ti.size]?=some (rb[k / ti.size]'(by rw[q9.len];exact k1)):=Zbq _;have qo:=q9.rows _ (Zb4 hr);have mA:(rb[k / ti.size]'(by rw[q9.len];exact k1))[k % ti.size]?=some _:=Zbq (by rw[qo];exact k2)
  rcases hYc _ _ hr _ _ mA with h|⟨_,_,_,h⟩|⟨_,h⟩
  ·exact h.one
  ·exact h.one
  ·exact h.one
 have hM1:1<=(bif Oal ti.cells then big else min m dy):=by
  have:=hX.m;have:=hYo.dy
  cases Oal ti.cells with
  |true=>simp only[cond_true];unfold big;omega
  |false=>simp only[cond_false];omega
 have hM:Oal ti.cells=false->(bif Oal ti.cells then big else min m dy)<=m/\(bif Oal ti.cells then big else min m dy)<=dy:=fun h=>by
  rw[h,cond_false];omega
 have zv:(aK.v (nv+bH pre)).val ρ=.rows ti.size (ra++rb):=h2.trans e5;obtain⟨v,w1,A',cb,ij,grow,bh,hA⟩:=Ma1 (P:=P) (w:=w) (G:=G) (a:=a) (o:=o) ho eu il hu f hx pN (A:=A) (n:=n) (cap:=cap) (n':=n') (b:=b) (olds:=lT vs n ti.size) (news:=lT tW n' ti.size) hX.side.val hX.side.le hX.base lp vo hX.all q9.val hYb je qz a2b hb0 hs0 (by rw[<- hX.side.len,<- q9.len];exact e4);exact nK bh (Ibg hR hd hf hX hYo q9 hYc hA e3 hM1 hM n5 zv)
theorem Pal (hR:R E.ntmps F σ ρ a w G)(hd:fD E.ntmps o)(hti:vJ P E.ti){nv nb nr:Nat}{mv dq:Bool}(hf:Dah σ nb nr){args:Array Operand}{argTypes:Array TypeId}(ho:o.op=.call { callee:=.builtin .append,args,argTypes })
    {x y:Operand} (eu:args.toList=[x,y]) {t ty:TypeId} {ti ei yi:TI} {e:Nat} (ht:argTypes[0]?=some t) (hty:argTypes[1]?=some ty) (hi:E.ti t=some ti) (he:ti.elem=some e) (vj:E.ti e=some ei) (hyi:E.ti ty=some yi)
    (fX:(yi.elem.isSome&&Ac8 0 ei.size&&noG g&&Ac8 0 ei.bytes&&Nat.beq argTypes.size 2)=true) {lx ly:aR} (h1:(rdL E g t x).eval σ=some lx) (h2:(rdL E g ty y).eval σ=some ly) {res:bN}
    (h:(Maj nv nr mv dq o ei lx ly).eval σ=some res) (aE:aN cf ρ g nv res.lets):gT P E F σ ρ a w g o Q res.upd:=by
  simp only[Zbo,Acw,Acj]at fX;obtain⟨⟨⟨⟨a5b,df⟩,y5⟩,zl⟩,p4⟩:=fX;obtain rfl:=wK y5;refine⟨fun hg=>?_,fun hg=>by simp[gOn]at hg⟩
  have il:argTypes=#[t,ty]:=by
    apply Dce;apply Cch;intro k
    match k with
    |0=>simpa using ht
    |1=>simpa using hty
    |k+2=>simp[p4]
  obtain⟨i1,u1,f1⟩:=aX (hti.ok _ _ hi);obtain rfl:=qP f1 he;obtain⟨i2,u2,f2⟩:=aX (hti.ok _ _ vj);obtain⟨i3,u3,f3⟩:=aX (hti.ok _ _ hyi);have hu3:=Ia5 f3 a5b;have xq:=fG hR hg h1;have hly:=fG hR hg h2;simp only[Maj,aA,Zbn]at h;obtain⟨ys,h3,⟨dy,gi,ry⟩,h4,h⟩:=h;have lk:=dU hR h3 hly
  have fin:∀ {sx:aK} {m:Nat} {pre:List Step} {updX:List (Nat×aS)},(xW nv nr o ei ys dy gi sx m pre updX).eval σ=some res ->
      (aN cf ρ none nv pre->∀ ra,sx.val ρ=.rows ei.size ra->∃ src A b n cap vs,XOk σ ρ G w (a.eval x) ra ei.size m updX src A b n cap vs/\∀ r pq mr,src=some (r,pq,mr)->r∉ry\/Oal ei.cells=true) ->
      o.wp P a w (Nx E.ntmps F σ ρ res.upd) Q:=by
    intro sx m pre updX eI hXs;simp only[xW,tV,aF,Option.some.injEq]at eI;subst eI;simp only[Far];exact Kb4 hR hd hf ho eu il f1.und f2 f3.und hu3 zl df lk h4 aE (hXs (aN.append aE).1)
  dsimp only at h;split at h
  · rename_i p z
    refine fin h fun _ ra yp=>?_
    simp only[aK.val,D.rows.injEq]at yp;obtain⟨rfl,rfl⟩:=yp;simp only[aB]at xq;have hv:=(xq.2 (by simp)).2.1 trivial _ rfl;exact⟨none,none,⟨0,0,none⟩,0,0,fun _ _=>undef,⟨⟨hv,rfl,Zb2 _,by simp,by simp⟩,.inr ⟨rfl,rfl⟩,by simp,by simp,by simp,by decide,.inl ⟨rfl,rfl⟩⟩,by simp⟩
  · simp only[aA,Zbn]at h
    obtain⟨s,h5,h⟩:=h;have hs:=dU hR h5 xq;split at h
    · rename_i r k m q az
      simp only[aA,aJ,Zbn]at h;obtain⟨_,h6,h⟩:=h;split at h6
      case isFalse=>cases h6
      rename_i hb6;simp only[Zbo,Bool.or_eq_true,Ach,Ac2]at hb6;have oe:=hs.own;unfold vF at oe;rw[az]at oe;obtain⟨-,⟨X,hk⟩,oe⟩:=oe;have n5:r∉ry\/Oal ei.cells=true:=hb6.1.imp (fun h=>Aaq.1 h) id;split at h
      · refine fin h fun _ ra yp=>?_
        obtain⟨-,fg,-⟩:=oe;simp only[bB,Acm,List.length_nil,Nat.sub_zero]at fg;rw[yp]at fg;obtain⟨A,b,n,cap,vs,hX⟩:=XOk.ofRp (ρ:=ρ) fg hb6.2 hk (updX:=[(kR r,.root (.c .hole) 0 0 .gone)]) (.inl ⟨rfl,rfl⟩)
        exact ⟨_, A, b, n, cap, vs, hX, fun r' pq mr e => by obtain rfl : r = r' := by injection e with e; injection e
                                                             exact n5⟩
      · rw[gW]at h
        split at h
        · refine fin h fun _ ra yp=>?_
          have fg:Rp G.own w r [] m (a.eval x) (s.x.val ρ):=oe;rw[yp]at fg;obtain⟨A,b,n,cap,vs,hX⟩:=XOk.ofRp (ρ:=ρ) fg hb6.2 hk (updX:=[(kR r,.root (.c .hole) 0 0 .gone)]) (.inl ⟨rfl,rfl⟩)
          exact ⟨_, A, b, n, cap, vs, hX, fun r' pq mr e => by obtain rfl : r = r' := by injection e with e; injection e
                                                               exact n5⟩
        · cases h
      · rename_i q cL
        simp only[aA,aJ,Zbn,aU,Zbv]at h;obtain⟨_,h7,h⟩:=h;split at h7
        case isFalse=>cases h7
        rename_i uj;simp only[Zbo,Ac2,Ach]at uj;rw[hk]at h;dsimp only at h;refine fin h fun cN ra yp=>?_
        obtain⟨hqm,fg,kO⟩:=oe;rw[yp]at fg;have nF:=Ba6 hg q nv X (.c .hole) cN;obtain⟨A,b,n,cap,vs,hX⟩:=XOk.ofRp (ρ:=ρ) fg (by omega) hk (.inr ⟨_,rfl,nF,kO,by simp[bB];omega⟩)
        exact ⟨_, A, b, n, cap, vs, hX, fun r' pq mr e => by obtain rfl : r = r' := by injection e with e; injection e
                                                             exact n5⟩
      · cases h
      · cases h
    · cases h
end
section
variable {P:Program} {E:Env} {F:bG} {n:Nat} {σ:Nat->Option aS} {ρ:List D} {a:Act} {w w':World} {G G':Gh} {g:Option (aK×Bool)} {o:Oper} {cf:Nat->List D->Option (List D)} {Q:Exit->Act->World->Prop} {next:Act->World->Prop}
theorem Kak:∀ {cs:List CK} {zs:List D},Kal cs=some zs->zs.length=cs.length/\∀ (j:Nat) (c:CK) (d:D),cs[j]?=some c->zs[j]?=some d->∀ (v:Value),zeroCell v c=true->∀ (own:Nat->Ow) (r:Nat) (p:List Nat) (m:Nat),Rp own w r p m v d
 | [], zs, h => by
  simp only[Kal,Option.some.injEq]at h;subst h;simp
 | c :: cs, zs, h => by
  have main:∀ (d0:D),(Kal cs).map (d0::·)=some zs->(∀ v,zeroCell v c=true->∀ (own:Nat->Ow) (r:Nat) (p:List Nat) (m:Nat),Rp own w r p m v d0) ->
    zs.length=(c::cs).length/\∀ (j:Nat) (c':CK) (d:D),(c::cs)[j]?=some c'->zs[j]?=some d->∀ (v:Value),zeroCell v c'=true->∀ (own:Nat->Ow) (r:Nat) (p:List Nat) (m:Nat),Rp own w r p m v d:=by
   intro d0 h0 hd0;simp only[Zbz]at h0;obtain⟨zs',h1,rfl⟩:=h0;obtain⟨h2,h3⟩:=Kak h1;refine⟨by simp[h2],fun j c' d hc hd v hv own r p m=>?_⟩
   cases j with
   | zero =>
    simp only[Zbw,Option.some.injEq]at hc hd;subst hc hd;exact hd0 v hv own r p m
   |succ j=>exact h3 j c' d (by simpa using hc) (by simpa using hd) v hv own r p m
  have hz:∀ v,zeroCell v c=true->aB (fun _=>none) [] ⟨fun _=>.frz,fun _=>undef,fun _=>⟨0,0,none⟩⟩ w (fH c) v:=fun v hv=>Mae hv
  cases c with
  | sc z =>
   refine main z h fun v hv own r p m=>?_
   have:=hz v hv;simp only[fH,aB,aK.val]at this;exact .sc this
  | sl sz =>
   refine main (.rows sz []) h fun v hv own r p m=>?_
   have:=hz v hv;simp only[fH,aB,aK.val]at this;rw[(this.2 (by simp)).2.1 trivial sz rfl];exact Rp.nil
  |pn=>cases h
  |ot=>cases h
theorem Hag (hR:R E.ntmps F σ ρ a w G)(hd:fD E.ntmps o)(hti:vJ P E.ti){nv nb nr:Nat}{mv dq:Bool}(hf:Dah σ nb nr){t:TypeId}{l c:Operand}(ho:o.op=.makeSlice t l c){res:bN}
  (h:(qD E mv dq nv nb nr g o).eval σ=some res) (aE:aN cf ρ g nv res.lets):gT P E F σ ρ a w g o Q res.upd:=by
 simp only[qD,ho,aA,Zbn,tiR,aW,aJ]at h;obtain⟨st,h1,e,h2,ti,h3,_,h4,xl,h5,xc,h6,_,h7,zs,h8,h⟩:=h;split at h4
 case isFalse=>cases h4
 rename_i y5;obtain rfl:=wK y5;split at h7
 case isFalse=>cases h7
 rename_i uj;simp only[Zbo,Acw]at uj;obtain⟨⟨hxx,df⟩,zl⟩:=uj;obtain rfl:=aK.beq0_eq hxx;obtain⟨info,u,f⟩:=aX (hti.ok _ _ h1);obtain rfl:=qP f h2;obtain⟨ir,u',f'⟩:=aX (hti.ok _ _ h3);simp only[tV,aF,Option.some.injEq]at h;subst h;simp only[Far];refine⟨fun hg=>?_,fun hg=>by simp[gOn]at hg⟩;obtain⟨d,fx,qd⟩:=fP aE hg;have hl:=jG hR hg h5;have hc:=jG hR hg h6;simp only[Acg,Acm]at fx;generalize hxv:xl.val ρ=xv at fx hl hc;cases xv<;>simp only[aT.run]at fx<;>first|cases fx|skip
 rename_i k len;split at fx
 case isFalse=>cases fx
 rename_i hlen;obtain⟨h0,hbound⟩:=hlen;simp only[Option.some.injEq,List.cons.injEq,and_true]at fx;obtain⟨z,na,p5,-,hz3⟩:=f'.zeros (σ:=σ) (ρ:=ρ) (G:=G) (w:=w);obtain⟨zz,vg⟩:=Kak (w:=pushB w (madeCells z.cells (len.toNat*ir.size)) e) h8;have hL:=f'.len;have uo:z.cells.size=ti.size:=by rw[<- Cca,p5.len,Zb3,hL]
 have hlt:len.toNat*1<=len.toNat*ti.bytes:=Nat.mul_le_mul_left _ zl;unfold eD at hbound
 have bh:(execOp a.eval o).run P w=.ok (.value (.slice (some ⟨w.heap.size,0,none⟩) len.toNat len.toNat)) (pushB w (madeCells z.cells (len.toNat*ir.size)) e):=by
  unfold execOp;simp only[ho];refine fM ?_;rw[hl.int_inv,hc.int_inv]
  have qc:(ir.bytes:Int)*len<=281474976710656:=by
   rw[<- f'.bytes];have:((ti.bytes*len.toNat:Nat):Int)<=281474976710656:=by rw[Cc0]at hbound;omega
   rw[Int.natCast_mul]at this;rwa[show ((len.toNat:Nat):Int)=len by omega]at this
  exact run_make w t e ir z f.und f'.info_ na k k len len h0 (Int.le_refl _) qc (by omega)
 have iS:σ (kR nr)=none:=hf.nr nr (Zb2 _) (by unfold bU;omega);have l8:∀ r,(σ (kR r)).isSome->r≠nr:=fun r hr e=>by rw[e,iS]at hr;cases hr
 have mz:∀ b,G.own b≠.frz->b<w.heap.size:=fun b hb=>by
  rcases Aca b w.heap.size with h|h
  ·exact h
  ·exact absurd (hR.frame.fresh b h) hb
 refine nK bh ⟨{ G with own:=fun b=>if b=w.heap.size then .slc nr [] else G.own b,hdr:=fun r=>if r=nr then .slice (some ⟨w.heap.size,0,none⟩) len.toNat len.toNat else G.hdr r },?_⟩;refine hR.own hd (wr:=fun _=>False) (f:=fun s p=>.slc s p) ?_ ?_ ?_ ?_ ?_ (fun b hlt _=>lL (by omega)) (fun _ h=>h.elim) (fun _ _ _ _ _=>rfl) ?_ (fun _ _ _ _ _ s p q h=>by injection h with h1 h2;exact⟨h1,h2⟩) ?_ rfl ?_ ?_
 ·intro k c hc
  simp only[Zb0,Prod.mk.injEq]at hc;exact⟨nr,hc.1⟩
 ·intro b hlt
  show (if b=w.heap.size then Ow.slc nr [] else _)=_
  rw[if_neg (by omega)];cases hb:G.own b<;>rfl
 ·intro b hb
  rw[kX]at hb;show (if b=w.heap.size then Ow.slc nr [] else G.own b)=.frz
  rw[if_neg (by omega)];exact hR.frame.fresh b (by omega)
 ·exact⟨rfl,rfl,rfl,by rw[kX];omega⟩
 ·intro b hb
  show (if b=w.heap.size then Ow.slc nr [] else G.own b)=.frz\/∃ r p,(if b=w.heap.size then Ow.slc nr [] else G.own b)=.slc r p/\_
  by_cases e:b=w.heap.size
  ·rw[if_pos e];exact .inr ⟨nr,[],rfl,iS⟩
  ·rw[if_neg e];exact .inl (hR.frame.fresh b hb)
 ·intro s c hc _
  simp only[Zb0,Prod.mk.injEq]at hc;obtain⟨e1,rfl⟩:=hc;obtain rfl:=eT e1;exact .inl ⟨iS,_,_,_,_,rfl⟩
 ·intro r hr
  show (if r=nr then _ else _)=_
  rw[if_neg (l8 r hr)]
 ·intro _ _
  simp only[bY,aB,if_true];exact⟨trivial,dX _ _ _ (.inr ⟨_,Zbs _ (List.mem_singleton.2 rfl)⟩),rfl⟩
 ·intro _ s c hc _
  simp only[Zb0,Prod.mk.injEq]at hc;obtain⟨e1,rfl⟩:=hc;obtain rfl:=eT e1;refine⟨_,_,_,_,rfl,?_⟩;simp only[bP,if_true];rw[qd,<- fx];have ql:zs.length=ti.size:=by rw[zz,hL]
  have mN:∀ k,k<len.toNat*ti.size->(madeCells z.cells (len.toNat*ir.size))[k]?=z.cells[k % ti.size]?:=by
   intro k hk;unfold madeCells;rw[Ibu _ (by omega) _ _ (by rw[<- f'.size];exact hk),uo]
  have ka:∀ i row,(Zb6 len.toNat zs)[i]?=some row->∀ j d,row[j]?=some d->i<len.toNat/\row=zs/\j<ti.size/\i*ti.size+j<len.toNat*ti.size/\(i*ti.size+j) % ti.size=j:=by
   intro i row hi j d hj;rw[List.getElem?_replicate]at hi;split at hi
   case isFalse=>cases hi
   rename_i lg;obtain rfl:=Option.some.inj hi;have kg:j<ti.size:=by rw[<- ql];exact (List.getElem?_eq_some_iff.1 hj).1
   have:=Nat.mul_le_mul_right ti.size (show i+1<=len.toNat by omega);rw[Nat.add_mul]at this;exact⟨lg,rfl,kg,by omega,by rw[Cc0,Nat.mul_add_mod,Nat.mod_eq_of_lt kg]⟩
  refine .sl _ ⟨w.heap.size,0,none⟩ len.toNat len.toNat zs.length _ (fun i j=>z.cells[j]!) (by simp) (Zb2 _) (.inl rfl) (fun row hr=>?_) (fun _=>⟨rfl,by simp,fun k hk=>?_⟩) (fun i row hi j d hj=>?_) (fun i row hi j d hj=>?_)
  ·rw[List.eq_of_mem_replicate hr]
  ·rw[ql]at hk
   rw[nX,wE,mN k hk];have u5:k % ti.size<z.cells.size:=by rw[uo];exact Nat.mod_lt _ df
   exact⟨_,Acr u5,rfl⟩
  ·obtain⟨i1,rfl,i3,i4,i5⟩:=ka i row hi j d hj
   rw[nX,ql,mN _ i4,i5,getElem!_pos z.cells j (by omega),Acr]
  ·obtain⟨i1,rfl,i3,i4,i5⟩:=ka i row hi j d hj
   have gy:ti.cells[j]?=some ti.cells[j]:=Zbq (by omega);exact vg j _ d gy hj _ (hz3 j _ _ (by rw[getElem!_pos z.cells j (by omega),Acr]) gy) _ _ _ _
theorem Say (hR:R E.ntmps F σ ρ a w G)(hd:fD E.ntmps o)(hti:vJ P E.ti){nv:Nat}{args:Array Operand}{argTypes:Array TypeId}(ho:o.op=.call { callee:=.builtin .clear,args,argTypes })
  {x:Operand} (eu:args.toList=[x]) {t e:TypeId} {ti ei:TI} (ht:argTypes[0]?=some t) (hi:E.ti t=some ti) (he:ti.elem=some e) (vj:E.ti e=some ei) (fX:(noG g&&Nat.beq argTypes.size 1)=true) {l:aR} (hl:(rdL E g t x).eval σ=some l) {res:bN}
  (h:(Saq nv o ei l).eval σ=some res) (aE:aN cf ρ g nv res.lets):gT P E F σ ρ a w g o Q res.upd:=by
 simp only[Zbo,Acj]at fX;obtain rfl:=wK fX.1
 have il:argTypes=#[t]:=by
  apply Dce;apply Cch;intro k
  match k with
  |0=>simpa using ht
  |k+1=>simp[fX.2]
 simp only[Saq,aA,Zbn]at h;obtain⟨s,h1,h⟩:=h;split at h
 case h_2=>cases h
 rename_i r k m sz lo az;simp only[aA,aJ,Zbn,aU,Zbv]at h;obtain⟨_,h2,h⟩:=h;split at h2
 case isFalse=>cases h2
 rename_i hb;simp only[Zbo,Acj,Ac2]at hb;obtain⟨⟨rfl,a6b⟩,oS⟩:=hb;split at h
 case h_2=>cases h
 rename_i X m' bc hk;simp only[aF,Option.some.injEq]at h;subst h;refine⟨fun hg=>?_,fun hg=>by simp[gOn]at hg⟩;obtain⟨i1,u1,f1⟩:=aX (hti.ok _ _ hi);obtain rfl:=qP f1 he;obtain⟨i2,u2,f2⟩:=aX (hti.ok _ _ vj);have xq:=fG hR hg hl;have gw:=dU hR h1 xq;have oe:=gw.own;unfold vF at oe;rw[az]at oe;obtain⟨-,⟨X0,ni⟩,hsuf⟩:=oe;rw[hk]at ni
 obtain⟨rfl,rfl,rfl⟩:X=X0/\m'=m/\bc=k:=by
  injection ni with e;injection e with e1 e2 e3 e4;exact⟨e1,e2,e3⟩
 have eV:=hR.root hk;simp only[bP]at eV;obtain⟨d,fx,qd⟩:=fP aE hg;simp only[Acg,Acm]at fx
 obtain⟨rs,ki,L,eX,eL,hL0,ed⟩:∃ rs ki L,X.val ρ=.rows 1 rs/\lo.val ρ=.int ki L/\0<=L/\d=.rows 1 (rs.take L.toNat++(rs.drop L.toNat).map fun r=>r.map fun _=>.hole):=by
  cases eX:X.val ρ<;>cases eL:lo.val ρ<;>rw[eX,eL]at fx<;>simp only[aT.run]at fx<;>first|cases fx|skip
  split at fx
  ·rename_i hc
   obtain⟨rfl,hc⟩:=hc;simp only[Option.some.injEq,List.cons.injEq,and_true]at fx;exact⟨_,_,_,rfl,rfl,hc,fx.symm⟩
  ·cases fx
 have ka:kY ρ lo=L.toNat:=by unfold kY;rw[eL]
 dsimp only at hsuf;rw[ka]at hsuf;rw[eX]at eV;obtain⟨md,rfl⟩:∃ md,m'=md+1:=⟨m'-1,by omega⟩;obtain⟨A,b,n,c,vs,j1,j2,j3,j4,j5,j6,j7,j8⟩:=eV.sl_inv;obtain⟨A',n',c',k1,k2,k3⟩:=hsuf;rw[j1]at k1;obtain⟨rfl,rfl,rfl⟩:A=A'/\n=n'/\c=c':=by injection k1 with a b c;exact⟨a,b,c⟩
 obtain⟨z,na,p5,hz3,-⟩:=f2.zeros (σ:=σ) (ρ:=ρ) (G:=G) (w:=w);have zz:z.cells.size=1:=by rw[<- Cca,p5.len,Zb3,f2.len,a6b]
 generalize hZ:(Builtin.zeroCells z.cells (n-L.toNat)).toList=Z;have hZl:Z.length=n-L.toNat:=by rw[<- hZ];simp[Builtin.zeroCells,zz]
 have hZ1:∀ u∈Z,u.oneCell'=true:=by
  intro u hu;rw[<- hZ,Builtin.zeroCells,Array.mem_toList_iff,Array.mem_map]at hu;obtain⟨i,hi,rfl⟩:=hu;have hlt:i % z.cells.size<z.cells.size:=Nat.mod_lt _ (by omega);rw[getElem!_pos z.cells _ hlt];exact hz3 _ (Array.getElem_mem_toList hlt)
 have kb:∀ {v:Value} {w1:World},(Builtin.clear_ #[t] o.type #[a.eval x]).run P w=.ok v w1->(execOp a.eval o).run P w=.ok (.value v) w1:=by
  intro v w1 h;refine mE ho (s:=Builtin.clear_ argTypes o.type (args.map a.eval)) (fun _=>rfl) ?_;rw[Oaa eu,Taf,il];exact h
 rw[k3]at kb
 obtain⟨w',bh,hw⟩:∃ w',(execOp a.eval o).run P w=.ok (.value (.tuple #[])) w'/\((n=L.toNat/\w'=w)\/(L.toNat<n/\A=some b/\w'=w.setCells b.block (b.off+L.toNat) Z)):=by
  rcases Aca L.toNat n with hlt|lB
  ·obtain rfl:A=some b:=by
    rcases j4 with h|⟨-,h⟩
    ·exact h
    ·omega
   obtain⟨jd,mC,cP⟩:=j6 rfl
   have cG:∀ j,j<Z.length->∃ u,w.cell? ⟨b.block,b.off+L.toNat+j,none⟩=some u/\w.frozen? ⟨b.block,b.off+L.toNat+j,none⟩=false:=fun j hj=>by
    have:=cP (L.toNat+j) (by omega);rw[add_plain jd,<- Acb]at this;exact this
   have aE:=run_storeCells_cells (P:=P) b.block (b.off+L.toNat) Z 0 w (fun j hj=>by obtain⟨u,h1,-⟩:=cG j hj;rw[Ack,h1];rfl) (fun j hj=>by rw[Ack];exact (cG j hj).choose_spec.2) hZ1;refine⟨_,kb ?_,.inr ⟨hlt,rfl,rfl⟩⟩;obtain⟨q,hq⟩:∃ q,n-L.toNat=q+1:=⟨n-L.toNat-1,by omega⟩;rw[if_neg (by omega),hq];rw[hq]at hZ;simp only[Option.map_some,Nat.mul_one,add_plain jd];simp only[Ack]at aE;simp[Builtin.clear_,run_underlying f1.und,lK f2.info_ na,hZ,aE]
  ·refine⟨w,kb ?_,.inl ⟨by omega,rfl⟩⟩
   have e0:n-L.toNat=0:=by omega
   rw[e0];simp only[Builtin.clear_];cases (if c=L.toNat then A else A.map (·.add (L.toNat*1)))<;>simp[run_underlying f1.und]
 have ma:w'.os=w.os/\w'.tape=w.tape/\w'.output=w.output/\w.heap.size<=w'.heap.size:=by
  rcases hw with ⟨-,rfl⟩|⟨-,-,rfl⟩
  ·exact⟨rfl,rfl,rfl,Zb2 _⟩
  ·obtain⟨q1,q2,q3⟩:=iK b.block Z (b.off+L.toNat) w
   exact⟨q1,q2,q3,by rw[setCells_size];exact Zb2 _⟩
 have p4:w'.heap.size=w.heap.size:=by
  rcases hw with ⟨-,rfl⟩|⟨-,-,rfl⟩
  ·rfl
  ·rw[setCells_size]
 have b7:∀ b',¬ (A=some b/\b'=b.block)->w'.heap[b']?=w.heap[b']?:=by
  intro b' de
  rcases hw with ⟨-,rfl⟩|⟨-,hA,rfl⟩
  ·rfl
  ·exact dB _ _ _ _ _ fun e=>de ⟨hA,e⟩
 refine nK bh ⟨G,?_⟩
 have eI:=hR.own (o:=o) hd (g:=none) (sv:=.dead) (v:=.tuple #[]) (w':=w') (G':=G) (ur:=[(kR r,.root (.v nv) (md+1) (bc+1) .live)]) (f:=fun s p=>.slc s p) (wr:=fun b'=>A=some b/\b'=b.block)
  ?_ (fun b' _=>by cases hb:G.own b'<;>rfl) (fun b' hb=>hR.frame.fresh b' (by omega)) ma (fun b' hb=>.inl (hR.frame.fresh b' hb)) (fun b' _ hb=>b7 b' hb) ?_ (fun _ _ _ _ _=>rfl) ?_ (fun _ _ _ _ _ s p q h=>by injection h with h1 h2;exact⟨h1,h2⟩) (fun _ _=>rfl) rfl (fun _ _=>trivial) ?_
 ·exact eI
 ·intro k' c' hc
  exact⟨r,(Prod.mk.inj (List.mem_singleton.1 hc)).1⟩
 ·rintro b' ⟨hA,rfl⟩
  exact⟨r,[],(j6 hA).2.1,_,List.mem_singleton.2 rfl⟩
 ·intro s' c' hc _
  obtain⟨e1,rfl⟩:=Prod.mk.inj (List.mem_singleton.1 hc);obtain rfl:=eT e1;exact .inr (.inl ⟨_,_,_,_,_,hk,rfl⟩)
 ·intro _ s' c' hc _
  obtain⟨e1,rfl⟩:=Prod.mk.inj (List.mem_singleton.1 hc);obtain rfl:=eT e1;refine⟨_,_,_,_,rfl,?_⟩;simp only[bP];rw[qd,ed,j1]
  have ia:∀ k u,w.cell? (b.add k)=some u->A=some b->(k<L.toNat->w'.cell? (b.add k)=some u)/\(∃ u',w'.cell? (b.add k)=some u')/\w'.frozen? (b.add k)=w.frozen? (b.add k):=by
   intro k u hc hA;obtain⟨jd,mC,cP⟩:=j6 hA
   rcases hw with ⟨-,rfl⟩|⟨hlt,-,rfl⟩
   ·exact⟨fun _=>hc,⟨u,hc⟩,rfl⟩
   ·refine⟨fun hk=>?_,?_,World.frozen?_setCells _ _ _ _ _⟩
    ·rw[add_plain jd]at hc ⊢
     rw[World.cell?_setCells_out _ _ _ _ _ (fun _ _=>.inl (by dsimp only;omega))];exact hc
    ·exact jV (fun _=>by rw[add_plain jd]) (fun j hj=>by
      obtain⟨u',h1,-⟩:=cP (L.toNat+j) (by omega);rw[add_plain jd,<- Acb]at h1;rw[h1];rfl) hc
  have yd:∀ i,i<n->A=some b:=fun i hi=>by
   rcases j4 with h|⟨-,h⟩
   ·exact h
   ·omega
  have fL:∀ i row,(rs.take L.toNat++(rs.drop L.toNat).map fun r=>r.map fun _=>D.hole)[i]?=some row->(i<L.toNat/\rs[i]?=some row)\/(L.toNat<=i/\∃ row0,rs[i]?=some row0/\row=row0.map fun _=>D.hole):=by
   intro i row hi;have lp:(rs.take L.toNat).length=L.toNat:=by rw[Aci];omega
   rcases Aca i L.toNat with hlt|lB
   ·rw[Zb9 (by omega),List.getElem?_take,if_pos hlt]at hi
    exact .inl ⟨hlt,hi⟩
   ·rw[Zb8 (by omega),lp,Ace,Zbz]at hi
    obtain⟨row0,h1,rfl⟩:=hi;rw[List.getElem?_drop,show L.toNat+(i-L.toNat)=i by omega]at h1;exact .inr ⟨lB,row0,h1,rfl⟩
  refine .sl A b n c 1 _ (fun i j=>if i<L.toNat then vs i j else (w'.cell? (b.add (i*1+j))).getD undef) ?_ j3 j4 ?_ (fun hA=>?_) (fun i row hi j d hj=>?_) (fun i row hi j d hj=>?_)
  ·rw[Zbt,Aci,Zb3,List.length_drop];omega
  ·intro row hr
   obtain⟨i,hi⟩:=List.mem_iff_getElem?.1 hr
   rcases fL i row hi with ⟨-,h⟩|⟨-,row0,h,rfl⟩
   ·exact j5 row (Zb4 h)
   ·rw[Zb3];exact j5 row0 (Zb4 h)
  ·obtain⟨jd,mC,cP⟩:=j6 hA
   refine⟨jd,mC,fun k hk=>?_⟩;obtain⟨u,hu,hf⟩:=cP k hk;obtain⟨-,⟨u',h1⟩,h2⟩:=ia k u hu hA;exact⟨u',h1,h2.trans hf⟩
  ·rcases fL i row hi with ⟨hlt,h⟩|⟨lB,row0,h,rfl⟩
   ·rw[if_pos hlt]
    have kg:j<1:=by rw[<- j5 row (Zb4 h)];exact (List.getElem?_eq_some_iff.1 hj).1
    exact (ia _ _ (j7 i row h j d hj) (yd i (by rw[<- j2];exact (List.getElem?_eq_some_iff.1 h).1))).1 (by omega)
   ·rw[if_neg (by omega)]
    rw[Ace,Zbz]at hj;obtain⟨d0,hj,-⟩:=hj;obtain⟨-,⟨u',h1⟩,-⟩:=ia _ _ (j7 i row0 h j d0 hj) (yd i (by rw[<- j2];exact (List.getElem?_eq_some_iff.1 h).1));rw[h1];rfl
  ·rcases fL i row hi with ⟨hlt,h⟩|⟨lB,row0,h,rfl⟩
   ·rw[if_pos hlt]
    have h1:=j8 i row h j d hj;have:=h1.mono' (own':=G.own) (w':=w') (r':=s') (q:=[i*1+j]) (q':=[i*1+j]) (fun b' hb _=>⟨hb,b7 b' fun ⟨hA,e⟩=>by rw[e,(j6 hA).2.1]at hb;cases hb⟩) [] (by simp) (fun b' t' hb=>⟨hb,b7 b' fun ⟨hA,e⟩=>by rw[e,(j6 hA).2.1]at hb;injection hb with _ hb;simp at hb⟩);simpa using this
   ·rw[if_neg (by omega)]
    rw[Ace,Zbz]at hj;obtain⟨d0,hj,rfl⟩:=hj;refine .hole _ ?_;have lg:i<n:=by rw[<- j2];exact (List.getElem?_eq_some_iff.1 h).1
    have hA:=yd i lg
    rcases hw with ⟨hn,-⟩|⟨hlt,-,rfl⟩
    ·omega
    ·obtain⟨jd,mC,cP⟩:=j6 hA
     have kg:j<1:=by rw[<- j5 row0 (Zb4 h)];exact (List.getElem?_eq_some_iff.1 hj).1
     have qq:i-L.toNat<Z.length:=by omega
     have:=World.cell?_setCells_in b.block Z (b.off+L.toNat) w (fun j hj=>by obtain⟨u,h1,-⟩:=cP (L.toNat+j) (by omega);rw[add_plain jd,<- Acb]at h1;rw[h1];rfl) (i-L.toNat) qq;rw[show b.off+L.toNat+(i-L.toNat)=b.off+(i*1+j) by omega]at this;rw[add_plain jd,this];exact hZ1 _ (List.getElem_mem qq)
end
section
variable {P:Program} {E:Env} {F:bG} {n:Nat} {σ:Nat->Option aS} {ρ:List D} {a:Act} {w w':World} {G G':Gh} {g:Option (aK×Bool)} {o:Oper} {cf:Nat->List D->Option (List D)} {Q:Exit->Act->World->Prop} {next:Act->World->Prop}
theorem Haf (hR:R E.ntmps F σ ρ a w G)(hti:vJ P E.ti){nv nb nr:Nat}{mv dq:Bool}{t:TypeId}{x y:Operand}(ho:o.op=.store t x y){res:bN}
  (h:(qD E mv dq nv nb nr g o).eval σ=some res) (aE:aN cf ρ g nv res.lets):gT P E F σ ρ a w g o Q res.upd:=by
 simp only[qD,ho,aA,Zbn,tiR,aW]at h;obtain⟨ti,h1,p,h2,sv,h3,h⟩:=h;split at h
 case h_2=>cases h
 rename_i ls s4;have hx:gOn ρ g=true->aB σ ρ G w p (a.eval x):=fun hg=>fG hR hg h2
 have hy:gOn ρ g=true->bY σ ρ G w sv (a.eval y):=fun hg=>fV hR hg h3
 cases p with
 |px b off=>exact Ja4 hR hti ho h1 hx hy s4 h
 |pe l sz i off=>exact Ja5 hR hti ho h1 hx hy s4 h aE
 | _ =>
  simp only[Dao,aA,aJ,Zbn,bO]at h;obtain⟨_,_,h⟩:=h;cases h
theorem Gae (hR:R E.ntmps F σ ρ a w G)(hd:fD E.ntmps o)(hti:vJ P E.ti){nv nb nr:Nat}{mv dq:Bool}(hf:Dah σ nb nr){res:bN}
  (h:(qD E mv dq nv nb nr g o).eval σ=some res) (aE:aN cf ρ g nv res.lets)
  (iz:∀ f args argTypes,o.op=.call { callee:=.value f,args,argTypes }->gT P E F σ ρ a w g o Q res.upd):gT P E F σ ρ a w g o Q res.upd:=by
 have h0:=h
 cases ho:o.op with
 | move x =>
  simp only[qD,ho]at h;exact Kay hR hd (.inl ho) h aE
 | assign x =>
  simp only[qD,ho]at h;exact Kay hR hd (.inr ho) h aE
 | pick c x y =>
  simp only[qD,ho]at h;exact Xaf hR hd ho h aE
 |alloc e=>exact Sa0 hR hd hti hf ho h aE
 |box e x=>exact Zap hR hd hti hf ho h aE
 |build t parts=>exact Saz hR hd hti ho h aE
 |buildSlice t len parts=>exact uW hR hd hti (hf.nr nr (Zb2 _) (by unfold bU;omega)) ho h aE
 | load t x =>
  simp only[qD,ho,aA,Zbn,tiR,aW]at h;obtain⟨ti,h1,p,h2,h⟩:=h;exact Xag hR hd hti ho h1 (fun hg=>fG hR hg h2) h aE
 |store t x y=>exact Haf hR hti ho h aE
 | nilCheck x =>
  simp only[qD,ho]at h;exact Ja6 hR hd ho h aE
 | binOp op t x y ty =>
  by_cases h1:op=.eql
  ·subst h1
   simp only[qD,ho]at h;exact Ua3 hR hd hti ho rfl h aE
  ·by_cases h2:op=.neq
   ·subst h2
    simp only[qD,ho]at h;exact Ua3 hR hd hti ho rfl h aE
   ·have h':(do
      let a <- rdA E g t x
      let b <- rdA E g ty y
      tT o g nv (.bin op) [a,b]:RdM bN).eval σ=some res:=by
     simp only[qD,ho]at h;cases op<;>first|exact h|(exact absurd rfl h1)|(exact absurd rfl h2)
    simp only[aA,Zbn]at h';obtain⟨x',h3,y',h4,h5⟩:=h';exact Pak hR hd ho (fun hg=>jG hR hg h3) (fun hg=>jG hR hg h4) h5 aE
 | unOp op t x =>
  simp only[qD,ho]at h;exact Fbz hR hd ho h aE
 | convert src dst x =>
  simp only[qD,ho,aA,Zbn,tiR,aW]at h;obtain⟨s,h1,d,h2,h⟩:=h;split at h
  ·rename_i k hk
   simp only[aA,Zbn,aJ]at h;obtain⟨_,h3,x',h4,h⟩:=h;split at h3
   case isFalse=>cases h3
   rename_i hs;exact Xah hR hd hti ho h1 hs h2 hk h4 h aE
  ·rw[gW]at h
   split at h
   case isFalse=>cases h
   rename_i hdS;rw[gW]at h;split at h
   ·rename_i hsS
    simp only[aA,Zbn]at h;obtain⟨x',h4,h⟩:=h;exact Pai hR hd hti ho h1 hsS h2 hdS h4 h aE
   ·simp only[aA,Zbn,aJ,aW]at h
    obtain⟨e,h3,ei,h4,_,h5,l,h6,r,h7,h⟩:=h;split at h5
    case isFalse=>cases h5
    rename_i hk;exact Xai hR hd hti ho h1 h3 h4 hk h2 hdS h6 h7 h aE
 | makeFunc fn first fj =>
  cases fn with
  | func fn =>
   simp only[qD,ho]at h;exact Ja7 hR hd ho h aE
  |_=>simp only[qD,ho]at h;cases h
 |makeSlice t l c=>exact Hag hR hd hti hf ho h aE
 |slice t x lo hi mx=>exact Sav hR hd hti ho h aE
 | fieldAddr t x k =>
  simp only[qD,ho,aA,Zbn,tiR,aW]at h;obtain⟨ti,h1,h⟩:=h;split at h
  case h_2=>cases h
  rename_i off ft fR;simp only[aA,Zbn,aJ,aW]at h;obtain⟨fi,h2,_,h3,p,h4,h⟩:=h;split at h3
  case isFalse=>cases h3
  rename_i ig;exact Hai hR hd hti ho h1 fR h2 (by simpa using ig) (by simp only[aA,Zbn];exact⟨p,h4,h⟩) aE
 | field t x k =>
  simp only[qD,ho,aA,Zbn,tiR,aW]at h;obtain⟨ti,h1,h⟩:=h;split at h
  case h_2=>cases h
  rename_i off ft fR;simp only[aA,Zbn,aW]at h;obtain⟨fi,h2,sv,h3,h⟩:=h;exact Sax hR hd hti ho h1 fR h2 (by simp only[aA,Zbn];exact⟨sv,h3,h⟩) aE
 | indexAddr t x i =>
  simp only[qD,ho,aA,Zbn,tiR,aW]at h;obtain⟨ti,h1,e,h2,ei,h3,l,h4,s,h5,y,h6,u,h7,h⟩:=h;exact Hah hR hd hti ho h1 h2 h3 (by simp only[aA,Zbn];exact⟨l,h4,s,h5,y,h6,u,h7,h⟩) aE
 | index t x i =>
  simp only[qD,ho,aA,Zbn,tiR,aW]at h;obtain⟨ti,h1,h⟩:=h;exact Saw hR hd hti ho h1 (by simp only[aA,Zbn];exact h) aE
 | extract x i =>
  simp only[qD,ho]at h;exact Mat hR hd ho h aE
 | call c =>
  obtain⟨callee,args,argTypes⟩:=c
  cases callee with
  |value f=>exact iz f args argTypes ho
  |invoke recv name=>simp only[qD,ho]at h;cases h
  | builtin b =>
   simp only[qD,ho]at h
   cases eu:args.toList with
   | nil =>
    rw[eu]at h;cases b<;>first|(cases h;done)|skip
    all_goals
     simp only[aA,Zbn,aW]at h;obtain⟨py,h1,as,h2,h⟩:=h;obtain⟨ls,h3,h4⟩:=h2
     first
     |exact iE hR hd (.inl ⟨rfl,rfl,rfl⟩) ho (by rw[eu];exact h1) h3 h4 h aE
     |exact iE hR hd (.inr ⟨rfl,rfl,rfl⟩) ho (by rw[eu];exact h1) h3 h4 h aE
   | cons x xs =>
    rw[eu]at h
    cases xs with
    | nil =>
     cases b<;>first|(cases h;done)|skip
     ·simp only[aA,Zbn,aW,tiR,aJ]at h
      obtain⟨t,h1,ti,h2,e,h3,ei,h4,_,h5,l,h6,h⟩:=h;split at h5
      case isFalse=>cases h5
      rename_i fX;exact Say hR hd hti ho eu h1 h2 h3 h4 fX h6 h aE
     ·simp only[aA,Zbn,aW,tiR]at h
      obtain⟨t,h1,ti,h2,h⟩:=h;exact Zao hR hd hti ho eu h1 h2 (by simp only[aA,Zbn];exact h) aE
     all_goals
      simp only[aA,Zbn,aW]at h;obtain⟨py,h1,as,h2,h⟩:=h;obtain⟨ls,h3,h4⟩:=h2
      first
      |exact iE hR hd (.inl ⟨rfl,rfl,rfl⟩) ho (by rw[eu];exact h1) h3 h4 h aE
      |exact iE hR hd (.inr ⟨rfl,rfl,rfl⟩) ho (by rw[eu];exact h1) h3 h4 h aE
    | cons y ys =>
     cases ys with
     | nil =>
      cases b<;>first|(cases h;done)|skip
      ·simp only[aA,Zbn,aW,tiR,aJ]at h
       obtain⟨t,h1,ty,h2,ti,h3,e,h4,ei,h5,yi,h6,_,h7,lx,h8,ly,h9,h⟩:=h;split at h7
       case isFalse=>cases h7
       rename_i fX;exact Pal hR hd hti hf ho eu h1 h2 h3 h4 h5 h6 fX h8 h9 h aE
      all_goals
       simp only[aA,Zbn,aW]at h;obtain⟨py,h1,as,h2,h⟩:=h;obtain⟨ls,h3,h4⟩:=h2
       first
       |exact iE hR hd (.inl ⟨rfl,rfl,rfl⟩) ho (by rw[eu];exact h1) h3 h4 h aE
       |exact iE hR hd (.inr ⟨rfl,rfl,rfl⟩) ho (by rw[eu];exact h1) h3 h4 h aE
     | cons z zs =>
      cases b<;>first|(cases h;done)|skip
      all_goals
       simp only[aA,Zbn,aW]at h;obtain⟨py,h1,as,h2,h⟩:=h;obtain⟨ls,h3,h4⟩:=h2
       first
       |exact iE hR hd (.inl ⟨rfl,rfl,rfl⟩) ho (by rw[eu];exact h1) h3 h4 h aE
       |exact iE hR hd (.inr ⟨rfl,rfl,rfl⟩) ho (by rw[eu];exact h1) h3 h4 h aE
 |_=>simp only[qD,ho]at h;cases h
end
theorem Tr.get_set {α:Type}:∀ (d:Nat) (t:Tr α) (n m:Nat) (x:Option α),(Tr.set d t n x).get m=if m=n then x else t.get m
 | 0, t, n, m, x => by
  simp only[Tr.set,Tr.get];by_cases h:m=n
  ·subst h;simp
  ·have:Nat.beq m n=false:=by
    cases e:Nat.beq m n with
    |false=>rfl
    |true=>simp only[Acj]at e;exact absurd e h
   rw[this,cond_false,if_neg h]
 | d + 1, .over k y t, n, m, x => by
  simp only[Tr.set];by_cases h:m=n
  ·subst h;simp[Tr.get]
  ·have:Nat.beq m n=false:=by
    cases e:Nat.beq m n with
    |false=>rfl
    |true=>simp only[Acj]at e;exact absurd e h
   rw[if_neg h];show (bif Nat.beq m n then x else _)=_
   rw[this,cond_false]
 | d + 1, .nil, n, m, x => by
  have ih:=fun t n m=>Tr.get_set (α:=α) d t n m x
  simp only[Tr.set];have b0:∀ k,Nat.beq k 0=decide (k=0):=fun k=>by cases k<;>simp[Nat.beq]
  have b1:∀ k,Nat.beq (k % 2) 1=decide (k % 2=1):=fun k=>by
   rcases Nat.mod_two_eq_zero_or_one k with h|h<;>rw[h]<;>rfl
  rw[b0,b1];by_cases h0:n=0
  ·simp only[h0,decide_true,cond_true,Tr.get]
   rw[b0,b1];by_cases hm:m=0
   ·simp[hm]
   ·simp[hm,Tr.get]
  ·by_cases h1:n % 2=1
   ·simp only[h0,decide_false,cond_false,h1,decide_true,cond_true,Tr.get]
    rw[b0,b1];by_cases hm:m=0
    ·subst hm;simp[Ne.symm h0]
    ·by_cases oS:m % 2=1
     ·simp only[hm,decide_false,cond_false,oS,decide_true,cond_true,ih,Tr.get]
      by_cases e:m=n
      ·rw[if_pos e,if_pos (by rw[e])]
      ·rw[if_neg e,if_neg (by omega)]
     ·have e:m≠n:=fun e=>oS (e▸h1)
      simp[hm,oS,e,Tr.get]
   ·simp only[h0,decide_false,cond_false,h1,Tr.get]
    rw[b0,b1];by_cases hm:m=0
    ·subst hm;simp[Ne.symm h0]
    ·by_cases oS:m % 2=1
     ·have e:m≠n:=fun e=>h1 (e▸oS)
      simp[hm,oS,e,Tr.get]
     ·simp only[hm,decide_false,cond_false,oS,ih,Tr.get]
      by_cases e:m=n
      ·rw[if_pos e,if_pos (by rw[e])]
      ·rw[if_neg e,if_neg (by omega)]
 | d + 1, .node y l r, n, m, x => by
  have ih:=fun t n m=>Tr.get_set (α:=α) d t n m x
  simp only[Tr.set];have b0:∀ k,Nat.beq k 0=decide (k=0):=fun k=>by cases k<;>simp[Nat.beq]
  have b1:∀ k,Nat.beq (k % 2) 1=decide (k % 2=1):=fun k=>by
   rcases Nat.mod_two_eq_zero_or_one k with h|h<;>rw[h]<;>rfl
  rw[b0,b1];by_cases h0:n=0
  ·simp only[h0,decide_true,cond_true,Tr.get]
   rw[b0,b1];by_cases hm:m=0
   ·simp[hm]
   ·simp[hm,Tr.get]
  ·by_cases h1:n % 2=1
   ·simp only[h0,decide_false,cond_false,h1,decide_true,cond_true,Tr.get]
    rw[b0,b1];by_cases hm:m=0
    ·subst hm;simp[Ne.symm h0]
    ·by_cases oS:m % 2=1
     ·simp only[hm,decide_false,cond_false,oS,decide_true,cond_true,ih,Tr.get]
      by_cases e:m=n
      ·rw[if_pos e,if_pos (by rw[e])]
      ·rw[if_neg e,if_neg (by omega)]
     ·have e:m≠n:=fun e=>oS (e▸h1)
      simp[hm,oS,e,Tr.get]
   ·simp only[h0,decide_false,cond_false,h1,Tr.get]
    rw[b0,b1];by_cases hm:m=0
    ·subst hm;simp[Ne.symm h0]
    ·by_cases oS:m % 2=1
     ·have e:m≠n:=fun e=>h1 (e▸oS)
      simp[hm,oS,e,Tr.get]
     ·simp only[hm,decide_false,cond_false,oS,ih,Tr.get]
      by_cases e:m=n
      ·rw[if_pos e,if_pos (by rw[e])]
      ·rw[if_neg e,if_neg (by omega)]
section
variable {P:Program} {E:Env} {F:bG} {n:Nat} {σ:Nat->Option aS} {ρ:List D} {a:Act} {w w':World} {G G':Gh} {g:Option (aK×Bool)} {o:Oper}
def Lbr:Value->Option Bool
 |.bool b=>some b
 |_=>none
theorem Va0 {x:aK}{want:Bool}{v:Value}(h:Sc v (x.val ρ)\/(v=undef/\x.val ρ=.undef)):gOn ρ (some (x,want))=(Lbr v==some want):=by
 have key:∀ d:D,x.val ρ=d->gOn ρ (some (x,want))=(match d with|.bool b=>b==want|_=>false):=by
  intro d hd;simp only[gOn,hd];cases d<;>rfl
 rcases h with h|⟨rfl,h⟩
 ·rw[key _ rfl]
  generalize x.val ρ=d at h
  cases h with
  |int k n=>rfl
  |bool b=>cases b<;>cases want<;>rfl
  |str l=>rfl
 ·rw[key _ h]
  rfl
theorem Sa8 (hR:R E.ntmps F σ ρ a w G){ops:Array Oper}(hd:∀ o∈ops.toList,fD E.ntmps o)(h:(Ma3 ops.toList o).eval σ=some g):Region.wanted o (yielded ops a.tmps)=gOn ρ g:=by
 unfold Ma3 at h;unfold Region.wanted;split at h
 ·rename_i ho
  simp only[aF,Option.some.injEq]at h;subst h;simp[ho,gOn]
 ·rename_i j want ho
  simp only[ho];split at h
  ·rename_i d hj
   have hdn:d<E.ntmps:=by
    cases hoj:ops.toList[j]? with
    |none=>rw[hoj]at hj;cases hj
    | some oj =>
     rw[hoj,Zbv]at hj;exact hd oj (Zb4 hoj) d hj
   have hy:yielded ops a.tmps j=Lbr (Aa7 E.ntmps a F.gh d):=by
    unfold yielded Aa7;have:(ops[j]?).bind (·.dst)=some d:=by rw[<- hj,Array.getElem?_toList]
    rw[this,Zbv,if_pos hdn];have hlt:d<a.tmps.size:=by rw[hR.tmps];exact hdn
    rw[Acr hlt,Array.getD_eq_getD_getElem?,Acr hlt,Option.getD_some];cases a.tmps[d]<;>rfl
   rw[hy];simp only[Bb5]at h;split at h
   ·rename_i x hk
    simp only[aF,Option.some.injEq]at h;subst h;have:=hR.slot hk rfl;simp only[bY,aB]at this;exact (Va0 (.inl this)).symm
   ·rename_i g' x hk
    simp only[aF,Option.some.injEq]at h;subst h;have:=hR.slot hk rfl;simp only[bY,aB]at this;exact (Va0 this.1).symm
   ·cases h
  ·cases h
end
theorem rD {n:Nat}{ρ ext:List D}{x:aK}(h:bA n x=true)(hn:n<=ρ.length):x.val (ρ++ext)=x.val ρ:=by
 refine aK.val_append (n:=n) ?_
 cases x with
 | v i =>
  simp only[bA,Acw]at h;simp only[aK.ok];omega
 |c d=>trivial
theorem Jaq {n:Nat}{ρ ext:List D}{xs:List aK}(h:xs.all (bA n)=true)(hn:n<=ρ.length):xs.map (·.val (ρ++ext))=xs.map (·.val ρ):=by
 apply Ccs;intro x hx;rw[Acd]at h;exact rD (h x hx) hn
theorem yN {n:Nat}{ρ ext:List D}{g:Option (aK×Bool)}(h:oW n g=true)(hn:n<=ρ.length):gOn (ρ++ext) g=gOn ρ g:=by
 cases g with
 |none=>rfl
 | some z =>
  obtain⟨x,w⟩:=z;simp only[oW]at h;simp only[gOn,rD h hn]
theorem Dab {ρ ds ext:List D}{j:Nat}{d:D}(h:ds[j]?=some d):(aK.v (ρ.length+j)).val (ρ++ds++ext)=d:=by
 have hlt:=(List.getElem?_eq_some_iff.1 h).1;simp only[aK.val,List.getD_eq_getElem?_getD];rw[Zbx,Zb8 (by omega),Zb9 (by omega),Acs,h];rfl
theorem wW {n m:Nat}{g:Option (aK×Bool)}(h:oW n g=true)(hm:n<=m):oW m g=true:=by
 cases g with
 |none=>rfl
 | some z =>
  obtain⟨x,w⟩:=z
  cases x with
  |v i=>simp only[oW,bA,Acw]at h ⊢;omega
  |c d=>rfl
section
variable {cf:Nat->List D->Option (List D)}
noncomputable def Ec {β:Type}(cf:Nat->List D->Option (List D))(t:Tm β)(ρ:List D):Option (Out β):=lim fun n=>runT cf n t ρ
noncomputable def Lc {β:Type}(cf:Nat->List D->Option (List D))(body:Tm β)(ρ vs:List D):Option (Out β):=lim fun n=>iter n (fun vs=>runT cf n body (ρ++vs)) vs
theorem Lbi {β:Type}(t:Tm β)(ρ:List D):Saf fun n=>runT cf n t ρ:=fun n _ h=>Hao (fun f _ _ h=>h) (Ccp n) t _ _ h
theorem Sb6 {β:Type}(body:Tm β)(ρ vs:List D):Saf fun n=>iter n (fun vs=>runT cf n body (ρ++vs)) vs :=
 fun n _ h=>mR (fun vs r hr=>Lbi body _ n r hr) (Ccp n) _ _ h
theorem Jaw {β:Type}{t:Tm β}{ρ:List D}{o:Out β}:Ec cf t ρ=some o↔∃ n,runT cf n t ρ=some o:=gB (Lbi t ρ)
theorem fO {β:Type}(k:Kind)(xs:List aK)(e:β)(ρ:List D):Ec cf (.leaf k xs e) ρ=some ⟨k,xs,e,ρ⟩:=gD _
theorem jD {β:Type}(ρ:List D):Ec cf (.stuck:Tm β) ρ=none:=gD _
theorem Oag {β:Type}(g:Option (aK×Bool))(p:aT)(xs:List aK)(n:Nat)(k:Tm β)(ρ:List D) :
  Ec cf (.lt g p xs n k) ρ=if gOn ρ g then (p.run (xs.map (·.val ρ))).bind fun ds=>if ds.length=n then Ec cf k (ρ++ds) else none
   else Ec cf k (ρ++Zb6 n .undef):=by
 unfold Ec;simp only[runT];split
 ·cases p.run (xs.map (·.val ρ)) with
  |none=>exact gD _
  | some ds =>
   simp only[Zbv];split
   ·rfl
   ·exact gD _
 ·rfl
theorem uQ {β:Type}(g:Option (aK×Bool))(f:Nat)(xs:List aK)(n:Nat)(olds:List aK)(k:Tm β)(ρ:List D) :
  Ec cf (.call g f xs n olds k) ρ=if gOn ρ g then (cf f (xs.map (·.val ρ))).bind fun ds=>if ds.length=n then Ec cf k (ρ++ds) else none
   else Ec cf k (ρ++(Zb6 (n-olds.length) .undef++olds.map (·.val ρ))):=by
 unfold Ec;simp only[runT];split
 ·cases cf f (xs.map (·.val ρ)) with
  |none=>exact gD _
  | some ds =>
   simp only[Zbv];split
   ·rfl
   ·exact gD _
 ·rfl
theorem Faw {β:Type}(c:aK)(t e:Tm β)(ρ:List D) :
  Ec cf (.ite c t e) ρ=match c.val ρ with
   |.bool true=>Ec cf t ρ
   |.bool false=>Ec cf e ρ
   |_=>none:=by
 unfold Ec;simp only[runT]
 cases c.val ρ with
 |bool b=>cases b<;>rfl
 |_=>exact gD _
theorem rH {β:Type}(i:Nat)(t k:Tm β)(ρ:List D) :
  Ec cf (.bind i t k) ρ=(Ec cf t ρ).bind fun o=>if o.kind=.yield i then Ec cf k (ρ++o.vals) else some o:=by
 unfold Ec;simp only[runT];rw[Gan (a:=fun n=>runT cf n t ρ) (Lbi t ρ) (fun o=>by split;exact Lbi k _;exact fun _ _ h=>h)];congr 1;funext o;split
 ·rfl
 ·exact gD _
theorem Oah {β:Type}(init:List aK)(body:Tm β)(ρ:List D):Ec cf (.loop init body) ρ=Lc cf body ρ (init.map (·.val ρ)):=rfl
theorem Dbj {β:Type}(body:Tm β)(ρ vs:List D) :
  Lc cf body ρ vs=(Ec cf body (ρ++vs)).bind fun o=>if o.kind=.cont then Lc cf body ρ o.vals else some o:=by
 have hm:∀ vs,Saf fun n=>iter n (fun vs=>runT cf n body (ρ++vs)) vs:=fun vs=>Sb6 body ρ vs
 unfold Lc
 have e:∀ vs r,(lim fun n=>iter n (fun vs=>runT cf n body (ρ++vs)) vs)=some r↔((Ec cf body (ρ++vs)).bind fun o=>if o.kind=.cont then (lim fun n=>iter n (fun vs=>runT cf n body (ρ++vs)) o.vals) else some o)=some r:=by
  intro vs r;rw[gB (hm vs)];simp only[Zbn];constructor
  ·rintro⟨n,hn⟩
   cases n with
   |zero=>cases hn
   | succ n =>
    simp only[iter,Zbn]at hn;obtain⟨o,ho,hr⟩:=hn;refine⟨o,Jaw.2 ⟨n+1,ho⟩,?_⟩;split at hr
    ·rename_i hk
     rw[if_pos hk,gB (hm _)];exact⟨n+1,mR (fun _ _ h=>h) (Ccp n) _ _ hr⟩
    ·rename_i hk
     rw[if_neg hk];exact hr
  ·rintro⟨o,ho,hr⟩
   obtain⟨n,hn⟩:=Jaw.1 ho;split at hr
   ·rename_i hk
    obtain⟨m,oz⟩:=(gB (hm _)).1 hr;refine⟨max n m+1,?_⟩;simp only[iter,Zbn];refine⟨o,(Lbi body (ρ++vs)).le (by omega) hn,?_⟩;rw[if_pos hk];exact mR (fun vs r h=>(Lbi body (ρ++vs)).le (by omega) h) (by omega) _ _ oz
   ·rename_i hk
    refine⟨n+1,?_⟩;simp only[iter,Zbn];exact⟨o,Lbi body _ _ _ hn,by rw[if_neg hk];exact hr⟩
 exact Option.ext (e vs)
end
section
variable {cf:Nat->List D->Option (List D)}
theorem vM {g:Option (aK×Bool)}{k:Tm St}:∀ {lets:List Step} {ρ:List D} {o:Out St},oW ρ.length g=true->eF ρ.length lets=true->Ec cf (oG g k lets) ρ=some o ->
  ∃ ds,ds.length=bH lets/\Ec cf k (ρ++ds)=some o/\∀ ext,aN cf (ρ++ds++ext) g ρ.length lets
 |[],ρ,o,_,_,h=>⟨[],rfl,by simpa[oG] using h,fun _=>trivial⟩
 | .prim p xs n :: r, ρ, o, hg, hs, h => by
  simp only[eF,Dar,Zbo]at hs;obtain⟨mS,hs⟩:=hs;simp only[oG,Oag]at h
  have main:∀ ds:List D,ds.length=n->Ec cf (oG g k r) (ρ++ds)=some o->(∀ ext,Waq cf (ρ++ds++ext) g ρ.length (.prim p xs n)) ->
    ∃ ds,ds.length=bH (.prim p xs n::r)/\Ec cf k (ρ++ds)=some o/\∀ ext,aN cf (ρ++ds++ext) g ρ.length (.prim p xs n::r):=by
   intro ds hl h1 h2;obtain⟨es,h3,h4,h5⟩:=vM (lets:=r) (ρ:=ρ++ds) (wW hg (by simp)) (by simp only[Zbt,hl];exact hs) h1;refine⟨ds++es,by rw[iJ];simp[hl,h3,Step.n],by rw[<- Zbx];exact h4,fun ext=>⟨?_,?_⟩⟩
   ·have:=h2 (es++ext)
    simpa[Zbx] using this
   ·have:=h5 ext
    simp only[Zbt,hl]at this;simpa[Zbx,Step.n] using this
  by_cases fa:gOn ρ g=true
  ·rw[if_pos fa]at h
   simp only[Zbn]at h;obtain⟨ds,h1,h2⟩:=h;split at h2
   case isFalse=>cases h2
   rename_i hl;refine main ds hl h2 fun ext=>⟨fun _=>⟨ds,?_,hl,fun j d hj=>Dab hj⟩,fun pC=>?_⟩
   ·rw[Zbx,Jaq mS (Zb2 _)];exact h1
   ·rw[Zbx,yN hg (Zb2 _),fa]at pC;cases pC
  ·rw[if_neg fa]at h
   refine main (Zb6 n .undef) (by simp) h fun ext=>⟨fun hon=>?_,fun _ j hj=>Dab (by simp[hj])⟩
   rw[Zbx,yN hg (Zb2 _)]at hon;exact absurd hon fa
 | .call f xs n olds :: r, ρ, o, hg, hs, h => by
  simp only[eF,Dar,Zbo]at hs;obtain⟨⟨⟨mS,hos⟩,hle⟩,hs⟩:=hs;simp only[Ac2]at hle;simp only[oG,uQ]at h
  have main:∀ ds:List D,ds.length=n->Ec cf (oG g k r) (ρ++ds)=some o->(∀ ext,Waq cf (ρ++ds++ext) g ρ.length (.call f xs n olds)) ->
    ∃ ds,ds.length=bH (.call f xs n olds::r)/\Ec cf k (ρ++ds)=some o/\∀ ext,aN cf (ρ++ds++ext) g ρ.length (.call f xs n olds::r):=by
   intro ds hl h1 h2;obtain⟨es,h3,h4,h5⟩:=vM (lets:=r) (ρ:=ρ++ds) (wW hg (by simp)) (by simp only[Zbt,hl];exact hs) h1;refine⟨ds++es,by rw[iJ];simp[hl,h3,Step.n],by rw[<- Zbx];exact h4,fun ext=>⟨?_,?_⟩⟩
   ·have:=h2 (es++ext)
    simpa[Zbx] using this
   ·have:=h5 ext
    simp only[Zbt,hl]at this;simpa[Zbx,Step.n] using this
  by_cases fa:gOn ρ g=true
  ·rw[if_pos fa]at h
   simp only[Zbn]at h;obtain⟨ds,h1,h2⟩:=h;split at h2
   case isFalse=>cases h2
   rename_i hl;refine main ds hl h2 fun ext=>⟨fun _=>⟨ds,?_,hl,fun j d hj=>Dab hj⟩,fun pC=>?_⟩
   ·rw[Zbx,Jaq mS (Zb2 _)];exact h1
   ·rw[Zbx,yN hg (Zb2 _),fa]at pC;cases pC
  ·rw[if_neg fa]at h
   refine main _ (by simp;omega) h fun ext=>⟨fun hon=>?_,fun _ j d hd=>?_⟩
   ·rw[Zbx,yN hg (Zb2 _)]at hon
    exact absurd hon fa
   ·rw[Zbx,Jaq hos (Zb2 _)]at hd
    exact Dab hd
end
theorem rM:∀ (u:List (Nat×aS)) (f g:Nat->Option aS) (k:Nat),f k=g k->upds f u k=upds g u k
 |[],f,g,k,h=>h
 | (k', c) :: r, f, g, k, h => by
  refine rM r _ _ k ?_;unfold Ua7;split
  ·rfl
  ·exact h
theorem Ma5:∀ (u:List (Nat×aS)) (s:St) (k:Nat),(s.puts u).tr.get k=upds s.tr.get u k
 |[],s,k=>rfl
 | (k', c) :: r, s, k => by
  rw[St.puts,Ma5 r _ k,upds];refine rM r _ _ k ?_;simp only[St.put,Tr.get_set,Ua7]
theorem iV:∀ (u:List (Nat×aS)) (s:St),(s.puts u).nv=s.nv/\(s.puts u).nb=s.nb/\(s.puts u).nr=s.nr/\(s.puts u).nt=s.nt
 |[],s=>⟨rfl,rfl,rfl,rfl⟩
 |(k',c)::r,s=>by rw[St.puts];exact iV r _
theorem Gaa:∀ (u:List (Nat×aS)) (f g:Nat->Option aS) (k:Nat),(∃ c,(k,c)∈u)->upds f u k=upds g u k
 |[],f,g,k,h=>by obtain⟨c,hc⟩:=h;simp at hc
 | (k', c) :: r, f, g, k, h => by
  by_cases hk:k=k'
  ·exact rM r _ _ k (by unfold Ua7;rw[if_pos hk,if_pos hk])
  ·refine Gaa r _ _ k ?_
   obtain⟨c',gy⟩:=h
   rcases List.mem_cons.1 gy with h1|h1
   ·exact absurd (Prod.mk.inj h1).1 hk
   ·exact⟨c',h1⟩
theorem yO {t:Tr aS}:∀ {n r:Nat},nJ t r n=true->∀ j,r<=j->j<r+n->t.get (kR j)=none
 |0,r,_,j,h1,h2=>by omega
 | n + 1, r, h, j, h1, h2 => by
  simp only[nJ,Zbo,Ccc]at h;by_cases e:j=r
  ·rw[e];exact h.1
  ·exact yO h.2 j (by omega) (by omega)
theorem Sai:∀ (u:List (Nat×aS)) (n:Nat),n<=Lbl u n
 |[],n=>Zb2 _
 | x :: r, n => by
  refine Nat.le_trans ?_ (Sai r _)
  cases h:(Nat.beq (x.1 % 3) 2&&Nat.ble n (x.1 / 3)) with
  |false=>exact Zb2 _
  |true=>simp only[Zbo,Ac2]at h;rw[cond_true];omega
theorem Uao:∀ {u:List (Nat×aS)} {n:Nat} {x:Nat×aS},x∈u->x.1 % 3=2->x.1 / 3<Lbl u n
 | y :: r, n, x, hx, h2 => by
  rcases List.mem_cons.1 hx with rfl|hx
  ·refine Nat.lt_of_lt_of_le ?_ (Sai r _)
   have e:Nat.beq (x.1 % 3) 2=true:=by rw[h2];rfl
   rw[e,Bool.true_and]
   cases h:Nat.ble n (x.1 / 3) with
   |true=>rw[cond_true];omega
   | false =>
    rw[cond_false];exact Nat.lt_of_not_le fun e=>by rw[<- Ac2,h]at e;cases e
  ·exact Uao (u:=r) hx h2
theorem Zac:∀ {u:List (Nat×aS)} {n m:Nat},n<=m->(∀ x∈u,x.1 % 3=2->x.1 / 3<m)->Lbl u n<=m
 |[],n,m,h,_=>h
 | y :: r, n, m, h, hu => by
  show Lbl r (bif Nat.beq (y.1 % 3) 2&&Nat.ble n (y.1 / 3) then y.1 / 3+1 else n)<=m
  refine Zac (u:=r) ?_ fun x hx=>hu x (Zby _ hx)
  cases hc:(Nat.beq (y.1 % 3) 2&&Nat.ble n (y.1 / 3)) with
  |false=>exact h
  | true =>
   simp only[Zbo,Acj]at hc;rw[cond_true];exact hu y Zb5 hc.1
theorem Bba {n nb nr:Nat}{u:List (Nat×aS)}(hk:u.all (fun x=>zB n nb nr x.1)=true)(draw:Bool):nr<=Ta9 draw nr u/\Ta9 draw nr u<=nr+bU/\∀ x∈u,x.1 % 3=2->x.1 / 3<Ta9 draw nr u:=by
 have hb:∀ x∈u,x.1 % 3=2->x.1 / 3<nr+bU:=by
  intro x hx h2;rw[Acd]at hk;have:=hk _ hx;unfold zB at this;rw[h2]at this;simpa using this
 cases draw with
 |true=>exact⟨Cc5 ..,Zb2 _,hb⟩
 |false=>exact⟨Sai _ _,Zac (Cc5 ..) hb,fun x hx h2=>Uao hx h2⟩
theorem Gbi {s:St}{g:Option (aK×Bool)}{r:bN}{n:Nat}(h:Gbj s g r=true)(hn:n<=s.nt)(hk:r.upd.all (fun x=>zB n s.nb s.nr x.1)=true)(draw:Bool)(nv:Nat)(k:Nat) :
  ({ (s.puts r.upd) with nv:=nv,nb:=s.nb+1,nr:=Ta9 draw s.nr r.upd }:St).get k=upds s.get r.upd k:=by
 obtain⟨t1,t2,t3⟩:=Bba hk draw;generalize Ta9 draw s.nr r.upd=fN at t1 t2 t3 ⊢;simp only[Gbj,Zbo,Ccc]at h;obtain⟨⟨⟨⟨h1,h2⟩,-⟩,-⟩,-⟩:=h
 have e:({ (s.puts r.upd) with nv:=nv,nb:=s.nb+1,nr:=fN }:St).get k=bif vG s.nt (s.nb+1) fN k then upds s.tr.get r.upd k else none:=by
  unfold St.get;dsimp only;rw[Ma5,(iV r.upd s).2.2.2]
 rw[e];by_cases hm:∃ c,(k,c)∈r.upd
 ·obtain⟨c,hc⟩:=hm
  have jo:vG s.nt (s.nb+1) fN k=true:=by
   rw[Acd]at hk;have:=hk _ hc;unfold zB at this;unfold vG;dsimp only at this
   cases b0:Nat.beq (k % 3) 0 with
   |true=>rw[b0,cond_true]at this;rw[cond_true];simp only[Acw]at this ⊢;omega
   | false =>
    rw[b0,cond_false]at this;rw[cond_false]
    cases b1:Nat.beq (k % 3) 1 with
    |true=>rw[b1,cond_true]at this;rw[cond_true];simp only[Ac2]at this;simp only[Acw];omega
    | false =>
     rw[cond_false,Acw];have n0:k % 3≠0:=fun e=>by rw[e]at b0;cases b0
     have n1:k % 3≠1:=fun e=>by rw[e]at b1;cases b1
     exact t3 _ hc (by dsimp only;omega)
  rw[jo,cond_true];exact Gaa _ _ _ _ ⟨c,hc⟩
 ·have mc:∀ c,(k,c)∉r.upd:=fun c hc=>hm ⟨c,hc⟩
  rw[eP _ _ _ mc,eP _ _ _ mc];unfold St.get
  cases ho:vG s.nt s.nb s.nr k with
  | true =>
   have:vG s.nt (s.nb+1) fN k=true:=by
    unfold vG at ho ⊢
    cases b0:Nat.beq (k % 3) 0 with
    |true=>rw[b0]at ho;exact ho
    | false =>
     rw[b0,cond_false]at ho;rw[cond_false]
     cases b1:Nat.beq (k % 3) 1 with
     |true=>rw[b1,cond_true]at ho;rw[cond_true];simp only[Acw]at ho ⊢;omega
     |false=>rw[b1,cond_false]at ho;rw[cond_false];simp only[Acw]at ho ⊢;omega
   rw[this]
  | false =>
   rw[cond_false]
   cases hw:vG s.nt (s.nb+1) fN k with
   |false=>rfl
   | true =>
    rw[cond_true];unfold vG at ho hw
    cases b0:Nat.beq (k % 3) 0 with
    |true=>rw[b0,cond_true]at ho hw;rw[ho]at hw;cases hw
    | false =>
     rw[b0,cond_false]at ho hw;have n0:k % 3≠0:=fun e=>by rw[e]at b0;cases b0
     cases b1:Nat.beq (k % 3) 1 with
     | true =>
      rw[b1,cond_true]at ho hw;simp only[Acj]at b1;simp only[Acw]at hw;have sr:¬ k / 3<s.nb:=fun e=>by rw[<- Acw,ho]at e;cases e
      have:k=kB s.nb:=by unfold kB;omega
      rw[this];exact h1
     | false =>
      rw[b1,cond_false]at ho hw;have n1:k % 3≠1:=fun e=>by rw[e]at b1;cases b1
      simp only[Acw]at hw;have sr:¬ k / 3<s.nr:=fun e=>by rw[<- Acw,ho]at e;cases e
      have:k=kR (k / 3):=by unfold kR;omega
      rw[this];exact yO h2 _ (by omega) (by omega)
theorem Qa3 {s:St}:Dah s.get s.nb s.nr:=by
 refine⟨?_,fun j h1 h2=>?_⟩
 ·unfold St.get vG kB
  have e:(3*s.nb+1) % 3=1:=by omega
  have e2:(3*s.nb+1) / 3=s.nb:=by omega
  rw[e,e2]
  have:Ac8 s.nb s.nb=false:=by
   cases hb:Ac8 s.nb s.nb with
   |false=>rfl
   |true=>simp at hb
  rw[this];rfl
 ·unfold St.get vG kR
  have e:(3*j+2) % 3=2:=by omega
  have e2:(3*j+2) / 3=j:=by omega
  rw[e,e2]
  have:Ac8 j s.nr=false:=by
   cases hb:Ac8 j s.nr with
   |false=>rfl
   |true=>simp only[Acw]at hb;omega
  rw[this];rfl
theorem Uan (t:Tr aS)(lo:Nat):∀ n,Oas t lo n<=lo+n
 |0=>Zb2 _
 | n + 1 => by
  unfold Oas
  cases (t.get (kR (lo+n))).isNone with
  |true=>rw[cond_true];have:=Uan t lo n;omega
  |false=>rw[cond_false];omega
theorem Kao (t:Tr aS)(lo:Nat):∀ n j,Oas t lo n<=j->j<lo+n->t.get (kR j)=none
 |0,j,h1,h2=>by unfold Oas at h1;omega
 | n + 1, j, h1, h2 => by
  unfold Oas at h1
  cases h:(t.get (kR (lo+n))).isNone with
  | true =>
   rw[h,cond_true]at h1;by_cases e:j=lo+n
   ·rw[e];simpa using h
   ·exact Kao t lo n j h1 (by omega)
  |false=>rw[h,cond_false]at h1;omega
theorem Oar {draw:Bool}{lo:Nat}{s:St}:(trimS draw lo s).get=s.get:=by
 unfold trimS
 cases hd:(draw&&Nat.ble lo s.nr) with
 |false=>rfl
 | true =>
  simp only[Zbo,Ac2]at hd;rw[cond_true];funext k;have h1:=Uan s.tr lo (s.nr-lo);have h2:=Kao s.tr lo (s.nr-lo);generalize Oas s.tr lo (s.nr-lo)=m at h1 h2;unfold St.get;dsimp only;unfold vG
  cases b0:Nat.beq (k % 3) 0 with
  |true=>rfl
  | false =>
   rw[cond_false,cond_false]
   cases b1:Nat.beq (k % 3) 1 with
   |true=>rfl
   | false =>
    rw[cond_false,cond_false];have n0:k % 3≠0:=fun e=>by rw[e]at b0;cases b0
    have n1:k % 3≠1:=fun e=>by rw[e]at b1;cases b1
    have ek:k=kR (k / 3):=by unfold kR;omega
    by_cases ha:k / 3<m
    ·have e1:Ac8 (k / 3) m=true:=by simpa using ha
     have e2:Ac8 (k / 3) s.nr=true:=by simp only[Acw];omega
     rw[e1,e2]
    ·have e1:Ac8 (k / 3) m=false:=by
      cases e:Ac8 (k / 3) m with
      |false=>rfl
      |true=>simp only[Acw]at e;omega
     rw[e1,cond_false]
     cases e2:Ac8 (k / 3) s.nr with
     |false=>rfl
     | true =>
      simp only[Acw]at e2;rw[cond_true,ek];exact (h2 _ (by omega) (by omega)).symm
theorem xV {draw:Bool}{lo:Nat}{s:St}:(trimS draw lo s).nv=s.nv/\(trimS draw lo s).nb=s.nb/\(trimS draw lo s).nt=s.nt:=by
 unfold trimS;cases draw&&Nat.ble lo s.nr<;>exact⟨rfl,rfl,rfl⟩
section
variable {P:Program} {E:Env} {F:bG} {n:Nat} {σ:Nat->Option aS} {ρ:List D} {a:Act} {w w':World} {G G':Gh} {g:Option (aK×Bool)} {o:Oper} {cf:Nat->List D->Option (List D)} {Q:Exit->Act->World->Prop}
theorem Lar:∀ (u:List (Nat×aS)) (σ:Nat->Option aS) (k:Nat),upds σ u k=match Xay u k with
  |some c=>some c
  |none=>σ k
 |[],_,_=>rfl
 | (k', c) :: r, σ, k => by
  show upds (Ua7 σ k' c) r k=_
  rw[Lar r];simp only[Xay]
  cases Xay r k with
  |some d=>rfl
  | none =>
   dsimp only;unfold Ua7;by_cases e:k=k'
   ·subst e
    rw[if_pos rfl];simp
   ·rw[if_neg e]
    have:Nat.beq k' k=false:=by
     cases h:Nat.beq k' k with
     |false=>rfl
     |true=>exact absurd (Nat.eq_of_beq_eq_true h).symm e
    rw[this];rfl
theorem Rac {α:Type}(u:List (Nat×aS))(m:RdM α)(σ:Nat->Option aS):(m.over u).eval σ=m.eval (upds σ u):=by
 induction m with
 |ret a=>rfl
 |no=>rfl
 | rd k f ih =>
  show ((RdM.rd k f).over u).eval σ=(f (upds σ u k)).eval (upds σ u)
  unfold RdM.over;rw[Lar u σ k]
  cases Xay u k with
  |some c=>exact ih _
  |none=>exact ih _
theorem Aac:∀ (u v:List (Nat×aS)) (σ:Nat->Option aS),upds σ (u++v)=upds (upds σ u) v
 |[],_,_=>rfl
 |(k,c)::r,v,σ=>Aac r v (Ua7 σ k c)
def zM (r nr:Nat)(pv:List Nat)(M mr:Nat)(s:Nat)(p:List Nat):Ow :=
 if s=r then (if pv <+: p then yS nr M (p.drop pv.length) else yS r mr p) else .slc s p
theorem Gbd {t:Nat}{a:Act}{o:Oper}(h:o.dst=some t):a.put o.dst (a.tmps.getD t undef)=a:=by
 unfold Act.put;rw[h];dsimp only
 have:a.tmps.setIfInBounds t (a.tmps.getD t undef)=a.tmps:=by
  apply Array.ext_getElem?;intro j;rw[Array.getElem?_setIfInBounds];split
  ·rename_i e
   subst e;split
   ·rename_i hlt
    exact (Acr hlt).symm
   ·rename_i hlt
    rw[Array.getElem?_eq_none (by omega)]
  ·rfl
 rw[this]
theorem Oa6 (hR:R E.ntmps F σ ρ a w G){nv nr t:Nat}(l8:σ (kR nr)=none){l:List Step}{u:List (Nat×aS)}(h:(Kaw E nv nr t).eval σ=some (some (l,u)))(aE:aN cf ρ none nv l) :
  ∃ G',R E.ntmps F (upds σ u) ρ a w G':=by
 simp only[Kaw,aA,Zbn,aU,Zbv]at h;split at h
 case h_2=>simp only[aF,Option.some.injEq]at h;cases h
 rename_i deps p ps nie x lb;simp only[aA,Zbn]at h;obtain⟨s,h1,h⟩:=h;split at h
 case h_2=>simp only[aF,Option.some.injEq]at h;cases h
 rename_i r k m q qs az;rw[gW]at h;split at h
 case isFalse=>simp only[aF,Option.some.injEq]at h;cases h
 rename_i hb;simp only[Zbo,Ac2,Acw]at hb;obtain⟨hqm,htn⟩:=hb;simp only[aA,Zbn,aU,Zbv]at h;split at h
 case h_2=>simp only[aF,Option.some.injEq]at h;cases h
 rename_i X m' bc hk;simp only[aF,Option.some.injEq,Prod.mk.injEq]at h;obtain⟨rfl,rfl⟩:=h;have gx:=hR.slot lb (g:=none) rfl;simp only[bY]at gx;have gw:=dU hR h1 gx;have oe:=gw.own;unfold vF at oe;rw[az]at oe;obtain⟨-,⟨X0,ni⟩,-,fg,kO⟩:=oe;rw[hk]at ni
 obtain⟨rfl,rfl,rfl⟩:X=X0/\m'=m/\bc=k:=by
  injection ni with e;injection e with e1 e2 e3 e4;exact⟨e1,e2,e3⟩
 have eV:=hR.root hk;simp only[bP]at eV;have nF:=Ba6 (g:=none) rfl (q::qs) nv X (.c .hole) aE;have wk:(bB ρ (q::qs)).length=qs.length+1:=by simp[bB]
 generalize hpv:bB ρ (q::qs)=pv at nF fg kO wk;rw[show (q::qs).length=qs.length+1 from rfl]at fg;have htv:Aa7 E.ntmps a F.gh t=a.tmps.getD t undef:=if_pos htn;generalize hv:Aa7 E.ntmps a F.gh t=v at gx fg kO htv;obtain⟨o',sr⟩:∃ o':Oper,o'.dst=some t:=⟨{ (default:Oper) with dst:=some t },rfl⟩;have a5r:r≠nr:=fun e=>by rw[e,l8]at hk;cases hk
 have hdr:∀ r,(σ (kR r)).isSome->r≠nr:=fun r hr e=>by rw[e,l8]at hr;cases hr
 have mz:∀ b,G.own b≠.frz->b<w.heap.size:=fun b hb=>by
  rcases Aca b w.heap.size with h|h
  ·exact h
  ·exact absurd (hR.frame.fresh b h) hb
 have hFr:∀ p,zM r nr pv (m'-(qs.length+1)) m' r p=if pv <+: p then yS nr (m'-(qs.length+1)) (p.drop pv.length) else yS r m' p:=fun p=>by unfold zM;rw[if_pos rfl]
 have ql:∀ b,G.own b=.frz->b<w.heap.size->mP (zM r nr pv (m'-(qs.length+1)) m') (G.own b)=.frz/\w.heap[b]?=w.heap[b]?:=fun b hb _=>⟨by rw[hb];rfl,rfl⟩
 have eI:=hR.own (o:=o') (g:=none) (fun d e=>by rw[sr]at e;cases e;exact htn) (sv:=.one (.ex nr)) (v:=v) (w':=w)
  (G':={ G with own:=fun b=>mP (zM r nr pv (m'-(qs.length+1)) m') (G.own b),hdr:=fun s=>if s=nr then v else G.hdr s }) (wr:=fun _=>False)
  (ur:=[(kR nr,.root s.x (m'-(qs.length+1)) 0 .live),(kR r,.root (Nab nv X (q::qs) (.c .hole)).2 m' (bc+1) .live)])
  (f:=zM r nr pv (m'-(qs.length+1)) m') ?_ (fun b _=>rfl) ?_ ⟨rfl,rfl,rfl,Zb2 _⟩ ?_ (fun _ _ _=>rfl) (fun _ h=>h.elim) ?_ ?_ ?_ ?_ rfl ?_ ?_
 ·have e1:dS o' none (.one (.ex nr))=[(kT t,.slot none (.one (.ex nr)))]:=by unfold dS;rw[sr]
  have e2:a.put o'.dst v=a:=by rw[htv];exact Gbd sr
  rw[e1,e2]at eI;exact⟨_,eI⟩
 ·intro k c hc
  rcases List.mem_cons.1 hc with hc|hc
  ·exact⟨nr,(Prod.mk.inj hc).1⟩
  ·exact⟨r,(Prod.mk.inj (List.mem_singleton.1 hc)).1⟩
 ·intro b hb
  show mP _ (G.own b)=.frz
  rw[hR.frame.fresh b hb];rfl
 ·intro b hb
  refine .inl ?_;show mP _ (G.own b)=.frz
  rw[hR.frame.fresh b hb];rfl
 ·intro b s' p' hb gg
  have:s'≠r:=fun e=>gg (.root (Nab nv X (q::qs) (.c .hole)).2 m' (bc+1) .live) (by rw[e];simp)
  unfold zM;rw[if_neg this]
 ·intro s' c hc _
  rcases List.mem_cons.1 hc with hc|hc
  ·obtain⟨e1,e2⟩:=Prod.mk.inj hc
   rw[eT e1,e2];exact .inl ⟨l8,_,_,_,_,rfl⟩
  ·obtain⟨e1,e2⟩:=Prod.mk.inj (List.mem_singleton.1 hc)
   rw[eT e1,e2];exact .inr (.inl ⟨_,_,_,_,_,hk,rfl⟩)
 ·intro r0 x0 m0 k0 mT s' p' q' hF
  have hr0:r0≠r:=fun e=>by
   rw[e,hk]at mT
   injection mT with e;injection e with _ _ _ e;cases e
  have pS:r0≠nr:=hdr r0 (by rw[mT];rfl);unfold zM at hF;split at hF
  ·rename_i e
   split at hF
   ·unfold yS at hF
    split at hF
    ·injection hF with j1 j2;exact absurd j1.symm pS
    ·cases hF
   ·unfold yS at hF
    split at hF
    ·injection hF with j1 j2;exact absurd j1.symm hr0
    ·cases hF
  ·injection hF with j1 j2;exact⟨j1,j2⟩
 ·intro s' ju
  show (if s'=nr then _ else _)=_
  rw[if_neg (hdr s' ju)]
 ·intro _ _
  simp only[bY,aB];exact⟨by simp,dX _ _ _ (.inr ⟨_,Zbs _ Zb5⟩),fg.one⟩
 ·intro ej s' c hc _
  rcases List.mem_cons.1 hc with hc|hc
  ·obtain⟨e1,rfl⟩:=Prod.mk.inj hc
   obtain rfl:=eT e1;refine⟨_,_,_,_,rfl,?_⟩;simp only[bP,if_true];refine fg.move ql [] _ (Zb2 _) fun b t' hb=>⟨?_,rfl⟩
   show mP _ (G.own b)=_
   rw[hb];show zM _ _ _ _ _ _ _=_
   rw[hFr,if_pos (List.prefix_append _ _),List.drop_left];rfl
  ·obtain⟨e1,rfl⟩:=Prod.mk.inj (List.mem_singleton.1 hc)
   obtain rfl:=eT e1;refine⟨_,_,_,_,rfl,?_⟩;simp only[bP];rw[if_neg a5r];have:=Rp.upd (own':=fun b=>mP (zM s' nr pv (m'-(qs.length+1)) m') (G.own b)) (w':=w) (r:=s') (M':=m') (full:=pv) (y:=.hole) (u:=v) ql (fun b t' hb ht=>⟨?_,rfl⟩) (by omega) (.hole _ fg.one) pv [] m' (G.hdr s') _ _ rfl (Zb2 _) (by simpa using eV) kO nF
   ·simpa using this
   ·rw[hb]
    show zM _ _ _ _ _ _ _=_
    rw[hFr,if_neg ht];rfl
theorem Kau {mv dq:Bool}{nv nb nr:Nat}{c:Call}(h:o.op=.call c):Wa7 E mv dq nv nb nr g o=qD E mv dq nv nb nr g o:=by
 unfold Wa7;have h1:Baf (dq&&noG g) o.op=none:=by rw[h];unfold Baf;split<;>first|rfl|contradiction
 have h2:Nae (dq&&noG g&&!mv) o=none:=by
  unfold Nae;split
  ·rw[h]
  ·rfl
 rw[h1];dsimp only;rw[h2]
theorem Xab {nv nr t:Nat}(l8:σ (kR (nr+1))=none){l:List Step}{u:List (Nat×aS)}(h1:(Kaw E nv nr t).eval σ=some (some (l,u))):upds σ u (kR (nr+1))=none:=by
 simp only[Kaw,aA,Zbn,aU,Zbv]at h1;split at h1
 case h_2=>simp only[aF,Option.some.injEq]at h1;cases h1
 simp only[aA,Zbn]at h1;obtain⟨s,-,h1⟩:=h1;split at h1
 case h_2=>simp only[aF,Option.some.injEq]at h1;cases h1
 rw[gW]at h1;split at h1
 case isFalse=>simp only[aF,Option.some.injEq]at h1;cases h1
 simp only[aA,Zbn,aU,Zbv]at h1;split at h1
 case h_2=>simp only[aF,Option.some.injEq]at h1;cases h1
 rename_i r' _ _ _ _ _ _ _ _ hk;simp only[aF,Option.some.injEq,Prod.mk.injEq]at h1;obtain⟨-,rfl⟩:=h1
 cases e:upds σ _ (kR (nr+1)) with
 |none=>rfl
 | some c =>
  exfalso
  rcases pX _ _ _ _ e with h4|⟨-,h4⟩
  ·simp only[List.mem_cons,Prod.mk.injEq,List.not_mem_nil,or_false]at h4
   rcases h4 with ⟨h4,-⟩|⟨h4,-⟩|⟨h4,-⟩
   ·exact iM h4.symm
   ·have:=eT h4;omega
   ·rw[h4,hk]at l8;cases l8
  ·rw[l8]at h4;cases h4
theorem Aby {mv dq:Bool}{nv nb nr:Nat}{ty:TypeId}{x:Operand}(ho:o.op=.load ty x){r:bN}(h:(qD E mv dq nv nb nr none o).eval σ=some r){j:Nat}{c:aS}(hc:(kR j,c)∈r.upd):False:=by
 simp only[qD,ho,aA,Zbn,tiR,aW]at h;obtain⟨ti,h1,p,h2,h⟩:=h
 have lb:∀ {g':Option (aK×Bool)} {v:SV},(kR j,c)∈(match o.dst with|some d=>[(kT d,aS.slot g' v)]|none=>[])->False:=by
  intro g' v hm;split at hm
  ·simp only[Zb0,Prod.mk.injEq]at hm
   exact iM hm.1.symm
  ·simp at hm
 have hC:∀ {v:SV},(Abi o none nv v).eval σ=some r->False:=by
  intro v h;simp only[Abi,tV,aF,Option.some.injEq]at h;subst h;rw[Acf]at hc;exact lb hc
 unfold Uat at h;split at h
 ·simp only[aA,Zbn,aU,Zbv]at h
  split at h
  ·simp only[aA,Zbn]at h
   obtain⟨_,-,h⟩:=h;split at h
   ·exact hC h
   ·cases h
  ·cases h
 ·simp only[aA,Zbn]at h
  obtain⟨s,-,h⟩:=h;split at h
  ·simp only[tT,aF,Option.some.injEq]at h
   subst h;exact lb hc
  ·simp only[tV,aF,Option.some.injEq]at h
   subst h;rw[Acf]at hc;exact lb hc
  ·cases h
 ·cases h
theorem Zan (hR:R E.ntmps F σ ρ a w G)(hd:fD E.ntmps o)(hti:vJ P E.ti){nv nb nr:Nat}{mv dq:Bool}(hf:Dah σ nb nr){res:bN}
  (h:(Wa7 E mv dq nv nb nr g o).eval σ=some res) (aE:aN cf ρ g nv res.lets)
  (iz:∀ f args argTypes,o.op=.call { callee:=.value f,args,argTypes }->gT P E F σ ρ a w g o Q res.upd):gT P E F σ ρ a w g o Q res.upd:=by
 unfold Wa7 at h;split at h
 ·split at h
  ·exact Gae hR hd hti hf h aE iz
  ·
   rename_i t zx
   have hb:(dq&&noG g&&!mv)=true:=by
    cases e:(dq&&noG g&&!mv) with
    |true=>rfl
    |false=>rw[e]at zx;cases zx
   simp only[Zbo]at hb;obtain rfl:=wK hb.1.2
   obtain⟨ty,x,ho⟩:∃ ty x,o.op=.load ty x:=by
    unfold Nae at zx;split at zx
    ·split at zx
     ·rename_i ho;exact⟨_,_,ho⟩
     ·cases zx
    ·cases zx
   simp only[aA,Zbn,Rac]at h;obtain⟨r,h1,y,h2,h⟩:=h
   cases y with
   | none =>
    simp only[aF,Option.some.injEq]at h;subst h;exact Gae hR hd hti hf h1 aE iz
   | some lu =>
    obtain⟨l,u⟩:=lu;simp only[aF,Option.some.injEq]at h;subst h;obtain⟨ov,k8⟩:=aN.append aE;have h0:gT P E F σ ρ a w none o Q r.upd:=Gae hR hd hti hf h1 ov fun f args argTypes wq=>by rw[ho]at wq;cases wq
    refine⟨fun hg=>?_,fun hg=>by simp[gOn]at hg⟩;refine Oper.wp_mono (K:=Nx E.ntmps F σ ρ r.upd) (fun a' w' ⟨G',ie⟩=>?_) (h0.1 hg)
    have l8:upds σ r.upd (kR nr)=none:=by
     have mc:=hf.nr nr (Zb2 _) (by unfold bU;omega)
     cases e:upds σ r.upd (kR nr) with
     |none=>rfl
     | some c =>
      exfalso
      rcases pX _ _ _ _ e with h4|⟨-,h4⟩
      ·exact Aby ho h1 h4
      ·rw[mc]at h4;cases h4
    obtain⟨G'',tg⟩:=Oa6 ie l8 h2 k8;exact⟨G'',by rw[Aac];exact tg⟩
 ·rename_i t jd
  simp only[aA,Zbn]at h;obtain⟨x,h1,h⟩:=h
  have hb:(dq&&noG g)=true:=by
   cases e:(dq&&noG g) with
   |true=>rfl
   |false=>rw[e]at jd;unfold Baf at jd;cases jd
  simp only[Zbo]at hb;obtain rfl:=wK hb.2
  cases x with
  |none=>exact Gae hR hd hti hf h aE iz
  | some lu =>
   obtain⟨l,u⟩:=lu;simp only[aA,Zbn,Rac,aF,Option.some.injEq]at h;obtain⟨r,h2,rfl⟩:=h;obtain⟨ov,k8⟩:=aN.append aE;obtain⟨G',ie⟩:=Oa6 hR (hf.nr nr (Zb2 _) (by unfold bU;omega)) h1 ov
   have eI:gT P E F (upds σ u) ρ a w none o Q r.upd:=by
    have uc:upds σ u (kR (nr+1))=none:=Xab (hf.nr (nr+1) (by omega) (by unfold bU;omega)) h1;unfold Baf at jd;split at jd
    ·rename_i ho
     exact Haf ie hti ho h2 k8
    ·rename_i ho
     exact uW ie hd hti uc ho h2 k8
    ·cases jd
   refine⟨fun hg=>?_,fun hg=>by simp[gOn]at hg⟩;have e:Nx E.ntmps F σ ρ (u++r.upd)=Nx E.ntmps F (upds σ u) ρ r.upd:=by unfold Nx;rw[Aac]
   rw[e];exact eI.1 hg
theorem jT {ops:List Oper}{mv dq:Bool}{nv nb nr:Nat}{res:bN}(h:(lH E ops mv dq nv nb nr o).eval σ=some (g,res)) :
  (Ma3 ops o).eval σ=some g/\fD E.ntmps o/\(Wa7 E mv dq nv nb nr g o).eval σ=some res/\res.upd.all (fun x=>zB E.ntmps nb nr x.1)=true:=by
 simp only[lH,aA,Zbn,aJ,aF,Option.some.injEq,Prod.mk.injEq]at h;obtain⟨g',h1,_,h2,res',h3,_,h4,rfl,rfl⟩:=h;refine⟨h1,fun d hd=>?_,h3,?_⟩
 ·rw[hd]at h2
  dsimp only at h2;split at h2
  ·rename_i hb;simpa using hb
  ·cases h2
 ·split at h4
  ·rename_i hb;exact hb
  ·cases h4
def Lbq (P:Program)(E:Env)(F:bG)(σ:Nat->Option aS)(ρ:List D)(ops:Array Oper)(o:Oper)(Q:Exit->Act->World->Prop)(u:List (Nat×aS))(a:Act)(w:World):Prop :=
 if Region.wanted o (yielded ops a.tmps) then o.wp P a w (Nx E.ntmps F σ ρ u) Q else Nx E.ntmps F σ ρ u (a.put o.dst undef) w
theorem Bai (hR:R E.ntmps F σ ρ a w G)(hti:vJ P E.ti){ops:Array Oper}(oB:∀ o∈ops.toList,fD E.ntmps o){mv dq:Bool}{nv nb nr:Nat}(hf:Dah σ nb nr){res:bN}
  (h:(lH E ops.toList mv dq nv nb nr o).eval σ=some (g,res)) (aE:aN cf ρ g nv res.lets)
  (iz:∀ f args argTypes,o.op=.call { callee:=.value f,args,argTypes }->gT P E F σ ρ a w g o Q res.upd):Lbq P E F σ ρ ops o Q res.upd a w:=by
 obtain⟨h1,h2,h3,-⟩:=jT h;have hs:=Zan hR h2 hti hf h3 aE iz;unfold Lbq;rw[Sa8 hR oB h1];split
 ·rename_i hg;exact hs.1 hg
 ·rename_i hg;exact hs.2 (by simpa using hg)
end
section
variable {cf:Nat->List D->Option (List D)}
theorem Tal {i:Nat}{k:Kind}:Nam i k=true↔k=.yield i:=by
 cases k<;>simp[Nam]
 exact eq_comm
theorem Xa3 {k:Kind}:Vay k=true↔k=.cont:=by cases k<;>simp[Vay]
theorem Dbi {β:Type}{body:Tm β}{ρ:List D}{C:List D->Out β->Prop}
  (a2a:∀ vs o,Ec cf body (ρ++vs)=some o->o.kind≠.cont->C vs o)
  (fa:∀ vs o o',Ec cf body (ρ++vs)=some o->o.kind=.cont->C o.vals o'->Lc cf body ρ o.vals=some o'->C vs o') :
  ∀ {vs:List D} {o:Out β},Lc cf body ρ vs=some o->C vs o:=by
 intro vs o h;have h':=(gB (Sb6 (cf:=cf) body ρ vs)).1 h;obtain⟨n,hn⟩:=h'
 have key:∀ m vs,iter m (fun vs=>runT cf n body (ρ++vs)) vs=some o->C vs o/\Lc cf body ρ vs=some o:=by
  intro m
  induction m with
  |zero=>intro vs h;cases h
  | succ m ih =>
   intro vs h;simp only[iter,Zbn]at h;obtain⟨o1,h1,h2⟩:=h;have e1:Ec cf body (ρ++vs)=some o1:=Jaw.2 ⟨n,h1⟩;split at h2
   ·rename_i hk
    obtain⟨h3,h4⟩:=ih _ h2;exact⟨fa vs o1 o e1 hk h3 h4,by rw[Dbj,e1,Zbv,if_pos hk];exact h4⟩
   ·rename_i hk
    obtain rfl:=Option.some.inj h2;exact⟨a2a vs o1 e1 hk,by rw[Dbj,e1,Zbv,if_neg hk]⟩
 exact (key n vs hn).1
theorem wJ {β:Type}{f:Kind->Bool}:∀ {t:Tm β} {ρ:List D} {o:Out β},t.no f=true->Ec cf t ρ=some o->f o.kind=false
 | .leaf k xs e, ρ, o, hn, h => by
  rw[fO]at h;obtain rfl:=Option.some.inj h;simpa[Tm.no] using hn
 |.stuck,ρ,o,hn,h=>by rw[jD]at h;cases h
 | .lt g p xs n k, ρ, o, hn, h => by
  rw[Oag]at h;split at h
  ·simp only[Zbn]at h
   obtain⟨ds,-,h⟩:=h;split at h
   ·exact wJ (t:=k) hn h
   ·cases h
  ·exact wJ (t:=k) hn h
 | .call g c xs n os k, ρ, o, hn, h => by
  rw[uQ]at h;split at h
  ·simp only[Zbn]at h
   obtain⟨ds,-,h⟩:=h;split at h
   ·exact wJ (t:=k) hn h
   ·cases h
  ·exact wJ (t:=k) hn h
 | .ite c t e, ρ, o, hn, h => by
  simp only[Tm.no,Zbo]at hn;rw[Faw]at h;split at h
  ·exact wJ hn.1 h
  ·exact wJ hn.2 h
  ·cases h
 | .bind i t k, ρ, o, hn, h => by
  simp only[Tm.no,Zbo]at hn;simp only[rH,Zbn]at h;obtain⟨o1,h1,h2⟩:=h;split at h2
  ·exact wJ hn.2 h2
  ·obtain rfl:=Option.some.inj h2
   exact wJ hn.1 h1
 | .loop init b, ρ, o, hn, h => by
  rw[Oah]at h;simp only[Tm.no]at hn;exact Dbi (C:=fun _ o=>f o.kind=false) (fun vs o h1 _=>wJ hn h1) (fun _ _ _ _ _ h3 _=>h3) h
theorem qM {f:St->Option (Tm St)}:∀ {t t':Tm St} {ρ:List D} {o':Out St},t.graft f=some t'->Ec cf t' ρ=some o' ->
  ∃ o,Ec cf t ρ=some o/\((o.kind=.fall/\∃ r,f o.ext=some r/\Ec cf r o.env=some o')\/(o.kind≠.fall/\o'=o))
 | .leaf k xs s, t', ρ, o', hg, h => by
  cases k with
  |fall=>exact⟨_,fO ..,.inl ⟨rfl,t',hg,h⟩⟩
  | _ =>
   simp only[Tm.graft,Option.some.injEq]at hg;subst hg;rw[fO]at h;obtain rfl:=Option.some.inj h;exact⟨_,fO ..,.inr ⟨by simp,rfl⟩⟩
 | .stuck, t', ρ, o', hg, h => by
  simp only[Tm.graft,Option.some.injEq]at hg;subst hg;rw[jD]at h;cases h
 | .lt g p xs n k, t', ρ, o', hg, h => by
  simp only[Tm.graft,Zbz]at hg;obtain⟨k',hk,rfl⟩:=hg;rw[Oag]at h;simp only[Oag];split at h
  ·rename_i fa
   simp only[Zbn]at h;obtain⟨ds,h1,h⟩:=h;split at h
   ·rename_i hl
    obtain⟨o,h2,h3⟩:=qM hk h;exact⟨o,by rw[if_pos fa,h1,Zbv,if_pos hl];exact h2,h3⟩
   ·cases h
  ·rename_i fa
   obtain⟨o,h2,h3⟩:=qM hk h;exact⟨o,by rw[if_neg fa];exact h2,h3⟩
 | .call g c xs n os k, t', ρ, o', hg, h => by
  simp only[Tm.graft,Zbz]at hg;obtain⟨k',hk,rfl⟩:=hg;rw[uQ]at h;simp only[uQ];split at h
  ·rename_i fa
   simp only[Zbn]at h;obtain⟨ds,h1,h⟩:=h;split at h
   ·rename_i hl
    obtain⟨o,h2,h3⟩:=qM hk h;exact⟨o,by rw[if_pos fa,h1,Zbv,if_pos hl];exact h2,h3⟩
   ·cases h
  ·rename_i fa
   obtain⟨o,h2,h3⟩:=qM hk h;exact⟨o,by rw[if_neg fa];exact h2,h3⟩
 | .ite c t e, t', ρ, o', hg, h => by
  simp only[Tm.graft,Zbn,Zbz]at hg;obtain⟨t1,ht,e1,he,rfl⟩:=hg;rw[Faw]at h;simp only[Faw];split at h
  ·exact qM ht h
  ·exact qM he h
  ·cases h
 | .bind i t k, t', ρ, o', hg, h => by
  simp only[Tm.graft]at hg
  cases hn:t.no pR with
  |false=>rw[hn]at hg;cases hg
  | true =>
   rw[hn,cond_true,Zbz]at hg;obtain⟨k',hk,rfl⟩:=hg;simp only[rH,Zbn]at h;obtain⟨o1,h1,h2⟩:=h;simp only[rH,h1,Zbv];split at h2
   ·rename_i hy
    rw[if_pos hy];exact qM hk h2
   ·rename_i hy
    rw[if_neg hy];obtain rfl:=Option.some.inj h2;refine⟨o1,rfl,.inr ⟨fun e=>?_,rfl⟩⟩;have:=wJ hn h1;rw[e]at this;cases this
 | .loop init b, t', ρ, o', hg, h => by
  simp only[Tm.graft]at hg
  cases hn:b.no pR with
  |false=>rw[hn]at hg;cases hg
  | true =>
   rw[hn,cond_true,Option.some.injEq]at hg;subst hg;refine⟨o',h,.inr ⟨fun e=>?_,rfl⟩⟩;have:=wJ (t:=.loop init b) (f:=pR) hn h;rw[e]at this;cases this
theorem jK {id:Nat}:∀ {t t':Tm St} {ρ:List D} {o':Out St},t.exitFall id=some t'->Ec cf t' ρ=some o' ->
  ∃ o,Ec cf t ρ=some o/\((oP id o.kind=true/\o'=⟨.fall,[],o.ext,o.env⟩)\/(oP id o.kind=false/\o'=o))
 | .leaf k xs s, t', ρ, o', hg, h => by
  cases k with
  | exit j =>
   simp only[Tm.exitFall,Option.some.injEq]at hg
   cases hb:Nat.beq id j with
   | true =>
    rw[hb,cond_true]at hg;subst hg;rw[fO]at h;obtain rfl:=Option.some.inj h;exact⟨_,fO ..,.inl ⟨by simpa[oP] using hb,rfl⟩⟩
   | false =>
    rw[hb,cond_false]at hg;subst hg;rw[fO]at h;obtain rfl:=Option.some.inj h;exact⟨_,fO ..,.inr ⟨by simpa[oP] using hb,rfl⟩⟩
  | _ =>
   simp only[Tm.exitFall,Option.some.injEq]at hg;subst hg;rw[fO]at h;obtain rfl:=Option.some.inj h;exact⟨_,fO ..,.inr ⟨rfl,rfl⟩⟩
 | .stuck, t', ρ, o', hg, h => by
  simp only[Tm.exitFall,Option.some.injEq]at hg;subst hg;rw[jD]at h;cases h
 | .lt g p xs n k, t', ρ, o', hg, h => by
  simp only[Tm.exitFall,Zbz]at hg;obtain⟨k',hk,rfl⟩:=hg;rw[Oag]at h;simp only[Oag];split at h
  ·rename_i fa
   simp only[Zbn]at h;obtain⟨ds,h1,h⟩:=h;split at h
   ·rename_i hl
    obtain⟨o,h2,h3⟩:=jK hk h;exact⟨o,by rw[if_pos fa,h1,Zbv,if_pos hl];exact h2,h3⟩
   ·cases h
  ·rename_i fa
   obtain⟨o,h2,h3⟩:=jK hk h;exact⟨o,by rw[if_neg fa];exact h2,h3⟩
 | .call g c xs n os k, t', ρ, o', hg, h => by
  simp only[Tm.exitFall,Zbz]at hg;obtain⟨k',hk,rfl⟩:=hg;rw[uQ]at h;simp only[uQ];split at h
  ·rename_i fa
   simp only[Zbn]at h;obtain⟨ds,h1,h⟩:=h;split at h
   ·rename_i hl
    obtain⟨o,h2,h3⟩:=jK hk h;exact⟨o,by rw[if_pos fa,h1,Zbv,if_pos hl];exact h2,h3⟩
   ·cases h
  ·rename_i fa
   obtain⟨o,h2,h3⟩:=jK hk h;exact⟨o,by rw[if_neg fa];exact h2,h3⟩
 | .ite c t e, t', ρ, o', hg, h => by
  simp only[Tm.exitFall,Zbn,Zbz]at hg;obtain⟨t1,ht,e1,he,rfl⟩:=hg;rw[Faw]at h;simp only[Faw];split at h
  ·exact jK ht h
  ·exact jK he h
  ·cases h
 | .bind i t k, t', ρ, o', hg, h => by
  simp only[Tm.exitFall]at hg
  cases hn:t.no (oP id) with
  |false=>rw[hn]at hg;cases hg
  | true =>
   rw[hn,cond_true,Zbz]at hg;obtain⟨k',hk,rfl⟩:=hg;simp only[rH,Zbn]at h;obtain⟨o1,h1,h2⟩:=h;simp only[rH,h1,Zbv];split at h2
   ·rename_i hy
    rw[if_pos hy];exact jK hk h2
   ·rename_i hy
    rw[if_neg hy];obtain rfl:=Option.some.inj h2;exact⟨o1,rfl,.inr ⟨wJ hn h1,rfl⟩⟩
 | .loop init b, t', ρ, o', hg, h => by
  simp only[Tm.exitFall]at hg
  cases hn:b.no (oP id) with
  |false=>rw[hn]at hg;cases hg
  | true =>
   rw[hn,cond_true,Option.some.injEq]at hg;subst hg;exact⟨o',h,.inr ⟨wJ (t:=.loop init b) (f:=oP id) hn h,rfl⟩⟩
theorem lF {out:Kind}{jc:Kind->Bool}{f:St->Option (Tm St)}(hf:∀ s r,f s=some r->∀ ρ o,Ec cf r ρ=some o->o.kind=out)
  (hc:jc .cont=false) (hy:∀ i,jc (.yield i)=false):∀ {t t':Tm St} {ρ:List D} {o':Out St},t.turn out jc f=some t'->Ec cf t' ρ=some o' ->
  ∃ o,Ec cf t ρ=some o/\((jc o.kind=true/\o'.kind=out/\∃ r,f o.ext=some r/\Ec cf r o.env=some o')\/(jc o.kind=false/\o'=o))
 | .leaf k xs s, t', ρ, o', hg, h => by
  simp only[Tm.turn]at hg
  cases hs:jc k with
  | true =>
   rw[hs,cond_true]at hg;exact⟨_,fO ..,.inl ⟨hs,hf _ _ hg _ _ h,t',hg,h⟩⟩
  | false =>
   rw[hs,cond_false,Option.some.injEq]at hg;subst hg;rw[fO]at h;obtain rfl:=Option.some.inj h;exact⟨_,fO ..,.inr ⟨hs,rfl⟩⟩
 | .stuck, t', ρ, o', hg, h => by
  simp only[Tm.turn,Option.some.injEq]at hg;subst hg;rw[jD]at h;cases h
 | .lt g p xs n k, t', ρ, o', hg, h => by
  simp only[Tm.turn,Zbz]at hg;obtain⟨k',hk,rfl⟩:=hg;rw[Oag]at h;simp only[Oag];split at h
  ·rename_i fa
   simp only[Zbn]at h;obtain⟨ds,h1,h⟩:=h;split at h
   ·rename_i hl
    obtain⟨o,h2,h3⟩:=lF hf hc hy hk h;exact⟨o,by rw[if_pos fa,h1,Zbv,if_pos hl];exact h2,h3⟩
   ·cases h
  ·rename_i fa
   obtain⟨o,h2,h3⟩:=lF hf hc hy hk h;exact⟨o,by rw[if_neg fa];exact h2,h3⟩
 | .call g c xs n os k, t', ρ, o', hg, h => by
  simp only[Tm.turn,Zbz]at hg;obtain⟨k',hk,rfl⟩:=hg;rw[uQ]at h;simp only[uQ];split at h
  ·rename_i fa
   simp only[Zbn]at h;obtain⟨ds,h1,h⟩:=h;split at h
   ·rename_i hl
    obtain⟨o,h2,h3⟩:=lF hf hc hy hk h;exact⟨o,by rw[if_pos fa,h1,Zbv,if_pos hl];exact h2,h3⟩
   ·cases h
  ·rename_i fa
   obtain⟨o,h2,h3⟩:=lF hf hc hy hk h;exact⟨o,by rw[if_neg fa];exact h2,h3⟩
 | .ite c t e, t', ρ, o', hg, h => by
  simp only[Tm.turn,Zbn,Zbz]at hg;obtain⟨t1,ht,e1,he,rfl⟩:=hg;rw[Faw]at h;simp only[Faw];split at h
  ·exact lF hf hc hy ht h
  ·exact lF hf hc hy he h
  ·cases h
 | .bind i t k, t', ρ, o', hg, h => by
  simp only[Tm.turn]at hg
  cases hiy:Nam i out with
  | true =>
   rw[hiy,cond_true]at hg
   cases hn:t.no jc with
   |false=>rw[hn]at hg;cases hg
   | true =>
    rw[hn,cond_true,Zbz]at hg;obtain⟨k',hk,rfl⟩:=hg;simp only[rH,Zbn]at h;obtain⟨o1,h1,h2⟩:=h;simp only[rH,h1,Zbv];split at h2
    ·rename_i si
     rw[if_pos si];exact lF hf hc hy hk h2
    ·rename_i si
     rw[if_neg si];obtain rfl:=Option.some.inj h2;exact⟨o1,rfl,.inr ⟨wJ hn h1,rfl⟩⟩
  | false =>
   rw[hiy,cond_false]at hg;simp only[Zbn,Zbz]at hg;obtain⟨t1,ht,k',hk,rfl⟩:=hg;have cL:out≠.yield i:=fun e=>by rw[Tal.2 e]at hiy;cases hiy
   simp only[rH,Zbn]at h;obtain⟨o1',h1,h2⟩:=h;obtain⟨o1,h3,h4⟩:=lF hf hc hy ht h1;simp only[rH,h3,Zbv]
   rcases h4 with ⟨h5,h6,h7⟩|⟨h5,h6⟩
   ·rw[if_neg (by rw[h6];exact cL)]at h2
    obtain rfl:=Option.some.inj h2;have:o1.kind≠.yield i:=fun e=>by rw[e,hy]at h5;cases h5
    rw[if_neg this];exact⟨o1,rfl,.inl ⟨h5,h6,h7⟩⟩
   ·subst h6
    split at h2
    ·rename_i si
     rw[if_pos si];exact lF hf hc hy hk h2
    ·rename_i si
     rw[if_neg si];obtain rfl:=Option.some.inj h2;exact⟨_,rfl,.inr ⟨h5,rfl⟩⟩
 | .loop init b, t', ρ, o', hg, h => by
  simp only[Tm.turn]at hg
  cases hic:Vay out with
  | true =>
   rw[hic,cond_true]at hg
   cases hn:b.no jc with
   |false=>rw[hn]at hg;cases hg
   | true =>
    rw[hn,cond_true,Option.some.injEq]at hg;subst hg;exact⟨o',h,.inr ⟨wJ (t:=.loop init b) (f:=jc) hn h,rfl⟩⟩
  | false =>
   rw[hic,cond_false,Zbz]at hg;obtain⟨b',hb,rfl⟩:=hg;have cL:out≠.cont:=fun e=>by rw[Xa3.2 e]at hic;cases hic
   rw[Oah]at h;simp only[Oah]
   refine Dbi (C:=fun vs o'=>∃ o,Lc cf b ρ vs=some o/\((jc o.kind=true/\o'.kind=out/\∃ r,f o.ext=some r/\Ec cf r o.env=some o')\/(jc o.kind=false/\o'=o)))
    (fun vs o1' h1 hk=>?_) (fun vs o1' o2 h1 hk h2 vz=>?_) h
   ·obtain⟨o1,h3,h4⟩:=lF hf hc hy hb h1
    rcases h4 with ⟨h5,h6,h7⟩|⟨h5,h6⟩
    ·have:o1.kind≠.cont:=fun e=>by rw[e,hc]at h5;cases h5
     exact⟨o1,by rw[Dbj,h3,Zbv,if_neg this],.inl ⟨h5,h6,h7⟩⟩
    ·subst h6
     exact⟨o1',by rw[Dbj,h3,Zbv,if_neg hk],.inr ⟨h5,rfl⟩⟩
   ·obtain⟨o1,h3,h4⟩:=lF hf hc hy hb h1
    rcases h4 with ⟨h5,h6,h7⟩|⟨h5,h6⟩
    ·exact absurd (h6.symm.trans hk) cL
    ·subst h6
     obtain⟨o,h8,h9⟩:=h2;exact⟨o,by rw[Dbj,h3,Zbv,if_pos hk];exact h8,h9⟩
end
def Aaa (σ:Nat->Option aS)(N:Nat):Prop:=∀ k c,σ k=some c->bW N c=true
def xM (N:Nat)(ρ gf:List D):Prop:=∀ x,bA N x=true->x.val gf=x.val ρ
theorem xM.ext {N:Nat}{ρ:List D}(h:N<=ρ.length)(e:List D):xM N ρ (ρ++e):=fun x hx=>rD hx h
section
variable {n:Nat} {F:bG} {σ:Nat->Option aS} {ρ gf:List D} {a:Act} {w:World} {G:Gh} {N:Nat}
theorem xM.gOn (h:xM N ρ gf){g:Option (aK×Bool)}(hg:oW N g=true):Go.Proofs.YtcbkmmhkccnamaaGreat.Rf.gOn gf g=Go.Proofs.YtcbkmmhkccnamaaGreat.Rf.gOn ρ g:=by
 cases g with
 |none=>rfl
 | some z =>
  obtain⟨x,w⟩:=z;simp only[oW]at hg;simp only[Go.Proofs.YtcbkmmhkccnamaaGreat.Rf.gOn,h x hg]
theorem xM.path (h:xM N ρ gf){p:List (aK×Nat×Nat)}(hp:(p.all fun x=>bA N x.1)=true):bB gf p=bB ρ p:=by
 unfold bB;apply Ccs;intro x hx;rw[Acd]at hp;unfold kY;rw[h x.1 (hp x hx)]
mutual
theorem aB.same (h:xM N ρ gf):∀ (l:aR) (v:Value),l.inScope N=true->aB σ ρ G w l v->aB σ gf G w l v
 |.dead,_,_,hl=>by simpa[aB] using hl
 | .sc x, v, hs, hl => by
  simp only[aR.inScope]at hs;simp only[aB,h x hs]at hl ⊢;exact hl
 | .su g x, v, hs, hl => by
  simp only[aR.inScope,Zbo]at hs;have hg:Go.Proofs.YtcbkmmhkccnamaaGreat.Rf.gOn gf (some g)=Go.Proofs.YtcbkmmhkccnamaaGreat.Rf.gOn ρ (some g):=h.gOn (by obtain⟨y,b⟩:=g;exact hs.2);simp only[aB,h x hs.1,hg]at hl ⊢;exact hl
 |.ex r,v,_,hl=>by simpa[aB] using hl
 | .sn deps p nie x, v, hs, hl => by
  simp only[aR.inScope,Zbo]at hs;simp only[aB,h x hs.1]at hl ⊢;refine⟨hl.1,fun hv=>?_⟩;obtain⟨h1,h2,h3⟩:=hl.2 hv;refine⟨h1,h2,?_⟩
  cases p with
  |no=>trivial
  |view=>exact h3
  | suf sz lo =>
   simp only[Daf,kY]at h3 ⊢;rw[h lo hs.2];exact h3
  | path p =>
   simp only[Daf]at h3 ⊢;rw[h.path hs.2];exact h3
 |.px b off,v,_,hl=>by simpa[aB] using hl
 | .pe l sz i off, v, hs, hl => by
  simp only[aR.inScope,Zbo]at hs;simp only[aB,h i hs.2]at hl ⊢;obtain⟨a,n,c,k,iv,h1,h2⟩:=hl;exact⟨a,n,c,k,iv,aB.same h l _ hs.1 h1,h2⟩
 | .rp deps sz x, v, hs, hl => by
  simp only[aR.inScope]at hs;simp only[aB,h x hs]at hl ⊢;exact hl
 |.pn,v,_,hl=>by simpa[aB] using hl
 | .clo f fj, v, hs, hl => by
  simp only[aR.inScope]at hs;simp only[aB]at hl ⊢;obtain⟨vs,h1,h2⟩:=hl;exact⟨vs,h1,aG.same h fj vs hs h2⟩
theorem aG.same (h:xM N ρ gf):∀ (ls:List aR) (vs:List Value),bE N ls=true->aG σ ρ G w ls vs->aG σ gf G w ls vs
 |[],vs,_,hl=>by simpa[aG] using hl
 | l :: ls, vs, hs, hl => by
  simp only[bE,Zbo]at hs;simp only[aG]at hl ⊢;obtain⟨u,us,e,h1,h2⟩:=hl;exact⟨u,us,e,aB.same h l u hs.1 h1,aG.same h ls us hs.2 h2⟩
end
theorem iI.same (h:xM N ρ gf):∀ (ts:List (Bool×List aR)) (us:List Value),(ts.all fun v=>bE N v.2)=true->iI σ ρ G w ts us->iI σ gf G w ts us
 |[],_,_,ht=>ht
 | (a, ls) :: r, us, hs, ht => by
  simp only[List.all_cons,Zbo]at hs;obtain⟨u,da,vs,e,h1,h2,h3⟩:=ht;exact⟨u,da,vs,e,aG.same h ls vs hs.1 h1,h2,iI.same h r da hs.2 h3⟩
theorem bY.same (h:xM N ρ gf){v:SV}{u:Value}(hs:xX N v=true)(hv:bY σ ρ G w v u):bY σ gf G w v u:=by
 cases v with
 |dead=>trivial
 |one l=>exact aB.same h l u hs hv
 |agg ls=>obtain⟨vs,e,h1⟩:=hv;exact⟨vs,e,aG.same h ls vs hs h1⟩
 |tup ts=>obtain⟨us,e,h1⟩:=hv;exact⟨us,e,iI.same h ts us hs h1⟩
theorem nA:∀ {ls:List aR} {j:Nat} {l:aR},bE N ls=true->ls[j]?=some l->l.inScope N=true
 |[],j,l,_,h=>by simp at h
 | m :: ls, 0, l, hs, h => by
  simp only[bE,Zbo]at hs;simp only[Zbw,Option.some.injEq]at h;rw[<- h];exact hs.1
 | m :: ls, j + 1, l, hs, h => by
  simp only[bE,Zbo]at hs;exact nA hs.2 (by simpa using h)
theorem R.same (h:R n F σ ρ a w G)(hs:Aaa σ N)(hv:xM N ρ gf):R n F σ gf a w G:=by
 refine⟨h.tmps,h.defers,fun k c hk=>?_,h.frame,h.rng⟩;have jq:=hs k c hk
 cases c with
 | slot g v =>
  simp only[bW,Zbo]at jq;obtain⟨t,e,h1⟩:=h.cont k _ hk;exact⟨t,e,fun hg=>(h1 (by rw[<- hv.gOn jq.1];exact hg)).same hv jq.2⟩
 | box ro ls =>
  simp only[bW]at jq;obtain⟨b,e,h1,h2,h3⟩:=h.cont k _ hk;refine⟨b,e,h1,h2,fun j l hj=>?_⟩;obtain⟨v,h4,h5,h6⟩:=h3 j l hj;exact⟨v,h4,h5,aB.same hv l v (nA jq hj) h6⟩
 | root x m bc st =>
  simp only[bW]at jq;obtain⟨r,e,h0,h1⟩:=h.cont k _ hk;refine⟨r,e,h0,?_⟩
  cases st with
  |live=>simp only[bP]at h1 ⊢;rw[hv x jq];exact h1
  |frozen=>simp only[bP]at h1 ⊢;rw[hv x jq];exact h1
  |gone=>trivial
  |fwd r'=>exact h1
theorem R.ext (h:R n F σ ρ a w G)(hs:Aaa σ N)(hn:N<=ρ.length)(e:List D):R n F σ (ρ++e) a w G:=h.same hs (.ext hn e)
theorem dK {M:Nat}(h:N<=M){x:aK}(hx:bA N x=true):bA M x=true:=by
 cases x with
 |c d=>rfl
 |v i=>simp only[bA,Acw]at hx ⊢;omega
theorem Hat {M:Nat}(h:N<=M){p:Pth}(hx:Ba1 N p=true):Ba1 M p=true:=by
 cases p with
 |no=>rfl
 |view=>rfl
 |suf sz lo=>exact dK h hx
 | path p =>
  simp only[Ba1,Acd]at hx ⊢;exact fun x hm=>dK h (hx x hm)
mutual
theorem oN {M:Nat}(h:N<=M):∀ (l:aR),l.inScope N=true->l.inScope M=true
 |.dead,_=>rfl
 |.sc x,hs=>by simp only[aR.inScope]at hs ⊢;exact dK h hs
 |.su g x,hs=>by simp only[aR.inScope,Zbo]at hs ⊢;exact⟨dK h hs.1,dK h hs.2⟩
 |.ex r,_=>rfl
 |.sn deps p nie x,hs=>by simp only[aR.inScope,Zbo]at hs ⊢;exact⟨dK h hs.1,Hat h hs.2⟩
 |.px b off,_=>rfl
 |.pe l sz i off,hs=>by simp only[aR.inScope,Zbo]at hs ⊢;exact⟨oN h l hs.1,dK h hs.2⟩
 |.rp deps sz x,hs=>by simp only[aR.inScope]at hs ⊢;exact dK h hs
 |.pn,_=>rfl
 |.clo f fj,hs=>by simp only[aR.inScope]at hs ⊢;exact iC h fj hs
theorem iC {M:Nat}(h:N<=M):∀ (ls:List aR),bE N ls=true->bE M ls=true
 |[],_=>rfl
 |l::ls,hs=>by simp only[bE,Zbo]at hs ⊢;exact⟨oN h l hs.1,iC h ls hs.2⟩
end
theorem xE {M:Nat}(h:N<=M){c:aS}(hs:bW N c=true):bW M c=true:=by
 cases c with
 | slot g v =>
  simp only[bW,Zbo]at hs ⊢;refine⟨wW hs.1 h,?_⟩
  cases v with
  |dead=>rfl
  |one l=>exact oN h l hs.2
  |agg ls=>exact iC h ls hs.2
  | tup ts =>
   have h2:=hs.2;simp only[xX,Acd]at h2 ⊢;exact fun x hx=>iC h x.2 (h2 x hx)
 |box ro ls=>exact iC h ls hs
 |root x m bc st=>exact dK h hs
theorem Aaa.mono {M:Nat}(hs:Aaa σ N)(h:N<=M):Aaa σ M:=fun k c hk=>xE h (hs k c hk)
theorem Aaa.upds {M:Nat}(hs:Aaa σ N)(h:N<=M){u:List (Nat×aS)}(hu:u.all (fun x=>bW M x.2)=true):Aaa (upds σ u) M:=by
 intro k c hk
 rcases pX u σ k c hk with h1|⟨-,h1⟩
 ·rw[Acd]at hu
  exact hu _ h1
 ·exact xE h (hs k c h1)
end
end Go.Proofs.YtcbkmmhkccnamaaGreat.Rf
