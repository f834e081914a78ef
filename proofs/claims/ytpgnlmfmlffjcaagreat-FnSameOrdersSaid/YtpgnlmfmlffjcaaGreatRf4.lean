/- Terms for oe program's functions, and j9 they are right: part 4 of 9. -/
import Derived.Test.YtpgnlmfmlffjcaaGreatRf3
import Derived.Laws.MakeOwn
open Array renaming getElem?_eq_getElem → Rb0, length_toList → Tbm, ext' → Ubm
open Bool renaming and_eq_true → Qb1, not_eq_true' → Rbp
open List renaming mem_append_left → Qb2, getElem?_eq_getElem → Qb3, mem_append_right → Qb5, length_append → Qb6, getElem?_cons_zero → Qb9, append_assoc → Rba, mem_singleton → Rbb, mem_cons_of_mem → Rbd, replicate → Rbf, length_map → Rbh, mem_of_getElem? → Rbi, mem_cons_self → Rbj, getElem?_append_right → Rbl, getElem?_append_left → Rbm, length_take → Rbq, getElem?_map → Rbr, append_nil → Rbs, map_cons → Rbt, all_eq_true → Rbu, map_nil → Rbz, ext_getElem? → Tbu, map_congr_left → Tb2
open Nat renaming le_refl → Rbg, add_assoc → Rbn, lt_or_ge → Rbo, beq_eq → Rbv, add_zero → Rbx, add_sub_cancel_left → Rb1, blt_eq → Rb4, ble_eq → Sbb, blt → Sbg, le_succ → Tb0, mul_comm → Uba, le_add_right → Ubc
open Option renaming bind_eq_some_iff → Qb0, bind_some → Qb7, map_eq_some_iff → Rbc, isNone_iff_eq_none → Tbo
set_option linter.unusedSimpArgs false
set_option linter.unusedVariables false
set_option linter.unnecessarySimpa false
set_option linter.unusedSectionVars false
namespace Go.Proofs.YtpgnlmfmlffjcaaGreat.Rf
def Va6 (gq:List Nat)(iS:Option Nat)(nsz:Nat)(src:Option (Nat×List Nat×Nat))(nr M:Nat)(s:Nat)(p:List Nat):Ow :=
 if s∈gq then .frz else if iS=some s then (match p with
  |k::t=>xV nr M ((nsz+k)::t)
  |[]=>.frz) else
 match src with
 |some (r,pq,mr)=>if s=r then (if pq <+: p then xV nr M (p.drop pq.length) else xV r mr p) else .slc s p
 |none=>.slc s p
section
variable {P:Program} {E:Env} {F:bE} {n:Nat} {σ:Nat->Option aP} {ρ:List D} {a:Act} {w w':World} {G G':Gh} {g:Option (aI×Bool)} {o:Oper} {cf:Nat->List D->Option (List D)} {Q:Exit->Act->World->Prop} {next:Act->World->Prop}
structure XOk (σ:Nat->Option aP) (ρ:List D) (G:Gh) (w:World) (v:Value) (ra:List (List D)) (sz m:Nat) (updX:List (Nat×aP)) (src:Option (Nat×List Nat×Nat)) (A:Option Addr) (b:Addr) (n cap:Nat) (vs:Nat->Nat->Value):Prop where
 side:Side w v ra sz A b n cap vs
 base:(A=some b/\b.spot=none)\/(A=none/\cap=0)
 own:A=some b->∃ r pq mr,src=some (r,pq,mr)/\G.own b.block=.slc r pq
 all:A=some b->∀ k,k<cap*sz->∃ u,w.cell? (b.add k)=some u/\w.frozen? (b.add k)=false
 ch:∀ i row,ra[i]?=some row->∀ j d,row[j]?=some d->∃ r pq mr,src=some (r,pq,mr)/\Rp G.own w r (pq++[i*sz+j]) (m-1) (vs i j) d
 m:1<=m
 upd:(src=none/\updX=[])\/∃ r pq mr X k,src=some (r,pq,mr)/\σ (kR r)=some (.root X mr k .live) /\
  ((pq=[]/\updX=[(kR r,.root (.c .hole) 0 0 .gone)])\/(∃ X',updX=[(kR r,.root X' mr (k+1) .live)]/\Upd pq (X.val ρ) .hole (X'.val ρ)/\yG G.own w r [] (G.hdr r) pq v/\pq.length<mr))
theorem Cb7 (hR:R E.ntmps F σ ρ a w G)(hd:eT E.ntmps o){nb nr:Nat}(hf:Cae σ nb nr){fl:Bool}{vx vy v:Value}{ra rb:List (List D)}{sz m dy M:Nat}{updX da:List (Nat×aP)}{src:Option (Nat×List Nat×Nat)}{ry gq:List Nat}{iS:Option Nat}
  {A By:Option Addr} {b wy:Addr} {n n' cap iq:Nat} {vs oY:Nat->Nat->Value}
  (hX:XOk σ ρ G w vx ra sz m updX src A b n cap vs) (hY:YOk σ G w fl vy rb sz dy da ry gq iS)
  (mz:Side w vy rb sz By wy n' iq oY) (hYc:∀ i row,rb[i]?=some row->∀ j d,row[j]?=some d->ChY G w gq iS dy (oY i j) d (i*sz+j))
  {w1:World} {A':Option Addr} {cb:Addr} {ez:Nat} {grow:Bool} (hA:Ib5 w w1 G A n n' cap sz (kU vs n sz) (kU oY n' sz) v A' cb ez grow)
  (gb:fl=true->∀ r∈ra++rb,∀ d∈r,d.isSc=true) (hM1:1<=M) (hM:fl=false->M<=m/\M<=dy)
  (td:∀ r pq mr,src=some (r,pq,mr)->r∉ry\/fl=true) {y:aI} (hy:y.val ρ=.rows sz (ra++rb)) :
  ∃ G',R E.ntmps F (upds σ (dL o none (.one (.ex nr))++((kR nr,.root y M 0 .live)::updX++da))) ρ (a.put o.dst v) w1 G':=by
 obtain⟨M,rfl⟩:∃ M',M=M'+1:=⟨M-1,by omega⟩;have fb:σ (kR nr)=none:=hf.nr nr (Rbg _) (by unfold bP;omega)
 have jc:∀ b,G.own b≠.frz->b<w.heap.size:=fun b hb=>by
  rcases Rbo b w.heap.size with h|h
  ·exact h
  ·exact absurd (hR.frame.fresh b h) hb
 have z6:∀ r pq mr,src=some (r,pq,mr)->r∉gq/\iS≠some r:=by
  intro r pq mr e
  rcases td r pq mr e with h|h
  ·exact⟨fun hh=>h (hY.fz r hh).1,fun hh=>h (hY.mv r hh).1⟩
  ·obtain⟨-,h2,h3⟩:=hY.flat h
   rw[h2,h3];simp
 have lB:∀ r pq mr,src=some (r,pq,mr)->∃ X k,σ (kR r)=some (.root X mr k .live)/\∃ c,(kR r,c)∈updX:=by
  intro r pq mr e
  rcases hX.upd with ⟨h1,-⟩|⟨r',qp,od,X,k,h1,h2,h3⟩
  ·rw[h1]at e;cases e
  ·rw[h1]at e
   obtain⟨rfl,rfl,rfl⟩:r'=r/\qp=pq/\od=mr:=by injection e with e;injection e with e1 e;injection e with e2 e3;exact⟨e1,e2,e3⟩
   refine⟨X,k,h2,?_⟩
   rcases h3 with ⟨-,h3⟩|⟨X',h3,-⟩<;>exact⟨_,by rw[h3];exact List.mem_singleton.2 rfl⟩
 have uk:grow=false->A'≠none->∃ r pq mr,src=some (r,pq,mr)/\G.own cb.block=.slc r pq:=by
  intro hg bh
  rcases hA.base with ⟨h1,-⟩|⟨-,-,h2⟩|⟨-,h2⟩
  ·rw[hg]at h1;cases h1
  ·rcases hX.base with ⟨h3,h4⟩|⟨h3,-⟩
   ·rw[h2]at h3
    obtain rfl:=Option.some.inj h3;exact hX.own h2
   ·rw[h2]at h3;cases h3
  ·exact absurd h2 bh
 have bg:∀ b,b<w.heap.size->(∀ r pq mr,src=some (r,pq,mr)->G.own b≠.slc r pq)->w1.heap[b]?=w.heap[b]?:=by
  intro b' hlt cr;refine hA.heap b' hlt ?_
  cases hg:grow with
  |true=>exact .inl rfl
  | false =>
   by_cases bh:A'=none
   ·exact .inr (.inl bh)
   ·obtain⟨r,pq,mr,h1,h2⟩:=uk hg bh
    exact .inr (.inr fun e=>cr r pq mr h1 (e▸h2))
 generalize ab:(fun b'=>if b'=w.heap.size then (if grow=true then Ow.slc nr [] else .frz) else lS (Va6 gq iS (n*sz) src nr (M+1)) (G.own b'))=own'
 have cF:∀ b' s p,G.own b'=.slc s p->own' b'=Va6 gq iS (n*sz) src nr (M+1) s p:=fun b' s p hb=>by
  have:=jc b' (by rw[hb];simp);rw[<- ab];dsimp only;rw[if_neg (by omega),hb];rfl
 have hz:∀ b',G.own b'=.frz->b'<w.heap.size->own' b'=.frz/\w1.heap[b']?=w.heap[b']?:=fun b' hb hlt=>by
  refine⟨?_,bg b' hlt fun _ _ _ _=>by rw[hb];simp⟩;rw[<- ab];dsimp only;rw[if_neg (by omega),hb];rfl
 have vr:∀ s∈gq,∀ p,Va6 gq iS (n*sz) src nr (M+1) s p=.frz:=fun s hs p=>by
  unfold Va6;rw[if_pos hs]
 have oz:∀ r pq mr,src=some (r,pq,mr)->∀ p,Va6 gq iS (n*sz) src nr (M+1) r p=if pq <+: p then xV nr (M+1) (p.drop pq.length) else xV r mr p:=fun r pq mr e p=>by
  obtain⟨h1,h2⟩:=z6 r pq mr e;unfold Va6;rw[if_neg h1,if_neg h2,e];simp
 have py:∀ s,s∈ry->fl=false->∀ r pq mr,src=some (r,pq,mr)->s≠r:=fun s hs cP r pq mr e h=>by
  rcases td r pq mr e with h1|h1
  ·exact h1 (h▸hs)
  ·rw[cP]at h1;cases h1
 have hold:∀ i row,ra[i]?=some row->∀ j d,row[j]?=some d->w1.cell? (cb.add (i*sz+j))=some (vs i j)/\Rp own' w1 nr [i*sz+j] M (vs i j) d:=by
  intro i row hi j d hj;have gC:i<n:=by rw[<- hX.side.len];exact (List.getElem?_eq_some_iff.1 hi).1
  have fN:j<sz:=by
   have:=(List.getElem?_eq_some_iff.1 hj).1;rwa[hX.side.rows row (Rbi hi)]at this
  refine⟨hA.cell _ _ (by rw[Rbm];exact xY vs gC fN;exact (List.getElem?_eq_some_iff.1 (xY vs gC fN)).1),?_⟩;obtain⟨r,pq,mr,e,h1⟩:=hX.ch i row hi j d hj
  cases cP:fl with
  |true=>exact .sc (h1.sc_inv (gb cP row (Qb2 _ (Rbi hi)) d (Rbi hj)))
  | false =>
   obtain⟨h2,h3⟩:=hM cP;refine h1.move hz _ M (by omega) fun b' t hb=>⟨?_,bg b' (jc b' (by rw[hb];simp)) fun r' qp od e' hh=>?_⟩
   ·rw[cF b' _ _ hb,oz r pq mr e,if_pos (by rw[Rba];exact List.prefix_append _ _),Rba,List.drop_left,xV]
    simp only[Qb6,List.length_singleton];by_cases ht:t.length<M
    ·rw[if_pos ht,if_pos (by omega)]
    ·rw[if_neg ht,if_neg (by omega)]
   ·rw[e]at e'
    obtain⟨rfl,rfl,rfl⟩:r=r'/\pq=qp/\mr=od:=by injection e' with e;injection e with e1 e;injection e with e2 e3;exact⟨e1,e2,e3⟩
    rw[hb]at hh
    injection hh with _ hh
    have:=congrArg List.length hh;simp at this
 have de:∀ i row,rb[i]?=some row->∀ j d,row[j]?=some d->w1.cell? (cb.add ((n+i)*sz+j))=some (oY i j)/\Rp own' w1 nr [(n+i)*sz+j] M (oY i j) d:=by
  intro i row hi j d hj;have gC:i<n':=by rw[<- mz.len];exact (List.getElem?_eq_some_iff.1 hi).1
  have fN:j<sz:=by
   have:=(List.getElem?_eq_some_iff.1 hj).1;rwa[mz.rows row (Rbi hi)]at this
  have ga:(n+i)*sz+j=n*sz+(i*sz+j):=by rw[Nat.add_mul];omega
  refine⟨hA.cell _ _ (by rw[ga,Rbl (by rw[mX];omega),mX,Rb1];exact xY oY gC fN),?_⟩;have jh:fl=true->d.isSc=true:=fun cP=>gb cP row (Qb5 _ (Rbi hi)) d (Rbi hj)
  rcases hYc i row hi j d hj with h1|⟨s,h1,h2,h3⟩|⟨h1,h2⟩
  ·exact .sc h1
  ·cases cP:fl with
   |true=>exact .sc (h3.sc_inv (jh cP))
   | false =>
    obtain⟨h4,h5⟩:=hM cP;obtain⟨h6,-,h7⟩:=hY.mv s h1;refine h3.move hz _ M (by omega) fun b' t hb=>⟨?_,bg b' (jc b' (by rw[hb];simp)) fun r' qp od e' hh=>?_⟩
    ·rw[cF b' _ _ hb]
     unfold Va6;rw[if_neg h7,if_pos h1];simp only[List.singleton_append];rw[xV,ga];simp only[List.length_cons];by_cases ht:t.length<M
     ·rw[if_pos ht,if_pos (by omega)]
     ·rw[if_neg ht,if_neg (by omega)]
    ·rw[hb]at hh
     injection hh with hh _
     exact py s h6 cP r' qp od e' hh
  ·cases cP:fl with
   |true=>exact .sc (h2.sc_inv (jh cP))
   | false =>
    obtain⟨h4,h5⟩:=hM cP;obtain rfl:M=0:=by omega
    refine .fz (h2.mono' fun b' hb hlt=>?_)
    rcases hb with hb|⟨r',p',h6,hb⟩
    ·exact hz b' hb hlt
    ·refine⟨by rw[cF b' _ _ hb,vr r' h6],bg b' hlt fun r'' qp od e' hh=>?_⟩
     rw[hb]at hh
     injection hh with hh _
     exact py r' (hY.fz r' h6).1 cP r'' qp od e' hh
 have bq:∀ {s:Nat} {c:aP},(kR s,c)∈(kR nr,aP.root y (M+1) 0 .live)::updX++da ->
   (s=nr/\c=.root y (M+1) 0 .live) \/
   (∃ pq mr X k,src=some (s,pq,mr)/\σ (kR s)=some (.root X mr k .live)/\(c=.root (.c .hole) 0 0 .gone\/∃ X',c=.root X' mr (k+1) .live/\Upd pq (X.val ρ) .hole (X'.val ρ)/\yG G.own w s [] (G.hdr s) pq vx/\pq.length<mr)) \/
   (iS=some s/\s∈ry/\c=.root (.c .hole) 0 0 .gone) \/
   (s∈gq/\s∈ry/\∃ x m v,c=.root x m v .frozen/\σ (kR s)=some (.root x m v .live)):=by
  intro s c hc
  rcases List.mem_append.1 hc with hc|hc
  ·rcases List.mem_cons.1 hc with hc|hc
   ·obtain⟨e1,e2⟩:=Prod.mk.inj hc
    exact .inl ⟨eD e1,e2⟩
   ·rcases hX.upd with ⟨-,h2⟩|⟨r,pq,mr,X,k,h1,h2,h3⟩
    ·rw[h2]at hc;simp at hc
    ·rcases h3 with ⟨h4,h5⟩|⟨X',h5,h6⟩
     ·rw[h5]at hc
      simp only[Rbb,Prod.mk.injEq]at hc;obtain⟨e1,e2⟩:=hc;obtain rfl:=eD e1;exact .inr (.inl ⟨pq,mr,X,k,h1,h2,.inl e2⟩)
     ·rw[h5]at hc
      simp only[Rbb,Prod.mk.injEq]at hc;obtain⟨e1,e2⟩:=hc;obtain rfl:=eD e1;exact .inr (.inl ⟨pq,mr,X,k,h1,h2,.inr ⟨X',e2,h6⟩⟩)
  ·obtain⟨s',e1,h1,h2⟩:=hY.upd _ _ hc
   obtain rfl:=eD e1
   rcases h2 with ⟨h2,h3,-⟩|⟨h2,x,m,an,h3,h4⟩
   ·exact .inr (.inr (.inl ⟨h2,h1,h3⟩))
   ·exact .inr (.inr (.inr ⟨h2,h1,x,m,an,h3,h4⟩))
 have gS:∀ r,(σ (kR r)).isSome->r≠nr:=fun r hr e=>by rw[e,fb]at hr;cases hr
 have oB:∀ s,s∈gq->fl=false:=fun s hs=>by
  cases cP:fl with
  |false=>rfl
  |true=>rw[(hY.flat cP).2.1]at hs;simp at hs
 refine⟨{ G with own:=own',hdr:=fun r=>if r=nr then v else G.hdr r },hR.own hd (f:=Va6 gq iS (n*sz) src nr (M+1)) (wr:=fun b'=>b'=cb.block/\grow=false/\A'≠none) ?_ ?_ ?_ ?_ ?_ ?_ ?_ ?_ ?_ ?_ ?_ rfl ?_ ?_⟩
 ·intro k c hc
  rcases List.mem_append.1 hc with hc|hc
  ·rcases List.mem_cons.1 hc with hc|hc
   ·exact⟨nr,(Prod.mk.inj hc).1⟩
   ·rcases hX.upd with ⟨-,h2⟩|⟨r,pq,mr,X,k',h1,h2,h3⟩
    ·rw[h2]at hc;simp at hc
    ·rcases h3 with ⟨h4,h5⟩|⟨X',h5,h6⟩<;>(rw[h5]at hc;simp only[Rbb,Prod.mk.injEq]at hc;exact⟨r,hc.1⟩)
  ·obtain⟨s',e1,-⟩:=hY.upd _ _ hc
   exact⟨s',e1⟩
 ·intro b' hlt
  show own' b'=_
  rw[<- ab];dsimp only;rw[if_neg (by omega)]
 ·intro b' hb
  rw[hA.size]at hb;show own' b'=.frz
  rw[<- ab];dsimp only;by_cases e:b'=w.heap.size
  ·rw[if_pos e]
   cases hg:grow with
   |true=>rw[hg]at hb;simp at hb;omega
   |false=>simp
  ·rw[if_neg e,hR.frame.fresh b' (by split at hb<;>omega)];rfl
 ·exact⟨hA.os.1,hA.os.2.1,hA.os.2.2,by rw[hA.size];omega⟩
 ·intro b' hb
  show own' b'=.frz\/∃ r p,own' b'=.slc r p/\_
  rw[<- ab];dsimp only;by_cases e:b'=w.heap.size
  ·rw[if_pos e]
   cases hg:grow with
   |true=>exact .inr ⟨nr,[],by simp,fb⟩
   |false=>exact .inl (by simp)
  ·rw[if_neg e,hR.frame.fresh b' hb];exact .inl rfl
 ·intro b' hlt hnw
  refine hA.heap b' hlt ?_
  cases hg:grow with
  |true=>exact .inl rfl
  | false =>
   by_cases bh:A'=none
   ·exact .inr (.inl bh)
   ·exact .inr (.inr fun e=>hnw ⟨e,hg,bh⟩)
 ·rintro b' ⟨rfl,hg,bh⟩
  obtain⟨r,pq,mr,h1,h2⟩:=uk hg bh;obtain⟨X,k,-,c,hc⟩:=lB r pq mr h1;exact⟨r,pq,h2,c,Qb2 _ (Rbd _ hc)⟩
 ·intro b' s p hb cU
  have h1:s∉gq:=fun hs=>by
   rcases (hY.fz s hs).2 with ⟨c,hc⟩|⟨x,m,an,h⟩
   ·exact cU c (Qb5 _ hc)
   ·exact (hR.root h).2 b' p hb
  have h2:iS≠some s:=fun hs=>by
   obtain⟨c,hc⟩:=(hY.mv s hs).2.1;exact cU c (Qb5 _ hc)
  unfold Va6;rw[if_neg h1,if_neg h2]
  cases mf:src with
  |none=>rfl
  | some x =>
   obtain⟨r,pq,mr⟩:=x;dsimp only;rw[if_neg];intro e;obtain⟨X,k,-,c,hc⟩:=lB r pq mr mf;exact cU c (Qb2 _ (Rbd _ (e▸hc)))
 ·intro s c hc _
  rcases bq hc with ⟨rfl,rfl⟩|⟨pq,mr,X,k,h1,h2,h3⟩|⟨h1,h2,rfl⟩|⟨h1,h2,x,m',an,rfl,h4⟩
  ·exact .inl ⟨fb,_,_,_,_,rfl⟩
  ·rcases h3 with rfl|⟨X',rfl,-⟩
   ·exact .inr (.inr (.inl ⟨_,_,_,_,rfl,by simp,by simp⟩))
   ·exact .inr (.inl ⟨_,_,_,_,_,h2,rfl⟩)
  ·exact .inr (.inr (.inl ⟨_,_,_,_,rfl,by simp,by simp⟩))
  ·refine .inr (.inr (.inr ⟨x,m',an,h4,rfl,fun b' p hb=>⟨?_,bg b' (jc b' (by rw[hb];simp)) fun r pq mr e hh=>?_⟩⟩))
   ·show own' b'=.frz
    rw[cF b' _ _ hb,vr s h1]
   ·rw[hb]at hh
    injection hh with hh _
    exact py s h2 (oB s h1) r pq mr e hh
 ·intro r0 x0 m0 k0 jk s p q hF
  have vw:=gS r0 (by rw[jk];rfl)
  have mh:∀ R M' q',xV R M' q'=.slc r0 q->R=r0:=by
   intro R M' q' h;unfold xV at h;split at h
   ·injection h
   ·cases h
  unfold Va6 at hF;split at hF
  ·cases hF
  ·split at hF
   ·split at hF
    ·exact absurd (mh _ _ _ hF).symm vw
    ·cases hF
   ·split at hF
    ·rename_i _ r pq mr
     split at hF
     ·split at hF
      ·exact absurd (mh _ _ _ hF).symm vw
      ·have:=mh _ _ _ hF
       subst this;obtain⟨X,k,h,-⟩:=lB r pq mr rfl;rw[h]at jk
       injection jk with e;injection e with _ _ _ e;cases e
     ·injection hF with h1 h2;exact⟨h1,h2⟩
    ·injection hF with h1 h2;exact⟨h1,h2⟩
 ·intro r hr
  show (if r=nr then _ else _)=_
  rw[if_neg (gS r hr)]
 ·intro _ _
  simp only[bU,aB,if_true];refine⟨trivial,dP _ _ _ (.inr ⟨_,Qb5 _ (Qb2 _ Rbj)⟩),by rw[hA.val];rfl⟩
 ·intro _ s c hc _
  rcases bq hc with ⟨rfl,rfl⟩|⟨pq,mr,X,k,h1,h2,h3⟩|⟨h1,h2,rfl⟩|⟨h1,h2,x,m',an,rfl,h4⟩
  ·refine⟨_,_,_,_,rfl,?_⟩
   simp only[bM,if_true];rw[hy,hA.val]
   have iu:∀ i row,(ra++rb)[i]?=some row->(i<n/\ra[i]?=some row)\/(n<=i/\rb[i-n]?=some row):=by
    intro i row hi;by_cases hlt:i<ra.length
    ·rw[Rbm hlt]at hi
     exact .inl ⟨by rw[<- hX.side.len];exact hlt,hi⟩
    ·rw[Rbl (by omega),hX.side.len]at hi
     exact .inr ⟨by rw[<- hX.side.len];omega,hi⟩
   refine .sl _ cb (n+n') ez sz _ (fun i j=>if i<n then vs i j else oY (i-n) j) (by simp[hX.side.len,mz.len]) hA.le hA.aval (fun row hr=>?_) (fun jb=>⟨hA.spot,?_,fun k hk=>hA.all k hk⟩) (fun i row hi j d hj=>?_) (fun i row hi j d hj=>?_)
   ·rcases List.mem_append.1 hr with hr|hr
    ·exact hX.side.rows _ hr
    ·exact mz.rows _ hr
   ·rcases hA.base with ⟨h1,-,h2⟩|⟨h1,-⟩|⟨-,h2⟩
    ·rw[<- ab]
     dsimp only;rw[if_pos h2,if_pos h1]
    rotate_left
    ·rw[h2]at jb;cases jb
    ·obtain⟨r,pq,mr,h2,h3⟩:=uk h1 (by rw[jb];simp)
     rw[cF _ _ _ h3,oz r pq mr h2,if_pos List.prefix_rfl];simp[xV]
   ·rcases iu i row hi with ⟨h1,h2⟩|⟨h1,h2⟩
    ·rw[if_pos h1];exact (hold i row h2 j d hj).1
    ·rw[if_neg (by omega)]
     have:=(de _ row h2 j d hj).1;rwa[show n+(i-n)=i by omega]at this
   ·rcases iu i row hi with ⟨h1,h2⟩|⟨h1,h2⟩
    ·rw[if_pos h1];exact (hold i row h2 j d hj).2
    ·rw[if_neg (by omega)]
     have:=(de _ row h2 j d hj).2;rwa[show n+(i-n)=i by omega]at this
  ·rcases h3 with rfl|⟨X',rfl,h4,h5,h6⟩
   ·exact⟨_,_,_,_,rfl,trivial⟩
   ·refine⟨_,_,_,_,rfl,?_⟩
    simp only[bM];rw[if_neg (gS s (by rw[h2];rfl))];have hr:=hR.root h2;simp only[bM]at hr;have:=Rp.upd (own':=own') (w':=w1) (r:=s) (M':=mr) (full:=pq) hz (fun b' t hb ht=>⟨?_,bg b' (jc b' (by rw[hb];simp)) fun r' qp od e' hh=>?_⟩) (by omega) (.hole _ (by rw[hX.side.val];rfl)) pq [] mr (G.hdr s) _ _ rfl (Rbg _) (by simpa using hr) h5 h4
    ·simpa using this
    ·rw[cF b' _ _ hb,oz s pq mr h1,if_neg ht]
     rfl
    ·rw[h1]at e'
     obtain⟨-,rfl,-⟩:s=r'/\pq=qp/\mr=od:=by injection e' with e;injection e with e1 e;injection e with e2 e3;exact⟨e1,e2,e3⟩
     rw[hb]at hh
     injection hh with _ hh
     exact ht (hh▸List.prefix_rfl)
  ·exact⟨_,_,_,_,rfl,trivial⟩
  ·refine⟨x,m',an,.frozen,rfl,?_,fun b' p hb=>?_⟩
   ·have:=hR.root h4
    simp only[bM]at this ⊢;rw[if_neg (gS s (by rw[h4];rfl))];refine this.rd.mono' fun b' hb hlt=>?_
    rcases hb with hb|⟨p,hb⟩
    ·exact hz b' hb hlt
    ·refine⟨by rw[cF b' _ _ hb,vr s h1],bg b' hlt fun r pq mr e hh=>?_⟩
     rw[hb]at hh
     injection hh with hh _
     exact py s h2 (oB s h1) r pq mr e hh
   ·have cr:own' b'=.slc s p:=hb
    have xd:=gS s (by rw[h4];rfl)
    have mh:∀ R M' q',R≠s->xV R M' q'≠.slc s p:=by
     intro R M' q' eu h;unfold xV at h;split at h
     ·injection h with h _;exact eu h
     ·cases h
    rcases Rbo b' w.heap.size with hlt|kn
    ·rw[<- ab]at cr
     dsimp only at cr;rw[if_neg (by omega)]at cr
     cases e:G.own b' with
     | slc s' p' =>
      rw[e]at cr;have hF:Va6 gq iS (n*sz) src nr (M+1) s' p'=.slc s p:=cr;unfold Va6 at hF;split at hF
      ·cases hF
      ·rename_i fL
       split at hF
       ·split at hF
        ·exact mh _ _ _ xd.symm hF
        ·cases hF
       ·split at hF
        ·rename_i _ r pq mr
         split at hF
         ·split at hF
          ·exact mh _ _ _ xd.symm hF
          ·exact mh _ _ _ (py s h2 (oB s h1) r pq mr rfl).symm hF
         ·injection hF with h5 _;exact fL (h5▸h1)
        ·injection hF with h5 _;exact fL (h5▸h1)
     |_=>rw[e]at cr;cases cr
    ·rw[<- ab]at cr
     dsimp only at cr;by_cases e:b'=w.heap.size
     ·rw[if_pos e]at cr
      split at cr
      ·injection cr with h5 _;exact xd h5.symm
      ·cases cr
     ·rw[if_neg e,hR.frame.fresh b' kn]at cr
      cases cr
end
section
variable {P:Program} {E:Env} {F:bE} {n:Nat} {σ:Nat->Option aP} {ρ:List D} {a:Act} {w w':World} {G G':Gh} {g:Option (aI×Bool)} {o:Oper} {cf:Nat->List D->Option (List D)} {Q:Exit->Act->World->Prop} {next:Act->World->Prop}
theorem Fbv {sz bytes:Nat}{fl:Bool}{x y:D}{ds:List D}(h:(aR.app sz bytes fl).run [x,y]=some ds) :
  ∃ ra rb,x=.rows sz ra/\y=.rows sz rb/\(fl=true->∀ r∈ra++rb,∀ d∈r,d.isSc=true)/\(ra.length+rb.length)*bytes<=iW/\ds=[.rows sz (ra++rb)]:=by
 cases x<;>cases y<;>simp only[aR.run]at h<;>first|cases h|skip
 rename_i s1 ra s2 rb;split at h
 ·rename_i h1
  obtain⟨rfl,rfl,h2,h3⟩:=h1;simp only[Option.some.injEq]at h;refine⟨ra,rb,rfl,rfl,fun hf=>?_,h3,h.symm⟩;rw[hf]at h2;simp only[Bool.not_true,Bool.false_or,Rbu]at h2;exact fun r hr d hd=>h2 r hr d hd
 ·cases h
theorem XOk.ofRp {v:Value}{ra:List (List D)}{sz md r mr:Nat}{pq:List Nat}{updX:List (Nat×aP)}(h:Rp G.own w r pq md v (.rows sz ra))(h1:1<=md){X:aI}{k:Nat}(hk:σ (kR r)=some (.root X mr k .live))
  (hu:(pq=[]/\updX=[(kR r,.root (.c .hole) 0 0 .gone)])\/(∃ X',updX=[(kR r,.root X' mr (k+1) .live)]/\Upd pq (X.val ρ) .hole (X'.val ρ)/\yG G.own w r [] (G.hdr r) pq v/\pq.length<mr)) :
  ∃ A b n cap vs,XOk σ ρ G w v ra sz md updX (some (r,pq,mr)) A b n cap vs:=by
 obtain⟨m',rfl⟩:∃ m',md=m'+1:=⟨md-1,by omega⟩;obtain⟨A,b,n,c,vs,e1,e2,e3,e4,e5,e6,e7,e8⟩:=h.sl_inv;refine⟨A,b,n,c,vs,⟨e1,e2,e3,e5,e7⟩,?_,fun hA=>⟨r,pq,mr,rfl,(e6 hA).2.1⟩,fun hA=>(e6 hA).2.2,fun i row hi j d hj=>⟨r,pq,mr,rfl,e8 i row hi j d hj⟩,h1,.inr ⟨r,pq,mr,X,k,rfl,hk,hu⟩⟩
 rcases e4 with e4|e4
 ·exact .inl ⟨e4,(e6 e4).1⟩
 ·exact .inr e4
theorem Fbw (hR:R E.ntmps F σ ρ a w G)(hd:eT E.ntmps o){nb nr nv:Nat}(hf:Cae σ nb nr){t tx e:TypeId}{ti:TI}{info:TypeInfo}{u u':TypeDesc}{x y:Operand}{args:Array Operand}{argTypes:Array TypeId}
  (ho:o.op=.call { callee:=.builtin .append,args,argTypes }) (cn:args.toList=[x,y]) (eA:argTypes=#[t,tx]) (hu:P.underlying t=some (.slice e)) (f:bX P e ti info u) (hx:P.underlying tx=some u') (nj:∃ e',u'=.slice e')
  (hb0:0<ti.bytes) (yg:0<ti.size) {ys:SlR} (ib:Va4 σ ρ G w ys (a.eval y)) {dy:Nat} {da:List (Nat×aP)} {ry:List Nat} (hY:(Sak (Ma2 ti.cells) ys).eval σ=some (dy,da,ry))
  {sx:aI} {m:Nat} {pre:List Step} {updX:List (Nat×aP)} (aj:aL cf ρ none nv (pre++[.prim (.app ti.size ti.bytes (Ma2 ti.cells)) [sx,ys.x] 1]))
  (hXs:∀ ra,sx.val ρ=.rows ti.size ra->∃ src A b n cap vs,XOk σ ρ G w (a.eval x) ra ti.size m updX src A b n cap vs/\∀ r pq mr,src=some (r,pq,mr)->r∉ry\/Ma2 ti.cells=true) :
  o.wp P a w (Nx E.ntmps F σ ρ (dL o none (.one (.ex nr))++((kR nr,.root (.v (nv+bF pre)) (bif Ma2 ti.cells then big else min m dy) 0 .live)::updX++da))) Q:=by
 obtain⟨-,jd⟩:=aL.append aj;obtain⟨d,h1,h2⟩:=Aa6 jd.1 (show gOn ρ none=true from rfl);simp only[Rbt,Rbz]at h1;obtain⟨ra,rb,e1,e2,e3,e4,e5⟩:=Fbv h1;simp only[List.cons.injEq,and_true]at e5;obtain⟨src,A,b,n,cap,vs,hX,jz⟩:=hXs ra e1;obtain⟨gq,iS,hYo⟩:=Lbr hR ib e2 (fun cP r hr d hd=>e3 cP r (Qb5 _ hr) d hd) hY;obtain⟨By,wy,n',iq,oY,mz,hYb,hYc⟩:=hYo.side;have jx:(kU vs n ti.size).length=n*ti.size:=mX _ _ _;have eN:(kU oY n' ti.size).length=n'*ti.size:=mX _ _ _;have sT:=Cas hX.side.rows hX.side.cell;have ny:=Cas mz.rows mz.cell;rw[hX.side.len]at sT;rw[mz.len]at ny
 have xq:∀ u∈kU oY n' ti.size,u.oneCell'=true:=by
  intro u hu;obtain⟨k,hk⟩:=List.mem_iff_getElem?.1 hu;obtain⟨k1,k2,k3,rfl⟩:=Dak hk;have hr:rb[k / ti.size]?=some (rb[k / ti.size]'(by rw[mz.len];exact k1)):=Qb3 _;have lg:=mz.rows _ (Rbi hr);have jh:(rb[k / ti.size]'(by rw[mz.len];exact k1))[k % ti.size]?=some _:=Qb3 (by rw[lg];exact k2)
  rcases hYc _ _ hr _ _ jh with h|⟨_,_,_,h⟩|⟨_,h⟩
  ·exact h.one
  ·exact h.one
  ·exact h.one
 have hM1:1<=(bif Ma2 ti.cells then big else min m dy):=by
  have:=hX.m;have:=hYo.dy
  cases Ma2 ti.cells with
  |true=>simp only[cond_true];unfold big;omega
  |false=>simp only[cond_false];omega
 have hM:Ma2 ti.cells=false->(bif Ma2 ti.cells then big else min m dy)<=m/\(bif Ma2 ti.cells then big else min m dy)<=dy:=fun h=>by
  rw[h,cond_false];omega
 have u9:(aI.v (nv+bF pre)).val ρ=.rows ti.size (ra++rb):=h2.trans e5;obtain⟨v,w1,A',cb,ez,grow,aw,hA⟩:=Ka5 (P:=P) (w:=w) (G:=G) (a:=a) (o:=o) ho cn eA hu f hx nj (A:=A) (n:=n) (cap:=cap) (n':=n') (b:=b) (olds:=kU vs n ti.size) (news:=kU oY n' ti.size) hX.side.val hX.side.le hX.base jx sT hX.all mz.val hYb eN ny xq hb0 yg (by rw[<- hX.side.len,<- mz.len];exact e4);exact mH aw (Cb7 hR hd hf hX hYo mz hYc hA e3 hM1 hM jz u9)
theorem Nax (hR:R E.ntmps F σ ρ a w G)(hd:eT E.ntmps o)(hti:uO P E.ti){nv nb nr:Nat}{mv b6:Bool}(hf:Cae σ nb nr){args:Array Operand}{argTypes:Array TypeId}(ho:o.op=.call { callee:=.builtin .append,args,argTypes })
    {x y:Operand} (cn:args.toList=[x,y]) {t ty:TypeId} {ti ei yi:TI} {e:Nat} (ht:argTypes[0]?=some t) (hty:argTypes[1]?=some ty) (hi:E.ti t=some ti) (he:ti.elem=some e) (qw:E.ti e=some ei) (qo:E.ti ty=some yi)
    (cR:(yi.elem.isSome&&Sbg 0 ei.size&&noG g&&Sbg 0 ei.bytes&&Nat.beq argTypes.size 2)=true) {lx ly:aO} (h1:(rdL E g t x).eval σ=some lx) (h2:(rdL E g ty y).eval σ=some ly) {res:bJ}
    (h:(Kas nv nr mv b6 o ei lx ly).eval σ=some res) (aj:aL cf ρ g nv res.lets):fV P E F σ ρ a w g o Q res.upd:=by
  simp only[Qb1,Rb4,Rbv]at cR;obtain⟨⟨⟨⟨a4j,b7⟩,uv⟩,vz⟩,lp⟩:=cR;obtain rfl:=vO uv;refine⟨fun hg=>?_,fun hg=>by simp[gOn]at hg⟩
  have eA:argTypes=#[t,ty]:=by
    apply Ubm;apply Tbu;intro k
    match k with
    |0=>simpa using ht
    |1=>simpa using hty
    |k+2=>simp[lp]
  obtain⟨i1,u1,f1⟩:=aU (hti.ok _ _ hi);obtain rfl:=pG f1 he;obtain⟨i2,u2,f2⟩:=aU (hti.ok _ _ qw);obtain⟨i3,u3,f3⟩:=aU (hti.ok _ _ qo);have hu3:=Har f3 a4j;have si:=eZ hR hg h1;have hly:=eZ hR hg h2;simp only[Kas,aA,Qb0]at h;obtain⟨ys,h3,⟨dy,da,ry⟩,h4,h⟩:=h;have ib:=dM hR h3 hly
  have fin:∀ {sx:aI} {m:Nat} {pre:List Step} {updX:List (Nat×aP)},(wX nv nr o ei ys dy da sx m pre updX).eval σ=some res ->
      (aL cf ρ none nv pre->∀ ra,sx.val ρ=.rows ei.size ra->∃ src A b n cap vs,XOk σ ρ G w (a.eval x) ra ei.size m updX src A b n cap vs/\∀ r pq mr,src=some (r,pq,mr)->r∉ry\/Ma2 ei.cells=true) ->
      o.wp P a w (Nx E.ntmps F σ ρ res.upd) Q:=by
    intro sx m pre updX cj hXs;simp only[wX,sH,aC,Option.some.injEq]at cj;subst cj;simp only[Eak];exact Fbw hR hd hf ho cn eA f1.und f2 f3.und hu3 vz b7 ib h4 aj (hXs (aL.append aj).1)
  dsimp only at h;split at h
  · rename_i p z
    refine fin h fun _ ra tz=>?_
    simp only[aI.val,D.rows.injEq]at tz;obtain⟨rfl,rfl⟩:=tz;simp only[aB]at si;have hv:=(si.2 (by simp)).2.1 trivial _ rfl;exact⟨none,none,⟨0,0,none⟩,0,0,fun _ _=>undef,⟨⟨hv,rfl,Rbg _,by simp,by simp⟩,.inr ⟨rfl,rfl⟩,by simp,by simp,by simp,by decide,.inl ⟨rfl,rfl⟩⟩,by simp⟩
  · simp only[aA,Qb0]at h
    obtain⟨s,h5,h⟩:=h;have hs:=dM hR h5 si;split at h
    · rename_i r k m q ab
      simp only[aA,aH,Qb0]at h;obtain⟨_,h6,h⟩:=h;split at h6
      case isFalse=>cases h6
      rename_i hb6;simp only[Qb1,Bool.or_eq_true,Rbp,Sbb]at hb6;have j0:=hs.own;unfold uI at j0;rw[ab]at j0;obtain⟨-,⟨X,hk⟩,j0⟩:=j0;have jz:r∉ry\/Ma2 ei.cells=true:=hb6.1.imp (fun h=>zP.1 h) id;split at h
      · refine fin h fun _ ra tz=>?_
        obtain⟨-,cA,-⟩:=j0;simp only[aZ,Rbz,List.length_nil,Nat.sub_zero]at cA;rw[tz]at cA;obtain⟨A,b,n,cap,vs,hX⟩:=XOk.ofRp (ρ:=ρ) cA hb6.2 hk (updX:=[(kR r,.root (.c .hole) 0 0 .gone)]) (.inl ⟨rfl,rfl⟩)
        exact ⟨_, A, b, n, cap, vs, hX, fun r' pq mr e => by obtain rfl : r = r' := by injection e with e; injection e
                                                             exact jz⟩
      · rw[gF]at h
        split at h
        · refine fin h fun _ ra tz=>?_
          have cA:Rp G.own w r [] m (a.eval x) (s.x.val ρ):=j0;rw[tz]at cA;obtain⟨A,b,n,cap,vs,hX⟩:=XOk.ofRp (ρ:=ρ) cA hb6.2 hk (updX:=[(kR r,.root (.c .hole) 0 0 .gone)]) (.inl ⟨rfl,rfl⟩)
          exact ⟨_, A, b, n, cap, vs, hX, fun r' pq mr e => by obtain rfl : r = r' := by injection e with e; injection e
                                                               exact jz⟩
        · cases h
      · rename_i q bh
        simp only[aA,aH,Qb0,aQ,Qb7]at h;obtain⟨_,h7,h⟩:=h;split at h7
        case isFalse=>cases h7
        rename_i oo;simp only[Qb1,Sbb,Rbp]at oo;rw[hk]at h;dsimp only at h;refine fin h fun bp ra tz=>?_
        obtain⟨hqm,cA,gu⟩:=j0;rw[tz]at cA;have jy:=Aa7 hg q nv X (.c .hole) bp;obtain⟨A,b,n,cap,vs,hX⟩:=XOk.ofRp (ρ:=ρ) cA (by omega) hk (.inr ⟨_,rfl,jy,gu,by simp[aZ];omega⟩)
        exact ⟨_, A, b, n, cap, vs, hX, fun r' pq mr e => by obtain rfl : r = r' := by injection e with e; injection e
                                                             exact jz⟩
      · cases h
      · cases h
    · cases h
end
section
variable {P:Program} {E:Env} {F:bE} {n:Nat} {σ:Nat->Option aP} {ρ:List D} {a:Act} {w w':World} {G G':Gh} {g:Option (aI×Bool)} {o:Oper} {cf:Nat->List D->Option (List D)} {Q:Exit->Act->World->Prop} {next:Act->World->Prop}
theorem Ia0:∀ {cs:List CK} {zs:List D},Ia1 cs=some zs->zs.length=cs.length/\∀ (j:Nat) (c:CK) (d:D),cs[j]?=some c->zs[j]?=some d->∀ (v:Value),zeroCell v c=true->∀ (own:Nat->Ow) (r:Nat) (p:List Nat) (m:Nat),Rp own w r p m v d
 | [], zs, h => by
  simp only[Ia1,Option.some.injEq]at h;subst h;simp
 | c :: cs, zs, h => by
  have main:∀ (d0:D),(Ia1 cs).map (d0::·)=some zs->(∀ v,zeroCell v c=true->∀ (own:Nat->Ow) (r:Nat) (p:List Nat) (m:Nat),Rp own w r p m v d0) ->
    zs.length=(c::cs).length/\∀ (j:Nat) (c':CK) (d:D),(c::cs)[j]?=some c'->zs[j]?=some d->∀ (v:Value),zeroCell v c'=true->∀ (own:Nat->Ow) (r:Nat) (p:List Nat) (m:Nat),Rp own w r p m v d:=by
   intro d0 h0 vf;simp only[Rbc]at h0;obtain⟨zs',h1,rfl⟩:=h0;obtain⟨h2,h3⟩:=Ia0 h1;refine⟨by simp[h2],fun j c' d hc hd v hv own r p m=>?_⟩
   cases j with
   | zero =>
    simp only[Qb9,Option.some.injEq]at hc hd;subst hc hd;exact vf v hv own r p m
   |succ j=>exact h3 j c' d (by simpa using hc) (by simpa using hd) v hv own r p m
  have hz:∀ v,zeroCell v c=true->aB (fun _=>none) [] ⟨fun _=>.frz,fun _=>undef,fun _=>⟨0,0,none⟩⟩ w (fA c) v:=fun v hv=>Kan hv
  cases c with
  | sc z =>
   refine main z h fun v hv own r p m=>?_
   have:=hz v hv;simp only[fA,aB,aI.val]at this;exact .sc this
  | sl sz =>
   refine main (.rows sz []) h fun v hv own r p m=>?_
   have:=hz v hv;simp only[fA,aB,aI.val]at this;rw[(this.2 (by simp)).2.1 trivial sz rfl];exact Rp.nil
  |pn=>cases h
  |ot=>cases h
theorem Fa7 (hR:R E.ntmps F σ ρ a w G)(hd:eT E.ntmps o)(hti:uO P E.ti){nv nb nr:Nat}{mv b6:Bool}(hf:Cae σ nb nr){t:TypeId}{l c:Operand}(ho:o.op=.makeSlice t l c){res:bJ}
  (h:(oJ E mv b6 nv nb nr g o).eval σ=some res) (aj:aL cf ρ g nv res.lets):fV P E F σ ρ a w g o Q res.upd:=by
 simp only[oJ,ho,aA,Qb0,tiR,aT,aH]at h;obtain⟨st,h1,e,h2,ti,h3,_,h4,xl,h5,xc,h6,_,h7,zs,h8,h⟩:=h;split at h4
 case isFalse=>cases h4
 rename_i uv;obtain rfl:=vO uv;split at h7
 case isFalse=>cases h7
 rename_i oo;simp only[Qb1,Rb4]at oo;obtain⟨⟨hxx,b7⟩,vz⟩:=oo;obtain rfl:=aI.beq0_eq hxx;obtain⟨info,u,f⟩:=aU (hti.ok _ _ h1);obtain rfl:=pG f h2;obtain⟨fe,u',f'⟩:=aU (hti.ok _ _ h3);simp only[sH,aC,Option.some.injEq]at h;subst h;simp only[Eak];refine⟨fun hg=>?_,fun hg=>by simp[gOn]at hg⟩;obtain⟨d,cI,mj⟩:=fF aj hg;have hl:=iO hR hg h5;have hc:=iO hR hg h6;simp only[Rbt,Rbz]at cI;generalize x4:xl.val ρ=xv at cI hl hc;cases xv<;>simp only[aR.run]at cI<;>first|cases cI|skip
 rename_i k len;split at cI
 case isFalse=>cases cI
 rename_i hlen;obtain⟨h0,hbound⟩:=hlen;simp only[Option.some.injEq,List.cons.injEq,and_true]at cI;obtain⟨z,ji,lv,-,yu⟩:=f'.zeros (σ:=σ) (ρ:=ρ) (G:=G) (w:=w);obtain⟨uj,qg⟩:=Ia0 (w:=pushB w (madeCells z.cells (len.toNat*fe.size)) e) h8;have eV:=f'.len;have qc:z.cells.size=ti.size:=by rw[<- Tbm,lv.len,Rbh,eV]
 have hlt:len.toNat*1<=len.toNat*ti.bytes:=Nat.mul_le_mul_left _ vz;unfold iW at hbound
 have aw:(execOp a.eval o).run P w=.ok (.value (.slice (some ⟨w.heap.size,0,none⟩) len.toNat len.toNat)) (pushB w (madeCells z.cells (len.toNat*fe.size)) e):=by
  unfold execOp;simp only[ho];refine fC ?_;rw[hl.int_inv,hc.int_inv]
  have kf:(fe.bytes:Int)*len<=281474976710656:=by
   rw[<- f'.bytes];have:((ti.bytes*len.toNat:Nat):Int)<=281474976710656:=by rw[Uba]at hbound;omega
   rw[Int.natCast_mul]at this;rwa[show ((len.toNat:Nat):Int)=len by omega]at this
  exact run_make w t e fe z f.und f'.info_ ji k k len len h0 (Int.le_refl _) kf (by omega)
 have fb:σ (kR nr)=none:=hf.nr nr (Rbg _) (by unfold bP;omega);have gS:∀ r,(σ (kR r)).isSome->r≠nr:=fun r hr e=>by rw[e,fb]at hr;cases hr
 have jc:∀ b,G.own b≠.frz->b<w.heap.size:=fun b hb=>by
  rcases Rbo b w.heap.size with h|h
  ·exact h
  ·exact absurd (hR.frame.fresh b h) hb
 refine mH aw ⟨{ G with own:=fun b=>if b=w.heap.size then .slc nr [] else G.own b,hdr:=fun r=>if r=nr then .slice (some ⟨w.heap.size,0,none⟩) len.toNat len.toNat else G.hdr r },?_⟩;refine hR.own hd (wr:=fun _=>False) (f:=fun s p=>.slc s p) ?_ ?_ ?_ ?_ ?_ (fun b hlt _=>kL (by omega)) (fun _ h=>h.elim) (fun _ _ _ _ _=>rfl) ?_ (fun _ _ _ _ _ s p q h=>by injection h with h1 h2;exact⟨h1,h2⟩) ?_ rfl ?_ ?_
 ·intro k c hc
  simp only[Rbb,Prod.mk.injEq]at hc;exact⟨nr,hc.1⟩
 ·intro b hlt
  show (if b=w.heap.size then Ow.slc nr [] else _)=_
  rw[if_neg (by omega)];cases hb:G.own b<;>rfl
 ·intro b hb
  rw[kC]at hb;show (if b=w.heap.size then Ow.slc nr [] else G.own b)=.frz
  rw[if_neg (by omega)];exact hR.frame.fresh b (by omega)
 ·exact⟨rfl,rfl,rfl,by rw[kC];omega⟩
 ·intro b hb
  show (if b=w.heap.size then Ow.slc nr [] else G.own b)=.frz\/∃ r p,(if b=w.heap.size then Ow.slc nr [] else G.own b)=.slc r p/\_
  by_cases e:b=w.heap.size
  ·rw[if_pos e];exact .inr ⟨nr,[],rfl,fb⟩
  ·rw[if_neg e];exact .inl (hR.frame.fresh b hb)
 ·intro s c hc _
  simp only[Rbb,Prod.mk.injEq]at hc;obtain⟨e1,rfl⟩:=hc;obtain rfl:=eD e1;exact .inl ⟨fb,_,_,_,_,rfl⟩
 ·intro r hr
  show (if r=nr then _ else _)=_
  rw[if_neg (gS r hr)]
 ·intro _ _
  simp only[bU,aB,if_true];exact⟨trivial,dP _ _ _ (.inr ⟨_,Qb5 _ (List.mem_singleton.2 rfl)⟩),rfl⟩
 ·intro _ s c hc _
  simp only[Rbb,Prod.mk.injEq]at hc;obtain⟨e1,rfl⟩:=hc;obtain rfl:=eD e1;refine⟨_,_,_,_,rfl,?_⟩;simp only[bM,if_true];rw[mj,<- cI];have nc:zs.length=ti.size:=by rw[uj,eV]
  have jl:∀ k,k<len.toNat*ti.size->(madeCells z.cells (len.toNat*fe.size))[k]?=z.cells[k % ti.size]?:=by
   intro k hk;unfold madeCells;rw[Dbo _ (by omega) _ _ (by rw[<- f'.size];exact hk),qc]
  have ga:∀ i row,(Rbf len.toNat zs)[i]?=some row->∀ j d,row[j]?=some d->i<len.toNat/\row=zs/\j<ti.size/\i*ti.size+j<len.toNat*ti.size/\(i*ti.size+j) % ti.size=j:=by
   intro i row hi j d hj;rw[List.getElem?_replicate]at hi;split at hi
   case isFalse=>cases hi
   rename_i gC;obtain rfl:=Option.some.inj hi;have fN:j<ti.size:=by rw[<- nc];exact (List.getElem?_eq_some_iff.1 hj).1
   have:=Nat.mul_le_mul_right ti.size (show i+1<=len.toNat by omega);rw[Nat.add_mul]at this;exact⟨gC,rfl,fN,by omega,by rw[Uba,Nat.mul_add_mod,Nat.mod_eq_of_lt fN]⟩
  refine .sl _ ⟨w.heap.size,0,none⟩ len.toNat len.toNat zs.length _ (fun i j=>z.cells[j]!) (by simp) (Rbg _) (.inl rfl) (fun row hr=>?_) (fun _=>⟨rfl,by simp,fun k hk=>?_⟩) (fun i row hi j d hj=>?_) (fun i row hi j d hj=>?_)
  ·rw[List.eq_of_mem_replicate hr]
  ·rw[nc]at hk
   rw[mW,vI,jl k hk];have ox:k % ti.size<z.cells.size:=by rw[qc];exact Nat.mod_lt _ b7
   exact⟨_,Rb0 ox,rfl⟩
  ·obtain⟨i1,rfl,i3,i4,i5⟩:=ga i row hi j d hj
   rw[mW,nc,jl _ i4,i5,getElem!_pos z.cells j (by omega),Rb0]
  ·obtain⟨i1,rfl,i3,i4,i5⟩:=ga i row hi j d hj
   have cQ:ti.cells[j]?=some ti.cells[j]:=Qb3 (by omega);exact qg j _ d cQ hj _ (yu j _ _ (by rw[getElem!_pos z.cells j (by omega),Rb0]) cQ) _ _ _ _
theorem Qar (hR:R E.ntmps F σ ρ a w G)(hd:eT E.ntmps o)(hti:uO P E.ti){nv:Nat}{args:Array Operand}{argTypes:Array TypeId}(ho:o.op=.call { callee:=.builtin .clear,args,argTypes })
  {x:Operand} (cn:args.toList=[x]) {t e:TypeId} {ti ei:TI} (ht:argTypes[0]?=some t) (hi:E.ti t=some ti) (he:ti.elem=some e) (qw:E.ti e=some ei) (cR:(noG g&&Nat.beq argTypes.size 1)=true) {l:aO} (hl:(rdL E g t x).eval σ=some l) {res:bJ}
  (h:(Qai nv o ei l).eval σ=some res) (aj:aL cf ρ g nv res.lets):fV P E F σ ρ a w g o Q res.upd:=by
 simp only[Qb1,Rbv]at cR;obtain rfl:=vO cR.1
 have eA:argTypes=#[t]:=by
  apply Ubm;apply Tbu;intro k
  match k with
  |0=>simpa using ht
  |k+1=>simp[cR.2]
 simp only[Qai,aA,Qb0]at h;obtain⟨s,h1,h⟩:=h;split at h
 case h_2=>cases h
 rename_i r k m sz lo ab;simp only[aA,aH,Qb0,aQ,Qb7]at h;obtain⟨_,h2,h⟩:=h;split at h2
 case isFalse=>cases h2
 rename_i hb;simp only[Qb1,Rbv,Sbb]at hb;obtain⟨⟨rfl,a2d⟩,ko⟩:=hb;split at h
 case h_2=>cases h
 rename_i X m' an hk;simp only[aC,Option.some.injEq]at h;subst h;refine⟨fun hg=>?_,fun hg=>by simp[gOn]at hg⟩;obtain⟨i1,u1,f1⟩:=aU (hti.ok _ _ hi);obtain rfl:=pG f1 he;obtain⟨i2,u2,f2⟩:=aU (hti.ok _ _ qw);have si:=eZ hR hg hl;have dj:=dM hR h1 si;have j0:=dj.own;unfold uI at j0;rw[ab]at j0;obtain⟨-,⟨X0,ia⟩,hsuf⟩:=j0;rw[hk]at ia
 obtain⟨rfl,rfl,rfl⟩:X=X0/\m'=m/\an=k:=by
  injection ia with e;injection e with e1 e2 e3 e4;exact⟨e1,e2,e3⟩
 have cw:=hR.root hk;simp only[bM]at cw;obtain⟨d,cI,mj⟩:=fF aj hg;simp only[Rbt,Rbz]at cI
 obtain⟨rs,ki,L,eX,eL,hL0,ed⟩:∃ rs ki L,X.val ρ=.rows 1 rs/\lo.val ρ=.int ki L/\0<=L/\d=.rows 1 (rs.take L.toNat++(rs.drop L.toNat).map fun r=>r.map fun _=>.hole):=by
  cases eX:X.val ρ<;>cases eL:lo.val ρ<;>rw[eX,eL]at cI<;>simp only[aR.run]at cI<;>first|cases cI|skip
  split at cI
  ·rename_i hc
   obtain⟨rfl,hc⟩:=hc;simp only[Option.some.injEq,List.cons.injEq,and_true]at cI;exact⟨_,_,_,rfl,rfl,hc,cI.symm⟩
  ·cases cI
 have ga:kF ρ lo=L.toNat:=by unfold kF;rw[eL]
 dsimp only at hsuf;rw[ga]at hsuf;rw[eX]at cw;obtain⟨md,rfl⟩:∃ md,m'=md+1:=⟨m'-1,by omega⟩;obtain⟨A,b,n,c,vs,j1,j2,j3,j4,j5,j6,j7,j8⟩:=cw.sl_inv;obtain⟨A',n',c',k1,k2,k3⟩:=hsuf;rw[j1]at k1;obtain⟨rfl,rfl,rfl⟩:A=A'/\n=n'/\c=c':=by injection k1 with a b c;exact⟨a,b,c⟩
 obtain⟨z,ji,lv,yu,-⟩:=f2.zeros (σ:=σ) (ρ:=ρ) (G:=G) (w:=w);have uj:z.cells.size=1:=by rw[<- Tbm,lv.len,Rbh,f2.len,a2d]
 generalize hZ:(Builtin.zeroCells z.cells (n-L.toNat)).toList=Z;have hZl:Z.length=n-L.toNat:=by rw[<- hZ];simp[Builtin.zeroCells,uj]
 have yf:∀ u∈Z,u.oneCell'=true:=by
  intro u hu;rw[<- hZ,Builtin.zeroCells,Array.mem_toList_iff,Array.mem_map]at hu;obtain⟨i,hi,rfl⟩:=hu;have hlt:i % z.cells.size<z.cells.size:=Nat.mod_lt _ (by omega);rw[getElem!_pos z.cells _ hlt];exact yu _ (Array.getElem_mem_toList hlt)
 have fY:∀ {v:Value} {w1:World},(Builtin.clear_ #[t] o.type #[a.eval x]).run P w=.ok v w1->(execOp a.eval o).run P w=.ok (.value v) w1:=by
  intro v w1 h;refine lG ho (s:=Builtin.clear_ argTypes o.type (args.map a.eval)) (fun _=>rfl) ?_;rw[Mao cn,Qa7,eA];exact h
 rw[k3]at fY
 obtain⟨w',aw,hw⟩:∃ w',(execOp a.eval o).run P w=.ok (.value (.tuple #[])) w'/\((n=L.toNat/\w'=w)\/(L.toNat<n/\A=some b/\w'=w.setCells b.block (b.off+L.toNat) Z)):=by
  rcases Rbo L.toNat n with hlt|kn
  ·obtain rfl:A=some b:=by
    rcases j4 with h|⟨-,h⟩
    ·exact h
    ·omega
   obtain⟨fg,jf,br⟩:=j6 rfl
   have bk:∀ j,j<Z.length->∃ u,w.cell? ⟨b.block,b.off+L.toNat+j,none⟩=some u/\w.frozen? ⟨b.block,b.off+L.toNat+j,none⟩=false:=fun j hj=>by
    have:=br (L.toNat+j) (by omega);rw[add_plain fg,<- Rbn]at this;exact this
   have aj:=run_storeCells_cells (P:=P) b.block (b.off+L.toNat) Z 0 w (fun j hj=>by obtain⟨u,h1,-⟩:=bk j hj;rw[Rbx,h1];rfl) (fun j hj=>by rw[Rbx];exact (bk j hj).choose_spec.2) yf;refine⟨_,fY ?_,.inr ⟨hlt,rfl,rfl⟩⟩;obtain⟨q,hq⟩:∃ q,n-L.toNat=q+1:=⟨n-L.toNat-1,by omega⟩;rw[if_neg (by omega),hq];rw[hq]at hZ;simp only[Option.map_some,Nat.mul_one,add_plain fg];simp only[Rbx]at aj;simp[Builtin.clear_,run_underlying f1.und,kK f2.info_ ji,hZ,aj]
  ·refine⟨w,fY ?_,.inl ⟨by omega,rfl⟩⟩
   have e0:n-L.toNat=0:=by omega
   rw[e0];simp only[Builtin.clear_];cases (if c=L.toNat then A else A.map (·.add (L.toNat*1)))<;>simp[run_underlying f1.und]
 have iw:w'.os=w.os/\w'.tape=w.tape/\w'.output=w.output/\w.heap.size<=w'.heap.size:=by
  rcases hw with ⟨-,rfl⟩|⟨-,-,rfl⟩
  ·exact⟨rfl,rfl,rfl,Rbg _⟩
  ·obtain⟨q1,q2,q3⟩:=gV b.block Z (b.off+L.toNat) w
   exact⟨q1,q2,q3,by rw[setCells_size];exact Rbg _⟩
 have lp:w'.heap.size=w.heap.size:=by
  rcases hw with ⟨-,rfl⟩|⟨-,-,rfl⟩
  ·rfl
  ·rw[setCells_size]
 have bg:∀ b',¬ (A=some b/\b'=b.block)->w'.heap[b']?=w.heap[b']?:=by
  intro b' cr
  rcases hw with ⟨-,rfl⟩|⟨-,hA,rfl⟩
  ·rfl
  ·exact bY _ _ _ _ _ fun e=>cr ⟨hA,e⟩
 refine mH aw ⟨G,?_⟩
 have cj:=hR.own (o:=o) hd (g:=none) (sv:=.dead) (v:=.tuple #[]) (w':=w') (G':=G) (ur:=[(kR r,.root (.v nv) (md+1) (an+1) .live)]) (f:=fun s p=>.slc s p) (wr:=fun b'=>A=some b/\b'=b.block)
  ?_ (fun b' _=>by cases hb:G.own b'<;>rfl) (fun b' hb=>hR.frame.fresh b' (by omega)) iw (fun b' hb=>.inl (hR.frame.fresh b' hb)) (fun b' _ hb=>bg b' hb) ?_ (fun _ _ _ _ _=>rfl) ?_ (fun _ _ _ _ _ s p q h=>by injection h with h1 h2;exact⟨h1,h2⟩) (fun _ _=>rfl) rfl (fun _ _=>trivial) ?_
 ·exact cj
 ·intro k' c' hc
  exact⟨r,(Prod.mk.inj (List.mem_singleton.1 hc)).1⟩
 ·rintro b' ⟨hA,rfl⟩
  exact⟨r,[],(j6 hA).2.1,_,List.mem_singleton.2 rfl⟩
 ·intro s' c' hc _
  obtain⟨e1,rfl⟩:=Prod.mk.inj (List.mem_singleton.1 hc);obtain rfl:=eD e1;exact .inr (.inl ⟨_,_,_,_,_,hk,rfl⟩)
 ·intro _ s' c' hc _
  obtain⟨e1,rfl⟩:=Prod.mk.inj (List.mem_singleton.1 hc);obtain rfl:=eD e1;refine⟨_,_,_,_,rfl,?_⟩;simp only[bM];rw[mj,ed,j1]
  have et:∀ k u,w.cell? (b.add k)=some u->A=some b->(k<L.toNat->w'.cell? (b.add k)=some u)/\(∃ u',w'.cell? (b.add k)=some u')/\w'.frozen? (b.add k)=w.frozen? (b.add k):=by
   intro k u hc hA;obtain⟨fg,jf,br⟩:=j6 hA
   rcases hw with ⟨-,rfl⟩|⟨hlt,-,rfl⟩
   ·exact⟨fun _=>hc,⟨u,hc⟩,rfl⟩
   ·refine⟨fun hk=>?_,?_,World.frozen?_setCells _ _ _ _ _⟩
    ·rw[add_plain fg]at hc ⊢
     rw[World.cell?_setCells_out _ _ _ _ _ (fun _ _=>.inl (by dsimp only;omega))];exact hc
    ·exact jB (fun _=>by rw[add_plain fg]) (fun j hj=>by
      obtain⟨u',h1,-⟩:=br (L.toNat+j) (by omega);rw[add_plain fg,<- Rbn]at h1;rw[h1];rfl) hc
  have tD:∀ i,i<n->A=some b:=fun i hi=>by
   rcases j4 with h|⟨-,h⟩
   ·exact h
   ·omega
  have dt:∀ i row,(rs.take L.toNat++(rs.drop L.toNat).map fun r=>r.map fun _=>D.hole)[i]?=some row->(i<L.toNat/\rs[i]?=some row)\/(L.toNat<=i/\∃ row0,rs[i]?=some row0/\row=row0.map fun _=>D.hole):=by
   intro i row hi;have jx:(rs.take L.toNat).length=L.toNat:=by rw[Rbq];omega
   rcases Rbo i L.toNat with hlt|kn
   ·rw[Rbm (by omega),List.getElem?_take,if_pos hlt]at hi
    exact .inl ⟨hlt,hi⟩
   ·rw[Rbl (by omega),jx,Rbr,Rbc]at hi
    obtain⟨row0,h1,rfl⟩:=hi;rw[List.getElem?_drop,show L.toNat+(i-L.toNat)=i by omega]at h1;exact .inr ⟨kn,row0,h1,rfl⟩
  refine .sl A b n c 1 _ (fun i j=>if i<L.toNat then vs i j else (w'.cell? (b.add (i*1+j))).getD undef) ?_ j3 j4 ?_ (fun hA=>?_) (fun i row hi j d hj=>?_) (fun i row hi j d hj=>?_)
  ·rw[Qb6,Rbq,Rbh,List.length_drop];omega
  ·intro row hr
   obtain⟨i,hi⟩:=List.mem_iff_getElem?.1 hr
   rcases dt i row hi with ⟨-,h⟩|⟨-,row0,h,rfl⟩
   ·exact j5 row (Rbi h)
   ·rw[Rbh];exact j5 row0 (Rbi h)
  ·obtain⟨fg,jf,br⟩:=j6 hA
   refine⟨fg,jf,fun k hk=>?_⟩;obtain⟨u,hu,hf⟩:=br k hk;obtain⟨-,⟨u',h1⟩,h2⟩:=et k u hu hA;exact⟨u',h1,h2.trans hf⟩
  ·rcases dt i row hi with ⟨hlt,h⟩|⟨kn,row0,h,rfl⟩
   ·rw[if_pos hlt]
    have fN:j<1:=by rw[<- j5 row (Rbi h)];exact (List.getElem?_eq_some_iff.1 hj).1
    exact (et _ _ (j7 i row h j d hj) (tD i (by rw[<- j2];exact (List.getElem?_eq_some_iff.1 h).1))).1 (by omega)
   ·rw[if_neg (by omega)]
    rw[Rbr,Rbc]at hj;obtain⟨d0,hj,-⟩:=hj;obtain⟨-,⟨u',h1⟩,-⟩:=et _ _ (j7 i row0 h j d0 hj) (tD i (by rw[<- j2];exact (List.getElem?_eq_some_iff.1 h).1));rw[h1];rfl
  ·rcases dt i row hi with ⟨hlt,h⟩|⟨kn,row0,h,rfl⟩
   ·rw[if_pos hlt]
    have h1:=j8 i row h j d hj;have:=h1.mono' (own':=G.own) (w':=w') (r':=s') (q:=[i*1+j]) (q':=[i*1+j]) (fun b' hb _=>⟨hb,bg b' fun ⟨hA,e⟩=>by rw[e,(j6 hA).2.1]at hb;cases hb⟩) [] (by simp) (fun b' t' hb=>⟨hb,bg b' fun ⟨hA,e⟩=>by rw[e,(j6 hA).2.1]at hb;injection hb with _ hb;simp at hb⟩);simpa using this
   ·rw[if_neg (by omega)]
    rw[Rbr,Rbc]at hj;obtain⟨d0,hj,rfl⟩:=hj;refine .hole _ ?_;have gC:i<n:=by rw[<- j2];exact (List.getElem?_eq_some_iff.1 h).1
    have hA:=tD i gC
    rcases hw with ⟨hn,-⟩|⟨hlt,-,rfl⟩
    ·omega
    ·obtain⟨fg,jf,br⟩:=j6 hA
     have fN:j<1:=by rw[<- j5 row0 (Rbi h)];exact (List.getElem?_eq_some_iff.1 hj).1
     have mC:i-L.toNat<Z.length:=by omega
     have:=World.cell?_setCells_in b.block Z (b.off+L.toNat) w (fun j hj=>by obtain⟨u,h1,-⟩:=br (L.toNat+j) (by omega);rw[add_plain fg,<- Rbn]at h1;rw[h1];rfl) (i-L.toNat) mC;rw[show b.off+L.toNat+(i-L.toNat)=b.off+(i*1+j) by omega]at this;rw[add_plain fg,this];exact yf _ (List.getElem_mem mC)
end
section
variable {P:Program} {E:Env} {F:bE} {n:Nat} {σ:Nat->Option aP} {ρ:List D} {a:Act} {w w':World} {G G':Gh} {g:Option (aI×Bool)} {o:Oper} {cf:Nat->List D->Option (List D)} {Q:Exit->Act->World->Prop} {next:Act->World->Prop}
theorem Fa6 (hR:R E.ntmps F σ ρ a w G)(hti:uO P E.ti){nv nb nr:Nat}{mv b6:Bool}{t:TypeId}{x y:Operand}(ho:o.op=.store t x y){res:bJ}
  (h:(oJ E mv b6 nv nb nr g o).eval σ=some res) (aj:aL cf ρ g nv res.lets):fV P E F σ ρ a w g o Q res.upd:=by
 simp only[oJ,ho,aA,Qb0,tiR,aT]at h;obtain⟨ti,h1,p,h2,sv,h3,h⟩:=h;split at h
 case h_2=>cases h
 rename_i ls oh;have hx:gOn ρ g=true->aB σ ρ G w p (a.eval x):=fun hg=>eZ hR hg h2
 have hy:gOn ρ g=true->bU σ ρ G w sv (a.eval y):=fun hg=>fG hR hg h3
 cases p with
 |px b off=>exact Iai hR hti ho h1 hx hy oh h
 |pe l sz i off=>exact Iaj hR hti ho h1 hx hy oh h aj
 | _ =>
  simp only[Caj,aA,aH,Qb0,bK]at h;obtain⟨_,_,h⟩:=h;cases h
theorem Ea6 (hR:R E.ntmps F σ ρ a w G)(hd:eT E.ntmps o)(hti:uO P E.ti){nv nb nr:Nat}{mv b6:Bool}(hf:Cae σ nb nr){res:bJ}
  (h:(oJ E mv b6 nv nb nr g o).eval σ=some res) (aj:aL cf ρ g nv res.lets)
  (eM:∀ f args argTypes,o.op=.call { callee:=.value f,args,argTypes }->fV P E F σ ρ a w g o Q res.upd):fV P E F σ ρ a w g o Q res.upd:=by
 have h0:=h
 cases ho:o.op with
 | move x =>
  simp only[oJ,ho]at h;exact Jaf hR hd (.inl ho) h aj
 | assign x =>
  simp only[oJ,ho]at h;exact Jaf hR hd (.inr ho) h aj
 | pick c x y =>
  simp only[oJ,ho]at h;exact Uap hR hd ho h aj
 |alloc e=>exact Qat hR hd hti hf ho h aj
 |box e x=>exact Wam hR hd hti hf ho h aj
 |build t parts=>exact Qas hR hd hti ho h aj
 |buildSlice t len parts=>exact tY hR hd hti (hf.nr nr (Rbg _) (by unfold bP;omega)) ho h aj
 | load t x =>
  simp only[oJ,ho,aA,Qb0,tiR,aT]at h;obtain⟨ti,h1,p,h2,h⟩:=h;exact Uaq hR hd hti ho h1 (fun hg=>eZ hR hg h2) h aj
 |store t x y=>exact Fa6 hR hti ho h aj
 | nilCheck x =>
  simp only[oJ,ho]at h;exact Iak hR hd ho h aj
 | binOp op t x y ty =>
  by_cases h1:op=.eql
  ·subst h1
   simp only[oJ,ho]at h;exact Sau hR hd hti ho rfl h aj
  ·by_cases h2:op=.neq
   ·subst h2
    simp only[oJ,ho]at h;exact Sau hR hd hti ho rfl h aj
   ·have h':(do
      let a <- rdA E g t x
      let b <- rdA E g ty y
      sG o g nv (.bin op) [a,b]:RdM bJ).eval σ=some res:=by
     simp only[oJ,ho]at h;cases op<;>first|exact h|(exact absurd rfl h1)|(exact absurd rfl h2)
    simp only[aA,Qb0]at h';obtain⟨x',h3,y',h4,h5⟩:=h';exact Naw hR hd ho (fun hg=>iO hR hg h3) (fun hg=>iO hR hg h4) h5 aj
 | unOp op t x =>
  simp only[oJ,ho]at h;exact Ab9 hR hd ho h aj
 | convert src dst x =>
  simp only[oJ,ho,aA,Qb0,tiR,aT]at h;obtain⟨s,h1,d,h2,h⟩:=h;split at h
  ·rename_i k hk
   simp only[aA,Qb0,aH]at h;obtain⟨_,h3,x',h4,h⟩:=h;split at h3
   case isFalse=>cases h3
   rename_i hs;exact Uar hR hd hti ho h1 hs h2 hk h4 h aj
  ·rw[gF]at h
   split at h
   case isFalse=>cases h
   rename_i wz;rw[gF]at h;split at h
   ·rename_i hsS
    simp only[aA,Qb0]at h;obtain⟨x',h4,h⟩:=h;exact Nau hR hd hti ho h1 hsS h2 wz h4 h aj
   ·simp only[aA,Qb0,aH,aT]at h
    obtain⟨e,h3,ei,h4,_,h5,l,h6,r,h7,h⟩:=h;split at h5
    case isFalse=>cases h5
    rename_i hk;exact Uas hR hd hti ho h1 h3 h4 hk h2 wz h6 h7 h aj
 | makeFunc fn first cD =>
  cases fn with
  | func fn =>
   simp only[oJ,ho]at h;exact Ial hR hd ho h aj
  |_=>simp only[oJ,ho]at h;cases h
 |makeSlice t l c=>exact Fa7 hR hd hti hf ho h aj
 |slice t x lo hi mx=>exact Qao hR hd hti ho h aj
 | fieldAddr t x k =>
  simp only[oJ,ho,aA,Qb0,tiR,aT]at h;obtain⟨ti,h1,h⟩:=h;split at h
  case h_2=>cases h
  rename_i off ft cP;simp only[aA,Qb0,aH,aT]at h;obtain⟨fi,h2,_,h3,p,h4,h⟩:=h;split at h3
  case isFalse=>cases h3
  rename_i ew;exact Fa9 hR hd hti ho h1 cP h2 (by simpa using ew) (by simp only[aA,Qb0];exact⟨p,h4,h⟩) aj
 | field t x k =>
  simp only[oJ,ho,aA,Qb0,tiR,aT]at h;obtain⟨ti,h1,h⟩:=h;split at h
  case h_2=>cases h
  rename_i off ft cP;simp only[aA,Qb0,aT]at h;obtain⟨fi,h2,sv,h3,h⟩:=h;exact Qaq hR hd hti ho h1 cP h2 (by simp only[aA,Qb0];exact⟨sv,h3,h⟩) aj
 | indexAddr t x i =>
  simp only[oJ,ho,aA,Qb0,tiR,aT]at h;obtain⟨ti,h1,e,h2,ei,h3,l,h4,s,h5,y,h6,u,h7,h⟩:=h;exact Fa8 hR hd hti ho h1 h2 h3 (by simp only[aA,Qb0];exact⟨l,h4,s,h5,y,h6,u,h7,h⟩) aj
 | index t x i =>
  simp only[oJ,ho,aA,Qb0,tiR,aT]at h;obtain⟨ti,h1,h⟩:=h;exact Qap hR hd hti ho h1 (by simp only[aA,Qb0];exact h) aj
 | extract x i =>
  simp only[oJ,ho]at h;exact Ka0 hR hd ho h aj
 | call c =>
  obtain⟨callee,args,argTypes⟩:=c
  cases callee with
  |value f=>exact eM f args argTypes ho
  |invoke recv name=>simp only[oJ,ho]at h;cases h
  | builtin b =>
   simp only[oJ,ho]at h
   cases cn:args.toList with
   | nil =>
    rw[cn]at h;cases b<;>first|(cases h;done)|skip
    all_goals
     simp only[aA,Qb0,aT]at h;obtain⟨lk,h1,as,h2,h⟩:=h;obtain⟨ls,h3,h4⟩:=h2
     first
     |exact gL hR hd (.inl ⟨rfl,rfl,rfl⟩) ho (by rw[cn];exact h1) h3 h4 h aj
     |exact gL hR hd (.inr ⟨rfl,rfl,rfl⟩) ho (by rw[cn];exact h1) h3 h4 h aj
   | cons x xs =>
    rw[cn]at h
    cases xs with
    | nil =>
     cases b<;>first|(cases h;done)|skip
     ·simp only[aA,Qb0,aT,tiR,aH]at h
      obtain⟨t,h1,ti,h2,e,h3,ei,h4,_,h5,l,h6,h⟩:=h;split at h5
      case isFalse=>cases h5
      rename_i cR;exact Qar hR hd hti ho cn h1 h2 h3 h4 cR h6 h aj
     ·simp only[aA,Qb0,aT,tiR]at h
      obtain⟨t,h1,ti,h2,h⟩:=h;exact Wal hR hd hti ho cn h1 h2 (by simp only[aA,Qb0];exact h) aj
     all_goals
      simp only[aA,Qb0,aT]at h;obtain⟨lk,h1,as,h2,h⟩:=h;obtain⟨ls,h3,h4⟩:=h2
      first
      |exact gL hR hd (.inl ⟨rfl,rfl,rfl⟩) ho (by rw[cn];exact h1) h3 h4 h aj
      |exact gL hR hd (.inr ⟨rfl,rfl,rfl⟩) ho (by rw[cn];exact h1) h3 h4 h aj
    | cons y ys =>
     cases ys with
     | nil =>
      cases b<;>first|(cases h;done)|skip
      ·simp only[aA,Qb0,aT,tiR,aH]at h
       obtain⟨t,h1,ty,h2,ti,h3,e,h4,ei,h5,yi,h6,_,h7,lx,h8,ly,h9,h⟩:=h;split at h7
       case isFalse=>cases h7
       rename_i cR;exact Nax hR hd hti hf ho cn h1 h2 h3 h4 h5 h6 cR h8 h9 h aj
      all_goals
       simp only[aA,Qb0,aT]at h;obtain⟨lk,h1,as,h2,h⟩:=h;obtain⟨ls,h3,h4⟩:=h2
       first
       |exact gL hR hd (.inl ⟨rfl,rfl,rfl⟩) ho (by rw[cn];exact h1) h3 h4 h aj
       |exact gL hR hd (.inr ⟨rfl,rfl,rfl⟩) ho (by rw[cn];exact h1) h3 h4 h aj
     | cons z zs =>
      cases b<;>first|(cases h;done)|skip
      all_goals
       simp only[aA,Qb0,aT]at h;obtain⟨lk,h1,as,h2,h⟩:=h;obtain⟨ls,h3,h4⟩:=h2
       first
       |exact gL hR hd (.inl ⟨rfl,rfl,rfl⟩) ho (by rw[cn];exact h1) h3 h4 h aj
       |exact gL hR hd (.inr ⟨rfl,rfl,rfl⟩) ho (by rw[cn];exact h1) h3 h4 h aj
 |_=>simp only[oJ,ho]at h;cases h
end
theorem Tr.get_set {α:Type}:∀ (d:Nat) (t:Tr α) (n m:Nat) (x:Option α),(Tr.set d t n x).get m=if m=n then x else t.get m
 | 0, t, n, m, x => by
  simp only[Tr.set,Tr.get];by_cases h:m=n
  ·subst h;simp
  ·have:Nat.beq m n=false:=by
    cases e:Nat.beq m n with
    |false=>rfl
    |true=>simp only[Rbv]at e;exact absurd e h
   rw[this,cond_false,if_neg h]
 | d + 1, .over k y t, n, m, x => by
  simp only[Tr.set];by_cases h:m=n
  ·subst h;simp[Tr.get]
  ·have:Nat.beq m n=false:=by
    cases e:Nat.beq m n with
    |false=>rfl
    |true=>simp only[Rbv]at e;exact absurd e h
   rw[if_neg h];show (bif Nat.beq m n then x else _)=_
   rw[this,cond_false]
 | d + 1, .nil, n, m, x => by
  have ih:=fun t n m=>Tr.get_set (α:=α) d t n m x
  simp only[Tr.set];have b0:∀ k,Nat.beq k 0=decide (k=0):=fun k=>by cases k<;>simp[Nat.beq]
  have b1:∀ k,Nat.beq (k % 2) 1=decide (k % 2=1):=fun k=>by
   rcases Nat.mod_two_eq_zero_or_one k with h|h<;>rw[h]<;>rfl
  rw[b0,b1];by_cases h0:n=0
  ·simp only[h0,decide_true,cond_true,Tr.get]
   rw[b0,b1];by_cases hm:m=0
   ·simp[hm]
   ·simp[hm,Tr.get]
  ·by_cases h1:n % 2=1
   ·simp only[h0,decide_false,cond_false,h1,decide_true,cond_true,Tr.get]
    rw[b0,b1];by_cases hm:m=0
    ·subst hm;simp[Ne.symm h0]
    ·by_cases ko:m % 2=1
     ·simp only[hm,decide_false,cond_false,ko,decide_true,cond_true,ih,Tr.get]
      by_cases e:m=n
      ·rw[if_pos e,if_pos (by rw[e])]
      ·rw[if_neg e,if_neg (by omega)]
     ·have e:m≠n:=fun e=>ko (e▸h1)
      simp[hm,ko,e,Tr.get]
   ·simp only[h0,decide_false,cond_false,h1,Tr.get]
    rw[b0,b1];by_cases hm:m=0
    ·subst hm;simp[Ne.symm h0]
    ·by_cases ko:m % 2=1
     ·have e:m≠n:=fun e=>h1 (e▸ko)
      simp[hm,ko,e,Tr.get]
     ·simp only[hm,decide_false,cond_false,ko,ih,Tr.get]
      by_cases e:m=n
      ·rw[if_pos e,if_pos (by rw[e])]
      ·rw[if_neg e,if_neg (by omega)]
 | d + 1, .node y l r, n, m, x => by
  have ih:=fun t n m=>Tr.get_set (α:=α) d t n m x
  simp only[Tr.set];have b0:∀ k,Nat.beq k 0=decide (k=0):=fun k=>by cases k<;>simp[Nat.beq]
  have b1:∀ k,Nat.beq (k % 2) 1=decide (k % 2=1):=fun k=>by
   rcases Nat.mod_two_eq_zero_or_one k with h|h<;>rw[h]<;>rfl
  rw[b0,b1];by_cases h0:n=0
  ·simp only[h0,decide_true,cond_true,Tr.get]
   rw[b0,b1];by_cases hm:m=0
   ·simp[hm]
   ·simp[hm,Tr.get]
  ·by_cases h1:n % 2=1
   ·simp only[h0,decide_false,cond_false,h1,decide_true,cond_true,Tr.get]
    rw[b0,b1];by_cases hm:m=0
    ·subst hm;simp[Ne.symm h0]
    ·by_cases ko:m % 2=1
     ·simp only[hm,decide_false,cond_false,ko,decide_true,cond_true,ih,Tr.get]
      by_cases e:m=n
      ·rw[if_pos e,if_pos (by rw[e])]
      ·rw[if_neg e,if_neg (by omega)]
     ·have e:m≠n:=fun e=>ko (e▸h1)
      simp[hm,ko,e,Tr.get]
   ·simp only[h0,decide_false,cond_false,h1,Tr.get]
    rw[b0,b1];by_cases hm:m=0
    ·subst hm;simp[Ne.symm h0]
    ·by_cases ko:m % 2=1
     ·have e:m≠n:=fun e=>h1 (e▸ko)
      simp[hm,ko,e,Tr.get]
     ·simp only[hm,decide_false,cond_false,ko,ih,Tr.get]
      by_cases e:m=n
      ·rw[if_pos e,if_pos (by rw[e])]
      ·rw[if_neg e,if_neg (by omega)]
section
variable {P:Program} {E:Env} {F:bE} {n:Nat} {σ:Nat->Option aP} {ρ:List D} {a:Act} {w w':World} {G G':Gh} {g:Option (aI×Bool)} {o:Oper}
def Gbm:Value->Option Bool
 |.bool b=>some b
 |_=>none
theorem Tah {x:aI}{want:Bool}{v:Value}(h:Sc v (x.val ρ)\/(v=undef/\x.val ρ=.undef)):gOn ρ (some (x,want))=(Gbm v==some want):=by
 have key:∀ d:D,x.val ρ=d->gOn ρ (some (x,want))=(match d with|.bool b=>b==want|_=>false):=by
  intro d hd;simp only[gOn,hd];cases d<;>rfl
 rcases h with h|⟨rfl,h⟩
 ·rw[key _ rfl]
  generalize x.val ρ=d at h
  cases h with
  |int k n=>rfl
  |bool b=>cases b<;>cases want<;>rfl
  |str l=>rfl
 ·rw[key _ h]
  rfl
theorem Qaz (hR:R E.ntmps F σ ρ a w G){ops:Array Oper}(hd:∀ o∈ops.toList,eT E.ntmps o)(h:(Ka7 ops.toList o).eval σ=some g):Region.wanted o (yielded ops a.tmps)=gOn ρ g:=by
 unfold Ka7 at h;unfold Region.wanted;split at h
 ·rename_i ho
  simp only[aC,Option.some.injEq]at h;subst h;simp[ho,gOn]
 ·rename_i j want ho
  simp only[ho];split at h
  ·rename_i d hj
   have hdn:d<E.ntmps:=by
    cases hoj:ops.toList[j]? with
    |none=>rw[hoj]at hj;cases hj
    | some oj =>
     rw[hoj,Qb7]at hj;exact hd oj (Rbi hoj) d hj
   have hy:yielded ops a.tmps j=Gbm (Aad E.ntmps a F.gh d):=by
    unfold yielded Aad;have:(ops[j]?).bind (·.dst)=some d:=by rw[<- hj,Array.getElem?_toList]
    rw[this,Qb7,if_pos hdn];have hlt:d<a.tmps.size:=by rw[hR.tmps];exact hdn
    rw[Rb0 hlt,Array.getD_eq_getD_getElem?,Rb0 hlt,Option.getD_some];cases a.tmps[d]<;>rfl
   rw[hy];simp only[Yap]at h;split at h
   ·rename_i x hk
    simp only[aC,Option.some.injEq]at h;subst h;have:=hR.slot hk rfl;simp only[bU,aB]at this;exact (Tah (.inl this)).symm
   ·rename_i g' x hk
    simp only[aC,Option.some.injEq]at h;subst h;have:=hR.slot hk rfl;simp only[bU,aB]at this;exact (Tah this.1).symm
   ·cases h
  ·cases h
end
theorem pV {n:Nat}{ρ ext:List D}{x:aI}(h:aX n x=true)(hn:n<=ρ.length):x.val (ρ++ext)=x.val ρ:=by
 refine aI.val_append (n:=n) ?_
 cases x with
 | v i =>
  simp only[aX,Rb4]at h;simp only[aI.ok];omega
 |c d=>trivial
theorem Ha8 {n:Nat}{ρ ext:List D}{xs:List aI}(h:xs.all (aX n)=true)(hn:n<=ρ.length):xs.map (·.val (ρ++ext))=xs.map (·.val ρ):=by
 apply Tb2;intro x hx;rw[Rbu]at h;exact pV (h x hx) hn
theorem xP {n:Nat}{ρ ext:List D}{g:Option (aI×Bool)}(h:nS n g=true)(hn:n<=ρ.length):gOn (ρ++ext) g=gOn ρ g:=by
 cases g with
 |none=>rfl
 | some z =>
  obtain⟨x,w⟩:=z;simp only[nS]at h;simp only[gOn,pV h hn]
theorem Caa {ρ ds ext:List D}{j:Nat}{d:D}(h:ds[j]?=some d):(aI.v (ρ.length+j)).val (ρ++ds++ext)=d:=by
 have hlt:=(List.getElem?_eq_some_iff.1 h).1;simp only[aI.val,List.getD_eq_getElem?_getD];rw[Rba,Rbl (by omega),Rbm (by omega),Rb1,h];rfl
theorem wB {n m:Nat}{g:Option (aI×Bool)}(h:nS n g=true)(hm:n<=m):nS m g=true:=by
 cases g with
 |none=>rfl
 | some z =>
  obtain⟨x,w⟩:=z
  cases x with
  |v i=>simp only[nS,aX,Rb4]at h ⊢;omega
  |c d=>rfl
section
variable {cf:Nat->List D->Option (List D)}
noncomputable def Ec {β:Type}(cf:Nat->List D->Option (List D))(t:Tm β)(ρ:List D):Option (Out β):=lim fun n=>runT cf n t ρ
noncomputable def Lc {β:Type}(cf:Nat->List D->Option (List D))(body:Tm β)(ρ vs:List D):Option (Out β):=lim fun n=>iter n (fun vs=>runT cf n body (ρ++vs)) vs
theorem Gba {β:Type}(t:Tm β)(ρ:List D):Pa6 fun n=>runT cf n t ρ:=fun n _ h=>Gad (fun f _ _ h=>h) (Tb0 n) t _ _ h
theorem Mbi {β:Type}(body:Tm β)(ρ vs:List D):Pa6 fun n=>iter n (fun vs=>runT cf n body (ρ++vs)) vs :=
 fun n _ h=>lU (fun vs r hr=>Gba body _ n r hr) (Tb0 n) _ _ h
theorem Iad {β:Type}{t:Tm β}{ρ:List D}{o:Out β}:Ec cf t ρ=some o↔∃ n,runT cf n t ρ=some o:=fH (Gba t ρ)
theorem fD {β:Type}(k:Kind)(xs:List aI)(e:β)(ρ:List D):Ec cf (.leaf k xs e) ρ=some ⟨k,xs,e,ρ⟩:=fI _
theorem iL {β:Type}(ρ:List D):Ec cf (.stuck:Tm β) ρ=none:=fI _
theorem Mau {β:Type}(g:Option (aI×Bool))(p:aR)(xs:List aI)(n:Nat)(k:Tm β)(ρ:List D) :
  Ec cf (.lt g p xs n k) ρ=if gOn ρ g then (p.run (xs.map (·.val ρ))).bind fun ds=>if ds.length=n then Ec cf k (ρ++ds) else none
   else Ec cf k (ρ++Rbf n .undef):=by
 unfold Ec;simp only[runT];split
 ·cases p.run (xs.map (·.val ρ)) with
  |none=>exact fI _
  | some ds =>
   simp only[Qb7];split
   ·rfl
   ·exact fI _
 ·rfl
theorem tL {β:Type}(g:Option (aI×Bool))(f:Nat)(xs:List aI)(n:Nat)(olds:List aI)(k:Tm β)(ρ:List D) :
  Ec cf (.call g f xs n olds k) ρ=if gOn ρ g then (cf f (xs.map (·.val ρ))).bind fun ds=>if ds.length=n then Ec cf k (ρ++ds) else none
   else Ec cf k (ρ++(Rbf (n-olds.length) .undef++olds.map (·.val ρ))):=by
 unfold Ec;simp only[runT];split
 ·cases cf f (xs.map (·.val ρ)) with
  |none=>exact fI _
  | some ds =>
   simp only[Qb7];split
   ·rfl
   ·exact fI _
 ·rfl
theorem Eap {β:Type}(c:aI)(t e:Tm β)(ρ:List D) :
  Ec cf (.ite c t e) ρ=match c.val ρ with
   |.bool true=>Ec cf t ρ
   |.bool false=>Ec cf e ρ
   |_=>none:=by
 unfold Ec;simp only[runT]
 cases c.val ρ with
 |bool b=>cases b<;>rfl
 |_=>exact fI _
theorem pX {β:Type}(i:Nat)(t k:Tm β)(ρ:List D) :
  Ec cf (.bind i t k) ρ=(Ec cf t ρ).bind fun o=>if o.kind=.yield i then Ec cf k (ρ++o.vals) else some o:=by
 unfold Ec;simp only[runT];rw[Faf (a:=fun n=>runT cf n t ρ) (Gba t ρ) (fun o=>by split;exact Gba k _;exact fun _ _ h=>h)];congr 1;funext o;split
 ·rfl
 ·exact fI _
theorem Mav {β:Type}(init:List aI)(body:Tm β)(ρ:List D):Ec cf (.loop init body) ρ=Lc cf body ρ (init.map (·.val ρ)):=rfl
theorem Zaw {β:Type}(body:Tm β)(ρ vs:List D) :
  Lc cf body ρ vs=(Ec cf body (ρ++vs)).bind fun o=>if o.kind=.cont then Lc cf body ρ o.vals else some o:=by
 have hm:∀ vs,Pa6 fun n=>iter n (fun vs=>runT cf n body (ρ++vs)) vs:=fun vs=>Mbi body ρ vs
 unfold Lc
 have e:∀ vs r,(lim fun n=>iter n (fun vs=>runT cf n body (ρ++vs)) vs)=some r↔((Ec cf body (ρ++vs)).bind fun o=>if o.kind=.cont then (lim fun n=>iter n (fun vs=>runT cf n body (ρ++vs)) o.vals) else some o)=some r:=by
  intro vs r;rw[fH (hm vs)];simp only[Qb0];constructor
  ·rintro⟨n,hn⟩
   cases n with
   |zero=>cases hn
   | succ n =>
    simp only[iter,Qb0]at hn;obtain⟨o,ho,hr⟩:=hn;refine⟨o,Iad.2 ⟨n+1,ho⟩,?_⟩;split at hr
    ·rename_i hk
     rw[if_pos hk,fH (hm _)];exact⟨n+1,lU (fun _ _ h=>h) (Tb0 n) _ _ hr⟩
    ·rename_i hk
     rw[if_neg hk];exact hr
  ·rintro⟨o,ho,hr⟩
   obtain⟨n,hn⟩:=Iad.1 ho;split at hr
   ·rename_i hk
    obtain⟨m,te⟩:=(fH (hm _)).1 hr;refine⟨max n m+1,?_⟩;simp only[iter,Qb0];refine⟨o,(Gba body (ρ++vs)).le (by omega) hn,?_⟩;rw[if_pos hk];exact lU (fun vs r h=>(Gba body (ρ++vs)).le (by omega) h) (by omega) _ _ te
   ·rename_i hk
    refine⟨n+1,?_⟩;simp only[iter,Qb0];exact⟨o,Gba body _ _ _ hn,by rw[if_neg hk];exact hr⟩
 exact Option.ext (e vs)
end
section
variable {cf:Nat->List D->Option (List D)}
theorem uR {g:Option (aI×Bool)}{k:Tm St}:∀ {lets:List Step} {ρ:List D} {o:Out St},nS ρ.length g=true->dV ρ.length lets=true->Ec cf (nA g k lets) ρ=some o ->
  ∃ ds,ds.length=bF lets/\Ec cf k (ρ++ds)=some o/\∀ ext,aL cf (ρ++ds++ext) g ρ.length lets
 |[],ρ,o,_,_,h=>⟨[],rfl,by simpa[nA] using h,fun _=>trivial⟩
 | .prim p xs n :: r, ρ, o, hg, hs, h => by
  simp only[dV,Cam,Qb1]at hs;obtain⟨jm,hs⟩:=hs;simp only[nA,Mau]at h
  have main:∀ ds:List D,ds.length=n->Ec cf (nA g k r) (ρ++ds)=some o->(∀ ext,Ta1 cf (ρ++ds++ext) g ρ.length (.prim p xs n)) ->
    ∃ ds,ds.length=bF (.prim p xs n::r)/\Ec cf k (ρ++ds)=some o/\∀ ext,aL cf (ρ++ds++ext) g ρ.length (.prim p xs n::r):=by
   intro ds hl h1 h2;obtain⟨es,h3,h4,h5⟩:=uR (lets:=r) (ρ:=ρ++ds) (wB hg (by simp)) (by simp only[Qb6,hl];exact hs) h1;refine⟨ds++es,by rw[gU];simp[hl,h3,Step.n],by rw[<- Rba];exact h4,fun ext=>⟨?_,?_⟩⟩
   ·have:=h2 (es++ext)
    simpa[Rba] using this
   ·have:=h5 ext
    simp only[Qb6,hl]at this;simpa[Rba,Step.n] using this
  by_cases c5:gOn ρ g=true
  ·rw[if_pos c5]at h
   simp only[Qb0]at h;obtain⟨ds,h1,h2⟩:=h;split at h2
   case isFalse=>cases h2
   rename_i hl;refine main ds hl h2 fun ext=>⟨fun _=>⟨ds,?_,hl,fun j d hj=>Caa hj⟩,fun lO=>?_⟩
   ·rw[Rba,Ha8 jm (Rbg _)];exact h1
   ·rw[Rba,xP hg (Rbg _),c5]at lO;cases lO
  ·rw[if_neg c5]at h
   refine main (Rbf n .undef) (by simp) h fun ext=>⟨fun y5=>?_,fun _ j hj=>Caa (by simp[hj])⟩
   rw[Rba,xP hg (Rbg _)]at y5;exact absurd y5 c5
 | .call f xs n olds :: r, ρ, o, hg, hs, h => by
  simp only[dV,Cam,Qb1]at hs;obtain⟨⟨⟨jm,hos⟩,hle⟩,hs⟩:=hs;simp only[Sbb]at hle;simp only[nA,tL]at h
  have main:∀ ds:List D,ds.length=n->Ec cf (nA g k r) (ρ++ds)=some o->(∀ ext,Ta1 cf (ρ++ds++ext) g ρ.length (.call f xs n olds)) ->
    ∃ ds,ds.length=bF (.call f xs n olds::r)/\Ec cf k (ρ++ds)=some o/\∀ ext,aL cf (ρ++ds++ext) g ρ.length (.call f xs n olds::r):=by
   intro ds hl h1 h2;obtain⟨es,h3,h4,h5⟩:=uR (lets:=r) (ρ:=ρ++ds) (wB hg (by simp)) (by simp only[Qb6,hl];exact hs) h1;refine⟨ds++es,by rw[gU];simp[hl,h3,Step.n],by rw[<- Rba];exact h4,fun ext=>⟨?_,?_⟩⟩
   ·have:=h2 (es++ext)
    simpa[Rba] using this
   ·have:=h5 ext
    simp only[Qb6,hl]at this;simpa[Rba,Step.n] using this
  by_cases c5:gOn ρ g=true
  ·rw[if_pos c5]at h
   simp only[Qb0]at h;obtain⟨ds,h1,h2⟩:=h;split at h2
   case isFalse=>cases h2
   rename_i hl;refine main ds hl h2 fun ext=>⟨fun _=>⟨ds,?_,hl,fun j d hj=>Caa hj⟩,fun lO=>?_⟩
   ·rw[Rba,Ha8 jm (Rbg _)];exact h1
   ·rw[Rba,xP hg (Rbg _),c5]at lO;cases lO
  ·rw[if_neg c5]at h
   refine main _ (by simp;omega) h fun ext=>⟨fun y5=>?_,fun _ j d hd=>?_⟩
   ·rw[Rba,xP hg (Rbg _)]at y5
    exact absurd y5 c5
   ·rw[Rba,Ha8 hos (Rbg _)]at hd
    exact Caa hd
end
theorem pY:∀ (u:List (Nat×aP)) (f g:Nat->Option aP) (k:Nat),f k=g k->upds f u k=upds g u k
 |[],f,g,k,h=>h
 | (k', c) :: r, f, g, k, h => by
  refine pY r _ _ k ?_;unfold Sax;split
  ·rfl
  ·exact h
theorem Ka9:∀ (u:List (Nat×aP)) (s:St) (k:Nat),(s.puts u).tr.get k=upds s.tr.get u k
 |[],s,k=>rfl
 | (k', c) :: r, s, k => by
  rw[St.puts,Ka9 r _ k,upds];refine pY r _ _ k ?_;simp only[St.put,Tr.get_set,Sax]
theorem iC:∀ (u:List (Nat×aP)) (s:St),(s.puts u).nv=s.nv/\(s.puts u).nb=s.nb/\(s.puts u).nr=s.nr/\(s.puts u).nt=s.nt
 |[],s=>⟨rfl,rfl,rfl,rfl⟩
 |(k',c)::r,s=>by rw[St.puts];exact iC r _
theorem Ea2:∀ (u:List (Nat×aP)) (f g:Nat->Option aP) (k:Nat),(∃ c,(k,c)∈u)->upds f u k=upds g u k
 |[],f,g,k,h=>by obtain⟨c,hc⟩:=h;simp at hc
 | (k', c) :: r, f, g, k, h => by
  by_cases hk:k=k'
  ·exact pY r _ _ k (by unfold Sax;rw[if_pos hk,if_pos hk])
  ·refine Ea2 r _ _ k ?_
   obtain⟨c',cQ⟩:=h
   rcases List.mem_cons.1 cQ with h1|h1
   ·exact absurd (Prod.mk.inj h1).1 hk
   ·exact⟨c',h1⟩
theorem xQ {t:Tr aP}:∀ {n r:Nat},mG t r n=true->∀ j,r<=j->j<r+n->t.get (kR j)=none
 |0,r,_,j,h1,h2=>by omega
 | n + 1, r, h, j, h1, h2 => by
  simp only[mG,Qb1,Tbo]at h;by_cases e:j=r
  ·rw[e];exact h.1
  ·exact xQ h.2 j (by omega) (by omega)
theorem Qaa:∀ (u:List (Nat×aP)) (n:Nat),n<=Gbd u n
 |[],n=>Rbg _
 | x :: r, n => by
  refine Nat.le_trans ?_ (Qaa r _)
  cases h:(Nat.beq (x.1 % 3) 2&&Nat.ble n (x.1 / 3)) with
  |false=>exact Rbg _
  |true=>simp only[Qb1,Sbb]at h;rw[cond_true];omega
theorem Sah:∀ {u:List (Nat×aP)} {n:Nat} {x:Nat×aP},x∈u->x.1 % 3=2->x.1 / 3<Gbd u n
 | y :: r, n, x, hx, h2 => by
  rcases List.mem_cons.1 hx with rfl|hx
  ·refine Nat.lt_of_lt_of_le ?_ (Qaa r _)
   have e:Nat.beq (x.1 % 3) 2=true:=by rw[h2];rfl
   rw[e,Bool.true_and]
   cases h:Nat.ble n (x.1 / 3) with
   |true=>rw[cond_true];omega
   | false =>
    rw[cond_false];exact Nat.lt_of_not_le fun e=>by rw[<- Sbb,h]at e;cases e
  ·exact Sah (u:=r) hx h2
theorem Wac:∀ {u:List (Nat×aP)} {n m:Nat},n<=m->(∀ x∈u,x.1 % 3=2->x.1 / 3<m)->Gbd u n<=m
 |[],n,m,h,_=>h
 | y :: r, n, m, h, hu => by
  show Gbd r (bif Nat.beq (y.1 % 3) 2&&Nat.ble n (y.1 / 3) then y.1 / 3+1 else n)<=m
  refine Wac (u:=r) ?_ fun x hx=>hu x (Rbd _ hx)
  cases hc:(Nat.beq (y.1 % 3) 2&&Nat.ble n (y.1 / 3)) with
  |false=>exact h
  | true =>
   simp only[Qb1,Rbv]at hc;rw[cond_true];exact hu y Rbj hc.1
theorem Xav {n nb nr:Nat}{u:List (Nat×aP)}(hk:u.all (fun x=>yC n nb nr x.1)=true)(draw:Bool):nr<=Ra3 draw nr u/\Ra3 draw nr u<=nr+bP/\∀ x∈u,x.1 % 3=2->x.1 / 3<Ra3 draw nr u:=by
 have hb:∀ x∈u,x.1 % 3=2->x.1 / 3<nr+bP:=by
  intro x hx h2;rw[Rbu]at hk;have:=hk _ hx;unfold yC at this;rw[h2]at this;simpa using this
 cases draw with
 |true=>exact⟨Ubc ..,Rbg _,hb⟩
 |false=>exact⟨Qaa _ _,Wac (Ubc ..) hb,fun x hx h2=>Sah hx h2⟩
theorem Bbt {s:St}{g:Option (aI×Bool)}{r:bJ}{n:Nat}(h:Bbu s g r=true)(hn:n<=s.nt)(hk:r.upd.all (fun x=>yC n s.nb s.nr x.1)=true)(draw:Bool)(nv:Nat)(k:Nat) :
  ({ (s.puts r.upd) with nv:=nv,nb:=s.nb+1,nr:=Ra3 draw s.nr r.upd }:St).get k=upds s.get r.upd k:=by
 obtain⟨t1,t2,t3⟩:=Xav hk draw;generalize Ra3 draw s.nr r.upd=cN at t1 t2 t3 ⊢;simp only[Bbu,Qb1,Tbo]at h;obtain⟨⟨⟨⟨h1,h2⟩,-⟩,-⟩,-⟩:=h
 have e:({ (s.puts r.upd) with nv:=nv,nb:=s.nb+1,nr:=cN }:St).get k=bif uK s.nt (s.nb+1) cN k then upds s.tr.get r.upd k else none:=by
  unfold St.get;dsimp only;rw[Ka9,(iC r.upd s).2.2.2]
 rw[e];by_cases hm:∃ c,(k,c)∈r.upd
 ·obtain⟨c,hc⟩:=hm
  have fx:uK s.nt (s.nb+1) cN k=true:=by
   rw[Rbu]at hk;have:=hk _ hc;unfold yC at this;unfold uK;dsimp only at this
   cases b0:Nat.beq (k % 3) 0 with
   |true=>rw[b0,cond_true]at this;rw[cond_true];simp only[Rb4]at this ⊢;omega
   | false =>
    rw[b0,cond_false]at this;rw[cond_false]
    cases b1:Nat.beq (k % 3) 1 with
    |true=>rw[b1,cond_true]at this;rw[cond_true];simp only[Sbb]at this;simp only[Rb4];omega
    | false =>
     rw[cond_false,Rb4];have n0:k % 3≠0:=fun e=>by rw[e]at b0;cases b0
     have n1:k % 3≠1:=fun e=>by rw[e]at b1;cases b1
     exact t3 _ hc (by dsimp only;omega)
  rw[fx,cond_true];exact Ea2 _ _ _ _ ⟨c,hc⟩
 ·have ja:∀ c,(k,c)∉r.upd:=fun c hc=>hm ⟨c,hc⟩
  rw[dZ _ _ _ ja,dZ _ _ _ ja];unfold St.get
  cases ho:uK s.nt s.nb s.nr k with
  | true =>
   have:uK s.nt (s.nb+1) cN k=true:=by
    unfold uK at ho ⊢
    cases b0:Nat.beq (k % 3) 0 with
    |true=>rw[b0]at ho;exact ho
    | false =>
     rw[b0,cond_false]at ho;rw[cond_false]
     cases b1:Nat.beq (k % 3) 1 with
     |true=>rw[b1,cond_true]at ho;rw[cond_true];simp only[Rb4]at ho ⊢;omega
     |false=>rw[b1,cond_false]at ho;rw[cond_false];simp only[Rb4]at ho ⊢;omega
   rw[this]
  | false =>
   rw[cond_false]
   cases hw:uK s.nt (s.nb+1) cN k with
   |false=>rfl
   | true =>
    rw[cond_true];unfold uK at ho hw
    cases b0:Nat.beq (k % 3) 0 with
    |true=>rw[b0,cond_true]at ho hw;rw[ho]at hw;cases hw
    | false =>
     rw[b0,cond_false]at ho hw;have n0:k % 3≠0:=fun e=>by rw[e]at b0;cases b0
     cases b1:Nat.beq (k % 3) 1 with
     | true =>
      rw[b1,cond_true]at ho hw;simp only[Rbv]at b1;simp only[Rb4]at hw;have og:¬ k / 3<s.nb:=fun e=>by rw[<- Rb4,ho]at e;cases e
      have:k=kB s.nb:=by unfold kB;omega
      rw[this];exact h1
     | false =>
      rw[b1,cond_false]at ho hw;have n1:k % 3≠1:=fun e=>by rw[e]at b1;cases b1
      simp only[Rb4]at hw;have og:¬ k / 3<s.nr:=fun e=>by rw[<- Rb4,ho]at e;cases e
      have:k=kR (k / 3):=by unfold kR;omega
      rw[this];exact xQ h2 _ (by omega) (by omega)
theorem Oa1 {s:St}:Cae s.get s.nb s.nr:=by
 refine⟨?_,fun j h1 h2=>?_⟩
 ·unfold St.get uK kB
  have e:(3*s.nb+1) % 3=1:=by omega
  have e2:(3*s.nb+1) / 3=s.nb:=by omega
  rw[e,e2]
  have:Sbg s.nb s.nb=false:=by
   cases hb:Sbg s.nb s.nb with
   |false=>rfl
   |true=>simp at hb
  rw[this];rfl
 ·unfold St.get uK kR
  have e:(3*j+2) % 3=2:=by omega
  have e2:(3*j+2) / 3=j:=by omega
  rw[e,e2]
  have:Sbg j s.nr=false:=by
   cases hb:Sbg j s.nr with
   |false=>rfl
   |true=>simp only[Rb4]at hb;omega
  rw[this];rfl
theorem Sag (t:Tr aP)(lo:Nat):∀ n,Ma7 t lo n<=lo+n
 |0=>Rbg _
 | n + 1 => by
  unfold Ma7
  cases (t.get (kR (lo+n))).isNone with
  |true=>rw[cond_true];have:=Sag t lo n;omega
  |false=>rw[cond_false];omega
theorem Ia4 (t:Tr aP)(lo:Nat):∀ n j,Ma7 t lo n<=j->j<lo+n->t.get (kR j)=none
 |0,j,h1,h2=>by unfold Ma7 at h1;omega
 | n + 1, j, h1, h2 => by
  unfold Ma7 at h1
  cases h:(t.get (kR (lo+n))).isNone with
  | true =>
   rw[h,cond_true]at h1;by_cases e:j=lo+n
   ·rw[e];simpa using h
   ·exact Ia4 t lo n j h1 (by omega)
  |false=>rw[h,cond_false]at h1;omega
theorem Ma6 {draw:Bool}{lo:Nat}{s:St}:(trimS draw lo s).get=s.get:=by
 unfold trimS
 cases hd:(draw&&Nat.ble lo s.nr) with
 |false=>rfl
 | true =>
  simp only[Qb1,Sbb]at hd;rw[cond_true];funext k;have h1:=Sag s.tr lo (s.nr-lo);have h2:=Ia4 s.tr lo (s.nr-lo);generalize Ma7 s.tr lo (s.nr-lo)=m at h1 h2;unfold St.get;dsimp only;unfold uK
  cases b0:Nat.beq (k % 3) 0 with
  |true=>rfl
  | false =>
   rw[cond_false,cond_false]
   cases b1:Nat.beq (k % 3) 1 with
   |true=>rfl
   | false =>
    rw[cond_false,cond_false];have n0:k % 3≠0:=fun e=>by rw[e]at b0;cases b0
    have n1:k % 3≠1:=fun e=>by rw[e]at b1;cases b1
    have ek:k=kR (k / 3):=by unfold kR;omega
    by_cases ha:k / 3<m
    ·have e1:Sbg (k / 3) m=true:=by simpa using ha
     have e2:Sbg (k / 3) s.nr=true:=by simp only[Rb4];omega
     rw[e1,e2]
    ·have e1:Sbg (k / 3) m=false:=by
      cases e:Sbg (k / 3) m with
      |false=>rfl
      |true=>simp only[Rb4]at e;omega
     rw[e1,cond_false]
     cases e2:Sbg (k / 3) s.nr with
     |false=>rfl
     | true =>
      simp only[Rb4]at e2;rw[cond_true,ek];exact (h2 _ (by omega) (by omega)).symm
theorem wV {draw:Bool}{lo:Nat}{s:St}:(trimS draw lo s).nv=s.nv/\(trimS draw lo s).nb=s.nb/\(trimS draw lo s).nt=s.nt:=by
 unfold trimS;cases draw&&Nat.ble lo s.nr<;>exact⟨rfl,rfl,rfl⟩
section
variable {P:Program} {E:Env} {F:bE} {n:Nat} {σ:Nat->Option aP} {ρ:List D} {a:Act} {w w':World} {G G':Gh} {g:Option (aI×Bool)} {o:Oper} {cf:Nat->List D->Option (List D)} {Q:Exit->Act->World->Prop}
theorem Ja3:∀ (u:List (Nat×aP)) (σ:Nat->Option aP) (k:Nat),upds σ u k=match Ua3 u k with
  |some c=>some c
  |none=>σ k
 |[],_,_=>rfl
 | (k', c) :: r, σ, k => by
  show upds (Sax σ k' c) r k=_
  rw[Ja3 r];simp only[Ua3]
  cases Ua3 r k with
  |some d=>rfl
  | none =>
   dsimp only;unfold Sax;by_cases e:k=k'
   ·subst e
    rw[if_pos rfl];simp
   ·rw[if_neg e]
    have:Nat.beq k' k=false:=by
     cases h:Nat.beq k' k with
     |false=>rfl
     |true=>exact absurd (Nat.eq_of_beq_eq_true h).symm e
    rw[this];rfl
theorem Oa9 {α:Type}(u:List (Nat×aP))(m:RdM α)(σ:Nat->Option aP):(m.over u).eval σ=m.eval (upds σ u):=by
 induction m with
 |ret a=>rfl
 |no=>rfl
 | rd k f ih =>
  show ((RdM.rd k f).over u).eval σ=(f (upds σ u k)).eval (upds σ u)
  unfold RdM.over;rw[Ja3 u σ k]
  cases Ua3 u k with
  |some c=>exact ih _
  |none=>exact ih _
theorem zB:∀ (u v:List (Nat×aP)) (σ:Nat->Option aP),upds σ (u++v)=upds (upds σ u) v
 |[],_,_=>rfl
 |(k,c)::r,v,σ=>zB r v (Sax σ k c)
def yK (r nr:Nat)(pv:List Nat)(M mr:Nat)(s:Nat)(p:List Nat):Ow :=
 if s=r then (if pv <+: p then xV nr M (p.drop pv.length) else xV r mr p) else .slc s p
theorem Bbm {t:Nat}{a:Act}{o:Oper}(h:o.dst=some t):a.put o.dst (a.tmps.getD t undef)=a:=by
 unfold Act.put;rw[h];dsimp only
 have:a.tmps.setIfInBounds t (a.tmps.getD t undef)=a.tmps:=by
  apply Array.ext_getElem?;intro j;rw[Array.getElem?_setIfInBounds];split
  ·rename_i e
   subst e;split
   ·rename_i hlt
    exact (Rb0 hlt).symm
   ·rename_i hlt
    rw[Array.getElem?_eq_none (by omega)]
  ·rfl
 rw[this]
theorem Naj (hR:R E.ntmps F σ ρ a w G){nv nr t:Nat}(gS:σ (kR nr)=none){l:List Step}{u:List (Nat×aP)}(h:(Jac E nv nr t).eval σ=some (some (l,u)))(aj:aL cf ρ none nv l) :
  ∃ G',R E.ntmps F (upds σ u) ρ a w G':=by
 simp only[Jac,aA,Qb0,aQ,Qb7]at h;split at h
 case h_2=>simp only[aC,Option.some.injEq]at h;cases h
 rename_i deps p ps nie x gv;simp only[aA,Qb0]at h;obtain⟨s,h1,h⟩:=h;split at h
 case h_2=>simp only[aC,Option.some.injEq]at h;cases h
 rename_i r k m q qs ab;rw[gF]at h;split at h
 case isFalse=>simp only[aC,Option.some.injEq]at h;cases h
 rename_i hb;simp only[Qb1,Sbb,Rb4]at hb;obtain⟨hqm,htn⟩:=hb;simp only[aA,Qb0,aQ,Qb7]at h;split at h
 case h_2=>simp only[aC,Option.some.injEq]at h;cases h
 rename_i X m' an hk;simp only[aC,Option.some.injEq,Prod.mk.injEq]at h;obtain⟨rfl,rfl⟩:=h;have df:=hR.slot gv (g:=none) rfl;simp only[bU]at df;have dj:=dM hR h1 df;have j0:=dj.own;unfold uI at j0;rw[ab]at j0;obtain⟨-,⟨X0,ia⟩,-,cA,gu⟩:=j0;rw[hk]at ia
 obtain⟨rfl,rfl,rfl⟩:X=X0/\m'=m/\an=k:=by
  injection ia with e;injection e with e1 e2 e3 e4;exact⟨e1,e2,e3⟩
 have cw:=hR.root hk;simp only[bM]at cw;have jy:=Aa7 (g:=none) rfl (q::qs) nv X (.c .hole) aj;have rS:(aZ ρ (q::qs)).length=qs.length+1:=by simp[aZ]
 generalize wq:aZ ρ (q::qs)=pv at jy cA gu rS;rw[show (q::qs).length=qs.length+1 from rfl]at cA;have htv:Aad E.ntmps a F.gh t=a.tmps.getD t undef:=if_pos htn;generalize hv:Aad E.ntmps a F.gh t=v at df cA gu htv;obtain⟨o',og⟩:∃ o':Oper,o'.dst=some t:=⟨{ (default:Oper) with dst:=some t },rfl⟩;have a2s:r≠nr:=fun e=>by rw[e,gS]at hk;cases hk
 have hdr:∀ r,(σ (kR r)).isSome->r≠nr:=fun r hr e=>by rw[e,gS]at hr;cases hr
 have jc:∀ b,G.own b≠.frz->b<w.heap.size:=fun b hb=>by
  rcases Rbo b w.heap.size with h|h
  ·exact h
  ·exact absurd (hR.frame.fresh b h) hb
 have hFr:∀ p,yK r nr pv (m'-(qs.length+1)) m' r p=if pv <+: p then xV nr (m'-(qs.length+1)) (p.drop pv.length) else xV r m' p:=fun p=>by unfold yK;rw[if_pos rfl]
 have nc:∀ b,G.own b=.frz->b<w.heap.size->lS (yK r nr pv (m'-(qs.length+1)) m') (G.own b)=.frz/\w.heap[b]?=w.heap[b]?:=fun b hb _=>⟨by rw[hb];rfl,rfl⟩
 have cj:=hR.own (o:=o') (g:=none) (fun d e=>by rw[og]at e;cases e;exact htn) (sv:=.one (.ex nr)) (v:=v) (w':=w)
  (G':={ G with own:=fun b=>lS (yK r nr pv (m'-(qs.length+1)) m') (G.own b),hdr:=fun s=>if s=nr then v else G.hdr s }) (wr:=fun _=>False)
  (ur:=[(kR nr,.root s.x (m'-(qs.length+1)) 0 .live),(kR r,.root (Lag nv X (q::qs) (.c .hole)).2 m' (an+1) .live)])
  (f:=yK r nr pv (m'-(qs.length+1)) m') ?_ (fun b _=>rfl) ?_ ⟨rfl,rfl,rfl,Rbg _⟩ ?_ (fun _ _ _=>rfl) (fun _ h=>h.elim) ?_ ?_ ?_ ?_ rfl ?_ ?_
 ·have e1:dL o' none (.one (.ex nr))=[(kT t,.slot none (.one (.ex nr)))]:=by unfold dL;rw[og]
  have e2:a.put o'.dst v=a:=by rw[htv];exact Bbm og
  rw[e1,e2]at cj;exact⟨_,cj⟩
 ·intro k c hc
  rcases List.mem_cons.1 hc with hc|hc
  ·exact⟨nr,(Prod.mk.inj hc).1⟩
  ·exact⟨r,(Prod.mk.inj (List.mem_singleton.1 hc)).1⟩
 ·intro b hb
  show lS _ (G.own b)=.frz
  rw[hR.frame.fresh b hb];rfl
 ·intro b hb
  refine .inl ?_;show lS _ (G.own b)=.frz
  rw[hR.frame.fresh b hb];rfl
 ·intro b s' p' hb cU
  have:s'≠r:=fun e=>cU (.root (Lag nv X (q::qs) (.c .hole)).2 m' (an+1) .live) (by rw[e];simp)
  unfold yK;rw[if_neg this]
 ·intro s' c hc _
  rcases List.mem_cons.1 hc with hc|hc
  ·obtain⟨e1,e2⟩:=Prod.mk.inj hc
   rw[eD e1,e2];exact .inl ⟨gS,_,_,_,_,rfl⟩
  ·obtain⟨e1,e2⟩:=Prod.mk.inj (List.mem_singleton.1 hc)
   rw[eD e1,e2];exact .inr (.inl ⟨_,_,_,_,_,hk,rfl⟩)
 ·intro r0 x0 m0 k0 jk s' p' q' hF
  have vw:r0≠r:=fun e=>by
   rw[e,hk]at jk
   injection jk with e;injection e with _ _ _ e;cases e
  have lP:r0≠nr:=hdr r0 (by rw[jk];rfl);unfold yK at hF;split at hF
  ·rename_i e
   split at hF
   ·unfold xV at hF
    split at hF
    ·injection hF with j1 j2;exact absurd j1.symm lP
    ·cases hF
   ·unfold xV at hF
    split at hF
    ·injection hF with j1 j2;exact absurd j1.symm vw
    ·cases hF
  ·injection hF with j1 j2;exact⟨j1,j2⟩
 ·intro s' fL
  show (if s'=nr then _ else _)=_
  rw[if_neg (hdr s' fL)]
 ·intro _ _
  simp only[bU,aB];exact⟨by simp,dP _ _ _ (.inr ⟨_,Qb5 _ Rbj⟩),cA.one⟩
 ·intro cm s' c hc _
  rcases List.mem_cons.1 hc with hc|hc
  ·obtain⟨e1,rfl⟩:=Prod.mk.inj hc
   obtain rfl:=eD e1;refine⟨_,_,_,_,rfl,?_⟩;simp only[bM,if_true];refine cA.move nc [] _ (Rbg _) fun b t' hb=>⟨?_,rfl⟩
   show lS _ (G.own b)=_
   rw[hb];show yK _ _ _ _ _ _ _=_
   rw[hFr,if_pos (List.prefix_append _ _),List.drop_left];rfl
  ·obtain⟨e1,rfl⟩:=Prod.mk.inj (List.mem_singleton.1 hc)
   obtain rfl:=eD e1;refine⟨_,_,_,_,rfl,?_⟩;simp only[bM];rw[if_neg a2s];have:=Rp.upd (own':=fun b=>lS (yK s' nr pv (m'-(qs.length+1)) m') (G.own b)) (w':=w) (r:=s') (M':=m') (full:=pv) (y:=.hole) (u:=v) nc (fun b t' hb ht=>⟨?_,rfl⟩) (by omega) (.hole _ cA.one) pv [] m' (G.hdr s') _ _ rfl (Rbg _) (by simpa using cw) gu jy
   ·simpa using this
   ·rw[hb]
    show yK _ _ _ _ _ _ _=_
    rw[hFr,if_neg ht];rfl
theorem Jaa {mv b6:Bool}{nv nb nr:Nat}{c:Call}(h:o.op=.call c):Uah E mv b6 nv nb nr g o=oJ E mv b6 nv nb nr g o:=by
 unfold Uah;have h1:Aam (b6&&noG g) o.op=none:=by rw[h];unfold Aam;split<;>first|rfl|contradiction
 have h2:Laj (b6&&noG g&&!mv) o=none:=by
  unfold Laj;split
  ·rw[h]
  ·rfl
 rw[h1];dsimp only;rw[h2]
theorem Uak {nv nr t:Nat}(gS:σ (kR (nr+1))=none){l:List Step}{u:List (Nat×aP)}(h1:(Jac E nv nr t).eval σ=some (some (l,u))):upds σ u (kR (nr+1))=none:=by
 simp only[Jac,aA,Qb0,aQ,Qb7]at h1;split at h1
 case h_2=>simp only[aC,Option.some.injEq]at h1;cases h1
 simp only[aA,Qb0]at h1;obtain⟨s,-,h1⟩:=h1;split at h1
 case h_2=>simp only[aC,Option.some.injEq]at h1;cases h1
 rw[gF]at h1;split at h1
 case isFalse=>simp only[aC,Option.some.injEq]at h1;cases h1
 simp only[aA,Qb0,aQ,Qb7]at h1;split at h1
 case h_2=>simp only[aC,Option.some.injEq]at h1;cases h1
 rename_i r' _ _ _ _ _ _ _ _ hk;simp only[aC,Option.some.injEq,Prod.mk.injEq]at h1;obtain⟨-,rfl⟩:=h1
 cases e:upds σ _ (kR (nr+1)) with
 |none=>rfl
 | some c =>
  exfalso
  rcases oG _ _ _ _ e with h4|⟨-,h4⟩
  ·simp only[List.mem_cons,Prod.mk.injEq,List.not_mem_nil,or_false]at h4
   rcases h4 with ⟨h4,-⟩|⟨h4,-⟩|⟨h4,-⟩
   ·exact gX h4.symm
   ·have:=eD h4;omega
   ·rw[h4,hk]at gS;cases gS
  ·rw[gS]at h4;cases h4
theorem Xaj {mv b6:Bool}{nv nb nr:Nat}{ty:TypeId}{x:Operand}(ho:o.op=.load ty x){r:bJ}(h:(oJ E mv b6 nv nb nr none o).eval σ=some r){j:Nat}{c:aP}(hc:(kR j,c)∈r.upd):False:=by
 simp only[oJ,ho,aA,Qb0,tiR,aT]at h;obtain⟨ti,h1,p,h2,h⟩:=h
 have gv:∀ {g':Option (aI×Bool)} {v:SV},(kR j,c)∈(match o.dst with|some d=>[(kT d,aP.slot g' v)]|none=>[])->False:=by
  intro g' v hm;split at hm
  ·simp only[Rbb,Prod.mk.injEq]at hm
   exact gX hm.1.symm
  ·simp at hm
 have hC:∀ {v:SV},(Wa6 o none nv v).eval σ=some r->False:=by
  intro v h;simp only[Wa6,sH,aC,Option.some.injEq]at h;subst h;rw[Rbs]at hc;exact gv hc
 unfold Saj at h;split at h
 ·simp only[aA,Qb0,aQ,Qb7]at h
  split at h
  ·simp only[aA,Qb0]at h
   obtain⟨_,-,h⟩:=h;split at h
   ·exact hC h
   ·cases h
  ·cases h
 ·simp only[aA,Qb0]at h
  obtain⟨s,-,h⟩:=h;split at h
  ·simp only[sG,aC,Option.some.injEq]at h
   subst h;exact gv hc
  ·simp only[sH,aC,Option.some.injEq]at h
   subst h;rw[Rbs]at hc;exact gv hc
  ·cases h
 ·cases h
theorem Wak (hR:R E.ntmps F σ ρ a w G)(hd:eT E.ntmps o)(hti:uO P E.ti){nv nb nr:Nat}{mv b6:Bool}(hf:Cae σ nb nr){res:bJ}
  (h:(Uah E mv b6 nv nb nr g o).eval σ=some res) (aj:aL cf ρ g nv res.lets)
  (eM:∀ f args argTypes,o.op=.call { callee:=.value f,args,argTypes }->fV P E F σ ρ a w g o Q res.upd):fV P E F σ ρ a w g o Q res.upd:=by
 unfold Uah at h;split at h
 ·split at h
  ·exact Ea6 hR hd hti hf h aj eM
  ·
   rename_i t vk
   have hb:(b6&&noG g&&!mv)=true:=by
    cases e:(b6&&noG g&&!mv) with
    |true=>rfl
    |false=>rw[e]at vk;cases vk
   simp only[Qb1]at hb;obtain rfl:=vO hb.1.2
   obtain⟨ty,x,ho⟩:∃ ty x,o.op=.load ty x:=by
    unfold Laj at vk;split at vk
    ·split at vk
     ·rename_i ho;exact⟨_,_,ho⟩
     ·cases vk
    ·cases vk
   simp only[aA,Qb0,Oa9]at h;obtain⟨r,h1,y,h2,h⟩:=h
   cases y with
   | none =>
    simp only[aC,Option.some.injEq]at h;subst h;exact Ea6 hR hd hti hf h1 aj eM
   | some lu =>
    obtain⟨l,u⟩:=lu;simp only[aC,Option.some.injEq]at h;subst h;obtain⟨jn,gz⟩:=aL.append aj;have h0:fV P E F σ ρ a w none o Q r.upd:=Ea6 hR hd hti hf h1 jn fun f args argTypes qy=>by rw[ho]at qy;cases qy
    refine⟨fun hg=>?_,fun hg=>by simp[gOn]at hg⟩;refine Oper.wp_mono (K:=Nx E.ntmps F σ ρ r.upd) (fun a' w' ⟨G',eu⟩=>?_) (h0.1 hg)
    have gS:upds σ r.upd (kR nr)=none:=by
     have ja:=hf.nr nr (Rbg _) (by unfold bP;omega)
     cases e:upds σ r.upd (kR nr) with
     |none=>rfl
     | some c =>
      exfalso
      rcases oG _ _ _ _ e with h4|⟨-,h4⟩
      ·exact Xaj ho h1 h4
      ·rw[ja]at h4;cases h4
    obtain⟨G'',pg⟩:=Naj eu gS h2 gz;exact⟨G'',by rw[zB];exact pg⟩
 ·rename_i t fg
  simp only[aA,Qb0]at h;obtain⟨x,h1,h⟩:=h
  have hb:(b6&&noG g)=true:=by
   cases e:(b6&&noG g) with
   |true=>rfl
   |false=>rw[e]at fg;unfold Aam at fg;cases fg
  simp only[Qb1]at hb;obtain rfl:=vO hb.2
  cases x with
  |none=>exact Ea6 hR hd hti hf h aj eM
  | some lu =>
   obtain⟨l,u⟩:=lu;simp only[aA,Qb0,Oa9,aC,Option.some.injEq]at h;obtain⟨r,h2,rfl⟩:=h;obtain⟨jn,gz⟩:=aL.append aj;obtain⟨G',eu⟩:=Naj hR (hf.nr nr (Rbg _) (by unfold bP;omega)) h1 jn
   have cj:fV P E F (upds σ u) ρ a w none o Q r.upd:=by
    have pL:upds σ u (kR (nr+1))=none:=Uak (hf.nr (nr+1) (by omega) (by unfold bP;omega)) h1;unfold Aam at fg;split at fg
    ·rename_i ho
     exact Fa6 eu hti ho h2 gz
    ·rename_i ho
     exact tY eu hd hti pL ho h2 gz
    ·cases fg
   refine⟨fun hg=>?_,fun hg=>by simp[gOn]at hg⟩;have e:Nx E.ntmps F σ ρ (u++r.upd)=Nx E.ntmps F (upds σ u) ρ r.upd:=by unfold Nx;rw[zB]
   rw[e];exact cj.1 hg
theorem jA {ops:List Oper}{mv b6:Bool}{nv nb nr:Nat}{res:bJ}(h:(kJ E ops mv b6 nv nb nr o).eval σ=some (g,res)) :
  (Ka7 ops o).eval σ=some g/\eT E.ntmps o/\(Uah E mv b6 nv nb nr g o).eval σ=some res/\res.upd.all (fun x=>yC E.ntmps nb nr x.1)=true:=by
 simp only[kJ,aA,Qb0,aH,aC,Option.some.injEq,Prod.mk.injEq]at h;obtain⟨g',h1,_,h2,res',h3,_,h4,rfl,rfl⟩:=h;refine⟨h1,fun d hd=>?_,h3,?_⟩
 ·rw[hd]at h2
  dsimp only at h2;split at h2
  ·rename_i hb;simpa using hb
  ·cases h2
 ·split at h4
  ·rename_i hb;exact hb
  ·cases h4
def Gbl (P:Program)(E:Env)(F:bE)(σ:Nat->Option aP)(ρ:List D)(ops:Array Oper)(o:Oper)(Q:Exit->Act->World->Prop)(u:List (Nat×aP))(a:Act)(w:World):Prop :=
 if Region.wanted o (yielded ops a.tmps) then o.wp P a w (Nx E.ntmps F σ ρ u) Q else Nx E.ntmps F σ ρ u (a.put o.dst undef) w
theorem Aao (hR:R E.ntmps F σ ρ a w G)(hti:uO P E.ti){ops:Array Oper}(kt:∀ o∈ops.toList,eT E.ntmps o){mv b6:Bool}{nv nb nr:Nat}(hf:Cae σ nb nr){res:bJ}
  (h:(kJ E ops.toList mv b6 nv nb nr o).eval σ=some (g,res)) (aj:aL cf ρ g nv res.lets)
  (eM:∀ f args argTypes,o.op=.call { callee:=.value f,args,argTypes }->fV P E F σ ρ a w g o Q res.upd):Gbl P E F σ ρ ops o Q res.upd a w:=by
 obtain⟨h1,h2,h3,-⟩:=jA h;have hs:=Wak hR h2 hti hf h3 aj eM;unfold Gbl;rw[Qaz hR kt h1];split
 ·rename_i hg;exact hs.1 hg
 ·rename_i hg;exact hs.2 (by simpa using hg)
end
section
variable {cf:Nat->List D->Option (List D)}
theorem Raa {i:Nat}{k:Kind}:Lat i k=true↔k=.yield i:=by
 cases k<;>simp[Lat]
 exact eq_comm
theorem Ua7 {k:Kind}:Tae k=true↔k=.cont:=by cases k<;>simp[Tae]
theorem Zav {β:Type}{body:Tm β}{ρ:List D}{C:List D->Out β->Prop}
  (zi:∀ vs o,Ec cf body (ρ++vs)=some o->o.kind≠.cont->C vs o)
  (c5:∀ vs o o',Ec cf body (ρ++vs)=some o->o.kind=.cont->C o.vals o'->Lc cf body ρ o.vals=some o'->C vs o') :
  ∀ {vs:List D} {o:Out β},Lc cf body ρ vs=some o->C vs o:=by
 intro vs o h;have h':=(fH (Mbi (cf:=cf) body ρ vs)).1 h;obtain⟨n,hn⟩:=h'
 have key:∀ m vs,iter m (fun vs=>runT cf n body (ρ++vs)) vs=some o->C vs o/\Lc cf body ρ vs=some o:=by
  intro m
  induction m with
  |zero=>intro vs h;cases h
  | succ m ih =>
   intro vs h;simp only[iter,Qb0]at h;obtain⟨o1,h1,h2⟩:=h;have e1:Ec cf body (ρ++vs)=some o1:=Iad.2 ⟨n,h1⟩;split at h2
   ·rename_i hk
    obtain⟨h3,h4⟩:=ih _ h2;exact⟨c5 vs o1 o e1 hk h3 h4,by rw[Zaw,e1,Qb7,if_pos hk];exact h4⟩
   ·rename_i hk
    obtain rfl:=Option.some.inj h2;exact⟨zi vs o1 e1 hk,by rw[Zaw,e1,Qb7,if_neg hk]⟩
 exact (key n vs hn).1
theorem vN {β:Type}{f:Kind->Bool}:∀ {t:Tm β} {ρ:List D} {o:Out β},t.no f=true->Ec cf t ρ=some o->f o.kind=false
 | .leaf k xs e, ρ, o, hn, h => by
  rw[fD]at h;obtain rfl:=Option.some.inj h;simpa[Tm.no] using hn
 |.stuck,ρ,o,hn,h=>by rw[iL]at h;cases h
 | .lt g p xs n k, ρ, o, hn, h => by
  rw[Mau]at h;split at h
  ·simp only[Qb0]at h
   obtain⟨ds,-,h⟩:=h;split at h
   ·exact vN (t:=k) hn h
   ·cases h
  ·exact vN (t:=k) hn h
 | .call g c xs n os k, ρ, o, hn, h => by
  rw[tL]at h;split at h
  ·simp only[Qb0]at h
   obtain⟨ds,-,h⟩:=h;split at h
   ·exact vN (t:=k) hn h
   ·cases h
  ·exact vN (t:=k) hn h
 | .ite c t e, ρ, o, hn, h => by
  simp only[Tm.no,Qb1]at hn;rw[Eap]at h;split at h
  ·exact vN hn.1 h
  ·exact vN hn.2 h
  ·cases h
 | .bind i t k, ρ, o, hn, h => by
  simp only[Tm.no,Qb1]at hn;simp only[pX,Qb0]at h;obtain⟨o1,h1,h2⟩:=h;split at h2
  ·exact vN hn.2 h2
  ·obtain rfl:=Option.some.inj h2
   exact vN hn.1 h1
 | .loop init b, ρ, o, hn, h => by
  rw[Mav]at h;simp only[Tm.no]at hn;exact Zav (C:=fun _ o=>f o.kind=false) (fun vs o h1 _=>vN hn h1) (fun _ _ _ _ _ h3 _=>h3) h
theorem oZ {f:St->Option (Tm St)}:∀ {t t':Tm St} {ρ:List D} {o':Out St},t.graft f=some t'->Ec cf t' ρ=some o' ->
  ∃ o,Ec cf t ρ=some o/\((o.kind=.fall/\∃ r,f o.ext=some r/\Ec cf r o.env=some o')\/(o.kind≠.fall/\o'=o))
 | .leaf k xs s, t', ρ, o', hg, h => by
  cases k with
  |fall=>exact⟨_,fD ..,.inl ⟨rfl,t',hg,h⟩⟩
  | _ =>
   simp only[Tm.graft,Option.some.injEq]at hg;subst hg;rw[fD]at h;obtain rfl:=Option.some.inj h;exact⟨_,fD ..,.inr ⟨by simp,rfl⟩⟩
 | .stuck, t', ρ, o', hg, h => by
  simp only[Tm.graft,Option.some.injEq]at hg;subst hg;rw[iL]at h;cases h
 | .lt g p xs n k, t', ρ, o', hg, h => by
  simp only[Tm.graft,Rbc]at hg;obtain⟨k',hk,rfl⟩:=hg;rw[Mau]at h;simp only[Mau];split at h
  ·rename_i c5
   simp only[Qb0]at h;obtain⟨ds,h1,h⟩:=h;split at h
   ·rename_i hl
    obtain⟨o,h2,h3⟩:=oZ hk h;exact⟨o,by rw[if_pos c5,h1,Qb7,if_pos hl];exact h2,h3⟩
   ·cases h
  ·rename_i c5
   obtain⟨o,h2,h3⟩:=oZ hk h;exact⟨o,by rw[if_neg c5];exact h2,h3⟩
 | .call g c xs n os k, t', ρ, o', hg, h => by
  simp only[Tm.graft,Rbc]at hg;obtain⟨k',hk,rfl⟩:=hg;rw[tL]at h;simp only[tL];split at h
  ·rename_i c5
   simp only[Qb0]at h;obtain⟨ds,h1,h⟩:=h;split at h
   ·rename_i hl
    obtain⟨o,h2,h3⟩:=oZ hk h;exact⟨o,by rw[if_pos c5,h1,Qb7,if_pos hl];exact h2,h3⟩
   ·cases h
  ·rename_i c5
   obtain⟨o,h2,h3⟩:=oZ hk h;exact⟨o,by rw[if_neg c5];exact h2,h3⟩
 | .ite c t e, t', ρ, o', hg, h => by
  simp only[Tm.graft,Qb0,Rbc]at hg;obtain⟨t1,ht,e1,he,rfl⟩:=hg;rw[Eap]at h;simp only[Eap];split at h
  ·exact oZ ht h
  ·exact oZ he h
  ·cases h
 | .bind i t k, t', ρ, o', hg, h => by
  simp only[Tm.graft]at hg
  cases hn:t.no nZ with
  |false=>rw[hn]at hg;cases hg
  | true =>
   rw[hn,cond_true,Rbc]at hg;obtain⟨k',hk,rfl⟩:=hg;simp only[pX,Qb0]at h;obtain⟨o1,h1,h2⟩:=h;simp only[pX,h1,Qb7];split at h2
   ·rename_i hy
    rw[if_pos hy];exact oZ hk h2
   ·rename_i hy
    rw[if_neg hy];obtain rfl:=Option.some.inj h2;refine⟨o1,rfl,.inr ⟨fun e=>?_,rfl⟩⟩;have:=vN hn h1;rw[e]at this;cases this
 | .loop init b, t', ρ, o', hg, h => by
  simp only[Tm.graft]at hg
  cases hn:b.no nZ with
  |false=>rw[hn]at hg;cases hg
  | true =>
   rw[hn,cond_true,Option.some.injEq]at hg;subst hg;refine⟨o',h,.inr ⟨fun e=>?_,rfl⟩⟩;have:=vN (t:=.loop init b) (f:=nZ) hn h;rw[e]at this;cases this
theorem iR {id:Nat}:∀ {t t':Tm St} {ρ:List D} {o':Out St},t.exitFall id=some t'->Ec cf t' ρ=some o' ->
  ∃ o,Ec cf t ρ=some o/\((nL id o.kind=true/\o'=⟨.fall,[],o.ext,o.env⟩)\/(nL id o.kind=false/\o'=o))
 | .leaf k xs s, t', ρ, o', hg, h => by
  cases k with
  | exit j =>
   simp only[Tm.exitFall,Option.some.injEq]at hg
   cases hb:Nat.beq id j with
   | true =>
    rw[hb,cond_true]at hg;subst hg;rw[fD]at h;obtain rfl:=Option.some.inj h;exact⟨_,fD ..,.inl ⟨by simpa[nL] using hb,rfl⟩⟩
   | false =>
    rw[hb,cond_false]at hg;subst hg;rw[fD]at h;obtain rfl:=Option.some.inj h;exact⟨_,fD ..,.inr ⟨by simpa[nL] using hb,rfl⟩⟩
  | _ =>
   simp only[Tm.exitFall,Option.some.injEq]at hg;subst hg;rw[fD]at h;obtain rfl:=Option.some.inj h;exact⟨_,fD ..,.inr ⟨rfl,rfl⟩⟩
 | .stuck, t', ρ, o', hg, h => by
  simp only[Tm.exitFall,Option.some.injEq]at hg;subst hg;rw[iL]at h;cases h
 | .lt g p xs n k, t', ρ, o', hg, h => by
  simp only[Tm.exitFall,Rbc]at hg;obtain⟨k',hk,rfl⟩:=hg;rw[Mau]at h;simp only[Mau];split at h
  ·rename_i c5
   simp only[Qb0]at h;obtain⟨ds,h1,h⟩:=h;split at h
   ·rename_i hl
    obtain⟨o,h2,h3⟩:=iR hk h;exact⟨o,by rw[if_pos c5,h1,Qb7,if_pos hl];exact h2,h3⟩
   ·cases h
  ·rename_i c5
   obtain⟨o,h2,h3⟩:=iR hk h;exact⟨o,by rw[if_neg c5];exact h2,h3⟩
 | .call g c xs n os k, t', ρ, o', hg, h => by
  simp only[Tm.exitFall,Rbc]at hg;obtain⟨k',hk,rfl⟩:=hg;rw[tL]at h;simp only[tL];split at h
  ·rename_i c5
   simp only[Qb0]at h;obtain⟨ds,h1,h⟩:=h;split at h
   ·rename_i hl
    obtain⟨o,h2,h3⟩:=iR hk h;exact⟨o,by rw[if_pos c5,h1,Qb7,if_pos hl];exact h2,h3⟩
   ·cases h
  ·rename_i c5
   obtain⟨o,h2,h3⟩:=iR hk h;exact⟨o,by rw[if_neg c5];exact h2,h3⟩
 | .ite c t e, t', ρ, o', hg, h => by
  simp only[Tm.exitFall,Qb0,Rbc]at hg;obtain⟨t1,ht,e1,he,rfl⟩:=hg;rw[Eap]at h;simp only[Eap];split at h
  ·exact iR ht h
  ·exact iR he h
  ·cases h
 | .bind i t k, t', ρ, o', hg, h => by
  simp only[Tm.exitFall]at hg
  cases hn:t.no (nL id) with
  |false=>rw[hn]at hg;cases hg
  | true =>
   rw[hn,cond_true,Rbc]at hg;obtain⟨k',hk,rfl⟩:=hg;simp only[pX,Qb0]at h;obtain⟨o1,h1,h2⟩:=h;simp only[pX,h1,Qb7];split at h2
   ·rename_i hy
    rw[if_pos hy];exact iR hk h2
   ·rename_i hy
    rw[if_neg hy];obtain rfl:=Option.some.inj h2;exact⟨o1,rfl,.inr ⟨vN hn h1,rfl⟩⟩
 | .loop init b, t', ρ, o', hg, h => by
  simp only[Tm.exitFall]at hg
  cases hn:b.no (nL id) with
  |false=>rw[hn]at hg;cases hg
  | true =>
   rw[hn,cond_true,Option.some.injEq]at hg;subst hg;exact⟨o',h,.inr ⟨vN (t:=.loop init b) (f:=nL id) hn h,rfl⟩⟩
theorem kI {out:Kind}{fh:Kind->Bool}{f:St->Option (Tm St)}(hf:∀ s r,f s=some r->∀ ρ o,Ec cf r ρ=some o->o.kind=out)
  (hc:fh .cont=false) (hy:∀ i,fh (.yield i)=false):∀ {t t':Tm St} {ρ:List D} {o':Out St},t.turn out fh f=some t'->Ec cf t' ρ=some o' ->
  ∃ o,Ec cf t ρ=some o/\((fh o.kind=true/\o'.kind=out/\∃ r,f o.ext=some r/\Ec cf r o.env=some o')\/(fh o.kind=false/\o'=o))
 | .leaf k xs s, t', ρ, o', hg, h => by
  simp only[Tm.turn]at hg
  cases hs:fh k with
  | true =>
   rw[hs,cond_true]at hg;exact⟨_,fD ..,.inl ⟨hs,hf _ _ hg _ _ h,t',hg,h⟩⟩
  | false =>
   rw[hs,cond_false,Option.some.injEq]at hg;subst hg;rw[fD]at h;obtain rfl:=Option.some.inj h;exact⟨_,fD ..,.inr ⟨hs,rfl⟩⟩
 | .stuck, t', ρ, o', hg, h => by
  simp only[Tm.turn,Option.some.injEq]at hg;subst hg;rw[iL]at h;cases h
 | .lt g p xs n k, t', ρ, o', hg, h => by
  simp only[Tm.turn,Rbc]at hg;obtain⟨k',hk,rfl⟩:=hg;rw[Mau]at h;simp only[Mau];split at h
  ·rename_i c5
   simp only[Qb0]at h;obtain⟨ds,h1,h⟩:=h;split at h
   ·rename_i hl
    obtain⟨o,h2,h3⟩:=kI hf hc hy hk h;exact⟨o,by rw[if_pos c5,h1,Qb7,if_pos hl];exact h2,h3⟩
   ·cases h
  ·rename_i c5
   obtain⟨o,h2,h3⟩:=kI hf hc hy hk h;exact⟨o,by rw[if_neg c5];exact h2,h3⟩
 | .call g c xs n os k, t', ρ, o', hg, h => by
  simp only[Tm.turn,Rbc]at hg;obtain⟨k',hk,rfl⟩:=hg;rw[tL]at h;simp only[tL];split at h
  ·rename_i c5
   simp only[Qb0]at h;obtain⟨ds,h1,h⟩:=h;split at h
   ·rename_i hl
    obtain⟨o,h2,h3⟩:=kI hf hc hy hk h;exact⟨o,by rw[if_pos c5,h1,Qb7,if_pos hl];exact h2,h3⟩
   ·cases h
  ·rename_i c5
   obtain⟨o,h2,h3⟩:=kI hf hc hy hk h;exact⟨o,by rw[if_neg c5];exact h2,h3⟩
 | .ite c t e, t', ρ, o', hg, h => by
  simp only[Tm.turn,Qb0,Rbc]at hg;obtain⟨t1,ht,e1,he,rfl⟩:=hg;rw[Eap]at h;simp only[Eap];split at h
  ·exact kI hf hc hy ht h
  ·exact kI hf hc hy he h
  ·cases h
 | .bind i t k, t', ρ, o', hg, h => by
  simp only[Tm.turn]at hg
  cases hiy:Lat i out with
  | true =>
   rw[hiy,cond_true]at hg
   cases hn:t.no fh with
   |false=>rw[hn]at hg;cases hg
   | true =>
    rw[hn,cond_true,Rbc]at hg;obtain⟨k',hk,rfl⟩:=hg;simp only[pX,Qb0]at h;obtain⟨o1,h1,h2⟩:=h;simp only[pX,h1,Qb7];split at h2
    ·rename_i ni
     rw[if_pos ni];exact kI hf hc hy hk h2
    ·rename_i ni
     rw[if_neg ni];obtain rfl:=Option.some.inj h2;exact⟨o1,rfl,.inr ⟨vN hn h1,rfl⟩⟩
  | false =>
   rw[hiy,cond_false]at hg;simp only[Qb0,Rbc]at hg;obtain⟨t1,ht,k',hk,rfl⟩:=hg;have bh:out≠.yield i:=fun e=>by rw[Raa.2 e]at hiy;cases hiy
   simp only[pX,Qb0]at h;obtain⟨o1',h1,h2⟩:=h;obtain⟨o1,h3,h4⟩:=kI hf hc hy ht h1;simp only[pX,h3,Qb7]
   rcases h4 with ⟨h5,h6,h7⟩|⟨h5,h6⟩
   ·rw[if_neg (by rw[h6];exact bh)]at h2
    obtain rfl:=Option.some.inj h2;have:o1.kind≠.yield i:=fun e=>by rw[e,hy]at h5;cases h5
    rw[if_neg this];exact⟨o1,rfl,.inl ⟨h5,h6,h7⟩⟩
   ·subst h6
    split at h2
    ·rename_i ni
     rw[if_pos ni];exact kI hf hc hy hk h2
    ·rename_i ni
     rw[if_neg ni];obtain rfl:=Option.some.inj h2;exact⟨_,rfl,.inr ⟨h5,rfl⟩⟩
 | .loop init b, t', ρ, o', hg, h => by
  simp only[Tm.turn]at hg
  cases yz:Tae out with
  | true =>
   rw[yz,cond_true]at hg
   cases hn:b.no fh with
   |false=>rw[hn]at hg;cases hg
   | true =>
    rw[hn,cond_true,Option.some.injEq]at hg;subst hg;exact⟨o',h,.inr ⟨vN (t:=.loop init b) (f:=fh) hn h,rfl⟩⟩
  | false =>
   rw[yz,cond_false,Rbc]at hg;obtain⟨b',hb,rfl⟩:=hg;have bh:out≠.cont:=fun e=>by rw[Ua7.2 e]at yz;cases yz
   rw[Mav]at h;simp only[Mav]
   refine Zav (C:=fun vs o'=>∃ o,Lc cf b ρ vs=some o/\((fh o.kind=true/\o'.kind=out/\∃ r,f o.ext=some r/\Ec cf r o.env=some o')\/(fh o.kind=false/\o'=o)))
    (fun vs o1' h1 hk=>?_) (fun vs o1' o2 h1 hk h2 sf=>?_) h
   ·obtain⟨o1,h3,h4⟩:=kI hf hc hy hb h1
    rcases h4 with ⟨h5,h6,h7⟩|⟨h5,h6⟩
    ·have:o1.kind≠.cont:=fun e=>by rw[e,hc]at h5;cases h5
     exact⟨o1,by rw[Zaw,h3,Qb7,if_neg this],.inl ⟨h5,h6,h7⟩⟩
    ·subst h6
     exact⟨o1',by rw[Zaw,h3,Qb7,if_neg hk],.inr ⟨h5,rfl⟩⟩
   ·obtain⟨o1,h3,h4⟩:=kI hf hc hy hb h1
    rcases h4 with ⟨h5,h6,h7⟩|⟨h5,h6⟩
    ·exact absurd (h6.symm.trans hk) bh
    ·subst h6
     obtain⟨o,h8,h9⟩:=h2;exact⟨o,by rw[Zaw,h3,Qb7,if_pos hk];exact h8,h9⟩
end
def yZ (σ:Nat->Option aP)(N:Nat):Prop:=∀ k c,σ k=some c->bR N c=true
def wO (N:Nat)(ρ cS:List D):Prop:=∀ x,aX N x=true->x.val cS=x.val ρ
theorem wO.ext {N:Nat}{ρ:List D}(h:N<=ρ.length)(e:List D):wO N ρ (ρ++e):=fun x hx=>pV hx h
section
variable {n:Nat} {F:bE} {σ:Nat->Option aP} {ρ cS:List D} {a:Act} {w:World} {G:Gh} {N:Nat}
theorem wO.gOn (h:wO N ρ cS){g:Option (aI×Bool)}(hg:nS N g=true):Go.Proofs.YtpgnlmfmlffjcaaGreat.Rf.gOn cS g=Go.Proofs.YtpgnlmfmlffjcaaGreat.Rf.gOn ρ g:=by
 cases g with
 |none=>rfl
 | some z =>
  obtain⟨x,w⟩:=z;simp only[nS]at hg;simp only[Go.Proofs.YtpgnlmfmlffjcaaGreat.Rf.gOn,h x hg]
theorem wO.path (h:wO N ρ cS){p:List (aI×Nat×Nat)}(hp:(p.all fun x=>aX N x.1)=true):aZ cS p=aZ ρ p:=by
 unfold aZ;apply Tb2;intro x hx;rw[Rbu]at hp;unfold kF;rw[h x.1 (hp x hx)]
mutual
theorem aB.same (h:wO N ρ cS):∀ (l:aO) (v:Value),l.inScope N=true->aB σ ρ G w l v->aB σ cS G w l v
 |.dead,_,_,hl=>by simpa[aB] using hl
 | .sc x, v, hs, hl => by
  simp only[aO.inScope]at hs;simp only[aB,h x hs]at hl ⊢;exact hl
 | .su g x, v, hs, hl => by
  simp only[aO.inScope,Qb1]at hs;have hg:Go.Proofs.YtpgnlmfmlffjcaaGreat.Rf.gOn cS (some g)=Go.Proofs.YtpgnlmfmlffjcaaGreat.Rf.gOn ρ (some g):=h.gOn (by obtain⟨y,b⟩:=g;exact hs.2);simp only[aB,h x hs.1,hg]at hl ⊢;exact hl
 |.ex r,v,_,hl=>by simpa[aB] using hl
 | .sn deps p nie x, v, hs, hl => by
  simp only[aO.inScope,Qb1]at hs;simp only[aB,h x hs.1]at hl ⊢;refine⟨hl.1,fun hv=>?_⟩;obtain⟨h1,h2,h3⟩:=hl.2 hv;refine⟨h1,h2,?_⟩
  cases p with
  |no=>trivial
  |view=>exact h3
  | suf sz lo =>
   simp only[Cac,kF]at h3 ⊢;rw[h lo hs.2];exact h3
  | path p =>
   simp only[Cac]at h3 ⊢;rw[h.path hs.2];exact h3
 |.px b off,v,_,hl=>by simpa[aB] using hl
 | .pe l sz i off, v, hs, hl => by
  simp only[aO.inScope,Qb1]at hs;simp only[aB,h i hs.2]at hl ⊢;obtain⟨a,n,c,k,iv,h1,h2⟩:=hl;exact⟨a,n,c,k,iv,aB.same h l _ hs.1 h1,h2⟩
 | .rp deps sz x, v, hs, hl => by
  simp only[aO.inScope]at hs;simp only[aB,h x hs]at hl ⊢;exact hl
 |.pn,v,_,hl=>by simpa[aB] using hl
 | .clo f cD, v, hs, hl => by
  simp only[aO.inScope]at hs;simp only[aB]at hl ⊢;obtain⟨vs,h1,h2⟩:=hl;exact⟨vs,h1,aD.same h cD vs hs h2⟩
theorem aD.same (h:wO N ρ cS):∀ (ls:List aO) (vs:List Value),bB N ls=true->aD σ ρ G w ls vs->aD σ cS G w ls vs
 |[],vs,_,hl=>by simpa[aD] using hl
 | l :: ls, vs, hs, hl => by
  simp only[bB,Qb1]at hs;simp only[aD]at hl ⊢;obtain⟨u,us,e,h1,h2⟩:=hl;exact⟨u,us,e,aB.same h l u hs.1 h1,aD.same h ls us hs.2 h2⟩
end
theorem gT.same (h:wO N ρ cS):∀ (ts:List (Bool×List aO)) (us:List Value),(ts.all fun v=>bB N v.2)=true->gT σ ρ G w ts us->gT σ cS G w ts us
 |[],_,_,ht=>ht
 | (a, ls) :: r, us, hs, ht => by
  simp only[List.all_cons,Qb1]at hs;obtain⟨u,bn,vs,e,h1,h2,h3⟩:=ht;exact⟨u,bn,vs,e,aD.same h ls vs hs.1 h1,h2,gT.same h r bn hs.2 h3⟩
theorem bU.same (h:wO N ρ cS){v:SV}{u:Value}(hs:wY N v=true)(hv:bU σ ρ G w v u):bU σ cS G w v u:=by
 cases v with
 |dead=>trivial
 |one l=>exact aB.same h l u hs hv
 |agg ls=>obtain⟨vs,e,h1⟩:=hv;exact⟨vs,e,aD.same h ls vs hs h1⟩
 |tup ts=>obtain⟨us,e,h1⟩:=hv;exact⟨us,e,gT.same h ts us hs h1⟩
theorem lZ:∀ {ls:List aO} {j:Nat} {l:aO},bB N ls=true->ls[j]?=some l->l.inScope N=true
 |[],j,l,_,h=>by simp at h
 | m :: ls, 0, l, hs, h => by
  simp only[bB,Qb1]at hs;simp only[Qb9,Option.some.injEq]at h;rw[<- h];exact hs.1
 | m :: ls, j + 1, l, hs, h => by
  simp only[bB,Qb1]at hs;exact lZ hs.2 (by simpa using h)
theorem R.same (h:R n F σ ρ a w G)(hs:yZ σ N)(hv:wO N ρ cS):R n F σ cS a w G:=by
 refine⟨h.tmps,h.defers,fun k c hk=>?_,h.frame,h.rng⟩;have gb:=hs k c hk
 cases c with
 | slot g v =>
  simp only[bR,Qb1]at gb;obtain⟨t,e,h1⟩:=h.cont k _ hk;exact⟨t,e,fun hg=>(h1 (by rw[<- hv.gOn gb.1];exact hg)).same hv gb.2⟩
 | box ro ls =>
  simp only[bR]at gb;obtain⟨b,e,h1,h2,h3⟩:=h.cont k _ hk;refine⟨b,e,h1,h2,fun j l hj=>?_⟩;obtain⟨v,h4,h5,h6⟩:=h3 j l hj;exact⟨v,h4,h5,aB.same hv l v (lZ gb hj) h6⟩
 | root x m an st =>
  simp only[bR]at gb;obtain⟨r,e,h0,h1⟩:=h.cont k _ hk;refine⟨r,e,h0,?_⟩
  cases st with
  |live=>simp only[bM]at h1 ⊢;rw[hv x gb];exact h1
  |frozen=>simp only[bM]at h1 ⊢;rw[hv x gb];exact h1
  |gone=>trivial
  |fwd r'=>exact h1
theorem R.ext (h:R n F σ ρ a w G)(hs:yZ σ N)(hn:N<=ρ.length)(e:List D):R n F σ (ρ++e) a w G:=h.same hs (.ext hn e)
theorem dB {M:Nat}(h:N<=M){x:aI}(hx:aX N x=true):aX M x=true:=by
 cases x with
 |c d=>rfl
 |v i=>simp only[aX,Rb4]at hx ⊢;omega
theorem Gam {M:Nat}(h:N<=M){p:Pth}(hx:Aa4 N p=true):Aa4 M p=true:=by
 cases p with
 |no=>rfl
 |view=>rfl
 |suf sz lo=>exact dB h hx
 | path p =>
  simp only[Aa4,Rbu]at hx ⊢;exact fun x hm=>dB h (hx x hm)
mutual
theorem nJ {M:Nat}(h:N<=M):∀ (l:aO),l.inScope N=true->l.inScope M=true
 |.dead,_=>rfl
 |.sc x,hs=>by simp only[aO.inScope]at hs ⊢;exact dB h hs
 |.su g x,hs=>by simp only[aO.inScope,Qb1]at hs ⊢;exact⟨dB h hs.1,dB h hs.2⟩
 |.ex r,_=>rfl
 |.sn deps p nie x,hs=>by simp only[aO.inScope,Qb1]at hs ⊢;exact⟨dB h hs.1,Gam h hs.2⟩
 |.px b off,_=>rfl
 |.pe l sz i off,hs=>by simp only[aO.inScope,Qb1]at hs ⊢;exact⟨nJ h l hs.1,dB h hs.2⟩
 |.rp deps sz x,hs=>by simp only[aO.inScope]at hs ⊢;exact dB h hs
 |.pn,_=>rfl
 |.clo f cD,hs=>by simp only[aO.inScope]at hs ⊢;exact gJ h cD hs
theorem gJ {M:Nat}(h:N<=M):∀ (ls:List aO),bB N ls=true->bB M ls=true
 |[],_=>rfl
 |l::ls,hs=>by simp only[bB,Qb1]at hs ⊢;exact⟨nJ h l hs.1,gJ h ls hs.2⟩
end
theorem wI {M:Nat}(h:N<=M){c:aP}(hs:bR N c=true):bR M c=true:=by
 cases c with
 | slot g v =>
  simp only[bR,Qb1]at hs ⊢;refine⟨wB hs.1 h,?_⟩
  cases v with
  |dead=>rfl
  |one l=>exact nJ h l hs.2
  |agg ls=>exact gJ h ls hs.2
  | tup ts =>
   have h2:=hs.2;simp only[wY,Rbu]at h2 ⊢;exact fun x hx=>gJ h x.2 (h2 x hx)
 |box ro ls=>exact gJ h ls hs
 |root x m an st=>exact dB h hs
theorem yZ.mono {M:Nat}(hs:yZ σ N)(h:N<=M):yZ σ M:=fun k c hk=>wI h (hs k c hk)
theorem yZ.upds {M:Nat}(hs:yZ σ N)(h:N<=M){u:List (Nat×aP)}(hu:u.all (fun x=>bR M x.2)=true):yZ (upds σ u) M:=by
 intro k c hk
 rcases oG u σ k c hk with h1|⟨-,h1⟩
 ·rw[Rbu]at hu
  exact hu _ h1
 ·exact wI h (hs k c h1)
end
end Go.Proofs.YtpgnlmfmlffjcaaGreat.Rf
