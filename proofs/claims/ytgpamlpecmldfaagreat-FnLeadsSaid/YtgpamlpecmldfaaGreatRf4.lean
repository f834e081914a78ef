import Derived.Test.YtgpamlpecmldfaaGreatRf3
import Derived.Laws.MakeOwn
set_option linter.all false
open Array renaming getElem?_eq_getElem → Wbq, length_toList → Xb9, ext' → Zbc
open Bool renaming and_eq_true → Vbk, not_eq_true' → Vb9
open List renaming getElem?_eq_some_iff → Vbn, mem_append_left → Vbo, mem_singleton → Vbp, getElem?_eq_getElem → Vbq, mem_append_right → Vbr, mem_cons → Vbu, getElem?_cons_zero → Vbv, length_append → Vbw, append_assoc → Vbx, getElem?_append_right → Vbz, mem_cons_of_mem → Vb1, getElem?_append_left → Vb2, mem_of_getElem? → Vb3, mem_append → Vb5, mem_cons_self → Vb7, replicate → Wba, map_cons → Wbe, all_eq_true → Wbg, length_take → Wbh, length_map → Wbm, append_nil → Wbo, getElem?_map → Wbs, map_nil → Wbu, nil_append → Wby, mem_iff_getElem? → Wb8, ext_getElem? → Yb0
open List.cons renaming injEq → Xbh
open Nat renaming le_refl → Vb6, add_assoc → Vb8, lt_or_ge → Wbc, beq_eq → Wbl, add_zero → Wbv, add_sub_cancel_left → Wbx, blt_eq → Wb0, ble_eq → Wb6, blt → Xbe, mul_comm → Ybk, le_succ → Ybq, le_add_right → Yb2
open Option renaming bind_eq_some_iff → Vbj, bind_some → Vbs, map_eq_some_iff → Vb4, isNone_iff_eq_none → Ybb
open Option.some renaming injEq → Vbl, inj → Wbk
open Prod.mk renaming injEq → Wbd, inj → Xb5
namespace Go.Proofs.YtgpamlpecmldfaaGreat.Rf
def Wa1 (l9:List Nat)(my:Option Nat)(nsz:Nat)(src:Option (Nat×List Nat×Nat))(nr M:Nat)(s:Nat)(p:List Nat):Ow :=
 if s∈l9 then .frz else if my=some s then (match p with
  |k::t=>zA nr M ((nsz+k)::t)
  |[]=>.frz) else
 match src with
 |some (r,pq,mr)=>if s=r then (if pq <+: p then zA nr M (p.drop pq.length) else zA r mr p) else .slc s p
 |none=>.slc s p
section
variable {P:Program} {E:Env} {F:bK} {n:Nat} {σ:Nat->Option aQ} {ρ:List D} {a:Act} {w w':World} {G G':Gh} {g:Option (aI×Bool)} {o:Oper} {cf:Nat->List D->Option (List D)} {Q:Exit->Act->World->Prop} {next:Act->World->Prop}
structure XOk (σ:Nat->Option aQ) (ρ:List D) (G:Gh) (w:World) (v:Value) (ra:List (List D)) (sz m:Nat) (updX:List (Nat×aQ)) (src:Option (Nat×List Nat×Nat)) (A:Option Addr) (b:Addr) (n cap:Nat) (vs:Nat->Nat->Value):Prop where
 side:Side w v ra sz A b n cap vs
 base:(A=some b/\b.spot=none)\/(A=none/\cap=0)
 own:A=some b->∃ r pq mr,src=some (r,pq,mr)/\G.own b.block=.slc r pq
 all:A=some b->∀ k,k<cap*sz->∃ u,w.cell? (b.add k)=some u/\fzq w (b.add k)=false
 ch:∀ i row,ra[i]?=some row->∀ j d,row[j]?=some d->∃ r pq mr,src=some (r,pq,mr)/\Rp G.own w r (pq++[i*sz+j]) (m-1) (vs i j) d
 m:1<=m
 upd:(src=none/\updX=[])\/∃ r pq mr X k,src=some (r,pq,mr)/\σ (kR r)=some (.root X mr k .live) /\
  ((pq=[]/\updX=[(kR r,.root (.c .hole) 0 0 .gone)])\/(∃ X',updX=[(kR r,.root X' mr (k+1) .live)]/\Upd pq (X.val ρ) .hole (X'.val ρ)/\zO G.own w r [] (G.hdr r) pq v/\pq.length<mr))
theorem Ebx (hR:R E.ntmps F σ ρ a w G)(hd:fQ E.ntmps o){nb nr:Nat}(hf:Dai σ nb nr){fl:Bool}{vx vy v:Value}{ra rb:List (List D)}{sz m dy M:Nat}{updX gz:List (Nat×aQ)}{src:Option (Nat×List Nat×Nat)}{ry l9:List Nat}{my:Option Nat}
  {A By:Option Addr} {b by':Addr} {n n' cap mA:Nat} {vs sk:Nat->Nat->Value}
  (hX:XOk σ ρ G w vx ra sz m updX src A b n cap vs) (hY:YOk σ G w fl vy rb sz dy gz ry l9 my)
  (qo:Side w vy rb sz By by' n' mA sk) (hYc:∀ i row,rb[i]?=some row->∀ j d,row[j]?=some d->ChY G w l9 my dy (sk i j) d (i*sz+j))
  {w1:World} {A':Option Addr} {cb:Addr} {jh:Nat} {grow:Bool} (hA:Lb3 w w1 G A n n' cap sz (jA vs n sz) (jA sk n' sz) v A' cb jh grow)
  (k9:fl=true->∀ r∈ra++rb,∀ d∈r,d.isSc=true) (hM1:1<=M) (hM:fl=false->M<=m/\M<=dy)
  (xy:∀ r pq mr,src=some (r,pq,mr)->r∉ry\/fl=true) {y:aI} (hy:y.val ρ=.rows sz (ra++rb)) :
  ∃ G',R E.ntmps F (upds σ (eG o none (.one (.ex nr))++((kR nr,.root y M 0 .live)::updX++gz))) ρ (a.put o.dst v) w1 G':=by
 obtain⟨M,rfl⟩:∃ M',M=M'+1:=⟨M-1,by omega⟩;have ju:σ (kR nr)=none:=hf.nr nr (Vb6 _) (by unfold cK;omega)
 have mT:∀ b,G.own b≠.frz->b<w.heap.size:=fun b hb=>by
  rcases Wbc b w.heap.size with h|h
  ·exact h
  ·exact absurd (hR.frame.fresh b h) hb
 have a2k:∀ r pq mr,src=some (r,pq,mr)->r∉l9/\my≠some r:=by
  intro r pq mr e
  rcases xy r pq mr e with h|h
  ·exact⟨fun hh=>h (hY.fz r hh).1,fun hh=>h (hY.mv r hh).1⟩
  ·obtain⟨-,h2,h3⟩:=hY.flat h
   rw[h2,h3];simp
 have qb:∀ r pq mr,src=some (r,pq,mr)->∃ X k,σ (kR r)=some (.root X mr k .live)/\∃ c,(kR r,c)∈updX:=by
  intro r pq mr e
  rcases hX.upd with ⟨h1,-⟩|⟨r',vf,rv,X,k,h1,h2,h3⟩
  ·rw[h1]at e;cases e
  ·rw[h1]at e
   obtain⟨rfl,rfl,rfl⟩:r'=r/\vf=pq/\rv=mr:=by injection e with e;injection e with e1 e;injection e with e2 e3;exact⟨e1,e2,e3⟩
   refine⟨X,k,h2,?_⟩
   rcases h3 with ⟨-,h3⟩|⟨X',h3,-⟩<;>exact⟨_,by rw[h3];exact Vbp.2 rfl⟩
 have zv:grow=false->A'≠none->∃ r pq mr,src=some (r,pq,mr)/\G.own cb.block=.slc r pq:=by
  intro hg cU
  rcases hA.base with ⟨h1,-⟩|⟨-,-,h2⟩|⟨-,h2⟩
  ·rw[hg]at h1;cases h1
  ·rcases hX.base with ⟨h3,h4⟩|⟨h3,-⟩
   ·rw[h2]at h3
    obtain rfl:=Wbk h3;exact hX.own h2
   ·rw[h2]at h3;cases h3
  ·exact absurd h2 cU
 have cP:∀ b,b<w.heap.size->(∀ r pq mr,src=some (r,pq,mr)->G.own b≠.slc r pq)->w1.heap[b]?=w.heap[b]?:=by
  intro b' bj fg;refine hA.heap b' bj ?_
  cases hg:grow with
  |true=>exact .inl rfl
  | false =>
   by_cases cU:A'=none
   ·exact .inr (.inl cU)
   ·obtain⟨r,pq,mr,h1,h2⟩:=zv hg cU
    exact .inr (.inr fun e=>fg r pq mr h1 (e▸h2))
 generalize cu:(fun b'=>if b'=w.heap.size then (if grow=true then Ow.slc nr [] else .frz) else nS (Wa1 l9 my (n*sz) src nr (M+1)) (G.own b'))=own'
 have fb:∀ b' s p,G.own b'=.slc s p->own' b'=Wa1 l9 my (n*sz) src nr (M+1) s p:=fun b' s p hb=>by
  have:=mT b' (by rw[hb];simp);rw[<- cu];dsimp only;rw[if_neg (by omega),hb];rfl
 have hz:∀ b',G.own b'=.frz->b'<w.heap.size->own' b'=.frz/\w1.heap[b']?=w.heap[b']?:=fun b' hb bj=>by
  refine⟨?_,cP b' bj fun _ _ _ _=>by rw[hb];simp⟩;rw[<- cu];dsimp only;rw[if_neg (by omega),hb];rfl
 have yk:∀ s∈l9,∀ p,Wa1 l9 my (n*sz) src nr (M+1) s p=.frz:=fun s hs p=>by
  unfold Wa1;rw[if_pos hs]
 have tu:∀ r pq mr,src=some (r,pq,mr)->∀ p,Wa1 l9 my (n*sz) src nr (M+1) r p=if pq <+: p then zA nr (M+1) (p.drop pq.length) else zA r mr p:=fun r pq mr e p=>by
  obtain⟨h1,h2⟩:=a2k r pq mr e;unfold Wa1;rw[if_neg h1,if_neg h2,e];simp
 have sg:∀ s,s∈ry->fl=false->∀ r pq mr,src=some (r,pq,mr)->s≠r:=fun s hs gA r pq mr e h=>by
  rcases xy r pq mr e with h1|h1
  ·exact h1 (h▸hs)
  ·rw[gA]at h1;cases h1
 have hold:∀ i row,ra[i]?=some row->∀ j d,row[j]?=some d->w1.cell? (cb.add (i*sz+j))=some (vs i j)/\Rp own' w1 nr [i*sz+j] M (vs i j) d:=by
  intro i row hi j d hj;have oq:i<n:=by rw[<- hX.side.len];exact (Vbn.1 hi).1
  have lq:j<sz:=by
   have:=(Vbn.1 hj).1;rwa[hX.side.rows row (Vb3 hi)]at this
  refine⟨hA.cell _ _ (by rw[Vb2];exact nE vs oq lq;exact (Vbn.1 (nE vs oq lq)).1),?_⟩;obtain⟨r,pq,mr,e,h1⟩:=hX.ch i row hi j d hj
  cases gA:fl with
  |true=>exact .sc (h1.sc_inv (k9 gA row (Vbo _ (Vb3 hi)) d (Vb3 hj)))
  | false =>
   obtain⟨h2,h3⟩:=hM gA;refine h1.move hz _ M (by omega) fun b' t hb=>⟨?_,cP b' (mT b' (by rw[hb];simp)) fun r' vf rv e' hh=>?_⟩
   ·rw[fb b' _ _ hb,tu r pq mr e,if_pos (by rw[Vbx];exact List.prefix_append _ _),Vbx,List.drop_left,zA]
    simp only[Vbw,List.length_singleton];by_cases ht:t.length<M
    ·rw[if_pos ht,if_pos (by omega)]
    ·rw[if_neg ht,if_neg (by omega)]
   ·rw[e]at e'
    obtain⟨rfl,rfl,rfl⟩:r=r'/\pq=vf/\mr=rv:=by injection e' with e;injection e with e1 e;injection e with e2 e3;exact⟨e1,e2,e3⟩
    rw[hb]at hh
    injection hh with _ hh
    have:=congrArg List.length hh;simp at this
 have gE:∀ i row,rb[i]?=some row->∀ j d,row[j]?=some d->w1.cell? (cb.add ((n+i)*sz+j))=some (sk i j)/\Rp own' w1 nr [(n+i)*sz+j] M (sk i j) d:=by
  intro i row hi j d hj;have oq:i<n':=by rw[<- qo.len];exact (Vbn.1 hi).1
  have lq:j<sz:=by
   have:=(Vbn.1 hj).1;rwa[qo.rows row (Vb3 hi)]at this
  have mf:(n+i)*sz+j=n*sz+(i*sz+j):=by rw[Nat.add_mul];omega
  refine⟨hA.cell _ _ (by rw[mf,Vbz (by rw[lT];omega),lT,Wbx];exact nE sk oq lq),?_⟩;have nf:fl=true->d.isSc=true:=fun gA=>k9 gA row (Vbr _ (Vb3 hi)) d (Vb3 hj)
  rcases hYc i row hi j d hj with h1|⟨s,h1,h2,h3⟩|⟨h1,h2⟩
  ·exact .sc h1
  ·cases gA:fl with
   |true=>exact .sc (h3.sc_inv (nf gA))
   | false =>
    obtain⟨h4,h5⟩:=hM gA;obtain⟨h6,-,h7⟩:=hY.mv s h1;refine h3.move hz _ M (by omega) fun b' t hb=>⟨?_,cP b' (mT b' (by rw[hb];simp)) fun r' vf rv e' hh=>?_⟩
    ·rw[fb b' _ _ hb]
     unfold Wa1;rw[if_neg h7,if_pos h1];simp only[List.singleton_append];rw[zA,mf];simp only[List.length_cons];by_cases ht:t.length<M
     ·rw[if_pos ht,if_pos (by omega)]
     ·rw[if_neg ht,if_neg (by omega)]
    ·rw[hb]at hh
     injection hh with hh _
     exact sg s h6 gA r' vf rv e' hh
  ·cases gA:fl with
   |true=>exact .sc (h2.sc_inv (nf gA))
   | false =>
    obtain⟨h4,h5⟩:=hM gA;obtain rfl:M=0:=by omega
    refine .fz (h2.mono' fun b' hb bj=>?_)
    rcases hb with hb|⟨r',p',h6,hb⟩
    ·exact hz b' hb bj
    ·refine⟨by rw[fb b' _ _ hb,yk r' h6],cP b' bj fun r'' vf rv e' hh=>?_⟩
     rw[hb]at hh
     injection hh with hh _
     exact sg r' (hY.fz r' h6).1 gA r'' vf rv e' hh
 have ev:∀ {s:Nat} {c:aQ},(kR s,c)∈(kR nr,aQ.root y (M+1) 0 .live)::updX++gz ->
   (s=nr/\c=.root y (M+1) 0 .live) \/
   (∃ pq mr X k,src=some (s,pq,mr)/\σ (kR s)=some (.root X mr k .live)/\(c=.root (.c .hole) 0 0 .gone\/∃ X',c=.root X' mr (k+1) .live/\Upd pq (X.val ρ) .hole (X'.val ρ)/\zO G.own w s [] (G.hdr s) pq vx/\pq.length<mr)) \/
   (my=some s/\s∈ry/\c=.root (.c .hole) 0 0 .gone) \/
   (s∈l9/\s∈ry/\∃ x m v,c=.root x m v .frozen/\σ (kR s)=some (.root x m v .live)):=by
  intro s c hc
  rcases Vb5.1 hc with hc|hc
  ·rcases Vbu.1 hc with hc|hc
   ·obtain⟨e1,e2⟩:=Xb5 hc
    exact .inl ⟨fJ e1,e2⟩
   ·rcases hX.upd with ⟨-,h2⟩|⟨r,pq,mr,X,k,h1,h2,h3⟩
    ·rw[h2]at hc;simp at hc
    ·rcases h3 with ⟨h4,h5⟩|⟨X',h5,h6⟩
     ·rw[h5]at hc
      simp only[Vbp,Wbd]at hc;obtain⟨e1,e2⟩:=hc;obtain rfl:=fJ e1;exact .inr (.inl ⟨pq,mr,X,k,h1,h2,.inl e2⟩)
     ·rw[h5]at hc
      simp only[Vbp,Wbd]at hc;obtain⟨e1,e2⟩:=hc;obtain rfl:=fJ e1;exact .inr (.inl ⟨pq,mr,X,k,h1,h2,.inr ⟨X',e2,h6⟩⟩)
  ·obtain⟨s',e1,h1,h2⟩:=hY.upd _ _ hc
   obtain rfl:=fJ e1
   rcases h2 with ⟨h2,h3,-⟩|⟨h2,x,m,cy,h3,h4⟩
   ·exact .inr (.inr (.inl ⟨h2,h1,h3⟩))
   ·exact .inr (.inr (.inr ⟨h2,h1,x,m,cy,h3,h4⟩))
 have mm:∀ r,(σ (kR r)).isSome->r≠nr:=fun r hr e=>by rw[e,ju]at hr;cases hr
 have tz:∀ s,s∈l9->fl=false:=fun s hs=>by
  cases gA:fl with
  |false=>rfl
  |true=>rw[(hY.flat gA).2.1]at hs;simp at hs
 refine⟨{ G with own:=own',hdr:=fun r=>if r=nr then v else G.hdr r },hR.own hd (f:=Wa1 l9 my (n*sz) src nr (M+1)) (wr:=fun b'=>b'=cb.block/\grow=false/\A'≠none) ?_ ?_ ?_ ?_ ?_ ?_ ?_ ?_ ?_ ?_ ?_ rfl ?_ ?_⟩
 ·intro k c hc
  rcases Vb5.1 hc with hc|hc
  ·rcases Vbu.1 hc with hc|hc
   ·exact⟨nr,(Xb5 hc).1⟩
   ·rcases hX.upd with ⟨-,h2⟩|⟨r,pq,mr,X,k',h1,h2,h3⟩
    ·rw[h2]at hc;simp at hc
    ·rcases h3 with ⟨h4,h5⟩|⟨X',h5,h6⟩<;>(rw[h5]at hc;simp only[Vbp,Wbd]at hc;exact⟨r,hc.1⟩)
  ·obtain⟨s',e1,-⟩:=hY.upd _ _ hc
   exact⟨s',e1⟩
 ·intro b' bj
  show own' b'=_
  rw[<- cu];dsimp only;rw[if_neg (by omega)]
 ·intro b' hb
  rw[hA.size]at hb;show own' b'=.frz
  rw[<- cu];dsimp only;by_cases e:b'=w.heap.size
  ·rw[if_pos e]
   cases hg:grow with
   |true=>rw[hg]at hb;simp at hb;omega
   |false=>simp
  ·rw[if_neg e,hR.frame.fresh b' (by split at hb<;>omega)];rfl
 ·exact⟨hA.os.1,hA.os.2.1,hA.os.2.2,by rw[hA.size];omega⟩
 ·intro b' hb
  show own' b'=.frz\/∃ r p,own' b'=.slc r p/\_
  rw[<- cu];dsimp only;by_cases e:b'=w.heap.size
  ·rw[if_pos e]
   cases hg:grow with
   |true=>exact .inr ⟨nr,[],by simp,ju⟩
   |false=>exact .inl (by simp)
  ·rw[if_neg e,hR.frame.fresh b' hb];exact .inl rfl
 ·intro b' bj hnw
  refine hA.heap b' bj ?_
  cases hg:grow with
  |true=>exact .inl rfl
  | false =>
   by_cases cU:A'=none
   ·exact .inr (.inl cU)
   ·exact .inr (.inr fun e=>hnw ⟨e,hg,cU⟩)
 ·rintro b' ⟨rfl,hg,cU⟩
  obtain⟨r,pq,mr,h1,h2⟩:=zv hg cU;obtain⟨X,k,-,c,hc⟩:=qb r pq mr h1;exact⟨r,pq,h2,c,Vbo _ (Vb1 _ hc)⟩
 ·intro b' s p hb il
  have h1:s∉l9:=fun hs=>by
   rcases (hY.fz s hs).2 with ⟨c,hc⟩|⟨x,m,cy,h⟩
   ·exact il c (Vbr _ hc)
   ·exact (hR.root h).2 b' p hb
  have h2:my≠some s:=fun hs=>by
   obtain⟨c,hc⟩:=(hY.mv s hs).2.1;exact il c (Vbr _ hc)
  unfold Wa1;rw[if_neg h1,if_neg h2]
  cases lj:src with
  |none=>rfl
  | some x =>
   obtain⟨r,pq,mr⟩:=x;dsimp only;rw[if_neg];intro e;obtain⟨X,k,-,c,hc⟩:=qb r pq mr lj;exact il c (Vbo _ (Vb1 _ (e▸hc)))
 ·intro s c hc _
  rcases ev hc with ⟨rfl,rfl⟩|⟨pq,mr,X,k,h1,h2,h3⟩|⟨h1,h2,rfl⟩|⟨h1,h2,x,m',cy,rfl,h4⟩
  ·exact .inl ⟨ju,_,_,_,_,rfl⟩
  ·rcases h3 with rfl|⟨X',rfl,-⟩
   ·exact .inr (.inr (.inl ⟨_,_,_,_,rfl,by simp,by simp⟩))
   ·exact .inr (.inl ⟨_,_,_,_,_,h2,rfl⟩)
  ·exact .inr (.inr (.inl ⟨_,_,_,_,rfl,by simp,by simp⟩))
  ·refine .inr (.inr (.inr ⟨x,m',cy,h4,rfl,fun b' p hb=>⟨?_,cP b' (mT b' (by rw[hb];simp)) fun r pq mr e hh=>?_⟩⟩))
   ·show own' b'=.frz
    rw[fb b' _ _ hb,yk s h1]
   ·rw[hb]at hh
    injection hh with hh _
    exact sg s h2 (tz s h1) r pq mr e hh
 ·intro r0 x0 m0 k0 kc s p q hF
  have vk:=mm r0 (by rw[kc];rfl)
  have p8:∀ R M' q',zA R M' q'=.slc r0 q->R=r0:=by
   intro R M' q' h;unfold zA at h;split at h
   ·injection h
   ·cases h
  unfold Wa1 at hF;split at hF
  ·cases hF
  ·split at hF
   ·split at hF
    ·exact absurd (p8 _ _ _ hF).symm vk
    ·cases hF
   ·split at hF
    ·rename_i _ r pq mr
     split at hF
     ·split at hF
      ·exact absurd (p8 _ _ _ hF).symm vk
      ·have:=p8 _ _ _ hF
       subst this;obtain⟨X,k,h,-⟩:=qb r pq mr rfl;rw[h]at kc
       injection kc with e;injection e with _ _ _ e;cases e
     ·injection hF with h1 h2;exact⟨h1,h2⟩
    ·injection hF with h1 h2;exact⟨h1,h2⟩
 ·intro r hr
  show (if r=nr then _ else _)=_
  rw[if_neg (mm r hr)]
 ·intro _ _
  simp only[dC,aB,if_true];refine⟨trivial,eP _ _ _ (.inr ⟨_,Vbr _ (Vbo _ Vb7)⟩),by rw[hA.val];rfl⟩
 ·intro _ s c hc _
  rcases ev hc with ⟨rfl,rfl⟩|⟨pq,mr,X,k,h1,h2,h3⟩|⟨h1,h2,rfl⟩|⟨h1,h2,x,m',cy,rfl,h4⟩
  ·refine⟨_,_,_,_,rfl,?_⟩
   simp only[bW,if_true];rw[hy,hA.val]
   have kt:∀ i row,(ra++rb)[i]?=some row->(i<n/\ra[i]?=some row)\/(n<=i/\rb[i-n]?=some row):=by
    intro i row hi;by_cases bj:i<ra.length
    ·rw[Vb2 bj]at hi
     exact .inl ⟨by rw[<- hX.side.len];exact bj,hi⟩
    ·rw[Vbz (by omega),hX.side.len]at hi
     exact .inr ⟨by rw[<- hX.side.len];omega,hi⟩
   refine .sl _ cb (n+n') jh sz _ (fun i j=>if i<n then vs i j else sk (i-n) j) (by simp[hX.side.len,qo.len]) hA.le hA.aval (fun row hr=>?_) (fun mn=>⟨hA.spot,?_,fun k hk=>hA.all k hk⟩) (fun i row hi j d hj=>?_) (fun i row hi j d hj=>?_)
   ·rcases Vb5.1 hr with hr|hr
    ·exact hX.side.rows _ hr
    ·exact qo.rows _ hr
   ·rcases hA.base with ⟨h1,-,h2⟩|⟨h1,-⟩|⟨-,h2⟩
    ·rw[<- cu]
     dsimp only;rw[if_pos h2,if_pos h1]
    rotate_left
    ·rw[h2]at mn;cases mn
    ·obtain⟨r,pq,mr,h2,h3⟩:=zv h1 (by rw[mn];simp)
     rw[fb _ _ _ h3,tu r pq mr h2,if_pos List.prefix_rfl];simp[zA]
   ·rcases kt i row hi with ⟨h1,h2⟩|⟨h1,h2⟩
    ·rw[if_pos h1];exact (hold i row h2 j d hj).1
    ·rw[if_neg (by omega)]
     have:=(gE _ row h2 j d hj).1;rwa[show n+(i-n)=i by omega]at this
   ·rcases kt i row hi with ⟨h1,h2⟩|⟨h1,h2⟩
    ·rw[if_pos h1];exact (hold i row h2 j d hj).2
    ·rw[if_neg (by omega)]
     have:=(gE _ row h2 j d hj).2;rwa[show n+(i-n)=i by omega]at this
  ·rcases h3 with rfl|⟨X',rfl,h4,h5,h6⟩
   ·exact⟨_,_,_,_,rfl,trivial⟩
   ·refine⟨_,_,_,_,rfl,?_⟩
    simp only[bW];rw[if_neg (mm s (by rw[h2];rfl))];have hr:=hR.root h2;simp only[bW]at hr;have:=Rp.upd (own':=own') (w':=w1) (r:=s) (M':=mr) (full:=pq) hz (fun b' t hb ht=>⟨?_,cP b' (mT b' (by rw[hb];simp)) fun r' vf rv e' hh=>?_⟩) (by omega) (.hole _ (by rw[hX.side.val];rfl)) pq [] mr (G.hdr s) _ _ rfl (Vb6 _) (by simpa using hr) h5 h4
    ·simpa using this
    ·rw[fb b' _ _ hb,tu s pq mr h1,if_neg ht]
     rfl
    ·rw[h1]at e'
     obtain⟨-,rfl,-⟩:s=r'/\pq=vf/\mr=rv:=by injection e' with e;injection e with e1 e;injection e with e2 e3;exact⟨e1,e2,e3⟩
     rw[hb]at hh
     injection hh with _ hh
     exact ht (hh▸List.prefix_rfl)
  ·exact⟨_,_,_,_,rfl,trivial⟩
  ·refine⟨x,m',cy,.frozen,rfl,?_,fun b' p hb=>?_⟩
   ·have:=hR.root h4
    simp only[bW]at this ⊢;rw[if_neg (mm s (by rw[h4];rfl))];refine this.rd.mono' fun b' hb bj=>?_
    rcases hb with hb|⟨p,hb⟩
    ·exact hz b' hb bj
    ·refine⟨by rw[fb b' _ _ hb,yk s h1],cP b' bj fun r pq mr e hh=>?_⟩
     rw[hb]at hh
     injection hh with hh _
     exact sg s h2 (tz s h1) r pq mr e hh
   ·have fg:own' b'=.slc s p:=hb
    have hsn:=mm s (by rw[h4];rfl)
    have p8:∀ R M' q',R≠s->zA R M' q'≠.slc s p:=by
     intro R M' q' iu h;unfold zA at h;split at h
     ·injection h with h _;exact iu h
     ·cases h
    rcases Wbc b' w.heap.size with bj|n4
    ·rw[<- cu]at fg
     dsimp only at fg;rw[if_neg (by omega)]at fg
     cases e:G.own b' with
     | slc s' p' =>
      rw[e]at fg;have hF:Wa1 l9 my (n*sz) src nr (M+1) s' p'=.slc s p:=fg;unfold Wa1 at hF;split at hF
      ·cases hF
      ·rename_i ko
       split at hF
       ·split at hF
        ·exact p8 _ _ _ hsn.symm hF
        ·cases hF
       ·split at hF
        ·rename_i _ r pq mr
         split at hF
         ·split at hF
          ·exact p8 _ _ _ hsn.symm hF
          ·exact p8 _ _ _ (sg s h2 (tz s h1) r pq mr rfl).symm hF
         ·injection hF with h5 _;exact ko (h5▸h1)
        ·injection hF with h5 _;exact ko (h5▸h1)
     |_=>rw[e]at fg;cases fg
    ·rw[<- cu]at fg
     dsimp only at fg;by_cases e:b'=w.heap.size
     ·rw[if_pos e]at fg
      split at fg
      ·injection fg with h5 _;exact hsn h5.symm
      ·cases fg
     ·rw[if_neg e,hR.frame.fresh b' n4]at fg
      cases fg
end
section
variable {P:Program} {E:Env} {F:bK} {n:Nat} {σ:Nat->Option aQ} {ρ:List D} {a:Act} {w w':World} {G G':Gh} {g:Option (aI×Bool)} {o:Oper} {cf:Nat->List D->Option (List D)} {Q:Exit->Act->World->Prop} {next:Act->World->Prop}
theorem Hb8 {sz bytes:Nat}{fl:Bool}{x y:D}{ds:List D}(h:(aT.app sz bytes fl).run [x,y]=some ds) :
  ∃ ra rb,x=.rows sz ra/\y=.rows sz rb/\(fl=true->∀ r∈ra++rb,∀ d∈r,d.isSc=true)/\(ra.length+rb.length)*bytes<=iL/\ds=[.rows sz (ra++rb)]:=by
 cases x<;>cases y<;>simp only[aT.run]at h<;>first|cases h|skip
 rename_i s1 ra s2 rb;split at h
 ·rename_i h1
  obtain⟨rfl,rfl,h2,h3⟩:=h1;simp only[Vbl]at h;refine⟨ra,rb,rfl,rfl,fun hf=>?_,h3,h.symm⟩;rw[hf]at h2;simp only[Bool.not_true,Bool.false_or,Wbg]at h2;exact fun r hr d hd=>h2 r hr d hd
 ·cases h
theorem XOk.ofRp {v:Value}{ra:List (List D)}{sz md r mr:Nat}{pq:List Nat}{updX:List (Nat×aQ)}(h:Rp G.own w r pq md v (.rows sz ra))(h1:1<=md){X:aI}{k:Nat}(hk:σ (kR r)=some (.root X mr k .live))
  (hu:(pq=[]/\updX=[(kR r,.root (.c .hole) 0 0 .gone)])\/(∃ X',updX=[(kR r,.root X' mr (k+1) .live)]/\Upd pq (X.val ρ) .hole (X'.val ρ)/\zO G.own w r [] (G.hdr r) pq v/\pq.length<mr)) :
  ∃ A b n cap vs,XOk σ ρ G w v ra sz md updX (some (r,pq,mr)) A b n cap vs:=by
 obtain⟨m',rfl⟩:∃ m',md=m'+1:=⟨md-1,by omega⟩;obtain⟨A,b,n,c,vs,e1,e2,e3,e4,e5,e6,e7,e8⟩:=h.sl_inv;refine⟨A,b,n,c,vs,⟨e1,e2,e3,e5,e7⟩,?_,fun hA=>⟨r,pq,mr,rfl,(e6 hA).2.1⟩,fun hA=>(e6 hA).2.2,fun i row hi j d hj=>⟨r,pq,mr,rfl,e8 i row hi j d hj⟩,h1,.inr ⟨r,pq,mr,X,k,rfl,hk,hu⟩⟩
 rcases e4 with e4|e4
 ·exact .inl ⟨e4,(e6 e4).1⟩
 ·exact .inr e4
theorem Hb9 (hR:R E.ntmps F σ ρ a w G)(hd:fQ E.ntmps o){nb nr nv:Nat}(hf:Dai σ nb nr){t tx e:TypeId}{ti:TI}{info:TypeInfo}{u u':TypeDesc}{x y:Operand}{args:Array Operand}{argTypes:Array TypeId}
  (ho:o.op=.call { callee:=.builtin .append,args,argTypes }) (ez:args.toList=[x,y]) (lE:argTypes=#[t,tx]) (hu:P.underlying t=some (.slice e)) (f:dF P e ti info u) (hx:P.underlying tx=some u') (rK:∃ e',u'=.slice e')
  (hb0:0<ti.bytes) (hs0:0<ti.size) {ys:SlR} (zc:Wav σ ρ G w ys (a.eval y)) {dy:Nat} {gz:List (Nat×aQ)} {ry:List Nat} (hY:(Sa8 (Nak ti.cells) ys).eval σ=some (dy,gz,ry))
  {sx:aI} {m:Nat} {pre:List Step} {updX:List (Nat×aQ)} (cA:aJ cf ρ none nv (pre++[.prim (.app ti.size ti.bytes (Nak ti.cells)) [sx,ys.x] 1]))
  (hXs:∀ ra,sx.val ρ=.rows ti.size ra->∃ src A b n cap vs,XOk σ ρ G w (a.eval x) ra ti.size m updX src A b n cap vs/\∀ r pq mr,src=some (r,pq,mr)->r∉ry\/Nak ti.cells=true) :
  o.wp P a w (Nx E.ntmps F σ ρ (eG o none (.one (.ex nr))++((kR nr,.root (.v (nv+bM pre)) (bif Nak ti.cells then big else min m dy) 0 .live)::updX++gz))) Q:=by
 obtain⟨-,mq⟩:=aJ.append cA;obtain⟨d,h1,h2⟩:=Ba5 mq.1 (show gOn ρ none=true from rfl);simp only[Wbe,Wbu]at h1;obtain⟨ra,rb,e1,e2,e3,e4,e5⟩:=Hb8 h1;simp only[Xbh,and_true]at e5;obtain⟨src,A,b,n,cap,vs,hX,n2⟩:=hXs ra e1;obtain⟨l9,my,hYo⟩:=Obx hR zc e2 (fun gA r hr d hd=>e3 gA r (Vbr _ hr) d hd) hY;obtain⟨By,by',n',mA,sk,qo,hYb,hYc⟩:=hYo.side;have kg:(jA vs n ti.size).length=n*ti.size:=lT _ _ _;have kb:(jA sk n' ti.size).length=n'*ti.size:=lT _ _ _;have u6:=sO hX.side.rows hX.side.cell;have pj:=sO qo.rows qo.cell;rw[hX.side.len]at u6;rw[qo.len]at pj
 have a1q:∀ u∈jA sk n' ti.size,u.oneCell'=true:=by
  intro u hu;obtain⟨k,hk⟩:=Wb8.1 hu;obtain⟨k1,k2,k3,rfl⟩:=zB hk;have hr:rb[k / ti.size]?=some (rb[k / ti.size]'(by rw[qo.len];exact k1)):=Vbq _;have pw:=qo.rows _ (Vb3 hr);have nf:(rb[k / ti.size]'(by rw[qo.len];exact k1))[k % ti.size]?=some _:=Vbq (by rw[pw];exact k2)
  rcases hYc _ _ hr _ _ nf with h|⟨_,_,_,h⟩|⟨_,h⟩
  ·exact h.one
  ·exact h.one
  ·exact h.one
 have hM1:1<=(bif Nak ti.cells then big else min m dy):=by
  have:=hX.m;have:=hYo.dy
  cases Nak ti.cells with
  |true=>simp only[cond_true];unfold big;omega
  |false=>simp only[cond_false];omega
 have hM:Nak ti.cells=false->(bif Nak ti.cells then big else min m dy)<=m/\(bif Nak ti.cells then big else min m dy)<=dy:=fun h=>by
  rw[h,cond_false];omega
 have hyv:(aI.v (nv+bM pre)).val ρ=.rows ti.size (ra++rb):=h2.trans e5;obtain⟨v,w1,A',cb,jh,grow,cC,hA⟩:=Law (P:=P) (w:=w) (G:=G) (a:=a) (o:=o) ho ez lE hu f hx rK (A:=A) (n:=n) (cap:=cap) (n':=n') (b:=b) (olds:=jA vs n ti.size) (news:=jA sk n' ti.size) hX.side.val hX.side.le hX.base kg u6 hX.all qo.val hYb kb pj a1q hb0 hs0 (by rw[<- hX.side.len,<- qo.len];exact e4);exact oM cC (Ebx hR hd hf hX hYo qo hYc hA e3 hM1 hM n2 hyv)
theorem Na8 (hR:R E.ntmps F σ ρ a w G)(hd:fQ E.ntmps o)(hti:vV P E.ti){nv nb nr:Nat}{mv dw:Bool}(hf:Dai σ nb nr){args:Array Operand}{argTypes:Array TypeId}(ho:o.op=.call { callee:=.builtin .append,args,argTypes })
    {x y:Operand} (ez:args.toList=[x,y]) {t ty:TypeId} {ti ei yi:TI} {e:Nat} (ht:argTypes[0]?=some t) (hty:argTypes[1]?=some ty) (hi:E.ti t=some ti) (he:ti.elem=some e) (tn:E.ti e=some ei) (hyi:E.ti ty=some yi)
    (gi:(yi.elem.isSome&&Xbe 0 ei.size&&noG g&&Xbe 0 ei.bytes&&Nat.beq argTypes.size 2)=true) {lx ly:aP} (h1:(rdL E g t x).eval σ=some lx) (h2:(rdL E g ty y).eval σ=some ly) {res:bS}
    (h:(Lak nv nr mv dw o ei lx ly).eval σ=some res) (cA:aJ cf ρ g nv res.lets):gW P E F σ ρ a w g o Q res.upd:=by
  simp only[Vbk,Wb0,Wbl]at gi;obtain⟨⟨⟨⟨a6y,dh⟩,yd⟩,zj⟩,ox⟩:=gi;obtain rfl:=vM yd;refine⟨fun hg=>?_,fun hg=>by simp[gOn]at hg⟩
  have lE:argTypes=#[t,ty]:=by
    apply Zbc;apply Yb0;intro k
    match k with
    |0=>simpa using ht
    |1=>simpa using hty
    |k+2=>simp[ox]
  obtain⟨i1,u1,f1⟩:=aW (hti.ok _ _ hi);obtain rfl:=rJ f1 he;obtain⟨i2,u2,f2⟩:=aW (hti.ok _ _ tn);obtain⟨i3,u3,f3⟩:=aW (hti.ok _ _ hyi);have hu3:=Iad f3 a6y;have wz:=fV hR hg h1;have hly:=fV hR hg h2;simp only[Lak,aA,Vbj]at h;obtain⟨ys,h3,⟨dy,gz,ry⟩,h4,h⟩:=h;have zc:=eH hR h3 hly
  have fin:∀ {sx:aI} {m:Nat} {pre:List Step} {updX:List (Nat×aQ)},(yC nv nr o ei ys dy gz sx m pre updX).eval σ=some res ->
      (aJ cf ρ none nv pre->∀ ra,sx.val ρ=.rows ei.size ra->∃ src A b n cap vs,XOk σ ρ G w (a.eval x) ra ei.size m updX src A b n cap vs/\∀ r pq mr,src=some (r,pq,mr)->r∉ry\/Nak ei.cells=true) ->
      o.wp P a w (Nx E.ntmps F σ ρ res.upd) Q:=by
    intro sx m pre updX fN hXs;simp only[yC,uK,aC,Vbl]at fN;subst fN;simp only[Fai];exact Hb9 hR hd hf ho ez lE f1.und f2 f3.und hu3 zj dh zc h4 cA (hXs (aJ.append cA).1)
  dsimp only at h;split at h
  · rename_i p z
    refine fin h fun _ ra sY=>?_
    simp only[aI.val,D.rows.injEq]at sY;obtain⟨rfl,rfl⟩:=sY;simp only[aB]at wz;have hv:=(wz.2 (by simp)).2.1 trivial _ rfl;exact⟨none,none,⟨0,0,none⟩,0,0,fun _ _=>undef,⟨⟨hv,rfl,Vb6 _,by simp,by simp⟩,.inr ⟨rfl,rfl⟩,by simp,by simp,by simp,by decide,.inl ⟨rfl,rfl⟩⟩,by simp⟩
  · simp only[aA,Vbj]at h
    obtain⟨s,h5,h⟩:=h;have hs:=eH hR h5 wz;split at h
    · rename_i r k m q cu
      simp only[aA,aH,Vbj]at h;obtain⟨_,h6,h⟩:=h;split at h6
      case isFalse=>cases h6
      rename_i hb6;simp only[Vbk,Bool.or_eq_true,Vb9,Wb6]at hb6;have nx:=hs.own;unfold vQ at nx;rw[cu]at nx;obtain⟨-,⟨X,hk⟩,nx⟩:=nx;have n2:r∉ry\/Nak ei.cells=true:=hb6.1.imp (fun h=>Aas.1 h) id;split at h
      · refine fin h fun _ ra sY=>?_
        obtain⟨-,fR,-⟩:=nx;simp only[bB,Wbu,List.length_nil,Nat.sub_zero]at fR;rw[sY]at fR;obtain⟨A,b,n,cap,vs,hX⟩:=XOk.ofRp (ρ:=ρ) fR hb6.2 hk (updX:=[(kR r,.root (.c .hole) 0 0 .gone)]) (.inl ⟨rfl,rfl⟩)
        exact ⟨_, A, b, n, cap, vs, hX, fun r' pq mr e => by obtain rfl : r = r' := by injection e with e; injection e
                                                             exact n2⟩
      · rw[gZ]at h
        split at h
        · refine fin h fun _ ra sY=>?_
          have fR:Rp G.own w r [] m (a.eval x) (s.x.val ρ):=nx;rw[sY]at fR;obtain⟨A,b,n,cap,vs,hX⟩:=XOk.ofRp (ρ:=ρ) fR hb6.2 hk (updX:=[(kR r,.root (.c .hole) 0 0 .gone)]) (.inl ⟨rfl,rfl⟩)
          exact ⟨_, A, b, n, cap, vs, hX, fun r' pq mr e => by obtain rfl : r = r' := by injection e with e; injection e
                                                               exact n2⟩
        · cases h
      · rename_i q cU
        simp only[aA,aH,Vbj,aR,Vbs]at h;obtain⟨_,h7,h⟩:=h;split at h7
        case isFalse=>cases h7
        rename_i rS;simp only[Vbk,Wb6,Vb9]at rS;rw[hk]at h;dsimp only at h;refine fin h fun fe ra sY=>?_
        obtain⟨hqm,fR,lA⟩:=nx;rw[sY]at fR;have nB:=Ba7 hg q nv X (.c .hole) fe;obtain⟨A,b,n,cap,vs,hX⟩:=XOk.ofRp (ρ:=ρ) fR (by omega) hk (.inr ⟨_,rfl,nB,lA,by simp[bB];omega⟩)
        exact ⟨_, A, b, n, cap, vs, hX, fun r' pq mr e => by obtain rfl : r = r' := by injection e with e; injection e
                                                             exact n2⟩
      · cases h
      · cases h
    · cases h
end
section
variable {P:Program} {E:Env} {F:bK} {n:Nat} {σ:Nat->Option aQ} {ρ:List D} {a:Act} {w w':World} {G G':Gh} {g:Option (aI×Bool)} {o:Oper} {cf:Nat->List D->Option (List D)} {Q:Exit->Act->World->Prop} {next:Act->World->Prop}
theorem Jas:∀ {cs:List CK} {zs:List D},Jat cs=some zs->zs.length=cs.length/\∀ (j:Nat) (c:CK) (d:D),cs[j]?=some c->zs[j]?=some d->∀ (v:Value),zeroCell v c=true->∀ (own:Nat->Ow) (r:Nat) (p:List Nat) (m:Nat),Rp own w r p m v d
 | [], zs, h => by
  simp only[Jat,Vbl]at h;subst h;simp
 | c :: cs, zs, h => by
  have main:∀ (d0:D),(Jat cs).map (d0::·)=some zs->(∀ v,zeroCell v c=true->∀ (own:Nat->Ow) (r:Nat) (p:List Nat) (m:Nat),Rp own w r p m v d0) ->
    zs.length=(c::cs).length/\∀ (j:Nat) (c':CK) (d:D),(c::cs)[j]?=some c'->zs[j]?=some d->∀ (v:Value),zeroCell v c'=true->∀ (own:Nat->Ow) (r:Nat) (p:List Nat) (m:Nat),Rp own w r p m v d:=by
   intro d0 h0 hd0;simp only[Vb4]at h0;obtain⟨zs',h1,rfl⟩:=h0;obtain⟨h2,h3⟩:=Jas h1;refine⟨by simp[h2],fun j c' d hc hd v hv own r p m=>?_⟩
   cases j with
   | zero =>
    simp only[Vbv,Vbl]at hc hd;subst hc hd;exact hd0 v hv own r p m
   |succ j=>exact h3 j c' d (by simpa using hc) (by simpa using hd) v hv own r p m
  have hz:∀ v,zeroCell v c=true->aB (fun _=>none) [] ⟨fun _=>.frz,fun _=>undef,fun _=>⟨0,0,none⟩⟩ w (gB c) v:=fun v hv=>Laf hv
  cases c with
  | sc z =>
   refine main z h fun v hv own r p m=>?_
   have:=hz v hv;simp only[gB,aB,aI.val]at this;exact .sc this
  | sl sz =>
   refine main (.rows sz []) h fun v hv own r p m=>?_
   have:=hz v hv;simp only[gB,aB,aI.val]at this;rw[(this.2 (by simp)).2.1 trivial sz rfl];exact Rp.nil
  |pn=>cases h
  |ot=>cases h
theorem Gaw (hR:R E.ntmps F σ ρ a w G)(hd:fQ E.ntmps o)(hti:vV P E.ti){nv nb nr:Nat}{mv dw:Bool}(hf:Dai σ nb nr){t:TypeId}{l c:Operand}(ho:o.op=.makeSlice t l c){res:bS}
  (h:(qP E mv dw nv nb nr g o).eval σ=some res) (cA:aJ cf ρ g nv res.lets):gW P E F σ ρ a w g o Q res.upd:=by
 simp only[qP,ho,aA,Vbj,tiR,aV,aH]at h;obtain⟨st,h1,e,h2,ti,h3,_,h4,xl,h5,xc,h6,_,h7,zs,h8,h⟩:=h;split at h4
 case isFalse=>cases h4
 rename_i yd;obtain rfl:=vM yd;split at h7
 case isFalse=>cases h7
 rename_i rS;simp only[Vbk,Wb0]at rS;obtain⟨⟨hxx,dh⟩,zj⟩:=rS;obtain rfl:=aI.beq0_eq hxx;obtain⟨info,u,f⟩:=aW (hti.ok _ _ h1);obtain rfl:=rJ f h2;obtain⟨jt,u',f'⟩:=aW (hti.ok _ _ h3);simp only[uK,aC,Vbl]at h;subst h;simp only[Fai];refine⟨fun hg=>?_,fun hg=>by simp[gOn]at hg⟩;obtain⟨d,im,qq⟩:=gJ cA hg;have hl:=jO hR hg h5;have hc:=jO hR hg h6;simp only[Wbe,Wbu]at im;generalize hxv:xl.val ρ=xv at im hl hc;cases xv<;>simp only[aT.run]at im<;>first|cases im|skip
 rename_i k len;split at im
 case isFalse=>cases im
 rename_i hlen;obtain⟨h0,hbound⟩:=hlen;simp only[Vbl,Xbh,and_true]at im;obtain⟨z,lf,nj,-,hz3⟩:=f'.zeros (σ:=σ) (ρ:=ρ) (G:=G) (w:=w);obtain⟨ue,qf⟩:=Jas (w:=pushB w (madeCells z.cells (len.toNat*jt.size)) e) h8;have fW:=f'.len;have q8:z.cells.size=ti.size:=by rw[<- Xb9,nj.len,Wbm,fW]
 have bj:len.toNat*1<=len.toNat*ti.bytes:=Nat.mul_le_mul_left _ zj;unfold iL at hbound
 have cC:(execOp a.eval o).run P w=.ok (.value (.slice (some ⟨w.heap.size,0,none⟩) len.toNat len.toNat)) (pushB w (madeCells z.cells (len.toNat*jt.size)) e):=by
  unfold execOp;simp only[ho];refine gG ?_;rw[hl.int_inv,hc.int_inv]
  have lR:(jt.bytes:Int)*len<=281474976710656:=by
   rw[<- f'.bytes];have:((ti.bytes*len.toNat:Nat):Int)<=281474976710656:=by rw[Ybk]at hbound;omega
   rw[Int.natCast_mul]at this;rwa[show ((len.toNat:Nat):Int)=len by omega]at this
  exact run_make w t e jt z f.und f'.info_ lf k k len len h0 (Int.le_refl _) lR (by omega)
 have ju:σ (kR nr)=none:=hf.nr nr (Vb6 _) (by unfold cK;omega);have mm:∀ r,(σ (kR r)).isSome->r≠nr:=fun r hr e=>by rw[e,ju]at hr;cases hr
 have mT:∀ b,G.own b≠.frz->b<w.heap.size:=fun b hb=>by
  rcases Wbc b w.heap.size with h|h
  ·exact h
  ·exact absurd (hR.frame.fresh b h) hb
 refine oM cC ⟨{ G with own:=fun b=>if b=w.heap.size then .slc nr [] else G.own b,hdr:=fun r=>if r=nr then .slice (some ⟨w.heap.size,0,none⟩) len.toNat len.toNat else G.hdr r },?_⟩;refine hR.own hd (wr:=fun _=>False) (f:=fun s p=>.slc s p) ?_ ?_ ?_ ?_ ?_ (fun b bj _=>mI (by omega)) (fun _ h=>h.elim) (fun _ _ _ _ _=>rfl) ?_ (fun _ _ _ _ _ s p q h=>by injection h with h1 h2;exact⟨h1,h2⟩) ?_ rfl ?_ ?_
 ·intro k c hc
  simp only[Vbp,Wbd]at hc;exact⟨nr,hc.1⟩
 ·intro b bj
  show (if b=w.heap.size then Ow.slc nr [] else _)=_
  rw[if_neg (by omega)];cases hb:G.own b<;>rfl
 ·intro b hb
  rw[lM]at hb;show (if b=w.heap.size then Ow.slc nr [] else G.own b)=.frz
  rw[if_neg (by omega)];exact hR.frame.fresh b (by omega)
 ·exact⟨rfl,rfl,rfl,by rw[lM];omega⟩
 ·intro b hb
  show (if b=w.heap.size then Ow.slc nr [] else G.own b)=.frz\/∃ r p,(if b=w.heap.size then Ow.slc nr [] else G.own b)=.slc r p/\_
  by_cases e:b=w.heap.size
  ·rw[if_pos e];exact .inr ⟨nr,[],rfl,ju⟩
  ·rw[if_neg e];exact .inl (hR.frame.fresh b hb)
 ·intro s c hc _
  simp only[Vbp,Wbd]at hc;obtain⟨e1,rfl⟩:=hc;obtain rfl:=fJ e1;exact .inl ⟨ju,_,_,_,_,rfl⟩
 ·intro r hr
  show (if r=nr then _ else _)=_
  rw[if_neg (mm r hr)]
 ·intro _ _
  simp only[dC,aB,if_true];exact⟨trivial,eP _ _ _ (.inr ⟨_,Vbr _ (Vbp.2 rfl)⟩),rfl⟩
 ·intro _ s c hc _
  simp only[Vbp,Wbd]at hc;obtain⟨e1,rfl⟩:=hc;obtain rfl:=fJ e1;refine⟨_,_,_,_,rfl,?_⟩;simp only[bW,if_true];rw[qq,<- im];have nq:zs.length=ti.size:=by rw[ue,fW]
  have ni:∀ k,k<len.toNat*ti.size->(madeCells z.cells (len.toNat*jt.size))[k]?=z.cells[k % ti.size]?:=by
   intro k hk;unfold madeCells;rw[Fbe _ (by omega) _ _ (by rw[<- f'.size];exact hk),q8]
  have mf:∀ i row,(Wba len.toNat zs)[i]?=some row->∀ j d,row[j]?=some d->i<len.toNat/\row=zs/\j<ti.size/\i*ti.size+j<len.toNat*ti.size/\(i*ti.size+j) % ti.size=j:=by
   intro i row hi j d hj;rw[List.getElem?_replicate]at hi;split at hi
   case isFalse=>cases hi
   rename_i oq;obtain rfl:=Wbk hi;have lq:j<ti.size:=by rw[<- nq];exact (Vbn.1 hj).1
   have:=Nat.mul_le_mul_right ti.size (show i+1<=len.toNat by omega);rw[Nat.add_mul]at this;exact⟨oq,rfl,lq,by omega,by rw[Ybk,Nat.mul_add_mod,Nat.mod_eq_of_lt lq]⟩
  refine .sl _ ⟨w.heap.size,0,none⟩ len.toNat len.toNat zs.length _ (fun i j=>z.cells[j]!) (by simp) (Vb6 _) (.inl rfl) (fun row hr=>?_) (fun _=>⟨rfl,by simp,fun k hk=>?_⟩) (fun i row hi j d hj=>?_) (fun i row hi j d hj=>?_)
  ·rw[List.eq_of_mem_replicate hr]
  ·rw[nq]at hk
   rw[pM,Oar,ni k hk];have hk2:k % ti.size<z.cells.size:=by rw[q8];exact Nat.mod_lt _ dh
   exact⟨_,Wbq hk2,rfl⟩
  ·obtain⟨i1,rfl,i3,i4,i5⟩:=mf i row hi j d hj
   rw[pM,nq,ni _ i4,i5,getElem!_pos z.cells j (by omega),Wbq]
  ·obtain⟨i1,rfl,i3,i4,i5⟩:=mf i row hi j d hj
   have ij:ti.cells[j]?=some ti.cells[j]:=Vbq (by omega);exact qf j _ d ij hj _ (hz3 j _ _ (by rw[getElem!_pos z.cells j (by omega),Wbq]) ij) _ _ _ _
theorem Rad (hR:R E.ntmps F σ ρ a w G)(hd:fQ E.ntmps o)(hti:vV P E.ti){nv:Nat}{args:Array Operand}{argTypes:Array TypeId}(ho:o.op=.call { callee:=.builtin .clear,args,argTypes })
  {x:Operand} (ez:args.toList=[x]) {t e:TypeId} {ti ei:TI} (ht:argTypes[0]?=some t) (hi:E.ti t=some ti) (he:ti.elem=some e) (tn:E.ti e=some ei) (gi:(noG g&&Nat.beq argTypes.size 1)=true) {l:aP} (hl:(rdL E g t x).eval σ=some l) {res:bS}
  (h:(Qa2 nv o ei l).eval σ=some res) (cA:aJ cf ρ g nv res.lets):gW P E F σ ρ a w g o Q res.upd:=by
 simp only[Vbk,Wbl]at gi;obtain rfl:=vM gi.1
 have lE:argTypes=#[t]:=by
  apply Zbc;apply Yb0;intro k
  match k with
  |0=>simpa using ht
  |k+1=>simp[gi.2]
 simp only[Qa2,aA,Vbj]at h;obtain⟨s,h1,h⟩:=h;split at h
 case h_2=>cases h
 rename_i r k m sz lo cu;simp only[aA,aH,Vbj,aR,Vbs]at h;obtain⟨_,h2,h⟩:=h;split at h2
 case isFalse=>cases h2
 rename_i hb;simp only[Vbk,Wbl,Wb6]at hb;obtain⟨⟨rfl,a7c⟩,od⟩:=hb;split at h
 case h_2=>cases h
 rename_i X m' cy hk;simp only[aC,Vbl]at h;subst h;refine⟨fun hg=>?_,fun hg=>by simp[gOn]at hg⟩;obtain⟨i1,u1,f1⟩:=aW (hti.ok _ _ hi);obtain rfl:=rJ f1 he;obtain⟨i2,u2,f2⟩:=aW (hti.ok _ _ tn);have wz:=fV hR hg hl;have gC:=eH hR h1 wz;have nx:=gC.own;unfold vQ at nx;rw[cu]at nx;obtain⟨-,⟨X0,nc⟩,hsuf⟩:=nx;rw[hk]at nc
 obtain⟨rfl,rfl,rfl⟩:X=X0/\m'=m/\cy=k:=by
  injection nc with e;injection e with e1 e2 e3 e4;exact⟨e1,e2,e3⟩
 have fm:=hR.root hk;simp only[bW]at fm;obtain⟨d,im,qq⟩:=gJ cA hg;simp only[Wbe,Wbu]at im
 obtain⟨rs,ki,L,eX,eL,hL0,ed⟩:∃ rs ki L,X.val ρ=.rows 1 rs/\lo.val ρ=.int ki L/\0<=L/\d=.rows 1 (rs.take L.toNat++(rs.drop L.toNat).map fun r=>r.map fun _=>.hole):=by
  cases eX:X.val ρ<;>cases eL:lo.val ρ<;>rw[eX,eL]at im<;>simp only[aT.run]at im<;>first|cases im|skip
  split at im
  ·rename_i hc
   obtain⟨rfl,hc⟩:=hc;simp only[Vbl,Xbh,and_true]at im;exact⟨_,_,_,rfl,rfl,hc,im.symm⟩
  ·cases im
 have mf:lN ρ lo=L.toNat:=by unfold lN;rw[eL]
 dsimp only at hsuf;rw[mf]at hsuf;rw[eX]at fm;obtain⟨md,rfl⟩:∃ md,m'=md+1:=⟨m'-1,by omega⟩;obtain⟨A,b,n,c,vs,j1,j2,j3,j4,j5,j6,j7,j8⟩:=fm.sl_inv;obtain⟨A',n',c',k1,k2,k3⟩:=hsuf;rw[j1]at k1;obtain⟨rfl,rfl,rfl⟩:A=A'/\n=n'/\c=c':=by injection k1 with a b c;exact⟨a,b,c⟩
 obtain⟨z,lf,nj,hz3,-⟩:=f2.zeros (σ:=σ) (ρ:=ρ) (G:=G) (w:=w);have ue:z.cells.size=1:=by rw[<- Xb9,nj.len,Wbm,f2.len,a7c]
 generalize hZ:(Builtin.zeroCells z.cells (n-L.toNat)).toList=Z;have hZl:Z.length=n-L.toNat:=by rw[<- hZ];simp[Builtin.zeroCells,ue]
 have hZ1:∀ u∈Z,u.oneCell'=true:=by
  intro u hu;rw[<- hZ,Builtin.zeroCells,Array.mem_toList_iff,Array.mem_map]at hu;obtain⟨i,hi,rfl⟩:=hu;have bj:i % z.cells.size<z.cells.size:=Nat.mod_lt _ (by omega);rw[getElem!_pos z.cells _ bj];exact hz3 _ (Array.getElem_mem_toList bj)
 have kv:∀ {v:Value} {w1:World},(Builtin.clear_ #[t] o.type #[a.eval x]).run P w=.ok v w1->(execOp a.eval o).run P w=.ok (.value v) w1:=by
  intro v w1 h;refine mY ho (s:=Builtin.clear_ argTypes o.type (args.map a.eval)) (fun _=>rfl) ?_;rw[Nab ez,Ray,lE];exact h
 rw[k3]at kv
 obtain⟨w',cC,hw⟩:∃ w',(execOp a.eval o).run P w=.ok (.value (.tuple #[])) w'/\((n=L.toNat/\w'=w)\/(L.toNat<n/\A=some b/\w'=w.setCells b.block (b.off+L.toNat) Z)):=by
  rcases Wbc L.toNat n with bj|n4
  ·obtain rfl:A=some b:=by
    rcases j4 with h|⟨-,h⟩
    ·exact h
    ·omega
   obtain⟨gk,mj,cT⟩:=j6 rfl
   have dv:∀ j,j<Z.length->∃ u,w.cell? ⟨b.block,b.off+L.toNat+j,none⟩=some u/\w.frozen? ⟨b.block,b.off+L.toNat+j,none⟩=false:=fun j hj=>by
    have:=cT (L.toNat+j) (by omega);rw[add_plain gk,<- Vb8]at this;exact this.imp fun u h=>⟨h.1,xG h.2 rfl⟩
   have cA:=run_storeCells_cells (P:=P) b.block (b.off+L.toNat) Z 0 w (fun j hj=>by obtain⟨u,h1,-⟩:=dv j hj;rw[Wbv,h1];rfl) (fun j hj=>by rw[Wbv];exact (dv j hj).choose_spec.2) hZ1;refine⟨_,kv ?_,.inr ⟨bj,rfl,rfl⟩⟩;obtain⟨q,hq⟩:∃ q,n-L.toNat=q+1:=⟨n-L.toNat-1,by omega⟩;rw[if_neg (by omega),hq];rw[hq]at hZ;simp only[Option.map_some,Nat.mul_one,add_plain gk];simp only[Wbv]at cA;simp[Builtin.clear_,run_underlying f1.und,mG f2.info_ lf,hZ,cA]
  ·refine⟨w,kv ?_,.inl ⟨by omega,rfl⟩⟩
   have e0:n-L.toNat=0:=by omega
   rw[e0];simp only[Builtin.clear_];cases (if c=L.toNat then A else A.map (·.add (L.toNat*1)))<;>simp[run_underlying f1.und]
 have mS:w'.os=w.os/\w'.tape=w.tape/\w'.output=w.output/\w.heap.size<=w'.heap.size:=by
  rcases hw with ⟨-,rfl⟩|⟨-,-,rfl⟩
  ·exact⟨rfl,rfl,rfl,Vb6 _⟩
  ·obtain⟨q1,q2,q3⟩:=dI b.block Z (b.off+L.toNat) w
   exact⟨q1,q2,q3,by rw[setCells_size];exact Vb6 _⟩
 have ox:w'.heap.size=w.heap.size:=by
  rcases hw with ⟨-,rfl⟩|⟨-,-,rfl⟩
  ·rfl
  ·rw[setCells_size]
 have cP:∀ b',¬ (A=some b/\b'=b.block)->w'.heap[b']?=w.heap[b']?:=by
  intro b' fg
  rcases hw with ⟨-,rfl⟩|⟨-,hA,rfl⟩
  ·rfl
  ·exact bI _ _ _ _ _ fun e=>fg ⟨hA,e⟩
 refine oM cC ⟨G,?_⟩
 have fN:=hR.own (o:=o) hd (g:=none) (sv:=.dead) (v:=.tuple #[]) (w':=w') (G':=G) (ur:=[(kR r,.root (.v nv) (md+1) (cy+1) .live)]) (f:=fun s p=>.slc s p) (wr:=fun b'=>A=some b/\b'=b.block)
  ?_ (fun b' _=>by cases hb:G.own b'<;>rfl) (fun b' hb=>hR.frame.fresh b' (by omega)) mS (fun b' hb=>.inl (hR.frame.fresh b' hb)) (fun b' _ hb=>cP b' hb) ?_ (fun _ _ _ _ _=>rfl) ?_ (fun _ _ _ _ _ s p q h=>by injection h with h1 h2;exact⟨h1,h2⟩) (fun _ _=>rfl) rfl (fun _ _=>trivial) ?_
 ·exact fN
 ·intro k' c' hc
  exact⟨r,(Xb5 (Vbp.1 hc)).1⟩
 ·rintro b' ⟨hA,rfl⟩
  exact⟨r,[],(j6 hA).2.1,_,Vbp.2 rfl⟩
 ·intro s' c' hc _
  obtain⟨e1,rfl⟩:=Xb5 (Vbp.1 hc);obtain rfl:=fJ e1;exact .inr (.inl ⟨_,_,_,_,_,hk,rfl⟩)
 ·intro _ s' c' hc _
  obtain⟨e1,rfl⟩:=Xb5 (Vbp.1 hc);obtain rfl:=fJ e1;refine⟨_,_,_,_,rfl,?_⟩;simp only[bW];rw[qq,ed,j1]
  have jf:∀ k u,w.cell? (b.add k)=some u->A=some b->(k<L.toNat->w'.cell? (b.add k)=some u)/\(∃ u',w'.cell? (b.add k)=some u')/\fzq w' (b.add k)=fzq w (b.add k):=by
   intro k u hc hA;obtain⟨gk,mj,cT⟩:=j6 hA
   rcases hw with ⟨-,rfl⟩|⟨bj,-,rfl⟩
   ·exact⟨fun _=>hc,⟨u,hc⟩,rfl⟩
   ·refine⟨fun hk=>?_,?_,eZ⟩
    ·rw[add_plain gk]at hc ⊢
     rw[World.cell?_setCells_out _ _ _ _ _ (fun _ _=>.inl (by dsimp only;omega))];exact hc
    ·exact dS (fun _=>by rw[add_plain gk]) (fun j hj=>by
      obtain⟨u',h1,-⟩:=cT (L.toNat+j) (by omega);rw[add_plain gk,<- Vb8]at h1;rw[h1];rfl) hc
  have xj:∀ i,i<n->A=some b:=fun i hi=>by
   rcases j4 with h|⟨-,h⟩
   ·exact h
   ·omega
  have gj:∀ i row,(rs.take L.toNat++(rs.drop L.toNat).map fun r=>r.map fun _=>D.hole)[i]?=some row->(i<L.toNat/\rs[i]?=some row)\/(L.toNat<=i/\∃ row0,rs[i]?=some row0/\row=row0.map fun _=>D.hole):=by
   intro i row hi;have kg:(rs.take L.toNat).length=L.toNat:=by rw[Wbh];omega
   rcases Wbc i L.toNat with bj|n4
   ·rw[Vb2 (by omega),List.getElem?_take,if_pos bj]at hi
    exact .inl ⟨bj,hi⟩
   ·rw[Vbz (by omega),kg,Wbs,Vb4]at hi
    obtain⟨row0,h1,rfl⟩:=hi;rw[List.getElem?_drop,show L.toNat+(i-L.toNat)=i by omega]at h1;exact .inr ⟨n4,row0,h1,rfl⟩
  refine .sl A b n c 1 _ (fun i j=>if i<L.toNat then vs i j else (w'.cell? (b.add (i*1+j))).getD undef) ?_ j3 j4 ?_ (fun hA=>?_) (fun i row hi j d hj=>?_) (fun i row hi j d hj=>?_)
  ·rw[Vbw,Wbh,Wbm,List.length_drop];omega
  ·intro row hr
   obtain⟨i,hi⟩:=Wb8.1 hr
   rcases gj i row hi with ⟨-,h⟩|⟨-,row0,h,rfl⟩
   ·exact j5 row (Vb3 h)
   ·rw[Wbm];exact j5 row0 (Vb3 h)
  ·obtain⟨gk,mj,cT⟩:=j6 hA
   refine⟨gk,mj,fun k hk=>?_⟩;obtain⟨u,hu,hf⟩:=cT k hk;obtain⟨-,⟨u',h1⟩,h2⟩:=jf k u hu hA;exact⟨u',h1,h2.trans hf⟩
  ·rcases gj i row hi with ⟨bj,h⟩|⟨n4,row0,h,rfl⟩
   ·rw[if_pos bj]
    have lq:j<1:=by rw[<- j5 row (Vb3 h)];exact (Vbn.1 hj).1
    exact (jf _ _ (j7 i row h j d hj) (xj i (by rw[<- j2];exact (Vbn.1 h).1))).1 (by omega)
   ·rw[if_neg (by omega)]
    rw[Wbs,Vb4]at hj;obtain⟨d0,hj,-⟩:=hj;obtain⟨-,⟨u',h1⟩,-⟩:=jf _ _ (j7 i row0 h j d0 hj) (xj i (by rw[<- j2];exact (Vbn.1 h).1));rw[h1];rfl
  ·rcases gj i row hi with ⟨bj,h⟩|⟨n4,row0,h,rfl⟩
   ·rw[if_pos bj]
    have h1:=j8 i row h j d hj;have:=h1.mono' (own':=G.own) (w':=w') (r':=s') (q:=[i*1+j]) (q':=[i*1+j]) (fun b' hb _=>⟨hb,cP b' fun ⟨hA,e⟩=>by rw[e,(j6 hA).2.1]at hb;cases hb⟩) [] (by simp) (fun b' t' hb=>⟨hb,cP b' fun ⟨hA,e⟩=>by rw[e,(j6 hA).2.1]at hb;injection hb with _ hb;simp at hb⟩);simpa using this
   ·rw[if_neg (by omega)]
    rw[Wbs,Vb4]at hj;obtain⟨d0,hj,rfl⟩:=hj;refine .hole _ ?_;have oq:i<n:=by rw[<- j2];exact (Vbn.1 h).1
    have hA:=xj i oq
    rcases hw with ⟨hn,-⟩|⟨bj,-,rfl⟩
    ·omega
    ·obtain⟨gk,mj,cT⟩:=j6 hA
     have lq:j<1:=by rw[<- j5 row0 (Vb3 h)];exact (Vbn.1 hj).1
     have qm:i-L.toNat<Z.length:=by omega
     have:=World.cell?_setCells_in b.block Z (b.off+L.toNat) w (fun j hj=>by obtain⟨u,h1,-⟩:=cT (L.toNat+j) (by omega);rw[add_plain gk,<- Vb8]at h1;rw[h1];rfl) (i-L.toNat) qm;rw[show b.off+L.toNat+(i-L.toNat)=b.off+(i*1+j) by omega]at this;rw[add_plain gk,this];exact hZ1 _ (List.getElem_mem qm)
end
section
variable {P:Program} {E:Env} {F:bK} {n:Nat} {σ:Nat->Option aQ} {ρ:List D} {a:Act} {w w':World} {G G':Gh} {g:Option (aI×Bool)} {o:Oper} {cf:Nat->List D->Option (List D)} {Q:Exit->Act->World->Prop} {next:Act->World->Prop}
theorem Gav (hR:R E.ntmps F σ ρ a w G)(hti:vV P E.ti){nv nb nr:Nat}{mv dw:Bool}{t:TypeId}{x y:Operand}(ho:o.op=.store t x y){res:bS}
  (h:(qP E mv dw nv nb nr g o).eval σ=some res) (cA:aJ cf ρ g nv res.lets):gW P E F σ ρ a w g o Q res.upd:=by
 simp only[qP,ho,aA,Vbj,tiR,aV]at h;obtain⟨ti,h1,p,h2,sv,h3,h⟩:=h;split at h
 case h_2=>cases h
 rename_i ls pP;have hx:gOn ρ g=true->aB σ ρ G w p (a.eval x):=fun hg=>fV hR hg h2
 have hy:gOn ρ g=true->dC σ ρ G w sv (a.eval y):=fun hg=>gK hR hg h3
 cases p with
 |px b off=>exact Jad hR hti ho h1 hx hy pP h
 |pe l sz i off=>exact Jae hR hti ho h1 hx hy pP h cA
 | _ =>
  simp only[Dan,aA,aH,Vbj,bT]at h;obtain⟨_,_,h⟩:=h;cases h
theorem Bak (hR:R E.ntmps F σ ρ a w G)(hd:fQ E.ntmps o)(hti:vV P E.ti){nv nb nr:Nat}{mv dw:Bool}(hf:Dai σ nb nr){res:bS}
  (h:(qP E mv dw nv nb nr g o).eval σ=some res) (cA:aJ cf ρ g nv res.lets)
  (jq:∀ f args argTypes,o.op=.call { callee:=.value f,args,argTypes }->gW P E F σ ρ a w g o Q res.upd):gW P E F σ ρ a w g o Q res.upd:=by
 have h0:=h
 cases ho:o.op with
 | move x =>
  simp only[qP,ho]at h;exact Kab hR hd (.inl ho) h cA
 | assign x =>
  simp only[qP,ho]at h;exact Kab hR hd (.inr ho) h cA
 | pick c x y =>
  simp only[qP,ho]at h;exact Vad hR hd ho h cA
 |alloc e=>exact Raf hR hd hti hf ho h cA
 |box e x=>exact Xao hR hd hti hf ho h cA
 |build t parts=>exact Rae hR hd hti ho h cA
 |buildSlice t len parts=>exact vJ hR hd hti (hf.nr nr (Vb6 _) (by unfold cK;omega)) ho h cA
 | load t x =>
  simp only[qP,ho,aA,Vbj,tiR,aV]at h;obtain⟨ti,h1,p,h2,h⟩:=h;exact Vae hR hd hti ho h1 (fun hg=>fV hR hg h2) h cA
 |store t x y=>exact Gav hR hti ho h cA
 | nilCheck x =>
  simp only[qP,ho]at h;exact Jaf hR hd ho h cA
 | binOp op t x y ty =>
  by_cases h1:op=.eql
  ·subst h1
   simp only[qP,ho]at h;exact Tai hR hd hti ho rfl h cA
  ·by_cases h2:op=.neq
   ·subst h2
    simp only[qP,ho]at h;exact Tai hR hd hti ho rfl h cA
   ·have h':(do
      let a <- rdA E g t x
      let b <- rdA E g ty y
      uJ o g nv (.bin op) [a,b]:RdM bS).eval σ=some res:=by
     simp only[qP,ho]at h;cases op<;>first|exact h|(exact absurd rfl h1)|(exact absurd rfl h2)
    simp only[aA,Vbj]at h';obtain⟨x',h3,y',h4,h5⟩:=h';exact Na7 hR hd ho (fun hg=>jO hR hg h3) (fun hg=>jO hR hg h4) h5 cA
 | unOp op t x =>
  simp only[qP,ho]at h;exact Cb0 hR hd ho h cA
 | convert src dst x =>
  simp only[qP,ho,aA,Vbj,tiR,aV]at h;obtain⟨s,h1,d,h2,h⟩:=h;split at h
  ·rename_i k hk
   simp only[aA,Vbj,aH]at h;obtain⟨_,h3,x',h4,h⟩:=h;split at h3
   case isFalse=>cases h3
   rename_i hs;exact Vaf hR hd hti ho h1 hs h2 hk h4 h cA
  ·rw[gZ]at h
   split at h
   case isFalse=>cases h
   rename_i hdS;rw[gZ]at h;split at h
   ·rename_i hsS
    simp only[aA,Vbj]at h;obtain⟨x',h4,h⟩:=h;exact Na5 hR hd hti ho h1 hsS h2 hdS h4 h cA
   ·simp only[aA,Vbj,aH,aV]at h
    obtain⟨e,h3,ei,h4,_,h5,l,h6,r,h7,h⟩:=h;split at h5
    case isFalse=>cases h5
    rename_i hk;exact Vag hR hd hti ho h1 h3 h4 hk h2 hdS h6 h7 h cA
 | makeFunc fn first fS =>
  cases fn with
  | func fn =>
   simp only[qP,ho]at h;exact Jag hR hd ho h cA
  |_=>simp only[qP,ho]at h;cases h
 |makeSlice t l c=>exact Gaw hR hd hti hf ho h cA
 |slice t x lo hi mx=>exact Raa hR hd hti ho h cA
 | fieldAddr t x k =>
  simp only[qP,ho,aA,Vbj,tiR,aV]at h;obtain⟨ti,h1,h⟩:=h;split at h
  case h_2=>cases h
  rename_i off ft gA;simp only[aA,Vbj,aH,aV]at h;obtain⟨fi,h2,_,h3,p,h4,h⟩:=h;split at h3
  case isFalse=>cases h3
  rename_i nu;exact Gay hR hd hti ho h1 gA h2 (by simpa using nu) (by simp only[aA,Vbj];exact⟨p,h4,h⟩) cA
 | field t x k =>
  simp only[qP,ho,aA,Vbj,tiR,aV]at h;obtain⟨ti,h1,h⟩:=h;split at h
  case h_2=>cases h
  rename_i off ft gA;simp only[aA,Vbj,aV]at h;obtain⟨fi,h2,sv,h3,h⟩:=h;exact Rac hR hd hti ho h1 gA h2 (by simp only[aA,Vbj];exact⟨sv,h3,h⟩) cA
 | indexAddr t x i =>
  simp only[qP,ho,aA,Vbj,tiR,aV]at h;obtain⟨ti,h1,e,h2,ei,h3,l,h4,s,h5,y,h6,u,h7,h⟩:=h;exact Gax hR hd hti ho h1 h2 h3 (by simp only[aA,Vbj];exact⟨l,h4,s,h5,y,h6,u,h7,h⟩) cA
 | index t x i =>
  simp only[qP,ho,aA,Vbj,tiR,aV]at h;obtain⟨ti,h1,h⟩:=h;exact Rab hR hd hti ho h1 (by simp only[aA,Vbj];exact h) cA
 | extract x i =>
  simp only[qP,ho]at h;exact Las hR hd ho h cA
 | call c =>
  obtain⟨callee,args,argTypes⟩:=c
  cases callee with
  |value f=>exact jq f args argTypes ho
  |invoke recv name=>simp only[qP,ho]at h;cases h
  | builtin b =>
   simp only[qP,ho]at h
   cases ez:args.toList with
   | nil =>
    rw[ez]at h;cases b<;>first|(cases h;done)|skip
    all_goals
     simp only[aA,Vbj,aV]at h;obtain⟨ov,h1,as,h2,h⟩:=h;obtain⟨ls,h3,h4⟩:=h2
     first
     |exact iI hR hd (.inl ⟨rfl,rfl,rfl⟩) ho (by rw[ez];exact h1) h3 h4 h cA
     |exact iI hR hd (.inr ⟨rfl,rfl,rfl⟩) ho (by rw[ez];exact h1) h3 h4 h cA
   | cons x xs =>
    rw[ez]at h
    cases xs with
    | nil =>
     cases b<;>first|(cases h;done)|skip
     ·simp only[aA,Vbj,aV,tiR,aH]at h
      obtain⟨t,h1,ti,h2,e,h3,ei,h4,_,h5,l,h6,h⟩:=h;split at h5
      case isFalse=>cases h5
      rename_i gi;exact Rad hR hd hti ho ez h1 h2 h3 h4 gi h6 h cA
     ·simp only[aA,Vbj,aV,tiR]at h
      obtain⟨t,h1,ti,h2,h⟩:=h;exact Xan hR hd hti ho ez h1 h2 (by simp only[aA,Vbj];exact h) cA
     all_goals
      simp only[aA,Vbj,aV]at h;obtain⟨ov,h1,as,h2,h⟩:=h;obtain⟨ls,h3,h4⟩:=h2
      first
      |exact iI hR hd (.inl ⟨rfl,rfl,rfl⟩) ho (by rw[ez];exact h1) h3 h4 h cA
      |exact iI hR hd (.inr ⟨rfl,rfl,rfl⟩) ho (by rw[ez];exact h1) h3 h4 h cA
    | cons y ys =>
     cases ys with
     | nil =>
      cases b<;>first|(cases h;done)|skip
      ·simp only[aA,Vbj,aV,tiR,aH]at h
       obtain⟨t,h1,ty,h2,ti,h3,e,h4,ei,h5,yi,h6,_,h7,lx,h8,ly,h9,h⟩:=h;split at h7
       case isFalse=>cases h7
       rename_i gi;exact Na8 hR hd hti hf ho ez h1 h2 h3 h4 h5 h6 gi h8 h9 h cA
      all_goals
       simp only[aA,Vbj,aV]at h;obtain⟨ov,h1,as,h2,h⟩:=h;obtain⟨ls,h3,h4⟩:=h2
       first
       |exact iI hR hd (.inl ⟨rfl,rfl,rfl⟩) ho (by rw[ez];exact h1) h3 h4 h cA
       |exact iI hR hd (.inr ⟨rfl,rfl,rfl⟩) ho (by rw[ez];exact h1) h3 h4 h cA
     | cons z zs =>
      cases b<;>first|(cases h;done)|skip
      all_goals
       simp only[aA,Vbj,aV]at h;obtain⟨ov,h1,as,h2,h⟩:=h;obtain⟨ls,h3,h4⟩:=h2
       first
       |exact iI hR hd (.inl ⟨rfl,rfl,rfl⟩) ho (by rw[ez];exact h1) h3 h4 h cA
       |exact iI hR hd (.inr ⟨rfl,rfl,rfl⟩) ho (by rw[ez];exact h1) h3 h4 h cA
 |_=>simp only[qP,ho]at h;cases h
end
theorem Tr.get_set {α:Type}:∀ (d:Nat) (t:Tr α) (n m:Nat) (x:Option α),(Tr.set d t n x).get m=if m=n then x else t.get m
 | 0, t, n, m, x => by
  simp only[Tr.set,Tr.get];by_cases h:m=n
  ·subst h;simp
  ·have:Nat.beq m n=false:=by
    cases e:Nat.beq m n with
    |false=>rfl
    |true=>simp only[Wbl]at e;exact absurd e h
   rw[this,cond_false,if_neg h]
 | d + 1, .over k y t, n, m, x => by
  simp only[Tr.set];by_cases h:m=n
  ·subst h;simp[Tr.get]
  ·have:Nat.beq m n=false:=by
    cases e:Nat.beq m n with
    |false=>rfl
    |true=>simp only[Wbl]at e;exact absurd e h
   rw[if_neg h];show (bif Nat.beq m n then x else _)=_
   rw[this,cond_false]
 | d + 1, .nil, n, m, x => by
  have ih:=fun t n m=>Tr.get_set (α:=α) d t n m x
  simp only[Tr.set];have b0:∀ k,Nat.beq k 0=decide (k=0):=fun k=>by cases k<;>simp[Nat.beq]
  have b1:∀ k,Nat.beq (k % 2) 1=decide (k % 2=1):=fun k=>by
   rcases Nat.mod_two_eq_zero_or_one k with h|h<;>rw[h]<;>rfl
  rw[b0,b1];by_cases h0:n=0
  ·simp only[h0,decide_true,cond_true,Tr.get]
   rw[b0,b1];by_cases hm:m=0
   ·simp[hm]
   ·simp[hm,Tr.get]
  ·by_cases h1:n % 2=1
   ·simp only[h0,decide_false,cond_false,h1,decide_true,cond_true,Tr.get]
    rw[b0,b1];by_cases hm:m=0
    ·subst hm;simp[Ne.symm h0]
    ·by_cases od:m % 2=1
     ·simp only[hm,decide_false,cond_false,od,decide_true,cond_true,ih,Tr.get]
      by_cases e:m=n
      ·rw[if_pos e,if_pos (by rw[e])]
      ·rw[if_neg e,if_neg (by omega)]
     ·have e:m≠n:=fun e=>od (e▸h1)
      simp[hm,od,e,Tr.get]
   ·simp only[h0,decide_false,cond_false,h1,Tr.get]
    rw[b0,b1];by_cases hm:m=0
    ·subst hm;simp[Ne.symm h0]
    ·by_cases od:m % 2=1
     ·have e:m≠n:=fun e=>h1 (e▸od)
      simp[hm,od,e,Tr.get]
     ·simp only[hm,decide_false,cond_false,od,ih,Tr.get]
      by_cases e:m=n
      ·rw[if_pos e,if_pos (by rw[e])]
      ·rw[if_neg e,if_neg (by omega)]
 | d + 1, .node y l r, n, m, x => by
  have ih:=fun t n m=>Tr.get_set (α:=α) d t n m x
  simp only[Tr.set];have b0:∀ k,Nat.beq k 0=decide (k=0):=fun k=>by cases k<;>simp[Nat.beq]
  have b1:∀ k,Nat.beq (k % 2) 1=decide (k % 2=1):=fun k=>by
   rcases Nat.mod_two_eq_zero_or_one k with h|h<;>rw[h]<;>rfl
  rw[b0,b1];by_cases h0:n=0
  ·simp only[h0,decide_true,cond_true,Tr.get]
   rw[b0,b1];by_cases hm:m=0
   ·simp[hm]
   ·simp[hm,Tr.get]
  ·by_cases h1:n % 2=1
   ·simp only[h0,decide_false,cond_false,h1,decide_true,cond_true,Tr.get]
    rw[b0,b1];by_cases hm:m=0
    ·subst hm;simp[Ne.symm h0]
    ·by_cases od:m % 2=1
     ·simp only[hm,decide_false,cond_false,od,decide_true,cond_true,ih,Tr.get]
      by_cases e:m=n
      ·rw[if_pos e,if_pos (by rw[e])]
      ·rw[if_neg e,if_neg (by omega)]
     ·have e:m≠n:=fun e=>od (e▸h1)
      simp[hm,od,e,Tr.get]
   ·simp only[h0,decide_false,cond_false,h1,Tr.get]
    rw[b0,b1];by_cases hm:m=0
    ·subst hm;simp[Ne.symm h0]
    ·by_cases od:m % 2=1
     ·have e:m≠n:=fun e=>h1 (e▸od)
      simp[hm,od,e,Tr.get]
     ·simp only[hm,decide_false,cond_false,od,ih,Tr.get]
      by_cases e:m=n
      ·rw[if_pos e,if_pos (by rw[e])]
      ·rw[if_neg e,if_neg (by omega)]
section
variable {P:Program} {E:Env} {F:bK} {n:Nat} {σ:Nat->Option aQ} {ρ:List D} {a:Act} {w w':World} {G G':Gh} {g:Option (aI×Bool)} {o:Oper}
def Ibv:Value->Option Bool
 |.bool b=>some b
 |_=>none
theorem Ta9 {x:aI}{want:Bool}{v:Value}(h:Sc v (x.val ρ)\/(v=undef/\x.val ρ=.undef)):gOn ρ (some (x,want))=(Ibv v==some want):=by
 have key:∀ d:D,x.val ρ=d->gOn ρ (some (x,want))=(match d with|.bool b=>b==want|_=>false):=by
  intro d hd;simp only[gOn,hd];cases d<;>rfl
 rcases h with h|⟨rfl,h⟩
 ·rw[key _ rfl]
  generalize x.val ρ=d at h
  cases h with
  |int k n=>rfl
  |bool b=>cases b<;>cases want<;>rfl
  |str l=>rfl
 ·rw[key _ h]
  rfl
theorem Rap (hR:R E.ntmps F σ ρ a w G){ops:Array Oper}(hd:∀ o∈ops.toList,fQ E.ntmps o)(h:(La0 ops.toList o).eval σ=some g):Region.wanted o (yielded ops a.tmps)=gOn ρ g:=by
 unfold La0 at h;unfold Region.wanted;split at h
 ·rename_i ho
  simp only[aC,Vbl]at h;subst h;simp[ho,gOn]
 ·rename_i j want ho
  simp only[ho];split at h
  ·rename_i d hj
   have hdn:d<E.ntmps:=by
    cases hoj:ops.toList[j]? with
    |none=>rw[hoj]at hj;cases hj
    | some oj =>
     rw[hoj,Vbs]at hj;exact hd oj (Vb3 hoj) d hj
   have hy:yielded ops a.tmps j=Ibv (Aa6 E.ntmps a F.gh d):=by
    unfold yielded Aa6;have:(ops[j]?).bind (·.dst)=some d:=by rw[<- hj,Array.getElem?_toList]
    rw[this,Vbs,if_pos hdn];have bj:d<a.tmps.size:=by rw[hR.tmps];exact hdn
    rw[Wbq bj,Array.getD_eq_getD_getElem?,Wbq bj,Option.getD_some];cases a.tmps[d]<;>rfl
   rw[hy];simp only[Zao]at h;split at h
   ·rename_i x hk
    simp only[aC,Vbl]at h;subst h;have:=hR.slot hk rfl;simp only[dC,aB]at this;exact (Ta9 (.inl this)).symm
   ·rename_i g' x hk
    simp only[aC,Vbl]at h;subst h;have:=hR.slot hk rfl;simp only[dC,aB]at this;exact (Ta9 this.1).symm
   ·cases h
  ·cases h
end
theorem sD {n:Nat}{ρ ext:List D}{x:aI}(h:aY n x=true)(hn:n<=ρ.length):x.val (ρ++ext)=x.val ρ:=by
 refine aI.val_append (n:=n) ?_
 cases x with
 | v i =>
  simp only[aY,Wb0]at h;simp only[aI.ok];omega
 |c d=>trivial
theorem Iay {n:Nat}{ρ ext:List D}{xs:List aI}(h:xs.all (aY n)=true)(hn:n<=ρ.length):xs.map (·.val (ρ++ext))=xs.map (·.val ρ):=by
 apply List.map_congr_left;intro x hx;rw[Wbg]at h;exact sD (h x hx) hn
theorem yT {n:Nat}{ρ ext:List D}{g:Option (aI×Bool)}(h:qG n g=true)(hn:n<=ρ.length):gOn (ρ++ext) g=gOn ρ g:=by
 cases g with
 |none=>rfl
 | some z =>
  obtain⟨x,w⟩:=z;simp only[qG]at h;simp only[gOn,sD h hn]
theorem Dab {ρ ds ext:List D}{j:Nat}{d:D}(h:ds[j]?=some d):(aI.v (ρ.length+j)).val (ρ++ds++ext)=d:=by
 have bj:=(Vbn.1 h).1;simp only[aI.val,List.getD_eq_getElem?_getD];rw[Vbx,Vbz (by omega),Vb2 (by omega),Wbx,h];rfl
theorem xE {n m:Nat}{g:Option (aI×Bool)}(h:qG n g=true)(hm:n<=m):qG m g=true:=by
 cases g with
 |none=>rfl
 | some z =>
  obtain⟨x,w⟩:=z
  cases x with
  |v i=>simp only[qG,aY,Wb0]at h ⊢;omega
  |c d=>rfl
section
variable {cf:Nat->List D->Option (List D)}
noncomputable def Ec {β:Type}(cf:Nat->List D->Option (List D))(t:Tm β)(ρ:List D):Option (Out β):=lim fun n=>runT cf n t ρ
noncomputable def Lc {β:Type}(cf:Nat->List D->Option (List D))(body:Tm β)(ρ vs:List D):Option (Out β):=lim fun n=>iter n (fun vs=>runT cf n body (ρ++vs)) vs
theorem Ibl {β:Type}(t:Tm β)(ρ:List D):Qaq fun n=>runT cf n t ρ:=fun n _ h=>Ga4 (fun f _ _ h=>h) (Ybq n) t _ _ h
theorem Pb1 {β:Type}(body:Tm β)(ρ vs:List D):Qaq fun n=>iter n (fun vs=>runT cf n body (ρ++vs)) vs :=
 fun n _ h=>nT (fun vs r hr=>Ibl body _ n r hr) (Ybq n) _ _ h
theorem Ia9 {β:Type}{t:Tm β}{ρ:List D}{o:Out β}:Ec cf t ρ=some o↔∃ n,runT cf n t ρ=some o:=gL (Ibl t ρ)
theorem gH {β:Type}(k:Kind)(xs:List aI)(e:β)(ρ:List D):Ec cf (.leaf k xs e) ρ=some ⟨k,xs,e,ρ⟩:=gN _
theorem jM {β:Type}(ρ:List D):Ec cf (.stuck:Tm β) ρ=none:=gN _
theorem Nag {β:Type}(g:Option (aI×Bool))(p:aT)(xs:List aI)(n:Nat)(k:Tm β)(ρ:List D) :
  Ec cf (.lt g p xs n k) ρ=if gOn ρ g then (p.run (xs.map (·.val ρ))).bind fun ds=>if ds.length=n then Ec cf k (ρ++ds) else none
   else Ec cf k (ρ++Wba n .undef):=by
 unfold Ec;simp only[runT];split
 ·cases p.run (xs.map (·.val ρ)) with
  |none=>exact gN _
  | some ds =>
   simp only[Vbs];split
   ·rfl
   ·exact gN _
 ·rfl
theorem vE {β:Type}(g:Option (aI×Bool))(f:Nat)(xs:List aI)(n:Nat)(olds:List aI)(k:Tm β)(ρ:List D) :
  Ec cf (.call g f xs n olds k) ρ=if gOn ρ g then (cf f (xs.map (·.val ρ))).bind fun ds=>if ds.length=n then Ec cf k (ρ++ds) else none
   else Ec cf k (ρ++(Wba (n-olds.length) .undef++olds.map (·.val ρ))):=by
 unfold Ec;simp only[runT];split
 ·cases cf f (xs.map (·.val ρ)) with
  |none=>exact gN _
  | some ds =>
   simp only[Vbs];split
   ·rfl
   ·exact gN _
 ·rfl
theorem Fan {β:Type}(c:aI)(t e:Tm β)(ρ:List D) :
  Ec cf (.ite c t e) ρ=match c.val ρ with
   |.bool true=>Ec cf t ρ
   |.bool false=>Ec cf e ρ
   |_=>none:=by
 unfold Ec;simp only[runT]
 cases c.val ρ with
 |bool b=>cases b<;>rfl
 |_=>exact gN _
theorem sF {β:Type}(i:Nat)(t k:Tm β)(ρ:List D) :
  Ec cf (.bind i t k) ρ=(Ec cf t ρ).bind fun o=>if o.kind=.yield i then Ec cf k (ρ++o.vals) else some o:=by
 unfold Ec;simp only[runT];rw[Fa9 (a:=fun n=>runT cf n t ρ) (Ibl t ρ) (fun o=>by split;exact Ibl k _;exact fun _ _ h=>h)];congr 1;funext o;split
 ·rfl
 ·exact gN _
theorem Nah {β:Type}(init:List aI)(body:Tm β)(ρ:List D):Ec cf (.loop init body) ρ=Lc cf body ρ (init.map (·.val ρ)):=rfl
theorem Ab0 {β:Type}(body:Tm β)(ρ vs:List D) :
  Lc cf body ρ vs=(Ec cf body (ρ++vs)).bind fun o=>if o.kind=.cont then Lc cf body ρ o.vals else some o:=by
 have hm:∀ vs,Qaq fun n=>iter n (fun vs=>runT cf n body (ρ++vs)) vs:=fun vs=>Pb1 body ρ vs
 unfold Lc
 have e:∀ vs r,(lim fun n=>iter n (fun vs=>runT cf n body (ρ++vs)) vs)=some r↔((Ec cf body (ρ++vs)).bind fun o=>if o.kind=.cont then (lim fun n=>iter n (fun vs=>runT cf n body (ρ++vs)) o.vals) else some o)=some r:=by
  intro vs r;rw[gL (hm vs)];simp only[Vbj];constructor
  ·rintro⟨n,hn⟩
   cases n with
   |zero=>cases hn
   | succ n =>
    simp only[iter,Vbj]at hn;obtain⟨o,ho,hr⟩:=hn;refine⟨o,Ia9.2 ⟨n+1,ho⟩,?_⟩;split at hr
    ·rename_i hk
     rw[if_pos hk,gL (hm _)];exact⟨n+1,nT (fun _ _ h=>h) (Ybq n) _ _ hr⟩
    ·rename_i hk
     rw[if_neg hk];exact hr
  ·rintro⟨o,ho,hr⟩
   obtain⟨n,hn⟩:=Ia9.1 ho;split at hr
   ·rename_i hk
    obtain⟨m,xt⟩:=(gL (hm _)).1 hr;refine⟨max n m+1,?_⟩;simp only[iter,Vbj];refine⟨o,(Ibl body (ρ++vs)).le (by omega) hn,?_⟩;rw[if_pos hk];exact nT (fun vs r h=>(Ibl body (ρ++vs)).le (by omega) h) (by omega) _ _ xt
   ·rename_i hk
    refine⟨n+1,?_⟩;simp only[iter,Vbj];exact⟨o,Ibl body _ _ _ hn,by rw[if_neg hk];exact hr⟩
 exact Option.ext (e vs)
end
section
variable {cf:Nat->List D->Option (List D)}
theorem vZ {g:Option (aI×Bool)}{k:Tm St}:∀ {lets:List Step} {ρ:List D} {o:Out St},qG ρ.length g=true->fD ρ.length lets=true->Ec cf (pR g k lets) ρ=some o ->
  ∃ ds,ds.length=bM lets/\Ec cf k (ρ++ds)=some o/\∀ ext,aJ cf (ρ++ds++ext) g ρ.length lets
 |[],ρ,o,_,_,h=>⟨[],rfl,by simpa[pR] using h,fun _=>trivial⟩
 | .prim p xs n :: r, ρ, o, hg, hs, h => by
  simp only[fD,Daq,Vbk]at hs;obtain⟨uf,hs⟩:=hs;simp only[pR,Nag]at h
  have main:∀ ds:List D,ds.length=n->Ec cf (pR g k r) (ρ++ds)=some o->(∀ ext,Uap cf (ρ++ds++ext) g ρ.length (.prim p xs n)) ->
    ∃ ds,ds.length=bM (.prim p xs n::r)/\Ec cf k (ρ++ds)=some o/\∀ ext,aJ cf (ρ++ds++ext) g ρ.length (.prim p xs n::r):=by
   intro ds hl h1 h2;obtain⟨es,h3,h4,h5⟩:=vZ (lets:=r) (ρ:=ρ++ds) (xE hg (by simp)) (by simp only[Vbw,hl];exact hs) h1;refine⟨ds++es,by rw[iN];simp[hl,h3,Step.n],by rw[<- Vbx];exact h4,fun ext=>⟨?_,?_⟩⟩
   ·have:=h2 (es++ext)
    simpa[Vbx] using this
   ·have:=h5 ext
    simp only[Vbw,hl]at this;simpa[Vbx,Step.n] using this
  by_cases fL:gOn ρ g=true
  ·rw[if_pos fL]at h
   simp only[Vbj]at h;obtain⟨ds,h1,h2⟩:=h;split at h2
   case isFalse=>cases h2
   rename_i hl;refine main ds hl h2 fun ext=>⟨fun _=>⟨ds,?_,hl,fun j d hj=>Dab hj⟩,fun pZ=>?_⟩
   ·rw[Vbx,Iay uf (Vb6 _)];exact h1
   ·rw[Vbx,yT hg (Vb6 _),fL]at pZ;cases pZ
  ·rw[if_neg fL]at h
   refine main (Wba n .undef) (by simp) h fun ext=>⟨fun hon=>?_,fun _ j hj=>Dab (by simp[hj])⟩
   rw[Vbx,yT hg (Vb6 _)]at hon;exact absurd hon fL
 | .call f xs n olds :: r, ρ, o, hg, hs, h => by
  simp only[fD,Daq,Vbk]at hs;obtain⟨⟨⟨uf,hos⟩,hle⟩,hs⟩:=hs;simp only[Wb6]at hle;simp only[pR,vE]at h
  have main:∀ ds:List D,ds.length=n->Ec cf (pR g k r) (ρ++ds)=some o->(∀ ext,Uap cf (ρ++ds++ext) g ρ.length (.call f xs n olds)) ->
    ∃ ds,ds.length=bM (.call f xs n olds::r)/\Ec cf k (ρ++ds)=some o/\∀ ext,aJ cf (ρ++ds++ext) g ρ.length (.call f xs n olds::r):=by
   intro ds hl h1 h2;obtain⟨es,h3,h4,h5⟩:=vZ (lets:=r) (ρ:=ρ++ds) (xE hg (by simp)) (by simp only[Vbw,hl];exact hs) h1;refine⟨ds++es,by rw[iN];simp[hl,h3,Step.n],by rw[<- Vbx];exact h4,fun ext=>⟨?_,?_⟩⟩
   ·have:=h2 (es++ext)
    simpa[Vbx] using this
   ·have:=h5 ext
    simp only[Vbw,hl]at this;simpa[Vbx,Step.n] using this
  by_cases fL:gOn ρ g=true
  ·rw[if_pos fL]at h
   simp only[Vbj]at h;obtain⟨ds,h1,h2⟩:=h;split at h2
   case isFalse=>cases h2
   rename_i hl;refine main ds hl h2 fun ext=>⟨fun _=>⟨ds,?_,hl,fun j d hj=>Dab hj⟩,fun pZ=>?_⟩
   ·rw[Vbx,Iay uf (Vb6 _)];exact h1
   ·rw[Vbx,yT hg (Vb6 _),fL]at pZ;cases pZ
  ·rw[if_neg fL]at h
   refine main _ (by simp;omega) h fun ext=>⟨fun hon=>?_,fun _ j d hd=>?_⟩
   ·rw[Vbx,yT hg (Vb6 _)]at hon
    exact absurd hon fL
   ·rw[Vbx,Iay hos (Vb6 _)]at hd
    exact Dab hd
end
theorem sG:∀ (u:List (Nat×aQ)) (f g:Nat->Option aQ) (k:Nat),f k=g k->upds f u k=upds g u k
 |[],f,g,k,h=>h
 | (k', c) :: r, f, g, k, h => by
  refine sG r _ _ k ?_;unfold Tan;split
  ·rfl
  ·exact h
theorem La2:∀ (u:List (Nat×aQ)) (s:St) (k:Nat),(s.puts u).tr.get k=upds s.tr.get u k
 |[],s,k=>rfl
 | (k', c) :: r, s, k => by
  rw[St.puts,La2 r _ k,upds];refine sG r _ _ k ?_;simp only[St.put,Tr.get_set,Tan]
theorem iY:∀ (u:List (Nat×aQ)) (s:St),(s.puts u).nv=s.nv/\(s.puts u).nb=s.nb/\(s.puts u).nr=s.nr/\(s.puts u).nt=s.nt
 |[],s=>⟨rfl,rfl,rfl,rfl⟩
 |(k',c)::r,s=>by rw[St.puts];exact iY r _
theorem Fax:∀ (u:List (Nat×aQ)) (f g:Nat->Option aQ) (k:Nat),(∃ c,(k,c)∈u)->upds f u k=upds g u k
 |[],f,g,k,h=>by obtain⟨c,hc⟩:=h;simp at hc
 | (k', c) :: r, f, g, k, h => by
  by_cases hk:k=k'
  ·exact sG r _ _ k (by unfold Tan;rw[if_pos hk,if_pos hk])
  ·refine Fax r _ _ k ?_
   obtain⟨c',ij⟩:=h
   rcases Vbu.1 ij with h1|h1
   ·exact absurd (Xb5 h1).1 hk
   ·exact⟨c',h1⟩
theorem yU {t:Tr aQ}:∀ {n r:Nat},oL t r n=true->∀ j,r<=j->j<r+n->t.get (kR j)=none
 |0,r,_,j,h1,h2=>by omega
 | n + 1, r, h, j, h1, h2 => by
  simp only[oL,Vbk,Ybb]at h;by_cases e:j=r
  ·rw[e];exact h.1
  ·exact yU h.2 j (by omega) (by omega)
theorem Qas:∀ (u:List (Nat×aQ)) (n:Nat),n<=Ibo u n
 |[],n=>Vb6 _
 | x :: r, n => by
  refine Nat.le_trans ?_ (Qas r _)
  cases h:(Nat.beq (x.1 % 3) 2&&Nat.ble n (x.1 / 3)) with
  |false=>exact Vb6 _
  |true=>simp only[Vbk,Wb6]at h;rw[cond_true];omega
theorem Sa2:∀ {u:List (Nat×aQ)} {n:Nat} {x:Nat×aQ},x∈u->x.1 % 3=2->x.1 / 3<Ibo u n
 | y :: r, n, x, hx, h2 => by
  rcases Vbu.1 hx with rfl|hx
  ·refine Nat.lt_of_lt_of_le ?_ (Qas r _)
   have e:Nat.beq (x.1 % 3) 2=true:=by rw[h2];rfl
   rw[e,Bool.true_and]
   cases h:Nat.ble n (x.1 / 3) with
   |true=>rw[cond_true];omega
   | false =>
    rw[cond_false];exact Nat.lt_of_not_le fun e=>by rw[<- Wb6,h]at e;cases e
  ·exact Sa2 (u:=r) hx h2
theorem Wa9:∀ {u:List (Nat×aQ)} {n m:Nat},n<=m->(∀ x∈u,x.1 % 3=2->x.1 / 3<m)->Ibo u n<=m
 |[],n,m,h,_=>h
 | y :: r, n, m, h, hu => by
  show Ibo r (bif Nat.beq (y.1 % 3) 2&&Nat.ble n (y.1 / 3) then y.1 / 3+1 else n)<=m
  refine Wa9 (u:=r) ?_ fun x hx=>hu x (Vb1 _ hx)
  cases hc:(Nat.beq (y.1 % 3) 2&&Nat.ble n (y.1 / 3)) with
  |false=>exact h
  | true =>
   simp only[Vbk,Wbl]at hc;rw[cond_true];exact hu y Vb7 hc.1
theorem Yav {n nb nr:Nat}{u:List (Nat×aQ)}(hk:u.all (fun x=>zJ n nb nr x.1)=true)(draw:Bool):nr<=Sal draw nr u/\Sal draw nr u<=nr+cK/\∀ x∈u,x.1 % 3=2->x.1 / 3<Sal draw nr u:=by
 have hb:∀ x∈u,x.1 % 3=2->x.1 / 3<nr+cK:=by
  intro x hx h2;rw[Wbg]at hk;have:=hk _ hx;unfold zJ at this;rw[h2]at this;simpa using this
 cases draw with
 |true=>exact⟨Yb2 ..,Vb6 _,hb⟩
 |false=>exact⟨Qas _ _,Wa9 (Yb2 ..) hb,fun x hx h2=>Sa2 hx h2⟩
theorem Dbj {s:St}{g:Option (aI×Bool)}{r:bS}{n:Nat}(h:Dbk s g r=true)(hn:n<=s.nt)(hk:r.upd.all (fun x=>zJ n s.nb s.nr x.1)=true)(draw:Bool)(nv:Nat)(k:Nat) :
  ({ (s.puts r.upd) with nv:=nv,nb:=s.nb+1,nr:=Sal draw s.nr r.upd }:St).get k=upds s.get r.upd k:=by
 obtain⟨t1,t2,t3⟩:=Yav hk draw;generalize Sal draw s.nr r.upd=gf at t1 t2 t3 ⊢;simp only[Dbk,Vbk,Ybb]at h;obtain⟨⟨⟨⟨h1,h2⟩,-⟩,-⟩,-⟩:=h
 have e:({ (s.puts r.upd) with nv:=nv,nb:=s.nb+1,nr:=gf }:St).get k=bif vT s.nt (s.nb+1) gf k then upds s.tr.get r.upd k else none:=by
  unfold St.get;dsimp only;rw[La2,(iY r.upd s).2.2.2]
 rw[e];by_cases hm:∃ c,(k,c)∈r.upd
 ·obtain⟨c,hc⟩:=hm
  have gm:vT s.nt (s.nb+1) gf k=true:=by
   rw[Wbg]at hk;have:=hk _ hc;unfold zJ at this;unfold vT;dsimp only at this
   cases b0:Nat.beq (k % 3) 0 with
   |true=>rw[b0,cond_true]at this;rw[cond_true];simp only[Wb0]at this ⊢;omega
   | false =>
    rw[b0,cond_false]at this;rw[cond_false]
    cases b1:Nat.beq (k % 3) 1 with
    |true=>rw[b1,cond_true]at this;rw[cond_true];simp only[Wb6]at this;simp only[Wb0];omega
    | false =>
     rw[cond_false,Wb0];have n0:k % 3≠0:=fun e=>by rw[e]at b0;cases b0
     have n1:k % 3≠1:=fun e=>by rw[e]at b1;cases b1
     exact t3 _ hc (by dsimp only;omega)
  rw[gm,cond_true];exact Fax _ _ _ _ ⟨c,hc⟩
 ·have jo:∀ c,(k,c)∉r.upd:=fun c hc=>hm ⟨c,hc⟩
  rw[fH _ _ _ jo,fH _ _ _ jo];unfold St.get
  cases ho:vT s.nt s.nb s.nr k with
  | true =>
   have:vT s.nt (s.nb+1) gf k=true:=by
    unfold vT at ho ⊢
    cases b0:Nat.beq (k % 3) 0 with
    |true=>rw[b0]at ho;exact ho
    | false =>
     rw[b0,cond_false]at ho;rw[cond_false]
     cases b1:Nat.beq (k % 3) 1 with
     |true=>rw[b1,cond_true]at ho;rw[cond_true];simp only[Wb0]at ho ⊢;omega
     |false=>rw[b1,cond_false]at ho;rw[cond_false];simp only[Wb0]at ho ⊢;omega
   rw[this]
  | false =>
   rw[cond_false]
   cases hw:vT s.nt (s.nb+1) gf k with
   |false=>rfl
   | true =>
    rw[cond_true];unfold vT at ho hw
    cases b0:Nat.beq (k % 3) 0 with
    |true=>rw[b0,cond_true]at ho hw;rw[ho]at hw;cases hw
    | false =>
     rw[b0,cond_false]at ho hw;have n0:k % 3≠0:=fun e=>by rw[e]at b0;cases b0
     cases b1:Nat.beq (k % 3) 1 with
     | true =>
      rw[b1,cond_true]at ho hw;simp only[Wbl]at b1;simp only[Wb0]at hw;have rq:¬ k / 3<s.nb:=fun e=>by rw[<- Wb0,ho]at e;cases e
      have:k=kB s.nb:=by unfold kB;omega
      rw[this];exact h1
     | false =>
      rw[b1,cond_false]at ho hw;have n1:k % 3≠1:=fun e=>by rw[e]at b1;cases b1
      simp only[Wb0]at hw;have rq:¬ k / 3<s.nr:=fun e=>by rw[<- Wb0,ho]at e;cases e
      have:k=kR (k / 3):=by unfold kR;omega
      rw[this];exact yU h2 _ (by omega) (by omega)
theorem Pak {s:St}:Dai s.get s.nb s.nr:=by
 refine⟨?_,fun j h1 h2=>?_⟩
 ·unfold St.get vT kB
  have e:(3*s.nb+1) % 3=1:=by omega
  have e2:(3*s.nb+1) / 3=s.nb:=by omega
  rw[e,e2]
  have:Xbe s.nb s.nb=false:=by
   cases hb:Xbe s.nb s.nb with
   |false=>rfl
   |true=>simp at hb
  rw[this];rfl
 ·unfold St.get vT kR
  have e:(3*j+2) % 3=2:=by omega
  have e2:(3*j+2) / 3=j:=by omega
  rw[e,e2]
  have:Xbe j s.nr=false:=by
   cases hb:Xbe j s.nr with
   |false=>rfl
   |true=>simp only[Wb0]at hb;omega
  rw[this];rfl
theorem Sa1 (t:Tr aQ)(lo:Nat):∀ n,Nap t lo n<=lo+n
 |0=>Vb6 _
 | n + 1 => by
  unfold Nap
  cases (t.get (kR (lo+n))).isNone with
  |true=>rw[cond_true];have:=Sa1 t lo n;omega
  |false=>rw[cond_false];omega
theorem Jav (t:Tr aQ)(lo:Nat):∀ n j,Nap t lo n<=j->j<lo+n->t.get (kR j)=none
 |0,j,h1,h2=>by unfold Nap at h1;omega
 | n + 1, j, h1, h2 => by
  unfold Nap at h1
  cases h:(t.get (kR (lo+n))).isNone with
  | true =>
   rw[h,cond_true]at h1;by_cases e:j=lo+n
   ·rw[e];simpa using h
   ·exact Jav t lo n j h1 (by omega)
  |false=>rw[h,cond_false]at h1;omega
theorem Nao {draw:Bool}{lo:Nat}{s:St}:(trimS draw lo s).get=s.get:=by
 unfold trimS
 cases hd:(draw&&Nat.ble lo s.nr) with
 |false=>rfl
 | true =>
  simp only[Vbk,Wb6]at hd;rw[cond_true];funext k;have h1:=Sa1 s.tr lo (s.nr-lo);have h2:=Jav s.tr lo (s.nr-lo);generalize Nap s.tr lo (s.nr-lo)=m at h1 h2;unfold St.get;dsimp only;unfold vT
  cases b0:Nat.beq (k % 3) 0 with
  |true=>rfl
  | false =>
   rw[cond_false,cond_false]
   cases b1:Nat.beq (k % 3) 1 with
   |true=>rfl
   | false =>
    rw[cond_false,cond_false];have n0:k % 3≠0:=fun e=>by rw[e]at b0;cases b0
    have n1:k % 3≠1:=fun e=>by rw[e]at b1;cases b1
    have ek:k=kR (k / 3):=by unfold kR;omega
    by_cases ha:k / 3<m
    ·have e1:Xbe (k / 3) m=true:=by simpa using ha
     have e2:Xbe (k / 3) s.nr=true:=by simp only[Wb0];omega
     rw[e1,e2]
    ·have e1:Xbe (k / 3) m=false:=by
      cases e:Xbe (k / 3) m with
      |false=>rfl
      |true=>simp only[Wb0]at e;omega
     rw[e1,cond_false]
     cases e2:Xbe (k / 3) s.nr with
     |false=>rfl
     | true =>
      simp only[Wb0]at e2;rw[cond_true,ek];exact (h2 _ (by omega) (by omega)).symm
theorem yA {draw:Bool}{lo:Nat}{s:St}:(trimS draw lo s).nv=s.nv/\(trimS draw lo s).nb=s.nb/\(trimS draw lo s).nt=s.nt:=by
 unfold trimS;cases draw&&Nat.ble lo s.nr<;>exact⟨rfl,rfl,rfl⟩
section
variable {P:Program} {E:Env} {F:bK} {n:Nat} {σ:Nat->Option aQ} {ρ:List D} {a:Act} {w w':World} {G G':Gh} {g:Option (aI×Bool)} {o:Oper} {cf:Nat->List D->Option (List D)} {Q:Exit->Act->World->Prop}
theorem Kaw:∀ (u:List (Nat×aQ)) (σ:Nat->Option aQ) (k:Nat),upds σ u k=match Vaw u k with
  |some c=>some c
  |none=>σ k
 |[],_,_=>rfl
 | (k', c) :: r, σ, k => by
  show upds (Tan σ k' c) r k=_
  rw[Kaw r];simp only[Vaw]
  cases Vaw r k with
  |some d=>rfl
  | none =>
   dsimp only;unfold Tan;by_cases e:k=k'
   ·subst e
    rw[if_pos rfl];simp
   ·rw[if_neg e]
    have:Nat.beq k' k=false:=by
     cases h:Nat.beq k' k with
     |false=>rfl
     |true=>exact absurd (Nat.eq_of_beq_eq_true h).symm e
    rw[this];rfl
theorem Iaa {α:Type}(u:List (Nat×aQ))(m:RdM α)(σ:Nat->Option aQ):(m.over u).eval σ=m.eval (upds σ u):=by
 induction m with
 |ret a=>rfl
 |no=>rfl
 | rd k f ih =>
  show ((RdM.rd k f).over u).eval σ=(f (upds σ u k)).eval (upds σ u)
  unfold RdM.over;rw[Kaw u σ k]
  cases Vaw u k with
  |some c=>exact ih _
  |none=>exact ih _
theorem tQ:∀ (u v:List (Nat×aQ)) (σ:Nat->Option aQ),upds σ (u++v)=upds (upds σ u) v
 |[],_,_=>rfl
 |(k,c)::r,v,σ=>tQ r v (Tan σ k c)
def zS (r nr:Nat)(pv:List Nat)(M mr:Nat)(s:Nat)(p:List Nat):Ow :=
 if s=r then (if pv <+: p then zA nr M (p.drop pv.length) else zA r mr p) else .slc s p
theorem Dbe {t:Nat}{a:Act}{o:Oper}(h:o.dst=some t):a.put o.dst (a.tmps.getD t undef)=a:=by
 unfold Act.put;rw[h];dsimp only
 have:a.tmps.setIfInBounds t (a.tmps.getD t undef)=a.tmps:=by
  apply Array.ext_getElem?;intro j;rw[Array.getElem?_setIfInBounds];split
  ·rename_i e
   subst e;split
   ·rename_i bj
    exact (Wbq bj).symm
   ·rename_i bj
    rw[Array.getElem?_eq_none (by omega)]
  ·rfl
 rw[this]
theorem Na2 (hR:R E.ntmps F σ ρ a w G){nv nr t:Nat}(mm:σ (kR nr)=none){l:List Step}{u:List (Nat×aQ)}(h:(Ja4 E nv nr t).eval σ=some (some (l,u)))(cA:aJ cf ρ none nv l) :
  ∃ G',R E.ntmps F (upds σ u) ρ a w G':=by
 simp only[Ja4,aA,Vbj,aR,Vbs]at h;split at h
 case h_2=>simp only[aC,Vbl]at h;cases h
 rename_i deps p ps nie x lB;simp only[aA,Vbj]at h;obtain⟨s,h1,h⟩:=h;split at h
 case h_2=>simp only[aC,Vbl]at h;cases h
 rename_i r k m q qs cu;rw[gZ]at h;split at h
 case isFalse=>simp only[aC,Vbl]at h;cases h
 rename_i hb;simp only[Vbk,Wb6,Wb0]at hb;obtain⟨hqm,htn⟩:=hb;simp only[aA,Vbj,aR,Vbs]at h;split at h
 case h_2=>simp only[aC,Vbl]at h;cases h
 rename_i X m' cy hk;simp only[aC,Vbl,Wbd]at h;obtain⟨rfl,rfl⟩:=h;have gS:=hR.slot lB (g:=none) rfl;simp only[dC]at gS;have gC:=eH hR h1 gS;have nx:=gC.own;unfold vQ at nx;rw[cu]at nx;obtain⟨-,⟨X0,nc⟩,-,fR,lA⟩:=nx;rw[hk]at nc
 obtain⟨rfl,rfl,rfl⟩:X=X0/\m'=m/\cy=k:=by
  injection nc with e;injection e with e1 e2 e3 e4;exact⟨e1,e2,e3⟩
 have fm:=hR.root hk;simp only[bW]at fm;have nB:=Ba7 (g:=none) rfl (q::qs) nv X (.c .hole) cA;have u7:(bB ρ (q::qs)).length=qs.length+1:=by simp[bB]
 generalize hpv:bB ρ (q::qs)=pv at nB fR lA u7;rw[show (q::qs).length=qs.length+1 from rfl]at fR;have htv:Aa6 E.ntmps a F.gh t=a.tmps.getD t undef:=if_pos htn;generalize hv:Aa6 E.ntmps a F.gh t=v at gS fR lA htv;obtain⟨o',rq⟩:∃ o':Oper,o'.dst=some t:=⟨{ (default:Oper) with dst:=some t },rfl⟩;have a71:r≠nr:=fun e=>by rw[e,mm]at hk;cases hk
 have hdr:∀ r,(σ (kR r)).isSome->r≠nr:=fun r hr e=>by rw[e,mm]at hr;cases hr
 have mT:∀ b,G.own b≠.frz->b<w.heap.size:=fun b hb=>by
  rcases Wbc b w.heap.size with h|h
  ·exact h
  ·exact absurd (hR.frame.fresh b h) hb
 have hFr:∀ p,zS r nr pv (m'-(qs.length+1)) m' r p=if pv <+: p then zA nr (m'-(qs.length+1)) (p.drop pv.length) else zA r m' p:=fun p=>by unfold zS;rw[if_pos rfl]
 have nq:∀ b,G.own b=.frz->b<w.heap.size->nS (zS r nr pv (m'-(qs.length+1)) m') (G.own b)=.frz/\w.heap[b]?=w.heap[b]?:=fun b hb _=>⟨by rw[hb];rfl,rfl⟩
 have fN:=hR.own (o:=o') (g:=none) (fun d e=>by rw[rq]at e;cases e;exact htn) (sv:=.one (.ex nr)) (v:=v) (w':=w)
  (G':={ G with own:=fun b=>nS (zS r nr pv (m'-(qs.length+1)) m') (G.own b),hdr:=fun s=>if s=nr then v else G.hdr s }) (wr:=fun _=>False)
  (ur:=[(kR nr,.root s.x (m'-(qs.length+1)) 0 .live),(kR r,.root (La8 nv X (q::qs) (.c .hole)).2 m' (cy+1) .live)])
  (f:=zS r nr pv (m'-(qs.length+1)) m') ?_ (fun b _=>rfl) ?_ ⟨rfl,rfl,rfl,Vb6 _⟩ ?_ (fun _ _ _=>rfl) (fun _ h=>h.elim) ?_ ?_ ?_ ?_ rfl ?_ ?_
 ·have e1:eG o' none (.one (.ex nr))=[(kT t,.slot none (.one (.ex nr)))]:=by unfold eG;rw[rq]
  have e2:a.put o'.dst v=a:=by rw[htv];exact Dbe rq
  rw[e1,e2]at fN;exact⟨_,fN⟩
 ·intro k c hc
  rcases Vbu.1 hc with hc|hc
  ·exact⟨nr,(Xb5 hc).1⟩
  ·exact⟨r,(Xb5 (Vbp.1 hc)).1⟩
 ·intro b hb
  show nS _ (G.own b)=.frz
  rw[hR.frame.fresh b hb];rfl
 ·intro b hb
  refine .inl ?_;show nS _ (G.own b)=.frz
  rw[hR.frame.fresh b hb];rfl
 ·intro b s' p' hb il
  have:s'≠r:=fun e=>il (.root (La8 nv X (q::qs) (.c .hole)).2 m' (cy+1) .live) (by rw[e];simp)
  unfold zS;rw[if_neg this]
 ·intro s' c hc _
  rcases Vbu.1 hc with hc|hc
  ·obtain⟨e1,e2⟩:=Xb5 hc
   rw[fJ e1,e2];exact .inl ⟨mm,_,_,_,_,rfl⟩
  ·obtain⟨e1,e2⟩:=Xb5 (Vbp.1 hc)
   rw[fJ e1,e2];exact .inr (.inl ⟨_,_,_,_,_,hk,rfl⟩)
 ·intro r0 x0 m0 k0 kc s' p' q' hF
  have vk:r0≠r:=fun e=>by
   rw[e,hk]at kc
   injection kc with e;injection e with _ _ _ e;cases e
  have oi:r0≠nr:=hdr r0 (by rw[kc];rfl);unfold zS at hF;split at hF
  ·rename_i e
   split at hF
   ·unfold zA at hF
    split at hF
    ·injection hF with j1 j2;exact absurd j1.symm oi
    ·cases hF
   ·unfold zA at hF
    split at hF
    ·injection hF with j1 j2;exact absurd j1.symm vk
    ·cases hF
  ·injection hF with j1 j2;exact⟨j1,j2⟩
 ·intro s' ko
  show (if s'=nr then _ else _)=_
  rw[if_neg (hdr s' ko)]
 ·intro _ _
  simp only[dC,aB];exact⟨by simp,eP _ _ _ (.inr ⟨_,Vbr _ Vb7⟩),fR.one⟩
 ·intro eC s' c hc _
  rcases Vbu.1 hc with hc|hc
  ·obtain⟨e1,rfl⟩:=Xb5 hc
   obtain rfl:=fJ e1;refine⟨_,_,_,_,rfl,?_⟩;simp only[bW,if_true];refine fR.move nq [] _ (Vb6 _) fun b t' hb=>⟨?_,rfl⟩
   show nS _ (G.own b)=_
   rw[hb];show zS _ _ _ _ _ _ _=_
   rw[hFr,if_pos (List.prefix_append _ _),List.drop_left];rfl
  ·obtain⟨e1,rfl⟩:=Xb5 (Vbp.1 hc)
   obtain rfl:=fJ e1;refine⟨_,_,_,_,rfl,?_⟩;simp only[bW];rw[if_neg a71];have:=Rp.upd (own':=fun b=>nS (zS s' nr pv (m'-(qs.length+1)) m') (G.own b)) (w':=w) (r:=s') (M':=m') (full:=pv) (y:=.hole) (u:=v) nq (fun b t' hb ht=>⟨?_,rfl⟩) (by omega) (.hole _ fR.one) pv [] m' (G.hdr s') _ _ rfl (Vb6 _) (by simpa using fm) lA nB
   ·simpa using this
   ·rw[hb]
    show zS _ _ _ _ _ _ _=_
    rw[hFr,if_neg ht];rfl
theorem Ja1 {mv dw:Bool}{nv nb nr:Nat}{c:Call}(h:o.op=.call c):Ua6 E mv dw nv nb nr g o=qP E mv dw nv nb nr g o:=by
 unfold Ua6;have h1:Bah (dw&&noG g) o.op=none:=by rw[h];unfold Bah;split<;>first|rfl|contradiction
 have h2:Mac (dw&&noG g&&!mv) o=none:=by
  unfold Mac;split
  ·rw[h]
  ·rfl
 have h3:Uaa E.frl (noG g) o=none:=by
  unfold Uaa;split
  ·rw[h]
  ·rfl
 rw[h1];dsimp only;rw[h2];dsimp only;rw[h3]
theorem Vaa {nv nr t:Nat}(mm:σ (kR (nr+1))=none){l:List Step}{u:List (Nat×aQ)}(h1:(Ja4 E nv nr t).eval σ=some (some (l,u))):upds σ u (kR (nr+1))=none:=by
 simp only[Ja4,aA,Vbj,aR,Vbs]at h1;split at h1
 case h_2=>simp only[aC,Vbl]at h1;cases h1
 simp only[aA,Vbj]at h1;obtain⟨s,-,h1⟩:=h1;split at h1
 case h_2=>simp only[aC,Vbl]at h1;cases h1
 rw[gZ]at h1;split at h1
 case isFalse=>simp only[aC,Vbl]at h1;cases h1
 simp only[aA,Vbj,aR,Vbs]at h1;split at h1
 case h_2=>simp only[aC,Vbl]at h1;cases h1
 rename_i r' _ _ _ _ _ _ _ _ hk;simp only[aC,Vbl,Wbd]at h1;obtain⟨-,rfl⟩:=h1
 cases e:upds σ _ (kR (nr+1)) with
 |none=>rfl
 | some c =>
  exfalso
  rcases qU _ _ _ _ e with h4|⟨-,h4⟩
  ·simp only[Vbu,Wbd,List.not_mem_nil,or_false]at h4
   rcases h4 with ⟨h4,-⟩|⟨h4,-⟩|⟨h4,-⟩
   ·exact iQ h4.symm
   ·have:=fJ h4;omega
   ·rw[h4,hk]at mm;cases mm
  ·rw[mm]at h4;cases h4
theorem Yaq {mv dw:Bool}{nv nb nr:Nat}{ty:TypeId}{x:Operand}(ho:o.op=.load ty x){r:bS}(h:(qP E mv dw nv nb nr none o).eval σ=some r){j:Nat}{c:aQ}(hc:(kR j,c)∈r.upd):False:=by
 simp only[qP,ho,aA,Vbj,tiR,aV]at h;obtain⟨ti,h1,p,h2,h⟩:=h
 have lB:∀ {g':Option (aI×Bool)} {v:SV},(kR j,c)∈(match o.dst with|some d=>[(kT d,aQ.slot g' v)]|none=>[])->False:=by
  intro g' v hm;split at hm
  ·simp only[Vbp,Wbd]at hm
   exact iQ hm.1.symm
  ·simp at hm
 have hC:∀ {v:SV},(Yaf o none nv v).eval σ=some r->False:=by
  intro v h;simp only[Yaf,uK,aC,Vbl]at h;subst h;rw[Wbo]at hc;exact lB hc
 unfold Sa7 at h;split at h
 ·simp only[aA,Vbj,aR,Vbs]at h
  split at h
  ·simp only[aA,Vbj]at h
   obtain⟨_,-,h⟩:=h;split at h
   ·exact hC h
   ·cases h
  ·cases h
 ·simp only[aA,Vbj]at h
  obtain⟨s,-,h⟩:=h;split at h
  ·simp only[uJ,aC,Vbl]at h
   subst h;exact lB hc
  ·simp only[uK,aC,Vbl]at h
   subst h;rw[Wbo]at hc;exact lB hc
  ·cases h
 ·cases h
def Sby:Oper:={ (default:Oper) with dst:=none }
theorem R.roots (h:R E.ntmps F σ ρ a w G){ur:List (Nat×aQ)}{f:Nat->List Nat->Ow}
  (hu:∀ k c,(k,c)∈ur->∃ r,k=kR r) (cu:∀ b,G'.own b=nS f (G.own b))
  (yp:∀ b r p,G.own b=.slc r p->(∀ c,(kR r,c)∉ur)->f r p=.slc r p)
  (yw:∀ r c,(kR r,c)∈ur->upds σ ur (kR r)=some c->Chg σ G w G' w r c)
  (oR:∀ r x m k,σ (kR r)=some (.root x m k .frozen)->∀ s p q,f s p=.slc r q->s=r/\p=q)
  (so:∀ r,(σ (kR r)).isSome->G'.hdr r=G.hdr r) (gl:G'.bx=G.bx)
  (fm:∀ r c,(kR r,c)∈ur->upds σ ur (kR r)=some c->∃ x m cy st,c=.root x m cy st/\bW (upds σ ur) ρ G' w r x m st):R E.ntmps F (upds σ ur) ρ a w G':=by
 have h0:eG Sby none .dead=[]:=rfl
 have:=h.own (o:=Sby) (g:=none) (sv:=.dead) (v:=undef) (ur:=ur) (f:=f) (wr:=fun _=>False) (G':=G') (w':=w) (fun d hd=>by cases hd) hu (fun b _=>cu b)
  (fun b hb=>by rw[cu,h.frame.fresh b hb];rfl) ⟨rfl,rfl,rfl,Vb6 _⟩ (fun b hb=>.inl (by rw[cu,h.frame.fresh b hb];rfl)) (fun _ _ _=>rfl) (fun b hb=>hb.elim) yp
  (by rw[h0,Wby];exact yw) oR so gl (fun _ _=>trivial) (by rw[h0,Wby];exact fun _=>fm)
 rw[h0,Wby]at this;exact this
def fzF (rs:List Nat)(s:Nat)(p:List Nat):Ow:=if s∈rs then .frz else .slc s p
theorem R.freeze (h:R E.ntmps F σ ρ a w G){rs:List Nat}{fr:List (Nat×aQ)}(eC:(dV rs).eval σ=some fr) :
  ∃ G',R E.ntmps F (upds σ fr) ρ a w G'/\(∀ b,G'.own b=nS (fzF rs) (G.own b))/\G'.hdr=G.hdr/\G'.bx=G.bx:=by
 obtain⟨h1,h2⟩:=gU eC
 let G':Gh:={ own:=fun b=>nS (fzF rs) (G.own b),hdr:=G.hdr,bx:=G.bx }
 have a7x:∀ b r p,G.own b=.slc r p->r∈rs->∃ c,(kR r,c)∈fr:=by
  intro b r p hb hr
  rcases h1 r hr with ⟨x,m,cy,-,h4⟩|⟨x,m,cy,h4⟩
  ·exact⟨_,h4⟩
  ·exact absurd hb ((h.root h4).2 b p)
 have et:∀ r c,(kR r,c)∈fr->∃ x m cy,c=.root x m cy .frozen/\σ (kR r)=some (.root x m cy .live)/\r∈rs:=by
  intro r c hc;obtain⟨s,hs,x,m,cy,e,e',h3⟩:=h2 _ _ hc;obtain rfl:=fJ e;exact⟨x,m,cy,e',h3,hs⟩
 have a0a:∀ r x m cy,σ (kR r)=some (.root x m cy .live)->r∈rs->Rd (fun b=>G'.own b=.frz) w (G.hdr r) (x.val ρ):=by
  intro r x m cy hk hr;have h3:=h.root hk;simp only[bW]at h3;refine h3.rd.mono fun b hb=>⟨?_,rfl⟩
  show nS _ _=_
  rcases hb with hb|⟨q,hb⟩
  ·rw[hb];rfl
  ·rw[hb];simp only[nS,fzF];rw[if_pos hr]
 refine⟨G',h.roots (f:=fzF rs) ?_ (fun b=>rfl) ?_ ?_ ?_ (fun _ _=>rfl) rfl ?_,fun b=>rfl,rfl,rfl⟩
 ·intro k c hc
  obtain⟨s,-,x,m,cy,e,-⟩:=h2 _ _ hc;exact⟨s,e⟩
 ·intro b r p hb hn
  unfold fzF;rw[if_neg];intro hr;obtain⟨c,hc⟩:=a7x b r p hb hr;exact hn c hc
 ·intro r c hc _
  obtain⟨x,m,cy,rfl,h3,h4⟩:=et r c hc;refine .inr (.inr (.inr ⟨x,m,cy,h3,rfl,fun b p hb=>⟨?_,rfl⟩⟩));show nS _ _=_
  rw[hb];simp only[nS,fzF];rw[if_pos h4]
 ·intro r x m k hk s p q hf
  unfold fzF at hf;split at hf
  ·cases hf
  ·injection hf with f1 f2
   exact⟨f1,f2⟩
 ·intro r c hc _
  obtain⟨x,m,cy,rfl,h3,h4⟩:=et r c hc;refine⟨_,_,_,_,rfl,a0a r x m cy h3 h4,fun b p hb=>?_⟩;have hb:nS (fzF rs) (G.own b)=.slc r p:=hb
  cases e:G.own b with
  | slc s q =>
   rw[e]at hb;simp only[nS,fzF]at hb;split at hb
   ·cases hb
   ·rename_i hs
    injection hb with f1 f2
    rw[f1]at hs;exact hs h4
  |_=>rw[e]at hb;simp[nS]at hb
theorem Db0 (hR:R E.ntmps F σ ρ a w G){t:Nat}{u:List (Nat×aQ)}(h:(Pbm t).eval σ=some u):∃ G',R E.ntmps F (upds σ u) ρ a w G':=by
 simp only[Pbm,aA,aR,Vbs]at h;split at h
 ·obtain⟨G',h1,-⟩:=hR.freeze h
  exact⟨G',h1⟩
 ·simp only[aC,Vbl]at h
  subst h;exact⟨G,hR⟩
theorem Xam (hR:R E.ntmps F σ ρ a w G)(hd:fQ E.ntmps o)(hti:vV P E.ti){nv nb nr:Nat}{mv dw:Bool}(hf:Dai σ nb nr){res:bS}
  (h:(Ua6 E mv dw nv nb nr g o).eval σ=some res) (cA:aJ cf ρ g nv res.lets)
  (jq:∀ f args argTypes,o.op=.call { callee:=.value f,args,argTypes }->gW P E F σ ρ a w g o Q res.upd):gW P E F σ ρ a w g o Q res.upd:=by
 unfold Ua6 at h;split at h
 ·split at h
  ·split at h
   ·exact Bak hR hd hti hf h cA jq
   ·
    rename_i t r8
    have hb:noG g=true:=by
     cases e:noG g with
     |true=>rfl
     |false=>rw[e]at r8;cases r8
    have ho:∀ c,o.op≠.call c:=by
     intro c hc;rw[hb]at r8;simp[Uaa,hc]at r8
    obtain rfl:=vM hb;simp only[aA,Vbj,Iaa]at h;obtain⟨r,h1,u,h2,h⟩:=h;simp only[aC,Vbl]at h;subst h;have h0:gW P E F σ ρ a w none o Q r.upd:=Bak hR hd hti hf h1 cA fun f args argTypes sR=>absurd sR (ho _)
    refine⟨fun hg=>?_,fun hg=>by simp[gOn]at hg⟩;refine Oper.wp_mono (K:=Nx E.ntmps F σ ρ r.upd) (fun a' w' ⟨G',iu⟩=>?_) (h0.1 hg);obtain⟨G'',qc⟩:=Db0 iu h2;exact⟨G'',by rw[tQ];exact qc⟩
  ·
   rename_i t r8
   have hb:(dw&&noG g&&!mv)=true:=by
    cases e:(dw&&noG g&&!mv) with
    |true=>rfl
    |false=>rw[e]at r8;cases r8
   simp only[Vbk]at hb;obtain rfl:=vM hb.1.2
   obtain⟨ty,x,ho⟩:∃ ty x,o.op=.load ty x:=by
    unfold Mac at r8;split at r8
    ·split at r8
     ·rename_i ho;exact⟨_,_,ho⟩
     ·cases r8
    ·cases r8
   simp only[aA,Vbj,Iaa]at h;obtain⟨r,h1,y,h2,h⟩:=h
   cases y with
   | none =>
    simp only[aC,Vbl]at h;subst h;exact Bak hR hd hti hf h1 cA jq
   | some lu =>
    obtain⟨l,u⟩:=lu;simp only[aC,Vbl]at h;subst h;obtain⟨ke,gR⟩:=aJ.append cA;have h0:gW P E F σ ρ a w none o Q r.upd:=Bak hR hd hti hf h1 ke fun f args argTypes sR=>by rw[ho]at sR;cases sR
    refine⟨fun hg=>?_,fun hg=>by simp[gOn]at hg⟩;refine Oper.wp_mono (K:=Nx E.ntmps F σ ρ r.upd) (fun a' w' ⟨G',iu⟩=>?_) (h0.1 hg)
    have mm:upds σ r.upd (kR nr)=none:=by
     have jo:=hf.nr nr (Vb6 _) (by unfold cK;omega)
     cases e:upds σ r.upd (kR nr) with
     |none=>rfl
     | some c =>
      exfalso
      rcases qU _ _ _ _ e with h4|⟨-,h4⟩
      ·exact Yaq ho h1 h4
      ·rw[jo]at h4;cases h4
    obtain⟨G'',qc⟩:=Na2 iu mm h2 gR;exact⟨G'',by rw[tQ];exact qc⟩
 ·rename_i t gk
  simp only[aA,Vbj]at h;obtain⟨x,h1,h⟩:=h
  have hb:(dw&&noG g)=true:=by
   cases e:(dw&&noG g) with
   |true=>rfl
   |false=>rw[e]at gk;unfold Bah at gk;cases gk
  simp only[Vbk]at hb;obtain rfl:=vM hb.2
  cases x with
  |none=>exact Bak hR hd hti hf h cA jq
  | some lu =>
   obtain⟨l,u⟩:=lu;simp only[aA,Vbj,Iaa,aC,Vbl]at h;obtain⟨r,h2,rfl⟩:=h;obtain⟨ke,gR⟩:=aJ.append cA;obtain⟨G',iu⟩:=Na2 hR (hf.nr nr (Vb6 _) (by unfold cK;omega)) h1 ke
   have fN:gW P E F (upds σ u) ρ a w none o Q r.upd:=by
    have tR:upds σ u (kR (nr+1))=none:=Vaa (hf.nr (nr+1) (by omega) (by unfold cK;omega)) h1;unfold Bah at gk;split at gk
    ·rename_i ho
     exact Gav iu hti ho h2 gR
    ·rename_i ho
     exact vJ iu hd hti tR ho h2 gR
    ·cases gk
   refine⟨fun hg=>?_,fun hg=>by simp[gOn]at hg⟩;have e:Nx E.ntmps F σ ρ (u++r.upd)=Nx E.ntmps F (upds σ u) ρ r.upd:=by unfold Nx;rw[tQ]
   rw[e];exact fN.1 hg
theorem jZ {ops:List Oper}{mv dw:Bool}{nv nb nr:Nat}{res:bS}(h:(lY E ops mv dw nv nb nr o).eval σ=some (g,res)) :
  (La0 ops o).eval σ=some g/\fQ E.ntmps o/\(Ua6 E mv dw nv nb nr g o).eval σ=some res/\res.upd.all (fun x=>zJ E.ntmps nb nr x.1)=true:=by
 simp only[lY,aA,Vbj,aH,aC,Vbl,Wbd]at h;obtain⟨g',h1,_,h2,res',h3,_,h4,rfl,rfl⟩:=h;refine⟨h1,fun d hd=>?_,h3,?_⟩
 ·rw[hd]at h2
  dsimp only at h2;split at h2
  ·rename_i hb;simpa using hb
  ·cases h2
 ·split at h4
  ·rename_i hb;exact hb
  ·cases h4
def Ibu (P:Program)(E:Env)(F:bK)(σ:Nat->Option aQ)(ρ:List D)(ops:Array Oper)(o:Oper)(Q:Exit->Act->World->Prop)(u:List (Nat×aQ))(a:Act)(w:World):Prop :=
 if Region.wanted o (yielded ops a.tmps) then o.wp P a w (Nx E.ntmps F σ ρ u) Q else Nx E.ntmps F σ ρ u (a.put o.dst undef) w
theorem Bal (hR:R E.ntmps F σ ρ a w G)(hti:vV P E.ti){ops:Array Oper}(pr:∀ o∈ops.toList,fQ E.ntmps o){mv dw:Bool}{nv nb nr:Nat}(hf:Dai σ nb nr){res:bS}
  (h:(lY E ops.toList mv dw nv nb nr o).eval σ=some (g,res)) (cA:aJ cf ρ g nv res.lets)
  (jq:∀ f args argTypes,o.op=.call { callee:=.value f,args,argTypes }->gW P E F σ ρ a w g o Q res.upd):Ibu P E F σ ρ ops o Q res.upd a w:=by
 obtain⟨h1,h2,h3,-⟩:=jZ h;have hs:=Xam hR h2 hti hf h3 cA jq;unfold Ibu;rw[Rap hR pr h1];split
 ·rename_i hg;exact hs.1 hg
 ·rename_i hg;exact hs.2 (by simpa using hg)
end
section
variable {cf:Nat->List D->Option (List D)}
theorem Ra0 {i:Nat}{k:Kind}:Mak i k=true↔k=.yield i:=by
 cases k<;>simp[Mak]
 exact eq_comm
theorem Vaz {k:Kind}:Ta7 k=true↔k=.cont:=by cases k<;>simp[Ta7]
theorem Abz {β:Type}{body:Tm β}{ρ:List D}{C:List D->Out β->Prop}
  (a2j:∀ vs o,Ec cf body (ρ++vs)=some o->o.kind≠.cont->C vs o)
  (fL:∀ vs o o',Ec cf body (ρ++vs)=some o->o.kind=.cont->C o.vals o'->Lc cf body ρ o.vals=some o'->C vs o') :
  ∀ {vs:List D} {o:Out β},Lc cf body ρ vs=some o->C vs o:=by
 intro vs o h;have h':=(gL (Pb1 (cf:=cf) body ρ vs)).1 h;obtain⟨n,hn⟩:=h'
 have key:∀ m vs,iter m (fun vs=>runT cf n body (ρ++vs)) vs=some o->C vs o/\Lc cf body ρ vs=some o:=by
  intro m
  induction m with
  |zero=>intro vs h;cases h
  | succ m ih =>
   intro vs h;simp only[iter,Vbj]at h;obtain⟨o1,h1,h2⟩:=h;have e1:Ec cf body (ρ++vs)=some o1:=Ia9.2 ⟨n,h1⟩;split at h2
   ·rename_i hk
    obtain⟨h3,h4⟩:=ih _ h2;exact⟨fL vs o1 o e1 hk h3 h4,by rw[Ab0,e1,Vbs,if_pos hk];exact h4⟩
   ·rename_i hk
    obtain rfl:=Wbk h2;exact⟨a2j vs o1 e1 hk,by rw[Ab0,e1,Vbs,if_neg hk]⟩
 exact (key n vs hn).1
theorem wP {β:Type}{f:Kind->Bool}:∀ {t:Tm β} {ρ:List D} {o:Out β},t.no f=true->Ec cf t ρ=some o->f o.kind=false
 | .leaf k xs e, ρ, o, hn, h => by
  rw[gH]at h;obtain rfl:=Wbk h;simpa[Tm.no] using hn
 |.stuck,ρ,o,hn,h=>by rw[jM]at h;cases h
 | .lt g p xs n k, ρ, o, hn, h => by
  rw[Nag]at h;split at h
  ·simp only[Vbj]at h
   obtain⟨ds,-,h⟩:=h;split at h
   ·exact wP (t:=k) hn h
   ·cases h
  ·exact wP (t:=k) hn h
 | .call g c xs n os k, ρ, o, hn, h => by
  rw[vE]at h;split at h
  ·simp only[Vbj]at h
   obtain⟨ds,-,h⟩:=h;split at h
   ·exact wP (t:=k) hn h
   ·cases h
  ·exact wP (t:=k) hn h
 | .ite c t e, ρ, o, hn, h => by
  simp only[Tm.no,Vbk]at hn;rw[Fan]at h;split at h
  ·exact wP hn.1 h
  ·exact wP hn.2 h
  ·cases h
 | .bind i t k, ρ, o, hn, h => by
  simp only[Tm.no,Vbk]at hn;simp only[sF,Vbj]at h;obtain⟨o1,h1,h2⟩:=h;split at h2
  ·exact wP hn.2 h2
  ·obtain rfl:=Wbk h2
   exact wP hn.1 h1
 | .loop init b, ρ, o, hn, h => by
  rw[Nah]at h;simp only[Tm.no]at hn;exact Abz (C:=fun _ o=>f o.kind=false) (fun vs o h1 _=>wP hn h1) (fun _ _ _ _ _ h3 _=>h3) h
theorem rF {f:St->Option (Tm St)}:∀ {t t':Tm St} {ρ:List D} {o':Out St},t.graft f=some t'->Ec cf t' ρ=some o' ->
  ∃ o,Ec cf t ρ=some o/\((o.kind=.fall/\∃ r,f o.ext=some r/\Ec cf r o.env=some o')\/(o.kind≠.fall/\o'=o))
 | .leaf k xs s, t', ρ, o', hg, h => by
  cases k with
  |fall=>exact⟨_,gH ..,.inl ⟨rfl,t',hg,h⟩⟩
  | _ =>
   simp only[Tm.graft,Vbl]at hg;subst hg;rw[gH]at h;obtain rfl:=Wbk h;exact⟨_,gH ..,.inr ⟨by simp,rfl⟩⟩
 | .stuck, t', ρ, o', hg, h => by
  simp only[Tm.graft,Vbl]at hg;subst hg;rw[jM]at h;cases h
 | .lt g p xs n k, t', ρ, o', hg, h => by
  simp only[Tm.graft,Vb4]at hg;obtain⟨k',hk,rfl⟩:=hg;rw[Nag]at h;simp only[Nag];split at h
  ·rename_i fL
   simp only[Vbj]at h;obtain⟨ds,h1,h⟩:=h;split at h
   ·rename_i hl
    obtain⟨o,h2,h3⟩:=rF hk h;exact⟨o,by rw[if_pos fL,h1,Vbs,if_pos hl];exact h2,h3⟩
   ·cases h
  ·rename_i fL
   obtain⟨o,h2,h3⟩:=rF hk h;exact⟨o,by rw[if_neg fL];exact h2,h3⟩
 | .call g c xs n os k, t', ρ, o', hg, h => by
  simp only[Tm.graft,Vb4]at hg;obtain⟨k',hk,rfl⟩:=hg;rw[vE]at h;simp only[vE];split at h
  ·rename_i fL
   simp only[Vbj]at h;obtain⟨ds,h1,h⟩:=h;split at h
   ·rename_i hl
    obtain⟨o,h2,h3⟩:=rF hk h;exact⟨o,by rw[if_pos fL,h1,Vbs,if_pos hl];exact h2,h3⟩
   ·cases h
  ·rename_i fL
   obtain⟨o,h2,h3⟩:=rF hk h;exact⟨o,by rw[if_neg fL];exact h2,h3⟩
 | .ite c t e, t', ρ, o', hg, h => by
  simp only[Tm.graft,Vbj,Vb4]at hg;obtain⟨t1,ht,e1,he,rfl⟩:=hg;rw[Fan]at h;simp only[Fan];split at h
  ·exact rF ht h
  ·exact rF he h
  ·cases h
 | .bind i t k, t', ρ, o', hg, h => by
  simp only[Tm.graft]at hg
  cases hn:t.no qN with
  |false=>rw[hn]at hg;cases hg
  | true =>
   rw[hn,cond_true,Vb4]at hg;obtain⟨k',hk,rfl⟩:=hg;simp only[sF,Vbj]at h;obtain⟨o1,h1,h2⟩:=h;simp only[sF,h1,Vbs];split at h2
   ·rename_i hy
    rw[if_pos hy];exact rF hk h2
   ·rename_i hy
    rw[if_neg hy];obtain rfl:=Wbk h2;refine⟨o1,rfl,.inr ⟨fun e=>?_,rfl⟩⟩;have:=wP hn h1;rw[e]at this;cases this
 | .loop init b, t', ρ, o', hg, h => by
  simp only[Tm.graft]at hg
  cases hn:b.no qN with
  |false=>rw[hn]at hg;cases hg
  | true =>
   rw[hn,cond_true,Vbl]at hg;subst hg;refine⟨o',h,.inr ⟨fun e=>?_,rfl⟩⟩;have:=wP (t:=.loop init b) (f:=qN) hn h;rw[e]at this;cases this
theorem jT {id:Nat}:∀ {t t':Tm St} {ρ:List D} {o':Out St},t.exitFall id=some t'->Ec cf t' ρ=some o' ->
  ∃ o,Ec cf t ρ=some o/\((qE id o.kind=true/\o'=⟨.fall,[],o.ext,o.env⟩)\/(qE id o.kind=false/\o'=o))
 | .leaf k xs s, t', ρ, o', hg, h => by
  cases k with
  | exit j =>
   simp only[Tm.exitFall,Vbl]at hg
   cases hb:Nat.beq id j with
   | true =>
    rw[hb,cond_true]at hg;subst hg;rw[gH]at h;obtain rfl:=Wbk h;exact⟨_,gH ..,.inl ⟨by simpa[qE] using hb,rfl⟩⟩
   | false =>
    rw[hb,cond_false]at hg;subst hg;rw[gH]at h;obtain rfl:=Wbk h;exact⟨_,gH ..,.inr ⟨by simpa[qE] using hb,rfl⟩⟩
  | _ =>
   simp only[Tm.exitFall,Vbl]at hg;subst hg;rw[gH]at h;obtain rfl:=Wbk h;exact⟨_,gH ..,.inr ⟨rfl,rfl⟩⟩
 | .stuck, t', ρ, o', hg, h => by
  simp only[Tm.exitFall,Vbl]at hg;subst hg;rw[jM]at h;cases h
 | .lt g p xs n k, t', ρ, o', hg, h => by
  simp only[Tm.exitFall,Vb4]at hg;obtain⟨k',hk,rfl⟩:=hg;rw[Nag]at h;simp only[Nag];split at h
  ·rename_i fL
   simp only[Vbj]at h;obtain⟨ds,h1,h⟩:=h;split at h
   ·rename_i hl
    obtain⟨o,h2,h3⟩:=jT hk h;exact⟨o,by rw[if_pos fL,h1,Vbs,if_pos hl];exact h2,h3⟩
   ·cases h
  ·rename_i fL
   obtain⟨o,h2,h3⟩:=jT hk h;exact⟨o,by rw[if_neg fL];exact h2,h3⟩
 | .call g c xs n os k, t', ρ, o', hg, h => by
  simp only[Tm.exitFall,Vb4]at hg;obtain⟨k',hk,rfl⟩:=hg;rw[vE]at h;simp only[vE];split at h
  ·rename_i fL
   simp only[Vbj]at h;obtain⟨ds,h1,h⟩:=h;split at h
   ·rename_i hl
    obtain⟨o,h2,h3⟩:=jT hk h;exact⟨o,by rw[if_pos fL,h1,Vbs,if_pos hl];exact h2,h3⟩
   ·cases h
  ·rename_i fL
   obtain⟨o,h2,h3⟩:=jT hk h;exact⟨o,by rw[if_neg fL];exact h2,h3⟩
 | .ite c t e, t', ρ, o', hg, h => by
  simp only[Tm.exitFall,Vbj,Vb4]at hg;obtain⟨t1,ht,e1,he,rfl⟩:=hg;rw[Fan]at h;simp only[Fan];split at h
  ·exact jT ht h
  ·exact jT he h
  ·cases h
 | .bind i t k, t', ρ, o', hg, h => by
  simp only[Tm.exitFall]at hg
  cases hn:t.no (qE id) with
  |false=>rw[hn]at hg;cases hg
  | true =>
   rw[hn,cond_true,Vb4]at hg;obtain⟨k',hk,rfl⟩:=hg;simp only[sF,Vbj]at h;obtain⟨o1,h1,h2⟩:=h;simp only[sF,h1,Vbs];split at h2
   ·rename_i hy
    rw[if_pos hy];exact jT hk h2
   ·rename_i hy
    rw[if_neg hy];obtain rfl:=Wbk h2;exact⟨o1,rfl,.inr ⟨wP hn h1,rfl⟩⟩
 | .loop init b, t', ρ, o', hg, h => by
  simp only[Tm.exitFall]at hg
  cases hn:b.no (qE id) with
  |false=>rw[hn]at hg;cases hg
  | true =>
   rw[hn,cond_true,Vbl]at hg;subst hg;exact⟨o',h,.inr ⟨wP (t:=.loop init b) (f:=qE id) hn h,rfl⟩⟩
theorem lW {out:Kind}{jw:Kind->Bool}{f:St->Option (Tm St)}(hf:∀ s r,f s=some r->∀ ρ o,Ec cf r ρ=some o->o.kind=out)
  (hc:jw .cont=false) (hy:∀ i,jw (.yield i)=false):∀ {t t':Tm St} {ρ:List D} {o':Out St},t.turn out jw f=some t'->Ec cf t' ρ=some o' ->
  ∃ o,Ec cf t ρ=some o/\((jw o.kind=true/\o'.kind=out/\∃ r,f o.ext=some r/\Ec cf r o.env=some o')\/(jw o.kind=false/\o'=o))
 | .leaf k xs s, t', ρ, o', hg, h => by
  simp only[Tm.turn]at hg
  cases hs:jw k with
  | true =>
   rw[hs,cond_true]at hg;exact⟨_,gH ..,.inl ⟨hs,hf _ _ hg _ _ h,t',hg,h⟩⟩
  | false =>
   rw[hs,cond_false,Vbl]at hg;subst hg;rw[gH]at h;obtain rfl:=Wbk h;exact⟨_,gH ..,.inr ⟨hs,rfl⟩⟩
 | .stuck, t', ρ, o', hg, h => by
  simp only[Tm.turn,Vbl]at hg;subst hg;rw[jM]at h;cases h
 | .lt g p xs n k, t', ρ, o', hg, h => by
  simp only[Tm.turn,Vb4]at hg;obtain⟨k',hk,rfl⟩:=hg;rw[Nag]at h;simp only[Nag];split at h
  ·rename_i fL
   simp only[Vbj]at h;obtain⟨ds,h1,h⟩:=h;split at h
   ·rename_i hl
    obtain⟨o,h2,h3⟩:=lW hf hc hy hk h;exact⟨o,by rw[if_pos fL,h1,Vbs,if_pos hl];exact h2,h3⟩
   ·cases h
  ·rename_i fL
   obtain⟨o,h2,h3⟩:=lW hf hc hy hk h;exact⟨o,by rw[if_neg fL];exact h2,h3⟩
 | .call g c xs n os k, t', ρ, o', hg, h => by
  simp only[Tm.turn,Vb4]at hg;obtain⟨k',hk,rfl⟩:=hg;rw[vE]at h;simp only[vE];split at h
  ·rename_i fL
   simp only[Vbj]at h;obtain⟨ds,h1,h⟩:=h;split at h
   ·rename_i hl
    obtain⟨o,h2,h3⟩:=lW hf hc hy hk h;exact⟨o,by rw[if_pos fL,h1,Vbs,if_pos hl];exact h2,h3⟩
   ·cases h
  ·rename_i fL
   obtain⟨o,h2,h3⟩:=lW hf hc hy hk h;exact⟨o,by rw[if_neg fL];exact h2,h3⟩
 | .ite c t e, t', ρ, o', hg, h => by
  simp only[Tm.turn,Vbj,Vb4]at hg;obtain⟨t1,ht,e1,he,rfl⟩:=hg;rw[Fan]at h;simp only[Fan];split at h
  ·exact lW hf hc hy ht h
  ·exact lW hf hc hy he h
  ·cases h
 | .bind i t k, t', ρ, o', hg, h => by
  simp only[Tm.turn]at hg
  cases hiy:Mak i out with
  | true =>
   rw[hiy,cond_true]at hg
   cases hn:t.no jw with
   |false=>rw[hn]at hg;cases hg
   | true =>
    rw[hn,cond_true,Vb4]at hg;obtain⟨k',hk,rfl⟩:=hg;simp only[sF,Vbj]at h;obtain⟨o1,h1,h2⟩:=h;simp only[sF,h1,Vbs];split at h2
    ·rename_i uq
     rw[if_pos uq];exact lW hf hc hy hk h2
    ·rename_i uq
     rw[if_neg uq];obtain rfl:=Wbk h2;exact⟨o1,rfl,.inr ⟨wP hn h1,rfl⟩⟩
  | false =>
   rw[hiy,cond_false]at hg;simp only[Vbj,Vb4]at hg;obtain⟨t1,ht,k',hk,rfl⟩:=hg;have cU:out≠.yield i:=fun e=>by rw[Ra0.2 e]at hiy;cases hiy
   simp only[sF,Vbj]at h;obtain⟨o1',h1,h2⟩:=h;obtain⟨o1,h3,h4⟩:=lW hf hc hy ht h1;simp only[sF,h3,Vbs]
   rcases h4 with ⟨h5,h6,h7⟩|⟨h5,h6⟩
   ·rw[if_neg (by rw[h6];exact cU)]at h2
    obtain rfl:=Wbk h2;have:o1.kind≠.yield i:=fun e=>by rw[e,hy]at h5;cases h5
    rw[if_neg this];exact⟨o1,rfl,.inl ⟨h5,h6,h7⟩⟩
   ·subst h6
    split at h2
    ·rename_i uq
     rw[if_pos uq];exact lW hf hc hy hk h2
    ·rename_i uq
     rw[if_neg uq];obtain rfl:=Wbk h2;exact⟨_,rfl,.inr ⟨h5,rfl⟩⟩
 | .loop init b, t', ρ, o', hg, h => by
  simp only[Tm.turn]at hg
  cases hic:Ta7 out with
  | true =>
   rw[hic,cond_true]at hg
   cases hn:b.no jw with
   |false=>rw[hn]at hg;cases hg
   | true =>
    rw[hn,cond_true,Vbl]at hg;subst hg;exact⟨o',h,.inr ⟨wP (t:=.loop init b) (f:=jw) hn h,rfl⟩⟩
  | false =>
   rw[hic,cond_false,Vb4]at hg;obtain⟨b',hb,rfl⟩:=hg;have cU:out≠.cont:=fun e=>by rw[Vaz.2 e]at hic;cases hic
   rw[Nah]at h;simp only[Nah]
   refine Abz (C:=fun vs o'=>∃ o,Lc cf b ρ vs=some o/\((jw o.kind=true/\o'.kind=out/\∃ r,f o.ext=some r/\Ec cf r o.env=some o')\/(jw o.kind=false/\o'=o)))
    (fun vs o1' h1 hk=>?_) (fun vs o1' o2 h1 hk h2 uy=>?_) h
   ·obtain⟨o1,h3,h4⟩:=lW hf hc hy hb h1
    rcases h4 with ⟨h5,h6,h7⟩|⟨h5,h6⟩
    ·have:o1.kind≠.cont:=fun e=>by rw[e,hc]at h5;cases h5
     exact⟨o1,by rw[Ab0,h3,Vbs,if_neg this],.inl ⟨h5,h6,h7⟩⟩
    ·subst h6
     exact⟨o1',by rw[Ab0,h3,Vbs,if_neg hk],.inr ⟨h5,rfl⟩⟩
   ·obtain⟨o1,h3,h4⟩:=lW hf hc hy hb h1
    rcases h4 with ⟨h5,h6,h7⟩|⟨h5,h6⟩
    ·exact absurd (h6.symm.trans hk) cU
    ·subst h6
     obtain⟨o,h8,h9⟩:=h2;exact⟨o,by rw[Ab0,h3,Vbs,if_pos hk];exact h8,h9⟩
end
def Aaf (σ:Nat->Option aQ)(N:Nat):Prop:=∀ k c,σ k=some c->dA N c=true
def xW (N:Nat)(ρ gn:List D):Prop:=∀ x,aY N x=true->x.val gn=x.val ρ
theorem xW.ext {N:Nat}{ρ:List D}(h:N<=ρ.length)(e:List D):xW N ρ (ρ++e):=fun x hx=>sD hx h
section
variable {n:Nat} {F:bK} {σ:Nat->Option aQ} {ρ gn:List D} {a:Act} {w:World} {G:Gh} {N:Nat}
theorem xW.gOn (h:xW N ρ gn){g:Option (aI×Bool)}(hg:qG N g=true):Go.Proofs.YtgpamlpecmldfaaGreat.Rf.gOn gn g=Go.Proofs.YtgpamlpecmldfaaGreat.Rf.gOn ρ g:=by
 cases g with
 |none=>rfl
 | some z =>
  obtain⟨x,w⟩:=z;simp only[qG]at hg;simp only[Go.Proofs.YtgpamlpecmldfaaGreat.Rf.gOn,h x hg]
theorem xW.path (h:xW N ρ gn){p:List (aI×Nat×Nat)}(hp:(p.all fun x=>aY N x.1)=true):bB gn p=bB ρ p:=by
 unfold bB;apply List.map_congr_left;intro x hx;rw[Wbg]at hp;unfold lN;rw[h x.1 (hp x hx)]
mutual
theorem aB.same (h:xW N ρ gn):∀ (l:aP) (v:Value),l.inScope N=true->aB σ ρ G w l v->aB σ gn G w l v
 |.dead,_,_,hl=>by simpa[aB] using hl
 | .sc x, v, hs, hl => by
  simp only[aP.inScope]at hs;simp only[aB,h x hs]at hl ⊢;exact hl
 | .su g x, v, hs, hl => by
  simp only[aP.inScope,Vbk]at hs;have hg:Go.Proofs.YtgpamlpecmldfaaGreat.Rf.gOn gn (some g)=Go.Proofs.YtgpamlpecmldfaaGreat.Rf.gOn ρ (some g):=h.gOn (by obtain⟨y,b⟩:=g;exact hs.2);simp only[aB,h x hs.1,hg]at hl ⊢;exact hl
 |.ex r,v,_,hl=>by simpa[aB] using hl
 | .sn deps p nie x, v, hs, hl => by
  simp only[aP.inScope,Vbk]at hs;simp only[aB,h x hs.1]at hl ⊢;refine⟨hl.1,fun hv=>?_⟩;obtain⟨h1,h2,h3⟩:=hl.2 hv;refine⟨h1,h2,?_⟩
  cases p with
  |no=>trivial
  |view=>exact h3
  | suf sz lo =>
   simp only[Dag,lN]at h3 ⊢;rw[h lo hs.2];exact h3
  | path p =>
   simp only[Dag]at h3 ⊢;rw[h.path hs.2];exact h3
 |.px b off,v,_,hl=>by simpa[aB] using hl
 | .pe l sz i off, v, hs, hl => by
  simp only[aP.inScope,Vbk]at hs;simp only[aB,h i hs.2]at hl ⊢;obtain⟨a,n,c,k,iv,h1,h2⟩:=hl;exact⟨a,n,c,k,iv,aB.same h l _ hs.1 h1,h2⟩
 | .rp deps sz x, v, hs, hl => by
  simp only[aP.inScope]at hs;simp only[aB,h x hs]at hl ⊢;exact hl
 |.pn,v,_,hl=>by simpa[aB] using hl
 | .clo f fS, v, hs, hl => by
  simp only[aP.inScope]at hs;simp only[aB]at hl ⊢;obtain⟨vs,h1,h2⟩:=hl;exact⟨vs,h1,aD.same h fS vs hs h2⟩
theorem aD.same (h:xW N ρ gn):∀ (ls:List aP) (vs:List Value),bG N ls=true->aD σ ρ G w ls vs->aD σ gn G w ls vs
 |[],vs,_,hl=>by simpa[aD] using hl
 | l :: ls, vs, hs, hl => by
  simp only[bG,Vbk]at hs;simp only[aD]at hl ⊢;obtain⟨u,us,e,h1,h2⟩:=hl;exact⟨u,us,e,aB.same h l u hs.1 h1,aD.same h ls us hs.2 h2⟩
end
theorem iM.same (h:xW N ρ gn):∀ (ts:List (Bool×List aP)) (us:List Value),(ts.all fun v=>bG N v.2)=true->iM σ ρ G w ts us->iM σ gn G w ts us
 |[],_,_,ht=>ht
 | (a, ls) :: r, us, hs, ht => by
  simp only[List.all_cons,Vbk]at hs;obtain⟨u,dj,vs,e,h1,h2,h3⟩:=ht;exact⟨u,dj,vs,e,aD.same h ls vs hs.1 h1,h2,iM.same h r dj hs.2 h3⟩
theorem dC.same (h:xW N ρ gn){v:SV}{u:Value}(hs:yD N v=true)(hv:dC σ ρ G w v u):dC σ gn G w v u:=by
 cases v with
 |dead=>trivial
 |one l=>exact aB.same h l u hs hv
 |agg ls=>obtain⟨vs,e,h1⟩:=hv;exact⟨vs,e,aD.same h ls vs hs h1⟩
 |tup ts=>obtain⟨us,e,h1⟩:=hv;exact⟨us,e,iM.same h ts us hs h1⟩
theorem oC:∀ {ls:List aP} {j:Nat} {l:aP},bG N ls=true->ls[j]?=some l->l.inScope N=true
 |[],j,l,_,h=>by simp at h
 | m :: ls, 0, l, hs, h => by
  simp only[bG,Vbk]at hs;simp only[Vbv,Vbl]at h;rw[<- h];exact hs.1
 | m :: ls, j + 1, l, hs, h => by
  simp only[bG,Vbk]at hs;exact oC hs.2 (by simpa using h)
theorem R.same (h:R n F σ ρ a w G)(hs:Aaf σ N)(hv:xW N ρ gn):R n F σ gn a w G:=by
 refine⟨h.tmps,h.defers,fun k c hk=>?_,h.frame,h.rng⟩;have k9:=hs k c hk
 cases c with
 | slot g v =>
  simp only[dA,Vbk]at k9;obtain⟨t,e,h1⟩:=h.cont k _ hk;exact⟨t,e,fun hg=>(h1 (by rw[<- hv.gOn k9.1];exact hg)).same hv k9.2⟩
 | box ro ls =>
  simp only[dA]at k9;obtain⟨b,e,h1,h2,h3⟩:=h.cont k _ hk;refine⟨b,e,h1,h2,fun j l hj=>?_⟩;obtain⟨v,h4,h5,h6⟩:=h3 j l hj;exact⟨v,h4,h5,aB.same hv l v (oC k9 hj) h6⟩
 | root x m cy st =>
  simp only[dA]at k9;obtain⟨r,e,h0,h1⟩:=h.cont k _ hk;refine⟨r,e,h0,?_⟩
  cases st with
  |live=>simp only[bW]at h1 ⊢;rw[hv x k9];exact h1
  |frozen=>simp only[bW]at h1 ⊢;rw[hv x k9];exact h1
  |gone=>trivial
  |fwd r'=>exact h1
theorem R.ext (h:R n F σ ρ a w G)(hs:Aaf σ N)(hn:N<=ρ.length)(e:List D):R n F σ (ρ++e) a w G:=h.same hs (.ext hn e)
theorem dW {M:Nat}(h:N<=M){x:aI}(hx:aY N x=true):aY M x=true:=by
 cases x with
 |c d=>rfl
 |v i=>simp only[aY,Wb0]at hx ⊢;omega
theorem Hag {M:Nat}(h:N<=M){p:Pth}(hx:Ba3 N p=true):Ba3 M p=true:=by
 cases p with
 |no=>rfl
 |view=>rfl
 |suf sz lo=>exact dW h hx
 | path p =>
  simp only[Ba3,Wbg]at hx ⊢;exact fun x hm=>dW h (hx x hm)
mutual
theorem qB {M:Nat}(h:N<=M):∀ (l:aP),l.inScope N=true->l.inScope M=true
 |.dead,_=>rfl
 |.sc x,hs=>by simp only[aP.inScope]at hs ⊢;exact dW h hs
 |.su g x,hs=>by simp only[aP.inScope,Vbk]at hs ⊢;exact⟨dW h hs.1,dW h hs.2⟩
 |.ex r,_=>rfl
 |.sn deps p nie x,hs=>by simp only[aP.inScope,Vbk]at hs ⊢;exact⟨dW h hs.1,Hag h hs.2⟩
 |.px b off,_=>rfl
 |.pe l sz i off,hs=>by simp only[aP.inScope,Vbk]at hs ⊢;exact⟨qB h l hs.1,dW h hs.2⟩
 |.rp deps sz x,hs=>by simp only[aP.inScope]at hs ⊢;exact dW h hs
 |.pn,_=>rfl
 |.clo f fS,hs=>by simp only[aP.inScope]at hs ⊢;exact iE h fS hs
theorem iE {M:Nat}(h:N<=M):∀ (ls:List aP),bG N ls=true->bG M ls=true
 |[],_=>rfl
 |l::ls,hs=>by simp only[bG,Vbk]at hs ⊢;exact⟨qB h l hs.1,iE h ls hs.2⟩
end
theorem xM {M:Nat}(h:N<=M){c:aQ}(hs:dA N c=true):dA M c=true:=by
 cases c with
 | slot g v =>
  simp only[dA,Vbk]at hs ⊢;refine⟨xE hs.1 h,?_⟩
  cases v with
  |dead=>rfl
  |one l=>exact qB h l hs.2
  |agg ls=>exact iE h ls hs.2
  | tup ts =>
   have h2:=hs.2;simp only[yD,Wbg]at h2 ⊢;exact fun x hx=>iE h x.2 (h2 x hx)
 |box ro ls=>exact iE h ls hs
 |root x m cy st=>exact dW h hs
theorem Aaf.mono {M:Nat}(hs:Aaf σ N)(h:N<=M):Aaf σ M:=fun k c hk=>xM h (hs k c hk)
theorem Aaf.upds {M:Nat}(hs:Aaf σ N)(h:N<=M){u:List (Nat×aQ)}(hu:u.all (fun x=>dA M x.2)=true):Aaf (upds σ u) M:=by
 intro k c hk
 rcases qU u σ k c hk with h1|⟨-,h1⟩
 ·rw[Wbg]at hu
  exact hu _ h1
 ·exact xM h (hs k c h1)
end
end Go.Proofs.YtgpamlpecmldfaaGreat.Rf
