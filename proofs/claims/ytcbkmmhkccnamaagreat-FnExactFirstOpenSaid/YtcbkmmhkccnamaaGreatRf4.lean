import Derived.Test.YtcbkmmhkccnamaaGreatRf3
import Derived.Laws.MakeOwn
set_option linter.all false
open Array renaming getElem?_eq_getElem → Pb0, length_toList → Rbd, ext' → Sbc
open Bool renaming and_eq_true → Obz, not_eq_true' → Pbs
open List renaming mem_append_left → Ob1, getElem?_eq_some_iff → Ob2, mem_singleton → Ob3, mem_append_right → Ob4, getElem?_eq_getElem → Ob5, getElem?_cons_zero → Ob7, mem_cons → Ob8, mem_cons_of_mem → Pbb, append_assoc → Pbd, mem_append → Pbe, mem_cons_self → Pbf, length_append → Pbg, mem_of_getElem? → Pbh, getElem?_append_left → Pbi, getElem?_append_right → Pbk, map_cons → Pbn, replicate → Pbp, getElem?_map → Pbr, length_map → Pbt, all_eq_true → Pbv, map_nil → Pbx, append_nil → Pbz, mem_iff_getElem? → Qbl, length_take → Qbs, ext_getElem? → Rbp, map_congr_left → Rb9
open List.cons renaming injEq → Qbf
open Nat renaming le_refl → Pbj, add_assoc → Pbm, lt_or_ge → Pbo, beq_eq → Pbq, add_zero → Pby, add_sub_cancel_left → Pb1, blt_eq → Pb2, ble_eq → Qba, blt → Qbg, le_succ → Rbo, le_add_right → Rb2
open Option renaming bind_eq_some_iff → Oby, bind_some → Ob6, map_eq_some_iff → Pbc, isNone_iff_eq_none → Rbf
open Option.some renaming injEq → Ob0, inj → Pbu
open Prod.mk renaming injEq → Pbl, inj → Qb9
namespace Go.Proofs.YtcbkmmhkccnamaaGreat.Rf
def Sa4 (km:List Nat)(lh:Option Nat)(nsz:Nat)(src:Option (Nat×List Nat×Nat))(nr M:Nat)(s:Nat)(p:List Nat):Ow :=
 if s∈km then .frz else if lh=some s then (match p with
  |k::t=>vX nr M ((nsz+k)::t)
  |[]=>.frz) else
 match src with
 |some (r,pq,mr)=>if s=r then (if pq <+: p then vX nr M (p.drop pq.length) else vX r mr p) else .slc s p
 |none=>.slc s p
section
variable {P:Program} {E:Env} {F:bC} {n:Nat} {σ:Nat->Option aN} {ρ:List D} {a:Act} {w w':World} {G G':Gh} {g:Option (aI×Bool)} {o:Oper} {cf:Nat->List D->Option (List D)} {Q:Exit->Act->World->Prop} {next:Act->World->Prop}
structure XOk (σ:Nat->Option aN) (ρ:List D) (G:Gh) (w:World) (v:Value) (ra:List (List D)) (sz m:Nat) (updX:List (Nat×aN)) (src:Option (Nat×List Nat×Nat)) (A:Option Addr) (b:Addr) (n cap:Nat) (vs:Nat->Nat->Value):Prop where
 side:Side w v ra sz A b n cap vs
 base:(A=some b/\b.spot=none)\/(A=none/\cap=0)
 own:A=some b->∃ r pq mr,src=some (r,pq,mr)/\G.own b.block=.slc r pq
 all:A=some b->∀ k,k<cap*sz->∃ u,w.cell? (b.add k)=some u/\w.frozen? (b.add k)=false
 ch:∀ i row,ra[i]?=some row->∀ j d,row[j]?=some d->∃ r pq mr,src=some (r,pq,mr)/\Rp G.own w r (pq++[i*sz+j]) (m-1) (vs i j) d
 m:1<=m
 upd:(src=none/\updX=[])\/∃ r pq mr X k,src=some (r,pq,mr)/\σ (kR r)=some (.root X mr k .live) /\
  ((pq=[]/\updX=[(kR r,.root (.c .hole) 0 0 .gone)])\/(∃ X',updX=[(kR r,.root X' mr (k+1) .live)]/\Upd pq (X.val ρ) .hole (X'.val ρ)/\wG G.own w r [] (G.hdr r) pq v/\pq.length<mr))
theorem Zaw (hR:R E.ntmps F σ ρ a w G)(hd:eO E.ntmps o){nb nr:Nat}(hf:Aas σ nb nr){fl:Bool}{vx vy v:Value}{ra rb:List (List D)}{sz m dy M:Nat}{updX fR:List (Nat×aN)}{src:Option (Nat×List Nat×Nat)}{ry km:List Nat}{lh:Option Nat}
  {A By:Option Addr} {b yn:Addr} {n n' cap ln:Nat} {vs ru:Nat->Nat->Value}
  (hX:XOk σ ρ G w vx ra sz m updX src A b n cap vs) (hY:YOk σ G w fl vy rb sz dy fR ry km lh)
  (p5:Side w vy rb sz By yn n' ln ru) (hYc:∀ i row,rb[i]?=some row->∀ j d,row[j]?=some d->ChY G w km lh dy (ru i j) d (i*sz+j))
  {w1:World} {A':Option Addr} {cb:Addr} {gS:Nat} {grow:Bool} (hA:Fbw w w1 G A n n' cap sz (nV vs n sz) (nV ru n' sz) v A' cb gS grow)
  (jw:fl=true->∀ r∈ra++rb,∀ d∈r,d.isSc=true) (hM1:1<=M) (hM:fl=false->M<=m/\M<=dy)
  (vo:∀ r pq mr,src=some (r,pq,mr)->r∉ry\/fl=true) {y:aI} (hy:y.val ρ=.rows sz (ra++rb)) :
  ∃ G',R E.ntmps F (upds σ (dF o none (.one (.ex nr))++((kR nr,.root y M 0 .live)::updX++fR))) ρ (a.put o.dst v) w1 G':=by
 obtain⟨M,rfl⟩:∃ M',M=M'+1:=⟨M-1,by omega⟩;have ig:σ (kR nr)=none:=hf.nr nr (Pbj _) (by unfold bO;omega)
 have k7:∀ b,G.own b≠.frz->b<w.heap.size:=fun b hb=>by
  rcases Pbo b w.heap.size with h|h
  ·exact h
  ·exact absurd (hR.frame.fresh b h) hb
 have zc:∀ r pq mr,src=some (r,pq,mr)->r∉km/\lh≠some r:=by
  intro r pq mr e
  rcases vo r pq mr e with h|h
  ·exact⟨fun hh=>h (hY.fz r hh).1,fun hh=>h (hY.mv r hh).1⟩
  ·obtain⟨-,h2,h3⟩:=hY.flat h
   rw[h2,h3];simp
 have oS:∀ r pq mr,src=some (r,pq,mr)->∃ X k,σ (kR r)=some (.root X mr k .live)/\∃ c,(kR r,c)∈updX:=by
  intro r pq mr e
  rcases hX.upd with ⟨h1,-⟩|⟨r',ug,qp,X,k,h1,h2,h3⟩
  ·rw[h1]at e;cases e
  ·rw[h1]at e
   obtain⟨rfl,rfl,rfl⟩:r'=r/\ug=pq/\qp=mr:=by injection e with e;injection e with e1 e;injection e with e2 e3;exact⟨e1,e2,e3⟩
   refine⟨X,k,h2,?_⟩
   rcases h3 with ⟨-,h3⟩|⟨X',h3,-⟩<;>exact⟨_,by rw[h3];exact Ob3.2 rfl⟩
 have xb:grow=false->A'≠none->∃ r pq mr,src=some (r,pq,mr)/\G.own cb.block=.slc r pq:=by
  intro hg ct
  rcases hA.base with ⟨h1,-⟩|⟨-,-,h2⟩|⟨-,h2⟩
  ·rw[hg]at h1;cases h1
  ·rcases hX.base with ⟨h3,h4⟩|⟨h3,-⟩
   ·rw[h2]at h3
    obtain rfl:=Pbu h3;exact hX.own h2
   ·rw[h2]at h3;cases h3
  ·exact absurd h2 ct
 have b8:∀ b,b<w.heap.size->(∀ r pq mr,src=some (r,pq,mr)->G.own b≠.slc r pq)->w1.heap[b]?=w.heap[b]?:=by
  intro b' aq cI;refine hA.heap b' aq ?_
  cases hg:grow with
  |true=>exact .inl rfl
  | false =>
   by_cases ct:A'=none
   ·exact .inr (.inl ct)
   ·obtain⟨r,pq,mr,h1,h2⟩:=xb hg ct
    exact .inr (.inr fun e=>cI r pq mr h1 (e▸h2))
 generalize a7:(fun b'=>if b'=w.heap.size then (if grow=true then Ow.slc nr [] else .frz) else kZ (Sa4 km lh (n*sz) src nr (M+1)) (G.own b'))=own'
 have fg:∀ b' s p,G.own b'=.slc s p->own' b'=Sa4 km lh (n*sz) src nr (M+1) s p:=fun b' s p hb=>by
  have:=k7 b' (by rw[hb];simp);rw[<- a7];dsimp only;rw[if_neg (by omega),hb];rfl
 have hz:∀ b',G.own b'=.frz->b'<w.heap.size->own' b'=.frz/\w1.heap[b']?=w.heap[b']?:=fun b' hb aq=>by
  refine⟨?_,b8 b' aq fun _ _ _ _=>by rw[hb];simp⟩;rw[<- a7];dsimp only;rw[if_neg (by omega),hb];rfl
 have xf:∀ s∈km,∀ p,Sa4 km lh (n*sz) src nr (M+1) s p=.frz:=fun s hs p=>by
  unfold Sa4;rw[if_pos hs]
 have q8:∀ r pq mr,src=some (r,pq,mr)->∀ p,Sa4 km lh (n*sz) src nr (M+1) r p=if pq <+: p then vX nr (M+1) (p.drop pq.length) else vX r mr p:=fun r pq mr e p=>by
  obtain⟨h1,h2⟩:=zc r pq mr e;unfold Sa4;rw[if_neg h1,if_neg h2,e];simp
 have sr:∀ s,s∈ry->fl=false->∀ r pq mr,src=some (r,pq,mr)->s≠r:=fun s hs fX r pq mr e h=>by
  rcases vo r pq mr e with h1|h1
  ·exact h1 (h▸hs)
  ·rw[fX]at h1;cases h1
 have hold:∀ i row,ra[i]?=some row->∀ j d,row[j]?=some d->w1.cell? (cb.add (i*sz+j))=some (vs i j)/\Rp own' w1 nr [i*sz+j] M (vs i j) d:=by
  intro i row hi j d hj;have nF:i<n:=by rw[<- hX.side.len];exact (Ob2.1 hi).1
  have lz:j<sz:=by
   have:=(Ob2.1 hj).1;rwa[hX.side.rows row (Pbh hi)]at this
  refine⟨hA.cell _ _ (by rw[Pbi];exact Bao vs nF lz;exact (Ob2.1 (Bao vs nF lz)).1),?_⟩;obtain⟨r,pq,mr,e,h1⟩:=hX.ch i row hi j d hj
  cases fX:fl with
  |true=>exact .sc (h1.sc_inv (jw fX row (Ob1 _ (Pbh hi)) d (Pbh hj)))
  | false =>
   obtain⟨h2,h3⟩:=hM fX;refine h1.move hz _ M (by omega) fun b' t hb=>⟨?_,b8 b' (k7 b' (by rw[hb];simp)) fun r' ug qp e' hh=>?_⟩
   ·rw[fg b' _ _ hb,q8 r pq mr e,if_pos (by rw[Pbd];exact List.prefix_append _ _),Pbd,List.drop_left,vX]
    simp only[Pbg,List.length_singleton];by_cases ht:t.length<M
    ·rw[if_pos ht,if_pos (by omega)]
    ·rw[if_neg ht,if_neg (by omega)]
   ·rw[e]at e'
    obtain⟨rfl,rfl,rfl⟩:r=r'/\pq=ug/\mr=qp:=by injection e' with e;injection e with e1 e;injection e with e2 e3;exact⟨e1,e2,e3⟩
    rw[hb]at hh
    injection hh with _ hh
    have:=congrArg List.length hh;simp at this
 have ga:∀ i row,rb[i]?=some row->∀ j d,row[j]?=some d->w1.cell? (cb.add ((n+i)*sz+j))=some (ru i j)/\Rp own' w1 nr [(n+i)*sz+j] M (ru i j) d:=by
  intro i row hi j d hj;have nF:i<n':=by rw[<- p5.len];exact (Ob2.1 hi).1
  have lz:j<sz:=by
   have:=(Ob2.1 hj).1;rwa[p5.rows row (Pbh hi)]at this
  have ko:(n+i)*sz+j=n*sz+(i*sz+j):=by rw[Nat.add_mul];omega
  refine⟨hA.cell _ _ (by rw[ko,Pbk (by rw[pI];omega),pI,Pb1];exact Bao ru nF lz),?_⟩;have lA:fl=true->d.isSc=true:=fun fX=>jw fX row (Ob4 _ (Pbh hi)) d (Pbh hj)
  rcases hYc i row hi j d hj with h1|⟨s,h1,h2,h3⟩|⟨h1,h2⟩
  ·exact .sc h1
  ·cases fX:fl with
   |true=>exact .sc (h3.sc_inv (lA fX))
   | false =>
    obtain⟨h4,h5⟩:=hM fX;obtain⟨h6,-,h7⟩:=hY.mv s h1;refine h3.move hz _ M (by omega) fun b' t hb=>⟨?_,b8 b' (k7 b' (by rw[hb];simp)) fun r' ug qp e' hh=>?_⟩
    ·rw[fg b' _ _ hb]
     unfold Sa4;rw[if_neg h7,if_pos h1];simp only[List.singleton_append];rw[vX,ko];simp only[List.length_cons];by_cases ht:t.length<M
     ·rw[if_pos ht,if_pos (by omega)]
     ·rw[if_neg ht,if_neg (by omega)]
    ·rw[hb]at hh
     injection hh with hh _
     exact sr s h6 fX r' ug qp e' hh
  ·cases fX:fl with
   |true=>exact .sc (h2.sc_inv (lA fX))
   | false =>
    obtain⟨h4,h5⟩:=hM fX;obtain rfl:M=0:=by omega
    refine .fz (h2.mono' fun b' hb aq=>?_)
    rcases hb with hb|⟨r',p',h6,hb⟩
    ·exact hz b' hb aq
    ·refine⟨by rw[fg b' _ _ hb,xf r' h6],b8 b' aq fun r'' ug qp e' hh=>?_⟩
     rw[hb]at hh
     injection hh with hh _
     exact sr r' (hY.fz r' h6).1 fX r'' ug qp e' hh
 have b9:∀ {s:Nat} {c:aN},(kR s,c)∈(kR nr,aN.root y (M+1) 0 .live)::updX++fR ->
   (s=nr/\c=.root y (M+1) 0 .live) \/
   (∃ pq mr X k,src=some (s,pq,mr)/\σ (kR s)=some (.root X mr k .live)/\(c=.root (.c .hole) 0 0 .gone\/∃ X',c=.root X' mr (k+1) .live/\Upd pq (X.val ρ) .hole (X'.val ρ)/\wG G.own w s [] (G.hdr s) pq vx/\pq.length<mr)) \/
   (lh=some s/\s∈ry/\c=.root (.c .hole) 0 0 .gone) \/
   (s∈km/\s∈ry/\∃ x m v,c=.root x m v .frozen/\σ (kR s)=some (.root x m v .live)):=by
  intro s c hc
  rcases Pbe.1 hc with hc|hc
  ·rcases Ob8.1 hc with hc|hc
   ·obtain⟨e1,e2⟩:=Qb9 hc
    exact .inl ⟨dY e1,e2⟩
   ·rcases hX.upd with ⟨-,h2⟩|⟨r,pq,mr,X,k,h1,h2,h3⟩
    ·rw[h2]at hc;simp at hc
    ·rcases h3 with ⟨h4,h5⟩|⟨X',h5,h6⟩
     ·rw[h5]at hc
      simp only[Ob3,Pbl]at hc;obtain⟨e1,e2⟩:=hc;obtain rfl:=dY e1;exact .inr (.inl ⟨pq,mr,X,k,h1,h2,.inl e2⟩)
     ·rw[h5]at hc
      simp only[Ob3,Pbl]at hc;obtain⟨e1,e2⟩:=hc;obtain rfl:=dY e1;exact .inr (.inl ⟨pq,mr,X,k,h1,h2,.inr ⟨X',e2,h6⟩⟩)
  ·obtain⟨s',e1,h1,h2⟩:=hY.upd _ _ hc
   obtain rfl:=dY e1
   rcases h2 with ⟨h2,h3,-⟩|⟨h2,x,m,aE,h3,h4⟩
   ·exact .inr (.inr (.inl ⟨h2,h1,h3⟩))
   ·exact .inr (.inr (.inr ⟨h2,h1,x,m,aE,h3,h4⟩))
 have kx:∀ r,(σ (kR r)).isSome->r≠nr:=fun r hr e=>by rw[e,ig]at hr;cases hr
 have sg:∀ s,s∈km->fl=false:=fun s hs=>by
  cases fX:fl with
  |false=>rfl
  |true=>rw[(hY.flat fX).2.1]at hs;simp at hs
 refine⟨{ G with own:=own',hdr:=fun r=>if r=nr then v else G.hdr r },hR.own hd (f:=Sa4 km lh (n*sz) src nr (M+1)) (wr:=fun b'=>b'=cb.block/\grow=false/\A'≠none) ?_ ?_ ?_ ?_ ?_ ?_ ?_ ?_ ?_ ?_ ?_ rfl ?_ ?_⟩
 ·intro k c hc
  rcases Pbe.1 hc with hc|hc
  ·rcases Ob8.1 hc with hc|hc
   ·exact⟨nr,(Qb9 hc).1⟩
   ·rcases hX.upd with ⟨-,h2⟩|⟨r,pq,mr,X,k',h1,h2,h3⟩
    ·rw[h2]at hc;simp at hc
    ·rcases h3 with ⟨h4,h5⟩|⟨X',h5,h6⟩<;>(rw[h5]at hc;simp only[Ob3,Pbl]at hc;exact⟨r,hc.1⟩)
  ·obtain⟨s',e1,-⟩:=hY.upd _ _ hc
   exact⟨s',e1⟩
 ·intro b' aq
  show own' b'=_
  rw[<- a7];dsimp only;rw[if_neg (by omega)]
 ·intro b' hb
  rw[hA.size]at hb;show own' b'=.frz
  rw[<- a7];dsimp only;by_cases e:b'=w.heap.size
  ·rw[if_pos e]
   cases hg:grow with
   |true=>rw[hg]at hb;simp at hb;omega
   |false=>simp
  ·rw[if_neg e,hR.frame.fresh b' (by split at hb<;>omega)];rfl
 ·exact⟨hA.os.1,hA.os.2.1,hA.os.2.2,by rw[hA.size];omega⟩
 ·intro b' hb
  show own' b'=.frz\/∃ r p,own' b'=.slc r p/\_
  rw[<- a7];dsimp only;by_cases e:b'=w.heap.size
  ·rw[if_pos e]
   cases hg:grow with
   |true=>exact .inr ⟨nr,[],by simp,ig⟩
   |false=>exact .inl (by simp)
  ·rw[if_neg e,hR.frame.fresh b' hb];exact .inl rfl
 ·intro b' aq hnw
  refine hA.heap b' aq ?_
  cases hg:grow with
  |true=>exact .inl rfl
  | false =>
   by_cases ct:A'=none
   ·exact .inr (.inl ct)
   ·exact .inr (.inr fun e=>hnw ⟨e,hg,ct⟩)
 ·rintro b' ⟨rfl,hg,ct⟩
  obtain⟨r,pq,mr,h1,h2⟩:=xb hg ct;obtain⟨X,k,-,c,hc⟩:=oS r pq mr h1;exact⟨r,pq,h2,c,Ob1 _ (Pbb _ hc)⟩
 ·intro b' s p hb gm
  have h1:s∉km:=fun hs=>by
   rcases (hY.fz s hs).2 with ⟨c,hc⟩|⟨x,m,aE,h⟩
   ·exact gm c (Ob4 _ hc)
   ·exact (hR.root h).2 b' p hb
  have h2:lh≠some s:=fun hs=>by
   obtain⟨c,hc⟩:=(hY.mv s hs).2.1;exact gm c (Ob4 _ hc)
  unfold Sa4;rw[if_neg h1,if_neg h2]
  cases pg:src with
  |none=>rfl
  | some x =>
   obtain⟨r,pq,mr⟩:=x;dsimp only;rw[if_neg];intro e;obtain⟨X,k,-,c,hc⟩:=oS r pq mr pg;exact gm c (Ob1 _ (Pbb _ (e▸hc)))
 ·intro s c hc _
  rcases b9 hc with ⟨rfl,rfl⟩|⟨pq,mr,X,k,h1,h2,h3⟩|⟨h1,h2,rfl⟩|⟨h1,h2,x,m',aE,rfl,h4⟩
  ·exact .inl ⟨ig,_,_,_,_,rfl⟩
  ·rcases h3 with rfl|⟨X',rfl,-⟩
   ·exact .inr (.inr (.inl ⟨_,_,_,_,rfl,by simp,by simp⟩))
   ·exact .inr (.inl ⟨_,_,_,_,_,h2,rfl⟩)
  ·exact .inr (.inr (.inl ⟨_,_,_,_,rfl,by simp,by simp⟩))
  ·refine .inr (.inr (.inr ⟨x,m',aE,h4,rfl,fun b' p hb=>⟨?_,b8 b' (k7 b' (by rw[hb];simp)) fun r pq mr e hh=>?_⟩⟩))
   ·show own' b'=.frz
    rw[fg b' _ _ hb,xf s h1]
   ·rw[hb]at hh
    injection hh with hh _
    exact sr s h2 (sg s h1) r pq mr e hh
 ·intro r0 x0 m0 k0 lB s p q hF
  have xi:=kx r0 (by rw[lB];rfl)
  have oy:∀ R M' q',vX R M' q'=.slc r0 q->R=r0:=by
   intro R M' q' h;unfold vX at h;split at h
   ·injection h
   ·cases h
  unfold Sa4 at hF;split at hF
  ·cases hF
  ·split at hF
   ·split at hF
    ·exact absurd (oy _ _ _ hF).symm xi
    ·cases hF
   ·split at hF
    ·rename_i _ r pq mr
     split at hF
     ·split at hF
      ·exact absurd (oy _ _ _ hF).symm xi
      ·have:=oy _ _ _ hF
       subst this;obtain⟨X,k,h,-⟩:=oS r pq mr rfl;rw[h]at lB
       injection lB with e;injection e with _ _ _ e;cases e
     ·injection hF with h1 h2;exact⟨h1,h2⟩
    ·injection hF with h1 h2;exact⟨h1,h2⟩
 ·intro r hr
  show (if r=nr then _ else _)=_
  rw[if_neg (kx r hr)]
 ·intro _ _
  simp only[bS,aB,if_true];refine⟨trivial,dL _ _ _ (.inr ⟨_,Ob4 _ (Ob1 _ Pbf)⟩),by rw[hA.val];rfl⟩
 ·intro _ s c hc _
  rcases b9 hc with ⟨rfl,rfl⟩|⟨pq,mr,X,k,h1,h2,h3⟩|⟨h1,h2,rfl⟩|⟨h1,h2,x,m',aE,rfl,h4⟩
  ·refine⟨_,_,_,_,rfl,?_⟩
   simp only[bK,if_true];rw[hy,hA.val]
   have lp:∀ i row,(ra++rb)[i]?=some row->(i<n/\ra[i]?=some row)\/(n<=i/\rb[i-n]?=some row):=by
    intro i row hi;by_cases aq:i<ra.length
    ·rw[Pbi aq]at hi
     exact .inl ⟨by rw[<- hX.side.len];exact aq,hi⟩
    ·rw[Pbk (by omega),hX.side.len]at hi
     exact .inr ⟨by rw[<- hX.side.len];omega,hi⟩
   refine .sl _ cb (n+n') gS sz _ (fun i j=>if i<n then vs i j else ru (i-n) j) (by simp[hX.side.len,p5.len]) hA.le hA.aval (fun row hr=>?_) (fun lb=>⟨hA.spot,?_,fun k hk=>hA.all k hk⟩) (fun i row hi j d hj=>?_) (fun i row hi j d hj=>?_)
   ·rcases Pbe.1 hr with hr|hr
    ·exact hX.side.rows _ hr
    ·exact p5.rows _ hr
   ·rcases hA.base with ⟨h1,-,h2⟩|⟨h1,-⟩|⟨-,h2⟩
    ·rw[<- a7]
     dsimp only;rw[if_pos h2,if_pos h1]
    rotate_left
    ·rw[h2]at lb;cases lb
    ·obtain⟨r,pq,mr,h2,h3⟩:=xb h1 (by rw[lb];simp)
     rw[fg _ _ _ h3,q8 r pq mr h2,if_pos List.prefix_rfl];simp[vX]
   ·rcases lp i row hi with ⟨h1,h2⟩|⟨h1,h2⟩
    ·rw[if_pos h1];exact (hold i row h2 j d hj).1
    ·rw[if_neg (by omega)]
     have:=(ga _ row h2 j d hj).1;rwa[show n+(i-n)=i by omega]at this
   ·rcases lp i row hi with ⟨h1,h2⟩|⟨h1,h2⟩
    ·rw[if_pos h1];exact (hold i row h2 j d hj).2
    ·rw[if_neg (by omega)]
     have:=(ga _ row h2 j d hj).2;rwa[show n+(i-n)=i by omega]at this
  ·rcases h3 with rfl|⟨X',rfl,h4,h5,h6⟩
   ·exact⟨_,_,_,_,rfl,trivial⟩
   ·refine⟨_,_,_,_,rfl,?_⟩
    simp only[bK];rw[if_neg (kx s (by rw[h2];rfl))];have hr:=hR.root h2;simp only[bK]at hr;have:=Rp.upd (own':=own') (w':=w1) (r:=s) (M':=mr) (full:=pq) hz (fun b' t hb ht=>⟨?_,b8 b' (k7 b' (by rw[hb];simp)) fun r' ug qp e' hh=>?_⟩) (by omega) (.hole _ (by rw[hX.side.val];rfl)) pq [] mr (G.hdr s) _ _ rfl (Pbj _) (by simpa using hr) h5 h4
    ·simpa using this
    ·rw[fg b' _ _ hb,q8 s pq mr h1,if_neg ht]
     rfl
    ·rw[h1]at e'
     obtain⟨-,rfl,-⟩:s=r'/\pq=ug/\mr=qp:=by injection e' with e;injection e with e1 e;injection e with e2 e3;exact⟨e1,e2,e3⟩
     rw[hb]at hh
     injection hh with _ hh
     exact ht (hh▸List.prefix_rfl)
  ·exact⟨_,_,_,_,rfl,trivial⟩
  ·refine⟨x,m',aE,.frozen,rfl,?_,fun b' p hb=>?_⟩
   ·have:=hR.root h4
    simp only[bK]at this ⊢;rw[if_neg (kx s (by rw[h4];rfl))];refine this.rd.mono' fun b' hb aq=>?_
    rcases hb with hb|⟨p,hb⟩
    ·exact hz b' hb aq
    ·refine⟨by rw[fg b' _ _ hb,xf s h1],b8 b' aq fun r pq mr e hh=>?_⟩
     rw[hb]at hh
     injection hh with hh _
     exact sr s h2 (sg s h1) r pq mr e hh
   ·have cI:own' b'=.slc s p:=hb
    have y7:=kx s (by rw[h4];rfl)
    have oy:∀ R M' q',R≠s->vX R M' q'≠.slc s p:=by
     intro R M' q' gw h;unfold vX at h;split at h
     ·injection h with h _;exact gw h
     ·cases h
    rcases Pbo b' w.heap.size with aq|mf
    ·rw[<- a7]at cI
     dsimp only at cI;rw[if_neg (by omega)]at cI
     cases e:G.own b' with
     | slc s' p' =>
      rw[e]at cI;have hF:Sa4 km lh (n*sz) src nr (M+1) s' p'=.slc s p:=cI;unfold Sa4 at hF;split at hF
      ·cases hF
      ·rename_i jf
       split at hF
       ·split at hF
        ·exact oy _ _ _ y7.symm hF
        ·cases hF
       ·split at hF
        ·rename_i _ r pq mr
         split at hF
         ·split at hF
          ·exact oy _ _ _ y7.symm hF
          ·exact oy _ _ _ (sr s h2 (sg s h1) r pq mr rfl).symm hF
         ·injection hF with h5 _;exact jf (h5▸h1)
        ·injection hF with h5 _;exact jf (h5▸h1)
     |_=>rw[e]at cI;cases cI
    ·rw[<- a7]at cI
     dsimp only at cI;by_cases e:b'=w.heap.size
     ·rw[if_pos e]at cI
      split at cI
      ·injection cI with h5 _;exact y7 h5.symm
      ·cases cI
     ·rw[if_neg e,hR.frame.fresh b' mf]at cI
      cases cI
end
section
variable {P:Program} {E:Env} {F:bC} {n:Nat} {σ:Nat->Option aN} {ρ:List D} {a:Act} {w w':World} {G G':Gh} {g:Option (aI×Bool)} {o:Oper} {cf:Nat->List D->Option (List D)} {Q:Exit->Act->World->Prop} {next:Act->World->Prop}
theorem Cbj {sz bytes:Nat}{fl:Bool}{x y:D}{ds:List D}(h:(aY.app sz bytes fl).run [x,y]=some ds) :
  ∃ ra rb,x=.rows sz ra/\y=.rows sz rb/\(fl=true->∀ r∈ra++rb,∀ d∈r,d.isSc=true)/\(ra.length+rb.length)*bytes<=iF/\ds=[.rows sz (ra++rb)]:=by
 cases x<;>cases y<;>simp only[aY.run]at h<;>first|cases h|skip
 rename_i s1 ra s2 rb;split at h
 ·rename_i h1
  obtain⟨rfl,rfl,h2,h3⟩:=h1;simp only[Ob0]at h;refine⟨ra,rb,rfl,rfl,fun hf=>?_,h3,h.symm⟩;rw[hf]at h2;simp only[Bool.not_true,Bool.false_or,Pbv]at h2;exact fun r hr d hd=>h2 r hr d hd
 ·cases h
theorem XOk.ofRp {v:Value}{ra:List (List D)}{sz md r mr:Nat}{pq:List Nat}{updX:List (Nat×aN)}(h:Rp G.own w r pq md v (.rows sz ra))(h1:1<=md){X:aI}{k:Nat}(hk:σ (kR r)=some (.root X mr k .live))
  (hu:(pq=[]/\updX=[(kR r,.root (.c .hole) 0 0 .gone)])\/(∃ X',updX=[(kR r,.root X' mr (k+1) .live)]/\Upd pq (X.val ρ) .hole (X'.val ρ)/\wG G.own w r [] (G.hdr r) pq v/\pq.length<mr)) :
  ∃ A b n cap vs,XOk σ ρ G w v ra sz md updX (some (r,pq,mr)) A b n cap vs:=by
 obtain⟨m',rfl⟩:∃ m',md=m'+1:=⟨md-1,by omega⟩;obtain⟨A,b,n,c,vs,e1,e2,e3,e4,e5,e6,e7,e8⟩:=h.sl_inv;refine⟨A,b,n,c,vs,⟨e1,e2,e3,e5,e7⟩,?_,fun hA=>⟨r,pq,mr,rfl,(e6 hA).2.1⟩,fun hA=>(e6 hA).2.2,fun i row hi j d hj=>⟨r,pq,mr,rfl,e8 i row hi j d hj⟩,h1,.inr ⟨r,pq,mr,X,k,rfl,hk,hu⟩⟩
 rcases e4 with e4|e4
 ·exact .inl ⟨e4,(e6 e4).1⟩
 ·exact .inr e4
theorem Cbk (hR:R E.ntmps F σ ρ a w G)(hd:eO E.ntmps o){nb nr nv:Nat}(hf:Aas σ nb nr){t tx e:TypeId}{ti:TI}{info:TypeInfo}{u u':TypeDesc}{x y:Operand}{args:Array Operand}{argTypes:Array TypeId}
  (ho:o.op=.call { callee:=.builtin .append,args,argTypes }) (dj:args.toList=[x,y]) (kb:argTypes=#[t,tx]) (hu:P.underlying t=some (.slice e)) (f:bV P e ti info u) (hx:P.underlying tx=some u') (sh:∃ e',u'=.slice e')
  (hb0:0<ti.bytes) (hs0:0<ti.size) {ys:SlR} (xn:Sa0 σ ρ G w ys (a.eval y)) {dy:Nat} {fR:List (Nat×aN)} {ry:List Nat} (hY:(Pae (Ja8 ti.cells) ys).eval σ=some (dy,fR,ry))
  {sx:aI} {m:Nat} {pre:List Step} {updX:List (Nat×aN)} (ba:aJ cf ρ none nv (pre++[.prim (.app ti.size ti.bytes (Ja8 ti.cells)) [sx,ys.x] 1]))
  (hXs:∀ ra,sx.val ρ=.rows ti.size ra->∃ src A b n cap vs,XOk σ ρ G w (a.eval x) ra ti.size m updX src A b n cap vs/\∀ r pq mr,src=some (r,pq,mr)->r∉ry\/Ja8 ti.cells=true) :
  o.wp P a w (Nx E.ntmps F σ ρ (dF o none (.one (.ex nr))++((kR nr,.root (.v (nv+bD pre)) (bif Ja8 ti.cells then big else min m dy) 0 .live)::updX++fR))) Q:=by
 obtain⟨-,lf⟩:=aJ.append ba;obtain⟨d,h1,h2⟩:=zD lf.1 (show gOn ρ none=true from rfl);simp only[Pbn,Pbx]at h1;obtain⟨ra,rb,e1,e2,e3,e4,e5⟩:=Cbj h1;simp only[Qbf,and_true]at e5;obtain⟨src,A,b,n,cap,vs,hX,mw⟩:=hXs ra e1;obtain⟨km,lh,hYo⟩:=Ibv hR xn e2 (fun fX r hr d hd=>e3 fX r (Ob4 _ hr) d hd) hY;obtain⟨By,yn,n',ln,ru,p5,hYb,hYc⟩:=hYo.side;have oq:(nV vs n ti.size).length=n*ti.size:=pI _ _ _;have k9:(nV ru n' ti.size).length=n'*ti.size:=pI _ _ _;have hc1:=Ga6 hX.side.rows hX.side.cell;have sa:=Ga6 p5.rows p5.cell;rw[hX.side.len]at hc1;rw[p5.len]at sa
 have a0r:∀ u∈nV ru n' ti.size,u.oneCell'=true:=by
  intro u hu;obtain⟨k,hk⟩:=Qbl.1 hu;obtain⟨k1,k2,k3,rfl⟩:=Ha0 hk;have hr:rb[k / ti.size]?=some (rb[k / ti.size]'(by rw[p5.len];exact k1)):=Ob5 _;have xg:=p5.rows _ (Pbh hr);have lA:(rb[k / ti.size]'(by rw[p5.len];exact k1))[k % ti.size]?=some _:=Ob5 (by rw[xg];exact k2)
  rcases hYc _ _ hr _ _ lA with h|⟨_,_,_,h⟩|⟨_,h⟩
  ·exact h.one
  ·exact h.one
  ·exact h.one
 have hM1:1<=(bif Ja8 ti.cells then big else min m dy):=by
  have:=hX.m;have:=hYo.dy
  cases Ja8 ti.cells with
  |true=>simp only[cond_true];unfold big;omega
  |false=>simp only[cond_false];omega
 have hM:Ja8 ti.cells=false->(bif Ja8 ti.cells then big else min m dy)<=m/\(bif Ja8 ti.cells then big else min m dy)<=dy:=fun h=>by
  rw[h,cond_false];omega
 have xu:(aI.v (nv+bD pre)).val ρ=.rows ti.size (ra++rb):=h2.trans e5;obtain⟨v,w1,A',cb,gS,grow,bd,hA⟩:=Ias (P:=P) (w:=w) (G:=G) (a:=a) (o:=o) ho dj kb hu f hx sh (A:=A) (n:=n) (cap:=cap) (n':=n') (b:=b) (olds:=nV vs n ti.size) (news:=nV ru n' ti.size) hX.side.val hX.side.le hX.base oq hc1 hX.all p5.val hYb k9 sa a0r hb0 hs0 (by rw[<- hX.side.len,<- p5.len];exact e4);exact lN bd (Zaw hR hd hf hX hYo p5 hYc hA e3 hM1 hM mw xu)
theorem Kax (hR:R E.ntmps F σ ρ a w G)(hd:eO E.ntmps o)(hti:sM P E.ti){nv nb nr:Nat}{mv cN:Bool}(hf:Aas σ nb nr){args:Array Operand}{argTypes:Array TypeId}(ho:o.op=.call { callee:=.builtin .append,args,argTypes })
    {x y:Operand} (dj:args.toList=[x,y]) {t ty:TypeId} {ti ei yi:TI} {e:Nat} (ht:argTypes[0]?=some t) (hty:argTypes[1]?=some ty) (hi:E.ti t=some ti) (he:ti.elem=some e) (xm:E.ti e=some ei) (u7:E.ti ty=some yi)
    (fp:(yi.elem.isSome&&Qbg 0 ei.size&&noG g&&Qbg 0 ei.bytes&&Nat.beq argTypes.size 2)=true) {lx ly:aM} (h1:(rdL E g t x).eval σ=some lx) (h2:(rdL E g ty y).eval σ=some ly) {res:bI}
    (h:(Iaf nv nr mv cN o ei lx ly).eval σ=some res) (ba:aJ cf ρ g nv res.lets):gD P E F σ ρ a w g o Q res.upd:=by
  simp only[Obz,Pb2,Pbq]at fp;obtain⟨⟨⟨⟨a4k,dm⟩,yd⟩,y6⟩,rS⟩:=fp;obtain rfl:=tQ yd;refine⟨fun hg=>?_,fun hg=>by simp[gOn]at hg⟩
  have kb:argTypes=#[t,ty]:=by
    apply Sbc;apply Rbp;intro k
    match k with
    |0=>simpa using ht
    |1=>simpa using hty
    |k+2=>simp[rS]
  obtain⟨i1,u1,f1⟩:=aV (hti.ok _ _ hi);obtain rfl:=nT f1 he;obtain⟨i2,u2,f2⟩:=aV (hti.ok _ _ xm);obtain⟨i3,u3,f3⟩:=aV (hti.ok _ _ u7);have hu3:=Fal f3 a4k;have vz:=eU hR hg h1;have hly:=eU hR hg h2;simp only[Iaf,aA,Oby]at h;obtain⟨ys,h3,⟨dy,fR,ry⟩,h4,h⟩:=h;have xn:=dI hR h3 hly
  have fin:∀ {sx:aI} {m:Nat} {pre:List Step} {updX:List (Nat×aN)},(vE nv nr o ei ys dy fR sx m pre updX).eval σ=some res ->
      (aJ cf ρ none nv pre->∀ ra,sx.val ρ=.rows ei.size ra->∃ src A b n cap vs,XOk σ ρ G w (a.eval x) ra ei.size m updX src A b n cap vs/\∀ r pq mr,src=some (r,pq,mr)->r∉ry\/Ja8 ei.cells=true) ->
      o.wp P a w (Nx E.ntmps F σ ρ res.upd) Q:=by
    intro sx m pre updX gr hXs;simp only[vE,qH,aF,Ob0]at gr;subst gr;simp only[Cam];exact Cbk hR hd hf ho dj kb f1.und f2 f3.und hu3 y6 dm xn h4 ba (hXs (aJ.append ba).1)
  dsimp only at h;split at h
  · rename_i p z
    refine fin h fun _ ra wc=>?_
    simp only[aI.val,D.rows.injEq]at wc;obtain⟨rfl,rfl⟩:=wc;simp only[aB]at vz;have hv:=(vz.2 (by simp)).2.1 trivial _ rfl;exact⟨none,none,⟨0,0,none⟩,0,0,fun _ _=>undef,⟨⟨hv,rfl,Pbj _,by simp,by simp⟩,.inr ⟨rfl,rfl⟩,by simp,by simp,by simp,by decide,.inl ⟨rfl,rfl⟩⟩,by simp⟩
  · simp only[aA,Oby]at h
    obtain⟨s,h5,h⟩:=h;have hs:=dI hR h5 vz;split at h
    · rename_i r k m q a7
      simp only[aA,aH,Oby]at h;obtain⟨_,h6,h⟩:=h;split at h6
      case isFalse=>cases h6
      rename_i zp;simp only[Obz,Bool.or_eq_true,Pbs,Qba]at zp;have mS:=hs.own;unfold sD at mS;rw[a7]at mS;obtain⟨-,⟨X,hk⟩,mS⟩:=mS;have mw:r∉ry\/Ja8 ei.cells=true:=zp.1.imp (fun h=>xL.1 h) id;split at h
      · refine fin h fun _ ra wc=>?_
        obtain⟨-,fa,-⟩:=mS;simp only[aZ,Pbx,List.length_nil,Nat.sub_zero]at fa;rw[wc]at fa;obtain⟨A,b,n,cap,vs,hX⟩:=XOk.ofRp (ρ:=ρ) fa zp.2 hk (updX:=[(kR r,.root (.c .hole) 0 0 .gone)]) (.inl ⟨rfl,rfl⟩)
        exact ⟨_, A, b, n, cap, vs, hX, fun r' pq mr e => by obtain rfl : r = r' := by injection e with e; injection e
                                                             exact mw⟩
      · rw[gG]at h
        split at h
        · refine fin h fun _ ra wc=>?_
          have fa:Rp G.own w r [] m (a.eval x) (s.x.val ρ):=mS;rw[wc]at fa;obtain⟨A,b,n,cap,vs,hX⟩:=XOk.ofRp (ρ:=ρ) fa zp.2 hk (updX:=[(kR r,.root (.c .hole) 0 0 .gone)]) (.inl ⟨rfl,rfl⟩)
          exact ⟨_, A, b, n, cap, vs, hX, fun r' pq mr e => by obtain rfl : r = r' := by injection e with e; injection e
                                                               exact mw⟩
        · cases h
      · rename_i q ct
        simp only[aA,aH,Oby,aP,Ob6]at h;obtain⟨_,h7,h⟩:=h;split at h7
        case isFalse=>cases h7
        rename_i q9;simp only[Obz,Qba,Pbs]at q9;rw[hk]at h;dsimp only at h;refine fin h fun ew ra wc=>?_
        obtain⟨hqm,fa,kg⟩:=mS;rw[wc]at fa;have mm:=zF hg q nv X (.c .hole) ew;obtain⟨A,b,n,cap,vs,hX⟩:=XOk.ofRp (ρ:=ρ) fa (by omega) hk (.inr ⟨_,rfl,mm,kg,by simp[aZ];omega⟩)
        exact ⟨_, A, b, n, cap, vs, hX, fun r' pq mr e => by obtain rfl : r = r' := by injection e with e; injection e
                                                             exact mw⟩
      · cases h
      · cases h
    · cases h
end
section
variable {P:Program} {E:Env} {F:bC} {n:Nat} {σ:Nat->Option aN} {ρ:List D} {a:Act} {w w':World} {G G':Gh} {g:Option (aI×Bool)} {o:Oper} {cf:Nat->List D->Option (List D)} {Q:Exit->Act->World->Prop} {next:Act->World->Prop}
theorem Gaq:∀ {cs:List CK} {zs:List D},Gar cs=some zs->zs.length=cs.length/\∀ (j:Nat) (c:CK) (d:D),cs[j]?=some c->zs[j]?=some d->∀ (v:Value),zeroCell v c=true->∀ (own:Nat->Ow) (r:Nat) (p:List Nat) (m:Nat),Rp own w r p m v d
 | [], zs, h => by
  simp only[Gar,Ob0]at h;subst h;simp
 | c :: cs, zs, h => by
  have main:∀ (d0:D),(Gar cs).map (d0::·)=some zs->(∀ v,zeroCell v c=true->∀ (own:Nat->Ow) (r:Nat) (p:List Nat) (m:Nat),Rp own w r p m v d0) ->
    zs.length=(c::cs).length/\∀ (j:Nat) (c':CK) (d:D),(c::cs)[j]?=some c'->zs[j]?=some d->∀ (v:Value),zeroCell v c'=true->∀ (own:Nat->Ow) (r:Nat) (p:List Nat) (m:Nat),Rp own w r p m v d:=by
   intro d0 h0 hd0;simp only[Pbc]at h0;obtain⟨zs',h1,rfl⟩:=h0;obtain⟨h2,h3⟩:=Gaq h1;refine⟨by simp[h2],fun j c' d hc hd v hv own r p m=>?_⟩
   cases j with
   | zero =>
    simp only[Ob7,Ob0]at hc hd;subst hc hd;exact hd0 v hv own r p m
   |succ j=>exact h3 j c' d (by simpa using hc) (by simpa using hd) v hv own r p m
  have hz:∀ v,zeroCell v c=true->aB (fun _=>none) [] ⟨fun _=>.frz,fun _=>undef,fun _=>⟨0,0,none⟩⟩ w (fA c) v:=fun v hv=>Iaa hv
  cases c with
  | sc z =>
   refine main z h fun v hv own r p m=>?_
   have:=hz v hv;simp only[fA,aB,aI.val]at this;exact .sc this
  | sl sz =>
   refine main (.rows sz []) h fun v hv own r p m=>?_
   have:=hz v hv;simp only[fA,aB,aI.val]at this;rw[(this.2 (by simp)).2.1 trivial sz rfl];exact Rp.nil
  |pn=>cases h
  |ot=>cases h
theorem Eac (hR:R E.ntmps F σ ρ a w G)(hd:eO E.ntmps o)(hti:sM P E.ti){nv nb nr:Nat}{mv cN:Bool}(hf:Aas σ nb nr){t:TypeId}{l c:Operand}(ho:o.op=.makeSlice t l c){res:bI}
  (h:(nL E mv cN nv nb nr g o).eval σ=some res) (ba:aJ cf ρ g nv res.lets):gD P E F σ ρ a w g o Q res.upd:=by
 simp only[nL,ho,aA,Oby,tiR,aT,aH]at h;obtain⟨st,h1,e,h2,ti,h3,_,h4,xl,h5,xc,h6,_,h7,zs,h8,h⟩:=h;split at h4
 case isFalse=>cases h4
 rename_i yd;obtain rfl:=tQ yd;split at h7
 case isFalse=>cases h7
 rename_i q9;simp only[Obz,Pb2]at q9;obtain⟨⟨hxx,dm⟩,y6⟩:=q9;obtain rfl:=aI.beq0_eq hxx;obtain⟨info,u,f⟩:=aV (hti.ok _ _ h1);obtain rfl:=nT f h2;obtain⟨ia,u',f'⟩:=aV (hti.ok _ _ h3);simp only[qH,aF,Ob0]at h;subst h;simp only[Cam];refine⟨fun hg=>?_,fun hg=>by simp[gOn]at hg⟩;obtain⟨d,gp,qf⟩:=fF ba hg;have hl:=iN hR hg h5;have hc:=iN hR hg h6;simp only[Pbn,Pbx]at gp;generalize hxv:xl.val ρ=xv at gp hl hc;cases xv<;>simp only[aY.run]at gp<;>first|cases gp|skip
 rename_i k len;split at gp
 case isFalse=>cases gp
 rename_i hlen;obtain⟨h0,hbound⟩:=hlen;simp only[Ob0,Qbf,and_true]at gp;obtain⟨z,ql,p4,-,zh⟩:=f'.zeros (σ:=σ) (ρ:=ρ) (G:=G) (w:=w);obtain⟨yb,xj⟩:=Gaq (w:=pushB w (madeCells z.cells (len.toNat*ia.size)) e) h8;have jx:=f'.len;have yt:z.cells.size=ti.size:=by rw[<- Rbd,p4.len,Pbt,jx]
 have aq:len.toNat*1<=len.toNat*ti.bytes:=Nat.mul_le_mul_left _ y6;unfold iF at hbound
 have bd:(execOp a.eval o).run P w=.ok (.value (.slice (some ⟨w.heap.size,0,none⟩) len.toNat len.toNat)) (pushB w (madeCells z.cells (len.toNat*ia.size)) e):=by
  unfold execOp;simp only[ho];refine fC ?_;rw[hl.int_inv,hc.int_inv]
  have oo:(ia.bytes:Int)*len<=281474976710656:=by
   rw[<- f'.bytes];have:((ti.bytes*len.toNat:Nat):Int)<=281474976710656:=by rw[Nat.mul_comm]at hbound;omega
   rw[Int.natCast_mul]at this;rwa[show ((len.toNat:Nat):Int)=len by omega]at this
  exact run_make w t e ia z f.und f'.info_ ql k k len len h0 (Int.le_refl _) oo (by omega)
 have ig:σ (kR nr)=none:=hf.nr nr (Pbj _) (by unfold bO;omega);have kx:∀ r,(σ (kR r)).isSome->r≠nr:=fun r hr e=>by rw[e,ig]at hr;cases hr
 have k7:∀ b,G.own b≠.frz->b<w.heap.size:=fun b hb=>by
  rcases Pbo b w.heap.size with h|h
  ·exact h
  ·exact absurd (hR.frame.fresh b h) hb
 refine lN bd ⟨{ G with own:=fun b=>if b=w.heap.size then .slc nr [] else G.own b,hdr:=fun r=>if r=nr then .slice (some ⟨w.heap.size,0,none⟩) len.toNat len.toNat else G.hdr r },?_⟩;refine hR.own hd (wr:=fun _=>False) (f:=fun s p=>.slc s p) ?_ ?_ ?_ ?_ ?_ (fun b aq _=>kC (by omega)) (fun _ h=>h.elim) (fun _ _ _ _ _=>rfl) ?_ (fun _ _ _ _ _ s p q h=>by injection h with h1 h2;exact⟨h1,h2⟩) ?_ rfl ?_ ?_
 ·intro k c hc
  simp only[Ob3,Pbl]at hc;exact⟨nr,hc.1⟩
 ·intro b aq
  show (if b=w.heap.size then Ow.slc nr [] else _)=_
  rw[if_neg (by omega)];cases hb:G.own b<;>rfl
 ·intro b hb
  rw[jS]at hb;show (if b=w.heap.size then Ow.slc nr [] else G.own b)=.frz
  rw[if_neg (by omega)];exact hR.frame.fresh b (by omega)
 ·exact⟨rfl,rfl,rfl,by rw[jS];omega⟩
 ·intro b hb
  show (if b=w.heap.size then Ow.slc nr [] else G.own b)=.frz\/∃ r p,(if b=w.heap.size then Ow.slc nr [] else G.own b)=.slc r p/\_
  by_cases e:b=w.heap.size
  ·rw[if_pos e];exact .inr ⟨nr,[],rfl,ig⟩
  ·rw[if_neg e];exact .inl (hR.frame.fresh b hb)
 ·intro s c hc _
  simp only[Ob3,Pbl]at hc;obtain⟨e1,rfl⟩:=hc;obtain rfl:=dY e1;exact .inl ⟨ig,_,_,_,_,rfl⟩
 ·intro r hr
  show (if r=nr then _ else _)=_
  rw[if_neg (kx r hr)]
 ·intro _ _
  simp only[bS,aB,if_true];exact⟨trivial,dL _ _ _ (.inr ⟨_,Ob4 _ (Ob3.2 rfl)⟩),rfl⟩
 ·intro _ s c hc _
  simp only[Ob3,Pbl]at hc;obtain⟨e1,rfl⟩:=hc;obtain rfl:=dY e1;refine⟨_,_,_,_,rfl,?_⟩;simp only[bK,if_true];rw[qf,<- gp];have p7:zs.length=ti.size:=by rw[yb,jx]
  have ma:∀ k,k<len.toNat*ti.size->(madeCells z.cells (len.toNat*ia.size))[k]?=z.cells[k % ti.size]?:=by
   intro k hk;unfold madeCells;rw[Aba _ (by omega) _ _ (by rw[<- f'.size];exact hk),yt]
  have ko:∀ i row,(Pbp len.toNat zs)[i]?=some row->∀ j d,row[j]?=some d->i<len.toNat/\row=zs/\j<ti.size/\i*ti.size+j<len.toNat*ti.size/\(i*ti.size+j) % ti.size=j:=by
   intro i row hi j d hj;rw[List.getElem?_replicate]at hi;split at hi
   case isFalse=>cases hi
   rename_i nF;obtain rfl:=Pbu hi;have lz:j<ti.size:=by rw[<- p7];exact (Ob2.1 hj).1
   have:=Nat.mul_le_mul_right ti.size (show i+1<=len.toNat by omega);rw[Nat.add_mul]at this;exact⟨nF,rfl,lz,by omega,by rw[Nat.mul_comm,Nat.mul_add_mod,Nat.mod_eq_of_lt lz]⟩
  refine .sl _ ⟨w.heap.size,0,none⟩ len.toNat len.toNat zs.length _ (fun i j=>z.cells[j]!) (by simp) (Pbj _) (.inl rfl) (fun row hr=>?_) (fun _=>⟨rfl,by simp,fun k hk=>?_⟩) (fun i row hi j d hj=>?_) (fun i row hi j d hj=>?_)
  ·rw[List.eq_of_mem_replicate hr]
  ·rw[p7]at hk
   rw[mG,tK,ma k hk];have hk2:k % ti.size<z.cells.size:=by rw[yt];exact Nat.mod_lt _ dm
   exact⟨_,Pb0 hk2,rfl⟩
  ·obtain⟨i1,rfl,i3,i4,i5⟩:=ko i row hi j d hj
   rw[mG,p7,ma _ i4,i5,getElem!_pos z.cells j (by omega),Pb0]
  ·obtain⟨i1,rfl,i3,i4,i5⟩:=ko i row hi j d hj
   have ic:ti.cells[j]?=some ti.cells[j]:=Ob5 (by omega);exact xj j _ d ic hj _ (zh j _ _ (by rw[getElem!_pos z.cells j (by omega),Pb0]) ic) _ _ _ _
theorem Nay (hR:R E.ntmps F σ ρ a w G)(hd:eO E.ntmps o)(hti:sM P E.ti){nv:Nat}{args:Array Operand}{argTypes:Array TypeId}(ho:o.op=.call { callee:=.builtin .clear,args,argTypes })
  {x:Operand} (dj:args.toList=[x]) {t e:TypeId} {ti ei:TI} (ht:argTypes[0]?=some t) (hi:E.ti t=some ti) (he:ti.elem=some e) (xm:E.ti e=some ei) (fp:(noG g&&Nat.beq argTypes.size 1)=true) {l:aM} (hl:(rdL E g t x).eval σ=some l) {res:bI}
  (h:(Nap nv o ei l).eval σ=some res) (ba:aJ cf ρ g nv res.lets):gD P E F σ ρ a w g o Q res.upd:=by
 simp only[Obz,Pbq]at fp;obtain rfl:=tQ fp.1
 have kb:argTypes=#[t]:=by
  apply Sbc;apply Rbp;intro k
  match k with
  |0=>simpa using ht
  |k+1=>simp[fp.2]
 simp only[Nap,aA,Oby]at h;obtain⟨s,h1,h⟩:=h;split at h
 case h_2=>cases h
 rename_i r k m sz lo a7;simp only[aA,aH,Oby,aP,Ob6]at h;obtain⟨_,h2,h⟩:=h;split at h2
 case isFalse=>cases h2
 rename_i hb;simp only[Obz,Pbq,Qba]at hb;obtain⟨⟨rfl,a5a⟩,nh⟩:=hb;split at h
 case h_2=>cases h
 rename_i X m' aE hk;simp only[aF,Ob0]at h;subst h;refine⟨fun hg=>?_,fun hg=>by simp[gOn]at hg⟩;obtain⟨i1,u1,f1⟩:=aV (hti.ok _ _ hi);obtain rfl:=nT f1 he;obtain⟨i2,u2,f2⟩:=aV (hti.ok _ _ xm);have vz:=eU hR hg hl;have gj:=dI hR h1 vz;have mS:=gj.own;unfold sD at mS;rw[a7]at mS;obtain⟨-,⟨X0,lO⟩,hsuf⟩:=mS;rw[hk]at lO
 obtain⟨rfl,rfl,rfl⟩:X=X0/\m'=m/\aE=k:=by
  injection lO with e;injection e with e1 e2 e3 e4;exact⟨e1,e2,e3⟩
 have e9:=hR.root hk;simp only[bK]at e9;obtain⟨d,gp,qf⟩:=fF ba hg;simp only[Pbn,Pbx]at gp
 obtain⟨rs,ki,L,eX,eL,hL0,ed⟩:∃ rs ki L,X.val ρ=.rows 1 rs/\lo.val ρ=.int ki L/\0<=L/\d=.rows 1 (rs.take L.toNat++(rs.drop L.toNat).map fun r=>r.map fun _=>.hole):=by
  cases eX:X.val ρ<;>cases eL:lo.val ρ<;>rw[eX,eL]at gp<;>simp only[aY.run]at gp<;>first|cases gp|skip
  split at gp
  ·rename_i hc
   obtain⟨rfl,hc⟩:=hc;simp only[Ob0,Qbf,and_true]at gp;exact⟨_,_,_,rfl,rfl,hc,gp.symm⟩
  ·cases gp
 have ko:jT ρ lo=L.toNat:=by unfold jT;rw[eL]
 dsimp only at hsuf;rw[ko]at hsuf;rw[eX]at e9;obtain⟨md,rfl⟩:∃ md,m'=md+1:=⟨m'-1,by omega⟩;obtain⟨A,b,n,c,vs,j1,j2,j3,j4,j5,j6,j7,j8⟩:=e9.sl_inv;obtain⟨A',n',c',k1,k2,k3⟩:=hsuf;rw[j1]at k1;obtain⟨rfl,rfl,rfl⟩:A=A'/\n=n'/\c=c':=by injection k1 with a b c;exact⟨a,b,c⟩
 obtain⟨z,ql,p4,zh,-⟩:=f2.zeros (σ:=σ) (ρ:=ρ) (G:=G) (w:=w);have yb:z.cells.size=1:=by rw[<- Rbd,p4.len,Pbt,f2.len,a5a]
 generalize hZ:(Builtin.zeroCells z.cells (n-L.toNat)).toList=Z;have hZl:Z.length=n-L.toNat:=by rw[<- hZ];simp[Builtin.zeroCells,yb]
 have hZ1:∀ u∈Z,u.oneCell'=true:=by
  intro u hu;rw[<- hZ,Builtin.zeroCells,Array.mem_toList_iff,Array.mem_map]at hu;obtain⟨i,hi,rfl⟩:=hu;have aq:i % z.cells.size<z.cells.size:=Nat.mod_lt _ (by omega);rw[getElem!_pos z.cells _ aq];exact zh _ (Array.getElem_mem_toList aq)
 have ju:∀ {v:Value} {w1:World},(Builtin.clear_ #[t] o.type #[a.eval x]).run P w=.ok v w1->(execOp a.eval o).run P w=.ok (.value v) w1:=by
  intro v w1 h;refine kQ ho (s:=Builtin.clear_ argTypes o.type (args.map a.eval)) (fun _=>rfl) ?_;rw[Jay dj,Oaf,kb];exact h
 rw[k3]at ju
 obtain⟨w',bd,hw⟩:∃ w',(execOp a.eval o).run P w=.ok (.value (.tuple #[])) w'/\((n=L.toNat/\w'=w)\/(L.toNat<n/\A=some b/\w'=w.setCells b.block (b.off+L.toNat) Z)):=by
  rcases Pbo L.toNat n with aq|mf
  ·obtain rfl:A=some b:=by
    rcases j4 with h|⟨-,h⟩
    ·exact h
    ·omega
   obtain⟨iq,oz,cE⟩:=j6 rfl
   have cJ:∀ j,j<Z.length->∃ u,w.cell? ⟨b.block,b.off+L.toNat+j,none⟩=some u/\w.frozen? ⟨b.block,b.off+L.toNat+j,none⟩=false:=fun j hj=>by
    have:=cE (L.toNat+j) (by omega);rw[add_plain iq,<- Pbm]at this;exact this
   have ba:=run_storeCells_cells (P:=P) b.block (b.off+L.toNat) Z 0 w (fun j hj=>by obtain⟨u,h1,-⟩:=cJ j hj;rw[Pby,h1];rfl) (fun j hj=>by rw[Pby];exact (cJ j hj).choose_spec.2) hZ1;refine⟨_,ju ?_,.inr ⟨aq,rfl,rfl⟩⟩;obtain⟨q,hq⟩:∃ q,n-L.toNat=q+1:=⟨n-L.toNat-1,by omega⟩;rw[if_neg (by omega),hq];rw[hq]at hZ;simp only[Option.map_some,Nat.mul_one,add_plain iq];simp only[Pby]at ba;simp[Builtin.clear_,run_underlying f1.und,jZ f2.info_ ql,hZ,ba]
  ·refine⟨w,ju ?_,.inl ⟨by omega,rfl⟩⟩
   have e0:n-L.toNat=0:=by omega
   rw[e0];simp only[Builtin.clear_];cases (if c=L.toNat then A else A.map (·.add (L.toNat*1)))<;>simp[run_underlying f1.und]
 have qT:w'.os=w.os/\w'.tape=w.tape/\w'.output=w.output/\w.heap.size<=w'.heap.size:=by
  rcases hw with ⟨-,rfl⟩|⟨-,-,rfl⟩
  ·exact⟨rfl,rfl,rfl,Pbj _⟩
  ·obtain⟨q1,q2,q3⟩:=jY b.block Z (b.off+L.toNat) w
   exact⟨q1,q2,q3,by rw[setCells_size];exact Pbj _⟩
 have rS:w'.heap.size=w.heap.size:=by
  rcases hw with ⟨-,rfl⟩|⟨-,-,rfl⟩
  ·rfl
  ·rw[setCells_size]
 have b8:∀ b',¬ (A=some b/\b'=b.block)->w'.heap[b']?=w.heap[b']?:=by
  intro b' cI
  rcases hw with ⟨-,rfl⟩|⟨-,hA,rfl⟩
  ·rfl
  ·exact dH _ _ _ _ _ fun e=>cI ⟨hA,e⟩
 refine lN bd ⟨G,?_⟩
 have gr:=hR.own (o:=o) hd (g:=none) (sv:=.dead) (v:=.tuple #[]) (w':=w') (G':=G) (ur:=[(kR r,.root (.v nv) (md+1) (aE+1) .live)]) (f:=fun s p=>.slc s p) (wr:=fun b'=>A=some b/\b'=b.block)
  ?_ (fun b' _=>by cases hb:G.own b'<;>rfl) (fun b' hb=>hR.frame.fresh b' (by omega)) qT (fun b' hb=>.inl (hR.frame.fresh b' hb)) (fun b' _ hb=>b8 b' hb) ?_ (fun _ _ _ _ _=>rfl) ?_ (fun _ _ _ _ _ s p q h=>by injection h with h1 h2;exact⟨h1,h2⟩) (fun _ _=>rfl) rfl (fun _ _=>trivial) ?_
 ·exact gr
 ·intro k' c' hc
  exact⟨r,(Qb9 (Ob3.1 hc)).1⟩
 ·rintro b' ⟨hA,rfl⟩
  exact⟨r,[],(j6 hA).2.1,_,Ob3.2 rfl⟩
 ·intro s' c' hc _
  obtain⟨e1,rfl⟩:=Qb9 (Ob3.1 hc);obtain rfl:=dY e1;exact .inr (.inl ⟨_,_,_,_,_,hk,rfl⟩)
 ·intro _ s' c' hc _
  obtain⟨e1,rfl⟩:=Qb9 (Ob3.1 hc);obtain rfl:=dY e1;refine⟨_,_,_,_,rfl,?_⟩;simp only[bK];rw[qf,ed,j1]
  have gy:∀ k u,w.cell? (b.add k)=some u->A=some b->(k<L.toNat->w'.cell? (b.add k)=some u)/\(∃ u',w'.cell? (b.add k)=some u')/\w'.frozen? (b.add k)=w.frozen? (b.add k):=by
   intro k u hc hA;obtain⟨iq,oz,cE⟩:=j6 hA
   rcases hw with ⟨-,rfl⟩|⟨aq,-,rfl⟩
   ·exact⟨fun _=>hc,⟨u,hc⟩,rfl⟩
   ·refine⟨fun hk=>?_,?_,World.frozen?_setCells _ _ _ _ _⟩
    ·rw[add_plain iq]at hc ⊢
     rw[World.cell?_setCells_out _ _ _ _ _ (fun _ _=>.inl (by dsimp only;omega))];exact hc
    ·exact lT (fun _=>by rw[add_plain iq]) (fun j hj=>by
      obtain⟨u',h1,-⟩:=cE (L.toNat+j) (by omega);rw[add_plain iq,<- Pbm]at h1;rw[h1];rfl) hc
  have vw:∀ i,i<n->A=some b:=fun i hi=>by
   rcases j4 with h|⟨-,h⟩
   ·exact h
   ·omega
  have gR:∀ i row,(rs.take L.toNat++(rs.drop L.toNat).map fun r=>r.map fun _=>D.hole)[i]?=some row->(i<L.toNat/\rs[i]?=some row)\/(L.toNat<=i/\∃ row0,rs[i]?=some row0/\row=row0.map fun _=>D.hole):=by
   intro i row hi;have oq:(rs.take L.toNat).length=L.toNat:=by rw[Qbs];omega
   rcases Pbo i L.toNat with aq|mf
   ·rw[Pbi (by omega),List.getElem?_take,if_pos aq]at hi
    exact .inl ⟨aq,hi⟩
   ·rw[Pbk (by omega),oq,Pbr,Pbc]at hi
    obtain⟨row0,h1,rfl⟩:=hi;rw[List.getElem?_drop,show L.toNat+(i-L.toNat)=i by omega]at h1;exact .inr ⟨mf,row0,h1,rfl⟩
  refine .sl A b n c 1 _ (fun i j=>if i<L.toNat then vs i j else (w'.cell? (b.add (i*1+j))).getD undef) ?_ j3 j4 ?_ (fun hA=>?_) (fun i row hi j d hj=>?_) (fun i row hi j d hj=>?_)
  ·rw[Pbg,Qbs,Pbt,List.length_drop];omega
  ·intro row hr
   obtain⟨i,hi⟩:=Qbl.1 hr
   rcases gR i row hi with ⟨-,h⟩|⟨-,row0,h,rfl⟩
   ·exact j5 row (Pbh h)
   ·rw[Pbt];exact j5 row0 (Pbh h)
  ·obtain⟨iq,oz,cE⟩:=j6 hA
   refine⟨iq,oz,fun k hk=>?_⟩;obtain⟨u,hu,hf⟩:=cE k hk;obtain⟨-,⟨u',h1⟩,h2⟩:=gy k u hu hA;exact⟨u',h1,h2.trans hf⟩
  ·rcases gR i row hi with ⟨aq,h⟩|⟨mf,row0,h,rfl⟩
   ·rw[if_pos aq]
    have lz:j<1:=by rw[<- j5 row (Pbh h)];exact (Ob2.1 hj).1
    exact (gy _ _ (j7 i row h j d hj) (vw i (by rw[<- j2];exact (Ob2.1 h).1))).1 (by omega)
   ·rw[if_neg (by omega)]
    rw[Pbr,Pbc]at hj;obtain⟨d0,hj,-⟩:=hj;obtain⟨-,⟨u',h1⟩,-⟩:=gy _ _ (j7 i row0 h j d0 hj) (vw i (by rw[<- j2];exact (Ob2.1 h).1));rw[h1];rfl
  ·rcases gR i row hi with ⟨aq,h⟩|⟨mf,row0,h,rfl⟩
   ·rw[if_pos aq]
    have h1:=j8 i row h j d hj;have:=h1.mono' (own':=G.own) (w':=w') (r':=s') (q:=[i*1+j]) (q':=[i*1+j]) (fun b' hb _=>⟨hb,b8 b' fun ⟨hA,e⟩=>by rw[e,(j6 hA).2.1]at hb;cases hb⟩) [] (by simp) (fun b' t' hb=>⟨hb,b8 b' fun ⟨hA,e⟩=>by rw[e,(j6 hA).2.1]at hb;injection hb with _ hb;simp at hb⟩);simpa using this
   ·rw[if_neg (by omega)]
    rw[Pbr,Pbc]at hj;obtain⟨d0,hj,rfl⟩:=hj;refine .hole _ ?_;have nF:i<n:=by rw[<- j2];exact (Ob2.1 h).1
    have hA:=vw i nF
    rcases hw with ⟨hn,-⟩|⟨aq,-,rfl⟩
    ·omega
    ·obtain⟨iq,oz,cE⟩:=j6 hA
     have lz:j<1:=by rw[<- j5 row0 (Pbh h)];exact (Ob2.1 hj).1
     have xk:i-L.toNat<Z.length:=by omega
     have:=World.cell?_setCells_in b.block Z (b.off+L.toNat) w (fun j hj=>by obtain⟨u,h1,-⟩:=cE (L.toNat+j) (by omega);rw[add_plain iq,<- Pbm]at h1;rw[h1];rfl) (i-L.toNat) xk;rw[show b.off+L.toNat+(i-L.toNat)=b.off+(i*1+j) by omega]at this;rw[add_plain iq,this];exact hZ1 _ (List.getElem_mem xk)
end
section
variable {P:Program} {E:Env} {F:bC} {n:Nat} {σ:Nat->Option aN} {ρ:List D} {a:Act} {w w':World} {G G':Gh} {g:Option (aI×Bool)} {o:Oper} {cf:Nat->List D->Option (List D)} {Q:Exit->Act->World->Prop} {next:Act->World->Prop}
theorem Eab (hR:R E.ntmps F σ ρ a w G)(hti:sM P E.ti){nv nb nr:Nat}{mv cN:Bool}{t:TypeId}{x y:Operand}(ho:o.op=.store t x y){res:bI}
  (h:(nL E mv cN nv nb nr g o).eval σ=some res) (ba:aJ cf ρ g nv res.lets):gD P E F σ ρ a w g o Q res.upd:=by
 simp only[nL,ho,aA,Oby,tiR,aT]at h;obtain⟨ti,h1,p,h2,sv,h3,h⟩:=h;split at h
 case h_2=>cases h
 rename_i ls qw;have hx:gOn ρ g=true->aB σ ρ G w p (a.eval x):=fun hg=>eU hR hg h2
 have hy:gOn ρ g=true->bS σ ρ G w sv (a.eval y):=fun hg=>fI hR hg h3
 cases p with
 |px b off=>exact Gab hR hti ho h1 hx hy qw h
 |pe l sz i off=>exact Gac hR hti ho h1 hx hy qw h ba
 | _ =>
  simp only[Aaz,aA,aH,Oby,bJ]at h;obtain⟨_,_,h⟩:=h;cases h
theorem Dab (hR:R E.ntmps F σ ρ a w G)(hd:eO E.ntmps o)(hti:sM P E.ti){nv nb nr:Nat}{mv cN:Bool}(hf:Aas σ nb nr){res:bI}
  (h:(nL E mv cN nv nb nr g o).eval σ=some res) (ba:aJ cf ρ g nv res.lets)
  (ie:∀ f args argTypes,o.op=.call { callee:=.value f,args,argTypes }->gD P E F σ ρ a w g o Q res.upd):gD P E F σ ρ a w g o Q res.upd:=by
 have h0:=h
 cases ho:o.op with
 | move x =>
  simp only[nL,ho]at h;exact Ga2 hR hd (.inl ho) h ba
 | assign x =>
  simp only[nL,ho]at h;exact Ga2 hR hd (.inr ho) h ba
 | pick c x y =>
  simp only[nL,ho]at h;exact Rah hR hd ho h ba
 |alloc e=>exact Na0 hR hd hti hf ho h ba
 |box e x=>exact Tap hR hd hti hf ho h ba
 |build t parts=>exact Naz hR hd hti ho h ba
 |buildSlice t len parts=>exact rU hR hd hti (hf.nr nr (Pbj _) (by unfold bO;omega)) ho h ba
 | load t x =>
  simp only[nL,ho,aA,Oby,tiR,aT]at h;obtain⟨ti,h1,p,h2,h⟩:=h;exact Rai hR hd hti ho h1 (fun hg=>eU hR hg h2) h ba
 |store t x y=>exact Eab hR hti ho h ba
 | nilCheck x =>
  simp only[nL,ho]at h;exact Gad hR hd ho h ba
 | binOp op t x y ty =>
  by_cases h1:op=.eql
  ·subst h1
   simp only[nL,ho]at h;exact Pam hR hd hti ho rfl h ba
  ·by_cases h2:op=.neq
   ·subst h2
    simp only[nL,ho]at h;exact Pam hR hd hti ho rfl h ba
   ·have h':(do
      let a <- rdA E g t x
      let b <- rdA E g ty y
      qG o g nv (.bin op) [a,b]:RdM bI).eval σ=some res:=by
     simp only[nL,ho]at h;cases op<;>first|exact h|(exact absurd rfl h1)|(exact absurd rfl h2)
    simp only[aA,Oby]at h';obtain⟨x',h3,y',h4,h5⟩:=h';exact Kaw hR hd ho (fun hg=>iN hR hg h3) (fun hg=>iN hR hg h4) h5 ba
 | unOp op t x =>
  simp only[nL,ho]at h;exact Xa6 hR hd ho h ba
 | convert src dst x =>
  simp only[nL,ho,aA,Oby,tiR,aT]at h;obtain⟨s,h1,d,h2,h⟩:=h;split at h
  ·rename_i k hk
   simp only[aA,Oby,aH]at h;obtain⟨_,h3,x',h4,h⟩:=h;split at h3
   case isFalse=>cases h3
   rename_i hs;exact Raj hR hd hti ho h1 hs h2 hk h4 h ba
  ·rw[gG]at h
   split at h
   case isFalse=>cases h
   rename_i y5;rw[gG]at h;split at h
   ·rename_i hsS
    simp only[aA,Oby]at h;obtain⟨x',h4,h⟩:=h;exact Kau hR hd hti ho h1 hsS h2 y5 h4 h ba
   ·simp only[aA,Oby,aH,aT]at h
    obtain⟨e,h3,ei,h4,_,h5,l,h6,r,h7,h⟩:=h;split at h5
    case isFalse=>cases h5
    rename_i hk;exact Rak hR hd hti ho h1 h3 h4 hk h2 y5 h6 h7 h ba
 | makeFunc fn first eN =>
  cases fn with
  | func fn =>
   simp only[nL,ho]at h;exact Gae hR hd ho h ba
  |_=>simp only[nL,ho]at h;cases h
 |makeSlice t l c=>exact Eac hR hd hti hf ho h ba
 |slice t x lo hi mx=>exact Nav hR hd hti ho h ba
 | fieldAddr t x k =>
  simp only[nL,ho,aA,Oby,tiR,aT]at h;obtain⟨ti,h1,h⟩:=h;split at h
  case h_2=>cases h
  rename_i off ft fX;simp only[aA,Oby,aH,aT]at h;obtain⟨fi,h2,_,h3,p,h4,h⟩:=h;split at h3
  case isFalse=>cases h3
  rename_i lP;exact Eae hR hd hti ho h1 fX h2 (by simpa using lP) (by simp only[aA,Oby];exact⟨p,h4,h⟩) ba
 | field t x k =>
  simp only[nL,ho,aA,Oby,tiR,aT]at h;obtain⟨ti,h1,h⟩:=h;split at h
  case h_2=>cases h
  rename_i off ft fX;simp only[aA,Oby,aT]at h;obtain⟨fi,h2,sv,h3,h⟩:=h;exact Nax hR hd hti ho h1 fX h2 (by simp only[aA,Oby];exact⟨sv,h3,h⟩) ba
 | indexAddr t x i =>
  simp only[nL,ho,aA,Oby,tiR,aT]at h;obtain⟨ti,h1,e,h2,ei,h3,l,h4,s,h5,y,h6,u,h7,h⟩:=h;exact Ead hR hd hti ho h1 h2 h3 (by simp only[aA,Oby];exact⟨l,h4,s,h5,y,h6,u,h7,h⟩) ba
 | index t x i =>
  simp only[nL,ho,aA,Oby,tiR,aT]at h;obtain⟨ti,h1,h⟩:=h;exact Naw hR hd hti ho h1 (by simp only[aA,Oby];exact h) ba
 | extract x i =>
  simp only[nL,ho]at h;exact Iao hR hd ho h ba
 | call c =>
  obtain⟨callee,args,argTypes⟩:=c
  cases callee with
  |value f=>exact ie f args argTypes ho
  |invoke recv name=>simp only[nL,ho]at h;cases h
  | builtin b =>
   simp only[nL,ho]at h
   cases dj:args.toList with
   | nil =>
    rw[dj]at h;cases b<;>first|(cases h;done)|skip
    all_goals
     simp only[aA,Oby,aT]at h;obtain⟨og,h1,as,h2,h⟩:=h;obtain⟨ls,h3,h4⟩:=h2
     first
     |exact gU hR hd (.inl ⟨rfl,rfl,rfl⟩) ho (by rw[dj];exact h1) h3 h4 h ba
     |exact gU hR hd (.inr ⟨rfl,rfl,rfl⟩) ho (by rw[dj];exact h1) h3 h4 h ba
   | cons x xs =>
    rw[dj]at h
    cases xs with
    | nil =>
     cases b<;>first|(cases h;done)|skip
     ·simp only[aA,Oby,aT,tiR,aH]at h
      obtain⟨t,h1,ti,h2,e,h3,ei,h4,_,h5,l,h6,h⟩:=h;split at h5
      case isFalse=>cases h5
      rename_i fp;exact Nay hR hd hti ho dj h1 h2 h3 h4 fp h6 h ba
     ·simp only[aA,Oby,aT,tiR]at h
      obtain⟨t,h1,ti,h2,h⟩:=h;exact Tao hR hd hti ho dj h1 h2 (by simp only[aA,Oby];exact h) ba
     all_goals
      simp only[aA,Oby,aT]at h;obtain⟨og,h1,as,h2,h⟩:=h;obtain⟨ls,h3,h4⟩:=h2
      first
      |exact gU hR hd (.inl ⟨rfl,rfl,rfl⟩) ho (by rw[dj];exact h1) h3 h4 h ba
      |exact gU hR hd (.inr ⟨rfl,rfl,rfl⟩) ho (by rw[dj];exact h1) h3 h4 h ba
    | cons y ys =>
     cases ys with
     | nil =>
      cases b<;>first|(cases h;done)|skip
      ·simp only[aA,Oby,aT,tiR,aH]at h
       obtain⟨t,h1,ty,h2,ti,h3,e,h4,ei,h5,yi,h6,_,h7,lx,h8,ly,h9,h⟩:=h;split at h7
       case isFalse=>cases h7
       rename_i fp;exact Kax hR hd hti hf ho dj h1 h2 h3 h4 h5 h6 fp h8 h9 h ba
      all_goals
       simp only[aA,Oby,aT]at h;obtain⟨og,h1,as,h2,h⟩:=h;obtain⟨ls,h3,h4⟩:=h2
       first
       |exact gU hR hd (.inl ⟨rfl,rfl,rfl⟩) ho (by rw[dj];exact h1) h3 h4 h ba
       |exact gU hR hd (.inr ⟨rfl,rfl,rfl⟩) ho (by rw[dj];exact h1) h3 h4 h ba
     | cons z zs =>
      cases b<;>first|(cases h;done)|skip
      all_goals
       simp only[aA,Oby,aT]at h;obtain⟨og,h1,as,h2,h⟩:=h;obtain⟨ls,h3,h4⟩:=h2
       first
       |exact gU hR hd (.inl ⟨rfl,rfl,rfl⟩) ho (by rw[dj];exact h1) h3 h4 h ba
       |exact gU hR hd (.inr ⟨rfl,rfl,rfl⟩) ho (by rw[dj];exact h1) h3 h4 h ba
 |_=>simp only[nL,ho]at h;cases h
end
theorem Tr.get_set {α:Type}:∀ (d:Nat) (t:Tr α) (n m:Nat) (x:Option α),(Tr.set d t n x).get m=if m=n then x else t.get m
 | 0, t, n, m, x => by
  simp only[Tr.set,Tr.get];by_cases h:m=n
  ·subst h;simp
  ·have:Nat.beq m n=false:=by
    cases e:Nat.beq m n with
    |false=>rfl
    |true=>simp only[Pbq]at e;exact absurd e h
   rw[this,cond_false,if_neg h]
 | d + 1, .over k y t, n, m, x => by
  simp only[Tr.set];by_cases h:m=n
  ·subst h;simp[Tr.get]
  ·have:Nat.beq m n=false:=by
    cases e:Nat.beq m n with
    |false=>rfl
    |true=>simp only[Pbq]at e;exact absurd e h
   rw[if_neg h];show (bif Nat.beq m n then x else _)=_
   rw[this,cond_false]
 | d + 1, .nil, n, m, x => by
  have ih:=fun t n m=>Tr.get_set (α:=α) d t n m x
  simp only[Tr.set];have b0:∀ k,Nat.beq k 0=decide (k=0):=fun k=>by cases k<;>simp[Nat.beq]
  have b1:∀ k,Nat.beq (k % 2) 1=decide (k % 2=1):=fun k=>by
   rcases Nat.mod_two_eq_zero_or_one k with h|h<;>rw[h]<;>rfl
  rw[b0,b1];by_cases h0:n=0
  ·simp only[h0,decide_true,cond_true,Tr.get]
   rw[b0,b1];by_cases hm:m=0
   ·simp[hm]
   ·simp[hm,Tr.get]
  ·by_cases h1:n % 2=1
   ·simp only[h0,decide_false,cond_false,h1,decide_true,cond_true,Tr.get]
    rw[b0,b1];by_cases hm:m=0
    ·subst hm;simp[Ne.symm h0]
    ·by_cases nh:m % 2=1
     ·simp only[hm,decide_false,cond_false,nh,decide_true,cond_true,ih,Tr.get]
      by_cases e:m=n
      ·rw[if_pos e,if_pos (by rw[e])]
      ·rw[if_neg e,if_neg (by omega)]
     ·have e:m≠n:=fun e=>nh (e▸h1)
      simp[hm,nh,e,Tr.get]
   ·simp only[h0,decide_false,cond_false,h1,Tr.get]
    rw[b0,b1];by_cases hm:m=0
    ·subst hm;simp[Ne.symm h0]
    ·by_cases nh:m % 2=1
     ·have e:m≠n:=fun e=>h1 (e▸nh)
      simp[hm,nh,e,Tr.get]
     ·simp only[hm,decide_false,cond_false,nh,ih,Tr.get]
      by_cases e:m=n
      ·rw[if_pos e,if_pos (by rw[e])]
      ·rw[if_neg e,if_neg (by omega)]
 | d + 1, .node y l r, n, m, x => by
  have ih:=fun t n m=>Tr.get_set (α:=α) d t n m x
  simp only[Tr.set];have b0:∀ k,Nat.beq k 0=decide (k=0):=fun k=>by cases k<;>simp[Nat.beq]
  have b1:∀ k,Nat.beq (k % 2) 1=decide (k % 2=1):=fun k=>by
   rcases Nat.mod_two_eq_zero_or_one k with h|h<;>rw[h]<;>rfl
  rw[b0,b1];by_cases h0:n=0
  ·simp only[h0,decide_true,cond_true,Tr.get]
   rw[b0,b1];by_cases hm:m=0
   ·simp[hm]
   ·simp[hm,Tr.get]
  ·by_cases h1:n % 2=1
   ·simp only[h0,decide_false,cond_false,h1,decide_true,cond_true,Tr.get]
    rw[b0,b1];by_cases hm:m=0
    ·subst hm;simp[Ne.symm h0]
    ·by_cases nh:m % 2=1
     ·simp only[hm,decide_false,cond_false,nh,decide_true,cond_true,ih,Tr.get]
      by_cases e:m=n
      ·rw[if_pos e,if_pos (by rw[e])]
      ·rw[if_neg e,if_neg (by omega)]
     ·have e:m≠n:=fun e=>nh (e▸h1)
      simp[hm,nh,e,Tr.get]
   ·simp only[h0,decide_false,cond_false,h1,Tr.get]
    rw[b0,b1];by_cases hm:m=0
    ·subst hm;simp[Ne.symm h0]
    ·by_cases nh:m % 2=1
     ·have e:m≠n:=fun e=>h1 (e▸nh)
      simp[hm,nh,e,Tr.get]
     ·simp only[hm,decide_false,cond_false,nh,ih,Tr.get]
      by_cases e:m=n
      ·rw[if_pos e,if_pos (by rw[e])]
      ·rw[if_neg e,if_neg (by omega)]
section
variable {P:Program} {E:Env} {F:bC} {n:Nat} {σ:Nat->Option aN} {ρ:List D} {a:Act} {w w':World} {G G':Gh} {g:Option (aI×Bool)} {o:Oper}
def Dbb:Value->Option Bool
 |.bool b=>some b
 |_=>none
theorem Qah {x:aI}{want:Bool}{v:Value}(h:Sc v (x.val ρ)\/(v=undef/\x.val ρ=.undef)):gOn ρ (some (x,want))=(Dbb v==some want):=by
 have key:∀ d:D,x.val ρ=d->gOn ρ (some (x,want))=(match d with|.bool b=>b==want|_=>false):=by
  intro d hd;simp only[gOn,hd];cases d<;>rfl
 rcases h with h|⟨rfl,h⟩
 ·rw[key _ rfl]
  generalize x.val ρ=d at h
  cases h with
  |int k n=>rfl
  |bool b=>cases b<;>cases want<;>rfl
  |str l=>rfl
 ·rw[key _ h]
  rfl
theorem Na8 (hR:R E.ntmps F σ ρ a w G){ops:Array Oper}(hd:∀ o∈ops.toList,eO E.ntmps o)(h:(Iau ops.toList o).eval σ=some g):Region.wanted o (yielded ops a.tmps)=gOn ρ g:=by
 unfold Iau at h;unfold Region.wanted;split at h
 ·rename_i ho
  simp only[aF,Ob0]at h;subst h;simp[ho,gOn]
 ·rename_i j want ho
  simp only[ho];split at h
  ·rename_i d hj
   have hdn:d<E.ntmps:=by
    cases hoj:ops.toList[j]? with
    |none=>rw[hoj]at hj;cases hj
    | some oj =>
     rw[hoj,Ob6]at hj;exact hd oj (Pbh hoj) d hj
   have hy:yielded ops a.tmps j=Dbb (yA E.ntmps a F.gh d):=by
    unfold yielded yA;have:(ops[j]?).bind (·.dst)=some d:=by rw[<- hj,Array.getElem?_toList]
    rw[this,Ob6,if_pos hdn];have aq:d<a.tmps.size:=by rw[hR.tmps];exact hdn
    rw[Pb0 aq,Array.getD_eq_getD_getElem?,Pb0 aq,Option.getD_some];cases a.tmps[d]<;>rfl
   rw[hy];simp only[Vam]at h;split at h
   ·rename_i x hk
    simp only[aF,Ob0]at h;subst h;have:=hR.slot hk rfl;simp only[bS,aB]at this;exact (Qah (.inl this)).symm
   ·rename_i g' x hk
    simp only[aF,Ob0]at h;subst h;have:=hR.slot hk rfl;simp only[bS,aB]at this;exact (Qah this.1).symm
   ·cases h
  ·cases h
end
theorem oH {n:Nat}{ρ ext:List D}{x:aI}(h:aX n x=true)(hn:n<=ρ.length):x.val (ρ++ext)=x.val ρ:=by
 refine aI.val_append (n:=n) ?_
 cases x with
 | v i =>
  simp only[aX,Pb2]at h;simp only[aI.ok];omega
 |c d=>trivial
theorem Fa0 {n:Nat}{ρ ext:List D}{xs:List aI}(h:xs.all (aX n)=true)(hn:n<=ρ.length):xs.map (·.val (ρ++ext))=xs.map (·.val ρ):=by
 apply Rb9;intro x hx;rw[Pbv]at h;exact oH (h x hx) hn
theorem vS {n:Nat}{ρ ext:List D}{g:Option (aI×Bool)}(h:mX n g=true)(hn:n<=ρ.length):gOn (ρ++ext) g=gOn ρ g:=by
 cases g with
 |none=>rfl
 | some z =>
  obtain⟨x,w⟩:=z;simp only[mX]at h;simp only[gOn,oH h hn]
theorem Aap {ρ ds ext:List D}{j:Nat}{d:D}(h:ds[j]?=some d):(aI.v (ρ.length+j)).val (ρ++ds++ext)=d:=by
 have aq:=(Ob2.1 h).1;simp only[aI.val,List.getD_eq_getElem?_getD];rw[Pbd,Pbk (by omega),Pbi (by omega),Pb1,h];rfl
theorem uG {n m:Nat}{g:Option (aI×Bool)}(h:mX n g=true)(hm:n<=m):mX m g=true:=by
 cases g with
 |none=>rfl
 | some z =>
  obtain⟨x,w⟩:=z
  cases x with
  |v i=>simp only[mX,aX,Pb2]at h ⊢;omega
  |c d=>rfl
section
variable {cf:Nat->List D->Option (List D)}
noncomputable def Ec {β:Type}(cf:Nat->List D->Option (List D))(t:Tm β)(ρ:List D):Option (Out β):=lim fun n=>runT cf n t ρ
noncomputable def Lc {β:Type}(cf:Nat->List D->Option (List D))(body:Tm β)(ρ vs:List D):Option (Out β):=lim fun n=>iter n (fun vs=>runT cf n body (ρ++vs)) vs
theorem Cb2 {β:Type}(t:Tm β)(ρ:List D):Nae fun n=>runT cf n t ρ:=fun n _ h=>Eal (fun f _ _ h=>h) (Rbo n) t _ _ h
theorem Jbu {β:Type}(body:Tm β)(ρ vs:List D):Nae fun n=>iter n (fun vs=>runT cf n body (ρ++vs)) vs :=
 fun n _ h=>lC (fun vs r hr=>Cb2 body _ n r hr) (Rbo n) _ _ h
theorem Fa6 {β:Type}{t:Tm β}{ρ:List D}{o:Out β}:Ec cf t ρ=some o↔∃ n,runT cf n t ρ=some o:=fK (Cb2 t ρ)
theorem fD {β:Type}(k:Kind)(xs:List aI)(e:β)(ρ:List D):Ec cf (.leaf k xs e) ρ=some ⟨k,xs,e,ρ⟩:=fM _
theorem iM {β:Type}(ρ:List D):Ec cf (.stuck:Tm β) ρ=none:=fM _
theorem Ja3 {β:Type}(g:Option (aI×Bool))(p:aY)(xs:List aI)(n:Nat)(k:Tm β)(ρ:List D) :
  Ec cf (.lt g p xs n k) ρ=if gOn ρ g then (p.run (xs.map (·.val ρ))).bind fun ds=>if ds.length=n then Ec cf k (ρ++ds) else none
   else Ec cf k (ρ++Pbp n .undef):=by
 unfold Ec;simp only[runT];split
 ·cases p.run (xs.map (·.val ρ)) with
  |none=>exact fM _
  | some ds =>
   simp only[Ob6];split
   ·rfl
   ·exact fM _
 ·rfl
theorem rG {β:Type}(g:Option (aI×Bool))(f:Nat)(xs:List aI)(n:Nat)(olds:List aI)(k:Tm β)(ρ:List D) :
  Ec cf (.call g f xs n olds k) ρ=if gOn ρ g then (cf f (xs.map (·.val ρ))).bind fun ds=>if ds.length=n then Ec cf k (ρ++ds) else none
   else Ec cf k (ρ++(Pbp (n-olds.length) .undef++olds.map (·.val ρ))):=by
 unfold Ec;simp only[runT];split
 ·cases cf f (xs.map (·.val ρ)) with
  |none=>exact fM _
  | some ds =>
   simp only[Ob6];split
   ·rfl
   ·exact fM _
 ·rfl
theorem Cau {β:Type}(c:aI)(t e:Tm β)(ρ:List D) :
  Ec cf (.ite c t e) ρ=match c.val ρ with
   |.bool true=>Ec cf t ρ
   |.bool false=>Ec cf e ρ
   |_=>none:=by
 unfold Ec;simp only[runT]
 cases c.val ρ with
 |bool b=>cases b<;>rfl
 |_=>exact fM _
theorem oI {β:Type}(i:Nat)(t k:Tm β)(ρ:List D) :
  Ec cf (.bind i t k) ρ=(Ec cf t ρ).bind fun o=>if o.kind=.yield i then Ec cf k (ρ++o.vals) else some o:=by
 unfold Ec;simp only[runT];rw[Dai (a:=fun n=>runT cf n t ρ) (Cb2 t ρ) (fun o=>by split;exact Cb2 k _;exact fun _ _ h=>h)];congr 1;funext o;split
 ·rfl
 ·exact fM _
theorem Ja4 {β:Type}(init:List aI)(body:Tm β)(ρ:List D):Ec cf (.loop init body) ρ=Lc cf body ρ (init.map (·.val ρ)):=rfl
theorem Wam {β:Type}(body:Tm β)(ρ vs:List D) :
  Lc cf body ρ vs=(Ec cf body (ρ++vs)).bind fun o=>if o.kind=.cont then Lc cf body ρ o.vals else some o:=by
 have hm:∀ vs,Nae fun n=>iter n (fun vs=>runT cf n body (ρ++vs)) vs:=fun vs=>Jbu body ρ vs
 unfold Lc
 have e:∀ vs r,(lim fun n=>iter n (fun vs=>runT cf n body (ρ++vs)) vs)=some r↔((Ec cf body (ρ++vs)).bind fun o=>if o.kind=.cont then (lim fun n=>iter n (fun vs=>runT cf n body (ρ++vs)) o.vals) else some o)=some r:=by
  intro vs r;rw[fK (hm vs)];simp only[Oby];constructor
  ·rintro⟨n,hn⟩
   cases n with
   |zero=>cases hn
   | succ n =>
    simp only[iter,Oby]at hn;obtain⟨o,ho,hr⟩:=hn;refine⟨o,Fa6.2 ⟨n+1,ho⟩,?_⟩;split at hr
    ·rename_i hk
     rw[if_pos hk,fK (hm _)];exact⟨n+1,lC (fun _ _ h=>h) (Rbo n) _ _ hr⟩
    ·rename_i hk
     rw[if_neg hk];exact hr
  ·rintro⟨o,ho,hr⟩
   obtain⟨n,hn⟩:=Fa6.1 ho;split at hr
   ·rename_i hk
    obtain⟨m,nf⟩:=(fK (hm _)).1 hr;refine⟨max n m+1,?_⟩;simp only[iter,Oby];refine⟨o,(Cb2 body (ρ++vs)).le (by omega) hn,?_⟩;rw[if_pos hk];exact lC (fun vs r h=>(Cb2 body (ρ++vs)).le (by omega) h) (by omega) _ _ nf
   ·rename_i hk
    refine⟨n+1,?_⟩;simp only[iter,Oby];exact⟨o,Cb2 body _ _ _ hn,by rw[if_neg hk];exact hr⟩
 exact Option.ext (e vs)
end
section
variable {cf:Nat->List D->Option (List D)}
theorem sQ {g:Option (aI×Bool)}{k:Tm St}:∀ {lets:List Step} {ρ:List D} {o:Out St},mX ρ.length g=true->dR ρ.length lets=true->Ec cf (mJ g k lets) ρ=some o ->
  ∃ ds,ds.length=bD lets/\Ec cf k (ρ++ds)=some o/\∀ ext,aJ cf (ρ++ds++ext) g ρ.length lets
 |[],ρ,o,_,_,h=>⟨[],rfl,by simpa[mJ] using h,fun _=>trivial⟩
 | .prim p xs n :: r, ρ, o, hg, hs, h => by
  simp only[dR,Aa2,Obz]at hs;obtain⟨oY,hs⟩:=hs;simp only[mJ,Ja3]at h
  have main:∀ ds:List D,ds.length=n->Ec cf (mJ g k r) (ρ++ds)=some o->(∀ ext,Qaw cf (ρ++ds++ext) g ρ.length (.prim p xs n)) ->
    ∃ ds,ds.length=bD (.prim p xs n::r)/\Ec cf k (ρ++ds)=some o/\∀ ext,aJ cf (ρ++ds++ext) g ρ.length (.prim p xs n::r):=by
   intro ds hl h1 h2;obtain⟨es,h3,h4,h5⟩:=sQ (lets:=r) (ρ:=ρ++ds) (uG hg (by simp)) (by simp only[Pbg,hl];exact hs) h1;refine⟨ds++es,by rw[gZ];simp[hl,h3,Step.n],by rw[<- Pbd];exact h4,fun ext=>⟨?_,?_⟩⟩
   ·have:=h2 (es++ext)
    simpa[Pbd] using this
   ·have:=h5 ext
    simp only[Pbg,hl]at this;simpa[Pbd,Step.n] using this
  by_cases eI:gOn ρ g=true
  ·rw[if_pos eI]at h
   simp only[Oby]at h;obtain⟨ds,h1,h2⟩:=h;split at h2
   case isFalse=>cases h2
   rename_i hl;refine main ds hl h2 fun ext=>⟨fun _=>⟨ds,?_,hl,fun j d hj=>Aap hj⟩,fun pd=>?_⟩
   ·rw[Pbd,Fa0 oY (Pbj _)];exact h1
   ·rw[Pbd,vS hg (Pbj _),eI]at pd;cases pd
  ·rw[if_neg eI]at h
   refine main (Pbp n .undef) (by simp) h fun ext=>⟨fun zb=>?_,fun _ j hj=>Aap (by simp[hj])⟩
   rw[Pbd,vS hg (Pbj _)]at zb;exact absurd zb eI
 | .call f xs n olds :: r, ρ, o, hg, hs, h => by
  simp only[dR,Aa2,Obz]at hs;obtain⟨⟨⟨oY,hos⟩,hle⟩,hs⟩:=hs;simp only[Qba]at hle;simp only[mJ,rG]at h
  have main:∀ ds:List D,ds.length=n->Ec cf (mJ g k r) (ρ++ds)=some o->(∀ ext,Qaw cf (ρ++ds++ext) g ρ.length (.call f xs n olds)) ->
    ∃ ds,ds.length=bD (.call f xs n olds::r)/\Ec cf k (ρ++ds)=some o/\∀ ext,aJ cf (ρ++ds++ext) g ρ.length (.call f xs n olds::r):=by
   intro ds hl h1 h2;obtain⟨es,h3,h4,h5⟩:=sQ (lets:=r) (ρ:=ρ++ds) (uG hg (by simp)) (by simp only[Pbg,hl];exact hs) h1;refine⟨ds++es,by rw[gZ];simp[hl,h3,Step.n],by rw[<- Pbd];exact h4,fun ext=>⟨?_,?_⟩⟩
   ·have:=h2 (es++ext)
    simpa[Pbd] using this
   ·have:=h5 ext
    simp only[Pbg,hl]at this;simpa[Pbd,Step.n] using this
  by_cases eI:gOn ρ g=true
  ·rw[if_pos eI]at h
   simp only[Oby]at h;obtain⟨ds,h1,h2⟩:=h;split at h2
   case isFalse=>cases h2
   rename_i hl;refine main ds hl h2 fun ext=>⟨fun _=>⟨ds,?_,hl,fun j d hj=>Aap hj⟩,fun pd=>?_⟩
   ·rw[Pbd,Fa0 oY (Pbj _)];exact h1
   ·rw[Pbd,vS hg (Pbj _),eI]at pd;cases pd
  ·rw[if_neg eI]at h
   refine main _ (by simp;omega) h fun ext=>⟨fun zb=>?_,fun _ j d hd=>?_⟩
   ·rw[Pbd,vS hg (Pbj _)]at zb
    exact absurd zb eI
   ·rw[Pbd,Fa0 hos (Pbj _)]at hd
    exact Aap hd
end
theorem oJ:∀ (u:List (Nat×aN)) (f g:Nat->Option aN) (k:Nat),f k=g k->upds f u k=upds g u k
 |[],f,g,k,h=>h
 | (k', c) :: r, f, g, k, h => by
  refine oJ r _ _ k ?_;unfold Paq;split
  ·rfl
  ·exact h
theorem Iax:∀ (u:List (Nat×aN)) (s:St) (k:Nat),(s.puts u).tr.get k=upds s.tr.get u k
 |[],s,k=>rfl
 | (k', c) :: r, s, k => by
  rw[St.puts,Iax r _ k,upds];refine oJ r _ _ k ?_;simp only[St.put,Tr.get_set,Paq]
theorem iE:∀ (u:List (Nat×aN)) (s:St),(s.puts u).nv=s.nv/\(s.puts u).nb=s.nb/\(s.puts u).nr=s.nr/\(s.puts u).nt=s.nt
 |[],s=>⟨rfl,rfl,rfl,rfl⟩
 |(k',c)::r,s=>by rw[St.puts];exact iE r _
theorem Ca6:∀ (u:List (Nat×aN)) (f g:Nat->Option aN) (k:Nat),(∃ c,(k,c)∈u)->upds f u k=upds g u k
 |[],f,g,k,h=>by obtain⟨c,hc⟩:=h;simp at hc
 | (k', c) :: r, f, g, k, h => by
  by_cases hk:k=k'
  ·exact oJ r _ _ k (by unfold Paq;rw[if_pos hk,if_pos hk])
  ·refine Ca6 r _ _ k ?_
   obtain⟨c',ic⟩:=h
   rcases Ob8.1 ic with h1|h1
   ·exact absurd (Qb9 h1).1 hk
   ·exact⟨c',h1⟩
theorem vT {t:Tr aN}:∀ {n r:Nat},lM t r n=true->∀ j,r<=j->j<r+n->t.get (kR j)=none
 |0,r,_,j,h1,h2=>by omega
 | n + 1, r, h, j, h1, h2 => by
  simp only[lM,Obz,Rbf]at h;by_cases e:j=r
  ·rw[e];exact h.1
  ·exact vT h.2 j (by omega) (by omega)
theorem Nah:∀ (u:List (Nat×aN)) (n:Nat),n<=Cb5 u n
 |[],n=>Pbj _
 | x :: r, n => by
  refine Nat.le_trans ?_ (Nah r _)
  cases h:(Nat.beq (x.1 % 3) 2&&Nat.ble n (x.1 / 3)) with
  |false=>exact Pbj _
  |true=>simp only[Obz,Qba]at h;rw[cond_true];omega
theorem Oa8:∀ {u:List (Nat×aN)} {n:Nat} {x:Nat×aN},x∈u->x.1 % 3=2->x.1 / 3<Cb5 u n
 | y :: r, n, x, hx, h2 => by
  rcases Ob8.1 hx with rfl|hx
  ·refine Nat.lt_of_lt_of_le ?_ (Nah r _)
   have e:Nat.beq (x.1 % 3) 2=true:=by rw[h2];rfl
   rw[e,Bool.true_and]
   cases h:Nat.ble n (x.1 / 3) with
   |true=>rw[cond_true];omega
   | false =>
    rw[cond_false];exact Nat.lt_of_not_le fun e=>by rw[<- Qba,h]at e;cases e
  ·exact Oa8 (u:=r) hx h2
theorem Tad:∀ {u:List (Nat×aN)} {n m:Nat},n<=m->(∀ x∈u,x.1 % 3=2->x.1 / 3<m)->Cb5 u n<=m
 |[],n,m,h,_=>h
 | y :: r, n, m, h, hu => by
  show Cb5 r (bif Nat.beq (y.1 % 3) 2&&Nat.ble n (y.1 / 3) then y.1 / 3+1 else n)<=m
  refine Tad (u:=r) ?_ fun x hx=>hu x (Pbb _ hx)
  cases hc:(Nat.beq (y.1 % 3) 2&&Nat.ble n (y.1 / 3)) with
  |false=>exact h
  | true =>
   simp only[Obz,Pbq]at hc;rw[cond_true];exact hu y Pbf hc.1
theorem Uav {n nb nr:Nat}{u:List (Nat×aN)}(hk:u.all (fun x=>wE n nb nr x.1)=true)(draw:Bool):nr<=Oa1 draw nr u/\Oa1 draw nr u<=nr+bO/\∀ x∈u,x.1 % 3=2->x.1 / 3<Oa1 draw nr u:=by
 have hb:∀ x∈u,x.1 % 3=2->x.1 / 3<nr+bO:=by
  intro x hx h2;rw[Pbv]at hk;have:=hk _ hx;unfold wE at this;rw[h2]at this;simpa using this
 cases draw with
 |true=>exact⟨Rb2 ..,Pbj _,hb⟩
 |false=>exact⟨Nah _ _,Tad (Rb2 ..) hb,fun x hx h2=>Oa8 hx h2⟩
theorem Yal {s:St}{g:Option (aI×Bool)}{r:bI}{n:Nat}(h:Yam s g r=true)(hn:n<=s.nt)(hk:r.upd.all (fun x=>wE n s.nb s.nr x.1)=true)(draw:Bool)(nv:Nat)(k:Nat) :
  ({ (s.puts r.upd) with nv:=nv,nb:=s.nb+1,nr:=Oa1 draw s.nr r.upd }:St).get k=upds s.get r.upd k:=by
 obtain⟨t1,t2,t3⟩:=Uav hk draw;generalize Oa1 draw s.nr r.upd=fk at t1 t2 t3 ⊢;simp only[Yam,Obz,Rbf]at h;obtain⟨⟨⟨⟨h1,h2⟩,-⟩,-⟩,-⟩:=h
 have e:({ (s.puts r.upd) with nv:=nv,nb:=s.nb+1,nr:=fk }:St).get k=bif sJ s.nt (s.nb+1) fk k then upds s.tr.get r.upd k else none:=by
  unfold St.get;dsimp only;rw[Iax,(iE r.upd s).2.2.2]
 rw[e];by_cases hm:∃ c,(k,c)∈r.upd
 ·obtain⟨c,hc⟩:=hm
  have gE:sJ s.nt (s.nb+1) fk k=true:=by
   rw[Pbv]at hk;have:=hk _ hc;unfold wE at this;unfold sJ;dsimp only at this
   cases b0:Nat.beq (k % 3) 0 with
   |true=>rw[b0,cond_true]at this;rw[cond_true];simp only[Pb2]at this ⊢;omega
   | false =>
    rw[b0,cond_false]at this;rw[cond_false]
    cases b1:Nat.beq (k % 3) 1 with
    |true=>rw[b1,cond_true]at this;rw[cond_true];simp only[Qba]at this;simp only[Pb2];omega
    | false =>
     rw[cond_false,Pb2];have n0:k % 3≠0:=fun e=>by rw[e]at b0;cases b0
     have n1:k % 3≠1:=fun e=>by rw[e]at b1;cases b1
     exact t3 _ hc (by dsimp only;omega)
  rw[gE,cond_true];exact Ca6 _ _ _ _ ⟨c,hc⟩
 ·have lk:∀ c,(k,c)∉r.upd:=fun c hc=>hm ⟨c,hc⟩
  rw[dW _ _ _ lk,dW _ _ _ lk];unfold St.get
  cases ho:sJ s.nt s.nb s.nr k with
  | true =>
   have:sJ s.nt (s.nb+1) fk k=true:=by
    unfold sJ at ho ⊢
    cases b0:Nat.beq (k % 3) 0 with
    |true=>rw[b0]at ho;exact ho
    | false =>
     rw[b0,cond_false]at ho;rw[cond_false]
     cases b1:Nat.beq (k % 3) 1 with
     |true=>rw[b1,cond_true]at ho;rw[cond_true];simp only[Pb2]at ho ⊢;omega
     |false=>rw[b1,cond_false]at ho;rw[cond_false];simp only[Pb2]at ho ⊢;omega
   rw[this]
  | false =>
   rw[cond_false]
   cases hw:sJ s.nt (s.nb+1) fk k with
   |false=>rfl
   | true =>
    rw[cond_true];unfold sJ at ho hw
    cases b0:Nat.beq (k % 3) 0 with
    |true=>rw[b0,cond_true]at ho hw;rw[ho]at hw;cases hw
    | false =>
     rw[b0,cond_false]at ho hw;have n0:k % 3≠0:=fun e=>by rw[e]at b0;cases b0
     cases b1:Nat.beq (k % 3) 1 with
     | true =>
      rw[b1,cond_true]at ho hw;simp only[Pbq]at b1;simp only[Pb2]at hw;have qt:¬ k / 3<s.nb:=fun e=>by rw[<- Pb2,ho]at e;cases e
      have:k=kB s.nb:=by unfold kB;omega
      rw[this];exact h1
     | false =>
      rw[b1,cond_false]at ho hw;have n1:k % 3≠1:=fun e=>by rw[e]at b1;cases b1
      simp only[Pb2]at hw;have qt:¬ k / 3<s.nr:=fun e=>by rw[<- Pb2,ho]at e;cases e
      have:k=kR (k / 3):=by unfold kR;omega
      rw[this];exact vT h2 _ (by omega) (by omega)
theorem Maa {s:St}:Aas s.get s.nb s.nr:=by
 refine⟨?_,fun j h1 h2=>?_⟩
 ·unfold St.get sJ kB
  have e:(3*s.nb+1) % 3=1:=by omega
  have e2:(3*s.nb+1) / 3=s.nb:=by omega
  rw[e,e2]
  have:Qbg s.nb s.nb=false:=by
   cases hb:Qbg s.nb s.nb with
   |false=>rfl
   |true=>simp at hb
  rw[this];rfl
 ·unfold St.get sJ kR
  have e:(3*j+2) % 3=2:=by omega
  have e2:(3*j+2) / 3=j:=by omega
  rw[e,e2]
  have:Qbg j s.nr=false:=by
   cases hb:Qbg j s.nr with
   |false=>rfl
   |true=>simp only[Pb2]at hb;omega
  rw[this];rfl
theorem Oa7 (t:Tr aN)(lo:Nat):∀ n,Kac t lo n<=lo+n
 |0=>Pbj _
 | n + 1 => by
  unfold Kac
  cases (t.get (kR (lo+n))).isNone with
  |true=>rw[cond_true];have:=Oa7 t lo n;omega
  |false=>rw[cond_false];omega
theorem Gat (t:Tr aN)(lo:Nat):∀ n j,Kac t lo n<=j->j<lo+n->t.get (kR j)=none
 |0,j,h1,h2=>by unfold Kac at h1;omega
 | n + 1, j, h1, h2 => by
  unfold Kac at h1
  cases h:(t.get (kR (lo+n))).isNone with
  | true =>
   rw[h,cond_true]at h1;by_cases e:j=lo+n
   ·rw[e];simpa using h
   ·exact Gat t lo n j h1 (by omega)
  |false=>rw[h,cond_false]at h1;omega
theorem Kab {draw:Bool}{lo:Nat}{s:St}:(trimS draw lo s).get=s.get:=by
 unfold trimS
 cases hd:(draw&&Nat.ble lo s.nr) with
 |false=>rfl
 | true =>
  simp only[Obz,Qba]at hd;rw[cond_true];funext k;have h1:=Oa7 s.tr lo (s.nr-lo);have h2:=Gat s.tr lo (s.nr-lo);generalize Kac s.tr lo (s.nr-lo)=m at h1 h2;unfold St.get;dsimp only;unfold sJ
  cases b0:Nat.beq (k % 3) 0 with
  |true=>rfl
  | false =>
   rw[cond_false,cond_false]
   cases b1:Nat.beq (k % 3) 1 with
   |true=>rfl
   | false =>
    rw[cond_false,cond_false];have n0:k % 3≠0:=fun e=>by rw[e]at b0;cases b0
    have n1:k % 3≠1:=fun e=>by rw[e]at b1;cases b1
    have ek:k=kR (k / 3):=by unfold kR;omega
    by_cases ha:k / 3<m
    ·have e1:Qbg (k / 3) m=true:=by simpa using ha
     have e2:Qbg (k / 3) s.nr=true:=by simp only[Pb2];omega
     rw[e1,e2]
    ·have e1:Qbg (k / 3) m=false:=by
      cases e:Qbg (k / 3) m with
      |false=>rfl
      |true=>simp only[Pb2]at e;omega
     rw[e1,cond_false]
     cases e2:Qbg (k / 3) s.nr with
     |false=>rfl
     | true =>
      simp only[Pb2]at e2;rw[cond_true,ek];exact (h2 _ (by omega) (by omega)).symm
theorem vD {draw:Bool}{lo:Nat}{s:St}:(trimS draw lo s).nv=s.nv/\(trimS draw lo s).nb=s.nb/\(trimS draw lo s).nt=s.nt:=by
 unfold trimS;cases draw&&Nat.ble lo s.nr<;>exact⟨rfl,rfl,rfl⟩
section
variable {P:Program} {E:Env} {F:bC} {n:Nat} {σ:Nat->Option aN} {ρ:List D} {a:Act} {w w':World} {G G':Gh} {g:Option (aI×Bool)} {o:Oper} {cf:Nat->List D->Option (List D)} {Q:Exit->Act->World->Prop}
theorem Har:∀ (u:List (Nat×aN)) (σ:Nat->Option aN) (k:Nat),upds σ u k=match Ra5 u k with
  |some c=>some c
  |none=>σ k
 |[],_,_=>rfl
 | (k', c) :: r, σ, k => by
  show upds (Paq σ k' c) r k=_
  rw[Har r];simp only[Ra5]
  cases Ra5 r k with
  |some d=>rfl
  | none =>
   dsimp only;unfold Paq;by_cases e:k=k'
   ·subst e
    rw[if_pos rfl];simp
   ·rw[if_neg e]
    have:Nat.beq k' k=false:=by
     cases h:Nat.beq k' k with
     |false=>rfl
     |true=>exact absurd (Nat.eq_of_beq_eq_true h).symm e
    rw[this];rfl
theorem Mak {α:Type}(u:List (Nat×aN))(m:RdM α)(σ:Nat->Option aN):(m.over u).eval σ=m.eval (upds σ u):=by
 induction m with
 |ret a=>rfl
 |no=>rfl
 | rd k f ih =>
  show ((RdM.rd k f).over u).eval σ=(f (upds σ u k)).eval (upds σ u)
  unfold RdM.over;rw[Har u σ k]
  cases Ra5 u k with
  |some c=>exact ih _
  |none=>exact ih _
theorem xB:∀ (u v:List (Nat×aN)) (σ:Nat->Option aN),upds σ (u++v)=upds (upds σ u) v
 |[],_,_=>rfl
 |(k,c)::r,v,σ=>xB r v (Paq σ k c)
def wK (r nr:Nat)(pv:List Nat)(M mr:Nat)(s:Nat)(p:List Nat):Ow :=
 if s=r then (if pv <+: p then vX nr M (p.drop pv.length) else vX r mr p) else .slc s p
theorem Yai {t:Nat}{a:Act}{o:Oper}(h:o.dst=some t):a.put o.dst (a.tmps.getD t undef)=a:=by
 unfold Act.put;rw[h];dsimp only
 have:a.tmps.setIfInBounds t (a.tmps.getD t undef)=a.tmps:=by
  apply Array.ext_getElem?;intro j;rw[Array.getElem?_setIfInBounds];split
  ·rename_i e
   subst e;split
   ·rename_i aq
    exact (Pb0 aq).symm
   ·rename_i aq
    rw[Array.getElem?_eq_none (by omega)]
  ·rfl
 rw[this]
theorem Kaq (hR:R E.ntmps F σ ρ a w G){nv nr t:Nat}(kx:σ (kR nr)=none){l:List Step}{u:List (Nat×aN)}(h:(Ga1 E nv nr t).eval σ=some (some (l,u)))(ba:aJ cf ρ none nv l) :
  ∃ G',R E.ntmps F (upds σ u) ρ a w G':=by
 simp only[Ga1,aA,Oby,aP,Ob6]at h;split at h
 case h_2=>simp only[aF,Ob0]at h;cases h
 rename_i deps p ps nie x ke;simp only[aA,Oby]at h;obtain⟨s,h1,h⟩:=h;split at h
 case h_2=>simp only[aF,Ob0]at h;cases h
 rename_i r k m q qs a7;rw[gG]at h;split at h
 case isFalse=>simp only[aF,Ob0]at h;cases h
 rename_i hb;simp only[Obz,Qba,Pb2]at hb;obtain⟨hqm,htn⟩:=hb;simp only[aA,Oby,aP,Ob6]at h;split at h
 case h_2=>simp only[aF,Ob0]at h;cases h
 rename_i X m' aE hk;simp only[aF,Ob0,Pbl]at h;obtain⟨rfl,rfl⟩:=h;have gg:=hR.slot ke (g:=none) rfl;simp only[bS]at gg;have gj:=dI hR h1 gg;have mS:=gj.own;unfold sD at mS;rw[a7]at mS;obtain⟨-,⟨X0,lO⟩,-,fa,kg⟩:=mS;rw[hk]at lO
 obtain⟨rfl,rfl,rfl⟩:X=X0/\m'=m/\aE=k:=by
  injection lO with e;injection e with e1 e2 e3 e4;exact⟨e1,e2,e3⟩
 have e9:=hR.root hk;simp only[bK]at e9;have mm:=zF (g:=none) rfl (q::qs) nv X (.c .hole) ba;have tk:(aZ ρ (q::qs)).length=qs.length+1:=by simp[aZ]
 generalize ym:aZ ρ (q::qs)=pv at mm fa kg tk;rw[show (q::qs).length=qs.length+1 from rfl]at fa;have htv:yA E.ntmps a F.gh t=a.tmps.getD t undef:=if_pos htn;generalize hv:yA E.ntmps a F.gh t=v at gg fa kg htv;obtain⟨o',qt⟩:∃ o':Oper,o'.dst=some t:=⟨{ (default:Oper) with dst:=some t },rfl⟩;have a3x:r≠nr:=fun e=>by rw[e,kx]at hk;cases hk
 have hdr:∀ r,(σ (kR r)).isSome->r≠nr:=fun r hr e=>by rw[e,kx]at hr;cases hr
 have k7:∀ b,G.own b≠.frz->b<w.heap.size:=fun b hb=>by
  rcases Pbo b w.heap.size with h|h
  ·exact h
  ·exact absurd (hR.frame.fresh b h) hb
 have hFr:∀ p,wK r nr pv (m'-(qs.length+1)) m' r p=if pv <+: p then vX nr (m'-(qs.length+1)) (p.drop pv.length) else vX r m' p:=fun p=>by unfold wK;rw[if_pos rfl]
 have p7:∀ b,G.own b=.frz->b<w.heap.size->kZ (wK r nr pv (m'-(qs.length+1)) m') (G.own b)=.frz/\w.heap[b]?=w.heap[b]?:=fun b hb _=>⟨by rw[hb];rfl,rfl⟩
 have gr:=hR.own (o:=o') (g:=none) (fun d e=>by rw[qt]at e;cases e;exact htn) (sv:=.one (.ex nr)) (v:=v) (w':=w)
  (G':={ G with own:=fun b=>kZ (wK r nr pv (m'-(qs.length+1)) m') (G.own b),hdr:=fun s=>if s=nr then v else G.hdr s }) (wr:=fun _=>False)
  (ur:=[(kR nr,.root s.x (m'-(qs.length+1)) 0 .live),(kR r,.root (Ia3 nv X (q::qs) (.c .hole)).2 m' (aE+1) .live)])
  (f:=wK r nr pv (m'-(qs.length+1)) m') ?_ (fun b _=>rfl) ?_ ⟨rfl,rfl,rfl,Pbj _⟩ ?_ (fun _ _ _=>rfl) (fun _ h=>h.elim) ?_ ?_ ?_ ?_ rfl ?_ ?_
 ·have e1:dF o' none (.one (.ex nr))=[(kT t,.slot none (.one (.ex nr)))]:=by unfold dF;rw[qt]
  have e2:a.put o'.dst v=a:=by rw[htv];exact Yai qt
  rw[e1,e2]at gr;exact⟨_,gr⟩
 ·intro k c hc
  rcases Ob8.1 hc with hc|hc
  ·exact⟨nr,(Qb9 hc).1⟩
  ·exact⟨r,(Qb9 (Ob3.1 hc)).1⟩
 ·intro b hb
  show kZ _ (G.own b)=.frz
  rw[hR.frame.fresh b hb];rfl
 ·intro b hb
  refine .inl ?_;show kZ _ (G.own b)=.frz
  rw[hR.frame.fresh b hb];rfl
 ·intro b s' p' hb gm
  have:s'≠r:=fun e=>gm (.root (Ia3 nv X (q::qs) (.c .hole)).2 m' (aE+1) .live) (by rw[e];simp)
  unfold wK;rw[if_neg this]
 ·intro s' c hc _
  rcases Ob8.1 hc with hc|hc
  ·obtain⟨e1,e2⟩:=Qb9 hc
   rw[dY e1,e2];exact .inl ⟨kx,_,_,_,_,rfl⟩
  ·obtain⟨e1,e2⟩:=Qb9 (Ob3.1 hc)
   rw[dY e1,e2];exact .inr (.inl ⟨_,_,_,_,_,hk,rfl⟩)
 ·intro r0 x0 m0 k0 lB s' p' q' hF
  have xi:r0≠r:=fun e=>by
   rw[e,hk]at lB
   injection lB with e;injection e with _ _ _ e;cases e
  have ov:r0≠nr:=hdr r0 (by rw[lB];rfl);unfold wK at hF;split at hF
  ·rename_i e
   split at hF
   ·unfold vX at hF
    split at hF
    ·injection hF with j1 j2;exact absurd j1.symm ov
    ·cases hF
   ·unfold vX at hF
    split at hF
    ·injection hF with j1 j2;exact absurd j1.symm xi
    ·cases hF
  ·injection hF with j1 j2;exact⟨j1,j2⟩
 ·intro s' jf
  show (if s'=nr then _ else _)=_
  rw[if_neg (hdr s' jf)]
 ·intro _ _
  simp only[bS,aB];exact⟨by simp,dL _ _ _ (.inr ⟨_,Ob4 _ Pbf⟩),fa.one⟩
 ·intro dq s' c hc _
  rcases Ob8.1 hc with hc|hc
  ·obtain⟨e1,rfl⟩:=Qb9 hc
   obtain rfl:=dY e1;refine⟨_,_,_,_,rfl,?_⟩;simp only[bK,if_true];refine fa.move p7 [] _ (Pbj _) fun b t' hb=>⟨?_,rfl⟩
   show kZ _ (G.own b)=_
   rw[hb];show wK _ _ _ _ _ _ _=_
   rw[hFr,if_pos (List.prefix_append _ _),List.drop_left];rfl
  ·obtain⟨e1,rfl⟩:=Qb9 (Ob3.1 hc)
   obtain rfl:=dY e1;refine⟨_,_,_,_,rfl,?_⟩;simp only[bK];rw[if_neg a3x];have:=Rp.upd (own':=fun b=>kZ (wK s' nr pv (m'-(qs.length+1)) m') (G.own b)) (w':=w) (r:=s') (M':=m') (full:=pv) (y:=.hole) (u:=v) p7 (fun b t' hb ht=>⟨?_,rfl⟩) (by omega) (.hole _ fa.one) pv [] m' (G.hdr s') _ _ rfl (Pbj _) (by simpa using e9) kg mm
   ·simpa using this
   ·rw[hb]
    show wK _ _ _ _ _ _ _=_
    rw[hFr,if_neg ht];rfl
theorem Gaz {mv cN:Bool}{nv nb nr:Nat}{c:Call}(h:o.op=.call c):Rab E mv cN nv nb nr g o=nL E mv cN nv nb nr g o:=by
 unfold Rab;have h1:yI (cN&&noG g) o.op=none:=by rw[h];unfold yI;split<;>first|rfl|contradiction
 have h2:Ia9 (cN&&noG g&&!mv) o=none:=by
  unfold Ia9;split
  ·rw[h]
  ·rfl
 rw[h1];dsimp only;rw[h2]
theorem Rae {nv nr t:Nat}(kx:σ (kR (nr+1))=none){l:List Step}{u:List (Nat×aN)}(h1:(Ga1 E nv nr t).eval σ=some (some (l,u))):upds σ u (kR (nr+1))=none:=by
 simp only[Ga1,aA,Oby,aP,Ob6]at h1;split at h1
 case h_2=>simp only[aF,Ob0]at h1;cases h1
 simp only[aA,Oby]at h1;obtain⟨s,-,h1⟩:=h1;split at h1
 case h_2=>simp only[aF,Ob0]at h1;cases h1
 rw[gG]at h1;split at h1
 case isFalse=>simp only[aF,Ob0]at h1;cases h1
 simp only[aA,Oby,aP,Ob6]at h1;split at h1
 case h_2=>simp only[aF,Ob0]at h1;cases h1
 rename_i r' _ _ _ _ _ _ _ _ hk;simp only[aF,Ob0,Pbl]at h1;obtain⟨-,rfl⟩:=h1
 cases e:upds σ _ (kR (nr+1)) with
 |none=>rfl
 | some c =>
  exfalso
  rcases nI _ _ _ _ e with h4|⟨-,h4⟩
  ·simp only[Ob8,Pbl,List.not_mem_nil,or_false]at h4
   rcases h4 with ⟨h4,-⟩|⟨h4,-⟩|⟨h4,-⟩
   ·exact iA h4.symm
   ·have:=dY h4;omega
   ·rw[h4,hk]at kx;cases kx
  ·rw[kx]at h4;cases h4
theorem Uan {mv cN:Bool}{nv nb nr:Nat}{ty:TypeId}{x:Operand}(ho:o.op=.load ty x){r:bI}(h:(nL E mv cN nv nb nr none o).eval σ=some r){j:Nat}{c:aN}(hc:(kR j,c)∈r.upd):False:=by
 simp only[nL,ho,aA,Oby,tiR,aT]at h;obtain⟨ti,h1,p,h2,h⟩:=h
 have ke:∀ {g':Option (aI×Bool)} {v:SV},(kR j,c)∈(match o.dst with|some d=>[(kT d,aN.slot g' v)]|none=>[])->False:=by
  intro g' v hm;split at hm
  ·simp only[Ob3,Pbl]at hm
   exact iA hm.1.symm
  ·simp at hm
 have hC:∀ {v:SV},(Uaa o none nv v).eval σ=some r->False:=by
  intro v h;simp only[Uaa,qH,aF,Ob0]at h;subst h;rw[Pbz]at hc;exact ke hc
 unfold Pad at h;split at h
 ·simp only[aA,Oby,aP,Ob6]at h
  split at h
  ·simp only[aA,Oby]at h
   obtain⟨_,-,h⟩:=h;split at h
   ·exact hC h
   ·cases h
  ·cases h
 ·simp only[aA,Oby]at h
  obtain⟨s,-,h⟩:=h;split at h
  ·simp only[qG,aF,Ob0]at h
   subst h;exact ke hc
  ·simp only[qH,aF,Ob0]at h
   subst h;rw[Pbz]at hc;exact ke hc
  ·cases h
 ·cases h
theorem Tan (hR:R E.ntmps F σ ρ a w G)(hd:eO E.ntmps o)(hti:sM P E.ti){nv nb nr:Nat}{mv cN:Bool}(hf:Aas σ nb nr){res:bI}
  (h:(Rab E mv cN nv nb nr g o).eval σ=some res) (ba:aJ cf ρ g nv res.lets)
  (ie:∀ f args argTypes,o.op=.call { callee:=.value f,args,argTypes }->gD P E F σ ρ a w g o Q res.upd):gD P E F σ ρ a w g o Q res.upd:=by
 unfold Rab at h;split at h
 ·split at h
  ·exact Dab hR hd hti hf h ba ie
  ·
   rename_i t xx
   have hb:(cN&&noG g&&!mv)=true:=by
    cases e:(cN&&noG g&&!mv) with
    |true=>rfl
    |false=>rw[e]at xx;cases xx
   simp only[Obz]at hb;obtain rfl:=tQ hb.1.2
   obtain⟨ty,x,ho⟩:∃ ty x,o.op=.load ty x:=by
    unfold Ia9 at xx;split at xx
    ·split at xx
     ·rename_i ho;exact⟨_,_,ho⟩
     ·cases xx
    ·cases xx
   simp only[aA,Oby,Mak]at h;obtain⟨r,h1,y,h2,h⟩:=h
   cases y with
   | none =>
    simp only[aF,Ob0]at h;subst h;exact Dab hR hd hti hf h1 ba ie
   | some lu =>
    obtain⟨l,u⟩:=lu;simp only[aF,Ob0]at h;subst h;obtain⟨nn,l7⟩:=aJ.append ba;have h0:gD P E F σ ρ a w none o Q r.upd:=Dab hR hd hti hf h1 nn fun f args argTypes tq=>by rw[ho]at tq;cases tq
    refine⟨fun hg=>?_,fun hg=>by simp[gOn]at hg⟩;refine Oper.wp_mono (K:=Nx E.ntmps F σ ρ r.upd) (fun a' w' ⟨G',gw⟩=>?_) (h0.1 hg)
    have kx:upds σ r.upd (kR nr)=none:=by
     have lk:=hf.nr nr (Pbj _) (by unfold bO;omega)
     cases e:upds σ r.upd (kR nr) with
     |none=>rfl
     | some c =>
      exfalso
      rcases nI _ _ _ _ e with h4|⟨-,h4⟩
      ·exact Uan ho h1 h4
      ·rw[lk]at h4;cases h4
    obtain⟨G'',rj⟩:=Kaq gw kx h2 l7;exact⟨G'',by rw[xB];exact rj⟩
 ·rename_i t iq
  simp only[aA,Oby]at h;obtain⟨x,h1,h⟩:=h
  have hb:(cN&&noG g)=true:=by
   cases e:(cN&&noG g) with
   |true=>rfl
   |false=>rw[e]at iq;unfold yI at iq;cases iq
  simp only[Obz]at hb;obtain rfl:=tQ hb.2
  cases x with
  |none=>exact Dab hR hd hti hf h ba ie
  | some lu =>
   obtain⟨l,u⟩:=lu;simp only[aA,Oby,Mak,aF,Ob0]at h;obtain⟨r,h2,rfl⟩:=h;obtain⟨nn,l7⟩:=aJ.append ba;obtain⟨G',gw⟩:=Kaq hR (hf.nr nr (Pbj _) (by unfold bO;omega)) h1 nn
   have gr:gD P E F (upds σ u) ρ a w none o Q r.upd:=by
    have rh:upds σ u (kR (nr+1))=none:=Rae (hf.nr (nr+1) (by omega) (by unfold bO;omega)) h1;unfold yI at iq;split at iq
    ·rename_i ho
     exact Eab gw hti ho h2 l7
    ·rename_i ho
     exact rU gw hd hti rh ho h2 l7
    ·cases iq
   refine⟨fun hg=>?_,fun hg=>by simp[gOn]at hg⟩;have e:Nx E.ntmps F σ ρ (u++r.upd)=Nx E.ntmps F (upds σ u) ρ r.upd:=by unfold Nx;rw[xB]
   rw[e];exact gr.1 hg
theorem iX {ops:List Oper}{mv cN:Bool}{nv nb nr:Nat}{res:bI}(h:(jX E ops mv cN nv nb nr o).eval σ=some (g,res)) :
  (Iau ops o).eval σ=some g/\eO E.ntmps o/\(Rab E mv cN nv nb nr g o).eval σ=some res/\res.upd.all (fun x=>wE E.ntmps nb nr x.1)=true:=by
 simp only[jX,aA,Oby,aH,aF,Ob0,Pbl]at h;obtain⟨g',h1,_,h2,res',h3,_,h4,rfl,rfl⟩:=h;refine⟨h1,fun d hd=>?_,h3,?_⟩
 ·rw[hd]at h2
  dsimp only at h2;split at h2
  ·rename_i hb;simpa using hb
  ·cases h2
 ·split at h4
  ·rename_i hb;exact hb
  ·cases h4
def Cb9 (P:Program)(E:Env)(F:bC)(σ:Nat->Option aN)(ρ:List D)(ops:Array Oper)(o:Oper)(Q:Exit->Act->World->Prop)(u:List (Nat×aN))(a:Act)(w:World):Prop :=
 if Region.wanted o (yielded ops a.tmps) then o.wp P a w (Nx E.ntmps F σ ρ u) Q else Nx E.ntmps F σ ρ u (a.put o.dst undef) w
theorem yJ (hR:R E.ntmps F σ ρ a w G)(hti:sM P E.ti){ops:Array Oper}(ni:∀ o∈ops.toList,eO E.ntmps o){mv cN:Bool}{nv nb nr:Nat}(hf:Aas σ nb nr){res:bI}
  (h:(jX E ops.toList mv cN nv nb nr o).eval σ=some (g,res)) (ba:aJ cf ρ g nv res.lets)
  (ie:∀ f args argTypes,o.op=.call { callee:=.value f,args,argTypes }->gD P E F σ ρ a w g o Q res.upd):Cb9 P E F σ ρ ops o Q res.upd a w:=by
 obtain⟨h1,h2,h3,-⟩:=iX h;have hs:=Tan hR h2 hti hf h3 ba ie;unfold Cb9;rw[Na8 hR ni h1];split
 ·rename_i hg;exact hs.1 hg
 ·rename_i hg;exact hs.2 (by simpa using hg)
end
section
variable {cf:Nat->List D->Option (List D)}
theorem Oal {i:Nat}{k:Kind}:Jah i k=true↔k=.yield i:=by
 cases k<;>simp[Jah]
 exact eq_comm
theorem Ra8 {k:Kind}:Qae k=true↔k=.cont:=by cases k<;>simp[Qae]
theorem Wal {β:Type}{body:Tm β}{ρ:List D}{C:List D->Out β->Prop}
  (a05:∀ vs o,Ec cf body (ρ++vs)=some o->o.kind≠.cont->C vs o)
  (eI:∀ vs o o',Ec cf body (ρ++vs)=some o->o.kind=.cont->C o.vals o'->Lc cf body ρ o.vals=some o'->C vs o') :
  ∀ {vs:List D} {o:Out β},Lc cf body ρ vs=some o->C vs o:=by
 intro vs o h;have h':=(fK (Jbu (cf:=cf) body ρ vs)).1 h;obtain⟨n,hn⟩:=h'
 have key:∀ m vs,iter m (fun vs=>runT cf n body (ρ++vs)) vs=some o->C vs o/\Lc cf body ρ vs=some o:=by
  intro m
  induction m with
  |zero=>intro vs h;cases h
  | succ m ih =>
   intro vs h;simp only[iter,Oby]at h;obtain⟨o1,h1,h2⟩:=h;have e1:Ec cf body (ρ++vs)=some o1:=Fa6.2 ⟨n,h1⟩;split at h2
   ·rename_i hk
    obtain⟨h3,h4⟩:=ih _ h2;exact⟨eI vs o1 o e1 hk h3 h4,by rw[Wam,e1,Ob6,if_pos hk];exact h4⟩
   ·rename_i hk
    obtain rfl:=Pbu h2;exact⟨a05 vs o1 e1 hk,by rw[Wam,e1,Ob6,if_neg hk]⟩
 exact (key n vs hn).1
theorem tO {β:Type}{f:Kind->Bool}:∀ {t:Tm β} {ρ:List D} {o:Out β},t.no f=true->Ec cf t ρ=some o->f o.kind=false
 | .leaf k xs e, ρ, o, hn, h => by
  rw[fD]at h;obtain rfl:=Pbu h;simpa[Tm.no] using hn
 |.stuck,ρ,o,hn,h=>by rw[iM]at h;cases h
 | .lt g p xs n k, ρ, o, hn, h => by
  rw[Ja3]at h;split at h
  ·simp only[Oby]at h
   obtain⟨ds,-,h⟩:=h;split at h
   ·exact tO (t:=k) hn h
   ·cases h
  ·exact tO (t:=k) hn h
 | .call g c xs n os k, ρ, o, hn, h => by
  rw[rG]at h;split at h
  ·simp only[Oby]at h
   obtain⟨ds,-,h⟩:=h;split at h
   ·exact tO (t:=k) hn h
   ·cases h
  ·exact tO (t:=k) hn h
 | .ite c t e, ρ, o, hn, h => by
  simp only[Tm.no,Obz]at hn;rw[Cau]at h;split at h
  ·exact tO hn.1 h
  ·exact tO hn.2 h
  ·cases h
 | .bind i t k, ρ, o, hn, h => by
  simp only[Tm.no,Obz]at hn;simp only[oI,Oby]at h;obtain⟨o1,h1,h2⟩:=h;split at h2
  ·exact tO hn.2 h2
  ·obtain rfl:=Pbu h2
   exact tO hn.1 h1
 | .loop init b, ρ, o, hn, h => by
  rw[Ja4]at h;simp only[Tm.no]at hn;exact Wal (C:=fun _ o=>f o.kind=false) (fun vs o h1 _=>tO hn h1) (fun _ _ _ _ _ h3 _=>h3) h
theorem nQ {f:St->Option (Tm St)}:∀ {t t':Tm St} {ρ:List D} {o':Out St},t.graft f=some t'->Ec cf t' ρ=some o' ->
  ∃ o,Ec cf t ρ=some o/\((o.kind=.fall/\∃ r,f o.ext=some r/\Ec cf r o.env=some o')\/(o.kind≠.fall/\o'=o))
 | .leaf k xs s, t', ρ, o', hg, h => by
  cases k with
  |fall=>exact⟨_,fD ..,.inl ⟨rfl,t',hg,h⟩⟩
  | _ =>
   simp only[Tm.graft,Ob0]at hg;subst hg;rw[fD]at h;obtain rfl:=Pbu h;exact⟨_,fD ..,.inr ⟨by simp,rfl⟩⟩
 | .stuck, t', ρ, o', hg, h => by
  simp only[Tm.graft,Ob0]at hg;subst hg;rw[iM]at h;cases h
 | .lt g p xs n k, t', ρ, o', hg, h => by
  simp only[Tm.graft,Pbc]at hg;obtain⟨k',hk,rfl⟩:=hg;rw[Ja3]at h;simp only[Ja3];split at h
  ·rename_i eI
   simp only[Oby]at h;obtain⟨ds,h1,h⟩:=h;split at h
   ·rename_i hl
    obtain⟨o,h2,h3⟩:=nQ hk h;exact⟨o,by rw[if_pos eI,h1,Ob6,if_pos hl];exact h2,h3⟩
   ·cases h
  ·rename_i eI
   obtain⟨o,h2,h3⟩:=nQ hk h;exact⟨o,by rw[if_neg eI];exact h2,h3⟩
 | .call g c xs n os k, t', ρ, o', hg, h => by
  simp only[Tm.graft,Pbc]at hg;obtain⟨k',hk,rfl⟩:=hg;rw[rG]at h;simp only[rG];split at h
  ·rename_i eI
   simp only[Oby]at h;obtain⟨ds,h1,h⟩:=h;split at h
   ·rename_i hl
    obtain⟨o,h2,h3⟩:=nQ hk h;exact⟨o,by rw[if_pos eI,h1,Ob6,if_pos hl];exact h2,h3⟩
   ·cases h
  ·rename_i eI
   obtain⟨o,h2,h3⟩:=nQ hk h;exact⟨o,by rw[if_neg eI];exact h2,h3⟩
 | .ite c t e, t', ρ, o', hg, h => by
  simp only[Tm.graft,Oby,Pbc]at hg;obtain⟨t1,ht,e1,he,rfl⟩:=hg;rw[Cau]at h;simp only[Cau];split at h
  ·exact nQ ht h
  ·exact nQ he h
  ·cases h
 | .bind i t k, t', ρ, o', hg, h => by
  simp only[Tm.graft]at hg
  cases hn:t.no nG with
  |false=>rw[hn]at hg;cases hg
  | true =>
   rw[hn,cond_true,Pbc]at hg;obtain⟨k',hk,rfl⟩:=hg;simp only[oI,Oby]at h;obtain⟨o1,h1,h2⟩:=h;simp only[oI,h1,Ob6];split at h2
   ·rename_i hy
    rw[if_pos hy];exact nQ hk h2
   ·rename_i hy
    rw[if_neg hy];obtain rfl:=Pbu h2;refine⟨o1,rfl,.inr ⟨fun e=>?_,rfl⟩⟩;have:=tO hn h1;rw[e]at this;cases this
 | .loop init b, t', ρ, o', hg, h => by
  simp only[Tm.graft]at hg
  cases hn:b.no nG with
  |false=>rw[hn]at hg;cases hg
  | true =>
   rw[hn,cond_true,Ob0]at hg;subst hg;refine⟨o',h,.inr ⟨fun e=>?_,rfl⟩⟩;have:=tO (t:=.loop init b) (f:=nG) hn h;rw[e]at this;cases this
theorem iQ {id:Nat}:∀ {t t':Tm St} {ρ:List D} {o':Out St},t.exitFall id=some t'->Ec cf t' ρ=some o' ->
  ∃ o,Ec cf t ρ=some o/\((mW id o.kind=true/\o'=⟨.fall,[],o.ext,o.env⟩)\/(mW id o.kind=false/\o'=o))
 | .leaf k xs s, t', ρ, o', hg, h => by
  cases k with
  | exit j =>
   simp only[Tm.exitFall,Ob0]at hg
   cases hb:Nat.beq id j with
   | true =>
    rw[hb,cond_true]at hg;subst hg;rw[fD]at h;obtain rfl:=Pbu h;exact⟨_,fD ..,.inl ⟨by simpa[mW] using hb,rfl⟩⟩
   | false =>
    rw[hb,cond_false]at hg;subst hg;rw[fD]at h;obtain rfl:=Pbu h;exact⟨_,fD ..,.inr ⟨by simpa[mW] using hb,rfl⟩⟩
  | _ =>
   simp only[Tm.exitFall,Ob0]at hg;subst hg;rw[fD]at h;obtain rfl:=Pbu h;exact⟨_,fD ..,.inr ⟨rfl,rfl⟩⟩
 | .stuck, t', ρ, o', hg, h => by
  simp only[Tm.exitFall,Ob0]at hg;subst hg;rw[iM]at h;cases h
 | .lt g p xs n k, t', ρ, o', hg, h => by
  simp only[Tm.exitFall,Pbc]at hg;obtain⟨k',hk,rfl⟩:=hg;rw[Ja3]at h;simp only[Ja3];split at h
  ·rename_i eI
   simp only[Oby]at h;obtain⟨ds,h1,h⟩:=h;split at h
   ·rename_i hl
    obtain⟨o,h2,h3⟩:=iQ hk h;exact⟨o,by rw[if_pos eI,h1,Ob6,if_pos hl];exact h2,h3⟩
   ·cases h
  ·rename_i eI
   obtain⟨o,h2,h3⟩:=iQ hk h;exact⟨o,by rw[if_neg eI];exact h2,h3⟩
 | .call g c xs n os k, t', ρ, o', hg, h => by
  simp only[Tm.exitFall,Pbc]at hg;obtain⟨k',hk,rfl⟩:=hg;rw[rG]at h;simp only[rG];split at h
  ·rename_i eI
   simp only[Oby]at h;obtain⟨ds,h1,h⟩:=h;split at h
   ·rename_i hl
    obtain⟨o,h2,h3⟩:=iQ hk h;exact⟨o,by rw[if_pos eI,h1,Ob6,if_pos hl];exact h2,h3⟩
   ·cases h
  ·rename_i eI
   obtain⟨o,h2,h3⟩:=iQ hk h;exact⟨o,by rw[if_neg eI];exact h2,h3⟩
 | .ite c t e, t', ρ, o', hg, h => by
  simp only[Tm.exitFall,Oby,Pbc]at hg;obtain⟨t1,ht,e1,he,rfl⟩:=hg;rw[Cau]at h;simp only[Cau];split at h
  ·exact iQ ht h
  ·exact iQ he h
  ·cases h
 | .bind i t k, t', ρ, o', hg, h => by
  simp only[Tm.exitFall]at hg
  cases hn:t.no (mW id) with
  |false=>rw[hn]at hg;cases hg
  | true =>
   rw[hn,cond_true,Pbc]at hg;obtain⟨k',hk,rfl⟩:=hg;simp only[oI,Oby]at h;obtain⟨o1,h1,h2⟩:=h;simp only[oI,h1,Ob6];split at h2
   ·rename_i hy
    rw[if_pos hy];exact iQ hk h2
   ·rename_i hy
    rw[if_neg hy];obtain rfl:=Pbu h2;exact⟨o1,rfl,.inr ⟨tO hn h1,rfl⟩⟩
 | .loop init b, t', ρ, o', hg, h => by
  simp only[Tm.exitFall]at hg
  cases hn:b.no (mW id) with
  |false=>rw[hn]at hg;cases hg
  | true =>
   rw[hn,cond_true,Ob0]at hg;subst hg;exact⟨o',h,.inr ⟨tO (t:=.loop init b) (f:=mW id) hn h,rfl⟩⟩
theorem jW {out:Kind}{ij:Kind->Bool}{f:St->Option (Tm St)}(hf:∀ s r,f s=some r->∀ ρ o,Ec cf r ρ=some o->o.kind=out)
  (hc:ij .cont=false) (hy:∀ i,ij (.yield i)=false):∀ {t t':Tm St} {ρ:List D} {o':Out St},t.turn out ij f=some t'->Ec cf t' ρ=some o' ->
  ∃ o,Ec cf t ρ=some o/\((ij o.kind=true/\o'.kind=out/\∃ r,f o.ext=some r/\Ec cf r o.env=some o')\/(ij o.kind=false/\o'=o))
 | .leaf k xs s, t', ρ, o', hg, h => by
  simp only[Tm.turn]at hg
  cases hs:ij k with
  | true =>
   rw[hs,cond_true]at hg;exact⟨_,fD ..,.inl ⟨hs,hf _ _ hg _ _ h,t',hg,h⟩⟩
  | false =>
   rw[hs,cond_false,Ob0]at hg;subst hg;rw[fD]at h;obtain rfl:=Pbu h;exact⟨_,fD ..,.inr ⟨hs,rfl⟩⟩
 | .stuck, t', ρ, o', hg, h => by
  simp only[Tm.turn,Ob0]at hg;subst hg;rw[iM]at h;cases h
 | .lt g p xs n k, t', ρ, o', hg, h => by
  simp only[Tm.turn,Pbc]at hg;obtain⟨k',hk,rfl⟩:=hg;rw[Ja3]at h;simp only[Ja3];split at h
  ·rename_i eI
   simp only[Oby]at h;obtain⟨ds,h1,h⟩:=h;split at h
   ·rename_i hl
    obtain⟨o,h2,h3⟩:=jW hf hc hy hk h;exact⟨o,by rw[if_pos eI,h1,Ob6,if_pos hl];exact h2,h3⟩
   ·cases h
  ·rename_i eI
   obtain⟨o,h2,h3⟩:=jW hf hc hy hk h;exact⟨o,by rw[if_neg eI];exact h2,h3⟩
 | .call g c xs n os k, t', ρ, o', hg, h => by
  simp only[Tm.turn,Pbc]at hg;obtain⟨k',hk,rfl⟩:=hg;rw[rG]at h;simp only[rG];split at h
  ·rename_i eI
   simp only[Oby]at h;obtain⟨ds,h1,h⟩:=h;split at h
   ·rename_i hl
    obtain⟨o,h2,h3⟩:=jW hf hc hy hk h;exact⟨o,by rw[if_pos eI,h1,Ob6,if_pos hl];exact h2,h3⟩
   ·cases h
  ·rename_i eI
   obtain⟨o,h2,h3⟩:=jW hf hc hy hk h;exact⟨o,by rw[if_neg eI];exact h2,h3⟩
 | .ite c t e, t', ρ, o', hg, h => by
  simp only[Tm.turn,Oby,Pbc]at hg;obtain⟨t1,ht,e1,he,rfl⟩:=hg;rw[Cau]at h;simp only[Cau];split at h
  ·exact jW hf hc hy ht h
  ·exact jW hf hc hy he h
  ·cases h
 | .bind i t k, t', ρ, o', hg, h => by
  simp only[Tm.turn]at hg
  cases hiy:Jah i out with
  | true =>
   rw[hiy,cond_true]at hg
   cases hn:t.no ij with
   |false=>rw[hn]at hg;cases hg
   | true =>
    rw[hn,cond_true,Pbc]at hg;obtain⟨k',hk,rfl⟩:=hg;simp only[oI,Oby]at h;obtain⟨o1,h1,h2⟩:=h;simp only[oI,h1,Ob6];split at h2
    ·rename_i uj
     rw[if_pos uj];exact jW hf hc hy hk h2
    ·rename_i uj
     rw[if_neg uj];obtain rfl:=Pbu h2;exact⟨o1,rfl,.inr ⟨tO hn h1,rfl⟩⟩
  | false =>
   rw[hiy,cond_false]at hg;simp only[Oby,Pbc]at hg;obtain⟨t1,ht,k',hk,rfl⟩:=hg;have ct:out≠.yield i:=fun e=>by rw[Oal.2 e]at hiy;cases hiy
   simp only[oI,Oby]at h;obtain⟨o1',h1,h2⟩:=h;obtain⟨o1,h3,h4⟩:=jW hf hc hy ht h1;simp only[oI,h3,Ob6]
   rcases h4 with ⟨h5,h6,h7⟩|⟨h5,h6⟩
   ·rw[if_neg (by rw[h6];exact ct)]at h2
    obtain rfl:=Pbu h2;have:o1.kind≠.yield i:=fun e=>by rw[e,hy]at h5;cases h5
    rw[if_neg this];exact⟨o1,rfl,.inl ⟨h5,h6,h7⟩⟩
   ·subst h6
    split at h2
    ·rename_i uj
     rw[if_pos uj];exact jW hf hc hy hk h2
    ·rename_i uj
     rw[if_neg uj];obtain rfl:=Pbu h2;exact⟨_,rfl,.inr ⟨h5,rfl⟩⟩
 | .loop init b, t', ρ, o', hg, h => by
  simp only[Tm.turn]at hg
  cases hic:Qae out with
  | true =>
   rw[hic,cond_true]at hg
   cases hn:b.no ij with
   |false=>rw[hn]at hg;cases hg
   | true =>
    rw[hn,cond_true,Ob0]at hg;subst hg;exact⟨o',h,.inr ⟨tO (t:=.loop init b) (f:=ij) hn h,rfl⟩⟩
  | false =>
   rw[hic,cond_false,Pbc]at hg;obtain⟨b',hb,rfl⟩:=hg;have ct:out≠.cont:=fun e=>by rw[Ra8.2 e]at hic;cases hic
   rw[Ja4]at h;simp only[Ja4]
   refine Wal (C:=fun vs o'=>∃ o,Lc cf b ρ vs=some o/\((ij o.kind=true/\o'.kind=out/\∃ r,f o.ext=some r/\Ec cf r o.env=some o')\/(ij o.kind=false/\o'=o)))
    (fun vs o1' h1 hk=>?_) (fun vs o1' o2 h1 hk h2 tS=>?_) h
   ·obtain⟨o1,h3,h4⟩:=jW hf hc hy hb h1
    rcases h4 with ⟨h5,h6,h7⟩|⟨h5,h6⟩
    ·have:o1.kind≠.cont:=fun e=>by rw[e,hc]at h5;cases h5
     exact⟨o1,by rw[Wam,h3,Ob6,if_neg this],.inl ⟨h5,h6,h7⟩⟩
    ·subst h6
     exact⟨o1',by rw[Wam,h3,Ob6,if_neg hk],.inr ⟨h5,rfl⟩⟩
   ·obtain⟨o1,h3,h4⟩:=jW hf hc hy hb h1
    rcases h4 with ⟨h5,h6,h7⟩|⟨h5,h6⟩
    ·exact absurd (h6.symm.trans hk) ct
    ·subst h6
     obtain⟨o,h8,h9⟩:=h2;exact⟨o,by rw[Wam,h3,Ob6,if_pos hk];exact h8,h9⟩
end
def wY (σ:Nat->Option aN)(N:Nat):Prop:=∀ k c,σ k=some c->bQ N c=true
def uW (N:Nat)(ρ fw:List D):Prop:=∀ x,aX N x=true->x.val fw=x.val ρ
theorem uW.ext {N:Nat}{ρ:List D}(h:N<=ρ.length)(e:List D):uW N ρ (ρ++e):=fun x hx=>oH hx h
section
variable {n:Nat} {F:bC} {σ:Nat->Option aN} {ρ fw:List D} {a:Act} {w:World} {G:Gh} {N:Nat}
theorem uW.gOn (h:uW N ρ fw){g:Option (aI×Bool)}(hg:mX N g=true):Go.Proofs.YtcbkmmhkccnamaaGreat.Rf.gOn fw g=Go.Proofs.YtcbkmmhkccnamaaGreat.Rf.gOn ρ g:=by
 cases g with
 |none=>rfl
 | some z =>
  obtain⟨x,w⟩:=z;simp only[mX]at hg;simp only[Go.Proofs.YtcbkmmhkccnamaaGreat.Rf.gOn,h x hg]
theorem uW.path (h:uW N ρ fw){p:List (aI×Nat×Nat)}(hp:(p.all fun x=>aX N x.1)=true):aZ fw p=aZ ρ p:=by
 unfold aZ;apply Rb9;intro x hx;rw[Pbv]at hp;unfold jT;rw[h x.1 (hp x hx)]
mutual
theorem aB.same (h:uW N ρ fw):∀ (l:aM) (v:Value),l.inScope N=true->aB σ ρ G w l v->aB σ fw G w l v
 |.dead,_,_,hl=>by simpa[aB] using hl
 | .sc x, v, hs, hl => by
  simp only[aM.inScope]at hs;simp only[aB,h x hs]at hl ⊢;exact hl
 | .su g x, v, hs, hl => by
  simp only[aM.inScope,Obz]at hs;have hg:Go.Proofs.YtcbkmmhkccnamaaGreat.Rf.gOn fw (some g)=Go.Proofs.YtcbkmmhkccnamaaGreat.Rf.gOn ρ (some g):=h.gOn (by obtain⟨y,b⟩:=g;exact hs.2);simp only[aB,h x hs.1,hg]at hl ⊢;exact hl
 |.ex r,v,_,hl=>by simpa[aB] using hl
 | .sn deps p nie x, v, hs, hl => by
  simp only[aM.inScope,Obz]at hs;simp only[aB,h x hs.1]at hl ⊢;refine⟨hl.1,fun hv=>?_⟩;obtain⟨h1,h2,h3⟩:=hl.2 hv;refine⟨h1,h2,?_⟩
  cases p with
  |no=>trivial
  |view=>exact h3
  | suf sz lo =>
   simp only[Aaq,jT]at h3 ⊢;rw[h lo hs.2];exact h3
  | path p =>
   simp only[Aaq]at h3 ⊢;rw[h.path hs.2];exact h3
 |.px b off,v,_,hl=>by simpa[aB] using hl
 | .pe l sz i off, v, hs, hl => by
  simp only[aM.inScope,Obz]at hs;simp only[aB,h i hs.2]at hl ⊢;obtain⟨a,n,c,k,iv,h1,h2⟩:=hl;exact⟨a,n,c,k,iv,aB.same h l _ hs.1 h1,h2⟩
 | .rp deps sz x, v, hs, hl => by
  simp only[aM.inScope]at hs;simp only[aB,h x hs]at hl ⊢;exact hl
 |.pn,v,_,hl=>by simpa[aB] using hl
 | .clo f eN, v, hs, hl => by
  simp only[aM.inScope]at hs;simp only[aB]at hl ⊢;obtain⟨vs,h1,h2⟩:=hl;exact⟨vs,h1,aG.same h eN vs hs h2⟩
theorem aG.same (h:uW N ρ fw):∀ (ls:List aM) (vs:List Value),bB N ls=true->aG σ ρ G w ls vs->aG σ fw G w ls vs
 |[],vs,_,hl=>by simpa[aG] using hl
 | l :: ls, vs, hs, hl => by
  simp only[bB,Obz]at hs;simp only[aG]at hl ⊢;obtain⟨u,us,e,h1,h2⟩:=hl;exact⟨u,us,e,aB.same h l u hs.1 h1,aG.same h ls us hs.2 h2⟩
end
theorem gY.same (h:uW N ρ fw):∀ (ts:List (Bool×List aM)) (us:List Value),(ts.all fun v=>bB N v.2)=true->gY σ ρ G w ts us->gY σ fw G w ts us
 |[],_,_,ht=>ht
 | (a, ls) :: r, us, hs, ht => by
  simp only[List.all_cons,Obz]at hs;obtain⟨u,cD,vs,e,h1,h2,h3⟩:=ht;exact⟨u,cD,vs,e,aG.same h ls vs hs.1 h1,h2,gY.same h r cD hs.2 h3⟩
theorem bS.same (h:uW N ρ fw){v:SV}{u:Value}(hs:vF N v=true)(hv:bS σ ρ G w v u):bS σ fw G w v u:=by
 cases v with
 |dead=>trivial
 |one l=>exact aB.same h l u hs hv
 |agg ls=>obtain⟨vs,e,h1⟩:=hv;exact⟨vs,e,aG.same h ls vs hs h1⟩
 |tup ts=>obtain⟨us,e,h1⟩:=hv;exact⟨us,e,gY.same h ts us hs h1⟩
theorem lG:∀ {ls:List aM} {j:Nat} {l:aM},bB N ls=true->ls[j]?=some l->l.inScope N=true
 |[],j,l,_,h=>by simp at h
 | m :: ls, 0, l, hs, h => by
  simp only[bB,Obz]at hs;simp only[Ob7,Ob0]at h;rw[<- h];exact hs.1
 | m :: ls, j + 1, l, hs, h => by
  simp only[bB,Obz]at hs;exact lG hs.2 (by simpa using h)
theorem R.same (h:R n F σ ρ a w G)(hs:wY σ N)(hv:uW N ρ fw):R n F σ fw a w G:=by
 refine⟨h.tmps,h.defers,fun k c hk=>?_,h.frame,h.rng⟩;have jw:=hs k c hk
 cases c with
 | slot g v =>
  simp only[bQ,Obz]at jw;obtain⟨t,e,h1⟩:=h.cont k _ hk;exact⟨t,e,fun hg=>(h1 (by rw[<- hv.gOn jw.1];exact hg)).same hv jw.2⟩
 | box ro ls =>
  simp only[bQ]at jw;obtain⟨b,e,h1,h2,h3⟩:=h.cont k _ hk;refine⟨b,e,h1,h2,fun j l hj=>?_⟩;obtain⟨v,h4,h5,h6⟩:=h3 j l hj;exact⟨v,h4,h5,aB.same hv l v (lG jw hj) h6⟩
 | root x m aE st =>
  simp only[bQ]at jw;obtain⟨r,e,h0,h1⟩:=h.cont k _ hk;refine⟨r,e,h0,?_⟩
  cases st with
  |live=>simp only[bK]at h1 ⊢;rw[hv x jw];exact h1
  |frozen=>simp only[bK]at h1 ⊢;rw[hv x jw];exact h1
  |gone=>trivial
  |fwd r'=>exact h1
theorem R.ext (h:R n F σ ρ a w G)(hs:wY σ N)(hn:N<=ρ.length)(e:List D):R n F σ (ρ++e) a w G:=h.same hs (.ext hn e)
theorem dA {M:Nat}(h:N<=M){x:aI}(hx:aX N x=true):aX M x=true:=by
 cases x with
 |c d=>rfl
 |v i=>simp only[aX,Pb2]at hx ⊢;omega
theorem Eaq {M:Nat}(h:N<=M){p:Pth}(hx:zB N p=true):zB M p=true:=by
 cases p with
 |no=>rfl
 |view=>rfl
 |suf sz lo=>exact dA h hx
 | path p =>
  simp only[zB,Pbv]at hx ⊢;exact fun x hm=>dA h (hx x hm)
mutual
theorem mU {M:Nat}(h:N<=M):∀ (l:aM),l.inScope N=true->l.inScope M=true
 |.dead,_=>rfl
 |.sc x,hs=>by simp only[aM.inScope]at hs ⊢;exact dA h hs
 |.su g x,hs=>by simp only[aM.inScope,Obz]at hs ⊢;exact⟨dA h hs.1,dA h hs.2⟩
 |.ex r,_=>rfl
 |.sn deps p nie x,hs=>by simp only[aM.inScope,Obz]at hs ⊢;exact⟨dA h hs.1,Eaq h hs.2⟩
 |.px b off,_=>rfl
 |.pe l sz i off,hs=>by simp only[aM.inScope,Obz]at hs ⊢;exact⟨mU h l hs.1,dA h hs.2⟩
 |.rp deps sz x,hs=>by simp only[aM.inScope]at hs ⊢;exact dA h hs
 |.pn,_=>rfl
 |.clo f eN,hs=>by simp only[aM.inScope]at hs ⊢;exact gN h eN hs
theorem gN {M:Nat}(h:N<=M):∀ (ls:List aM),bB N ls=true->bB M ls=true
 |[],_=>rfl
 |l::ls,hs=>by simp only[bB,Obz]at hs ⊢;exact⟨mU h l hs.1,gN h ls hs.2⟩
end
theorem uO {M:Nat}(h:N<=M){c:aN}(hs:bQ N c=true):bQ M c=true:=by
 cases c with
 | slot g v =>
  simp only[bQ,Obz]at hs ⊢;refine⟨uG hs.1 h,?_⟩
  cases v with
  |dead=>rfl
  |one l=>exact mU h l hs.2
  |agg ls=>exact gN h ls hs.2
  | tup ts =>
   have h2:=hs.2;simp only[vF,Pbv]at h2 ⊢;exact fun x hx=>gN h x.2 (h2 x hx)
 |box ro ls=>exact gN h ls hs
 |root x m aE st=>exact dA h hs
theorem wY.mono {M:Nat}(hs:wY σ N)(h:N<=M):wY σ M:=fun k c hk=>uO h (hs k c hk)
theorem wY.upds {M:Nat}(hs:wY σ N)(h:N<=M){u:List (Nat×aN)}(hu:u.all (fun x=>bQ M x.2)=true):wY (upds σ u) M:=by
 intro k c hk
 rcases nI u σ k c hk with h1|⟨-,h1⟩
 ·rw[Pbv]at hu
  exact hu _ h1
 ·exact uO h (hs k c h1)
end
end Go.Proofs.YtcbkmmhkccnamaaGreat.Rf
