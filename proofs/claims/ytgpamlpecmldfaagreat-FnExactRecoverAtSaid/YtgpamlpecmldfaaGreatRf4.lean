import Derived.Test.YtgpamlpecmldfaaGreatRf3
import Derived.Laws.MakeOwn
set_option linter.all false
open Array renaming getElem?_eq_getElem → Rb9, length_toList → Tb2, ext' → Ub1
open Bool renaming and_eq_true → Qb6, not_eq_true' → Rb0
open List renaming getElem?_eq_some_iff → Qb8, mem_append_left → Qb9, getElem?_eq_getElem → Rba, mem_singleton → Rbb, mem_append_right → Rbc, append_assoc → Rbd, getElem?_cons_zero → Rbf, mem_cons → Rbg, length_append → Rbh, getElem?_append_right → Rbj, mem_cons_of_mem → Rbl, getElem?_append_left → Rbm, mem_of_getElem? → Rbn, mem_append → Rbq, mem_cons_self → Rbr, replicate → Rbs, length_take → Rbv, map_cons → Rby, append_nil → Rb1, length_map → Rb4, all_eq_true → Rb6, map_nil → Sbc, getElem?_map → Sbd, mem_iff_getElem? → Sbt, ext_getElem? → Ubq
open List.cons renaming injEq → Sbz
open Nat renaming add_assoc → Rbp, le_refl → Rbt, lt_or_ge → Rbu, beq_eq → Rb3, add_zero → Sbg, add_sub_cancel_left → Sbi, blt_eq → Sbn, ble_eq → Sbr, blt → Sb0, mul_comm → Ubb, le_succ → Ubg, le_add_right → Ubr
open Option renaming bind_eq_some_iff → Qb5, bind_some → Rbe, map_eq_some_iff → Rbo, isNone_iff_eq_none → Tb5
open Option.some renaming injEq → Qb7, inj → Rb5
open Prod.mk renaming injEq → Rbx, inj → Tbw
namespace Go.Proofs.YtgpamlpecmldfaaGreat.Rf
def Waw (mb:List Nat)(mN:Option Nat)(nsz:Nat)(src:Option (Nat×List Nat×Nat))(nr M:Nat)(s:Nat)(p:List Nat):Ow :=
 if s∈mb then .frz else if mN=some s then (match p with
  |k::t=>zW nr M ((nsz+k)::t)
  |[]=>.frz) else
 match src with
 |some (r,pq,mr)=>if s=r then (if pq <+: p then zW nr M (p.drop pq.length) else zW r mr p) else .slc s p
 |none=>.slc s p
section
variable {P:Program} {E:Env} {F:bQ} {n:Nat} {σ:Nat->Option aU} {ρ:List D} {a:Act} {w w':World} {G G':Gh} {g:Option (aP×Bool)} {o:Oper} {cf:Nat->List D->Option (List D)} {Q:Exit->Act->World->Prop} {next:Act->World->Prop}
structure XOk (σ:Nat->Option aU) (ρ:List D) (G:Gh) (w:World) (v:Value) (ra:List (List D)) (sz m:Nat) (updX:List (Nat×aU)) (src:Option (Nat×List Nat×Nat)) (A:Option Addr) (b:Addr) (n cap:Nat) (vs:Nat->Nat->Value):Prop where
 side:Side w v ra sz A b n cap vs
 base:(A=some b/\b.spot=none)\/(A=none/\cap=0)
 own:A=some b->∃ r pq mr,src=some (r,pq,mr)/\G.own b.block=.slc r pq
 all:A=some b->∀ k,k<cap*sz->∃ u,w.cell? (b.add k)=some u/\fzq w (b.add k)=false
 ch:∀ i row,ra[i]?=some row->∀ j d,row[j]?=some d->∃ r pq mr,src=some (r,pq,mr)/\Rp G.own w r (pq++[i*sz+j]) (m-1) (vs i j) d
 m:1<=m
 upd:(src=none/\updX=[])\/∃ r pq mr X k,src=some (r,pq,mr)/\σ (kR r)=some (.root X mr k .live) /\
  ((pq=[]/\updX=[(kR r,.root (.c .hole) 0 0 .gone)])\/(∃ X',updX=[(kR r,.root X' mr (k+1) .live)]/\Upd pq (X.val ρ) .hole (X'.val ρ)/\Aaf G.own w r [] (G.hdr r) pq v/\pq.length<mr))
theorem Fbw (hR:R E.ntmps F σ ρ a w G)(hd:gG E.ntmps o){nb nr:Nat}(hf:Da2 σ nb nr){fl:Bool}{vx vy v:Value}{ra rb:List (List D)}{sz m dy M:Nat}{updX hL:List (Nat×aU)}{src:Option (Nat×List Nat×Nat)}{ry mb:List Nat}{mN:Option Nat}
  {A By:Option Addr} {b by':Addr} {n n' cap nh:Nat} {vs tj:Nat->Nat->Value}
  (hX:XOk σ ρ G w vx ra sz m updX src A b n cap vs) (hY:YOk σ G w fl vy rb sz dy hL ry mb mN)
  (q5:Side w vy rb sz By by' n' nh tj) (hYc:∀ i row,rb[i]?=some row->∀ j d,row[j]?=some d->ChY G w mb mN dy (tj i j) d (i*sz+j))
  {w1:World} {A':Option Addr} {cb:Addr} {jt:Nat} {grow:Bool} (hA:Nbk w w1 G A n n' cap sz (jV vs n sz) (jV tj n' sz) v A' cb jt grow)
  (kz:fl=true->∀ r∈ra++rb,∀ d∈r,d.isSc=true) (hM1:1<=M) (hM:fl=false->M<=m/\M<=dy)
  (yd:∀ r pq mr,src=some (r,pq,mr)->r∉ry\/fl=true) {y:aP} (hy:y.val ρ=.rows sz (ra++rb)) :
  ∃ G',R E.ntmps F (upds σ (eO o none (.one (.ex nr))++((kR nr,.root y M 0 .live)::updX++hL))) ρ (a.put o.dst v) w1 G':=by
 obtain⟨M,rfl⟩:∃ M',M=M'+1:=⟨M-1,by omega⟩;have jv:σ (kR nr)=none:=hf.nr nr (Rbt _) (by unfold dE;omega)
 have nf:∀ b,G.own b≠.frz->b<w.heap.size:=fun b hb=>by
  rcases Rbu b w.heap.size with h|h
  ·exact h
  ·exact absurd (hR.frame.fresh b h) hb
 have a14:∀ r pq mr,src=some (r,pq,mr)->r∉mb/\mN≠some r:=by
  intro r pq mr e
  rcases yd r pq mr e with h|h
  ·exact⟨fun hh=>h (hY.fz r hh).1,fun hh=>h (hY.mv r hh).1⟩
  ·obtain⟨-,h2,h3⟩:=hY.flat h
   rw[h2,h3];simp
 have qa:∀ r pq mr,src=some (r,pq,mr)->∃ X k,σ (kR r)=some (.root X mr k .live)/\∃ c,(kR r,c)∈updX:=by
  intro r pq mr e
  rcases hX.upd with ⟨h1,-⟩|⟨r',vn,rq,X,k,h1,h2,h3⟩
  ·rw[h1]at e;cases e
  ·rw[h1]at e
   obtain⟨rfl,rfl,rfl⟩:r'=r/\vn=pq/\rq=mr:=by injection e with e;injection e with e1 e;injection e with e2 e3;exact⟨e1,e2,e3⟩
   refine⟨X,k,h2,?_⟩
   rcases h3 with ⟨-,h3⟩|⟨X',h3,-⟩<;>exact⟨_,by rw[h3];exact Rbb.2 rfl⟩
 have a0g:grow=false->A'≠none->∃ r pq mr,src=some (r,pq,mr)/\G.own cb.block=.slc r pq:=by
  intro hg dz
  rcases hA.base with ⟨h1,-⟩|⟨-,-,h2⟩|⟨-,h2⟩
  ·rw[hg]at h1;cases h1
  ·rcases hX.base with ⟨h3,h4⟩|⟨h3,-⟩
   ·rw[h2]at h3
    obtain rfl:=Rb5 h3;exact hX.own h2
   ·rw[h2]at h3;cases h3
  ·exact absurd h2 dz
 have dk:∀ b,b<w.heap.size->(∀ r pq mr,src=some (r,pq,mr)->G.own b≠.slc r pq)->w1.heap[b]?=w.heap[b]?:=by
  intro b' bh e9;refine hA.heap b' bh ?_
  cases hg:grow with
  |true=>exact .inl rfl
  | false =>
   by_cases dz:A'=none
   ·exact .inr (.inl dz)
   ·obtain⟨r,pq,mr,h1,h2⟩:=a0g hg dz
    exact .inr (.inr fun e=>e9 r pq mr h1 (e▸h2))
 generalize cI:(fun b'=>if b'=w.heap.size then (if grow=true then Ow.slc nr [] else .frz) else oH (Waw mb mN (n*sz) src nr (M+1)) (G.own b'))=own'
 have fy:∀ b' s p,G.own b'=.slc s p->own' b'=Waw mb mN (n*sz) src nr (M+1) s p:=fun b' s p hb=>by
  have:=nf b' (by rw[hb];simp);rw[<- cI];dsimp only;rw[if_neg (by omega),hb];rfl
 have hz:∀ b',G.own b'=.frz->b'<w.heap.size->own' b'=.frz/\w1.heap[b']?=w.heap[b']?:=fun b' hb bh=>by
  refine⟨?_,dk b' bh fun _ _ _ _=>by rw[hb];simp⟩;rw[<- cI];dsimp only;rw[if_neg (by omega),hb];rfl
 have ym:∀ s∈mb,∀ p,Waw mb mN (n*sz) src nr (M+1) s p=.frz:=fun s hs p=>by
  unfold Waw;rw[if_pos hs]
 have sy:∀ r pq mr,src=some (r,pq,mr)->∀ p,Waw mb mN (n*sz) src nr (M+1) r p=if pq <+: p then zW nr (M+1) (p.drop pq.length) else zW r mr p:=fun r pq mr e p=>by
  obtain⟨h1,h2⟩:=a14 r pq mr e;unfold Waw;rw[if_neg h1,if_neg h2,e];simp
 have sw:∀ s,s∈ry->fl=false->∀ r pq mr,src=some (r,pq,mr)->s≠r:=fun s hs ic r pq mr e h=>by
  rcases yd r pq mr e with h1|h1
  ·exact h1 (h▸hs)
  ·rw[ic]at h1;cases h1
 have hold:∀ i row,ra[i]?=some row->∀ j d,row[j]?=some d->w1.cell? (cb.add (i*sz+j))=some (vs i j)/\Rp own' w1 nr [i*sz+j] M (vs i j) d:=by
  intro i row hi j d hj;have pr:i<n:=by rw[<- hX.side.len];exact (Qb8.1 hi).1
  have nu:j<sz:=by
   have:=(Qb8.1 hj).1;rwa[hX.side.rows row (Rbn hi)]at this
  refine⟨hA.cell _ _ (by rw[Rbm];exact nW vs pr nu;exact (Qb8.1 (nW vs pr nu)).1),?_⟩;obtain⟨r,pq,mr,e,h1⟩:=hX.ch i row hi j d hj
  cases ic:fl with
  |true=>exact .sc (h1.sc_inv (kz ic row (Qb9 _ (Rbn hi)) d (Rbn hj)))
  | false =>
   obtain⟨h2,h3⟩:=hM ic;refine h1.move hz _ M (by omega) fun b' t hb=>⟨?_,dk b' (nf b' (by rw[hb];simp)) fun r' vn rq e' hh=>?_⟩
   ·rw[fy b' _ _ hb,sy r pq mr e,if_pos (by rw[Rbd];exact List.prefix_append _ _),Rbd,List.drop_left,zW]
    simp only[Rbh,List.length_singleton];by_cases ht:t.length<M
    ·rw[if_pos ht,if_pos (by omega)]
    ·rw[if_neg ht,if_neg (by omega)]
   ·rw[e]at e'
    obtain⟨rfl,rfl,rfl⟩:r=r'/\pq=vn/\mr=rq:=by injection e' with e;injection e with e1 e;injection e with e2 e3;exact⟨e1,e2,e3⟩
    rw[hb]at hh
    injection hh with _ hh
    have:=congrArg List.length hh;simp at this
 have ij:∀ i row,rb[i]?=some row->∀ j d,row[j]?=some d->w1.cell? (cb.add ((n+i)*sz+j))=some (tj i j)/\Rp own' w1 nr [(n+i)*sz+j] M (tj i j) d:=by
  intro i row hi j d hj;have pr:i<n':=by rw[<- q5.len];exact (Qb8.1 hi).1
  have nu:j<sz:=by
   have:=(Qb8.1 hj).1;rwa[q5.rows row (Rbn hi)]at this
  have mf:(n+i)*sz+j=n*sz+(i*sz+j):=by rw[Nat.add_mul];omega
  refine⟨hA.cell _ _ (by rw[mf,Rbj (by rw[mQ];omega),mQ,Sbi];exact nW tj pr nu),?_⟩;have np:fl=true->d.isSc=true:=fun ic=>kz ic row (Rbc _ (Rbn hi)) d (Rbn hj)
  rcases hYc i row hi j d hj with h1|⟨s,h1,h2,h3⟩|⟨h1,h2⟩
  ·exact .sc h1
  ·cases ic:fl with
   |true=>exact .sc (h3.sc_inv (np ic))
   | false =>
    obtain⟨h4,h5⟩:=hM ic;obtain⟨h6,-,h7⟩:=hY.mv s h1;refine h3.move hz _ M (by omega) fun b' t hb=>⟨?_,dk b' (nf b' (by rw[hb];simp)) fun r' vn rq e' hh=>?_⟩
    ·rw[fy b' _ _ hb]
     unfold Waw;rw[if_neg h7,if_pos h1];simp only[List.singleton_append];rw[zW,mf];simp only[List.length_cons];by_cases ht:t.length<M
     ·rw[if_pos ht,if_pos (by omega)]
     ·rw[if_neg ht,if_neg (by omega)]
    ·rw[hb]at hh
     injection hh with hh _
     exact sw s h6 ic r' vn rq e' hh
  ·cases ic:fl with
   |true=>exact .sc (h2.sc_inv (np ic))
   | false =>
    obtain⟨h4,h5⟩:=hM ic;obtain rfl:M=0:=by omega
    refine .fz (h2.mono' fun b' hb bh=>?_)
    rcases hb with hb|⟨r',p',h6,hb⟩
    ·exact hz b' hb bh
    ·refine⟨by rw[fy b' _ _ hb,ym r' h6],dk b' bh fun r'' vn rq e' hh=>?_⟩
     rw[hb]at hh
     injection hh with hh _
     exact sw r' (hY.fz r' h6).1 ic r'' vn rq e' hh
 have fm:∀ {s:Nat} {c:aU},(kR s,c)∈(kR nr,aU.root y (M+1) 0 .live)::updX++hL ->
   (s=nr/\c=.root y (M+1) 0 .live) \/
   (∃ pq mr X k,src=some (s,pq,mr)/\σ (kR s)=some (.root X mr k .live)/\(c=.root (.c .hole) 0 0 .gone\/∃ X',c=.root X' mr (k+1) .live/\Upd pq (X.val ρ) .hole (X'.val ρ)/\Aaf G.own w s [] (G.hdr s) pq vx/\pq.length<mr)) \/
   (mN=some s/\s∈ry/\c=.root (.c .hole) 0 0 .gone) \/
   (s∈mb/\s∈ry/\∃ x m v,c=.root x m v .frozen/\σ (kR s)=some (.root x m v .live)):=by
  intro s c hc
  rcases Rbq.1 hc with hc|hc
  ·rcases Rbg.1 hc with hc|hc
   ·obtain⟨e1,e2⟩:=Tbw hc
    exact .inl ⟨fT e1,e2⟩
   ·rcases hX.upd with ⟨-,h2⟩|⟨r,pq,mr,X,k,h1,h2,h3⟩
    ·rw[h2]at hc;simp at hc
    ·rcases h3 with ⟨h4,h5⟩|⟨X',h5,h6⟩
     ·rw[h5]at hc
      simp only[Rbb,Rbx]at hc;obtain⟨e1,e2⟩:=hc;obtain rfl:=fT e1;exact .inr (.inl ⟨pq,mr,X,k,h1,h2,.inl e2⟩)
     ·rw[h5]at hc
      simp only[Rbb,Rbx]at hc;obtain⟨e1,e2⟩:=hc;obtain rfl:=fT e1;exact .inr (.inl ⟨pq,mr,X,k,h1,h2,.inr ⟨X',e2,h6⟩⟩)
  ·obtain⟨s',e1,h1,h2⟩:=hY.upd _ _ hc
   obtain rfl:=fT e1
   rcases h2 with ⟨h2,h3,-⟩|⟨h2,x,m,cQ,h3,h4⟩
   ·exact .inr (.inr (.inl ⟨h2,h1,h3⟩))
   ·exact .inr (.inr (.inr ⟨h2,h1,x,m,cQ,h3,h4⟩))
 have mi:∀ r,(σ (kR r)).isSome->r≠nr:=fun r hr e=>by rw[e,jv]at hr;cases hr
 have tf:∀ s,s∈mb->fl=false:=fun s hs=>by
  cases ic:fl with
  |false=>rfl
  |true=>rw[(hY.flat ic).2.1]at hs;simp at hs
 refine⟨{ G with own:=own',hdr:=fun r=>if r=nr then v else G.hdr r },hR.own hd (f:=Waw mb mN (n*sz) src nr (M+1)) (wr:=fun b'=>b'=cb.block/\grow=false/\A'≠none) ?_ ?_ ?_ ?_ ?_ ?_ ?_ ?_ ?_ ?_ ?_ rfl ?_ ?_⟩
 ·intro k c hc
  rcases Rbq.1 hc with hc|hc
  ·rcases Rbg.1 hc with hc|hc
   ·exact⟨nr,(Tbw hc).1⟩
   ·rcases hX.upd with ⟨-,h2⟩|⟨r,pq,mr,X,k',h1,h2,h3⟩
    ·rw[h2]at hc;simp at hc
    ·rcases h3 with ⟨h4,h5⟩|⟨X',h5,h6⟩<;>(rw[h5]at hc;simp only[Rbb,Rbx]at hc;exact⟨r,hc.1⟩)
  ·obtain⟨s',e1,-⟩:=hY.upd _ _ hc
   exact⟨s',e1⟩
 ·intro b' bh
  show own' b'=_
  rw[<- cI];dsimp only;rw[if_neg (by omega)]
 ·intro b' hb
  rw[hA.size]at hb;show own' b'=.frz
  rw[<- cI];dsimp only;by_cases e:b'=w.heap.size
  ·rw[if_pos e]
   cases hg:grow with
   |true=>rw[hg]at hb;simp at hb;omega
   |false=>simp
  ·rw[if_neg e,hR.frame.fresh b' (by split at hb<;>omega)];rfl
 ·exact⟨hA.os.1,hA.os.2.1,hA.os.2.2,by rw[hA.size];omega⟩
 ·intro b' hb
  show own' b'=.frz\/∃ r p,own' b'=.slc r p/\_
  rw[<- cI];dsimp only;by_cases e:b'=w.heap.size
  ·rw[if_pos e]
   cases hg:grow with
   |true=>exact .inr ⟨nr,[],by simp,jv⟩
   |false=>exact .inl (by simp)
  ·rw[if_neg e,hR.frame.fresh b' hb];exact .inl rfl
 ·intro b' bh hnw
  refine hA.heap b' bh ?_
  cases hg:grow with
  |true=>exact .inl rfl
  | false =>
   by_cases dz:A'=none
   ·exact .inr (.inl dz)
   ·exact .inr (.inr fun e=>hnw ⟨e,hg,dz⟩)
 ·rintro b' ⟨rfl,hg,dz⟩
  obtain⟨r,pq,mr,h1,h2⟩:=a0g hg dz;obtain⟨X,k,-,c,hc⟩:=qa r pq mr h1;exact⟨r,pq,h2,c,Qb9 _ (Rbl _ hc)⟩
 ·intro b' s p hb iw
  have h1:s∉mb:=fun hs=>by
   rcases (hY.fz s hs).2 with ⟨c,hc⟩|⟨x,m,cQ,h⟩
   ·exact iw c (Rbc _ hc)
   ·exact (hR.root h).2 b' p hb
  have h2:mN≠some s:=fun hs=>by
   obtain⟨c,hc⟩:=(hY.mv s hs).2.1;exact iw c (Rbc _ hc)
  unfold Waw;rw[if_neg h1,if_neg h2]
  cases kb:src with
  |none=>rfl
  | some x =>
   obtain⟨r,pq,mr⟩:=x;dsimp only;rw[if_neg];intro e;obtain⟨X,k,-,c,hc⟩:=qa r pq mr kb;exact iw c (Qb9 _ (Rbl _ (e▸hc)))
 ·intro s c hc _
  rcases fm hc with ⟨rfl,rfl⟩|⟨pq,mr,X,k,h1,h2,h3⟩|⟨h1,h2,rfl⟩|⟨h1,h2,x,m',cQ,rfl,h4⟩
  ·exact .inl ⟨jv,_,_,_,_,rfl⟩
  ·rcases h3 with rfl|⟨X',rfl,-⟩
   ·exact .inr (.inr (.inl ⟨_,_,_,_,rfl,by simp,by simp⟩))
   ·exact .inr (.inl ⟨_,_,_,_,_,h2,rfl⟩)
  ·exact .inr (.inr (.inl ⟨_,_,_,_,rfl,by simp,by simp⟩))
  ·refine .inr (.inr (.inr ⟨x,m',cQ,h4,rfl,fun b' p hb=>⟨?_,dk b' (nf b' (by rw[hb];simp)) fun r pq mr e hh=>?_⟩⟩))
   ·show own' b'=.frz
    rw[fy b' _ _ hb,ym s h1]
   ·rw[hb]at hh
    injection hh with hh _
    exact sw s h2 (tf s h1) r pq mr e hh
 ·intro r0 x0 m0 k0 jr s p q hF
  have y6:=mi r0 (by rw[jr];rfl)
  have qe:∀ R M' q',zW R M' q'=.slc r0 q->R=r0:=by
   intro R M' q' h;unfold zW at h;split at h
   ·injection h
   ·cases h
  unfold Waw at hF;split at hF
  ·cases hF
  ·split at hF
   ·split at hF
    ·exact absurd (qe _ _ _ hF).symm y6
    ·cases hF
   ·split at hF
    ·rename_i _ r pq mr
     split at hF
     ·split at hF
      ·exact absurd (qe _ _ _ hF).symm y6
      ·have:=qe _ _ _ hF
       subst this;obtain⟨X,k,h,-⟩:=qa r pq mr rfl;rw[h]at jr
       injection jr with e;injection e with _ _ _ e;cases e
     ·injection hF with h1 h2;exact⟨h1,h2⟩
    ·injection hF with h1 h2;exact⟨h1,h2⟩
 ·intro r hr
  show (if r=nr then _ else _)=_
  rw[if_neg (mi r hr)]
 ·intro _ _
  simp only[dI,aD,if_true];refine⟨trivial,eZ _ _ _ (.inr ⟨_,Rbc _ (Qb9 _ Rbr)⟩),by rw[hA.val];rfl⟩
 ·intro _ s c hc _
  rcases fm hc with ⟨rfl,rfl⟩|⟨pq,mr,X,k,h1,h2,h3⟩|⟨h1,h2,rfl⟩|⟨h1,h2,x,m',cQ,rfl,h4⟩
  ·refine⟨_,_,_,_,rfl,?_⟩
   simp only[dB,if_true];rw[hy,hA.val]
   have mS:∀ i row,(ra++rb)[i]?=some row->(i<n/\ra[i]?=some row)\/(n<=i/\rb[i-n]?=some row):=by
    intro i row hi;by_cases bh:i<ra.length
    ·rw[Rbm bh]at hi
     exact .inl ⟨by rw[<- hX.side.len];exact bh,hi⟩
    ·rw[Rbj (by omega),hX.side.len]at hi
     exact .inr ⟨by rw[<- hX.side.len];omega,hi⟩
   refine .sl _ cb (n+n') jt sz _ (fun i j=>if i<n then vs i j else tj (i-n) j) (by simp[hX.side.len,q5.len]) hA.le hA.aval (fun row hr=>?_) (fun na=>⟨hA.spot,?_,fun k hk=>hA.all k hk⟩) (fun i row hi j d hj=>?_) (fun i row hi j d hj=>?_)
   ·rcases Rbq.1 hr with hr|hr
    ·exact hX.side.rows _ hr
    ·exact q5.rows _ hr
   ·rcases hA.base with ⟨h1,-,h2⟩|⟨h1,-⟩|⟨-,h2⟩
    ·rw[<- cI]
     dsimp only;rw[if_pos h2,if_pos h1]
    rotate_left
    ·rw[h2]at na;cases na
    ·obtain⟨r,pq,mr,h2,h3⟩:=a0g h1 (by rw[na];simp)
     rw[fy _ _ _ h3,sy r pq mr h2,if_pos List.prefix_rfl];simp[zW]
   ·rcases mS i row hi with ⟨h1,h2⟩|⟨h1,h2⟩
    ·rw[if_pos h1];exact (hold i row h2 j d hj).1
    ·rw[if_neg (by omega)]
     have:=(ij _ row h2 j d hj).1;rwa[show n+(i-n)=i by omega]at this
   ·rcases mS i row hi with ⟨h1,h2⟩|⟨h1,h2⟩
    ·rw[if_pos h1];exact (hold i row h2 j d hj).2
    ·rw[if_neg (by omega)]
     have:=(ij _ row h2 j d hj).2;rwa[show n+(i-n)=i by omega]at this
  ·rcases h3 with rfl|⟨X',rfl,h4,h5,h6⟩
   ·exact⟨_,_,_,_,rfl,trivial⟩
   ·refine⟨_,_,_,_,rfl,?_⟩
    simp only[dB];rw[if_neg (mi s (by rw[h2];rfl))];have hr:=hR.root h2;simp only[dB]at hr;have:=Rp.upd (own':=own') (w':=w1) (r:=s) (M':=mr) (full:=pq) hz (fun b' t hb ht=>⟨?_,dk b' (nf b' (by rw[hb];simp)) fun r' vn rq e' hh=>?_⟩) (by omega) (.hole _ (by rw[hX.side.val];rfl)) pq [] mr (G.hdr s) _ _ rfl (Rbt _) (by simpa using hr) h5 h4
    ·simpa using this
    ·rw[fy b' _ _ hb,sy s pq mr h1,if_neg ht]
     rfl
    ·rw[h1]at e'
     obtain⟨-,rfl,-⟩:s=r'/\pq=vn/\mr=rq:=by injection e' with e;injection e with e1 e;injection e with e2 e3;exact⟨e1,e2,e3⟩
     rw[hb]at hh
     injection hh with _ hh
     exact ht (hh▸List.prefix_rfl)
  ·exact⟨_,_,_,_,rfl,trivial⟩
  ·refine⟨x,m',cQ,.frozen,rfl,?_,fun b' p hb=>?_⟩
   ·have:=hR.root h4
    simp only[dB]at this ⊢;rw[if_neg (mi s (by rw[h4];rfl))];refine this.rd.mono' fun b' hb bh=>?_
    rcases hb with hb|⟨p,hb⟩
    ·exact hz b' hb bh
    ·refine⟨by rw[fy b' _ _ hb,ym s h1],dk b' bh fun r pq mr e hh=>?_⟩
     rw[hb]at hh
     injection hh with hh _
     exact sw s h2 (tf s h1) r pq mr e hh
   ·have e9:own' b'=.slc s p:=hb
    have hsn:=mi s (by rw[h4];rfl)
    have qe:∀ R M' q',R≠s->zW R M' q'≠.slc s p:=by
     intro R M' q' jf h;unfold zW at h;split at h
     ·injection h with h _;exact jf h
     ·cases h
    rcases Rbu b' w.heap.size with bh|mo
    ·rw[<- cI]at e9
     dsimp only at e9;rw[if_neg (by omega)]at e9
     cases e:G.own b' with
     | slc s' p' =>
      rw[e]at e9;have hF:Waw mb mN (n*sz) src nr (M+1) s' p'=.slc s p:=e9;unfold Waw at hF;split at hF
      ·cases hF
      ·rename_i ku
       split at hF
       ·split at hF
        ·exact qe _ _ _ hsn.symm hF
        ·cases hF
       ·split at hF
        ·rename_i _ r pq mr
         split at hF
         ·split at hF
          ·exact qe _ _ _ hsn.symm hF
          ·exact qe _ _ _ (sw s h2 (tf s h1) r pq mr rfl).symm hF
         ·injection hF with h5 _;exact ku (h5▸h1)
        ·injection hF with h5 _;exact ku (h5▸h1)
     |_=>rw[e]at e9;cases e9
    ·rw[<- cI]at e9
     dsimp only at e9;by_cases e:b'=w.heap.size
     ·rw[if_pos e]at e9
      split at e9
      ·injection e9 with h5 _;exact hsn h5.symm
      ·cases e9
     ·rw[if_neg e,hR.frame.fresh b' mo]at e9
      cases e9
end
section
variable {P:Program} {E:Env} {F:bQ} {n:Nat} {σ:Nat->Option aU} {ρ:List D} {a:Act} {w w':World} {G G':Gh} {g:Option (aP×Bool)} {o:Oper} {cf:Nat->List D->Option (List D)} {Q:Exit->Act->World->Prop} {next:Act->World->Prop}
theorem Ibx {sz bytes:Nat}{fl:Bool}{x y:D}{ds:List D}(h:(aS.app sz bytes fl).run [x,y]=some ds) :
  ∃ ra rb,x=.rows sz ra/\y=.rows sz rb/\(fl=true->∀ r∈ra++rb,∀ d∈r,d.isSc=true)/\(ra.length+rb.length)*bytes<=iM/\ds=[.rows sz (ra++rb)]:=by
 cases x<;>cases y<;>simp only[aS.run]at h<;>first|cases h|skip
 rename_i s1 ra s2 rb;split at h
 ·rename_i h1
  obtain⟨rfl,rfl,h2,h3⟩:=h1;simp only[Qb7]at h;refine⟨ra,rb,rfl,rfl,fun hf=>?_,h3,h.symm⟩;rw[hf]at h2;simp only[Bool.not_true,Bool.false_or,Rb6]at h2;exact fun r hr d hd=>h2 r hr d hd
 ·cases h
theorem XOk.ofRp {v:Value}{ra:List (List D)}{sz md r mr:Nat}{pq:List Nat}{updX:List (Nat×aU)}(h:Rp G.own w r pq md v (.rows sz ra))(h1:1<=md){X:aP}{k:Nat}(hk:σ (kR r)=some (.root X mr k .live))
  (hu:(pq=[]/\updX=[(kR r,.root (.c .hole) 0 0 .gone)])\/(∃ X',updX=[(kR r,.root X' mr (k+1) .live)]/\Upd pq (X.val ρ) .hole (X'.val ρ)/\Aaf G.own w r [] (G.hdr r) pq v/\pq.length<mr)) :
  ∃ A b n cap vs,XOk σ ρ G w v ra sz md updX (some (r,pq,mr)) A b n cap vs:=by
 obtain⟨m',rfl⟩:∃ m',md=m'+1:=⟨md-1,by omega⟩;obtain⟨A,b,n,c,vs,e1,e2,e3,e4,e5,e6,e7,e8⟩:=h.sl_inv;refine⟨A,b,n,c,vs,⟨e1,e2,e3,e5,e7⟩,?_,fun hA=>⟨r,pq,mr,rfl,(e6 hA).2.1⟩,fun hA=>(e6 hA).2.2,fun i row hi j d hj=>⟨r,pq,mr,rfl,e8 i row hi j d hj⟩,h1,.inr ⟨r,pq,mr,X,k,rfl,hk,hu⟩⟩
 rcases e4 with e4|e4
 ·exact .inl ⟨e4,(e6 e4).1⟩
 ·exact .inr e4
theorem Iby (hR:R E.ntmps F σ ρ a w G)(hd:gG E.ntmps o){nb nr nv:Nat}(hf:Da2 σ nb nr){t tx e:TypeId}{ti:TI}{info:TypeInfo}{u u':TypeDesc}{x y:Operand}{args:Array Operand}{argTypes:Array TypeId}
  (ho:o.op=.call { callee:=.builtin .append,args,argTypes }) (fp:args.toList=[x,y]) (ig:argTypes=#[t,tx]) (hu:P.underlying t=some (.slice e)) (f:dN P e ti info u) (hx:P.underlying tx=some u') (rl:∃ e',u'=.slice e')
  (hb0:0<ti.bytes) (hs0:0<ti.size) {ys:SlR} (zf:Was σ ρ G w ys (a.eval y)) {dy:Nat} {hL:List (Nat×aU)} {ry:List Nat} (hY:(Tao (Oao ti.cells) ys).eval σ=some (dy,hL,ry))
  {sx:aP} {m:Nat} {pre:List Step} {updX:List (Nat×aU)} (cT:aR cf ρ none nv (pre++[.prim (.app ti.size ti.bytes (Oao ti.cells)) [sx,ys.x] 1]))
  (hXs:∀ ra,sx.val ρ=.rows ti.size ra->∃ src A b n cap vs,XOk σ ρ G w (a.eval x) ra ti.size m updX src A b n cap vs/\∀ r pq mr,src=some (r,pq,mr)->r∉ry\/Oao ti.cells=true) :
  o.wp P a w (Nx E.ntmps F σ ρ (eO o none (.one (.ex nr))++((kR nr,.root (.v (nv+bT pre)) (bif Oao ti.cells then big else min m dy) 0 .live)::updX++hL))) Q:=by
 obtain⟨-,mT⟩:=aR.append cT;obtain⟨d,h1,h2⟩:=Cam mT.1 (show gOn ρ none=true from rfl);simp only[Rby,Sbc]at h1;obtain⟨ra,rb,e1,e2,e3,e4,e5⟩:=Ibx h1;simp only[Sbz,and_true]at e5;obtain⟨src,A,b,n,cap,vs,hX,oy⟩:=hXs ra e1;obtain⟨mb,mN,hYo⟩:=Nby hR zf e2 (fun ic r hr d hd=>e3 ic r (Rbc _ hr) d hd) hY;obtain⟨By,by',n',nh,tj,q5,hYb,hYc⟩:=hYo.side;have iz:(jV vs n ti.size).length=n*ti.size:=mQ _ _ _;have ka:(jV tj n' ti.size).length=n'*ti.size:=mQ _ _ _;have xw:=uE hX.side.rows hX.side.cell;have qT:=uE q5.rows q5.cell;rw[hX.side.len]at xw;rw[q5.len]at qT
 have a1r:∀ u∈jV tj n' ti.size,u.oneCell'=true:=by
  intro u hu;obtain⟨k,hk⟩:=Sbt.1 hu;obtain⟨k1,k2,k3,rfl⟩:=zY hk;have hr:rb[k / ti.size]?=some (rb[k / ti.size]'(by rw[q5.len];exact k1)):=Rba _;have tl:=q5.rows _ (Rbn hr);have np:(rb[k / ti.size]'(by rw[q5.len];exact k1))[k % ti.size]?=some _:=Rba (by rw[tl];exact k2)
  rcases hYc _ _ hr _ _ np with h|⟨_,_,_,h⟩|⟨_,h⟩
  ·exact h.one
  ·exact h.one
  ·exact h.one
 have hM1:1<=(bif Oao ti.cells then big else min m dy):=by
  have:=hX.m;have:=hYo.dy
  cases Oao ti.cells with
  |true=>simp only[cond_true];unfold big;omega
  |false=>simp only[cond_false];omega
 have hM:Oao ti.cells=false->(bif Oao ti.cells then big else min m dy)<=m/\(bif Oao ti.cells then big else min m dy)<=dy:=fun h=>by
  rw[h,cond_false];omega
 have hyv:(aP.v (nv+bT pre)).val ρ=.rows ti.size (ra++rb):=h2.trans e5;obtain⟨v,w1,A',cb,jt,grow,cP,hA⟩:=Ma5 (P:=P) (w:=w) (G:=G) (a:=a) (o:=o) ho fp ig hu f hx rl (A:=A) (n:=n) (cap:=cap) (n':=n') (b:=b) (olds:=jV vs n ti.size) (news:=jV tj n' ti.size) hX.side.val hX.side.le hX.base iz xw hX.all q5.val hYb ka qT a1r hb0 hs0 (by rw[<- hX.side.len,<- q5.len];exact e4);exact pK cP (Fbw hR hd hf hX hYo q5 hYc hA e3 hM1 hM oy hyv)
theorem Pab (hR:R E.ntmps F σ ρ a w G)(hd:gG E.ntmps o)(hti:wU P E.ti){nv nb nr:Nat}{mv eR:Bool}(hf:Da2 σ nb nr){args:Array Operand}{argTypes:Array TypeId}(ho:o.op=.call { callee:=.builtin .append,args,argTypes })
    {x y:Operand} (fp:args.toList=[x,y]) {t ty:TypeId} {ti ei yi:TI} {e:Nat} (ht:argTypes[0]?=some t) (hty:argTypes[1]?=some ty) (hi:E.ti t=some ti) (he:ti.elem=some e) (si:E.ti e=some ei) (hyi:E.ti ty=some yi)
    (gv:(yi.elem.isSome&&Sb0 0 ei.size&&noG g&&Sb0 0 ei.bytes&&Nat.beq argTypes.size 2)=true) {lx ly:aT} (h1:(rdL E g t x).eval σ=some lx) (h2:(rdL E g ty y).eval σ=some ly) {res:cK}
    (h:(Maq nv nr mv eR o ei lx ly).eval σ=some res) (cT:aR cf ρ g nv res.lets):iL P E F σ ρ a w g o Q res.upd:=by
  simp only[Qb6,Sbn,Rb3]at gv;obtain⟨⟨⟨⟨a6j,ej⟩,zv⟩,hby⟩,pB⟩:=gv;obtain rfl:=xO zv;refine⟨fun hg=>?_,fun hg=>by simp[gOn]at hg⟩
  have ig:argTypes=#[t,ty]:=by
    apply Ub1;apply Ubq;intro k
    match k with
    |0=>simpa using ht
    |1=>simpa using hty
    |k+2=>simp[pB]
  obtain⟨i1,u1,f1⟩:=bD (hti.ok _ _ hi);obtain rfl:=sQ f1 he;obtain⟨i2,u2,f2⟩:=bD (hti.ok _ _ si);obtain⟨i3,u3,f3⟩:=bD (hti.ok _ _ hyi);have hu3:=Iau f3 a6j;have xm:=gJ hR hg h1;have hly:=gJ hR hg h2;simp only[Maq,aC,Qb5]at h;obtain⟨ys,h3,⟨dy,hL,ry⟩,h4,h⟩:=h;have zf:=eT hR h3 hly
  have fin:∀ {sx:aP} {m:Nat} {pre:List Step} {updX:List (Nat×aU)},(zB nv nr o ei ys dy hL sx m pre updX).eval σ=some res ->
      (aR cf ρ none nv pre->∀ ra,sx.val ρ=.rows ei.size ra->∃ src A b n cap vs,XOk σ ρ G w (a.eval x) ra ei.size m updX src A b n cap vs/\∀ r pq mr,src=some (r,pq,mr)->r∉ry\/Oao ei.cells=true) ->
      o.wp P a w (Nx E.ntmps F σ ρ res.upd) Q:=by
    intro sx m pre updX ja hXs;simp only[zB,vJ,aF,Qb7]at ja;subst ja;simp only[Gab];exact Iby hR hd hf ho fp ig f1.und f2 f3.und hu3 hby ej zf h4 cT (hXs (aR.append cT).1)
  dsimp only at h;split at h
  · rename_i p z
    refine fin h fun _ ra xn=>?_
    simp only[aP.val,D.rows.injEq]at xn;obtain⟨rfl,rfl⟩:=xn;simp only[aD]at xm;have hv:=(xm.2 (by simp)).2.1 trivial _ rfl;exact⟨none,none,⟨0,0,none⟩,0,0,fun _ _=>undef,⟨⟨hv,rfl,Rbt _,by simp,by simp⟩,.inr ⟨rfl,rfl⟩,by simp,by simp,by simp,by decide,.inl ⟨rfl,rfl⟩⟩,by simp⟩
  · simp only[aC,Qb5]at h
    obtain⟨s,h5,h⟩:=h;have hs:=eT hR h5 xm;split at h
    · rename_i r k m q cI
      simp only[aC,aO,Qb5]at h;obtain⟨_,h6,h⟩:=h;split at h6
      case isFalse=>cases h6
      rename_i hb6;simp only[Qb6,Bool.or_eq_true,Rb0,Sbr]at hb6;have oa:=hs.own;unfold wR at oa;rw[cI]at oa;obtain⟨-,⟨X,hk⟩,oa⟩:=oa;have oy:r∉ry\/Oao ei.cells=true:=hb6.1.imp (fun h=>Bac.1 h) id;split at h
      · refine fin h fun _ ra xn=>?_
        obtain⟨-,gj,-⟩:=oa;simp only[bG,Sbc,List.length_nil,Nat.sub_zero]at gj;rw[xn]at gj;obtain⟨A,b,n,cap,vs,hX⟩:=XOk.ofRp (ρ:=ρ) gj hb6.2 hk (updX:=[(kR r,.root (.c .hole) 0 0 .gone)]) (.inl ⟨rfl,rfl⟩)
        exact ⟨_, A, b, n, cap, vs, hX, fun r' pq mr e => by obtain rfl : r = r' := by injection e with e; injection e
                                                             exact oy⟩
      · rw[iR]at h
        split at h
        · refine fin h fun _ ra xn=>?_
          have gj:Rp G.own w r [] m (a.eval x) (s.x.val ρ):=oa;rw[xn]at gj;obtain⟨A,b,n,cap,vs,hX⟩:=XOk.ofRp (ρ:=ρ) gj hb6.2 hk (updX:=[(kR r,.root (.c .hole) 0 0 .gone)]) (.inl ⟨rfl,rfl⟩)
          exact ⟨_, A, b, n, cap, vs, hX, fun r' pq mr e => by obtain rfl : r = r' := by injection e with e; injection e
                                                               exact oy⟩
        · cases h
      · rename_i q dz
        simp only[aC,aO,Qb5,aW,Rbe]at h;obtain⟨_,h7,h⟩:=h;split at h7
        case isFalse=>cases h7
        rename_i rh;simp only[Qb6,Sbr,Rb0]at rh;rw[hk]at h;dsimp only at h;refine fin h fun fL ra xn=>?_
        obtain⟨hqm,gj,l7⟩:=oa;rw[xn]at gj;have oh:=Caq hg q nv X (.c .hole) fL;obtain⟨A,b,n,cap,vs,hX⟩:=XOk.ofRp (ρ:=ρ) gj (by omega) hk (.inr ⟨_,rfl,oh,l7,by simp[bG];omega⟩)
        exact ⟨_, A, b, n, cap, vs, hX, fun r' pq mr e => by obtain rfl : r = r' := by injection e with e; injection e
                                                             exact oy⟩
      · cases h
      · cases h
    · cases h
end
section
variable {P:Program} {E:Env} {F:bQ} {n:Nat} {σ:Nat->Option aU} {ρ:List D} {a:Act} {w w':World} {G G':Gh} {g:Option (aP×Bool)} {o:Oper} {cf:Nat->List D->Option (List D)} {Q:Exit->Act->World->Prop} {next:Act->World->Prop}
theorem Jaq:∀ {cs:List CK} {zs:List D},Jar cs=some zs->zs.length=cs.length/\∀ (j:Nat) (c:CK) (d:D),cs[j]?=some c->zs[j]?=some d->∀ (v:Value),zeroCell v c=true->∀ (own:Nat->Ow) (r:Nat) (p:List Nat) (m:Nat),Rp own w r p m v d
 | [], zs, h => by
  simp only[Jar,Qb7]at h;subst h;simp
 | c :: cs, zs, h => by
  have main:∀ (d0:D),(Jar cs).map (d0::·)=some zs->(∀ v,zeroCell v c=true->∀ (own:Nat->Ow) (r:Nat) (p:List Nat) (m:Nat),Rp own w r p m v d0) ->
    zs.length=(c::cs).length/\∀ (j:Nat) (c':CK) (d:D),(c::cs)[j]?=some c'->zs[j]?=some d->∀ (v:Value),zeroCell v c'=true->∀ (own:Nat->Ow) (r:Nat) (p:List Nat) (m:Nat),Rp own w r p m v d:=by
   intro d0 h0 hd0;simp only[Rbo]at h0;obtain⟨zs',h1,rfl⟩:=h0;obtain⟨h2,h3⟩:=Jaq h1;refine⟨by simp[h2],fun j c' d hc hd v hv own r p m=>?_⟩
   cases j with
   | zero =>
    simp only[Rbf,Qb7]at hc hd;subst hc hd;exact hd0 v hv own r p m
   |succ j=>exact h3 j c' d (by simpa using hc) (by simpa using hd) v hv own r p m
  have hz:∀ v,zeroCell v c=true->aD (fun _=>none) [] ⟨fun _=>.frz,fun _=>undef,fun _=>⟨0,0,none⟩⟩ w (gP c) v:=fun v hv=>Lad hv
  cases c with
  | sc z =>
   refine main z h fun v hv own r p m=>?_
   have:=hz v hv;simp only[gP,aD,aP.val]at this;exact .sc this
  | sl sz =>
   refine main (.rows sz []) h fun v hv own r p m=>?_
   have:=hz v hv;simp only[gP,aD,aP.val]at this;rw[(this.2 (by simp)).2.1 trivial sz rfl];exact Rp.nil
  |pn=>cases h
  |ot=>cases h
theorem Hak (hR:R E.ntmps F σ ρ a w G)(hd:gG E.ntmps o)(hti:wU P E.ti){nv nb nr:Nat}{mv eR:Bool}(hf:Da2 σ nb nr){t:TypeId}{l c:Operand}(ho:o.op=.makeSlice t l c){res:cK}
  (h:(sH E mv eR nv nb nr g o).eval σ=some res) (cT:aR cf ρ g nv res.lets):iL P E F σ ρ a w g o Q res.upd:=by
 simp only[sH,ho,aC,Qb5,tiR,bA,aO]at h;obtain⟨st,h1,e,h2,ti,h3,_,h4,xl,h5,xc,h6,_,h7,zs,h8,h⟩:=h;split at h4
 case isFalse=>cases h4
 rename_i zv;obtain rfl:=xO zv;split at h7
 case isFalse=>cases h7
 rename_i rh;simp only[Qb6,Sbn]at rh;obtain⟨⟨hxx,ej⟩,hby⟩:=rh;obtain rfl:=aP.beq0_eq hxx;obtain⟨info,u,f⟩:=bD (hti.ok _ _ h1);obtain rfl:=sQ f h2;obtain⟨jw,u',f'⟩:=bD (hti.ok _ _ h3);simp only[vJ,aF,Qb7]at h;subst h;simp only[Gab];refine⟨fun hg=>?_,fun hg=>by simp[gOn]at hg⟩;obtain⟨d,iy,rj⟩:=gW cT hg;have hl:=kL hR hg h5;have hc:=kL hR hg h6;simp only[Rby,Sbc]at iy;generalize hxv:xl.val ρ=xv at iy hl hc;cases xv<;>simp only[aS.run]at iy<;>first|cases iy|skip
 rename_i k len;split at iy
 case isFalse=>cases iy
 rename_i hlen;obtain⟨h0,hbound⟩:=hlen;simp only[Qb7,Sbz,and_true]at iy;obtain⟨z,kf,nq,-,yu⟩:=f'.zeros (σ:=σ) (ρ:=ρ) (G:=G) (w:=w);obtain⟨rk,oS⟩:=Jaq (w:=pushB w (madeCells z.cells (len.toNat*jw.size)) e) h8;have fw:=f'.len;have n4:z.cells.size=ti.size:=by rw[<- Tb2,nq.len,Rb4,fw]
 have bh:len.toNat*1<=len.toNat*ti.bytes:=Nat.mul_le_mul_left _ hby;unfold iM at hbound
 have cP:(execOp a.eval o).run P w=.ok (.value (.slice (some ⟨w.heap.size,0,none⟩) len.toNat len.toNat)) (pushB w (madeCells z.cells (len.toNat*jw.size)) e):=by
  unfold execOp;simp only[ho];refine gT ?_;rw[hl.int_inv,hc.int_inv]
  have ox:(jw.bytes:Int)*len<=281474976710656:=by
   rw[<- f'.bytes];have:((ti.bytes*len.toNat:Nat):Int)<=281474976710656:=by rw[Ubb]at hbound;omega
   rw[Int.natCast_mul]at this;rwa[show ((len.toNat:Nat):Int)=len by omega]at this
  exact run_make w t e jw z f.und f'.info_ kf k k len len h0 (Int.le_refl _) ox (by omega)
 have jv:σ (kR nr)=none:=hf.nr nr (Rbt _) (by unfold dE;omega);have mi:∀ r,(σ (kR r)).isSome->r≠nr:=fun r hr e=>by rw[e,jv]at hr;cases hr
 have nf:∀ b,G.own b≠.frz->b<w.heap.size:=fun b hb=>by
  rcases Rbu b w.heap.size with h|h
  ·exact h
  ·exact absurd (hR.frame.fresh b h) hb
 refine pK cP ⟨{ G with own:=fun b=>if b=w.heap.size then .slc nr [] else G.own b,hdr:=fun r=>if r=nr then .slice (some ⟨w.heap.size,0,none⟩) len.toNat len.toNat else G.hdr r },?_⟩;refine hR.own hd (wr:=fun _=>False) (f:=fun s p=>.slc s p) ?_ ?_ ?_ ?_ ?_ (fun b bh _=>mZ (by omega)) (fun _ h=>h.elim) (fun _ _ _ _ _=>rfl) ?_ (fun _ _ _ _ _ s p q h=>by injection h with h1 h2;exact⟨h1,h2⟩) ?_ rfl ?_ ?_
 ·intro k c hc
  simp only[Rbb,Rbx]at hc;exact⟨nr,hc.1⟩
 ·intro b bh
  show (if b=w.heap.size then Ow.slc nr [] else _)=_
  rw[if_neg (by omega)];cases hb:G.own b<;>rfl
 ·intro b hb
  rw[mM]at hb;show (if b=w.heap.size then Ow.slc nr [] else G.own b)=.frz
  rw[if_neg (by omega)];exact hR.frame.fresh b (by omega)
 ·exact⟨rfl,rfl,rfl,by rw[mM];omega⟩
 ·intro b hb
  show (if b=w.heap.size then Ow.slc nr [] else G.own b)=.frz\/∃ r p,(if b=w.heap.size then Ow.slc nr [] else G.own b)=.slc r p/\_
  by_cases e:b=w.heap.size
  ·rw[if_pos e];exact .inr ⟨nr,[],rfl,jv⟩
  ·rw[if_neg e];exact .inl (hR.frame.fresh b hb)
 ·intro s c hc _
  simp only[Rbb,Rbx]at hc;obtain⟨e1,rfl⟩:=hc;obtain rfl:=fT e1;exact .inl ⟨jv,_,_,_,_,rfl⟩
 ·intro r hr
  show (if r=nr then _ else _)=_
  rw[if_neg (mi r hr)]
 ·intro _ _
  simp only[dI,aD,if_true];exact⟨trivial,eZ _ _ _ (.inr ⟨_,Rbc _ (Rbb.2 rfl)⟩),rfl⟩
 ·intro _ s c hc _
  simp only[Rbb,Rbx]at hc;obtain⟨e1,rfl⟩:=hc;obtain rfl:=fT e1;refine⟨_,_,_,_,rfl,?_⟩;simp only[dB,if_true];rw[rj,<- iy];have l8:zs.length=ti.size:=by rw[rk,fw]
  have nz:∀ k,k<len.toNat*ti.size->(madeCells z.cells (len.toNat*jw.size))[k]?=z.cells[k % ti.size]?:=by
   intro k hk;unfold madeCells;rw[Gbh _ (by omega) _ _ (by rw[<- f'.size];exact hk),n4]
  have mf:∀ i row,(Rbs len.toNat zs)[i]?=some row->∀ j d,row[j]?=some d->i<len.toNat/\row=zs/\j<ti.size/\i*ti.size+j<len.toNat*ti.size/\(i*ti.size+j) % ti.size=j:=by
   intro i row hi j d hj;rw[List.getElem?_replicate]at hi;split at hi
   case isFalse=>cases hi
   rename_i pr;obtain rfl:=Rb5 hi;have nu:j<ti.size:=by rw[<- l8];exact (Qb8.1 hj).1
   have:=Nat.mul_le_mul_right ti.size (show i+1<=len.toNat by omega);rw[Nat.add_mul]at this;exact⟨pr,rfl,nu,by omega,by rw[Ubb,Nat.mul_add_mod,Nat.mod_eq_of_lt nu]⟩
  refine .sl _ ⟨w.heap.size,0,none⟩ len.toNat len.toNat zs.length _ (fun i j=>z.cells[j]!) (by simp) (Rbt _) (.inl rfl) (fun row hr=>?_) (fun _=>⟨rfl,by simp,fun k hk=>?_⟩) (fun i row hi j d hj=>?_) (fun i row hi j d hj=>?_)
  ·rw[List.eq_of_mem_replicate hr]
  ·rw[l8]at hk
   rw[qI,Pav,nz k hk];have hk2:k % ti.size<z.cells.size:=by rw[n4];exact Nat.mod_lt _ ej
   exact⟨_,Rb9 hk2,rfl⟩
  ·obtain⟨i1,rfl,i3,i4,i5⟩:=mf i row hi j d hj
   rw[qI,l8,nz _ i4,i5,getElem!_pos z.cells j (by omega),Rb9]
  ·obtain⟨i1,rfl,i3,i4,i5⟩:=mf i row hi j d hj
   have gl:ti.cells[j]?=some ti.cells[j]:=Rba (by omega);exact oS j _ d gl hj _ (yu j _ _ (by rw[getElem!_pos z.cells j (by omega),Rb9]) gl) _ _ _ _
theorem Ra6 (hR:R E.ntmps F σ ρ a w G)(hd:gG E.ntmps o)(hti:wU P E.ti){nv:Nat}{args:Array Operand}{argTypes:Array TypeId}(ho:o.op=.call { callee:=.builtin .clear,args,argTypes })
  {x:Operand} (fp:args.toList=[x]) {t e:TypeId} {ti ei:TI} (ht:argTypes[0]?=some t) (hi:E.ti t=some ti) (he:ti.elem=some e) (si:E.ti e=some ei) (gv:(noG g&&Nat.beq argTypes.size 1)=true) {l:aT} (hl:(rdL E g t x).eval σ=some l) {res:cK}
  (h:(Raz nv o ei l).eval σ=some res) (cT:aR cf ρ g nv res.lets):iL P E F σ ρ a w g o Q res.upd:=by
 simp only[Qb6,Rb3]at gv;obtain rfl:=xO gv.1
 have ig:argTypes=#[t]:=by
  apply Ub1;apply Ubq;intro k
  match k with
  |0=>simpa using ht
  |k+1=>simp[gv.2]
 simp only[Raz,aC,Qb5]at h;obtain⟨s,h1,h⟩:=h;split at h
 case h_2=>cases h
 rename_i r k m sz lo cI;simp only[aC,aO,Qb5,aW,Rbe]at h;obtain⟨_,h2,h⟩:=h;split at h2
 case isFalse=>cases h2
 rename_i hb;simp only[Qb6,Rb3,Sbr]at hb;obtain⟨⟨rfl,a6d⟩,oR⟩:=hb;split at h
 case h_2=>cases h
 rename_i X m' cQ hk;simp only[aF,Qb7]at h;subst h;refine⟨fun hg=>?_,fun hg=>by simp[gOn]at hg⟩;obtain⟨i1,u1,f1⟩:=bD (hti.ok _ _ hi);obtain rfl:=sQ f1 he;obtain⟨i2,u2,f2⟩:=bD (hti.ok _ _ si);have xm:=gJ hR hg hl;have im:=eT hR h1 xm;have oa:=im.own;unfold wR at oa;rw[cI]at oa;obtain⟨-,⟨X0,k7⟩,hsuf⟩:=oa;rw[hk]at k7
 obtain⟨rfl,rfl,rfl⟩:X=X0/\m'=m/\cQ=k:=by
  injection k7 with e;injection e with e1 e2 e3 e4;exact⟨e1,e2,e3⟩
 have fR:=hR.root hk;simp only[dB]at fR;obtain⟨d,iy,rj⟩:=gW cT hg;simp only[Rby,Sbc]at iy
 obtain⟨rs,ki,L,eX,eL,hL0,ed⟩:∃ rs ki L,X.val ρ=.rows 1 rs/\lo.val ρ=.int ki L/\0<=L/\d=.rows 1 (rs.take L.toNat++(rs.drop L.toNat).map fun r=>r.map fun _=>.hole):=by
  cases eX:X.val ρ<;>cases eL:lo.val ρ<;>rw[eX,eL]at iy<;>simp only[aS.run]at iy<;>first|cases iy|skip
  split at iy
  ·rename_i hc
   obtain⟨rfl,hc⟩:=hc;simp only[Qb7,Sbz,and_true]at iy;exact⟨_,_,_,rfl,rfl,hc,iy.symm⟩
  ·cases iy
 have mf:mO ρ lo=L.toNat:=by unfold mO;rw[eL]
 dsimp only at hsuf;rw[mf]at hsuf;rw[eX]at fR;obtain⟨md,rfl⟩:∃ md,m'=md+1:=⟨m'-1,by omega⟩;obtain⟨A,b,n,c,vs,j1,j2,j3,j4,j5,j6,j7,j8⟩:=fR.sl_inv;obtain⟨A',n',c',k1,k2,k3⟩:=hsuf;rw[j1]at k1;obtain⟨rfl,rfl,rfl⟩:A=A'/\n=n'/\c=c':=by injection k1 with a b c;exact⟨a,b,c⟩
 obtain⟨z,kf,nq,yu,-⟩:=f2.zeros (σ:=σ) (ρ:=ρ) (G:=G) (w:=w);have rk:z.cells.size=1:=by rw[<- Tb2,nq.len,Rb4,f2.len,a6d]
 generalize hZ:(Builtin.zeroCells z.cells (n-L.toNat)).toList=Z;have hZl:Z.length=n-L.toNat:=by rw[<- hZ];simp[Builtin.zeroCells,rk]
 have hZ1:∀ u∈Z,u.oneCell'=true:=by
  intro u hu;rw[<- hZ,Builtin.zeroCells,Array.mem_toList_iff,Array.mem_map]at hu;obtain⟨i,hi,rfl⟩:=hu;have bh:i % z.cells.size<z.cells.size:=Nat.mod_lt _ (by omega);rw[getElem!_pos z.cells _ bh];exact yu _ (Array.getElem_mem_toList bh)
 have kO:∀ {v:Value} {w1:World},(Builtin.clear_ #[t] o.type #[a.eval x]).run P w=.ok v w1->(execOp a.eval o).run P w=.ok (.value v) w1:=by
  intro v w1 h;refine nO ho (s:=Builtin.clear_ argTypes o.type (args.map a.eval)) (fun _=>rfl) ?_;rw[Oad fp,San,ig];exact h
 rw[k3]at kO
 obtain⟨w',cP,hw⟩:∃ w',(execOp a.eval o).run P w=.ok (.value (.tuple #[])) w'/\((n=L.toNat/\w'=w)\/(L.toNat<n/\A=some b/\w'=w.setCells b.block (b.off+L.toNat) Z)):=by
  rcases Rbu L.toNat n with bh|mo
  ·obtain rfl:A=some b:=by
    rcases j4 with h|⟨-,h⟩
    ·exact h
    ·omega
   obtain⟨fN,mj,df⟩:=j6 rfl
   have eM:∀ j,j<Z.length->∃ u,w.cell? ⟨b.block,b.off+L.toNat+j,none⟩=some u/\w.frozen? ⟨b.block,b.off+L.toNat+j,none⟩=false:=fun j hj=>by
    have:=df (L.toNat+j) (by omega);rw[add_plain fN,<- Rbp]at this;exact this.imp fun u h=>⟨h.1,pE h.2 rfl⟩
   have cT:=run_storeCells_cells (P:=P) b.block (b.off+L.toNat) Z 0 w (fun j hj=>by obtain⟨u,h1,-⟩:=eM j hj;rw[Sbg,h1];rfl) (fun j hj=>by rw[Sbg];exact (eM j hj).choose_spec.2) hZ1;refine⟨_,kO ?_,.inr ⟨bh,rfl,rfl⟩⟩;obtain⟨q,hq⟩:∃ q,n-L.toNat=q+1:=⟨n-L.toNat-1,by omega⟩;rw[if_neg (by omega),hq];rw[hq]at hZ;simp only[Option.map_some,Nat.mul_one,add_plain fN];simp only[Sbg]at cT;simp[Builtin.clear_,run_underlying f1.und,mX f2.info_ kf,hZ,cT]
  ·refine⟨w,kO ?_,.inl ⟨by omega,rfl⟩⟩
   have e0:n-L.toNat=0:=by omega
   rw[e0];simp only[Builtin.clear_];cases (if c=L.toNat then A else A.map (·.add (L.toNat*1)))<;>simp[run_underlying f1.und]
 have nj:w'.os=w.os/\w'.tape=w.tape/\w'.output=w.output/\w.heap.size<=w'.heap.size:=by
  rcases hw with ⟨-,rfl⟩|⟨-,-,rfl⟩
  ·exact⟨rfl,rfl,rfl,Rbt _⟩
  ·obtain⟨q1,q2,q3⟩:=dP b.block Z (b.off+L.toNat) w
   exact⟨q1,q2,q3,by rw[setCells_size];exact Rbt _⟩
 have pB:w'.heap.size=w.heap.size:=by
  rcases hw with ⟨-,rfl⟩|⟨-,-,rfl⟩
  ·rfl
  ·rw[setCells_size]
 have dk:∀ b',¬ (A=some b/\b'=b.block)->w'.heap[b']?=w.heap[b']?:=by
  intro b' e9
  rcases hw with ⟨-,rfl⟩|⟨-,hA,rfl⟩
  ·rfl
  ·exact bO _ _ _ _ _ fun e=>e9 ⟨hA,e⟩
 refine pK cP ⟨G,?_⟩
 have ja:=hR.own (o:=o) hd (g:=none) (sv:=.dead) (v:=.tuple #[]) (w':=w') (G':=G) (ur:=[(kR r,.root (.v nv) (md+1) (cQ+1) .live)]) (f:=fun s p=>.slc s p) (wr:=fun b'=>A=some b/\b'=b.block)
  ?_ (fun b' _=>by cases hb:G.own b'<;>rfl) (fun b' hb=>hR.frame.fresh b' (by omega)) nj (fun b' hb=>.inl (hR.frame.fresh b' hb)) (fun b' _ hb=>dk b' hb) ?_ (fun _ _ _ _ _=>rfl) ?_ (fun _ _ _ _ _ s p q h=>by injection h with h1 h2;exact⟨h1,h2⟩) (fun _ _=>rfl) rfl (fun _ _=>trivial) ?_
 ·exact ja
 ·intro k' c' hc
  exact⟨r,(Tbw (Rbb.1 hc)).1⟩
 ·rintro b' ⟨hA,rfl⟩
  exact⟨r,[],(j6 hA).2.1,_,Rbb.2 rfl⟩
 ·intro s' c' hc _
  obtain⟨e1,rfl⟩:=Tbw (Rbb.1 hc);obtain rfl:=fT e1;exact .inr (.inl ⟨_,_,_,_,_,hk,rfl⟩)
 ·intro _ s' c' hc _
  obtain⟨e1,rfl⟩:=Tbw (Rbb.1 hc);obtain rfl:=fT e1;refine⟨_,_,_,_,rfl,?_⟩;simp only[dB];rw[rj,ed,j1]
  have jn:∀ k u,w.cell? (b.add k)=some u->A=some b->(k<L.toNat->w'.cell? (b.add k)=some u)/\(∃ u',w'.cell? (b.add k)=some u')/\fzq w' (b.add k)=fzq w (b.add k):=by
   intro k u hc hA;obtain⟨fN,mj,df⟩:=j6 hA
   rcases hw with ⟨-,rfl⟩|⟨bh,-,rfl⟩
   ·exact⟨fun _=>hc,⟨u,hc⟩,rfl⟩
   ·refine⟨fun hk=>?_,?_,fD⟩
    ·rw[add_plain fN]at hc ⊢
     rw[World.cell?_setCells_out _ _ _ _ _ (fun _ _=>.inl (by dsimp only;omega))];exact hc
    ·exact dV (fun _=>by rw[add_plain fN]) (fun j hj=>by
      obtain⟨u',h1,-⟩:=df (L.toNat+j) (by omega);rw[add_plain fN,<- Rbp]at h1;rw[h1];rfl) hc
  have xf:∀ i,i<n->A=some b:=fun i hi=>by
   rcases j4 with h|⟨-,h⟩
   ·exact h
   ·omega
  have gr:∀ i row,(rs.take L.toNat++(rs.drop L.toNat).map fun r=>r.map fun _=>D.hole)[i]?=some row->(i<L.toNat/\rs[i]?=some row)\/(L.toNat<=i/\∃ row0,rs[i]?=some row0/\row=row0.map fun _=>D.hole):=by
   intro i row hi;have iz:(rs.take L.toNat).length=L.toNat:=by rw[Rbv];omega
   rcases Rbu i L.toNat with bh|mo
   ·rw[Rbm (by omega),List.getElem?_take,if_pos bh]at hi
    exact .inl ⟨bh,hi⟩
   ·rw[Rbj (by omega),iz,Sbd,Rbo]at hi
    obtain⟨row0,h1,rfl⟩:=hi;rw[List.getElem?_drop,show L.toNat+(i-L.toNat)=i by omega]at h1;exact .inr ⟨mo,row0,h1,rfl⟩
  refine .sl A b n c 1 _ (fun i j=>if i<L.toNat then vs i j else (w'.cell? (b.add (i*1+j))).getD undef) ?_ j3 j4 ?_ (fun hA=>?_) (fun i row hi j d hj=>?_) (fun i row hi j d hj=>?_)
  ·rw[Rbh,Rbv,Rb4,List.length_drop];omega
  ·intro row hr
   obtain⟨i,hi⟩:=Sbt.1 hr
   rcases gr i row hi with ⟨-,h⟩|⟨-,row0,h,rfl⟩
   ·exact j5 row (Rbn h)
   ·rw[Rb4];exact j5 row0 (Rbn h)
  ·obtain⟨fN,mj,df⟩:=j6 hA
   refine⟨fN,mj,fun k hk=>?_⟩;obtain⟨u,hu,hf⟩:=df k hk;obtain⟨-,⟨u',h1⟩,h2⟩:=jn k u hu hA;exact⟨u',h1,h2.trans hf⟩
  ·rcases gr i row hi with ⟨bh,h⟩|⟨mo,row0,h,rfl⟩
   ·rw[if_pos bh]
    have nu:j<1:=by rw[<- j5 row (Rbn h)];exact (Qb8.1 hj).1
    exact (jn _ _ (j7 i row h j d hj) (xf i (by rw[<- j2];exact (Qb8.1 h).1))).1 (by omega)
   ·rw[if_neg (by omega)]
    rw[Sbd,Rbo]at hj;obtain⟨d0,hj,-⟩:=hj;obtain⟨-,⟨u',h1⟩,-⟩:=jn _ _ (j7 i row0 h j d0 hj) (xf i (by rw[<- j2];exact (Qb8.1 h).1));rw[h1];rfl
  ·rcases gr i row hi with ⟨bh,h⟩|⟨mo,row0,h,rfl⟩
   ·rw[if_pos bh]
    have h1:=j8 i row h j d hj;have:=h1.mono' (own':=G.own) (w':=w') (r':=s') (q:=[i*1+j]) (q':=[i*1+j]) (fun b' hb _=>⟨hb,dk b' fun ⟨hA,e⟩=>by rw[e,(j6 hA).2.1]at hb;cases hb⟩) [] (by simp) (fun b' t' hb=>⟨hb,dk b' fun ⟨hA,e⟩=>by rw[e,(j6 hA).2.1]at hb;injection hb with _ hb;simp at hb⟩);simpa using this
   ·rw[if_neg (by omega)]
    rw[Sbd,Rbo]at hj;obtain⟨d0,hj,rfl⟩:=hj;refine .hole _ ?_;have pr:i<n:=by rw[<- j2];exact (Qb8.1 h).1
    have hA:=xf i pr
    rcases hw with ⟨hn,-⟩|⟨bh,-,rfl⟩
    ·omega
    ·obtain⟨fN,mj,df⟩:=j6 hA
     have nu:j<1:=by rw[<- j5 row0 (Rbn h)];exact (Qb8.1 hj).1
     have nx:i-L.toNat<Z.length:=by omega
     have:=World.cell?_setCells_in b.block Z (b.off+L.toNat) w (fun j hj=>by obtain⟨u,h1,-⟩:=df (L.toNat+j) (by omega);rw[add_plain fN,<- Rbp]at h1;rw[h1];rfl) (i-L.toNat) nx;rw[show b.off+L.toNat+(i-L.toNat)=b.off+(i*1+j) by omega]at this;rw[add_plain fN,this];exact hZ1 _ (List.getElem_mem nx)
end
section
variable {P:Program} {E:Env} {F:bQ} {n:Nat} {σ:Nat->Option aU} {ρ:List D} {a:Act} {w w':World} {G G':Gh} {g:Option (aP×Bool)} {o:Oper} {cf:Nat->List D->Option (List D)} {Q:Exit->Act->World->Prop} {next:Act->World->Prop}
theorem Haj (hR:R E.ntmps F σ ρ a w G)(hti:wU P E.ti){nv nb nr:Nat}{mv eR:Bool}{t:TypeId}{x y:Operand}(ho:o.op=.store t x y){res:cK}
  (h:(sH E mv eR nv nb nr g o).eval σ=some res) (cT:aR cf ρ g nv res.lets):iL P E F σ ρ a w g o Q res.upd:=by
 simp only[sH,ho,aC,Qb5,tiR,bA]at h;obtain⟨ti,h1,p,h2,sv,h3,h⟩:=h;split at h
 case h_2=>cases h
 rename_i ls rr;have hx:gOn ρ g=true->aD σ ρ G w p (a.eval x):=fun hg=>gJ hR hg h2
 have hy:gOn ρ g=true->dI σ ρ G w sv (a.eval y):=fun hg=>gY hR hg h3
 cases p with
 |px b off=>exact Jah hR hti ho h1 hx hy rr h
 |pe l sz i off=>exact Jai hR hti ho h1 hx hy rr h cT
 | _ =>
  simp only[Da7,aC,aO,Qb5,cZ]at h;obtain⟨_,_,h⟩:=h;cases h
theorem Gam (hR:R E.ntmps F σ ρ a w G)(hd:gG E.ntmps o)(hti:wU P E.ti){nv nb nr:Nat}{mv eR:Bool}(hf:Da2 σ nb nr){res:cK}
  (h:(sH E mv eR nv nb nr g o).eval σ=some res) (cT:aR cf ρ g nv res.lets)
  (jy:∀ f args argTypes,o.op=.call { callee:=.value f,args,argTypes }->iL P E F σ ρ a w g o Q res.upd):iL P E F σ ρ a w g o Q res.upd:=by
 have h0:=h
 cases ho:o.op with
 | move x =>
  simp only[sH,ho]at h;exact Ja6 hR hd (.inl ho) h cT
 | assign x =>
  simp only[sH,ho]at h;exact Ja6 hR hd (.inr ho) h cT
 | pick c x y =>
  simp only[sH,ho]at h;exact Vam hR hd ho h cT
 |alloc e=>exact Ra8 hR hd hti hf ho h cT
 |box e x=>exact Xao hR hd hti hf ho h cT
 |build t parts=>exact Ra7 hR hd hti ho h cT
 |buildSlice t len parts=>exact wM hR hd hti (hf.nr nr (Rbt _) (by unfold dE;omega)) ho h cT
 | load t x =>
  simp only[sH,ho,aC,Qb5,tiR,bA]at h;obtain⟨ti,h1,p,h2,h⟩:=h;exact Van hR hd hti ho h1 (fun hg=>gJ hR hg h2) h cT
 |store t x y=>exact Haj hR hti ho h cT
 | nilCheck x =>
  simp only[sH,ho]at h;exact Jaj hR hd ho h cT
 | binOp op t x y ty =>
  by_cases h1:op=.eql
  ·subst h1
   simp only[sH,ho]at h;exact Taw hR hd hti ho rfl h cT
  ·by_cases h2:op=.neq
   ·subst h2
    simp only[sH,ho]at h;exact Taw hR hd hti ho rfl h cT
   ·have h':(do
      let a <- rdA E g t x
      let b <- rdA E g ty y
      vI o g nv (.bin op) [a,b]:RdM cK).eval σ=some res:=by
     simp only[sH,ho]at h;cases op<;>first|exact h|(exact absurd rfl h1)|(exact absurd rfl h2)
    simp only[aC,Qb5]at h';obtain⟨x',h3,y',h4,h5⟩:=h';exact Paa hR hd ho (fun hg=>kL hR hg h3) (fun hg=>kL hR hg h4) h5 cT
 | unOp op t x =>
  simp only[sH,ho]at h;exact Ebc hR hd ho h cT
 | convert src dst x =>
  simp only[sH,ho,aC,Qb5,tiR,bA]at h;obtain⟨s,h1,d,h2,h⟩:=h;split at h
  ·rename_i k hk
   simp only[aC,Qb5,aO]at h;obtain⟨_,h3,x',h4,h⟩:=h;split at h3
   case isFalse=>cases h3
   rename_i hs;exact Vao hR hd hti ho h1 hs h2 hk h4 h cT
  ·rw[iR]at h
   split at h
   case isFalse=>cases h
   rename_i hdS;rw[iR]at h;split at h
   ·rename_i hsS
    simp only[aC,Qb5]at h;obtain⟨x',h4,h⟩:=h;exact Oa8 hR hd hti ho h1 hsS h2 hdS h4 h cT
   ·simp only[aC,Qb5,aO,bA]at h
    obtain⟨e,h3,ei,h4,_,h5,l,h6,r,h7,h⟩:=h;split at h5
    case isFalse=>cases h5
    rename_i hk;exact Vap hR hd hti ho h1 h3 h4 hk h2 hdS h6 h7 h cT
 | makeFunc fn first gi =>
  cases fn with
  | func fn =>
   simp only[sH,ho]at h;exact Jak hR hd ho h cT
  |_=>simp only[sH,ho]at h;cases h
 |makeSlice t l c=>exact Hak hR hd hti hf ho h cT
 |slice t x lo hi mx=>exact Ra3 hR hd hti ho h cT
 | fieldAddr t x k =>
  simp only[sH,ho,aC,Qb5,tiR,bA]at h;obtain⟨ti,h1,h⟩:=h;split at h
  case h_2=>cases h
  rename_i off ft ic;simp only[aC,Qb5,aO,bA]at h;obtain⟨fi,h2,_,h3,p,h4,h⟩:=h;split at h3
  case isFalse=>cases h3
  rename_i qb;exact Ham hR hd hti ho h1 ic h2 (by simpa using qb) (by simp only[aC,Qb5];exact⟨p,h4,h⟩) cT
 | field t x k =>
  simp only[sH,ho,aC,Qb5,tiR,bA]at h;obtain⟨ti,h1,h⟩:=h;split at h
  case h_2=>cases h
  rename_i off ft ic;simp only[aC,Qb5,bA]at h;obtain⟨fi,h2,sv,h3,h⟩:=h;exact Ra5 hR hd hti ho h1 ic h2 (by simp only[aC,Qb5];exact⟨sv,h3,h⟩) cT
 | indexAddr t x i =>
  simp only[sH,ho,aC,Qb5,tiR,bA]at h;obtain⟨ti,h1,e,h2,ei,h3,l,h4,s,h5,y,h6,u,h7,h⟩:=h;exact Hal hR hd hti ho h1 h2 h3 (by simp only[aC,Qb5];exact⟨l,h4,s,h5,y,h6,u,h7,h⟩) cT
 | index t x i =>
  simp only[sH,ho,aC,Qb5,tiR,bA]at h;obtain⟨ti,h1,h⟩:=h;exact Ra4 hR hd hti ho h1 (by simp only[aC,Qb5];exact h) cT
 | extract x i =>
  simp only[sH,ho]at h;exact Ma2 hR hd ho h cT
 | call c =>
  obtain⟨callee,args,argTypes⟩:=c
  cases callee with
  |value f=>exact jy f args argTypes ho
  |invoke recv name=>simp only[sH,ho]at h;cases h
  | builtin b =>
   simp only[sH,ho]at h
   cases fp:args.toList with
   | nil =>
    rw[fp]at h;cases b<;>first|(cases h;done)|skip
    all_goals
     simp only[aC,Qb5,bA]at h;obtain⟨p7,h1,as,h2,h⟩:=h;obtain⟨ls,h3,h4⟩:=h2
     first
     |exact jD hR hd (.inl ⟨rfl,rfl,rfl⟩) ho (by rw[fp];exact h1) h3 h4 h cT
     |exact jD hR hd (.inr ⟨rfl,rfl,rfl⟩) ho (by rw[fp];exact h1) h3 h4 h cT
   | cons x xs =>
    rw[fp]at h
    cases xs with
    | nil =>
     cases b<;>first|(cases h;done)|skip
     ·simp only[aC,Qb5,bA,tiR,aO]at h
      obtain⟨t,h1,ti,h2,e,h3,ei,h4,_,h5,l,h6,h⟩:=h;split at h5
      case isFalse=>cases h5
      rename_i gv;exact Ra6 hR hd hti ho fp h1 h2 h3 h4 gv h6 h cT
     ·simp only[aC,Qb5,bA,tiR]at h
      obtain⟨t,h1,ti,h2,h⟩:=h;exact Xan hR hd hti ho fp h1 h2 (by simp only[aC,Qb5];exact h) cT
     all_goals
      simp only[aC,Qb5,bA]at h;obtain⟨p7,h1,as,h2,h⟩:=h;obtain⟨ls,h3,h4⟩:=h2
      first
      |exact jD hR hd (.inl ⟨rfl,rfl,rfl⟩) ho (by rw[fp];exact h1) h3 h4 h cT
      |exact jD hR hd (.inr ⟨rfl,rfl,rfl⟩) ho (by rw[fp];exact h1) h3 h4 h cT
    | cons y ys =>
     cases ys with
     | nil =>
      cases b<;>first|(cases h;done)|skip
      ·simp only[aC,Qb5,bA,tiR,aO]at h
       obtain⟨t,h1,ty,h2,ti,h3,e,h4,ei,h5,yi,h6,_,h7,lx,h8,ly,h9,h⟩:=h;split at h7
       case isFalse=>cases h7
       rename_i gv;exact Pab hR hd hti hf ho fp h1 h2 h3 h4 h5 h6 gv h8 h9 h cT
      all_goals
       simp only[aC,Qb5,bA]at h;obtain⟨p7,h1,as,h2,h⟩:=h;obtain⟨ls,h3,h4⟩:=h2
       first
       |exact jD hR hd (.inl ⟨rfl,rfl,rfl⟩) ho (by rw[fp];exact h1) h3 h4 h cT
       |exact jD hR hd (.inr ⟨rfl,rfl,rfl⟩) ho (by rw[fp];exact h1) h3 h4 h cT
     | cons z zs =>
      cases b<;>first|(cases h;done)|skip
      all_goals
       simp only[aC,Qb5,bA]at h;obtain⟨p7,h1,as,h2,h⟩:=h;obtain⟨ls,h3,h4⟩:=h2
       first
       |exact jD hR hd (.inl ⟨rfl,rfl,rfl⟩) ho (by rw[fp];exact h1) h3 h4 h cT
       |exact jD hR hd (.inr ⟨rfl,rfl,rfl⟩) ho (by rw[fp];exact h1) h3 h4 h cT
 |_=>simp only[sH,ho]at h;cases h
end
theorem Tr.get_set {α:Type}:∀ (d:Nat) (t:Tr α) (n m:Nat) (x:Option α),(Tr.set d t n x).get m=if m=n then x else t.get m
 | 0, t, n, m, x => by
  simp only[Tr.set,Tr.get];by_cases h:m=n
  ·subst h;simp
  ·have:Nat.beq m n=false:=by
    cases e:Nat.beq m n with
    |false=>rfl
    |true=>simp only[Rb3]at e;exact absurd e h
   rw[this,cond_false,if_neg h]
 | d + 1, .over k y t, n, m, x => by
  simp only[Tr.set];by_cases h:m=n
  ·subst h;simp[Tr.get]
  ·have:Nat.beq m n=false:=by
    cases e:Nat.beq m n with
    |false=>rfl
    |true=>simp only[Rb3]at e;exact absurd e h
   rw[if_neg h];show (bif Nat.beq m n then x else _)=_
   rw[this,cond_false]
 | d + 1, .nil, n, m, x => by
  have ih:=fun t n m=>Tr.get_set (α:=α) d t n m x
  simp only[Tr.set];have b0:∀ k,Nat.beq k 0=decide (k=0):=fun k=>by cases k<;>simp[Nat.beq]
  have b1:∀ k,Nat.beq (k % 2) 1=decide (k % 2=1):=fun k=>by
   rcases Nat.mod_two_eq_zero_or_one k with h|h<;>rw[h]<;>rfl
  rw[b0,b1];by_cases h0:n=0
  ·simp only[h0,decide_true,cond_true,Tr.get]
   rw[b0,b1];by_cases hm:m=0
   ·simp[hm]
   ·simp[hm,Tr.get]
  ·by_cases h1:n % 2=1
   ·simp only[h0,decide_false,cond_false,h1,decide_true,cond_true,Tr.get]
    rw[b0,b1];by_cases hm:m=0
    ·subst hm;simp[Ne.symm h0]
    ·by_cases oR:m % 2=1
     ·simp only[hm,decide_false,cond_false,oR,decide_true,cond_true,ih,Tr.get]
      by_cases e:m=n
      ·rw[if_pos e,if_pos (by rw[e])]
      ·rw[if_neg e,if_neg (by omega)]
     ·have e:m≠n:=fun e=>oR (e▸h1)
      simp[hm,oR,e,Tr.get]
   ·simp only[h0,decide_false,cond_false,h1,Tr.get]
    rw[b0,b1];by_cases hm:m=0
    ·subst hm;simp[Ne.symm h0]
    ·by_cases oR:m % 2=1
     ·have e:m≠n:=fun e=>h1 (e▸oR)
      simp[hm,oR,e,Tr.get]
     ·simp only[hm,decide_false,cond_false,oR,ih,Tr.get]
      by_cases e:m=n
      ·rw[if_pos e,if_pos (by rw[e])]
      ·rw[if_neg e,if_neg (by omega)]
 | d + 1, .node y l r, n, m, x => by
  have ih:=fun t n m=>Tr.get_set (α:=α) d t n m x
  simp only[Tr.set];have b0:∀ k,Nat.beq k 0=decide (k=0):=fun k=>by cases k<;>simp[Nat.beq]
  have b1:∀ k,Nat.beq (k % 2) 1=decide (k % 2=1):=fun k=>by
   rcases Nat.mod_two_eq_zero_or_one k with h|h<;>rw[h]<;>rfl
  rw[b0,b1];by_cases h0:n=0
  ·simp only[h0,decide_true,cond_true,Tr.get]
   rw[b0,b1];by_cases hm:m=0
   ·simp[hm]
   ·simp[hm,Tr.get]
  ·by_cases h1:n % 2=1
   ·simp only[h0,decide_false,cond_false,h1,decide_true,cond_true,Tr.get]
    rw[b0,b1];by_cases hm:m=0
    ·subst hm;simp[Ne.symm h0]
    ·by_cases oR:m % 2=1
     ·simp only[hm,decide_false,cond_false,oR,decide_true,cond_true,ih,Tr.get]
      by_cases e:m=n
      ·rw[if_pos e,if_pos (by rw[e])]
      ·rw[if_neg e,if_neg (by omega)]
     ·have e:m≠n:=fun e=>oR (e▸h1)
      simp[hm,oR,e,Tr.get]
   ·simp only[h0,decide_false,cond_false,h1,Tr.get]
    rw[b0,b1];by_cases hm:m=0
    ·subst hm;simp[Ne.symm h0]
    ·by_cases oR:m % 2=1
     ·have e:m≠n:=fun e=>h1 (e▸oR)
      simp[hm,oR,e,Tr.get]
     ·simp only[hm,decide_false,cond_false,oR,ih,Tr.get]
      by_cases e:m=n
      ·rw[if_pos e,if_pos (by rw[e])]
      ·rw[if_neg e,if_neg (by omega)]
section
variable {P:Program} {E:Env} {F:bQ} {n:Nat} {σ:Nat->Option aU} {ρ:List D} {a:Act} {w w':World} {G G':Gh} {g:Option (aP×Bool)} {o:Oper}
def Jbi:Value->Option Bool
 |.bool b=>some b
 |_=>none
theorem Uak {x:aP}{want:Bool}{v:Value}(h:Sc v (x.val ρ)\/(v=undef/\x.val ρ=.undef)):gOn ρ (some (x,want))=(Jbi v==some want):=by
 have key:∀ d:D,x.val ρ=d->gOn ρ (some (x,want))=(match d with|.bool b=>b==want|_=>false):=by
  intro d hd;simp only[gOn,hd];cases d<;>rfl
 rcases h with h|⟨rfl,h⟩
 ·rw[key _ rfl]
  generalize x.val ρ=d at h
  cases h with
  |int k n=>rfl
  |bool b=>cases b<;>cases want<;>rfl
  |str l=>rfl
 ·rw[key _ h]
  rfl
theorem Saf (hR:R E.ntmps F σ ρ a w G){ops:Array Oper}(hd:∀ o∈ops.toList,gG E.ntmps o)(h:(Ma7 ops.toList o).eval σ=some g):Region.wanted o (yielded ops a.tmps)=gOn ρ g:=by
 unfold Ma7 at h;unfold Region.wanted;split at h
 ·rename_i ho
  simp only[aF,Qb7]at h;subst h;simp[ho,gOn]
 ·rename_i j want ho
  simp only[ho];split at h
  ·rename_i d hj
   have hdn:d<E.ntmps:=by
    cases hoj:ops.toList[j]? with
    |none=>rw[hoj]at hj;cases hj
    | some oj =>
     rw[hoj,Rbe]at hj;exact hd oj (Rbn hoj) d hj
   have hy:yielded ops a.tmps j=Jbi (Bap E.ntmps a F.gh d):=by
    unfold yielded Bap;have:(ops[j]?).bind (·.dst)=some d:=by rw[<- hj,Array.getElem?_toList]
    rw[this,Rbe,if_pos hdn];have bh:d<a.tmps.size:=by rw[hR.tmps];exact hdn
    rw[Rb9 bh,Array.getD_eq_getD_getElem?,Rb9 bh,Option.getD_some];cases a.tmps[d]<;>rfl
   rw[hy];simp only[Abh]at h;split at h
   ·rename_i x hk
    simp only[aF,Qb7]at h;subst h;have:=hR.slot hk rfl;simp only[dI,aD]at this;exact (Uak (.inl this)).symm
   ·rename_i g' x hk
    simp only[aF,Qb7]at h;subst h;have:=hR.slot hk rfl;simp only[dI,aD]at this;exact (Uak this.1).symm
   ·cases h
  ·cases h
end
theorem tO {n:Nat}{ρ ext:List D}{x:aP}(h:bF n x=true)(hn:n<=ρ.length):x.val (ρ++ext)=x.val ρ:=by
 refine aP.val_append (n:=n) ?_
 cases x with
 | v i =>
  simp only[bF,Sbn]at h;simp only[aP.ok];omega
 |c d=>trivial
theorem Ia8 {n:Nat}{ρ ext:List D}{xs:List aP}(h:xs.all (bF n)=true)(hn:n<=ρ.length):xs.map (·.val (ρ++ext))=xs.map (·.val ρ):=by
 apply List.map_congr_left;intro x hx;rw[Rb6]at h;exact tO (h x hx) hn
theorem zR {n:Nat}{ρ ext:List D}{g:Option (aP×Bool)}(h:rH n g=true)(hn:n<=ρ.length):gOn (ρ++ext) g=gOn ρ g:=by
 cases g with
 |none=>rfl
 | some z =>
  obtain⟨x,w⟩:=z;simp only[rH]at h;simp only[gOn,tO h hn]
theorem Daz {ρ ds ext:List D}{j:Nat}{d:D}(h:ds[j]?=some d):(aP.v (ρ.length+j)).val (ρ++ds++ext)=d:=by
 have bh:=(Qb8.1 h).1;simp only[aP.val,List.getD_eq_getElem?_getD];rw[Rbd,Rbj (by omega),Rbm (by omega),Sbi,h];rfl
theorem yG {n m:Nat}{g:Option (aP×Bool)}(h:rH n g=true)(hm:n<=m):rH m g=true:=by
 cases g with
 |none=>rfl
 | some z =>
  obtain⟨x,w⟩:=z
  cases x with
  |v i=>simp only[rH,bF,Sbn]at h ⊢;omega
  |c d=>rfl
section
variable {cf:Nat->List D->Option (List D)}
noncomputable def Ec {β:Type}(cf:Nat->List D->Option (List D))(t:Tm β)(ρ:List D):Option (Out β):=lim fun n=>runT cf n t ρ
noncomputable def Lc {β:Type}(cf:Nat->List D->Option (List D))(body:Tm β)(ρ vs:List D):Option (Out β):=lim fun n=>iter n (fun vs=>runT cf n body (ρ++vs)) vs
theorem Jba {β:Type}(t:Tm β)(ρ:List D):Ram fun n=>runT cf n t ρ:=fun n _ h=>Hap (fun f _ _ h=>h) (Ubg n) t _ _ h
theorem Qbb {β:Type}(body:Tm β)(ρ vs:List D):Ram fun n=>iter n (fun vs=>runT cf n body (ρ++vs)) vs :=
 fun n _ h=>oJ (fun vs r hr=>Jba body _ n r hr) (Ubg n) _ _ h
theorem Jae {β:Type}{t:Tm β}{ρ:List D}{o:Out β}:Ec cf t ρ=some o↔∃ n,runT cf n t ρ=some o:=gZ (Jba t ρ)
theorem gU {β:Type}(k:Kind)(xs:List aP)(e:β)(ρ:List D):Ec cf (.leaf k xs e) ρ=some ⟨k,xs,e,ρ⟩:=iA _
theorem kI {β:Type}(ρ:List D):Ec cf (.stuck:Tm β) ρ=none:=iA _
theorem Oak {β:Type}(g:Option (aP×Bool))(p:aS)(xs:List aP)(n:Nat)(k:Tm β)(ρ:List D) :
  Ec cf (.lt g p xs n k) ρ=if gOn ρ g then (p.run (xs.map (·.val ρ))).bind fun ds=>if ds.length=n then Ec cf k (ρ++ds) else none
   else Ec cf k (ρ++Rbs n .undef):=by
 unfold Ec;simp only[runT];split
 ·cases p.run (xs.map (·.val ρ)) with
  |none=>exact iA _
  | some ds =>
   simp only[Rbe];split
   ·rfl
   ·exact iA _
 ·rfl
theorem wH {β:Type}(g:Option (aP×Bool))(f:Nat)(xs:List aP)(n:Nat)(olds:List aP)(k:Tm β)(ρ:List D) :
  Ec cf (.call g f xs n olds k) ρ=if gOn ρ g then (cf f (xs.map (·.val ρ))).bind fun ds=>if ds.length=n then Ec cf k (ρ++ds) else none
   else Ec cf k (ρ++(Rbs (n-olds.length) .undef++olds.map (·.val ρ))):=by
 unfold Ec;simp only[runT];split
 ·cases cf f (xs.map (·.val ρ)) with
  |none=>exact iA _
  | some ds =>
   simp only[Rbe];split
   ·rfl
   ·exact iA _
 ·rfl
theorem Gag {β:Type}(c:aP)(t e:Tm β)(ρ:List D) :
  Ec cf (.ite c t e) ρ=match c.val ρ with
   |.bool true=>Ec cf t ρ
   |.bool false=>Ec cf e ρ
   |_=>none:=by
 unfold Ec;simp only[runT]
 cases c.val ρ with
 |bool b=>cases b<;>rfl
 |_=>exact iA _
theorem tQ {β:Type}(i:Nat)(t k:Tm β)(ρ:List D) :
  Ec cf (.bind i t k) ρ=(Ec cf t ρ).bind fun o=>if o.kind=.yield i then Ec cf k (ρ++o.vals) else some o:=by
 unfold Ec;simp only[runT];rw[Gat (a:=fun n=>runT cf n t ρ) (Jba t ρ) (fun o=>by split;exact Jba k _;exact fun _ _ h=>h)];congr 1;funext o;split
 ·rfl
 ·exact iA _
theorem Oal {β:Type}(init:List aP)(body:Tm β)(ρ:List D):Ec cf (.loop init body) ρ=Lc cf body ρ (init.map (·.val ρ)):=rfl
theorem Bbk {β:Type}(body:Tm β)(ρ vs:List D) :
  Lc cf body ρ vs=(Ec cf body (ρ++vs)).bind fun o=>if o.kind=.cont then Lc cf body ρ o.vals else some o:=by
 have hm:∀ vs,Ram fun n=>iter n (fun vs=>runT cf n body (ρ++vs)) vs:=fun vs=>Qbb body ρ vs
 unfold Lc
 have e:∀ vs r,(lim fun n=>iter n (fun vs=>runT cf n body (ρ++vs)) vs)=some r↔((Ec cf body (ρ++vs)).bind fun o=>if o.kind=.cont then (lim fun n=>iter n (fun vs=>runT cf n body (ρ++vs)) o.vals) else some o)=some r:=by
  intro vs r;rw[gZ (hm vs)];simp only[Qb5];constructor
  ·rintro⟨n,hn⟩
   cases n with
   |zero=>cases hn
   | succ n =>
    simp only[iter,Qb5]at hn;obtain⟨o,ho,hr⟩:=hn;refine⟨o,Jae.2 ⟨n+1,ho⟩,?_⟩;split at hr
    ·rename_i hk
     rw[if_pos hk,gZ (hm _)];exact⟨n+1,oJ (fun _ _ h=>h) (Ubg n) _ _ hr⟩
    ·rename_i hk
     rw[if_neg hk];exact hr
  ·rintro⟨o,ho,hr⟩
   obtain⟨n,hn⟩:=Jae.1 ho;split at hr
   ·rename_i hk
    obtain⟨m,n2⟩:=(gZ (hm _)).1 hr;refine⟨max n m+1,?_⟩;simp only[iter,Qb5];refine⟨o,(Jba body (ρ++vs)).le (by omega) hn,?_⟩;rw[if_pos hk];exact oJ (fun vs r h=>(Jba body (ρ++vs)).le (by omega) h) (by omega) _ _ n2
   ·rename_i hk
    refine⟨n+1,?_⟩;simp only[iter,Qb5];exact⟨o,Jba body _ _ _ hn,by rw[if_neg hk];exact hr⟩
 exact Option.ext (e vs)
end
section
variable {cf:Nat->List D->Option (List D)}
theorem xB {g:Option (aP×Bool)}{k:Tm St}:∀ {lets:List Step} {ρ:List D} {o:Out St},rH ρ.length g=true->fG ρ.length lets=true->Ec cf (qN g k lets) ρ=some o ->
  ∃ ds,ds.length=bT lets/\Ec cf k (ρ++ds)=some o/\∀ ext,aR cf (ρ++ds++ext) g ρ.length lets
 |[],ρ,o,_,_,h=>⟨[],rfl,by simpa[qN] using h,fun _=>trivial⟩
 | .prim p xs n :: r, ρ, o, hg, hs, h => by
  simp only[fG,Eaa,Qb6]at hs;obtain⟨uv,hs⟩:=hs;simp only[qN,Oak]at h
  have main:∀ ds:List D,ds.length=n->Ec cf (qN g k r) (ρ++ds)=some o->(∀ ext,Ua4 cf (ρ++ds++ext) g ρ.length (.prim p xs n)) ->
    ∃ ds,ds.length=bT (.prim p xs n::r)/\Ec cf k (ρ++ds)=some o/\∀ ext,aR cf (ρ++ds++ext) g ρ.length (.prim p xs n::r):=by
   intro ds hl h1 h2;obtain⟨es,h3,h4,h5⟩:=xB (lets:=r) (ρ:=ρ++ds) (yG hg (by simp)) (by simp only[Rbh,hl];exact hs) h1;refine⟨ds++es,by rw[jH];simp[hl,h3,Step.n],by rw[<- Rbd];exact h4,fun ext=>⟨?_,?_⟩⟩
   ·have:=h2 (es++ext)
    simpa[Rbd] using this
   ·have:=h5 ext
    simp only[Rbh,hl]at this;simpa[Rbd,Step.n] using this
  by_cases gg:gOn ρ g=true
  ·rw[if_pos gg]at h
   simp only[Qb5]at h;obtain⟨ds,h1,h2⟩:=h;split at h2
   case isFalse=>cases h2
   rename_i hl;refine main ds hl h2 fun ext=>⟨fun _=>⟨ds,?_,hl,fun j d hj=>Daz hj⟩,fun pZ=>?_⟩
   ·rw[Rbd,Ia8 uv (Rbt _)];exact h1
   ·rw[Rbd,zR hg (Rbt _),gg]at pZ;cases pZ
  ·rw[if_neg gg]at h
   refine main (Rbs n .undef) (by simp) h fun ext=>⟨fun hon=>?_,fun _ j hj=>Daz (by simp[hj])⟩
   rw[Rbd,zR hg (Rbt _)]at hon;exact absurd hon gg
 | .call f xs n olds :: r, ρ, o, hg, hs, h => by
  simp only[fG,Eaa,Qb6]at hs;obtain⟨⟨⟨uv,hos⟩,hle⟩,hs⟩:=hs;simp only[Sbr]at hle;simp only[qN,wH]at h
  have main:∀ ds:List D,ds.length=n->Ec cf (qN g k r) (ρ++ds)=some o->(∀ ext,Ua4 cf (ρ++ds++ext) g ρ.length (.call f xs n olds)) ->
    ∃ ds,ds.length=bT (.call f xs n olds::r)/\Ec cf k (ρ++ds)=some o/\∀ ext,aR cf (ρ++ds++ext) g ρ.length (.call f xs n olds::r):=by
   intro ds hl h1 h2;obtain⟨es,h3,h4,h5⟩:=xB (lets:=r) (ρ:=ρ++ds) (yG hg (by simp)) (by simp only[Rbh,hl];exact hs) h1;refine⟨ds++es,by rw[jH];simp[hl,h3,Step.n],by rw[<- Rbd];exact h4,fun ext=>⟨?_,?_⟩⟩
   ·have:=h2 (es++ext)
    simpa[Rbd] using this
   ·have:=h5 ext
    simp only[Rbh,hl]at this;simpa[Rbd,Step.n] using this
  by_cases gg:gOn ρ g=true
  ·rw[if_pos gg]at h
   simp only[Qb5]at h;obtain⟨ds,h1,h2⟩:=h;split at h2
   case isFalse=>cases h2
   rename_i hl;refine main ds hl h2 fun ext=>⟨fun _=>⟨ds,?_,hl,fun j d hj=>Daz hj⟩,fun pZ=>?_⟩
   ·rw[Rbd,Ia8 uv (Rbt _)];exact h1
   ·rw[Rbd,zR hg (Rbt _),gg]at pZ;cases pZ
  ·rw[if_neg gg]at h
   refine main _ (by simp;omega) h fun ext=>⟨fun hon=>?_,fun _ j d hd=>?_⟩
   ·rw[Rbd,zR hg (Rbt _)]at hon
    exact absurd hon gg
   ·rw[Rbd,Ia8 hos (Rbt _)]at hd
    exact Daz hd
end
theorem tT:∀ (u:List (Nat×aU)) (f g:Nat->Option aU) (k:Nat),f k=g k->upds f u k=upds g u k
 |[],f,g,k,h=>h
 | (k', c) :: r, f, g, k, h => by
  refine tT r _ _ k ?_;unfold Ta1;split
  ·rfl
  ·exact h
theorem Naa:∀ (u:List (Nat×aU)) (s:St) (k:Nat),(s.puts u).tr.get k=upds s.tr.get u k
 |[],s,k=>rfl
 | (k', c) :: r, s, k => by
  rw[St.puts,Naa r _ k,upds];refine tT r _ _ k ?_;simp only[St.put,Tr.get_set,Ta1]
theorem jS:∀ (u:List (Nat×aU)) (s:St),(s.puts u).nv=s.nv/\(s.puts u).nb=s.nb/\(s.puts u).nr=s.nr/\(s.puts u).nt=s.nt
 |[],s=>⟨rfl,rfl,rfl,rfl⟩
 |(k',c)::r,s=>by rw[St.puts];exact jS r _
theorem Gaj:∀ (u:List (Nat×aU)) (f g:Nat->Option aU) (k:Nat),(∃ c,(k,c)∈u)->upds f u k=upds g u k
 |[],f,g,k,h=>by obtain⟨c,hc⟩:=h;simp at hc
 | (k', c) :: r, f, g, k, h => by
  by_cases hk:k=k'
  ·exact tT r _ _ k (by unfold Ta1;rw[if_pos hk,if_pos hk])
  ·refine Gaj r _ _ k ?_
   obtain⟨c',gl⟩:=h
   rcases Rbg.1 gl with h1|h1
   ·exact absurd (Tbw h1).1 hk
   ·exact⟨c',h1⟩
theorem zS {t:Tr aU}:∀ {n r:Nat},pJ t r n=true->∀ j,r<=j->j<r+n->t.get (kR j)=none
 |0,r,_,j,h1,h2=>by omega
 | n + 1, r, h, j, h1, h2 => by
  simp only[pJ,Qb6,Tb5]at h;by_cases e:j=r
  ·rw[e];exact h.1
  ·exact zS h.2 j (by omega) (by omega)
theorem Rap:∀ (u:List (Nat×aU)) (n:Nat),n<=Jbd u n
 |[],n=>Rbt _
 | x :: r, n => by
  refine Nat.le_trans ?_ (Rap r _)
  cases h:(Nat.beq (x.1 % 3) 2&&Nat.ble n (x.1 / 3)) with
  |false=>exact Rbt _
  |true=>simp only[Qb6,Sbr]at h;rw[cond_true];omega
theorem Tal:∀ {u:List (Nat×aU)} {n:Nat} {x:Nat×aU},x∈u->x.1 % 3=2->x.1 / 3<Jbd u n
 | y :: r, n, x, hx, h2 => by
  rcases Rbg.1 hx with rfl|hx
  ·refine Nat.lt_of_lt_of_le ?_ (Rap r _)
   have e:Nat.beq (x.1 % 3) 2=true:=by rw[h2];rfl
   rw[e,Bool.true_and]
   cases h:Nat.ble n (x.1 / 3) with
   |true=>rw[cond_true];omega
   | false =>
    rw[cond_false];exact Nat.lt_of_not_le fun e=>by rw[<- Sbr,h]at e;cases e
  ·exact Tal (u:=r) hx h2
theorem Wa7:∀ {u:List (Nat×aU)} {n m:Nat},n<=m->(∀ x∈u,x.1 % 3=2->x.1 / 3<m)->Jbd u n<=m
 |[],n,m,h,_=>h
 | y :: r, n, m, h, hu => by
  show Jbd r (bif Nat.beq (y.1 % 3) 2&&Nat.ble n (y.1 / 3) then y.1 / 3+1 else n)<=m
  refine Wa7 (u:=r) ?_ fun x hx=>hu x (Rbl _ hx)
  cases hc:(Nat.beq (y.1 % 3) 2&&Nat.ble n (y.1 / 3)) with
  |false=>exact h
  | true =>
   simp only[Qb6,Rb3]at hc;rw[cond_true];exact hu y Rbr hc.1
theorem Zar {n nb nr:Nat}{u:List (Nat×aU)}(hk:u.all (fun x=>Aad n nb nr x.1)=true)(draw:Bool):nr<=Sa8 draw nr u/\Sa8 draw nr u<=nr+dE/\∀ x∈u,x.1 % 3=2->x.1 / 3<Sa8 draw nr u:=by
 have hb:∀ x∈u,x.1 % 3=2->x.1 / 3<nr+dE:=by
  intro x hx h2;rw[Rb6]at hk;have:=hk _ hx;unfold Aad at this;rw[h2]at this;simpa using this
 cases draw with
 |true=>exact⟨Ubr ..,Rbt _,hb⟩
 |false=>exact⟨Rap _ _,Wa7 (Ubr ..) hb,fun x hx h2=>Tal hx h2⟩
theorem Ebs {s:St}{g:Option (aP×Bool)}{r:cK}{n:Nat}(h:Ebt s g r=true)(hn:n<=s.nt)(hk:r.upd.all (fun x=>Aad n s.nb s.nr x.1)=true)(draw:Bool)(nv:Nat)(k:Nat) :
  ({ (s.puts r.upd) with nv:=nv,nb:=s.nb+1,nr:=Sa8 draw s.nr r.upd }:St).get k=upds s.get r.upd k:=by
 obtain⟨t1,t2,t3⟩:=Zar hk draw;generalize Sa8 draw s.nr r.upd=gp at t1 t2 t3 ⊢;simp only[Ebt,Qb6,Tb5]at h;obtain⟨⟨⟨⟨h1,h2⟩,-⟩,-⟩,-⟩:=h
 have e:({ (s.puts r.upd) with nv:=nv,nb:=s.nb+1,nr:=gp }:St).get k=bif wS s.nt (s.nb+1) gp k then upds s.tr.get r.upd k else none:=by
  unfold St.get;dsimp only;rw[Naa,(jS r.upd s).2.2.2]
 rw[e];by_cases hm:∃ c,(k,c)∈r.upd
 ·obtain⟨c,hc⟩:=hm
  have jc:wS s.nt (s.nb+1) gp k=true:=by
   rw[Rb6]at hk;have:=hk _ hc;unfold Aad at this;unfold wS;dsimp only at this
   cases b0:Nat.beq (k % 3) 0 with
   |true=>rw[b0,cond_true]at this;rw[cond_true];simp only[Sbn]at this ⊢;omega
   | false =>
    rw[b0,cond_false]at this;rw[cond_false]
    cases b1:Nat.beq (k % 3) 1 with
    |true=>rw[b1,cond_true]at this;rw[cond_true];simp only[Sbr]at this;simp only[Sbn];omega
    | false =>
     rw[cond_false,Sbn];have n0:k % 3≠0:=fun e=>by rw[e]at b0;cases b0
     have n1:k % 3≠1:=fun e=>by rw[e]at b1;cases b1
     exact t3 _ hc (by dsimp only;omega)
  rw[jc,cond_true];exact Gaj _ _ _ _ ⟨c,hc⟩
 ·have ia:∀ c,(k,c)∉r.upd:=fun c hc=>hm ⟨c,hc⟩
  rw[fP _ _ _ ia,fP _ _ _ ia];unfold St.get
  cases ho:wS s.nt s.nb s.nr k with
  | true =>
   have:wS s.nt (s.nb+1) gp k=true:=by
    unfold wS at ho ⊢
    cases b0:Nat.beq (k % 3) 0 with
    |true=>rw[b0]at ho;exact ho
    | false =>
     rw[b0,cond_false]at ho;rw[cond_false]
     cases b1:Nat.beq (k % 3) 1 with
     |true=>rw[b1,cond_true]at ho;rw[cond_true];simp only[Sbn]at ho ⊢;omega
     |false=>rw[b1,cond_false]at ho;rw[cond_false];simp only[Sbn]at ho ⊢;omega
   rw[this]
  | false =>
   rw[cond_false]
   cases hw:wS s.nt (s.nb+1) gp k with
   |false=>rfl
   | true =>
    rw[cond_true];unfold wS at ho hw
    cases b0:Nat.beq (k % 3) 0 with
    |true=>rw[b0,cond_true]at ho hw;rw[ho]at hw;cases hw
    | false =>
     rw[b0,cond_false]at ho hw;have n0:k % 3≠0:=fun e=>by rw[e]at b0;cases b0
     cases b1:Nat.beq (k % 3) 1 with
     | true =>
      rw[b1,cond_true]at ho hw;simp only[Rb3]at b1;simp only[Sbn]at hw;have sb:¬ k / 3<s.nb:=fun e=>by rw[<- Sbn,ho]at e;cases e
      have:k=kB s.nb:=by unfold kB;omega
      rw[this];exact h1
     | false =>
      rw[b1,cond_false]at ho hw;have n1:k % 3≠1:=fun e=>by rw[e]at b1;cases b1
      simp only[Sbn]at hw;have sb:¬ k / 3<s.nr:=fun e=>by rw[<- Sbn,ho]at e;cases e
      have:k=kR (k / 3):=by unfold kR;omega
      rw[this];exact zS h2 _ (by omega) (by omega)
theorem Qal {s:St}:Da2 s.get s.nb s.nr:=by
 refine⟨?_,fun j h1 h2=>?_⟩
 ·unfold St.get wS kB
  have e:(3*s.nb+1) % 3=1:=by omega
  have e2:(3*s.nb+1) / 3=s.nb:=by omega
  rw[e,e2]
  have:Sb0 s.nb s.nb=false:=by
   cases hb:Sb0 s.nb s.nb with
   |false=>rfl
   |true=>simp at hb
  rw[this];rfl
 ·unfold St.get wS kR
  have e:(3*j+2) % 3=2:=by omega
  have e2:(3*j+2) / 3=j:=by omega
  rw[e,e2]
  have:Sb0 j s.nr=false:=by
   cases hb:Sb0 j s.nr with
   |false=>rfl
   |true=>simp only[Sbn]at hb;omega
  rw[this];rfl
theorem Tak (t:Tr aU)(lo:Nat):∀ n,Oas t lo n<=lo+n
 |0=>Rbt _
 | n + 1 => by
  unfold Oas
  cases (t.get (kR (lo+n))).isNone with
  |true=>rw[cond_true];have:=Tak t lo n;omega
  |false=>rw[cond_false];omega
theorem Jat (t:Tr aU)(lo:Nat):∀ n j,Oas t lo n<=j->j<lo+n->t.get (kR j)=none
 |0,j,h1,h2=>by unfold Oas at h1;omega
 | n + 1, j, h1, h2 => by
  unfold Oas at h1
  cases h:(t.get (kR (lo+n))).isNone with
  | true =>
   rw[h,cond_true]at h1;by_cases e:j=lo+n
   ·rw[e];simpa using h
   ·exact Jat t lo n j h1 (by omega)
  |false=>rw[h,cond_false]at h1;omega
theorem Oar {draw:Bool}{lo:Nat}{s:St}:(trimS draw lo s).get=s.get:=by
 unfold trimS
 cases hd:(draw&&Nat.ble lo s.nr) with
 |false=>rfl
 | true =>
  simp only[Qb6,Sbr]at hd;rw[cond_true];funext k;have h1:=Tak s.tr lo (s.nr-lo);have h2:=Jat s.tr lo (s.nr-lo);generalize Oas s.tr lo (s.nr-lo)=m at h1 h2;unfold St.get;dsimp only;unfold wS
  cases b0:Nat.beq (k % 3) 0 with
  |true=>rfl
  | false =>
   rw[cond_false,cond_false]
   cases b1:Nat.beq (k % 3) 1 with
   |true=>rfl
   | false =>
    rw[cond_false,cond_false];have n0:k % 3≠0:=fun e=>by rw[e]at b0;cases b0
    have n1:k % 3≠1:=fun e=>by rw[e]at b1;cases b1
    have ek:k=kR (k / 3):=by unfold kR;omega
    by_cases ha:k / 3<m
    ·have e1:Sb0 (k / 3) m=true:=by simpa using ha
     have e2:Sb0 (k / 3) s.nr=true:=by simp only[Sbn];omega
     rw[e1,e2]
    ·have e1:Sb0 (k / 3) m=false:=by
      cases e:Sb0 (k / 3) m with
      |false=>rfl
      |true=>simp only[Sbn]at e;omega
     rw[e1,cond_false]
     cases e2:Sb0 (k / 3) s.nr with
     |false=>rfl
     | true =>
      simp only[Sbn]at e2;rw[cond_true,ek];exact (h2 _ (by omega) (by omega)).symm
theorem yZ {draw:Bool}{lo:Nat}{s:St}:(trimS draw lo s).nv=s.nv/\(trimS draw lo s).nb=s.nb/\(trimS draw lo s).nt=s.nt:=by
 unfold trimS;cases draw&&Nat.ble lo s.nr<;>exact⟨rfl,rfl,rfl⟩
section
variable {P:Program} {E:Env} {F:bQ} {n:Nat} {σ:Nat->Option aU} {ρ:List D} {a:Act} {w w':World} {G G':Gh} {g:Option (aP×Bool)} {o:Oper} {cf:Nat->List D->Option (List D)} {Q:Exit->Act->World->Prop}
theorem Kat:∀ (u:List (Nat×aU)) (σ:Nat->Option aU) (k:Nat),upds σ u k=match Va2 u k with
  |some c=>some c
  |none=>σ k
 |[],_,_=>rfl
 | (k', c) :: r, σ, k => by
  show upds (Ta1 σ k' c) r k=_
  rw[Kat r];simp only[Va2]
  cases Va2 r k with
  |some d=>rfl
  | none =>
   dsimp only;unfold Ta1;by_cases e:k=k'
   ·subst e
    rw[if_pos rfl];simp
   ·rw[if_neg e]
    have:Nat.beq k' k=false:=by
     cases h:Nat.beq k' k with
     |false=>rfl
     |true=>exact absurd (Nat.eq_of_beq_eq_true h).symm e
    rw[this];rfl
theorem Qau {α:Type}(u:List (Nat×aU))(m:RdM α)(σ:Nat->Option aU):(m.over u).eval σ=m.eval (upds σ u):=by
 induction m with
 |ret a=>rfl
 |no=>rfl
 | rd k f ih =>
  show ((RdM.rd k f).over u).eval σ=(f (upds σ u k)).eval (upds σ u)
  unfold RdM.over;rw[Kat u σ k]
  cases Va2 u k with
  |some c=>exact ih _
  |none=>exact ih _
theorem Aaz:∀ (u v:List (Nat×aU)) (σ:Nat->Option aU),upds σ (u++v)=upds (upds σ u) v
 |[],_,_=>rfl
 |(k,c)::r,v,σ=>Aaz r v (Ta1 σ k c)
def Aaj (r nr:Nat)(pv:List Nat)(M mr:Nat)(s:Nat)(p:List Nat):Ow :=
 if s=r then (if pv <+: p then zW nr M (p.drop pv.length) else zW r mr p) else .slc s p
theorem Ebn {t:Nat}{a:Act}{o:Oper}(h:o.dst=some t):a.put o.dst (a.tmps.getD t undef)=a:=by
 unfold Act.put;rw[h];dsimp only
 have:a.tmps.setIfInBounds t (a.tmps.getD t undef)=a.tmps:=by
  apply Array.ext_getElem?;intro j;rw[Array.getElem?_setIfInBounds];split
  ·rename_i e
   subst e;split
   ·rename_i bh
    exact (Rb9 bh).symm
   ·rename_i bh
    rw[Array.getElem?_eq_none (by omega)]
  ·rfl
 rw[this]
theorem Oa5 (hR:R E.ntmps F σ ρ a w G){nv nr t:Nat}(mi:σ (kR nr)=none){l:List Step}{u:List (Nat×aU)}(h:(Ja5 E nv nr t).eval σ=some (some (l,u)))(cT:aR cf ρ none nv l) :
  ∃ G',R E.ntmps F (upds σ u) ρ a w G':=by
 simp only[Ja5,aC,Qb5,aW,Rbe]at h;split at h
 case h_2=>simp only[aF,Qb7]at h;cases h
 rename_i deps p ps nie x lA;simp only[aC,Qb5]at h;obtain⟨s,h1,h⟩:=h;split at h
 case h_2=>simp only[aF,Qb7]at h;cases h
 rename_i r k m q qs cI;rw[iR]at h;split at h
 case isFalse=>simp only[aF,Qb7]at h;cases h
 rename_i hb;simp only[Qb6,Sbr,Sbn]at hb;obtain⟨hqm,htn⟩:=hb;simp only[aC,Qb5,aW,Rbe]at h;split at h
 case h_2=>simp only[aF,Qb7]at h;cases h
 rename_i X m' cQ hk;simp only[aF,Qb7,Rbx]at h;obtain⟨rfl,rfl⟩:=h;have iq:=hR.slot lA (g:=none) rfl;simp only[dI]at iq;have im:=eT hR h1 iq;have oa:=im.own;unfold wR at oa;rw[cI]at oa;obtain⟨-,⟨X0,k7⟩,-,gj,l7⟩:=oa;rw[hk]at k7
 obtain⟨rfl,rfl,rfl⟩:X=X0/\m'=m/\cQ=k:=by
  injection k7 with e;injection e with e1 e2 e3 e4;exact⟨e1,e2,e3⟩
 have fR:=hR.root hk;simp only[dB]at fR;have oh:=Caq (g:=none) rfl (q::qs) nv X (.c .hole) cT;have vt:(bG ρ (q::qs)).length=qs.length+1:=by simp[bG]
 generalize hpv:bG ρ (q::qs)=pv at oh gj l7 vt;rw[show (q::qs).length=qs.length+1 from rfl]at gj;have htv:Bap E.ntmps a F.gh t=a.tmps.getD t undef:=if_pos htn;generalize hv:Bap E.ntmps a F.gh t=v at iq gj l7 htv;obtain⟨o',sb⟩:∃ o':Oper,o'.dst=some t:=⟨{ (default:Oper) with dst:=some t },rfl⟩;have a7p:r≠nr:=fun e=>by rw[e,mi]at hk;cases hk
 have hdr:∀ r,(σ (kR r)).isSome->r≠nr:=fun r hr e=>by rw[e,mi]at hr;cases hr
 have nf:∀ b,G.own b≠.frz->b<w.heap.size:=fun b hb=>by
  rcases Rbu b w.heap.size with h|h
  ·exact h
  ·exact absurd (hR.frame.fresh b h) hb
 have hFr:∀ p,Aaj r nr pv (m'-(qs.length+1)) m' r p=if pv <+: p then zW nr (m'-(qs.length+1)) (p.drop pv.length) else zW r m' p:=fun p=>by unfold Aaj;rw[if_pos rfl]
 have l8:∀ b,G.own b=.frz->b<w.heap.size->oH (Aaj r nr pv (m'-(qs.length+1)) m') (G.own b)=.frz/\w.heap[b]?=w.heap[b]?:=fun b hb _=>⟨by rw[hb];rfl,rfl⟩
 have ja:=hR.own (o:=o') (g:=none) (fun d e=>by rw[sb]at e;cases e;exact htn) (sv:=.one (.ex nr)) (v:=v) (w':=w)
  (G':={ G with own:=fun b=>oH (Aaj r nr pv (m'-(qs.length+1)) m') (G.own b),hdr:=fun s=>if s=nr then v else G.hdr s }) (wr:=fun _=>False)
  (ur:=[(kR nr,.root s.x (m'-(qs.length+1)) 0 .live),(kR r,.root (Naf nv X (q::qs) (.c .hole)).2 m' (cQ+1) .live)])
  (f:=Aaj r nr pv (m'-(qs.length+1)) m') ?_ (fun b _=>rfl) ?_ ⟨rfl,rfl,rfl,Rbt _⟩ ?_ (fun _ _ _=>rfl) (fun _ h=>h.elim) ?_ ?_ ?_ ?_ rfl ?_ ?_
 ·have e1:eO o' none (.one (.ex nr))=[(kT t,.slot none (.one (.ex nr)))]:=by unfold eO;rw[sb]
  have e2:a.put o'.dst v=a:=by rw[htv];exact Ebn sb
  rw[e1,e2]at ja;exact⟨_,ja⟩
 ·intro k c hc
  rcases Rbg.1 hc with hc|hc
  ·exact⟨nr,(Tbw hc).1⟩
  ·exact⟨r,(Tbw (Rbb.1 hc)).1⟩
 ·intro b hb
  show oH _ (G.own b)=.frz
  rw[hR.frame.fresh b hb];rfl
 ·intro b hb
  refine .inl ?_;show oH _ (G.own b)=.frz
  rw[hR.frame.fresh b hb];rfl
 ·intro b s' p' hb iw
  have:s'≠r:=fun e=>iw (.root (Naf nv X (q::qs) (.c .hole)).2 m' (cQ+1) .live) (by rw[e];simp)
  unfold Aaj;rw[if_neg this]
 ·intro s' c hc _
  rcases Rbg.1 hc with hc|hc
  ·obtain⟨e1,e2⟩:=Tbw hc
   rw[fT e1,e2];exact .inl ⟨mi,_,_,_,_,rfl⟩
  ·obtain⟨e1,e2⟩:=Tbw (Rbb.1 hc)
   rw[fT e1,e2];exact .inr (.inl ⟨_,_,_,_,_,hk,rfl⟩)
 ·intro r0 x0 m0 k0 jr s' p' q' hF
  have y6:r0≠r:=fun e=>by
   rw[e,hk]at jr
   injection jr with e;injection e with _ _ _ e;cases e
  have pk:r0≠nr:=hdr r0 (by rw[jr];rfl);unfold Aaj at hF;split at hF
  ·rename_i e
   split at hF
   ·unfold zW at hF
    split at hF
    ·injection hF with j1 j2;exact absurd j1.symm pk
    ·cases hF
   ·unfold zW at hF
    split at hF
    ·injection hF with j1 j2;exact absurd j1.symm y6
    ·cases hF
  ·injection hF with j1 j2;exact⟨j1,j2⟩
 ·intro s' ku
  show (if s'=nr then _ else _)=_
  rw[if_neg (hdr s' ku)]
 ·intro _ _
  simp only[dI,aD];exact⟨by simp,eZ _ _ _ (.inr ⟨_,Rbc _ Rbr⟩),gj.one⟩
 ·intro fq s' c hc _
  rcases Rbg.1 hc with hc|hc
  ·obtain⟨e1,rfl⟩:=Tbw hc
   obtain rfl:=fT e1;refine⟨_,_,_,_,rfl,?_⟩;simp only[dB,if_true];refine gj.move l8 [] _ (Rbt _) fun b t' hb=>⟨?_,rfl⟩
   show oH _ (G.own b)=_
   rw[hb];show Aaj _ _ _ _ _ _ _=_
   rw[hFr,if_pos (List.prefix_append _ _),List.drop_left];rfl
  ·obtain⟨e1,rfl⟩:=Tbw (Rbb.1 hc)
   obtain rfl:=fT e1;refine⟨_,_,_,_,rfl,?_⟩;simp only[dB];rw[if_neg a7p];have:=Rp.upd (own':=fun b=>oH (Aaj s' nr pv (m'-(qs.length+1)) m') (G.own b)) (w':=w) (r:=s') (M':=m') (full:=pv) (y:=.hole) (u:=v) l8 (fun b t' hb ht=>⟨?_,rfl⟩) (by omega) (.hole _ gj.one) pv [] m' (G.hdr s') _ _ rfl (Rbt _) (by simpa using fR) l7 oh
   ·simpa using this
   ·rw[hb]
    show Aaj _ _ _ _ _ _ _=_
    rw[hFr,if_neg ht];rfl
theorem Ja2 {mv eR:Bool}{nv nb nr:Nat}{c:Call}(h:o.op=.call c):Vah E mv eR nv nb nr g o=sH E mv eR nv nb nr g o:=by
 unfold Vah;have h1:Baz (eR&&noG g) o.op=none:=by rw[h];unfold Baz;split<;>first|rfl|contradiction
 have h2:Nak (eR&&noG g&&!mv) o=none:=by
  unfold Nak;split
  ·rw[h]
  ·rfl
 rw[h1];dsimp only;rw[h2]
theorem Vak {nv nr t:Nat}(mi:σ (kR (nr+1))=none){l:List Step}{u:List (Nat×aU)}(h1:(Ja5 E nv nr t).eval σ=some (some (l,u))):upds σ u (kR (nr+1))=none:=by
 simp only[Ja5,aC,Qb5,aW,Rbe]at h1;split at h1
 case h_2=>simp only[aF,Qb7]at h1;cases h1
 simp only[aC,Qb5]at h1;obtain⟨s,-,h1⟩:=h1;split at h1
 case h_2=>simp only[aF,Qb7]at h1;cases h1
 rw[iR]at h1;split at h1
 case isFalse=>simp only[aF,Qb7]at h1;cases h1
 simp only[aC,Qb5,aW,Rbe]at h1;split at h1
 case h_2=>simp only[aF,Qb7]at h1;cases h1
 rename_i r' _ _ _ _ _ _ _ _ hk;simp only[aF,Qb7,Rbx]at h1;obtain⟨-,rfl⟩:=h1
 cases e:upds σ _ (kR (nr+1)) with
 |none=>rfl
 | some c =>
  exfalso
  rcases sD _ _ _ _ e with h4|⟨-,h4⟩
  ·simp only[Rbg,Rbx,List.not_mem_nil,or_false]at h4
   rcases h4 with ⟨h4,-⟩|⟨h4,-⟩|⟨h4,-⟩
   ·exact jL h4.symm
   ·have:=fT h4;omega
   ·rw[h4,hk]at mi;cases mi
  ·rw[mi]at h4;cases h4
theorem Zam {mv eR:Bool}{nv nb nr:Nat}{ty:TypeId}{x:Operand}(ho:o.op=.load ty x){r:cK}(h:(sH E mv eR nv nb nr none o).eval σ=some r){j:Nat}{c:aU}(hc:(kR j,c)∈r.upd):False:=by
 simp only[sH,ho,aC,Qb5,tiR,bA]at h;obtain⟨ti,h1,p,h2,h⟩:=h
 have lA:∀ {g':Option (aP×Bool)} {v:SV},(kR j,c)∈(match o.dst with|some d=>[(kT d,aU.slot g' v)]|none=>[])->False:=by
  intro g' v hm;split at hm
  ·simp only[Rbb,Rbx]at hm
   exact jL hm.1.symm
  ·simp at hm
 have hC:∀ {v:SV},(Zab o none nv v).eval σ=some r->False:=by
  intro v h;simp only[Zab,vJ,aF,Qb7]at h;subst h;rw[Rb1]at hc;exact lA hc
 unfold Tan at h;split at h
 ·simp only[aC,Qb5,aW,Rbe]at h
  split at h
  ·simp only[aC,Qb5]at h
   obtain⟨_,-,h⟩:=h;split at h
   ·exact hC h
   ·cases h
  ·cases h
 ·simp only[aC,Qb5]at h
  obtain⟨s,-,h⟩:=h;split at h
  ·simp only[vI,aF,Qb7]at h
   subst h;exact lA hc
  ·simp only[vJ,aF,Qb7]at h
   subst h;rw[Rb1]at hc;exact lA hc
  ·cases h
 ·cases h
theorem Xam (hR:R E.ntmps F σ ρ a w G)(hd:gG E.ntmps o)(hti:wU P E.ti){nv nb nr:Nat}{mv eR:Bool}(hf:Da2 σ nb nr){res:cK}
  (h:(Vah E mv eR nv nb nr g o).eval σ=some res) (cT:aR cf ρ g nv res.lets)
  (jy:∀ f args argTypes,o.op=.call { callee:=.value f,args,argTypes }->iL P E F σ ρ a w g o Q res.upd):iL P E F σ ρ a w g o Q res.upd:=by
 unfold Vah at h;split at h
 ·split at h
  ·exact Gam hR hd hti hf h cT jy
  ·
   rename_i t yz
   have hb:(eR&&noG g&&!mv)=true:=by
    cases e:(eR&&noG g&&!mv) with
    |true=>rfl
    |false=>rw[e]at yz;cases yz
   simp only[Qb6]at hb;obtain rfl:=xO hb.1.2
   obtain⟨ty,x,ho⟩:∃ ty x,o.op=.load ty x:=by
    unfold Nak at yz;split at yz
    ·split at yz
     ·rename_i ho;exact⟨_,_,ho⟩
     ·cases yz
    ·cases yz
   simp only[aC,Qb5,Qau]at h;obtain⟨r,h1,y,h2,h⟩:=h
   cases y with
   | none =>
    simp only[aF,Qb7]at h;subst h;exact Gam hR hd hti hf h1 cT jy
   | some lu =>
    obtain⟨l,u⟩:=lu;simp only[aF,Qb7]at h;subst h;obtain⟨ky,gk⟩:=aR.append cT;have h0:iL P E F σ ρ a w none o Q r.upd:=Gam hR hd hti hf h1 ky fun f args argTypes wg=>by rw[ho]at wg;cases wg
    refine⟨fun hg=>?_,fun hg=>by simp[gOn]at hg⟩;refine Oper.wp_mono (K:=Nx E.ntmps F σ ρ r.upd) (fun a' w' ⟨G',jf⟩=>?_) (h0.1 hg)
    have mi:upds σ r.upd (kR nr)=none:=by
     have ia:=hf.nr nr (Rbt _) (by unfold dE;omega)
     cases e:upds σ r.upd (kR nr) with
     |none=>rfl
     | some c =>
      exfalso
      rcases sD _ _ _ _ e with h4|⟨-,h4⟩
      ·exact Zam ho h1 h4
      ·rw[ia]at h4;cases h4
    obtain⟨G'',tn⟩:=Oa5 jf mi h2 gk;exact⟨G'',by rw[Aaz];exact tn⟩
 ·rename_i t fN
  simp only[aC,Qb5]at h;obtain⟨x,h1,h⟩:=h
  have hb:(eR&&noG g)=true:=by
   cases e:(eR&&noG g) with
   |true=>rfl
   |false=>rw[e]at fN;unfold Baz at fN;cases fN
  simp only[Qb6]at hb;obtain rfl:=xO hb.2
  cases x with
  |none=>exact Gam hR hd hti hf h cT jy
  | some lu =>
   obtain⟨l,u⟩:=lu;simp only[aC,Qb5,Qau,aF,Qb7]at h;obtain⟨r,h2,rfl⟩:=h;obtain⟨ky,gk⟩:=aR.append cT;obtain⟨G',jf⟩:=Oa5 hR (hf.nr nr (Rbt _) (by unfold dE;omega)) h1 ky
   have ja:iL P E F (upds σ u) ρ a w none o Q r.upd:=by
    have sf:upds σ u (kR (nr+1))=none:=Vak (hf.nr (nr+1) (by omega) (by unfold dE;omega)) h1;unfold Baz at fN;split at fN
    ·rename_i ho
     exact Haj jf hti ho h2 gk
    ·rename_i ho
     exact wM jf hd hti sf ho h2 gk
    ·cases fN
   refine⟨fun hg=>?_,fun hg=>by simp[gOn]at hg⟩;have e:Nx E.ntmps F σ ρ (u++r.upd)=Nx E.ntmps F (upds σ u) ρ r.upd:=by unfold Nx;rw[Aaz]
   rw[e];exact ja.1 hg
theorem lC {ops:List Oper}{mv eR:Bool}{nv nb nr:Nat}{res:cK}(h:(mV E ops mv eR nv nb nr o).eval σ=some (g,res)) :
  (Ma7 ops o).eval σ=some g/\gG E.ntmps o/\(Vah E mv eR nv nb nr g o).eval σ=some res/\res.upd.all (fun x=>Aad E.ntmps nb nr x.1)=true:=by
 simp only[mV,aC,Qb5,aO,aF,Qb7,Rbx]at h;obtain⟨g',h1,_,h2,res',h3,_,h4,rfl,rfl⟩:=h;refine⟨h1,fun d hd=>?_,h3,?_⟩
 ·rw[hd]at h2
  dsimp only at h2;split at h2
  ·rename_i hb;simpa using hb
  ·cases h2
 ·split at h4
  ·rename_i hb;exact hb
  ·cases h4
def Jbh (P:Program)(E:Env)(F:bQ)(σ:Nat->Option aU)(ρ:List D)(ops:Array Oper)(o:Oper)(Q:Exit->Act->World->Prop)(u:List (Nat×aU))(a:Act)(w:World):Prop :=
 if Region.wanted o (yielded ops a.tmps) then o.wp P a w (Nx E.ntmps F σ ρ u) Q else Nx E.ntmps F σ ρ u (a.put o.dst undef) w
theorem Ba2 (hR:R E.ntmps F σ ρ a w G)(hti:wU P E.ti){ops:Array Oper}(od:∀ o∈ops.toList,gG E.ntmps o){mv eR:Bool}{nv nb nr:Nat}(hf:Da2 σ nb nr){res:cK}
  (h:(mV E ops.toList mv eR nv nb nr o).eval σ=some (g,res)) (cT:aR cf ρ g nv res.lets)
  (jy:∀ f args argTypes,o.op=.call { callee:=.value f,args,argTypes }->iL P E F σ ρ a w g o Q res.upd):Jbh P E F σ ρ ops o Q res.upd a w:=by
 obtain⟨h1,h2,h3,-⟩:=lC h;have hs:=Xam hR h2 hti hf h3 cT jy;unfold Jbh;rw[Saf hR od h1];split
 ·rename_i hg;exact hs.1 hg
 ·rename_i hg;exact hs.2 (by simpa using hg)
end
section
variable {cf:Nat->List D->Option (List D)}
theorem Sao {i:Nat}{k:Kind}:Nas i k=true↔k=.yield i:=by
 cases k<;>simp[Nas]
 exact eq_comm
theorem Va4 {k:Kind}:Uah k=true↔k=.cont:=by cases k<;>simp[Uah]
theorem Bbj {β:Type}{body:Tm β}{ρ:List D}{C:List D->Out β->Prop}
  (a2f:∀ vs o,Ec cf body (ρ++vs)=some o->o.kind≠.cont->C vs o)
  (gg:∀ vs o o',Ec cf body (ρ++vs)=some o->o.kind=.cont->C o.vals o'->Lc cf body ρ o.vals=some o'->C vs o') :
  ∀ {vs:List D} {o:Out β},Lc cf body ρ vs=some o->C vs o:=by
 intro vs o h;have h':=(gZ (Qbb (cf:=cf) body ρ vs)).1 h;obtain⟨n,hn⟩:=h'
 have key:∀ m vs,iter m (fun vs=>runT cf n body (ρ++vs)) vs=some o->C vs o/\Lc cf body ρ vs=some o:=by
  intro m
  induction m with
  |zero=>intro vs h;cases h
  | succ m ih =>
   intro vs h;simp only[iter,Qb5]at h;obtain⟨o1,h1,h2⟩:=h;have e1:Ec cf body (ρ++vs)=some o1:=Jae.2 ⟨n,h1⟩;split at h2
   ·rename_i hk
    obtain⟨h3,h4⟩:=ih _ h2;exact⟨gg vs o1 o e1 hk h3 h4,by rw[Bbk,e1,Rbe,if_pos hk];exact h4⟩
   ·rename_i hk
    obtain rfl:=Rb5 h2;exact⟨a2f vs o1 e1 hk,by rw[Bbk,e1,Rbe,if_neg hk]⟩
 exact (key n vs hn).1
theorem xN {β:Type}{f:Kind->Bool}:∀ {t:Tm β} {ρ:List D} {o:Out β},t.no f=true->Ec cf t ρ=some o->f o.kind=false
 | .leaf k xs e, ρ, o, hn, h => by
  rw[gU]at h;obtain rfl:=Rb5 h;simpa[Tm.no] using hn
 |.stuck,ρ,o,hn,h=>by rw[kI]at h;cases h
 | .lt g p xs n k, ρ, o, hn, h => by
  rw[Oak]at h;split at h
  ·simp only[Qb5]at h
   obtain⟨ds,-,h⟩:=h;split at h
   ·exact xN (t:=k) hn h
   ·cases h
  ·exact xN (t:=k) hn h
 | .call g c xs n os k, ρ, o, hn, h => by
  rw[wH]at h;split at h
  ·simp only[Qb5]at h
   obtain⟨ds,-,h⟩:=h;split at h
   ·exact xN (t:=k) hn h
   ·cases h
  ·exact xN (t:=k) hn h
 | .ite c t e, ρ, o, hn, h => by
  simp only[Tm.no,Qb6]at hn;rw[Gag]at h;split at h
  ·exact xN hn.1 h
  ·exact xN hn.2 h
  ·cases h
 | .bind i t k, ρ, o, hn, h => by
  simp only[Tm.no,Qb6]at hn;simp only[tQ,Qb5]at h;obtain⟨o1,h1,h2⟩:=h;split at h2
  ·exact xN hn.2 h2
  ·obtain rfl:=Rb5 h2
   exact xN hn.1 h1
 | .loop init b, ρ, o, hn, h => by
  rw[Oal]at h;simp only[Tm.no]at hn;exact Bbj (C:=fun _ o=>f o.kind=false) (fun vs o h1 _=>xN hn h1) (fun _ _ _ _ _ h3 _=>h3) h
theorem sM {f:St->Option (Tm St)}:∀ {t t':Tm St} {ρ:List D} {o':Out St},t.graft f=some t'->Ec cf t' ρ=some o' ->
  ∃ o,Ec cf t ρ=some o/\((o.kind=.fall/\∃ r,f o.ext=some r/\Ec cf r o.env=some o')\/(o.kind≠.fall/\o'=o))
 | .leaf k xs s, t', ρ, o', hg, h => by
  cases k with
  |fall=>exact⟨_,gU ..,.inl ⟨rfl,t',hg,h⟩⟩
  | _ =>
   simp only[Tm.graft,Qb7]at hg;subst hg;rw[gU]at h;obtain rfl:=Rb5 h;exact⟨_,gU ..,.inr ⟨by simp,rfl⟩⟩
 | .stuck, t', ρ, o', hg, h => by
  simp only[Tm.graft,Qb7]at hg;subst hg;rw[kI]at h;cases h
 | .lt g p xs n k, t', ρ, o', hg, h => by
  simp only[Tm.graft,Rbo]at hg;obtain⟨k',hk,rfl⟩:=hg;rw[Oak]at h;simp only[Oak];split at h
  ·rename_i gg
   simp only[Qb5]at h;obtain⟨ds,h1,h⟩:=h;split at h
   ·rename_i hl
    obtain⟨o,h2,h3⟩:=sM hk h;exact⟨o,by rw[if_pos gg,h1,Rbe,if_pos hl];exact h2,h3⟩
   ·cases h
  ·rename_i gg
   obtain⟨o,h2,h3⟩:=sM hk h;exact⟨o,by rw[if_neg gg];exact h2,h3⟩
 | .call g c xs n os k, t', ρ, o', hg, h => by
  simp only[Tm.graft,Rbo]at hg;obtain⟨k',hk,rfl⟩:=hg;rw[wH]at h;simp only[wH];split at h
  ·rename_i gg
   simp only[Qb5]at h;obtain⟨ds,h1,h⟩:=h;split at h
   ·rename_i hl
    obtain⟨o,h2,h3⟩:=sM hk h;exact⟨o,by rw[if_pos gg,h1,Rbe,if_pos hl];exact h2,h3⟩
   ·cases h
  ·rename_i gg
   obtain⟨o,h2,h3⟩:=sM hk h;exact⟨o,by rw[if_neg gg];exact h2,h3⟩
 | .ite c t e, t', ρ, o', hg, h => by
  simp only[Tm.graft,Qb5,Rbo]at hg;obtain⟨t1,ht,e1,he,rfl⟩:=hg;rw[Gag]at h;simp only[Gag];split at h
  ·exact sM ht h
  ·exact sM he h
  ·cases h
 | .bind i t k, t', ρ, o', hg, h => by
  simp only[Tm.graft]at hg
  cases hn:t.no rX with
  |false=>rw[hn]at hg;cases hg
  | true =>
   rw[hn,cond_true,Rbo]at hg;obtain⟨k',hk,rfl⟩:=hg;simp only[tQ,Qb5]at h;obtain⟨o1,h1,h2⟩:=h;simp only[tQ,h1,Rbe];split at h2
   ·rename_i hy
    rw[if_pos hy];exact sM hk h2
   ·rename_i hy
    rw[if_neg hy];obtain rfl:=Rb5 h2;refine⟨o1,rfl,.inr ⟨fun e=>?_,rfl⟩⟩;have:=xN hn h1;rw[e]at this;cases this
 | .loop init b, t', ρ, o', hg, h => by
  simp only[Tm.graft]at hg
  cases hn:b.no rX with
  |false=>rw[hn]at hg;cases hg
  | true =>
   rw[hn,cond_true,Qb7]at hg;subst hg;refine⟨o',h,.inr ⟨fun e=>?_,rfl⟩⟩;have:=xN (t:=.loop init b) (f:=rX) hn h;rw[e]at this;cases this
theorem kU {id:Nat}:∀ {t t':Tm St} {ρ:List D} {o':Out St},t.exitFall id=some t'->Ec cf t' ρ=some o' ->
  ∃ o,Ec cf t ρ=some o/\((rD id o.kind=true/\o'=⟨.fall,[],o.ext,o.env⟩)\/(rD id o.kind=false/\o'=o))
 | .leaf k xs s, t', ρ, o', hg, h => by
  cases k with
  | exit j =>
   simp only[Tm.exitFall,Qb7]at hg
   cases hb:Nat.beq id j with
   | true =>
    rw[hb,cond_true]at hg;subst hg;rw[gU]at h;obtain rfl:=Rb5 h;exact⟨_,gU ..,.inl ⟨by simpa[rD] using hb,rfl⟩⟩
   | false =>
    rw[hb,cond_false]at hg;subst hg;rw[gU]at h;obtain rfl:=Rb5 h;exact⟨_,gU ..,.inr ⟨by simpa[rD] using hb,rfl⟩⟩
  | _ =>
   simp only[Tm.exitFall,Qb7]at hg;subst hg;rw[gU]at h;obtain rfl:=Rb5 h;exact⟨_,gU ..,.inr ⟨rfl,rfl⟩⟩
 | .stuck, t', ρ, o', hg, h => by
  simp only[Tm.exitFall,Qb7]at hg;subst hg;rw[kI]at h;cases h
 | .lt g p xs n k, t', ρ, o', hg, h => by
  simp only[Tm.exitFall,Rbo]at hg;obtain⟨k',hk,rfl⟩:=hg;rw[Oak]at h;simp only[Oak];split at h
  ·rename_i gg
   simp only[Qb5]at h;obtain⟨ds,h1,h⟩:=h;split at h
   ·rename_i hl
    obtain⟨o,h2,h3⟩:=kU hk h;exact⟨o,by rw[if_pos gg,h1,Rbe,if_pos hl];exact h2,h3⟩
   ·cases h
  ·rename_i gg
   obtain⟨o,h2,h3⟩:=kU hk h;exact⟨o,by rw[if_neg gg];exact h2,h3⟩
 | .call g c xs n os k, t', ρ, o', hg, h => by
  simp only[Tm.exitFall,Rbo]at hg;obtain⟨k',hk,rfl⟩:=hg;rw[wH]at h;simp only[wH];split at h
  ·rename_i gg
   simp only[Qb5]at h;obtain⟨ds,h1,h⟩:=h;split at h
   ·rename_i hl
    obtain⟨o,h2,h3⟩:=kU hk h;exact⟨o,by rw[if_pos gg,h1,Rbe,if_pos hl];exact h2,h3⟩
   ·cases h
  ·rename_i gg
   obtain⟨o,h2,h3⟩:=kU hk h;exact⟨o,by rw[if_neg gg];exact h2,h3⟩
 | .ite c t e, t', ρ, o', hg, h => by
  simp only[Tm.exitFall,Qb5,Rbo]at hg;obtain⟨t1,ht,e1,he,rfl⟩:=hg;rw[Gag]at h;simp only[Gag];split at h
  ·exact kU ht h
  ·exact kU he h
  ·cases h
 | .bind i t k, t', ρ, o', hg, h => by
  simp only[Tm.exitFall]at hg
  cases hn:t.no (rD id) with
  |false=>rw[hn]at hg;cases hg
  | true =>
   rw[hn,cond_true,Rbo]at hg;obtain⟨k',hk,rfl⟩:=hg;simp only[tQ,Qb5]at h;obtain⟨o1,h1,h2⟩:=h;simp only[tQ,h1,Rbe];split at h2
   ·rename_i hy
    rw[if_pos hy];exact kU hk h2
   ·rename_i hy
    rw[if_neg hy];obtain rfl:=Rb5 h2;exact⟨o1,rfl,.inr ⟨xN hn h1,rfl⟩⟩
 | .loop init b, t', ρ, o', hg, h => by
  simp only[Tm.exitFall]at hg
  cases hn:b.no (rD id) with
  |false=>rw[hn]at hg;cases hg
  | true =>
   rw[hn,cond_true,Qb7]at hg;subst hg;exact⟨o',h,.inr ⟨xN (t:=.loop init b) (f:=rD id) hn h,rfl⟩⟩
theorem mU {out:Kind}{kc:Kind->Bool}{f:St->Option (Tm St)}(hf:∀ s r,f s=some r->∀ ρ o,Ec cf r ρ=some o->o.kind=out)
  (hc:kc .cont=false) (hy:∀ i,kc (.yield i)=false):∀ {t t':Tm St} {ρ:List D} {o':Out St},t.turn out kc f=some t'->Ec cf t' ρ=some o' ->
  ∃ o,Ec cf t ρ=some o/\((kc o.kind=true/\o'.kind=out/\∃ r,f o.ext=some r/\Ec cf r o.env=some o')\/(kc o.kind=false/\o'=o))
 | .leaf k xs s, t', ρ, o', hg, h => by
  simp only[Tm.turn]at hg
  cases hs:kc k with
  | true =>
   rw[hs,cond_true]at hg;exact⟨_,gU ..,.inl ⟨hs,hf _ _ hg _ _ h,t',hg,h⟩⟩
  | false =>
   rw[hs,cond_false,Qb7]at hg;subst hg;rw[gU]at h;obtain rfl:=Rb5 h;exact⟨_,gU ..,.inr ⟨hs,rfl⟩⟩
 | .stuck, t', ρ, o', hg, h => by
  simp only[Tm.turn,Qb7]at hg;subst hg;rw[kI]at h;cases h
 | .lt g p xs n k, t', ρ, o', hg, h => by
  simp only[Tm.turn,Rbo]at hg;obtain⟨k',hk,rfl⟩:=hg;rw[Oak]at h;simp only[Oak];split at h
  ·rename_i gg
   simp only[Qb5]at h;obtain⟨ds,h1,h⟩:=h;split at h
   ·rename_i hl
    obtain⟨o,h2,h3⟩:=mU hf hc hy hk h;exact⟨o,by rw[if_pos gg,h1,Rbe,if_pos hl];exact h2,h3⟩
   ·cases h
  ·rename_i gg
   obtain⟨o,h2,h3⟩:=mU hf hc hy hk h;exact⟨o,by rw[if_neg gg];exact h2,h3⟩
 | .call g c xs n os k, t', ρ, o', hg, h => by
  simp only[Tm.turn,Rbo]at hg;obtain⟨k',hk,rfl⟩:=hg;rw[wH]at h;simp only[wH];split at h
  ·rename_i gg
   simp only[Qb5]at h;obtain⟨ds,h1,h⟩:=h;split at h
   ·rename_i hl
    obtain⟨o,h2,h3⟩:=mU hf hc hy hk h;exact⟨o,by rw[if_pos gg,h1,Rbe,if_pos hl];exact h2,h3⟩
   ·cases h
  ·rename_i gg
   obtain⟨o,h2,h3⟩:=mU hf hc hy hk h;exact⟨o,by rw[if_neg gg];exact h2,h3⟩
 | .ite c t e, t', ρ, o', hg, h => by
  simp only[Tm.turn,Qb5,Rbo]at hg;obtain⟨t1,ht,e1,he,rfl⟩:=hg;rw[Gag]at h;simp only[Gag];split at h
  ·exact mU hf hc hy ht h
  ·exact mU hf hc hy he h
  ·cases h
 | .bind i t k, t', ρ, o', hg, h => by
  simp only[Tm.turn]at hg
  cases hiy:Nas i out with
  | true =>
   rw[hiy,cond_true]at hg
   cases hn:t.no kc with
   |false=>rw[hn]at hg;cases hg
   | true =>
    rw[hn,cond_true,Rbo]at hg;obtain⟨k',hk,rfl⟩:=hg;simp only[tQ,Qb5]at h;obtain⟨o1,h1,h2⟩:=h;simp only[tQ,h1,Rbe];split at h2
    ·rename_i vq
     rw[if_pos vq];exact mU hf hc hy hk h2
    ·rename_i vq
     rw[if_neg vq];obtain rfl:=Rb5 h2;exact⟨o1,rfl,.inr ⟨xN hn h1,rfl⟩⟩
  | false =>
   rw[hiy,cond_false]at hg;simp only[Qb5,Rbo]at hg;obtain⟨t1,ht,k',hk,rfl⟩:=hg;have dz:out≠.yield i:=fun e=>by rw[Sao.2 e]at hiy;cases hiy
   simp only[tQ,Qb5]at h;obtain⟨o1',h1,h2⟩:=h;obtain⟨o1,h3,h4⟩:=mU hf hc hy ht h1;simp only[tQ,h3,Rbe]
   rcases h4 with ⟨h5,h6,h7⟩|⟨h5,h6⟩
   ·rw[if_neg (by rw[h6];exact dz)]at h2
    obtain rfl:=Rb5 h2;have:o1.kind≠.yield i:=fun e=>by rw[e,hy]at h5;cases h5
    rw[if_neg this];exact⟨o1,rfl,.inl ⟨h5,h6,h7⟩⟩
   ·subst h6
    split at h2
    ·rename_i vq
     rw[if_pos vq];exact mU hf hc hy hk h2
    ·rename_i vq
     rw[if_neg vq];obtain rfl:=Rb5 h2;exact⟨_,rfl,.inr ⟨h5,rfl⟩⟩
 | .loop init b, t', ρ, o', hg, h => by
  simp only[Tm.turn]at hg
  cases hic:Uah out with
  | true =>
   rw[hic,cond_true]at hg
   cases hn:b.no kc with
   |false=>rw[hn]at hg;cases hg
   | true =>
    rw[hn,cond_true,Qb7]at hg;subst hg;exact⟨o',h,.inr ⟨xN (t:=.loop init b) (f:=kc) hn h,rfl⟩⟩
  | false =>
   rw[hic,cond_false,Rbo]at hg;obtain⟨b',hb,rfl⟩:=hg;have dz:out≠.cont:=fun e=>by rw[Va4.2 e]at hic;cases hic
   rw[Oal]at h;simp only[Oal]
   refine Bbj (C:=fun vs o'=>∃ o,Lc cf b ρ vs=some o/\((kc o.kind=true/\o'.kind=out/\∃ r,f o.ext=some r/\Ec cf r o.env=some o')\/(kc o.kind=false/\o'=o)))
    (fun vs o1' h1 hk=>?_) (fun vs o1' o2 h1 hk h2 tg=>?_) h
   ·obtain⟨o1,h3,h4⟩:=mU hf hc hy hb h1
    rcases h4 with ⟨h5,h6,h7⟩|⟨h5,h6⟩
    ·have:o1.kind≠.cont:=fun e=>by rw[e,hc]at h5;cases h5
     exact⟨o1,by rw[Bbk,h3,Rbe,if_neg this],.inl ⟨h5,h6,h7⟩⟩
    ·subst h6
     exact⟨o1',by rw[Bbk,h3,Rbe,if_neg hk],.inr ⟨h5,rfl⟩⟩
   ·obtain⟨o1,h3,h4⟩:=mU hf hc hy hb h1
    rcases h4 with ⟨h5,h6,h7⟩|⟨h5,h6⟩
    ·exact absurd (h6.symm.trans hk) dz
    ·subst h6
     obtain⟨o,h8,h9⟩:=h2;exact⟨o,by rw[Bbk,h3,Rbe,if_pos hk];exact h8,h9⟩
end
def Aav (σ:Nat->Option aU)(N:Nat):Prop:=∀ k c,σ k=some c->dG N c=true
def yU (N:Nat)(ρ gy:List D):Prop:=∀ x,bF N x=true->x.val gy=x.val ρ
theorem yU.ext {N:Nat}{ρ:List D}(h:N<=ρ.length)(e:List D):yU N ρ (ρ++e):=fun x hx=>tO hx h
section
variable {n:Nat} {F:bQ} {σ:Nat->Option aU} {ρ gy:List D} {a:Act} {w:World} {G:Gh} {N:Nat}
theorem yU.gOn (h:yU N ρ gy){g:Option (aP×Bool)}(hg:rH N g=true):Go.Proofs.YtgpamlpecmldfaaGreat.Rf.gOn gy g=Go.Proofs.YtgpamlpecmldfaaGreat.Rf.gOn ρ g:=by
 cases g with
 |none=>rfl
 | some z =>
  obtain⟨x,w⟩:=z;simp only[rH]at hg;simp only[Go.Proofs.YtgpamlpecmldfaaGreat.Rf.gOn,h x hg]
theorem yU.path (h:yU N ρ gy){p:List (aP×Nat×Nat)}(hp:(p.all fun x=>bF N x.1)=true):bG gy p=bG ρ p:=by
 unfold bG;apply List.map_congr_left;intro x hx;rw[Rb6]at hp;unfold mO;rw[h x.1 (hp x hx)]
mutual
theorem aD.same (h:yU N ρ gy):∀ (l:aT) (v:Value),l.inScope N=true->aD σ ρ G w l v->aD σ gy G w l v
 |.dead,_,_,hl=>by simpa[aD] using hl
 | .sc x, v, hs, hl => by
  simp only[aT.inScope]at hs;simp only[aD,h x hs]at hl ⊢;exact hl
 | .su g x, v, hs, hl => by
  simp only[aT.inScope,Qb6]at hs;have hg:Go.Proofs.YtgpamlpecmldfaaGreat.Rf.gOn gy (some g)=Go.Proofs.YtgpamlpecmldfaaGreat.Rf.gOn ρ (some g):=h.gOn (by obtain⟨y,b⟩:=g;exact hs.2);simp only[aD,h x hs.1,hg]at hl ⊢;exact hl
 |.ex r,v,_,hl=>by simpa[aD] using hl
 | .sn deps p nie x, v, hs, hl => by
  simp only[aT.inScope,Qb6]at hs;simp only[aD,h x hs.1]at hl ⊢;refine⟨hl.1,fun hv=>?_⟩;obtain⟨h1,h2,h3⟩:=hl.2 hv;refine⟨h1,h2,?_⟩
  cases p with
  |no=>trivial
  |view=>exact h3
  | suf sz lo =>
   simp only[Da0,mO]at h3 ⊢;rw[h lo hs.2];exact h3
  | path p =>
   simp only[Da0]at h3 ⊢;rw[h.path hs.2];exact h3
 |.px b off,v,_,hl=>by simpa[aD] using hl
 | .pe l sz i off, v, hs, hl => by
  simp only[aT.inScope,Qb6]at hs;simp only[aD,h i hs.2]at hl ⊢;obtain⟨a,n,c,k,iv,h1,h2⟩:=hl;exact⟨a,n,c,k,iv,aD.same h l _ hs.1 h1,h2⟩
 | .rp deps sz x, v, hs, hl => by
  simp only[aT.inScope]at hs;simp only[aD,h x hs]at hl ⊢;exact hl
 |.pn,v,_,hl=>by simpa[aD] using hl
 | .clo f gi, v, hs, hl => by
  simp only[aT.inScope]at hs;simp only[aD]at hl ⊢;obtain⟨vs,h1,h2⟩:=hl;exact⟨vs,h1,aH.same h gi vs hs h2⟩
theorem aH.same (h:yU N ρ gy):∀ (ls:List aT) (vs:List Value),bK N ls=true->aH σ ρ G w ls vs->aH σ gy G w ls vs
 |[],vs,_,hl=>by simpa[aH] using hl
 | l :: ls, vs, hs, hl => by
  simp only[bK,Qb6]at hs;simp only[aH]at hl ⊢;obtain⟨u,us,e,h1,h2⟩:=hl;exact⟨u,us,e,aD.same h l u hs.1 h1,aH.same h ls us hs.2 h2⟩
end
theorem jG.same (h:yU N ρ gy):∀ (ts:List (Bool×List aT)) (us:List Value),(ts.all fun v=>bK N v.2)=true->jG σ ρ G w ts us->jG σ gy G w ts us
 |[],_,_,ht=>ht
 | (a, ls) :: r, us, hs, ht => by
  simp only[List.all_cons,Qb6]at hs;obtain⟨u,eE,vs,e,h1,h2,h3⟩:=ht;exact⟨u,eE,vs,e,aH.same h ls vs hs.1 h1,h2,jG.same h r eE hs.2 h3⟩
theorem dI.same (h:yU N ρ gy){v:SV}{u:Value}(hs:zC N v=true)(hv:dI σ ρ G w v u):dI σ gy G w v u:=by
 cases v with
 |dead=>trivial
 |one l=>exact aD.same h l u hs hv
 |agg ls=>obtain⟨vs,e,h1⟩:=hv;exact⟨vs,e,aH.same h ls vs hs h1⟩
 |tup ts=>obtain⟨us,e,h1⟩:=hv;exact⟨us,e,jG.same h ts us hs h1⟩
theorem oU:∀ {ls:List aT} {j:Nat} {l:aT},bK N ls=true->ls[j]?=some l->l.inScope N=true
 |[],j,l,_,h=>by simp at h
 | m :: ls, 0, l, hs, h => by
  simp only[bK,Qb6]at hs;simp only[Rbf,Qb7]at h;rw[<- h];exact hs.1
 | m :: ls, j + 1, l, hs, h => by
  simp only[bK,Qb6]at hs;exact oU hs.2 (by simpa using h)
theorem R.same (h:R n F σ ρ a w G)(hs:Aav σ N)(hv:yU N ρ gy):R n F σ gy a w G:=by
 refine⟨h.tmps,h.defers,fun k c hk=>?_,h.frame,h.rng⟩;have kz:=hs k c hk
 cases c with
 | slot g v =>
  simp only[dG,Qb6]at kz;obtain⟨t,e,h1⟩:=h.cont k _ hk;exact⟨t,e,fun hg=>(h1 (by rw[<- hv.gOn kz.1];exact hg)).same hv kz.2⟩
 | box ro ls =>
  simp only[dG]at kz;obtain⟨b,e,h1,h2,h3⟩:=h.cont k _ hk;refine⟨b,e,h1,h2,fun j l hj=>?_⟩;obtain⟨v,h4,h5,h6⟩:=h3 j l hj;exact⟨v,h4,h5,aD.same hv l v (oU kz hj) h6⟩
 | root x m cQ st =>
  simp only[dG]at kz;obtain⟨r,e,h0,h1⟩:=h.cont k _ hk;refine⟨r,e,h0,?_⟩
  cases st with
  |live=>simp only[dB]at h1 ⊢;rw[hv x kz];exact h1
  |frozen=>simp only[dB]at h1 ⊢;rw[hv x kz];exact h1
  |gone=>trivial
  |fwd r'=>exact h1
theorem R.ext (h:R n F σ ρ a w G)(hs:Aav σ N)(hn:N<=ρ.length)(e:List D):R n F σ (ρ++e) a w G:=h.same hs (.ext hn e)
theorem dY {M:Nat}(h:N<=M){x:aP}(hx:bF N x=true):bF M x=true:=by
 cases x with
 |c d=>rfl
 |v i=>simp only[bF,Sbn]at hx ⊢;omega
theorem Hay {M:Nat}(h:N<=M){p:Pth}(hx:Cak N p=true):Cak M p=true:=by
 cases p with
 |no=>rfl
 |view=>rfl
 |suf sz lo=>exact dY h hx
 | path p =>
  simp only[Cak,Rb6]at hx ⊢;exact fun x hm=>dY h (hx x hm)
mutual
theorem qY {M:Nat}(h:N<=M):∀ (l:aT),l.inScope N=true->l.inScope M=true
 |.dead,_=>rfl
 |.sc x,hs=>by simp only[aT.inScope]at hs ⊢;exact dY h hs
 |.su g x,hs=>by simp only[aT.inScope,Qb6]at hs ⊢;exact⟨dY h hs.1,dY h hs.2⟩
 |.ex r,_=>rfl
 |.sn deps p nie x,hs=>by simp only[aT.inScope,Qb6]at hs ⊢;exact⟨dY h hs.1,Hay h hs.2⟩
 |.px b off,_=>rfl
 |.pe l sz i off,hs=>by simp only[aT.inScope,Qb6]at hs ⊢;exact⟨qY h l hs.1,dY h hs.2⟩
 |.rp deps sz x,hs=>by simp only[aT.inScope]at hs ⊢;exact dY h hs
 |.pn,_=>rfl
 |.clo f gi,hs=>by simp only[aT.inScope]at hs ⊢;exact iX h gi hs
theorem iX {M:Nat}(h:N<=M):∀ (ls:List aT),bK N ls=true->bK M ls=true
 |[],_=>rfl
 |l::ls,hs=>by simp only[bK,Qb6]at hs ⊢;exact⟨qY h l hs.1,iX h ls hs.2⟩
end
theorem yM {M:Nat}(h:N<=M){c:aU}(hs:dG N c=true):dG M c=true:=by
 cases c with
 | slot g v =>
  simp only[dG,Qb6]at hs ⊢;refine⟨yG hs.1 h,?_⟩
  cases v with
  |dead=>rfl
  |one l=>exact qY h l hs.2
  |agg ls=>exact iX h ls hs.2
  | tup ts =>
   have h2:=hs.2;simp only[zC,Rb6]at h2 ⊢;exact fun x hx=>iX h x.2 (h2 x hx)
 |box ro ls=>exact iX h ls hs
 |root x m cQ st=>exact dY h hs
theorem Aav.mono {M:Nat}(hs:Aav σ N)(h:N<=M):Aav σ M:=fun k c hk=>yM h (hs k c hk)
theorem Aav.upds {M:Nat}(hs:Aav σ N)(h:N<=M){u:List (Nat×aU)}(hu:u.all (fun x=>dG M x.2)=true):Aav (upds σ u) M:=by
 intro k c hk
 rcases sD u σ k c hk with h1|⟨-,h1⟩
 ·rw[Rb6]at hu
  exact hu _ h1
 ·exact yM h (hs k c h1)
end
end Go.Proofs.YtgpamlpecmldfaaGreat.Rf
