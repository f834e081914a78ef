import Derived.Test.YtgpamlpecmldfaaGreatRf3
import Derived.Laws.MakeOwn
set_option linter.all false
open Array renaming getElem?_eq_getElem → Sbv, length_toList → Ubf, ext' → Vbo
open Bool renaming and_eq_true → Rbu, not_eq_true' → Sbl
open List renaming getElem?_eq_some_iff → Rbw, mem_append_left → Rbx, mem_singleton → Rby, getElem?_eq_getElem → Rbz, mem_append_right → Rb0, getElem?_cons_zero → Rb2, append_assoc → Rb3, mem_cons → Rb4, getElem?_append_right → Rb6, mem_cons_of_mem → Rb7, length_append → Rb8, getElem?_append_left → Rb9, mem_of_getElem? → Sba, mem_append → Sbd, mem_cons_self → Sbe, replicate → Sbi, map_cons → Sbk, length_take → Sbn, all_eq_true → Sbp, length_map → Sbr, append_nil → Sbu, map_nil → Sbw, getElem?_map → Sbx, mem_iff_getElem? → Tbe, ext_getElem? → Ub9
open List.cons renaming injEq → Tbj
open Nat renaming add_assoc → Sbf, le_refl → Sbg, lt_or_ge → Sbh, beq_eq → Sbq, add_zero → Sbz, add_sub_cancel_left → Sb2, blt_eq → Sb5, ble_eq → Tbc, blt → Tbh, mul_comm → Ubp, le_succ → Ubw, le_add_right → Vba
open Option renaming bind_eq_some_iff → Rbt, bind_some → Rb1, map_eq_some_iff → Sbc, isNone_iff_eq_none → Ubi
open Option.some renaming injEq → Rbv, inj → Sbs
open Prod.mk renaming injEq → Sbj, inj → Ubb
namespace Go.Proofs.YtgpamlpecmldfaaGreat.Rf
def Uaj (l7:List Nat)(mA:Option Nat)(nsz:Nat)(src:Option (Nat×List Nat×Nat))(nr M:Nat)(s:Nat)(p:List Nat):Ow :=
 if s∈l7 then .frz else if mA=some s then (match p with
  |k::t=>wP nr M ((nsz+k)::t)
  |[]=>.frz) else
 match src with
 |some (r,pq,mr)=>if s=r then (if pq <+: p then wP nr M (p.drop pq.length) else wP r mr p) else .slc s p
 |none=>.slc s p
section
variable {P:Program} {E:Env} {F:bE} {n:Nat} {σ:Nat->Option aP} {ρ:List D} {a:Act} {w w':World} {G G':Gh} {g:Option (aJ×Bool)} {o:Oper} {cf:Nat->List D->Option (List D)} {Q:Exit->Act->World->Prop} {next:Act->World->Prop}
structure XOk (σ:Nat->Option aP) (ρ:List D) (G:Gh) (w:World) (v:Value) (ra:List (List D)) (sz m:Nat) (updX:List (Nat×aP)) (src:Option (Nat×List Nat×Nat)) (A:Option Addr) (b:Addr) (n cap:Nat) (vs:Nat->Nat->Value):Prop where
 side:Side w v ra sz A b n cap vs
 base:(A=some b/\b.spot=none)\/(A=none/\cap=0)
 own:A=some b->∃ r pq mr,src=some (r,pq,mr)/\G.own b.block=.slc r pq
 all:A=some b->∀ k,k<cap*sz->∃ u,w.cell? (b.add k)=some u/\fzq w (b.add k)=false
 ch:∀ i row,ra[i]?=some row->∀ j d,row[j]?=some d->∃ r pq mr,src=some (r,pq,mr)/\Rp G.own w r (pq++[i*sz+j]) (m-1) (vs i j) d
 m:1<=m
 upd:(src=none/\updX=[])\/∃ r pq mr X k,src=some (r,pq,mr)/\σ (kR r)=some (.root X mr k .live) /\
  ((pq=[]/\updX=[(kR r,.root (.c .hole) 0 0 .gone)])\/(∃ X',updX=[(kR r,.root X' mr (k+1) .live)]/\Upd pq (X.val ρ) .hole (X'.val ρ)/\wW G.own w r [] (G.hdr r) pq v/\pq.length<mr))
theorem Cba (hR:R E.ntmps F σ ρ a w G)(hd:eU E.ntmps o){nb nr:Nat}(hf:Bah σ nb nr){fl:Bool}{vx vy v:Value}{ra rb:List (List D)}{sz m dy M:Nat}{updX gE:List (Nat×aP)}{src:Option (Nat×List Nat×Nat)}{ry l7:List Nat}{mA:Option Nat}
  {A By:Option Addr} {b zz:Addr} {n n' cap mS:Nat} {vs sA:Nat->Nat->Value}
  (hX:XOk σ ρ G w vx ra sz m updX src A b n cap vs) (hY:YOk σ G w fl vy rb sz dy gE ry l7 mA)
  (pT:Side w vy rb sz By zz n' mS sA) (hYc:∀ i row,rb[i]?=some row->∀ j d,row[j]?=some d->ChY G w l7 mA dy (sA i j) d (i*sz+j))
  {w1:World} {A':Option Addr} {cb:Addr} {jl:Nat} {grow:Bool} (hA:Ibs w w1 G A n n' cap sz (iE vs n sz) (iE sA n' sz) v A' cb jl grow)
  (kv:fl=true->∀ r∈ra++rb,∀ d∈r,d.isSc=true) (hM1:1<=M) (hM:fl=false->M<=m/\M<=dy)
  (xh:∀ r pq mr,src=some (r,pq,mr)->r∉ry\/fl=true) {y:aJ} (hy:y.val ρ=.rows sz (ra++rb)) :
  ∃ G',R E.ntmps F (upds σ (dM o none (.one (.ex nr))++((kR nr,.root y M 0 .live)::updX++gE))) ρ (a.put o.dst v) w1 G':=by
 obtain⟨M,rfl⟩:∃ M',M=M'+1:=⟨M-1,by omega⟩;have jq:σ (kR nr)=none:=hf.nr nr (Sbg _) (by unfold bR;omega)
 have mN:∀ b,G.own b≠.frz->b<w.heap.size:=fun b hb=>by
  rcases Sbh b w.heap.size with h|h
  ·exact h
  ·exact absurd (hR.frame.fresh b h) hb
 have a1v:∀ r pq mr,src=some (r,pq,mr)->r∉l7/\mA≠some r:=by
  intro r pq mr e
  rcases xh r pq mr e with h|h
  ·exact⟨fun hh=>h (hY.fz r hh).1,fun hh=>h (hY.mv r hh).1⟩
  ·obtain⟨-,h2,h3⟩:=hY.flat h
   rw[h2,h3];simp
 have p4:∀ r pq mr,src=some (r,pq,mr)->∃ X k,σ (kR r)=some (.root X mr k .live)/\∃ c,(kR r,c)∈updX:=by
  intro r pq mr e
  rcases hX.upd with ⟨h1,-⟩|⟨r',uj,rm,X,k,h1,h2,h3⟩
  ·rw[h1]at e;cases e
  ·rw[h1]at e
   obtain⟨rfl,rfl,rfl⟩:r'=r/\uj=pq/\rm=mr:=by injection e with e;injection e with e1 e;injection e with e2 e3;exact⟨e1,e2,e3⟩
   refine⟨X,k,h2,?_⟩
   rcases h3 with ⟨-,h3⟩|⟨X',h3,-⟩<;>exact⟨_,by rw[h3];exact Rby.2 rfl⟩
 have y9:grow=false->A'≠none->∃ r pq mr,src=some (r,pq,mr)/\G.own cb.block=.slc r pq:=by
  intro hg dk
  rcases hA.base with ⟨h1,-⟩|⟨-,-,h2⟩|⟨-,h2⟩
  ·rw[hg]at h1;cases h1
  ·rcases hX.base with ⟨h3,h4⟩|⟨h3,-⟩
   ·rw[h2]at h3
    obtain rfl:=Sbs h3;exact hX.own h2
   ·rw[h2]at h3;cases h3
  ·exact absurd h2 dk
 have cI:∀ b,b<w.heap.size->(∀ r pq mr,src=some (r,pq,mr)->G.own b≠.slc r pq)->w1.heap[b]?=w.heap[b]?:=by
  intro b' aw eJ;refine hA.heap b' aw ?_
  cases hg:grow with
  |true=>exact .inl rfl
  | false =>
   by_cases dk:A'=none
   ·exact .inr (.inl dk)
   ·obtain⟨r,pq,mr,h1,h2⟩:=y9 hg dk
    exact .inr (.inr fun e=>eJ r pq mr h1 (e▸h2))
 generalize bz:(fun b'=>if b'=w.heap.size then (if grow=true then Ow.slc nr [] else .frz) else lJ (Uaj l7 mA (n*sz) src nr (M+1)) (G.own b'))=own'
 have fv:∀ b' s p,G.own b'=.slc s p->own' b'=Uaj l7 mA (n*sz) src nr (M+1) s p:=fun b' s p hb=>by
  have:=mN b' (by rw[hb];simp);rw[<- bz];dsimp only;rw[if_neg (by omega),hb];rfl
 have hz:∀ b',G.own b'=.frz->b'<w.heap.size->own' b'=.frz/\w1.heap[b']?=w.heap[b']?:=fun b' hb aw=>by
  refine⟨?_,cI b' aw fun _ _ _ _=>by rw[hb];simp⟩;rw[<- bz];dsimp only;rw[if_neg (by omega),hb];rfl
 have xF:∀ s∈l7,∀ p,Uaj l7 mA (n*sz) src nr (M+1) s p=.frz:=fun s hs p=>by
  unfold Uaj;rw[if_pos hs]
 have sk:∀ r pq mr,src=some (r,pq,mr)->∀ p,Uaj l7 mA (n*sz) src nr (M+1) r p=if pq <+: p then wP nr (M+1) (p.drop pq.length) else wP r mr p:=fun r pq mr e p=>by
  obtain⟨h1,h2⟩:=a1v r pq mr e;unfold Uaj;rw[if_neg h1,if_neg h2,e];simp
 have tp:∀ s,s∈ry->fl=false->∀ r pq mr,src=some (r,pq,mr)->s≠r:=fun s hs ie r pq mr e h=>by
  rcases xh r pq mr e with h1|h1
  ·exact h1 (h▸hs)
  ·rw[ie]at h1;cases h1
 have hold:∀ i row,ra[i]?=some row->∀ j d,row[j]?=some d->w1.cell? (cb.add (i*sz+j))=some (vs i j)/\Rp own' w1 nr [i*sz+j] M (vs i j) d:=by
  intro i row hi j d hj;have oy:i<n:=by rw[<- hX.side.len];exact (Rbw.1 hi).1
  have ni:j<sz:=by
   have:=(Rbw.1 hj).1;rwa[hX.side.rows row (Sba hi)]at this
  refine⟨hA.cell _ _ (by rw[Rb9];exact kZ vs oy ni;exact (Rbw.1 (kZ vs oy ni)).1),?_⟩;obtain⟨r,pq,mr,e,h1⟩:=hX.ch i row hi j d hj
  cases ie:fl with
  |true=>exact .sc (h1.sc_inv (kv ie row (Rbx _ (Sba hi)) d (Sba hj)))
  | false =>
   obtain⟨h2,h3⟩:=hM ie;refine h1.move hz _ M (by omega) fun b' t hb=>⟨?_,cI b' (mN b' (by rw[hb];simp)) fun r' uj rm e' hh=>?_⟩
   ·rw[fv b' _ _ hb,sk r pq mr e,if_pos (by rw[Rb3];exact List.prefix_append _ _),Rb3,List.drop_left,wP]
    simp only[Rb8,List.length_singleton];by_cases ht:t.length<M
    ·rw[if_pos ht,if_pos (by omega)]
    ·rw[if_neg ht,if_neg (by omega)]
   ·rw[e]at e'
    obtain⟨rfl,rfl,rfl⟩:r=r'/\pq=uj/\mr=rm:=by injection e' with e;injection e with e1 e;injection e with e2 e3;exact⟨e1,e2,e3⟩
    rw[hb]at hh
    injection hh with _ hh
    have:=congrArg List.length hh;simp at this
 have ij:∀ i row,rb[i]?=some row->∀ j d,row[j]?=some d->w1.cell? (cb.add ((n+i)*sz+j))=some (sA i j)/\Rp own' w1 nr [(n+i)*sz+j] M (sA i j) d:=by
  intro i row hi j d hj;have oy:i<n':=by rw[<- pT.len];exact (Rbw.1 hi).1
  have ni:j<sz:=by
   have:=(Rbw.1 hj).1;rwa[pT.rows row (Sba hi)]at this
  have lO:(n+i)*sz+j=n*sz+(i*sz+j):=by rw[Nat.add_mul];omega
  refine⟨hA.cell _ _ (by rw[lO,Rb6 (by rw[kC];omega),kC,Sb2];exact kZ sA oy ni),?_⟩;have nh:fl=true->d.isSc=true:=fun ie=>kv ie row (Rb0 _ (Sba hi)) d (Sba hj)
  rcases hYc i row hi j d hj with h1|⟨s,h1,h2,h3⟩|⟨h1,h2⟩
  ·exact .sc h1
  ·cases ie:fl with
   |true=>exact .sc (h3.sc_inv (nh ie))
   | false =>
    obtain⟨h4,h5⟩:=hM ie;obtain⟨h6,-,h7⟩:=hY.mv s h1;refine h3.move hz _ M (by omega) fun b' t hb=>⟨?_,cI b' (mN b' (by rw[hb];simp)) fun r' uj rm e' hh=>?_⟩
    ·rw[fv b' _ _ hb]
     unfold Uaj;rw[if_neg h7,if_pos h1];simp only[List.singleton_append];rw[wP,lO];simp only[List.length_cons];by_cases ht:t.length<M
     ·rw[if_pos ht,if_pos (by omega)]
     ·rw[if_neg ht,if_neg (by omega)]
    ·rw[hb]at hh
     injection hh with hh _
     exact tp s h6 ie r' uj rm e' hh
  ·cases ie:fl with
   |true=>exact .sc (h2.sc_inv (nh ie))
   | false =>
    obtain⟨h4,h5⟩:=hM ie;obtain rfl:M=0:=by omega
    refine .fz (h2.mono' fun b' hb aw=>?_)
    rcases hb with hb|⟨r',p',h6,hb⟩
    ·exact hz b' hb aw
    ·refine⟨by rw[fv b' _ _ hb,xF r' h6],cI b' aw fun r'' uj rm e' hh=>?_⟩
     rw[hb]at hh
     injection hh with hh _
     exact tp r' (hY.fz r' h6).1 ie r'' uj rm e' hh
 have eW:∀ {s:Nat} {c:aP},(kR s,c)∈(kR nr,aP.root y (M+1) 0 .live)::updX++gE ->
   (s=nr/\c=.root y (M+1) 0 .live) \/
   (∃ pq mr X k,src=some (s,pq,mr)/\σ (kR s)=some (.root X mr k .live)/\(c=.root (.c .hole) 0 0 .gone\/∃ X',c=.root X' mr (k+1) .live/\Upd pq (X.val ρ) .hole (X'.val ρ)/\wW G.own w s [] (G.hdr s) pq vx/\pq.length<mr)) \/
   (mA=some s/\s∈ry/\c=.root (.c .hole) 0 0 .gone) \/
   (s∈l7/\s∈ry/\∃ x m v,c=.root x m v .frozen/\σ (kR s)=some (.root x m v .live)):=by
  intro s c hc
  rcases Sbd.1 hc with hc|hc
  ·rcases Rb4.1 hc with hc|hc
   ·obtain⟨e1,e2⟩:=Ubb hc
    exact .inl ⟨eF e1,e2⟩
   ·rcases hX.upd with ⟨-,h2⟩|⟨r,pq,mr,X,k,h1,h2,h3⟩
    ·rw[h2]at hc;simp at hc
    ·rcases h3 with ⟨h4,h5⟩|⟨X',h5,h6⟩
     ·rw[h5]at hc
      simp only[Rby,Sbj]at hc;obtain⟨e1,e2⟩:=hc;obtain rfl:=eF e1;exact .inr (.inl ⟨pq,mr,X,k,h1,h2,.inl e2⟩)
     ·rw[h5]at hc
      simp only[Rby,Sbj]at hc;obtain⟨e1,e2⟩:=hc;obtain rfl:=eF e1;exact .inr (.inl ⟨pq,mr,X,k,h1,h2,.inr ⟨X',e2,h6⟩⟩)
  ·obtain⟨s',e1,h1,h2⟩:=hY.upd _ _ hc
   obtain rfl:=eF e1
   rcases h2 with ⟨h2,h3,-⟩|⟨h2,x,m,b9,h3,h4⟩
   ·exact .inr (.inr (.inl ⟨h2,h1,h3⟩))
   ·exact .inr (.inr (.inr ⟨h2,h1,x,m,b9,h3,h4⟩))
 have mb:∀ r,(σ (kR r)).isSome->r≠nr:=fun r hr e=>by rw[e,jq]at hr;cases hr
 have sa:∀ s,s∈l7->fl=false:=fun s hs=>by
  cases ie:fl with
  |false=>rfl
  |true=>rw[(hY.flat ie).2.1]at hs;simp at hs
 refine⟨{ G with own:=own',hdr:=fun r=>if r=nr then v else G.hdr r },hR.own hd (f:=Uaj l7 mA (n*sz) src nr (M+1)) (wr:=fun b'=>b'=cb.block/\grow=false/\A'≠none) ?_ ?_ ?_ ?_ ?_ ?_ ?_ ?_ ?_ ?_ ?_ rfl ?_ ?_⟩
 ·intro k c hc
  rcases Sbd.1 hc with hc|hc
  ·rcases Rb4.1 hc with hc|hc
   ·exact⟨nr,(Ubb hc).1⟩
   ·rcases hX.upd with ⟨-,h2⟩|⟨r,pq,mr,X,k',h1,h2,h3⟩
    ·rw[h2]at hc;simp at hc
    ·rcases h3 with ⟨h4,h5⟩|⟨X',h5,h6⟩<;>(rw[h5]at hc;simp only[Rby,Sbj]at hc;exact⟨r,hc.1⟩)
  ·obtain⟨s',e1,-⟩:=hY.upd _ _ hc
   exact⟨s',e1⟩
 ·intro b' aw
  show own' b'=_
  rw[<- bz];dsimp only;rw[if_neg (by omega)]
 ·intro b' hb
  rw[hA.size]at hb;show own' b'=.frz
  rw[<- bz];dsimp only;by_cases e:b'=w.heap.size
  ·rw[if_pos e]
   cases hg:grow with
   |true=>rw[hg]at hb;simp at hb;omega
   |false=>simp
  ·rw[if_neg e,hR.frame.fresh b' (by split at hb<;>omega)];rfl
 ·exact⟨hA.os.1,hA.os.2.1,hA.os.2.2,by rw[hA.size];omega⟩
 ·intro b' hb
  show own' b'=.frz\/∃ r p,own' b'=.slc r p/\_
  rw[<- bz];dsimp only;by_cases e:b'=w.heap.size
  ·rw[if_pos e]
   cases hg:grow with
   |true=>exact .inr ⟨nr,[],by simp,jq⟩
   |false=>exact .inl (by simp)
  ·rw[if_neg e,hR.frame.fresh b' hb];exact .inl rfl
 ·intro b' aw hnw
  refine hA.heap b' aw ?_
  cases hg:grow with
  |true=>exact .inl rfl
  | false =>
   by_cases dk:A'=none
   ·exact .inr (.inl dk)
   ·exact .inr (.inr fun e=>hnw ⟨e,hg,dk⟩)
 ·rintro b' ⟨rfl,hg,dk⟩
  obtain⟨r,pq,mr,h1,h2⟩:=y9 hg dk;obtain⟨X,k,-,c,hc⟩:=p4 r pq mr h1;exact⟨r,pq,h2,c,Rbx _ (Rb7 _ hc)⟩
 ·intro b' s p hb iz
  have h1:s∉l7:=fun hs=>by
   rcases (hY.fz s hs).2 with ⟨c,hc⟩|⟨x,m,b9,h⟩
   ·exact iz c (Rb0 _ hc)
   ·exact (hR.root h).2 b' p hb
  have h2:mA≠some s:=fun hs=>by
   obtain⟨c,hc⟩:=(hY.mv s hs).2.1;exact iz c (Rb0 _ hc)
  unfold Uaj;rw[if_neg h1,if_neg h2]
  cases ll:src with
  |none=>rfl
  | some x =>
   obtain⟨r,pq,mr⟩:=x;dsimp only;rw[if_neg];intro e;obtain⟨X,k,-,c,hc⟩:=p4 r pq mr ll;exact iz c (Rbx _ (Rb7 _ (e▸hc)))
 ·intro s c hc _
  rcases eW hc with ⟨rfl,rfl⟩|⟨pq,mr,X,k,h1,h2,h3⟩|⟨h1,h2,rfl⟩|⟨h1,h2,x,m',b9,rfl,h4⟩
  ·exact .inl ⟨jq,_,_,_,_,rfl⟩
  ·rcases h3 with rfl|⟨X',rfl,-⟩
   ·exact .inr (.inr (.inl ⟨_,_,_,_,rfl,by simp,by simp⟩))
   ·exact .inr (.inl ⟨_,_,_,_,_,h2,rfl⟩)
  ·exact .inr (.inr (.inl ⟨_,_,_,_,rfl,by simp,by simp⟩))
  ·refine .inr (.inr (.inr ⟨x,m',b9,h4,rfl,fun b' p hb=>⟨?_,cI b' (mN b' (by rw[hb];simp)) fun r pq mr e hh=>?_⟩⟩))
   ·show own' b'=.frz
    rw[fv b' _ _ hb,xF s h1]
   ·rw[hb]at hh
    injection hh with hh _
    exact tp s h2 (sa s h1) r pq mr e hh
 ·intro r0 x0 m0 k0 kg s p q hF
  have y6:=mb r0 (by rw[kg];rfl)
  have p7:∀ R M' q',wP R M' q'=.slc r0 q->R=r0:=by
   intro R M' q' h;unfold wP at h;split at h
   ·injection h
   ·cases h
  unfold Uaj at hF;split at hF
  ·cases hF
  ·split at hF
   ·split at hF
    ·exact absurd (p7 _ _ _ hF).symm y6
    ·cases hF
   ·split at hF
    ·rename_i _ r pq mr
     split at hF
     ·split at hF
      ·exact absurd (p7 _ _ _ hF).symm y6
      ·have:=p7 _ _ _ hF
       subst this;obtain⟨X,k,h,-⟩:=p4 r pq mr rfl;rw[h]at kg
       injection kg with e;injection e with _ _ _ e;cases e
     ·injection hF with h1 h2;exact⟨h1,h2⟩
    ·injection hF with h1 h2;exact⟨h1,h2⟩
 ·intro r hr
  show (if r=nr then _ else _)=_
  rw[if_neg (mb r hr)]
 ·intro _ _
  simp only[bV,aB,if_true];refine⟨trivial,dP _ _ _ (.inr ⟨_,Rb0 _ (Rbx _ Sbe)⟩),by rw[hA.val];rfl⟩
 ·intro _ s c hc _
  rcases eW hc with ⟨rfl,rfl⟩|⟨pq,mr,X,k,h1,h2,h3⟩|⟨h1,h2,rfl⟩|⟨h1,h2,x,m',b9,rfl,h4⟩
  ·refine⟨_,_,_,_,rfl,?_⟩
   simp only[bP,if_true];rw[hy,hA.val]
   have mT:∀ i row,(ra++rb)[i]?=some row->(i<n/\ra[i]?=some row)\/(n<=i/\rb[i-n]?=some row):=by
    intro i row hi;by_cases aw:i<ra.length
    ·rw[Rb9 aw]at hi
     exact .inl ⟨by rw[<- hX.side.len];exact aw,hi⟩
    ·rw[Rb6 (by omega),hX.side.len]at hi
     exact .inr ⟨by rw[<- hX.side.len];omega,hi⟩
   refine .sl _ cb (n+n') jl sz _ (fun i j=>if i<n then vs i j else sA (i-n) j) (by simp[hX.side.len,pT.len]) hA.le hA.aval (fun row hr=>?_) (fun mm=>⟨hA.spot,?_,fun k hk=>hA.all k hk⟩) (fun i row hi j d hj=>?_) (fun i row hi j d hj=>?_)
   ·rcases Sbd.1 hr with hr|hr
    ·exact hX.side.rows _ hr
    ·exact pT.rows _ hr
   ·rcases hA.base with ⟨h1,-,h2⟩|⟨h1,-⟩|⟨-,h2⟩
    ·rw[<- bz]
     dsimp only;rw[if_pos h2,if_pos h1]
    rotate_left
    ·rw[h2]at mm;cases mm
    ·obtain⟨r,pq,mr,h2,h3⟩:=y9 h1 (by rw[mm];simp)
     rw[fv _ _ _ h3,sk r pq mr h2,if_pos List.prefix_rfl];simp[wP]
   ·rcases mT i row hi with ⟨h1,h2⟩|⟨h1,h2⟩
    ·rw[if_pos h1];exact (hold i row h2 j d hj).1
    ·rw[if_neg (by omega)]
     have:=(ij _ row h2 j d hj).1;rwa[show n+(i-n)=i by omega]at this
   ·rcases mT i row hi with ⟨h1,h2⟩|⟨h1,h2⟩
    ·rw[if_pos h1];exact (hold i row h2 j d hj).2
    ·rw[if_neg (by omega)]
     have:=(ij _ row h2 j d hj).2;rwa[show n+(i-n)=i by omega]at this
  ·rcases h3 with rfl|⟨X',rfl,h4,h5,h6⟩
   ·exact⟨_,_,_,_,rfl,trivial⟩
   ·refine⟨_,_,_,_,rfl,?_⟩
    simp only[bP];rw[if_neg (mb s (by rw[h2];rfl))];have hr:=hR.root h2;simp only[bP]at hr;have:=Rp.upd (own':=own') (w':=w1) (r:=s) (M':=mr) (full:=pq) hz (fun b' t hb ht=>⟨?_,cI b' (mN b' (by rw[hb];simp)) fun r' uj rm e' hh=>?_⟩) (by omega) (.hole _ (by rw[hX.side.val];rfl)) pq [] mr (G.hdr s) _ _ rfl (Sbg _) (by simpa using hr) h5 h4
    ·simpa using this
    ·rw[fv b' _ _ hb,sk s pq mr h1,if_neg ht]
     rfl
    ·rw[h1]at e'
     obtain⟨-,rfl,-⟩:s=r'/\pq=uj/\mr=rm:=by injection e' with e;injection e with e1 e;injection e with e2 e3;exact⟨e1,e2,e3⟩
     rw[hb]at hh
     injection hh with _ hh
     exact ht (hh▸List.prefix_rfl)
  ·exact⟨_,_,_,_,rfl,trivial⟩
  ·refine⟨x,m',b9,.frozen,rfl,?_,fun b' p hb=>?_⟩
   ·have:=hR.root h4
    simp only[bP]at this ⊢;rw[if_neg (mb s (by rw[h4];rfl))];refine this.rd.mono' fun b' hb aw=>?_
    rcases hb with hb|⟨p,hb⟩
    ·exact hz b' hb aw
    ·refine⟨by rw[fv b' _ _ hb,xF s h1],cI b' aw fun r pq mr e hh=>?_⟩
     rw[hb]at hh
     injection hh with hh _
     exact tp s h2 (sa s h1) r pq mr e hh
   ·have eJ:own' b'=.slc s p:=hb
    have zi:=mb s (by rw[h4];rfl)
    have p7:∀ R M' q',R≠s->wP R M' q'≠.slc s p:=by
     intro R M' q' jg h;unfold wP at h;split at h
     ·injection h with h _;exact jg h
     ·cases h
    rcases Sbh b' w.heap.size with aw|nj
    ·rw[<- bz]at eJ
     dsimp only at eJ;rw[if_neg (by omega)]at eJ
     cases e:G.own b' with
     | slc s' p' =>
      rw[e]at eJ;have hF:Uaj l7 mA (n*sz) src nr (M+1) s' p'=.slc s p:=eJ;unfold Uaj at hF;split at hF
      ·cases hF
      ·rename_i km
       split at hF
       ·split at hF
        ·exact p7 _ _ _ zi.symm hF
        ·cases hF
       ·split at hF
        ·rename_i _ r pq mr
         split at hF
         ·split at hF
          ·exact p7 _ _ _ zi.symm hF
          ·exact p7 _ _ _ (tp s h2 (sa s h1) r pq mr rfl).symm hF
         ·injection hF with h5 _;exact km (h5▸h1)
        ·injection hF with h5 _;exact km (h5▸h1)
     |_=>rw[e]at eJ;cases eJ
    ·rw[<- bz]at eJ
     dsimp only at eJ;by_cases e:b'=w.heap.size
     ·rw[if_pos e]at eJ
      split at eJ
      ·injection eJ with h5 _;exact zi h5.symm
      ·cases eJ
     ·rw[if_neg e,hR.frame.fresh b' nj]at eJ
      cases eJ
end
section
variable {P:Program} {E:Env} {F:bE} {n:Nat} {σ:Nat->Option aP} {ρ:List D} {a:Act} {w w':World} {G G':Gh} {g:Option (aJ×Bool)} {o:Oper} {cf:Nat->List D->Option (List D)} {Q:Exit->Act->World->Prop} {next:Act->World->Prop}
theorem Eb4 {sz bytes:Nat}{fl:Bool}{x y:D}{ds:List D}(h:(aN.app sz bytes fl).run [x,y]=some ds) :
  ∃ ra rb,x=.rows sz ra/\y=.rows sz rb/\(fl=true->∀ r∈ra++rb,∀ d∈r,d.isSc=true)/\(ra.length+rb.length)*bytes<=gB/\ds=[.rows sz (ra++rb)]:=by
 cases x<;>cases y<;>simp only[aN.run]at h<;>first|cases h|skip
 rename_i s1 ra s2 rb;split at h
 ·rename_i h1
  obtain⟨rfl,rfl,h2,h3⟩:=h1;simp only[Rbv]at h;refine⟨ra,rb,rfl,rfl,fun hf=>?_,h3,h.symm⟩;rw[hf]at h2;simp only[Bool.not_true,Bool.false_or,Sbp]at h2;exact fun r hr d hd=>h2 r hr d hd
 ·cases h
theorem XOk.ofRp {v:Value}{ra:List (List D)}{sz md r mr:Nat}{pq:List Nat}{updX:List (Nat×aP)}(h:Rp G.own w r pq md v (.rows sz ra))(h1:1<=md){X:aJ}{k:Nat}(hk:σ (kR r)=some (.root X mr k .live))
  (hu:(pq=[]/\updX=[(kR r,.root (.c .hole) 0 0 .gone)])\/(∃ X',updX=[(kR r,.root X' mr (k+1) .live)]/\Upd pq (X.val ρ) .hole (X'.val ρ)/\wW G.own w r [] (G.hdr r) pq v/\pq.length<mr)) :
  ∃ A b n cap vs,XOk σ ρ G w v ra sz md updX (some (r,pq,mr)) A b n cap vs:=by
 obtain⟨m',rfl⟩:∃ m',md=m'+1:=⟨md-1,by omega⟩;obtain⟨A,b,n,c,vs,e1,e2,e3,e4,e5,e6,e7,e8⟩:=h.sl_inv;refine⟨A,b,n,c,vs,⟨e1,e2,e3,e5,e7⟩,?_,fun hA=>⟨r,pq,mr,rfl,(e6 hA).2.1⟩,fun hA=>(e6 hA).2.2,fun i row hi j d hj=>⟨r,pq,mr,rfl,e8 i row hi j d hj⟩,h1,.inr ⟨r,pq,mr,X,k,rfl,hk,hu⟩⟩
 rcases e4 with e4|e4
 ·exact .inl ⟨e4,(e6 e4).1⟩
 ·exact .inr e4
theorem Eb5 (hR:R E.ntmps F σ ρ a w G)(hd:eU E.ntmps o){nb nr nv:Nat}(hf:Bah σ nb nr){t tx e:TypeId}{ti:TI}{info:TypeInfo}{u u':TypeDesc}{x y:Operand}{args:Array Operand}{argTypes:Array TypeId}
  (ho:o.op=.call { callee:=.builtin .append,args,argTypes }) (fb:args.toList=[x,y]) (jn:argTypes=#[t,tx]) (hu:P.underlying t=some (.slice e)) (f:bY P e ti info u) (hx:P.underlying tx=some u') (tz:∃ e',u'=.slice e')
  (hb0:0<ti.bytes) (hs0:0<ti.size) {ys:SlR} (y2:Uaf σ ρ G w ys (a.eval y)) {dy:Nat} {gE:List (Nat×aP)} {ry:List Nat} (hY:(Qau (Lag ti.cells) ys).eval σ=some (dy,gE,ry))
  {sx:aJ} {m:Nat} {pre:List Step} {updX:List (Nat×aP)} (cj:aK cf ρ none nv (pre++[.prim (.app ti.size ti.bytes (Lag ti.cells)) [sx,ys.x] 1]))
  (hXs:∀ ra,sx.val ρ=.rows ti.size ra->∃ src A b n cap vs,XOk σ ρ G w (a.eval x) ra ti.size m updX src A b n cap vs/\∀ r pq mr,src=some (r,pq,mr)->r∉ry\/Lag ti.cells=true) :
  o.wp P a w (Nx E.ntmps F σ ρ (dM o none (.one (.ex nr))++((kR nr,.root (.v (nv+bF pre)) (bif Lag ti.cells then big else min m dy) 0 .live)::updX++gE))) Q:=by
 obtain⟨-,mz⟩:=aK.append cj;obtain⟨d,h1,h2⟩:=zW mz.1 (show gOn ρ none=true from rfl);simp only[Sbk,Sbw]at h1;obtain⟨ra,rb,e1,e2,e3,e4,e5⟩:=Eb4 h1;simp only[Tbj,and_true]at e5;obtain⟨src,A,b,n,cap,vs,hX,oh⟩:=hXs ra e1;obtain⟨l7,mA,hYo⟩:=Lbl hR y2 e2 (fun ie r hr d hd=>e3 ie r (Rb0 _ hr) d hd) hY;obtain⟨By,zz,n',mS,sA,pT,hYb,hYc⟩:=hYo.side;have ka:(iE vs n ti.size).length=n*ti.size:=kC _ _ _;have lf:(iE sA n' ti.size).length=n'*ti.size:=kC _ _ _;have wx:=pU hX.side.rows hX.side.cell;have qu:=pU pT.rows pT.cell;rw[hX.side.len]at wx;rw[pT.len]at qu
 have a05:∀ u∈iE sA n' ti.size,u.oneCell'=true:=by
  intro u hu;obtain⟨k,hk⟩:=Tbe.1 hu;obtain⟨k1,k2,k3,rfl⟩:=wR hk;have hr:rb[k / ti.size]?=some (rb[k / ti.size]'(by rw[pT.len];exact k1)):=Rbz _;have pz:=pT.rows _ (Sba hr);have nh:(rb[k / ti.size]'(by rw[pT.len];exact k1))[k % ti.size]?=some _:=Rbz (by rw[pz];exact k2)
  rcases hYc _ _ hr _ _ nh with h|⟨_,_,_,h⟩|⟨_,h⟩
  ·exact h.one
  ·exact h.one
  ·exact h.one
 have hM1:1<=(bif Lag ti.cells then big else min m dy):=by
  have:=hX.m;have:=hYo.dy
  cases Lag ti.cells with
  |true=>simp only[cond_true];unfold big;omega
  |false=>simp only[cond_false];omega
 have hM:Lag ti.cells=false->(bif Lag ti.cells then big else min m dy)<=m/\(bif Lag ti.cells then big else min m dy)<=dy:=fun h=>by
  rw[h,cond_false];omega
 have hyv:(aJ.v (nv+bF pre)).val ρ=.rows ti.size (ra++rb):=h2.trans e5;obtain⟨v,w1,A',cb,jl,grow,cr,hA⟩:=Jax (P:=P) (w:=w) (G:=G) (a:=a) (o:=o) ho fb jn hu f hx tz (A:=A) (n:=n) (cap:=cap) (n':=n') (b:=b) (olds:=iE vs n ti.size) (news:=iE sA n' ti.size) hX.side.val hX.side.le hX.base ka wx hX.all pT.val hYb lf qu a05 hb0 hs0 (by rw[<- hX.side.len,<- pT.len];exact e4);exact mD cr (Cba hR hd hf hX hYo pT hYc hA e3 hM1 hM oh hyv)
theorem La3 (hR:R E.ntmps F σ ρ a w G)(hd:eU E.ntmps o)(hti:tQ P E.ti){nv nb nr:Nat}{mv e9:Bool}(hf:Bah σ nb nr){args:Array Operand}{argTypes:Array TypeId}(ho:o.op=.call { callee:=.builtin .append,args,argTypes })
    {x y:Operand} (fb:args.toList=[x,y]) {t ty:TypeId} {ti ei yi:TI} {e:Nat} (ht:argTypes[0]?=some t) (hty:argTypes[1]?=some ty) (hi:E.ti t=some ti) (he:ti.elem=some e) (s9:E.ti e=some ei) (hyi:E.ti ty=some yi)
    (gv:(yi.elem.isSome&&Tbh 0 ei.size&&noG g&&Tbh 0 ei.bytes&&Nat.beq argTypes.size 2)=true) {lx ly:aO} (h1:(rdL E g t x).eval σ=some lx) (h2:(rdL E g ty y).eval σ=some ly) {res:bM}
    (h:(Jam nv nr mv e9 o ei lx ly).eval σ=some res) (cj:aK cf ρ g nv res.lets):fZ P E F σ ρ a w g o Q res.upd:=by
  simp only[Rbu,Sb5,Sbq]at gv;obtain⟨⟨⟨⟨a5b,ef⟩,yz⟩,zh⟩,oB⟩:=gv;obtain rfl:=uL yz;refine⟨fun hg=>?_,fun hg=>by simp[gOn]at hg⟩
  have jn:argTypes=#[t,ty]:=by
    apply Vbo;apply Ub9;intro k
    match k with
    |0=>simpa using ht
    |1=>simpa using hty
    |k+2=>simp[oB]
  obtain⟨i1,u1,f1⟩:=aX (hti.ok _ _ hi);obtain rfl:=oM f1 he;obtain⟨i2,u2,f2⟩:=aX (hti.ok _ _ s9);obtain⟨i3,u3,f3⟩:=aX (hti.ok _ _ hyi);have hu3:=Gac f3 a5b;have vq:=fA hR hg h1;have hly:=fA hR hg h2;simp only[Jam,aA,Rbt]at h;obtain⟨ys,h3,⟨dy,gE,ry⟩,h4,h⟩:=h;have y2:=dN hR h3 hly
  have fin:∀ {sx:aJ} {m:Nat} {pre:List Step} {updX:List (Nat×aP)},(vV nv nr o ei ys dy gE sx m pre updX).eval σ=some res ->
      (aK cf ρ none nv pre->∀ ra,sx.val ρ=.rows ei.size ra->∃ src A b n cap vs,XOk σ ρ G w (a.eval x) ra ei.size m updX src A b n cap vs/\∀ r pq mr,src=some (r,pq,mr)->r∉ry\/Lag ei.cells=true) ->
      o.wp P a w (Nx E.ntmps F σ ρ res.upd) Q:=by
    intro sx m pre updX gS hXs;simp only[vV,rO,aC,Rbv]at gS;subst gS;simp only[Daj];exact Eb5 hR hd hf ho fb jn f1.und f2 f3.und hu3 zh ef y2 h4 cj (hXs (aK.append cj).1)
  dsimp only at h;split at h
  · rename_i p z
    refine fin h fun _ ra wA=>?_
    simp only[aJ.val,D.rows.injEq]at wA;obtain⟨rfl,rfl⟩:=wA;simp only[aB]at vq;have hv:=(vq.2 (by simp)).2.1 trivial _ rfl;exact⟨none,none,⟨0,0,none⟩,0,0,fun _ _=>undef,⟨⟨hv,rfl,Sbg _,by simp,by simp⟩,.inr ⟨rfl,rfl⟩,by simp,by simp,by simp,by decide,.inl ⟨rfl,rfl⟩⟩,by simp⟩
  · simp only[aA,Rbt]at h
    obtain⟨s,h5,h⟩:=h;have hs:=dN hR h5 vq;split at h
    · rename_i r k m q bz
      simp only[aA,aI,Rbt]at h;obtain⟨_,h6,h⟩:=h;split at h6
      case isFalse=>cases h6
      rename_i hb6;simp only[Rbu,Bool.or_eq_true,Sbl,Tbc]at hb6;have n9:=hs.own;unfold tJ at n9;rw[bz]at n9;obtain⟨-,⟨X,hk⟩,n9⟩:=n9;have oh:r∉ry\/Lag ei.cells=true:=hb6.1.imp (fun h=>yD.1 h) id;split at h
      · refine fin h fun _ ra wA=>?_
        obtain⟨-,fX,-⟩:=n9;simp only[bA,Sbw,List.length_nil,Nat.sub_zero]at fX;rw[wA]at fX;obtain⟨A,b,n,cap,vs,hX⟩:=XOk.ofRp (ρ:=ρ) fX hb6.2 hk (updX:=[(kR r,.root (.c .hole) 0 0 .gone)]) (.inl ⟨rfl,rfl⟩)
        exact ⟨_, A, b, n, cap, vs, hX, fun r' pq mr e => by obtain rfl : r = r' := by injection e with e; injection e
                                                             exact oh⟩
      · rw[gG]at h
        split at h
        · refine fin h fun _ ra wA=>?_
          have fX:Rp G.own w r [] m (a.eval x) (s.x.val ρ):=n9;rw[wA]at fX;obtain⟨A,b,n,cap,vs,hX⟩:=XOk.ofRp (ρ:=ρ) fX hb6.2 hk (updX:=[(kR r,.root (.c .hole) 0 0 .gone)]) (.inl ⟨rfl,rfl⟩)
          exact ⟨_, A, b, n, cap, vs, hX, fun r' pq mr e => by obtain rfl : r = r' := by injection e with e; injection e
                                                               exact oh⟩
        · cases h
      · rename_i q dk
        simp only[aA,aI,Rbt,aS,Rb1]at h;obtain⟨_,h7,h⟩:=h;split at h7
        case isFalse=>cases h7
        rename_i rl;simp only[Rbu,Tbc,Sbl]at rl;rw[hk]at h;dsimp only at h;refine fin h fun fq ra wA=>?_
        obtain⟨hqm,fX,lz⟩:=n9;rw[wA]at fX;have og:=zX hg q nv X (.c .hole) fq;obtain⟨A,b,n,cap,vs,hX⟩:=XOk.ofRp (ρ:=ρ) fX (by omega) hk (.inr ⟨_,rfl,og,lz,by simp[bA];omega⟩)
        exact ⟨_, A, b, n, cap, vs, hX, fun r' pq mr e => by obtain rfl : r = r' := by injection e with e; injection e
                                                             exact oh⟩
      · cases h
      · cases h
    · cases h
end
section
variable {P:Program} {E:Env} {F:bE} {n:Nat} {σ:Nat->Option aP} {ρ:List D} {a:Act} {w w':World} {G G':Gh} {g:Option (aJ×Bool)} {o:Oper} {cf:Nat->List D->Option (List D)} {Q:Exit->Act->World->Prop} {next:Act->World->Prop}
theorem Han:∀ {cs:List CK} {zs:List D},Hao cs=some zs->zs.length=cs.length/\∀ (j:Nat) (c:CK) (d:D),cs[j]?=some c->zs[j]?=some d->∀ (v:Value),zeroCell v c=true->∀ (own:Nat->Ow) (r:Nat) (p:List Nat) (m:Nat),Rp own w r p m v d
 | [], zs, h => by
  simp only[Hao,Rbv]at h;subst h;simp
 | c :: cs, zs, h => by
  have main:∀ (d0:D),(Hao cs).map (d0::·)=some zs->(∀ v,zeroCell v c=true->∀ (own:Nat->Ow) (r:Nat) (p:List Nat) (m:Nat),Rp own w r p m v d0) ->
    zs.length=(c::cs).length/\∀ (j:Nat) (c':CK) (d:D),(c::cs)[j]?=some c'->zs[j]?=some d->∀ (v:Value),zeroCell v c'=true->∀ (own:Nat->Ow) (r:Nat) (p:List Nat) (m:Nat),Rp own w r p m v d:=by
   intro d0 h0 hd0;simp only[Sbc]at h0;obtain⟨zs',h1,rfl⟩:=h0;obtain⟨h2,h3⟩:=Han h1;refine⟨by simp[h2],fun j c' d hc hd v hv own r p m=>?_⟩
   cases j with
   | zero =>
    simp only[Rb2,Rbv]at hc hd;subst hc hd;exact hd0 v hv own r p m
   |succ j=>exact h3 j c' d (by simpa using hc) (by simpa using hd) v hv own r p m
  have hz:∀ v,zeroCell v c=true->aB (fun _=>none) [] ⟨fun _=>.frz,fun _=>undef,fun _=>⟨0,0,none⟩⟩ w (fC c) v:=fun v hv=>Jae hv
  cases c with
  | sc z =>
   refine main z h fun v hv own r p m=>?_
   have:=hz v hv;simp only[fC,aB,aJ.val]at this;exact .sc this
  | sl sz =>
   refine main (.rows sz []) h fun v hv own r p m=>?_
   have:=hz v hv;simp only[fC,aB,aJ.val]at this;rw[(this.2 (by simp)).2.1 trivial sz rfl];exact Rp.nil
  |pn=>cases h
  |ot=>cases h
theorem Ea5 (hR:R E.ntmps F σ ρ a w G)(hd:eU E.ntmps o)(hti:tQ P E.ti){nv nb nr:Nat}{mv e9:Bool}(hf:Bah σ nb nr){t:TypeId}{l c:Operand}(ho:o.op=.makeSlice t l c){res:bM}
  (h:(nZ E mv e9 nv nb nr g o).eval σ=some res) (cj:aK cf ρ g nv res.lets):fZ P E F σ ρ a w g o Q res.upd:=by
 simp only[nZ,ho,aA,Rbt,tiR,aV,aI]at h;obtain⟨st,h1,e,h2,ti,h3,_,h4,xl,h5,xc,h6,_,h7,zs,h8,h⟩:=h;split at h4
 case isFalse=>cases h4
 rename_i yz;obtain rfl:=uL yz;split at h7
 case isFalse=>cases h7
 rename_i rl;simp only[Rbu,Sb5]at rl;obtain⟨⟨hxx,ef⟩,zh⟩:=rl;obtain rfl:=aJ.beq0_eq hxx;obtain⟨info,u,f⟩:=aX (hti.ok _ _ h1);obtain rfl:=oM f h2;obtain⟨jx,u',f'⟩:=aX (hti.ok _ _ h3);simp only[rO,aC,Rbv]at h;subst h;simp only[Daj];refine⟨fun hg=>?_,fun hg=>by simp[gOn]at hg⟩;obtain⟨d,iS,qy⟩:=fI cj hg;have hl:=iP hR hg h5;have hc:=iP hR hg h6;simp only[Sbk,Sbw]at iS;generalize hxv:xl.val ρ=xv at iS hl hc;cases xv<;>simp only[aN.run]at iS<;>first|cases iS|skip
 rename_i k len;split at iS
 case isFalse=>cases iS
 rename_i hlen;obtain⟨h0,hbound⟩:=hlen;simp only[Rbv,Tbj,and_true]at iS;obtain⟨z,ku,ny,-,zn⟩:=f'.zeros (σ:=σ) (ρ:=ρ) (G:=G) (w:=w);obtain⟨tv,qn⟩:=Han (w:=pushB w (madeCells z.cells (len.toNat*jx.size)) e) h8;have gf:=f'.len;have qt:z.cells.size=ti.size:=by rw[<- Ubf,ny.len,Sbr,gf]
 have aw:len.toNat*1<=len.toNat*ti.bytes:=Nat.mul_le_mul_left _ zh;unfold gB at hbound
 have cr:(execOp a.eval o).run P w=.ok (.value (.slice (some ⟨w.heap.size,0,none⟩) len.toNat len.toNat)) (pushB w (madeCells z.cells (len.toNat*jx.size)) e):=by
  unfold execOp;simp only[ho];refine fF ?_;rw[hl.int_inv,hc.int_inv]
  have np:(jx.bytes:Int)*len<=281474976710656:=by
   rw[<- f'.bytes];have:((ti.bytes*len.toNat:Nat):Int)<=281474976710656:=by rw[Ubp]at hbound;omega
   rw[Int.natCast_mul]at this;rwa[show ((len.toNat:Nat):Int)=len by omega]at this
  exact run_make w t e jx z f.und f'.info_ ku k k len len h0 (Int.le_refl _) np (by omega)
 have jq:σ (kR nr)=none:=hf.nr nr (Sbg _) (by unfold bR;omega);have mb:∀ r,(σ (kR r)).isSome->r≠nr:=fun r hr e=>by rw[e,jq]at hr;cases hr
 have mN:∀ b,G.own b≠.frz->b<w.heap.size:=fun b hb=>by
  rcases Sbh b w.heap.size with h|h
  ·exact h
  ·exact absurd (hR.frame.fresh b h) hb
 refine mD cr ⟨{ G with own:=fun b=>if b=w.heap.size then .slc nr [] else G.own b,hdr:=fun r=>if r=nr then .slice (some ⟨w.heap.size,0,none⟩) len.toNat len.toNat else G.hdr r },?_⟩;refine hR.own hd (wr:=fun _=>False) (f:=fun s p=>.slc s p) ?_ ?_ ?_ ?_ ?_ (fun b aw _=>kI (by omega)) (fun _ h=>h.elim) (fun _ _ _ _ _=>rfl) ?_ (fun _ _ _ _ _ s p q h=>by injection h with h1 h2;exact⟨h1,h2⟩) ?_ rfl ?_ ?_
 ·intro k c hc
  simp only[Rby,Sbj]at hc;exact⟨nr,hc.1⟩
 ·intro b aw
  show (if b=w.heap.size then Ow.slc nr [] else _)=_
  rw[if_neg (by omega)];cases hb:G.own b<;>rfl
 ·intro b hb
  rw[jX]at hb;show (if b=w.heap.size then Ow.slc nr [] else G.own b)=.frz
  rw[if_neg (by omega)];exact hR.frame.fresh b (by omega)
 ·exact⟨rfl,rfl,rfl,by rw[jX];omega⟩
 ·intro b hb
  show (if b=w.heap.size then Ow.slc nr [] else G.own b)=.frz\/∃ r p,(if b=w.heap.size then Ow.slc nr [] else G.own b)=.slc r p/\_
  by_cases e:b=w.heap.size
  ·rw[if_pos e];exact .inr ⟨nr,[],rfl,jq⟩
  ·rw[if_neg e];exact .inl (hR.frame.fresh b hb)
 ·intro s c hc _
  simp only[Rby,Sbj]at hc;obtain⟨e1,rfl⟩:=hc;obtain rfl:=eF e1;exact .inl ⟨jq,_,_,_,_,rfl⟩
 ·intro r hr
  show (if r=nr then _ else _)=_
  rw[if_neg (mb r hr)]
 ·intro _ _
  simp only[bV,aB,if_true];exact⟨trivial,dP _ _ _ (.inr ⟨_,Rb0 _ (Rby.2 rfl)⟩),rfl⟩
 ·intro _ s c hc _
  simp only[Rby,Sbj]at hc;obtain⟨e1,rfl⟩:=hc;obtain rfl:=eF e1;refine⟨_,_,_,_,rfl,?_⟩;simp only[bP,if_true];rw[qy,<- iS];have nu:zs.length=ti.size:=by rw[tv,gf]
  have nq:∀ k,k<len.toNat*ti.size->(madeCells z.cells (len.toNat*jx.size))[k]?=z.cells[k % ti.size]?:=by
   intro k hk;unfold madeCells;rw[Cbo _ (by omega) _ _ (by rw[<- f'.size];exact hk),qt]
  have lO:∀ i row,(Sbi len.toNat zs)[i]?=some row->∀ j d,row[j]?=some d->i<len.toNat/\row=zs/\j<ti.size/\i*ti.size+j<len.toNat*ti.size/\(i*ti.size+j) % ti.size=j:=by
   intro i row hi j d hj;rw[List.getElem?_replicate]at hi;split at hi
   case isFalse=>cases hi
   rename_i oy;obtain rfl:=Sbs hi;have ni:j<ti.size:=by rw[<- nu];exact (Rbw.1 hj).1
   have:=Nat.mul_le_mul_right ti.size (show i+1<=len.toNat by omega);rw[Nat.add_mul]at this;exact⟨oy,rfl,ni,by omega,by rw[Ubp,Nat.mul_add_mod,Nat.mod_eq_of_lt ni]⟩
  refine .sl _ ⟨w.heap.size,0,none⟩ len.toNat len.toNat zs.length _ (fun i j=>z.cells[j]!) (by simp) (Sbg _) (.inl rfl) (fun row hr=>?_) (fun _=>⟨rfl,by simp,fun k hk=>?_⟩) (fun i row hi j d hj=>?_) (fun i row hi j d hj=>?_)
  ·rw[List.eq_of_mem_replicate hr]
  ·rw[nu]at hk
   rw[mV,Mal,nq k hk];have hk2:k % ti.size<z.cells.size:=by rw[qt];exact Nat.mod_lt _ ef
   exact⟨_,Sbv hk2,rfl⟩
  ·obtain⟨i1,rfl,i3,i4,i5⟩:=lO i row hi j d hj
   rw[mV,nu,nq _ i4,i5,getElem!_pos z.cells j (by omega),Sbv]
  ·obtain⟨i1,rfl,i3,i4,i5⟩:=lO i row hi j d hj
   have ig:ti.cells[j]?=some ti.cells[j]:=Rbz (by omega);exact qn j _ d ig hj _ (zn j _ _ (by rw[getElem!_pos z.cells j (by omega),Sbv]) ig) _ _ _ _
theorem Oa7 (hR:R E.ntmps F σ ρ a w G)(hd:eU E.ntmps o)(hti:tQ P E.ti){nv:Nat}{args:Array Operand}{argTypes:Array TypeId}(ho:o.op=.call { callee:=.builtin .clear,args,argTypes })
  {x:Operand} (fb:args.toList=[x]) {t e:TypeId} {ti ei:TI} (ht:argTypes[0]?=some t) (hi:E.ti t=some ti) (he:ti.elem=some e) (s9:E.ti e=some ei) (gv:(noG g&&Nat.beq argTypes.size 1)=true) {l:aO} (hl:(rdL E g t x).eval σ=some l) {res:bM}
  (h:(Oay nv o ei l).eval σ=some res) (cj:aK cf ρ g nv res.lets):fZ P E F σ ρ a w g o Q res.upd:=by
 simp only[Rbu,Sbq]at gv;obtain rfl:=uL gv.1
 have jn:argTypes=#[t]:=by
  apply Vbo;apply Ub9;intro k
  match k with
  |0=>simpa using ht
  |k+1=>simp[gv.2]
 simp only[Oay,aA,Rbt]at h;obtain⟨s,h1,h⟩:=h;split at h
 case h_2=>cases h
 rename_i r k m sz lo bz;simp only[aA,aI,Rbt,aS,Rb1]at h;obtain⟨_,h2,h⟩:=h;split at h2
 case isFalse=>cases h2
 rename_i hb;simp only[Rbu,Sbq,Tbc]at hb;obtain⟨⟨rfl,a3y⟩,ou⟩:=hb;split at h
 case h_2=>cases h
 rename_i X m' b9 hk;simp only[aC,Rbv]at h;subst h;refine⟨fun hg=>?_,fun hg=>by simp[gOn]at hg⟩;obtain⟨i1,u1,f1⟩:=aX (hti.ok _ _ hi);obtain rfl:=oM f1 he;obtain⟨i2,u2,f2⟩:=aX (hti.ok _ _ s9);have vq:=fA hR hg hl;have ir:=dN hR h1 vq;have n9:=ir.own;unfold tJ at n9;rw[bz]at n9;obtain⟨-,⟨X0,lA⟩,hsuf⟩:=n9;rw[hk]at lA
 obtain⟨rfl,rfl,rfl⟩:X=X0/\m'=m/\b9=k:=by
  injection lA with e;injection e with e1 e2 e3 e4;exact⟨e1,e2,e3⟩
 have fx:=hR.root hk;simp only[bP]at fx;obtain⟨d,iS,qy⟩:=fI cj hg;simp only[Sbk,Sbw]at iS
 obtain⟨rs,ki,L,eX,eL,hL0,ed⟩:∃ rs ki L,X.val ρ=.rows 1 rs/\lo.val ρ=.int ki L/\0<=L/\d=.rows 1 (rs.take L.toNat++(rs.drop L.toNat).map fun r=>r.map fun _=>.hole):=by
  cases eX:X.val ρ<;>cases eL:lo.val ρ<;>rw[eX,eL]at iS<;>simp only[aN.run]at iS<;>first|cases iS|skip
  split at iS
  ·rename_i hc
   obtain⟨rfl,hc⟩:=hc;simp only[Rbv,Tbj,and_true]at iS;exact⟨_,_,_,rfl,rfl,hc,iS.symm⟩
  ·cases iS
 have lO:jY ρ lo=L.toNat:=by unfold jY;rw[eL]
 dsimp only at hsuf;rw[lO]at hsuf;rw[eX]at fx;obtain⟨md,rfl⟩:∃ md,m'=md+1:=⟨m'-1,by omega⟩;obtain⟨A,b,n,c,vs,j1,j2,j3,j4,j5,j6,j7,j8⟩:=fx.sl_inv;obtain⟨A',n',c',k1,k2,k3⟩:=hsuf;rw[j1]at k1;obtain⟨rfl,rfl,rfl⟩:A=A'/\n=n'/\c=c':=by injection k1 with a b c;exact⟨a,b,c⟩
 obtain⟨z,ku,ny,zn,-⟩:=f2.zeros (σ:=σ) (ρ:=ρ) (G:=G) (w:=w);have tv:z.cells.size=1:=by rw[<- Ubf,ny.len,Sbr,f2.len,a3y]
 generalize hZ:(Builtin.zeroCells z.cells (n-L.toNat)).toList=Z;have hZl:Z.length=n-L.toNat:=by rw[<- hZ];simp[Builtin.zeroCells,tv]
 have hZ1:∀ u∈Z,u.oneCell'=true:=by
  intro u hu;rw[<- hZ,Builtin.zeroCells,Array.mem_toList_iff,Array.mem_map]at hu;obtain⟨i,hi,rfl⟩:=hu;have aw:i % z.cells.size<z.cells.size:=Nat.mod_lt _ (by omega);rw[getElem!_pos z.cells _ aw];exact zn _ (Array.getElem_mem_toList aw)
 have kr:∀ {v:Value} {w1:World},(Builtin.clear_ #[t] o.type #[a.eval x]).run P w=.ok v w1->(execOp a.eval o).run P w=.ok (.value v) w1:=by
  intro v w1 h;refine kV ho (s:=Builtin.clear_ argTypes o.type (args.map a.eval)) (fun _=>rfl) ?_;rw[Ka8 fb,Pap,jn];exact h
 rw[k3]at kr
 obtain⟨w',cr,hw⟩:∃ w',(execOp a.eval o).run P w=.ok (.value (.tuple #[])) w'/\((n=L.toNat/\w'=w)\/(L.toNat<n/\A=some b/\w'=w.setCells b.block (b.off+L.toNat) Z)):=by
  rcases Sbh L.toNat n with aw|nj
  ·obtain rfl:A=some b:=by
    rcases j4 with h|⟨-,h⟩
    ·exact h
    ·omega
   obtain⟨gl,mc,cQ⟩:=j6 rfl
   have ez:∀ j,j<Z.length->∃ u,w.cell? ⟨b.block,b.off+L.toNat+j,none⟩=some u/\w.frozen? ⟨b.block,b.off+L.toNat+j,none⟩=false:=fun j hj=>by
    have:=cQ (L.toNat+j) (by omega);rw[add_plain gl,<- Sbf]at this;exact this.imp fun u h=>⟨h.1,uX h.2 rfl⟩
   have cj:=run_storeCells_cells (P:=P) b.block (b.off+L.toNat) Z 0 w (fun j hj=>by obtain⟨u,h1,-⟩:=ez j hj;rw[Sbz,h1];rfl) (fun j hj=>by rw[Sbz];exact (ez j hj).choose_spec.2) hZ1;refine⟨_,kr ?_,.inr ⟨aw,rfl,rfl⟩⟩;obtain⟨q,hq⟩:∃ q,n-L.toNat=q+1:=⟨n-L.toNat-1,by omega⟩;rw[if_neg (by omega),hq];rw[hq]at hZ;simp only[Option.map_some,Nat.mul_one,add_plain gl];simp only[Sbz]at cj;simp[Builtin.clear_,run_underlying f1.und,kH f2.info_ ku,hZ,cj]
  ·refine⟨w,kr ?_,.inl ⟨by omega,rfl⟩⟩
   have e0:n-L.toNat=0:=by omega
   rw[e0];simp only[Builtin.clear_];cases (if c=L.toNat then A else A.map (·.add (L.toNat*1)))<;>simp[run_underlying f1.und]
 have mw:w'.os=w.os/\w'.tape=w.tape/\w'.output=w.output/\w.heap.size<=w'.heap.size:=by
  rcases hw with ⟨-,rfl⟩|⟨-,-,rfl⟩
  ·exact⟨rfl,rfl,rfl,Sbg _⟩
  ·obtain⟨q1,q2,q3⟩:=cB b.block Z (b.off+L.toNat) w
   exact⟨q1,q2,q3,by rw[setCells_size];exact Sbg _⟩
 have oB:w'.heap.size=w.heap.size:=by
  rcases hw with ⟨-,rfl⟩|⟨-,-,rfl⟩
  ·rfl
  ·rw[setCells_size]
 have cI:∀ b',¬ (A=some b/\b'=b.block)->w'.heap[b']?=w.heap[b']?:=by
  intro b' eJ
  rcases hw with ⟨-,rfl⟩|⟨-,hA,rfl⟩
  ·rfl
  ·exact bC _ _ _ _ _ fun e=>eJ ⟨hA,e⟩
 refine mD cr ⟨G,?_⟩
 have gS:=hR.own (o:=o) hd (g:=none) (sv:=.dead) (v:=.tuple #[]) (w':=w') (G':=G) (ur:=[(kR r,.root (.v nv) (md+1) (b9+1) .live)]) (f:=fun s p=>.slc s p) (wr:=fun b'=>A=some b/\b'=b.block)
  ?_ (fun b' _=>by cases hb:G.own b'<;>rfl) (fun b' hb=>hR.frame.fresh b' (by omega)) mw (fun b' hb=>.inl (hR.frame.fresh b' hb)) (fun b' _ hb=>cI b' hb) ?_ (fun _ _ _ _ _=>rfl) ?_ (fun _ _ _ _ _ s p q h=>by injection h with h1 h2;exact⟨h1,h2⟩) (fun _ _=>rfl) rfl (fun _ _=>trivial) ?_
 ·exact gS
 ·intro k' c' hc
  exact⟨r,(Ubb (Rby.1 hc)).1⟩
 ·rintro b' ⟨hA,rfl⟩
  exact⟨r,[],(j6 hA).2.1,_,Rby.2 rfl⟩
 ·intro s' c' hc _
  obtain⟨e1,rfl⟩:=Ubb (Rby.1 hc);obtain rfl:=eF e1;exact .inr (.inl ⟨_,_,_,_,_,hk,rfl⟩)
 ·intro _ s' c' hc _
  obtain⟨e1,rfl⟩:=Ubb (Rby.1 hc);obtain rfl:=eF e1;refine⟨_,_,_,_,rfl,?_⟩;simp only[bP];rw[qy,ed,j1]
  have ji:∀ k u,w.cell? (b.add k)=some u->A=some b->(k<L.toNat->w'.cell? (b.add k)=some u)/\(∃ u',w'.cell? (b.add k)=some u')/\fzq w' (b.add k)=fzq w (b.add k):=by
   intro k u hc hA;obtain⟨gl,mc,cQ⟩:=j6 hA
   rcases hw with ⟨-,rfl⟩|⟨aw,-,rfl⟩
   ·exact⟨fun _=>hc,⟨u,hc⟩,rfl⟩
   ·refine⟨fun hk=>?_,?_,dU⟩
    ·rw[add_plain gl]at hc ⊢
     rw[World.cell?_setCells_out _ _ _ _ _ (fun _ _=>.inl (by dsimp only;omega))];exact hc
    ·exact dE (fun _=>by rw[add_plain gl]) (fun j hj=>by
      obtain⟨u',h1,-⟩:=cQ (L.toNat+j) (by omega);rw[add_plain gl,<- Sbf]at h1;rw[h1];rfl) hc
  have xj:∀ i,i<n->A=some b:=fun i hi=>by
   rcases j4 with h|⟨-,h⟩
   ·exact h
   ·omega
  have gq:∀ i row,(rs.take L.toNat++(rs.drop L.toNat).map fun r=>r.map fun _=>D.hole)[i]?=some row->(i<L.toNat/\rs[i]?=some row)\/(L.toNat<=i/\∃ row0,rs[i]?=some row0/\row=row0.map fun _=>D.hole):=by
   intro i row hi;have ka:(rs.take L.toNat).length=L.toNat:=by rw[Sbn];omega
   rcases Sbh i L.toNat with aw|nj
   ·rw[Rb9 (by omega),List.getElem?_take,if_pos aw]at hi
    exact .inl ⟨aw,hi⟩
   ·rw[Rb6 (by omega),ka,Sbx,Sbc]at hi
    obtain⟨row0,h1,rfl⟩:=hi;rw[List.getElem?_drop,show L.toNat+(i-L.toNat)=i by omega]at h1;exact .inr ⟨nj,row0,h1,rfl⟩
  refine .sl A b n c 1 _ (fun i j=>if i<L.toNat then vs i j else (w'.cell? (b.add (i*1+j))).getD undef) ?_ j3 j4 ?_ (fun hA=>?_) (fun i row hi j d hj=>?_) (fun i row hi j d hj=>?_)
  ·rw[Rb8,Sbn,Sbr,List.length_drop];omega
  ·intro row hr
   obtain⟨i,hi⟩:=Tbe.1 hr
   rcases gq i row hi with ⟨-,h⟩|⟨-,row0,h,rfl⟩
   ·exact j5 row (Sba h)
   ·rw[Sbr];exact j5 row0 (Sba h)
  ·obtain⟨gl,mc,cQ⟩:=j6 hA
   refine⟨gl,mc,fun k hk=>?_⟩;obtain⟨u,hu,hf⟩:=cQ k hk;obtain⟨-,⟨u',h1⟩,h2⟩:=ji k u hu hA;exact⟨u',h1,h2.trans hf⟩
  ·rcases gq i row hi with ⟨aw,h⟩|⟨nj,row0,h,rfl⟩
   ·rw[if_pos aw]
    have ni:j<1:=by rw[<- j5 row (Sba h)];exact (Rbw.1 hj).1
    exact (ji _ _ (j7 i row h j d hj) (xj i (by rw[<- j2];exact (Rbw.1 h).1))).1 (by omega)
   ·rw[if_neg (by omega)]
    rw[Sbx,Sbc]at hj;obtain⟨d0,hj,-⟩:=hj;obtain⟨-,⟨u',h1⟩,-⟩:=ji _ _ (j7 i row0 h j d0 hj) (xj i (by rw[<- j2];exact (Rbw.1 h).1));rw[h1];rfl
  ·rcases gq i row hi with ⟨aw,h⟩|⟨nj,row0,h,rfl⟩
   ·rw[if_pos aw]
    have h1:=j8 i row h j d hj;have:=h1.mono' (own':=G.own) (w':=w') (r':=s') (q:=[i*1+j]) (q':=[i*1+j]) (fun b' hb _=>⟨hb,cI b' fun ⟨hA,e⟩=>by rw[e,(j6 hA).2.1]at hb;cases hb⟩) [] (by simp) (fun b' t' hb=>⟨hb,cI b' fun ⟨hA,e⟩=>by rw[e,(j6 hA).2.1]at hb;injection hb with _ hb;simp at hb⟩);simpa using this
   ·rw[if_neg (by omega)]
    rw[Sbx,Sbc]at hj;obtain⟨d0,hj,rfl⟩:=hj;refine .hole _ ?_;have oy:i<n:=by rw[<- j2];exact (Rbw.1 h).1
    have hA:=xj i oy
    rcases hw with ⟨hn,-⟩|⟨aw,-,rfl⟩
    ·omega
    ·obtain⟨gl,mc,cQ⟩:=j6 hA
     have ni:j<1:=by rw[<- j5 row0 (Sba h)];exact (Rbw.1 hj).1
     have pZ:i-L.toNat<Z.length:=by omega
     have:=World.cell?_setCells_in b.block Z (b.off+L.toNat) w (fun j hj=>by obtain⟨u,h1,-⟩:=cQ (L.toNat+j) (by omega);rw[add_plain gl,<- Sbf]at h1;rw[h1];rfl) (i-L.toNat) pZ;rw[show b.off+L.toNat+(i-L.toNat)=b.off+(i*1+j) by omega]at this;rw[add_plain gl,this];exact hZ1 _ (List.getElem_mem pZ)
end
section
variable {P:Program} {E:Env} {F:bE} {n:Nat} {σ:Nat->Option aP} {ρ:List D} {a:Act} {w w':World} {G G':Gh} {g:Option (aJ×Bool)} {o:Oper} {cf:Nat->List D->Option (List D)} {Q:Exit->Act->World->Prop} {next:Act->World->Prop}
theorem Ea4 (hR:R E.ntmps F σ ρ a w G)(hti:tQ P E.ti){nv nb nr:Nat}{mv e9:Bool}{t:TypeId}{x y:Operand}(ho:o.op=.store t x y){res:bM}
  (h:(nZ E mv e9 nv nb nr g o).eval σ=some res) (cj:aK cf ρ g nv res.lets):fZ P E F σ ρ a w g o Q res.upd:=by
 simp only[nZ,ho,aA,Rbt,tiR,aV]at h;obtain⟨ti,h1,p,h2,sv,h3,h⟩:=h;split at h
 case h_2=>cases h
 rename_i ls qT;have hx:gOn ρ g=true->aB σ ρ G w p (a.eval x):=fun hg=>fA hR hg h2
 have hy:gOn ρ g=true->bV σ ρ G w sv (a.eval y):=fun hg=>fJ hR hg h3
 cases p with
 |px b off=>exact Ga9 hR hti ho h1 hx hy qT h
 |pe l sz i off=>exact Haa hR hti ho h1 hx hy qT h cj
 | _ =>
  simp only[Ban,aA,aI,Rbt,bN]at h;obtain⟨_,_,h⟩:=h;cases h
theorem Da7 (hR:R E.ntmps F σ ρ a w G)(hd:eU E.ntmps o)(hti:tQ P E.ti){nv nb nr:Nat}{mv e9:Bool}(hf:Bah σ nb nr){res:bM}
  (h:(nZ E mv e9 nv nb nr g o).eval σ=some res) (cj:aK cf ρ g nv res.lets)
  (ju:∀ f args argTypes,o.op=.call { callee:=.value f,args,argTypes }->fZ P E F σ ρ a w g o Q res.upd):fZ P E F σ ρ a w g o Q res.upd:=by
 have h0:=h
 cases ho:o.op with
 | move x =>
  simp only[nZ,ho]at h;exact Ha8 hR hd (.inl ho) h cj
 | assign x =>
  simp only[nZ,ho]at h;exact Ha8 hR hd (.inr ho) h cj
 | pick c x y =>
  simp only[nZ,ho]at h;exact Sax hR hd ho h cj
 |alloc e=>exact Oa9 hR hd hti hf ho h cj
 |box e x=>exact Ua7 hR hd hti hf ho h cj
 |build t parts=>exact Oa8 hR hd hti ho h cj
 |buildSlice t len parts=>exact sU hR hd hti (hf.nr nr (Sbg _) (by unfold bR;omega)) ho h cj
 | load t x =>
  simp only[nZ,ho,aA,Rbt,tiR,aV]at h;obtain⟨ti,h1,p,h2,h⟩:=h;exact Say hR hd hti ho h1 (fun hg=>fA hR hg h2) h cj
 |store t x y=>exact Ea4 hR hti ho h cj
 | nilCheck x =>
  simp only[nZ,ho]at h;exact Hab hR hd ho h cj
 | binOp op t x y ty =>
  by_cases h1:op=.eql
  ·subst h1
   simp only[nZ,ho]at h;exact Qa2 hR hd hti ho rfl h cj
  ·by_cases h2:op=.neq
   ·subst h2
    simp only[nZ,ho]at h;exact Qa2 hR hd hti ho rfl h cj
   ·have h':(do
      let a <- rdA E g t x
      let b <- rdA E g ty y
      rM o g nv (.bin op) [a,b]:RdM bM).eval σ=some res:=by
     simp only[nZ,ho]at h;cases op<;>first|exact h|(exact absurd rfl h1)|(exact absurd rfl h2)
    simp only[aA,Rbt]at h';obtain⟨x',h3,y',h4,h5⟩:=h';exact La2 hR hd ho (fun hg=>iP hR hg h3) (fun hg=>iP hR hg h4) h5 cj
 | unOp op t x =>
  simp only[nZ,ho]at h;exact Za9 hR hd ho h cj
 | convert src dst x =>
  simp only[nZ,ho,aA,Rbt,tiR,aV]at h;obtain⟨s,h1,d,h2,h⟩:=h;split at h
  ·rename_i k hk
   simp only[aA,Rbt,aI]at h;obtain⟨_,h3,x',h4,h⟩:=h;split at h3
   case isFalse=>cases h3
   rename_i hs;exact Saz hR hd hti ho h1 hs h2 hk h4 h cj
  ·rw[gG]at h
   split at h
   case isFalse=>cases h
   rename_i zg;rw[gG]at h;split at h
   ·rename_i hsS
    simp only[aA,Rbt]at h;obtain⟨x',h4,h⟩:=h;exact La0 hR hd hti ho h1 hsS h2 zg h4 h cj
   ·simp only[aA,Rbt,aI,aV]at h
    obtain⟨e,h3,ei,h4,_,h5,l,h6,r,h7,h⟩:=h;split at h5
    case isFalse=>cases h5
    rename_i hk;exact Sa0 hR hd hti ho h1 h3 h4 hk h2 zg h6 h7 h cj
 | makeFunc fn first fW =>
  cases fn with
  | func fn =>
   simp only[nZ,ho]at h;exact Hac hR hd ho h cj
  |_=>simp only[nZ,ho]at h;cases h
 |makeSlice t l c=>exact Ea5 hR hd hti hf ho h cj
 |slice t x lo hi mx=>exact Oa4 hR hd hti ho h cj
 | fieldAddr t x k =>
  simp only[nZ,ho,aA,Rbt,tiR,aV]at h;obtain⟨ti,h1,h⟩:=h;split at h
  case h_2=>cases h
  rename_i off ft ie;simp only[aA,Rbt,aI,aV]at h;obtain⟨fi,h2,_,h3,p,h4,h⟩:=h;split at h3
  case isFalse=>cases h3
  rename_i pA;exact Ea7 hR hd hti ho h1 ie h2 (by simpa using pA) (by simp only[aA,Rbt];exact⟨p,h4,h⟩) cj
 | field t x k =>
  simp only[nZ,ho,aA,Rbt,tiR,aV]at h;obtain⟨ti,h1,h⟩:=h;split at h
  case h_2=>cases h
  rename_i off ft ie;simp only[aA,Rbt,aV]at h;obtain⟨fi,h2,sv,h3,h⟩:=h;exact Oa6 hR hd hti ho h1 ie h2 (by simp only[aA,Rbt];exact⟨sv,h3,h⟩) cj
 | indexAddr t x i =>
  simp only[nZ,ho,aA,Rbt,tiR,aV]at h;obtain⟨ti,h1,e,h2,ei,h3,l,h4,s,h5,y,h6,u,h7,h⟩:=h;exact Ea6 hR hd hti ho h1 h2 h3 (by simp only[aA,Rbt];exact⟨l,h4,s,h5,y,h6,u,h7,h⟩) cj
 | index t x i =>
  simp only[nZ,ho,aA,Rbt,tiR,aV]at h;obtain⟨ti,h1,h⟩:=h;exact Oa5 hR hd hti ho h1 (by simp only[aA,Rbt];exact h) cj
 | extract x i =>
  simp only[nZ,ho]at h;exact Jat hR hd ho h cj
 | call c =>
  obtain⟨callee,args,argTypes⟩:=c
  cases callee with
  |value f=>exact ju f args argTypes ho
  |invoke recv name=>simp only[nZ,ho]at h;cases h
  | builtin b =>
   simp only[nZ,ho]at h
   cases fb:args.toList with
   | nil =>
    rw[fb]at h;cases b<;>first|(cases h;done)|skip
    all_goals
     simp only[aA,Rbt,aV]at h;obtain⟨oz,h1,as,h2,h⟩:=h;obtain⟨ls,h3,h4⟩:=h2
     first
     |exact gP hR hd (.inl ⟨rfl,rfl,rfl⟩) ho (by rw[fb];exact h1) h3 h4 h cj
     |exact gP hR hd (.inr ⟨rfl,rfl,rfl⟩) ho (by rw[fb];exact h1) h3 h4 h cj
   | cons x xs =>
    rw[fb]at h
    cases xs with
    | nil =>
     cases b<;>first|(cases h;done)|skip
     ·simp only[aA,Rbt,aV,tiR,aI]at h
      obtain⟨t,h1,ti,h2,e,h3,ei,h4,_,h5,l,h6,h⟩:=h;split at h5
      case isFalse=>cases h5
      rename_i gv;exact Oa7 hR hd hti ho fb h1 h2 h3 h4 gv h6 h cj
     ·simp only[aA,Rbt,aV,tiR]at h
      obtain⟨t,h1,ti,h2,h⟩:=h;exact Ua6 hR hd hti ho fb h1 h2 (by simp only[aA,Rbt];exact h) cj
     all_goals
      simp only[aA,Rbt,aV]at h;obtain⟨oz,h1,as,h2,h⟩:=h;obtain⟨ls,h3,h4⟩:=h2
      first
      |exact gP hR hd (.inl ⟨rfl,rfl,rfl⟩) ho (by rw[fb];exact h1) h3 h4 h cj
      |exact gP hR hd (.inr ⟨rfl,rfl,rfl⟩) ho (by rw[fb];exact h1) h3 h4 h cj
    | cons y ys =>
     cases ys with
     | nil =>
      cases b<;>first|(cases h;done)|skip
      ·simp only[aA,Rbt,aV,tiR,aI]at h
       obtain⟨t,h1,ty,h2,ti,h3,e,h4,ei,h5,yi,h6,_,h7,lx,h8,ly,h9,h⟩:=h;split at h7
       case isFalse=>cases h7
       rename_i gv;exact La3 hR hd hti hf ho fb h1 h2 h3 h4 h5 h6 gv h8 h9 h cj
      all_goals
       simp only[aA,Rbt,aV]at h;obtain⟨oz,h1,as,h2,h⟩:=h;obtain⟨ls,h3,h4⟩:=h2
       first
       |exact gP hR hd (.inl ⟨rfl,rfl,rfl⟩) ho (by rw[fb];exact h1) h3 h4 h cj
       |exact gP hR hd (.inr ⟨rfl,rfl,rfl⟩) ho (by rw[fb];exact h1) h3 h4 h cj
     | cons z zs =>
      cases b<;>first|(cases h;done)|skip
      all_goals
       simp only[aA,Rbt,aV]at h;obtain⟨oz,h1,as,h2,h⟩:=h;obtain⟨ls,h3,h4⟩:=h2
       first
       |exact gP hR hd (.inl ⟨rfl,rfl,rfl⟩) ho (by rw[fb];exact h1) h3 h4 h cj
       |exact gP hR hd (.inr ⟨rfl,rfl,rfl⟩) ho (by rw[fb];exact h1) h3 h4 h cj
 |_=>simp only[nZ,ho]at h;cases h
end
theorem Tr.get_set {α:Type}:∀ (d:Nat) (t:Tr α) (n m:Nat) (x:Option α),(Tr.set d t n x).get m=if m=n then x else t.get m
 | 0, t, n, m, x => by
  simp only[Tr.set,Tr.get];by_cases h:m=n
  ·subst h;simp
  ·have:Nat.beq m n=false:=by
    cases e:Nat.beq m n with
    |false=>rfl
    |true=>simp only[Sbq]at e;exact absurd e h
   rw[this,cond_false,if_neg h]
 | d + 1, .over k y t, n, m, x => by
  simp only[Tr.set];by_cases h:m=n
  ·subst h;simp[Tr.get]
  ·have:Nat.beq m n=false:=by
    cases e:Nat.beq m n with
    |false=>rfl
    |true=>simp only[Sbq]at e;exact absurd e h
   rw[if_neg h];show (bif Nat.beq m n then x else _)=_
   rw[this,cond_false]
 | d + 1, .nil, n, m, x => by
  have ih:=fun t n m=>Tr.get_set (α:=α) d t n m x
  simp only[Tr.set];have b0:∀ k,Nat.beq k 0=decide (k=0):=fun k=>by cases k<;>simp[Nat.beq]
  have b1:∀ k,Nat.beq (k % 2) 1=decide (k % 2=1):=fun k=>by
   rcases Nat.mod_two_eq_zero_or_one k with h|h<;>rw[h]<;>rfl
  rw[b0,b1];by_cases h0:n=0
  ·simp only[h0,decide_true,cond_true,Tr.get]
   rw[b0,b1];by_cases hm:m=0
   ·simp[hm]
   ·simp[hm,Tr.get]
  ·by_cases h1:n % 2=1
   ·simp only[h0,decide_false,cond_false,h1,decide_true,cond_true,Tr.get]
    rw[b0,b1];by_cases hm:m=0
    ·subst hm;simp[Ne.symm h0]
    ·by_cases ou:m % 2=1
     ·simp only[hm,decide_false,cond_false,ou,decide_true,cond_true,ih,Tr.get]
      by_cases e:m=n
      ·rw[if_pos e,if_pos (by rw[e])]
      ·rw[if_neg e,if_neg (by omega)]
     ·have e:m≠n:=fun e=>ou (e▸h1)
      simp[hm,ou,e,Tr.get]
   ·simp only[h0,decide_false,cond_false,h1,Tr.get]
    rw[b0,b1];by_cases hm:m=0
    ·subst hm;simp[Ne.symm h0]
    ·by_cases ou:m % 2=1
     ·have e:m≠n:=fun e=>h1 (e▸ou)
      simp[hm,ou,e,Tr.get]
     ·simp only[hm,decide_false,cond_false,ou,ih,Tr.get]
      by_cases e:m=n
      ·rw[if_pos e,if_pos (by rw[e])]
      ·rw[if_neg e,if_neg (by omega)]
 | d + 1, .node y l r, n, m, x => by
  have ih:=fun t n m=>Tr.get_set (α:=α) d t n m x
  simp only[Tr.set];have b0:∀ k,Nat.beq k 0=decide (k=0):=fun k=>by cases k<;>simp[Nat.beq]
  have b1:∀ k,Nat.beq (k % 2) 1=decide (k % 2=1):=fun k=>by
   rcases Nat.mod_two_eq_zero_or_one k with h|h<;>rw[h]<;>rfl
  rw[b0,b1];by_cases h0:n=0
  ·simp only[h0,decide_true,cond_true,Tr.get]
   rw[b0,b1];by_cases hm:m=0
   ·simp[hm]
   ·simp[hm,Tr.get]
  ·by_cases h1:n % 2=1
   ·simp only[h0,decide_false,cond_false,h1,decide_true,cond_true,Tr.get]
    rw[b0,b1];by_cases hm:m=0
    ·subst hm;simp[Ne.symm h0]
    ·by_cases ou:m % 2=1
     ·simp only[hm,decide_false,cond_false,ou,decide_true,cond_true,ih,Tr.get]
      by_cases e:m=n
      ·rw[if_pos e,if_pos (by rw[e])]
      ·rw[if_neg e,if_neg (by omega)]
     ·have e:m≠n:=fun e=>ou (e▸h1)
      simp[hm,ou,e,Tr.get]
   ·simp only[h0,decide_false,cond_false,h1,Tr.get]
    rw[b0,b1];by_cases hm:m=0
    ·subst hm;simp[Ne.symm h0]
    ·by_cases ou:m % 2=1
     ·have e:m≠n:=fun e=>h1 (e▸ou)
      simp[hm,ou,e,Tr.get]
     ·simp only[hm,decide_false,cond_false,ou,ih,Tr.get]
      by_cases e:m=n
      ·rw[if_pos e,if_pos (by rw[e])]
      ·rw[if_neg e,if_neg (by omega)]
section
variable {P:Program} {E:Env} {F:bE} {n:Nat} {σ:Nat->Option aP} {ρ:List D} {a:Act} {w w':World} {G G':Gh} {g:Option (aJ×Bool)} {o:Oper}
def Fbr:Value->Option Bool
 |.bool b=>some b
 |_=>none
theorem Rau {x:aJ}{want:Bool}{v:Value}(h:Sc v (x.val ρ)\/(v=undef/\x.val ρ=.undef)):gOn ρ (some (x,want))=(Fbr v==some want):=by
 have key:∀ d:D,x.val ρ=d->gOn ρ (some (x,want))=(match d with|.bool b=>b==want|_=>false):=by
  intro d hd;simp only[gOn,hd];cases d<;>rfl
 rcases h with h|⟨rfl,h⟩
 ·rw[key _ rfl]
  generalize x.val ρ=d at h
  cases h with
  |int k n=>rfl
  |bool b=>cases b<;>cases want<;>rfl
  |str l=>rfl
 ·rw[key _ h]
  rfl
theorem Pai (hR:R E.ntmps F σ ρ a w G){ops:Array Oper}(hd:∀ o∈ops.toList,eU E.ntmps o)(h:(Ja0 ops.toList o).eval σ=some g):Region.wanted o (yielded ops a.tmps)=gOn ρ g:=by
 unfold Ja0 at h;unfold Region.wanted;split at h
 ·rename_i ho
  simp only[aC,Rbv]at h;subst h;simp[ho,gOn]
 ·rename_i j want ho
  simp only[ho];split at h
  ·rename_i d hj
   have hdn:d<E.ntmps:=by
    cases hoj:ops.toList[j]? with
    |none=>rw[hoj]at hj;cases hj
    | some oj =>
     rw[hoj,Rb1]at hj;exact hd oj (Sba hoj) d hj
   have hy:yielded ops a.tmps j=Fbr (yP E.ntmps a F.gh d):=by
    unfold yielded yP;have:(ops[j]?).bind (·.dst)=some d:=by rw[<- hj,Array.getElem?_toList]
    rw[this,Rb1,if_pos hdn];have aw:d<a.tmps.size:=by rw[hR.tmps];exact hdn
    rw[Sbv aw,Array.getD_eq_getD_getElem?,Sbv aw,Option.getD_some];cases a.tmps[d]<;>rfl
   rw[hy];simp only[Xae]at h;split at h
   ·rename_i x hk
    simp only[aC,Rbv]at h;subst h;have:=hR.slot hk rfl;simp only[bV,aB]at this;exact (Rau (.inl this)).symm
   ·rename_i g' x hk
    simp only[aC,Rbv]at h;subst h;have:=hR.slot hk rfl;simp only[bV,aB]at this;exact (Rau this.1).symm
   ·cases h
  ·cases h
end
theorem pG {n:Nat}{ρ ext:List D}{x:aJ}(h:aZ n x=true)(hn:n<=ρ.length):x.val (ρ++ext)=x.val ρ:=by
 refine aJ.val_append (n:=n) ?_
 cases x with
 | v i =>
  simp only[aZ,Sb5]at h;simp only[aJ.ok];omega
 |c d=>trivial
theorem Gax {n:Nat}{ρ ext:List D}{xs:List aJ}(h:xs.all (aZ n)=true)(hn:n<=ρ.length):xs.map (·.val (ρ++ext))=xs.map (·.val ρ):=by
 apply List.map_congr_left;intro x hx;rw[Sbp]at h;exact pG (h x hx) hn
theorem wK {n:Nat}{ρ ext:List D}{g:Option (aJ×Bool)}(h:nN n g=true)(hn:n<=ρ.length):gOn (ρ++ext) g=gOn ρ g:=by
 cases g with
 |none=>rfl
 | some z =>
  obtain⟨x,w⟩:=z;simp only[nN]at h;simp only[gOn,pG h hn]
theorem Bad {ρ ds ext:List D}{j:Nat}{d:D}(h:ds[j]?=some d):(aJ.v (ρ.length+j)).val (ρ++ds++ext)=d:=by
 have aw:=(Rbw.1 h).1;simp only[aJ.val,List.getD_eq_getElem?_getD];rw[Rb3,Rb6 (by omega),Rb9 (by omega),Sb2,h];rfl
theorem uW {n m:Nat}{g:Option (aJ×Bool)}(h:nN n g=true)(hm:n<=m):nN m g=true:=by
 cases g with
 |none=>rfl
 | some z =>
  obtain⟨x,w⟩:=z
  cases x with
  |v i=>simp only[nN,aZ,Sb5]at h ⊢;omega
  |c d=>rfl
section
variable {cf:Nat->List D->Option (List D)}
noncomputable def Ec {β:Type}(cf:Nat->List D->Option (List D))(t:Tm β)(ρ:List D):Option (Out β):=lim fun n=>runT cf n t ρ
noncomputable def Lc {β:Type}(cf:Nat->List D->Option (List D))(body:Tm β)(ρ vs:List D):Option (Out β):=lim fun n=>iter n (fun vs=>runT cf n body (ρ++vs)) vs
theorem Fbj {β:Type}(t:Tm β)(ρ:List D):Oan fun n=>runT cf n t ρ:=fun n _ h=>Fab (fun f _ _ h=>h) (Ubw n) t _ _ h
theorem Mbg {β:Type}(body:Tm β)(ρ vs:List D):Oan fun n=>iter n (fun vs=>runT cf n body (ρ++vs)) vs :=
 fun n _ h=>lL (fun vs r hr=>Fbj body _ n r hr) (Ubw n) _ _ h
theorem Ga5 {β:Type}{t:Tm β}{ρ:List D}{o:Out β}:Ec cf t ρ=some o↔∃ n,runT cf n t ρ=some o:=fK (Fbj t ρ)
theorem fG {β:Type}(k:Kind)(xs:List aJ)(e:β)(ρ:List D):Ec cf (.leaf k xs e) ρ=some ⟨k,xs,e,ρ⟩:=fM _
theorem iN {β:Type}(ρ:List D):Ec cf (.stuck:Tm β) ρ=none:=fM _
theorem Lac {β:Type}(g:Option (aJ×Bool))(p:aN)(xs:List aJ)(n:Nat)(k:Tm β)(ρ:List D) :
  Ec cf (.lt g p xs n k) ρ=if gOn ρ g then (p.run (xs.map (·.val ρ))).bind fun ds=>if ds.length=n then Ec cf k (ρ++ds) else none
   else Ec cf k (ρ++Sbi n .undef):=by
 unfold Ec;simp only[runT];split
 ·cases p.run (xs.map (·.val ρ)) with
  |none=>exact fM _
  | some ds =>
   simp only[Rb1];split
   ·rfl
   ·exact fM _
 ·rfl
theorem sN {β:Type}(g:Option (aJ×Bool))(f:Nat)(xs:List aJ)(n:Nat)(olds:List aJ)(k:Tm β)(ρ:List D) :
  Ec cf (.call g f xs n olds k) ρ=if gOn ρ g then (cf f (xs.map (·.val ρ))).bind fun ds=>if ds.length=n then Ec cf k (ρ++ds) else none
   else Ec cf k (ρ++(Sbi (n-olds.length) .undef++olds.map (·.val ρ))):=by
 unfold Ec;simp only[runT];split
 ·cases cf f (xs.map (·.val ρ)) with
  |none=>exact fM _
  | some ds =>
   simp only[Rb1];split
   ·rfl
   ·exact fM _
 ·rfl
theorem Daq {β:Type}(c:aJ)(t e:Tm β)(ρ:List D) :
  Ec cf (.ite c t e) ρ=match c.val ρ with
   |.bool true=>Ec cf t ρ
   |.bool false=>Ec cf e ρ
   |_=>none:=by
 unfold Ec;simp only[runT]
 cases c.val ρ with
 |bool b=>cases b<;>rfl
 |_=>exact fM _
theorem pI {β:Type}(i:Nat)(t k:Tm β)(ρ:List D) :
  Ec cf (.bind i t k) ρ=(Ec cf t ρ).bind fun o=>if o.kind=.yield i then Ec cf k (ρ++o.vals) else some o:=by
 unfold Ec;simp only[runT];rw[Eae (a:=fun n=>runT cf n t ρ) (Fbj t ρ) (fun o=>by split;exact Fbj k _;exact fun _ _ h=>h)];congr 1;funext o;split
 ·rfl
 ·exact fM _
theorem Lad {β:Type}(init:List aJ)(body:Tm β)(ρ:List D):Ec cf (.loop init body) ρ=Lc cf body ρ (init.map (·.val ρ)):=rfl
theorem Yam {β:Type}(body:Tm β)(ρ vs:List D) :
  Lc cf body ρ vs=(Ec cf body (ρ++vs)).bind fun o=>if o.kind=.cont then Lc cf body ρ o.vals else some o:=by
 have hm:∀ vs,Oan fun n=>iter n (fun vs=>runT cf n body (ρ++vs)) vs:=fun vs=>Mbg body ρ vs
 unfold Lc
 have e:∀ vs r,(lim fun n=>iter n (fun vs=>runT cf n body (ρ++vs)) vs)=some r↔((Ec cf body (ρ++vs)).bind fun o=>if o.kind=.cont then (lim fun n=>iter n (fun vs=>runT cf n body (ρ++vs)) o.vals) else some o)=some r:=by
  intro vs r;rw[fK (hm vs)];simp only[Rbt];constructor
  ·rintro⟨n,hn⟩
   cases n with
   |zero=>cases hn
   | succ n =>
    simp only[iter,Rbt]at hn;obtain⟨o,ho,hr⟩:=hn;refine⟨o,Ga5.2 ⟨n+1,ho⟩,?_⟩;split at hr
    ·rename_i hk
     rw[if_pos hk,fK (hm _)];exact⟨n+1,lL (fun _ _ h=>h) (Ubw n) _ _ hr⟩
    ·rename_i hk
     rw[if_neg hk];exact hr
  ·rintro⟨o,ho,hr⟩
   obtain⟨n,hn⟩:=Ga5.1 ho;split at hr
   ·rename_i hk
    obtain⟨m,qc⟩:=(fK (hm _)).1 hr;refine⟨max n m+1,?_⟩;simp only[iter,Rbt];refine⟨o,(Fbj body (ρ++vs)).le (by omega) hn,?_⟩;rw[if_pos hk];exact lL (fun vs r h=>(Fbj body (ρ++vs)).le (by omega) h) (by omega) _ _ qc
   ·rename_i hk
    refine⟨n+1,?_⟩;simp only[iter,Rbt];exact⟨o,Fbj body _ _ _ hn,by rw[if_neg hk];exact hr⟩
 exact Option.ext (e vs)
end
section
variable {cf:Nat->List D->Option (List D)}
theorem tY {g:Option (aJ×Bool)}{k:Tm St}:∀ {lets:List Step} {ρ:List D} {o:Out St},nN ρ.length g=true->dW ρ.length lets=true->Ec cf (mY g k lets) ρ=some o ->
  ∃ ds,ds.length=bF lets/\Ec cf k (ρ++ds)=some o/\∀ ext,aK cf (ρ++ds++ext) g ρ.length lets
 |[],ρ,o,_,_,h=>⟨[],rfl,by simpa[mY] using h,fun _=>trivial⟩
 | .prim p xs n :: r, ρ, o, hg, hs, h => by
  simp only[dW,Baq,Rbu]at hs;obtain⟨tu,hs⟩:=hs;simp only[mY,Lac]at h
  have main:∀ ds:List D,ds.length=n->Ec cf (mY g k r) (ρ++ds)=some o->(∀ ext,Sab cf (ρ++ds++ext) g ρ.length (.prim p xs n)) ->
    ∃ ds,ds.length=bF (.prim p xs n::r)/\Ec cf k (ρ++ds)=some o/\∀ ext,aK cf (ρ++ds++ext) g ρ.length (.prim p xs n::r):=by
   intro ds hl h1 h2;obtain⟨es,h3,h4,h5⟩:=tY (lets:=r) (ρ:=ρ++ds) (uW hg (by simp)) (by simp only[Rb8,hl];exact hs) h1;refine⟨ds++es,by rw[gV];simp[hl,h3,Step.n],by rw[<- Rb3];exact h4,fun ext=>⟨?_,?_⟩⟩
   ·have:=h2 (es++ext)
    simpa[Rb3] using this
   ·have:=h5 ext
    simp only[Rb8,hl]at this;simpa[Rb3,Step.n] using this
  by_cases fS:gOn ρ g=true
  ·rw[if_pos fS]at h
   simp only[Rbt]at h;obtain⟨ds,h1,h2⟩:=h;split at h2
   case isFalse=>cases h2
   rename_i hl;refine main ds hl h2 fun ext=>⟨fun _=>⟨ds,?_,hl,fun j d hj=>Bad hj⟩,fun p0=>?_⟩
   ·rw[Rb3,Gax tu (Sbg _)];exact h1
   ·rw[Rb3,wK hg (Sbg _),fS]at p0;cases p0
  ·rw[if_neg fS]at h
   refine main (Sbi n .undef) (by simp) h fun ext=>⟨fun hon=>?_,fun _ j hj=>Bad (by simp[hj])⟩
   rw[Rb3,wK hg (Sbg _)]at hon;exact absurd hon fS
 | .call f xs n olds :: r, ρ, o, hg, hs, h => by
  simp only[dW,Baq,Rbu]at hs;obtain⟨⟨⟨tu,hos⟩,hle⟩,hs⟩:=hs;simp only[Tbc]at hle;simp only[mY,sN]at h
  have main:∀ ds:List D,ds.length=n->Ec cf (mY g k r) (ρ++ds)=some o->(∀ ext,Sab cf (ρ++ds++ext) g ρ.length (.call f xs n olds)) ->
    ∃ ds,ds.length=bF (.call f xs n olds::r)/\Ec cf k (ρ++ds)=some o/\∀ ext,aK cf (ρ++ds++ext) g ρ.length (.call f xs n olds::r):=by
   intro ds hl h1 h2;obtain⟨es,h3,h4,h5⟩:=tY (lets:=r) (ρ:=ρ++ds) (uW hg (by simp)) (by simp only[Rb8,hl];exact hs) h1;refine⟨ds++es,by rw[gV];simp[hl,h3,Step.n],by rw[<- Rb3];exact h4,fun ext=>⟨?_,?_⟩⟩
   ·have:=h2 (es++ext)
    simpa[Rb3] using this
   ·have:=h5 ext
    simp only[Rb8,hl]at this;simpa[Rb3,Step.n] using this
  by_cases fS:gOn ρ g=true
  ·rw[if_pos fS]at h
   simp only[Rbt]at h;obtain⟨ds,h1,h2⟩:=h;split at h2
   case isFalse=>cases h2
   rename_i hl;refine main ds hl h2 fun ext=>⟨fun _=>⟨ds,?_,hl,fun j d hj=>Bad hj⟩,fun p0=>?_⟩
   ·rw[Rb3,Gax tu (Sbg _)];exact h1
   ·rw[Rb3,wK hg (Sbg _),fS]at p0;cases p0
  ·rw[if_neg fS]at h
   refine main _ (by simp;omega) h fun ext=>⟨fun hon=>?_,fun _ j d hd=>?_⟩
   ·rw[Rb3,wK hg (Sbg _)]at hon
    exact absurd hon fS
   ·rw[Rb3,Gax hos (Sbg _)]at hd
    exact Bad hd
end
theorem pJ:∀ (u:List (Nat×aP)) (f g:Nat->Option aP) (k:Nat),f k=g k->upds f u k=upds g u k
 |[],f,g,k,h=>h
 | (k', c) :: r, f, g, k, h => by
  refine pJ r _ _ k ?_;unfold Qa7;split
  ·rfl
  ·exact h
theorem Ja3:∀ (u:List (Nat×aP)) (s:St) (k:Nat),(s.puts u).tr.get k=upds s.tr.get u k
 |[],s,k=>rfl
 | (k', c) :: r, s, k => by
  rw[St.puts,Ja3 r _ k,upds];refine pJ r _ _ k ?_;simp only[St.put,Tr.get_set,Qa7]
theorem iC:∀ (u:List (Nat×aP)) (s:St),(s.puts u).nv=s.nv/\(s.puts u).nb=s.nb/\(s.puts u).nr=s.nr/\(s.puts u).nt=s.nt
 |[],s=>⟨rfl,rfl,rfl,rfl⟩
 |(k',c)::r,s=>by rw[St.puts];exact iC r _
theorem Da0:∀ (u:List (Nat×aP)) (f g:Nat->Option aP) (k:Nat),(∃ c,(k,c)∈u)->upds f u k=upds g u k
 |[],f,g,k,h=>by obtain⟨c,hc⟩:=h;simp at hc
 | (k', c) :: r, f, g, k, h => by
  by_cases hk:k=k'
  ·exact pJ r _ _ k (by unfold Qa7;rw[if_pos hk,if_pos hk])
  ·refine Da0 r _ _ k ?_
   obtain⟨c',ig⟩:=h
   rcases Rb4.1 ig with h1|h1
   ·exact absurd (Ubb h1).1 hk
   ·exact⟨c',h1⟩
theorem wL {t:Tr aP}:∀ {n r:Nat},lZ t r n=true->∀ j,r<=j->j<r+n->t.get (kR j)=none
 |0,r,_,j,h1,h2=>by omega
 | n + 1, r, h, j, h1, h2 => by
  simp only[lZ,Rbu,Ubi]at h;by_cases e:j=r
  ·rw[e];exact h.1
  ·exact wL h.2 j (by omega) (by omega)
theorem Oaq:∀ (u:List (Nat×aP)) (n:Nat),n<=Fbm u n
 |[],n=>Sbg _
 | x :: r, n => by
  refine Nat.le_trans ?_ (Oaq r _)
  cases h:(Nat.beq (x.1 % 3) 2&&Nat.ble n (x.1 / 3)) with
  |false=>exact Sbg _
  |true=>simp only[Rbu,Tbc]at h;rw[cond_true];omega
theorem Qap:∀ {u:List (Nat×aP)} {n:Nat} {x:Nat×aP},x∈u->x.1 % 3=2->x.1 / 3<Fbm u n
 | y :: r, n, x, hx, h2 => by
  rcases Rb4.1 hx with rfl|hx
  ·refine Nat.lt_of_lt_of_le ?_ (Oaq r _)
   have e:Nat.beq (x.1 % 3) 2=true:=by rw[h2];rfl
   rw[e,Bool.true_and]
   cases h:Nat.ble n (x.1 / 3) with
   |true=>rw[cond_true];omega
   | false =>
    rw[cond_false];exact Nat.lt_of_not_le fun e=>by rw[<- Tbc,h]at e;cases e
  ·exact Qap (u:=r) hx h2
theorem Uas:∀ {u:List (Nat×aP)} {n m:Nat},n<=m->(∀ x∈u,x.1 % 3=2->x.1 / 3<m)->Fbm u n<=m
 |[],n,m,h,_=>h
 | y :: r, n, m, h, hu => by
  show Fbm r (bif Nat.beq (y.1 % 3) 2&&Nat.ble n (y.1 / 3) then y.1 / 3+1 else n)<=m
  refine Uas (u:=r) ?_ fun x hx=>hu x (Rb7 _ hx)
  cases hc:(Nat.beq (y.1 % 3) 2&&Nat.ble n (y.1 / 3)) with
  |false=>exact h
  | true =>
   simp only[Rbu,Sbq]at hc;rw[cond_true];exact hu y Sbe hc.1
theorem Wai {n nb nr:Nat}{u:List (Nat×aP)}(hk:u.all (fun x=>wU n nb nr x.1)=true)(draw:Bool):nr<=Qaa draw nr u/\Qaa draw nr u<=nr+bR/\∀ x∈u,x.1 % 3=2->x.1 / 3<Qaa draw nr u:=by
 have hb:∀ x∈u,x.1 % 3=2->x.1 / 3<nr+bR:=by
  intro x hx h2;rw[Sbp]at hk;have:=hk _ hx;unfold wU at this;rw[h2]at this;simpa using this
 cases draw with
 |true=>exact⟨Vba ..,Sbg _,hb⟩
 |false=>exact⟨Oaq _ _,Uas (Vba ..) hb,fun x hx h2=>Qap hx h2⟩
theorem Abs {s:St}{g:Option (aJ×Bool)}{r:bM}{n:Nat}(h:Abt s g r=true)(hn:n<=s.nt)(hk:r.upd.all (fun x=>wU n s.nb s.nr x.1)=true)(draw:Bool)(nv:Nat)(k:Nat) :
  ({ (s.puts r.upd) with nv:=nv,nb:=s.nb+1,nr:=Qaa draw s.nr r.upd }:St).get k=upds s.get r.upd k:=by
 obtain⟨t1,t2,t3⟩:=Wai hk draw;generalize Qaa draw s.nr r.upd=gj at t1 t2 t3 ⊢;simp only[Abt,Rbu,Ubi]at h;obtain⟨⟨⟨⟨h1,h2⟩,-⟩,-⟩,-⟩:=h
 have e:({ (s.puts r.upd) with nv:=nv,nb:=s.nb+1,nr:=gj }:St).get k=bif tL s.nt (s.nb+1) gj k then upds s.tr.get r.upd k else none:=by
  unfold St.get;dsimp only;rw[Ja3,(iC r.upd s).2.2.2]
 rw[e];by_cases hm:∃ c,(k,c)∈r.upd
 ·obtain⟨c,hc⟩:=hm
  have kb:tL s.nt (s.nb+1) gj k=true:=by
   rw[Sbp]at hk;have:=hk _ hc;unfold wU at this;unfold tL;dsimp only at this
   cases b0:Nat.beq (k % 3) 0 with
   |true=>rw[b0,cond_true]at this;rw[cond_true];simp only[Sb5]at this ⊢;omega
   | false =>
    rw[b0,cond_false]at this;rw[cond_false]
    cases b1:Nat.beq (k % 3) 1 with
    |true=>rw[b1,cond_true]at this;rw[cond_true];simp only[Tbc]at this;simp only[Sb5];omega
    | false =>
     rw[cond_false,Sb5];have n0:k % 3≠0:=fun e=>by rw[e]at b0;cases b0
     have n1:k % 3≠1:=fun e=>by rw[e]at b1;cases b1
     exact t3 _ hc (by dsimp only;omega)
  rw[kb,cond_true];exact Da0 _ _ _ _ ⟨c,hc⟩
 ·have jt:∀ c,(k,c)∉r.upd:=fun c hc=>hm ⟨c,hc⟩
  rw[eB _ _ _ jt,eB _ _ _ jt];unfold St.get
  cases ho:tL s.nt s.nb s.nr k with
  | true =>
   have:tL s.nt (s.nb+1) gj k=true:=by
    unfold tL at ho ⊢
    cases b0:Nat.beq (k % 3) 0 with
    |true=>rw[b0]at ho;exact ho
    | false =>
     rw[b0,cond_false]at ho;rw[cond_false]
     cases b1:Nat.beq (k % 3) 1 with
     |true=>rw[b1,cond_true]at ho;rw[cond_true];simp only[Sb5]at ho ⊢;omega
     |false=>rw[b1,cond_false]at ho;rw[cond_false];simp only[Sb5]at ho ⊢;omega
   rw[this]
  | false =>
   rw[cond_false]
   cases hw:tL s.nt (s.nb+1) gj k with
   |false=>rfl
   | true =>
    rw[cond_true];unfold tL at ho hw
    cases b0:Nat.beq (k % 3) 0 with
    |true=>rw[b0,cond_true]at ho hw;rw[ho]at hw;cases hw
    | false =>
     rw[b0,cond_false]at ho hw;have n0:k % 3≠0:=fun e=>by rw[e]at b0;cases b0
     cases b1:Nat.beq (k % 3) 1 with
     | true =>
      rw[b1,cond_true]at ho hw;simp only[Sbq]at b1;simp only[Sb5]at hw;have rj:¬ k / 3<s.nb:=fun e=>by rw[<- Sb5,ho]at e;cases e
      have:k=kB s.nb:=by unfold kB;omega
      rw[this];exact h1
     | false =>
      rw[b1,cond_false]at ho hw;have n1:k % 3≠1:=fun e=>by rw[e]at b1;cases b1
      simp only[Sb5]at hw;have rj:¬ k / 3<s.nr:=fun e=>by rw[<- Sb5,ho]at e;cases e
      have:k=kR (k / 3):=by unfold kR;omega
      rw[this];exact wL h2 _ (by omega) (by omega)
theorem Nak {s:St}:Bah s.get s.nb s.nr:=by
 refine⟨?_,fun j h1 h2=>?_⟩
 ·unfold St.get tL kB
  have e:(3*s.nb+1) % 3=1:=by omega
  have e2:(3*s.nb+1) / 3=s.nb:=by omega
  rw[e,e2]
  have:Tbh s.nb s.nb=false:=by
   cases hb:Tbh s.nb s.nb with
   |false=>rfl
   |true=>simp at hb
  rw[this];rfl
 ·unfold St.get tL kR
  have e:(3*j+2) % 3=2:=by omega
  have e2:(3*j+2) / 3=j:=by omega
  rw[e,e2]
  have:Tbh j s.nr=false:=by
   cases hb:Tbh j s.nr with
   |false=>rfl
   |true=>simp only[Sb5]at hb;omega
  rw[this];rfl
theorem Qao (t:Tr aP)(lo:Nat):∀ n,Lal t lo n<=lo+n
 |0=>Sbg _
 | n + 1 => by
  unfold Lal
  cases (t.get (kR (lo+n))).isNone with
  |true=>rw[cond_true];have:=Qao t lo n;omega
  |false=>rw[cond_false];omega
theorem Har (t:Tr aP)(lo:Nat):∀ n j,Lal t lo n<=j->j<lo+n->t.get (kR j)=none
 |0,j,h1,h2=>by unfold Lal at h1;omega
 | n + 1, j, h1, h2 => by
  unfold Lal at h1
  cases h:(t.get (kR (lo+n))).isNone with
  | true =>
   rw[h,cond_true]at h1;by_cases e:j=lo+n
   ·rw[e];simpa using h
   ·exact Har t lo n j h1 (by omega)
  |false=>rw[h,cond_false]at h1;omega
theorem Lak {draw:Bool}{lo:Nat}{s:St}:(trimS draw lo s).get=s.get:=by
 unfold trimS
 cases hd:(draw&&Nat.ble lo s.nr) with
 |false=>rfl
 | true =>
  simp only[Rbu,Tbc]at hd;rw[cond_true];funext k;have h1:=Qao s.tr lo (s.nr-lo);have h2:=Har s.tr lo (s.nr-lo);generalize Lal s.tr lo (s.nr-lo)=m at h1 h2;unfold St.get;dsimp only;unfold tL
  cases b0:Nat.beq (k % 3) 0 with
  |true=>rfl
  | false =>
   rw[cond_false,cond_false]
   cases b1:Nat.beq (k % 3) 1 with
   |true=>rfl
   | false =>
    rw[cond_false,cond_false];have n0:k % 3≠0:=fun e=>by rw[e]at b0;cases b0
    have n1:k % 3≠1:=fun e=>by rw[e]at b1;cases b1
    have ek:k=kR (k / 3):=by unfold kR;omega
    by_cases ha:k / 3<m
    ·have e1:Tbh (k / 3) m=true:=by simpa using ha
     have e2:Tbh (k / 3) s.nr=true:=by simp only[Sb5];omega
     rw[e1,e2]
    ·have e1:Tbh (k / 3) m=false:=by
      cases e:Tbh (k / 3) m with
      |false=>rfl
      |true=>simp only[Sb5]at e;omega
     rw[e1,cond_false]
     cases e2:Tbh (k / 3) s.nr with
     |false=>rfl
     | true =>
      simp only[Sb5]at e2;rw[cond_true,ek];exact (h2 _ (by omega) (by omega)).symm
theorem vT {draw:Bool}{lo:Nat}{s:St}:(trimS draw lo s).nv=s.nv/\(trimS draw lo s).nb=s.nb/\(trimS draw lo s).nt=s.nt:=by
 unfold trimS;cases draw&&Nat.ble lo s.nr<;>exact⟨rfl,rfl,rfl⟩
section
variable {P:Program} {E:Env} {F:bE} {n:Nat} {σ:Nat->Option aP} {ρ:List D} {a:Act} {w w':World} {G G':Gh} {g:Option (aJ×Bool)} {o:Oper} {cf:Nat->List D->Option (List D)} {Q:Exit->Act->World->Prop}
theorem Iav:∀ (u:List (Nat×aP)) (σ:Nat->Option aP) (k:Nat),upds σ u k=match Tam u k with
  |some c=>some c
  |none=>σ k
 |[],_,_=>rfl
 | (k', c) :: r, σ, k => by
  show upds (Qa7 σ k' c) r k=_
  rw[Iav r];simp only[Tam]
  cases Tam r k with
  |some d=>rfl
  | none =>
   dsimp only;unfold Qa7;by_cases e:k=k'
   ·subst e
    rw[if_pos rfl];simp
   ·rw[if_neg e]
    have:Nat.beq k' k=false:=by
     cases h:Nat.beq k' k with
     |false=>rfl
     |true=>exact absurd (Nat.eq_of_beq_eq_true h).symm e
    rw[this];rfl
theorem Nau {α:Type}(u:List (Nat×aP))(m:RdM α)(σ:Nat->Option aP):(m.over u).eval σ=m.eval (upds σ u):=by
 induction m with
 |ret a=>rfl
 |no=>rfl
 | rd k f ih =>
  show ((RdM.rd k f).over u).eval σ=(f (upds σ u k)).eval (upds σ u)
  unfold RdM.over;rw[Iav u σ k]
  cases Tam u k with
  |some c=>exact ih _
  |none=>exact ih _
theorem xS:∀ (u v:List (Nat×aP)) (σ:Nat->Option aP),upds σ (u++v)=upds (upds σ u) v
 |[],_,_=>rfl
 |(k,c)::r,v,σ=>xS r v (Qa7 σ k c)
def xA (r nr:Nat)(pv:List Nat)(M mr:Nat)(s:Nat)(p:List Nat):Ow :=
 if s=r then (if pv <+: p then wP nr M (p.drop pv.length) else wP r mr p) else .slc s p
theorem Abo {t:Nat}{a:Act}{o:Oper}(h:o.dst=some t):a.put o.dst (a.tmps.getD t undef)=a:=by
 unfold Act.put;rw[h];dsimp only
 have:a.tmps.setIfInBounds t (a.tmps.getD t undef)=a.tmps:=by
  apply Array.ext_getElem?;intro j;rw[Array.getElem?_setIfInBounds];split
  ·rename_i e
   subst e;split
   ·rename_i aw
    exact (Sbv aw).symm
   ·rename_i aw
    rw[Array.getElem?_eq_none (by omega)]
  ·rfl
 rw[this]
theorem Lax (hR:R E.ntmps F σ ρ a w G){nv nr t:Nat}(mb:σ (kR nr)=none){l:List Step}{u:List (Nat×aP)}(h:(Ha2 E nv nr t).eval σ=some (some (l,u)))(cj:aK cf ρ none nv l) :
  ∃ G',R E.ntmps F (upds σ u) ρ a w G':=by
 simp only[Ha2,aA,Rbt,aS,Rb1]at h;split at h
 case h_2=>simp only[aC,Rbv]at h;cases h
 rename_i deps p ps nie x lv;simp only[aA,Rbt]at h;obtain⟨s,h1,h⟩:=h;split at h
 case h_2=>simp only[aC,Rbv]at h;cases h
 rename_i r k m q qs bz;rw[gG]at h;split at h
 case isFalse=>simp only[aC,Rbv]at h;cases h
 rename_i hb;simp only[Rbu,Tbc,Sb5]at hb;obtain⟨hqm,htn⟩:=hb;simp only[aA,Rbt,aS,Rb1]at h;split at h
 case h_2=>simp only[aC,Rbv]at h;cases h
 rename_i X m' b9 hk;simp only[aC,Rbv,Sbj]at h;obtain⟨rfl,rfl⟩:=h;have iq:=hR.slot lv (g:=none) rfl;simp only[bV]at iq;have ir:=dN hR h1 iq;have n9:=ir.own;unfold tJ at n9;rw[bz]at n9;obtain⟨-,⟨X0,lA⟩,-,fX,lz⟩:=n9;rw[hk]at lA
 obtain⟨rfl,rfl,rfl⟩:X=X0/\m'=m/\b9=k:=by
  injection lA with e;injection e with e1 e2 e3 e4;exact⟨e1,e2,e3⟩
 have fx:=hR.root hk;simp only[bP]at fx;have og:=zX (g:=none) rfl (q::qs) nv X (.c .hole) cj;have u7:(bA ρ (q::qs)).length=qs.length+1:=by simp[bA]
 generalize zm:bA ρ (q::qs)=pv at og fX lz u7;rw[show (q::qs).length=qs.length+1 from rfl]at fX;have htv:yP E.ntmps a F.gh t=a.tmps.getD t undef:=if_pos htn;generalize hv:yP E.ntmps a F.gh t=v at iq fX lz htv;obtain⟨o',rj⟩:∃ o':Oper,o'.dst=some t:=⟨{ (default:Oper) with dst:=some t },rfl⟩;have a52:r≠nr:=fun e=>by rw[e,mb]at hk;cases hk
 have hdr:∀ r,(σ (kR r)).isSome->r≠nr:=fun r hr e=>by rw[e,mb]at hr;cases hr
 have mN:∀ b,G.own b≠.frz->b<w.heap.size:=fun b hb=>by
  rcases Sbh b w.heap.size with h|h
  ·exact h
  ·exact absurd (hR.frame.fresh b h) hb
 have hFr:∀ p,xA r nr pv (m'-(qs.length+1)) m' r p=if pv <+: p then wP nr (m'-(qs.length+1)) (p.drop pv.length) else wP r m' p:=fun p=>by unfold xA;rw[if_pos rfl]
 have nu:∀ b,G.own b=.frz->b<w.heap.size->lJ (xA r nr pv (m'-(qs.length+1)) m') (G.own b)=.frz/\w.heap[b]?=w.heap[b]?:=fun b hb _=>⟨by rw[hb];rfl,rfl⟩
 have gS:=hR.own (o:=o') (g:=none) (fun d e=>by rw[rj]at e;cases e;exact htn) (sv:=.one (.ex nr)) (v:=v) (w':=w)
  (G':={ G with own:=fun b=>lJ (xA r nr pv (m'-(qs.length+1)) m') (G.own b),hdr:=fun s=>if s=nr then v else G.hdr s }) (wr:=fun _=>False)
  (ur:=[(kR nr,.root s.x (m'-(qs.length+1)) 0 .live),(kR r,.root (Ja8 nv X (q::qs) (.c .hole)).2 m' (b9+1) .live)])
  (f:=xA r nr pv (m'-(qs.length+1)) m') ?_ (fun b _=>rfl) ?_ ⟨rfl,rfl,rfl,Sbg _⟩ ?_ (fun _ _ _=>rfl) (fun _ h=>h.elim) ?_ ?_ ?_ ?_ rfl ?_ ?_
 ·have e1:dM o' none (.one (.ex nr))=[(kT t,.slot none (.one (.ex nr)))]:=by unfold dM;rw[rj]
  have e2:a.put o'.dst v=a:=by rw[htv];exact Abo rj
  rw[e1,e2]at gS;exact⟨_,gS⟩
 ·intro k c hc
  rcases Rb4.1 hc with hc|hc
  ·exact⟨nr,(Ubb hc).1⟩
  ·exact⟨r,(Ubb (Rby.1 hc)).1⟩
 ·intro b hb
  show lJ _ (G.own b)=.frz
  rw[hR.frame.fresh b hb];rfl
 ·intro b hb
  refine .inl ?_;show lJ _ (G.own b)=.frz
  rw[hR.frame.fresh b hb];rfl
 ·intro b s' p' hb iz
  have:s'≠r:=fun e=>iz (.root (Ja8 nv X (q::qs) (.c .hole)).2 m' (b9+1) .live) (by rw[e];simp)
  unfold xA;rw[if_neg this]
 ·intro s' c hc _
  rcases Rb4.1 hc with hc|hc
  ·obtain⟨e1,e2⟩:=Ubb hc
   rw[eF e1,e2];exact .inl ⟨mb,_,_,_,_,rfl⟩
  ·obtain⟨e1,e2⟩:=Ubb (Rby.1 hc)
   rw[eF e1,e2];exact .inr (.inl ⟨_,_,_,_,_,hk,rfl⟩)
 ·intro r0 x0 m0 k0 kg s' p' q' hF
  have y6:r0≠r:=fun e=>by
   rw[e,hk]at kg
   injection kg with e;injection e with _ _ _ e;cases e
  have pb:r0≠nr:=hdr r0 (by rw[kg];rfl);unfold xA at hF;split at hF
  ·rename_i e
   split at hF
   ·unfold wP at hF
    split at hF
    ·injection hF with j1 j2;exact absurd j1.symm pb
    ·cases hF
   ·unfold wP at hF
    split at hF
    ·injection hF with j1 j2;exact absurd j1.symm y6
    ·cases hF
  ·injection hF with j1 j2;exact⟨j1,j2⟩
 ·intro s' km
  show (if s'=nr then _ else _)=_
  rw[if_neg (hdr s' km)]
 ·intro _ _
  simp only[bV,aB];exact⟨by simp,dP _ _ _ (.inr ⟨_,Rb0 _ Sbe⟩),fX.one⟩
 ·intro fj s' c hc _
  rcases Rb4.1 hc with hc|hc
  ·obtain⟨e1,rfl⟩:=Ubb hc
   obtain rfl:=eF e1;refine⟨_,_,_,_,rfl,?_⟩;simp only[bP,if_true];refine fX.move nu [] _ (Sbg _) fun b t' hb=>⟨?_,rfl⟩
   show lJ _ (G.own b)=_
   rw[hb];show xA _ _ _ _ _ _ _=_
   rw[hFr,if_pos (List.prefix_append _ _),List.drop_left];rfl
  ·obtain⟨e1,rfl⟩:=Ubb (Rby.1 hc)
   obtain rfl:=eF e1;refine⟨_,_,_,_,rfl,?_⟩;simp only[bP];rw[if_neg a52];have:=Rp.upd (own':=fun b=>lJ (xA s' nr pv (m'-(qs.length+1)) m') (G.own b)) (w':=w) (r:=s') (M':=m') (full:=pv) (y:=.hole) (u:=v) nu (fun b t' hb ht=>⟨?_,rfl⟩) (by omega) (.hole _ fX.one) pv [] m' (G.hdr s') _ _ rfl (Sbg _) (by simpa using fx) lz og
   ·simpa using this
   ·rw[hb]
    show xA _ _ _ _ _ _ _=_
    rw[hFr,if_neg ht];rfl
theorem Ha0 {mv e9:Bool}{nv nb nr:Nat}{c:Call}(h:o.op=.call c):Sap E mv e9 nv nb nr g o=nZ E mv e9 nv nb nr g o:=by
 unfold Sap;have h1:zA (e9&&noG g) o.op=none:=by rw[h];unfold zA;split<;>first|rfl|contradiction
 have h2:Kac (e9&&noG g&&!mv) o=none:=by
  unfold Kac;split
  ·rw[h]
  ·rfl
 rw[h1];dsimp only;rw[h2]
theorem Sas {nv nr t:Nat}(mb:σ (kR (nr+1))=none){l:List Step}{u:List (Nat×aP)}(h1:(Ha2 E nv nr t).eval σ=some (some (l,u))):upds σ u (kR (nr+1))=none:=by
 simp only[Ha2,aA,Rbt,aS,Rb1]at h1;split at h1
 case h_2=>simp only[aC,Rbv]at h1;cases h1
 simp only[aA,Rbt]at h1;obtain⟨s,-,h1⟩:=h1;split at h1
 case h_2=>simp only[aC,Rbv]at h1;cases h1
 rw[gG]at h1;split at h1
 case isFalse=>simp only[aC,Rbv]at h1;cases h1
 simp only[aA,Rbt,aS,Rb1]at h1;split at h1
 case h_2=>simp only[aC,Rbv]at h1;cases h1
 rename_i r' _ _ _ _ _ _ _ _ hk;simp only[aC,Rbv,Sbj]at h1;obtain⟨-,rfl⟩:=h1
 cases e:upds σ _ (kR (nr+1)) with
 |none=>rfl
 | some c =>
  exfalso
  rcases nW _ _ _ _ e with h4|⟨-,h4⟩
  ·simp only[Rb4,Sbj,List.not_mem_nil,or_false]at h4
   rcases h4 with ⟨h4,-⟩|⟨h4,-⟩|⟨h4,-⟩
   ·exact gW h4.symm
   ·have:=eF h4;omega
   ·rw[h4,hk]at mb;cases mb
  ·rw[mb]at h4;cases h4
theorem Va7 {mv e9:Bool}{nv nb nr:Nat}{ty:TypeId}{x:Operand}(ho:o.op=.load ty x){r:bM}(h:(nZ E mv e9 nv nb nr none o).eval σ=some r){j:Nat}{c:aP}(hc:(kR j,c)∈r.upd):False:=by
 simp only[nZ,ho,aA,Rbt,tiR,aV]at h;obtain⟨ti,h1,p,h2,h⟩:=h
 have lv:∀ {g':Option (aJ×Bool)} {v:SV},(kR j,c)∈(match o.dst with|some d=>[(kT d,aP.slot g' v)]|none=>[])->False:=by
  intro g' v hm;split at hm
  ·simp only[Rby,Sbj]at hm
   exact gW hm.1.symm
  ·simp at hm
 have hC:∀ {v:SV},(Vav o none nv v).eval σ=some r->False:=by
  intro v h;simp only[Vav,rO,aC,Rbv]at h;subst h;rw[Sbu]at hc;exact lv hc
 unfold Qat at h;split at h
 ·simp only[aA,Rbt,aS,Rb1]at h
  split at h
  ·simp only[aA,Rbt]at h
   obtain⟨_,-,h⟩:=h;split at h
   ·exact hC h
   ·cases h
  ·cases h
 ·simp only[aA,Rbt]at h
  obtain⟨s,-,h⟩:=h;split at h
  ·simp only[rM,aC,Rbv]at h
   subst h;exact lv hc
  ·simp only[rO,aC,Rbv]at h
   subst h;rw[Sbu]at hc;exact lv hc
  ·cases h
 ·cases h
theorem Ua5 (hR:R E.ntmps F σ ρ a w G)(hd:eU E.ntmps o)(hti:tQ P E.ti){nv nb nr:Nat}{mv e9:Bool}(hf:Bah σ nb nr){res:bM}
  (h:(Sap E mv e9 nv nb nr g o).eval σ=some res) (cj:aK cf ρ g nv res.lets)
  (ju:∀ f args argTypes,o.op=.call { callee:=.value f,args,argTypes }->fZ P E F σ ρ a w g o Q res.upd):fZ P E F σ ρ a w g o Q res.upd:=by
 unfold Sap at h;split at h
 ·split at h
  ·exact Da7 hR hd hti hf h cj ju
  ·
   rename_i t yq
   have hb:(e9&&noG g&&!mv)=true:=by
    cases e:(e9&&noG g&&!mv) with
    |true=>rfl
    |false=>rw[e]at yq;cases yq
   simp only[Rbu]at hb;obtain rfl:=uL hb.1.2
   obtain⟨ty,x,ho⟩:∃ ty x,o.op=.load ty x:=by
    unfold Kac at yq;split at yq
    ·split at yq
     ·rename_i ho;exact⟨_,_,ho⟩
     ·cases yq
    ·cases yq
   simp only[aA,Rbt,Nau]at h;obtain⟨r,h1,y,h2,h⟩:=h
   cases y with
   | none =>
    simp only[aC,Rbv]at h;subst h;exact Da7 hR hd hti hf h1 cj ju
   | some lu =>
    obtain⟨l,u⟩:=lu;simp only[aC,Rbv]at h;subst h;obtain⟨mn,jo⟩:=aK.append cj;have h0:fZ P E F σ ρ a w none o Q r.upd:=Da7 hR hd hti hf h1 mn fun f args argTypes uy=>by rw[ho]at uy;cases uy
    refine⟨fun hg=>?_,fun hg=>by simp[gOn]at hg⟩;refine Oper.wp_mono (K:=Nx E.ntmps F σ ρ r.upd) (fun a' w' ⟨G',jg⟩=>?_) (h0.1 hg)
    have mb:upds σ r.upd (kR nr)=none:=by
     have jt:=hf.nr nr (Sbg _) (by unfold bR;omega)
     cases e:upds σ r.upd (kR nr) with
     |none=>rfl
     | some c =>
      exfalso
      rcases nW _ _ _ _ e with h4|⟨-,h4⟩
      ·exact Va7 ho h1 h4
      ·rw[jt]at h4;cases h4
    obtain⟨G'',so⟩:=Lax jg mb h2 jo;exact⟨G'',by rw[xS];exact so⟩
 ·rename_i t gl
  simp only[aA,Rbt]at h;obtain⟨x,h1,h⟩:=h
  have hb:(e9&&noG g)=true:=by
   cases e:(e9&&noG g) with
   |true=>rfl
   |false=>rw[e]at gl;unfold zA at gl;cases gl
  simp only[Rbu]at hb;obtain rfl:=uL hb.2
  cases x with
  |none=>exact Da7 hR hd hti hf h cj ju
  | some lu =>
   obtain⟨l,u⟩:=lu;simp only[aA,Rbt,Nau,aC,Rbv]at h;obtain⟨r,h2,rfl⟩:=h;obtain⟨mn,jo⟩:=aK.append cj;obtain⟨G',jg⟩:=Lax hR (hf.nr nr (Sbg _) (by unfold bR;omega)) h1 mn
   have gS:fZ P E F (upds σ u) ρ a w none o Q r.upd:=by
    have sb:upds σ u (kR (nr+1))=none:=Sas (hf.nr (nr+1) (by omega) (by unfold bR;omega)) h1;unfold zA at gl;split at gl
    ·rename_i ho
     exact Ea4 jg hti ho h2 jo
    ·rename_i ho
     exact sU jg hd hti sb ho h2 jo
    ·cases gl
   refine⟨fun hg=>?_,fun hg=>by simp[gOn]at hg⟩;have e:Nx E.ntmps F σ ρ (u++r.upd)=Nx E.ntmps F (upds σ u) ρ r.upd:=by unfold Nx;rw[xS]
   rw[e];exact gS.1 hg
theorem jC {ops:List Oper}{mv e9:Bool}{nv nb nr:Nat}{res:bM}(h:(kF E ops mv e9 nv nb nr o).eval σ=some (g,res)) :
  (Ja0 ops o).eval σ=some g/\eU E.ntmps o/\(Sap E mv e9 nv nb nr g o).eval σ=some res/\res.upd.all (fun x=>wU E.ntmps nb nr x.1)=true:=by
 simp only[kF,aA,Rbt,aI,aC,Rbv,Sbj]at h;obtain⟨g',h1,_,h2,res',h3,_,h4,rfl,rfl⟩:=h;refine⟨h1,fun d hd=>?_,h3,?_⟩
 ·rw[hd]at h2
  dsimp only at h2;split at h2
  ·rename_i hb;simpa using hb
  ·cases h2
 ·split at h4
  ·rename_i hb;exact hb
  ·cases h4
def Fbq (P:Program)(E:Env)(F:bE)(σ:Nat->Option aP)(ρ:List D)(ops:Array Oper)(o:Oper)(Q:Exit->Act->World->Prop)(u:List (Nat×aP))(a:Act)(w:World):Prop :=
 if Region.wanted o (yielded ops a.tmps) then o.wp P a w (Nx E.ntmps F σ ρ u) Q else Nx E.ntmps F σ ρ u (a.put o.dst undef) w
theorem zB (hR:R E.ntmps F σ ρ a w G)(hti:tQ P E.ti){ops:Array Oper}(py:∀ o∈ops.toList,eU E.ntmps o){mv e9:Bool}{nv nb nr:Nat}(hf:Bah σ nb nr){res:bM}
  (h:(kF E ops.toList mv e9 nv nb nr o).eval σ=some (g,res)) (cj:aK cf ρ g nv res.lets)
  (ju:∀ f args argTypes,o.op=.call { callee:=.value f,args,argTypes }->fZ P E F σ ρ a w g o Q res.upd):Fbq P E F σ ρ ops o Q res.upd a w:=by
 obtain⟨h1,h2,h3,-⟩:=jC h;have hs:=Ua5 hR h2 hti hf h3 cj ju;unfold Fbq;rw[Pai hR py h1];split
 ·rename_i hg;exact hs.1 hg
 ·rename_i hg;exact hs.2 (by simpa using hg)
end
section
variable {cf:Nat->List D->Option (List D)}
theorem Par {i:Nat}{k:Kind}:Kak i k=true↔k=.yield i:=by
 cases k<;>simp[Kak]
 exact eq_comm
theorem Tao {k:Kind}:Raq k=true↔k=.cont:=by cases k<;>simp[Raq]
theorem Yal {β:Type}{body:Tm β}{ρ:List D}{C:List D->Out β->Prop}
  (a0p:∀ vs o,Ec cf body (ρ++vs)=some o->o.kind≠.cont->C vs o)
  (fS:∀ vs o o',Ec cf body (ρ++vs)=some o->o.kind=.cont->C o.vals o'->Lc cf body ρ o.vals=some o'->C vs o') :
  ∀ {vs:List D} {o:Out β},Lc cf body ρ vs=some o->C vs o:=by
 intro vs o h;have h':=(fK (Mbg (cf:=cf) body ρ vs)).1 h;obtain⟨n,hn⟩:=h'
 have key:∀ m vs,iter m (fun vs=>runT cf n body (ρ++vs)) vs=some o->C vs o/\Lc cf body ρ vs=some o:=by
  intro m
  induction m with
  |zero=>intro vs h;cases h
  | succ m ih =>
   intro vs h;simp only[iter,Rbt]at h;obtain⟨o1,h1,h2⟩:=h;have e1:Ec cf body (ρ++vs)=some o1:=Ga5.2 ⟨n,h1⟩;split at h2
   ·rename_i hk
    obtain⟨h3,h4⟩:=ih _ h2;exact⟨fS vs o1 o e1 hk h3 h4,by rw[Yam,e1,Rb1,if_pos hk];exact h4⟩
   ·rename_i hk
    obtain rfl:=Sbs h2;exact⟨a0p vs o1 e1 hk,by rw[Yam,e1,Rb1,if_neg hk]⟩
 exact (key n vs hn).1
theorem uK {β:Type}{f:Kind->Bool}:∀ {t:Tm β} {ρ:List D} {o:Out β},t.no f=true->Ec cf t ρ=some o->f o.kind=false
 | .leaf k xs e, ρ, o, hn, h => by
  rw[fG]at h;obtain rfl:=Sbs h;simpa[Tm.no] using hn
 |.stuck,ρ,o,hn,h=>by rw[iN]at h;cases h
 | .lt g p xs n k, ρ, o, hn, h => by
  rw[Lac]at h;split at h
  ·simp only[Rbt]at h
   obtain⟨ds,-,h⟩:=h;split at h
   ·exact uK (t:=k) hn h
   ·cases h
  ·exact uK (t:=k) hn h
 | .call g c xs n os k, ρ, o, hn, h => by
  rw[sN]at h;split at h
  ·simp only[Rbt]at h
   obtain⟨ds,-,h⟩:=h;split at h
   ·exact uK (t:=k) hn h
   ·cases h
  ·exact uK (t:=k) hn h
 | .ite c t e, ρ, o, hn, h => by
  simp only[Tm.no,Rbu]at hn;rw[Daq]at h;split at h
  ·exact uK hn.1 h
  ·exact uK hn.2 h
  ·cases h
 | .bind i t k, ρ, o, hn, h => by
  simp only[Tm.no,Rbu]at hn;simp only[pI,Rbt]at h;obtain⟨o1,h1,h2⟩:=h;split at h2
  ·exact uK hn.2 h2
  ·obtain rfl:=Sbs h2
   exact uK hn.1 h1
 | .loop init b, ρ, o, hn, h => by
  rw[Lad]at h;simp only[Tm.no]at hn;exact Yal (C:=fun _ o=>f o.kind=false) (fun vs o h1 _=>uK hn h1) (fun _ _ _ _ _ h3 _=>h3) h
theorem oJ {f:St->Option (Tm St)}:∀ {t t':Tm St} {ρ:List D} {o':Out St},t.graft f=some t'->Ec cf t' ρ=some o' ->
  ∃ o,Ec cf t ρ=some o/\((o.kind=.fall/\∃ r,f o.ext=some r/\Ec cf r o.env=some o')\/(o.kind≠.fall/\o'=o))
 | .leaf k xs s, t', ρ, o', hg, h => by
  cases k with
  |fall=>exact⟨_,fG ..,.inl ⟨rfl,t',hg,h⟩⟩
  | _ =>
   simp only[Tm.graft,Rbv]at hg;subst hg;rw[fG]at h;obtain rfl:=Sbs h;exact⟨_,fG ..,.inr ⟨by simp,rfl⟩⟩
 | .stuck, t', ρ, o', hg, h => by
  simp only[Tm.graft,Rbv]at hg;subst hg;rw[iN]at h;cases h
 | .lt g p xs n k, t', ρ, o', hg, h => by
  simp only[Tm.graft,Sbc]at hg;obtain⟨k',hk,rfl⟩:=hg;rw[Lac]at h;simp only[Lac];split at h
  ·rename_i fS
   simp only[Rbt]at h;obtain⟨ds,h1,h⟩:=h;split at h
   ·rename_i hl
    obtain⟨o,h2,h3⟩:=oJ hk h;exact⟨o,by rw[if_pos fS,h1,Rb1,if_pos hl];exact h2,h3⟩
   ·cases h
  ·rename_i fS
   obtain⟨o,h2,h3⟩:=oJ hk h;exact⟨o,by rw[if_neg fS];exact h2,h3⟩
 | .call g c xs n os k, t', ρ, o', hg, h => by
  simp only[Tm.graft,Sbc]at hg;obtain⟨k',hk,rfl⟩:=hg;rw[sN]at h;simp only[sN];split at h
  ·rename_i fS
   simp only[Rbt]at h;obtain⟨ds,h1,h⟩:=h;split at h
   ·rename_i hl
    obtain⟨o,h2,h3⟩:=oJ hk h;exact⟨o,by rw[if_pos fS,h1,Rb1,if_pos hl];exact h2,h3⟩
   ·cases h
  ·rename_i fS
   obtain⟨o,h2,h3⟩:=oJ hk h;exact⟨o,by rw[if_neg fS];exact h2,h3⟩
 | .ite c t e, t', ρ, o', hg, h => by
  simp only[Tm.graft,Rbt,Sbc]at hg;obtain⟨t1,ht,e1,he,rfl⟩:=hg;rw[Daq]at h;simp only[Daq];split at h
  ·exact oJ ht h
  ·exact oJ he h
  ·cases h
 | .bind i t k, t', ρ, o', hg, h => by
  simp only[Tm.graft]at hg
  cases hn:t.no nT with
  |false=>rw[hn]at hg;cases hg
  | true =>
   rw[hn,cond_true,Sbc]at hg;obtain⟨k',hk,rfl⟩:=hg;simp only[pI,Rbt]at h;obtain⟨o1,h1,h2⟩:=h;simp only[pI,h1,Rb1];split at h2
   ·rename_i hy
    rw[if_pos hy];exact oJ hk h2
   ·rename_i hy
    rw[if_neg hy];obtain rfl:=Sbs h2;refine⟨o1,rfl,.inr ⟨fun e=>?_,rfl⟩⟩;have:=uK hn h1;rw[e]at this;cases this
 | .loop init b, t', ρ, o', hg, h => by
  simp only[Tm.graft]at hg
  cases hn:b.no nT with
  |false=>rw[hn]at hg;cases hg
  | true =>
   rw[hn,cond_true,Rbv]at hg;subst hg;refine⟨o',h,.inr ⟨fun e=>?_,rfl⟩⟩;have:=uK (t:=.loop init b) (f:=nT) hn h;rw[e]at this;cases this
theorem iV {id:Nat}:∀ {t t':Tm St} {ρ:List D} {o':Out St},t.exitFall id=some t'->Ec cf t' ρ=some o' ->
  ∃ o,Ec cf t ρ=some o/\((nM id o.kind=true/\o'=⟨.fall,[],o.ext,o.env⟩)\/(nM id o.kind=false/\o'=o))
 | .leaf k xs s, t', ρ, o', hg, h => by
  cases k with
  | exit j =>
   simp only[Tm.exitFall,Rbv]at hg
   cases hb:Nat.beq id j with
   | true =>
    rw[hb,cond_true]at hg;subst hg;rw[fG]at h;obtain rfl:=Sbs h;exact⟨_,fG ..,.inl ⟨by simpa[nM] using hb,rfl⟩⟩
   | false =>
    rw[hb,cond_false]at hg;subst hg;rw[fG]at h;obtain rfl:=Sbs h;exact⟨_,fG ..,.inr ⟨by simpa[nM] using hb,rfl⟩⟩
  | _ =>
   simp only[Tm.exitFall,Rbv]at hg;subst hg;rw[fG]at h;obtain rfl:=Sbs h;exact⟨_,fG ..,.inr ⟨rfl,rfl⟩⟩
 | .stuck, t', ρ, o', hg, h => by
  simp only[Tm.exitFall,Rbv]at hg;subst hg;rw[iN]at h;cases h
 | .lt g p xs n k, t', ρ, o', hg, h => by
  simp only[Tm.exitFall,Sbc]at hg;obtain⟨k',hk,rfl⟩:=hg;rw[Lac]at h;simp only[Lac];split at h
  ·rename_i fS
   simp only[Rbt]at h;obtain⟨ds,h1,h⟩:=h;split at h
   ·rename_i hl
    obtain⟨o,h2,h3⟩:=iV hk h;exact⟨o,by rw[if_pos fS,h1,Rb1,if_pos hl];exact h2,h3⟩
   ·cases h
  ·rename_i fS
   obtain⟨o,h2,h3⟩:=iV hk h;exact⟨o,by rw[if_neg fS];exact h2,h3⟩
 | .call g c xs n os k, t', ρ, o', hg, h => by
  simp only[Tm.exitFall,Sbc]at hg;obtain⟨k',hk,rfl⟩:=hg;rw[sN]at h;simp only[sN];split at h
  ·rename_i fS
   simp only[Rbt]at h;obtain⟨ds,h1,h⟩:=h;split at h
   ·rename_i hl
    obtain⟨o,h2,h3⟩:=iV hk h;exact⟨o,by rw[if_pos fS,h1,Rb1,if_pos hl];exact h2,h3⟩
   ·cases h
  ·rename_i fS
   obtain⟨o,h2,h3⟩:=iV hk h;exact⟨o,by rw[if_neg fS];exact h2,h3⟩
 | .ite c t e, t', ρ, o', hg, h => by
  simp only[Tm.exitFall,Rbt,Sbc]at hg;obtain⟨t1,ht,e1,he,rfl⟩:=hg;rw[Daq]at h;simp only[Daq];split at h
  ·exact iV ht h
  ·exact iV he h
  ·cases h
 | .bind i t k, t', ρ, o', hg, h => by
  simp only[Tm.exitFall]at hg
  cases hn:t.no (nM id) with
  |false=>rw[hn]at hg;cases hg
  | true =>
   rw[hn,cond_true,Sbc]at hg;obtain⟨k',hk,rfl⟩:=hg;simp only[pI,Rbt]at h;obtain⟨o1,h1,h2⟩:=h;simp only[pI,h1,Rb1];split at h2
   ·rename_i hy
    rw[if_pos hy];exact iV hk h2
   ·rename_i hy
    rw[if_neg hy];obtain rfl:=Sbs h2;exact⟨o1,rfl,.inr ⟨uK hn h1,rfl⟩⟩
 | .loop init b, t', ρ, o', hg, h => by
  simp only[Tm.exitFall]at hg
  cases hn:b.no (nM id) with
  |false=>rw[hn]at hg;cases hg
  | true =>
   rw[hn,cond_true,Rbv]at hg;subst hg;exact⟨o',h,.inr ⟨uK (t:=.loop init b) (f:=nM id) hn h,rfl⟩⟩
theorem kE {out:Kind}{jy:Kind->Bool}{f:St->Option (Tm St)}(hf:∀ s r,f s=some r->∀ ρ o,Ec cf r ρ=some o->o.kind=out)
  (hc:jy .cont=false) (hy:∀ i,jy (.yield i)=false):∀ {t t':Tm St} {ρ:List D} {o':Out St},t.turn out jy f=some t'->Ec cf t' ρ=some o' ->
  ∃ o,Ec cf t ρ=some o/\((jy o.kind=true/\o'.kind=out/\∃ r,f o.ext=some r/\Ec cf r o.env=some o')\/(jy o.kind=false/\o'=o))
 | .leaf k xs s, t', ρ, o', hg, h => by
  simp only[Tm.turn]at hg
  cases hs:jy k with
  | true =>
   rw[hs,cond_true]at hg;exact⟨_,fG ..,.inl ⟨hs,hf _ _ hg _ _ h,t',hg,h⟩⟩
  | false =>
   rw[hs,cond_false,Rbv]at hg;subst hg;rw[fG]at h;obtain rfl:=Sbs h;exact⟨_,fG ..,.inr ⟨hs,rfl⟩⟩
 | .stuck, t', ρ, o', hg, h => by
  simp only[Tm.turn,Rbv]at hg;subst hg;rw[iN]at h;cases h
 | .lt g p xs n k, t', ρ, o', hg, h => by
  simp only[Tm.turn,Sbc]at hg;obtain⟨k',hk,rfl⟩:=hg;rw[Lac]at h;simp only[Lac];split at h
  ·rename_i fS
   simp only[Rbt]at h;obtain⟨ds,h1,h⟩:=h;split at h
   ·rename_i hl
    obtain⟨o,h2,h3⟩:=kE hf hc hy hk h;exact⟨o,by rw[if_pos fS,h1,Rb1,if_pos hl];exact h2,h3⟩
   ·cases h
  ·rename_i fS
   obtain⟨o,h2,h3⟩:=kE hf hc hy hk h;exact⟨o,by rw[if_neg fS];exact h2,h3⟩
 | .call g c xs n os k, t', ρ, o', hg, h => by
  simp only[Tm.turn,Sbc]at hg;obtain⟨k',hk,rfl⟩:=hg;rw[sN]at h;simp only[sN];split at h
  ·rename_i fS
   simp only[Rbt]at h;obtain⟨ds,h1,h⟩:=h;split at h
   ·rename_i hl
    obtain⟨o,h2,h3⟩:=kE hf hc hy hk h;exact⟨o,by rw[if_pos fS,h1,Rb1,if_pos hl];exact h2,h3⟩
   ·cases h
  ·rename_i fS
   obtain⟨o,h2,h3⟩:=kE hf hc hy hk h;exact⟨o,by rw[if_neg fS];exact h2,h3⟩
 | .ite c t e, t', ρ, o', hg, h => by
  simp only[Tm.turn,Rbt,Sbc]at hg;obtain⟨t1,ht,e1,he,rfl⟩:=hg;rw[Daq]at h;simp only[Daq];split at h
  ·exact kE hf hc hy ht h
  ·exact kE hf hc hy he h
  ·cases h
 | .bind i t k, t', ρ, o', hg, h => by
  simp only[Tm.turn]at hg
  cases hiy:Kak i out with
  | true =>
   rw[hiy,cond_true]at hg
   cases hn:t.no jy with
   |false=>rw[hn]at hg;cases hg
   | true =>
    rw[hn,cond_true,Sbc]at hg;obtain⟨k',hk,rfl⟩:=hg;simp only[pI,Rbt]at h;obtain⟨o1,h1,h2⟩:=h;simp only[pI,h1,Rb1];split at h2
    ·rename_i um
     rw[if_pos um];exact kE hf hc hy hk h2
    ·rename_i um
     rw[if_neg um];obtain rfl:=Sbs h2;exact⟨o1,rfl,.inr ⟨uK hn h1,rfl⟩⟩
  | false =>
   rw[hiy,cond_false]at hg;simp only[Rbt,Sbc]at hg;obtain⟨t1,ht,k',hk,rfl⟩:=hg;have dk:out≠.yield i:=fun e=>by rw[Par.2 e]at hiy;cases hiy
   simp only[pI,Rbt]at h;obtain⟨o1',h1,h2⟩:=h;obtain⟨o1,h3,h4⟩:=kE hf hc hy ht h1;simp only[pI,h3,Rb1]
   rcases h4 with ⟨h5,h6,h7⟩|⟨h5,h6⟩
   ·rw[if_neg (by rw[h6];exact dk)]at h2
    obtain rfl:=Sbs h2;have:o1.kind≠.yield i:=fun e=>by rw[e,hy]at h5;cases h5
    rw[if_neg this];exact⟨o1,rfl,.inl ⟨h5,h6,h7⟩⟩
   ·subst h6
    split at h2
    ·rename_i um
     rw[if_pos um];exact kE hf hc hy hk h2
    ·rename_i um
     rw[if_neg um];obtain rfl:=Sbs h2;exact⟨_,rfl,.inr ⟨h5,rfl⟩⟩
 | .loop init b, t', ρ, o', hg, h => by
  simp only[Tm.turn]at hg
  cases hic:Raq out with
  | true =>
   rw[hic,cond_true]at hg
   cases hn:b.no jy with
   |false=>rw[hn]at hg;cases hg
   | true =>
    rw[hn,cond_true,Rbv]at hg;subst hg;exact⟨o',h,.inr ⟨uK (t:=.loop init b) (f:=jy) hn h,rfl⟩⟩
  | false =>
   rw[hic,cond_false,Sbc]at hg;obtain⟨b',hb,rfl⟩:=hg;have dk:out≠.cont:=fun e=>by rw[Tao.2 e]at hic;cases hic
   rw[Lad]at h;simp only[Lad]
   refine Yal (C:=fun vs o'=>∃ o,Lc cf b ρ vs=some o/\((jy o.kind=true/\o'.kind=out/\∃ r,f o.ext=some r/\Ec cf r o.env=some o')\/(jy o.kind=false/\o'=o)))
    (fun vs o1' h1 hk=>?_) (fun vs o1' o2 h1 hk h2 vg=>?_) h
   ·obtain⟨o1,h3,h4⟩:=kE hf hc hy hb h1
    rcases h4 with ⟨h5,h6,h7⟩|⟨h5,h6⟩
    ·have:o1.kind≠.cont:=fun e=>by rw[e,hc]at h5;cases h5
     exact⟨o1,by rw[Yam,h3,Rb1,if_neg this],.inl ⟨h5,h6,h7⟩⟩
    ·subst h6
     exact⟨o1',by rw[Yam,h3,Rb1,if_neg hk],.inr ⟨h5,rfl⟩⟩
   ·obtain⟨o1,h3,h4⟩:=kE hf hc hy hb h1
    rcases h4 with ⟨h5,h6,h7⟩|⟨h5,h6⟩
    ·exact absurd (h6.symm.trans hk) dk
    ·subst h6
     obtain⟨o,h8,h9⟩:=h2;exact⟨o,by rw[Yam,h3,Rb1,if_pos hk];exact h8,h9⟩
end
def xQ (σ:Nat->Option aP)(N:Nat):Prop:=∀ k c,σ k=some c->bT N c=true
def vO (N:Nat)(ρ gx:List D):Prop:=∀ x,aZ N x=true->x.val gx=x.val ρ
theorem vO.ext {N:Nat}{ρ:List D}(h:N<=ρ.length)(e:List D):vO N ρ (ρ++e):=fun x hx=>pG hx h
section
variable {n:Nat} {F:bE} {σ:Nat->Option aP} {ρ gx:List D} {a:Act} {w:World} {G:Gh} {N:Nat}
theorem vO.gOn (h:vO N ρ gx){g:Option (aJ×Bool)}(hg:nN N g=true):Go.Proofs.YtgpamlpecmldfaaGreat.Rf.gOn gx g=Go.Proofs.YtgpamlpecmldfaaGreat.Rf.gOn ρ g:=by
 cases g with
 |none=>rfl
 | some z =>
  obtain⟨x,w⟩:=z;simp only[nN]at hg;simp only[Go.Proofs.YtgpamlpecmldfaaGreat.Rf.gOn,h x hg]
theorem vO.path (h:vO N ρ gx){p:List (aJ×Nat×Nat)}(hp:(p.all fun x=>aZ N x.1)=true):bA gx p=bA ρ p:=by
 unfold bA;apply List.map_congr_left;intro x hx;rw[Sbp]at hp;unfold jY;rw[h x.1 (hp x hx)]
mutual
theorem aB.same (h:vO N ρ gx):∀ (l:aO) (v:Value),l.inScope N=true->aB σ ρ G w l v->aB σ gx G w l v
 |.dead,_,_,hl=>by simpa[aB] using hl
 | .sc x, v, hs, hl => by
  simp only[aO.inScope]at hs;simp only[aB,h x hs]at hl ⊢;exact hl
 | .su g x, v, hs, hl => by
  simp only[aO.inScope,Rbu]at hs;have hg:Go.Proofs.YtgpamlpecmldfaaGreat.Rf.gOn gx (some g)=Go.Proofs.YtgpamlpecmldfaaGreat.Rf.gOn ρ (some g):=h.gOn (by obtain⟨y,b⟩:=g;exact hs.2);simp only[aB,h x hs.1,hg]at hl ⊢;exact hl
 |.ex r,v,_,hl=>by simpa[aB] using hl
 | .sn deps p nie x, v, hs, hl => by
  simp only[aO.inScope,Rbu]at hs;simp only[aB,h x hs.1]at hl ⊢;refine⟨hl.1,fun hv=>?_⟩;obtain⟨h1,h2,h3⟩:=hl.2 hv;refine⟨h1,h2,?_⟩
  cases p with
  |no=>trivial
  |view=>exact h3
  | suf sz lo =>
   simp only[Baf,jY]at h3 ⊢;rw[h lo hs.2];exact h3
  | path p =>
   simp only[Baf]at h3 ⊢;rw[h.path hs.2];exact h3
 |.px b off,v,_,hl=>by simpa[aB] using hl
 | .pe l sz i off, v, hs, hl => by
  simp only[aO.inScope,Rbu]at hs;simp only[aB,h i hs.2]at hl ⊢;obtain⟨a,n,c,k,iv,h1,h2⟩:=hl;exact⟨a,n,c,k,iv,aB.same h l _ hs.1 h1,h2⟩
 | .rp deps sz x, v, hs, hl => by
  simp only[aO.inScope]at hs;simp only[aB,h x hs]at hl ⊢;exact hl
 |.pn,v,_,hl=>by simpa[aB] using hl
 | .clo f fW, v, hs, hl => by
  simp only[aO.inScope]at hs;simp only[aB]at hl ⊢;obtain⟨vs,h1,h2⟩:=hl;exact⟨vs,h1,aG.same h fW vs hs h2⟩
theorem aG.same (h:vO N ρ gx):∀ (ls:List aO) (vs:List Value),bB N ls=true->aG σ ρ G w ls vs->aG σ gx G w ls vs
 |[],vs,_,hl=>by simpa[aG] using hl
 | l :: ls, vs, hs, hl => by
  simp only[bB,Rbu]at hs;simp only[aG]at hl ⊢;obtain⟨u,us,e,h1,h2⟩:=hl;exact⟨u,us,e,aB.same h l u hs.1 h1,aG.same h ls us hs.2 h2⟩
end
theorem gU.same (h:vO N ρ gx):∀ (ts:List (Bool×List aO)) (us:List Value),(ts.all fun v=>bB N v.2)=true->gU σ ρ G w ts us->gU σ gx G w ts us
 |[],_,_,ht=>ht
 | (a, ls) :: r, us, hs, ht => by
  simp only[List.all_cons,Rbu]at hs;obtain⟨u,ee,vs,e,h1,h2,h3⟩:=ht;exact⟨u,ee,vs,e,aG.same h ls vs hs.1 h1,h2,gU.same h r ee hs.2 h3⟩
theorem bV.same (h:vO N ρ gx){v:SV}{u:Value}(hs:vW N v=true)(hv:bV σ ρ G w v u):bV σ gx G w v u:=by
 cases v with
 |dead=>trivial
 |one l=>exact aB.same h l u hs hv
 |agg ls=>obtain⟨vs,e,h1⟩:=hv;exact⟨vs,e,aG.same h ls vs hs h1⟩
 |tup ts=>obtain⟨us,e,h1⟩:=hv;exact⟨us,e,gU.same h ts us hs h1⟩
theorem lQ:∀ {ls:List aO} {j:Nat} {l:aO},bB N ls=true->ls[j]?=some l->l.inScope N=true
 |[],j,l,_,h=>by simp at h
 | m :: ls, 0, l, hs, h => by
  simp only[bB,Rbu]at hs;simp only[Rb2,Rbv]at h;rw[<- h];exact hs.1
 | m :: ls, j + 1, l, hs, h => by
  simp only[bB,Rbu]at hs;exact lQ hs.2 (by simpa using h)
theorem R.same (h:R n F σ ρ a w G)(hs:xQ σ N)(hv:vO N ρ gx):R n F σ gx a w G:=by
 refine⟨h.tmps,h.defers,fun k c hk=>?_,h.frame,h.rng⟩;have kv:=hs k c hk
 cases c with
 | slot g v =>
  simp only[bT,Rbu]at kv;obtain⟨t,e,h1⟩:=h.cont k _ hk;exact⟨t,e,fun hg=>(h1 (by rw[<- hv.gOn kv.1];exact hg)).same hv kv.2⟩
 | box ro ls =>
  simp only[bT]at kv;obtain⟨b,e,h1,h2,h3⟩:=h.cont k _ hk;refine⟨b,e,h1,h2,fun j l hj=>?_⟩;obtain⟨v,h4,h5,h6⟩:=h3 j l hj;exact⟨v,h4,h5,aB.same hv l v (lQ kv hj) h6⟩
 | root x m b9 st =>
  simp only[bT]at kv;obtain⟨r,e,h0,h1⟩:=h.cont k _ hk;refine⟨r,e,h0,?_⟩
  cases st with
  |live=>simp only[bP]at h1 ⊢;rw[hv x kv];exact h1
  |frozen=>simp only[bP]at h1 ⊢;rw[hv x kv];exact h1
  |gone=>trivial
  |fwd r'=>exact h1
theorem R.ext (h:R n F σ ρ a w G)(hs:xQ σ N)(hn:N<=ρ.length)(e:List D):R n F σ (ρ++e) a w G:=h.same hs (.ext hn e)
theorem dG {M:Nat}(h:N<=M){x:aJ}(hx:aZ N x=true):aZ M x=true:=by
 cases x with
 |c d=>rfl
 |v i=>simp only[aZ,Sb5]at hx ⊢;omega
theorem Fai {M:Nat}(h:N<=M){p:Pth}(hx:zU N p=true):zU M p=true:=by
 cases p with
 |no=>rfl
 |view=>rfl
 |suf sz lo=>exact dG h hx
 | path p =>
  simp only[zU,Sbp]at hx ⊢;exact fun x hm=>dG h (hx x hm)
mutual
theorem nK {M:Nat}(h:N<=M):∀ (l:aO),l.inScope N=true->l.inScope M=true
 |.dead,_=>rfl
 |.sc x,hs=>by simp only[aO.inScope]at hs ⊢;exact dG h hs
 |.su g x,hs=>by simp only[aO.inScope,Rbu]at hs ⊢;exact⟨dG h hs.1,dG h hs.2⟩
 |.ex r,_=>rfl
 |.sn deps p nie x,hs=>by simp only[aO.inScope,Rbu]at hs ⊢;exact⟨dG h hs.1,Fai h hs.2⟩
 |.px b off,_=>rfl
 |.pe l sz i off,hs=>by simp only[aO.inScope,Rbu]at hs ⊢;exact⟨nK h l hs.1,dG h hs.2⟩
 |.rp deps sz x,hs=>by simp only[aO.inScope]at hs ⊢;exact dG h hs
 |.pn,_=>rfl
 |.clo f fW,hs=>by simp only[aO.inScope]at hs ⊢;exact gL h fW hs
theorem gL {M:Nat}(h:N<=M):∀ (ls:List aO),bB N ls=true->bB M ls=true
 |[],_=>rfl
 |l::ls,hs=>by simp only[bB,Rbu]at hs ⊢;exact⟨nK h l hs.1,gL h ls hs.2⟩
end
theorem vF {M:Nat}(h:N<=M){c:aP}(hs:bT N c=true):bT M c=true:=by
 cases c with
 | slot g v =>
  simp only[bT,Rbu]at hs ⊢;refine⟨uW hs.1 h,?_⟩
  cases v with
  |dead=>rfl
  |one l=>exact nK h l hs.2
  |agg ls=>exact gL h ls hs.2
  | tup ts =>
   have h2:=hs.2;simp only[vW,Sbp]at h2 ⊢;exact fun x hx=>gL h x.2 (h2 x hx)
 |box ro ls=>exact gL h ls hs
 |root x m b9 st=>exact dG h hs
theorem xQ.mono {M:Nat}(hs:xQ σ N)(h:N<=M):xQ σ M:=fun k c hk=>vF h (hs k c hk)
theorem xQ.upds {M:Nat}(hs:xQ σ N)(h:N<=M){u:List (Nat×aP)}(hu:u.all (fun x=>bT M x.2)=true):xQ (upds σ u) M:=by
 intro k c hk
 rcases nW u σ k c hk with h1|⟨-,h1⟩
 ·rw[Sbp]at hu
  exact hu _ h1
 ·exact vF h (hs k c h1)
end
end Go.Proofs.YtgpamlpecmldfaaGreat.Rf
