/- Terms for the program's functions, and that they are right: part 4 of 9. -/
import Derived.Test.YtdpfilpckndhcaaGreatDoorRf3
import Derived.Laws.MakeOwn
open Array renaming getElem?_eq_getElem → Rb0, length_toList → Tbg, ext' → Ubh
open Bool renaming and_eq_true → Qbq, not_eq_true' → Rbe
open List renaming length_append → Qbs, mem_append_left → Qbv, mem_append_right → Qby, getElem?_eq_getElem → Qbz, replicate → Qb0, append_assoc → Qb1, mem_cons_of_mem → Qb2, getElem?_cons_zero → Qb4, mem_singleton → Qb6, mem_cons_self → Qb7, length_take → Qb9, mem_of_getElem? → Rba, getElem?_append_right → Rbb, getElem?_append_left → Rbc, length_map → Rbf, all_eq_true → Rbg, map_cons → Rbh, append_nil → Rbm, map_nil → Rbq, getElem?_map → Rbu, map_congr_left → Sb7, ext_getElem? → Tb5
open Nat renaming le_refl → Qbw, add_assoc → Rbi, lt_or_ge → Rbj, beq_eq → Rbv, add_zero → Rby, add_sub_cancel_left → Rb1, blt_eq → Rb6, ble_eq → Rb8, blt → Sbj, le_succ → Tbp, le_add_right → Tb6
open Option renaming bind_eq_some_iff → Qbp, bind_some → Qb3, map_eq_some_iff → Qb8, isNone_iff_eq_none → Tbh
set_option linter.unusedSimpArgs false
set_option linter.unusedVariables false
set_option linter.unnecessarySimpa false
set_option linter.unusedSectionVars false
namespace Go.Proofs.YtdpfilpckndhcaaGreatDoor.Rf
set_option linter.unusedVariables false
set_option linter.unusedSimpArgs false
def Xab (fzl:List Nat)(mvY:Option Nat)(nsz:Nat)(src:Option (Nat×List Nat×Nat))(nr M:Nat)(s:Nat)(p:List Nat):Ow :=
 if s∈fzl then .frz else if mvY=some s then (match p with
  |k::t=>Aa1 nr M ((nsz+k)::t)
  |[]=>.frz) else
 match src with
 |some (r,pq,mr)=>if s=r then (if pq <+: p then Aa1 nr M (p.drop pq.length) else Aa1 r mr p) else .slc s p
 |none=>.slc s p
section
variable {P:Program} {E:Env} {F:bU} {n:Nat} {σ:Nat->Option aU} {ρ:List D} {a:Act} {w w':World} {G G':Gh} {g:Option (aM×Bool)} {o:Oper} {cf:Nat->List D->Option (List D)} {Q:Exit->Act->World->Prop} {next:Act->World->Prop}
structure XOk (σ:Nat->Option aU) (ρ:List D) (G:Gh) (w:World) (v:Value) (ra:List (List D)) (sz m:Nat) (updX:List (Nat×aU)) (src:Option (Nat×List Nat×Nat)) (A:Option Addr) (b:Addr) (n cap:Nat) (vs:Nat->Nat->Value):Prop where
 side:Side w v ra sz A b n cap vs
 base:(A=some b/\b.spot=none)\/(A=none/\cap=0)
 own:A=some b->∃ r pq mr,src=some (r,pq,mr)/\G.own b.block=.slc r pq
 all:A=some b->∀ k,k<cap*sz->∃ u,w.cell? (b.add k)=some u/\w.frozen? (b.add k)=false
 ch:∀ i row,ra[i]?=some row->∀ j d,row[j]?=some d->∃ r pq mr,src=some (r,pq,mr)/\Rp G.own w r (pq++[i*sz+j]) (m-1) (vs i j) d
 m:1<=m
 upd:(src=none/\updX=[])\/∃ r pq mr X k,src=some (r,pq,mr)/\σ (kR r)=some (.root X mr k .live) /\
  ((pq=[]/\updX=[(kR r,.root (.c .hole) 0 0 .gone)])\/(∃ X',updX=[(kR r,.root X' mr (k+1) .live)]/\Upd pq (X.val ρ) .hole (X'.val ρ)/\Cae G.own w r [] (G.hdr r) pq v/\pq.length<mr))
theorem Fbb (hR:R E.ntmps F σ ρ a w G)(hd:gM E.ntmps o){nb nr:Nat}(hf:Eae σ nb nr){fl:Bool}{vx vy v:Value}{ra rb:List (List D)}{sz m dy M:Nat}{updX updY:List (Nat×aU)}{src:Option (Nat×List Nat×Nat)}{ry fzl:List Nat}{mvY:Option Nat}
  {A By:Option Addr} {b by':Addr} {n n' cap capy:Nat} {vs vsy:Nat->Nat->Value}
  (hX:XOk σ ρ G w vx ra sz m updX src A b n cap vs) (hY:YOk σ G w fl vy rb sz dy updY ry fzl mvY)
  (hYs:Side w vy rb sz By by' n' capy vsy) (hYc:∀ i row,rb[i]?=some row->∀ j d,row[j]?=some d->ChY G w fzl mvY dy (vsy i j) d (i*sz+j))
  {w1:World} {A':Option Addr} {cb:Addr} {cap':Nat} {grow:Bool} (hA:Mbs w w1 G A n n' cap sz (uB vs n sz) (uB vsy n' sz) v A' cb cap' grow)
  (hsc:fl=true->∀ r∈ra++rb,∀ d∈r,d.isSc=true) (hM1:1<=M) (hM:fl=false->M<=m/\M<=dy)
  (hdisj:∀ r pq mr,src=some (r,pq,mr)->r∉ry\/fl=true) {y:aM} (hy:y.val ρ=.rows sz (ra++rb)) :
  ∃ G',R E.ntmps F (upds σ (fB o none (.one (.ex nr))++((kR nr,.root y M 0 .live)::updX++updY))) ρ (a.put o.dst v) w1 G':=by
 obtain⟨M,rfl⟩:∃ M',M=M'+1:=⟨M-1,by omega⟩
 have hnrσ:σ (kR nr)=none:=hf.nr nr (Qbw _) (by unfold dM;omega)
 have hslt:∀ b,G.own b≠.frz->b<w.heap.size:=fun b hb=>by
  rcases Rbj b w.heap.size with h|h
  ·exact h
  ·exact absurd (hR.frame.fresh b h) hb
 have hsrcY:∀ r pq mr,src=some (r,pq,mr)->r∉fzl/\mvY≠some r:=by
  intro r pq mr e
  rcases hdisj r pq mr e with h|h
  ·exact⟨fun hh=>h (hY.fz r hh).1,fun hh=>h (hY.mv r hh).1⟩
  ·obtain⟨-,h2,h3⟩:=hY.flat h
   rw[h2,h3]
   simp
 have hsrcσ:∀ r pq mr,src=some (r,pq,mr)->∃ X k,σ (kR r)=some (.root X mr k .live)/\∃ c,(kR r,c)∈updX:=by
  intro r pq mr e
  rcases hX.upd with ⟨h1,-⟩|⟨r',pq',mr',X,k,h1,h2,h3⟩
  ·rw[h1]at e;cases e
  ·rw[h1]at e
   obtain⟨rfl,rfl,rfl⟩:r'=r/\pq'=pq/\mr'=mr:=by injection e with e;injection e with e1 e;injection e with e2 e3;exact⟨e1,e2,e3⟩
   refine⟨X,k,h2,?_⟩
   rcases h3 with ⟨-,h3⟩|⟨X',h3,-⟩<;>exact⟨_,by rw[h3];exact List.mem_singleton.2 rfl⟩
 have hcbo:grow=false->A'≠none->∃ r pq mr,src=some (r,pq,mr)/\G.own cb.block=.slc r pq:=by
  intro hg hne
  rcases hA.base with ⟨h1,-⟩|⟨-,-,h2⟩|⟨-,h2⟩
  ·rw[hg]at h1;cases h1
  ·rcases hX.base with ⟨h3,h4⟩|⟨h3,-⟩
   ·rw[h2]at h3
    obtain rfl:=Option.some.inj h3
    exact hX.own h2
   ·rw[h2]at h3;cases h3
  ·exact absurd h2 hne
 have hheap:∀ b,b<w.heap.size->(∀ r pq mr,src=some (r,pq,mr)->G.own b≠.slc r pq)->w1.heap[b]?=w.heap[b]?:=by
  intro b' hlt hb'
  refine hA.heap b' hlt ?_
  cases hg:grow with
  |true=>exact .inl rfl
  | false =>
   by_cases hne:A'=none
   ·exact .inr (.inl hne)
   ·obtain⟨r,pq,mr,h1,h2⟩:=hcbo hg hne
    exact .inr (.inr fun e=>hb' r pq mr h1 (e▸h2))
 generalize hown:(fun b'=>if b'=w.heap.size then (if grow=true then Ow.slc nr [] else .frz) else oV (Xab fzl mvY (n*sz) src nr (M+1)) (G.own b'))=own'
 have hown':∀ b' s p,G.own b'=.slc s p->own' b'=Xab fzl mvY (n*sz) src nr (M+1) s p:=fun b' s p hb=>by
  have:=hslt b' (by rw[hb];simp)
  rw[<- hown]
  dsimp only
  rw[if_neg (by omega),hb]
  rfl
 have hz:∀ b',G.own b'=.frz->b'<w.heap.size->own' b'=.frz/\w1.heap[b']?=w.heap[b']?:=fun b' hb hlt=>by
  refine⟨?_,hheap b' hlt fun _ _ _ _=>by rw[hb];simp⟩
  rw[<- hown]
  dsimp only
  rw[if_neg (by omega),hb]
  rfl
 have hFfz:∀ s∈fzl,∀ p,Xab fzl mvY (n*sz) src nr (M+1) s p=.frz:=fun s hs p=>by
  unfold Xab;rw[if_pos hs]
 have hFsrc:∀ r pq mr,src=some (r,pq,mr)->∀ p,Xab fzl mvY (n*sz) src nr (M+1) r p=if pq <+: p then Aa1 nr (M+1) (p.drop pq.length) else Aa1 r mr p:=fun r pq mr e p=>by
  obtain⟨h1,h2⟩:=hsrcY r pq mr e
  unfold Xab
  rw[if_neg h1,if_neg h2,e]
  simp
 have hneY:∀ s,s∈ry->fl=false->∀ r pq mr,src=some (r,pq,mr)->s≠r:=fun s hs hfl r pq mr e h=>by
  rcases hdisj r pq mr e with h1|h1
  ·exact h1 (h▸hs)
  ·rw[hfl]at h1;cases h1
 have hold:∀ i row,ra[i]?=some row->∀ j d,row[j]?=some d->w1.cell? (cb.add (i*sz+j))=some (vs i j)/\Rp own' w1 nr [i*sz+j] M (vs i j) d:=by
  intro i row hi j d hj
  have hil:i<n:=by rw[<- hX.side.len];exact (List.getElem?_eq_some_iff.1 hi).1
  have hjl:j<sz:=by
   have:=(List.getElem?_eq_some_iff.1 hj).1
   rwa[hX.side.rows row (Rba hi)]at this
  refine⟨hA.cell _ _ (by rw[Rbc];exact Fak vs hil hjl;exact (List.getElem?_eq_some_iff.1 (Fak vs hil hjl)).1),?_⟩
  obtain⟨r,pq,mr,e,h1⟩:=hX.ch i row hi j d hj
  cases hfl:fl with
  |true=>exact .sc (h1.sc_inv (hsc hfl row (Qbv _ (Rba hi)) d (Rba hj)))
  | false =>
   obtain⟨h2,h3⟩:=hM hfl
   refine h1.move hz _ M (by omega) fun b' t hb=>⟨?_,hheap b' (hslt b' (by rw[hb];simp)) fun r' pq' mr' e' hh=>?_⟩
   ·rw[hown' b' _ _ hb,hFsrc r pq mr e,if_pos (by rw[Qb1];exact List.prefix_append _ _),Qb1,List.drop_left,Aa1]
    simp only[Qbs,List.length_singleton]
    by_cases ht:t.length<M
    ·rw[if_pos ht,if_pos (by omega)]
    ·rw[if_neg ht,if_neg (by omega)]
   ·rw[e]at e'
    obtain⟨rfl,rfl,rfl⟩:r=r'/\pq=pq'/\mr=mr':=by injection e' with e;injection e with e1 e;injection e with e2 e3;exact⟨e1,e2,e3⟩
    rw[hb]at hh
    injection hh with _ hh
    have:=congrArg List.length hh
    simp at this
 have hnew:∀ i row,rb[i]?=some row->∀ j d,row[j]?=some d->w1.cell? (cb.add ((n+i)*sz+j))=some (vsy i j)/\Rp own' w1 nr [(n+i)*sz+j] M (vsy i j) d:=by
  intro i row hi j d hj
  have hil:i<n':=by rw[<- hYs.len];exact (List.getElem?_eq_some_iff.1 hi).1
  have hjl:j<sz:=by
   have:=(List.getElem?_eq_some_iff.1 hj).1
   rwa[hYs.rows row (Rba hi)]at this
  have hidx:(n+i)*sz+j=n*sz+(i*sz+j):=by rw[Nat.add_mul];omega
  refine⟨hA.cell _ _ (by rw[hidx,Rbb (by rw[vR];omega),vR,Rb1];exact Fak vsy hil hjl),?_⟩
  have hd':fl=true->d.isSc=true:=fun hfl=>hsc hfl row (Qby _ (Rba hi)) d (Rba hj)
  rcases hYc i row hi j d hj with h1|⟨s,h1,h2,h3⟩|⟨h1,h2⟩
  ·exact .sc h1
  ·cases hfl:fl with
   |true=>exact .sc (h3.sc_inv (hd' hfl))
   | false =>
    obtain⟨h4,h5⟩:=hM hfl
    obtain⟨h6,-,h7⟩:=hY.mv s h1
    refine h3.move hz _ M (by omega) fun b' t hb=>⟨?_,hheap b' (hslt b' (by rw[hb];simp)) fun r' pq' mr' e' hh=>?_⟩
    ·rw[hown' b' _ _ hb]
     unfold Xab
     rw[if_neg h7,if_pos h1]
     simp only[List.singleton_append]
     rw[Aa1,hidx]
     simp only[List.length_cons]
     by_cases ht:t.length<M
     ·rw[if_pos ht,if_pos (by omega)]
     ·rw[if_neg ht,if_neg (by omega)]
    ·rw[hb]at hh
     injection hh with hh _
     exact hneY s h6 hfl r' pq' mr' e' hh
  ·cases hfl:fl with
   |true=>exact .sc (h2.sc_inv (hd' hfl))
   | false =>
    obtain⟨h4,h5⟩:=hM hfl
    obtain rfl:M=0:=by omega
    refine .fz (h2.mono' fun b' hb hlt=>?_)
    rcases hb with hb|⟨r',p',h6,hb⟩
    ·exact hz b' hb hlt
    ·refine⟨by rw[hown' b' _ _ hb,hFfz r' h6],hheap b' hlt fun r'' pq' mr' e' hh=>?_⟩
     rw[hb]at hh
     injection hh with hh _
     exact hneY r' (hY.fz r' h6).1 hfl r'' pq' mr' e' hh
 have hmem:∀ {s:Nat} {c:aU},(kR s,c)∈(kR nr,aU.root y (M+1) 0 .live)::updX++updY ->
   (s=nr/\c=.root y (M+1) 0 .live) \/
   (∃ pq mr X k,src=some (s,pq,mr)/\σ (kR s)=some (.root X mr k .live)/\(c=.root (.c .hole) 0 0 .gone\/∃ X',c=.root X' mr (k+1) .live/\Upd pq (X.val ρ) .hole (X'.val ρ)/\Cae G.own w s [] (G.hdr s) pq vx/\pq.length<mr)) \/
   (mvY=some s/\s∈ry/\c=.root (.c .hole) 0 0 .gone) \/
   (s∈fzl/\s∈ry/\∃ x m v,c=.root x m v .frozen/\σ (kR s)=some (.root x m v .live)):=by
  intro s c hc
  rcases List.mem_append.1 hc with hc|hc
  ·rcases List.mem_cons.1 hc with hc|hc
   ·obtain⟨e1,e2⟩:=Prod.mk.inj hc
    exact .inl ⟨gD e1,e2⟩
   ·rcases hX.upd with ⟨-,h2⟩|⟨r,pq,mr,X,k,h1,h2,h3⟩
    ·rw[h2]at hc;simp at hc
    ·rcases h3 with ⟨h4,h5⟩|⟨X',h5,h6⟩
     ·rw[h5]at hc
      simp only[Qb6,Prod.mk.injEq]at hc
      obtain⟨e1,e2⟩:=hc
      obtain rfl:=gD e1
      exact .inr (.inl ⟨pq,mr,X,k,h1,h2,.inl e2⟩)
     ·rw[h5]at hc
      simp only[Qb6,Prod.mk.injEq]at hc
      obtain⟨e1,e2⟩:=hc
      obtain rfl:=gD e1
      exact .inr (.inl ⟨pq,mr,X,k,h1,h2,.inr ⟨X',e2,h6⟩⟩)
  ·obtain⟨s',e1,h1,h2⟩:=hY.upd _ _ hc
   obtain rfl:=gD e1
   rcases h2 with ⟨h2,h3,-⟩|⟨h2,x,m,ver,h3,h4⟩
   ·exact .inr (.inr (.inl ⟨h2,h1,h3⟩))
   ·exact .inr (.inr (.inr ⟨h2,h1,x,m,ver,h3,h4⟩))
 have hnr:∀ r,(σ (kR r)).isSome->r≠nr:=fun r hr e=>by rw[e,hnrσ]at hr;cases hr
 have hfzfl:∀ s,s∈fzl->fl=false:=fun s hs=>by
  cases hfl:fl with
  |false=>rfl
  |true=>rw[(hY.flat hfl).2.1]at hs;simp at hs
 refine⟨{ G with own:=own',hdr:=fun r=>if r=nr then v else G.hdr r },hR.own hd (f:=Xab fzl mvY (n*sz) src nr (M+1)) (wr:=fun b'=>b'=cb.block/\grow=false/\A'≠none) ?_ ?_ ?_ ?_ ?_ ?_ ?_ ?_ ?_ ?_ ?_ rfl ?_ ?_⟩
 ·intro k c hc
  rcases List.mem_append.1 hc with hc|hc
  ·rcases List.mem_cons.1 hc with hc|hc
   ·exact⟨nr,(Prod.mk.inj hc).1⟩
   ·rcases hX.upd with ⟨-,h2⟩|⟨r,pq,mr,X,k',h1,h2,h3⟩
    ·rw[h2]at hc;simp at hc
    ·rcases h3 with ⟨h4,h5⟩|⟨X',h5,h6⟩<;>(rw[h5]at hc;simp only[Qb6,Prod.mk.injEq]at hc;exact⟨r,hc.1⟩)
  ·obtain⟨s',e1,-⟩:=hY.upd _ _ hc
   exact⟨s',e1⟩
 ·intro b' hlt
  show own' b'=_
  rw[<- hown]
  dsimp only
  rw[if_neg (by omega)]
 ·intro b' hb
  rw[hA.size]at hb
  show own' b'=.frz
  rw[<- hown]
  dsimp only
  by_cases e:b'=w.heap.size
  ·rw[if_pos e]
   cases hg:grow with
   |true=>rw[hg]at hb;simp at hb;omega
   |false=>simp
  ·rw[if_neg e,hR.frame.fresh b' (by split at hb<;>omega)];rfl
 ·exact⟨hA.os.1,hA.os.2.1,hA.os.2.2,by rw[hA.size];omega⟩
 ·intro b' hb
  show own' b'=.frz\/∃ r p,own' b'=.slc r p/\_
  rw[<- hown]
  dsimp only
  by_cases e:b'=w.heap.size
  ·rw[if_pos e]
   cases hg:grow with
   |true=>exact .inr ⟨nr,[],by simp,hnrσ⟩
   |false=>exact .inl (by simp)
  ·rw[if_neg e,hR.frame.fresh b' hb];exact .inl rfl
 ·intro b' hlt hnw
  refine hA.heap b' hlt ?_
  cases hg:grow with
  |true=>exact .inl rfl
  | false =>
   by_cases hne:A'=none
   ·exact .inr (.inl hne)
   ·exact .inr (.inr fun e=>hnw ⟨e,hg,hne⟩)
 ·rintro b' ⟨rfl,hg,hne⟩
  obtain⟨r,pq,mr,h1,h2⟩:=hcbo hg hne
  obtain⟨X,k,-,c,hc⟩:=hsrcσ r pq mr h1
  exact⟨r,pq,h2,c,Qbv _ (Qb2 _ hc)⟩
 ·intro b' s p hb hnot
  have h1:s∉fzl:=fun hs=>by
   rcases (hY.fz s hs).2 with ⟨c,hc⟩|⟨x,m,ver,h⟩
   ·exact hnot c (Qby _ hc)
   ·exact (hR.root h).2 b' p hb
  have h2:mvY≠some s:=fun hs=>by
   obtain⟨c,hc⟩:=(hY.mv s hs).2.1
   exact hnot c (Qby _ hc)
  unfold Xab
  rw[if_neg h1,if_neg h2]
  cases hsrc:src with
  |none=>rfl
  | some x =>
   obtain⟨r,pq,mr⟩:=x
   dsimp only
   rw[if_neg]
   intro e
   obtain⟨X,k,-,c,hc⟩:=hsrcσ r pq mr hsrc
   exact hnot c (Qbv _ (Qb2 _ (e▸hc)))
 ·intro s c hc _
  rcases hmem hc with ⟨rfl,rfl⟩|⟨pq,mr,X,k,h1,h2,h3⟩|⟨h1,h2,rfl⟩|⟨h1,h2,x,m',ver,rfl,h4⟩
  ·exact .inl ⟨hnrσ,_,_,_,_,rfl⟩
  ·rcases h3 with rfl|⟨X',rfl,-⟩
   ·exact .inr (.inr (.inl ⟨_,_,_,_,rfl,by simp,by simp⟩))
   ·exact .inr (.inl ⟨_,_,_,_,_,h2,rfl⟩)
  ·exact .inr (.inr (.inl ⟨_,_,_,_,rfl,by simp,by simp⟩))
  ·refine .inr (.inr (.inr ⟨x,m',ver,h4,rfl,fun b' p hb=>⟨?_,hheap b' (hslt b' (by rw[hb];simp)) fun r pq mr e hh=>?_⟩⟩))
   ·show own' b'=.frz
    rw[hown' b' _ _ hb,hFfz s h1]
   ·rw[hb]at hh
    injection hh with hh _
    exact hneY s h2 (hfzfl s h1) r pq mr e hh
 ·intro r0 x0 m0 k0 hfz s p q hF
  have hr0:=hnr r0 (by rw[hfz];rfl)
  have hcut:∀ R M' q',Aa1 R M' q'=.slc r0 q->R=r0:=by
   intro R M' q' h
   unfold Aa1 at h
   split at h
   ·injection h
   ·cases h
  unfold Xab at hF
  split at hF
  ·cases hF
  ·split at hF
   ·split at hF
    ·exact absurd (hcut _ _ _ hF).symm hr0
    ·cases hF
   ·split at hF
    ·rename_i _ r pq mr
     split at hF
     ·split at hF
      ·exact absurd (hcut _ _ _ hF).symm hr0
      ·have:=hcut _ _ _ hF
       subst this
       obtain⟨X,k,h,-⟩:=hsrcσ r pq mr rfl
       rw[h]at hfz
       injection hfz with e;injection e with _ _ _ e;cases e
     ·injection hF with h1 h2;exact⟨h1,h2⟩
    ·injection hF with h1 h2;exact⟨h1,h2⟩
 ·intro r hr
  show (if r=nr then _ else _)=_
  rw[if_neg (hnr r hr)]
 ·intro _ _
  simp only[dV,aB,if_true]
  refine⟨trivial,fI _ _ _ (.inr ⟨_,Qby _ (Qbv _ Qb7)⟩),by rw[hA.val];rfl⟩
 ·intro _ s c hc _
  rcases hmem hc with ⟨rfl,rfl⟩|⟨pq,mr,X,k,h1,h2,h3⟩|⟨h1,h2,rfl⟩|⟨h1,h2,x,m',ver,rfl,h4⟩
  ·refine⟨_,_,_,_,rfl,?_⟩
   simp only[dJ,if_true]
   rw[hy,hA.val]
   have hcase:∀ i row,(ra++rb)[i]?=some row->(i<n/\ra[i]?=some row)\/(n<=i/\rb[i-n]?=some row):=by
    intro i row hi
    by_cases hlt:i<ra.length
    ·rw[Rbc hlt]at hi
     exact .inl ⟨by rw[<- hX.side.len];exact hlt,hi⟩
    ·rw[Rbb (by omega),hX.side.len]at hi
     exact .inr ⟨by rw[<- hX.side.len];omega,hi⟩
   refine .sl _ cb (n+n') cap' sz _ (fun i j=>if i<n then vs i j else vsy (i-n) j) (by simp[hX.side.len,hYs.len]) hA.le hA.aval (fun row hr=>?_) (fun hsome=>⟨hA.spot,?_,fun k hk=>hA.all k hk⟩) (fun i row hi j d hj=>?_) (fun i row hi j d hj=>?_)
   ·rcases List.mem_append.1 hr with hr|hr
    ·exact hX.side.rows _ hr
    ·exact hYs.rows _ hr
   ·rcases hA.base with ⟨h1,-,h2⟩|⟨h1,-⟩|⟨-,h2⟩
    ·rw[<- hown]
     dsimp only
     rw[if_pos h2,if_pos h1]
    rotate_left
    ·rw[h2]at hsome;cases hsome
    ·obtain⟨r,pq,mr,h2,h3⟩:=hcbo h1 (by rw[hsome];simp)
     rw[hown' _ _ _ h3,hFsrc r pq mr h2,if_pos List.prefix_rfl]
     simp[Aa1]
   ·rcases hcase i row hi with ⟨h1,h2⟩|⟨h1,h2⟩
    ·rw[if_pos h1];exact (hold i row h2 j d hj).1
    ·rw[if_neg (by omega)]
     have:=(hnew _ row h2 j d hj).1
     rwa[show n+(i-n)=i by omega]at this
   ·rcases hcase i row hi with ⟨h1,h2⟩|⟨h1,h2⟩
    ·rw[if_pos h1];exact (hold i row h2 j d hj).2
    ·rw[if_neg (by omega)]
     have:=(hnew _ row h2 j d hj).2
     rwa[show n+(i-n)=i by omega]at this
  ·rcases h3 with rfl|⟨X',rfl,h4,h5,h6⟩
   ·exact⟨_,_,_,_,rfl,trivial⟩
   ·refine⟨_,_,_,_,rfl,?_⟩
    simp only[dJ]
    rw[if_neg (hnr s (by rw[h2];rfl))]
    have hr:=hR.root h2
    simp only[dJ]at hr
    have:=Rp.upd (own':=own') (w':=w1) (r:=s) (M':=mr) (full:=pq) hz (fun b' t hb ht=>⟨?_,hheap b' (hslt b' (by rw[hb];simp)) fun r' pq' mr' e' hh=>?_⟩) (by omega) (.hole _ (by rw[hX.side.val];rfl)) pq [] mr (G.hdr s) _ _ rfl (Qbw _) (by simpa using hr) h5 h4
    ·simpa using this
    ·rw[hown' b' _ _ hb,hFsrc s pq mr h1,if_neg ht]
     rfl
    ·rw[h1]at e'
     obtain⟨-,rfl,-⟩:s=r'/\pq=pq'/\mr=mr':=by injection e' with e;injection e with e1 e;injection e with e2 e3;exact⟨e1,e2,e3⟩
     rw[hb]at hh
     injection hh with _ hh
     exact ht (hh▸List.prefix_rfl)
  ·exact⟨_,_,_,_,rfl,trivial⟩
  ·refine⟨x,m',ver,.frozen,rfl,?_,fun b' p hb=>?_⟩
   ·have:=hR.root h4
    simp only[dJ]at this ⊢
    rw[if_neg (hnr s (by rw[h4];rfl))]
    refine this.rd.mono' fun b' hb hlt=>?_
    rcases hb with hb|⟨p,hb⟩
    ·exact hz b' hb hlt
    ·refine⟨by rw[hown' b' _ _ hb,hFfz s h1],hheap b' hlt fun r pq mr e hh=>?_⟩
     rw[hb]at hh
     injection hh with hh _
     exact hneY s h2 (hfzfl s h1) r pq mr e hh
   ·have hb':own' b'=.slc s p:=hb
    have hsn:=hnr s (by rw[h4];rfl)
    have hcut:∀ R M' q',R≠s->Aa1 R M' q'≠.slc s p:=by
     intro R M' q' hR' h
     unfold Aa1 at h
     split at h
     ·injection h with h _;exact hR' h
     ·cases h
    rcases Rbj b' w.heap.size with hlt|hge
    ·rw[<- hown]at hb'
     dsimp only at hb'
     rw[if_neg (by omega)]at hb'
     cases e:G.own b' with
     | slc s' p' =>
      rw[e]at hb'
      have hF:Xab fzl mvY (n*sz) src nr (M+1) s' p'=.slc s p:=hb'
      unfold Xab at hF
      split at hF
      ·cases hF
      ·rename_i hs'
       split at hF
       ·split at hF
        ·exact hcut _ _ _ hsn.symm hF
        ·cases hF
       ·split at hF
        ·rename_i _ r pq mr
         split at hF
         ·split at hF
          ·exact hcut _ _ _ hsn.symm hF
          ·exact hcut _ _ _ (hneY s h2 (hfzfl s h1) r pq mr rfl).symm hF
         ·injection hF with h5 _;exact hs' (h5▸h1)
        ·injection hF with h5 _;exact hs' (h5▸h1)
     |_=>rw[e]at hb';cases hb'
    ·rw[<- hown]at hb'
     dsimp only at hb'
     by_cases e:b'=w.heap.size
     ·rw[if_pos e]at hb'
      split at hb'
      ·injection hb' with h5 _;exact hsn h5.symm
      ·cases hb'
     ·rw[if_neg e,hR.frame.fresh b' hge]at hb'
      cases hb'
end
end Go.Proofs.YtdpfilpckndhcaaGreatDoor.Rf

namespace Go.Proofs.YtdpfilpckndhcaaGreatDoor.Rf
set_option linter.unusedVariables false
set_option linter.unusedSimpArgs false
section
variable {P:Program} {E:Env} {F:bU} {n:Nat} {σ:Nat->Option aU} {ρ:List D} {a:Act} {w w':World} {G G':Gh} {g:Option (aM×Bool)} {o:Oper} {cf:Nat->List D->Option (List D)} {Q:Exit->Act->World->Prop} {next:Act->World->Prop}
theorem Ibc {sz bytes:Nat}{fl:Bool}{x y:D}{ds:List D}(h:(aO.app sz bytes fl).run [x,y]=some ds) :
  ∃ ra rb,x=.rows sz ra/\y=.rows sz rb/\(fl=true->∀ r∈ra++rb,∀ d∈r,d.isSc=true)/\(ra.length+rb.length)*bytes<=dZ/\ds=[.rows sz (ra++rb)]:=by
 cases x<;>cases y<;>simp only[aO.run]at h<;>first|cases h|skip
 rename_i s1 ra s2 rb
 split at h
 ·rename_i h1
  obtain⟨rfl,rfl,h2,h3⟩:=h1
  simp only[Option.some.injEq]at h
  refine⟨ra,rb,rfl,rfl,fun hf=>?_,h3,h.symm⟩
  rw[hf]at h2
  simp only[Bool.not_true,Bool.false_or,Rbg]at h2
  exact fun r hr d hd=>h2 r hr d hd
 ·cases h
theorem XOk.ofRp {v:Value}{ra:List (List D)}{sz md r mr:Nat}{pq:List Nat}{updX:List (Nat×aU)}(h:Rp G.own w r pq md v (.rows sz ra))(h1:1<=md){X:aM}{k:Nat}(hk:σ (kR r)=some (.root X mr k .live))
  (hu:(pq=[]/\updX=[(kR r,.root (.c .hole) 0 0 .gone)])\/(∃ X',updX=[(kR r,.root X' mr (k+1) .live)]/\Upd pq (X.val ρ) .hole (X'.val ρ)/\Cae G.own w r [] (G.hdr r) pq v/\pq.length<mr)) :
  ∃ A b n cap vs,XOk σ ρ G w v ra sz md updX (some (r,pq,mr)) A b n cap vs:=by
 obtain⟨m',rfl⟩:∃ m',md=m'+1:=⟨md-1,by omega⟩
 obtain⟨A,b,n,c,vs,e1,e2,e3,e4,e5,e6,e7,e8⟩:=h.sl_inv
 refine⟨A,b,n,c,vs,⟨e1,e2,e3,e5,e7⟩,?_,fun hA=>⟨r,pq,mr,rfl,(e6 hA).2.1⟩,fun hA=>(e6 hA).2.2,fun i row hi j d hj=>⟨r,pq,mr,rfl,e8 i row hi j d hj⟩,h1,.inr ⟨r,pq,mr,X,k,rfl,hk,hu⟩⟩
 rcases e4 with e4|e4
 ·exact .inl ⟨e4,(e6 e4).1⟩
 ·exact .inr e4
theorem Ibd (hR:R E.ntmps F σ ρ a w G)(hd:gM E.ntmps o){nb nr nv:Nat}(hf:Eae σ nb nr){t tx e:TypeId}{ti:TI}{info:TypeInfo}{u u':TypeDesc}{x y:Operand}{args:Array Operand}{argTypes:Array TypeId}
  (ho:o.op=.call { callee:=.builtin .append,args,argTypes }) (hargs:args.toList=[x,y]) (hat:argTypes=#[t,tx]) (hu:P.underlying t=some (.slice e)) (f:dQ P e ti info u) (hx:P.underlying tx=some u') (hx':∃ e',u'=.slice e')
  (hb0:0<ti.bytes) (hs0:0<ti.size) {ys:SlR} (hys:Wa6 σ ρ G w ys (a.eval y)) {dy:Nat} {updY:List (Nat×aU)} {ry:List Nat} (hY:(Taz (Oaj ti.cells) ys).eval σ=some (dy,updY,ry))
  {sx:aM} {m:Nat} {pre:List Step} {updX:List (Nat×aU)} (hst:aQ cf ρ none nv (pre++[.prim (.app ti.size ti.bytes (Oaj ti.cells)) [sx,ys.x] 1]))
  (hXs:∀ ra,sx.val ρ=.rows ti.size ra->∃ src A b n cap vs,XOk σ ρ G w (a.eval x) ra ti.size m updX src A b n cap vs/\∀ r pq mr,src=some (r,pq,mr)->r∉ry\/Oaj ti.cells=true) :
  o.wp P a w (Nx E.ntmps F σ ρ (fB o none (.one (.ex nr))++((kR nr,.root (.v (nv+bT pre)) (bif Oaj ti.cells then big else min m dy) 0 .live)::updX++updY))) Q:=by
 obtain⟨-,hst2⟩:=aQ.append hst
 obtain⟨d,h1,h2⟩:=Dab hst2.1 (show gOn ρ none=true from rfl)
 simp only[Rbh,Rbq]at h1
 obtain⟨ra,rb,e1,e2,e3,e4,e5⟩:=Ibc h1
 simp only[List.cons.injEq,and_true]at e5
 obtain⟨src,A,b,n,cap,vs,hX,hdis⟩:=hXs ra e1
 obtain⟨fzl,mvY,hYo⟩:=Nbg hR hys e2 (fun hfl r hr d hd=>e3 hfl r (Qby _ hr) d hd) hY
 obtain⟨By,by',n',capy,vsy,hYs,hYb,hYc⟩:=hYo.side
 have hl1:(uB vs n ti.size).length=n*ti.size:=vR _ _ _
 have hl2:(uB vsy n' ti.size).length=n'*ti.size:=vR _ _ _
 have hc1:=Kas hX.side.rows hX.side.cell
 have hc2:=Kas hYs.rows hYs.cell
 rw[hX.side.len]at hc1
 rw[hYs.len]at hc2
 have hones:∀ u∈uB vsy n' ti.size,u.oneCell'=true:=by
  intro u hu
  obtain⟨k,hk⟩:=List.mem_iff_getElem?.1 hu
  obtain⟨k1,k2,k3,rfl⟩:=Lah hk
  have hr:rb[k / ti.size]?=some (rb[k / ti.size]'(by rw[hYs.len];exact k1)):=Qbz _
  have hrl:=hYs.rows _ (Rba hr)
  have hd':(rb[k / ti.size]'(by rw[hYs.len];exact k1))[k % ti.size]?=some _:=Qbz (by rw[hrl];exact k2)
  rcases hYc _ _ hr _ _ hd' with h|⟨_,_,_,h⟩|⟨_,h⟩
  ·exact h.one
  ·exact h.one
  ·exact h.one
 have hM1:1<=(bif Oaj ti.cells then big else min m dy):=by
  have:=hX.m
  have:=hYo.dy
  cases Oaj ti.cells with
  |true=>simp only[cond_true];unfold big;omega
  |false=>simp only[cond_false];omega
 have hM:Oaj ti.cells=false->(bif Oaj ti.cells then big else min m dy)<=m/\(bif Oaj ti.cells then big else min m dy)<=dy:=fun h=>by
  rw[h,cond_false];omega
 have hyv:(aM.v (nv+bT pre)).val ρ=.rows ti.size (ra++rb):=h2.trans e5
 obtain⟨v,w1,A',cb,cap',grow,hrun,hA⟩:=Ma3 (P:=P) (w:=w) (G:=G) (a:=a) (o:=o) ho hargs hat hu f hx hx' (A:=A) (n:=n) (cap:=cap) (n':=n') (b:=b) (olds:=uB vs n ti.size) (news:=uB vsy n' ti.size) hX.side.val hX.side.le hX.base hl1 hc1 hX.all hYs.val hYb hl2 hc2 hones hb0 hs0 (by rw[<- hX.side.len,<- hYs.len];exact e4)
 exact qF hrun (Fbb hR hd hf hX hYo hYs hYc hA e3 hM1 hM hdis hyv)
theorem Pab (hR:R E.ntmps F σ ρ a w G)(hd:gM E.ntmps o)(hti:yA P E.ti){nv nb nr:Nat}{mv mvs:Bool}(hf:Eae σ nb nr){args:Array Operand}{argTypes:Array TypeId}(ho:o.op=.call { callee:=.builtin .append,args,argTypes })
    {x y:Operand} (hargs:args.toList=[x,y]) {t ty:TypeId} {ti ei yi:TI} {e:Nat} (ht:argTypes[0]?=some t) (hty:argTypes[1]?=some ty) (hi:E.ti t=some ti) (he:ti.elem=some e) (hei:E.ti e=some ei) (hyi:E.ti ty=some yi)
    (hgd:(yi.elem.isSome&&Sbj 0 ei.size&&noG g&&Sbj 0 ei.bytes&&Nat.beq argTypes.size 2)=true) {lx ly:aW} (h1:(rdL E g t x).eval σ=some lx) (h2:(rdL E g ty y).eval σ=some ly) {res:dD}
    (h:(Mav nv nr mv mvs o ei lx ly).eval σ=some res) (hst:aQ cf ρ g nv res.lets):iP P E F σ ρ a w g o Q res.upd:=by
  simp only[Qbq,Rb6,Rbv]at hgd
  obtain⟨⟨⟨⟨hyel,hsz⟩,hg0⟩,hby⟩,hsize⟩:=hgd
  obtain rfl:=zA hg0
  refine⟨fun hg=>?_,fun hg=>by simp[gOn]at hg⟩
  have hat:argTypes=#[t,ty]:=by
    apply Ubh
    apply Tb5
    intro k
    match k with
    |0=>simpa using ht
    |1=>simpa using hty
    |k+2=>simp[hsize]
  obtain⟨i1,u1,f1⟩:=bB (hti.ok _ _ hi)
  obtain rfl:=uA f1 he
  obtain⟨i2,u2,f2⟩:=bB (hti.ok _ _ hei)
  obtain⟨i3,u3,f3⟩:=bB (hti.ok _ _ hyi)
  have hu3:=Ia0 f3 hyel
  have hlx:=gQ hR hg h1
  have hly:=gQ hR hg h2
  simp only[Mav,aA,Qbp]at h
  obtain⟨ys,h3,⟨dy,updY,ry⟩,h4,h⟩:=h
  have hys:=fF hR h3 hly
  have fin:∀ {sx:aM} {m:Nat} {pre:List Step} {updX:List (Nat×aU)},(Aag nv nr o ei ys dy updY sx m pre updX).eval σ=some res ->
      (aQ cf ρ none nv pre->∀ ra,sx.val ρ=.rows ei.size ra->∃ src A b n cap vs,XOk σ ρ G w (a.eval x) ra ei.size m updX src A b n cap vs/\∀ r pq mr,src=some (r,pq,mr)->r∉ry\/Oaj ei.cells=true) ->
      o.wp P a w (Nx E.ntmps F σ ρ res.upd) Q:=by
    intro sx m pre updX hfin hXs
    simp only[Aag,wP,aC,Option.some.injEq]at hfin
    subst hfin
    simp only[Gae]
    exact Ibd hR hd hf ho hargs hat f1.und f2 f3.und hu3 hby hsz hys h4 hst (hXs (aQ.append hst).1)
  dsimp only at h
  split at h
  · rename_i p z
    refine fin h fun _ ra hra=>?_
    simp only[aM.val,D.rows.injEq]at hra
    obtain⟨rfl,rfl⟩:=hra
    simp only[aB]at hlx
    have hv:=(hlx.2 (by simp)).2.1 trivial _ rfl
    exact⟨none,none,⟨0,0,none⟩,0,0,fun _ _=>undef,⟨⟨hv,rfl,Qbw _,by simp,by simp⟩,.inr ⟨rfl,rfl⟩,by simp,by simp,by simp,by decide,.inl ⟨rfl,rfl⟩⟩,by simp⟩
  · simp only[aA,Qbp]at h
    obtain⟨s,h5,h⟩:=h
    have hs:=fF hR h5 hlx
    split at h
    · rename_i r k m q hown
      simp only[aA,aL,Qbp]at h
      obtain⟨_,h6,h⟩:=h
      split at h6
      case isFalse=>cases h6
      rename_i hb6
      simp only[Qbq,Bool.or_eq_true,Rbe,Rb8]at hb6
      have hor:=hs.own
      unfold xZ at hor
      rw[hown]at hor
      obtain⟨-,⟨X,hk⟩,hor⟩:=hor
      have hdis:r∉ry\/Oaj ei.cells=true:=hb6.1.imp (fun h=>Ba0.1 h) id
      split at h
      · refine fin h fun _ ra hra=>?_
        obtain⟨-,hrp,-⟩:=hor
        simp only[bJ,Rbq,List.length_nil,Nat.sub_zero]at hrp
        rw[hra]at hrp
        obtain⟨A,b,n,cap,vs,hX⟩:=XOk.ofRp (ρ:=ρ) hrp hb6.2 hk (updX:=[(kR r,.root (.c .hole) 0 0 .gone)]) (.inl ⟨rfl,rfl⟩)
        exact ⟨_, A, b, n, cap, vs, hX, fun r' pq mr e => by obtain rfl : r = r' := by injection e with e; injection e
                                                             exact hdis⟩
      · rw[iR]at h
        split at h
        · refine fin h fun _ ra hra=>?_
          have hrp:Rp G.own w r [] m (a.eval x) (s.x.val ρ):=hor
          rw[hra]at hrp
          obtain⟨A,b,n,cap,vs,hX⟩:=XOk.ofRp (ρ:=ρ) hrp hb6.2 hk (updX:=[(kR r,.root (.c .hole) 0 0 .gone)]) (.inl ⟨rfl,rfl⟩)
          exact ⟨_, A, b, n, cap, vs, hX, fun r' pq mr e => by obtain rfl : r = r' := by injection e with e; injection e
                                                               exact hdis⟩
        · cases h
      · rename_i q hne
        simp only[aA,aL,Qbp,aV,Qb3]at h
        obtain⟨_,h7,h⟩:=h
        split at h7
        case isFalse=>cases h7
        rename_i hb7
        simp only[Qbq,Rb8,Rbe]at hb7
        rw[hk]at h
        dsimp only at h
        refine fin h fun hpre ra hra=>?_
        obtain⟨hqm,hrp,hnest⟩:=hor
        rw[hra]at hrp
        have hupd:=Dad hg q nv X (.c .hole) hpre
        obtain⟨A,b,n,cap,vs,hX⟩:=XOk.ofRp (ρ:=ρ) hrp (by omega) hk (.inr ⟨_,rfl,hupd,hnest,by simp[bJ];omega⟩)
        exact ⟨_, A, b, n, cap, vs, hX, fun r' pq mr e => by obtain rfl : r = r' := by injection e with e; injection e
                                                             exact hdis⟩
      · cases h
      · cases h
    · cases h
end
end Go.Proofs.YtdpfilpckndhcaaGreatDoor.Rf

namespace Go.Proofs.YtdpfilpckndhcaaGreatDoor.Rf
set_option linter.unusedVariables false
set_option linter.unusedSimpArgs false
section
variable {P:Program} {E:Env} {F:bU} {n:Nat} {σ:Nat->Option aU} {ρ:List D} {a:Act} {w w':World} {G G':Gh} {g:Option (aM×Bool)} {o:Oper} {cf:Nat->List D->Option (List D)} {Q:Exit->Act->World->Prop} {next:Act->World->Prop}
theorem Ja8:∀ {cs:List CK} {zs:List D},Ja9 cs=some zs->zs.length=cs.length/\∀ (j:Nat) (c:CK) (d:D),cs[j]?=some c->zs[j]?=some d->∀ (v:Value),zeroCell v c=true->∀ (own:Nat->Ow) (r:Nat) (p:List Nat) (m:Nat),Rp own w r p m v d
 | [], zs, h => by
  simp only[Ja9,Option.some.injEq]at h
  subst h
  simp
 | c :: cs, zs, h => by
  have main:∀ (d0:D),(Ja9 cs).map (d0::·)=some zs->(∀ v,zeroCell v c=true->∀ (own:Nat->Ow) (r:Nat) (p:List Nat) (m:Nat),Rp own w r p m v d0) ->
    zs.length=(c::cs).length/\∀ (j:Nat) (c':CK) (d:D),(c::cs)[j]?=some c'->zs[j]?=some d->∀ (v:Value),zeroCell v c'=true->∀ (own:Nat->Ow) (r:Nat) (p:List Nat) (m:Nat),Rp own w r p m v d:=by
   intro d0 h0 hd0
   simp only[Qb8]at h0
   obtain⟨zs',h1,rfl⟩:=h0
   obtain⟨h2,h3⟩:=Ja8 h1
   refine⟨by simp[h2],fun j c' d hc hd v hv own r p m=>?_⟩
   cases j with
   | zero =>
    simp only[Qb4,Option.some.injEq]at hc hd
    subst hc hd
    exact hd0 v hv own r p m
   |succ j=>exact h3 j c' d (by simpa using hc) (by simpa using hd) v hv own r p m
  have hz:∀ v,zeroCell v c=true->aB (fun _=>none) [] ⟨fun _=>.frz,fun _=>undef,fun _=>⟨0,0,none⟩⟩ w (gU c) v:=fun v hv=>Lav hv
  cases c with
  | sc z =>
   refine main z h fun v hv own r p m=>?_
   have:=hz v hv
   simp only[gU,aB,aM.val]at this
   exact .sc this
  | sl sz =>
   refine main (.rows sz []) h fun v hv own r p m=>?_
   have:=hz v hv
   simp only[gU,aB,aM.val]at this
   rw[(this.2 (by simp)).2.1 trivial sz rfl]
   exact Rp.nil
  |pn=>cases h
  |ot=>cases h
theorem Hay (hR:R E.ntmps F σ ρ a w G)(hd:gM E.ntmps o)(hti:yA P E.ti){nv nb nr:Nat}{mv mvs:Bool}(hf:Eae σ nb nr){t:TypeId}{l c:Operand}(ho:o.op=.makeSlice t l c){res:dD}
  (h:(tJ E mv mvs nv nb nr g o).eval σ=some res) (hst:aQ cf ρ g nv res.lets):iP P E F σ ρ a w g o Q res.upd:=by
 simp only[tJ,ho,aA,Qbp,tiR,bA,aL]at h
 obtain⟨st,h1,e,h2,ti,h3,_,h4,xl,h5,xc,h6,_,h7,zs,h8,h⟩:=h
 split at h4
 case isFalse=>cases h4
 rename_i hg0
 obtain rfl:=zA hg0
 split at h7
 case isFalse=>cases h7
 rename_i hb7
 simp only[Qbq,Rb6]at hb7
 obtain⟨⟨hxx,hsz⟩,hby⟩:=hb7
 obtain rfl:=aM.beq0_eq hxx
 obtain⟨info,u,f⟩:=bB (hti.ok _ _ h1)
 obtain rfl:=uA f h2
 obtain⟨info',u',f'⟩:=bB (hti.ok _ _ h3)
 simp only[wP,aC,Option.some.injEq]at h
 subst h
 simp only[Gae]
 refine⟨fun hg=>?_,fun hg=>by simp[gOn]at hg⟩
 obtain⟨d,hd1,hd2⟩:=iB hst hg
 have hl:=jU hR hg h5
 have hc:=jU hR hg h6
 simp only[Rbh,Rbq]at hd1
 generalize hxv:xl.val ρ=xv at hd1 hl hc
 cases xv<;>simp only[aO.run]at hd1<;>first|cases hd1|skip
 rename_i k len
 split at hd1
 case isFalse=>cases hd1
 rename_i hlen
 obtain⟨h0,hbound⟩:=hlen
 simp only[Option.some.injEq,List.cons.injEq,and_true]at hd1
 obtain⟨z,hz1,hz2,-,hz3⟩:=f'.zeros (σ:=σ) (ρ:=ρ) (G:=G) (w:=w)
 obtain⟨hzl,hzs⟩:=Ja8 (w:=pushB w (madeCells z.cells (len.toNat*info'.size)) e) h8
 have hcl:=f'.len
 have hzc:z.cells.size=ti.size:=by rw[<- Tbg,hz2.len,Rbf,hcl]
 have hlt:len.toNat*1<=len.toNat*ti.bytes:=Nat.mul_le_mul_left _ hby
 unfold dZ at hbound
 have hrun:(execOp a.eval o).run P w=.ok (.value (.slice (some ⟨w.heap.size,0,none⟩) len.toNat len.toNat)) (pushB w (madeCells z.cells (len.toNat*info'.size)) e):=by
  unfold execOp
  simp only[ho]
  refine gX ?_
  rw[hl.int_inv,hc.int_inv]
  have hb1:(info'.bytes:Int)*len<=281474976710656:=by
   rw[<- f'.bytes]
   have:((ti.bytes*len.toNat:Nat):Int)<=281474976710656:=by rw[Nat.mul_comm]at hbound;omega
   rw[Int.natCast_mul]at this
   rwa[show ((len.toNat:Nat):Int)=len by omega]at this
  exact run_make w t e info' z f.und f'.info_ hz1 k k len len h0 (Int.le_refl _) hb1 (by omega)
 have hnrσ:σ (kR nr)=none:=hf.nr nr (Qbw _) (by unfold dM;omega)
 have hnr:∀ r,(σ (kR r)).isSome->r≠nr:=fun r hr e=>by rw[e,hnrσ]at hr;cases hr
 have hslt:∀ b,G.own b≠.frz->b<w.heap.size:=fun b hb=>by
  rcases Rbj b w.heap.size with h|h
  ·exact h
  ·exact absurd (hR.frame.fresh b h) hb
 refine qF hrun ⟨{ G with own:=fun b=>if b=w.heap.size then .slc nr [] else G.own b,hdr:=fun r=>if r=nr then .slice (some ⟨w.heap.size,0,none⟩) len.toNat len.toNat else G.hdr r },?_⟩
 refine hR.own hd (wr:=fun _=>False) (f:=fun s p=>.slc s p) ?_ ?_ ?_ ?_ ?_ (fun b hlt _=>nI (by omega)) (fun _ h=>h.elim) (fun _ _ _ _ _=>rfl) ?_ (fun _ _ _ _ _ s p q h=>by injection h with h1 h2;exact⟨h1,h2⟩) ?_ rfl ?_ ?_
 ·intro k c hc
  simp only[Qb6,Prod.mk.injEq]at hc
  exact⟨nr,hc.1⟩
 ·intro b hlt
  show (if b=w.heap.size then Ow.slc nr [] else _)=_
  rw[if_neg (by omega)]
  cases hb:G.own b<;>rfl
 ·intro b hb
  rw[mJ]at hb
  show (if b=w.heap.size then Ow.slc nr [] else G.own b)=.frz
  rw[if_neg (by omega)]
  exact hR.frame.fresh b (by omega)
 ·exact⟨rfl,rfl,rfl,by rw[mJ];omega⟩
 ·intro b hb
  show (if b=w.heap.size then Ow.slc nr [] else G.own b)=.frz\/∃ r p,(if b=w.heap.size then Ow.slc nr [] else G.own b)=.slc r p/\_
  by_cases e:b=w.heap.size
  ·rw[if_pos e];exact .inr ⟨nr,[],rfl,hnrσ⟩
  ·rw[if_neg e];exact .inl (hR.frame.fresh b hb)
 ·intro s c hc _
  simp only[Qb6,Prod.mk.injEq]at hc
  obtain⟨e1,rfl⟩:=hc
  obtain rfl:=gD e1
  exact .inl ⟨hnrσ,_,_,_,_,rfl⟩
 ·intro r hr
  show (if r=nr then _ else _)=_
  rw[if_neg (hnr r hr)]
 ·intro _ _
  simp only[dV,aB,if_true]
  exact⟨trivial,fI _ _ _ (.inr ⟨_,Qby _ (List.mem_singleton.2 rfl)⟩),rfl⟩
 ·intro _ s c hc _
  simp only[Qb6,Prod.mk.injEq]at hc
  obtain⟨e1,rfl⟩:=hc
  obtain rfl:=gD e1
  refine⟨_,_,_,_,rfl,?_⟩
  simp only[dJ,if_true]
  rw[hd2,<- hd1]
  have hzz:zs.length=ti.size:=by rw[hzl,hcl]
  have hget:∀ k,k<len.toNat*ti.size->(madeCells z.cells (len.toNat*info'.size))[k]?=z.cells[k % ti.size]?:=by
   intro k hk
   unfold madeCells
   rw[Fbs _ (by omega) _ _ (by rw[<- f'.size];exact hk),hzc]
  have hidx:∀ i row,(Qb0 len.toNat zs)[i]?=some row->∀ j d,row[j]?=some d->i<len.toNat/\row=zs/\j<ti.size/\i*ti.size+j<len.toNat*ti.size/\(i*ti.size+j) % ti.size=j:=by
   intro i row hi j d hj
   rw[List.getElem?_replicate]at hi
   split at hi
   case isFalse=>cases hi
   rename_i hil
   obtain rfl:=Option.some.inj hi
   have hjl:j<ti.size:=by rw[<- hzz];exact (List.getElem?_eq_some_iff.1 hj).1
   have:=Nat.mul_le_mul_right ti.size (show i+1<=len.toNat by omega)
   rw[Nat.add_mul]at this
   exact⟨hil,rfl,hjl,by omega,by rw[Nat.mul_comm,Nat.mul_add_mod,Nat.mod_eq_of_lt hjl]⟩
  refine .sl _ ⟨w.heap.size,0,none⟩ len.toNat len.toNat zs.length _ (fun i j=>z.cells[j]!) (by simp) (Qbw _) (.inl rfl) (fun row hr=>?_) (fun _=>⟨rfl,by simp,fun k hk=>?_⟩) (fun i row hi j d hj=>?_) (fun i row hi j d hj=>?_)
  ·rw[List.eq_of_mem_replicate hr]
  ·rw[hzz]at hk
   rw[qX,yV,hget k hk]
   have hk2:k % ti.size<z.cells.size:=by rw[hzc];exact Nat.mod_lt _ hsz
   exact⟨_,Rb0 hk2,rfl⟩
  ·obtain⟨i1,rfl,i3,i4,i5⟩:=hidx i row hi j d hj
   rw[qX,hzz,hget _ i4,i5,getElem!_pos z.cells j (by omega),Rb0]
  ·obtain⟨i1,rfl,i3,i4,i5⟩:=hidx i row hi j d hj
   have hc':ti.cells[j]?=some ti.cells[j]:=Qbz (by omega)
   exact hzs j _ d hc' hj _ (hz3 j _ _ (by rw[getElem!_pos z.cells j (by omega),Rb0]) hc') _ _ _ _
theorem Ra5 (hR:R E.ntmps F σ ρ a w G)(hd:gM E.ntmps o)(hti:yA P E.ti){nv:Nat}{args:Array Operand}{argTypes:Array TypeId}(ho:o.op=.call { callee:=.builtin .clear,args,argTypes })
  {x:Operand} (hargs:args.toList=[x]) {t e:TypeId} {ti ei:TI} (ht:argTypes[0]?=some t) (hi:E.ti t=some ti) (he:ti.elem=some e) (hei:E.ti e=some ei) (hgd:(noG g&&Nat.beq argTypes.size 1)=true) {l:aW} (hl:(rdL E g t x).eval σ=some l) {res:dD}
  (h:(Raz nv o ei l).eval σ=some res) (hst:aQ cf ρ g nv res.lets):iP P E F σ ρ a w g o Q res.upd:=by
 simp only[Qbq,Rbv]at hgd
 obtain rfl:=zA hgd.1
 have hat:argTypes=#[t]:=by
  apply Ubh
  apply Tb5
  intro k
  match k with
  |0=>simpa using ht
  |k+1=>simp[hgd.2]
 simp only[Raz,aA,Qbp]at h
 obtain⟨s,h1,h⟩:=h
 split at h
 case h_2=>cases h
 rename_i r k m sz lo hown
 simp only[aA,aL,Qbp,aV,Qb3]at h
 obtain⟨_,h2,h⟩:=h
 split at h2
 case isFalse=>cases h2
 rename_i hb
 simp only[Qbq,Rbv,Rb8]at hb
 obtain⟨⟨rfl,hei1⟩,hm1⟩:=hb
 split at h
 case h_2=>cases h
 rename_i X m' ver hk
 simp only[aC,Option.some.injEq]at h
 subst h
 refine⟨fun hg=>?_,fun hg=>by simp[gOn]at hg⟩
 obtain⟨i1,u1,f1⟩:=bB (hti.ok _ _ hi)
 obtain rfl:=uA f1 he
 obtain⟨i2,u2,f2⟩:=bB (hti.ok _ _ hei)
 have hlx:=gQ hR hg hl
 have hsl:=fF hR h1 hlx
 have hor:=hsl.own
 unfold xZ at hor
 rw[hown]at hor
 obtain⟨-,⟨X0,hl0⟩,hsuf⟩:=hor
 rw[hk]at hl0
 obtain⟨rfl,rfl,rfl⟩:X=X0/\m'=m/\ver=k:=by
  injection hl0 with e;injection e with e1 e2 e3 e4;exact⟨e1,e2,e3⟩
 have hroot:=hR.root hk
 simp only[dJ]at hroot
 obtain⟨d,hd1,hd2⟩:=iB hst hg
 simp only[Rbh,Rbq]at hd1
 obtain⟨rs,ki,L,eX,eL,hL0,ed⟩:∃ rs ki L,X.val ρ=.rows 1 rs/\lo.val ρ=.int ki L/\0<=L/\d=.rows 1 (rs.take L.toNat++(rs.drop L.toNat).map fun r=>r.map fun _=>.hole):=by
  cases eX:X.val ρ<;>cases eL:lo.val ρ<;>rw[eX,eL]at hd1<;>simp only[aO.run]at hd1<;>first|cases hd1|skip
  split at hd1
  ·rename_i hc
   obtain⟨rfl,hc⟩:=hc
   simp only[Option.some.injEq,List.cons.injEq,and_true]at hd1
   exact⟨_,_,_,rfl,rfl,hc,hd1.symm⟩
  ·cases hd1
 have hidx:mO ρ lo=L.toNat:=by unfold mO;rw[eL]
 dsimp only at hsuf
 rw[hidx]at hsuf
 rw[eX]at hroot
 obtain⟨md,rfl⟩:∃ md,m'=md+1:=⟨m'-1,by omega⟩
 obtain⟨A,b,n,c,vs,j1,j2,j3,j4,j5,j6,j7,j8⟩:=hroot.sl_inv
 obtain⟨A',n',c',k1,k2,k3⟩:=hsuf
 rw[j1]at k1
 obtain⟨rfl,rfl,rfl⟩:A=A'/\n=n'/\c=c':=by injection k1 with a b c;exact⟨a,b,c⟩
 obtain⟨z,hz1,hz2,hz3,-⟩:=f2.zeros (σ:=σ) (ρ:=ρ) (G:=G) (w:=w)
 have hzl:z.cells.size=1:=by rw[<- Tbg,hz2.len,Rbf,f2.len,hei1]
 generalize hZ:(Builtin.zeroCells z.cells (n-L.toNat)).toList=Z
 have hZl:Z.length=n-L.toNat:=by rw[<- hZ];simp[Builtin.zeroCells,hzl]
 have hZ1:∀ u∈Z,u.oneCell'=true:=by
  intro u hu
  rw[<- hZ,Builtin.zeroCells,Array.mem_toList_iff,Array.mem_map]at hu
  obtain⟨i,hi,rfl⟩:=hu
  have hlt:i % z.cells.size<z.cells.size:=Nat.mod_lt _ (by omega)
  rw[getElem!_pos z.cells _ hlt]
  exact hz3 _ (Array.getElem_mem_toList hlt)
 have hop:∀ {v:Value} {w1:World},(Builtin.clear_ #[t] o.type #[a.eval x]).run P w=.ok v w1->(execOp a.eval o).run P w=.ok (.value v) w1:=by
  intro v w1 h
  refine oC ho (s:=Builtin.clear_ argTypes o.type (args.map a.eval)) (fun _=>rfl) ?_
  rw[Na8 hargs,Sao,hat]
  exact h
 rw[k3]at hop
 obtain⟨w',hrun,hw⟩:∃ w',(execOp a.eval o).run P w=.ok (.value (.tuple #[])) w'/\((n=L.toNat/\w'=w)\/(L.toNat<n/\A=some b/\w'=w.setCells b.block (b.off+L.toNat) Z)):=by
  rcases Rbj L.toNat n with hlt|hge
  ·obtain rfl:A=some b:=by
    rcases j4 with h|⟨-,h⟩
    ·exact h
    ·omega
   obtain⟨hsp,hob,hall⟩:=j6 rfl
   have hcells:∀ j,j<Z.length->∃ u,w.cell? ⟨b.block,b.off+L.toNat+j,none⟩=some u/\w.frozen? ⟨b.block,b.off+L.toNat+j,none⟩=false:=fun j hj=>by
    have:=hall (L.toNat+j) (by omega)
    rw[add_plain hsp,<- Rbi]at this
    exact this
   have hst:=run_storeCells_cells (P:=P) b.block (b.off+L.toNat) Z 0 w (fun j hj=>by obtain⟨u,h1,-⟩:=hcells j hj;rw[Rby,h1];rfl) (fun j hj=>by rw[Rby];exact (hcells j hj).choose_spec.2) hZ1
   refine⟨_,hop ?_,.inr ⟨hlt,rfl,rfl⟩⟩
   obtain⟨q,hq⟩:∃ q,n-L.toNat=q+1:=⟨n-L.toNat-1,by omega⟩
   rw[if_neg (by omega),hq]
   rw[hq]at hZ
   simp only[Option.map_some,Nat.mul_one,add_plain hsp]
   simp only[Rby]at hst
   simp[Builtin.clear_,run_underlying f1.und,nD f2.info_ hz1,hZ,hst]
  ·refine⟨w,hop ?_,.inl ⟨by omega,rfl⟩⟩
   have e0:n-L.toNat=0:=by omega
   rw[e0]
   simp only[Builtin.clear_]
   cases (if c=L.toNat then A else A.map (·.add (L.toNat*1)))<;>simp[run_underlying f1.und]
 have hrest:w'.os=w.os/\w'.tape=w.tape/\w'.output=w.output/\w.heap.size<=w'.heap.size:=by
  rcases hw with ⟨-,rfl⟩|⟨-,-,rfl⟩
  ·exact⟨rfl,rfl,rfl,Qbw _⟩
  ·obtain⟨q1,q2,q3⟩:=nC b.block Z (b.off+L.toNat) w
   exact⟨q1,q2,q3,by rw[setCells_size];exact Qbw _⟩
 have hsize:w'.heap.size=w.heap.size:=by
  rcases hw with ⟨-,rfl⟩|⟨-,-,rfl⟩
  ·rfl
  ·rw[setCells_size]
 have hheap:∀ b',¬ (A=some b/\b'=b.block)->w'.heap[b']?=w.heap[b']?:=by
  intro b' hb'
  rcases hw with ⟨-,rfl⟩|⟨-,hA,rfl⟩
  ·rfl
  ·exact fE _ _ _ _ _ fun e=>hb' ⟨hA,e⟩
 refine qF hrun ⟨G,?_⟩
 have hfin:=hR.own (o:=o) hd (g:=none) (sv:=.dead) (v:=.tuple #[]) (w':=w') (G':=G) (ur:=[(kR r,.root (.v nv) (md+1) (ver+1) .live)]) (f:=fun s p=>.slc s p) (wr:=fun b'=>A=some b/\b'=b.block)
  ?_ (fun b' _=>by cases hb:G.own b'<;>rfl) (fun b' hb=>hR.frame.fresh b' (by omega)) hrest (fun b' hb=>.inl (hR.frame.fresh b' hb)) (fun b' _ hb=>hheap b' hb) ?_ (fun _ _ _ _ _=>rfl) ?_ (fun _ _ _ _ _ s p q h=>by injection h with h1 h2;exact⟨h1,h2⟩) (fun _ _=>rfl) rfl (fun _ _=>trivial) ?_
 ·exact hfin
 ·intro k' c' hc
  exact⟨r,(Prod.mk.inj (List.mem_singleton.1 hc)).1⟩
 ·rintro b' ⟨hA,rfl⟩
  exact⟨r,[],(j6 hA).2.1,_,List.mem_singleton.2 rfl⟩
 ·intro s' c' hc _
  obtain⟨e1,rfl⟩:=Prod.mk.inj (List.mem_singleton.1 hc)
  obtain rfl:=gD e1
  exact .inr (.inl ⟨_,_,_,_,_,hk,rfl⟩)
 ·intro _ s' c' hc _
  obtain⟨e1,rfl⟩:=Prod.mk.inj (List.mem_singleton.1 hc)
  obtain rfl:=gD e1
  refine⟨_,_,_,_,rfl,?_⟩
  simp only[dJ]
  rw[hd2,ed,j1]
  have hcell':∀ k u,w.cell? (b.add k)=some u->A=some b->(k<L.toNat->w'.cell? (b.add k)=some u)/\(∃ u',w'.cell? (b.add k)=some u')/\w'.frozen? (b.add k)=w.frozen? (b.add k):=by
   intro k u hc hA
   obtain⟨hsp,hob,hall⟩:=j6 hA
   rcases hw with ⟨-,rfl⟩|⟨hlt,-,rfl⟩
   ·exact⟨fun _=>hc,⟨u,hc⟩,rfl⟩
   ·refine⟨fun hk=>?_,?_,World.frozen?_setCells _ _ _ _ _⟩
    ·rw[add_plain hsp]at hc ⊢
     rw[World.cell?_setCells_out _ _ _ _ _ (fun _ _=>.inl (by dsimp only;omega))]
     exact hc
    ·exact qI (fun _=>by rw[add_plain hsp]) (fun j hj=>by
      obtain⟨u',h1,-⟩:=hall (L.toNat+j) (by omega)
      rw[add_plain hsp,<- Rbi]at h1
      rw[h1];rfl) hc
  have hA':∀ i,i<n->A=some b:=fun i hi=>by
   rcases j4 with h|⟨-,h⟩
   ·exact h
   ·omega
  have hrow:∀ i row,(rs.take L.toNat++(rs.drop L.toNat).map fun r=>r.map fun _=>D.hole)[i]?=some row->(i<L.toNat/\rs[i]?=some row)\/(L.toNat<=i/\∃ row0,rs[i]?=some row0/\row=row0.map fun _=>D.hole):=by
   intro i row hi
   have hl1:(rs.take L.toNat).length=L.toNat:=by rw[Qb9];omega
   rcases Rbj i L.toNat with hlt|hge
   ·rw[Rbc (by omega),List.getElem?_take,if_pos hlt]at hi
    exact .inl ⟨hlt,hi⟩
   ·rw[Rbb (by omega),hl1,Rbu,Qb8]at hi
    obtain⟨row0,h1,rfl⟩:=hi
    rw[List.getElem?_drop,show L.toNat+(i-L.toNat)=i by omega]at h1
    exact .inr ⟨hge,row0,h1,rfl⟩
  refine .sl A b n c 1 _ (fun i j=>if i<L.toNat then vs i j else (w'.cell? (b.add (i*1+j))).getD undef) ?_ j3 j4 ?_ (fun hA=>?_) (fun i row hi j d hj=>?_) (fun i row hi j d hj=>?_)
  ·rw[Qbs,Qb9,Rbf,List.length_drop];omega
  ·intro row hr
   obtain⟨i,hi⟩:=List.mem_iff_getElem?.1 hr
   rcases hrow i row hi with ⟨-,h⟩|⟨-,row0,h,rfl⟩
   ·exact j5 row (Rba h)
   ·rw[Rbf];exact j5 row0 (Rba h)
  ·obtain⟨hsp,hob,hall⟩:=j6 hA
   refine⟨hsp,hob,fun k hk=>?_⟩
   obtain⟨u,hu,hf⟩:=hall k hk
   obtain⟨-,⟨u',h1⟩,h2⟩:=hcell' k u hu hA
   exact⟨u',h1,h2.trans hf⟩
  ·rcases hrow i row hi with ⟨hlt,h⟩|⟨hge,row0,h,rfl⟩
   ·rw[if_pos hlt]
    have hjl:j<1:=by rw[<- j5 row (Rba h)];exact (List.getElem?_eq_some_iff.1 hj).1
    exact (hcell' _ _ (j7 i row h j d hj) (hA' i (by rw[<- j2];exact (List.getElem?_eq_some_iff.1 h).1))).1 (by omega)
   ·rw[if_neg (by omega)]
    rw[Rbu,Qb8]at hj
    obtain⟨d0,hj,-⟩:=hj
    obtain⟨-,⟨u',h1⟩,-⟩:=hcell' _ _ (j7 i row0 h j d0 hj) (hA' i (by rw[<- j2];exact (List.getElem?_eq_some_iff.1 h).1))
    rw[h1];rfl
  ·rcases hrow i row hi with ⟨hlt,h⟩|⟨hge,row0,h,rfl⟩
   ·rw[if_pos hlt]
    have h1:=j8 i row h j d hj
    have:=h1.mono' (own':=G.own) (w':=w') (r':=s') (q:=[i*1+j]) (q':=[i*1+j]) (fun b' hb _=>⟨hb,hheap b' fun ⟨hA,e⟩=>by rw[e,(j6 hA).2.1]at hb;cases hb⟩) [] (by simp) (fun b' t' hb=>⟨hb,hheap b' fun ⟨hA,e⟩=>by rw[e,(j6 hA).2.1]at hb;injection hb with _ hb;simp at hb⟩)
    simpa using this
   ·rw[if_neg (by omega)]
    rw[Rbu,Qb8]at hj
    obtain⟨d0,hj,rfl⟩:=hj
    refine .hole _ ?_
    have hil:i<n:=by rw[<- j2];exact (List.getElem?_eq_some_iff.1 h).1
    have hA:=hA' i hil
    rcases hw with ⟨hn,-⟩|⟨hlt,-,rfl⟩
    ·omega
    ·obtain⟨hsp,hob,hall⟩:=j6 hA
     have hjl:j<1:=by rw[<- j5 row0 (Rba h)];exact (List.getElem?_eq_some_iff.1 hj).1
     have hkl:i-L.toNat<Z.length:=by omega
     have:=World.cell?_setCells_in b.block Z (b.off+L.toNat) w (fun j hj=>by obtain⟨u,h1,-⟩:=hall (L.toNat+j) (by omega);rw[add_plain hsp,<- Rbi]at h1;rw[h1];rfl) (i-L.toNat) hkl
     rw[show b.off+L.toNat+(i-L.toNat)=b.off+(i*1+j) by omega]at this
     rw[add_plain hsp,this]
     exact hZ1 _ (List.getElem_mem hkl)
end
end Go.Proofs.YtdpfilpckndhcaaGreatDoor.Rf

namespace Go.Proofs.YtdpfilpckndhcaaGreatDoor.Rf
set_option linter.unusedVariables false
set_option linter.unusedSimpArgs false
section
variable {P:Program} {E:Env} {F:bU} {n:Nat} {σ:Nat->Option aU} {ρ:List D} {a:Act} {w w':World} {G G':Gh} {g:Option (aM×Bool)} {o:Oper} {cf:Nat->List D->Option (List D)} {Q:Exit->Act->World->Prop} {next:Act->World->Prop}
theorem Hax (hR:R E.ntmps F σ ρ a w G)(hti:yA P E.ti){nv nb nr:Nat}{mv mvs:Bool}{t:TypeId}{x y:Operand}(ho:o.op=.store t x y){res:dD}
  (h:(tJ E mv mvs nv nb nr g o).eval σ=some res) (hst:aQ cf ρ g nv res.lets):iP P E F σ ρ a w g o Q res.upd:=by
 simp only[tJ,ho,aA,Qbp,tiR,bA]at h
 obtain⟨ti,h1,p,h2,sv,h3,h⟩:=h
 split at h
 case h_2=>cases h
 rename_i ls hls
 have hx:gOn ρ g=true->aB σ ρ G w p (a.eval x):=fun hg=>gQ hR hg h2
 have hy:gOn ρ g=true->dV σ ρ G w sv (a.eval y):=fun hg=>iC hR hg h3
 cases p with
 |px b off=>exact Jat hR hti ho h1 hx hy hls h
 |pe l sz i off=>exact Jau hR hti ho h1 hx hy hls h hst
 | _ =>
  simp only[Ean,aA,aL,Qbp,dF]at h
  obtain⟨_,_,h⟩:=h
  cases h
theorem Gay (hR:R E.ntmps F σ ρ a w G)(hd:gM E.ntmps o)(hti:yA P E.ti){nv nb nr:Nat}{mv mvs:Bool}(hf:Eae σ nb nr){res:dD}
  (h:(tJ E mv mvs nv nb nr g o).eval σ=some res) (hst:aQ cf ρ g nv res.lets)
  (hcall:∀ f args argTypes,o.op=.call { callee:=.value f,args,argTypes }->iP P E F σ ρ a w g o Q res.upd):iP P E F σ ρ a w g o Q res.upd:=by
 have h0:=h
 cases ho:o.op with
 | move x =>
  simp only[tJ,ho]at h
  exact Kan hR hd (.inl ho) h hst
 | assign x =>
  simp only[tJ,ho]at h
  exact Kan hR hd (.inr ho) h hst
 | pick c x y =>
  simp only[tJ,ho]at h
  exact Vay hR hd ho h hst
 |alloc e=>exact Ra7 hR hd hti hf ho h hst
 |box e x=>exact Xa0 hR hd hti hf ho h hst
 |build t parts=>exact Ra6 hR hd hti ho h hst
 |buildSlice t len parts=>exact xR hR hd hti (hf.nr nr (Qbw _) (by unfold dM;omega)) ho h hst
 | load t x =>
  simp only[tJ,ho,aA,Qbp,tiR,bA]at h
  obtain⟨ti,h1,p,h2,h⟩:=h
  exact Vaz hR hd hti ho h1 (fun hg=>gQ hR hg h2) h hst
 |store t x y=>exact Hax hR hti ho h hst
 | nilCheck x =>
  simp only[tJ,ho]at h
  exact Jav hR hd ho h hst
 | binOp op t x y ty =>
  by_cases h1:op=.eql
  ·subst h1
   simp only[tJ,ho]at h
   exact Ta3 hR hd hti ho rfl h hst
  ·by_cases h2:op=.neq
   ·subst h2
    simp only[tJ,ho]at h
    exact Ta3 hR hd hti ho rfl h hst
   ·have h':(do
      let a <- rdA E g t x
      let b <- rdA E g ty y
      wO o g nv (.bin op) [a,b]:RdM dD).eval σ=some res:=by
     simp only[tJ,ho]at h
     cases op<;>first|exact h|(exact absurd rfl h1)|(exact absurd rfl h2)
    simp only[aA,Qbp]at h'
    obtain⟨x',h3,y',h4,h5⟩:=h'
    exact Paa hR hd ho (fun hg=>jU hR hg h3) (fun hg=>jU hR hg h4) h5 hst
 | unOp op t x =>
  simp only[tJ,ho]at h
  exact Dbu hR hd ho h hst
 | convert src dst x =>
  simp only[tJ,ho,aA,Qbp,tiR,bA]at h
  obtain⟨s,h1,d,h2,h⟩:=h
  split at h
  ·rename_i k hk
   simp only[aA,Qbp,aL]at h
   obtain⟨_,h3,x',h4,h⟩:=h
   split at h3
   case isFalse=>cases h3
   rename_i hs
   exact Va0 hR hd hti ho h1 hs h2 hk h4 h hst
  ·rw[iR]at h
   split at h
   case isFalse=>cases h
   rename_i hdS
   rw[iR]at h
   split at h
   ·rename_i hsS
    simp only[aA,Qbp]at h
    obtain⟨x',h4,h⟩:=h
    exact Oa8 hR hd hti ho h1 hsS h2 hdS h4 h hst
   ·simp only[aA,Qbp,aL,bA]at h
    obtain⟨e,h3,ei,h4,_,h5,l,h6,r,h7,h⟩:=h
    split at h5
    case isFalse=>cases h5
    rename_i hk
    exact Va1 hR hd hti ho h1 h3 h4 hk h2 hdS h6 h7 h hst
 | makeFunc fn first caps =>
  cases fn with
  | func fn =>
   simp only[tJ,ho]at h
   exact Jaw hR hd ho h hst
  |_=>simp only[tJ,ho]at h;cases h
 |makeSlice t l c=>exact Hay hR hd hti hf ho h hst
 |slice t x lo hi mx=>exact Ra2 hR hd hti ho h hst
 | fieldAddr t x k =>
  simp only[tJ,ho,aA,Qbp,tiR,bA]at h
  obtain⟨ti,h1,h⟩:=h
  split at h
  case h_2=>cases h
  rename_i off ft hfl
  simp only[aA,Qbp,aL,bA]at h
  obtain⟨fi,h2,_,h3,p,h4,h⟩:=h
  split at h3
  case isFalse=>cases h3
  rename_i hpos
  exact Ha0 hR hd hti ho h1 hfl h2 (by simpa using hpos) (by simp only[aA,Qbp];exact⟨p,h4,h⟩) hst
 | field t x k =>
  simp only[tJ,ho,aA,Qbp,tiR,bA]at h
  obtain⟨ti,h1,h⟩:=h
  split at h
  case h_2=>cases h
  rename_i off ft hfl
  simp only[aA,Qbp,bA]at h
  obtain⟨fi,h2,sv,h3,h⟩:=h
  exact Ra4 hR hd hti ho h1 hfl h2 (by simp only[aA,Qbp];exact⟨sv,h3,h⟩) hst
 | indexAddr t x i =>
  simp only[tJ,ho,aA,Qbp,tiR,bA]at h
  obtain⟨ti,h1,e,h2,ei,h3,l,h4,s,h5,y,h6,u,h7,h⟩:=h
  exact Haz hR hd hti ho h1 h2 h3 (by simp only[aA,Qbp];exact⟨l,h4,s,h5,y,h6,u,h7,h⟩) hst
 | index t x i =>
  simp only[tJ,ho,aA,Qbp,tiR,bA]at h
  obtain⟨ti,h1,h⟩:=h
  exact Ra3 hR hd hti ho h1 (by simp only[aA,Qbp];exact h) hst
 | extract x i =>
  simp only[tJ,ho]at h
  exact Ma0 hR hd ho h hst
 | call c =>
  obtain⟨callee,args,argTypes⟩:=c
  cases callee with
  |value f=>exact hcall f args argTypes ho
  |invoke recv name=>simp only[tJ,ho]at h;cases h
  | builtin b =>
   simp only[tJ,ho]at h
   cases hargs:args.toList with
   | nil =>
    rw[hargs]at h
    cases b<;>first|(cases h;done)|skip
    all_goals
     simp only[aA,Qbp,bA]at h
     obtain⟨svs,h1,as,h2,h⟩:=h
     obtain⟨ls,h3,h4⟩:=h2
     first
     |exact jA hR hd (.inl ⟨rfl,rfl,rfl⟩) ho (by rw[hargs];exact h1) h3 h4 h hst
     |exact jA hR hd (.inr ⟨rfl,rfl,rfl⟩) ho (by rw[hargs];exact h1) h3 h4 h hst
   | cons x xs =>
    rw[hargs]at h
    cases xs with
    | nil =>
     cases b<;>first|(cases h;done)|skip
     ·simp only[aA,Qbp,bA,tiR,aL]at h
      obtain⟨t,h1,ti,h2,e,h3,ei,h4,_,h5,l,h6,h⟩:=h
      split at h5
      case isFalse=>cases h5
      rename_i hgd
      exact Ra5 hR hd hti ho hargs h1 h2 h3 h4 hgd h6 h hst
     ·simp only[aA,Qbp,bA,tiR]at h
      obtain⟨t,h1,ti,h2,h⟩:=h
      exact Xaz hR hd hti ho hargs h1 h2 (by simp only[aA,Qbp];exact h) hst
     all_goals
      simp only[aA,Qbp,bA]at h
      obtain⟨svs,h1,as,h2,h⟩:=h
      obtain⟨ls,h3,h4⟩:=h2
      first
      |exact jA hR hd (.inl ⟨rfl,rfl,rfl⟩) ho (by rw[hargs];exact h1) h3 h4 h hst
      |exact jA hR hd (.inr ⟨rfl,rfl,rfl⟩) ho (by rw[hargs];exact h1) h3 h4 h hst
    | cons y ys =>
     cases ys with
     | nil =>
      cases b<;>first|(cases h;done)|skip
      ·simp only[aA,Qbp,bA,tiR,aL]at h
       obtain⟨t,h1,ty,h2,ti,h3,e,h4,ei,h5,yi,h6,_,h7,lx,h8,ly,h9,h⟩:=h
       split at h7
       case isFalse=>cases h7
       rename_i hgd
       exact Pab hR hd hti hf ho hargs h1 h2 h3 h4 h5 h6 hgd h8 h9 h hst
      all_goals
       simp only[aA,Qbp,bA]at h
       obtain⟨svs,h1,as,h2,h⟩:=h
       obtain⟨ls,h3,h4⟩:=h2
       first
       |exact jA hR hd (.inl ⟨rfl,rfl,rfl⟩) ho (by rw[hargs];exact h1) h3 h4 h hst
       |exact jA hR hd (.inr ⟨rfl,rfl,rfl⟩) ho (by rw[hargs];exact h1) h3 h4 h hst
     | cons z zs =>
      cases b<;>first|(cases h;done)|skip
      all_goals
       simp only[aA,Qbp,bA]at h
       obtain⟨svs,h1,as,h2,h⟩:=h
       obtain⟨ls,h3,h4⟩:=h2
       first
       |exact jA hR hd (.inl ⟨rfl,rfl,rfl⟩) ho (by rw[hargs];exact h1) h3 h4 h hst
       |exact jA hR hd (.inr ⟨rfl,rfl,rfl⟩) ho (by rw[hargs];exact h1) h3 h4 h hst
 |_=>simp only[tJ,ho]at h;cases h
end
end Go.Proofs.YtdpfilpckndhcaaGreatDoor.Rf

namespace Go.Proofs.YtdpfilpckndhcaaGreatDoor.Rf
set_option linter.unusedVariables false
set_option linter.unusedSimpArgs false
theorem Tr.get_set {α:Type}:∀ (d:Nat) (t:Tr α) (n m:Nat) (x:Option α),(Tr.set d t n x).get m=if m=n then x else t.get m
 | 0, t, n, m, x => by
  simp only[Tr.set,Tr.get]
  by_cases h:m=n
  ·subst h;simp
  ·have:Nat.beq m n=false:=by
    cases e:Nat.beq m n with
    |false=>rfl
    |true=>simp only[Rbv]at e;exact absurd e h
   rw[this,cond_false,if_neg h]
 | d + 1, .over k y t, n, m, x => by
  simp only[Tr.set]
  by_cases h:m=n
  ·subst h;simp[Tr.get]
  ·have:Nat.beq m n=false:=by
    cases e:Nat.beq m n with
    |false=>rfl
    |true=>simp only[Rbv]at e;exact absurd e h
   rw[if_neg h]
   show (bif Nat.beq m n then x else _)=_
   rw[this,cond_false]
 | d + 1, .nil, n, m, x => by
  have ih:=fun t n m=>Tr.get_set (α:=α) d t n m x
  simp only[Tr.set]
  have b0:∀ k,Nat.beq k 0=decide (k=0):=fun k=>by cases k<;>simp[Nat.beq]
  have b1:∀ k,Nat.beq (k % 2) 1=decide (k % 2=1):=fun k=>by
   rcases Nat.mod_two_eq_zero_or_one k with h|h<;>rw[h]<;>rfl
  rw[b0,b1]
  by_cases h0:n=0
  ·simp only[h0,decide_true,cond_true,Tr.get]
   rw[b0,b1]
   by_cases hm:m=0
   ·simp[hm]
   ·simp[hm,Tr.get]
  ·by_cases h1:n % 2=1
   ·simp only[h0,decide_false,cond_false,h1,decide_true,cond_true,Tr.get]
    rw[b0,b1]
    by_cases hm:m=0
    ·subst hm;simp[Ne.symm h0]
    ·by_cases hm1:m % 2=1
     ·simp only[hm,decide_false,cond_false,hm1,decide_true,cond_true,ih,Tr.get]
      by_cases e:m=n
      ·rw[if_pos e,if_pos (by rw[e])]
      ·rw[if_neg e,if_neg (by omega)]
     ·have e:m≠n:=fun e=>hm1 (e▸h1)
      simp[hm,hm1,e,Tr.get]
   ·simp only[h0,decide_false,cond_false,h1,Tr.get]
    rw[b0,b1]
    by_cases hm:m=0
    ·subst hm;simp[Ne.symm h0]
    ·by_cases hm1:m % 2=1
     ·have e:m≠n:=fun e=>h1 (e▸hm1)
      simp[hm,hm1,e,Tr.get]
     ·simp only[hm,decide_false,cond_false,hm1,ih,Tr.get]
      by_cases e:m=n
      ·rw[if_pos e,if_pos (by rw[e])]
      ·rw[if_neg e,if_neg (by omega)]
 | d + 1, .node y l r, n, m, x => by
  have ih:=fun t n m=>Tr.get_set (α:=α) d t n m x
  simp only[Tr.set]
  have b0:∀ k,Nat.beq k 0=decide (k=0):=fun k=>by cases k<;>simp[Nat.beq]
  have b1:∀ k,Nat.beq (k % 2) 1=decide (k % 2=1):=fun k=>by
   rcases Nat.mod_two_eq_zero_or_one k with h|h<;>rw[h]<;>rfl
  rw[b0,b1]
  by_cases h0:n=0
  ·simp only[h0,decide_true,cond_true,Tr.get]
   rw[b0,b1]
   by_cases hm:m=0
   ·simp[hm]
   ·simp[hm,Tr.get]
  ·by_cases h1:n % 2=1
   ·simp only[h0,decide_false,cond_false,h1,decide_true,cond_true,Tr.get]
    rw[b0,b1]
    by_cases hm:m=0
    ·subst hm;simp[Ne.symm h0]
    ·by_cases hm1:m % 2=1
     ·simp only[hm,decide_false,cond_false,hm1,decide_true,cond_true,ih,Tr.get]
      by_cases e:m=n
      ·rw[if_pos e,if_pos (by rw[e])]
      ·rw[if_neg e,if_neg (by omega)]
     ·have e:m≠n:=fun e=>hm1 (e▸h1)
      simp[hm,hm1,e,Tr.get]
   ·simp only[h0,decide_false,cond_false,h1,Tr.get]
    rw[b0,b1]
    by_cases hm:m=0
    ·subst hm;simp[Ne.symm h0]
    ·by_cases hm1:m % 2=1
     ·have e:m≠n:=fun e=>h1 (e▸hm1)
      simp[hm,hm1,e,Tr.get]
     ·simp only[hm,decide_false,cond_false,hm1,ih,Tr.get]
      by_cases e:m=n
      ·rw[if_pos e,if_pos (by rw[e])]
      ·rw[if_neg e,if_neg (by omega)]
end Go.Proofs.YtdpfilpckndhcaaGreatDoor.Rf

namespace Go.Proofs.YtdpfilpckndhcaaGreatDoor.Rf
set_option linter.unusedVariables false
set_option linter.unusedSimpArgs false
section
variable {P:Program} {E:Env} {F:bU} {n:Nat} {σ:Nat->Option aU} {ρ:List D} {a:Act} {w w':World} {G G':Gh} {g:Option (aM×Bool)} {o:Oper}
def Ibu:Value->Option Bool
 |.bool b=>some b
 |_=>none
theorem Uar {x:aM}{want:Bool}{v:Value}(h:Sc v (x.val ρ)\/(v=undef/\x.val ρ=.undef)):gOn ρ (some (x,want))=(Ibu v==some want):=by
 have key:∀ d:D,x.val ρ=d->gOn ρ (some (x,want))=(match d with|.bool b=>b==want|_=>false):=by
  intro d hd
  simp only[gOn,hd]
  cases d<;>rfl
 rcases h with h|⟨rfl,h⟩
 ·rw[key _ rfl]
  generalize x.val ρ=d at h
  cases h with
  |int k n=>rfl
  |bool b=>cases b<;>cases want<;>rfl
  |str l=>rfl
 ·rw[key _ h]
  rfl
theorem Sag (hR:R E.ntmps F σ ρ a w G){ops:Array Oper}(hd:∀ o∈ops.toList,gM E.ntmps o)(h:(Ma5 ops.toList o).eval σ=some g):Region.wanted o (yielded ops a.tmps)=gOn ρ g:=by
 unfold Ma5 at h
 unfold Region.wanted
 split at h
 ·rename_i ho
  simp only[aC,Option.some.injEq]at h
  subst h
  simp[ho,gOn]
 ·rename_i j want ho
  simp only[ho]
  split at h
  ·rename_i d hj
   have hdn:d<E.ntmps:=by
    cases hoj:ops.toList[j]? with
    |none=>rw[hoj]at hj;cases hj
    | some oj =>
     rw[hoj,Qb3]at hj
     exact hd oj (Rba hoj) d hj
   have hy:yielded ops a.tmps j=Ibu (Cab E.ntmps a F.gh d):=by
    unfold yielded Cab
    have:(ops[j]?).bind (·.dst)=some d:=by rw[<- hj,Array.getElem?_toList]
    rw[this,Qb3,if_pos hdn]
    have hlt:d<a.tmps.size:=by rw[hR.tmps];exact hdn
    rw[Rb0 hlt,Array.getD_eq_getD_getElem?,Rb0 hlt,Option.getD_some]
    cases a.tmps[d]<;>rfl
   rw[hy]
   simp only[Abt]at h
   split at h
   ·rename_i x hk
    simp only[aC,Option.some.injEq]at h
    subst h
    have:=hR.slot hk rfl
    simp only[dV,aB]at this
    exact (Uar (.inl this)).symm
   ·rename_i g' x hk
    simp only[aC,Option.some.injEq]at h
    subst h
    have:=hR.slot hk rfl
    simp only[dV,aB]at this
    exact (Uar this.1).symm
   ·cases h
  ·cases h
end
end Go.Proofs.YtdpfilpckndhcaaGreatDoor.Rf

namespace Go.Proofs.YtdpfilpckndhcaaGreatDoor.Rf
set_option linter.unusedVariables false
set_option linter.unusedSimpArgs false
theorem uR {n:Nat}{ρ ext:List D}{x:aM}(h:bG n x=true)(hn:n<=ρ.length):x.val (ρ++ext)=x.val ρ:=by
 refine aM.val_append (n:=n) ?_
 cases x with
 | v i =>
  simp only[bG,Rb6]at h
  simp only[aM.ok]
  omega
 |c d=>trivial
theorem Jaf {n:Nat}{ρ ext:List D}{xs:List aM}(h:xs.all (bG n)=true)(hn:n<=ρ.length):xs.map (·.val (ρ++ext))=xs.map (·.val ρ):=by
 apply Sb7
 intro x hx
 rw[Rbg]at h
 exact uR (h x hx) hn
theorem Aau {n:Nat}{ρ ext:List D}{g:Option (aM×Bool)}(h:sH n g=true)(hn:n<=ρ.length):gOn (ρ++ext) g=gOn ρ g:=by
 cases g with
 |none=>rfl
 | some z =>
  obtain⟨x,w⟩:=z
  simp only[sH]at h
  simp only[gOn,uR h hn]
theorem Da8 {ρ ds ext:List D}{j:Nat}{d:D}(h:ds[j]?=some d):(aM.v (ρ.length+j)).val (ρ++ds++ext)=d:=by
 have hlt:=(List.getElem?_eq_some_iff.1 h).1
 simp only[aM.val,List.getD_eq_getElem?_getD]
 rw[Qb1,Rbb (by omega),Rbc (by omega),Rb1,h]
 rfl
theorem zN {n m:Nat}{g:Option (aM×Bool)}(h:sH n g=true)(hm:n<=m):sH m g=true:=by
 cases g with
 |none=>rfl
 | some z =>
  obtain⟨x,w⟩:=z
  cases x with
  |v i=>simp only[sH,bG,Rb6]at h ⊢;omega
  |c d=>rfl
section
variable {cf:Nat->List D->Option (List D)}
noncomputable def Ec {β:Type}(cf:Nat->List D->Option (List D))(t:Tm β)(ρ:List D):Option (Out β):=lim fun n=>runT cf n t ρ
noncomputable def Lc {β:Type}(cf:Nat->List D->Option (List D))(body:Tm β)(ρ vs:List D):Option (Out β):=lim fun n=>iter n (fun vs=>runT cf n body (ρ++vs)) vs
theorem Ibp {β:Type}(t:Tm β)(ρ:List D):Ram fun n=>runT cf n t ρ:=fun n _ h=>Ha5 (fun f _ _ h=>h) (Tbp n) t _ _ h
theorem Pbk {β:Type}(body:Tm β)(ρ vs:List D):Ram fun n=>iter n (fun vs=>runT cf n body (ρ++vs)) vs :=
 fun n _ h=>oZ (fun vs r hr=>Ibp body _ n r hr) (Tbp n) _ _ h
theorem Jan {β:Type}{t:Tm β}{ρ:List D}{o:Out β}:Ec cf t ρ=some o↔∃ n,runT cf n t ρ=some o:=iD (Ibp t ρ)
theorem gY {β:Type}(k:Kind)(xs:List aM)(e:β)(ρ:List D):Ec cf (.leaf k xs e) ρ=some ⟨k,xs,e,ρ⟩:=iE _
theorem jR {β:Type}(ρ:List D):Ec cf (.stuck:Tm β) ρ=none:=iE _
theorem Oaf {β:Type}(g:Option (aM×Bool))(p:aO)(xs:List aM)(n:Nat)(k:Tm β)(ρ:List D) :
  Ec cf (.lt g p xs n k) ρ=if gOn ρ g then (p.run (xs.map (·.val ρ))).bind fun ds=>if ds.length=n then Ec cf k (ρ++ds) else none
   else Ec cf k (ρ++Qb0 n .undef):=by
 unfold Ec
 simp only[runT]
 split
 ·cases p.run (xs.map (·.val ρ)) with
  |none=>exact iE _
  | some ds =>
   simp only[Qb3]
   split
   ·rfl
   ·exact iE _
 ·rfl
theorem xN {β:Type}(g:Option (aM×Bool))(f:Nat)(xs:List aM)(n:Nat)(olds:List aM)(k:Tm β)(ρ:List D) :
  Ec cf (.call g f xs n olds k) ρ=if gOn ρ g then (cf f (xs.map (·.val ρ))).bind fun ds=>if ds.length=n then Ec cf k (ρ++ds) else none
   else Ec cf k (ρ++(Qb0 (n-olds.length) .undef++olds.map (·.val ρ))):=by
 unfold Ec
 simp only[runT]
 split
 ·cases cf f (xs.map (·.val ρ)) with
  |none=>exact iE _
  | some ds =>
   simp only[Qb3]
   split
   ·rfl
   ·exact iE _
 ·rfl
theorem Gai {β:Type}(c:aM)(t e:Tm β)(ρ:List D) :
  Ec cf (.ite c t e) ρ=match c.val ρ with
   |.bool true=>Ec cf t ρ
   |.bool false=>Ec cf e ρ
   |_=>none:=by
 unfold Ec
 simp only[runT]
 cases c.val ρ with
 |bool b=>cases b<;>rfl
 |_=>exact iE _
theorem uT {β:Type}(i:Nat)(t k:Tm β)(ρ:List D) :
  Ec cf (.bind i t k) ρ=(Ec cf t ρ).bind fun o=>if o.kind=.yield i then Ec cf k (ρ++o.vals) else some o:=by
 unfold Ec
 simp only[runT]
 rw[Ga6 (a:=fun n=>runT cf n t ρ) (Ibp t ρ) (fun o=>by split;exact Ibp k _;exact fun _ _ h=>h)]
 congr 1
 funext o
 split
 ·rfl
 ·exact iE _
theorem Oag {β:Type}(init:List aM)(body:Tm β)(ρ:List D):Ec cf (.loop init body) ρ=Lc cf body ρ (init.map (·.val ρ)):=rfl
theorem Bbq {β:Type}(body:Tm β)(ρ vs:List D) :
  Lc cf body ρ vs=(Ec cf body (ρ++vs)).bind fun o=>if o.kind=.cont then Lc cf body ρ o.vals else some o:=by
 have hm:∀ vs,Ram fun n=>iter n (fun vs=>runT cf n body (ρ++vs)) vs:=fun vs=>Pbk body ρ vs
 unfold Lc
 have e:∀ vs r,(lim fun n=>iter n (fun vs=>runT cf n body (ρ++vs)) vs)=some r↔((Ec cf body (ρ++vs)).bind fun o=>if o.kind=.cont then (lim fun n=>iter n (fun vs=>runT cf n body (ρ++vs)) o.vals) else some o)=some r:=by
  intro vs r
  rw[iD (hm vs)]
  simp only[Qbp]
  constructor
  ·rintro⟨n,hn⟩
   cases n with
   |zero=>cases hn
   | succ n =>
    simp only[iter,Qbp]at hn
    obtain⟨o,ho,hr⟩:=hn
    refine⟨o,Jan.2 ⟨n+1,ho⟩,?_⟩
    split at hr
    ·rename_i hk
     rw[if_pos hk,iD (hm _)]
     exact⟨n+1,oZ (fun _ _ h=>h) (Tbp n) _ _ hr⟩
    ·rename_i hk
     rw[if_neg hk];exact hr
  ·rintro⟨o,ho,hr⟩
   obtain⟨n,hn⟩:=Jan.1 ho
   split at hr
   ·rename_i hk
    obtain⟨m,hm'⟩:=(iD (hm _)).1 hr
    refine⟨max n m+1,?_⟩
    simp only[iter,Qbp]
    refine⟨o,(Ibp body (ρ++vs)).le (by omega) hn,?_⟩
    rw[if_pos hk]
    exact oZ (fun vs r h=>(Ibp body (ρ++vs)).le (by omega) h) (by omega) _ _ hm'
   ·rename_i hk
    refine⟨n+1,?_⟩
    simp only[iter,Qbp]
    exact⟨o,Ibp body _ _ _ hn,by rw[if_neg hk];exact hr⟩
 exact Option.ext (e vs)
end
section
variable {cf:Nat->List D->Option (List D)}
theorem yF {g:Option (aM×Bool)}{k:Tm St}:∀ {lets:List Step} {ρ:List D} {o:Out St},sH ρ.length g=true->fP ρ.length lets=true->Ec cf (rF g k lets) ρ=some o ->
  ∃ ds,ds.length=bT lets/\Ec cf k (ρ++ds)=some o/\∀ ext,aQ cf (ρ++ds++ext) g ρ.length lets
 |[],ρ,o,_,_,h=>⟨[],rfl,by simpa[rF] using h,fun _=>trivial⟩
 | .prim p xs n :: r, ρ, o, hg, hs, h => by
  simp only[fP,Eaq,Qbq]at hs
  obtain⟨hxs,hs⟩:=hs
  simp only[rF,Oaf]at h
  have main:∀ ds:List D,ds.length=n->Ec cf (rF g k r) (ρ++ds)=some o->(∀ ext,Vae cf (ρ++ds++ext) g ρ.length (.prim p xs n)) ->
    ∃ ds,ds.length=bT (.prim p xs n::r)/\Ec cf k (ρ++ds)=some o/\∀ ext,aQ cf (ρ++ds++ext) g ρ.length (.prim p xs n::r):=by
   intro ds hl h1 h2
   obtain⟨es,h3,h4,h5⟩:=yF (lets:=r) (ρ:=ρ++ds) (zN hg (by simp)) (by simp only[Qbs,hl];exact hs) h1
   refine⟨ds++es,by rw[jD];simp[hl,h3,Step.n],by rw[<- Qb1];exact h4,fun ext=>⟨?_,?_⟩⟩
   ·have:=h2 (es++ext)
    simpa[Qb1] using this
   ·have:=h5 ext
    simp only[Qbs,hl]at this
    simpa[Qb1,Step.n] using this
  by_cases hgo:gOn ρ g=true
  ·rw[if_pos hgo]at h
   simp only[Qbp]at h
   obtain⟨ds,h1,h2⟩:=h
   split at h2
   case isFalse=>cases h2
   rename_i hl
   refine main ds hl h2 fun ext=>⟨fun _=>⟨ds,?_,hl,fun j d hj=>Da8 hj⟩,fun hoff=>?_⟩
   ·rw[Qb1,Jaf hxs (Qbw _)];exact h1
   ·rw[Qb1,Aau hg (Qbw _),hgo]at hoff;cases hoff
  ·rw[if_neg hgo]at h
   refine main (Qb0 n .undef) (by simp) h fun ext=>⟨fun hon=>?_,fun _ j hj=>Da8 (by simp[hj])⟩
   rw[Qb1,Aau hg (Qbw _)]at hon
   exact absurd hon hgo
 | .call f xs n olds :: r, ρ, o, hg, hs, h => by
  simp only[fP,Eaq,Qbq]at hs
  obtain⟨⟨⟨hxs,hos⟩,hle⟩,hs⟩:=hs
  simp only[Rb8]at hle
  simp only[rF,xN]at h
  have main:∀ ds:List D,ds.length=n->Ec cf (rF g k r) (ρ++ds)=some o->(∀ ext,Vae cf (ρ++ds++ext) g ρ.length (.call f xs n olds)) ->
    ∃ ds,ds.length=bT (.call f xs n olds::r)/\Ec cf k (ρ++ds)=some o/\∀ ext,aQ cf (ρ++ds++ext) g ρ.length (.call f xs n olds::r):=by
   intro ds hl h1 h2
   obtain⟨es,h3,h4,h5⟩:=yF (lets:=r) (ρ:=ρ++ds) (zN hg (by simp)) (by simp only[Qbs,hl];exact hs) h1
   refine⟨ds++es,by rw[jD];simp[hl,h3,Step.n],by rw[<- Qb1];exact h4,fun ext=>⟨?_,?_⟩⟩
   ·have:=h2 (es++ext)
    simpa[Qb1] using this
   ·have:=h5 ext
    simp only[Qbs,hl]at this
    simpa[Qb1,Step.n] using this
  by_cases hgo:gOn ρ g=true
  ·rw[if_pos hgo]at h
   simp only[Qbp]at h
   obtain⟨ds,h1,h2⟩:=h
   split at h2
   case isFalse=>cases h2
   rename_i hl
   refine main ds hl h2 fun ext=>⟨fun _=>⟨ds,?_,hl,fun j d hj=>Da8 hj⟩,fun hoff=>?_⟩
   ·rw[Qb1,Jaf hxs (Qbw _)];exact h1
   ·rw[Qb1,Aau hg (Qbw _),hgo]at hoff;cases hoff
  ·rw[if_neg hgo]at h
   refine main _ (by simp;omega) h fun ext=>⟨fun hon=>?_,fun _ j d hd=>?_⟩
   ·rw[Qb1,Aau hg (Qbw _)]at hon
    exact absurd hon hgo
   ·rw[Qb1,Jaf hos (Qbw _)]at hd
    exact Da8 hd
end
end Go.Proofs.YtdpfilpckndhcaaGreatDoor.Rf

namespace Go.Proofs.YtdpfilpckndhcaaGreatDoor.Rf
set_option linter.unusedVariables false
set_option linter.unusedSimpArgs false
theorem uU:∀ (u:List (Nat×aU)) (f g:Nat->Option aU) (k:Nat),f k=g k->upds f u k=upds g u k
 |[],f,g,k,h=>h
 | (k', c) :: r, f, g, k, h => by
  refine uU r _ _ k ?_
  unfold Ta8
  split
  ·rfl
  ·exact h
theorem Ma7:∀ (u:List (Nat×aU)) (s:St) (k:Nat),(s.puts u).tr.get k=upds s.tr.get u k
 |[],s,k=>rfl
 | (k', c) :: r, s, k => by
  rw[St.puts,Ma7 r _ k,upds]
  refine uU r _ _ k ?_
  simp only[St.put,Tr.get_set,Ta8]
theorem jK:∀ (u:List (Nat×aU)) (s:St),(s.puts u).nv=s.nv/\(s.puts u).nb=s.nb/\(s.puts u).nr=s.nr/\(s.puts u).nt=s.nt
 |[],s=>⟨rfl,rfl,rfl,rfl⟩
 |(k',c)::r,s=>by rw[St.puts];exact jK r _
theorem Gas:∀ (u:List (Nat×aU)) (f g:Nat->Option aU) (k:Nat),(∃ c,(k,c)∈u)->upds f u k=upds g u k
 |[],f,g,k,h=>by obtain⟨c,hc⟩:=h;simp at hc
 | (k', c) :: r, f, g, k, h => by
  by_cases hk:k=k'
  ·exact uU r _ _ k (by unfold Ta8;rw[if_pos hk,if_pos hk])
  ·refine Gas r _ _ k ?_
   obtain⟨c',hc'⟩:=h
   rcases List.mem_cons.1 hc' with h1|h1
   ·exact absurd (Prod.mk.inj h1).1 hk
   ·exact⟨c',h1⟩
theorem Aav {t:Tr aU}:∀ {n r:Nat},qE t r n=true->∀ j,r<=j->j<r+n->t.get (kR j)=none
 |0,r,_,j,h1,h2=>by omega
 | n + 1, r, h, j, h1, h2 => by
  simp only[qE,Qbq,Tbh]at h
  by_cases e:j=r
  ·rw[e];exact h.1
  ·exact Aav h.2 j (by omega) (by omega)
theorem Rap:∀ (u:List (Nat×aU)) (n:Nat),n<=Ibs u n
 |[],n=>Qbw _
 | x :: r, n => by
  refine Nat.le_trans ?_ (Rap r _)
  cases h:(Nat.beq (x.1 % 3) 2&&Nat.ble n (x.1 / 3)) with
  |false=>exact Qbw _
  |true=>simp only[Qbq,Rb8]at h;rw[cond_true];omega
theorem Tau:∀ {u:List (Nat×aU)} {n:Nat} {x:Nat×aU},x∈u->x.1 % 3=2->x.1 / 3<Ibs u n
 | y :: r, n, x, hx, h2 => by
  rcases List.mem_cons.1 hx with rfl|hx
  ·refine Nat.lt_of_lt_of_le ?_ (Rap r _)
   have e:Nat.beq (x.1 % 3) 2=true:=by rw[h2];rfl
   rw[e,Bool.true_and]
   cases h:Nat.ble n (x.1 / 3) with
   |true=>rw[cond_true];omega
   | false =>
    rw[cond_false]
    exact Nat.lt_of_not_le fun e=>by rw[<- Rb8,h]at e;cases e
  ·exact Tau (u:=r) hx h2
theorem Xal:∀ {u:List (Nat×aU)} {n m:Nat},n<=m->(∀ x∈u,x.1 % 3=2->x.1 / 3<m)->Ibs u n<=m
 |[],n,m,h,_=>h
 | y :: r, n, m, h, hu => by
  show Ibs r (bif Nat.beq (y.1 % 3) 2&&Nat.ble n (y.1 / 3) then y.1 / 3+1 else n)<=m
  refine Xal (u:=r) ?_ fun x hx=>hu x (Qb2 _ hx)
  cases hc:(Nat.beq (y.1 % 3) 2&&Nat.ble n (y.1 / 3)) with
  |false=>exact h
  | true =>
   simp only[Qbq,Rbv]at hc
   rw[cond_true]
   exact hu y Qb7 hc.1
theorem Zaz {n nb nr:Nat}{u:List (Nat×aU)}(hk:u.all (fun x=>Aa4 n nb nr x.1)=true)(draw:Bool):nr<=Tai draw nr u/\Tai draw nr u<=nr+dM/\∀ x∈u,x.1 % 3=2->x.1 / 3<Tai draw nr u:=by
 have hb:∀ x∈u,x.1 % 3=2->x.1 / 3<nr+dM:=by
  intro x hx h2
  rw[Rbg]at hk
  have:=hk _ hx
  unfold Aa4 at this
  rw[h2]at this
  simpa using this
 cases draw with
 |true=>exact⟨Tb6 ..,Qbw _,hb⟩
 |false=>exact⟨Rap _ _,Xal (Tb6 ..) hb,fun x hx h2=>Tau hx h2⟩
theorem Db7 {s:St}{g:Option (aM×Bool)}{r:dD}{n:Nat}(h:Db8 s g r=true)(hn:n<=s.nt)(hk:r.upd.all (fun x=>Aa4 n s.nb s.nr x.1)=true)(draw:Bool)(nv:Nat)(k:Nat) :
  ({ (s.puts r.upd) with nv:=nv,nb:=s.nb+1,nr:=Tai draw s.nr r.upd }:St).get k=upds s.get r.upd k:=by
 obtain⟨t1,t2,t3⟩:=Zaz hk draw
 generalize Tai draw s.nr r.upd=nr' at t1 t2 t3 ⊢
 simp only[Db8,Qbq,Tbh]at h
 obtain⟨⟨⟨⟨h1,h2⟩,-⟩,-⟩,-⟩:=h
 have e:({ (s.puts r.upd) with nv:=nv,nb:=s.nb+1,nr:=nr' }:St).get k=bif Cad s.nt (s.nb+1) nr' k then upds s.tr.get r.upd k else none:=by
  unfold St.get
  dsimp only
  rw[Ma7,(jK r.upd s).2.2.2]
 rw[e]
 by_cases hm:∃ c,(k,c)∈r.upd
 ·obtain⟨c,hc⟩:=hm
  have hin:Cad s.nt (s.nb+1) nr' k=true:=by
   rw[Rbg]at hk
   have:=hk _ hc
   unfold Aa4 at this
   unfold Cad
   dsimp only at this
   cases b0:Nat.beq (k % 3) 0 with
   |true=>rw[b0,cond_true]at this;rw[cond_true];simp only[Rb6]at this ⊢;omega
   | false =>
    rw[b0,cond_false]at this
    rw[cond_false]
    cases b1:Nat.beq (k % 3) 1 with
    |true=>rw[b1,cond_true]at this;rw[cond_true];simp only[Rb8]at this;simp only[Rb6];omega
    | false =>
     rw[cond_false,Rb6]
     have n0:k % 3≠0:=fun e=>by rw[e]at b0;cases b0
     have n1:k % 3≠1:=fun e=>by rw[e]at b1;cases b1
     exact t3 _ hc (by dsimp only;omega)
  rw[hin,cond_true]
  exact Gas _ _ _ _ ⟨c,hc⟩
 ·have hnone:∀ c,(k,c)∉r.upd:=fun c hc=>hm ⟨c,hc⟩
  rw[fV _ _ _ hnone,fV _ _ _ hnone]
  unfold St.get
  cases ho:Cad s.nt s.nb s.nr k with
  | true =>
   have:Cad s.nt (s.nb+1) nr' k=true:=by
    unfold Cad at ho ⊢
    cases b0:Nat.beq (k % 3) 0 with
    |true=>rw[b0]at ho;exact ho
    | false =>
     rw[b0,cond_false]at ho
     rw[cond_false]
     cases b1:Nat.beq (k % 3) 1 with
     |true=>rw[b1,cond_true]at ho;rw[cond_true];simp only[Rb6]at ho ⊢;omega
     |false=>rw[b1,cond_false]at ho;rw[cond_false];simp only[Rb6]at ho ⊢;omega
   rw[this]
  | false =>
   rw[cond_false]
   cases hw:Cad s.nt (s.nb+1) nr' k with
   |false=>rfl
   | true =>
    rw[cond_true]
    unfold Cad at ho hw
    cases b0:Nat.beq (k % 3) 0 with
    |true=>rw[b0,cond_true]at ho hw;rw[ho]at hw;cases hw
    | false =>
     rw[b0,cond_false]at ho hw
     have n0:k % 3≠0:=fun e=>by rw[e]at b0;cases b0
     cases b1:Nat.beq (k % 3) 1 with
     | true =>
      rw[b1,cond_true]at ho hw
      simp only[Rbv]at b1
      simp only[Rb6]at hw
      have ho':¬ k / 3<s.nb:=fun e=>by rw[<- Rb6,ho]at e;cases e
      have:k=kB s.nb:=by unfold kB;omega
      rw[this];exact h1
     | false =>
      rw[b1,cond_false]at ho hw
      have n1:k % 3≠1:=fun e=>by rw[e]at b1;cases b1
      simp only[Rb6]at hw
      have ho':¬ k / 3<s.nr:=fun e=>by rw[<- Rb6,ho]at e;cases e
      have:k=kR (k / 3):=by unfold kR;omega
      rw[this]
      exact Aav h2 _ (by omega) (by omega)
theorem Qad {s:St}:Eae s.get s.nb s.nr:=by
 refine⟨?_,fun j h1 h2=>?_⟩
 ·unfold St.get Cad kB
  have e:(3*s.nb+1) % 3=1:=by omega
  have e2:(3*s.nb+1) / 3=s.nb:=by omega
  rw[e,e2]
  have:Sbj s.nb s.nb=false:=by
   cases hb:Sbj s.nb s.nb with
   |false=>rfl
   |true=>simp at hb
  rw[this];rfl
 ·unfold St.get Cad kR
  have e:(3*j+2) % 3=2:=by omega
  have e2:(3*j+2) / 3=j:=by omega
  rw[e,e2]
  have:Sbj j s.nr=false:=by
   cases hb:Sbj j s.nr with
   |false=>rfl
   |true=>simp only[Rb6]at hb;omega
  rw[this];rfl
theorem Tat (t:Tr aU)(lo:Nat):∀ n,Oap t lo n<=lo+n
 |0=>Qbw _
 | n + 1 => by
  unfold Oap
  cases (t.get (kR (lo+n))).isNone with
  |true=>rw[cond_true];have:=Tat t lo n;omega
  |false=>rw[cond_false];omega
theorem Kad (t:Tr aU)(lo:Nat):∀ n j,Oap t lo n<=j->j<lo+n->t.get (kR j)=none
 |0,j,h1,h2=>by unfold Oap at h1;omega
 | n + 1, j, h1, h2 => by
  unfold Oap at h1
  cases h:(t.get (kR (lo+n))).isNone with
  | true =>
   rw[h,cond_true]at h1
   by_cases e:j=lo+n
   ·rw[e];simpa using h
   ·exact Kad t lo n j h1 (by omega)
  |false=>rw[h,cond_false]at h1;omega
theorem Oao {draw:Bool}{lo:Nat}{s:St}:(trimS draw lo s).get=s.get:=by
 unfold trimS
 cases hd:(draw&&Nat.ble lo s.nr) with
 |false=>rfl
 | true =>
  simp only[Qbq,Rb8]at hd
  rw[cond_true]
  funext k
  have h1:=Tat s.tr lo (s.nr-lo)
  have h2:=Kad s.tr lo (s.nr-lo)
  generalize Oap s.tr lo (s.nr-lo)=m at h1 h2
  unfold St.get
  dsimp only
  unfold Cad
  cases b0:Nat.beq (k % 3) 0 with
  |true=>rfl
  | false =>
   rw[cond_false,cond_false]
   cases b1:Nat.beq (k % 3) 1 with
   |true=>rfl
   | false =>
    rw[cond_false,cond_false]
    have n0:k % 3≠0:=fun e=>by rw[e]at b0;cases b0
    have n1:k % 3≠1:=fun e=>by rw[e]at b1;cases b1
    have ek:k=kR (k / 3):=by unfold kR;omega
    by_cases ha:k / 3<m
    ·have e1:Sbj (k / 3) m=true:=by simpa using ha
     have e2:Sbj (k / 3) s.nr=true:=by simp only[Rb6];omega
     rw[e1,e2]
    ·have e1:Sbj (k / 3) m=false:=by
      cases e:Sbj (k / 3) m with
      |false=>rfl
      |true=>simp only[Rb6]at e;omega
     rw[e1,cond_false]
     cases e2:Sbj (k / 3) s.nr with
     |false=>rfl
     | true =>
      simp only[Rb6]at e2
      rw[cond_true,ek]
      exact (h2 _ (by omega) (by omega)).symm
theorem Aae {draw:Bool}{lo:Nat}{s:St}:(trimS draw lo s).nv=s.nv/\(trimS draw lo s).nb=s.nb/\(trimS draw lo s).nt=s.nt:=by
 unfold trimS
 cases draw&&Nat.ble lo s.nr<;>exact⟨rfl,rfl,rfl⟩
end Go.Proofs.YtdpfilpckndhcaaGreatDoor.Rf

namespace Go.Proofs.YtdpfilpckndhcaaGreatDoor.Rf
set_option linter.unusedVariables false
set_option linter.unusedSimpArgs false
section
variable {P:Program} {E:Env} {F:bU} {n:Nat} {σ:Nat->Option aU} {ρ:List D} {a:Act} {w w':World} {G G':Gh} {g:Option (aM×Bool)} {o:Oper} {cf:Nat->List D->Option (List D)} {Q:Exit->Act->World->Prop}
theorem Ka7:∀ (u:List (Nat×aU)) (σ:Nat->Option aU) (k:Nat),upds σ u k=match Wab u k with
  |some c=>some c
  |none=>σ k
 |[],_,_=>rfl
 | (k', c) :: r, σ, k => by
  show upds (Ta8 σ k' c) r k=_
  rw[Ka7 r]
  simp only[Wab]
  cases Wab r k with
  |some d=>rfl
  | none =>
   dsimp only
   unfold Ta8
   by_cases e:k=k'
   ·subst e
    rw[if_pos rfl]
    simp
   ·rw[if_neg e]
    have:Nat.beq k' k=false:=by
     cases h:Nat.beq k' k with
     |false=>rfl
     |true=>exact absurd (Nat.eq_of_beq_eq_true h).symm e
    rw[this]
    rfl
theorem Qar {α:Type}(u:List (Nat×aU))(m:RdM α)(σ:Nat->Option aU):(m.over u).eval σ=m.eval (upds σ u):=by
 induction m with
 |ret a=>rfl
 |no=>rfl
 | rd k f ih =>
  show ((RdM.rd k f).over u).eval σ=(f (upds σ u k)).eval (upds σ u)
  unfold RdM.over
  rw[Ka7 u σ k]
  cases Wab u k with
  |some c=>exact ih _
  |none=>exact ih _
theorem Bam:∀ (u v:List (Nat×aU)) (σ:Nat->Option aU),upds σ (u++v)=upds (upds σ u) v
 |[],_,_=>rfl
 |(k,c)::r,v,σ=>Bam r v (Ta8 σ k c)
def Baa (r nr:Nat)(pv:List Nat)(M mr:Nat)(s:Nat)(p:List Nat):Ow :=
 if s=r then (if pv <+: p then Aa1 nr M (p.drop pv.length) else Aa1 r mr p) else .slc s p
theorem Db3 {t:Nat}{a:Act}{o:Oper}(h:o.dst=some t):a.put o.dst (a.tmps.getD t undef)=a:=by
 unfold Act.put
 rw[h]
 dsimp only
 have:a.tmps.setIfInBounds t (a.tmps.getD t undef)=a.tmps:=by
  apply Array.ext_getElem?
  intro j
  rw[Array.getElem?_setIfInBounds]
  split
  ·rename_i e
   subst e
   split
   ·rename_i hlt
    exact (Rb0 hlt).symm
   ·rename_i hlt
    rw[Array.getElem?_eq_none (by omega)]
  ·rfl
 rw[this]
theorem Oa4 (hR:R E.ntmps F σ ρ a w G){nv nr t:Nat}(hnr:σ (kR nr)=none){l:List Step}{u:List (Nat×aU)}(h:(Kam E nv nr t).eval σ=some (some (l,u)))(hst:aQ cf ρ none nv l) :
  ∃ G',R E.ntmps F (upds σ u) ρ a w G':=by
 simp only[Kam,aA,Qbp,aV,Qb3]at h
 split at h
 case h_2=>simp only[aC,Option.some.injEq]at h;cases h
 rename_i deps p ps nie x hslot
 simp only[aA,Qbp]at h
 obtain⟨s,h1,h⟩:=h
 split at h
 case h_2=>simp only[aC,Option.some.injEq]at h;cases h
 rename_i r k m q qs hown
 rw[iR]at h
 split at h
 case isFalse=>simp only[aC,Option.some.injEq]at h;cases h
 rename_i hb
 simp only[Qbq,Rb8,Rb6]at hb
 obtain⟨hqm,htn⟩:=hb
 simp only[aA,Qbp,aV,Qb3]at h
 split at h
 case h_2=>simp only[aC,Option.some.injEq]at h;cases h
 rename_i X m' ver hk
 simp only[aC,Option.some.injEq,Prod.mk.injEq]at h
 obtain⟨rfl,rfl⟩:=h
 have hsv:=hR.slot hslot (g:=none) rfl
 simp only[dV]at hsv
 have hsl:=fF hR h1 hsv
 have hor:=hsl.own
 unfold xZ at hor
 rw[hown]at hor
 obtain⟨-,⟨X0,hl0⟩,-,hrp,hnest⟩:=hor
 rw[hk]at hl0
 obtain⟨rfl,rfl,rfl⟩:X=X0/\m'=m/\ver=k:=by
  injection hl0 with e;injection e with e1 e2 e3 e4;exact⟨e1,e2,e3⟩
 have hroot:=hR.root hk
 simp only[dJ]at hroot
 have hupd:=Dad (g:=none) rfl (q::qs) nv X (.c .hole) hst
 have hpvl:(bJ ρ (q::qs)).length=qs.length+1:=by simp[bJ]
 generalize hpv:bJ ρ (q::qs)=pv at hupd hrp hnest hpvl
 rw[show (q::qs).length=qs.length+1 from rfl]at hrp
 have htv:Cab E.ntmps a F.gh t=a.tmps.getD t undef:=if_pos htn
 generalize hv:Cab E.ntmps a F.gh t=v at hsv hrp hnest htv
 obtain⟨o',ho'⟩:∃ o':Oper,o'.dst=some t:=⟨{ (default:Oper) with dst:=some t },rfl⟩
 have hrnr:r≠nr:=fun e=>by rw[e,hnr]at hk;cases hk
 have hdr:∀ r,(σ (kR r)).isSome->r≠nr:=fun r hr e=>by rw[e,hnr]at hr;cases hr
 have hslt:∀ b,G.own b≠.frz->b<w.heap.size:=fun b hb=>by
  rcases Rbj b w.heap.size with h|h
  ·exact h
  ·exact absurd (hR.frame.fresh b h) hb
 have hFr:∀ p,Baa r nr pv (m'-(qs.length+1)) m' r p=if pv <+: p then Aa1 nr (m'-(qs.length+1)) (p.drop pv.length) else Aa1 r m' p:=fun p=>by unfold Baa;rw[if_pos rfl]
 have hzz:∀ b,G.own b=.frz->b<w.heap.size->oV (Baa r nr pv (m'-(qs.length+1)) m') (G.own b)=.frz/\w.heap[b]?=w.heap[b]?:=fun b hb _=>⟨by rw[hb];rfl,rfl⟩
 have hfin:=hR.own (o:=o') (g:=none) (fun d e=>by rw[ho']at e;cases e;exact htn) (sv:=.one (.ex nr)) (v:=v) (w':=w)
  (G':={ G with own:=fun b=>oV (Baa r nr pv (m'-(qs.length+1)) m') (G.own b),hdr:=fun s=>if s=nr then v else G.hdr s }) (wr:=fun _=>False)
  (ur:=[(kR nr,.root s.x (m'-(qs.length+1)) 0 .live),(kR r,.root (Nae nv X (q::qs) (.c .hole)).2 m' (ver+1) .live)])
  (f:=Baa r nr pv (m'-(qs.length+1)) m') ?_ (fun b _=>rfl) ?_ ⟨rfl,rfl,rfl,Qbw _⟩ ?_ (fun _ _ _=>rfl) (fun _ h=>h.elim) ?_ ?_ ?_ ?_ rfl ?_ ?_
 ·have e1:fB o' none (.one (.ex nr))=[(kT t,.slot none (.one (.ex nr)))]:=by unfold fB;rw[ho']
  have e2:a.put o'.dst v=a:=by rw[htv];exact Db3 ho'
  rw[e1,e2]at hfin
  exact⟨_,hfin⟩
 ·intro k c hc
  rcases List.mem_cons.1 hc with hc|hc
  ·exact⟨nr,(Prod.mk.inj hc).1⟩
  ·exact⟨r,(Prod.mk.inj (List.mem_singleton.1 hc)).1⟩
 ·intro b hb
  show oV _ (G.own b)=.frz
  rw[hR.frame.fresh b hb];rfl
 ·intro b hb
  refine .inl ?_
  show oV _ (G.own b)=.frz
  rw[hR.frame.fresh b hb];rfl
 ·intro b s' p' hb hnot
  have:s'≠r:=fun e=>hnot (.root (Nae nv X (q::qs) (.c .hole)).2 m' (ver+1) .live) (by rw[e];simp)
  unfold Baa
  rw[if_neg this]
 ·intro s' c hc _
  rcases List.mem_cons.1 hc with hc|hc
  ·obtain⟨e1,e2⟩:=Prod.mk.inj hc
   rw[gD e1,e2]
   exact .inl ⟨hnr,_,_,_,_,rfl⟩
  ·obtain⟨e1,e2⟩:=Prod.mk.inj (List.mem_singleton.1 hc)
   rw[gD e1,e2]
   exact .inr (.inl ⟨_,_,_,_,_,hk,rfl⟩)
 ·intro r0 x0 m0 k0 hfz s' p' q' hF
  have hr0:r0≠r:=fun e=>by
   rw[e,hk]at hfz
   injection hfz with e;injection e with _ _ _ e;cases e
  have hr1:r0≠nr:=hdr r0 (by rw[hfz];rfl)
  unfold Baa at hF
  split at hF
  ·rename_i e
   split at hF
   ·unfold Aa1 at hF
    split at hF
    ·injection hF with j1 j2;exact absurd j1.symm hr1
    ·cases hF
   ·unfold Aa1 at hF
    split at hF
    ·injection hF with j1 j2;exact absurd j1.symm hr0
    ·cases hF
  ·injection hF with j1 j2;exact⟨j1,j2⟩
 ·intro s' hs'
  show (if s'=nr then _ else _)=_
  rw[if_neg (hdr s' hs')]
 ·intro _ _
  simp only[dV,aB]
  exact⟨by simp,fI _ _ _ (.inr ⟨_,Qby _ Qb7⟩),hrp.one⟩
 ·intro hfr s' c hc _
  rcases List.mem_cons.1 hc with hc|hc
  ·obtain⟨e1,rfl⟩:=Prod.mk.inj hc
   obtain rfl:=gD e1
   refine⟨_,_,_,_,rfl,?_⟩
   simp only[dJ,if_true]
   refine hrp.move hzz [] _ (Qbw _) fun b t' hb=>⟨?_,rfl⟩
   show oV _ (G.own b)=_
   rw[hb]
   show Baa _ _ _ _ _ _ _=_
   rw[hFr,if_pos (List.prefix_append _ _),List.drop_left]
   rfl
  ·obtain⟨e1,rfl⟩:=Prod.mk.inj (List.mem_singleton.1 hc)
   obtain rfl:=gD e1
   refine⟨_,_,_,_,rfl,?_⟩
   simp only[dJ]
   rw[if_neg hrnr]
   have:=Rp.upd (own':=fun b=>oV (Baa s' nr pv (m'-(qs.length+1)) m') (G.own b)) (w':=w) (r:=s') (M':=m') (full:=pv) (y:=.hole) (u:=v) hzz (fun b t' hb ht=>⟨?_,rfl⟩) (by omega) (.hole _ hrp.one) pv [] m' (G.hdr s') _ _ rfl (Qbw _) (by simpa using hroot) hnest hupd
   ·simpa using this
   ·rw[hb]
    show Baa _ _ _ _ _ _ _=_
    rw[hFr,if_neg ht]
    rfl
theorem Kaj {mv mvs:Bool}{nv nb nr:Nat}{c:Call}(h:o.op=.call c):Vau E mv mvs nv nb nr g o=tJ E mv mvs nv nb nr g o:=by
 unfold Vau
 have h1:Caq (mvs&&noG g) o.op=none:=by rw[h];unfold Caq;split<;>first|rfl|contradiction
 have h2:Nag (mvs&&noG g&&!mv) o=none:=by
  unfold Nag
  split
  ·rw[h]
  ·rfl
 rw[h1]
 dsimp only
 rw[h2]
theorem Vax {nv nr t:Nat}(hnr:σ (kR (nr+1))=none){l:List Step}{u:List (Nat×aU)}(h1:(Kam E nv nr t).eval σ=some (some (l,u))):upds σ u (kR (nr+1))=none:=by
 simp only[Kam,aA,Qbp,aV,Qb3]at h1
 split at h1
 case h_2=>simp only[aC,Option.some.injEq]at h1;cases h1
 simp only[aA,Qbp]at h1
 obtain⟨s,-,h1⟩:=h1
 split at h1
 case h_2=>simp only[aC,Option.some.injEq]at h1;cases h1
 rw[iR]at h1
 split at h1
 case isFalse=>simp only[aC,Option.some.injEq]at h1;cases h1
 simp only[aA,Qbp,aV,Qb3]at h1
 split at h1
 case h_2=>simp only[aC,Option.some.injEq]at h1;cases h1
 rename_i r' _ _ _ _ _ _ _ _ hk
 simp only[aC,Option.some.injEq,Prod.mk.injEq]at h1
 obtain⟨-,rfl⟩:=h1
 cases e:upds σ _ (kR (nr+1)) with
 |none=>rfl
 | some c =>
  exfalso
  rcases sW _ _ _ _ e with h4|⟨-,h4⟩
  ·simp only[List.mem_cons,Prod.mk.injEq,List.not_mem_nil,or_false]at h4
   rcases h4 with ⟨h4,-⟩|⟨h4,-⟩|⟨h4,-⟩
   ·exact jE h4.symm
   ·have:=gD h4;omega
   ·rw[h4,hk]at hnr;cases hnr
  ·rw[hnr]at h4;cases h4
theorem Zau {mv mvs:Bool}{nv nb nr:Nat}{ty:TypeId}{x:Operand}(ho:o.op=.load ty x){r:dD}(h:(tJ E mv mvs nv nb nr none o).eval σ=some r){j:Nat}{c:aU}(hc:(kR j,c)∈r.upd):False:=by
 simp only[tJ,ho,aA,Qbp,tiR,bA]at h
 obtain⟨ti,h1,p,h2,h⟩:=h
 have hslot:∀ {g':Option (aM×Bool)} {v:SV},(kR j,c)∈(match o.dst with|some d=>[(kT d,aU.slot g' v)]|none=>[])->False:=by
  intro g' v hm
  split at hm
  ·simp only[Qb6,Prod.mk.injEq]at hm
   exact jE hm.1.symm
  ·simp at hm
 have hC:∀ {v:SV},(Zaj o none nv v).eval σ=some r->False:=by
  intro v h
  simp only[Zaj,wP,aC,Option.some.injEq]at h
  subst h
  rw[Rbm]at hc
  exact hslot hc
 unfold Tay at h
 split at h
 ·simp only[aA,Qbp,aV,Qb3]at h
  split at h
  ·simp only[aA,Qbp]at h
   obtain⟨_,-,h⟩:=h
   split at h
   ·exact hC h
   ·cases h
  ·cases h
 ·simp only[aA,Qbp]at h
  obtain⟨s,-,h⟩:=h
  split at h
  ·simp only[wO,aC,Option.some.injEq]at h
   subst h
   exact hslot hc
  ·simp only[wP,aC,Option.some.injEq]at h
   subst h
   rw[Rbm]at hc
   exact hslot hc
  ·cases h
 ·cases h
theorem Xay (hR:R E.ntmps F σ ρ a w G)(hd:gM E.ntmps o)(hti:yA P E.ti){nv nb nr:Nat}{mv mvs:Bool}(hf:Eae σ nb nr){res:dD}
  (h:(Vau E mv mvs nv nb nr g o).eval σ=some res) (hst:aQ cf ρ g nv res.lets)
  (hcall:∀ f args argTypes,o.op=.call { callee:=.value f,args,argTypes }->iP P E F σ ρ a w g o Q res.upd):iP P E F σ ρ a w g o Q res.upd:=by
 unfold Vau at h
 split at h
 ·split at h
  ·exact Gay hR hd hti hf h hst hcall
  ·
   rename_i t hld
   have hb:(mvs&&noG g&&!mv)=true:=by
    cases e:(mvs&&noG g&&!mv) with
    |true=>rfl
    |false=>rw[e]at hld;cases hld
   simp only[Qbq]at hb
   obtain rfl:=zA hb.1.2
   obtain⟨ty,x,ho⟩:∃ ty x,o.op=.load ty x:=by
    unfold Nag at hld
    split at hld
    ·split at hld
     ·rename_i ho;exact⟨_,_,ho⟩
     ·cases hld
    ·cases hld
   simp only[aA,Qbp,Qar]at h
   obtain⟨r,h1,y,h2,h⟩:=h
   cases y with
   | none =>
    simp only[aC,Option.some.injEq]at h
    subst h
    exact Gay hR hd hti hf h1 hst hcall
   | some lu =>
    obtain⟨l,u⟩:=lu
    simp only[aC,Option.some.injEq]at h
    subst h
    obtain⟨hs1,hs2⟩:=aQ.append hst
    have h0:iP P E F σ ρ a w none o Q r.upd:=Gay hR hd hti hf h1 hs1 fun f args argTypes hoc=>by rw[ho]at hoc;cases hoc
    refine⟨fun hg=>?_,fun hg=>by simp[gOn]at hg⟩
    refine Oper.wp_mono (K:=Nx E.ntmps F σ ρ r.upd) (fun a' w' ⟨G',hR'⟩=>?_) (h0.1 hg)
    have hnr:upds σ r.upd (kR nr)=none:=by
     have hnone:=hf.nr nr (Qbw _) (by unfold dM;omega)
     cases e:upds σ r.upd (kR nr) with
     |none=>rfl
     | some c =>
      exfalso
      rcases sW _ _ _ _ e with h4|⟨-,h4⟩
      ·exact Zau ho h1 h4
      ·rw[hnone]at h4;cases h4
    obtain⟨G'',hR''⟩:=Oa4 hR' hnr h2 hs2
    exact⟨G'',by rw[Bam];exact hR''⟩
 ·rename_i t hsp
  simp only[aA,Qbp]at h
  obtain⟨x,h1,h⟩:=h
  have hb:(mvs&&noG g)=true:=by
   cases e:(mvs&&noG g) with
   |true=>rfl
   |false=>rw[e]at hsp;unfold Caq at hsp;cases hsp
  simp only[Qbq]at hb
  obtain rfl:=zA hb.2
  cases x with
  |none=>exact Gay hR hd hti hf h hst hcall
  | some lu =>
   obtain⟨l,u⟩:=lu
   simp only[aA,Qbp,Qar,aC,Option.some.injEq]at h
   obtain⟨r,h2,rfl⟩:=h
   obtain⟨hs1,hs2⟩:=aQ.append hst
   obtain⟨G',hR'⟩:=Oa4 hR (hf.nr nr (Qbw _) (by unfold dM;omega)) h1 hs1
   have hfin:iP P E F (upds σ u) ρ a w none o Q r.upd:=by
    have hnr1:upds σ u (kR (nr+1))=none:=Vax (hf.nr (nr+1) (by omega) (by unfold dM;omega)) h1
    unfold Caq at hsp
    split at hsp
    ·rename_i ho
     exact Hax hR' hti ho h2 hs2
    ·rename_i ho
     exact xR hR' hd hti hnr1 ho h2 hs2
    ·cases hsp
   refine⟨fun hg=>?_,fun hg=>by simp[gOn]at hg⟩
   have e:Nx E.ntmps F σ ρ (u++r.upd)=Nx E.ntmps F (upds σ u) ρ r.upd:=by unfold Nx;rw[Bam]
   rw[e]
   exact hfin.1 hg
theorem kK {ops:List Oper}{mv mvs:Bool}{nv nb nr:Nat}{res:dD}(h:(mW E ops mv mvs nv nb nr o).eval σ=some (g,res)) :
  (Ma5 ops o).eval σ=some g/\gM E.ntmps o/\(Vau E mv mvs nv nb nr g o).eval σ=some res/\res.upd.all (fun x=>Aa4 E.ntmps nb nr x.1)=true:=by
 simp only[mW,aA,Qbp,aL,aC,Option.some.injEq,Prod.mk.injEq]at h
 obtain⟨g',h1,_,h2,res',h3,_,h4,rfl,rfl⟩:=h
 refine⟨h1,fun d hd=>?_,h3,?_⟩
 ·rw[hd]at h2
  dsimp only at h2
  split at h2
  ·rename_i hb;simpa using hb
  ·cases h2
 ·split at h4
  ·rename_i hb;exact hb
  ·cases h4
def Ibt (P:Program)(E:Env)(F:bU)(σ:Nat->Option aU)(ρ:List D)(ops:Array Oper)(o:Oper)(Q:Exit->Act->World->Prop)(u:List (Nat×aU))(a:Act)(w:World):Prop :=
 if Region.wanted o (yielded ops a.tmps) then o.wp P a w (Nx E.ntmps F σ ρ u) Q else Nx E.ntmps F σ ρ u (a.put o.dst undef) w
theorem Car (hR:R E.ntmps F σ ρ a w G)(hti:yA P E.ti){ops:Array Oper}(hds:∀ o∈ops.toList,gM E.ntmps o){mv mvs:Bool}{nv nb nr:Nat}(hf:Eae σ nb nr){res:dD}
  (h:(mW E ops.toList mv mvs nv nb nr o).eval σ=some (g,res)) (hst:aQ cf ρ g nv res.lets)
  (hcall:∀ f args argTypes,o.op=.call { callee:=.value f,args,argTypes }->iP P E F σ ρ a w g o Q res.upd):Ibt P E F σ ρ ops o Q res.upd a w:=by
 obtain⟨h1,h2,h3,-⟩:=kK h
 have hs:=Xay hR h2 hti hf h3 hst hcall
 unfold Ibt
 rw[Sag hR hds h1]
 split
 ·rename_i hg;exact hs.1 hg
 ·rename_i hg;exact hs.2 (by simpa using hg)
end
end Go.Proofs.YtdpfilpckndhcaaGreatDoor.Rf

namespace Go.Proofs.YtdpfilpckndhcaaGreatDoor.Rf
set_option linter.unusedVariables false
set_option linter.unusedSimpArgs false
section
variable {cf:Nat->List D->Option (List D)}
theorem Sar {i:Nat}{k:Kind}:Naq i k=true↔k=.yield i:=by
 cases k<;>simp[Naq]
 exact eq_comm
theorem Wac {k:Kind}:Uaq k=true↔k=.cont:=by cases k<;>simp[Uaq]
theorem Bbp {β:Type}{body:Tm β}{ρ:List D}{C:List D->Out β->Prop}
  (hstop:∀ vs o,Ec cf body (ρ++vs)=some o->o.kind≠.cont->C vs o)
  (hgo:∀ vs o o',Ec cf body (ρ++vs)=some o->o.kind=.cont->C o.vals o'->Lc cf body ρ o.vals=some o'->C vs o') :
  ∀ {vs:List D} {o:Out β},Lc cf body ρ vs=some o->C vs o:=by
 intro vs o h
 have h':=(iD (Pbk (cf:=cf) body ρ vs)).1 h
 obtain⟨n,hn⟩:=h'
 have key:∀ m vs,iter m (fun vs=>runT cf n body (ρ++vs)) vs=some o->C vs o/\Lc cf body ρ vs=some o:=by
  intro m
  induction m with
  |zero=>intro vs h;cases h
  | succ m ih =>
   intro vs h
   simp only[iter,Qbp]at h
   obtain⟨o1,h1,h2⟩:=h
   have e1:Ec cf body (ρ++vs)=some o1:=Jan.2 ⟨n,h1⟩
   split at h2
   ·rename_i hk
    obtain⟨h3,h4⟩:=ih _ h2
    exact⟨hgo vs o1 o e1 hk h3 h4,by rw[Bbq,e1,Qb3,if_pos hk];exact h4⟩
   ·rename_i hk
    obtain rfl:=Option.some.inj h2
    exact⟨hstop vs o1 e1 hk,by rw[Bbq,e1,Qb3,if_neg hk]⟩
 exact (key n vs hn).1
theorem yZ {β:Type}{f:Kind->Bool}:∀ {t:Tm β} {ρ:List D} {o:Out β},t.no f=true->Ec cf t ρ=some o->f o.kind=false
 | .leaf k xs e, ρ, o, hn, h => by
  rw[gY]at h
  obtain rfl:=Option.some.inj h
  simpa[Tm.no] using hn
 |.stuck,ρ,o,hn,h=>by rw[jR]at h;cases h
 | .lt g p xs n k, ρ, o, hn, h => by
  rw[Oaf]at h
  split at h
  ·simp only[Qbp]at h
   obtain⟨ds,-,h⟩:=h
   split at h
   ·exact yZ (t:=k) hn h
   ·cases h
  ·exact yZ (t:=k) hn h
 | .call g c xs n os k, ρ, o, hn, h => by
  rw[xN]at h
  split at h
  ·simp only[Qbp]at h
   obtain⟨ds,-,h⟩:=h
   split at h
   ·exact yZ (t:=k) hn h
   ·cases h
  ·exact yZ (t:=k) hn h
 | .ite c t e, ρ, o, hn, h => by
  simp only[Tm.no,Qbq]at hn
  rw[Gai]at h
  split at h
  ·exact yZ hn.1 h
  ·exact yZ hn.2 h
  ·cases h
 | .bind i t k, ρ, o, hn, h => by
  simp only[Tm.no,Qbq]at hn
  simp only[uT,Qbp]at h
  obtain⟨o1,h1,h2⟩:=h
  split at h2
  ·exact yZ hn.2 h2
  ·obtain rfl:=Option.some.inj h2
   exact yZ hn.1 h1
 | .loop init b, ρ, o, hn, h => by
  rw[Oag]at h
  simp only[Tm.no]at hn
  exact Bbp (C:=fun _ o=>f o.kind=false) (fun vs o h1 _=>yZ hn h1) (fun _ _ _ _ _ h3 _=>h3) h
theorem tX {f:St->Option (Tm St)}:∀ {t t':Tm St} {ρ:List D} {o':Out St},t.graft f=some t'->Ec cf t' ρ=some o' ->
  ∃ o,Ec cf t ρ=some o/\((o.kind=.fall/\∃ r,f o.ext=some r/\Ec cf r o.env=some o')\/(o.kind≠.fall/\o'=o))
 | .leaf k xs s, t', ρ, o', hg, h => by
  cases k with
  |fall=>exact⟨_,gY ..,.inl ⟨rfl,t',hg,h⟩⟩
  | _ =>
   simp only[Tm.graft,Option.some.injEq]at hg
   subst hg
   rw[gY]at h
   obtain rfl:=Option.some.inj h
   exact⟨_,gY ..,.inr ⟨by simp,rfl⟩⟩
 | .stuck, t', ρ, o', hg, h => by
  simp only[Tm.graft,Option.some.injEq]at hg
  subst hg
  rw[jR]at h;cases h
 | .lt g p xs n k, t', ρ, o', hg, h => by
  simp only[Tm.graft,Qb8]at hg
  obtain⟨k',hk,rfl⟩:=hg
  rw[Oaf]at h
  simp only[Oaf]
  split at h
  ·rename_i hgo
   simp only[Qbp]at h
   obtain⟨ds,h1,h⟩:=h
   split at h
   ·rename_i hl
    obtain⟨o,h2,h3⟩:=tX hk h
    exact⟨o,by rw[if_pos hgo,h1,Qb3,if_pos hl];exact h2,h3⟩
   ·cases h
  ·rename_i hgo
   obtain⟨o,h2,h3⟩:=tX hk h
   exact⟨o,by rw[if_neg hgo];exact h2,h3⟩
 | .call g c xs n os k, t', ρ, o', hg, h => by
  simp only[Tm.graft,Qb8]at hg
  obtain⟨k',hk,rfl⟩:=hg
  rw[xN]at h
  simp only[xN]
  split at h
  ·rename_i hgo
   simp only[Qbp]at h
   obtain⟨ds,h1,h⟩:=h
   split at h
   ·rename_i hl
    obtain⟨o,h2,h3⟩:=tX hk h
    exact⟨o,by rw[if_pos hgo,h1,Qb3,if_pos hl];exact h2,h3⟩
   ·cases h
  ·rename_i hgo
   obtain⟨o,h2,h3⟩:=tX hk h
   exact⟨o,by rw[if_neg hgo];exact h2,h3⟩
 | .ite c t e, t', ρ, o', hg, h => by
  simp only[Tm.graft,Qbp,Qb8]at hg
  obtain⟨t1,ht,e1,he,rfl⟩:=hg
  rw[Gai]at h
  simp only[Gai]
  split at h
  ·exact tX ht h
  ·exact tX he h
  ·cases h
 | .bind i t k, t', ρ, o', hg, h => by
  simp only[Tm.graft]at hg
  cases hn:t.no sO with
  |false=>rw[hn]at hg;cases hg
  | true =>
   rw[hn,cond_true,Qb8]at hg
   obtain⟨k',hk,rfl⟩:=hg
   simp only[uT,Qbp]at h
   obtain⟨o1,h1,h2⟩:=h
   simp only[uT,h1,Qb3]
   split at h2
   ·rename_i hy
    rw[if_pos hy]
    exact tX hk h2
   ·rename_i hy
    rw[if_neg hy]
    obtain rfl:=Option.some.inj h2
    refine⟨o1,rfl,.inr ⟨fun e=>?_,rfl⟩⟩
    have:=yZ hn h1
    rw[e]at this
    cases this
 | .loop init b, t', ρ, o', hg, h => by
  simp only[Tm.graft]at hg
  cases hn:b.no sO with
  |false=>rw[hn]at hg;cases hg
  | true =>
   rw[hn,cond_true,Option.some.injEq]at hg
   subst hg
   refine⟨o',h,.inr ⟨fun e=>?_,rfl⟩⟩
   have:=yZ (t:=.loop init b) (f:=sO) hn h
   rw[e]at this
   cases this
theorem kE {id:Nat}:∀ {t t':Tm St} {ρ:List D} {o':Out St},t.exitFall id=some t'->Ec cf t' ρ=some o' ->
  ∃ o,Ec cf t ρ=some o/\((rZ id o.kind=true/\o'=⟨.fall,[],o.ext,o.env⟩)\/(rZ id o.kind=false/\o'=o))
 | .leaf k xs s, t', ρ, o', hg, h => by
  cases k with
  | exit j =>
   simp only[Tm.exitFall,Option.some.injEq]at hg
   cases hb:Nat.beq id j with
   | true =>
    rw[hb,cond_true]at hg
    subst hg
    rw[gY]at h
    obtain rfl:=Option.some.inj h
    exact⟨_,gY ..,.inl ⟨by simpa[rZ] using hb,rfl⟩⟩
   | false =>
    rw[hb,cond_false]at hg
    subst hg
    rw[gY]at h
    obtain rfl:=Option.some.inj h
    exact⟨_,gY ..,.inr ⟨by simpa[rZ] using hb,rfl⟩⟩
  | _ =>
   simp only[Tm.exitFall,Option.some.injEq]at hg
   subst hg
   rw[gY]at h
   obtain rfl:=Option.some.inj h
   exact⟨_,gY ..,.inr ⟨rfl,rfl⟩⟩
 | .stuck, t', ρ, o', hg, h => by
  simp only[Tm.exitFall,Option.some.injEq]at hg
  subst hg
  rw[jR]at h;cases h
 | .lt g p xs n k, t', ρ, o', hg, h => by
  simp only[Tm.exitFall,Qb8]at hg
  obtain⟨k',hk,rfl⟩:=hg
  rw[Oaf]at h
  simp only[Oaf]
  split at h
  ·rename_i hgo
   simp only[Qbp]at h
   obtain⟨ds,h1,h⟩:=h
   split at h
   ·rename_i hl
    obtain⟨o,h2,h3⟩:=kE hk h
    exact⟨o,by rw[if_pos hgo,h1,Qb3,if_pos hl];exact h2,h3⟩
   ·cases h
  ·rename_i hgo
   obtain⟨o,h2,h3⟩:=kE hk h
   exact⟨o,by rw[if_neg hgo];exact h2,h3⟩
 | .call g c xs n os k, t', ρ, o', hg, h => by
  simp only[Tm.exitFall,Qb8]at hg
  obtain⟨k',hk,rfl⟩:=hg
  rw[xN]at h
  simp only[xN]
  split at h
  ·rename_i hgo
   simp only[Qbp]at h
   obtain⟨ds,h1,h⟩:=h
   split at h
   ·rename_i hl
    obtain⟨o,h2,h3⟩:=kE hk h
    exact⟨o,by rw[if_pos hgo,h1,Qb3,if_pos hl];exact h2,h3⟩
   ·cases h
  ·rename_i hgo
   obtain⟨o,h2,h3⟩:=kE hk h
   exact⟨o,by rw[if_neg hgo];exact h2,h3⟩
 | .ite c t e, t', ρ, o', hg, h => by
  simp only[Tm.exitFall,Qbp,Qb8]at hg
  obtain⟨t1,ht,e1,he,rfl⟩:=hg
  rw[Gai]at h
  simp only[Gai]
  split at h
  ·exact kE ht h
  ·exact kE he h
  ·cases h
 | .bind i t k, t', ρ, o', hg, h => by
  simp only[Tm.exitFall]at hg
  cases hn:t.no (rZ id) with
  |false=>rw[hn]at hg;cases hg
  | true =>
   rw[hn,cond_true,Qb8]at hg
   obtain⟨k',hk,rfl⟩:=hg
   simp only[uT,Qbp]at h
   obtain⟨o1,h1,h2⟩:=h
   simp only[uT,h1,Qb3]
   split at h2
   ·rename_i hy
    rw[if_pos hy]
    exact kE hk h2
   ·rename_i hy
    rw[if_neg hy]
    obtain rfl:=Option.some.inj h2
    exact⟨o1,rfl,.inr ⟨yZ hn h1,rfl⟩⟩
 | .loop init b, t', ρ, o', hg, h => by
  simp only[Tm.exitFall]at hg
  cases hn:b.no (rZ id) with
  |false=>rw[hn]at hg;cases hg
  | true =>
   rw[hn,cond_true,Option.some.injEq]at hg
   subst hg
   exact⟨o',h,.inr ⟨yZ (t:=.loop init b) (f:=rZ id) hn h,rfl⟩⟩
theorem mV {out:Kind}{sel:Kind->Bool}{f:St->Option (Tm St)}(hf:∀ s r,f s=some r->∀ ρ o,Ec cf r ρ=some o->o.kind=out)
  (hc:sel .cont=false) (hy:∀ i,sel (.yield i)=false):∀ {t t':Tm St} {ρ:List D} {o':Out St},t.turn out sel f=some t'->Ec cf t' ρ=some o' ->
  ∃ o,Ec cf t ρ=some o/\((sel o.kind=true/\o'.kind=out/\∃ r,f o.ext=some r/\Ec cf r o.env=some o')\/(sel o.kind=false/\o'=o))
 | .leaf k xs s, t', ρ, o', hg, h => by
  simp only[Tm.turn]at hg
  cases hs:sel k with
  | true =>
   rw[hs,cond_true]at hg
   exact⟨_,gY ..,.inl ⟨hs,hf _ _ hg _ _ h,t',hg,h⟩⟩
  | false =>
   rw[hs,cond_false,Option.some.injEq]at hg
   subst hg
   rw[gY]at h
   obtain rfl:=Option.some.inj h
   exact⟨_,gY ..,.inr ⟨hs,rfl⟩⟩
 | .stuck, t', ρ, o', hg, h => by
  simp only[Tm.turn,Option.some.injEq]at hg
  subst hg
  rw[jR]at h;cases h
 | .lt g p xs n k, t', ρ, o', hg, h => by
  simp only[Tm.turn,Qb8]at hg
  obtain⟨k',hk,rfl⟩:=hg
  rw[Oaf]at h
  simp only[Oaf]
  split at h
  ·rename_i hgo
   simp only[Qbp]at h
   obtain⟨ds,h1,h⟩:=h
   split at h
   ·rename_i hl
    obtain⟨o,h2,h3⟩:=mV hf hc hy hk h
    exact⟨o,by rw[if_pos hgo,h1,Qb3,if_pos hl];exact h2,h3⟩
   ·cases h
  ·rename_i hgo
   obtain⟨o,h2,h3⟩:=mV hf hc hy hk h
   exact⟨o,by rw[if_neg hgo];exact h2,h3⟩
 | .call g c xs n os k, t', ρ, o', hg, h => by
  simp only[Tm.turn,Qb8]at hg
  obtain⟨k',hk,rfl⟩:=hg
  rw[xN]at h
  simp only[xN]
  split at h
  ·rename_i hgo
   simp only[Qbp]at h
   obtain⟨ds,h1,h⟩:=h
   split at h
   ·rename_i hl
    obtain⟨o,h2,h3⟩:=mV hf hc hy hk h
    exact⟨o,by rw[if_pos hgo,h1,Qb3,if_pos hl];exact h2,h3⟩
   ·cases h
  ·rename_i hgo
   obtain⟨o,h2,h3⟩:=mV hf hc hy hk h
   exact⟨o,by rw[if_neg hgo];exact h2,h3⟩
 | .ite c t e, t', ρ, o', hg, h => by
  simp only[Tm.turn,Qbp,Qb8]at hg
  obtain⟨t1,ht,e1,he,rfl⟩:=hg
  rw[Gai]at h
  simp only[Gai]
  split at h
  ·exact mV hf hc hy ht h
  ·exact mV hf hc hy he h
  ·cases h
 | .bind i t k, t', ρ, o', hg, h => by
  simp only[Tm.turn]at hg
  cases hiy:Naq i out with
  | true =>
   rw[hiy,cond_true]at hg
   cases hn:t.no sel with
   |false=>rw[hn]at hg;cases hg
   | true =>
    rw[hn,cond_true,Qb8]at hg
    obtain⟨k',hk,rfl⟩:=hg
    simp only[uT,Qbp]at h
    obtain⟨o1,h1,h2⟩:=h
    simp only[uT,h1,Qb3]
    split at h2
    ·rename_i hy'
     rw[if_pos hy']
     exact mV hf hc hy hk h2
    ·rename_i hy'
     rw[if_neg hy']
     obtain rfl:=Option.some.inj h2
     exact⟨o1,rfl,.inr ⟨yZ hn h1,rfl⟩⟩
  | false =>
   rw[hiy,cond_false]at hg
   simp only[Qbp,Qb8]at hg
   obtain⟨t1,ht,k',hk,rfl⟩:=hg
   have hne:out≠.yield i:=fun e=>by rw[Sar.2 e]at hiy;cases hiy
   simp only[uT,Qbp]at h
   obtain⟨o1',h1,h2⟩:=h
   obtain⟨o1,h3,h4⟩:=mV hf hc hy ht h1
   simp only[uT,h3,Qb3]
   rcases h4 with ⟨h5,h6,h7⟩|⟨h5,h6⟩
   ·rw[if_neg (by rw[h6];exact hne)]at h2
    obtain rfl:=Option.some.inj h2
    have:o1.kind≠.yield i:=fun e=>by rw[e,hy]at h5;cases h5
    rw[if_neg this]
    exact⟨o1,rfl,.inl ⟨h5,h6,h7⟩⟩
   ·subst h6
    split at h2
    ·rename_i hy'
     rw[if_pos hy']
     exact mV hf hc hy hk h2
    ·rename_i hy'
     rw[if_neg hy']
     obtain rfl:=Option.some.inj h2
     exact⟨_,rfl,.inr ⟨h5,rfl⟩⟩
 | .loop init b, t', ρ, o', hg, h => by
  simp only[Tm.turn]at hg
  cases hic:Uaq out with
  | true =>
   rw[hic,cond_true]at hg
   cases hn:b.no sel with
   |false=>rw[hn]at hg;cases hg
   | true =>
    rw[hn,cond_true,Option.some.injEq]at hg
    subst hg
    exact⟨o',h,.inr ⟨yZ (t:=.loop init b) (f:=sel) hn h,rfl⟩⟩
  | false =>
   rw[hic,cond_false,Qb8]at hg
   obtain⟨b',hb,rfl⟩:=hg
   have hne:out≠.cont:=fun e=>by rw[Wac.2 e]at hic;cases hic
   rw[Oag]at h
   simp only[Oag]
   refine Bbp (C:=fun vs o'=>∃ o,Lc cf b ρ vs=some o/\((sel o.kind=true/\o'.kind=out/\∃ r,f o.ext=some r/\Ec cf r o.env=some o')\/(sel o.kind=false/\o'=o)))
    (fun vs o1' h1 hk=>?_) (fun vs o1' o2 h1 hk h2 h2'=>?_) h
   ·obtain⟨o1,h3,h4⟩:=mV hf hc hy hb h1
    rcases h4 with ⟨h5,h6,h7⟩|⟨h5,h6⟩
    ·have:o1.kind≠.cont:=fun e=>by rw[e,hc]at h5;cases h5
     exact⟨o1,by rw[Bbq,h3,Qb3,if_neg this],.inl ⟨h5,h6,h7⟩⟩
    ·subst h6
     exact⟨o1',by rw[Bbq,h3,Qb3,if_neg hk],.inr ⟨h5,rfl⟩⟩
   ·obtain⟨o1,h3,h4⟩:=mV hf hc hy hb h1
    rcases h4 with ⟨h5,h6,h7⟩|⟨h5,h6⟩
    ·exact absurd (h6.symm.trans hk) hne
    ·subst h6
     obtain⟨o,h8,h9⟩:=h2
     exact⟨o,by rw[Bbq,h3,Qb3,if_pos hk];exact h8,h9⟩
end
end Go.Proofs.YtdpfilpckndhcaaGreatDoor.Rf

namespace Go.Proofs.YtdpfilpckndhcaaGreatDoor.Rf
set_option linter.unusedVariables false
set_option linter.unusedSimpArgs false
def Bak (σ:Nat->Option aU)(N:Nat):Prop:=∀ k c,σ k=some c->eP N c=true
def Aaa (N:Nat)(ρ ρ':List D):Prop:=∀ x,bG N x=true->x.val ρ'=x.val ρ
theorem Aaa.ext {N:Nat}{ρ:List D}(h:N<=ρ.length)(e:List D):Aaa N ρ (ρ++e):=fun x hx=>uR hx h
section
variable {n:Nat} {F:bU} {σ:Nat->Option aU} {ρ ρ':List D} {a:Act} {w:World} {G:Gh} {N:Nat}
theorem Aaa.gOn (h:Aaa N ρ ρ'){g:Option (aM×Bool)}(hg:sH N g=true):Go.Proofs.YtdpfilpckndhcaaGreatDoor.Rf.gOn ρ' g=Go.Proofs.YtdpfilpckndhcaaGreatDoor.Rf.gOn ρ g:=by
 cases g with
 |none=>rfl
 | some z =>
  obtain⟨x,w⟩:=z
  simp only[sH]at hg
  simp only[Go.Proofs.YtdpfilpckndhcaaGreatDoor.Rf.gOn,h x hg]
theorem Aaa.path (h:Aaa N ρ ρ'){p:List (aM×Nat×Nat)}(hp:(p.all fun x=>bG N x.1)=true):bJ ρ' p=bJ ρ p:=by
 unfold bJ
 apply Sb7
 intro x hx
 rw[Rbg]at hp
 unfold mO
 rw[h x.1 (hp x hx)]
mutual
theorem aB.same (h:Aaa N ρ ρ'):∀ (l:aW) (v:Value),l.inScope N=true->aB σ ρ G w l v->aB σ ρ' G w l v
 |.dead,_,_,hl=>by simpa[aB] using hl
 | .sc x, v, hs, hl => by
  simp only[aW.inScope]at hs
  simp only[aB,h x hs]at hl ⊢
  exact hl
 | .su g x, v, hs, hl => by
  simp only[aW.inScope,Qbq]at hs
  have hg:Go.Proofs.YtdpfilpckndhcaaGreatDoor.Rf.gOn ρ' (some g)=Go.Proofs.YtdpfilpckndhcaaGreatDoor.Rf.gOn ρ (some g):=h.gOn (by obtain⟨y,b⟩:=g;exact hs.2)
  simp only[aB,h x hs.1,hg]at hl ⊢
  exact hl
 |.ex r,v,_,hl=>by simpa[aB] using hl
 | .sn deps p nie x, v, hs, hl => by
  simp only[aW.inScope,Qbq]at hs
  simp only[aB,h x hs.1]at hl ⊢
  refine⟨hl.1,fun hv=>?_⟩
  obtain⟨h1,h2,h3⟩:=hl.2 hv
  refine⟨h1,h2,?_⟩
  cases p with
  |no=>trivial
  |view=>exact h3
  | suf sz lo =>
   simp only[Jal,mO]at h3 ⊢
   rw[h lo hs.2]
   exact h3
  | path p =>
   simp only[Jal]at h3 ⊢
   rw[h.path hs.2]
   exact h3
 |.px b off,v,_,hl=>by simpa[aB] using hl
 | .pe l sz i off, v, hs, hl => by
  simp only[aW.inScope,Qbq]at hs
  simp only[aB,h i hs.2]at hl ⊢
  obtain⟨a,n,c,k,iv,h1,h2⟩:=hl
  exact⟨a,n,c,k,iv,aB.same h l _ hs.1 h1,h2⟩
 | .rp deps sz x, v, hs, hl => by
  simp only[aW.inScope]at hs
  simp only[aB,h x hs]at hl ⊢
  exact hl
 |.pn,v,_,hl=>by simpa[aB] using hl
 | .clo f caps, v, hs, hl => by
  simp only[aW.inScope]at hs
  simp only[aB]at hl ⊢
  obtain⟨vs,h1,h2⟩:=hl
  exact⟨vs,h1,aD.same h caps vs hs h2⟩
theorem aD.same (h:Aaa N ρ ρ'):∀ (ls:List aW) (vs:List Value),dE N ls=true->aD σ ρ G w ls vs->aD σ ρ' G w ls vs
 |[],vs,_,hl=>by simpa[aD] using hl
 | l :: ls, vs, hs, hl => by
  simp only[dE,Qbq]at hs
  simp only[aD]at hl ⊢
  obtain⟨u,us,e,h1,h2⟩:=hl
  exact⟨u,us,e,aB.same h l u hs.1 h1,aD.same h ls us hs.2 h2⟩
end
theorem jQ.same (h:Aaa N ρ ρ'):∀ (ts:List (Bool×List aW)) (us:List Value),(ts.all fun v=>dE N v.2)=true->jQ σ ρ G w ts us->jQ σ ρ' G w ts us
 |[],_,_,ht=>ht
 | (a, ls) :: r, us, hs, ht => by
  simp only[List.all_cons,Qbq]at hs
  obtain⟨u,us',vs,e,h1,h2,h3⟩:=ht
  exact⟨u,us',vs,e,aD.same h ls vs hs.1 h1,h2,jQ.same h r us' hs.2 h3⟩
theorem dV.same (h:Aaa N ρ ρ'){v:SV}{u:Value}(hs:Cao N v=true)(hv:dV σ ρ G w v u):dV σ ρ' G w v u:=by
 cases v with
 |dead=>trivial
 |one l=>exact aB.same h l u hs hv
 |agg ls=>obtain⟨vs,e,h1⟩:=hv;exact⟨vs,e,aD.same h ls vs hs h1⟩
 |tup ts=>obtain⟨us,e,h1⟩:=hv;exact⟨us,e,jQ.same h ts us hs h1⟩
theorem pV:∀ {ls:List aW} {j:Nat} {l:aW},dE N ls=true->ls[j]?=some l->l.inScope N=true
 |[],j,l,_,h=>by simp at h
 | m :: ls, 0, l, hs, h => by
  simp only[dE,Qbq]at hs
  simp only[Qb4,Option.some.injEq]at h
  rw[<- h];exact hs.1
 | m :: ls, j + 1, l, hs, h => by
  simp only[dE,Qbq]at hs
  exact pV hs.2 (by simpa using h)
theorem R.same (h:R n F σ ρ a w G)(hs:Bak σ N)(hv:Aaa N ρ ρ'):R n F σ ρ' a w G:=by
 refine⟨h.tmps,h.defers,fun k c hk=>?_,h.frame,h.rng⟩
 have hsc:=hs k c hk
 cases c with
 | slot g v =>
  simp only[eP,Qbq]at hsc
  obtain⟨t,e,h1⟩:=h.cont k _ hk
  exact⟨t,e,fun hg=>(h1 (by rw[<- hv.gOn hsc.1];exact hg)).same hv hsc.2⟩
 | box ro ls =>
  simp only[eP]at hsc
  obtain⟨b,e,h1,h2,h3⟩:=h.cont k _ hk
  refine⟨b,e,h1,h2,fun j l hj=>?_⟩
  obtain⟨v,h4,h5,h6⟩:=h3 j l hj
  exact⟨v,h4,h5,aB.same hv l v (pV hsc hj) h6⟩
 | root x m ver st =>
  simp only[eP]at hsc
  obtain⟨r,e,h0,h1⟩:=h.cont k _ hk
  refine⟨r,e,h0,?_⟩
  cases st with
  |live=>simp only[dJ]at h1 ⊢;rw[hv x hsc];exact h1
  |frozen=>simp only[dJ]at h1 ⊢;rw[hv x hsc];exact h1
  |gone=>trivial
  |fwd r'=>exact h1
theorem R.ext (h:R n F σ ρ a w G)(hs:Bak σ N)(hn:N<=ρ.length)(e:List D):R n F σ (ρ++e) a w G:=h.same hs (.ext hn e)
theorem eD {M:Nat}(h:N<=M){x:aM}(hx:bG N x=true):bG M x=true:=by
 cases x with
 |c d=>rfl
 |v i=>simp only[bG,Rb6]at hx ⊢;omega
theorem Iab {M:Nat}(h:N<=M){p:Pth}(hx:Ca8 N p=true):Ca8 M p=true:=by
 cases p with
 |no=>rfl
 |view=>rfl
 |suf sz lo=>exact eD h hx
 | path p =>
  simp only[Ca8,Rbg]at hx ⊢
  exact fun x hm=>eD h (hx x hm)
mutual
theorem rW {M:Nat}(h:N<=M):∀ (l:aW),l.inScope N=true->l.inScope M=true
 |.dead,_=>rfl
 |.sc x,hs=>by simp only[aW.inScope]at hs ⊢;exact eD h hs
 |.su g x,hs=>by simp only[aW.inScope,Qbq]at hs ⊢;exact⟨eD h hs.1,eD h hs.2⟩
 |.ex r,_=>rfl
 |.sn deps p nie x,hs=>by simp only[aW.inScope,Qbq]at hs ⊢;exact⟨eD h hs.1,Iab h hs.2⟩
 |.px b off,_=>rfl
 |.pe l sz i off,hs=>by simp only[aW.inScope,Qbq]at hs ⊢;exact⟨rW h l hs.1,eD h hs.2⟩
 |.rp deps sz x,hs=>by simp only[aW.inScope]at hs ⊢;exact eD h hs
 |.pn,_=>rfl
 |.clo f caps,hs=>by simp only[aW.inScope]at hs ⊢;exact iW h caps hs
theorem iW {M:Nat}(h:N<=M):∀ (ls:List aW),dE N ls=true->dE M ls=true
 |[],_=>rfl
 |l::ls,hs=>by simp only[dE,Qbq]at hs ⊢;exact⟨rW h l hs.1,iW h ls hs.2⟩
end
theorem zS {M:Nat}(h:N<=M){c:aU}(hs:eP N c=true):eP M c=true:=by
 cases c with
 | slot g v =>
  simp only[eP,Qbq]at hs ⊢
  refine⟨zN hs.1 h,?_⟩
  cases v with
  |dead=>rfl
  |one l=>exact rW h l hs.2
  |agg ls=>exact iW h ls hs.2
  | tup ts =>
   have h2:=hs.2
   simp only[Cao,Rbg]at h2 ⊢
   exact fun x hx=>iW h x.2 (h2 x hx)
 |box ro ls=>exact iW h ls hs
 |root x m ver st=>exact eD h hs
theorem Bak.mono {M:Nat}(hs:Bak σ N)(h:N<=M):Bak σ M:=fun k c hk=>zS h (hs k c hk)
theorem Bak.upds {M:Nat}(hs:Bak σ N)(h:N<=M){u:List (Nat×aU)}(hu:u.all (fun x=>eP M x.2)=true):Bak (upds σ u) M:=by
 intro k c hk
 rcases sW u σ k c hk with h1|⟨-,h1⟩
 ·rw[Rbg]at hu
  exact hu _ h1
 ·exact zS h (hs k c h1)
end
end Go.Proofs.YtdpfilpckndhcaaGreatDoor.Rf
