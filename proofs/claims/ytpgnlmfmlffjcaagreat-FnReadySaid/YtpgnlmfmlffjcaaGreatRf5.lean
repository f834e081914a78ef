/- Terms for the program's functions, and that they are right: part 5 of 10. -/
import Derived.Test.YtpgnlmfmlffjcaaGreatRf4
import Derived.Orders
open Array renaming getElem?_eq_getElem → Tb3, getD_eq_getD_getElem? → Tb8, getElem?_toList → Ubj
open Bool renaming and_eq_true → Sbu, not_eq_true' → Tbm, or_eq_true → Uba, not_true → Ub0, or_true → Vbk, false_or → Vbu
open List renaming length_cons → Sbw, length_append → Sby, mem_append_left → Sbz, getElem?_eq_getElem → Sb0, mem_append_right → Sb2, append_assoc → Sb3, getD_eq_getElem?_getD → Sb4, getElem?_cons_zero → Sb8, mem_singleton → Sb9, append_nil → Tbb, mem_cons_self → Tbe, getElem?_append_left → Tbj, all_eq_true → Tbp, nil_append → Tb2, mem_cons → Tb7, not_mem_nil → Ubp, mem_map_of_mem → Ubt, mem_range → Ub2, getElem?_set → Ub5, isEmpty_iff → Wbf, mem_filter → Wbl
open Nat renaming le_refl → Sb7, lt_or_ge → Tbi, add_zero → Tbs, zero_add → Tbt, beq_eq → Tbv, blt_eq → Ube, ble_eq → Ubf, blt → Ubs, testBit → Vbj, le_succ → Vb7, le_add_right → Wbk
open Option renaming bind_eq_some_iff → Sbt, bind_some → Sb6, map_some → Ubd, getD_some → Ub1
set_option linter.unusedSimpArgs false
set_option linter.unusedVariables false
set_option linter.unnecessarySimpa false
set_option linter.unusedSectionVars false
namespace Go.Proofs.YtpgnlmfmlffjcaaGreat.Rf
set_option linter.unusedVariables false
set_option linter.unusedSimpArgs false
theorem mem_range {x:Nat}:∀ {n a:Nat},x∈range a n↔a<=x/\x<a+n
 |0,a=>by simp[range]
 | n + 1, a => by
  simp only[range,Tb7,mem_range]
  omega
theorem yQ {nrT nrB r:Nat}(h:r<nrT):Abe nrT nrB r=r:=by
 unfold Abe
 have:Nat.ble nrT r=false:=by
  cases e:Nat.ble nrT r with
  |false=>rfl
  |true=>simp only[Ubf]at e;omega
 rw[this];rfl
theorem Sam {nrT nrB r:Nat}(h:nrT<=r):Abe nrT nrB r=nrB+(r-nrT):=by
 unfold Abe
 have:Nat.ble nrT r=true:=by simpa using h
 rw[this];rfl
def Aai (nr0 nrB nrT:Nat):Ow->Ow
 |.slc r p=>if r<nr0 then .slc r p else if nrB<=r then .slc (nrT+(r-nrB)) p else .oth
 |o=>o
theorem Cbm {nr0 nrB nrT:Nat}{o:Ow}{r:Nat}{p:List Nat}(h0:nr0<=nrT)(h:Aai nr0 nrB nrT o=.slc r p):o=.slc (Abe nrT nrB r) p:=by
 cases o with
 | slc s q =>
  simp only[Aai]at h
  split at h
  ·injection h with h1 h2
   subst h1 h2
   rw[yQ (by omega)]
  ·split at h
   ·injection h with h1 h2
    subst h1 h2
    rw[Sam (by omega)]
    congr 1
    omega
   ·cases h
 |_=>simp only[Aai]at h;cases h
theorem Mab {nr0 nrB nrT r:Nat}{p:List Nat}(h0:nr0<=nrT)(hB:nr0<=nrB)(hr:r<nr0\/nrT<=r):Aai nr0 nrB nrT (.slc (Abe nrT nrB r) p)=.slc r p:=by
 simp only[Aai]
 rcases hr with h|h
 ·rw[yQ (by omega),if_pos h]
 ·rw[Sam h,if_neg (by omega),if_pos (by omega)]
  congr 1
  omega
structure Gbn (τ:St) (σ:Nat->Option aW) (ρ' ρ:List D) (G' G:Gh) (N n:Nat) (xs:List aO) (nrT nrB nr0:Nat):Prop where
 at_:∀ x,bI N x=true->x.val ρ'=(San n xs x).val ρ
 le:nr0<=nrT
 leB:nr0<=nrB
 hdr:∀ r,G'.hdr r=G.hdr (Abe nrT nrB r)
 own:∀ b,G'.own b=Aai nr0 nrB nrT (G.own b)
 bx:G'.bx=G.bx
 valid:∀ r k,r<nr0->uJ τ.get r k->uJ σ r k
 live:∀ r k m,r<nr0->Hay τ.get r k m->Hay σ r k m
theorem Iag {τ:St}{nr0:Nat}:∀ {deps:List (Nat×Nat)},Vae τ nr0 deps=true->∀ z∈deps,z.1<nr0/\nS τ.get z.1 z.2
 |[],_,z,hz=>by simp at hz
 | (r, k) :: d, h, z, hz => by
  simp only[Vae,Sbu]at h
  rcases List.mem_cons.1 hz with rfl|hz
  ·refine⟨by simpa using h.1.1,?_⟩
   have h2:=h.1.2
   split at h2
   ·rename_i x m v e;exact⟨_,_,_,_,e,fun hs=>by rcases hs with hs|hs<;>cases hs⟩
   ·rename_i x m v r' e;exact⟨_,_,_,_,e,fun hs=>by rcases hs with hs|hs<;>cases hs⟩
   ·rename_i x m v st hn1 hn2 e;exact⟨_,_,_,_,e,fun _=>by simpa using h2⟩
   ·cases h2
  ·exact Iag h.2 z hz
section
variable {τ:St} {σ:Nat->Option aW} {ρ' ρ:List D} {G' G:Gh} {w:World} {N n:Nat} {xs:List aO} {nrT nrB nr0:Nat}
theorem Gbn.ownLow (h:Gbn τ σ ρ' ρ G' G N n xs nrT nrB nr0){b r:Nat}{p:List Nat}(hr:r<nr0)(hb:G.own b=.slc r p):G'.own b=.slc r p:=by
 rw[h.own,hb]
 have h1:Abe nrT nrB r=r:=yQ (by have:=h.le;omega)
 have h2:=Mab (p:=p) h.le h.leB (.inl hr:r<nr0\/nrT<=r)
 rw[h1]at h2
 exact h2
theorem Gbn.frz (h:Gbn τ σ ρ' ρ G' G N n xs nrT nrB nr0){b:Nat}(hb:G.own b=.frz):G'.own b=.frz:=by
 rw[h.own,hb];rfl
theorem Gbn.allow (h:Gbn τ σ ρ' ρ G' G N n xs nrT nrB nr0){deps:List (Nat×Nat)}(hd:∀ z∈deps,z.1<nr0){b:Nat}(hb:Go.Proofs.YtpgnlmfmlffjcaaGreat.Rf.allow G deps b):Go.Proofs.YtpgnlmfmlffjcaaGreat.Rf.allow G' deps b:=by
 rcases hb with hb|⟨r,k,p,hm,hb⟩
 ·exact .inl (h.frz hb)
 ·exact .inr ⟨r,k,p,hm,h.ownLow (hd _ hm) hb⟩
theorem Gbn.path (h:Gbn τ σ ρ' ρ G' G N n xs nrT nrB nr0){p:List (aO×Nat×Nat)}(hp:(p.all fun x=>bI N x.1)=true):bM ρ' p=bM ρ (p.map fun x=>(San n xs x.1,x.2)):=by
 unfold bM
 rw[List.map_map]
 apply List.map_congr_left
 intro x hx
 rw[Tbp]at hp
 simp only[Function.comp,pF,h.at_ x.1 (hp x hx)]
mutual
theorem aD.fit (h:Gbn τ σ ρ' ρ G' G N n xs nrT nrB nr0):∀ (l:aZ) (v:Value),l.inScope N=true->l.wf τ nr0=true->aD σ ρ G w (l.sub n xs nrT nrB) v->aD τ.get ρ' G' w l v
 |.dead,_,_,_,hl=>by simpa[aZ.sub,aD] using hl
 | .sc x, v, hs, _, hl => by
  simp only[aZ.inScope]at hs
  simp only[aZ.sub,aD]at hl ⊢
  rw[h.at_ x hs]
  exact hl
 | .su g x, v, hs, _, hl => by
  simp only[aZ.inScope,Sbu]at hs
  obtain⟨y,b⟩:=g
  simp only[aZ.sub,aD]at hl ⊢
  have hg:gOn ρ' (some (y,b))=gOn ρ (some (San n xs y,b)):=by simp only[gOn,h.at_ y hs.2]
  rw[h.at_ x hs.1,hg]
  exact hl
 | .ex r, v, _, hw, hl => by
  simp only[aZ.wf]at hw
  simp only[aZ.sub,aD]at hl ⊢
  exact⟨by rw[h.hdr];exact hl.1,hw,hl.2.2⟩
 | .sn deps p nie x, v, hs, hw, hl => by
  simp only[aZ.inScope,Sbu]at hs
  simp only[aZ.wf]at hw
  have hd:=Iag hw
  simp only[aZ.sub,aD]at hl ⊢
  rw[h.at_ x hs.1]
  refine⟨⟨hl.1.1,fun z hz=>(hd z hz).2⟩,fun hv=>?_⟩
  obtain⟨h1,h2,h3⟩:=hl.2 fun z hz=>h.valid _ _ (hd z hz).1 (hv z hz)
  refine⟨h1.mono fun b hb=>⟨h.allow (fun z hz=>(hd z hz).1) hb,rfl⟩,h2,?_⟩
  cases p with
  |no=>trivial
  | view =>
   intro r k m e hlv
   have hr:=(hd (r,k) (by simp[e])).1
   have:=(h3 r k m e (h.live r k m hr hlv)).mono (own':=G'.own) (w':=w) (q:=[]) (q':=[]) (r':=r) (fun b hb=>⟨h.frz hb,rfl⟩) [] rfl (fun b t hb=>⟨h.ownLow hr hb,rfl⟩)
   simpa using this
  | suf sz lo =>
   intro r k m e hlv
   have hr:=(hd (r,k) (by simp[e])).1
   have h4:=h3 r k m e (h.live r k m hr hlv)
   have h5:pF ρ' lo=pF ρ (San n xs lo):=by
    unfold pF
    rw[h.at_ lo hs.2]
   rw[h5]
   rw[h.hdr,yQ (by have:=h.le;omega)]
   exact h4
  | path p =>
   intro r k m e hlv
   have hr:=(hd (r,k) (by simp[e])).1
   obtain⟨h4,h5,h6⟩:=h3 r k m e (h.live r k m hr hlv)
   rw[h.path hs.2]
   rw[List.length_map]at h4 h5
   refine⟨h4,?_,?_⟩
   ·have:=h5.mono (own':=G'.own) (w':=w) (q:=[]) (q':=[]) (r':=r) (fun b hb=>⟨h.frz hb,rfl⟩) _ rfl (fun b t hb=>⟨h.ownLow hr hb,rfl⟩)
    rw[Tb2]at this
    exact this
   ·rw[h.hdr,yQ (by have:=h.le;omega)]
    exact Eas.mono _ _ _ _ _ (fun b t hb=>⟨h.ownLow hr hb,rfl⟩) h6
 | .px b off, v, _, hw, hl => by
  simp only[aZ.wf]at hw
  simp only[aZ.sub,aD]at hl ⊢
  exact⟨by rw[h.bx];exact hl.1,hw⟩
 | .pe l sz i off, v, hs, hw, hl => by
  simp only[aZ.inScope,Sbu]at hs
  simp only[aZ.wf]at hw
  simp only[aZ.sub,aD]at hl ⊢
  obtain⟨a,n,c,k,iv,h1,h2⟩:=hl
  exact⟨a,n,c,k,iv,aD.fit h l _ hs.1 hw h1,by rw[h.at_ i hs.2];exact h2⟩
 | .rp deps sz x, v, hs, hw, hl => by
  simp only[aZ.inScope]at hs
  simp only[aZ.wf]at hw
  have hd:=Iag hw
  simp only[aZ.sub,aD]at hl ⊢
  rw[h.at_ x hs]
  refine⟨⟨hl.1.1,fun z hz=>(hd z hz).2⟩,fun hv=>?_⟩
  rcases hl.2 fun z hz=>h.valid _ _ (hd z hz).1 (hv z hz) with h1|⟨a,row,h1,h2,h3⟩
  ·exact .inl h1
  ·exact .inr ⟨a,row,h1,h2,h3.mono fun b hb=>⟨h.allow (fun z hz=>(hd z hz).1) hb,rfl⟩⟩
 |.pn,v,_,_,hl=>by simpa[aZ.sub,aD] using hl
 | .clo f caps, v, hs, hw, hl => by
  simp only[aZ.inScope]at hs
  simp only[aZ.wf]at hw
  simp only[aZ.sub,aD]at hl ⊢
  obtain⟨vs,h1,h2⟩:=hl
  exact⟨vs,h1,aK.fit h caps vs hs hw h2⟩
theorem aK.fit (h:Gbn τ σ ρ' ρ G' G N n xs nrT nrB nr0):∀ (ls:List aZ) (vs:List Value),dH N ls=true->tT τ nr0 ls=true->aK σ ρ G w (kD n xs nrT nrB ls) vs->aK τ.get ρ' G' w ls vs
 |[],vs,_,_,hl=>by simpa[kD,aK] using hl
 | l :: ls, vs, hs, hw, hl => by
  simp only[dH,Sbu]at hs
  simp only[tT,Sbu]at hw
  simp only[kD,aK]at hl ⊢
  obtain⟨u,us,e,h1,h2⟩:=hl
  exact⟨u,us,e,aD.fit h l u hs.1 hw.1 h1,aK.fit h ls us hs.2 hw.2 h2⟩
end
theorem Cay:∀ {d d':List (Nat×Nat)},Bau d d'=true->d=d'
 |[],[],_=>rfl
 |[],_::_,h=>by simp[Bau]at h
 |_::_,[],h=>by simp[Bau]at h
 | (a, b) :: r, (a', b') :: r', h => by
  simp only[Bau,Sbu,Tbv]at h
  rw[h.1.1,h.1.2,Cay h.2]
theorem Ta8:∀ {d d':List (aO×Nat×Nat)},Oar d d'=true->d=d'
 |[],[],_=>rfl
 |[],_::_,h=>by simp[Oar]at h
 |_::_,[],h=>by simp[Oar]at h
 | (a, b, c) :: r, (a', b', c') :: r', h => by
  simp only[Oar,Sbu,Tbv]at h
  rw[aO.beq0_eq h.1.1.1,h.1.1.2,h.1.2,Ta8 h.2]
theorem Pth.beq0_eq {p q:Pth}(h:p.beq0 q=true):p=q:=by
 cases p<;>cases q<;>simp only[Pth.beq0]at h<;>first|rfl|cases h|skip
 ·rw[Ta8 h]
 ·simp only[Sbu,Tbv]at h
  rw[h.1,aO.beq0_eq h.2]
mutual
theorem aZ.beq0_eq:∀ {a b:aZ},a.beq0 b=true->a=b
 |.dead,b,h=>by cases b<;>first | rfl | (simp[aZ.beq0]at h)
 | .sc x, b, h => by
  cases b<;>simp only[aZ.beq0]at h<;>first|cases h|skip
  rw[aO.beq0_eq h]
 | .su g x, b, h => by
  cases b<;>simp only[aZ.beq0]at h<;>first|cases h|skip
  rename_i g' x'
  simp only[Sbu,beq_iff_eq]at h
  obtain⟨y,u⟩:=g
  obtain⟨y',u'⟩:=g'
  have h1:=aO.beq0_eq h.1.1
  have h2:u=u':=h.1.2
  dsimp only at h1
  rw[h1,h2,aO.beq0_eq h.2]
 | .ex r, b, h => by
  cases b<;>simp only[aZ.beq0]at h<;>first|cases h|skip
  simp only[Tbv]at h
  rw[h]
 | .sn d p e x, b, h => by
  cases b<;>simp only[aZ.beq0]at h<;>first|cases h|skip
  simp only[Sbu,beq_iff_eq]at h
  rw[Cay h.1.1.1,Pth.beq0_eq h.1.1.2,h.1.2,aO.beq0_eq h.2]
 | .px c o, b, h => by
  cases b<;>simp only[aZ.beq0]at h<;>first|cases h|skip
  simp only[Sbu,Tbv]at h
  rw[h.1,h.2]
 | .pe l s i o, b, h => by
  cases b<;>simp only[aZ.beq0]at h<;>first|cases h|skip
  simp only[Sbu,Tbv]at h
  rw[aZ.beq0_eq h.1.1.1,h.1.1.2,aO.beq0_eq h.1.2,h.2]
 | .rp d s x, b, h => by
  cases b<;>simp only[aZ.beq0]at h<;>first|cases h|skip
  simp only[Sbu,Tbv]at h
  rw[Cay h.1.1,h.1.2,aO.beq0_eq h.2]
 |.pn,b,h=>by cases b<;>first | rfl | (simp[aZ.beq0]at h)
 | .clo f l, b, h => by
  cases b<;>simp only[aZ.beq0]at h<;>first|cases h|skip
  simp only[Sbu,Tbv]at h
  rw[h.1,Gal h.2]
theorem Gal:∀ {a b:List aZ},xL a b=true->a=b
 |[],b,h=>by cases b<;>first | rfl | (simp[xL]at h)
 | a :: r, b, h => by
  cases b<;>simp only[xL]at h<;>first|cases h|skip
  simp only[Sbu]at h
  rw[aZ.beq0_eq h.1,Gal h.2]
end
theorem Bag {a b:aZ}(h:Cao a b=true){v:Value}(hb:aD σ ρ G w b v):aD σ ρ G w a v:=by
 unfold Cao at h
 split at h
 ·simp only[aD]
  exact hb.one h
 ·rename_i d x
  split at h
  ·rename_i d' p nie x'
   simp only[Sbu]at h
   obtain rfl:=Cay h.1
   obtain rfl:=aO.beq0_eq h.2
   simp only[aD]at hb ⊢
   exact⟨hb.1,fun hv=>⟨(hb.2 hv).1,(fun e=>absurd e (by decide)),trivial⟩⟩
  ·cases h
 ·rw[aZ.beq0_eq h];exact hb
theorem Gai:∀ {a b:List aZ},gJ a b=true->∀ {vs:List Value},aK σ ρ G w b vs->aK σ ρ G w a vs
 |[],[],_,vs,hb=>hb
 |[],_::_,h,vs,hb=>by simp[gJ]at h
 |_::_,[],h,vs,hb=>by simp[gJ]at h
 | a :: r, b :: s, h, vs, hb => by
  simp only[gJ,Sbu]at h
  simp only[aK]at hb ⊢
  obtain⟨u,us,e,h1,h2⟩:=hb
  exact⟨u,us,e,Bag h.1 h1,Gai h.2 h2⟩
theorem Gaj:∀ {a b:List aZ},gJ a b=true->a.length=b.length
 |[],[],_=>rfl
 |[],_::_,h=>by simp[gJ]at h
 |_::_,[],h=>by simp[gJ]at h
 | a :: r, b :: s, h => by
  simp only[gJ,Sbu]at h
  simp[Gaj h.2]
theorem Gak:∀ {a b:List aZ},gJ a b=true->∀ {j:Nat} {l:aZ},a[j]?=some l->∃ m,b[j]?=some m/\Cao l m=true
 |[],[],_,j,l,hj=>by simp at hj
 |[],_::_,h,_,_,_=>by simp[gJ]at h
 |_::_,[],h,_,_,_=>by simp[gJ]at h
 | a :: r, b :: s, h, j, l, hj => by
  simp only[gJ,Sbu]at h
  cases j with
  | zero =>
   simp only[Sb8,Option.some.injEq]at hj
   subst hj
   exact⟨b,rfl,h.1⟩
  |succ j=>exact Gak h.2 (by simpa using hj)
theorem Gah:∀ {ls:List aZ} {j:Nat} {l:aZ},ls[j]?=some l->(kD n xs nrT nrB ls)[j]?=some (l.sub n xs nrT nrB)
 |[],j,l,h=>by simp at h
 | m :: ls, 0, l, h => by
  simp only[Sb8,Option.some.injEq]at h
  subst h;rfl
 | m :: ls, j + 1, l, h => by
  simp only[kD,List.getElem?_cons_succ]at h ⊢
  exact Gah h
theorem Gag:∀ {ls:List aZ},(kD n xs nrT nrB ls).length=ls.length
 |[]=>rfl
 |m::ls=>by simp[kD,Gag (ls:=ls)]
theorem Ia5:∀ {ls:List aZ} {j:Nat} {l:aZ},tT τ nr0 ls=true->ls[j]?=some l->l.wf τ nr0=true
 |[],j,l,_,h=>by simp at h
 | m :: ls, 0, l, hs, h => by
  simp only[tT,Sbu]at hs
  simp only[Sb8,Option.some.injEq]at h
  rw[<- h];exact hs.1
 | m :: ls, j + 1, l, hs, h => by
  simp only[tT,Sbu]at hs
  exact Ia5 hs.2 (by simpa using h)
end
theorem Eac {s:St}{k:Nat}{c:aW}(h:s.get k=some c):(∃ t,k=kT t/\t<s.nt)\/(∃ b,k=kB b/\b<s.nb)\/(∃ r,k=kR r/\r<s.nr):=by
 unfold St.get at h
 cases hk:Ear s.nt s.nb s.nr k with
 |false=>rw[hk]at h;cases h
 | true =>
  unfold Ear at hk
  cases b0:Nat.beq (k % 3) 0 with
  | true =>
   rw[b0,cond_true,Ube]at hk
   simp only[Tbv]at b0
   exact .inl ⟨k / 3,by unfold kT;omega,hk⟩
  | false =>
   rw[b0,cond_false]at hk
   have n0:k % 3≠0:=fun e=>by rw[e]at b0;cases b0
   cases b1:Nat.beq (k % 3) 1 with
   | true =>
    rw[b1,cond_true,Ube]at hk
    simp only[Tbv]at b1
    exact .inr (.inl ⟨k / 3,by unfold kB;omega,hk⟩)
   | false =>
    rw[b1,cond_false,Ube]at hk
    have n1:k % 3≠1:=fun e=>by rw[e]at b1;cases b1
    exact .inr (.inr ⟨k / 3,by unfold kR;omega,hk⟩)
theorem zK {n:Nat}{xs:List aO}{nrT nrB:Nat}{τ s:St}:∀ {ks:List Nat},Gap n xs nrT nrB τ s ks=true->∀ k∈ks,dP n xs nrT nrB (τ.get k) (s.get k)=true
 |[],_,k,hk=>by simp at hk
 | k' :: ks, h, k, hk => by
  simp only[Gap,Sbu]at h
  rcases List.mem_cons.1 hk with rfl|hk
  ·exact h.1
  ·exact zK h.2 k hk
theorem Gaq {n:Nat}{xs:List aO}{nrT nrB:Nat}{τ s:St}:∀ {ks:List Nat},Gar n xs nrT nrB τ s ks=true->∀ r∈ks,dP n xs nrT nrB (τ.get (kR r)) (s.get (kR (Abe nrT nrB r)))=true
 |[],_,k,hk=>by simp at hk
 | k' :: ks, h, k, hk => by
  simp only[Gar,Sbu]at h
  rcases List.mem_cons.1 hk with rfl|hk
  ·exact h.1
  ·exact Gaq h.2 k hk
theorem Hai {τ:St}{nr0:Nat}:∀ {ks:List Nat},Kal τ nr0 ks=true->∀ k∈ks,yD τ nr0 k (τ.get k)=true
 |[],_,k,hk=>by simp at hk
 | k' :: ks, h, k, hk => by
  simp only[Kal,Sbu]at h
  rcases List.mem_cons.1 hk with rfl|hk
  ·exact h.1
  ·exact Hai h.2 k hk
theorem Oay {τ:St}:∀ {ks:List Nat},Abt τ ks=true->∀ k∈ks,τ.get k=none
 |[],_,k,hk=>by simp at hk
 | k' :: ks, h, k, hk => by
  simp only[Abt,Sbu,Option.isNone_iff_eq_none]at h
  rcases List.mem_cons.1 hk with rfl|hk
  ·exact h.1
  ·exact Oay h.2 k hk
structure Had (E:Env) (s0:St) (nrT len:Nat) (τ:St):Prop where
 nv:τ.nv=s0.nv+len
 nt1:E.ntmps<=τ.nt
 nt2:τ.nt<=E.ntmps+E.ngh
 nr:τ.nr=nrT+len
 le:s0.nr<=nrT
 none:∀ r,s0.nr<=r->r<nrT->τ.get (kR r)=none
 wf:∀ k c,τ.get k=some c->yD τ s0.nr k (some c)=true
theorem Dav {E:Env}{s0:St}{nrT len:Nat}{τ:St}(h:Iat E s0 nrT len τ=true):Had E s0 nrT len τ:=by
 simp only[Iat,Sbu,Tbv,Ubf]at h
 obtain⟨⟨⟨⟨⟨⟨h1,h2⟩,h3⟩,h4⟩,h5⟩,h6⟩,h7⟩:=h
 have hnone:∀ r,s0.nr<=r->r<nrT->τ.get (kR r)=Option.none:=fun r ha hb =>
  Oay h6 _ (List.mem_map.2 ⟨r,mem_range.2 ⟨ha,by omega⟩,rfl⟩)
 refine⟨h1,h2,h3,h4,h5,hnone,fun k c hk=>?_⟩
 have:k∈(range 0 τ.nt).map kT++(range 0 τ.nb).map kB++((range 0 s0.nr++range nrT len).map kR):=by
  rcases Eac hk with ⟨t,rfl,ht⟩|⟨b,rfl,hb⟩|⟨r,rfl,hr⟩
  ·exact Sbz _ (Sbz _ (List.mem_map.2 ⟨t,mem_range.2 ⟨by omega,by omega⟩,rfl⟩))
  ·exact Sbz _ (Sb2 _ (List.mem_map.2 ⟨b,mem_range.2 ⟨by omega,by omega⟩,rfl⟩))
  ·refine Sb2 _ (List.mem_map.2 ⟨r,?_,rfl⟩)
   rcases Tbi r s0.nr with h8|h8
   ·exact Sbz _ (mem_range.2 ⟨by omega,by omega⟩)
   ·rcases Tbi r nrT with h9|h9
    ·rw[hnone r h8 h9]at hk;cases hk
    ·exact Sb2 _ (mem_range.2 ⟨h9,by omega⟩)
 have:=Hai h7 k this
 rw[hk]at this
 exact this
theorem zT {τ:St}{nr0 k:Nat}{c:aW}(h:yD τ nr0 k (some c)=true):fD τ.nv c=true:=by
 simp only[yD,Sbu]at h
 exact h.1
theorem Had.inScope {E:Env}{s0:St}{nrT len:Nat}{τ:St}(h:Had E s0 nrT len τ):Daq τ.get τ.nv:=fun k c hk=>zT (h.wf k c hk)
theorem Rak {n:Nat}{xs:List aO}{nrT nrB:Nat}{x:aO}{m v:Nat}{st:RSt}{c:Option aW}(h:dP n xs nrT nrB (some (.root x m v st)) c=true) :
  st=.gone\/∃ x',c=some (.root x' m v st)/\San n xs x=x':=by
 cases st with
 |gone=>exact .inl rfl
 | _ =>
  right
  cases c with
  |none=>simp[dP]at h
  | some c =>
   cases c with
   | root x' m' v' st' =>
    simp only[dP,Sbu,Tbv,Fa2,decide_eq_true_eq]at h
    exact⟨x',by rw[h.1.1.1,h.1.1.2,h.1.2],aO.beq0_eq h.2⟩
   |_=>simp[dP]at h
theorem Vaf {n:Nat}{xs:List aO}{nrT nrB:Nat}{l:aZ}{c:Option aW}(h:dP n xs nrT nrB (some (.slot none (.one l))) c=true) :
  ∃ b,c=some (.slot none (.one b))/\Cao (l.sub n xs nrT nrB) b=true:=by
 cases c with
 |none=>simp[dP]at h
 | some c =>
  cases c with
  | slot g v =>
   cases g with
   |some g=>simp[dP]at h
   |none=>cases v<;>first | exact⟨_,rfl,by simpa[dP] using h⟩ | simp[dP]at h
  |_=>simp[dP]at h
theorem Vag {n:Nat}{xs:List aO}{nrT nrB:Nat}{l:List aZ}{c:Option aW}(h:dP n xs nrT nrB (some (.slot none (.agg l))) c=true) :
  ∃ b,c=some (.slot none (.agg b))/\gJ (kD n xs nrT nrB l) b=true:=by
 cases c with
 |none=>simp[dP]at h
 | some c =>
  cases c with
  | slot g v =>
   cases g with
   |some g=>simp[dP]at h
   |none=>cases v<;>first | exact⟨_,rfl,by simpa[dP] using h⟩ | simp[dP]at h
  |_=>simp[dP]at h
theorem Jan {n:Nat}{xs:List aO}{nrT nrB:Nat}{ro:Bool}{l:List aZ}{c:Option aW}(h:dP n xs nrT nrB (some (.box ro l)) c=true) :
  ∃ b,c=some (.box ro b)/\gJ (kD n xs nrT nrB l) b=true:=by
 cases c with
 |none=>simp[dP]at h
 | some c =>
  cases c with
  | box ro' b =>
   simp only[dP,Sbu,beq_iff_eq]at h
   exact⟨b,by rw[h.1],h.2⟩
  |_=>simp[dP]at h
theorem Lbn (t:Nat):kT t % 3=0:=by unfold kT;omega
theorem Uai (t:Nat):kB t % 3=1:=by unfold kB;omega
theorem Uah (t:Nat):kR t % 3=2:=by unfold kR;omega
theorem Qao {s:St}{k:Nat}{c:aW}(h:s.get k=some c)(hm:Nat.beq (k % 3) 0=true):∃ t,k=kT t/\t<s.nt:=by
 rw[Tbv]at hm
 rcases Eac h with h|⟨b,rfl,hb⟩|⟨r,rfl,hr⟩
 ·exact h
 ·rw[Uai]at hm;omega
 ·rw[Uah]at hm;omega
theorem Mb4 {s:St}{k:Nat}{c:aW}(h:s.get k=some c)(hm:Nat.beq (k % 3) 1=true):∃ t,k=kB t/\t<s.nb:=by
 rw[Tbv]at hm
 rcases Eac h with ⟨b,rfl,hb⟩|h|⟨r,rfl,hr⟩
 ·rw[Lbn]at hm;omega
 ·exact h
 ·rw[Uah]at hm;omega
theorem Hbr {s:St}{k:Nat}{c:aW}(h:s.get k=some c)(hm:Nat.beq (k % 3) 2=true):∃ t,k=kR t/\t<s.nr:=by
 rw[Tbv]at hm
 rcases Eac h with ⟨b,rfl,hb⟩|⟨r,rfl,hr⟩|h
 ·rw[Lbn]at hm;omega
 ·rw[Uai]at hm;omega
 ·exact h
theorem R.fit {E:Env}{F:cB}{τ s s0:St}{ρ0 e:List D}{a:Act}{w:World}{G:Gh}{xs:List aO}{nrT nrB len:Nat}
  (hR:R E.ntmps F s.get (ρ0++e) a w G) (hn:ρ0.length=s0.nv) (hxs:xs.length=len) (hτ:Had E s0 nrT len τ)
  (hfit:sV E s0.nv xs s0.nr nrT nrB len τ s=true) (hle:s0.nr<=nrB):∃ G',R E.ntmps F τ.get (ρ0++xs.map (·.val (ρ0++e))) a w G':=by
 simp only[sV,Sbu]at hfit
 obtain⟨hf1,hf2⟩:=hfit
 have hslot:∀ t,t<τ.nt->dP s0.nv xs nrT nrB (τ.get (kT t)) (s.get (kT t))=true:=fun t ht =>
  zK hf1 _ (Sbz _ (List.mem_map.2 ⟨t,mem_range.2 ⟨by omega,by have:=hτ.nt2;omega⟩,rfl⟩))
 have hbox:∀ b,b<τ.nb->dP s0.nv xs nrT nrB (τ.get (kB b)) (s.get (kB b))=true:=fun b hb =>
  zK hf1 _ (Sb2 _ (List.mem_map.2 ⟨b,mem_range.2 ⟨by omega,by omega⟩,rfl⟩))
 have hroot:∀ r,r<s0.nr\/(nrT<=r/\r<nrT+len)->dP s0.nv xs nrT nrB (τ.get (kR r)) (s.get (kR (Abe nrT nrB r)))=true:=fun r hr =>
  Gaq hf2 r (by
   rcases hr with hr|hr
   ·exact Sbz _ (mem_range.2 ⟨by omega,by omega⟩)
   ·exact Sb2 _ (mem_range.2 hr))
 have hrk:∀ r c,τ.get (kR r)=some c->r<s0.nr\/(nrT<=r/\r<nrT+len):=by
  intro r c hk
  rcases Eac hk with ⟨t,e,_⟩|⟨t,e,_⟩|⟨r',e,hr⟩
  ·exact absurd e.symm kU
  ·exact absurd e.symm iX
  ·obtain rfl:=iB e
   rw[hτ.nr]at hr
   rcases Tbi r s0.nr with h1|h1
   ·exact .inl h1
   ·rcases Tbi r nrT with h2|h2
    ·rw[hτ.none r h1 h2]at hk;cases hk
    ·exact .inr ⟨h2,hr⟩
 have hstand:∀ r x m v st,τ.get (kR r)=some (.root x m v st)->st=.live\/st=.frozen->∃ x',s.get (kR (Abe nrT nrB r))=some (.root x' m v st)/\San s0.nv xs x=x':=by
  intro r x m v st hk hst
  have h1:=hroot r (hrk r _ hk)
  rw[hk]at h1
  rcases Rak h1 with h2|h2
  ·rw[h2]at hst
   rcases hst with h|h<;>cases h
  ·exact h2
 let ρs:=ρ0++e
 let G':Gh:={ own:=fun b=>Aai s0.nr nrB nrT (G.own b),hdr:=fun r=>G.hdr (Abe nrT nrB r),bx:=G.bx }
 have hat:∀ x,bI τ.nv x=true->x.val (ρ0++xs.map (·.val ρs))=(San s0.nv xs x).val ρs:=by
  intro x hx
  cases x with
  |c d=>rfl
  | v i =>
   simp only[bI,Ube]at hx
   rw[hτ.nv]at hx
   simp only[San]
   cases hb:Ubs i s0.nv with
   | true =>
    simp only[Ube]at hb
    simp only[cond_true,aO.val,Sb4,ρs]
    rw[Tbj (by omega),Tbj (by omega)]
   | false =>
    have hge:s0.nv<=i:=by
     rcases Tbi i s0.nv with h|h
     ·rw[<- Ube,hb]at h;cases h
     ·exact h
    simp only[cond_false]
    have hlt:i-s0.nv<xs.length:=by omega
    rw[Sb4,Sb0 hlt,Ub1]
    simp only[aO.val,Sb4]
    rw[List.getElem?_append_right (by omega),List.getElem?_map,hn,Sb0 hlt]
    rfl
 have H:Gbn τ s.get (ρ0++xs.map (·.val ρs)) ρs G' G τ.nv s0.nv xs nrT nrB s0.nr:=by
  refine⟨hat,hτ.le,hle,fun _=>rfl,fun _=>rfl,rfl,fun r k hr hv=>?_,fun r k m hr hv=>?_⟩
  ·obtain⟨x,m,st,hk,hst⟩:=hv
   obtain⟨x',h1,-⟩:=hstand r x m k st hk hst
   rw[yQ (by have:=hτ.le;omega)]at h1
   exact⟨x',m,st,h1,hst⟩
  ·obtain⟨x,hk⟩:=hv
   obtain⟨x',h1,-⟩:=hstand r x m k .live hk (.inl rfl)
   rw[yQ (by have:=hτ.le;omega)]at h1
   exact⟨x',h1⟩
 refine⟨G',hR.tmps,hR.defers,fun k c hk=>?_,?_,fun b ls hk hb ho=>?_⟩
 ·have hwf:=hτ.wf k c hk
  have hsc:=zT hwf
  cases c with
  | slot g v =>
   cases g with
   |some g=>simp[yD]at hwf
   | none =>
    cases v with
    | dead =>
     simp only[yD,Sbu]at hwf
     obtain⟨t,rfl,ht⟩:=Qao hk hwf.2
     exact⟨t,rfl,fun _=>trivial⟩
    | one l =>
     simp only[yD,Sbu]at hwf
     obtain⟨t,rfl,ht⟩:=Qao hk hwf.2.1
     refine⟨t,rfl,fun _=>?_⟩
     have h1:=hslot t ht
     rw[hk]at h1
     obtain⟨b,h2,h3⟩:=Vaf h1
     have h4:aD s.get ρs G w b _:=hR.slot h2 rfl
     simp only[fD,Fap,Sbu]at hsc
     exact aD.fit H l _ hsc.2 hwf.2.2 (Bag h3 h4)
    | agg ls =>
     simp only[yD,Sbu]at hwf
     obtain⟨t,rfl,ht⟩:=Qao hk hwf.2.1
     refine⟨t,rfl,fun _=>?_⟩
     have h1:=hslot t ht
     rw[hk]at h1
     obtain⟨b,h2,h3⟩:=Vag h1
     obtain⟨vs,h4,h5⟩:eB s.get ρs G w (.agg b) _:=hR.slot h2 rfl
     simp only[fD,Fap,Sbu]at hsc
     exact⟨vs,h4,aK.fit H ls _ hsc.2 hwf.2.2 (Gai h3 h5)⟩
    |tup ts=>simp[yD]at hwf
  | box ro ls =>
   simp only[yD,Sbu]at hwf
   obtain⟨b,rfl,hb⟩:=Mb4 hk hwf.2.1
   have h1:=hbox b hb
   rw[hk]at h1
   obtain⟨bs,h2,h3⟩:=Jan h1
   obtain⟨h4,h5,h6⟩:=hR.box h2
   refine⟨b,rfl,h4,?_,fun j l hj=>?_⟩
   ·show Aai _ _ _ _=_
    rw[h5]
    cases ro<;>rfl
   ·obtain⟨m,h7,h8⟩:=Gak h3 (Gah hj)
    obtain⟨v,h9,h10,h11⟩:=h6 j m h7
    simp only[fD]at hsc
    exact⟨v,h9,h10,aD.fit H l v (sQ hsc hj) (Ia5 hwf.2.2 hj) (Bag h8 h11)⟩
  | root x m ver st =>
   have hm:Nat.beq (k % 3) 2=true:=by
    cases st<;>simp only[yD,Sbu]at hwf<;>first|exact hwf.2|(exact absurd hwf.2 (by decide))
   obtain⟨r,rfl,hr⟩:=Hbr hk hm
   have hrr:=hrk r _ hk
   refine⟨r,rfl,by rw[hk];rfl,?_⟩
   simp only[fD]at hsc
   have hrr':r<s0.nr\/nrT<=r:=hrr.imp id (·.1)
   cases st with
   | live =>
    obtain⟨x',h1,h2⟩:=hstand r x m ver .live hk (.inl rfl)
    have h3:=hR.root h1
    simp only[dJ]at h3 ⊢
    rw[hat x hsc,h2]
    have:=h3.mono (own':=G'.own) (w':=w) (q:=[]) (q':=[]) (r':=r) (fun b hb=>⟨H.frz hb,rfl⟩) [] rfl (fun b t hb=>⟨by
     show Aai _ _ _ _=_
     rw[hb]
     exact Mab hτ.le hle hrr',rfl⟩)
    simpa using this
   | frozen =>
    obtain⟨x',h1,h2⟩:=hstand r x m ver .frozen hk (.inr rfl)
    obtain⟨h3,h4⟩:=hR.root h1
    simp only[dJ]
    rw[hat x hsc,h2]
    refine⟨h3.mono fun b hb=>⟨H.frz hb,rfl⟩,fun b p hb=>?_⟩
    exact h4 b p (Cbm hτ.le hb)
   |gone=>trivial
   |fwd r'=>simp[yD]at hwf
 ·refine⟨hR.frame.os,hR.frame.tape,hR.frame.output,hR.frame.size,fun b hb ho=>?_,fun b j hb ho=>?_,fun b hb=>?_⟩
  ·obtain⟨h1,h2⟩:=hR.frame.keep b hb ho
   refine⟨h1,?_⟩
   show Aai _ _ _ _=_
   rw[h2]
   rcases ho with ho|ho<;>rw[ho]<;>rfl
  ·obtain⟨h1,h2⟩:=hR.frame.boxes b j hb ho
   refine⟨?_,h2⟩
   show Aai _ _ _ _=_
   rw[h1];rfl
  ·show Aai _ _ _ _=_
   rw[hR.frame.fresh b hb];rfl
 ·have h1:=hbox b (by
   rcases Eac hk with ⟨t,e,_⟩|⟨t,e,ht⟩|⟨r',e,hr⟩
   ·exact absurd e.symm rO
   ·obtain rfl:=Ia6 e;exact ht
   ·exact absurd e iX)
  rw[hk]at h1
  obtain⟨bs,h2,h3⟩:=Jan h1
  have h4:=hR.rng b bs h2 hb ho
  rw[h4,<- Gaj h3,Gag]
end Go.Proofs.YtpgnlmfmlffjcaaGreat.Rf

namespace Go.Proofs.YtpgnlmfmlffjcaaGreat.Rf
set_option linter.unusedVariables false
set_option linter.unusedSimpArgs false
def Ebj (draw:Bool)(s:St)(r:dG):St:={ (s.puts r.upd) with nv:=s.nv+bZ r.lets,nb:=s.nb+1,nr:=Xav draw s.nr r.upd }
inductive Ra2 (E:Env) (draw:Bool) (rid:Nat) (ops:List Oper):Nat->List Oper->St->List OpI->St->Prop
 |nil (i:Nat) (s:St):Ra2 E draw rid ops i [] s [] s
 | cons {i : Nat} {o : Oper} {os : List Oper} {s : St} {g : Option (aO × Bool)} {r : dG} {log : List Nat} {is : List OpI} {s' : St} (mv mvs : Bool)
   (h1:(pM E ops mv mvs s.nv s.nb s.nr o).run s.get=some ((g,r),log)) (h2:Hbn s g r=true)
   (h3:Ra2 E draw rid ops (i+1) os (Ebj draw s r) is s'):Ra2 E draw rid ops i (o::os) s (⟨g,r,log,s.nb,s.nr⟩::is) s'
theorem Kas {E:Env}{draw:Bool}{rid:Nat}{ops:List Oper}:∀ {os:List Oper} {i:Nat} {s:St} {acc is:List OpI} {s':St},Dbm E draw rid ops i os s acc=.inl (is,s') ->
  ∃ js,is=acc.reverse++js/\Ra2 E draw rid ops i os s js s'
 | [], i, s, acc, is, s', h => by
  simp only[Dbm,Sum.inl.injEq,Prod.mk.injEq]at h
  obtain⟨rfl,rfl⟩:=h
  exact⟨[],by simp,.nil i s⟩
 | o :: os, i, s, acc, is, s', h => by
  simp only[Dbm]at h
  split at h
  ·rename_i g r log hrun
   cases hok:Hbn s g r with
   |false=>rw[hok]at h;simp at h
   | true =>
    rw[hok]at h
    simp only[Ub0,cond_false]at h
    obtain⟨js,h1,h2⟩:=Kas h
    exact⟨⟨g,r,log,s.nb,s.nr⟩::js,by rw[h1];simp,.cons _ _ hrun hok h2⟩
  ·cases h
structure Nad (E:Env) (s:St):Prop where
 nt:E.ntmps<=s.nt
 sc:Daq s.get s.nv
def Ra1 (cf:Nat->List D->Option (List D))(ρ:List D):Nat->List OpI->Prop
 |_,[]=>True
 |nv,a::r=>aR cf ρ a.g nv a.res.lets/\Ra1 cf ρ (nv+bZ a.res.lets) r
def Eap (P:Program)(E:Env)(F:cB)(cf:Nat->List D->Option (List D)):Prop :=
 ∀ (σ:Nat->Option aW) (ρ:List D) (a:Act) (w:World) (G:Gh) (g:Option (aO×Bool)) (o:Oper) (Q:Exit->Act->World->Prop) (mv mvs:Bool) (nv nb nr:Nat) (res:dG) (f:Operand) (args:Array Operand) (argTypes:Array TypeId),
  R E.ntmps F σ ρ a w G->iJ E.ntmps o->Haf σ nb nr->o.op=.call { callee:=.value f,args,argTypes } ->
  (vT E mv mvs nv nb nr g o).eval σ=some res->res.upd.all (fun x=>Ca6 E.ntmps nb nr x.1)=true->aR cf ρ g nv res.lets->jR P E F σ ρ a w g o Q res.upd
section
variable {P:Program} {E:Env} {F:cB} {cf:Nat->List D->Option (List D)} {draw:Bool}
theorem Oax {s:St}{g:Option (aO×Bool)}{r:dG}(h:Hbn s g r=true) :
  vC s.nv g=true/\gU s.nv r.lets=true/\r.upd.all (fun x=>fD (s.nv+bZ r.lets) x.2)=true:=by
 simp only[Hbn,Sbu]at h
 exact⟨h.1.1.2,h.1.2,h.2⟩
theorem Qad {ops:List Oper}{mv mvs:Bool}{s:St}{o:Oper}{g:Option (aO×Bool)}{r:dG}{log:List Nat}(hi:E.ntmps<=s.nt)
  (h1:(pM E ops mv mvs s.nv s.nb s.nr o).run s.get=some ((g,r),log)) (h2:Hbn s g r=true):(Ebj draw s r).get=upds s.get r.upd:=by
 funext k
 exact Hbm h2 hi (nA (RdM.run_eval h1)).2.2.2 draw _ k
theorem Nad.next {ops:List Oper}{mv mvs:Bool}{s:St}{o:Oper}{g:Option (aO×Bool)}{r:dG}{log:List Nat}(hi:Nad E s)
  (h1:(pM E ops mv mvs s.nv s.nb s.nr o).run s.get=some ((g,r),log)) (h2:Hbn s g r=true):Nad E (Ebj draw s r):=by
 refine⟨?_,?_⟩
 ·show E.ntmps<=(s.puts r.upd).nt
  rw[(lD r.upd s).2.2.2];exact hi.nt
 ·rw[Qad hi.nt h1 h2]
  exact hi.sc.upds (Wbk ..) (Oax h2).2.2
theorem Bb0 {rid:Nat}{ops:List Oper}{i:Nat}{os:List Oper}{s s':St}{is:List OpI}(hc:Ra2 E draw rid ops i os s is s') :
  ∀ {s'':St} {ρ:List D} {o:Out St},s''.nv=s'.nv->ρ.length=s.nv->Ec cf (Kaw (.leaf .fall [] s'') is) ρ=some o ->
  o.kind=.fall/\o.ext=s''/\o.env.length=s'.nv/\(∃ ds,o.env=ρ++ds)/\∀ ext,Ra1 cf (o.env++ext) s.nv is:=by
 induction hc with
 | nil i s =>
  intro s'' ρ o hv hl h
  simp only[Kaw,jB,Option.some.injEq]at h
  subst h
  exact⟨rfl,rfl,hl,⟨[],by simp⟩,fun _=>trivial⟩
 | cons mv mvs h1 h2 h3 ih =>
  rename_i i o' os s g r log is s'
  intro s'' ρ o hv hl h
  simp only[Kaw]at h
  obtain⟨hg,hs,-⟩:=Oax h2
  obtain⟨ds,h4,h5,h6⟩:=Aap (by rw[hl];exact hg) (by rw[hl];exact hs) h
  obtain⟨h7,h8,h9,⟨es,h10⟩,h11⟩:=ih hv (by rw[Sby,h4,hl];rfl) h5
  refine⟨h7,h8,h9,⟨ds++es,by rw[h10,Sb3]⟩,fun ext=>⟨?_,h11 ext⟩⟩
  have:=h6 (es++ext)
  rw[hl]at this
  rw[h10]
  simpa[Sb3] using this
theorem Fb9 {rid:Nat}{ops:List Oper}{i:Nat}{os:List Oper}{s s':St}{is:List OpI}(hc:Ra2 E draw rid ops i os s is s')(hi:Nad E s):Nad E s':=by
 induction hc with
 |nil i s=>exact hi
 |cons mv mvs h1 h2 h3 ih=>exact ih (hi.next h1 h2)
theorem Nad.trim {lo:Nat}{d:Bool}{s:St}(h:Nad E s):Nad E (trimS d lo s) :=
 ⟨by rw[Caa.2.2];exact h.nt,by rw[Sab,Caa.1];exact h.sc⟩
theorem Gba {rid:Nat}{ops:List Oper}{i:Nat}{os:List Oper}{s s':St}{is:List OpI}(hc:Ra2 E draw rid ops i os s is s'):∀ o∈os,iJ E.ntmps o:=by
 induction hc with
 |nil i s=>simp
 | cons mv mvs h1 h2 h3 ih =>
  intro o ho
  rcases List.mem_cons.1 ho with rfl|ho
  ·exact (nA (RdM.run_eval h1)).2.1
  ·exact ih o ho
theorem Rbg (hti:Aaj P E.ti)(hcalls:Eap P E F cf){ops:Array Oper}(hds:∀ o∈ops.toList,iJ E.ntmps o){mv mvs:Bool}{s:St}{o:Oper}{g:Option (aO×Bool)}{r:dG}{ρ:List D}{a:Act}{w:World}{G:Gh}{Q:Exit->Act->World->Prop}
  {σ:Nat->Option aW} (hf:Haf σ s.nb s.nr)
  (hR:R E.ntmps F σ ρ a w G) (h1:(pM E ops.toList mv mvs s.nv s.nb s.nr o).eval σ=some (g,r)) (hst:aR cf ρ g s.nv r.lets):Obb P E F σ ρ ops o Q r.upd a w:=by
 refine Fas hR hti hds hf h1 hst fun f args argTypes ho=>?_
 obtain⟨h2,h3,h4,h5⟩:=nA h1
 rw[Oac ho]at h4
 exact hcalls σ ρ a w G g o Q mv mvs s.nv s.nb s.nr r f args argTypes hR h3 hf ho h4 h5 hst
theorem Fb8 (hti:Aaj P E.ti)(hcalls:Eap P E F cf){rid:Nat}{ops:Array Oper}(hds:∀ o∈ops.toList,iJ E.ntmps o){Q:Exit->Act->World->Prop}{i:Nat}{os:List Oper}{s s':St}{is:List OpI}(hc:Ra2 E draw rid ops.toList i os s is s') :
  ∀ {ρ:List D} {a:Act} {w:World} {G:Gh},ops.toList.drop i=os->R E.ntmps F s.get ρ a w G->Nad E s->Ra1 cf ρ s.nv is ->
  (∀ a' w' G',R E.ntmps F s'.get ρ a' w' G'->Q .normal a' w')->wpOps P ops Q (List.range' i os.length) a w:=by
 induction hc with
 | nil i s =>
  intro ρ a w G hdr hR hi hst hQ
  exact hQ a w G hR
 | cons mv mvs h1 h2 h3 ih =>
  rename_i i o os s g r log is s'
  intro ρ a w G hdr hR hi hst hQ
  have hget:ops[i]?=some o:=by
   rw[<- Ubj]
   have:(ops.toList.drop i)[0]?=some o:=by rw[hdr];rfl
   rwa[List.getElem?_drop,Tbs]at this
  rw[Sbw,List.range'_succ,wpOps_cons]
  unfold wpOp
  rw[hget]
  have hgo:=Rbg (Q:=Q) hti hcalls hds Uax hR (RdM.run_eval h1) hst.1
  have hnx:∀ a w,Nx E.ntmps F s.get ρ r.upd a w->wpOps P ops Q (List.range' (i+1) os.length) a w:=by
   intro a' w' ⟨G',hR'⟩
   rw[<- Qad hi.nt h1 h2]at hR'
   exact ih (by rw[<- List.drop_drop,hdr];rfl) hR' (hi.next h1 h2) hst.2 hQ
  unfold Obb at hgo
  dsimp only
  split
  ·rename_i hw
   rw[if_pos hw]at hgo
   exact .inl (Oper.wp_mono hnx hgo)
  ·rename_i hw
   rw[if_neg hw]at hgo
   exact hnx _ _ hgo
end
end Go.Proofs.YtpgnlmfmlffjcaaGreat.Rf

namespace Go.Proofs.YtpgnlmfmlffjcaaGreat.Rf
set_option linter.unusedVariables false
set_option linter.unusedSimpArgs false
theorem uV {a b:List Nat}(h:meets a b=false){k:Nat}(ha:k∈a):k∉b:=by
 intro hb
 have:meets a b=true:=by
  unfold meets
  rw[List.any_eq_true]
  exact⟨k,ha,rC.2 hb⟩
 rw[h]at this
 cases this
theorem Kan {acc:List Nat}:∀ {es:List Edge} {m b:Nat},Vbj (Dar acc es m) b=true->Vbj m b=true\/∃ e∈es,Region.binds .any e=true/\(b=e.on\/Vbj (acc.getD e.on 0) b=true)
 |[],m,b,h=>.inl h
 | e :: es, m, b, h => by
  have h':Vbj (Dar acc es (bif Region.binds .any e then (m ||| 2 ^ e.on) ||| acc.getD e.on 0 else m)) b=true:=h
  rcases Kan (es:=es) h' with h1|⟨e',he',h1⟩
  ·cases hb:Region.binds .any e with
   |false=>rw[hb,cond_false]at h1;exact .inl h1
   | true =>
    rw[hb,cond_true]at h1
    simp only[Nat.testBit_or,Uba,Nat.testBit_two_pow,decide_eq_true_eq]at h1
    rcases h1 with (h1|h1)|h1
    ·exact .inl h1
    ·exact .inr ⟨e,Tbe,hb,.inl h1.symm⟩
    ·exact .inr ⟨e,Tbe,hb,.inr h1⟩
  ·exact .inr ⟨e',List.mem_cons_of_mem _ he',h1⟩
theorem Kam:∀ {os:List Oper} {acc:List Nat} {i w:Nat},acc[i]?=some w->(waits os acc)[i]?=some w
 |[],_,_,_,h=>h
 | o :: os, acc, i, w, h => by
  refine Kam (os:=os) ?_
  rw[Tbj (List.getElem?_eq_some_iff.1 h).1]
  exact h
theorem Ra9:∀ {os:List Oper} {acc:List Nat} {p w:Nat} {o:Oper},os[p]?=some o->(waits os acc)[acc.length+p]?=some w->∀ b,Vbj w b=true ->
  ∃ e∈o.after.toList,Region.binds .any e=true/\(b=e.on\/∃ w',(waits os acc)[e.on]?=some w'/\Vbj w' b=true)
 |[],acc,p,w,o,ho,_,_,_=>by simp at ho
 | o' :: os, acc, 0, w, o, ho, hw, b, hb => by
  simp only[Sb8,Option.some.injEq]at ho
  subst ho
  have h1:(acc++[Dar acc o'.after.toList 0])[acc.length]?=some (Dar acc o'.after.toList 0):=by simp
  have h2:=Kam (os:=os) h1
  simp only[waits,Tbs]at hw
  rw[h2]at hw
  obtain rfl:=Option.some.inj hw
  rcases Kan hb with h3|⟨e,he,h4,h5⟩
  ·simp at h3
  ·refine⟨e,he,h4,h5.imp id fun h6=>?_⟩
   rw[Sb4]at h6
   cases ha:acc[e.on]? with
   |none=>rw[ha]at h6;simp at h6
   | some w' =>
    rw[ha,Ub1]at h6
    have hlt:=(List.getElem?_eq_some_iff.1 ha).1
    exact⟨w',Kam (os:=os) (by rw[Tbj hlt];exact ha),h6⟩
 | o' :: os, acc, p + 1, w, o, ho, hw, b, hb => by
  have:=Ra9 (os:=os) (acc:=acc++[Dar acc o'.after.toList 0]) (p:=p) (w:=w) (o:=o) (by simpa using ho) (by
   simp only[Sby,List.length_singleton]
   simp only[waits]at hw
   rw[<- hw]
   congr 1
   omega) b hb
  exact this
theorem Jab {a:OpI}{i:Nat}:∀ {bs:List OpI} {ws:List Nat},Gao a i bs ws=true->∀ {q:Nat} {b:OpI},bs[q]?=some b->∃ w,ws[q]?=some w/\(Vbj w i=true\/wG a b=true)
 |[],_,_,q,b,h=>by simp at h
 |_::_,[],h,_,_,_=>by simp[Gao]at h
 | b :: bs, w :: ws, h, q, b', hq => by
  simp only[Gao,Sbu,Uba]at h
  cases q with
  | zero =>
   simp only[Sb8,Option.some.injEq]at hq
   subst hq
   exact⟨w,rfl,h.1⟩
  |succ q=>exact Jab h.2 (by simpa using hq)
theorem Gaa:∀ {is:List OpI} {ws:List Nat} {i:Nat},Aa7 is ws i=true->∀ {p q:Nat} {a b:OpI},p<q->is[p]?=some a->is[q]?=some b ->
  ∃ w,ws[q]?=some w/\(Vbj w (i+p)=true\/wG a b=true)
 |[],_,_,_,p,q,a,b,_,hp,_=>by simp at hp
 | x :: is, ws, i, h, p, q, a, b, hpq, hp, hq => by
  simp only[Aa7,Sbu]at h
  cases q with
  |zero=>omega
  | succ q =>
   cases p with
   | zero =>
    simp only[Sb8,Option.some.injEq]at hp
    subst hp
    obtain⟨w,h1,h2⟩:=Jab h.1 (q:=q) (by simpa using hq)
    exact⟨w,by rw[List.getElem?_tail]at h1;exact h1,h2⟩
   | succ p =>
    obtain⟨w,h1,h2⟩:=Gaa h.2 (p:=p) (q:=q) (by omega) (by simpa using hp) (by simpa using hq)
    exact⟨w,by rw[List.getElem?_tail]at h1;exact h1,by rw[show i+(p+1)=i+1+p by omega];exact h2⟩
theorem Jaj:∀ {os:List Oper} {i:Nat},Gay os i=true->∀ {p:Nat} {o:Oper},os[p]?=some o->∀ e∈o.after.toList,Region.binds .any e=true->e.on<i+p
 |[],_,_,p,o,h,_,_,_=>by simp at h
 | x :: os, i, h, p, o, hp, e, he, hb => by
  simp only[Gay,Sbu,Tbp,Uba,Tbm,Ube]at h
  cases p with
  | zero =>
   simp only[Sb8,Option.some.injEq]at hp
   subst hp
   rcases h.1 e he with h1|h1
   ·rw[hb]at h1;cases h1
   ·omega
  | succ p =>
   have:=Jaj h.2 (p:=p) (by simpa using hp) e he hb
   omega
def sig (D:Nat->Bool):Nat->List OpI->(Nat->Option aW)->Nat->Option aW
 |_,[],σ=>σ
 |i,a::r,σ=>sig D (i+1) r (bif D i then upds σ a.res.upd else σ)
def Wr (a:OpI)(k:Nat):Prop:=∃ c,(k,c)∈a.res.upd
theorem Paq {a:OpI}{σ:Nat->Option aW}{k:Nat}(h:¬ Wr a k):upds σ a.res.upd k=σ k:=gZ _ _ _ fun c hc=>h ⟨c,hc⟩
theorem Fau {D D':Nat->Bool}{k:Nat}:∀ {is:List OpI} {i:Nat} {σ σ':Nat->Option aW},(∀ p a,is[p]?=some a->Wr a k->D (i+p)=D' (i+p))->σ k=σ' k->sig D i is σ k=sig D' i is σ' k
 |[],i,σ,σ',_,h=>h
 | a :: r, i, σ, σ', hd, h => by
  simp only[sig]
  refine Fau (fun p b hb hw=>?_) ?_
  ·have:=hd (p+1) b (by simpa using hb) hw
   rw[show i+(p+1)=i+1+p by omega]at this
   exact this
  ·by_cases hw:Wr a k
   ·have:=hd 0 a rfl hw
    rw[Tbs]at this
    rw[this]
    cases D' i with
    |false=>exact h
    |true=>exact wQ _ _ _ _ h
   ·have e:∀ (x:Bool) (τ:Nat->Option aW),(bif x then upds τ a.res.upd else τ) k=τ k:=by
     intro x τ
     cases x with
     |false=>rfl
     |true=>exact Paq hw
    rw[e,e];exact h
theorem Aax {D:Nat->Bool}{k:Nat}:∀ {is:List OpI} {i:Nat} {σ:Nat->Option aW},(∀ p a,is[p]?=some a->Wr a k->D (i+p)=false)->sig D i is σ k=σ k
 |[],i,σ,_=>rfl
 | a :: r, i, σ, hd => by
  simp only[sig]
  rw[Aax fun p b hb hw=>by
   have:=hd (p+1) b (by simpa using hb) hw
   rw[show i+(p+1)=i+1+p by omega]at this
   exact this]
  by_cases hw:Wr a k
  ·have:=hd 0 a rfl hw
   rw[Tbs]at this
   rw[this];rfl
  ·cases D i with
   |false=>rfl
   |true=>exact Paq hw
theorem Abj {D:Nat->Bool}{k:Nat}:∀ {is:List OpI} {i p:Nat} {a:OpI} {σ τ:Nat->Option aW},is[p]?=some a->D (i+p)=true->Wr a k->(∀ q b,p<q->is[q]?=some b->Wr b k->D (i+q)=false) ->
  sig D i is σ k=upds τ a.res.upd k
 |[],i,p,a,σ,τ,hp,_,_,_=>by simp at hp
 | x :: r, i, 0, a, σ, τ, hp, hD, hw, hq => by
  simp only[Sb8,Option.some.injEq]at hp
  subst hp
  rw[Tbs]at hD
  simp only[sig]
  rw[Aax fun q b hb hwb=>by
   have:=hq (q+1) b (by omega) (by simpa using hb) hwb
   rw[show i+(q+1)=i+1+q by omega]at this
   exact this,hD,cond_true]
  exact Jay _ _ _ _ hw
 | x :: r, i, p + 1, a, σ, τ, hp, hD, hw, hq => by
  simp only[sig]
  refine Abj (p:=p) (by simpa using hp) (by rw[show i+1+p=i+(p+1) by omega];exact hD) hw fun q b hpq hb hwb=>?_
  have:=hq (q+1) b (by omega) (by simpa using hb) hwb
  rw[show i+(q+1)=i+1+q by omega]at this
  exact this
section
variable {P:Program} {E:Env} {F:cB} {cf:Nat->List D->Option (List D)}
theorem Abi {D:Nat->Bool}{is:List OpI}{i:Nat}{σ:Nat->Option aW}(h:∀ q,i<=q->D q=false):sig D i is σ=σ :=
 funext fun k=>Aax fun p a _ _=>h _ (Wbk ..)
structure At (E:Env) (ops:List Oper) (cf:Nat->List D->Option (List D)) (ρ:List D) (σ0:Nat->Option aW) (i0:Nat) (is:List OpI) (p:Nat) (o:Oper) (a:OpI) (s0:St):Prop where
 run:∃ mv mvs nv,(pM E ops mv mvs nv a.nb a.nr o).run (sig (fun q=>decide (q<i0+p)) i0 is σ0)=some ((a.g,a.res),a.log)/\aR cf ρ a.g nv a.res.lets
 nb:a.nb=s0.nb+p
 nr:a.nr=s0.nr+dO*p
theorem Ibj {rid:Nat}{ops:List Oper}{i:Nat}{os:List Oper}{s s':St}{is:List OpI}(hc:Ra2 E true rid ops i os s is s') :
  ∀ {ρ:List D},Nad E s->Ra1 cf ρ s.nv is->is.length=os.length/\s'.get=sig (fun _=>true) i is s.get/\∀ p o,os[p]?=some o->∃ a,is[p]?=some a/\At E ops cf ρ s.get i is p o a s:=by
 induction hc with
 |nil i s=>exact fun _ _=>⟨rfl,rfl,by simp⟩
 | cons mv mvs h1 h2 h3 ih =>
  rename_i i o os s g r log is s'
  intro ρ hi hst
  obtain⟨h4,h5,h6⟩:=ih (hi.next h1 h2) hst.2
  have hg:=Qad (draw:=true) hi.nt h1 h2
  refine⟨by simp[h4],?_,fun p o' hp=>?_⟩
  ·rw[h5,hg];rfl
  ·cases p with
   | zero =>
    simp only[Sb8,Option.some.injEq]at hp
    subst hp
    refine⟨_,rfl,⟨mv,mvs,s.nv,?_,hst.1⟩,rfl,rfl⟩
    rw[Tbs,Abi fun q hq=>by simpa using hq]
    exact h1
   | succ p =>
    obtain⟨a,h7,h8⟩:=h6 p o' (by simpa using hp)
    refine⟨a,by simpa using h7,?_,?_,?_⟩
    ·obtain⟨mv',mvs',nv',h9,h10⟩:=h8.run
     refine⟨mv',mvs',nv',?_,h10⟩
     simp only[sig]
     have:(decide (i<i+(p+1)):Bool)=true:=by simp
     rw[this,cond_true,<- hg,show i+(p+1)=i+1+p by omega]
     exact h9
    ·rw[h8.nb];show s.nb+1+p=_;omega
    ·rw[h8.nr]
     show s.nr+dO+dO*p=_
     rw[Nat.mul_succ];omega
theorem Abz {a:OpI}{n nb nr k:Nat}(h:a.res.upd.all (fun x=>Ca6 n nb nr x.1)=true)(hw:Wr a k):Ca6 n nb nr k=true:=by
 obtain⟨c,hc⟩:=hw
 rw[Tbp]at h
 exact h _ hc
theorem Ebz {n nb nr b:Nat}(h:Ca6 n nb nr (kB b)=true):b<=nb:=by
 unfold Ca6 at h
 rw[Uai]at h
 have:kB b / 3=b:=by unfold kB;omega
 rw[this]at h
 simpa using h
theorem Ha3 {n nb nr r:Nat}(h:Ca6 n nb nr (kR r)=true):r<nr+dO:=by
 unfold Ca6 at h
 rw[Uah]at h
 have:kR r / 3=r:=by unfold kR;omega
 rw[this]at h
 simpa using h
structure Lb1 (E:Env) (ops:Array Oper) (cf:Nat->List D->Option (List D)) (ρ:List D) (s:St) (is:List OpI):Prop where
 len:is.length=ops.size
 at_:∀ p o,ops.toList[p]?=some o->∃ a,is[p]?=some a/\At E ops.toList cf ρ s.get 0 is p o a s
 free:∀ p q a b,p<q->is[p]?=some a->is[q]?=some b->(∃ w,(waits ops.toList [])[q]?=some w/\Vbj w p=true)\/wG a b=true
 low:∀ p o,ops.toList[p]?=some o->∀ e∈o.after.toList,Region.binds .any e=true->e.on<p
 dst:∀ o∈ops.toList,iJ E.ntmps o
def dn (l:Array Bool)(q:Nat):Bool:=l.getD q false
def Closed (ops:Array Oper)(l:Array Bool):Prop:=∀ q w p,dn l q=true->(waits ops.toList [])[q]?=some w->Vbj w p=true->dn l p=true
theorem apart_spec {a b:OpI}(h:wG a b=true):(∀ k,Wr a k->k∉b.log)/\(∀ k,Wr a k->¬ Wr b k)/\(∀ k,k∈a.log->¬ Wr b k)/\∀ k,Wr b k->Qau a k=false:=by
 simp only[wG,Sbu,Tbm]at h
 obtain⟨⟨⟨h1,h2⟩,h3⟩,h4⟩:=h
 have key:∀ {x:OpI} {k:Nat},Wr x k↔k∈x.res.upd.map (·.1):=by
  intro x k
  simp only[List.mem_map]
  constructor
  ·rintro⟨c,hc⟩;exact⟨_,hc,rfl⟩
  ·rintro⟨⟨k',c⟩,hc,rfl⟩;exact⟨c,hc⟩
 refine⟨fun k hk=>uV h1 (key.1 hk),fun k hk hb=>uV h2 (key.1 hk) (key.1 hb),fun k hk hb=>uV h3 hk (key.1 hb),fun k hk=>?_⟩
 rw[List.any_eq_false]at h4
 simpa using h4 k (key.1 hk)
theorem Xar:∀ {l:List Bool} {i:Nat},l[i]?=some false->(l.set i true).count false+1=l.count false
 |[],i,h=>by simp at h
 | b :: l, 0, h => by
  simp only[Sb8,Option.some.injEq]at h
  subst h
  simp
 | b :: l, i + 1, h => by
  have:=Xar (l:=l) (i:=i) (by simpa using h)
  simp only[List.set_cons_succ,List.count_cons]
  omega
theorem Oan {ops:Array Oper}{l:Array Bool}{i:Nat}(hl:l.size=ops.size)(h:i∈Region.ready .any ops l) :
  ∃ o,ops[i]?=some o/\l[i]?=some false/\∀ e∈o.after.toList,Region.binds .any e=true->dn l e.on=true:=by
 unfold Region.ready at h
 rw[Wbl,Ub2]at h
 obtain⟨h1,h2⟩:=h
 simp only[Sbu,Tbm]at h2
 have ho:ops[i]?=some ops[i]:=Tb3 h1
 rw[ho,Ubd,Ub1]at h2
 refine⟨_,ho,?_,fun e he hb=>?_⟩
 ·have h3:=h2.1
  rw[Tb8]at h3
  have hlt:i<l.size:=by omega
  rw[Tb3 hlt,Ub1]at h3
  rw[Tb3 hlt,h3]
 ·have h3:=h2.2
  rw[<- Array.all_toList,Tbp]at h3
  have:=h3 e he
  rw[hb]at this
  simpa[dn] using this
theorem ready_nil {ops:Array Oper}{l:Array Bool}(hl:l.size=ops.size)(hlow:∀ p o,ops.toList[p]?=some o->∀ e∈o.after.toList,Region.binds .any e=true->e.on<p)
  (h:Region.ready .any ops l=[]):∀ q,q<ops.size->dn l q=true:=by
 intro q
 induction q using Nat.strongRecOn with
 | _ q ih =>
  intro hq
  cases hd:dn l q with
  |true=>rfl
  | false =>
   exfalso
   have ho:ops[q]?=some ops[q]:=Tb3 hq
   have:q∈Region.ready .any ops l:=by
    unfold Region.ready
    rw[Wbl,Ub2]
    refine⟨hq,?_⟩
    simp only[Sbu,Tbm]
    refine⟨?_,?_⟩
    ·have hlt:q<l.size:=by omega
     unfold dn at hd
     rw[Tb8,Tb3 hlt,Ub1]at hd ⊢
     exact hd
    ·rw[ho,Ubd,Ub1,<- Array.all_toList,Tbp]
     intro e he
     cases hb:Region.binds .any e with
     |false=>rfl
     | true =>
      have hlt:=hlow q _ (by rw[Ubj];exact ho) e he hb
      have:=ih e.on hlt (by omega)
      simpa[dn] using this
   rw[h]at this
   simp at this
theorem Bbb {l:Array Bool}{i:Nat}(hi:i<l.size)(q:Nat):dn (l.setIfInBounds i true) q=(decide (q=i)||dn l q):=by
 unfold dn
 rw[Tb8,Tb8,Array.getElem?_setIfInBounds]
 by_cases h:i=q
 ·subst h
  simp[hi]
 ·rw[if_neg h]
  have:(decide (q=i):Bool)=false:=by simp;exact fun e=>h e.symm
  rw[this,Vbu]
theorem Ibb (hti:Aaj P E.ti)(hcalls:Eap P E F cf){ops:Array Oper}{s:St}{is:List OpI}{ρ:List D}(hd:Lb1 E ops cf ρ s is){Q:Exit->Act->World->Prop}
  (hQ:∀ a' w' G',R E.ntmps F (sig (fun _=>true) 0 is s.get) ρ a' w' G'->Q .normal a' w') :
  ∀ (fuel:Nat) (l:Array Bool) (a:Act) (w:World) (G:Gh),l.size=ops.size->l.toList.count false<=fuel->Closed ops l->R E.ntmps F (sig (dn l) 0 is s.get) ρ a w G ->
  wpAny P .any ops Q fuel l a w:=by
 have hdone:∀ (l:Array Bool) (a:Act) (w:World) (G:Gh),l.size=ops.size->R E.ntmps F (sig (dn l) 0 is s.get) ρ a w G->Region.ready .any ops l=[]->Q .normal a w:=by
  intro l a w G hl hR hr
  have hall:=ready_nil hl hd.low hr
  refine hQ a w G ?_
  have:sig (fun _=>true) 0 is s.get=sig (dn l) 0 is s.get:=by
   funext k
   refine Fau (fun p a hp _=>?_) rfl
   have hlt:=(List.getElem?_eq_some_iff.1 hp).1
   rw[hd.len]at hlt
   rw[hall _ (by omega)]
  rw[this];exact hR
 intro fuel
 induction fuel with
 | zero =>
  intro l a w G hl hcnt hcl hR
  have hnil:Region.ready .any ops l=[]:=by
   cases hr:Region.ready .any ops l with
   |nil=>rfl
   | cons i r =>
    exfalso
    obtain⟨o,h1,h2,h3⟩:=Oan hl (by rw[hr];exact Tbe:i∈Region.ready .any ops l)
    rw[<- Ubj]at h2
    have:=Xar h2
    omega
  exact⟨hnil,hdone l a w G hl hR hnil⟩
 | succ fuel ih =>
  intro l a w G hl hcnt hcl hR
  refine⟨hdone l a w G hl hR,fun i hi=>?_⟩
  obtain⟨o,ho,hli,hedges⟩:=Oan hl hi
  have hoL:ops.toList[i]?=some o:=by rw[Ubj];exact ho
  have hil:i<l.size:=by
   rw[<- Ubj]at hli
   have:=(List.getElem?_eq_some_iff.1 hli).1
   simpa using this
  obtain⟨ai,hai,hat⟩:=hd.at_ i o hoL
  obtain⟨mv,mvs,nv,hrun,hst⟩:=hat.run
  have hni:dn l i=false:=by
   unfold dn
   rw[Tb8,hli];rfl
  have hwait:∀ w p,(waits ops.toList [])[i]?=some w->Vbj w p=true->dn l p=true:=by
   intro w' p hw hb
   obtain⟨e,he,hbe,h1⟩:=Ra9 (acc:=[]) (p:=i) hoL (by simpa using hw) p hb
   rcases h1 with h1|⟨w'',h1,h2⟩
   ·rw[h1];exact hedges e he hbe
   ·exact hcl e.on w'' p (hedges e he hbe) h1 h2
  have hbefore:∀ p b,p<i->is[p]?=some b->dn l p=false->wG b ai=true:=by
   intro p b hpi hb hnd
   rcases hd.free p i b ai hpi hb hai with ⟨w',h1,h2⟩|h
   ·rw[hwait w' p h1 h2]at hnd;cases hnd
   ·exact h
  have hbehind:∀ q b,i<q->is[q]?=some b->dn l q=true->wG ai b=true:=by
   intro q b hiq hb hdq
   rcases hd.free i q ai b hiq hai hb with ⟨w',h1,h2⟩|h
   ·rw[hcl q w' i hdq h1 h2]at hni;cases hni
   ·exact h
  have hsame:∀ k∈ai.log,sig (dn l) 0 is s.get k=sig (fun q=>decide (q<0+i)) 0 is s.get k:=by
   intro k hk
   refine Fau (fun p b hb hw=>?_) rfl
   rw[Tbt,Tbt]
   rcases Nat.lt_trichotomy p i with h|h|h
   ·have e:(decide (p<i):Bool)=true:=by simpa using h
    rw[e]
    cases hdp:dn l p with
    |true=>rfl
    |false=>exact absurd hk ((apart_spec (hbefore p b h hb hdp)).1 k hw)
   ·subst h
    rw[hni];simp
   ·have e:(decide (p<i):Bool)=false:=by simp;omega
    rw[e]
    cases hdp:dn l p with
    |false=>rfl
    |true=>exact absurd hw ((apart_spec (hbehind p b h hb hdp)).2.2.1 k hk)
  have hrun':=RdM.run_eval (RdM.run_same hrun hsame)
  have hkeys:∀ (p:Nat) (b:OpI),is[p]?=some b->∃ nv' ,b.res.upd.all (fun x=>Ca6 E.ntmps (s.nb+p) (s.nr+dO*p) x.1)=true/\nv'=nv:=by
   intro p b hb
   have hlt:=(List.getElem?_eq_some_iff.1 hb).1
   have hop:ops.toList[p]?=some ops.toList[p]!:=by
    rw[List.getElem!_eq_getElem?_getD,Sb0 (by simpa[<- hd.len] using hlt)]
    rfl
   obtain⟨b',hb',hat'⟩:=hd.at_ p _ hop
   rw[hb]at hb'
   obtain rfl:=Option.some.inj hb'
   obtain⟨mv',mvs',nv',hr',-⟩:=hat'.run
   have:=(nA (RdM.run_eval hr')).2.2.2
   rw[hat'.nb,hat'.nr]at this
   exact⟨nv,this,rfl⟩
  have hfresh0:Haf (sig (dn l) 0 is s.get) ai.nb ai.nr:=by
   have hf:=Uax (s:=s)
   refine⟨?_,fun j hj1 hj2=>?_⟩
   ·rw[Aax fun p b hb hw=>?_]
    ·rw[hat.nb]
     unfold St.get Ear kB
     have e:(3*(s.nb+i)+1) % 3=1:=by omega
     have e2:(3*(s.nb+i)+1) / 3=s.nb+i:=by omega
     rw[e,e2]
     have:Ubs (s.nb+i) s.nb=false:=by
      cases hb:Ubs (s.nb+i) s.nb with
      |false=>rfl
      |true=>simp only[Ube]at hb;omega
     rw[this];rfl
    ·rw[Tbt]
     obtain⟨_,hk,-⟩:=hkeys p b hb
     have h1:=Ebz (Abz hk hw)
     rw[hat.nb]at h1
     rcases Nat.lt_trichotomy p i with h|h|h
     ·omega
     ·rw[h];exact hni
     ·cases hdp:dn l p with
      |false=>rfl
      | true =>
       have:=(apart_spec (hbehind p b h hb hdp)).2.2.2 _ hw
       unfold Qau at this
       rw[Uai]at this
       have e2:kB ai.nb / 3=ai.nb:=by unfold kB;omega
       rw[e2]at this
       simp at this
   ·rw[Aax fun p b hb hw=>?_]
    ·unfold St.get Ear kR
     have e:(3*j+2) % 3=2:=by omega
     have e2:(3*j+2) / 3=j:=by omega
     rw[e,e2]
     have:Ubs j s.nr=false:=by
      cases hb:Ubs j s.nr with
      |false=>rfl
      |true=>simp only[Ube]at hb;rw[hat.nr]at hj1;omega
     rw[this];rfl
    ·rw[Tbt]
     obtain⟨_,hk,-⟩:=hkeys p b hb
     have h1:=Ha3 (Abz hk hw)
     rcases Nat.lt_trichotomy p i with h|h|h
     ·rw[hat.nr]at hj1
      have:dO*(p+1)<=dO*i:=Nat.mul_le_mul_left _ h
      rw[Nat.mul_succ]at this
      omega
     ·rw[h];exact hni
     ·cases hdp:dn l p with
      |false=>rfl
      | true =>
       have:=(apart_spec (hbehind p b h hb hdp)).2.2.2 _ hw
       unfold Qau at this
       rw[Uah]at this
       have e2:kR j / 3=j:=by unfold kR;omega
       rw[e2]at this
       have e3:Nat.ble ai.nr j=true:=by simpa using hj1
       have e4:Ubs j (ai.nr+dO)=true:=by simpa using hj2
       rw[e3,e4]at this
       simp at this
  have hgo:Obb P E F (sig (dn l) 0 is s.get) ρ ops o Q ai.res.upd a w:=by
   refine Fas hR hti hd.dst hfresh0 hrun' hst fun f args argTypes hoc=>?_
   obtain⟨h2,h3,h4,h5⟩:=nA hrun'
   rw[Oac hoc]at h4
   exact hcalls _ ρ a w G ai.g o Q mv mvs nv _ _ ai.res f args argTypes hR h3 hfresh0 hoc h4 h5 hst
  have hnext:sig (dn (l.setIfInBounds i true)) 0 is s.get=upds (sig (dn l) 0 is s.get) ai.res.upd:=by
   funext k
   by_cases hw:Wr ai k
   ·refine Abj hai (by rw[Tbt,Bbb hil];simp) hw fun q b hiq hb hwb=>?_
    rw[Tbt,Bbb hil]
    have e:(decide (q=i):Bool)=false:=by simp;omega
    rw[e,Vbu]
    cases hdq:dn l q with
    |false=>rfl
    |true=>exact absurd hwb ((apart_spec (hbehind q b hiq hb hdq)).2.1 k hw)
   ·rw[Paq hw]
    refine Fau (fun p b hb hwb=>?_) rfl
    rw[Tbt,Bbb hil]
    have e:(decide (p=i):Bool)=false:=by
     simp
     intro e
     subst e
     rw[hai]at hb
     obtain rfl:=Option.some.inj hb
     exact hw hwb
    rw[e,Vbu]
  have hcl':Closed ops (l.setIfInBounds i true):=by
   intro q w' p hdq hw hb
   rw[Bbb hil]at hdq ⊢
   by_cases e:q=i
   ·subst e
    rw[hwait w' p hw hb,Vbk]
   ·have e':(decide (q=i):Bool)=false:=by simp[e]
    rw[e',Vbu]at hdq
    rw[hcl q w' p hdq hw hb,Vbk]
  have hnx:∀ a w,Nx E.ntmps F (sig (dn l) 0 is s.get) ρ ai.res.upd a w->wpAny P .any ops Q fuel (l.setIfInBounds i true) a w:=by
   intro a' w' ⟨G',hR'⟩
   rw[<- hnext]at hR'
   refine ih _ a' w' G' (by simp[hl]) ?_ hcl' hR'
   rw[Array.toList_setIfInBounds]
   rw[<- Ubj]at hli
   have:=Xar hli
   omega
  unfold wpOp
  rw[ho]
  unfold Obb at hgo
  dsimp only
  split
  ·rename_i hw
   rw[if_pos hw]at hgo
   exact .inl (Oper.wp_mono hnx hgo)
  ·rename_i hw
   rw[if_neg hw]at hgo
   exact hnx _ _ hgo
end
end Go.Proofs.YtpgnlmfmlffjcaaGreat.Rf

namespace Go.Proofs.YtpgnlmfmlffjcaaGreat.Rf
set_option linter.unusedVariables false
set_option linter.unusedSimpArgs false
section
variable {P:Program} {E:Env} {F:cB} {cf:Nat->List D->Option (List D)} {n:Nat} {σ:Nat->Option aW} {ρ:List D} {a:Act} {w:World} {G:Gh}
theorem R.world {w':World}(h:R n F σ ρ a w G)(hh:w'.heap=w.heap)(ho:w'.os=w.os)(ht:w'.tape=w.tape)(hp:w'.output=w.output):R n F σ ρ a w' G:=by
 have hfr:Fr σ G w (upds σ []) G w':=by
  refine⟨fun b hb _=>⟨hb,by rw[hh]⟩,fun r k _ h=>h,fun r k h=>h,fun r k b p _ _ h=>⟨.inl h,by rw[hh]⟩,fun r k m _ h=>⟨h,fun b p h=>h⟩,fun _ _=>rfl,fun _ _=>rfl,fun k h=>h,fun _ _ _ _ _ _ _ h=>h⟩
 exact h.upd [] hfr h.tmps h.defers ⟨ho.trans h.frame.os,ht.trans h.frame.tape,hp.trans h.frame.output,by rw[hh];exact h.frame.size,
  fun b hb hf=>by rw[hh];exact h.frame.keep b hb hf,fun b j hb hj=>by rw[hh];exact h.frame.boxes b j hb hj,fun b hb=>h.frame.fresh b (by rw[<- hh];exact hb)⟩
  (fun t _=>rfl) (fun b ro ls _ _=>⟨rfl,by rw[hh]⟩) (fun b ls hb=>by simp at hb) (fun k c hk=>by simp at hk)
theorem Saw (hti:Aaj P E.ti)(hcalls:Eap P E F cf)(hm:P.follows .mixedOrders=true){rid:Nat}{ops:Array Oper}{draw:Bool}{s:St}{o:Out St}
  (h:Ec cf (Paw E false rid ops.toList draw s) ρ=some o) (hl:ρ.length=s.nv) (hi:Nad E s) :
  (o.kind=.fall/\o.env.length=o.ext.nv/\Nad E o.ext/\∃ ds,o.env=ρ++ds) /\
  ∀ a w G Q,R E.ntmps F s.get ρ a w G->(∀ a' w' G',R E.ntmps F o.ext.get o.env a' w' G'->Q .normal a' w')->(Code.region rid ops draw).wp P Q a w:=by
 unfold Paw at h
 split at h
 case h_2=>simp only[cond_false,lY]at h;cases h
 rename_i is s' hops
 obtain⟨js,hjs,hc⟩:=Kas hops
 simp only[List.reverse_nil,Tb2]at hjs
 subst hjs
 have hds:=Gba hc
 cases hb:(!draw||(Gay ops.toList 0&&Aa7 is (waits ops.toList []) 0)) with
 |false=>rw[hb]at h;simp only[cond_false,lY]at h;cases h
 | true =>
  rw[hb,cond_true]at h
  obtain⟨h1,h2,h3,⟨ds,h4⟩,h5⟩:=Bb0 hc Caa.1 hl h
  have h5':=h5 []
  rw[Tbb]at h5'
  refine⟨⟨h1,by rw[h2,Caa.1];exact h3,by rw[h2];exact (Fb9 hc hi).trim,ds,h4⟩,fun a w G Q hR hQ=>?_⟩
  rw[h2,Sab]at hQ
  have hR':R E.ntmps F s.get o.env a w G:=by rw[h4];exact hR.ext hi.sc (by omega) ds
  cases draw with
  | false =>
   refine wp_region ?_
   rw[List.range_eq_range']
   have:=Fb8 hti hcalls (ops:=ops) hds hc (by simp) hR' hi h5' hQ
   simpa using this
  | true =>
   simp only[Ub0,Vbu,Sbu]at hb
   obtain⟨hlen,hend,hat⟩:=Ibj (ρ:=o.env) (cf:=cf) hc hi h5'
   have hlen':is.length=ops.size:=by rw[hlen];simp
   have hd:Lb1 E ops cf o.env s is:=by
    refine⟨hlen',hat,fun p q x y hpq hp hq=>?_,fun p o' hp e he hbe=>?_,hds⟩
    ·obtain⟨w',h6,h7⟩:=Gaa hb.2 hpq hp hq
     rw[Tbt]at h7
     exact h7.imp (fun h7=>⟨w',h6,h7⟩) id
    ·have:=Jaj hb.1 hp e he hbe
     omega
   refine wp_region_any hm ?_
   refine Ibb hti hcalls hd (fun a' w' G' hR''=>hQ a' w' G' (by rw[hend];exact hR'')) ops.size _ a _ G (by simp) ?_ ?_ ?_
   ·simp only[Array.toList_replicate,List.count_replicate_self,Sb7]
   ·intro q w' p hq
    unfold dn at hq
    rw[Tb8,Array.getElem?_replicate]at hq
    split at hq<;>simp at hq
   ·rw[Abi fun q _=>by
     unfold dn
     rw[Tb8,Array.getElem?_replicate]
     split<;>rfl]
    exact hR'.world rfl rfl rfl rfl
end
end Go.Proofs.YtpgnlmfmlffjcaaGreat.Rf

namespace Go.Proofs.YtpgnlmfmlffjcaaGreat.Rf
set_option linter.unusedVariables false
set_option linter.unusedSimpArgs false
theorem Gan {s:St}{k:Nat}{c:aW}(h:s.get k=some c):Ear s.nt s.nb s.nr k=true:=by
 unfold St.get at h
 cases e:Ear s.nt s.nb s.nr k with
 |true=>rfl
 |false=>rw[e]at h;cases h
theorem Uag {nt nb nr r:Nat}(h:r<nr):Ear nt nb nr (kR r)=true:=by
 unfold Ear
 rw[Uah]
 have:kR r / 3=r:=by unfold kR;omega
 rw[this]
 simpa using h
theorem Cah {s:St}{u:List (Nat×aW)}(h:∀ k c,(k,c)∈u->Ear s.nt s.nb s.nr k=true):(s.puts u).get=upds s.get u:=by
 funext k
 obtain⟨e1,e2,e3,e4⟩:=lD u s
 unfold St.get
 rw[e2,e3,e4,Pa7]
 by_cases hm:∃ c,(k,c)∈u
 ·obtain⟨c,hc⟩:=hm
  rw[h k c hc,cond_true]
  exact Jay _ _ _ _ ⟨c,hc⟩
 ·have hn:∀ c,(k,c)∉u:=fun c hc=>hm ⟨c,hc⟩
  rw[gZ _ _ _ hn,gZ _ _ _ hn]
def Oa0 (σ:Nat->Option aW)(k j:Nat):Option aZ :=
 match σ k with
 |some (.slot none (.one a))=>if j=0 then some a else none
 |some (.slot none (.agg ls))=>ls[j]?
 |some (.box _ ls)=>ls[j]?
 |_=>none
theorem Ebu {k j:Nat}{s:St}:Bah k j s=(Oa0 s.get k j).getD .dead:=by
 unfold Bah Oa0
 split
 ·rename_i v hk
  rw[hk]
  cases v with
  |dead=>simp[yP]
  | one a =>
   simp only[yP]
   cases j with
   |zero=>rfl
   |succ j=>simp
  |agg ls=>simp[yP,Sb4]
  |tup ts=>simp[yP]
 ·rename_i ro ls hk
  rw[hk]
  simp[Sb4]
 ·rename_i h1 h2
  cases hs:s.get k with
  |none=>rfl
  | some c =>
   cases c with
   | slot g v =>
    cases g with
    |none=>exact absurd hs (h1 v)
    |some g=>rfl
   |box ro ls=>exact absurd hs (h2 ro ls)
   |root=>rfl
theorem mJ {k j:Nat}{s:St}{l:aZ}(h:Bah k j s=l)(hl:l≠.dead):Oa0 s.get k j=some l:=by
 rw[Ebu]at h
 cases e:Oa0 s.get k j with
 |none=>rw[e]at h;exact absurd h.symm hl
 |some l'=>rw[e,Ub1]at h;rw[h]
section
variable {E:Env} {F:cB} {n:Nat} {σ:Nat->Option aW} {ρ:List D} {a:Act} {w:World} {G G':Gh}
inductive ValAt (n:Nat) (gh:Nat->Value) (a:Act) (w:World) (bx:Nat->Addr):aW->Nat->Nat->Value->Prop
 |one (t:Nat) (l:aZ):ValAt n gh a w bx (.slot none (.one l)) (kT t) 0 (Eaq n a gh t)
 |agg (t:Nat) (ls:List aZ) (vs:List Value) (j:Nat) (v:Value) (h:Eaq n a gh t=.agg vs.toArray) (hv:vs[j]?=some v):ValAt n gh a w bx (.slot none (.agg ls)) (kT t) j v
 |box (b j:Nat) (ro:Bool) (ls:List aZ) (v:Value) (h:w.cell? ((bx b).add j)=some v):ValAt n gh a w bx (.box ro ls) (kB b) j v
theorem R.valAt (h:R n F σ ρ a w G){k j:Nat}{l:aZ}(hl:Oa0 σ k j=some l):∃ v c,σ k=some c/\ValAt n F.gh a w G.bx c k j v/\aD σ ρ G w l v:=by
 unfold Oa0 at hl
 split at hl
 ·rename_i l' hk
  obtain⟨t,rfl,h1⟩:=h.cont _ _ hk
  split at hl
  ·rename_i hj
   subst hj
   obtain rfl:=Option.some.inj hl
   exact⟨_,_,hk,.one t l',h1 rfl⟩
  ·cases hl
 ·rename_i ls hk
  obtain⟨t,rfl,h1⟩:=h.cont _ _ hk
  obtain⟨vs,h2,h3⟩:eB σ ρ G w (.agg ls) _:=h1 rfl
  obtain⟨v,h4,h5⟩:=h3.get hl
  exact⟨v,_,hk,.agg t ls vs j v h2 h4,h5⟩
 ·rename_i ro ls hk
  obtain⟨b,rfl,h1,h2,h3⟩:=h.cont _ _ hk
  obtain⟨v,h4,h5,h6⟩:=h3 j l hl
  exact⟨v,_,hk,.box b j ro ls v h4,h6⟩
 ·cases hl
theorem Fr.nonroot (σ:Nat->Option aW)(G:Gh)(w:World)(u:List (Nat×aW))(hu:∀ k c,(k,c)∈u->∀ r,k≠kR r):Fr σ G w (upds σ u) G w:=by
 have hr:∀ r,upds σ u (kR r)=σ (kR r):=fun r=>gZ _ _ _ fun c hc=>hu _ _ hc r rfl
 refine⟨fun b h _=>⟨h,rfl⟩,fun r k _ h=>?_,fun r k h=>?_,fun r k b p _ _ h=>⟨.inl h,rfl⟩,fun r k m _ h=>⟨?_,fun b p h=>h⟩,fun _ _=>rfl,fun _ _=>rfl,fun k h=>gD _ _ _ (.inl h),fun _ _ _ _ _ _ _ h=>h⟩
 ·obtain⟨x,m,st,e,h⟩:=h
  exact⟨x,m,st,by rw[<- hr];exact e,h⟩
 ·obtain⟨x,m,ver,st,e,h⟩:=h
  exact⟨x,m,ver,st,by rw[hr];exact e,h⟩
 ·obtain⟨x,e⟩:=h
  exact⟨x,by rw[<- hr];exact e⟩
theorem Jas {α:Type}{x y:List α}(h:x.toArray=y.toArray):x=y:=by
 have:=congrArg Array.toList h
 simpa using this
structure Ibv (s s':St):Prop where
 nr:s'.nr=s.nr
 nt:s'.nt=s.nt
 root:∀ r,s'.get (kR r)=s.get (kR r)
theorem R.putAt {s:St}(h:R n F s.get ρ a w G){k j:Nat}{l:aZ}{c0:aW}(hk:s.get k=some c0){v:Value}(hv:ValAt n F.gh a w G.bx c0 k j v)(hl:aD s.get ρ G w l v) :
  R n F (Go.Proofs.YtpgnlmfmlffjcaaGreat.Rf.putAt k j l s).get ρ a w G/\Ibv s (Go.Proofs.YtpgnlmfmlffjcaaGreat.Rf.putAt k j l s)/\(Go.Proofs.YtpgnlmfmlffjcaaGreat.Rf.putAt k j l s).nv=s.nv:=by
 have hput:∀ c,Rb3 j l c0=some c->(∀ r,k≠kR r)->(∃ t,(k=kT t/\∃ sv,c=.slot none sv/\eB (upds s.get [(k,c)]) ρ G w sv (Eaq n a F.gh t))\/(k=kB t/\∃ ro ls,c=.box ro ls/\Pan (upds s.get [(k,c)]) ρ G w t ro ls))->(∀ b ls,k=kB b->c=.box false ls->∃ ls0,c0=.box false ls0/\ls.length=ls0.length) ->
   R n F (Go.Proofs.YtpgnlmfmlffjcaaGreat.Rf.putAt k j l s).get ρ a w G/\Ibv s (Go.Proofs.YtpgnlmfmlffjcaaGreat.Rf.putAt k j l s)/\(Go.Proofs.YtpgnlmfmlffjcaaGreat.Rf.putAt k j l s).nv=s.nv:=by
  intro c hc hnr hcr hbl
  have e:Go.Proofs.YtpgnlmfmlffjcaaGreat.Rf.putAt k j l s=s.puts [(k,c)]:=by
   unfold Go.Proofs.YtpgnlmfmlffjcaaGreat.Rf.putAt
   rw[hk,Sb6,hc];rfl
  have hg:(s.puts [(k,c)]).get=upds s.get [(k,c)]:=Cah fun k' c' hm=>by
   simp only[Sb9,Prod.mk.injEq]at hm
   rw[hm.1];exact Gan hk
  obtain⟨e1,e2,e3,e4⟩:=lD [(k,c)] s
  have hmem:∀ k' c',(k',c')∈[(k,c)]->k'=k/\c'=c:=by
   intro k' c' hm
   simpa using hm
  rw[e]
  refine⟨?_,⟨e3,e4,fun r=>?_⟩,e1⟩
  ·rw[hg]
   have hfr:=Fr.nonroot s.get G w [(k,c)] fun k' c' hm r=>by rw[(hmem _ _ hm).1];exact hnr r
   refine h.upd _ hfr h.tmps h.defers h.frame (fun _ _=>rfl) (fun _ _ _ _ _=>⟨rfl,rfl⟩) (fun b ls hm hb ho=>?_) (fun k' c' hm _=>?_)
   ·obtain⟨e5,e6⟩:=hmem _ _ hm
    obtain⟨ls0,h1,h2⟩:=hbl b ls e5.symm e6.symm
    rw[h1]at hk
    rw[h2]
    exact h.rng b ls0 (by rw[e5];exact hk) hb ho
   ·obtain⟨rfl,rfl⟩:=hmem _ _ hm
    obtain⟨t,⟨e7,sv,e8,h8⟩|⟨e7,ro,ls,e8,h8⟩⟩:=hcr
    ·subst e8
     exact⟨t,e7,fun _=>h8⟩
    ·subst e8
     exact⟨t,e7,h8⟩
  ·rw[hg]
   exact gZ _ _ _ fun c' hm=>hnr r (hmem _ _ hm).1.symm
 have hfr:∀ c,(∀ r,k≠kR r)->Fr s.get G w (upds s.get [(k,c)]) G w:=fun c hnr=>Fr.nonroot s.get G w [(k,c)] fun k' c' hm r=>by
  simp only[Sb9,Prod.mk.injEq]at hm
  rw[hm.1];exact hnr r
 cases hv with
 | one t l0 =>
  exact hput (.slot none (.one l)) rfl (fun r=>kU) ⟨t,.inl ⟨rfl,_,rfl,aD.mono (hfr _ fun r=>kU) l _ hl⟩⟩ (fun b ls e=>absurd e rO)
 | agg t ls vs _ _ h2 hvj =>
  have h1:=h.slot hk rfl
  obtain⟨vs',h2',h3⟩:eB s.get ρ G w (.agg ls) _:=h1
  rw[h2]at h2'
  injection h2' with e
  have e:=Jas e
  subst e
  have hf:=hfr (.slot none (.agg (ls.set j l))) fun r=>kU
  refine hput (.slot none (.agg (ls.set j l))) rfl (fun r=>kU) ⟨t,.inl ⟨rfl,_,rfl,vs,h2,?_⟩⟩ (fun b ls e=>absurd e rO)
  refine aK.of_get (by simp[h3.len]) fun i l' v' hi hv'=>?_
  rw[Ub5]at hi
  split at hi
  ·rename_i hij
   subst hij
   split at hi
   ·obtain rfl:=Option.some.inj hi
    rw[hv']at hvj
    obtain rfl:=Option.some.inj hvj
    exact aD.mono hf _ _ hl
   ·cases hi
  ·obtain⟨u,hu,hu2⟩:=h3.get hi
   rw[hv']at hu
   obtain rfl:=Option.some.inj hu
   exact aD.mono hf _ _ hu2
 | box b _ ro ls _ hb =>
  obtain⟨h1,h2,h3⟩:=h.box hk
  have hf:=hfr (.box ro (ls.set j l)) fun r=>iX
  refine hput (.box ro (ls.set j l)) rfl (fun r=>iX) ⟨b,.inr ⟨rfl,_,_,rfl,h1,h2,fun i l' hi=>?_⟩⟩ (fun b' ls' e e'=>?_)
  ·rw[Ub5]at hi
   split at hi
   ·rename_i hij
    subst hij
    split at hi
    ·rename_i hlt
     obtain rfl:=Option.some.inj hi
     obtain⟨v0,h4,h5,h6⟩:=h3 _ _ (Sb0 hlt)
     rw[h4]at hb
     obtain rfl:=Option.some.inj hb
     exact⟨v0,h4,h5,aD.mono hf _ _ hl⟩
    ·cases hi
   ·obtain⟨u,h4,h5,h6⟩:=h3 i l' hi
    exact⟨u,h4,h5,aD.mono hf _ _ h6⟩
  ·injection e' with e1 e2
   subst e1 e2
   exact⟨ls,rfl,by simp⟩
end
end Go.Proofs.YtpgnlmfmlffjcaaGreat.Rf

namespace Go.Proofs.YtpgnlmfmlffjcaaGreat.Rf
set_option linter.unusedVariables false
set_option linter.unusedSimpArgs false
section
variable {E:Env} {F:cB} {σ:Nat->Option aW} {ρ:List D} {a:Act} {w:World} {G G':Gh}
def Rb5:Oper:={ (default:Oper) with dst:=none }
theorem R.roots (h:R E.ntmps F σ ρ a w G){ur:List (Nat×aW)}{f:Nat->List Nat->Ow}
  (hu:∀ k c,(k,c)∈ur->∃ r,k=kR r) (hown:∀ b,G'.own b=rY f (G.own b))
  (hun:∀ b r p,G.own b=.slc r p->(∀ c,(kR r,c)∉ur)->f r p=.slc r p)
  (hch:∀ r c,(kR r,c)∈ur->upds σ ur (kR r)=some c->Chg σ G w G' w r c)
  (hfroz:∀ r x m k,σ (kR r)=some (.root x m k .frozen)->∀ s p q,f s p=.slc r q->s=r/\p=q)
  (hhdr:∀ r,(σ (kR r)).isSome->G'.hdr r=G.hdr r) (hbx:G'.bx=G.bx)
  (hroot:∀ r c,(kR r,c)∈ur->upds σ ur (kR r)=some c->∃ x m ver st,c=.root x m ver st/\dJ (upds σ ur) ρ G' w r x m st):R E.ntmps F (upds σ ur) ρ a w G':=by
 have h0:fU Rb5 none .dead=[]:=rfl
 have:=h.own (o:=Rb5) (g:=none) (sv:=.dead) (v:=undef) (ur:=ur) (f:=f) (wr:=fun _=>False) (G':=G') (w':=w) (fun d hd=>by cases hd) hu (fun b _=>hown b)
  (fun b hb=>by rw[hown,h.frame.fresh b hb];rfl) ⟨rfl,rfl,rfl,Sb7 _⟩ (fun b hb=>.inl (by rw[hown,h.frame.fresh b hb];rfl)) (fun _ _ _=>rfl) (fun b hb=>hb.elim) hun
  (by rw[h0,Tb2];exact hch) hfroz hhdr hbx (fun _ _=>trivial) (by rw[h0,Tb2];exact fun _=>hroot)
 rw[h0,Tb2]at this
 exact this
def mvF (r rN m:Nat)(s:Nat)(p:List Nat):Ow:=if s=r then (if p.length<m then .slc rN p else .frz) else .slc s p
theorem R.moveRoot (h:R E.ntmps F σ ρ a w G){r rN m m' v:Nat}{x x0:aO}(hr:σ (kR r)=some (.root x0 m' v .live))(hN:σ (kR rN)=none)(hm:m<=m'){u:Value}
  (hrp:Rp G.own w r [] m' u (x.val ρ)) {st:RSt} (hst:st=.gone\/(st=.fwd rN/\u=G.hdr r)) :
  ∃ G',R E.ntmps F (upds σ [(kR r,.root (.c .hole) 0 0 st),(kR rN,.root x m 0 .live)]) ρ a w G'/\G'.hdr rN=u/\G'.bx=G.bx:=by
 have hne:r≠rN:=fun e=>by rw[e,hN]at hr;cases hr
 let G':Gh:={ own:=fun b=>rY (mvF r rN m) (G.own b),hdr:=fun s=>if s=rN then u else G.hdr s,bx:=G.bx }
 have e1:upds σ [(kR r,aW.root (.c .hole) 0 0 st),(kR rN,.root x m 0 .live)] (kR r)=some (.root (.c .hole) 0 0 st):=by
  simp only[upds,Abk]
  rw[if_neg fun e=>hne (iB e)]
  simp
 have e2:upds σ [(kR r,aW.root (.c .hole) 0 0 st),(kR rN,.root x m 0 .live)] (kR rN)=some (.root x m 0 .live):=by
  simp[upds,Abk]
 have hmem:∀ s c,(kR s,c)∈[(kR r,aW.root (.c .hole) 0 0 st),(kR rN,.root x m 0 .live)]->s=r\/s=rN:=by
  intro s c hc
  simp only[Tb7,Prod.mk.injEq,Ubp,or_false]at hc
  exact hc.imp (fun e=>iB e.1) (fun e=>iB e.1)
 refine⟨G',h.roots (f:=mvF r rN m) ?_ (fun b=>rfl) ?_ ?_ ?_ ?_ rfl ?_,by simp[G'],rfl⟩
 ·intro k c hc
  simp only[Tb7,Prod.mk.injEq,Ubp,or_false]at hc
  rcases hc with ⟨e,-⟩|⟨e,-⟩<;>exact⟨_,e⟩
 ·intro b s p hb hn
  unfold mvF
  rw[if_neg fun e=>hn _ (by rw[e];exact Tbe)]
 ·intro s c hc hc'
  rcases hmem s c hc with rfl|rfl
  ·rw[e1]at hc'
   obtain rfl:=Option.some.inj hc'
   refine .inr (.inr (.inl ⟨_,_,_,_,rfl,?_,?_⟩))<;>rcases hst with e|⟨e,-⟩<;>rw[e]<;>simp
  ·rw[e2]at hc'
   obtain rfl:=Option.some.inj hc'
   exact .inl ⟨hN,_,_,_,_,rfl⟩
 ·intro r0 x1 m1 k1 hk s p q hf
  unfold mvF at hf
  split at hf
  ·split at hf
   ·injection hf with f1 f2
    rw[<- f1,hN]at hk;cases hk
   ·cases hf
  ·injection hf with f1 f2
   exact⟨f1,f2⟩
 ·intro s hs
  show (if s=rN then u else G.hdr s)=_
  rw[if_neg]
  intro e
  rw[e,hN]at hs
  cases hs
 ·intro s c hc hc'
  rcases hmem s c hc with rfl|rfl
  ·rw[e1]at hc'
   obtain rfl:=Option.some.inj hc'
   refine⟨_,_,_,_,rfl,?_⟩
   rcases hst with e|⟨e,hu⟩
   ·subst e;trivial
   ·subst e
    refine⟨?_,by rw[e2];rfl⟩
    show (if s=rN then u else G.hdr s)=(if rN=rN then u else G.hdr rN)
    rw[if_neg hne,if_pos rfl,hu]
  ·rw[e2]at hc'
   obtain rfl:=Option.some.inj hc'
   refine⟨_,_,_,_,rfl,?_⟩
   show Rp G'.own w s [] m (if s=s then u else G.hdr s) (x.val ρ)
   rw[if_pos rfl]
   have hw:=hrp.weaken (own':=fun b=>rY (fun s' p=>if s'=r then (if p.length<m then .slc r p else .frz) else .slc s' p) (G.own b)) (fun b hb=>by rw[hb];rfl) m hm (fun b t hb=>by
    rw[hb]
    simp only[rY,if_pos rfl,Tb2]
    rfl)
   have:=hw.mono (own':=G'.own) (w':=w) (q:=[]) (q':=[]) (r':=s) (fun b hb=>⟨?_,rfl⟩) [] rfl (fun b t hb=>⟨?_,rfl⟩)
   ·simpa using this
   ·show rY _ (G.own b)=_
    cases e:G.own b with
    | slc s' p =>
     rw[e]at hb
     simp only[rY]at hb ⊢
     unfold mvF
     split at hb
     ·rename_i hs'
      rw[if_pos hs']
      split at hb
      ·cases hb
      ·rename_i hl;rw[if_neg hl]
     ·cases hb
    |_=>rw[e]at hb;simpa[rY] using hb
   ·show rY _ (G.own b)=_
    cases e:G.own b with
    | slc s' p =>
     rw[e]at hb
     simp only[rY]at hb ⊢
     unfold mvF
     split at hb
     ·rename_i hs'
      rw[if_pos hs']
      split at hb
      ·rename_i hl
       rw[if_pos hl]
       injection hb with f1 f2
       rw[f2]
      ·cases hb
     ·rename_i hs'
      injection hb with f1 f2
      exact absurd f1 hs'
    |_=>rw[e]at hb;simp[rY]at hb
theorem R.nilRoot (h:R E.ntmps F σ ρ a w G){rN m z:Nat}(hN:σ (kR rN)=none) :
  ∃ G',R E.ntmps F (upds σ [(kR rN,.root (.c (.rows z [])) m 0 .live)]) ρ a w G'/\G'.hdr rN=.slice none 0 0/\G'.bx=G.bx:=by
 let G':Gh:={ own:=G.own,hdr:=fun s=>if s=rN then .slice none 0 0 else G.hdr s,bx:=G.bx }
 have e2:upds σ [(kR rN,aW.root (.c (.rows z [])) m 0 .live)] (kR rN)=some (.root (.c (.rows z [])) m 0 .live):=by
  simp[upds,Abk]
 have hmem:∀ s c,(kR s,c)∈[(kR rN,aW.root (.c (.rows z [])) m 0 .live)]->s=rN:=by
  intro s c hc
  simp only[Tb7,Prod.mk.injEq,Ubp,or_false]at hc
  exact iB hc.1
 refine⟨G',h.roots (f:=fun s p=>.slc s p) ?_ (fun b=>?_) (fun _ _ _ _ _=>rfl) ?_ (fun _ _ _ _ _ s p q hf=>?_) ?_ rfl ?_,by simp[G'],rfl⟩
 ·intro k c hc
  simp only[Tb7,Prod.mk.injEq,Ubp,or_false]at hc
  exact⟨_,hc.1⟩
 ·show G.own b=_
  cases G.own b<;>rfl
 ·intro s c hc hc'
  obtain rfl:=hmem s c hc
  rw[e2]at hc'
  obtain rfl:=Option.some.inj hc'
  exact .inl ⟨hN,_,_,_,_,rfl⟩
 ·injection hf with f1 f2
  exact⟨f1,f2⟩
 ·intro s hs
  show (if s=rN then _ else G.hdr s)=_
  rw[if_neg]
  intro e
  rw[e,hN]at hs
  cases hs
 ·intro s c hc hc'
  obtain rfl:=hmem s c hc
  rw[e2]at hc'
  obtain rfl:=Option.some.inj hc'
  refine⟨_,_,_,_,rfl,?_⟩
  show Rp G.own w s [] m (if s=s then _ else G.hdr s) (.rows z [])
  rw[if_pos rfl]
  cases m with
  |zero=>exact .fz (.rows none ⟨0,0,none⟩ 0 0 z [] (fun _ _=>undef) rfl (Sb7 _) (.inl rfl) (by simp) (by simp) (by simp))
  |succ m=>exact .sl none ⟨0,0,none⟩ 0 0 z [] (fun _ _=>undef) rfl (Sb7 _) (.inr ⟨rfl,rfl⟩) (by simp) (fun e=>by cases e) (by simp) (by simp)
def fzF (rs:List Nat)(s:Nat)(p:List Nat):Ow:=if s∈rs then .frz else .slc s p
theorem R.freeze (h:R E.ntmps F σ ρ a w G){rs:List Nat}{fr:List (Nat×aW)}(hfr:(fO rs).eval σ=some fr) :
  ∃ G',R E.ntmps F (upds σ fr) ρ a w G'/\(∀ b,G'.own b=rY (fzF rs) (G.own b))/\G'.hdr=G.hdr/\G'.bx=G.bx:=by
 obtain⟨h1,h2⟩:=jM hfr
 let G':Gh:={ own:=fun b=>rY (fzF rs) (G.own b),hdr:=G.hdr,bx:=G.bx }
 have hslc:∀ b r p,G.own b=.slc r p->r∈rs->∃ c,(kR r,c)∈fr:=by
  intro b r p hb hr
  rcases h1 r hr with ⟨x,m,ver,-,h4⟩|⟨x,m,ver,h4⟩
  ·exact⟨_,h4⟩
  ·exact absurd hb ((h.root h4).2 b p)
 have hval:∀ r c,(kR r,c)∈fr->∃ x m ver,c=.root x m ver .frozen/\σ (kR r)=some (.root x m ver .live)/\r∈rs:=by
  intro r c hc
  obtain⟨s,hs,x,m,ver,e,e',h3⟩:=h2 _ _ hc
  obtain rfl:=iB e
  exact⟨x,m,ver,e',h3,hs⟩
 have hfrz:∀ r x m ver,σ (kR r)=some (.root x m ver .live)->r∈rs->Rd (fun b=>G'.own b=.frz) w (G.hdr r) (x.val ρ):=by
  intro r x m ver hk hr
  have h3:=h.root hk
  simp only[dJ]at h3
  refine h3.rd.mono fun b hb=>⟨?_,rfl⟩
  show rY _ _=_
  rcases hb with hb|⟨q,hb⟩
  ·rw[hb];rfl
  ·rw[hb];simp only[rY,fzF];rw[if_pos hr]
 refine⟨G',h.roots (f:=fzF rs) ?_ (fun b=>rfl) ?_ ?_ ?_ (fun _ _=>rfl) rfl ?_,fun b=>rfl,rfl,rfl⟩
 ·intro k c hc
  obtain⟨s,-,x,m,ver,e,-⟩:=h2 _ _ hc
  exact⟨s,e⟩
 ·intro b r p hb hn
  unfold fzF
  rw[if_neg]
  intro hr
  obtain⟨c,hc⟩:=hslc b r p hb hr
  exact hn c hc
 ·intro r c hc _
  obtain⟨x,m,ver,rfl,h3,h4⟩:=hval r c hc
  refine .inr (.inr (.inr ⟨x,m,ver,h3,rfl,fun b p hb=>⟨?_,rfl⟩⟩))
  show rY _ _=_
  rw[hb]
  simp only[rY,fzF]
  rw[if_pos h4]
 ·intro r x m k hk s p q hf
  unfold fzF at hf
  split at hf
  ·cases hf
  ·injection hf with f1 f2
   exact⟨f1,f2⟩
 ·intro r c hc _
  obtain⟨x,m,ver,rfl,h3,h4⟩:=hval r c hc
  refine⟨_,_,_,_,rfl,hfrz r x m ver h3 h4,fun b p hb=>?_⟩
  have hb:rY (fzF rs) (G.own b)=.slc r p:=hb
  cases e:G.own b with
  | slc s q =>
   rw[e]at hb
   simp only[rY,fzF]at hb
   split at hb
   ·cases hb
   ·rename_i hs
    injection hb with f1 f2
    rw[f1]at hs
    exact hs h4
  |_=>rw[e]at hb;simp[rY]at hb
theorem Ba3 {rs:List Nat}{deps:List (Nat×Nat)}(hown:∀ b,G'.own b=rY (fzF rs) (G.own b))(hd:∀ z∈deps,z.1∈rs){b:Nat}(hb:allow G deps b):allow G' [] b:=by
 refine .inl ?_
 rw[hown]
 rcases hb with hb|⟨r,k,p,hm,hb⟩
 ·rw[hb];rfl
 ·rw[hb]
  simp only[rY,fzF]
  rw[if_pos (hd _ hm)]
theorem La8 {s:St}{rs:List Nat}{fr:List (Nat×aW)}(hfr:(fO rs).eval s.get=some fr):∀ k c,(k,c)∈fr->Ear s.nt s.nb s.nr k=true:=by
 intro k c hc
 obtain⟨r,-,x,m,ver,rfl,-,h3⟩:=(jM hfr).2 k c hc
 exact Gan h3
end
end Go.Proofs.YtpgnlmfmlffjcaaGreat.Rf

namespace Go.Proofs.YtpgnlmfmlffjcaaGreat.Rf
set_option linter.unusedVariables false
set_option linter.unusedSimpArgs false
structure RI (nr len i:Nat) (s:St):Prop where
 nr_:s.nr=nr+len
 free:∀ j,i<=j->j<len->s.get (kR (nr+j))=none
section
variable {E:Env} {F:cB} {ρ:List D} {a:Act} {w:World} {G:Gh} {cf:Nat->List D->Option (List D)} {nr len i:Nat} {s s':St}
theorem RI.succ (h:RI nr len i s):RI nr len (i+1) s:=⟨h.nr_,fun j h1 h2=>h.free j (by omega) h2⟩
theorem RI.keeps (h:RI nr len i s)(hk:Ibv s s'):RI nr len i s':=⟨hk.nr.trans h.nr_,fun j h1 h2=>by rw[hk.root];exact h.free j h1 h2⟩
theorem RI.puts (h:RI nr len i s){u:List (Nat×aW)}{i':Nat}(hi:i<=i')(hg:(s.puts u).get=upds s.get u)(hu:∀ j,i'<=j->j<len->∀ c,(kR (nr+j),c)∉u):RI nr len i' (s.puts u) :=
 ⟨(lD u s).2.2.1.trans h.nr_,fun j h1 h2=>by rw[hg,gZ _ _ _ (hu j h1 h2)];exact h.free j (by omega) h2⟩
theorem Fa5 {u:List (Nat×aW)}{G':Gh}(hg:(s.puts u).get=upds s.get u)(hR':R E.ntmps F (upds s.get u) ρ a w G')(hbx:G'.bx=G.bx){k j:Nat}{c0:aW}(hk:s.get k=some c0)
  {v:Value} (hv:ValAt E.ntmps F.gh a w G.bx c0 k j v) (hu:∀ c,(k,c)∉u) {l:aZ} (hl:aD (upds s.get u) ρ G' w l v) :
  R E.ntmps F (putAt k j l (s.puts u)).get ρ a w G'/\Ibv (s.puts u) (putAt k j l (s.puts u))/\(putAt k j l (s.puts u)).nv=s.nv:=by
 rw[<- hg]at hR' hl
 have hk':(s.puts u).get k=some c0:=by rw[hg,gZ _ _ _ hu];exact hk
 obtain⟨h1,h2,h3⟩:=hR'.putAt hk' (by rw[hbx];exact hv) hl
 exact⟨h1,h2,h3.trans (lD u s).1⟩
theorem Ba9 {n:Nat}{gh:Nat->Value}{bx:Nat->Addr}{c0:aW}{k j:Nat}{v:Value}(h:ValAt n gh a w bx c0 k j v):∀ r,k≠kR r:=by
 intro r
 cases h with
 |one=>exact kU
 |agg=>exact kU
 |box=>exact iX
theorem Aa0 (hR:R E.ntmps F s.get ρ a w G)(hI:RI nr len i s){rs:List Nat}{fr:List (Nat×aW)}(hfr:(fO rs).eval s.get=some fr){k j:Nat}{c0:aW}(hk:s.get k=some c0)
  {v:Value} (hv:ValAt E.ntmps F.gh a w G.bx c0 k j v) {l:aZ} (hl:∀ G' σ',(∀ b,G'.own b=rY (fzF rs) (G.own b))->aD σ' ρ G' w l v) :
  (∃ G',R E.ntmps F (putAt k j l (s.puts fr)).get ρ a w G')/\RI nr len (i+1) (putAt k j l (s.puts fr))/\(putAt k j l (s.puts fr)).nt=s.nt/\(putAt k j l (s.puts fr)).nv=s.nv:=by
 obtain⟨G',hR',h1,h2,h3⟩:=hR.freeze hfr
 have hg:(s.puts fr).get=upds s.get fr:=Cah (La8 hfr)
 have hfk:=(jM hfr).2
 obtain⟨h4,h5,h6⟩:=Fa5 hg hR' h3 hk hv (fun c hc=>by
  obtain⟨r,-,x,m,ver,e,-⟩:=hfk _ _ hc
  exact Ba9 hv r e) (hl G' _ h1)
 refine⟨⟨G',h4⟩,RI.keeps (hI.succ.puts (Sb7 _) hg fun q hq1 hq2 c hc=>?_) h5,h5.nt.trans (lD fr s).2.2.2,h6⟩
 obtain⟨r,-,x,m,ver,e,-,h7⟩:=hfk _ _ hc
 rw[<- e,hI.free q (by omega) hq2]at h7
 cases h7
theorem Ta2 {p:Pos}{ls:List Step}{x:aO}(h:Pa5 E p nr i s=some (ls,s',x))(hI:RI nr len i s)(hi:i<len)(hR:R E.ntmps F s.get ρ a w G)(hst:aR cf ρ none s.nv ls) :
  (∃ G',R E.ntmps F s'.get ρ a w G')/\RI nr len (i+1) s'/\s'.nt=s.nt/\s'.nv=s.nv+bZ ls:=by
 have hfree:=hI.free i (Sb7 _) hi
 have hkN:Ear s.nt s.nb s.nr (kR (nr+i))=true:=Uag (by rw[hI.nr_];omega)
 unfold Pa5 at h
 dsimp only at h
 split at h
 ·
  simp only[Option.some.injEq,Prod.mk.injEq]at h
  obtain⟨rfl,rfl,rfl⟩:=h
  exact⟨⟨G,hR⟩,hI.succ,rfl,rfl⟩
 ·
  rename_i al r hf hl
  split at h
  ·rename_i x0 m0 v0 r' hk
   cases hb:Nat.beq r' (nr+al) with
   |false=>rw[hb]at h;simp[nO]at h
   | true =>
    rw[hb,cond_true]at h
    simp only[Option.some.injEq,Prod.mk.injEq]at h
    obtain⟨rfl,rfl,rfl⟩:=h
    simp only[Tbv]at hb
    obtain⟨v,c,hkc,hva,hlv⟩:=hR.valAt (mJ hl (by simp))
    simp only[aD]at hlv
    have hrr:=hR.root hk
    simp only[dJ]at hrr
    obtain⟨h1,h2,h3⟩:=hR.putAt hkc hva (l:=.ex (nr+al)) (by
     simp only[aD]
     rw[<- hb]
     exact⟨hlv.1.trans hrr.1,hrr.2,hlv.2.2⟩)
    exact⟨⟨G,h1⟩,(hI.keeps h2).succ,h2.nt,h3⟩
  ·simp[nO]at h
 ·
  simp only[Option.some.injEq,Prod.mk.injEq]at h
  obtain⟨rfl,rfl,rfl⟩:=h
  exact⟨⟨G,hR⟩,hI.succ,rfl,rfl⟩
 ·
  rename_i m r hf hl
  split at h
  ·rename_i x0 m' v0 hk
   cases hb:Nat.ble m m' with
   |false=>rw[hb]at h;simp[nO]at h
   | true =>
    rw[hb,cond_true]at h
    simp only[Option.some.injEq,Prod.mk.injEq]at h
    obtain⟨rfl,rfl,rfl⟩:=h
    simp only[Ubf]at hb
    obtain⟨v,c,hkc,hva,hlv⟩:=hR.valAt (mJ hl (by simp))
    simp only[aD]at hlv
    have hrr:=hR.root hk
    simp only[dJ]at hrr
    obtain⟨G',hR',h1,h2⟩:=hR.moveRoot hk hfree hb hrr (.inr ⟨rfl,rfl⟩)
    have hg:=Cah (s:=s) (u:=[(kR r,.root (.c .hole) 0 0 (.fwd (nr+i))),(kR (nr+i),.root x0 m 0 .live)]) (fun k c hc=>by
     simp only[Tb7,Prod.mk.injEq,Ubp,or_false]at hc
     rcases hc with ⟨e,-⟩|⟨e,-⟩<;>rw[e]
     ·exact Gan hk
     ·exact hkN)
    obtain⟨h3,h4,h5⟩:=Fa5 (j:=p.j) hg hR' h2 hkc hva (fun c hc=>by
     simp only[Tb7,Prod.mk.injEq,Ubp,or_false]at hc
     rcases hc with ⟨e,-⟩|⟨e,-⟩<;>exact Ba9 hva _ e) (l:=.ex (nr+i)) (by
     simp only[aD]
     exact⟨by rw[h1];exact hlv.1,gD _ _ _ (.inr ⟨.root x0 m 0 .live,by simp⟩),hlv.2.2⟩)
    refine⟨⟨G',h3⟩,RI.keeps (hI.puts (Vb7 i) hg fun q hq1 hq2 c hc=>?_) h4,h4.nt.trans (lD _ s).2.2.2,h5⟩
    simp only[Tb7,Prod.mk.injEq,Ubp,or_false]at hc
    rcases hc with ⟨e,-⟩|⟨e,-⟩
    ·rw[<- e,hI.free q (by omega) hq2]at hk;cases hk
    ·have:=iB e;omega
  ·simp[nO]at h
 ·
  rename_i m nie z hf hl
  simp only[Option.some.injEq,Prod.mk.injEq]at h
  obtain⟨rfl,rfl,rfl⟩:=h
  obtain⟨v,c,hkc,hva,hlv⟩:=hR.valAt (mJ hl (by simp))
  simp only[aD]at hlv
  have hv0:v=.slice none 0 0:=(hlv.2 (by simp)).2.1 trivial z rfl
  obtain⟨G',hR',h1,h2⟩:=hR.nilRoot (m:=m) (z:=z) hfree
  have hg:=Cah (s:=s) (u:=[(kR (nr+i),.root (.c (.rows z [])) m 0 .live)]) (fun k c hc=>by
   simp only[Tb7,Prod.mk.injEq,Ubp,or_false]at hc
   rw[hc.1];exact hkN)
  obtain⟨h3,h4,h5⟩:=Fa5 (j:=p.j) hg hR' h2 hkc hva (fun c hc=>by
   simp only[Tb7,Prod.mk.injEq,Ubp,or_false]at hc
   exact Ba9 hva _ hc.1) (l:=.ex (nr+i)) (by
   simp only[aD]
   exact⟨by rw[h1];exact hv0,gD _ _ _ (.inr ⟨.root (.c (.rows z [])) m 0 .live,by simp⟩),hlv.1.1⟩)
  refine⟨⟨G',h3⟩,RI.keeps (hI.puts (Vb7 i) hg fun q hq1 hq2 c hc=>?_) h4,h4.nt.trans (lD _ s).2.2.2,h5⟩
  simp only[Tb7,Prod.mk.injEq,Ubp,or_false]at hc
  have:=iB hc.1;omega
 ·
  rename_i m r k nie x0 hf hl
  split at h
  ·rename_i x1 m' v0 hk
   cases hb:(Nat.ble m m'&&Nat.beq v0 k) with
   |false=>rw[hb]at h;simp[nO]at h
   | true =>
    rw[hb,cond_true]at h
    simp only[Option.some.injEq,Prod.mk.injEq]at h
    obtain⟨rfl,rfl,rfl⟩:=h
    simp only[Sbu,Ubf,Tbv]at hb
    obtain⟨hb,rfl⟩:=hb
    obtain⟨v,c,hkc,hva,hlv⟩:=hR.valAt (mJ hl (by simp))
    simp only[aD]at hlv
    obtain⟨-,-,h0⟩:=hlv.2 fun z hz=>by
     simp only[Sb9]at hz
     subst hz
     exact⟨x1,m',.live,hk,.inl rfl⟩
    have hrp:=h0 r v0 m' rfl ⟨x1,hk⟩
    obtain⟨G',hR',h1,h2⟩:=hR.moveRoot hk hfree hb hrp (.inl rfl)
    have hg:=Cah (s:=s) (u:=[(kR r,.root (.c .hole) 0 0 .gone),(kR (nr+i),.root x0 m 0 .live)]) (fun k c hc=>by
     simp only[Tb7,Prod.mk.injEq,Ubp,or_false]at hc
     rcases hc with ⟨e,-⟩|⟨e,-⟩<;>rw[e]
     ·exact Gan hk
     ·exact hkN)
    obtain⟨h3,h4,h5⟩:=Fa5 (j:=p.j) hg hR' h2 hkc hva (fun c hc=>by
     simp only[Tb7,Prod.mk.injEq,Ubp,or_false]at hc
     rcases hc with ⟨e,-⟩|⟨e,-⟩<;>exact Ba9 hva _ e) (l:=.ex (nr+i)) (by
     simp only[aD]
     exact⟨h1.symm,gD _ _ _ (.inr ⟨.root x0 m 0 .live,by simp⟩),hlv.1.1⟩)
    refine⟨⟨G',h3⟩,RI.keeps (hI.puts (Vb7 i) hg fun q hq1 hq2 c hc=>?_) h4,h4.nt.trans (lD _ s).2.2.2,h5⟩
    simp only[Tb7,Prod.mk.injEq,Ubp,or_false]at hc
    rcases hc with ⟨e,-⟩|⟨e,-⟩
    ·rw[<- e,hI.free q (by omega) hq2]at hk;cases hk
    ·have:=iB e;omega
  ·simp[nO]at h
 ·
  rename_i hf
  split at h
  ·rename_i x0 fr hrd
   simp only[Option.some.injEq,Prod.mk.injEq]at h
   obtain⟨rfl,rfl,rfl⟩:=h
   simp only[aC,Sbt,aH,Option.some.injEq,Prod.mk.injEq]at hrd
   obtain⟨sl,h1,fr',h2,rfl,rfl⟩:=hrd
   obtain⟨v,c,hkc,hva,hlv⟩:=hR.valAt (mJ (k:=p.k) (j:=p.j) rfl (by intro e;rw[e]at h1;cases h1))
   have hs:=fV hR h1 hlv
   have hone:v.oneCell'=true:=hlv.one (by cases hl':Bah p.k p.j s<;>first|rfl|(rw[hl']at h1;cases h1))
   refine Aa0 hR hI h2 hkc hva fun G' σ' hown=>?_
   simp only[aD]
   exact⟨⟨hone,by simp⟩,fun _=>⟨hs.rd.mono fun b hb=>⟨Ba3 hown (fun z hz=>Ubt hz) hb,rfl⟩,fun e=>absurd e (by decide),trivial⟩⟩
  ·simp[nO]at h
 ·
  rename_i z hf hl
  simp only[Option.some.injEq,Prod.mk.injEq]at h
  obtain⟨rfl,rfl,rfl⟩:=h
  obtain⟨v,c,hkc,hva,hlv⟩:=hR.valAt (mJ hl (by simp))
  simp only[aD]at hlv
  obtain⟨h1,h2,h3⟩:=hR.putAt hkc hva (l:=.rp [] z (.c (.rows z []))) (by
   simp only[aD]
   exact⟨⟨by rw[hlv];rfl,by simp⟩,fun _=>.inl ⟨hlv,z,rfl⟩⟩)
  exact⟨⟨G,h1⟩,(hI.keeps h2).succ,h2.nt,h3⟩
 ·
  rename_i z deps z' x0 hf hl
  split at h
  ·rename_i fr hrd
   simp only[Option.some.injEq,Prod.mk.injEq]at h
   obtain⟨rfl,rfl,rfl⟩:=h
   simp only[aC,Sbt]at hrd
   obtain⟨ds,h1,h2⟩:=hrd
   obtain⟨v,c,hkc,hva,hlv⟩:=hR.valAt (mJ hl (by simp))
   simp only[aD]at hlv
   obtain⟨h3,h4,h5⟩:=lN h1
   refine Aa0 hR hI h2 hkc hva fun G' σ' hown=>?_
   simp only[aD]
   refine⟨⟨hlv.1.1,by simp⟩,fun _=>?_⟩
   rcases hlv.2 h3 with h6|⟨ad,row,h6,h7,h8⟩
   ·exact .inl h6
   ·exact .inr ⟨ad,row,h6,h7,(h8.drop hR h5).mono fun b hb=>⟨Ba3 hown (fun z hz=>Ubt hz) hb,rfl⟩⟩
  ·simp[nO]at h
 ·
  rename_i z l z' ix hf hl
  split at h
  ·rename_i x0 fr hrd
   simp only[Option.some.injEq,Prod.mk.injEq]at h
   obtain⟨rfl,rfl,rfl⟩:=h
   simp only[aC,Sbt,aH,Option.some.injEq,Prod.mk.injEq]at hrd
   obtain⟨sl,h1,fr',h2,rfl,rfl⟩:=hrd
   obtain⟨v,c,hkc,hva,hlv⟩:=hR.valAt (mJ hl (by simp))
   simp only[aD]at hlv
   obtain⟨ad,n,cp,ik,iv,h3,h4,h5,h6,h7⟩:=hlv
   have hs:=fV hR h1 h3
   obtain⟨d,hrun,hd⟩:=jD hst rfl
   simp only[List.map_cons,List.map_nil,h4]at hrun
   have hrow:∃ sz rs r,sl.x.val ρ=.rows sz rs/\sz=z'/\rs[iv.toNat]?=some r/\d=.rows z' [r]:=by
    cases hx:sl.x.val ρ with
    | rows sz rs =>
     rw[hx]at hrun
     simp only[aN.run]at hrun
     split at hrun
     ·rename_i hc
      split at hrun
      ·rename_i r hr
       simp only[Option.some.injEq,List.cons.injEq,and_true]at hrun
       exact⟨sz,rs,r,rfl,hc.1,hr,hrun.symm⟩
      ·cases hrun
     ·cases hrun
    |_=>rw[hx]at hrun;simp[aN.run]at hrun
   obtain⟨sz,rs,r,hx,rfl,hr,rfl⟩:=hrow
   have hrd:=hs.rd
   rw[hx]at hrd
   obtain⟨A',b,n',c',vs,e1,e2,e3,e4,e5,e6,e7⟩:=hrd.inv
   injection e1 with e1 e1' e1''
   have hlt:iv.toNat<rs.length:=(List.getElem?_eq_some_iff.1 hr).1
   have hA:some ad=some b:=by rw[e1];exact e4.resolve_left (by omega)
   obtain rfl:=Option.some.inj hA
   have hrl:r.length=sz:=e5 r (List.mem_of_getElem? hr)
   obtain⟨q1,q2,q3,q4⟩:=Aa0 hR hI h2 hkc hva (l:=.rp [] z (.v s.nv)) fun G' σ' hown=>by
    simp only[aD]
    refine⟨⟨by rw[h7];rfl,by simp⟩,fun _=>.inr ⟨_,r,h7,by rw[hd,hrl],?_⟩⟩
    have hab:∀ {b:Nat},allow G sl.deps b->allow G' [] b:=fun hb=>Ba3 hown (fun z hz=>Ubt hz) hb
    refine .rows _ (ad.add (iv.toNat*sz+0)) 1 1 r.length [r] (fun _ j=>vs iv.toNat j) rfl (Sb7 _) (.inr rfl) (by simp) (fun i0 r0 hi0 j d0 hj=>?_) (fun i0 r0 hi0 j d0 hj=>?_)
    ·cases i0 with
     | zero =>
      simp only[Sb8,Option.some.injEq]at hi0
      subst hi0
      obtain⟨k1,k2⟩:=e6 _ _ hr j d0 hj
      refine⟨by rw[add_block];exact hab k1,?_⟩
      rw[add_add]
      rw[show iv.toNat*sz+0+(0*r.length+j)=iv.toNat*sz+j by omega]
      exact k2
     |succ i0=>simp at hi0
    ·cases i0 with
     | zero =>
      simp only[Sb8,Option.some.injEq]at hi0
      subst hi0
      exact (e7 _ _ hr j d0 hj).mono fun b hb=>⟨hab hb,rfl⟩
     |succ i0=>simp at hi0
   exact⟨q1,⟨q2.nr_,q2.free⟩,q3,rfl⟩
  ·simp[nO]at h
 ·simp only[Option.some.injEq,Prod.mk.injEq]at h
  obtain⟨rfl,rfl,rfl⟩:=h
  exact⟨⟨G,hR⟩,hI.succ,rfl,rfl⟩
 ·simp only[Option.some.injEq,Prod.mk.injEq]at h
  obtain⟨rfl,rfl,rfl⟩:=h
  exact⟨⟨G,hR⟩,hI.succ,rfl,rfl⟩
 ·simp[nO]at h
theorem Aa1:∀ {ps:List Pos} {i:Nat} {s s':St} {ls:List Step} {xs:List aO} {G:Gh},nG E nr ps i s=some (ls,s',xs)->RI nr len i s->i+ps.length=len->R E.ntmps F s.get ρ a w G->aR cf ρ none s.nv ls ->
  (∃ G',R E.ntmps F s'.get ρ a w G')/\s'.nt=s.nt/\s'.nr=s.nr/\s'.nv=s.nv+bZ ls
 | [], i, s, s', ls, xs, G, h, hI, hl, hR, hst => by
  simp only[nG,Option.some.injEq,Prod.mk.injEq]at h
  obtain⟨rfl,rfl,rfl⟩:=h
  exact⟨⟨G,hR⟩,rfl,rfl,rfl⟩
 | p :: ps, i, s, s', ls, xs, G, h, hI, hl, hR, hst => by
  simp only[nG,bind,Sbt]at h
  obtain⟨⟨l1,s1,x1⟩,h1,⟨l2,s2,xs2⟩,h2,h3⟩:=h
  simp only[Option.some.injEq,Prod.mk.injEq]at h3
  obtain⟨rfl,rfl,rfl⟩:=h3
  simp only[Sbw]at hl
  obtain⟨hs1,hs2⟩:=aR.append hst
  obtain⟨⟨G1,hR1⟩,hI1,h4,h5⟩:=Ta2 h1 hI (by omega) hR hs1
  rw[<- h5]at hs2
  obtain⟨h6,h7,h8,h9⟩:=Aa1 h2 hI1 (by omega) hR1 hs2
  refine⟨h6,h7.trans h4,h8.trans (hI1.nr_.trans hI.nr_.symm),?_⟩
  rw[h9,h5,iF,Nat.add_assoc]
theorem vW:∀ {ps:List Pos} {i:Nat} {s s':St} {ls:List Step} {xs:List aO},nG E nr ps i s=some (ls,s',xs)->xs.length=ps.length
 | [], i, s, s', ls, xs, h => by
  simp only[nG,Option.some.injEq,Prod.mk.injEq]at h
  obtain⟨rfl,rfl,rfl⟩:=h
  rfl
 | p :: ps, i, s, s', ls, xs, h => by
  simp only[nG,bind,Sbt]at h
  obtain⟨⟨l1,s1,x1⟩,h1,⟨l2,s2,xs2⟩,h2,h3⟩:=h
  simp only[Option.some.injEq,Prod.mk.injEq]at h3
  obtain⟨rfl,rfl,rfl⟩:=h3
  simp[vW h2]
theorem rJ {τ:St}:∀ {rs:List Nat} {s s':St} {G:Gh},kC τ rs s=some s'->R E.ntmps F s.get ρ a w G->∃ G',R E.ntmps F s'.get ρ a w G'
 | [], s, s', G, h, hR => by
  simp only[kC,Option.some.injEq]at h
  subst h
  exact⟨G,hR⟩
 | r :: rs, s, s', G, h, hR => by
  simp only[kC]at h
  split at h
  ·rename_i x m v _ hk
   have hfr:(fO [r]).eval s.get=some [(kR r,.root x m v .frozen)]:=by
    simp only[fO,aC,aX,Sb6]
    rw[hk];rfl
   obtain⟨G',hR',-,-,-⟩:=hR.freeze hfr
   have hg:(s.puts [(kR r,.root x m v .frozen)]).get=upds s.get [(kR r,.root x m v .frozen)]:=Cah (La8 hfr)
   rw[<- hg]at hR'
   exact rJ h hR'
  ·exact rJ h hR
theorem La7 {s:St}(h:tH s.tr s.nr len=true):RI s.nr len 0 { s with nr:=s.nr+len }:=by
 refine⟨rfl,fun j _ hj=>?_⟩
 unfold St.get
 dsimp only
 rw[Cau h (s.nr+j) (by omega) (by omega)]
 cases Ear s.nt s.nb (s.nr+len) (kR (s.nr+j))<;>rfl
theorem Bbh {s:St}(h:tH s.tr s.nr len=true):({ s with nr:=s.nr+len }:St).get=s.get:=by
 funext k
 unfold St.get
 dsimp only
 unfold Ear
 cases b0:Nat.beq (k % 3) 0 with
 |true=>rfl
 | false =>
  rw[cond_false,cond_false]
  cases b1:Nat.beq (k % 3) 1 with
  |true=>rfl
  | false =>
   rw[cond_false,cond_false]
   have n0:k % 3≠0:=fun e=>by rw[e]at b0;cases b0
   have n1:k % 3≠1:=fun e=>by rw[e]at b1;cases b1
   cases hb:Ubs (k / 3) s.nr with
   | true =>
    have:Ubs (k / 3) (s.nr+len)=true:=by simp only[Ube]at hb ⊢;omega
    rw[this]
   | false =>
    cases hb':Ubs (k / 3) (s.nr+len) with
    |false=>rfl
    | true =>
     simp only[Ube]at hb'
     have hge:s.nr<=k / 3:=by
      rcases Tbi (k / 3) s.nr with h1|h1
      ·rw[<- Ube,hb]at h1;cases h1
      ·exact h1
     have:k=kR (k / 3):=by unfold kR;omega
     rw[cond_true,cond_false,this]
     exact Cau h _ hge hb'
theorem Pab {s0:St}{nrT:Nat}{plan:List Pos}{τ:St}{kind:Kind}{r:Tm St}(h:coerce E s0.nv s0.nr nrT plan τ kind s=some r)(hτ:Had E s0 nrT plan.length τ){ρ0 e:List D}(hρ:ρ=ρ0++e)(h0:ρ0.length=s0.nv)
  {o:Out St} (ho:Ec cf r ρ=some o) (hl:ρ.length=s.nv) (hi:Nad E s) :
  o.kind=kind/\o.vals.length=plan.length/\∀ a w G,R E.ntmps F s.get ρ a w G->∃ G',R E.ntmps F τ.get (ρ0++o.vals) a w G':=by
 unfold coerce at h
 simp only[bind,Sbt]at h
 obtain⟨⟨ls,s1,xs⟩,h1,s2,h2,h3⟩:=h
 dsimp only at h1 h2 h3
 generalize hb:(sV E s0.nv xs s0.nr nrT s.nr plan.length τ s2&&tH s.tr s.nr plan.length&&Nat.ble s0.nr s.nr&&gU s.nv ls&&xs.all (bI (s.nv+bZ ls)))=b at h3
 cases b with
 |false=>simp[nO]at h3
 | true =>
  rw[cond_true]at h3
  obtain rfl:=Option.some.inj h3
  simp only[Sbu,Ubf]at hb
  obtain⟨⟨⟨⟨hb1,hb2⟩,hb3⟩,hb4⟩,hb5⟩:=hb
  obtain⟨ds,h4,h5,h6⟩:=Aap (g:=none) rfl (by rw[hl];exact hb4) ho
  rw[jB]at h5
  obtain rfl:=Option.some.inj h5
  refine⟨rfl,by simp[Out.vals,vW h1],fun a w G hR=>?_⟩
  have h6':=h6 []
  rw[Tbb,hl]at h6'
  have hR1:R E.ntmps F ({ s with nr:=s.nr+plan.length }:St).get (ρ++ds) a w G:=by
   rw[Bbh hb2];exact hR.ext hi.sc (by omega) ds
  obtain⟨⟨G1,hR2⟩,h7,h8,h9⟩:=Aa1 (cf:=cf) h1 (La7 hb2) (by simp) hR1 h6'
  obtain⟨G2,hR3⟩:=rJ h2 hR2
  subst hρ
  rw[Sb3]at hR3
  have:=hR3.fit h0 (vW h1) hτ hb1 hb3
  rw[Sb3]
  exact this
end
end Go.Proofs.YtpgnlmfmlffjcaaGreat.Rf

namespace Go.Proofs.YtpgnlmfmlffjcaaGreat.Rf
set_option linter.unusedVariables false
set_option linter.unusedSimpArgs false
def Fbk:Kind->Exit
 |.fall=>.normal
 |.exit id=>.exit id
 |.ret=>.ret
 |_=>.outgrown
def Rbm:Kind->Prop
 |.cont=>False
 |.yield _=>False
 |_=>True
structure Post (E:Env) (ρ:List D) (o:Out St):Prop where
 nice:Rbm o.kind
 len:o.env.length=o.ext.nv
 inv:Nad E o.ext
 pre:∃ ds,o.env=ρ++ds
def Wp (P:Program)(E:Env)(F:cB)(c:Code)(s:St)(ρ:List D)(o:Out St):Prop :=
 ∀ a w G Q,R E.ntmps F s.get ρ a w G->(∀ a' w' G',R E.ntmps F o.ext.get o.env a' w' G'->Q (Fbk o.kind) a' w')->c.wp P Q a w
theorem Post.trans {E:Env}{ρ ds:List D}{o:Out St}(h:Post E (ρ++ds) o):Post E ρ o:=by
 obtain⟨es,h1⟩:=h.pre
 exact⟨h.nice,h.len,h.inv,ds++es,by rw[h1,Sb3]⟩
theorem Pah {k:Kind}:vL k=true↔k=.fall:=by cases k<;>simp[vL]
section
variable {P:Program} {E:Env} {F:cB} {cf:Nat->List D->Option (List D)} {ρ:List D}
theorem qV {g:Option (aO×Bool)}{kind:Kind}{xs:List aO}{s:St}:∀ {ls:List Step} {ρ:List D} {o:Out St},Ec cf (uL g (.leaf kind xs s) ls) ρ=some o->o.kind=kind
 | [], ρ, o, h => by
  rw[uL,jB]at h
  obtain rfl:=Option.some.inj h
  rfl
 | .prim p ys n :: r, ρ, o, h => by
  rw[uL,Raz]at h
  split at h
  ·simp only[Sbt]at h
   obtain⟨ds,-,h⟩:=h
   split at h
   ·exact qV h
   ·cases h
  ·exact qV h
 | .call f ys n olds :: r, ρ, o, h => by
  rw[uL,zY]at h
  split at h
  ·simp only[Sbt]at h
   obtain⟨ds,-,h⟩:=h
   split at h
   ·exact qV h
   ·cases h
  ·exact qV h
theorem Mau {n nr0 nrT:Nat}{plan:List Pos}{τ s:St}{kind:Kind}{r:Tm St}(h:coerce E n nr0 nrT plan τ kind s=some r){ρ:List D}{o:Out St}(ho:Ec cf r ρ=some o):o.kind=kind:=by
 unfold coerce at h
 simp only[bind,Sbt]at h
 obtain⟨⟨ls,s1,xs⟩,h1,s2,h2,h3⟩:=h
 dsimp only at h3
 revert h3
 generalize (sV E n xs nr0 nrT s.nr plan.length τ s2&&tH s.tr s.nr plan.length&&Nat.ble nr0 s.nr&&gU s.nv ls&&xs.all (bI (s.nv+bZ ls)))=b
 intro h3
 cases b with
 |false=>simp[nO]at h3
 | true =>
  rw[cond_true]at h3
  obtain rfl:=Option.some.inj h3
  exact qV ho
theorem Hbv {live:Nat}{s0:St}{i:Nat}{sel:Kind->Bool}{ends:List St}{t t':Tm St}{τ:St}(h:join E live s0 i sel ends t=some (t',τ)) :
  ∃ plan nr',Had E s0 nr' plan.length τ/\t.turn (.yield i) sel (coerce E s0.nv s0.nr nr' plan τ (.yield i))=some t':=by
 unfold join at h
 dsimp only at h
 revert h
 generalize hb:Iat E s0 _ _ _=b
 intro h
 cases b with
 |false=>simp[nO]at h
 | true =>
  rw[cond_true,Option.map_eq_some_iff]at h
  obtain⟨t1,h1,h2⟩:=h
  obtain⟨rfl,rfl⟩:=Prod.mk.inj h2
  exact⟨_,_,Dav hb,h1⟩
theorem Eb0 {live:Nat}{s0:St}{i:Nat}{sel:Kind->Bool}{ends:List St}{t t' k:Tm St}{τ:St}(h:join E live s0 i sel ends t=some (t',τ))(hc:sel .cont=false)(hy:∀ i,sel (.yield i)=false)
  {o:Out St} (ho:Ec cf (.bind i t' k) ρ=some o) (hl:ρ.length=s0.nv) (hP:∀ o1,Ec cf t ρ=some o1->Post E ρ o1) :
  ∃ o1,Ec cf t ρ=some o1/\((sel o1.kind=true/\∃ vals,Ec cf k (ρ++vals)=some o/\(ρ++vals).length=τ.nv/\Nad E τ/\∀ a w G,R E.ntmps F o1.ext.get o1.env a w G->∃ G',R E.ntmps F τ.get (ρ++vals) a w G')\/(sel o1.kind=false/\o=o1)):=by
 obtain⟨plan,nr',hτ,ht⟩:=Hbv h
 simp only[wO,Sbt]at ho
 obtain⟨o',h1,h2⟩:=ho
 obtain⟨o1,h3,h4⟩:=pK (fun s r hr ρ o ho=>Mau hr ho) hc hy ht h1
 refine⟨o1,h3,?_⟩
 have hp:=hP o1 h3
 rcases h4 with ⟨h5,h6,r,h7,h8⟩|⟨h5,h6⟩
 ·refine .inl ⟨h5,?_⟩
  rw[if_pos h6]at h2
  obtain⟨ds,h9⟩:=hp.pre
  obtain⟨h10,h11,h12⟩:=Pab (F:=F) h7 hτ h9 hl h8 hp.len hp.inv
  exact⟨o'.vals,h2,by rw[Sby,hl,h11,hτ.nv],⟨hτ.nt1,hτ.inScope⟩,h12⟩
 ·refine .inr ⟨h5,?_⟩
  subst h6
  have:o'.kind≠.yield i:=fun e=>by
   have:=hp.nice
   rw[e]at this
   exact this
  rw[if_neg this]at h2
  exact (Option.some.inj h2).symm
theorem Laj {live:Nat}{s:St}{body:St->Option (Tm St)}:∀ {fuel:Nat} {plan:List Pos} {keys:List Nat} {nr':Nat} {seen:List St} {t:Tm St},Lak E live s body fuel plan keys nr' seen=some t ->
  ∃ plan nr' τ tb tb' xs s1 s2,body τ=some tb/\Had E s nr' plan.length τ/\nG E s.nr plan 0 { s with nr:=s.nr+plan.length }=some ([],s1,xs)/\kC τ (range 0 s.nr) s1=some s2 /\
   sV E s.nv xs s.nr nr' s.nr plan.length τ s2=true/\tH s.tr s.nr plan.length=true/\tb.turn .cont vL (coerce E s.nv s.nr nr' plan τ .cont)=some tb'/\t=.loop xs tb'
 |0,_,_,_,_,t,h=>by simp[Lak,nO]at h
 | fuel + 1, plan, keys, nr', seen, t, h => by
  simp only[Lak]at h
  split at h
  ·cases h
  ·rename_i tb hb
   revert h
   generalize hc:(Wa1 plan _&&_&&_)=b
   intro h
   cases b with
   | false =>
    rw[cond_false]at h
    exact Laj h
   | true =>
    rw[cond_true]at h
    simp only[bind,Sbt]at h
    obtain⟨⟨pre,s1,xs⟩,h1,s2,h2,h3⟩:=h
    dsimp only at h1 h2 h3
    revert h3
    generalize hd:(sV E s.nv xs s.nr nr' s.nr plan.length _ s2&&tH s.tr s.nr plan.length&&pre.isEmpty&&Iat E s nr' plan.length _)=b
    intro h3
    cases b with
    |false=>simp[nO]at h3
    | true =>
     rw[cond_true]at h3
     simp only[Sbt,Option.some.injEq]at h3
     obtain⟨tb',h4,h5⟩:=h3
     simp only[Sbu,Wbf]at hd
     obtain⟨⟨⟨hd1,hd2⟩,rfl⟩,hd4⟩:=hd
     exact⟨plan,nr',_,tb,tb',xs,s1,s2,hb,Dav hd4,h1,h2,hd1,hd2,h4,h5.symm⟩
theorem Uaf {s:St}{body:St->Option (Tm St)}{H:List (Nat×Nat×Nat×Nat)×List Nat×Nat×List Nat}{t:Tm St}(h:Qai E s body H=some t) :
  ∃ plan nr' τ tb tb' xs s1 s2,body τ=some tb/\Had E s nr' plan.length τ/\nG E s.nr plan 0 { s with nr:=s.nr+plan.length }=some ([],s1,xs)/\kC τ (range 0 s.nr) s1=some s2 /\
   sV E s.nv xs s.nr nr' s.nr plan.length τ s2=true/\tH s.tr s.nr plan.length=true/\tb.turn .cont vL (coerce E s.nv s.nr nr' plan τ .cont)=some tb'/\t=.loop xs tb':=by
 unfold Qai at h
 revert h
 generalize (H.1.map fun p=>(⟨p.1,p.2.1,Qba p.2.2.1 p.2.2.2⟩:Pos))=plan
 generalize s.nr+H.2.2.1=nr'
 intro h
 dsimp only at h
 split at h
 ·cases h
 ·rename_i tb hb
  simp only[bind,Sbt]at h
  obtain⟨⟨pre,s1,xs⟩,h1,s2,h2,h3⟩:=h
  dsimp only at h1 h2 h3
  revert h3
  generalize hd:(sV E s.nv xs s.nr nr' s.nr plan.length _ s2&&tH s.tr s.nr plan.length&&pre.isEmpty&&Iat E s nr' plan.length _)=b
  intro h3
  cases b with
  |false=>simp[nO]at h3
  | true =>
   rw[cond_true]at h3
   simp only[Sbt,Option.some.injEq]at h3
   obtain⟨tb',h4,h5⟩:=h3
   simp only[Sbu,Wbf]at hd
   obtain⟨⟨⟨hd1,hd2⟩,rfl⟩,hd4⟩:=hd
   exact⟨plan,nr',_,tb,tb',xs,s1,s2,hb,Dav hd4,h1,h2,hd1,hd2,h4,h5.symm⟩
theorem least {p:Nat->Prop}(h:∃ n,p n):∃ n,p n/\∀ m,p m->n<=m:=by
 obtain⟨n,hn⟩:=h
 induction n using Nat.strongRecOn with
 | _ n ih =>
  by_cases h:∃ m,m<n/\p m
  ·obtain⟨m,h1,h2⟩:=h
   exact ih m h1 h2
  ·refine⟨n,hn,fun m hm=>?_⟩
   rcases Tbi m n with h1|h1
   ·exact absurd ⟨m,h1,hm⟩ h
   ·exact h1
open Classical in
theorem Ra8 {c:Code}{Q:Exit->Act->World->Prop}(K:Nat->Act->World->Prop)
  (round:∀ n a w,K n a w->c.wp P (Exit.then (fun a' w'=>∃ m,m<n/\K m a' w') Q) a w) {n:Nat} {a:Act} {w:World} (h0:K n a w):(Code.loop c).wp P Q a w:=by
 refine wp_loop (fun a w=>∃ n,K n a w) (fun a w=>if h:∃ n,K n a w then (least h).choose else 0) ⟨n,h0⟩ fun a w h=>?_
 have h1:=round _ a w (least h).choose_spec.1
 refine wp_mono h1 fun e a' w' hq=>?_
 cases e with
 | normal =>
  obtain⟨m,hm,hK⟩:=hq
  have h':∃ n,K n a' w':=⟨m,hK⟩
  refine⟨h',?_⟩
  rw[dif_pos h',dif_pos h]
  exact Nat.lt_of_le_of_lt ((least h').choose_spec.2 m hK) hm
 |_=>exact hq
theorem Oah {s:St}{body:St->Option (Tm St)}{c:Code}
  (hbody:∀ {τ:St} {t:Tm St} {ρ:List D} {o:Out St},body τ=some t->Ec cf t ρ=some o->ρ.length=τ.nv->Nad E τ->Post E ρ o/\Wp P E F c τ ρ o)
  {t:Tm St} (h:∃ plan nr' τ tb tb' xs s1 s2,body τ=some tb/\Had E s nr' plan.length τ/\nG E s.nr plan 0 { s with nr:=s.nr+plan.length }=some ([],s1,xs)/\kC τ (range 0 s.nr) s1=some s2 /\
   sV E s.nv xs s.nr nr' s.nr plan.length τ s2=true/\tH s.tr s.nr plan.length=true/\tb.turn .cont vL (coerce E s.nv s.nr nr' plan τ .cont)=some tb'/\t=.loop xs tb') {o:Out St} (ho:Ec cf t ρ=some o) (hl:ρ.length=s.nv) (hi:Nad E s):Post E ρ o/\Wp P E F (.loop c) s ρ o:=by
 obtain⟨plan,nr',τ,tb,tb',xs,s1,s2,h1,hτ,h2,h3,h4,h5,h6,rfl⟩:=h
 have hiτ:Nad E τ:=⟨hτ.nt1,hτ.inScope⟩
 have hxs:=vW h2
 rw[Ra0]at ho
 have hturn:∀ vs o',vs.length=plan.length->Ec cf tb' (ρ++vs)=some o'->∃ o1,Ec cf tb (ρ++vs)=some o1/\Post E (ρ++vs) o1/\Wp P E F c τ (ρ++vs) o1 /\
   ((o1.kind=.fall/\o'.kind=.cont/\o'.vals.length=plan.length/\∀ a w G,R E.ntmps F o1.ext.get o1.env a w G->∃ G',R E.ntmps F τ.get (ρ++o'.vals) a w G')\/(o1.kind≠.fall/\o'=o1)):=by
  intro vs o' hvs he
  obtain⟨o1,h7,h8⟩:=pK (fun s r hr ρ o ho=>Mau hr ho) rfl (fun _=>rfl) h6 he
  obtain⟨hp,hw⟩:=hbody h1 h7 (by rw[Sby,hl,hvs,hτ.nv]) hiτ
  refine⟨o1,h7,hp,hw,?_⟩
  rcases h8 with ⟨h9,h10,r,h11,h12⟩|⟨h9,h10⟩
  ·obtain⟨ds,h13⟩:=hp.pre
   obtain⟨h14,h15,h16⟩:=Pab (F:=F) h11 hτ (h13.trans (Sb3 ..)) hl h12 hp.len hp.inv
   exact .inl ⟨Pah.1 h9,h14,h15,h16⟩
  ·exact .inr ⟨(fun e=>by rw[e]at h9;cases h9),h10⟩
 refine⟨?_,fun a w G Q hR hQ=>?_⟩
 ·refine Gbl (C:=fun vs o=>vs.length=plan.length->Post E ρ o) (fun vs o' he hk hvs=>?_) (fun vs o' o2 he hk hC _ hvs=>?_) ho (by simp[hxs])
  ·obtain⟨o1,-,hp,-,h8⟩:=hturn vs o' hvs he
   rcases h8 with ⟨-,h9,-⟩|⟨-,h9⟩
   ·exact absurd h9 hk
   ·rw[h9];exact hp.trans
  ·obtain⟨o1,-,hp,-,h8⟩:=hturn vs o' hvs he
   rcases h8 with ⟨-,-,h9,-⟩|⟨-,h9⟩
   ·exact hC h9
   ·subst h9
    have:=hp.nice
    rw[hk]at this
    exact this.elim
 ·
  have hR1:R E.ntmps F ({ s with nr:=s.nr+plan.length }:St).get ρ a w G:=by rw[Bbh h5];exact hR
  obtain⟨⟨G1,hR2⟩,-⟩:=Aa1 (cf:=cf) h2 (La7 h5) (by simp) hR1 trivial
  obtain⟨G2,hR3⟩:=rJ h3 hR2
  obtain⟨G3,hR4⟩:=R.fit (ρ0:=ρ) (e:=[]) (by rw[Tbb];exact hR3) hl hxs hτ h4 (Sb7 _)
  rw[Tbb]at hR4
  have ho':=ho
  unfold Lc at ho'
  obtain⟨N,hN⟩:=(jI (Rbx (cf:=cf) tb' ρ (xs.map (·.val ρ)))).1 ho'
  refine Ra8 (fun n a w=>∃ vs G,iter n (fun vs=>runT cf N tb' (ρ++vs)) vs=some o/\vs.length=plan.length/\R E.ntmps F τ.get (ρ++vs) a w G) (fun n a w hK=>?_) (n:=N) ⟨_,G3,hN,by simp[hxs],hR4⟩
  obtain⟨vs,G,hn,hvs,hRv⟩:=hK
  cases n with
  |zero=>cases hn
  | succ m =>
   simp only[iter,Sbt]at hn
   obtain⟨o',h7,h8⟩:=hn
   obtain⟨o1,h9,hp,hw,h10⟩:=hturn vs o' hvs (Naf.2 ⟨N,h7⟩)
   refine hw a w G _ hRv fun a' w' G' hR'=>?_
   rcases h10 with ⟨h11,h12,h13,h14⟩|⟨h11,h12⟩
   ·rw[if_pos h12]at h8
    rw[h11]
    obtain⟨G'',hR''⟩:=h14 a' w' G' hR'
    exact⟨m,Nat.lt_succ_self m,o'.vals,G'',h8,h13,hR''⟩
   ·subst h12
    have hk:o'.kind≠.cont:=fun e=>by
     have:=hp.nice
     rw[e]at this
     exact this
    rw[if_neg hk]at h8
    obtain rfl:=Option.some.inj h8
    have:=hQ a' w' G' hR'
    revert this h11
    have:=hp.nice
    revert this
    cases o'.kind<;>intro h1 h2 h3<;>first|exact h1.elim|exact (h2 rfl).elim|exact h3
theorem wJ (hti:Aaj P E.ti)(hcalls:Eap P E F cf)(hm:P.follows .mixedOrders=true){rb:Nat}:∀ (c:Code) {ex:List (Nat×Nat)} {live:Nat} {s:St} {t:Tm St} {ρ:List D} {o:Out St},sxC E false rb c ex live s=some t ->
  Ec cf t ρ=some o->ρ.length=s.nv->Nad E s->Post E ρ o/\Wp P E F c s ρ o
 | .skip, ex, live, s, t, ρ, o, h, ho, hl, hi => by
  simp only[sxC,Option.some.injEq]at h
  subst h
  rw[jB]at ho
  obtain rfl:=Option.some.inj ho
  exact⟨⟨trivial,hl,hi,[],by simp⟩,fun a w G Q hR hQ=>wp_skip (hQ a w G hR)⟩
 | .label _, ex, live, s, t, ρ, o, h, ho, hl, hi => by
  simp only[sxC,Option.some.injEq]at h
  subst h
  rw[jB]at ho
  obtain rfl:=Option.some.inj ho
  exact⟨⟨trivial,hl,hi,[],by simp⟩,fun a w G Q hR hQ=>wp_label (hQ a w G hR)⟩
 | .ret, ex, live, s, t, ρ, o, h, ho, hl, hi => by
  simp only[sxC,Option.some.injEq]at h
  subst h
  rw[jB]at ho
  obtain rfl:=Option.some.inj ho
  exact⟨⟨trivial,hl,hi,[],by simp⟩,fun a w G Q hR hQ=>wp_ret (hQ a w G hR)⟩
 | .exit id, ex, live, s, t, ρ, o, h, ho, hl, hi => by
  simp only[sxC,Option.some.injEq]at h
  subst h
  rw[jB]at ho
  obtain rfl:=Option.some.inj ho
  exact⟨⟨trivial,hl,hi,[],by simp⟩,fun a w G Q hR hQ=>wp_exit (hQ a w G hR)⟩
 | .region rid ops draw, ex, live, s, t, ρ, o, h, ho, hl, hi => by
  simp only[sxC,Option.some.injEq]at h
  subst h
  obtain⟨⟨h1,h2,h3,h4⟩,h5⟩:=Saw hti hcalls hm ho hl hi
  exact⟨⟨by rw[h1];trivial,h2,h3,h4⟩,fun a w G Q hR hQ=>h5 a w G Q hR fun a' w' G' hR'=>by
   have:=hQ a' w' G' hR'
   rw[h1]at this
   exact this⟩
 | .seq a b, ex, live, s, t, ρ, o, h, ho, hl, hi => by
  simp only[sxC,bind,Sbt]at h
  obtain⟨ta,hta,h⟩:=h
  have iha:=fun {o1:Out St} (h1:Ec cf ta ρ=some o1)=>wJ hti hcalls hm a hta h1 hl hi
  have hpass:∀ o1:Out St,Post E ρ o1->Wp P E F a s ρ o1->o1.kind≠.fall->Wp P E F (.seq a b) s ρ o1:=by
   intro o1 hp hw hk a' w G Q hR hQ
   refine wp_seq (hw a' w G _ hR fun a1 w1 G1 hR1=>?_)
   have:=hQ a1 w1 G1 hR1
   revert this hk
   have:=hp.nice
   revert this
   cases o1.kind<;>intro h1 h2 h3<;>first|exact h1.elim|exact (h2 rfl).elim|exact h3
  cases hno:ta.no vL with
  | true =>
   rw[hno,cond_true,Option.some.injEq]at h
   subst h
   obtain⟨hp,hw⟩:=iha ho
   exact⟨hp,hpass o hp hw fun e=>by have:=Aa9 hno ho;rw[e]at this;cases this⟩
  | false =>
   rw[hno,cond_false]at h
   have hgo:∀ {o1:Out St} {s2:St} {tb:Tm St} {ρ2:List D},Ec cf ta ρ=some o1->o1.kind=.fall->sxC E false rb b ex live s2=some tb->Ec cf tb ρ2=some o->ρ2.length=s2.nv->Nad E s2->(∃ ds,ρ2=ρ++ds) ->
     (∀ a w G,R E.ntmps F o1.ext.get o1.env a w G->∃ G',R E.ntmps F s2.get ρ2 a w G')->Post E ρ o/\Wp P E F (.seq a b) s ρ o:=by
    intro o1 s2 tb ρ2 h1 hk h2 h3 h4 h5 ⟨ds,h6⟩ h7
    obtain⟨hp,hw⟩:=wJ hti hcalls hm b h2 h3 h4 h5
    obtain⟨hp1,hw1⟩:=iha h1
    subst h6
    refine⟨hp.trans,fun a' w G Q hR hQ=>wp_seq (hw1 a' w G _ hR fun a1 w1 G1 hR1=>?_)⟩
    rw[hk]
    obtain⟨G2,hR2⟩:=h7 a1 w1 G1 hR1
    exact hw a1 w1 G2 Q hR2 hQ
   split at h
   ·obtain⟨o1,h1,h2⟩:=wC h ho
    rcases h2 with ⟨h3,tb,h4,h5⟩|⟨h3,h4⟩
    ·obtain⟨hp,-⟩:=iha h1
     exact hgo h1 h3 h4 h5 hp.len hp.inv hp.pre fun a w G hR=>⟨G,hR⟩
    ·subst h4
     obtain⟨hp,hw⟩:=iha h1
     exact⟨hp,hpass _ hp hw h3⟩
   ·simp only[Sbt]at h
    obtain⟨⟨t',τ⟩,hj,k,hk,h⟩:=h
    simp only[Option.some.injEq]at h
    subst h
    obtain⟨o1,h1,h2⟩:=Eb0 (F:=F) hj rfl (fun _=>rfl) ho hl fun o1 h1=>(iha h1).1
    rcases h2 with ⟨h3,vals,h4,h5,h6,h7⟩|⟨h3,h4⟩
    ·exact hgo h1 (Pah.1 h3) hk h4 h5 h6 ⟨vals,rfl⟩ fun a w G hR=>h7 a w G hR
    ·subst h4
     obtain⟨hp,hw⟩:=iha h1
     exact⟨hp,hpass _ hp hw fun e=>by rw[e]at h3;cases h3⟩
 | .cond c a b, ex, live, s, t, ρ, o, h, ho, hl, hi => by
  simp only[sxC]at h
  have hcb:∀ v,Fb3 c=some v->c=.const (.bool v):=by
   intro v hv
   unfold Fb3 at hv
   split at hv
   ·cases hv;rfl
   ·cases hv
  split at h
  ·rename_i hc
   obtain rfl:=hcb _ hc
   obtain⟨hp,hw⟩:=wJ hti hcalls hm a h ho hl hi
   exact⟨hp,fun a' w G Q hR hQ=>wp_cond_true rfl (hw a' w G Q hR hQ)⟩
  ·rename_i hc
   obtain rfl:=hcb _ hc
   obtain⟨hp,hw⟩:=wJ hti hcalls hm b h ho hl hi
   exact⟨hp,fun a' w G Q hR hQ=>wp_cond_false rfl (hw a' w G Q hR hQ)⟩
  rename_i hcn
  clear hcn hcb
  split at h
  ·rename_i x tt hk
   cases hb:(bI s.nv x&&Ubs tt E.ntmps) with
   | false =>
    rw[hb]at h
    simp only[Bool.not_false,cond_true,Option.some.injEq]at h
    subst h
    rw[lY]at ho;cases ho
   | true =>
    rw[hb]at h
    simp only[Ub0,cond_false,bind,Sbt,Option.some.injEq]at h
    obtain⟨ta,hta,tb,htb,rfl⟩:=h
    simp only[Sbu,Ube]at hb
    have hev:∀ a' w G,R E.ntmps F s.get ρ a' w G->Sc (a'.eval (.tmp tt)) (x.val ρ):=by
     intro a' w G hR
     have:=hR.slot hk rfl
     simp only[eB,aD,Eaq]at this
     rw[if_pos hb.2]at this
     have e:a'.eval (.tmp tt)=a'.tmps.getD tt undef:=by
      simp[Act.eval,Tb8]
     rw[e];exact this
    rw[Jar]at ho
    split at ho
    ·rename_i hx
     obtain⟨hp,hw⟩:=wJ hti hcalls hm a hta ho hl hi
     refine⟨hp,fun a' w G Q hR hQ=>wp_cond_true ?_ (hw a' w G Q hR hQ)⟩
     have:=hev a' w G hR
     rw[hx]at this
     exact this.bool_inv
    ·rename_i hx
     obtain⟨hp,hw⟩:=wJ hti hcalls hm b htb ho hl hi
     refine⟨hp,fun a' w G Q hR hQ=>wp_cond_false ?_ (hw a' w G Q hR hQ)⟩
     have:=hev a' w G hR
     rw[hx]at this
     exact this.bool_inv
    ·cases ho
  ·simp only[Option.some.injEq]at h
   subst h
   rw[lY]at ho;cases ho
 | .block id b, ex, live, s, t, ρ, o, h, ho, hl, hi => by
  simp only[sxC,bind,Sbt]at h
  obtain⟨tb,htb,h⟩:=h
  have ihb:=fun {o1:Out St} (h1:Ec cf tb ρ=some o1)=>wJ hti hcalls hm b htb h1 hl hi
  have hpass:∀ o1:Out St,Post E ρ o1->Wp P E F b s ρ o1->uZ id o1.kind=false->Wp P E F (.block id b) s ρ o1:=by
   intro o1 hp hw hk a' w G Q hR hQ
   refine wp_block (hw a' w G _ hR fun a1 w1 G1 hR1=>?_)
   have:=hQ a1 w1 G1 hR1
   revert this hk
   have:=hp.nice
   revert this
   cases o1.kind with
   | exit j =>
    intro h1 h2 h3
    simp only[Fbk,Exit.inBlock]
    rw[if_neg]
    ·exact h3
    ·intro e
     simp[uZ,e]at h2
   |fall=>exact fun h1 h2 h3=>h3
   |ret=>exact fun h1 h2 h3=>h3
   |cont=>exact fun h1 h2 h3=>h1.elim
   |yield i=>exact fun h1 h2 h3=>h1.elim
  cases hno:tb.no (uZ id) with
  | true =>
   rw[hno,cond_true,Option.some.injEq]at h
   subst h
   obtain⟨hp,hw⟩:=ihb ho
   exact⟨hp,hpass o hp hw (Aa9 hno ho)⟩
  | false =>
   rw[hno,cond_false]at h
   have hend:∀ {o1:Out St} {o:Out St},Ec cf tb ρ=some o1->Vaq id o1.kind=true->o.kind=.fall->(∀ a w G,R E.ntmps F o1.ext.get o1.env a w G->∃ G',R E.ntmps F o.ext.get o.env a w G')->Wp P E F (.block id b) s ρ o:=by
    intro o1 o h1 hk ho hg a' w G Q hR hQ
    obtain⟨hp,hw⟩:=ihb h1
    refine wp_block (hw a' w G _ hR fun a1 w1 G1 hR1=>?_)
    obtain⟨G2,hR2⟩:=hg a1 w1 G1 hR1
    have:=hQ a1 w1 G2 hR2
    rw[ho]at this
    revert hk
    cases o1.kind with
    | exit j =>
     intro hk
     simp only[Vaq,Tbv]at hk
     simp only[Fbk,Exit.inBlock]
     rw[if_pos hk.symm]
     exact this
    |fall=>exact fun _=>this
    |ret=>intro hk;cases hk
    |cont=>intro hk;cases hk
    |yield i=>intro hk;cases hk
   split at h
   ·obtain⟨o1,h1,h2⟩:=mQ h ho
    obtain⟨hp,hw⟩:=ihb h1
    rcases h2 with ⟨h3,h4⟩|⟨h3,h4⟩
    ·subst h4
     refine⟨⟨trivial,hp.len,hp.inv,hp.pre⟩,hend h1 ?_ rfl fun a w G hR=>⟨G,hR⟩⟩
     revert h3
     cases o1.kind<;>simp[uZ,Vaq]
    ·subst h4
     exact⟨hp,hpass _ hp hw h3⟩
   ·simp only[Sbt]at h
    obtain⟨⟨t',τ⟩,hj,h⟩:=h
    simp only[Option.some.injEq]at h
    subst h
    obtain⟨o1,h1,h2⟩:=Eb0 (F:=F) hj rfl (fun _=>rfl) ho hl fun o1 h1=>(ihb h1).1
    rcases h2 with ⟨h3,vals,h4,h5,h6,h7⟩|⟨h3,h4⟩
    ·rw[jB]at h4
     obtain rfl:=Option.some.inj h4
     exact⟨⟨trivial,h5,h6,vals,rfl⟩,hend h1 h3 rfl fun a w G hR=>h7 a w G hR⟩
    ·subst h4
     obtain⟨hp,hw⟩:=ihb h1
     refine⟨hp,hpass _ hp hw ?_⟩
     revert h3
     cases o.kind<;>simp[uZ,Vaq]
 | .loop b, ex, live, s, t, ρ, o, h, ho, hl, hi => by
  simp only[sxC]at h
  split at h
  ·exact Oah (fun h1 h2 h3 h4=>wJ hti hcalls hm b h1 h2 h3 h4) (Uaf h) ho hl hi
  ·exact Oah (fun h1 h2 h3 h4=>wJ hti hcalls hm b h1 h2 h3 h4) (Laj h) ho hl hi
 | .scope _, ex, live, s, t, ρ, o, h, ho, hl, hi => by
  simp only[sxC,Option.some.injEq]at h
  subst h
  rw[lY]at ho;cases ho
 | .goto _, ex, live, s, t, ρ, o, h, ho, hl, hi => by
  simp only[sxC,Option.some.injEq]at h
  subst h
  rw[lY]at ho;cases ho
 | .rangeFunc _ _ _ _, ex, live, s, t, ρ, o, h, ho, hl, hi => by
  simp only[sxC,Option.some.injEq]at h
  subst h
  rw[lY]at ho;cases ho
 | .refuse _, ex, live, s, t, ρ, o, h, ho, hl, hi => by
  simp only[sxC,Option.some.injEq]at h
  subst h
  rw[lY]at ho;cases ho
end
end Go.Proofs.YtpgnlmfmlffjcaaGreat.Rf
