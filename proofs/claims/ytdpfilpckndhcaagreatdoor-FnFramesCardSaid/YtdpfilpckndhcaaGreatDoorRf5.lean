/- Terms for the program's functions, and that they are right: part 5 of 9. -/
import Derived.Test.YtdpfilpckndhcaaGreatDoorRf4
import Derived.Orders
open Array renaming getElem?_eq_getElem → Rb0, getD_eq_getD_getElem? → Rb3, getElem?_toList → Sbi
open Bool renaming and_eq_true → Qbq, not_eq_true' → Rbe, not_true → Rbl, or_eq_true → Rbw, or_true → Sb3, false_or → Sb6
open List renaming length_append → Qbs, length_cons → Qbt, mem_append_left → Qbv, mem_append_right → Qby, getElem?_eq_getElem → Qbz, append_assoc → Qb1, getElem?_cons_zero → Qb4, getD_eq_getElem?_getD → Qb5, mem_singleton → Qb6, mem_cons_self → Qb7, getElem?_append_left → Rbc, all_eq_true → Rbg, mem_cons → Rbk, append_nil → Rbm, not_mem_nil → Rbs, nil_append → Rb9, mem_map_of_mem → Sbl, getElem?_set → Sb1, isEmpty_iff → Tb0, mem_range → Ubd
open Nat renaming le_refl → Qbw, lt_or_ge → Rbj, zero_add → Rbt, beq_eq → Rbv, add_zero → Rby, blt_eq → Rb6, ble_eq → Rb8, blt → Sbj, strongRecOn → Tbd, testBit → Tbe, lt_trichotomy → Tbn, le_succ → Tbp, le_add_right → Tb6
open Option renaming bind_eq_some_iff → Qbp, bind_some → Qb3, map_some → Rb5, getD_some → Sbr
set_option linter.unusedSimpArgs false
set_option linter.unusedVariables false
set_option linter.unnecessarySimpa false
set_option linter.unusedSectionVars false
namespace Go.Proofs.YtdpfilpckndhcaaGreatDoor.Rf
set_option linter.unusedVariables false
set_option linter.unusedSimpArgs false
theorem mem_range {x:Nat}:∀ {n a:Nat},x∈range a n↔a<=x/\x<a+n
 |0,a=>by simp[range]
 | n + 1, a => by
  simp only[range,Rbk,mem_range]
  omega
theorem wC {nrT nrB r:Nat}(h:r<nrT):Ta1 nrT nrB r=r:=by
 unfold Ta1
 have:Nat.ble nrT r=false:=by
  cases e:Nat.ble nrT r with
  |false=>rfl
  |true=>simp only[Rb8]at e;omega
 rw[this];rfl
theorem Oa0 {nrT nrB r:Nat}(h:nrT<=r):Ta1 nrT nrB r=nrB+(r-nrT):=by
 unfold Ta1
 have:Nat.ble nrT r=true:=by simpa using h
 rw[this];rfl
def xX (nr0 nrB nrT:Nat):Ow->Ow
 |.slc r p=>if r<nr0 then .slc r p else if nrB<=r then .slc (nrT+(r-nrB)) p else .oth
 |o=>o
theorem Wal {nr0 nrB nrT:Nat}{o:Ow}{r:Nat}{p:List Nat}(h0:nr0<=nrT)(h:xX nr0 nrB nrT o=.slc r p):o=.slc (Ta1 nrT nrB r) p:=by
 cases o with
 | slc s q =>
  simp only[xX]at h
  split at h
  ·injection h with h1 h2
   subst h1 h2
   rw[wC (by omega)]
  ·split at h
   ·injection h with h1 h2
    subst h1 h2
    rw[Oa0 (by omega)]
    congr 1
    omega
   ·cases h
 |_=>simp only[xX]at h;cases h
theorem Ias {nr0 nrB nrT r:Nat}{p:List Nat}(h0:nr0<=nrT)(hB:nr0<=nrB)(hr:r<nr0\/nrT<=r):xX nr0 nrB nrT (.slc (Ta1 nrT nrB r) p)=.slc r p:=by
 simp only[xX]
 rcases hr with h|h
 ·rw[wC (by omega),if_pos h]
 ·rw[Oa0 h,if_neg (by omega),if_pos (by omega)]
  congr 1
  omega
structure Bbr (τ:St) (σ:Nat->Option aU) (ρ' ρ:List D) (G' G:Gh) (N n:Nat) (xs:List aM) (nrT nrB nr0:Nat):Prop where
 at_:∀ x,bG N x=true->x.val ρ'=(Oa1 n xs x).val ρ
 le:nr0<=nrT
 leB:nr0<=nrB
 hdr:∀ r,G'.hdr r=G.hdr (Ta1 nrT nrB r)
 own:∀ b,G'.own b=xX nr0 nrB nrT (G.own b)
 bx:G'.bx=G.bx
 valid:∀ r k,r<nr0->qY τ.get r k->qY σ r k
 live:∀ r k m,r<nr0->Ea6 τ.get r k m->Ea6 σ r k m
theorem Fah {τ:St}{nr0:Nat}:∀ {deps:List (Nat×Nat)},Qay τ nr0 deps=true->∀ z∈deps,z.1<nr0/\lJ τ.get z.1 z.2
 |[],_,z,hz=>by simp at hz
 | (r, k) :: d, h, z, hz => by
  simp only[Qay,Qbq]at h
  rcases List.mem_cons.1 hz with rfl|hz
  ·refine⟨by simpa using h.1.1,?_⟩
   have h2:=h.1.2
   split at h2
   ·rename_i x m v e;exact⟨_,_,_,_,e,fun hs=>by rcases hs with hs|hs<;>cases hs⟩
   ·rename_i x m v r' e;exact⟨_,_,_,_,e,fun hs=>by rcases hs with hs|hs<;>cases hs⟩
   ·rename_i x m v st hn1 hn2 e;exact⟨_,_,_,_,e,fun _=>by simpa using h2⟩
   ·cases h2
  ·exact Fah h.2 z hz
section
variable {τ:St} {σ:Nat->Option aU} {ρ' ρ:List D} {G' G:Gh} {w:World} {N n:Nat} {xs:List aM} {nrT nrB nr0:Nat}
theorem Bbr.ownLow (h:Bbr τ σ ρ' ρ G' G N n xs nrT nrB nr0){b r:Nat}{p:List Nat}(hr:r<nr0)(hb:G.own b=.slc r p):G'.own b=.slc r p:=by
 rw[h.own,hb]
 have h1:Ta1 nrT nrB r=r:=wC (by have:=h.le;omega)
 have h2:=Ias (p:=p) h.le h.leB (.inl hr:r<nr0\/nrT<=r)
 rw[h1]at h2
 exact h2
theorem Bbr.frz (h:Bbr τ σ ρ' ρ G' G N n xs nrT nrB nr0){b:Nat}(hb:G.own b=.frz):G'.own b=.frz:=by
 rw[h.own,hb];rfl
theorem Bbr.allow (h:Bbr τ σ ρ' ρ G' G N n xs nrT nrB nr0){deps:List (Nat×Nat)}(hd:∀ z∈deps,z.1<nr0){b:Nat}(hb:Go.Proofs.YtdpfilpckndhcaaGreatDoor.Rf.allow G deps b):Go.Proofs.YtdpfilpckndhcaaGreatDoor.Rf.allow G' deps b:=by
 rcases hb with hb|⟨r,k,p,hm,hb⟩
 ·exact .inl (h.frz hb)
 ·exact .inr ⟨r,k,p,hm,h.ownLow (hd _ hm) hb⟩
theorem Bbr.path (h:Bbr τ σ ρ' ρ G' G N n xs nrT nrB nr0){p:List (aM×Nat×Nat)}(hp:(p.all fun x=>bG N x.1)=true):bJ ρ' p=bJ ρ (p.map fun x=>(Oa1 n xs x.1,x.2)):=by
 unfold bJ
 rw[List.map_map]
 apply List.map_congr_left
 intro x hx
 rw[Rbg]at hp
 simp only[Function.comp,mO,h.at_ x.1 (hp x hx)]
mutual
theorem aB.fit (h:Bbr τ σ ρ' ρ G' G N n xs nrT nrB nr0):∀ (l:aW) (v:Value),l.inScope N=true->l.wf τ nr0=true->aB σ ρ G w (l.sub n xs nrT nrB) v->aB τ.get ρ' G' w l v
 |.dead,_,_,_,hl=>by simpa[aW.sub,aB] using hl
 | .sc x, v, hs, _, hl => by
  simp only[aW.inScope]at hs
  simp only[aW.sub,aB]at hl ⊢
  rw[h.at_ x hs]
  exact hl
 | .su g x, v, hs, _, hl => by
  simp only[aW.inScope,Qbq]at hs
  obtain⟨y,b⟩:=g
  simp only[aW.sub,aB]at hl ⊢
  have hg:gOn ρ' (some (y,b))=gOn ρ (some (Oa1 n xs y,b)):=by simp only[gOn,h.at_ y hs.2]
  rw[h.at_ x hs.1,hg]
  exact hl
 | .ex r, v, _, hw, hl => by
  simp only[aW.wf]at hw
  simp only[aW.sub,aB]at hl ⊢
  exact⟨by rw[h.hdr];exact hl.1,hw,hl.2.2⟩
 | .sn deps p nie x, v, hs, hw, hl => by
  simp only[aW.inScope,Qbq]at hs
  simp only[aW.wf]at hw
  have hd:=Fah hw
  simp only[aW.sub,aB]at hl ⊢
  rw[h.at_ x hs.1]
  refine⟨⟨hl.1.1,fun z hz=>(hd z hz).2⟩,fun hv=>?_⟩
  obtain⟨h1,h2,h3⟩:=hl.2 fun z hz=>h.valid _ _ (hd z hz).1 (hv z hz)
  refine⟨h1.mono fun b hb=>⟨h.allow (fun z hz=>(hd z hz).1) hb,rfl⟩,h2,?_⟩
  cases p with
  |no=>trivial
  | view =>
   intro r k m e hlv
   have hr:=(hd (r,k) (by simp[e])).1
   have:=(h3 r k m e (h.live r k m hr hlv)).mono (own':=G'.own) (w':=w) (q:=[]) (q':=[]) (r':=r) (fun b hb=>⟨h.frz hb,rfl⟩) [] rfl (fun b t hb=>⟨h.ownLow hr hb,rfl⟩)
   simpa using this
  | suf sz lo =>
   intro r k m e hlv
   have hr:=(hd (r,k) (by simp[e])).1
   have h4:=h3 r k m e (h.live r k m hr hlv)
   have h5:mO ρ' lo=mO ρ (Oa1 n xs lo):=by
    unfold mO
    rw[h.at_ lo hs.2]
   rw[h5]
   rw[h.hdr,wC (by have:=h.le;omega)]
   exact h4
  | path p =>
   intro r k m e hlv
   have hr:=(hd (r,k) (by simp[e])).1
   obtain⟨h4,h5,h6⟩:=h3 r k m e (h.live r k m hr hlv)
   rw[h.path hs.2]
   rw[List.length_map]at h4 h5
   refine⟨h4,?_,?_⟩
   ·have:=h5.mono (own':=G'.own) (w':=w) (q:=[]) (q':=[]) (r':=r) (fun b hb=>⟨h.frz hb,rfl⟩) _ rfl (fun b t hb=>⟨h.ownLow hr hb,rfl⟩)
    rw[Rb9]at this
    exact this
   ·rw[h.hdr,wC (by have:=h.le;omega)]
    exact Cae.mono _ _ _ _ _ (fun b t hb=>⟨h.ownLow hr hb,rfl⟩) h6
 | .px b off, v, _, hw, hl => by
  simp only[aW.wf]at hw
  simp only[aW.sub,aB]at hl ⊢
  exact⟨by rw[h.bx];exact hl.1,hw⟩
 | .pe l sz i off, v, hs, hw, hl => by
  simp only[aW.inScope,Qbq]at hs
  simp only[aW.wf]at hw
  simp only[aW.sub,aB]at hl ⊢
  obtain⟨a,n,c,k,iv,h1,h2⟩:=hl
  exact⟨a,n,c,k,iv,aB.fit h l _ hs.1 hw h1,by rw[h.at_ i hs.2];exact h2⟩
 | .rp deps sz x, v, hs, hw, hl => by
  simp only[aW.inScope]at hs
  simp only[aW.wf]at hw
  have hd:=Fah hw
  simp only[aW.sub,aB]at hl ⊢
  rw[h.at_ x hs]
  refine⟨⟨hl.1.1,fun z hz=>(hd z hz).2⟩,fun hv=>?_⟩
  rcases hl.2 fun z hz=>h.valid _ _ (hd z hz).1 (hv z hz) with h1|⟨a,row,h1,h2,h3⟩
  ·exact .inl h1
  ·exact .inr ⟨a,row,h1,h2,h3.mono fun b hb=>⟨h.allow (fun z hz=>(hd z hz).1) hb,rfl⟩⟩
 |.pn,v,_,_,hl=>by simpa[aW.sub,aB] using hl
 | .clo f caps, v, hs, hw, hl => by
  simp only[aW.inScope]at hs
  simp only[aW.wf]at hw
  simp only[aW.sub,aB]at hl ⊢
  obtain⟨vs,h1,h2⟩:=hl
  exact⟨vs,h1,aD.fit h caps vs hs hw h2⟩
theorem aD.fit (h:Bbr τ σ ρ' ρ G' G N n xs nrT nrB nr0):∀ (ls:List aW) (vs:List Value),dE N ls=true->qM τ nr0 ls=true->aD σ ρ G w (iV n xs nrT nrB ls) vs->aD τ.get ρ' G' w ls vs
 |[],vs,_,_,hl=>by simpa[iV,aD] using hl
 | l :: ls, vs, hs, hw, hl => by
  simp only[dE,Qbq]at hs
  simp only[qM,Qbq]at hw
  simp only[iV,aD]at hl ⊢
  obtain⟨u,us,e,h1,h2⟩:=hl
  exact⟨u,us,e,aB.fit h l u hs.1 hw.1 h1,aD.fit h ls us hs.2 hw.2 h2⟩
end
theorem Aa0:∀ {d d':List (Nat×Nat)},zR d d'=true->d=d'
 |[],[],_=>rfl
 |[],_::_,h=>by simp[zR]at h
 |_::_,[],h=>by simp[zR]at h
 | (a, b) :: r, (a', b') :: r', h => by
  simp only[zR,Qbq,Rbv]at h
  rw[h.1.1,h.1.2,Aa0 h.2]
theorem Pat:∀ {d d':List (aM×Nat×Nat)},Ka1 d d'=true->d=d'
 |[],[],_=>rfl
 |[],_::_,h=>by simp[Ka1]at h
 |_::_,[],h=>by simp[Ka1]at h
 | (a, b, c) :: r, (a', b', c') :: r', h => by
  simp only[Ka1,Qbq,Rbv]at h
  rw[aM.beq0_eq h.1.1.1,h.1.1.2,h.1.2,Pat h.2]
theorem Pth.beq0_eq {p q:Pth}(h:p.beq0 q=true):p=q:=by
 cases p<;>cases q<;>simp only[Pth.beq0]at h<;>first|rfl|cases h|skip
 ·rw[Pat h]
 ·simp only[Qbq,Rbv]at h
  rw[h.1,aM.beq0_eq h.2]
mutual
theorem aW.beq0_eq:∀ {a b:aW},a.beq0 b=true->a=b
 |.dead,b,h=>by cases b<;>first | rfl | (simp[aW.beq0]at h)
 | .sc x, b, h => by
  cases b<;>simp only[aW.beq0]at h<;>first|cases h|skip
  rw[aM.beq0_eq h]
 | .su g x, b, h => by
  cases b<;>simp only[aW.beq0]at h<;>first|cases h|skip
  rename_i g' x'
  simp only[Qbq,beq_iff_eq]at h
  obtain⟨y,u⟩:=g
  obtain⟨y',u'⟩:=g'
  have h1:=aM.beq0_eq h.1.1
  have h2:u=u':=h.1.2
  dsimp only at h1
  rw[h1,h2,aM.beq0_eq h.2]
 | .ex r, b, h => by
  cases b<;>simp only[aW.beq0]at h<;>first|cases h|skip
  simp only[Rbv]at h
  rw[h]
 | .sn d p e x, b, h => by
  cases b<;>simp only[aW.beq0]at h<;>first|cases h|skip
  simp only[Qbq,beq_iff_eq]at h
  rw[Aa0 h.1.1.1,Pth.beq0_eq h.1.1.2,h.1.2,aM.beq0_eq h.2]
 | .px c o, b, h => by
  cases b<;>simp only[aW.beq0]at h<;>first|cases h|skip
  simp only[Qbq,Rbv]at h
  rw[h.1,h.2]
 | .pe l s i o, b, h => by
  cases b<;>simp only[aW.beq0]at h<;>first|cases h|skip
  simp only[Qbq,Rbv]at h
  rw[aW.beq0_eq h.1.1.1,h.1.1.2,aM.beq0_eq h.1.2,h.2]
 | .rp d s x, b, h => by
  cases b<;>simp only[aW.beq0]at h<;>first|cases h|skip
  simp only[Qbq,Rbv]at h
  rw[Aa0 h.1.1,h.1.2,aM.beq0_eq h.2]
 |.pn,b,h=>by cases b<;>first | rfl | (simp[aW.beq0]at h)
 | .clo f l, b, h => by
  cases b<;>simp only[aW.beq0]at h<;>first|cases h|skip
  simp only[Qbq,Rbv]at h
  rw[h.1,Daj h.2]
theorem Daj:∀ {a b:List aW},vJ a b=true->a=b
 |[],b,h=>by cases b<;>first | rfl | (simp[vJ]at h)
 | a :: r, b, h => by
  cases b<;>simp only[vJ]at h<;>first|cases h|skip
  simp only[Qbq]at h
  rw[aW.beq0_eq h.1,Daj h.2]
end
theorem zF {a b:aW}(h:Aas a b=true){v:Value}(hb:aB σ ρ G w b v):aB σ ρ G w a v:=by
 unfold Aas at h
 split at h
 ·simp only[aB]
  exact hb.one h
 ·rename_i d x
  split at h
  ·rename_i d' p nie x'
   simp only[Qbq]at h
   obtain rfl:=Aa0 h.1
   obtain rfl:=aM.beq0_eq h.2
   simp only[aB]at hb ⊢
   exact⟨hb.1,fun hv=>⟨(hb.2 hv).1,(fun e=>absurd e (by decide)),trivial⟩⟩
  ·cases h
 ·rw[aW.beq0_eq h];exact hb
theorem Dag:∀ {a b:List aW},fM a b=true->∀ {vs:List Value},aD σ ρ G w b vs->aD σ ρ G w a vs
 |[],[],_,vs,hb=>hb
 |[],_::_,h,vs,hb=>by simp[fM]at h
 |_::_,[],h,vs,hb=>by simp[fM]at h
 | a :: r, b :: s, h, vs, hb => by
  simp only[fM,Qbq]at h
  simp only[aD]at hb ⊢
  obtain⟨u,us,e,h1,h2⟩:=hb
  exact⟨u,us,e,zF h.1 h1,Dag h.2 h2⟩
theorem Dah:∀ {a b:List aW},fM a b=true->a.length=b.length
 |[],[],_=>rfl
 |[],_::_,h=>by simp[fM]at h
 |_::_,[],h=>by simp[fM]at h
 | a :: r, b :: s, h => by
  simp only[fM,Qbq]at h
  simp[Dah h.2]
theorem Dai:∀ {a b:List aW},fM a b=true->∀ {j:Nat} {l:aW},a[j]?=some l->∃ m,b[j]?=some m/\Aas l m=true
 |[],[],_,j,l,hj=>by simp at hj
 |[],_::_,h,_,_,_=>by simp[fM]at h
 |_::_,[],h,_,_,_=>by simp[fM]at h
 | a :: r, b :: s, h, j, l, hj => by
  simp only[fM,Qbq]at h
  cases j with
  | zero =>
   simp only[Qb4,Option.some.injEq]at hj
   subst hj
   exact⟨b,rfl,h.1⟩
  |succ j=>exact Dai h.2 (by simpa using hj)
theorem Daf:∀ {ls:List aW} {j:Nat} {l:aW},ls[j]?=some l->(iV n xs nrT nrB ls)[j]?=some (l.sub n xs nrT nrB)
 |[],j,l,h=>by simp at h
 | m :: ls, 0, l, h => by
  simp only[Qb4,Option.some.injEq]at h
  subst h;rfl
 | m :: ls, j + 1, l, h => by
  simp only[iV,List.getElem?_cons_succ]at h ⊢
  exact Daf h
theorem Dae:∀ {ls:List aW},(iV n xs nrT nrB ls).length=ls.length
 |[]=>rfl
 |m::ls=>by simp[iV,Dae (ls:=ls)]
theorem Fa1:∀ {ls:List aW} {j:Nat} {l:aW},qM τ nr0 ls=true->ls[j]?=some l->l.wf τ nr0=true
 |[],j,l,_,h=>by simp at h
 | m :: ls, 0, l, hs, h => by
  simp only[qM,Qbq]at hs
  simp only[Qb4,Option.some.injEq]at h
  rw[<- h];exact hs.1
 | m :: ls, j + 1, l, hs, h => by
  simp only[qM,Qbq]at hs
  exact Fa1 hs.2 (by simpa using h)
end
theorem Ba1 {s:St}{k:Nat}{c:aU}(h:s.get k=some c):(∃ t,k=kT t/\t<s.nt)\/(∃ b,k=kB b/\b<s.nb)\/(∃ r,k=kR r/\r<s.nr):=by
 unfold St.get at h
 cases hk:Cad s.nt s.nb s.nr k with
 |false=>rw[hk]at h;cases h
 | true =>
  unfold Cad at hk
  cases b0:Nat.beq (k % 3) 0 with
  | true =>
   rw[b0,cond_true,Rb6]at hk
   simp only[Rbv]at b0
   exact .inl ⟨k / 3,by unfold kT;omega,hk⟩
  | false =>
   rw[b0,cond_false]at hk
   have n0:k % 3≠0:=fun e=>by rw[e]at b0;cases b0
   cases b1:Nat.beq (k % 3) 1 with
   | true =>
    rw[b1,cond_true,Rb6]at hk
    simp only[Rbv]at b1
    exact .inr (.inl ⟨k / 3,by unfold kB;omega,hk⟩)
   | false =>
    rw[b1,cond_false,Rb6]at hk
    have n1:k % 3≠1:=fun e=>by rw[e]at b1;cases b1
    exact .inr (.inr ⟨k / 3,by unfold kR;omega,hk⟩)
theorem wZ {n:Nat}{xs:List aM}{nrT nrB:Nat}{τ s:St}:∀ {ks:List Nat},Dao n xs nrT nrB τ s ks=true->∀ k∈ks,dN n xs nrT nrB (τ.get k) (s.get k)=true
 |[],_,k,hk=>by simp at hk
 | k' :: ks, h, k, hk => by
  simp only[Dao,Qbq]at h
  rcases List.mem_cons.1 hk with rfl|hk
  ·exact h.1
  ·exact wZ h.2 k hk
theorem Dap {n:Nat}{xs:List aM}{nrT nrB:Nat}{τ s:St}:∀ {ks:List Nat},Daq n xs nrT nrB τ s ks=true->∀ r∈ks,dN n xs nrT nrB (τ.get (kR r)) (s.get (kR (Ta1 nrT nrB r)))=true
 |[],_,k,hk=>by simp at hk
 | k' :: ks, h, k, hk => by
  simp only[Daq,Qbq]at h
  rcases List.mem_cons.1 hk with rfl|hk
  ·exact h.1
  ·exact Dap h.2 k hk
theorem Eaj {τ:St}{nr0:Nat}:∀ {ks:List Nat},Haf τ nr0 ks=true->∀ k∈ks,vP τ nr0 k (τ.get k)=true
 |[],_,k,hk=>by simp at hk
 | k' :: ks, h, k, hk => by
  simp only[Haf,Qbq]at h
  rcases List.mem_cons.1 hk with rfl|hk
  ·exact h.1
  ·exact Eaj h.2 k hk
theorem Ka4 {τ:St}:∀ {ks:List Nat},Uaj τ ks=true->∀ k∈ks,τ.get k=none
 |[],_,k,hk=>by simp at hk
 | k' :: ks, h, k, hk => by
  simp only[Uaj,Qbq,Option.isNone_iff_eq_none]at h
  rcases List.mem_cons.1 hk with rfl|hk
  ·exact h.1
  ·exact Ka4 h.2 k hk
structure Eac (E:Env) (s0:St) (nrT len:Nat) (τ:St):Prop where
 nv:τ.nv=s0.nv+len
 nt1:E.ntmps<=τ.nt
 nt2:τ.nt<=E.ntmps+E.ngh
 nr:τ.nr=nrT+len
 le:s0.nr<=nrT
 none:∀ r,s0.nr<=r->r<nrT->τ.get (kR r)=none
 wf:∀ k c,τ.get k=some c->vP τ s0.nr k (some c)=true
theorem Ban {E:Env}{s0:St}{nrT len:Nat}{τ:St}(h:Fap E s0 nrT len τ=true):Eac E s0 nrT len τ:=by
 simp only[Fap,Qbq,Rbv,Rb8]at h
 obtain⟨⟨⟨⟨⟨⟨h1,h2⟩,h3⟩,h4⟩,h5⟩,h6⟩,h7⟩:=h
 have hnone:∀ r,s0.nr<=r->r<nrT->τ.get (kR r)=Option.none:=fun r ha hb =>
  Ka4 h6 _ (List.mem_map.2 ⟨r,mem_range.2 ⟨ha,by omega⟩,rfl⟩)
 refine⟨h1,h2,h3,h4,h5,hnone,fun k c hk=>?_⟩
 have:k∈(range 0 τ.nt).map kT++(range 0 τ.nb).map kB++((range 0 s0.nr++range nrT len).map kR):=by
  rcases Ba1 hk with ⟨t,rfl,ht⟩|⟨b,rfl,hb⟩|⟨r,rfl,hr⟩
  ·exact Qbv _ (Qbv _ (List.mem_map.2 ⟨t,mem_range.2 ⟨by omega,by omega⟩,rfl⟩))
  ·exact Qbv _ (Qby _ (List.mem_map.2 ⟨b,mem_range.2 ⟨by omega,by omega⟩,rfl⟩))
  ·refine Qby _ (List.mem_map.2 ⟨r,?_,rfl⟩)
   rcases Rbj r s0.nr with h8|h8
   ·exact Qbv _ (mem_range.2 ⟨by omega,by omega⟩)
   ·rcases Rbj r nrT with h9|h9
    ·rw[hnone r h8 h9]at hk;cases hk
    ·exact Qby _ (mem_range.2 ⟨h9,by omega⟩)
 have:=Eaj h7 k this
 rw[hk]at this
 exact this
theorem xJ {τ:St}{nr0 k:Nat}{c:aU}(h:vP τ nr0 k (some c)=true):eP τ.nv c=true:=by
 simp only[vP,Qbq]at h
 exact h.1
theorem Eac.inScope {E:Env}{s0:St}{nrT len:Nat}{τ:St}(h:Eac E s0 nrT len τ):Bak τ.get τ.nv:=fun k c hk=>xJ (h.wf k c hk)
theorem Na4 {n:Nat}{xs:List aM}{nrT nrB:Nat}{x:aM}{m v:Nat}{st:RSt}{c:Option aU}(h:dN n xs nrT nrB (some (.root x m v st)) c=true) :
  st=.gone\/∃ x',c=some (.root x' m v st)/\Oa1 n xs x=x':=by
 cases st with
 |gone=>exact .inl rfl
 | _ =>
  right
  cases c with
  |none=>simp[dN]at h
  | some c =>
   cases c with
   | root x' m' v' st' =>
    simp only[dN,Qbq,Rbv,Ca1,decide_eq_true_eq]at h
    exact⟨x',by rw[h.1.1.1,h.1.1.2,h.1.2],aM.beq0_eq h.2⟩
   |_=>simp[dN]at h
theorem Qa1 {n:Nat}{xs:List aM}{nrT nrB:Nat}{l:aW}{c:Option aU}(h:dN n xs nrT nrB (some (.slot none (.one l))) c=true) :
  ∃ b,c=some (.slot none (.one b))/\Aas (l.sub n xs nrT nrB) b=true:=by
 cases c with
 |none=>simp[dN]at h
 | some c =>
  cases c with
  | slot g v =>
   cases g with
   |some g=>simp[dN]at h
   |none=>cases v<;>first | exact⟨_,rfl,by simpa[dN] using h⟩ | simp[dN]at h
  |_=>simp[dN]at h
theorem Qa2 {n:Nat}{xs:List aM}{nrT nrB:Nat}{l:List aW}{c:Option aU}(h:dN n xs nrT nrB (some (.slot none (.agg l))) c=true) :
  ∃ b,c=some (.slot none (.agg b))/\fM (iV n xs nrT nrB l) b=true:=by
 cases c with
 |none=>simp[dN]at h
 | some c =>
  cases c with
  | slot g v =>
   cases g with
   |some g=>simp[dN]at h
   |none=>cases v<;>first | exact⟨_,rfl,by simpa[dN] using h⟩ | simp[dN]at h
  |_=>simp[dN]at h
theorem Gaf {n:Nat}{xs:List aM}{nrT nrB:Nat}{ro:Bool}{l:List aW}{c:Option aU}(h:dN n xs nrT nrB (some (.box ro l)) c=true) :
  ∃ b,c=some (.box ro b)/\fM (iV n xs nrT nrB l) b=true:=by
 cases c with
 |none=>simp[dN]at h
 | some c =>
  cases c with
  | box ro' b =>
   simp only[dN,Qbq,beq_iff_eq]at h
   exact⟨b,by rw[h.1],h.2⟩
  |_=>simp[dN]at h
theorem Fbu (t:Nat):kT t % 3=0:=by unfold kT;omega
theorem Pa6 (t:Nat):kB t % 3=1:=by unfold kB;omega
theorem Pa5 (t:Nat):kR t % 3=2:=by unfold kR;omega
theorem Nan {s:St}{k:Nat}{c:aU}(h:s.get k=some c)(hm:Nat.beq (k % 3) 0=true):∃ t,k=kT t/\t<s.nt:=by
 rw[Rbv]at hm
 rcases Ba1 h with h|⟨b,rfl,hb⟩|⟨r,rfl,hr⟩
 ·exact h
 ·rw[Pa6]at hm;omega
 ·rw[Pa5]at hm;omega
theorem Hbc {s:St}{k:Nat}{c:aU}(h:s.get k=some c)(hm:Nat.beq (k % 3) 1=true):∃ t,k=kB t/\t<s.nb:=by
 rw[Rbv]at hm
 rcases Ba1 h with ⟨b,rfl,hb⟩|h|⟨r,rfl,hr⟩
 ·rw[Fbu]at hm;omega
 ·exact h
 ·rw[Pa5]at hm;omega
theorem Ebc {s:St}{k:Nat}{c:aU}(h:s.get k=some c)(hm:Nat.beq (k % 3) 2=true):∃ t,k=kR t/\t<s.nr:=by
 rw[Rbv]at hm
 rcases Ba1 h with ⟨b,rfl,hb⟩|⟨r,rfl,hr⟩|h
 ·rw[Fbu]at hm;omega
 ·rw[Pa6]at hm;omega
 ·exact h
theorem R.fit {E:Env}{F:bU}{τ s s0:St}{ρ0 e:List D}{a:Act}{w:World}{G:Gh}{xs:List aM}{nrT nrB len:Nat}
  (hR:R E.ntmps F s.get (ρ0++e) a w G) (hn:ρ0.length=s0.nv) (hxs:xs.length=len) (hτ:Eac E s0 nrT len τ)
  (hfit:qA E s0.nv xs s0.nr nrT nrB len τ s=true) (hle:s0.nr<=nrB):∃ G',R E.ntmps F τ.get (ρ0++xs.map (·.val (ρ0++e))) a w G':=by
 simp only[qA,Qbq]at hfit
 obtain⟨hf1,hf2⟩:=hfit
 have hslot:∀ t,t<τ.nt->dN s0.nv xs nrT nrB (τ.get (kT t)) (s.get (kT t))=true:=fun t ht =>
  wZ hf1 _ (Qbv _ (List.mem_map.2 ⟨t,mem_range.2 ⟨by omega,by have:=hτ.nt2;omega⟩,rfl⟩))
 have hbox:∀ b,b<τ.nb->dN s0.nv xs nrT nrB (τ.get (kB b)) (s.get (kB b))=true:=fun b hb =>
  wZ hf1 _ (Qby _ (List.mem_map.2 ⟨b,mem_range.2 ⟨by omega,by omega⟩,rfl⟩))
 have hroot:∀ r,r<s0.nr\/(nrT<=r/\r<nrT+len)->dN s0.nv xs nrT nrB (τ.get (kR r)) (s.get (kR (Ta1 nrT nrB r)))=true:=fun r hr =>
  Dap hf2 r (by
   rcases hr with hr|hr
   ·exact Qbv _ (mem_range.2 ⟨by omega,by omega⟩)
   ·exact Qby _ (mem_range.2 hr))
 have hrk:∀ r c,τ.get (kR r)=some c->r<s0.nr\/(nrT<=r/\r<nrT+len):=by
  intro r c hk
  rcases Ba1 hk with ⟨t,e,_⟩|⟨t,e,_⟩|⟨r',e,hr⟩
  ·exact absurd e.symm jE
  ·exact absurd e.symm gV
  ·obtain rfl:=gD e
   rw[hτ.nr]at hr
   rcases Rbj r s0.nr with h1|h1
   ·exact .inl h1
   ·rcases Rbj r nrT with h2|h2
    ·rw[hτ.none r h1 h2]at hk;cases hk
    ·exact .inr ⟨h2,hr⟩
 have hstand:∀ r x m v st,τ.get (kR r)=some (.root x m v st)->st=.live\/st=.frozen->∃ x',s.get (kR (Ta1 nrT nrB r))=some (.root x' m v st)/\Oa1 s0.nv xs x=x':=by
  intro r x m v st hk hst
  have h1:=hroot r (hrk r _ hk)
  rw[hk]at h1
  rcases Na4 h1 with h2|h2
  ·rw[h2]at hst
   rcases hst with h|h<;>cases h
  ·exact h2
 let ρs:=ρ0++e
 let G':Gh:={ own:=fun b=>xX s0.nr nrB nrT (G.own b),hdr:=fun r=>G.hdr (Ta1 nrT nrB r),bx:=G.bx }
 have hat:∀ x,bG τ.nv x=true->x.val (ρ0++xs.map (·.val ρs))=(Oa1 s0.nv xs x).val ρs:=by
  intro x hx
  cases x with
  |c d=>rfl
  | v i =>
   simp only[bG,Rb6]at hx
   rw[hτ.nv]at hx
   simp only[Oa1]
   cases hb:Sbj i s0.nv with
   | true =>
    simp only[Rb6]at hb
    simp only[cond_true,aM.val,Qb5,ρs]
    rw[Rbc (by omega),Rbc (by omega)]
   | false =>
    have hge:s0.nv<=i:=by
     rcases Rbj i s0.nv with h|h
     ·rw[<- Rb6,hb]at h;cases h
     ·exact h
    simp only[cond_false]
    have hlt:i-s0.nv<xs.length:=by omega
    rw[Qb5,Qbz hlt,Sbr]
    simp only[aM.val,Qb5]
    rw[List.getElem?_append_right (by omega),List.getElem?_map,hn,Qbz hlt]
    rfl
 have H:Bbr τ s.get (ρ0++xs.map (·.val ρs)) ρs G' G τ.nv s0.nv xs nrT nrB s0.nr:=by
  refine⟨hat,hτ.le,hle,fun _=>rfl,fun _=>rfl,rfl,fun r k hr hv=>?_,fun r k m hr hv=>?_⟩
  ·obtain⟨x,m,st,hk,hst⟩:=hv
   obtain⟨x',h1,-⟩:=hstand r x m k st hk hst
   rw[wC (by have:=hτ.le;omega)]at h1
   exact⟨x',m,st,h1,hst⟩
  ·obtain⟨x,hk⟩:=hv
   obtain⟨x',h1,-⟩:=hstand r x m k .live hk (.inl rfl)
   rw[wC (by have:=hτ.le;omega)]at h1
   exact⟨x',h1⟩
 refine⟨G',hR.tmps,hR.defers,fun k c hk=>?_,?_,fun b ls hk hb ho=>?_⟩
 ·have hwf:=hτ.wf k c hk
  have hsc:=xJ hwf
  cases c with
  | slot g v =>
   cases g with
   |some g=>simp[vP]at hwf
   | none =>
    cases v with
    | dead =>
     simp only[vP,Qbq]at hwf
     obtain⟨t,rfl,ht⟩:=Nan hk hwf.2
     exact⟨t,rfl,fun _=>trivial⟩
    | one l =>
     simp only[vP,Qbq]at hwf
     obtain⟨t,rfl,ht⟩:=Nan hk hwf.2.1
     refine⟨t,rfl,fun _=>?_⟩
     have h1:=hslot t ht
     rw[hk]at h1
     obtain⟨b,h2,h3⟩:=Qa1 h1
     have h4:aB s.get ρs G w b _:=hR.slot h2 rfl
     simp only[eP,Cao,Qbq]at hsc
     exact aB.fit H l _ hsc.2 hwf.2.2 (zF h3 h4)
    | agg ls =>
     simp only[vP,Qbq]at hwf
     obtain⟨t,rfl,ht⟩:=Nan hk hwf.2.1
     refine⟨t,rfl,fun _=>?_⟩
     have h1:=hslot t ht
     rw[hk]at h1
     obtain⟨b,h2,h3⟩:=Qa2 h1
     obtain⟨vs,h4,h5⟩:dV s.get ρs G w (.agg b) _:=hR.slot h2 rfl
     simp only[eP,Cao,Qbq]at hsc
     exact⟨vs,h4,aD.fit H ls _ hsc.2 hwf.2.2 (Dag h3 h5)⟩
    |tup ts=>simp[vP]at hwf
  | box ro ls =>
   simp only[vP,Qbq]at hwf
   obtain⟨b,rfl,hb⟩:=Hbc hk hwf.2.1
   have h1:=hbox b hb
   rw[hk]at h1
   obtain⟨bs,h2,h3⟩:=Gaf h1
   obtain⟨h4,h5,h6⟩:=hR.box h2
   refine⟨b,rfl,h4,?_,fun j l hj=>?_⟩
   ·show xX _ _ _ _=_
    rw[h5]
    cases ro<;>rfl
   ·obtain⟨m,h7,h8⟩:=Dai h3 (Daf hj)
    obtain⟨v,h9,h10,h11⟩:=h6 j m h7
    simp only[eP]at hsc
    exact⟨v,h9,h10,aB.fit H l v (pV hsc hj) (Fa1 hwf.2.2 hj) (zF h8 h11)⟩
  | root x m ver st =>
   have hm:Nat.beq (k % 3) 2=true:=by
    cases st<;>simp only[vP,Qbq]at hwf<;>first|exact hwf.2|(exact absurd hwf.2 (by decide))
   obtain⟨r,rfl,hr⟩:=Ebc hk hm
   have hrr:=hrk r _ hk
   refine⟨r,rfl,by rw[hk];rfl,?_⟩
   simp only[eP]at hsc
   have hrr':r<s0.nr\/nrT<=r:=hrr.imp id (·.1)
   cases st with
   | live =>
    obtain⟨x',h1,h2⟩:=hstand r x m ver .live hk (.inl rfl)
    have h3:=hR.root h1
    simp only[dJ]at h3 ⊢
    rw[hat x hsc,h2]
    have:=h3.mono (own':=G'.own) (w':=w) (q:=[]) (q':=[]) (r':=r) (fun b hb=>⟨H.frz hb,rfl⟩) [] rfl (fun b t hb=>⟨by
     show xX _ _ _ _=_
     rw[hb]
     exact Ias hτ.le hle hrr',rfl⟩)
    simpa using this
   | frozen =>
    obtain⟨x',h1,h2⟩:=hstand r x m ver .frozen hk (.inr rfl)
    obtain⟨h3,h4⟩:=hR.root h1
    simp only[dJ]
    rw[hat x hsc,h2]
    refine⟨h3.mono fun b hb=>⟨H.frz hb,rfl⟩,fun b p hb=>?_⟩
    exact h4 b p (Wal hτ.le hb)
   |gone=>trivial
   |fwd r'=>simp[vP]at hwf
 ·refine⟨hR.frame.os,hR.frame.tape,hR.frame.output,hR.frame.size,fun b hb ho=>?_,fun b j hb ho=>?_,fun b hb=>?_⟩
  ·obtain⟨h1,h2⟩:=hR.frame.keep b hb ho
   refine⟨h1,?_⟩
   show xX _ _ _ _=_
   rw[h2]
   rcases ho with ho|ho<;>rw[ho]<;>rfl
  ·obtain⟨h1,h2⟩:=hR.frame.boxes b j hb ho
   refine⟨?_,h2⟩
   show xX _ _ _ _=_
   rw[h1];rfl
  ·show xX _ _ _ _=_
   rw[hR.frame.fresh b hb];rfl
 ·have h1:=hbox b (by
   rcases Ba1 hk with ⟨t,e,_⟩|⟨t,e,ht⟩|⟨r',e,hr⟩
   ·exact absurd e.symm oP
   ·obtain rfl:=Fa2 e;exact ht
   ·exact absurd e gV)
  rw[hk]at h1
  obtain⟨bs,h2,h3⟩:=Gaf h1
  have h4:=hR.rng b bs h2 hb ho
  rw[h4,<- Dah h3,Dae]
end Go.Proofs.YtdpfilpckndhcaaGreatDoor.Rf

namespace Go.Proofs.YtdpfilpckndhcaaGreatDoor.Rf
set_option linter.unusedVariables false
set_option linter.unusedSimpArgs false
def Zap (draw:Bool)(s:St)(r:dD):St:={ (s.puts r.upd) with nv:=s.nv+bT r.lets,nb:=s.nb+1,nr:=Tai draw s.nr r.upd }
inductive Oai (E:Env) (draw:Bool) (rid:Nat) (ops:List Oper):Nat->List Oper->St->List OpI->St->Prop
 |nil (i:Nat) (s:St):Oai E draw rid ops i [] s [] s
 | cons {i : Nat} {o : Oper} {os : List Oper} {s : St} {g : Option (aM × Bool)} {r : dD} {log : List Nat} {is : List OpI} {s' : St} (mv mvs : Bool)
   (h1:(mW E ops mv mvs s.nv s.nb s.nr o).run s.get=some ((g,r),log)) (h2:Db8 s g r=true)
   (h3:Oai E draw rid ops (i+1) os (Zap draw s r) is s'):Oai E draw rid ops i (o::os) s (⟨g,r,log,s.nb,s.nr⟩::is) s'
theorem Hat {E:Env}{draw:Bool}{rid:Nat}{ops:List Oper}:∀ {os:List Oper} {i:Nat} {s:St} {acc is:List OpI} {s':St},Xaw E draw rid ops i os s acc=.inl (is,s') ->
  ∃ js,is=acc.reverse++js/\Oai E draw rid ops i os s js s'
 | [], i, s, acc, is, s', h => by
  simp only[Xaw,Sum.inl.injEq,Prod.mk.injEq]at h
  obtain⟨rfl,rfl⟩:=h
  exact⟨[],by simp,.nil i s⟩
 | o :: os, i, s, acc, is, s', h => by
  simp only[Xaw]at h
  split at h
  ·rename_i g r log hrun
   cases hok:Db8 s g r with
   |false=>rw[hok]at h;simp at h
   | true =>
    rw[hok]at h
    simp only[Rbl,cond_false]at h
    obtain⟨js,h1,h2⟩:=Hat h
    exact⟨⟨g,r,log,s.nb,s.nr⟩::js,by rw[h1];simp,.cons _ _ hrun hok h2⟩
  ·cases h
structure Jam (E:Env) (s:St):Prop where
 nt:E.ntmps<=s.nt
 sc:Bak s.get s.nv
def Oah (cf:Nat->List D->Option (List D))(ρ:List D):Nat->List OpI->Prop
 |_,[]=>True
 |nv,a::r=>aQ cf ρ a.g nv a.res.lets/\Oah cf ρ (nv+bT a.res.lets) r
def Caa (P:Program)(E:Env)(F:bU)(cf:Nat->List D->Option (List D)):Prop :=
 ∀ (σ:Nat->Option aU) (ρ:List D) (a:Act) (w:World) (G:Gh) (g:Option (aM×Bool)) (o:Oper) (Q:Exit->Act->World->Prop) (mv mvs:Bool) (nv nb nr:Nat) (res:dD) (f:Operand) (args:Array Operand) (argTypes:Array TypeId),
  R E.ntmps F σ ρ a w G->gM E.ntmps o->Eae σ nb nr->o.op=.call { callee:=.value f,args,argTypes } ->
  (tJ E mv mvs nv nb nr g o).eval σ=some res->res.upd.all (fun x=>Aa4 E.ntmps nb nr x.1)=true->aQ cf ρ g nv res.lets->iP P E F σ ρ a w g o Q res.upd
section
variable {P:Program} {E:Env} {F:bU} {cf:Nat->List D->Option (List D)} {draw:Bool}
theorem Ka2 {s:St}{g:Option (aM×Bool)}{r:dD}(h:Db8 s g r=true) :
  sH s.nv g=true/\fP s.nv r.lets=true/\r.upd.all (fun x=>eP (s.nv+bT r.lets) x.2)=true:=by
 simp only[Db8,Qbq]at h
 exact⟨h.1.1.2,h.1.2,h.2⟩
theorem Nad {ops:List Oper}{mv mvs:Bool}{s:St}{o:Oper}{g:Option (aM×Bool)}{r:dD}{log:List Nat}(hi:E.ntmps<=s.nt)
  (h1:(mW E ops mv mvs s.nv s.nb s.nr o).run s.get=some ((g,r),log)) (h2:Db8 s g r=true):(Zap draw s r).get=upds s.get r.upd:=by
 funext k
 exact Db7 h2 hi (kK (RdM.run_eval h1)).2.2.2 draw _ k
theorem Jam.next {ops:List Oper}{mv mvs:Bool}{s:St}{o:Oper}{g:Option (aM×Bool)}{r:dD}{log:List Nat}(hi:Jam E s)
  (h1:(mW E ops mv mvs s.nv s.nb s.nr o).run s.get=some ((g,r),log)) (h2:Db8 s g r=true):Jam E (Zap draw s r):=by
 refine⟨?_,?_⟩
 ·show E.ntmps<=(s.puts r.upd).nt
  rw[(jK r.upd s).2.2.2];exact hi.nt
 ·rw[Nad hi.nt h1 h2]
  exact hi.sc.upds (Tb6 ..) (Ka2 h2).2.2
theorem Vaw {rid:Nat}{ops:List Oper}{i:Nat}{os:List Oper}{s s':St}{is:List OpI}(hc:Oai E draw rid ops i os s is s') :
  ∀ {s'':St} {ρ:List D} {o:Out St},s''.nv=s'.nv->ρ.length=s.nv->Ec cf (Hav (.leaf .fall [] s'') is) ρ=some o ->
  o.kind=.fall/\o.ext=s''/\o.env.length=s'.nv/\(∃ ds,o.env=ρ++ds)/\∀ ext,Oah cf (o.env++ext) s.nv is:=by
 induction hc with
 | nil i s =>
  intro s'' ρ o hv hl h
  simp only[Hav,gY,Option.some.injEq]at h
  subst h
  exact⟨rfl,rfl,hl,⟨[],by simp⟩,fun _=>trivial⟩
 | cons mv mvs h1 h2 h3 ih =>
  rename_i i o' os s g r log is s'
  intro s'' ρ o hv hl h
  simp only[Hav]at h
  obtain⟨hg,hs,-⟩:=Ka2 h2
  obtain⟨ds,h4,h5,h6⟩:=yF (by rw[hl];exact hg) (by rw[hl];exact hs) h
  obtain⟨h7,h8,h9,⟨es,h10⟩,h11⟩:=ih hv (by rw[Qbs,h4,hl];rfl) h5
  refine⟨h7,h8,h9,⟨ds++es,by rw[h10,Qb1]⟩,fun ext=>⟨?_,h11 ext⟩⟩
  have:=h6 (es++ext)
  rw[hl]at this
  rw[h10]
  simpa[Qb1] using this
theorem Bbd {rid:Nat}{ops:List Oper}{i:Nat}{os:List Oper}{s s':St}{is:List OpI}(hc:Oai E draw rid ops i os s is s')(hi:Jam E s):Jam E s':=by
 induction hc with
 |nil i s=>exact hi
 |cons mv mvs h1 h2 h3 ih=>exact ih (hi.next h1 h2)
theorem Jam.trim {lo:Nat}{d:Bool}{s:St}(h:Jam E s):Jam E (trimS d lo s) :=
 ⟨by rw[Aae.2.2];exact h.nt,by rw[Oao,Aae.1];exact h.sc⟩
theorem Bbe {rid:Nat}{ops:List Oper}{i:Nat}{os:List Oper}{s s':St}{is:List OpI}(hc:Oai E draw rid ops i os s is s'):∀ o∈os,gM E.ntmps o:=by
 induction hc with
 |nil i s=>simp
 | cons mv mvs h1 h2 h3 ih =>
  intro o ho
  rcases List.mem_cons.1 ho with rfl|ho
  ·exact (kK (RdM.run_eval h1)).2.1
  ·exact ih o ho
theorem Nb2 (hti:yA P E.ti)(hcalls:Caa P E F cf){ops:Array Oper}(hds:∀ o∈ops.toList,gM E.ntmps o){mv mvs:Bool}{s:St}{o:Oper}{g:Option (aM×Bool)}{r:dD}{ρ:List D}{a:Act}{w:World}{G:Gh}{Q:Exit->Act->World->Prop}
  {σ:Nat->Option aU} (hf:Eae σ s.nb s.nr)
  (hR:R E.ntmps F σ ρ a w G) (h1:(mW E ops.toList mv mvs s.nv s.nb s.nr o).eval σ=some (g,r)) (hst:aQ cf ρ g s.nv r.lets):Ibt P E F σ ρ ops o Q r.upd a w:=by
 refine Car hR hti hds hf h1 hst fun f args argTypes ho=>?_
 obtain⟨h2,h3,h4,h5⟩:=kK h1
 rw[Kaj ho]at h4
 exact hcalls σ ρ a w G g o Q mv mvs s.nv s.nb s.nr r f args argTypes hR h3 hf ho h4 h5 hst
theorem Bbc (hti:yA P E.ti)(hcalls:Caa P E F cf){rid:Nat}{ops:Array Oper}(hds:∀ o∈ops.toList,gM E.ntmps o){Q:Exit->Act->World->Prop}{i:Nat}{os:List Oper}{s s':St}{is:List OpI}(hc:Oai E draw rid ops.toList i os s is s') :
  ∀ {ρ:List D} {a:Act} {w:World} {G:Gh},ops.toList.drop i=os->R E.ntmps F s.get ρ a w G->Jam E s->Oah cf ρ s.nv is ->
  (∀ a' w' G',R E.ntmps F s'.get ρ a' w' G'->Q .normal a' w')->wpOps P ops Q (List.range' i os.length) a w:=by
 induction hc with
 | nil i s =>
  intro ρ a w G hdr hR hi hst hQ
  exact hQ a w G hR
 | cons mv mvs h1 h2 h3 ih =>
  rename_i i o os s g r log is s'
  intro ρ a w G hdr hR hi hst hQ
  have hget:ops[i]?=some o:=by
   rw[<- Sbi]
   have:(ops.toList.drop i)[0]?=some o:=by rw[hdr];rfl
   rwa[List.getElem?_drop,Rby]at this
  rw[Qbt,List.range'_succ,wpOps_cons]
  unfold wpOp
  rw[hget]
  have hgo:=Nb2 (Q:=Q) hti hcalls hds Qad hR (RdM.run_eval h1) hst.1
  have hnx:∀ a w,Nx E.ntmps F s.get ρ r.upd a w->wpOps P ops Q (List.range' (i+1) os.length) a w:=by
   intro a' w' ⟨G',hR'⟩
   rw[<- Nad hi.nt h1 h2]at hR'
   exact ih (by rw[<- List.drop_drop,hdr];rfl) hR' (hi.next h1 h2) hst.2 hQ
  unfold Ibt at hgo
  dsimp only
  split
  ·rename_i hw
   rw[if_pos hw]at hgo
   exact .inl (Oper.wp_mono hnx hgo)
  ·rename_i hw
   rw[if_neg hw]at hgo
   exact hnx _ _ hgo
end
end Go.Proofs.YtdpfilpckndhcaaGreatDoor.Rf

namespace Go.Proofs.YtdpfilpckndhcaaGreatDoor.Rf
set_option linter.unusedVariables false
set_option linter.unusedSimpArgs false
theorem rV {a b:List Nat}(h:meets a b=false){k:Nat}(ha:k∈a):k∉b:=by
 intro hb
 have:meets a b=true:=by
  unfold meets
  rw[List.any_eq_true]
  exact⟨k,ha,oJ.2 hb⟩
 rw[h]at this
 cases this
theorem Hah {acc:List Nat}:∀ {es:List Edge} {m b:Nat},Tbe (Bal acc es m) b=true->Tbe m b=true\/∃ e∈es,Region.binds .any e=true/\(b=e.on\/Tbe (acc.getD e.on 0) b=true)
 |[],m,b,h=>.inl h
 | e :: es, m, b, h => by
  have h':Tbe (Bal acc es (bif Region.binds .any e then (m ||| 2 ^ e.on) ||| acc.getD e.on 0 else m)) b=true:=h
  rcases Hah (es:=es) h' with h1|⟨e',he',h1⟩
  ·cases hb:Region.binds .any e with
   |false=>rw[hb,cond_false]at h1;exact .inl h1
   | true =>
    rw[hb,cond_true]at h1
    simp only[Nat.testBit_or,Rbw,Nat.testBit_two_pow,decide_eq_true_eq]at h1
    rcases h1 with (h1|h1)|h1
    ·exact .inl h1
    ·exact .inr ⟨e,Qb7,hb,.inl h1.symm⟩
    ·exact .inr ⟨e,Qb7,hb,.inr h1⟩
  ·exact .inr ⟨e',List.mem_cons_of_mem _ he',h1⟩
theorem Hag:∀ {os:List Oper} {acc:List Nat} {i w:Nat},acc[i]?=some w->(waits os acc)[i]?=some w
 |[],_,_,_,h=>h
 | o :: os, acc, i, w, h => by
  refine Hag (os:=os) ?_
  rw[Rbc (List.getElem?_eq_some_iff.1 h).1]
  exact h
theorem Oal:∀ {os:List Oper} {acc:List Nat} {p w:Nat} {o:Oper},os[p]?=some o->(waits os acc)[acc.length+p]?=some w->∀ b,Tbe w b=true ->
  ∃ e∈o.after.toList,Region.binds .any e=true/\(b=e.on\/∃ w',(waits os acc)[e.on]?=some w'/\Tbe w' b=true)
 |[],acc,p,w,o,ho,_,_,_=>by simp at ho
 | o' :: os, acc, 0, w, o, ho, hw, b, hb => by
  simp only[Qb4,Option.some.injEq]at ho
  subst ho
  have h1:(acc++[Bal acc o'.after.toList 0])[acc.length]?=some (Bal acc o'.after.toList 0):=by simp
  have h2:=Hag (os:=os) h1
  simp only[waits,Rby]at hw
  rw[h2]at hw
  obtain rfl:=Option.some.inj hw
  rcases Hah hb with h3|⟨e,he,h4,h5⟩
  ·simp at h3
  ·refine⟨e,he,h4,h5.imp id fun h6=>?_⟩
   rw[Qb5]at h6
   cases ha:acc[e.on]? with
   |none=>rw[ha]at h6;simp at h6
   | some w' =>
    rw[ha,Sbr]at h6
    have hlt:=(List.getElem?_eq_some_iff.1 ha).1
    exact⟨w',Hag (os:=os) (by rw[Rbc hlt];exact ha),h6⟩
 | o' :: os, acc, p + 1, w, o, ho, hw, b, hb => by
  have:=Oal (os:=os) (acc:=acc++[Bal acc o'.after.toList 0]) (p:=p) (w:=w) (o:=o) (by simpa using ho) (by
   simp only[Qbs,List.length_singleton]
   simp only[waits]at hw
   rw[<- hw]
   congr 1
   omega) b hb
  exact this
theorem Fa5 {a:OpI}{i:Nat}:∀ {bs:List OpI} {ws:List Nat},Dan a i bs ws=true->∀ {q:Nat} {b:OpI},bs[q]?=some b->∃ w,ws[q]?=some w/\(Tbe w i=true\/uC a b=true)
 |[],_,_,q,b,h=>by simp at h
 |_::_,[],h,_,_,_=>by simp[Dan]at h
 | b :: bs, w :: ws, h, q, b', hq => by
  simp only[Dan,Qbq,Rbw]at h
  cases q with
  | zero =>
   simp only[Qb4,Option.some.injEq]at hq
   subst hq
   exact⟨w,rfl,h.1⟩
  |succ q=>exact Fa5 h.2 (by simpa using hq)
theorem Daa:∀ {is:List OpI} {ws:List Nat} {i:Nat},yX is ws i=true->∀ {p q:Nat} {a b:OpI},p<q->is[p]?=some a->is[q]?=some b ->
  ∃ w,ws[q]?=some w/\(Tbe w (i+p)=true\/uC a b=true)
 |[],_,_,_,p,q,a,b,_,hp,_=>by simp at hp
 | x :: is, ws, i, h, p, q, a, b, hpq, hp, hq => by
  simp only[yX,Qbq]at h
  cases q with
  |zero=>omega
  | succ q =>
   cases p with
   | zero =>
    simp only[Qb4,Option.some.injEq]at hp
    subst hp
    obtain⟨w,h1,h2⟩:=Fa5 h.1 (q:=q) (by simpa using hq)
    exact⟨w,by rw[List.getElem?_tail]at h1;exact h1,h2⟩
   | succ p =>
    obtain⟨w,h1,h2⟩:=Daa h.2 (p:=p) (q:=q) (by omega) (by simpa using hp) (by simpa using hq)
    exact⟨w,by rw[List.getElem?_tail]at h1;exact h1,by rw[show i+(p+1)=i+1+p by omega];exact h2⟩
theorem Gad:∀ {os:List Oper} {i:Nat},Day os i=true->∀ {p:Nat} {o:Oper},os[p]?=some o->∀ e∈o.after.toList,Region.binds .any e=true->e.on<i+p
 |[],_,_,p,o,h,_,_,_=>by simp at h
 | x :: os, i, h, p, o, hp, e, he, hb => by
  simp only[Day,Qbq,Rbg,Rbw,Rbe,Rb6]at h
  cases p with
  | zero =>
   simp only[Qb4,Option.some.injEq]at hp
   subst hp
   rcases h.1 e he with h1|h1
   ·rw[hb]at h1;cases h1
   ·omega
  | succ p =>
   have:=Gad h.2 (p:=p) (by simpa using hp) e he hb
   omega
def sig (D:Nat->Bool):Nat->List OpI->(Nat->Option aU)->Nat->Option aU
 |_,[],σ=>σ
 |i,a::r,σ=>sig D (i+1) r (bif D i then upds σ a.res.upd else σ)
def Wr (a:OpI)(k:Nat):Prop:=∃ c,(k,c)∈a.res.upd
theorem Lax {a:OpI}{σ:Nat->Option aU}{k:Nat}(h:¬ Wr a k):upds σ a.res.upd k=σ k:=fV _ _ _ fun c hc=>h ⟨c,hc⟩
theorem Cas {D D':Nat->Bool}{k:Nat}:∀ {is:List OpI} {i:Nat} {σ σ':Nat->Option aU},(∀ p a,is[p]?=some a->Wr a k->D (i+p)=D' (i+p))->σ k=σ' k->sig D i is σ k=sig D' i is σ' k
 |[],i,σ,σ',_,h=>h
 | a :: r, i, σ, σ', hd, h => by
  simp only[sig]
  refine Cas (fun p b hb hw=>?_) ?_
  ·have:=hd (p+1) b (by simpa using hb) hw
   rw[show i+(p+1)=i+1+p by omega]at this
   exact this
  ·by_cases hw:Wr a k
   ·have:=hd 0 a rfl hw
    rw[Rby]at this
    rw[this]
    cases D' i with
    |false=>exact h
    |true=>exact uU _ _ _ _ h
   ·have e:∀ (x:Bool) (τ:Nat->Option aU),(bif x then upds τ a.res.upd else τ) k=τ k:=by
     intro x τ
     cases x with
     |false=>rfl
     |true=>exact Lax hw
    rw[e,e];exact h
theorem yJ {D:Nat->Bool}{k:Nat}:∀ {is:List OpI} {i:Nat} {σ:Nat->Option aU},(∀ p a,is[p]?=some a->Wr a k->D (i+p)=false)->sig D i is σ k=σ k
 |[],i,σ,_=>rfl
 | a :: r, i, σ, hd => by
  simp only[sig]
  rw[yJ fun p b hb hw=>by
   have:=hd (p+1) b (by simpa using hb) hw
   rw[show i+(p+1)=i+1+p by omega]at this
   exact this]
  by_cases hw:Wr a k
  ·have:=hd 0 a rfl hw
   rw[Rby]at this
   rw[this];rfl
  ·cases D i with
   |false=>rfl
   |true=>exact Lax hw
theorem Ta7 {D:Nat->Bool}{k:Nat}:∀ {is:List OpI} {i p:Nat} {a:OpI} {σ τ:Nat->Option aU},is[p]?=some a->D (i+p)=true->Wr a k->(∀ q b,p<q->is[q]?=some b->Wr b k->D (i+q)=false) ->
  sig D i is σ k=upds τ a.res.upd k
 |[],i,p,a,σ,τ,hp,_,_,_=>by simp at hp
 | x :: r, i, 0, a, σ, τ, hp, hD, hw, hq => by
  simp only[Qb4,Option.some.injEq]at hp
  subst hp
  rw[Rby]at hD
  simp only[sig]
  rw[yJ fun q b hb hwb=>by
   have:=hq (q+1) b (by omega) (by simpa using hb) hwb
   rw[show i+(q+1)=i+1+q by omega]at this
   exact this,hD,cond_true]
  exact Gas _ _ _ _ hw
 | x :: r, i, p + 1, a, σ, τ, hp, hD, hw, hq => by
  simp only[sig]
  refine Ta7 (p:=p) (by simpa using hp) (by rw[show i+1+p=i+(p+1) by omega];exact hD) hw fun q b hpq hb hwb=>?_
  have:=hq (q+1) b (by omega) (by simpa using hb) hwb
  rw[show i+(q+1)=i+1+q by omega]at this
  exact this
section
variable {P:Program} {E:Env} {F:bU} {cf:Nat->List D->Option (List D)}
theorem Ta6 {D:Nat->Bool}{is:List OpI}{i:Nat}{σ:Nat->Option aU}(h:∀ q,i<=q->D q=false):sig D i is σ=σ :=
 funext fun k=>yJ fun p a _ _=>h _ (Tb6 ..)
structure At (E:Env) (ops:List Oper) (cf:Nat->List D->Option (List D)) (ρ:List D) (σ0:Nat->Option aU) (i0:Nat) (is:List OpI) (p:Nat) (o:Oper) (a:OpI) (s0:St):Prop where
 run:∃ mv mvs nv,(mW E ops mv mvs nv a.nb a.nr o).run (sig (fun q=>decide (q<i0+p)) i0 is σ0)=some ((a.g,a.res),a.log)/\aQ cf ρ a.g nv a.res.lets
 nb:a.nb=s0.nb+p
 nr:a.nr=s0.nr+dM*p
theorem Eb2 {rid:Nat}{ops:List Oper}{i:Nat}{os:List Oper}{s s':St}{is:List OpI}(hc:Oai E true rid ops i os s is s') :
  ∀ {ρ:List D},Jam E s->Oah cf ρ s.nv is->is.length=os.length/\s'.get=sig (fun _=>true) i is s.get/\∀ p o,os[p]?=some o->∃ a,is[p]?=some a/\At E ops cf ρ s.get i is p o a s:=by
 induction hc with
 |nil i s=>exact fun _ _=>⟨rfl,rfl,by simp⟩
 | cons mv mvs h1 h2 h3 ih =>
  rename_i i o os s g r log is s'
  intro ρ hi hst
  obtain⟨h4,h5,h6⟩:=ih (hi.next h1 h2) hst.2
  have hg:=Nad (draw:=true) hi.nt h1 h2
  refine⟨by simp[h4],?_,fun p o' hp=>?_⟩
  ·rw[h5,hg];rfl
  ·cases p with
   | zero =>
    simp only[Qb4,Option.some.injEq]at hp
    subst hp
    refine⟨_,rfl,⟨mv,mvs,s.nv,?_,hst.1⟩,rfl,rfl⟩
    rw[Rby,Ta6 fun q hq=>by simpa using hq]
    exact h1
   | succ p =>
    obtain⟨a,h7,h8⟩:=h6 p o' (by simpa using hp)
    refine⟨a,by simpa using h7,?_,?_,?_⟩
    ·obtain⟨mv',mvs',nv',h9,h10⟩:=h8.run
     refine⟨mv',mvs',nv',?_,h10⟩
     simp only[sig]
     have:(decide (i<i+(p+1)):Bool)=true:=by simp
     rw[this,cond_true,<- hg,show i+(p+1)=i+1+p by omega]
     exact h9
    ·rw[h8.nb];show s.nb+1+p=_;omega
    ·rw[h8.nr]
     show s.nr+dM+dM*p=_
     rw[Nat.mul_succ];omega
theorem Uan {a:OpI}{n nb nr k:Nat}(h:a.res.upd.all (fun x=>Aa4 n nb nr x.1)=true)(hw:Wr a k):Aa4 n nb nr k=true:=by
 obtain⟨c,hc⟩:=hw
 rw[Rbg]at h
 exact h _ hc
theorem Za0 {n nb nr b:Nat}(h:Aa4 n nb nr (kB b)=true):b<=nb:=by
 unfold Aa4 at h
 rw[Pa6]at h
 have:kB b / 3=b:=by unfold kB;omega
 rw[this]at h
 simpa using h
theorem Ea8 {n nb nr r:Nat}(h:Aa4 n nb nr (kR r)=true):r<nr+dM:=by
 unfold Aa4 at h
 rw[Pa5]at h
 have:kR r / 3=r:=by unfold kR;omega
 rw[this]at h
 simpa using h
structure Gbb (E:Env) (ops:Array Oper) (cf:Nat->List D->Option (List D)) (ρ:List D) (s:St) (is:List OpI):Prop where
 len:is.length=ops.size
 at_:∀ p o,ops.toList[p]?=some o->∃ a,is[p]?=some a/\At E ops.toList cf ρ s.get 0 is p o a s
 free:∀ p q a b,p<q->is[p]?=some a->is[q]?=some b->(∃ w,(waits ops.toList [])[q]?=some w/\Tbe w p=true)\/uC a b=true
 low:∀ p o,ops.toList[p]?=some o->∀ e∈o.after.toList,Region.binds .any e=true->e.on<p
 dst:∀ o∈ops.toList,gM E.ntmps o
def dn (l:Array Bool)(q:Nat):Bool:=l.getD q false
def Closed (ops:Array Oper)(l:Array Bool):Prop:=∀ q w p,dn l q=true->(waits ops.toList [])[q]?=some w->Tbe w p=true->dn l p=true
theorem apart_spec {a b:OpI}(h:uC a b=true):(∀ k,Wr a k->k∉b.log)/\(∀ k,Wr a k->¬ Wr b k)/\(∀ k,k∈a.log->¬ Wr b k)/\∀ k,Wr b k->Nau a k=false:=by
 simp only[uC,Qbq,Rbe]at h
 obtain⟨⟨⟨h1,h2⟩,h3⟩,h4⟩:=h
 have key:∀ {x:OpI} {k:Nat},Wr x k↔k∈x.res.upd.map (·.1):=by
  intro x k
  simp only[List.mem_map]
  constructor
  ·rintro⟨c,hc⟩;exact⟨_,hc,rfl⟩
  ·rintro⟨⟨k',c⟩,hc,rfl⟩;exact⟨c,hc⟩
 refine⟨fun k hk=>rV h1 (key.1 hk),fun k hk hb=>rV h2 (key.1 hk) (key.1 hb),fun k hk hb=>rV h3 hk (key.1 hb),fun k hk=>?_⟩
 rw[List.any_eq_false]at h4
 simpa using h4 k (key.1 hk)
theorem Tac:∀ {l:List Bool} {i:Nat},l[i]?=some false->(l.set i true).count false+1=l.count false
 |[],i,h=>by simp at h
 | b :: l, 0, h => by
  simp only[Qb4,Option.some.injEq]at h
  subst h
  simp
 | b :: l, i + 1, h => by
  have:=Tac (l:=l) (i:=i) (by simpa using h)
  simp only[List.set_cons_succ,List.count_cons]
  omega
theorem Kav {ops:Array Oper}{l:Array Bool}{i:Nat}(hl:l.size=ops.size)(h:i∈Region.ready .any ops l) :
  ∃ o,ops[i]?=some o/\l[i]?=some false/\∀ e∈o.after.toList,Region.binds .any e=true->dn l e.on=true:=by
 unfold Region.ready at h
 rw[List.mem_filter,Ubd]at h
 obtain⟨h1,h2⟩:=h
 simp only[Qbq,Rbe]at h2
 have ho:ops[i]?=some ops[i]:=Rb0 h1
 rw[ho,Rb5,Sbr]at h2
 refine⟨_,ho,?_,fun e he hb=>?_⟩
 ·have h3:=h2.1
  rw[Rb3]at h3
  have hlt:i<l.size:=by omega
  rw[Rb0 hlt,Sbr]at h3
  rw[Rb0 hlt,h3]
 ·have h3:=h2.2
  rw[<- Array.all_toList,Rbg]at h3
  have:=h3 e he
  rw[hb]at this
  simpa[dn] using this
theorem ready_nil {ops:Array Oper}{l:Array Bool}(hl:l.size=ops.size)(hlow:∀ p o,ops.toList[p]?=some o->∀ e∈o.after.toList,Region.binds .any e=true->e.on<p)
  (h:Region.ready .any ops l=[]):∀ q,q<ops.size->dn l q=true:=by
 intro q
 induction q using Tbd with
 | _ q ih =>
  intro hq
  cases hd:dn l q with
  |true=>rfl
  | false =>
   exfalso
   have ho:ops[q]?=some ops[q]:=Rb0 hq
   have:q∈Region.ready .any ops l:=by
    unfold Region.ready
    rw[List.mem_filter,Ubd]
    refine⟨hq,?_⟩
    simp only[Qbq,Rbe]
    refine⟨?_,?_⟩
    ·have hlt:q<l.size:=by omega
     unfold dn at hd
     rw[Rb3,Rb0 hlt,Sbr]at hd ⊢
     exact hd
    ·rw[ho,Rb5,Sbr,<- Array.all_toList,Rbg]
     intro e he
     cases hb:Region.binds .any e with
     |false=>rfl
     | true =>
      have hlt:=hlow q _ (by rw[Sbi];exact ho) e he hb
      have:=ih e.on hlt (by omega)
      simpa[dn] using this
   rw[h]at this
   simp at this
theorem Ua3 {l:Array Bool}{i:Nat}(hi:i<l.size)(q:Nat):dn (l.setIfInBounds i true) q=(decide (q=i)||dn l q):=by
 unfold dn
 rw[Rb3,Rb3,Array.getElem?_setIfInBounds]
 by_cases h:i=q
 ·subst h
  simp[hi]
 ·rw[if_neg h]
  have:(decide (q=i):Bool)=false:=by simp;exact fun e=>h e.symm
  rw[this,Sb6]
theorem Ebw (hti:yA P E.ti)(hcalls:Caa P E F cf){ops:Array Oper}{s:St}{is:List OpI}{ρ:List D}(hd:Gbb E ops cf ρ s is){Q:Exit->Act->World->Prop}
  (hQ:∀ a' w' G',R E.ntmps F (sig (fun _=>true) 0 is s.get) ρ a' w' G'->Q .normal a' w') :
  ∀ (fuel:Nat) (l:Array Bool) (a:Act) (w:World) (G:Gh),l.size=ops.size->l.toList.count false<=fuel->Closed ops l->R E.ntmps F (sig (dn l) 0 is s.get) ρ a w G ->
  wpAny P .any ops Q fuel l a w:=by
 have hdone:∀ (l:Array Bool) (a:Act) (w:World) (G:Gh),l.size=ops.size->R E.ntmps F (sig (dn l) 0 is s.get) ρ a w G->Region.ready .any ops l=[]->Q .normal a w:=by
  intro l a w G hl hR hr
  have hall:=ready_nil hl hd.low hr
  refine hQ a w G ?_
  have:sig (fun _=>true) 0 is s.get=sig (dn l) 0 is s.get:=by
   funext k
   refine Cas (fun p a hp _=>?_) rfl
   have hlt:=(List.getElem?_eq_some_iff.1 hp).1
   rw[hd.len]at hlt
   rw[hall _ (by omega)]
  rw[this];exact hR
 intro fuel
 induction fuel with
 | zero =>
  intro l a w G hl hcnt hcl hR
  have hnil:Region.ready .any ops l=[]:=by
   cases hr:Region.ready .any ops l with
   |nil=>rfl
   | cons i r =>
    exfalso
    obtain⟨o,h1,h2,h3⟩:=Kav hl (by rw[hr];exact Qb7:i∈Region.ready .any ops l)
    rw[<- Sbi]at h2
    have:=Tac h2
    omega
  exact⟨hnil,hdone l a w G hl hR hnil⟩
 | succ fuel ih =>
  intro l a w G hl hcnt hcl hR
  refine⟨hdone l a w G hl hR,fun i hi=>?_⟩
  obtain⟨o,ho,hli,hedges⟩:=Kav hl hi
  have hoL:ops.toList[i]?=some o:=by rw[Sbi];exact ho
  have hil:i<l.size:=by
   rw[<- Sbi]at hli
   have:=(List.getElem?_eq_some_iff.1 hli).1
   simpa using this
  obtain⟨ai,hai,hat⟩:=hd.at_ i o hoL
  obtain⟨mv,mvs,nv,hrun,hst⟩:=hat.run
  have hni:dn l i=false:=by
   unfold dn
   rw[Rb3,hli];rfl
  have hwait:∀ w p,(waits ops.toList [])[i]?=some w->Tbe w p=true->dn l p=true:=by
   intro w' p hw hb
   obtain⟨e,he,hbe,h1⟩:=Oal (acc:=[]) (p:=i) hoL (by simpa using hw) p hb
   rcases h1 with h1|⟨w'',h1,h2⟩
   ·rw[h1];exact hedges e he hbe
   ·exact hcl e.on w'' p (hedges e he hbe) h1 h2
  have hbefore:∀ p b,p<i->is[p]?=some b->dn l p=false->uC b ai=true:=by
   intro p b hpi hb hnd
   rcases hd.free p i b ai hpi hb hai with ⟨w',h1,h2⟩|h
   ·rw[hwait w' p h1 h2]at hnd;cases hnd
   ·exact h
  have hbehind:∀ q b,i<q->is[q]?=some b->dn l q=true->uC ai b=true:=by
   intro q b hiq hb hdq
   rcases hd.free i q ai b hiq hai hb with ⟨w',h1,h2⟩|h
   ·rw[hcl q w' i hdq h1 h2]at hni;cases hni
   ·exact h
  have hsame:∀ k∈ai.log,sig (dn l) 0 is s.get k=sig (fun q=>decide (q<0+i)) 0 is s.get k:=by
   intro k hk
   refine Cas (fun p b hb hw=>?_) rfl
   rw[Rbt,Rbt]
   rcases Tbn p i with h|h|h
   ·have e:(decide (p<i):Bool)=true:=by simpa using h
    rw[e]
    cases hdp:dn l p with
    |true=>rfl
    |false=>exact absurd hk ((apart_spec (hbefore p b h hb hdp)).1 k hw)
   ·subst h
    rw[hni];simp
   ·have e:(decide (p<i):Bool)=false:=by simp;omega
    rw[e]
    cases hdp:dn l p with
    |false=>rfl
    |true=>exact absurd hw ((apart_spec (hbehind p b h hb hdp)).2.2.1 k hk)
  have hrun':=RdM.run_eval (RdM.run_same hrun hsame)
  have hkeys:∀ (p:Nat) (b:OpI),is[p]?=some b->∃ nv' ,b.res.upd.all (fun x=>Aa4 E.ntmps (s.nb+p) (s.nr+dM*p) x.1)=true/\nv'=nv:=by
   intro p b hb
   have hlt:=(List.getElem?_eq_some_iff.1 hb).1
   have hop:ops.toList[p]?=some ops.toList[p]!:=by
    rw[List.getElem!_eq_getElem?_getD,Qbz (by simpa[<- hd.len] using hlt)]
    rfl
   obtain⟨b',hb',hat'⟩:=hd.at_ p _ hop
   rw[hb]at hb'
   obtain rfl:=Option.some.inj hb'
   obtain⟨mv',mvs',nv',hr',-⟩:=hat'.run
   have:=(kK (RdM.run_eval hr')).2.2.2
   rw[hat'.nb,hat'.nr]at this
   exact⟨nv,this,rfl⟩
  have hfresh0:Eae (sig (dn l) 0 is s.get) ai.nb ai.nr:=by
   have hf:=Qad (s:=s)
   refine⟨?_,fun j hj1 hj2=>?_⟩
   ·rw[yJ fun p b hb hw=>?_]
    ·rw[hat.nb]
     unfold St.get Cad kB
     have e:(3*(s.nb+i)+1) % 3=1:=by omega
     have e2:(3*(s.nb+i)+1) / 3=s.nb+i:=by omega
     rw[e,e2]
     have:Sbj (s.nb+i) s.nb=false:=by
      cases hb:Sbj (s.nb+i) s.nb with
      |false=>rfl
      |true=>simp only[Rb6]at hb;omega
     rw[this];rfl
    ·rw[Rbt]
     obtain⟨_,hk,-⟩:=hkeys p b hb
     have h1:=Za0 (Uan hk hw)
     rw[hat.nb]at h1
     rcases Tbn p i with h|h|h
     ·omega
     ·rw[h];exact hni
     ·cases hdp:dn l p with
      |false=>rfl
      | true =>
       have:=(apart_spec (hbehind p b h hb hdp)).2.2.2 _ hw
       unfold Nau at this
       rw[Pa6]at this
       have e2:kB ai.nb / 3=ai.nb:=by unfold kB;omega
       rw[e2]at this
       simp at this
   ·rw[yJ fun p b hb hw=>?_]
    ·unfold St.get Cad kR
     have e:(3*j+2) % 3=2:=by omega
     have e2:(3*j+2) / 3=j:=by omega
     rw[e,e2]
     have:Sbj j s.nr=false:=by
      cases hb:Sbj j s.nr with
      |false=>rfl
      |true=>simp only[Rb6]at hb;rw[hat.nr]at hj1;omega
     rw[this];rfl
    ·rw[Rbt]
     obtain⟨_,hk,-⟩:=hkeys p b hb
     have h1:=Ea8 (Uan hk hw)
     rcases Tbn p i with h|h|h
     ·rw[hat.nr]at hj1
      have:dM*(p+1)<=dM*i:=Nat.mul_le_mul_left _ h
      rw[Nat.mul_succ]at this
      omega
     ·rw[h];exact hni
     ·cases hdp:dn l p with
      |false=>rfl
      | true =>
       have:=(apart_spec (hbehind p b h hb hdp)).2.2.2 _ hw
       unfold Nau at this
       rw[Pa5]at this
       have e2:kR j / 3=j:=by unfold kR;omega
       rw[e2]at this
       have e3:Nat.ble ai.nr j=true:=by simpa using hj1
       have e4:Sbj j (ai.nr+dM)=true:=by simpa using hj2
       rw[e3,e4]at this
       simp at this
  have hgo:Ibt P E F (sig (dn l) 0 is s.get) ρ ops o Q ai.res.upd a w:=by
   refine Car hR hti hd.dst hfresh0 hrun' hst fun f args argTypes hoc=>?_
   obtain⟨h2,h3,h4,h5⟩:=kK hrun'
   rw[Kaj hoc]at h4
   exact hcalls _ ρ a w G ai.g o Q mv mvs nv _ _ ai.res f args argTypes hR h3 hfresh0 hoc h4 h5 hst
  have hnext:sig (dn (l.setIfInBounds i true)) 0 is s.get=upds (sig (dn l) 0 is s.get) ai.res.upd:=by
   funext k
   by_cases hw:Wr ai k
   ·refine Ta7 hai (by rw[Rbt,Ua3 hil];simp) hw fun q b hiq hb hwb=>?_
    rw[Rbt,Ua3 hil]
    have e:(decide (q=i):Bool)=false:=by simp;omega
    rw[e,Sb6]
    cases hdq:dn l q with
    |false=>rfl
    |true=>exact absurd hwb ((apart_spec (hbehind q b hiq hb hdq)).2.1 k hw)
   ·rw[Lax hw]
    refine Cas (fun p b hb hwb=>?_) rfl
    rw[Rbt,Ua3 hil]
    have e:(decide (p=i):Bool)=false:=by
     simp
     intro e
     subst e
     rw[hai]at hb
     obtain rfl:=Option.some.inj hb
     exact hw hwb
    rw[e,Sb6]
  have hcl':Closed ops (l.setIfInBounds i true):=by
   intro q w' p hdq hw hb
   rw[Ua3 hil]at hdq ⊢
   by_cases e:q=i
   ·subst e
    rw[hwait w' p hw hb,Sb3]
   ·have e':(decide (q=i):Bool)=false:=by simp[e]
    rw[e',Sb6]at hdq
    rw[hcl q w' p hdq hw hb,Sb3]
  have hnx:∀ a w,Nx E.ntmps F (sig (dn l) 0 is s.get) ρ ai.res.upd a w->wpAny P .any ops Q fuel (l.setIfInBounds i true) a w:=by
   intro a' w' ⟨G',hR'⟩
   rw[<- hnext]at hR'
   refine ih _ a' w' G' (by simp[hl]) ?_ hcl' hR'
   rw[Array.toList_setIfInBounds]
   rw[<- Sbi]at hli
   have:=Tac hli
   omega
  unfold wpOp
  rw[ho]
  unfold Ibt at hgo
  dsimp only
  split
  ·rename_i hw
   rw[if_pos hw]at hgo
   exact .inl (Oper.wp_mono hnx hgo)
  ·rename_i hw
   rw[if_neg hw]at hgo
   exact hnx _ _ hgo
end
end Go.Proofs.YtdpfilpckndhcaaGreatDoor.Rf

namespace Go.Proofs.YtdpfilpckndhcaaGreatDoor.Rf
set_option linter.unusedVariables false
set_option linter.unusedSimpArgs false
section
variable {P:Program} {E:Env} {F:bU} {cf:Nat->List D->Option (List D)} {n:Nat} {σ:Nat->Option aU} {ρ:List D} {a:Act} {w:World} {G:Gh}
theorem R.world {w':World}(h:R n F σ ρ a w G)(hh:w'.heap=w.heap)(ho:w'.os=w.os)(ht:w'.tape=w.tape)(hp:w'.output=w.output):R n F σ ρ a w' G:=by
 have hfr:Fr σ G w (upds σ []) G w':=by
  refine⟨fun b hb _=>⟨hb,by rw[hh]⟩,fun r k _ h=>h,fun r k h=>h,fun r k b p _ _ h=>⟨.inl h,by rw[hh]⟩,fun r k m _ h=>⟨h,fun b p h=>h⟩,fun _ _=>rfl,fun _ _=>rfl,fun k h=>h,fun _ _ _ _ _ _ _ h=>h⟩
 exact h.upd [] hfr h.tmps h.defers ⟨ho.trans h.frame.os,ht.trans h.frame.tape,hp.trans h.frame.output,by rw[hh];exact h.frame.size,
  fun b hb hf=>by rw[hh];exact h.frame.keep b hb hf,fun b j hb hj=>by rw[hh];exact h.frame.boxes b j hb hj,fun b hb=>h.frame.fresh b (by rw[<- hh];exact hb)⟩
  (fun t _=>rfl) (fun b ro ls _ _=>⟨rfl,by rw[hh]⟩) (fun b ls hb=>by simp at hb) (fun k c hk=>by simp at hk)
theorem Oa9 (hti:yA P E.ti)(hcalls:Caa P E F cf)(hm:P.follows .mixedOrders=true){rid:Nat}{ops:Array Oper}{draw:Bool}{s:St}{o:Out St}
  (h:Ec cf (Mau E false rid ops.toList draw s) ρ=some o) (hl:ρ.length=s.nv) (hi:Jam E s) :
  (o.kind=.fall/\o.env.length=o.ext.nv/\Jam E o.ext/\∃ ds,o.env=ρ++ds) /\
  ∀ a w G Q,R E.ntmps F s.get ρ a w G->(∀ a' w' G',R E.ntmps F o.ext.get o.env a' w' G'->Q .normal a' w')->(Code.region rid ops draw).wp P Q a w:=by
 unfold Mau at h
 split at h
 case h_2=>simp only[cond_false,jR]at h;cases h
 rename_i is s' hops
 obtain⟨js,hjs,hc⟩:=Hat hops
 simp only[List.reverse_nil,Rb9]at hjs
 subst hjs
 have hds:=Bbe hc
 cases hb:(!draw||(Day ops.toList 0&&yX is (waits ops.toList []) 0)) with
 |false=>rw[hb]at h;simp only[cond_false,jR]at h;cases h
 | true =>
  rw[hb,cond_true]at h
  obtain⟨h1,h2,h3,⟨ds,h4⟩,h5⟩:=Vaw hc Aae.1 hl h
  have h5':=h5 []
  rw[Rbm]at h5'
  refine⟨⟨h1,by rw[h2,Aae.1];exact h3,by rw[h2];exact (Bbd hc hi).trim,ds,h4⟩,fun a w G Q hR hQ=>?_⟩
  rw[h2,Oao]at hQ
  have hR':R E.ntmps F s.get o.env a w G:=by rw[h4];exact hR.ext hi.sc (by omega) ds
  cases draw with
  | false =>
   refine wp_region ?_
   rw[List.range_eq_range']
   have:=Bbc hti hcalls (ops:=ops) hds hc (by simp) hR' hi h5' hQ
   simpa using this
  | true =>
   simp only[Rbl,Sb6,Qbq]at hb
   obtain⟨hlen,hend,hat⟩:=Eb2 (ρ:=o.env) (cf:=cf) hc hi h5'
   have hlen':is.length=ops.size:=by rw[hlen];simp
   have hd:Gbb E ops cf o.env s is:=by
    refine⟨hlen',hat,fun p q x y hpq hp hq=>?_,fun p o' hp e he hbe=>?_,hds⟩
    ·obtain⟨w',h6,h7⟩:=Daa hb.2 hpq hp hq
     rw[Rbt]at h7
     exact h7.imp (fun h7=>⟨w',h6,h7⟩) id
    ·have:=Gad hb.1 hp e he hbe
     omega
   refine wp_region_any hm ?_
   refine Ebw hti hcalls hd (fun a' w' G' hR''=>hQ a' w' G' (by rw[hend];exact hR'')) ops.size _ a _ G (by simp) ?_ ?_ ?_
   ·simp only[Array.toList_replicate,List.count_replicate_self,Qbw]
   ·intro q w' p hq
    unfold dn at hq
    rw[Rb3,Array.getElem?_replicate]at hq
    split at hq<;>simp at hq
   ·rw[Ta6 fun q _=>by
     unfold dn
     rw[Rb3,Array.getElem?_replicate]
     split<;>rfl]
    exact hR'.world rfl rfl rfl rfl
end
end Go.Proofs.YtdpfilpckndhcaaGreatDoor.Rf

namespace Go.Proofs.YtdpfilpckndhcaaGreatDoor.Rf
set_option linter.unusedVariables false
set_option linter.unusedSimpArgs false
theorem Dal {s:St}{k:Nat}{c:aU}(h:s.get k=some c):Cad s.nt s.nb s.nr k=true:=by
 unfold St.get at h
 cases e:Cad s.nt s.nb s.nr k with
 |true=>rfl
 |false=>rw[e]at h;cases h
theorem Pa4 {nt nb nr r:Nat}(h:r<nr):Cad nt nb nr (kR r)=true:=by
 unfold Cad
 rw[Pa5]
 have:kR r / 3=r:=by unfold kR;omega
 rw[this]
 simpa using h
theorem Aam {s:St}{u:List (Nat×aU)}(h:∀ k c,(k,c)∈u->Cad s.nt s.nb s.nr k=true):(s.puts u).get=upds s.get u:=by
 funext k
 obtain⟨e1,e2,e3,e4⟩:=jK u s
 unfold St.get
 rw[e2,e3,e4,Ma7]
 by_cases hm:∃ c,(k,c)∈u
 ·obtain⟨c,hc⟩:=hm
  rw[h k c hc,cond_true]
  exact Gas _ _ _ _ ⟨c,hc⟩
 ·have hn:∀ c,(k,c)∉u:=fun c hc=>hm ⟨c,hc⟩
  rw[fV _ _ _ hn,fV _ _ _ hn]
def Ka5 (σ:Nat->Option aU)(k j:Nat):Option aW :=
 match σ k with
 |some (.slot none (.one a))=>if j=0 then some a else none
 |some (.slot none (.agg ls))=>ls[j]?
 |some (.box _ ls)=>ls[j]?
 |_=>none
theorem Zay {k j:Nat}{s:St}:zG k j s=(Ka5 s.get k j).getD .dead:=by
 unfold zG Ka5
 split
 ·rename_i v hk
  rw[hk]
  cases v with
  |dead=>simp[vZ]
  | one a =>
   simp only[vZ]
   cases j with
   |zero=>rfl
   |succ j=>simp
  |agg ls=>simp[vZ,Qb5]
  |tup ts=>simp[vZ]
 ·rename_i ro ls hk
  rw[hk]
  simp[Qb5]
 ·rename_i h1 h2
  cases hs:s.get k with
  |none=>rfl
  | some c =>
   cases c with
   | slot g v =>
    cases g with
    |none=>exact absurd hs (h1 v)
    |some g=>rfl
   |box ro ls=>exact absurd hs (h2 ro ls)
   |root=>rfl
theorem jX {k j:Nat}{s:St}{l:aW}(h:zG k j s=l)(hl:l≠.dead):Ka5 s.get k j=some l:=by
 rw[Zay]at h
 cases e:Ka5 s.get k j with
 |none=>rw[e]at h;exact absurd h.symm hl
 |some l'=>rw[e,Sbr]at h;rw[h]
section
variable {E:Env} {F:bU} {n:Nat} {σ:Nat->Option aU} {ρ:List D} {a:Act} {w:World} {G G':Gh}
inductive ValAt (n:Nat) (gh:Nat->Value) (a:Act) (w:World) (bx:Nat->Addr):aU->Nat->Nat->Value->Prop
 |one (t:Nat) (l:aW):ValAt n gh a w bx (.slot none (.one l)) (kT t) 0 (Cab n a gh t)
 |agg (t:Nat) (ls:List aW) (vs:List Value) (j:Nat) (v:Value) (h:Cab n a gh t=.agg vs.toArray) (hv:vs[j]?=some v):ValAt n gh a w bx (.slot none (.agg ls)) (kT t) j v
 |box (b j:Nat) (ro:Bool) (ls:List aW) (v:Value) (h:w.cell? ((bx b).add j)=some v):ValAt n gh a w bx (.box ro ls) (kB b) j v
theorem R.valAt (h:R n F σ ρ a w G){k j:Nat}{l:aW}(hl:Ka5 σ k j=some l):∃ v c,σ k=some c/\ValAt n F.gh a w G.bx c k j v/\aB σ ρ G w l v:=by
 unfold Ka5 at hl
 split at hl
 ·rename_i l' hk
  obtain⟨t,rfl,h1⟩:=h.cont _ _ hk
  split at hl
  ·rename_i hj
   subst hj
   obtain rfl:=Option.some.inj hl
   exact⟨_,_,hk,.one t l',h1 rfl⟩
  ·cases hl
 ·rename_i ls hk
  obtain⟨t,rfl,h1⟩:=h.cont _ _ hk
  obtain⟨vs,h2,h3⟩:dV σ ρ G w (.agg ls) _:=h1 rfl
  obtain⟨v,h4,h5⟩:=h3.get hl
  exact⟨v,_,hk,.agg t ls vs j v h2 h4,h5⟩
 ·rename_i ro ls hk
  obtain⟨b,rfl,h1,h2,h3⟩:=h.cont _ _ hk
  obtain⟨v,h4,h5,h6⟩:=h3 j l hl
  exact⟨v,_,hk,.box b j ro ls v h4,h6⟩
 ·cases hl
theorem Fr.nonroot (σ:Nat->Option aU)(G:Gh)(w:World)(u:List (Nat×aU))(hu:∀ k c,(k,c)∈u->∀ r,k≠kR r):Fr σ G w (upds σ u) G w:=by
 have hr:∀ r,upds σ u (kR r)=σ (kR r):=fun r=>fV _ _ _ fun c hc=>hu _ _ hc r rfl
 refine⟨fun b h _=>⟨h,rfl⟩,fun r k _ h=>?_,fun r k h=>?_,fun r k b p _ _ h=>⟨.inl h,rfl⟩,fun r k m _ h=>⟨?_,fun b p h=>h⟩,fun _ _=>rfl,fun _ _=>rfl,fun k h=>fI _ _ _ (.inl h),fun _ _ _ _ _ _ _ h=>h⟩
 ·obtain⟨x,m,st,e,h⟩:=h
  exact⟨x,m,st,by rw[<- hr];exact e,h⟩
 ·obtain⟨x,m,ver,st,e,h⟩:=h
  exact⟨x,m,ver,st,by rw[hr];exact e,h⟩
 ·obtain⟨x,e⟩:=h
  exact⟨x,by rw[<- hr];exact e⟩
theorem Gal {α:Type}{x y:List α}(h:x.toArray=y.toArray):x=y:=by
 have:=congrArg Array.toList h
 simpa using this
structure Fbe (s s':St):Prop where
 nr:s'.nr=s.nr
 nt:s'.nt=s.nt
 root:∀ r,s'.get (kR r)=s.get (kR r)
theorem R.putAt {s:St}(h:R n F s.get ρ a w G){k j:Nat}{l:aW}{c0:aU}(hk:s.get k=some c0){v:Value}(hv:ValAt n F.gh a w G.bx c0 k j v)(hl:aB s.get ρ G w l v) :
  R n F (Go.Proofs.YtdpfilpckndhcaaGreatDoor.Rf.putAt k j l s).get ρ a w G/\Fbe s (Go.Proofs.YtdpfilpckndhcaaGreatDoor.Rf.putAt k j l s)/\(Go.Proofs.YtdpfilpckndhcaaGreatDoor.Rf.putAt k j l s).nv=s.nv:=by
 have hput:∀ c,Pb3 j l c0=some c->(∀ r,k≠kR r)->(∃ t,(k=kT t/\∃ sv,c=.slot none sv/\dV (upds s.get [(k,c)]) ρ G w sv (Cab n a F.gh t))\/(k=kB t/\∃ ro ls,c=.box ro ls/\Lau (upds s.get [(k,c)]) ρ G w t ro ls))->(∀ b ls,k=kB b->c=.box false ls->∃ ls0,c0=.box false ls0/\ls.length=ls0.length) ->
   R n F (Go.Proofs.YtdpfilpckndhcaaGreatDoor.Rf.putAt k j l s).get ρ a w G/\Fbe s (Go.Proofs.YtdpfilpckndhcaaGreatDoor.Rf.putAt k j l s)/\(Go.Proofs.YtdpfilpckndhcaaGreatDoor.Rf.putAt k j l s).nv=s.nv:=by
  intro c hc hnr hcr hbl
  have e:Go.Proofs.YtdpfilpckndhcaaGreatDoor.Rf.putAt k j l s=s.puts [(k,c)]:=by
   unfold Go.Proofs.YtdpfilpckndhcaaGreatDoor.Rf.putAt
   rw[hk,Qb3,hc];rfl
  have hg:(s.puts [(k,c)]).get=upds s.get [(k,c)]:=Aam fun k' c' hm=>by
   simp only[Qb6,Prod.mk.injEq]at hm
   rw[hm.1];exact Dal hk
  obtain⟨e1,e2,e3,e4⟩:=jK [(k,c)] s
  have hmem:∀ k' c',(k',c')∈[(k,c)]->k'=k/\c'=c:=by
   intro k' c' hm
   simpa using hm
  rw[e]
  refine⟨?_,⟨e3,e4,fun r=>?_⟩,e1⟩
  ·rw[hg]
   have hfr:=Fr.nonroot s.get G w [(k,c)] fun k' c' hm r=>by rw[(hmem _ _ hm).1];exact hnr r
   refine h.upd _ hfr h.tmps h.defers h.frame (fun _ _=>rfl) (fun _ _ _ _ _=>⟨rfl,rfl⟩) (fun b ls hm hb ho=>?_) (fun k' c' hm _=>?_)
   ·obtain⟨e5,e6⟩:=hmem _ _ hm
    obtain⟨ls0,h1,h2⟩:=hbl b ls e5.symm e6.symm
    rw[h1]at hk
    rw[h2]
    exact h.rng b ls0 (by rw[e5];exact hk) hb ho
   ·obtain⟨rfl,rfl⟩:=hmem _ _ hm
    obtain⟨t,⟨e7,sv,e8,h8⟩|⟨e7,ro,ls,e8,h8⟩⟩:=hcr
    ·subst e8
     exact⟨t,e7,fun _=>h8⟩
    ·subst e8
     exact⟨t,e7,h8⟩
  ·rw[hg]
   exact fV _ _ _ fun c' hm=>hnr r (hmem _ _ hm).1.symm
 have hfr:∀ c,(∀ r,k≠kR r)->Fr s.get G w (upds s.get [(k,c)]) G w:=fun c hnr=>Fr.nonroot s.get G w [(k,c)] fun k' c' hm r=>by
  simp only[Qb6,Prod.mk.injEq]at hm
  rw[hm.1];exact hnr r
 cases hv with
 | one t l0 =>
  exact hput (.slot none (.one l)) rfl (fun r=>jE) ⟨t,.inl ⟨rfl,_,rfl,aB.mono (hfr _ fun r=>jE) l _ hl⟩⟩ (fun b ls e=>absurd e oP)
 | agg t ls vs _ _ h2 hvj =>
  have h1:=h.slot hk rfl
  obtain⟨vs',h2',h3⟩:dV s.get ρ G w (.agg ls) _:=h1
  rw[h2]at h2'
  injection h2' with e
  have e:=Gal e
  subst e
  have hf:=hfr (.slot none (.agg (ls.set j l))) fun r=>jE
  refine hput (.slot none (.agg (ls.set j l))) rfl (fun r=>jE) ⟨t,.inl ⟨rfl,_,rfl,vs,h2,?_⟩⟩ (fun b ls e=>absurd e oP)
  refine aD.of_get (by simp[h3.len]) fun i l' v' hi hv'=>?_
  rw[Sb1]at hi
  split at hi
  ·rename_i hij
   subst hij
   split at hi
   ·obtain rfl:=Option.some.inj hi
    rw[hv']at hvj
    obtain rfl:=Option.some.inj hvj
    exact aB.mono hf _ _ hl
   ·cases hi
  ·obtain⟨u,hu,hu2⟩:=h3.get hi
   rw[hv']at hu
   obtain rfl:=Option.some.inj hu
   exact aB.mono hf _ _ hu2
 | box b _ ro ls _ hb =>
  obtain⟨h1,h2,h3⟩:=h.box hk
  have hf:=hfr (.box ro (ls.set j l)) fun r=>gV
  refine hput (.box ro (ls.set j l)) rfl (fun r=>gV) ⟨b,.inr ⟨rfl,_,_,rfl,h1,h2,fun i l' hi=>?_⟩⟩ (fun b' ls' e e'=>?_)
  ·rw[Sb1]at hi
   split at hi
   ·rename_i hij
    subst hij
    split at hi
    ·rename_i hlt
     obtain rfl:=Option.some.inj hi
     obtain⟨v0,h4,h5,h6⟩:=h3 _ _ (Qbz hlt)
     rw[h4]at hb
     obtain rfl:=Option.some.inj hb
     exact⟨v0,h4,h5,aB.mono hf _ _ hl⟩
    ·cases hi
   ·obtain⟨u,h4,h5,h6⟩:=h3 i l' hi
    exact⟨u,h4,h5,aB.mono hf _ _ h6⟩
  ·injection e' with e1 e2
   subst e1 e2
   exact⟨ls,rfl,by simp⟩
end
end Go.Proofs.YtdpfilpckndhcaaGreatDoor.Rf

namespace Go.Proofs.YtdpfilpckndhcaaGreatDoor.Rf
set_option linter.unusedVariables false
set_option linter.unusedSimpArgs false
section
variable {E:Env} {F:bU} {σ:Nat->Option aU} {ρ:List D} {a:Act} {w:World} {G G':Gh}
def Pb6:Oper:={ (default:Oper) with dst:=none }
theorem R.roots (h:R E.ntmps F σ ρ a w G){ur:List (Nat×aU)}{f:Nat->List Nat->Ow}
  (hu:∀ k c,(k,c)∈ur->∃ r,k=kR r) (hown:∀ b,G'.own b=oV f (G.own b))
  (hun:∀ b r p,G.own b=.slc r p->(∀ c,(kR r,c)∉ur)->f r p=.slc r p)
  (hch:∀ r c,(kR r,c)∈ur->upds σ ur (kR r)=some c->Chg σ G w G' w r c)
  (hfroz:∀ r x m k,σ (kR r)=some (.root x m k .frozen)->∀ s p q,f s p=.slc r q->s=r/\p=q)
  (hhdr:∀ r,(σ (kR r)).isSome->G'.hdr r=G.hdr r) (hbx:G'.bx=G.bx)
  (hroot:∀ r c,(kR r,c)∈ur->upds σ ur (kR r)=some c->∃ x m ver st,c=.root x m ver st/\dJ (upds σ ur) ρ G' w r x m st):R E.ntmps F (upds σ ur) ρ a w G':=by
 have h0:fB Pb6 none .dead=[]:=rfl
 have:=h.own (o:=Pb6) (g:=none) (sv:=.dead) (v:=undef) (ur:=ur) (f:=f) (wr:=fun _=>False) (G':=G') (w':=w) (fun d hd=>by cases hd) hu (fun b _=>hown b)
  (fun b hb=>by rw[hown,h.frame.fresh b hb];rfl) ⟨rfl,rfl,rfl,Qbw _⟩ (fun b hb=>.inl (by rw[hown,h.frame.fresh b hb];rfl)) (fun _ _ _=>rfl) (fun b hb=>hb.elim) hun
  (by rw[h0,Rb9];exact hch) hfroz hhdr hbx (fun _ _=>trivial) (by rw[h0,Rb9];exact fun _=>hroot)
 rw[h0,Rb9]at this
 exact this
def mvF (r rN m:Nat)(s:Nat)(p:List Nat):Ow:=if s=r then (if p.length<m then .slc rN p else .frz) else .slc s p
theorem R.moveRoot (h:R E.ntmps F σ ρ a w G){r rN m m' v:Nat}{x x0:aM}(hr:σ (kR r)=some (.root x0 m' v .live))(hN:σ (kR rN)=none)(hm:m<=m'){u:Value}
  (hrp:Rp G.own w r [] m' u (x.val ρ)) {st:RSt} (hst:st=.gone\/(st=.fwd rN/\u=G.hdr r)) :
  ∃ G',R E.ntmps F (upds σ [(kR r,.root (.c .hole) 0 0 st),(kR rN,.root x m 0 .live)]) ρ a w G'/\G'.hdr rN=u/\G'.bx=G.bx:=by
 have hne:r≠rN:=fun e=>by rw[e,hN]at hr;cases hr
 let G':Gh:={ own:=fun b=>oV (mvF r rN m) (G.own b),hdr:=fun s=>if s=rN then u else G.hdr s,bx:=G.bx }
 have e1:upds σ [(kR r,aU.root (.c .hole) 0 0 st),(kR rN,.root x m 0 .live)] (kR r)=some (.root (.c .hole) 0 0 st):=by
  simp only[upds,Ta8]
  rw[if_neg fun e=>hne (gD e)]
  simp
 have e2:upds σ [(kR r,aU.root (.c .hole) 0 0 st),(kR rN,.root x m 0 .live)] (kR rN)=some (.root x m 0 .live):=by
  simp[upds,Ta8]
 have hmem:∀ s c,(kR s,c)∈[(kR r,aU.root (.c .hole) 0 0 st),(kR rN,.root x m 0 .live)]->s=r\/s=rN:=by
  intro s c hc
  simp only[Rbk,Prod.mk.injEq,Rbs,or_false]at hc
  exact hc.imp (fun e=>gD e.1) (fun e=>gD e.1)
 refine⟨G',h.roots (f:=mvF r rN m) ?_ (fun b=>rfl) ?_ ?_ ?_ ?_ rfl ?_,by simp[G'],rfl⟩
 ·intro k c hc
  simp only[Rbk,Prod.mk.injEq,Rbs,or_false]at hc
  rcases hc with ⟨e,-⟩|⟨e,-⟩<;>exact⟨_,e⟩
 ·intro b s p hb hn
  unfold mvF
  rw[if_neg fun e=>hn _ (by rw[e];exact Qb7)]
 ·intro s c hc hc'
  rcases hmem s c hc with rfl|rfl
  ·rw[e1]at hc'
   obtain rfl:=Option.some.inj hc'
   refine .inr (.inr (.inl ⟨_,_,_,_,rfl,?_,?_⟩))<;>rcases hst with e|⟨e,-⟩<;>rw[e]<;>simp
  ·rw[e2]at hc'
   obtain rfl:=Option.some.inj hc'
   exact .inl ⟨hN,_,_,_,_,rfl⟩
 ·intro r0 x1 m1 k1 hk s p q hf
  unfold mvF at hf
  split at hf
  ·split at hf
   ·injection hf with f1 f2
    rw[<- f1,hN]at hk;cases hk
   ·cases hf
  ·injection hf with f1 f2
   exact⟨f1,f2⟩
 ·intro s hs
  show (if s=rN then u else G.hdr s)=_
  rw[if_neg]
  intro e
  rw[e,hN]at hs
  cases hs
 ·intro s c hc hc'
  rcases hmem s c hc with rfl|rfl
  ·rw[e1]at hc'
   obtain rfl:=Option.some.inj hc'
   refine⟨_,_,_,_,rfl,?_⟩
   rcases hst with e|⟨e,hu⟩
   ·subst e;trivial
   ·subst e
    refine⟨?_,by rw[e2];rfl⟩
    show (if s=rN then u else G.hdr s)=(if rN=rN then u else G.hdr rN)
    rw[if_neg hne,if_pos rfl,hu]
  ·rw[e2]at hc'
   obtain rfl:=Option.some.inj hc'
   refine⟨_,_,_,_,rfl,?_⟩
   show Rp G'.own w s [] m (if s=s then u else G.hdr s) (x.val ρ)
   rw[if_pos rfl]
   have hw:=hrp.weaken (own':=fun b=>oV (fun s' p=>if s'=r then (if p.length<m then .slc r p else .frz) else .slc s' p) (G.own b)) (fun b hb=>by rw[hb];rfl) m hm (fun b t hb=>by
    rw[hb]
    simp only[oV,if_pos rfl,Rb9]
    rfl)
   have:=hw.mono (own':=G'.own) (w':=w) (q:=[]) (q':=[]) (r':=s) (fun b hb=>⟨?_,rfl⟩) [] rfl (fun b t hb=>⟨?_,rfl⟩)
   ·simpa using this
   ·show oV _ (G.own b)=_
    cases e:G.own b with
    | slc s' p =>
     rw[e]at hb
     simp only[oV]at hb ⊢
     unfold mvF
     split at hb
     ·rename_i hs'
      rw[if_pos hs']
      split at hb
      ·cases hb
      ·rename_i hl;rw[if_neg hl]
     ·cases hb
    |_=>rw[e]at hb;simpa[oV] using hb
   ·show oV _ (G.own b)=_
    cases e:G.own b with
    | slc s' p =>
     rw[e]at hb
     simp only[oV]at hb ⊢
     unfold mvF
     split at hb
     ·rename_i hs'
      rw[if_pos hs']
      split at hb
      ·rename_i hl
       rw[if_pos hl]
       injection hb with f1 f2
       rw[f2]
      ·cases hb
     ·rename_i hs'
      injection hb with f1 f2
      exact absurd f1 hs'
    |_=>rw[e]at hb;simp[oV]at hb
theorem R.nilRoot (h:R E.ntmps F σ ρ a w G){rN m z:Nat}(hN:σ (kR rN)=none) :
  ∃ G',R E.ntmps F (upds σ [(kR rN,.root (.c (.rows z [])) m 0 .live)]) ρ a w G'/\G'.hdr rN=.slice none 0 0/\G'.bx=G.bx:=by
 let G':Gh:={ own:=G.own,hdr:=fun s=>if s=rN then .slice none 0 0 else G.hdr s,bx:=G.bx }
 have e2:upds σ [(kR rN,aU.root (.c (.rows z [])) m 0 .live)] (kR rN)=some (.root (.c (.rows z [])) m 0 .live):=by
  simp[upds,Ta8]
 have hmem:∀ s c,(kR s,c)∈[(kR rN,aU.root (.c (.rows z [])) m 0 .live)]->s=rN:=by
  intro s c hc
  simp only[Rbk,Prod.mk.injEq,Rbs,or_false]at hc
  exact gD hc.1
 refine⟨G',h.roots (f:=fun s p=>.slc s p) ?_ (fun b=>?_) (fun _ _ _ _ _=>rfl) ?_ (fun _ _ _ _ _ s p q hf=>?_) ?_ rfl ?_,by simp[G'],rfl⟩
 ·intro k c hc
  simp only[Rbk,Prod.mk.injEq,Rbs,or_false]at hc
  exact⟨_,hc.1⟩
 ·show G.own b=_
  cases G.own b<;>rfl
 ·intro s c hc hc'
  obtain rfl:=hmem s c hc
  rw[e2]at hc'
  obtain rfl:=Option.some.inj hc'
  exact .inl ⟨hN,_,_,_,_,rfl⟩
 ·injection hf with f1 f2
  exact⟨f1,f2⟩
 ·intro s hs
  show (if s=rN then _ else G.hdr s)=_
  rw[if_neg]
  intro e
  rw[e,hN]at hs
  cases hs
 ·intro s c hc hc'
  obtain rfl:=hmem s c hc
  rw[e2]at hc'
  obtain rfl:=Option.some.inj hc'
  refine⟨_,_,_,_,rfl,?_⟩
  show Rp G.own w s [] m (if s=s then _ else G.hdr s) (.rows z [])
  rw[if_pos rfl]
  cases m with
  |zero=>exact .fz (.rows none ⟨0,0,none⟩ 0 0 z [] (fun _ _=>undef) rfl (Qbw _) (.inl rfl) (by simp) (by simp) (by simp))
  |succ m=>exact .sl none ⟨0,0,none⟩ 0 0 z [] (fun _ _=>undef) rfl (Qbw _) (.inr ⟨rfl,rfl⟩) (by simp) (fun e=>by cases e) (by simp) (by simp)
def fzF (rs:List Nat)(s:Nat)(p:List Nat):Ow:=if s∈rs then .frz else .slc s p
theorem R.freeze (h:R E.ntmps F σ ρ a w G){rs:List Nat}{fr:List (Nat×aU)}(hfr:(eY rs).eval σ=some fr) :
  ∃ G',R E.ntmps F (upds σ fr) ρ a w G'/\(∀ b,G'.own b=oV (fzF rs) (G.own b))/\G'.hdr=G.hdr/\G'.bx=G.bx:=by
 obtain⟨h1,h2⟩:=iJ hfr
 let G':Gh:={ own:=fun b=>oV (fzF rs) (G.own b),hdr:=G.hdr,bx:=G.bx }
 have hslc:∀ b r p,G.own b=.slc r p->r∈rs->∃ c,(kR r,c)∈fr:=by
  intro b r p hb hr
  rcases h1 r hr with ⟨x,m,ver,-,h4⟩|⟨x,m,ver,h4⟩
  ·exact⟨_,h4⟩
  ·exact absurd hb ((h.root h4).2 b p)
 have hval:∀ r c,(kR r,c)∈fr->∃ x m ver,c=.root x m ver .frozen/\σ (kR r)=some (.root x m ver .live)/\r∈rs:=by
  intro r c hc
  obtain⟨s,hs,x,m,ver,e,e',h3⟩:=h2 _ _ hc
  obtain rfl:=gD e
  exact⟨x,m,ver,e',h3,hs⟩
 have hfrz:∀ r x m ver,σ (kR r)=some (.root x m ver .live)->r∈rs->Rd (fun b=>G'.own b=.frz) w (G.hdr r) (x.val ρ):=by
  intro r x m ver hk hr
  have h3:=h.root hk
  simp only[dJ]at h3
  refine h3.rd.mono fun b hb=>⟨?_,rfl⟩
  show oV _ _=_
  rcases hb with hb|⟨q,hb⟩
  ·rw[hb];rfl
  ·rw[hb];simp only[oV,fzF];rw[if_pos hr]
 refine⟨G',h.roots (f:=fzF rs) ?_ (fun b=>rfl) ?_ ?_ ?_ (fun _ _=>rfl) rfl ?_,fun b=>rfl,rfl,rfl⟩
 ·intro k c hc
  obtain⟨s,-,x,m,ver,e,-⟩:=h2 _ _ hc
  exact⟨s,e⟩
 ·intro b r p hb hn
  unfold fzF
  rw[if_neg]
  intro hr
  obtain⟨c,hc⟩:=hslc b r p hb hr
  exact hn c hc
 ·intro r c hc _
  obtain⟨x,m,ver,rfl,h3,h4⟩:=hval r c hc
  refine .inr (.inr (.inr ⟨x,m,ver,h3,rfl,fun b p hb=>⟨?_,rfl⟩⟩))
  show oV _ _=_
  rw[hb]
  simp only[oV,fzF]
  rw[if_pos h4]
 ·intro r x m k hk s p q hf
  unfold fzF at hf
  split at hf
  ·cases hf
  ·injection hf with f1 f2
   exact⟨f1,f2⟩
 ·intro r c hc _
  obtain⟨x,m,ver,rfl,h3,h4⟩:=hval r c hc
  refine⟨_,_,_,_,rfl,hfrz r x m ver h3 h4,fun b p hb=>?_⟩
  have hb:oV (fzF rs) (G.own b)=.slc r p:=hb
  cases e:G.own b with
  | slc s q =>
   rw[e]at hb
   simp only[oV,fzF]at hb
   split at hb
   ·cases hb
   ·rename_i hs
    injection hb with f1 f2
    rw[f1]at hs
    exact hs h4
  |_=>rw[e]at hb;simp[oV]at hb
theorem zY {rs:List Nat}{deps:List (Nat×Nat)}(hown:∀ b,G'.own b=oV (fzF rs) (G.own b))(hd:∀ z∈deps,z.1∈rs){b:Nat}(hb:allow G deps b):allow G' [] b:=by
 refine .inl ?_
 rw[hown]
 rcases hb with hb|⟨r,k,p,hm,hb⟩
 ·rw[hb];rfl
 ·rw[hb]
  simp only[oV,fzF]
  rw[if_pos (hd _ hm)]
theorem Iaq {s:St}{rs:List Nat}{fr:List (Nat×aU)}(hfr:(eY rs).eval s.get=some fr):∀ k c,(k,c)∈fr->Cad s.nt s.nb s.nr k=true:=by
 intro k c hc
 obtain⟨r,-,x,m,ver,rfl,-,h3⟩:=(iJ hfr).2 k c hc
 exact Dal h3
end
end Go.Proofs.YtdpfilpckndhcaaGreatDoor.Rf

namespace Go.Proofs.YtdpfilpckndhcaaGreatDoor.Rf
set_option linter.unusedVariables false
set_option linter.unusedSimpArgs false
structure RI (nr len i:Nat) (s:St):Prop where
 nr_:s.nr=nr+len
 free:∀ j,i<=j->j<len->s.get (kR (nr+j))=none
section
variable {E:Env} {F:bU} {ρ:List D} {a:Act} {w:World} {G:Gh} {cf:Nat->List D->Option (List D)} {nr len i:Nat} {s s':St}
theorem RI.succ (h:RI nr len i s):RI nr len (i+1) s:=⟨h.nr_,fun j h1 h2=>h.free j (by omega) h2⟩
theorem RI.keeps (h:RI nr len i s)(hk:Fbe s s'):RI nr len i s':=⟨hk.nr.trans h.nr_,fun j h1 h2=>by rw[hk.root];exact h.free j h1 h2⟩
theorem RI.puts (h:RI nr len i s){u:List (Nat×aU)}{i':Nat}(hi:i<=i')(hg:(s.puts u).get=upds s.get u)(hu:∀ j,i'<=j->j<len->∀ c,(kR (nr+j),c)∉u):RI nr len i' (s.puts u) :=
 ⟨(jK u s).2.2.1.trans h.nr_,fun j h1 h2=>by rw[hg,fV _ _ _ (hu j h1 h2)];exact h.free j (by omega) h2⟩
theorem Ca5 {u:List (Nat×aU)}{G':Gh}(hg:(s.puts u).get=upds s.get u)(hR':R E.ntmps F (upds s.get u) ρ a w G')(hbx:G'.bx=G.bx){k j:Nat}{c0:aU}(hk:s.get k=some c0)
  {v:Value} (hv:ValAt E.ntmps F.gh a w G.bx c0 k j v) (hu:∀ c,(k,c)∉u) {l:aW} (hl:aB (upds s.get u) ρ G' w l v) :
  R E.ntmps F (putAt k j l (s.puts u)).get ρ a w G'/\Fbe (s.puts u) (putAt k j l (s.puts u))/\(putAt k j l (s.puts u)).nv=s.nv:=by
 rw[<- hg]at hR' hl
 have hk':(s.puts u).get k=some c0:=by rw[hg,fV _ _ _ hu];exact hk
 obtain⟨h1,h2,h3⟩:=hR'.putAt hk' (by rw[hbx];exact hv) hl
 exact⟨h1,h2,h3.trans (jK u s).1⟩
theorem Aad {n:Nat}{gh:Nat->Value}{bx:Nat->Addr}{c0:aU}{k j:Nat}{v:Value}(h:ValAt n gh a w bx c0 k j v):∀ r,k≠kR r:=by
 intro r
 cases h with
 |one=>exact jE
 |agg=>exact jE
 |box=>exact gV
theorem yO (hR:R E.ntmps F s.get ρ a w G)(hI:RI nr len i s){rs:List Nat}{fr:List (Nat×aU)}(hfr:(eY rs).eval s.get=some fr){k j:Nat}{c0:aU}(hk:s.get k=some c0)
  {v:Value} (hv:ValAt E.ntmps F.gh a w G.bx c0 k j v) {l:aW} (hl:∀ G' σ',(∀ b,G'.own b=oV (fzF rs) (G.own b))->aB σ' ρ G' w l v) :
  (∃ G',R E.ntmps F (putAt k j l (s.puts fr)).get ρ a w G')/\RI nr len (i+1) (putAt k j l (s.puts fr))/\(putAt k j l (s.puts fr)).nt=s.nt/\(putAt k j l (s.puts fr)).nv=s.nv:=by
 obtain⟨G',hR',h1,h2,h3⟩:=hR.freeze hfr
 have hg:(s.puts fr).get=upds s.get fr:=Aam (Iaq hfr)
 have hfk:=(iJ hfr).2
 obtain⟨h4,h5,h6⟩:=Ca5 hg hR' h3 hk hv (fun c hc=>by
  obtain⟨r,-,x,m,ver,e,-⟩:=hfk _ _ hc
  exact Aad hv r e) (hl G' _ h1)
 refine⟨⟨G',h4⟩,RI.keeps (hI.succ.puts (Qbw _) hg fun q hq1 hq2 c hc=>?_) h5,h5.nt.trans (jK fr s).2.2.2,h6⟩
 obtain⟨r,-,x,m,ver,e,-,h7⟩:=hfk _ _ hc
 rw[<- e,hI.free q (by omega) hq2]at h7
 cases h7
theorem Pan {p:Pos}{ls:List Step}{x:aM}(h:Ma4 E p nr i s=some (ls,s',x))(hI:RI nr len i s)(hi:i<len)(hR:R E.ntmps F s.get ρ a w G)(hst:aQ cf ρ none s.nv ls) :
  (∃ G',R E.ntmps F s'.get ρ a w G')/\RI nr len (i+1) s'/\s'.nt=s.nt/\s'.nv=s.nv+bT ls:=by
 have hfree:=hI.free i (Qbw _) hi
 have hkN:Cad s.nt s.nb s.nr (kR (nr+i))=true:=Pa4 (by rw[hI.nr_];omega)
 unfold Ma4 at h
 dsimp only at h
 split at h
 ·
  simp only[Option.some.injEq,Prod.mk.injEq]at h
  obtain⟨rfl,rfl,rfl⟩:=h
  exact⟨⟨G,hR⟩,hI.succ,rfl,rfl⟩
 ·
  rename_i al r hf hl
  split at h
  ·rename_i x0 m0 v0 r' hk
   cases hb:Nat.beq r' (nr+al) with
   |false=>rw[hb]at h;simp[kX]at h
   | true =>
    rw[hb,cond_true]at h
    simp only[Option.some.injEq,Prod.mk.injEq]at h
    obtain⟨rfl,rfl,rfl⟩:=h
    simp only[Rbv]at hb
    obtain⟨v,c,hkc,hva,hlv⟩:=hR.valAt (jX hl (by simp))
    simp only[aB]at hlv
    have hrr:=hR.root hk
    simp only[dJ]at hrr
    obtain⟨h1,h2,h3⟩:=hR.putAt hkc hva (l:=.ex (nr+al)) (by
     simp only[aB]
     rw[<- hb]
     exact⟨hlv.1.trans hrr.1,hrr.2,hlv.2.2⟩)
    exact⟨⟨G,h1⟩,(hI.keeps h2).succ,h2.nt,h3⟩
  ·simp[kX]at h
 ·
  simp only[Option.some.injEq,Prod.mk.injEq]at h
  obtain⟨rfl,rfl,rfl⟩:=h
  exact⟨⟨G,hR⟩,hI.succ,rfl,rfl⟩
 ·
  rename_i m r hf hl
  split at h
  ·rename_i x0 m' v0 hk
   cases hb:Nat.ble m m' with
   |false=>rw[hb]at h;simp[kX]at h
   | true =>
    rw[hb,cond_true]at h
    simp only[Option.some.injEq,Prod.mk.injEq]at h
    obtain⟨rfl,rfl,rfl⟩:=h
    simp only[Rb8]at hb
    obtain⟨v,c,hkc,hva,hlv⟩:=hR.valAt (jX hl (by simp))
    simp only[aB]at hlv
    have hrr:=hR.root hk
    simp only[dJ]at hrr
    obtain⟨G',hR',h1,h2⟩:=hR.moveRoot hk hfree hb hrr (.inr ⟨rfl,rfl⟩)
    have hg:=Aam (s:=s) (u:=[(kR r,.root (.c .hole) 0 0 (.fwd (nr+i))),(kR (nr+i),.root x0 m 0 .live)]) (fun k c hc=>by
     simp only[Rbk,Prod.mk.injEq,Rbs,or_false]at hc
     rcases hc with ⟨e,-⟩|⟨e,-⟩<;>rw[e]
     ·exact Dal hk
     ·exact hkN)
    obtain⟨h3,h4,h5⟩:=Ca5 (j:=p.j) hg hR' h2 hkc hva (fun c hc=>by
     simp only[Rbk,Prod.mk.injEq,Rbs,or_false]at hc
     rcases hc with ⟨e,-⟩|⟨e,-⟩<;>exact Aad hva _ e) (l:=.ex (nr+i)) (by
     simp only[aB]
     exact⟨by rw[h1];exact hlv.1,fI _ _ _ (.inr ⟨.root x0 m 0 .live,by simp⟩),hlv.2.2⟩)
    refine⟨⟨G',h3⟩,RI.keeps (hI.puts (Tbp i) hg fun q hq1 hq2 c hc=>?_) h4,h4.nt.trans (jK _ s).2.2.2,h5⟩
    simp only[Rbk,Prod.mk.injEq,Rbs,or_false]at hc
    rcases hc with ⟨e,-⟩|⟨e,-⟩
    ·rw[<- e,hI.free q (by omega) hq2]at hk;cases hk
    ·have:=gD e;omega
  ·simp[kX]at h
 ·
  rename_i m nie z hf hl
  simp only[Option.some.injEq,Prod.mk.injEq]at h
  obtain⟨rfl,rfl,rfl⟩:=h
  obtain⟨v,c,hkc,hva,hlv⟩:=hR.valAt (jX hl (by simp))
  simp only[aB]at hlv
  have hv0:v=.slice none 0 0:=(hlv.2 (by simp)).2.1 trivial z rfl
  obtain⟨G',hR',h1,h2⟩:=hR.nilRoot (m:=m) (z:=z) hfree
  have hg:=Aam (s:=s) (u:=[(kR (nr+i),.root (.c (.rows z [])) m 0 .live)]) (fun k c hc=>by
   simp only[Rbk,Prod.mk.injEq,Rbs,or_false]at hc
   rw[hc.1];exact hkN)
  obtain⟨h3,h4,h5⟩:=Ca5 (j:=p.j) hg hR' h2 hkc hva (fun c hc=>by
   simp only[Rbk,Prod.mk.injEq,Rbs,or_false]at hc
   exact Aad hva _ hc.1) (l:=.ex (nr+i)) (by
   simp only[aB]
   exact⟨by rw[h1];exact hv0,fI _ _ _ (.inr ⟨.root (.c (.rows z [])) m 0 .live,by simp⟩),hlv.1.1⟩)
  refine⟨⟨G',h3⟩,RI.keeps (hI.puts (Tbp i) hg fun q hq1 hq2 c hc=>?_) h4,h4.nt.trans (jK _ s).2.2.2,h5⟩
  simp only[Rbk,Prod.mk.injEq,Rbs,or_false]at hc
  have:=gD hc.1;omega
 ·
  rename_i m r k nie x0 hf hl
  split at h
  ·rename_i x1 m' v0 hk
   cases hb:(Nat.ble m m'&&Nat.beq v0 k) with
   |false=>rw[hb]at h;simp[kX]at h
   | true =>
    rw[hb,cond_true]at h
    simp only[Option.some.injEq,Prod.mk.injEq]at h
    obtain⟨rfl,rfl,rfl⟩:=h
    simp only[Qbq,Rb8,Rbv]at hb
    obtain⟨hb,rfl⟩:=hb
    obtain⟨v,c,hkc,hva,hlv⟩:=hR.valAt (jX hl (by simp))
    simp only[aB]at hlv
    obtain⟨-,-,h0⟩:=hlv.2 fun z hz=>by
     simp only[Qb6]at hz
     subst hz
     exact⟨x1,m',.live,hk,.inl rfl⟩
    have hrp:=h0 r v0 m' rfl ⟨x1,hk⟩
    obtain⟨G',hR',h1,h2⟩:=hR.moveRoot hk hfree hb hrp (.inl rfl)
    have hg:=Aam (s:=s) (u:=[(kR r,.root (.c .hole) 0 0 .gone),(kR (nr+i),.root x0 m 0 .live)]) (fun k c hc=>by
     simp only[Rbk,Prod.mk.injEq,Rbs,or_false]at hc
     rcases hc with ⟨e,-⟩|⟨e,-⟩<;>rw[e]
     ·exact Dal hk
     ·exact hkN)
    obtain⟨h3,h4,h5⟩:=Ca5 (j:=p.j) hg hR' h2 hkc hva (fun c hc=>by
     simp only[Rbk,Prod.mk.injEq,Rbs,or_false]at hc
     rcases hc with ⟨e,-⟩|⟨e,-⟩<;>exact Aad hva _ e) (l:=.ex (nr+i)) (by
     simp only[aB]
     exact⟨h1.symm,fI _ _ _ (.inr ⟨.root x0 m 0 .live,by simp⟩),hlv.1.1⟩)
    refine⟨⟨G',h3⟩,RI.keeps (hI.puts (Tbp i) hg fun q hq1 hq2 c hc=>?_) h4,h4.nt.trans (jK _ s).2.2.2,h5⟩
    simp only[Rbk,Prod.mk.injEq,Rbs,or_false]at hc
    rcases hc with ⟨e,-⟩|⟨e,-⟩
    ·rw[<- e,hI.free q (by omega) hq2]at hk;cases hk
    ·have:=gD e;omega
  ·simp[kX]at h
 ·
  rename_i hf
  split at h
  ·rename_i x0 fr hrd
   simp only[Option.some.injEq,Prod.mk.injEq]at h
   obtain⟨rfl,rfl,rfl⟩:=h
   simp only[aA,Qbp,aC,Option.some.injEq,Prod.mk.injEq]at hrd
   obtain⟨sl,h1,fr',h2,rfl,rfl⟩:=hrd
   obtain⟨v,c,hkc,hva,hlv⟩:=hR.valAt (jX (k:=p.k) (j:=p.j) rfl (by intro e;rw[e]at h1;cases h1))
   have hs:=fF hR h1 hlv
   have hone:v.oneCell'=true:=hlv.one (by cases hl':zG p.k p.j s<;>first|rfl|(rw[hl']at h1;cases h1))
   refine yO hR hI h2 hkc hva fun G' σ' hown=>?_
   simp only[aB]
   exact⟨⟨hone,by simp⟩,fun _=>⟨hs.rd.mono fun b hb=>⟨zY hown (fun z hz=>Sbl hz) hb,rfl⟩,fun e=>absurd e (by decide),trivial⟩⟩
  ·simp[kX]at h
 ·
  rename_i z hf hl
  simp only[Option.some.injEq,Prod.mk.injEq]at h
  obtain⟨rfl,rfl,rfl⟩:=h
  obtain⟨v,c,hkc,hva,hlv⟩:=hR.valAt (jX hl (by simp))
  simp only[aB]at hlv
  obtain⟨h1,h2,h3⟩:=hR.putAt hkc hva (l:=.rp [] z (.c (.rows z []))) (by
   simp only[aB]
   exact⟨⟨by rw[hlv];rfl,by simp⟩,fun _=>.inl ⟨hlv,z,rfl⟩⟩)
  exact⟨⟨G,h1⟩,(hI.keeps h2).succ,h2.nt,h3⟩
 ·
  rename_i z deps z' x0 hf hl
  split at h
  ·rename_i fr hrd
   simp only[Option.some.injEq,Prod.mk.injEq]at h
   obtain⟨rfl,rfl,rfl⟩:=h
   simp only[aA,Qbp]at hrd
   obtain⟨ds,h1,h2⟩:=hrd
   obtain⟨v,c,hkc,hva,hlv⟩:=hR.valAt (jX hl (by simp))
   simp only[aB]at hlv
   obtain⟨h3,h4,h5⟩:=jL h1
   refine yO hR hI h2 hkc hva fun G' σ' hown=>?_
   simp only[aB]
   refine⟨⟨hlv.1.1,by simp⟩,fun _=>?_⟩
   rcases hlv.2 h3 with h6|⟨ad,row,h6,h7,h8⟩
   ·exact .inl h6
   ·exact .inr ⟨ad,row,h6,h7,(h8.drop hR h5).mono fun b hb=>⟨zY hown (fun z hz=>Sbl hz) hb,rfl⟩⟩
  ·simp[kX]at h
 ·
  rename_i z l z' ix hf hl
  split at h
  ·rename_i x0 fr hrd
   simp only[Option.some.injEq,Prod.mk.injEq]at h
   obtain⟨rfl,rfl,rfl⟩:=h
   simp only[aA,Qbp,aC,Option.some.injEq,Prod.mk.injEq]at hrd
   obtain⟨sl,h1,fr',h2,rfl,rfl⟩:=hrd
   obtain⟨v,c,hkc,hva,hlv⟩:=hR.valAt (jX hl (by simp))
   simp only[aB]at hlv
   obtain⟨ad,n,cp,ik,iv,h3,h4,h5,h6,h7⟩:=hlv
   have hs:=fF hR h1 h3
   obtain⟨d,hrun,hd⟩:=iB hst rfl
   simp only[List.map_cons,List.map_nil,h4]at hrun
   have hrow:∃ sz rs r,sl.x.val ρ=.rows sz rs/\sz=z'/\rs[iv.toNat]?=some r/\d=.rows z' [r]:=by
    cases hx:sl.x.val ρ with
    | rows sz rs =>
     rw[hx]at hrun
     simp only[aO.run]at hrun
     split at hrun
     ·rename_i hc
      split at hrun
      ·rename_i r hr
       simp only[Option.some.injEq,List.cons.injEq,and_true]at hrun
       exact⟨sz,rs,r,rfl,hc.1,hr,hrun.symm⟩
      ·cases hrun
     ·cases hrun
    |_=>rw[hx]at hrun;simp[aO.run]at hrun
   obtain⟨sz,rs,r,hx,rfl,hr,rfl⟩:=hrow
   have hrd:=hs.rd
   rw[hx]at hrd
   obtain⟨A',b,n',c',vs,e1,e2,e3,e4,e5,e6,e7⟩:=hrd.inv
   injection e1 with e1 e1' e1''
   have hlt:iv.toNat<rs.length:=(List.getElem?_eq_some_iff.1 hr).1
   have hA:some ad=some b:=by rw[e1];exact e4.resolve_left (by omega)
   obtain rfl:=Option.some.inj hA
   have hrl:r.length=sz:=e5 r (List.mem_of_getElem? hr)
   obtain⟨q1,q2,q3,q4⟩:=yO hR hI h2 hkc hva (l:=.rp [] z (.v s.nv)) fun G' σ' hown=>by
    simp only[aB]
    refine⟨⟨by rw[h7];rfl,by simp⟩,fun _=>.inr ⟨_,r,h7,by rw[hd,hrl],?_⟩⟩
    have hab:∀ {b:Nat},allow G sl.deps b->allow G' [] b:=fun hb=>zY hown (fun z hz=>Sbl hz) hb
    refine .rows _ (ad.add (iv.toNat*sz+0)) 1 1 r.length [r] (fun _ j=>vs iv.toNat j) rfl (Qbw _) (.inr rfl) (by simp) (fun i0 r0 hi0 j d0 hj=>?_) (fun i0 r0 hi0 j d0 hj=>?_)
    ·cases i0 with
     | zero =>
      simp only[Qb4,Option.some.injEq]at hi0
      subst hi0
      obtain⟨k1,k2⟩:=e6 _ _ hr j d0 hj
      refine⟨by rw[add_block];exact hab k1,?_⟩
      rw[add_add]
      rw[show iv.toNat*sz+0+(0*r.length+j)=iv.toNat*sz+j by omega]
      exact k2
     |succ i0=>simp at hi0
    ·cases i0 with
     | zero =>
      simp only[Qb4,Option.some.injEq]at hi0
      subst hi0
      exact (e7 _ _ hr j d0 hj).mono fun b hb=>⟨hab hb,rfl⟩
     |succ i0=>simp at hi0
   exact⟨q1,⟨q2.nr_,q2.free⟩,q3,rfl⟩
  ·simp[kX]at h
 ·simp only[Option.some.injEq,Prod.mk.injEq]at h
  obtain⟨rfl,rfl,rfl⟩:=h
  exact⟨⟨G,hR⟩,hI.succ,rfl,rfl⟩
 ·simp only[Option.some.injEq,Prod.mk.injEq]at h
  obtain⟨rfl,rfl,rfl⟩:=h
  exact⟨⟨G,hR⟩,hI.succ,rfl,rfl⟩
 ·simp[kX]at h
theorem yP:∀ {ps:List Pos} {i:Nat} {s s':St} {ls:List Step} {xs:List aM} {G:Gh},kN E nr ps i s=some (ls,s',xs)->RI nr len i s->i+ps.length=len->R E.ntmps F s.get ρ a w G->aQ cf ρ none s.nv ls ->
  (∃ G',R E.ntmps F s'.get ρ a w G')/\s'.nt=s.nt/\s'.nr=s.nr/\s'.nv=s.nv+bT ls
 | [], i, s, s', ls, xs, G, h, hI, hl, hR, hst => by
  simp only[kN,Option.some.injEq,Prod.mk.injEq]at h
  obtain⟨rfl,rfl,rfl⟩:=h
  exact⟨⟨G,hR⟩,rfl,rfl,rfl⟩
 | p :: ps, i, s, s', ls, xs, G, h, hI, hl, hR, hst => by
  simp only[kN,bind,Qbp]at h
  obtain⟨⟨l1,s1,x1⟩,h1,⟨l2,s2,xs2⟩,h2,h3⟩:=h
  simp only[Option.some.injEq,Prod.mk.injEq]at h3
  obtain⟨rfl,rfl,rfl⟩:=h3
  simp only[Qbt]at hl
  obtain⟨hs1,hs2⟩:=aQ.append hst
  obtain⟨⟨G1,hR1⟩,hI1,h4,h5⟩:=Pan h1 hI (by omega) hR hs1
  rw[<- h5]at hs2
  obtain⟨h6,h7,h8,h9⟩:=yP h2 hI1 (by omega) hR1 hs2
  refine⟨h6,h7.trans h4,h8.trans (hI1.nr_.trans hI.nr_.symm),?_⟩
  rw[h9,h5,gJ,Nat.add_assoc]
theorem tN:∀ {ps:List Pos} {i:Nat} {s s':St} {ls:List Step} {xs:List aM},kN E nr ps i s=some (ls,s',xs)->xs.length=ps.length
 | [], i, s, s', ls, xs, h => by
  simp only[kN,Option.some.injEq,Prod.mk.injEq]at h
  obtain⟨rfl,rfl,rfl⟩:=h
  rfl
 | p :: ps, i, s, s', ls, xs, h => by
  simp only[kN,bind,Qbp]at h
  obtain⟨⟨l1,s1,x1⟩,h1,⟨l2,s2,xs2⟩,h2,h3⟩:=h
  simp only[Option.some.injEq,Prod.mk.injEq]at h3
  obtain⟨rfl,rfl,rfl⟩:=h3
  simp[tN h2]
theorem oM {τ:St}:∀ {rs:List Nat} {s s':St} {G:Gh},iU τ rs s=some s'->R E.ntmps F s.get ρ a w G->∃ G',R E.ntmps F s'.get ρ a w G'
 | [], s, s', G, h, hR => by
  simp only[iU,Option.some.injEq]at h
  subst h
  exact⟨G,hR⟩
 | r :: rs, s, s', G, h, hR => by
  simp only[iU]at h
  split at h
  ·rename_i x m v _ hk
   have hfr:(eY [r]).eval s.get=some [(kR r,.root x m v .frozen)]:=by
    simp only[eY,aA,aV,Qb3]
    rw[hk];rfl
   obtain⟨G',hR',-,-,-⟩:=hR.freeze hfr
   have hg:(s.puts [(kR r,.root x m v .frozen)]).get=upds s.get [(kR r,.root x m v .frozen)]:=Aam (Iaq hfr)
   rw[<- hg]at hR'
   exact oM h hR'
  ·exact oM h hR
theorem Iap {s:St}(h:qE s.tr s.nr len=true):RI s.nr len 0 { s with nr:=s.nr+len }:=by
 refine⟨rfl,fun j _ hj=>?_⟩
 unfold St.get
 dsimp only
 rw[Aav h (s.nr+j) (by omega) (by omega)]
 cases Cad s.nt s.nb (s.nr+len) (kR (s.nr+j))<;>rfl
theorem Ua9 {s:St}(h:qE s.tr s.nr len=true):({ s with nr:=s.nr+len }:St).get=s.get:=by
 funext k
 unfold St.get
 dsimp only
 unfold Cad
 cases b0:Nat.beq (k % 3) 0 with
 |true=>rfl
 | false =>
  rw[cond_false,cond_false]
  cases b1:Nat.beq (k % 3) 1 with
  |true=>rfl
  | false =>
   rw[cond_false,cond_false]
   have n0:k % 3≠0:=fun e=>by rw[e]at b0;cases b0
   have n1:k % 3≠1:=fun e=>by rw[e]at b1;cases b1
   cases hb:Sbj (k / 3) s.nr with
   | true =>
    have:Sbj (k / 3) (s.nr+len)=true:=by simp only[Rb6]at hb ⊢;omega
    rw[this]
   | false =>
    cases hb':Sbj (k / 3) (s.nr+len) with
    |false=>rfl
    | true =>
     simp only[Rb6]at hb'
     have hge:s.nr<=k / 3:=by
      rcases Rbj (k / 3) s.nr with h1|h1
      ·rw[<- Rb6,hb]at h1;cases h1
      ·exact h1
     have:k=kR (k / 3):=by unfold kR;omega
     rw[cond_true,cond_false,this]
     exact Aav h _ hge hb'
theorem Laf {s0:St}{nrT:Nat}{plan:List Pos}{τ:St}{kind:Kind}{r:Tm St}(h:coerce E s0.nv s0.nr nrT plan τ kind s=some r)(hτ:Eac E s0 nrT plan.length τ){ρ0 e:List D}(hρ:ρ=ρ0++e)(h0:ρ0.length=s0.nv)
  {o:Out St} (ho:Ec cf r ρ=some o) (hl:ρ.length=s.nv) (hi:Jam E s) :
  o.kind=kind/\o.vals.length=plan.length/\∀ a w G,R E.ntmps F s.get ρ a w G->∃ G',R E.ntmps F τ.get (ρ0++o.vals) a w G':=by
 unfold coerce at h
 simp only[bind,Qbp]at h
 obtain⟨⟨ls,s1,xs⟩,h1,s2,h2,h3⟩:=h
 dsimp only at h1 h2 h3
 generalize hb:(qA E s0.nv xs s0.nr nrT s.nr plan.length τ s2&&qE s.tr s.nr plan.length&&Nat.ble s0.nr s.nr&&fP s.nv ls&&xs.all (bG (s.nv+bT ls)))=b at h3
 cases b with
 |false=>simp[kX]at h3
 | true =>
  rw[cond_true]at h3
  obtain rfl:=Option.some.inj h3
  simp only[Qbq,Rb8]at hb
  obtain⟨⟨⟨⟨hb1,hb2⟩,hb3⟩,hb4⟩,hb5⟩:=hb
  obtain⟨ds,h4,h5,h6⟩:=yF (g:=none) rfl (by rw[hl];exact hb4) ho
  rw[gY]at h5
  obtain rfl:=Option.some.inj h5
  refine⟨rfl,by simp[Out.vals,tN h1],fun a w G hR=>?_⟩
  have h6':=h6 []
  rw[Rbm,hl]at h6'
  have hR1:R E.ntmps F ({ s with nr:=s.nr+plan.length }:St).get (ρ++ds) a w G:=by
   rw[Ua9 hb2];exact hR.ext hi.sc (by omega) ds
  obtain⟨⟨G1,hR2⟩,h7,h8,h9⟩:=yP (cf:=cf) h1 (Iap hb2) (by simp) hR1 h6'
  obtain⟨G2,hR3⟩:=oM h2 hR2
  subst hρ
  rw[Qb1]at hR3
  have:=hR3.fit h0 (tN h1) hτ hb1 hb3
  rw[Qb1]
  exact this
end
end Go.Proofs.YtdpfilpckndhcaaGreatDoor.Rf

namespace Go.Proofs.YtdpfilpckndhcaaGreatDoor.Rf
set_option linter.unusedVariables false
set_option linter.unusedSimpArgs false
def Abs:Kind->Exit
 |.fall=>.normal
 |.exit id=>.exit id
 |.ret=>.ret
 |_=>.outgrown
def Ob2:Kind->Prop
 |.cont=>False
 |.yield _=>False
 |_=>True
structure Post (E:Env) (ρ:List D) (o:Out St):Prop where
 nice:Ob2 o.kind
 len:o.env.length=o.ext.nv
 inv:Jam E o.ext
 pre:∃ ds,o.env=ρ++ds
def Wp (P:Program)(E:Env)(F:bU)(c:Code)(s:St)(ρ:List D)(o:Out St):Prop :=
 ∀ a w G Q,R E.ntmps F s.get ρ a w G->(∀ a' w' G',R E.ntmps F o.ext.get o.env a' w' G'->Q (Abs o.kind) a' w')->c.wp P Q a w
theorem Post.trans {E:Env}{ρ ds:List D}{o:Out St}(h:Post E (ρ++ds) o):Post E ρ o:=by
 obtain⟨es,h1⟩:=h.pre
 exact⟨h.nice,h.len,h.inv,ds++es,by rw[h1,Qb1]⟩
theorem Lao {k:Kind}:sO k=true↔k=.fall:=by cases k<;>simp[sO]
section
variable {P:Program} {E:Env} {F:bU} {cf:Nat->List D->Option (List D)} {ρ:List D}
theorem nY {g:Option (aM×Bool)}{kind:Kind}{xs:List aM}{s:St}:∀ {ls:List Step} {ρ:List D} {o:Out St},Ec cf (rF g (.leaf kind xs s) ls) ρ=some o->o.kind=kind
 | [], ρ, o, h => by
  rw[rF,gY]at h
  obtain rfl:=Option.some.inj h
  rfl
 | .prim p ys n :: r, ρ, o, h => by
  rw[rF,Oaf]at h
  split at h
  ·simp only[Qbp]at h
   obtain⟨ds,-,h⟩:=h
   split at h
   ·exact nY h
   ·cases h
  ·exact nY h
 | .call f ys n olds :: r, ρ, o, h => by
  rw[rF,xN]at h
  split at h
  ·simp only[Qbp]at h
   obtain⟨ds,-,h⟩:=h
   split at h
   ·exact nY h
   ·cases h
  ·exact nY h
theorem Ia8 {n nr0 nrT:Nat}{plan:List Pos}{τ s:St}{kind:Kind}{r:Tm St}(h:coerce E n nr0 nrT plan τ kind s=some r){ρ:List D}{o:Out St}(ho:Ec cf r ρ=some o):o.kind=kind:=by
 unfold coerce at h
 simp only[bind,Qbp]at h
 obtain⟨⟨ls,s1,xs⟩,h1,s2,h2,h3⟩:=h
 dsimp only at h3
 revert h3
 generalize (qA E n xs nr0 nrT s.nr plan.length τ s2&&qE s.tr s.nr plan.length&&Nat.ble nr0 s.nr&&fP s.nv ls&&xs.all (bG (s.nv+bT ls)))=b
 intro h3
 cases b with
 |false=>simp[kX]at h3
 | true =>
  rw[cond_true]at h3
  obtain rfl:=Option.some.inj h3
  exact nY ho
theorem Ebe {live:Nat}{s0:St}{i:Nat}{sel:Kind->Bool}{ends:List St}{t t':Tm St}{τ:St}(h:join E live s0 i sel ends t=some (t',τ)) :
  ∃ plan nr',Eac E s0 nr' plan.length τ/\t.turn (.yield i) sel (coerce E s0.nv s0.nr nr' plan τ (.yield i))=some t':=by
 unfold join at h
 dsimp only at h
 revert h
 generalize hb:Fap E s0 _ _ _=b
 intro h
 cases b with
 |false=>simp[kX]at h
 | true =>
  rw[cond_true,Option.map_eq_some_iff]at h
  obtain⟨t1,h1,h2⟩:=h
  obtain⟨rfl,rfl⟩:=Prod.mk.inj h2
  exact⟨_,_,Ban hb,h1⟩
theorem Za2 {live:Nat}{s0:St}{i:Nat}{sel:Kind->Bool}{ends:List St}{t t' k:Tm St}{τ:St}(h:join E live s0 i sel ends t=some (t',τ))(hc:sel .cont=false)(hy:∀ i,sel (.yield i)=false)
  {o:Out St} (ho:Ec cf (.bind i t' k) ρ=some o) (hl:ρ.length=s0.nv) (hP:∀ o1,Ec cf t ρ=some o1->Post E ρ o1) :
  ∃ o1,Ec cf t ρ=some o1/\((sel o1.kind=true/\∃ vals,Ec cf k (ρ++vals)=some o/\(ρ++vals).length=τ.nv/\Jam E τ/\∀ a w G,R E.ntmps F o1.ext.get o1.env a w G->∃ G',R E.ntmps F τ.get (ρ++vals) a w G')\/(sel o1.kind=false/\o=o1)):=by
 obtain⟨plan,nr',hτ,ht⟩:=Ebe h
 simp only[uT,Qbp]at ho
 obtain⟨o',h1,h2⟩:=ho
 obtain⟨o1,h3,h4⟩:=mV (fun s r hr ρ o ho=>Ia8 hr ho) hc hy ht h1
 refine⟨o1,h3,?_⟩
 have hp:=hP o1 h3
 rcases h4 with ⟨h5,h6,r,h7,h8⟩|⟨h5,h6⟩
 ·refine .inl ⟨h5,?_⟩
  rw[if_pos h6]at h2
  obtain⟨ds,h9⟩:=hp.pre
  obtain⟨h10,h11,h12⟩:=Laf (F:=F) h7 hτ h9 hl h8 hp.len hp.inv
  exact⟨o'.vals,h2,by rw[Qbs,hl,h11,hτ.nv],⟨hτ.nt1,hτ.inScope⟩,h12⟩
 ·refine .inr ⟨h5,?_⟩
  subst h6
  have:o'.kind≠.yield i:=fun e=>by
   have:=hp.nice
   rw[e]at this
   exact this
  rw[if_neg this]at h2
  exact (Option.some.inj h2).symm
theorem Iae {live:Nat}{s:St}{body:St->Option (Tm St)}:∀ {fuel:Nat} {plan:List Pos} {keys:List Nat} {nr':Nat} {seen:List St} {t:Tm St},Iaf E live s body fuel plan keys nr' seen=some t ->
  ∃ plan nr' τ tb tb' xs s1 s2,body τ=some tb/\Eac E s nr' plan.length τ/\kN E s.nr plan 0 { s with nr:=s.nr+plan.length }=some ([],s1,xs)/\iU τ (range 0 s.nr) s1=some s2 /\
   qA E s.nv xs s.nr nr' s.nr plan.length τ s2=true/\qE s.tr s.nr plan.length=true/\tb.turn .cont sO (coerce E s.nv s.nr nr' plan τ .cont)=some tb'/\t=.loop xs tb'
 |0,_,_,_,_,t,h=>by simp[Iaf,kX]at h
 | fuel + 1, plan, keys, nr', seen, t, h => by
  simp only[Iaf]at h
  split at h
  ·cases h
  ·rename_i tb hb
   revert h
   generalize hc:(Sal plan _&&_&&_)=b
   intro h
   cases b with
   | false =>
    rw[cond_false]at h
    exact Iae h
   | true =>
    rw[cond_true]at h
    simp only[bind,Qbp]at h
    obtain⟨⟨pre,s1,xs⟩,h1,s2,h2,h3⟩:=h
    dsimp only at h1 h2 h3
    revert h3
    generalize hd:(qA E s.nv xs s.nr nr' s.nr plan.length _ s2&&qE s.tr s.nr plan.length&&pre.isEmpty&&Fap E s nr' plan.length _)=b
    intro h3
    cases b with
    |false=>simp[kX]at h3
    | true =>
     rw[cond_true]at h3
     simp only[Qbp,Option.some.injEq]at h3
     obtain⟨tb',h4,h5⟩:=h3
     simp only[Qbq,Tb0]at hd
     obtain⟨⟨⟨hd1,hd2⟩,rfl⟩,hd4⟩:=hd
     exact⟨plan,nr',_,tb,tb',xs,s1,s2,hb,Ban hd4,h1,h2,hd1,hd2,h4,h5.symm⟩
theorem Paz {s:St}{body:St->Option (Tm St)}{H:List (Nat×Nat×Nat×Nat)×List Nat×Nat×List Nat}{t:Tm St}(h:Naf E s body H=some t) :
  ∃ plan nr' τ tb tb' xs s1 s2,body τ=some tb/\Eac E s nr' plan.length τ/\kN E s.nr plan 0 { s with nr:=s.nr+plan.length }=some ([],s1,xs)/\iU τ (range 0 s.nr) s1=some s2 /\
   qA E s.nv xs s.nr nr' s.nr plan.length τ s2=true/\qE s.tr s.nr plan.length=true/\tb.turn .cont sO (coerce E s.nv s.nr nr' plan τ .cont)=some tb'/\t=.loop xs tb':=by
 unfold Naf at h
 revert h
 generalize (H.1.map fun p=>(⟨p.1,p.2.1,Lb8 p.2.2.1 p.2.2.2⟩:Pos))=plan
 generalize s.nr+H.2.2.1=nr'
 intro h
 dsimp only at h
 split at h
 ·cases h
 ·rename_i tb hb
  simp only[bind,Qbp]at h
  obtain⟨⟨pre,s1,xs⟩,h1,s2,h2,h3⟩:=h
  dsimp only at h1 h2 h3
  revert h3
  generalize hd:(qA E s.nv xs s.nr nr' s.nr plan.length _ s2&&qE s.tr s.nr plan.length&&pre.isEmpty&&Fap E s nr' plan.length _)=b
  intro h3
  cases b with
  |false=>simp[kX]at h3
  | true =>
   rw[cond_true]at h3
   simp only[Qbp,Option.some.injEq]at h3
   obtain⟨tb',h4,h5⟩:=h3
   simp only[Qbq,Tb0]at hd
   obtain⟨⟨⟨hd1,hd2⟩,rfl⟩,hd4⟩:=hd
   exact⟨plan,nr',_,tb,tb',xs,s1,s2,hb,Ban hd4,h1,h2,hd1,hd2,h4,h5.symm⟩
theorem least {p:Nat->Prop}(h:∃ n,p n):∃ n,p n/\∀ m,p m->n<=m:=by
 obtain⟨n,hn⟩:=h
 induction n using Tbd with
 | _ n ih =>
  by_cases h:∃ m,m<n/\p m
  ·obtain⟨m,h1,h2⟩:=h
   exact ih m h1 h2
  ·refine⟨n,hn,fun m hm=>?_⟩
   rcases Rbj m n with h1|h1
   ·exact absurd ⟨m,h1,hm⟩ h
   ·exact h1
open Classical in
theorem Oak {c:Code}{Q:Exit->Act->World->Prop}(K:Nat->Act->World->Prop)
  (round:∀ n a w,K n a w->c.wp P (Exit.then (fun a' w'=>∃ m,m<n/\K m a' w') Q) a w) {n:Nat} {a:Act} {w:World} (h0:K n a w):(Code.loop c).wp P Q a w:=by
 refine wp_loop (fun a w=>∃ n,K n a w) (fun a w=>if h:∃ n,K n a w then (least h).choose else 0) ⟨n,h0⟩ fun a w h=>?_
 have h1:=round _ a w (least h).choose_spec.1
 refine wp_mono h1 fun e a' w' hq=>?_
 cases e with
 | normal =>
  obtain⟨m,hm,hK⟩:=hq
  have h':∃ n,K n a' w':=⟨m,hK⟩
  refine⟨h',?_⟩
  rw[dif_pos h',dif_pos h]
  exact Nat.lt_of_le_of_lt ((least h').choose_spec.2 m hK) hm
 |_=>exact hq
theorem Kao {s:St}{body:St->Option (Tm St)}{c:Code}
  (hbody:∀ {τ:St} {t:Tm St} {ρ:List D} {o:Out St},body τ=some t->Ec cf t ρ=some o->ρ.length=τ.nv->Jam E τ->Post E ρ o/\Wp P E F c τ ρ o)
  {t:Tm St} (h:∃ plan nr' τ tb tb' xs s1 s2,body τ=some tb/\Eac E s nr' plan.length τ/\kN E s.nr plan 0 { s with nr:=s.nr+plan.length }=some ([],s1,xs)/\iU τ (range 0 s.nr) s1=some s2 /\
   qA E s.nv xs s.nr nr' s.nr plan.length τ s2=true/\qE s.tr s.nr plan.length=true/\tb.turn .cont sO (coerce E s.nv s.nr nr' plan τ .cont)=some tb'/\t=.loop xs tb') {o:Out St} (ho:Ec cf t ρ=some o) (hl:ρ.length=s.nv) (hi:Jam E s):Post E ρ o/\Wp P E F (.loop c) s ρ o:=by
 obtain⟨plan,nr',τ,tb,tb',xs,s1,s2,h1,hτ,h2,h3,h4,h5,h6,rfl⟩:=h
 have hiτ:Jam E τ:=⟨hτ.nt1,hτ.inScope⟩
 have hxs:=tN h2
 rw[Oag]at ho
 have hturn:∀ vs o',vs.length=plan.length->Ec cf tb' (ρ++vs)=some o'->∃ o1,Ec cf tb (ρ++vs)=some o1/\Post E (ρ++vs) o1/\Wp P E F c τ (ρ++vs) o1 /\
   ((o1.kind=.fall/\o'.kind=.cont/\o'.vals.length=plan.length/\∀ a w G,R E.ntmps F o1.ext.get o1.env a w G->∃ G',R E.ntmps F τ.get (ρ++o'.vals) a w G')\/(o1.kind≠.fall/\o'=o1)):=by
  intro vs o' hvs he
  obtain⟨o1,h7,h8⟩:=mV (fun s r hr ρ o ho=>Ia8 hr ho) rfl (fun _=>rfl) h6 he
  obtain⟨hp,hw⟩:=hbody h1 h7 (by rw[Qbs,hl,hvs,hτ.nv]) hiτ
  refine⟨o1,h7,hp,hw,?_⟩
  rcases h8 with ⟨h9,h10,r,h11,h12⟩|⟨h9,h10⟩
  ·obtain⟨ds,h13⟩:=hp.pre
   obtain⟨h14,h15,h16⟩:=Laf (F:=F) h11 hτ (h13.trans (Qb1 ..)) hl h12 hp.len hp.inv
   exact .inl ⟨Lao.1 h9,h14,h15,h16⟩
  ·exact .inr ⟨(fun e=>by rw[e]at h9;cases h9),h10⟩
 refine⟨?_,fun a w G Q hR hQ=>?_⟩
 ·refine Bbp (C:=fun vs o=>vs.length=plan.length->Post E ρ o) (fun vs o' he hk hvs=>?_) (fun vs o' o2 he hk hC _ hvs=>?_) ho (by simp[hxs])
  ·obtain⟨o1,-,hp,-,h8⟩:=hturn vs o' hvs he
   rcases h8 with ⟨-,h9,-⟩|⟨-,h9⟩
   ·exact absurd h9 hk
   ·rw[h9];exact hp.trans
  ·obtain⟨o1,-,hp,-,h8⟩:=hturn vs o' hvs he
   rcases h8 with ⟨-,-,h9,-⟩|⟨-,h9⟩
   ·exact hC h9
   ·subst h9
    have:=hp.nice
    rw[hk]at this
    exact this.elim
 ·
  have hR1:R E.ntmps F ({ s with nr:=s.nr+plan.length }:St).get ρ a w G:=by rw[Ua9 h5];exact hR
  obtain⟨⟨G1,hR2⟩,-⟩:=yP (cf:=cf) h2 (Iap h5) (by simp) hR1 trivial
  obtain⟨G2,hR3⟩:=oM h3 hR2
  obtain⟨G3,hR4⟩:=R.fit (ρ0:=ρ) (e:=[]) (by rw[Rbm];exact hR3) hl hxs hτ h4 (Qbw _)
  rw[Rbm]at hR4
  have ho':=ho
  unfold Lc at ho'
  obtain⟨N,hN⟩:=(iD (Pbk (cf:=cf) tb' ρ (xs.map (·.val ρ)))).1 ho'
  refine Oak (fun n a w=>∃ vs G,iter n (fun vs=>runT cf N tb' (ρ++vs)) vs=some o/\vs.length=plan.length/\R E.ntmps F τ.get (ρ++vs) a w G) (fun n a w hK=>?_) (n:=N) ⟨_,G3,hN,by simp[hxs],hR4⟩
  obtain⟨vs,G,hn,hvs,hRv⟩:=hK
  cases n with
  |zero=>cases hn
  | succ m =>
   simp only[iter,Qbp]at hn
   obtain⟨o',h7,h8⟩:=hn
   obtain⟨o1,h9,hp,hw,h10⟩:=hturn vs o' hvs (Jan.2 ⟨N,h7⟩)
   refine hw a w G _ hRv fun a' w' G' hR'=>?_
   rcases h10 with ⟨h11,h12,h13,h14⟩|⟨h11,h12⟩
   ·rw[if_pos h12]at h8
    rw[h11]
    obtain⟨G'',hR''⟩:=h14 a' w' G' hR'
    exact⟨m,Nat.lt_succ_self m,o'.vals,G'',h8,h13,hR''⟩
   ·subst h12
    have hk:o'.kind≠.cont:=fun e=>by
     have:=hp.nice
     rw[e]at this
     exact this
    rw[if_neg hk]at h8
    obtain rfl:=Option.some.inj h8
    have:=hQ a' w' G' hR'
    revert this h11
    have:=hp.nice
    revert this
    cases o'.kind<;>intro h1 h2 h3<;>first|exact h1.elim|exact (h2 rfl).elim|exact h3
theorem uK (hti:yA P E.ti)(hcalls:Caa P E F cf)(hm:P.follows .mixedOrders=true){rb:Nat}:∀ (c:Code) {ex:List (Nat×Nat)} {live:Nat} {s:St} {t:Tm St} {ρ:List D} {o:Out St},sxC E false rb c ex live s=some t ->
  Ec cf t ρ=some o->ρ.length=s.nv->Jam E s->Post E ρ o/\Wp P E F c s ρ o
 | .skip, ex, live, s, t, ρ, o, h, ho, hl, hi => by
  simp only[sxC,Option.some.injEq]at h
  subst h
  rw[gY]at ho
  obtain rfl:=Option.some.inj ho
  exact⟨⟨trivial,hl,hi,[],by simp⟩,fun a w G Q hR hQ=>wp_skip (hQ a w G hR)⟩
 | .label _, ex, live, s, t, ρ, o, h, ho, hl, hi => by
  simp only[sxC,Option.some.injEq]at h
  subst h
  rw[gY]at ho
  obtain rfl:=Option.some.inj ho
  exact⟨⟨trivial,hl,hi,[],by simp⟩,fun a w G Q hR hQ=>wp_label (hQ a w G hR)⟩
 | .ret, ex, live, s, t, ρ, o, h, ho, hl, hi => by
  simp only[sxC,Option.some.injEq]at h
  subst h
  rw[gY]at ho
  obtain rfl:=Option.some.inj ho
  exact⟨⟨trivial,hl,hi,[],by simp⟩,fun a w G Q hR hQ=>wp_ret (hQ a w G hR)⟩
 | .exit id, ex, live, s, t, ρ, o, h, ho, hl, hi => by
  simp only[sxC,Option.some.injEq]at h
  subst h
  rw[gY]at ho
  obtain rfl:=Option.some.inj ho
  exact⟨⟨trivial,hl,hi,[],by simp⟩,fun a w G Q hR hQ=>wp_exit (hQ a w G hR)⟩
 | .region rid ops draw, ex, live, s, t, ρ, o, h, ho, hl, hi => by
  simp only[sxC,Option.some.injEq]at h
  subst h
  obtain⟨⟨h1,h2,h3,h4⟩,h5⟩:=Oa9 hti hcalls hm ho hl hi
  exact⟨⟨by rw[h1];trivial,h2,h3,h4⟩,fun a w G Q hR hQ=>h5 a w G Q hR fun a' w' G' hR'=>by
   have:=hQ a' w' G' hR'
   rw[h1]at this
   exact this⟩
 | .seq a b, ex, live, s, t, ρ, o, h, ho, hl, hi => by
  simp only[sxC,bind,Qbp]at h
  obtain⟨ta,hta,h⟩:=h
  have iha:=fun {o1:Out St} (h1:Ec cf ta ρ=some o1)=>uK hti hcalls hm a hta h1 hl hi
  have hpass:∀ o1:Out St,Post E ρ o1->Wp P E F a s ρ o1->o1.kind≠.fall->Wp P E F (.seq a b) s ρ o1:=by
   intro o1 hp hw hk a' w G Q hR hQ
   refine wp_seq (hw a' w G _ hR fun a1 w1 G1 hR1=>?_)
   have:=hQ a1 w1 G1 hR1
   revert this hk
   have:=hp.nice
   revert this
   cases o1.kind<;>intro h1 h2 h3<;>first|exact h1.elim|exact (h2 rfl).elim|exact h3
  cases hno:ta.no sO with
  | true =>
   rw[hno,cond_true,Option.some.injEq]at h
   subst h
   obtain⟨hp,hw⟩:=iha ho
   exact⟨hp,hpass o hp hw fun e=>by have:=yZ hno ho;rw[e]at this;cases this⟩
  | false =>
   rw[hno,cond_false]at h
   have hgo:∀ {o1:Out St} {s2:St} {tb:Tm St} {ρ2:List D},Ec cf ta ρ=some o1->o1.kind=.fall->sxC E false rb b ex live s2=some tb->Ec cf tb ρ2=some o->ρ2.length=s2.nv->Jam E s2->(∃ ds,ρ2=ρ++ds) ->
     (∀ a w G,R E.ntmps F o1.ext.get o1.env a w G->∃ G',R E.ntmps F s2.get ρ2 a w G')->Post E ρ o/\Wp P E F (.seq a b) s ρ o:=by
    intro o1 s2 tb ρ2 h1 hk h2 h3 h4 h5 ⟨ds,h6⟩ h7
    obtain⟨hp,hw⟩:=uK hti hcalls hm b h2 h3 h4 h5
    obtain⟨hp1,hw1⟩:=iha h1
    subst h6
    refine⟨hp.trans,fun a' w G Q hR hQ=>wp_seq (hw1 a' w G _ hR fun a1 w1 G1 hR1=>?_)⟩
    rw[hk]
    obtain⟨G2,hR2⟩:=h7 a1 w1 G1 hR1
    exact hw a1 w1 G2 Q hR2 hQ
   split at h
   ·obtain⟨o1,h1,h2⟩:=tX h ho
    rcases h2 with ⟨h3,tb,h4,h5⟩|⟨h3,h4⟩
    ·obtain⟨hp,-⟩:=iha h1
     exact hgo h1 h3 h4 h5 hp.len hp.inv hp.pre fun a w G hR=>⟨G,hR⟩
    ·subst h4
     obtain⟨hp,hw⟩:=iha h1
     exact⟨hp,hpass _ hp hw h3⟩
   ·simp only[Qbp]at h
    obtain⟨⟨t',τ⟩,hj,k,hk,h⟩:=h
    simp only[Option.some.injEq]at h
    subst h
    obtain⟨o1,h1,h2⟩:=Za2 (F:=F) hj rfl (fun _=>rfl) ho hl fun o1 h1=>(iha h1).1
    rcases h2 with ⟨h3,vals,h4,h5,h6,h7⟩|⟨h3,h4⟩
    ·exact hgo h1 (Lao.1 h3) hk h4 h5 h6 ⟨vals,rfl⟩ fun a w G hR=>h7 a w G hR
    ·subst h4
     obtain⟨hp,hw⟩:=iha h1
     exact⟨hp,hpass _ hp hw fun e=>by rw[e]at h3;cases h3⟩
 | .cond c a b, ex, live, s, t, ρ, o, h, ho, hl, hi => by
  simp only[sxC]at h
  have hcb:∀ v,Ab3 c=some v->c=.const (.bool v):=by
   intro v hv
   unfold Ab3 at hv
   split at hv
   ·cases hv;rfl
   ·cases hv
  split at h
  ·rename_i hc
   obtain rfl:=hcb _ hc
   obtain⟨hp,hw⟩:=uK hti hcalls hm a h ho hl hi
   exact⟨hp,fun a' w G Q hR hQ=>wp_cond_true rfl (hw a' w G Q hR hQ)⟩
  ·rename_i hc
   obtain rfl:=hcb _ hc
   obtain⟨hp,hw⟩:=uK hti hcalls hm b h ho hl hi
   exact⟨hp,fun a' w G Q hR hQ=>wp_cond_false rfl (hw a' w G Q hR hQ)⟩
  rename_i hcn
  clear hcn hcb
  split at h
  ·rename_i x tt hk
   cases hb:(bG s.nv x&&Sbj tt E.ntmps) with
   | false =>
    rw[hb]at h
    simp only[Bool.not_false,cond_true,Option.some.injEq]at h
    subst h
    rw[jR]at ho;cases ho
   | true =>
    rw[hb]at h
    simp only[Rbl,cond_false,bind,Qbp,Option.some.injEq]at h
    obtain⟨ta,hta,tb,htb,rfl⟩:=h
    simp only[Qbq,Rb6]at hb
    have hev:∀ a' w G,R E.ntmps F s.get ρ a' w G->Sc (a'.eval (.tmp tt)) (x.val ρ):=by
     intro a' w G hR
     have:=hR.slot hk rfl
     simp only[dV,aB,Cab]at this
     rw[if_pos hb.2]at this
     have e:a'.eval (.tmp tt)=a'.tmps.getD tt undef:=by
      simp[Act.eval,Rb3]
     rw[e];exact this
    rw[Gai]at ho
    split at ho
    ·rename_i hx
     obtain⟨hp,hw⟩:=uK hti hcalls hm a hta ho hl hi
     refine⟨hp,fun a' w G Q hR hQ=>wp_cond_true ?_ (hw a' w G Q hR hQ)⟩
     have:=hev a' w G hR
     rw[hx]at this
     exact this.bool_inv
    ·rename_i hx
     obtain⟨hp,hw⟩:=uK hti hcalls hm b htb ho hl hi
     refine⟨hp,fun a' w G Q hR hQ=>wp_cond_false ?_ (hw a' w G Q hR hQ)⟩
     have:=hev a' w G hR
     rw[hx]at this
     exact this.bool_inv
    ·cases ho
  ·simp only[Option.some.injEq]at h
   subst h
   rw[jR]at ho;cases ho
 | .block id b, ex, live, s, t, ρ, o, h, ho, hl, hi => by
  simp only[sxC,bind,Qbp]at h
  obtain⟨tb,htb,h⟩:=h
  have ihb:=fun {o1:Out St} (h1:Ec cf tb ρ=some o1)=>uK hti hcalls hm b htb h1 hl hi
  have hpass:∀ o1:Out St,Post E ρ o1->Wp P E F b s ρ o1->rZ id o1.kind=false->Wp P E F (.block id b) s ρ o1:=by
   intro o1 hp hw hk a' w G Q hR hQ
   refine wp_block (hw a' w G _ hR fun a1 w1 G1 hR1=>?_)
   have:=hQ a1 w1 G1 hR1
   revert this hk
   have:=hp.nice
   revert this
   cases o1.kind with
   | exit j =>
    intro h1 h2 h3
    simp only[Abs,Exit.inBlock]
    rw[if_neg]
    ·exact h3
    ·intro e
     simp[rZ,e]at h2
   |fall=>exact fun h1 h2 h3=>h3
   |ret=>exact fun h1 h2 h3=>h3
   |cont=>exact fun h1 h2 h3=>h1.elim
   |yield i=>exact fun h1 h2 h3=>h1.elim
  cases hno:tb.no (rZ id) with
  | true =>
   rw[hno,cond_true,Option.some.injEq]at h
   subst h
   obtain⟨hp,hw⟩:=ihb ho
   exact⟨hp,hpass o hp hw (yZ hno ho)⟩
  | false =>
   rw[hno,cond_false]at h
   have hend:∀ {o1:Out St} {o:Out St},Ec cf tb ρ=some o1->Raf id o1.kind=true->o.kind=.fall->(∀ a w G,R E.ntmps F o1.ext.get o1.env a w G->∃ G',R E.ntmps F o.ext.get o.env a w G')->Wp P E F (.block id b) s ρ o:=by
    intro o1 o h1 hk ho hg a' w G Q hR hQ
    obtain⟨hp,hw⟩:=ihb h1
    refine wp_block (hw a' w G _ hR fun a1 w1 G1 hR1=>?_)
    obtain⟨G2,hR2⟩:=hg a1 w1 G1 hR1
    have:=hQ a1 w1 G2 hR2
    rw[ho]at this
    revert hk
    cases o1.kind with
    | exit j =>
     intro hk
     simp only[Raf,Rbv]at hk
     simp only[Abs,Exit.inBlock]
     rw[if_pos hk.symm]
     exact this
    |fall=>exact fun _=>this
    |ret=>intro hk;cases hk
    |cont=>intro hk;cases hk
    |yield i=>intro hk;cases hk
   split at h
   ·obtain⟨o1,h1,h2⟩:=kE h ho
    obtain⟨hp,hw⟩:=ihb h1
    rcases h2 with ⟨h3,h4⟩|⟨h3,h4⟩
    ·subst h4
     refine⟨⟨trivial,hp.len,hp.inv,hp.pre⟩,hend h1 ?_ rfl fun a w G hR=>⟨G,hR⟩⟩
     revert h3
     cases o1.kind<;>simp[rZ,Raf]
    ·subst h4
     exact⟨hp,hpass _ hp hw h3⟩
   ·simp only[Qbp]at h
    obtain⟨⟨t',τ⟩,hj,h⟩:=h
    simp only[Option.some.injEq]at h
    subst h
    obtain⟨o1,h1,h2⟩:=Za2 (F:=F) hj rfl (fun _=>rfl) ho hl fun o1 h1=>(ihb h1).1
    rcases h2 with ⟨h3,vals,h4,h5,h6,h7⟩|⟨h3,h4⟩
    ·rw[gY]at h4
     obtain rfl:=Option.some.inj h4
     exact⟨⟨trivial,h5,h6,vals,rfl⟩,hend h1 h3 rfl fun a w G hR=>h7 a w G hR⟩
    ·subst h4
     obtain⟨hp,hw⟩:=ihb h1
     refine⟨hp,hpass _ hp hw ?_⟩
     revert h3
     cases o.kind<;>simp[rZ,Raf]
 | .loop b, ex, live, s, t, ρ, o, h, ho, hl, hi => by
  simp only[sxC]at h
  split at h
  ·exact Kao (fun h1 h2 h3 h4=>uK hti hcalls hm b h1 h2 h3 h4) (Paz h) ho hl hi
  ·exact Kao (fun h1 h2 h3 h4=>uK hti hcalls hm b h1 h2 h3 h4) (Iae h) ho hl hi
 | .scope _, ex, live, s, t, ρ, o, h, ho, hl, hi => by
  simp only[sxC,Option.some.injEq]at h
  subst h
  rw[jR]at ho;cases ho
 | .goto _, ex, live, s, t, ρ, o, h, ho, hl, hi => by
  simp only[sxC,Option.some.injEq]at h
  subst h
  rw[jR]at ho;cases ho
 | .rangeFunc _ _ _ _, ex, live, s, t, ρ, o, h, ho, hl, hi => by
  simp only[sxC,Option.some.injEq]at h
  subst h
  rw[jR]at ho;cases ho
 | .refuse _, ex, live, s, t, ρ, o, h, ho, hl, hi => by
  simp only[sxC,Option.some.injEq]at h
  subst h
  rw[jR]at ho;cases ho
end
end Go.Proofs.YtdpfilpckndhcaaGreatDoor.Rf
