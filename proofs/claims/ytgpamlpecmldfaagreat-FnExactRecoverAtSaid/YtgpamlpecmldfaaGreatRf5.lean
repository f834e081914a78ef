import Derived.Test.YtgpamlpecmldfaaGreatRf4
import Derived.Orders
set_option linter.all false
open Array renaming getElem?_eq_getElem → Rb9, getD_eq_getD_getElem? → Sbo, getElem?_toList → Sb6
open Bool renaming and_eq_true → Qb6, not_eq_true' → Rb0, not_true → Sbf, or_eq_true → Sbv, false_or → Tbn
open List renaming getElem?_eq_some_iff → Qb8, mem_append_left → Qb9, getElem?_eq_getElem → Rba, mem_singleton → Rbb, mem_append_right → Rbc, append_assoc → Rbd, getElem?_cons_zero → Rbf, mem_cons → Rbg, length_append → Rbh, getD_eq_getElem?_getD → Rbi, mem_cons_of_mem → Rbl, getElem?_append_left → Rbm, mem_cons_self → Rbr, length_cons → Rbw, append_nil → Rb1, all_eq_true → Rb6, nil_append → Sbm, mem_map → Sbp, mem_map_of_mem → Sb1, not_mem_nil → Sb9, getElem?_set → Tbj, mem_filter → Tbr, mem_range → Ubj, isEmpty_iff → Ubo
open Nat renaming le_refl → Rbt, lt_or_ge → Rbu, zero_add → Rb2, beq_eq → Rb3, add_zero → Sbg, blt_eq → Sbn, ble_eq → Sbr, blt → Sb0, zero_le → Tbm, testBit → Tbz, lt_trichotomy → Ubf, le_succ → Ubg, le_add_right → Ubr
open Option renaming bind_eq_some_iff → Qb5, bind_some → Rbe, map_eq_some_iff → Rbo, map_some → Sbq, getD_some → Tbd
open Option.some renaming injEq → Qb7, inj → Rb5
open Prod.mk renaming injEq → Rbx
namespace Go.Proofs.YtgpamlpecmldfaaGreat.Rf
theorem mem_range {x:Nat}:∀ {n a:Nat},x∈range a n↔a<=x/\x<a+n
 |0,a=>by simp[range]
 | n + 1, a => by
  simp only[range,Rbg,mem_range];omega
theorem vB {dj eW r:Nat}(h:r<dj):Tau dj eW r=r:=by
 unfold Tau
 have:Nat.ble dj r=false:=by
  cases e:Nat.ble dj r with
  |false=>rfl
  |true=>simp only[Sbr]at e;omega
 rw[this];rfl
theorem Oa2 {dj eW r:Nat}(h:dj<=r):Tau dj eW r=eW+(r-dj):=by
 unfold Tau;have:Nat.ble dj r=true:=by simpa using h
 rw[this];rfl
def wP (fu eW dj:Nat):Ow->Ow
 |.slc r p=>if r<fu then .slc r p else if eW<=r then .slc (dj+(r-eW)) p else .oth
 |o=>o
theorem Wac {fu eW dj:Nat}{o:Ow}{r:Nat}{p:List Nat}(h0:fu<=dj)(h:wP fu eW dj o=.slc r p):o=.slc (Tau dj eW r) p:=by
 cases o with
 | slc s q =>
  simp only[wP]at h;split at h
  ·injection h with h1 h2
   subst h1 h2;rw[vB (by omega)]
  ·split at h
   ·injection h with h1 h2
    subst h1 h2;rw[Oa2 (by omega)];congr 1;omega
   ·cases h
 |_=>simp only[wP]at h;cases h
theorem Iam {fu eW dj r:Nat}{p:List Nat}(h0:fu<=dj)(hB:fu<=eW)(hr:r<fu\/dj<=r):wP fu eW dj (.slc (Tau dj eW r) p)=.slc r p:=by
 simp only[wP]
 rcases hr with h|h
 ·rw[vB (by omega),if_pos h]
 ·rw[Oa2 h,if_neg (by omega),if_pos (by omega)]
  congr 1;omega
structure Bbl (τ:St) (σ:Nat->Option aU) (gy ρ:List D) (G' G:Gh) (N n:Nat) (xs:List aP) (dj eW fu:Nat):Prop where
 at_:∀ x,bF N x=true->x.val gy=(Oa3 n xs x).val ρ
 le:fu<=dj
 leB:fu<=eW
 hdr:∀ r,G'.hdr r=G.hdr (Tau dj eW r)
 own:∀ b,G'.own b=wP fu eW dj (G.own b)
 bx:G'.bx=G.bx
 valid:∀ r k,r<fu->nK τ.get r k->nK σ r k
 live:∀ r k m,r<fu->Aac τ.get r k m->Aac σ r k m
theorem Ea4 {τ:St}{fu:Nat}:∀ {deps:List (Nat×Nat)},Qa0 τ fu deps=true->∀ z∈deps,z.1<fu/\kF τ.get z.1 z.2
 |[],_,z,hz=>by simp at hz
 | (r, k) :: d, h, z, hz => by
  simp only[Qa0,Qb6]at h
  rcases Rbg.1 hz with rfl|hz
  ·refine⟨by simpa using h.1.1,?_⟩
   have h2:=h.1.2;split at h2
   ·rename_i x m v e;exact⟨_,_,_,_,e,fun hs=>by rcases hs with hs|hs<;>cases hs⟩
   ·rename_i x m v r' e;exact⟨_,_,_,_,e,fun hs=>by rcases hs with hs|hs<;>cases hs⟩
   ·rename_i x m v st uq hn2 e;exact⟨_,_,_,_,e,fun _=>by simpa using h2⟩
   ·cases h2
  ·exact Ea4 h.2 z hz
section
variable {τ:St} {σ:Nat->Option aU} {gy ρ:List D} {G' G:Gh} {w:World} {N n:Nat} {xs:List aP} {dj eW fu:Nat}
theorem Bbl.ownLow (h:Bbl τ σ gy ρ G' G N n xs dj eW fu){b r:Nat}{p:List Nat}(hr:r<fu)(hb:G.own b=.slc r p):G'.own b=.slc r p:=by
 rw[h.own,hb];have h1:Tau dj eW r=r:=vB (by have:=h.le;omega);have h2:=Iam (p:=p) h.le h.leB (.inl hr:r<fu\/dj<=r);rw[h1]at h2;exact h2
theorem Bbl.frz (h:Bbl τ σ gy ρ G' G N n xs dj eW fu){b:Nat}(hb:G.own b=.frz):G'.own b=.frz:=by
 rw[h.own,hb];rfl
theorem Bbl.allow (h:Bbl τ σ gy ρ G' G N n xs dj eW fu){deps:List (Nat×Nat)}(hd:∀ z∈deps,z.1<fu){b:Nat}(hb:Go.Proofs.YtgpamlpecmldfaaGreat.Rf.allow G deps b):Go.Proofs.YtgpamlpecmldfaaGreat.Rf.allow G' deps b:=by
 rcases hb with hb|⟨r,k,p,hm,hb⟩
 ·exact .inl (h.frz hb)
 ·exact .inr ⟨r,k,p,hm,h.ownLow (hd _ hm) hb⟩
theorem Bbl.path (h:Bbl τ σ gy ρ G' G N n xs dj eW fu){p:List (aP×Nat×Nat)}(hp:(p.all fun x=>bF N x.1)=true):bG gy p=bG ρ (p.map fun x=>(Oa3 n xs x.1,x.2)):=by
 unfold bG;rw[List.map_map];apply List.map_congr_left;intro x hx;rw[Rb6]at hp;simp only[Function.comp,mO,h.at_ x.1 (hp x hx)]
mutual
theorem aD.fit (h:Bbl τ σ gy ρ G' G N n xs dj eW fu):∀ (l:aT) (v:Value),l.inScope N=true->l.wf τ fu=true->aD σ ρ G w (l.sub n xs dj eW) v->aD τ.get gy G' w l v
 |.dead,_,_,_,hl=>by simpa[aT.sub,aD] using hl
 | .sc x, v, hs, _, hl => by
  simp only[aT.inScope]at hs;simp only[aT.sub,aD]at hl ⊢;rw[h.at_ x hs];exact hl
 | .su g x, v, hs, _, hl => by
  simp only[aT.inScope,Qb6]at hs;obtain⟨y,b⟩:=g;simp only[aT.sub,aD]at hl ⊢;have hg:gOn gy (some (y,b))=gOn ρ (some (Oa3 n xs y,b)):=by simp only[gOn,h.at_ y hs.2]
  rw[h.at_ x hs.1,hg];exact hl
 | .ex r, v, _, hw, hl => by
  simp only[aT.wf]at hw;simp only[aT.sub,aD]at hl ⊢;exact⟨by rw[h.hdr];exact hl.1,hw,hl.2.2⟩
 | .sn deps p nie x, v, hs, hw, hl => by
  simp only[aT.inScope,Qb6]at hs;simp only[aT.wf]at hw;have hd:=Ea4 hw;simp only[aT.sub,aD]at hl ⊢;rw[h.at_ x hs.1];refine⟨⟨hl.1.1,fun z hz=>(hd z hz).2⟩,fun hv=>?_⟩;obtain⟨h1,h2,h3⟩:=hl.2 fun z hz=>h.valid _ _ (hd z hz).1 (hv z hz)
  refine⟨h1.mono fun b hb=>⟨h.allow (fun z hz=>(hd z hz).1) hb,rfl⟩,h2,?_⟩
  cases p with
  |no=>trivial
  | view =>
   intro r k m e je;have hr:=(hd (r,k) (by simp[e])).1;have:=(h3 r k m e (h.live r k m hr je)).mono (own':=G'.own) (w':=w) (q:=[]) (q':=[]) (r':=r) (fun b hb=>⟨h.frz hb,rfl⟩) [] rfl (fun b t hb=>⟨h.ownLow hr hb,rfl⟩);simpa using this
  | suf sz lo =>
   intro r k m e je;have hr:=(hd (r,k) (by simp[e])).1;have h4:=h3 r k m e (h.live r k m hr je)
   have h5:mO gy lo=mO ρ (Oa3 n xs lo):=by
    unfold mO;rw[h.at_ lo hs.2]
   rw[h5];rw[h.hdr,vB (by have:=h.le;omega)];exact h4
  | path p =>
   intro r k m e je;have hr:=(hd (r,k) (by simp[e])).1;obtain⟨h4,h5,h6⟩:=h3 r k m e (h.live r k m hr je);rw[h.path hs.2];rw[List.length_map]at h4 h5;refine⟨h4,?_,?_⟩
   ·have:=h5.mono (own':=G'.own) (w':=w) (q:=[]) (q':=[]) (r':=r) (fun b hb=>⟨h.frz hb,rfl⟩) _ rfl (fun b t hb=>⟨h.ownLow hr hb,rfl⟩)
    rw[Sbm]at this;exact this
   ·rw[h.hdr,vB (by have:=h.le;omega)]
    exact Aaf.mono _ _ _ _ _ (fun b t hb=>⟨h.ownLow hr hb,rfl⟩) h6
 | .px b off, v, _, hw, hl => by
  simp only[aT.wf]at hw;simp only[aT.sub,aD]at hl ⊢;exact⟨by rw[h.bx];exact hl.1,hw⟩
 | .pe l sz i off, v, hs, hw, hl => by
  simp only[aT.inScope,Qb6]at hs;simp only[aT.wf]at hw;simp only[aT.sub,aD]at hl ⊢;obtain⟨a,n,c,k,iv,h1,h2⟩:=hl;exact⟨a,n,c,k,iv,aD.fit h l _ hs.1 hw h1,by rw[h.at_ i hs.2];exact h2⟩
 | .rp deps sz x, v, hs, hw, hl => by
  simp only[aT.inScope]at hs;simp only[aT.wf]at hw;have hd:=Ea4 hw;simp only[aT.sub,aD]at hl ⊢;rw[h.at_ x hs];refine⟨⟨hl.1.1,fun z hz=>(hd z hz).2⟩,fun hv=>?_⟩
  rcases hl.2 fun z hz=>h.valid _ _ (hd z hz).1 (hv z hz) with h1|⟨a,row,h1,h2,h3⟩
  ·exact .inl h1
  ·exact .inr ⟨a,row,h1,h2,h3.mono fun b hb=>⟨h.allow (fun z hz=>(hd z hz).1) hb,rfl⟩⟩
 |.pn,v,_,_,hl=>by simpa[aT.sub,aD] using hl
 | .clo f gi, v, hs, hw, hl => by
  simp only[aT.inScope]at hs;simp only[aT.wf]at hw;simp only[aT.sub,aD]at hl ⊢;obtain⟨vs,h1,h2⟩:=hl;exact⟨vs,h1,aH.fit h gi vs hs hw h2⟩
theorem aH.fit (h:Bbl τ σ gy ρ G' G N n xs dj eW fu):∀ (ls:List aT) (vs:List Value),bK N ls=true->pU τ fu ls=true->aH σ ρ G w (iW n xs dj eW ls) vs->aH τ.get gy G' w ls vs
 |[],vs,_,_,hl=>by simpa[iW,aH] using hl
 | l :: ls, vs, hs, hw, hl => by
  simp only[bK,Qb6]at hs;simp only[pU,Qb6]at hw;simp only[iW,aH]at hl ⊢;obtain⟨u,us,e,h1,h2⟩:=hl;exact⟨u,us,e,aD.fit h l u hs.1 hw.1 h1,aH.fit h ls us hs.2 hw.2 h2⟩
end
theorem zV:∀ {d d':List (Nat×Nat)},yL d d'=true->d=d'
 |[],[],_=>rfl
 |[],_::_,h=>by simp[yL]at h
 |_::_,[],h=>by simp[yL]at h
 | (a, b) :: r, (a', b') :: r', h => by
  simp only[yL,Qb6,Rb3]at h;rw[h.1.1,h.1.2,zV h.2]
theorem Pax:∀ {d d':List (aP×Nat×Nat)},Kak d d'=true->d=d'
 |[],[],_=>rfl
 |[],_::_,h=>by simp[Kak]at h
 |_::_,[],h=>by simp[Kak]at h
 | (a, b, c) :: r, (a', b', c') :: r', h => by
  simp only[Kak,Qb6,Rb3]at h;rw[aP.beq0_eq h.1.1.1,h.1.1.2,h.1.2,Pax h.2]
theorem Pth.beq0_eq {p q:Pth}(h:p.beq0 q=true):p=q:=by
 cases p<;>cases q<;>simp only[Pth.beq0]at h<;>first|rfl|cases h|skip
 ·rw[Pax h]
 ·simp only[Qb6,Rb3]at h
  rw[h.1,aP.beq0_eq h.2]
mutual
theorem aT.beq0_eq:∀ {a b:aT},a.beq0 b=true->a=b
 |.dead,b,h=>by cases b<;>first | rfl | (simp[aT.beq0]at h)
 | .sc x, b, h => by
  cases b<;>simp only[aT.beq0]at h<;>first|cases h|skip
  rw[aP.beq0_eq h]
 | .su g x, b, h => by
  cases b<;>simp only[aT.beq0]at h<;>first|cases h|skip
  rename_i g' x';simp only[Qb6,beq_iff_eq]at h;obtain⟨y,u⟩:=g;obtain⟨y',u'⟩:=g';have h1:=aP.beq0_eq h.1.1;have h2:u=u':=h.1.2;dsimp only at h1;rw[h1,h2,aP.beq0_eq h.2]
 | .ex r, b, h => by
  cases b<;>simp only[aT.beq0]at h<;>first|cases h|skip
  simp only[Rb3]at h;rw[h]
 | .sn d p e x, b, h => by
  cases b<;>simp only[aT.beq0]at h<;>first|cases h|skip
  simp only[Qb6,beq_iff_eq]at h;rw[zV h.1.1.1,Pth.beq0_eq h.1.1.2,h.1.2,aP.beq0_eq h.2]
 | .px c o, b, h => by
  cases b<;>simp only[aT.beq0]at h<;>first|cases h|skip
  simp only[Qb6,Rb3]at h;rw[h.1,h.2]
 | .pe l s i o, b, h => by
  cases b<;>simp only[aT.beq0]at h<;>first|cases h|skip
  simp only[Qb6,Rb3]at h;rw[aT.beq0_eq h.1.1.1,h.1.1.2,aP.beq0_eq h.1.2,h.2]
 | .rp d s x, b, h => by
  cases b<;>simp only[aT.beq0]at h<;>first|cases h|skip
  simp only[Qb6,Rb3]at h;rw[zV h.1.1,h.1.2,aP.beq0_eq h.2]
 |.pn,b,h=>by cases b<;>first | rfl | (simp[aT.beq0]at h)
 | .clo f l, b, h => by
  cases b<;>simp only[aT.beq0]at h<;>first|cases h|skip
  simp only[Qb6,Rb3]at h;rw[h.1,Ca2 h.2]
theorem Ca2:∀ {a b:List aT},uN a b=true->a=b
 |[],b,h=>by cases b<;>first | rfl | (simp[uN]at h)
 | a :: r, b, h => by
  cases b<;>simp only[uN]at h<;>first|cases h|skip
  simp only[Qb6]at h;rw[aT.beq0_eq h.1,Ca2 h.2]
end
theorem xZ {a b:aT}(h:zO a b=true){v:Value}(hb:aD σ ρ G w b v):aD σ ρ G w a v:=by
 unfold zO at h;split at h
 ·simp only[aD]
  exact hb.one h
 ·rename_i d x
  split at h
  ·rename_i d' p nie x'
   simp only[Qb6]at h;obtain rfl:=zV h.1;obtain rfl:=aP.beq0_eq h.2;simp only[aD]at hb ⊢;exact⟨hb.1,fun hv=>⟨(hb.2 hv).1,(fun e=>absurd e (by decide)),trivial⟩⟩
  ·cases h
 ·rw[aT.beq0_eq h];exact hb
theorem Caz:∀ {a b:List aT},fC a b=true->∀ {vs:List Value},aH σ ρ G w b vs->aH σ ρ G w a vs
 |[],[],_,vs,hb=>hb
 |[],_::_,h,vs,hb=>by simp[fC]at h
 |_::_,[],h,vs,hb=>by simp[fC]at h
 | a :: r, b :: s, h, vs, hb => by
  simp only[fC,Qb6]at h;simp only[aH]at hb ⊢;obtain⟨u,us,e,h1,h2⟩:=hb;exact⟨u,us,e,xZ h.1 h1,Caz h.2 h2⟩
theorem Ca0:∀ {a b:List aT},fC a b=true->a.length=b.length
 |[],[],_=>rfl
 |[],_::_,h=>by simp[fC]at h
 |_::_,[],h=>by simp[fC]at h
 | a :: r, b :: s, h => by
  simp only[fC,Qb6]at h;simp[Ca0 h.2]
theorem Ca1:∀ {a b:List aT},fC a b=true->∀ {j:Nat} {l:aT},a[j]?=some l->∃ m,b[j]?=some m/\zO l m=true
 |[],[],_,j,l,hj=>by simp at hj
 |[],_::_,h,_,_,_=>by simp[fC]at h
 |_::_,[],h,_,_,_=>by simp[fC]at h
 | a :: r, b :: s, h, j, l, hj => by
  simp only[fC,Qb6]at h
  cases j with
  | zero =>
   simp only[Rbf,Qb7]at hj;subst hj;exact⟨b,rfl,h.1⟩
  |succ j=>exact Ca1 h.2 (by simpa using hj)
theorem Cay:∀ {ls:List aT} {j:Nat} {l:aT},ls[j]?=some l->(iW n xs dj eW ls)[j]?=some (l.sub n xs dj eW)
 |[],j,l,h=>by simp at h
 | m :: ls, 0, l, h => by
  simp only[Rbf,Qb7]at h;subst h;rfl
 | m :: ls, j + 1, l, h => by
  simp only[iW,List.getElem?_cons_succ]at h ⊢;exact Cay h
theorem Cax:∀ {ls:List aT},(iW n xs dj eW ls).length=ls.length
 |[]=>rfl
 |m::ls=>by simp[iW,Cax (ls:=ls)]
theorem Fav:∀ {ls:List aT} {j:Nat} {l:aT},pU τ fu ls=true->ls[j]?=some l->l.wf τ fu=true
 |[],j,l,_,h=>by simp at h
 | m :: ls, 0, l, hs, h => by
  simp only[pU,Qb6]at hs;simp only[Rbf,Qb7]at h;rw[<- h];exact hs.1
 | m :: ls, j + 1, l, hs, h => by
  simp only[pU,Qb6]at hs;exact Fav hs.2 (by simpa using h)
end
theorem Bae {s:St}{k:Nat}{c:aU}(h:s.get k=some c):(∃ t,k=kT t/\t<s.nt)\/(∃ b,k=kB b/\b<s.nb)\/(∃ r,k=kR r/\r<s.nr):=by
 unfold St.get at h
 cases hk:wS s.nt s.nb s.nr k with
 |false=>rw[hk]at h;cases h
 | true =>
  unfold wS at hk
  cases b0:Nat.beq (k % 3) 0 with
  | true =>
   rw[b0,cond_true,Sbn]at hk;simp only[Rb3]at b0;exact .inl ⟨k / 3,by unfold kT;omega,hk⟩
  | false =>
   rw[b0,cond_false]at hk;have n0:k % 3≠0:=fun e=>by rw[e]at b0;cases b0
   cases b1:Nat.beq (k % 3) 1 with
   | true =>
    rw[b1,cond_true,Sbn]at hk;simp only[Rb3]at b1;exact .inr (.inl ⟨k / 3,by unfold kB;omega,hk⟩)
   | false =>
    rw[b1,cond_false,Sbn]at hk;have n1:k % 3≠1:=fun e=>by rw[e]at b1;cases b1
    exact .inr (.inr ⟨k / 3,by unfold kR;omega,hk⟩)
theorem vO {n:Nat}{xs:List aP}{dj eW:Nat}{τ s:St}:∀ {ks:List Nat},Dad n xs dj eW τ s ks=true->∀ k∈ks,dH n xs dj eW (τ.get k) (s.get k)=true
 |[],_,k,hk=>by simp at hk
 | k' :: ks, h, k, hk => by
  simp only[Dad,Qb6]at h
  rcases Rbg.1 hk with rfl|hk
  ·exact h.1
  ·exact vO h.2 k hk
theorem Dae {n:Nat}{xs:List aP}{dj eW:Nat}{τ s:St}:∀ {ks:List Nat},Daf n xs dj eW τ s ks=true->∀ r∈ks,dH n xs dj eW (τ.get (kR r)) (s.get (kR (Tau dj eW r)))=true
 |[],_,k,hk=>by simp at hk
 | k' :: ks, h, k, hk => by
  simp only[Daf,Qb6]at h
  rcases Rbg.1 hk with rfl|hk
  ·exact h.1
  ·exact Dae h.2 k hk
theorem Da5 {τ:St}{fu:Nat}:∀ {ks:List Nat},Ga5 τ fu ks=true->∀ k∈ks,uQ τ fu k (τ.get k)=true
 |[],_,k,hk=>by simp at hk
 | k' :: ks, h, k, hk => by
  simp only[Ga5,Qb6]at h
  rcases Rbg.1 hk with rfl|hk
  ·exact h.1
  ·exact Da5 h.2 k hk
theorem Kan {τ:St}:∀ {ks:List Nat},Uad τ ks=true->∀ k∈ks,τ.get k=none
 |[],_,k,hk=>by simp at hk
 | k' :: ks, h, k, hk => by
  simp only[Uad,Qb6,Option.isNone_iff_eq_none]at h
  rcases Rbg.1 hk with rfl|hk
  ·exact h.1
  ·exact Kan h.2 k hk
structure Aau (E:Env) (s0:St) (dj len:Nat) (τ:St):Prop where
 nv:τ.nv=s0.nv+len
 nt1:E.ntmps<=τ.nt
 nt2:τ.nt<=E.ntmps+E.ngh
 nr:τ.nr=dj+len
 le:s0.nr<=dj
 none:∀ r,s0.nr<=r->r<dj->τ.get (kR r)=none
 wf:∀ k c,τ.get k=some c->uQ τ s0.nr k (some c)=true
theorem Aa2 {E:Env}{s0:St}{dj len:Nat}{τ:St}(h:Fai E s0 dj len τ=true):Aau E s0 dj len τ:=by
 simp only[Fai,Qb6,Rb3,Sbr]at h;obtain⟨⟨⟨⟨⟨⟨h1,h2⟩,h3⟩,h4⟩,h5⟩,h6⟩,h7⟩:=h
 have ia:∀ r,s0.nr<=r->r<dj->τ.get (kR r)=Option.none:=fun r ha hb =>
  Kan h6 _ (Sbp.2 ⟨r,mem_range.2 ⟨ha,by omega⟩,rfl⟩)
 refine⟨h1,h2,h3,h4,h5,ia,fun k c hk=>?_⟩
 have:k∈(range 0 τ.nt).map kT++(range 0 τ.nb).map kB++((range 0 s0.nr++range dj len).map kR):=by
  rcases Bae hk with ⟨t,rfl,ht⟩|⟨b,rfl,hb⟩|⟨r,rfl,hr⟩
  ·exact Qb9 _ (Qb9 _ (Sbp.2 ⟨t,mem_range.2 ⟨by omega,by omega⟩,rfl⟩))
  ·exact Qb9 _ (Rbc _ (Sbp.2 ⟨b,mem_range.2 ⟨by omega,by omega⟩,rfl⟩))
  ·refine Rbc _ (Sbp.2 ⟨r,?_,rfl⟩)
   rcases Rbu r s0.nr with h8|h8
   ·exact Qb9 _ (mem_range.2 ⟨by omega,by omega⟩)
   ·rcases Rbu r dj with h9|h9
    ·rw[ia r h8 h9]at hk;cases hk
    ·exact Rbc _ (mem_range.2 ⟨h9,by omega⟩)
 have:=Da5 h7 k this;rw[hk]at this;exact this
theorem vZ {τ:St}{fu k:Nat}{c:aU}(h:uQ τ fu k (some c)=true):dG τ.nv c=true:=by
 simp only[uQ,Qb6]at h;exact h.1
theorem Aau.inScope {E:Env}{s0:St}{dj len:Nat}{τ:St}(h:Aau E s0 dj len τ):Aav τ.get τ.nv:=fun k c hk=>vZ (h.wf k c hk)
theorem Na9 {n:Nat}{xs:List aP}{dj eW:Nat}{x:aP}{m v:Nat}{st:RSt}{c:Option aU}(h:dH n xs dj eW (some (.root x m v st)) c=true) :
  st=.gone\/∃ x',c=some (.root x' m v st)/\Oa3 n xs x=x':=by
 cases st with
 |gone=>exact .inl rfl
 | _ =>
  right
  cases c with
  |none=>simp[dH]at h
  | some c =>
   cases c with
   | root x' m' v' ui =>
    simp only[dH,Qb6,Rb3,Cae,decide_eq_true_eq]at h;exact⟨x',by rw[h.1.1.1,h.1.1.2,h.1.2],aP.beq0_eq h.2⟩
   |_=>simp[dH]at h
theorem Qa3 {n:Nat}{xs:List aP}{dj eW:Nat}{l:aT}{c:Option aU}(h:dH n xs dj eW (some (.slot none (.one l))) c=true) :
  ∃ b,c=some (.slot none (.one b))/\zO (l.sub n xs dj eW) b=true:=by
 cases c with
 |none=>simp[dH]at h
 | some c =>
  cases c with
  | slot g v =>
   cases g with
   |some g=>simp[dH]at h
   |none=>cases v<;>first | exact⟨_,rfl,by simpa[dH] using h⟩ | simp[dH]at h
  |_=>simp[dH]at h
theorem Qa4 {n:Nat}{xs:List aP}{dj eW:Nat}{l:List aT}{c:Option aU}(h:dH n xs dj eW (some (.slot none (.agg l))) c=true) :
  ∃ b,c=some (.slot none (.agg b))/\fC (iW n xs dj eW l) b=true:=by
 cases c with
 |none=>simp[dH]at h
 | some c =>
  cases c with
  | slot g v =>
   cases g with
   |some g=>simp[dH]at h
   |none=>cases v<;>first | exact⟨_,rfl,by simpa[dH] using h⟩ | simp[dH]at h
  |_=>simp[dH]at h
theorem Gac {n:Nat}{xs:List aP}{dj eW:Nat}{ro:Bool}{l:List aT}{c:Option aU}(h:dH n xs dj eW (some (.box ro l)) c=true) :
  ∃ b,c=some (.box ro b)/\fC (iW n xs dj eW l) b=true:=by
 cases c with
 |none=>simp[dH]at h
 | some c =>
  cases c with
  | box lP b =>
   simp only[dH,Qb6,beq_iff_eq]at h;exact⟨b,by rw[h.1],h.2⟩
  |_=>simp[dH]at h
theorem Gbj (t:Nat):kT t % 3=0:=by unfold kT;omega
theorem Qaa (t:Nat):kB t % 3=1:=by unfold kB;omega
theorem Pa9 (t:Nat):kR t % 3=2:=by unfold kR;omega
theorem Naq {s:St}{k:Nat}{c:aU}(h:s.get k=some c)(hm:Nat.beq (k % 3) 0=true):∃ t,k=kT t/\t<s.nt:=by
 rw[Rb3]at hm
 rcases Bae h with h|⟨b,rfl,hb⟩|⟨r,rfl,hr⟩
 ·exact h
 ·rw[Qaa]at hm;omega
 ·rw[Pa9]at hm;omega
theorem Hb7 {s:St}{k:Nat}{c:aU}(h:s.get k=some c)(hm:Nat.beq (k % 3) 1=true):∃ t,k=kB t/\t<s.nb:=by
 rw[Rb3]at hm
 rcases Bae h with ⟨b,rfl,hb⟩|h|⟨r,rfl,hr⟩
 ·rw[Gbj]at hm;omega
 ·exact h
 ·rw[Pa9]at hm;omega
theorem Eby {s:St}{k:Nat}{c:aU}(h:s.get k=some c)(hm:Nat.beq (k % 3) 2=true):∃ t,k=kR t/\t<s.nr:=by
 rw[Rb3]at hm
 rcases Bae h with ⟨b,rfl,hb⟩|⟨r,rfl,hr⟩|h
 ·rw[Gbj]at hm;omega
 ·rw[Qaa]at hm;omega
 ·exact h
theorem R.fit {E:Env}{F:bQ}{τ s s0:St}{ρ0 e:List D}{a:Act}{w:World}{G:Gh}{xs:List aP}{dj eW len:Nat}
  (hR:R E.ntmps F s.get (ρ0++e) a w G) (hn:ρ0.length=s0.nv) (uv:xs.length=len) (mc:Aau E s0 dj len τ)
  (fh:pF E s0.nv xs s0.nr dj eW len τ s=true) (hle:s0.nr<=eW):∃ G',R E.ntmps F τ.get (ρ0++xs.map (·.val (ρ0++e))) a w G':=by
 simp only[pF,Qb6]at fh;obtain⟨hf1,hf2⟩:=fh
 have lA:∀ t,t<τ.nt->dH s0.nv xs dj eW (τ.get (kT t)) (s.get (kT t))=true:=fun t ht =>
  vO hf1 _ (Qb9 _ (Sbp.2 ⟨t,mem_range.2 ⟨by omega,by have:=mc.nt2;omega⟩,rfl⟩))
 have pT:∀ b,b<τ.nb->dH s0.nv xs dj eW (τ.get (kB b)) (s.get (kB b))=true:=fun b hb =>
  vO hf1 _ (Rbc _ (Sbp.2 ⟨b,mem_range.2 ⟨by omega,by omega⟩,rfl⟩))
 have fR:∀ r,r<s0.nr\/(dj<=r/\r<dj+len)->dH s0.nv xs dj eW (τ.get (kR r)) (s.get (kR (Tau dj eW r)))=true:=fun r hr =>
  Dae hf2 r (by
   rcases hr with hr|hr
   ·exact Qb9 _ (mem_range.2 ⟨by omega,by omega⟩)
   ·exact Rbc _ (mem_range.2 hr))
 have hrk:∀ r c,τ.get (kR r)=some c->r<s0.nr\/(dj<=r/\r<dj+len):=by
  intro r c hk
  rcases Bae hk with ⟨t,e,_⟩|⟨t,e,_⟩|⟨r',e,hr⟩
  ·exact absurd e.symm jL
  ·exact absurd e.symm gB
  ·obtain rfl:=fT e
   rw[mc.nr]at hr
   rcases Rbu r s0.nr with h1|h1
   ·exact .inl h1
   ·rcases Rbu r dj with h2|h2
    ·rw[mc.none r h1 h2]at hk;cases hk
    ·exact .inr ⟨h2,hr⟩
 have oq:∀ r x m v st,τ.get (kR r)=some (.root x m v st)->st=.live\/st=.frozen->∃ x',s.get (kR (Tau dj eW r))=some (.root x' m v st)/\Oa3 s0.nv xs x=x':=by
  intro r x m v st hk cT;have h1:=fR r (hrk r _ hk);rw[hk]at h1
  rcases Na9 h1 with h2|h2
  ·rw[h2]at cT
   rcases cT with h|h<;>cases h
  ·exact h2
 let ρs:=ρ0++e
 let G':Gh:={ own:=fun b=>wP s0.nr eW dj (G.own b),hdr:=fun r=>G.hdr (Tau dj eW r),bx:=G.bx }
 have ig:∀ x,bF τ.nv x=true->x.val (ρ0++xs.map (·.val ρs))=(Oa3 s0.nv xs x).val ρs:=by
  intro x hx
  cases x with
  |c d=>rfl
  | v i =>
   simp only[bF,Sbn]at hx;rw[mc.nv]at hx;simp only[Oa3]
   cases hb:Sb0 i s0.nv with
   | true =>
    simp only[Sbn]at hb;simp only[cond_true,aP.val,Rbi,ρs];rw[Rbm (by omega),Rbm (by omega)]
   | false =>
    have mo:s0.nv<=i:=by
     rcases Rbu i s0.nv with h|h
     ·rw[<- Sbn,hb]at h;cases h
     ·exact h
    simp only[cond_false];have bh:i-s0.nv<xs.length:=by omega
    rw[Rbi,Rba bh,Tbd];simp only[aP.val,Rbi];rw[List.getElem?_append_right (by omega),List.getElem?_map,hn,Rba bh];rfl
 have H:Bbl τ s.get (ρ0++xs.map (·.val ρs)) ρs G' G τ.nv s0.nv xs dj eW s0.nr:=by
  refine⟨ig,mc.le,hle,fun _=>rfl,fun _=>rfl,rfl,fun r k hr hv=>?_,fun r k m hr hv=>?_⟩
  ·obtain⟨x,m,st,hk,cT⟩:=hv
   obtain⟨x',h1,-⟩:=oq r x m k st hk cT;rw[vB (by have:=mc.le;omega)]at h1;exact⟨x',m,st,h1,cT⟩
  ·obtain⟨x,hk⟩:=hv
   obtain⟨x',h1,-⟩:=oq r x m k .live hk (.inl rfl);rw[vB (by have:=mc.le;omega)]at h1;exact⟨x',h1⟩
 refine⟨G',hR.tmps,hR.defers,fun k c hk=>?_,?_,fun b ls hk hb ho=>?_⟩
 ·have mm:=mc.wf k c hk
  have kz:=vZ mm
  cases c with
  | slot g v =>
   cases g with
   |some g=>simp[uQ]at mm
   | none =>
    cases v with
    | dead =>
     simp only[uQ,Qb6]at mm;obtain⟨t,rfl,ht⟩:=Naq hk mm.2;exact⟨t,rfl,fun _=>trivial⟩
    | one l =>
     simp only[uQ,Qb6]at mm;obtain⟨t,rfl,ht⟩:=Naq hk mm.2.1;refine⟨t,rfl,fun _=>?_⟩;have h1:=lA t ht;rw[hk]at h1;obtain⟨b,h2,h3⟩:=Qa3 h1;have h4:aD s.get ρs G w b _:=hR.slot h2 rfl;simp only[dG,zC,Qb6]at kz;exact aD.fit H l _ kz.2 mm.2.2 (xZ h3 h4)
    | agg ls =>
     simp only[uQ,Qb6]at mm;obtain⟨t,rfl,ht⟩:=Naq hk mm.2.1;refine⟨t,rfl,fun _=>?_⟩;have h1:=lA t ht;rw[hk]at h1;obtain⟨b,h2,h3⟩:=Qa4 h1;obtain⟨vs,h4,h5⟩:dI s.get ρs G w (.agg b) _:=hR.slot h2 rfl;simp only[dG,zC,Qb6]at kz;exact⟨vs,h4,aH.fit H ls _ kz.2 mm.2.2 (Caz h3 h5)⟩
    |tup ts=>simp[uQ]at mm
  | box ro ls =>
   simp only[uQ,Qb6]at mm;obtain⟨b,rfl,hb⟩:=Hb7 hk mm.2.1;have h1:=pT b hb;rw[hk]at h1;obtain⟨bs,h2,h3⟩:=Gac h1;obtain⟨h4,h5,h6⟩:=hR.box h2;refine⟨b,rfl,h4,?_,fun j l hj=>?_⟩
   ·show wP _ _ _ _=_
    rw[h5];cases ro<;>rfl
   ·obtain⟨m,h7,h8⟩:=Ca1 h3 (Cay hj)
    obtain⟨v,h9,eo,fb⟩:=h6 j m h7;simp only[dG]at kz;exact⟨v,h9,eo,aD.fit H l v (oU kz hj) (Fav mm.2.2 hj) (xZ h8 fb)⟩
  | root x m cQ st =>
   have hm:Nat.beq (k % 3) 2=true:=by
    cases st<;>simp only[uQ,Qb6]at mm<;>first|exact mm.2|(exact absurd mm.2 (by decide))
   obtain⟨r,rfl,hr⟩:=Eby hk hm;have ux:=hrk r _ hk;refine⟨r,rfl,by rw[hk];rfl,?_⟩;simp only[dG]at kz;have a5i:r<s0.nr\/dj<=r:=ux.imp id (·.1)
   cases st with
   | live =>
    obtain⟨x',h1,h2⟩:=oq r x m cQ .live hk (.inl rfl);have h3:=hR.root h1;simp only[dB]at h3 ⊢;rw[ig x kz,h2]
    have:=h3.mono (own':=G'.own) (w':=w) (q:=[]) (q':=[]) (r':=r) (fun b hb=>⟨H.frz hb,rfl⟩) [] rfl (fun b t hb=>⟨by
     show wP _ _ _ _=_
     rw[hb];exact Iam mc.le hle a5i,rfl⟩)
    simpa using this
   | frozen =>
    obtain⟨x',h1,h2⟩:=oq r x m cQ .frozen hk (.inr rfl);obtain⟨h3,h4⟩:=hR.root h1;simp only[dB];rw[ig x kz,h2];refine⟨h3.mono fun b hb=>⟨H.frz hb,rfl⟩,fun b p hb=>?_⟩;exact h4 b p (Wac mc.le hb)
   |gone=>trivial
   |fwd r'=>simp[uQ]at mm
 ·refine⟨hR.frame.os,hR.frame.tape,hR.frame.output,hR.frame.size,fun b hb ho=>?_,fun b j hb ho=>?_,fun b hb=>?_⟩
  ·obtain⟨h1,h2⟩:=hR.frame.keep b hb ho
   refine⟨h1,?_⟩;show wP _ _ _ _=_
   rw[h2]
   rcases ho with ho|ho<;>rw[ho]<;>rfl
  ·obtain⟨h1,h2⟩:=hR.frame.boxes b j hb ho
   refine⟨?_,h2⟩;show wP _ _ _ _=_
   rw[h1];rfl
  ·show wP _ _ _ _=_
   rw[hR.frame.fresh b hb];rfl
 ·have h1:=pT b (by
   rcases Bae hk with ⟨t,e,_⟩|⟨t,e,ht⟩|⟨r',e,hr⟩
   ·exact absurd e.symm nC
   ·obtain rfl:=Ca6 e;exact ht
   ·exact absurd e gB)
  rw[hk]at h1;obtain⟨bs,h2,h3⟩:=Gac h1;have h4:=hR.rng b bs h2 hb ho;rw[h4,<- Ca0 h3,Cax]
def Zah (draw:Bool)(s:St)(r:cK):St:={ (s.puts r.upd) with nv:=s.nv+bT r.lets,nb:=s.nb+1,nr:=Sa8 draw s.nr r.upd }
inductive Oan (E:Env) (draw:Bool) (lj:Nat) (ops:List Oper):Nat->List Oper->St->List OpI->St->Prop
 |nil (i:Nat) (s:St):Oan E draw lj ops i [] s [] s
 | cons {i : Nat} {o : Oper} {os : List Oper} {s : St} {g : Option (aP × Bool)} {r : cK} {log : List Nat} {is : List OpI} {s' : St} (mv eR : Bool)
   (h1:(mV E ops mv eR s.nv s.nb s.nr o).run s.get=some ((g,r),log)) (h2:Ebt s g r=true)
   (h3:Oan E draw lj ops (i+1) os (Zah draw s r) is s'):Oan E draw lj ops i (o::os) s (⟨g,r,log,s.nb,s.nr⟩::is) s'
theorem Hae {E:Env}{draw:Bool}{lj:Nat}{ops:List Oper}:∀ {os:List Oper} {i:Nat} {s:St} {acc is:List OpI} {s':St},Xaj E draw lj ops i os s acc=.inl (is,s') ->
  ∃ js,is=acc.reverse++js/\Oan E draw lj ops i os s js s'
 | [], i, s, acc, is, s', h => by
  simp only[Xaj,Sum.inl.injEq,Rbx]at h;obtain⟨rfl,rfl⟩:=h;exact⟨[],by simp,.nil i s⟩
 | o :: os, i, s, acc, is, s', h => by
  simp only[Xaj]at h;split at h
  ·rename_i g r log cP
   cases sa:Ebt s g r with
   |false=>rw[sa]at h;simp at h
   | true =>
    rw[sa]at h;simp only[Sbf,cond_false]at h;obtain⟨js,h1,h2⟩:=Hae h;exact⟨⟨g,r,log,s.nb,s.nr⟩::js,by rw[h1];simp,.cons _ _ cP sa h2⟩
  ·cases h
structure Da1 (E:Env) (s:St):Prop where
 nt:E.ntmps<=s.nt
 sc:Aav s.get s.nv
def Oam (cf:Nat->List D->Option (List D))(ρ:List D):Nat->List OpI->Prop
 |_,[]=>True
 |nv,a::r=>aR cf ρ a.g nv a.res.lets/\Oam cf ρ (nv+bT a.res.lets) r
def Bao (P:Program)(E:Env)(F:bQ)(cf:Nat->List D->Option (List D)):Prop :=
 ∀ (σ:Nat->Option aU) (ρ:List D) (a:Act) (w:World) (G:Gh) (g:Option (aP×Bool)) (o:Oper) (Q:Exit->Act->World->Prop) (mv eR:Bool) (nv nb nr:Nat) (res:cK) (f:Operand) (args:Array Operand) (argTypes:Array TypeId),
  R E.ntmps F σ ρ a w G->gG E.ntmps o->Da2 σ nb nr->o.op=.call { callee:=.value f,args,argTypes } ->
  (sH E mv eR nv nb nr g o).eval σ=some res->res.upd.all (fun x=>Aad E.ntmps nb nr x.1)=true->aR cf ρ g nv res.lets->iL P E F σ ρ a w g o Q res.upd
section
variable {P:Program} {E:Env} {F:bQ} {cf:Nat->List D->Option (List D)} {draw:Bool}
theorem Kam {s:St}{g:Option (aP×Bool)}{r:cK}(h:Ebt s g r=true) :
  rH s.nv g=true/\fG s.nv r.lets=true/\r.upd.all (fun x=>dG (s.nv+bT r.lets) x.2)=true:=by
 simp only[Ebt,Qb6]at h;exact⟨h.1.1.2,h.1.2,h.2⟩
theorem Nae {ops:List Oper}{mv eR:Bool}{s:St}{o:Oper}{g:Option (aP×Bool)}{r:cK}{log:List Nat}(hi:E.ntmps<=s.nt)
  (h1:(mV E ops mv eR s.nv s.nb s.nr o).run s.get=some ((g,r),log)) (h2:Ebt s g r=true):(Zah draw s r).get=upds s.get r.upd:=by
 funext k;exact Ebs h2 hi (lC (RdM.run_eval h1)).2.2.2 draw _ k
theorem Da1.next {ops:List Oper}{mv eR:Bool}{s:St}{o:Oper}{g:Option (aP×Bool)}{r:cK}{log:List Nat}(hi:Da1 E s)
  (h1:(mV E ops mv eR s.nv s.nb s.nr o).run s.get=some ((g,r),log)) (h2:Ebt s g r=true):Da1 E (Zah draw s r):=by
 refine⟨?_,?_⟩
 ·show E.ntmps<=(s.puts r.upd).nt
  rw[(jS r.upd s).2.2.2];exact hi.nt
 ·rw[Nae hi.nt h1 h2]
  exact hi.sc.upds (Ubr ..) (Kam h2).2.2
theorem Vaj {lj:Nat}{ops:List Oper}{i:Nat}{os:List Oper}{s s':St}{is:List OpI}(hc:Oan E draw lj ops i os s is s') :
  ∀ {s'':St} {ρ:List D} {o:Out St},s''.nv=s'.nv->ρ.length=s.nv->Ec cf (Hag (.leaf .fall [] s'') is) ρ=some o ->
  o.kind=.fall/\o.ext=s''/\o.env.length=s'.nv/\(∃ ds,o.env=ρ++ds)/\∀ ext,Oam cf (o.env++ext) s.nv is:=by
 induction hc with
 | nil i s =>
  intro s'' ρ o hv hl h;simp only[Hag,gU,Qb7]at h;subst h;exact⟨rfl,rfl,hl,⟨[],by simp⟩,fun _=>trivial⟩
 | cons mv eR h1 h2 h3 ih =>
  rename_i i o' os s g r log is s';intro s'' ρ o hv hl h;simp only[Hag]at h;obtain⟨hg,hs,-⟩:=Kam h2;obtain⟨ds,h4,h5,h6⟩:=xB (by rw[hl];exact hg) (by rw[hl];exact hs) h;obtain⟨h7,h8,h9,⟨es,eo⟩,fb⟩:=ih hv (by rw[Rbh,h4,hl];rfl) h5;refine⟨h7,h8,h9,⟨ds++es,by rw[eo,Rbd]⟩,fun ext=>⟨?_,fb ext⟩⟩;have:=h6 (es++ext);rw[hl]at this;rw[eo];simpa[Rbd] using this
theorem Ab8 {lj:Nat}{ops:List Oper}{i:Nat}{os:List Oper}{s s':St}{is:List OpI}(hc:Oan E draw lj ops i os s is s')(hi:Da1 E s):Da1 E s':=by
 induction hc with
 |nil i s=>exact hi
 |cons mv eR h1 h2 h3 ih=>exact ih (hi.next h1 h2)
theorem Da1.trim {lo:Nat}{d:Bool}{s:St}(h:Da1 E s):Da1 E (trimS d lo s) :=
 ⟨by rw[yZ.2.2];exact h.nt,by rw[Oar,yZ.1];exact h.sc⟩
theorem Ab9 {lj:Nat}{ops:List Oper}{i:Nat}{os:List Oper}{s s':St}{is:List OpI}(hc:Oan E draw lj ops i os s is s'):∀ o∈os,gG E.ntmps o:=by
 induction hc with
 |nil i s=>simp
 | cons mv eR h1 h2 h3 ih =>
  intro o ho
  rcases Rbg.1 ho with rfl|ho
  ·exact (lC (RdM.run_eval h1)).2.1
  ·exact ih o ho
theorem Obo (hti:wU P E.ti)(eh:Bao P E F cf){ops:Array Oper}(od:∀ o∈ops.toList,gG E.ntmps o){mv eR:Bool}{s:St}{o:Oper}{g:Option (aP×Bool)}{r:cK}{ρ:List D}{a:Act}{w:World}{G:Gh}{Q:Exit->Act->World->Prop}
  {σ:Nat->Option aU} (hf:Da2 σ s.nb s.nr)
  (hR:R E.ntmps F σ ρ a w G) (h1:(mV E ops.toList mv eR s.nv s.nb s.nr o).eval σ=some (g,r)) (cT:aR cf ρ g s.nv r.lets):Jbh P E F σ ρ ops o Q r.upd a w:=by
 refine Ba2 hR hti od hf h1 cT fun f args argTypes ho=>?_
 obtain⟨h2,h3,h4,h5⟩:=lC h1;rw[Ja2 ho]at h4;exact eh σ ρ a w G g o Q mv eR s.nv s.nb s.nr r f args argTypes hR h3 hf ho h4 h5 cT
theorem Ab7 (hti:wU P E.ti)(eh:Bao P E F cf){lj:Nat}{ops:Array Oper}(od:∀ o∈ops.toList,gG E.ntmps o){Q:Exit->Act->World->Prop}{i:Nat}{os:List Oper}{s s':St}{is:List OpI}(hc:Oan E draw lj ops.toList i os s is s') :
  ∀ {ρ:List D} {a:Act} {w:World} {G:Gh},ops.toList.drop i=os->R E.ntmps F s.get ρ a w G->Da1 E s->Oam cf ρ s.nv is ->
  (∀ a' w' G',R E.ntmps F s'.get ρ a' w' G'->Q .normal a' w')->wpOps P ops Q (List.range' i os.length) a w:=by
 induction hc with
 | nil i s =>
  intro ρ a w G hdr hR hi cT hQ;exact hQ a w G hR
 | cons mv eR h1 h2 h3 ih =>
  rename_i i o os s g r log is s';intro ρ a w G hdr hR hi cT hQ
  have nz:ops[i]?=some o:=by
   rw[<- Sb6];have:(ops.toList.drop i)[0]?=some o:=by rw[hdr];rfl
   rwa[List.getElem?_drop,Sbg]at this
  rw[Rbw,List.range'_succ,wpOps_cons];unfold wpOp;rw[nz];have gg:=Obo (Q:=Q) hti eh od Qal hR (RdM.run_eval h1) cT.1
  have xF:∀ a w,Nx E.ntmps F s.get ρ r.upd a w->wpOps P ops Q (List.range' (i+1) os.length) a w:=by
   intro a' w' ⟨G',jf⟩;rw[<- Nae hi.nt h1 h2]at jf;exact ih (by rw[<- List.drop_drop,hdr];rfl) jf (hi.next h1 h2) cT.2 hQ
  unfold Jbh at gg;dsimp only;split
  ·rename_i hw
   rw[if_pos hw]at gg;exact .inl (Oper.wp_mono xF gg)
  ·rename_i hw
   rw[if_neg hw]at gg;exact xF _ _ gg
end
theorem qQ {a b:List Nat}(h:meets a b=false){k:Nat}(ha:k∈a):k∉b:=by
 intro hb
 have:meets a b=true:=by
  unfold meets;rw[List.any_eq_true];exact⟨k,ha,nV.2 hb⟩
 rw[h]at this;cases this
theorem Ga7 {acc:List Nat}:∀ {es:List Edge} {m b:Nat},Tbz (Aay acc es m) b=true->Tbz m b=true\/∃ e∈es,Region.binds .any e=true/\(b=e.on\/Tbz (acc.getD e.on 0) b=true)
 |[],m,b,h=>.inl h
 | e :: es, m, b, h => by
  have h':Tbz (Aay acc es (bif Region.binds .any e then (m ||| 2 ^ e.on) ||| acc.getD e.on 0 else m)) b=true:=h
  rcases Ga7 (es:=es) h' with h1|⟨e',zo,h1⟩
  ·cases hb:Region.binds .any e with
   |false=>rw[hb,cond_false]at h1;exact .inl h1
   | true =>
    rw[hb,cond_true]at h1;simp only[Nat.testBit_or,Sbv,Nat.testBit_two_pow,decide_eq_true_eq]at h1
    rcases h1 with (h1|h1)|h1
    ·exact .inl h1
    ·exact .inr ⟨e,Rbr,hb,.inl h1.symm⟩
    ·exact .inr ⟨e,Rbr,hb,.inr h1⟩
  ·exact .inr ⟨e',Rbl _ zo,h1⟩
theorem Ga6:∀ {os:List Oper} {acc:List Nat} {i w:Nat},acc[i]?=some w->(waits os acc)[i]?=some w
 |[],_,_,_,h=>h
 | o :: os, acc, i, w, h => by
  refine Ga6 (os:=os) ?_;rw[Rbm (Qb8.1 h).1];exact h
theorem Oaq:∀ {os:List Oper} {acc:List Nat} {p w:Nat} {o:Oper},os[p]?=some o->(waits os acc)[acc.length+p]?=some w->∀ b,Tbz w b=true ->
  ∃ e∈o.after.toList,Region.binds .any e=true/\(b=e.on\/∃ w',(waits os acc)[e.on]?=some w'/\Tbz w' b=true)
 |[],acc,p,w,o,ho,_,_,_=>by simp at ho
 | o' :: os, acc, 0, w, o, ho, hw, b, hb => by
  simp only[Rbf,Qb7]at ho;subst ho;have h1:(acc++[Aay acc o'.after.toList 0])[acc.length]?=some (Aay acc o'.after.toList 0):=by simp
  have h2:=Ga6 (os:=os) h1;simp only[waits,Sbg]at hw;rw[h2]at hw;obtain rfl:=Rb5 hw
  rcases Ga7 hb with h3|⟨e,he,h4,h5⟩
  ·simp at h3
  ·refine⟨e,he,h4,h5.imp id fun h6=>?_⟩
   rw[Rbi]at h6
   cases ha:acc[e.on]? with
   |none=>rw[ha]at h6;simp at h6
   | some w' =>
    rw[ha,Tbd]at h6;have bh:=(Qb8.1 ha).1;exact⟨w',Ga6 (os:=os) (by rw[Rbm bh];exact ha),h6⟩
 | o' :: os, acc, p + 1, w, o, ho, hw, b, hb => by
  have:=Oaq (os:=os) (acc:=acc++[Aay acc o'.after.toList 0]) (p:=p) (w:=w) (o:=o) (by simpa using ho) (by
   simp only[Rbh,List.length_singleton];simp only[waits]at hw;rw[<- hw];congr 1
   omega) b hb
  exact this
theorem Fa2 {a:OpI}{i:Nat}:∀ {bs:List OpI} {ws:List Nat},Daa a i bs ws=true->∀ {q:Nat} {b:OpI},bs[q]?=some b->∃ w,ws[q]?=some w/\(Tbz w i=true\/sS a b=true)
 |[],_,_,q,b,h=>by simp at h
 |_::_,[],h,_,_,_=>by simp[Daa]at h
 | b :: bs, w :: ws, h, q, b', hq => by
  simp only[Daa,Qb6,Sbv]at h
  cases q with
  | zero =>
   simp only[Rbf,Qb7]at hq;subst hq;exact⟨w,rfl,h.1⟩
  |succ q=>exact Fa2 h.2 (by simpa using hq)
theorem Cal:∀ {is:List OpI} {ws:List Nat} {i:Nat},xL is ws i=true->∀ {p q:Nat} {a b:OpI},p<q->is[p]?=some a->is[q]?=some b ->
  ∃ w,ws[q]?=some w/\(Tbz w (i+p)=true\/sS a b=true)
 |[],_,_,_,p,q,a,b,_,hp,_=>by simp at hp
 | x :: is, ws, i, h, p, q, a, b, hpq, hp, hq => by
  simp only[xL,Qb6]at h
  cases q with
  |zero=>omega
  | succ q =>
   cases p with
   | zero =>
    simp only[Rbf,Qb7]at hp;subst hp;obtain⟨w,h1,h2⟩:=Fa2 h.1 (q:=q) (by simpa using hq);exact⟨w,by rw[List.getElem?_tail]at h1;exact h1,h2⟩
   | succ p =>
    obtain⟨w,h1,h2⟩:=Cal h.2 (p:=p) (q:=q) (by omega) (by simpa using hp) (by simpa using hq);exact⟨w,by rw[List.getElem?_tail]at h1;exact h1,by rw[show i+(p+1)=i+1+p by omega];exact h2⟩
theorem Gaa:∀ {os:List Oper} {i:Nat},Dam os i=true->∀ {p:Nat} {o:Oper},os[p]?=some o->∀ e∈o.after.toList,Region.binds .any e=true->e.on<i+p
 |[],_,_,p,o,h,_,_,_=>by simp at h
 | x :: os, i, h, p, o, hp, e, he, hb => by
  simp only[Dam,Qb6,Rb6,Sbv,Rb0,Sbn]at h
  cases p with
  | zero =>
   simp only[Rbf,Qb7]at hp;subst hp
   rcases h.1 e he with h1|h1
   ·rw[hb]at h1;cases h1
   ·omega
  | succ p =>
   have:=Gaa h.2 (p:=p) (by simpa using hp) e he hb;omega
def sig (D:Nat->Bool):Nat->List OpI->(Nat->Option aU)->Nat->Option aU
 |_,[],σ=>σ
 |i,a::r,σ=>sig D (i+1) r (bif D i then upds σ a.res.upd else σ)
def Wr (a:OpI)(k:Nat):Prop:=∃ c,(k,c)∈a.res.upd
theorem Lai {a:OpI}{σ:Nat->Option aU}{k:Nat}(h:¬ Wr a k):upds σ a.res.upd k=σ k:=fP _ _ _ fun c hc=>h ⟨c,hc⟩
theorem Ba4 {D D':Nat->Bool}{k:Nat}:∀ {is:List OpI} {i:Nat} {σ fj:Nat->Option aU},(∀ p a,is[p]?=some a->Wr a k->D (i+p)=D' (i+p))->σ k=fj k->sig D i is σ k=sig D' i is fj k
 |[],i,σ,fj,_,h=>h
 | a :: r, i, σ, fj, hd, h => by
  simp only[sig];refine Ba4 (fun p b hb hw=>?_) ?_
  ·have:=hd (p+1) b (by simpa using hb) hw
   rw[show i+(p+1)=i+1+p by omega]at this;exact this
  ·by_cases hw:Wr a k
   ·have:=hd 0 a rfl hw
    rw[Sbg]at this;rw[this]
    cases D' i with
    |false=>exact h
    |true=>exact tT _ _ _ _ h
   ·have e:∀ (x:Bool) (τ:Nat->Option aU),(bif x then upds τ a.res.upd else τ) k=τ k:=by
     intro x τ
     cases x with
     |false=>rfl
     |true=>exact Lai hw
    rw[e,e];exact h
theorem xC {D:Nat->Bool}{k:Nat}:∀ {is:List OpI} {i:Nat} {σ:Nat->Option aU},(∀ p a,is[p]?=some a->Wr a k->D (i+p)=false)->sig D i is σ k=σ k
 |[],i,σ,_=>rfl
 | a :: r, i, σ, hd => by
  simp only[sig]
  rw[xC fun p b hb hw=>by
   have:=hd (p+1) b (by simpa using hb) hw;rw[show i+(p+1)=i+1+p by omega]at this;exact this]
  by_cases hw:Wr a k
  ·have:=hd 0 a rfl hw
   rw[Sbg]at this;rw[this];rfl
  ·cases D i with
   |false=>rfl
   |true=>exact Lai hw
theorem Ta0 {D:Nat->Bool}{k:Nat}:∀ {is:List OpI} {i p:Nat} {a:OpI} {σ τ:Nat->Option aU},is[p]?=some a->D (i+p)=true->Wr a k->(∀ q b,p<q->is[q]?=some b->Wr b k->D (i+q)=false) ->
  sig D i is σ k=upds τ a.res.upd k
 |[],i,p,a,σ,τ,hp,_,_,_=>by simp at hp
 | x :: r, i, 0, a, σ, τ, hp, hD, hw, hq => by
  simp only[Rbf,Qb7]at hp;subst hp;rw[Sbg]at hD;simp only[sig]
  rw[xC fun q b hb yh=>by
   have:=hq (q+1) b (by omega) (by simpa using hb) yh;rw[show i+(q+1)=i+1+q by omega]at this;exact this,hD,cond_true]
  exact Gaj _ _ _ _ hw
 | x :: r, i, p + 1, a, σ, τ, hp, hD, hw, hq => by
  simp only[sig];refine Ta0 (p:=p) (by simpa using hp) (by rw[show i+1+p=i+(p+1) by omega];exact hD) hw fun q b hpq hb yh=>?_
  have:=hq (q+1) b (by omega) (by simpa using hb) yh;rw[show i+(q+1)=i+1+q by omega]at this;exact this
section
variable {P:Program} {E:Env} {F:bQ} {cf:Nat->List D->Option (List D)}
theorem Taz {D:Nat->Bool}{is:List OpI}{i:Nat}{σ:Nat->Option aU}(h:∀ q,i<=q->D q=false):sig D i is σ=σ :=
 funext fun k=>xC fun p a _ _=>h _ (Ubr ..)
structure At (E:Env) (ops:List Oper) (cf:Nat->List D->Option (List D)) (ρ:List D) (σ0:Nat->Option aU) (i0:Nat) (is:List OpI) (p:Nat) (o:Oper) (a:OpI) (s0:St):Prop where
 run:∃ mv eR nv,(mV E ops mv eR nv a.nb a.nr o).run (sig (fun q=>decide (q<i0+p)) i0 is σ0)=some ((a.g,a.res),a.log)/\aR cf ρ a.g nv a.res.lets
 nb:a.nb=s0.nb+p
 nr:a.nr=s0.nr+dE*p
theorem Fbo {lj:Nat}{ops:List Oper}{i:Nat}{os:List Oper}{s s':St}{is:List OpI}(hc:Oan E true lj ops i os s is s') :
  ∀ {ρ:List D},Da1 E s->Oam cf ρ s.nv is->is.length=os.length/\s'.get=sig (fun _=>true) i is s.get/\∀ p o,os[p]?=some o->∃ a,is[p]?=some a/\At E ops cf ρ s.get i is p o a s:=by
 induction hc with
 |nil i s=>exact fun _ _=>⟨rfl,rfl,by simp⟩
 | cons mv eR h1 h2 h3 ih =>
  rename_i i o os s g r log is s';intro ρ hi cT;obtain⟨h4,h5,h6⟩:=ih (hi.next h1 h2) cT.2;have hg:=Nae (draw:=true) hi.nt h1 h2;refine⟨by simp[h4],?_,fun p o' hp=>?_⟩
  ·rw[h5,hg];rfl
  ·cases p with
   | zero =>
    simp only[Rbf,Qb7]at hp;subst hp;refine⟨_,rfl,⟨mv,eR,s.nv,?_,cT.1⟩,rfl,rfl⟩;rw[Sbg,Taz fun q hq=>by simpa using hq];exact h1
   | succ p =>
    obtain⟨a,h7,h8⟩:=h6 p o' (by simpa using hp);refine⟨a,by simpa using h7,?_,?_,?_⟩
    ·obtain⟨mv',a08,nv',h9,eo⟩:=h8.run
     refine⟨mv',a08,nv',?_,eo⟩;simp only[sig];have:(decide (i<i+(p+1)):Bool)=true:=by simp
     rw[this,cond_true,<- hg,show i+(p+1)=i+1+p by omega];exact h9
    ·rw[h8.nb];show s.nb+1+p=_;omega
    ·rw[h8.nr]
     show s.nr+dE+dE*p=_
     rw[Nat.mul_succ];omega
theorem Uaf {a:OpI}{n nb nr k:Nat}(h:a.res.upd.all (fun x=>Aad n nb nr x.1)=true)(hw:Wr a k):Aad n nb nr k=true:=by
 obtain⟨c,hc⟩:=hw;rw[Rb6]at h;exact h _ hc
theorem Zas {n nb nr b:Nat}(h:Aad n nb nr (kB b)=true):b<=nb:=by
 unfold Aad at h;rw[Qaa]at h;have:kB b / 3=b:=by unfold kB;omega
 rw[this]at h;simpa using h
theorem Eau {n nb nr r:Nat}(h:Aad n nb nr (kR r)=true):r<nr+dE:=by
 unfold Aad at h;rw[Pa9]at h;have:kR r / 3=r:=by unfold kR;omega
 rw[this]at h;simpa using h
structure Gb0 (E:Env) (ops:Array Oper) (cf:Nat->List D->Option (List D)) (ρ:List D) (s:St) (is:List OpI):Prop where
 len:is.length=ops.size
 at_:∀ p o,ops.toList[p]?=some o->∃ a,is[p]?=some a/\At E ops.toList cf ρ s.get 0 is p o a s
 free:∀ p q a b,p<q->is[p]?=some a->is[q]?=some b->(∃ w,(waits ops.toList [])[q]?=some w/\Tbz w p=true)\/sS a b=true
 low:∀ p o,ops.toList[p]?=some o->∀ e∈o.after.toList,Region.binds .any e=true->e.on<p
 dst:∀ o∈ops.toList,gG E.ntmps o
def dn (l:Array Bool)(q:Nat):Bool:=l.getD q false
def Closed (ops:Array Oper)(l:Array Bool):Prop:=∀ q w p,dn l q=true->(waits ops.toList [])[q]?=some w->Tbz w p=true->dn l p=true
theorem apart_spec {a b:OpI}(h:sS a b=true):(∀ k,Wr a k->k∉b.log)/\(∀ k,Wr a k->¬ Wr b k)/\(∀ k,k∈a.log->¬ Wr b k)/\∀ k,Wr b k->Nax a k=false:=by
 simp only[sS,Qb6,Rb0]at h;obtain⟨⟨⟨h1,h2⟩,h3⟩,h4⟩:=h
 have key:∀ {x:OpI} {k:Nat},Wr x k↔k∈x.res.upd.map (·.1):=by
  intro x k;simp only[Sbp];constructor
  ·rintro⟨c,hc⟩;exact⟨_,hc,rfl⟩
  ·rintro⟨⟨k',c⟩,hc,rfl⟩;exact⟨c,hc⟩
 refine⟨fun k hk=>qQ h1 (key.1 hk),fun k hk hb=>qQ h2 (key.1 hk) (key.1 hb),fun k hk hb=>qQ h3 hk (key.1 hb),fun k hk=>?_⟩;rw[List.any_eq_false]at h4;simpa using h4 k (key.1 hk)
theorem Sa5:∀ {l:List Bool} {i:Nat},l[i]?=some false->(l.set i true).count false+1=l.count false
 |[],i,h=>by simp at h
 | b :: l, 0, h => by
  simp only[Rbf,Qb7]at h;subst h;simp
 | b :: l, i + 1, h => by
  have:=Sa5 (l:=l) (i:=i) (by simpa using h);simp only[List.set_cons_succ,List.count_cons];omega
theorem Kae {ops:Array Oper}{l:Array Bool}{i:Nat}(hl:l.size=ops.size)(h:i∈Region.ready .any ops l) :
  ∃ o,ops[i]?=some o/\l[i]?=some false/\∀ e∈o.after.toList,Region.binds .any e=true->dn l e.on=true:=by
 unfold Region.ready at h;rw[Tbr,Ubj]at h;obtain⟨h1,h2⟩:=h;simp only[Qb6,Rb0]at h2;have ho:ops[i]?=some ops[i]:=Rb9 h1;rw[ho,Sbq,Tbd]at h2;refine⟨_,ho,?_,fun e he hb=>?_⟩
 ·have h3:=h2.1
  rw[Sbo]at h3;have bh:i<l.size:=by omega
  rw[Rb9 bh,Tbd]at h3;rw[Rb9 bh,h3]
 ·have h3:=h2.2
  rw[<- Array.all_toList,Rb6]at h3;have:=h3 e he;rw[hb]at this;simpa[dn] using this
theorem ready_nil {ops:Array Oper}{l:Array Bool}(hl:l.size=ops.size)(tz:∀ p o,ops.toList[p]?=some o->∀ e∈o.after.toList,Region.binds .any e=true->e.on<p)
  (h:Region.ready .any ops l=[]):∀ q,q<ops.size->dn l q=true:=by
 intro q
 induction q using Nat.strongRecOn with
 | _ q ih =>
  intro hq
  cases hd:dn l q with
  |true=>rfl
  | false =>
   exfalso;have ho:ops[q]?=some ops[q]:=Rb9 hq
   have:q∈Region.ready .any ops l:=by
    unfold Region.ready;rw[Tbr,Ubj];refine⟨hq,?_⟩;simp only[Qb6,Rb0];refine⟨?_,?_⟩
    ·have bh:q<l.size:=by omega
     unfold dn at hd;rw[Sbo,Rb9 bh,Tbd]at hd ⊢;exact hd
    ·rw[ho,Sbq,Tbd,<- Array.all_toList,Rb6]
     intro e he
     cases hb:Region.binds .any e with
     |false=>rfl
     | true =>
      have bh:=tz q _ (by rw[Sb6];exact ho) e he hb;have:=ih e.on bh (by omega);simpa[dn] using this
   rw[h]at this;simp at this
theorem Uau {l:Array Bool}{i:Nat}(hi:i<l.size)(q:Nat):dn (l.setIfInBounds i true) q=(decide (q=i)||dn l q):=by
 unfold dn;rw[Sbo,Sbo,Array.getElem?_setIfInBounds];by_cases h:i=q
 ·subst h
  simp[hi]
 ·rw[if_neg h]
  have:(decide (q=i):Bool)=false:=by simp;exact fun e=>h e.symm
  rw[this,Tbn]
theorem Fbi (hti:wU P E.ti)(eh:Bao P E F cf){ops:Array Oper}{s:St}{is:List OpI}{ρ:List D}(hd:Gb0 E ops cf ρ s is){Q:Exit->Act->World->Prop}
  (hQ:∀ a' w' G',R E.ntmps F (sig (fun _=>true) 0 is s.get) ρ a' w' G'->Q .normal a' w') :
  ∀ (fuel:Nat) (l:Array Bool) (a:Act) (w:World) (G:Gh),l.size=ops.size->l.toList.count false<=fuel->Closed ops l->R E.ntmps F (sig (dn l) 0 is s.get) ρ a w G ->
  wpAny P .any ops Q fuel l a w:=by
 have xt:∀ (l:Array Bool) (a:Act) (w:World) (G:Gh),l.size=ops.size->R E.ntmps F (sig (dn l) 0 is s.get) ρ a w G->Region.ready .any ops l=[]->Q .normal a w:=by
  intro l a w G hl hR hr;have df:=ready_nil hl hd.low hr;refine hQ a w G ?_
  have:sig (fun _=>true) 0 is s.get=sig (dn l) 0 is s.get:=by
   funext k;refine Ba4 (fun p a hp _=>?_) rfl;have bh:=(Qb8.1 hp).1;rw[hd.len]at bh;rw[df _ (by omega)]
  rw[this];exact hR
 intro fuel
 induction fuel with
 | zero =>
  intro l a w G hl u9 fw hR
  have fx:Region.ready .any ops l=[]:=by
   cases hr:Region.ready .any ops l with
   |nil=>rfl
   | cons i r =>
    exfalso;obtain⟨o,h1,h2,h3⟩:=Kae hl (by rw[hr];exact Rbr:i∈Region.ready .any ops l);rw[<- Sb6]at h2;have:=Sa5 h2;omega
  exact⟨fx,xt l a w G hl hR fx⟩
 | succ fuel ih =>
  intro l a w G hl u9 fw hR;refine⟨xt l a w G hl hR,fun i hi=>?_⟩;obtain⟨o,ho,y3,tM⟩:=Kae hl hi;have hoL:ops.toList[i]?=some o:=by rw[Sb6];exact ho
  have pr:i<l.size:=by
   rw[<- Sb6]at y3;have:=(Qb8.1 y3).1;simpa using this
  obtain⟨ai,hai,ig⟩:=hd.at_ i o hoL;obtain⟨mv,eR,nv,cP,cT⟩:=ig.run
  have u5:dn l i=false:=by
   unfold dn;rw[Sbo,y3];rfl
  have xb:∀ w p,(waits ops.toList [])[i]?=some w->Tbz w p=true->dn l p=true:=by
   intro w' p hw hb;obtain⟨e,he,hbe,h1⟩:=Oaq (acc:=[]) (p:=i) hoL (by simpa using hw) p hb
   rcases h1 with h1|⟨w'',h1,h2⟩
   ·rw[h1];exact tM e he hbe
   ·exact fw e.on w'' p (tM e he hbe) h1 h2
  have vu:∀ p b,p<i->is[p]?=some b->dn l p=false->sS b ai=true:=by
   intro p b hpi hb hnd
   rcases hd.free p i b ai hpi hb hai with ⟨w',h1,h2⟩|h
   ·rw[xb w' p h1 h2]at hnd;cases hnd
   ·exact h
  have mw:∀ q b,i<q->is[q]?=some b->dn l q=true->sS ai b=true:=by
   intro q b hiq hb y9
   rcases hd.free i q ai b hiq hai hb with ⟨w',h1,h2⟩|h
   ·rw[fw q w' i y9 h1 h2]at u5;cases u5
   ·exact h
  have a2u:∀ k∈ai.log,sig (dn l) 0 is s.get k=sig (fun q=>decide (q<0+i)) 0 is s.get k:=by
   intro k hk;refine Ba4 (fun p b hb hw=>?_) rfl;rw[Rb2,Rb2]
   rcases Ubf p i with h|h|h
   ·have e:(decide (p<i):Bool)=true:=by simpa using h
    rw[e]
    cases hdp:dn l p with
    |true=>rfl
    |false=>exact absurd hk ((apart_spec (vu p b h hb hdp)).1 k hw)
   ·subst h
    rw[u5];simp
   ·have e:(decide (p<i):Bool)=false:=by simp;omega
    rw[e]
    cases hdp:dn l p with
    |false=>rfl
    |true=>exact absurd hw ((apart_spec (mw p b h hb hdp)).2.2.1 k hk)
  have xo:=RdM.run_eval (RdM.run_same cP a2u)
  have lB:∀ (p:Nat) (b:OpI),is[p]?=some b->∃ nv' ,b.res.upd.all (fun x=>Aad E.ntmps (s.nb+p) (s.nr+dE*p) x.1)=true/\nv'=nv:=by
   intro p b hb;have bh:=(Qb8.1 hb).1
   have kO:ops.toList[p]?=some ops.toList[p]!:=by
    rw[List.getElem!_eq_getElem?_getD,Rba (by simpa[<- hd.len] using bh)];rfl
   obtain⟨b',e9,zj⟩:=hd.at_ p _ kO;rw[hb]at e9;obtain rfl:=Rb5 e9;obtain⟨mv',a08,nv',hr',-⟩:=zj.run;have:=(lC (RdM.run_eval hr')).2.2.2;rw[zj.nb,zj.nr]at this;exact⟨nv,this,rfl⟩
  have q0:Da2 (sig (dn l) 0 is s.get) ai.nb ai.nr:=by
   have hf:=Qal (s:=s);refine⟨?_,fun j zb kq=>?_⟩
   ·rw[xC fun p b hb hw=>?_]
    ·rw[ig.nb]
     unfold St.get wS kB;have e:(3*(s.nb+i)+1) % 3=1:=by omega
     have e2:(3*(s.nb+i)+1) / 3=s.nb+i:=by omega
     rw[e,e2]
     have:Sb0 (s.nb+i) s.nb=false:=by
      cases hb:Sb0 (s.nb+i) s.nb with
      |false=>rfl
      |true=>simp only[Sbn]at hb;omega
     rw[this];rfl
    ·rw[Rb2]
     obtain⟨_,hk,-⟩:=lB p b hb;have h1:=Zas (Uaf hk hw);rw[ig.nb]at h1
     rcases Ubf p i with h|h|h
     ·omega
     ·rw[h];exact u5
     ·cases hdp:dn l p with
      |false=>rfl
      | true =>
       have:=(apart_spec (mw p b h hb hdp)).2.2.2 _ hw;unfold Nax at this;rw[Qaa]at this;have e2:kB ai.nb / 3=ai.nb:=by unfold kB;omega
       rw[e2]at this;simp at this
   ·rw[xC fun p b hb hw=>?_]
    ·unfold St.get wS kR
     have e:(3*j+2) % 3=2:=by omega
     have e2:(3*j+2) / 3=j:=by omega
     rw[e,e2]
     have:Sb0 j s.nr=false:=by
      cases hb:Sb0 j s.nr with
      |false=>rfl
      |true=>simp only[Sbn]at hb;rw[ig.nr]at zb;omega
     rw[this];rfl
    ·rw[Rb2]
     obtain⟨_,hk,-⟩:=lB p b hb;have h1:=Eau (Uaf hk hw)
     rcases Ubf p i with h|h|h
     ·rw[ig.nr]at zb
      have:dE*(p+1)<=dE*i:=Nat.mul_le_mul_left _ h;rw[Nat.mul_succ]at this;omega
     ·rw[h];exact u5
     ·cases hdp:dn l p with
      |false=>rfl
      | true =>
       have:=(apart_spec (mw p b h hb hdp)).2.2.2 _ hw;unfold Nax at this;rw[Pa9]at this;have e2:kR j / 3=j:=by unfold kR;omega
       rw[e2]at this;have e3:Nat.ble ai.nr j=true:=by simpa using zb
       have e4:Sb0 j (ai.nr+dE)=true:=by simpa using kq
       rw[e3,e4]at this;simp at this
  have gg:Jbh P E F (sig (dn l) 0 is s.get) ρ ops o Q ai.res.upd a w:=by
   refine Ba2 hR hti hd.dst q0 xo cT fun f args argTypes wg=>?_
   obtain⟨h2,h3,h4,h5⟩:=lC xo;rw[Ja2 wg]at h4;exact eh _ ρ a w G ai.g o Q mv eR nv _ _ ai.res f args argTypes hR h3 q0 wg h4 h5 cT
  have a2c:sig (dn (l.setIfInBounds i true)) 0 is s.get=upds (sig (dn l) 0 is s.get) ai.res.upd:=by
   funext k;by_cases hw:Wr ai k
   ·refine Ta0 hai (by rw[Rb2,Uau pr];simp) hw fun q b hiq hb yh=>?_
    rw[Rb2,Uau pr];have e:(decide (q=i):Bool)=false:=by simp;omega
    rw[e,Tbn]
    cases y9:dn l q with
    |false=>rfl
    |true=>exact absurd yh ((apart_spec (mw q b hiq hb y9)).2.1 k hw)
   ·rw[Lai hw]
    refine Ba4 (fun p b hb yh=>?_) rfl;rw[Rb2,Uau pr]
    have e:(decide (p=i):Bool)=false:=by
     simp;intro e;subst e;rw[hai]at hb;obtain rfl:=Rb5 hb;exact hw yh
    rw[e,Tbn]
  have a6m:Closed ops (l.setIfInBounds i true):=by
   intro q w' p y9 hw hb;rw[Uau pr]at y9 ⊢;by_cases e:q=i
   ·subst e
    rw[xb w' p hw hb,Bool.or_true]
   ·have e':(decide (q=i):Bool)=false:=by simp[e]
    rw[e',Tbn]at y9;rw[fw q w' p y9 hw hb,Bool.or_true]
  have xF:∀ a w,Nx E.ntmps F (sig (dn l) 0 is s.get) ρ ai.res.upd a w->wpAny P .any ops Q fuel (l.setIfInBounds i true) a w:=by
   intro a' w' ⟨G',jf⟩;rw[<- a2c]at jf;refine ih _ a' w' G' (by simp[hl]) ?_ a6m jf;rw[Array.toList_setIfInBounds];rw[<- Sb6]at y3;have:=Sa5 y3;omega
  unfold wpOp;rw[ho];unfold Jbh at gg;dsimp only;split
  ·rename_i hw
   rw[if_pos hw]at gg;exact .inl (Oper.wp_mono xF gg)
  ·rename_i hw
   rw[if_neg hw]at gg;exact xF _ _ gg
end
section
variable {P:Program} {E:Env} {F:bQ} {cf:Nat->List D->Option (List D)} {n:Nat} {σ:Nat->Option aU} {ρ:List D} {a:Act} {w:World} {G:Gh}
theorem R.world {w':World}(h:R n F σ ρ a w G)(hh:w'.heap=w.heap)(ho:w'.os=w.os)(ht:w'.tape=w.tape)(hp:w'.output=w.output):R n F σ ρ a w' G:=by
 have fq:Fr σ G w (upds σ []) G w':=by
  refine⟨fun b hb _=>⟨hb,by rw[hh]⟩,fun r k _ h=>h,fun r k h=>h,fun r k b p _ _ h=>⟨.inl h,by rw[hh]⟩,fun r k m _ h=>⟨h,fun b p h=>h⟩,fun _ _=>rfl,fun _ _=>rfl,fun k h=>h,fun _ _ _ _ _ _ _ h=>h⟩
 exact h.upd [] fq h.tmps h.defers ⟨ho.trans h.frame.os,ht.trans h.frame.tape,hp.trans h.frame.output,by rw[hh];exact h.frame.size,
  fun b hb hf=>by rw[hh];exact h.frame.keep b hb hf,fun b j hb hj=>by rw[hh];exact h.frame.boxes b j hb hj,fun b hb=>h.frame.fresh b (by rw[<- hh];exact hb)⟩
  (fun t _=>rfl) (fun b ro ls _ _=>⟨rfl,by rw[hh]⟩) (fun b ls hb=>by simp at hb) (fun k c hk=>by simp at hk)
theorem Oa9 (hti:wU P E.ti)(eh:Bao P E F cf)(hm:P.follows .mixedOrders=true){lj:Nat}{ops:Array Oper}{draw:Bool}{s:St}{o:Out St}
  (h:Ec cf (Mao E false lj ops.toList draw s) ρ=some o) (hl:ρ.length=s.nv) (hi:Da1 E s) :
  (o.kind=.fall/\o.env.length=o.ext.nv/\Da1 E o.ext/\∃ ds,o.env=ρ++ds) /\
  ∀ a w G Q,R E.ntmps F s.get ρ a w G->(∀ a' w' G',R E.ntmps F o.ext.get o.env a' w' G'->Q .normal a' w')->(Code.region lj ops draw).wp P Q a w:=by
 unfold Mao at h;split at h
 case h_2=>simp only[cond_false,kI]at h;cases h
 rename_i is s' a4y;obtain⟨js,hjs,hc⟩:=Hae a4y;simp only[List.reverse_nil,Sbm]at hjs;subst hjs;have od:=Ab9 hc
 cases hb:(!draw||(Dam ops.toList 0&&xL is (waits ops.toList []) 0)) with
 |false=>rw[hb]at h;simp only[cond_false,kI]at h;cases h
 | true =>
  rw[hb,cond_true]at h;obtain⟨h1,h2,h3,⟨ds,h4⟩,h5⟩:=Vaj hc yZ.1 hl h;have tE:=h5 [];rw[Rb1]at tE;refine⟨⟨h1,by rw[h2,yZ.1];exact h3,by rw[h2];exact (Ab8 hc hi).trim,ds,h4⟩,fun a w G Q hR hQ=>?_⟩;rw[h2,Oar]at hQ;have jf:R E.ntmps F s.get o.env a w G:=by rw[h4];exact hR.ext hi.sc (by omega) ds
  cases draw with
  | false =>
   refine wp_region ?_;rw[List.range_eq_range'];have:=Ab7 hti eh (ops:=ops) od hc (by simp) jf hi tE hQ;simpa using this
  | true =>
   simp only[Sbf,Tbn,Qb6]at hb;obtain⟨hlen,vm,ig⟩:=Fbo (ρ:=o.env) (cf:=cf) hc hi tE;have a2w:is.length=ops.size:=by rw[hlen];simp
   have hd:Gb0 E ops cf o.env s is:=by
    refine⟨a2w,ig,fun p q x y hpq hp hq=>?_,fun p o' hp e he hbe=>?_,od⟩
    ·obtain⟨w',h6,h7⟩:=Cal hb.2 hpq hp hq
     rw[Rb2]at h7;exact h7.imp (fun h7=>⟨w',h6,h7⟩) id
    ·have:=Gaa hb.1 hp e he hbe
     omega
   refine wp_region_any hm ?_;refine Fbi hti eh hd (fun a' w' G' tn=>hQ a' w' G' (by rw[vm];exact tn)) ops.size _ a _ G (by simp) ?_ ?_ ?_
   ·simp only[Array.toList_replicate,List.count_replicate_self,Rbt]
   ·intro q w' p hq
    unfold dn at hq;rw[Sbo,Array.getElem?_replicate]at hq;split at hq<;>simp at hq
   ·rw[Taz fun q _=>by
     unfold dn;rw[Sbo,Array.getElem?_replicate];split<;>rfl]
    exact jf.world rfl rfl rfl rfl
end
theorem Ca5 {s:St}{k:Nat}{c:aU}(h:s.get k=some c):wS s.nt s.nb s.nr k=true:=by
 unfold St.get at h
 cases e:wS s.nt s.nb s.nr k with
 |true=>rfl
 |false=>rw[e]at h;cases h
theorem Pa8 {nt nb nr r:Nat}(h:r<nr):wS nt nb nr (kR r)=true:=by
 unfold wS;rw[Pa9];have:kR r / 3=r:=by unfold kR;omega
 rw[this];simpa using h
theorem zJ {s:St}{u:List (Nat×aU)}(h:∀ k c,(k,c)∈u->wS s.nt s.nb s.nr k=true):(s.puts u).get=upds s.get u:=by
 funext k;obtain⟨e1,e2,e3,e4⟩:=jS u s;unfold St.get;rw[e2,e3,e4,Naa];by_cases hm:∃ c,(k,c)∈u
 ·obtain⟨c,hc⟩:=hm
  rw[h k c hc,cond_true];exact Gaj _ _ _ _ ⟨c,hc⟩
 ·have hn:∀ c,(k,c)∉u:=fun c hc=>hm ⟨c,hc⟩
  rw[fP _ _ _ hn,fP _ _ _ hn]
def Kap (σ:Nat->Option aU)(k j:Nat):Option aT :=
 match σ k with
 |some (.slot none (.one a))=>if j=0 then some a else none
 |some (.slot none (.agg ls))=>ls[j]?
 |some (.box _ ls)=>ls[j]?
 |_=>none
theorem Zap {k j:Nat}{s:St}:yA k j s=(Kap s.get k j).getD .dead:=by
 unfold yA Kap;split
 ·rename_i v hk
  rw[hk]
  cases v with
  |dead=>simp[uZ]
  | one a =>
   simp only[uZ]
   cases j with
   |zero=>rfl
   |succ j=>simp
  |agg ls=>simp[uZ,Rbi]
  |tup ts=>simp[uZ]
 ·rename_i ro ls hk
  rw[hk];simp[Rbi]
 ·rename_i h1 h2
  cases hs:s.get k with
  |none=>rfl
  | some c =>
   cases c with
   | slot g v =>
    cases g with
    |none=>exact absurd hs (h1 v)
    |some g=>rfl
   |box ro ls=>exact absurd hs (h2 ro ls)
   |root=>rfl
theorem kN {k j:Nat}{s:St}{l:aT}(h:yA k j s=l)(hl:l≠.dead):Kap s.get k j=some l:=by
 rw[Zap]at h
 cases e:Kap s.get k j with
 |none=>rw[e]at h;exact absurd h.symm hl
 |some l'=>rw[e,Tbd]at h;rw[h]
section
variable {E:Env} {F:bQ} {n:Nat} {σ:Nat->Option aU} {ρ:List D} {a:Act} {w:World} {G G':Gh}
inductive ValAt (n:Nat) (gh:Nat->Value) (a:Act) (w:World) (bx:Nat->Addr):aU->Nat->Nat->Value->Prop
 |one (t:Nat) (l:aT):ValAt n gh a w bx (.slot none (.one l)) (kT t) 0 (Bap n a gh t)
 |agg (t:Nat) (ls:List aT) (vs:List Value) (j:Nat) (v:Value) (h:Bap n a gh t=.agg vs.toArray) (hv:vs[j]?=some v):ValAt n gh a w bx (.slot none (.agg ls)) (kT t) j v
 |box (b j:Nat) (ro:Bool) (ls:List aT) (v:Value) (h:w.cell? ((bx b).add j)=some v):ValAt n gh a w bx (.box ro ls) (kB b) j v
theorem R.valAt (h:R n F σ ρ a w G){k j:Nat}{l:aT}(hl:Kap σ k j=some l):∃ v c,σ k=some c/\ValAt n F.gh a w G.bx c k j v/\aD σ ρ G w l v:=by
 unfold Kap at hl;split at hl
 ·rename_i l' hk
  obtain⟨t,rfl,h1⟩:=h.cont _ _ hk;split at hl
  ·rename_i hj
   subst hj;obtain rfl:=Rb5 hl;exact⟨_,_,hk,.one t l',h1 rfl⟩
  ·cases hl
 ·rename_i ls hk
  obtain⟨t,rfl,h1⟩:=h.cont _ _ hk;obtain⟨vs,h2,h3⟩:dI σ ρ G w (.agg ls) _:=h1 rfl;obtain⟨v,h4,h5⟩:=h3.get hl;exact⟨v,_,hk,.agg t ls vs j v h2 h4,h5⟩
 ·rename_i ro ls hk
  obtain⟨b,rfl,h1,h2,h3⟩:=h.cont _ _ hk;obtain⟨v,h4,h5,h6⟩:=h3 j l hl;exact⟨v,_,hk,.box b j ro ls v h4,h6⟩
 ·cases hl
theorem Fr.nonroot (σ:Nat->Option aU)(G:Gh)(w:World)(u:List (Nat×aU))(hu:∀ k c,(k,c)∈u->∀ r,k≠kR r):Fr σ G w (upds σ u) G w:=by
 have hr:∀ r,upds σ u (kR r)=σ (kR r):=fun r=>fP _ _ _ fun c hc=>hu _ _ hc r rfl
 refine⟨fun b h _=>⟨h,rfl⟩,fun r k _ h=>?_,fun r k h=>?_,fun r k b p _ _ h=>⟨.inl h,rfl⟩,fun r k m _ h=>⟨?_,fun b p h=>h⟩,fun _ _=>rfl,fun _ _=>rfl,fun k h=>eZ _ _ _ (.inl h),fun _ _ _ _ _ _ _ h=>h⟩
 ·obtain⟨x,m,st,e,h⟩:=h
  exact⟨x,m,st,by rw[<- hr];exact e,h⟩
 ·obtain⟨x,m,cQ,st,e,h⟩:=h
  exact⟨x,m,cQ,st,by rw[hr];exact e,h⟩
 ·obtain⟨x,e⟩:=h
  exact⟨x,by rw[<- hr];exact e⟩
theorem Gah {α:Type}{x y:List α}(h:x.toArray=y.toArray):x=y:=by
 have:=congrArg Array.toList h;simpa using this
structure Fb0 (s s':St):Prop where
 nr:s'.nr=s.nr
 nt:s'.nt=s.nt
 root:∀ r,s'.get (kR r)=s.get (kR r)
theorem R.putAt {s:St}(h:R n F s.get ρ a w G){k j:Nat}{l:aT}{c0:aU}(hk:s.get k=some c0){v:Value}(hv:ValAt n F.gh a w G.bx c0 k j v)(hl:aD s.get ρ G w l v) :
  R n F (Go.Proofs.YtgpamlpecmldfaaGreat.Rf.putAt k j l s).get ρ a w G/\Fb0 s (Go.Proofs.YtgpamlpecmldfaaGreat.Rf.putAt k j l s)/\(Go.Proofs.YtgpamlpecmldfaaGreat.Rf.putAt k j l s).nv=s.nv:=by
 have nk:∀ c,Qbi j l c0=some c->(∀ r,k≠kR r)->(∃ t,(k=kT t/\∃ sv,c=.slot none sv/\dI (upds s.get [(k,c)]) ρ G w sv (Bap n a F.gh t))\/(k=kB t/\∃ ro ls,c=.box ro ls/\Lac (upds s.get [(k,c)]) ρ G w t ro ls))->(∀ b ls,k=kB b->c=.box false ls->∃ kk,c0=.box false kk/\ls.length=kk.length) ->
   R n F (Go.Proofs.YtgpamlpecmldfaaGreat.Rf.putAt k j l s).get ρ a w G/\Fb0 s (Go.Proofs.YtgpamlpecmldfaaGreat.Rf.putAt k j l s)/\(Go.Proofs.YtgpamlpecmldfaaGreat.Rf.putAt k j l s).nv=s.nv:=by
  intro c hc mi hcr hbl
  have e:Go.Proofs.YtgpamlpecmldfaaGreat.Rf.putAt k j l s=s.puts [(k,c)]:=by
   unfold Go.Proofs.YtgpamlpecmldfaaGreat.Rf.putAt;rw[hk,Rbe,hc];rfl
  have hg:(s.puts [(k,c)]).get=upds s.get [(k,c)]:=zJ fun k' c' hm=>by
   simp only[Rbb,Rbx]at hm;rw[hm.1];exact Ca5 hk
  obtain⟨e1,e2,e3,e4⟩:=jS [(k,c)] s
  have fm:∀ k' c',(k',c')∈[(k,c)]->k'=k/\c'=c:=by
   intro k' c' hm;simpa using hm
  rw[e];refine⟨?_,⟨e3,e4,fun r=>?_⟩,e1⟩
  ·rw[hg]
   have fq:=Fr.nonroot s.get G w [(k,c)] fun k' c' hm r=>by rw[(fm _ _ hm).1];exact mi r
   refine h.upd _ fq h.tmps h.defers h.frame (fun _ _=>rfl) (fun _ _ _ _ _=>⟨rfl,rfl⟩) (fun b ls hm hb ho=>?_) (fun k' c' hm _=>?_)
   ·obtain⟨e5,e6⟩:=fm _ _ hm
    obtain⟨kk,h1,h2⟩:=hbl b ls e5.symm e6.symm;rw[h1]at hk;rw[h2];exact h.rng b kk (by rw[e5];exact hk) hb ho
   ·obtain⟨rfl,rfl⟩:=fm _ _ hm
    obtain⟨t,⟨e7,sv,e8,h8⟩|⟨e7,ro,ls,e8,h8⟩⟩:=hcr
    ·subst e8
     exact⟨t,e7,fun _=>h8⟩
    ·subst e8
     exact⟨t,e7,h8⟩
  ·rw[hg]
   exact fP _ _ _ fun c' hm=>mi r (fm _ _ hm).1.symm
 have fq:∀ c,(∀ r,k≠kR r)->Fr s.get G w (upds s.get [(k,c)]) G w:=fun c mi=>Fr.nonroot s.get G w [(k,c)] fun k' c' hm r=>by
  simp only[Rbb,Rbx]at hm;rw[hm.1];exact mi r
 cases hv with
 | one t l0 =>
  exact nk (.slot none (.one l)) rfl (fun r=>jL) ⟨t,.inl ⟨rfl,_,rfl,aD.mono (fq _ fun r=>jL) l _ hl⟩⟩ (fun b ls e=>absurd e nC)
 | agg t ls vs _ _ h2 hvj =>
  have h1:=h.slot hk rfl;obtain⟨u6,tg,h3⟩:dI s.get ρ G w (.agg ls) _:=h1;rw[h2]at tg
  injection tg with e
  have e:=Gah e;subst e;have hf:=fq (.slot none (.agg (ls.set j l))) fun r=>jL
  refine nk (.slot none (.agg (ls.set j l))) rfl (fun r=>jL) ⟨t,.inl ⟨rfl,_,rfl,vs,h2,?_⟩⟩ (fun b ls e=>absurd e nC);refine aH.of_get (by simp[h3.len]) fun i l' v' hi hv'=>?_
  rw[Tbj]at hi;split at hi
  ·rename_i qx
   subst qx;split at hi
   ·obtain rfl:=Rb5 hi
    rw[hv']at hvj;obtain rfl:=Rb5 hvj;exact aD.mono hf _ _ hl
   ·cases hi
  ·obtain⟨u,hu,hu2⟩:=h3.get hi
   rw[hv']at hu;obtain rfl:=Rb5 hu;exact aD.mono hf _ _ hu2
 | box b _ ro ls _ hb =>
  obtain⟨h1,h2,h3⟩:=h.box hk;have hf:=fq (.box ro (ls.set j l)) fun r=>gB
  refine nk (.box ro (ls.set j l)) rfl (fun r=>gB) ⟨b,.inr ⟨rfl,_,_,rfl,h1,h2,fun i l' hi=>?_⟩⟩ (fun b' lh e e'=>?_)
  ·rw[Tbj]at hi
   split at hi
   ·rename_i qx
    subst qx;split at hi
    ·rename_i bh
     obtain rfl:=Rb5 hi;obtain⟨v0,h4,h5,h6⟩:=h3 _ _ (Rba bh);rw[h4]at hb;obtain rfl:=Rb5 hb;exact⟨v0,h4,h5,aD.mono hf _ _ hl⟩
    ·cases hi
   ·obtain⟨u,h4,h5,h6⟩:=h3 i l' hi
    exact⟨u,h4,h5,aD.mono hf _ _ h6⟩
  ·injection e' with e1 e2
   subst e1 e2;exact⟨ls,rfl,by simp⟩
end
section
variable {E:Env} {F:bQ} {σ:Nat->Option aU} {ρ:List D} {a:Act} {w:World} {G G':Gh}
def Qbk:Oper:={ (default:Oper) with dst:=none }
theorem R.roots (h:R E.ntmps F σ ρ a w G){ur:List (Nat×aU)}{f:Nat->List Nat->Ow}
  (hu:∀ k c,(k,c)∈ur->∃ r,k=kR r) (cI:∀ b,G'.own b=oH f (G.own b))
  (y5:∀ b r p,G.own b=.slc r p->(∀ c,(kR r,c)∉ur)->f r p=.slc r p)
  (hch:∀ r c,(kR r,c)∈ur->upds σ ur (kR r)=some c->Chg σ G w G' w r c)
  (po:∀ r x m k,σ (kR r)=some (.root x m k .frozen)->∀ s p q,f s p=.slc r q->s=r/\p=q)
  (td:∀ r,(σ (kR r)).isSome->G'.hdr r=G.hdr r) (gz:G'.bx=G.bx)
  (fR:∀ r c,(kR r,c)∈ur->upds σ ur (kR r)=some c->∃ x m cQ st,c=.root x m cQ st/\dB (upds σ ur) ρ G' w r x m st):R E.ntmps F (upds σ ur) ρ a w G':=by
 have h0:eO Qbk none .dead=[]:=rfl
 have:=h.own (o:=Qbk) (g:=none) (sv:=.dead) (v:=undef) (ur:=ur) (f:=f) (wr:=fun _=>False) (G':=G') (w':=w) (fun d hd=>by cases hd) hu (fun b _=>cI b)
  (fun b hb=>by rw[cI,h.frame.fresh b hb];rfl) ⟨rfl,rfl,rfl,Rbt _⟩ (fun b hb=>.inl (by rw[cI,h.frame.fresh b hb];rfl)) (fun _ _ _=>rfl) (fun b hb=>hb.elim) y5
  (by rw[h0,Sbm];exact hch) po td gz (fun _ _=>trivial) (by rw[h0,Sbm];exact fun _=>fR)
 rw[h0,Sbm]at this;exact this
def mvF (r rN m:Nat)(s:Nat)(p:List Nat):Ow:=if s=r then (if p.length<m then .slc rN p else .frz) else .slc s p
theorem R.moveRoot (h:R E.ntmps F σ ρ a w G){r rN m m' v:Nat}{x x0:aP}(hr:σ (kR r)=some (.root x0 m' v .live))(hN:σ (kR rN)=none)(hm:m<=m'){u:Value}
  (gj:Rp G.own w r [] m' u (x.val ρ)) {st:RSt} (cT:st=.gone\/(st=.fwd rN/\u=G.hdr r)) :
  ∃ G',R E.ntmps F (upds σ [(kR r,.root (.c .hole) 0 0 st),(kR rN,.root x m 0 .live)]) ρ a w G'/\G'.hdr rN=u/\G'.bx=G.bx:=by
 have dz:r≠rN:=fun e=>by rw[e,hN]at hr;cases hr
 let G':Gh:={ own:=fun b=>oH (mvF r rN m) (G.own b),hdr:=fun s=>if s=rN then u else G.hdr s,bx:=G.bx }
 have e1:upds σ [(kR r,aU.root (.c .hole) 0 0 st),(kR rN,.root x m 0 .live)] (kR r)=some (.root (.c .hole) 0 0 st):=by
  simp only[upds,Ta1];rw[if_neg fun e=>dz (fT e)];simp
 have e2:upds σ [(kR r,aU.root (.c .hole) 0 0 st),(kR rN,.root x m 0 .live)] (kR rN)=some (.root x m 0 .live):=by
  simp[upds,Ta1]
 have fm:∀ s c,(kR s,c)∈[(kR r,aU.root (.c .hole) 0 0 st),(kR rN,.root x m 0 .live)]->s=r\/s=rN:=by
  intro s c hc;simp only[Rbg,Rbx,Sb9,or_false]at hc;exact hc.imp (fun e=>fT e.1) (fun e=>fT e.1)
 refine⟨G',h.roots (f:=mvF r rN m) ?_ (fun b=>rfl) ?_ ?_ ?_ ?_ rfl ?_,by simp[G'],rfl⟩
 ·intro k c hc
  simp only[Rbg,Rbx,Sb9,or_false]at hc
  rcases hc with ⟨e,-⟩|⟨e,-⟩<;>exact⟨_,e⟩
 ·intro b s p hb hn
  unfold mvF;rw[if_neg fun e=>hn _ (by rw[e];exact Rbr)]
 ·intro s c hc gl
  rcases fm s c hc with rfl|rfl
  ·rw[e1]at gl
   obtain rfl:=Rb5 gl;refine .inr (.inr (.inl ⟨_,_,_,_,rfl,?_,?_⟩))<;>rcases cT with e|⟨e,-⟩<;>rw[e]<;>simp
  ·rw[e2]at gl
   obtain rfl:=Rb5 gl;exact .inl ⟨hN,_,_,_,_,rfl⟩
 ·intro r0 x1 m1 k1 hk s p q hf
  unfold mvF at hf;split at hf
  ·split at hf
   ·injection hf with f1 f2
    rw[<- f1,hN]at hk;cases hk
   ·cases hf
  ·injection hf with f1 f2
   exact⟨f1,f2⟩
 ·intro s hs
  show (if s=rN then u else G.hdr s)=_
  rw[if_neg];intro e;rw[e,hN]at hs;cases hs
 ·intro s c hc gl
  rcases fm s c hc with rfl|rfl
  ·rw[e1]at gl
   obtain rfl:=Rb5 gl;refine⟨_,_,_,_,rfl,?_⟩
   rcases cT with e|⟨e,hu⟩
   ·subst e;trivial
   ·subst e
    refine⟨?_,by rw[e2];rfl⟩;show (if s=rN then u else G.hdr s)=(if rN=rN then u else G.hdr rN)
    rw[if_neg dz,if_pos rfl,hu]
  ·rw[e2]at gl
   obtain rfl:=Rb5 gl;refine⟨_,_,_,_,rfl,?_⟩;show Rp G'.own w s [] m (if s=s then u else G.hdr s) (x.val ρ)
   rw[if_pos rfl]
   have hw:=gj.weaken (own':=fun b=>oH (fun s' p=>if s'=r then (if p.length<m then .slc r p else .frz) else .slc s' p) (G.own b)) (fun b hb=>by rw[hb];rfl) m hm (fun b t hb=>by
    rw[hb];simp only[oH,if_pos rfl,Sbm]
    rfl)
   have:=hw.mono (own':=G'.own) (w':=w) (q:=[]) (q':=[]) (r':=s) (fun b hb=>⟨?_,rfl⟩) [] rfl (fun b t hb=>⟨?_,rfl⟩)
   ·simpa using this
   ·show oH _ (G.own b)=_
    cases e:G.own b with
    | slc s' p =>
     rw[e]at hb;simp only[oH]at hb ⊢;unfold mvF;split at hb
     ·rename_i ku
      rw[if_pos ku];split at hb
      ·cases hb
      ·rename_i hl;rw[if_neg hl]
     ·cases hb
    |_=>rw[e]at hb;simpa[oH] using hb
   ·show oH _ (G.own b)=_
    cases e:G.own b with
    | slc s' p =>
     rw[e]at hb;simp only[oH]at hb ⊢;unfold mvF;split at hb
     ·rename_i ku
      rw[if_pos ku];split at hb
      ·rename_i hl
       rw[if_pos hl]
       injection hb with f1 f2
       rw[f2]
      ·cases hb
     ·rename_i ku
      injection hb with f1 f2
      exact absurd f1 ku
    |_=>rw[e]at hb;simp[oH]at hb
theorem R.nilRoot (h:R E.ntmps F σ ρ a w G){rN m z:Nat}(hN:σ (kR rN)=none) :
  ∃ G',R E.ntmps F (upds σ [(kR rN,.root (.c (.rows z [])) m 0 .live)]) ρ a w G'/\G'.hdr rN=.slice none 0 0/\G'.bx=G.bx:=by
 let G':Gh:={ own:=G.own,hdr:=fun s=>if s=rN then .slice none 0 0 else G.hdr s,bx:=G.bx }
 have e2:upds σ [(kR rN,aU.root (.c (.rows z [])) m 0 .live)] (kR rN)=some (.root (.c (.rows z [])) m 0 .live):=by
  simp[upds,Ta1]
 have fm:∀ s c,(kR s,c)∈[(kR rN,aU.root (.c (.rows z [])) m 0 .live)]->s=rN:=by
  intro s c hc;simp only[Rbg,Rbx,Sb9,or_false]at hc;exact fT hc.1
 refine⟨G',h.roots (f:=fun s p=>.slc s p) ?_ (fun b=>?_) (fun _ _ _ _ _=>rfl) ?_ (fun _ _ _ _ _ s p q hf=>?_) ?_ rfl ?_,by simp[G'],rfl⟩
 ·intro k c hc
  simp only[Rbg,Rbx,Sb9,or_false]at hc;exact⟨_,hc.1⟩
 ·show G.own b=_
  cases G.own b<;>rfl
 ·intro s c hc gl
  obtain rfl:=fm s c hc;rw[e2]at gl;obtain rfl:=Rb5 gl;exact .inl ⟨hN,_,_,_,_,rfl⟩
 ·injection hf with f1 f2
  exact⟨f1,f2⟩
 ·intro s hs
  show (if s=rN then _ else G.hdr s)=_
  rw[if_neg];intro e;rw[e,hN]at hs;cases hs
 ·intro s c hc gl
  obtain rfl:=fm s c hc;rw[e2]at gl;obtain rfl:=Rb5 gl;refine⟨_,_,_,_,rfl,?_⟩;show Rp G.own w s [] m (if s=s then _ else G.hdr s) (.rows z [])
  rw[if_pos rfl]
  cases m with
  |zero=>exact .fz (.rows none ⟨0,0,none⟩ 0 0 z [] (fun _ _=>undef) rfl (Rbt _) (.inl rfl) (by simp) (by simp) (by simp))
  |succ m=>exact .sl none ⟨0,0,none⟩ 0 0 z [] (fun _ _=>undef) rfl (Rbt _) (.inr ⟨rfl,rfl⟩) (by simp) (fun e=>by cases e) (by simp) (by simp)
def fzF (rs:List Nat)(s:Nat)(p:List Nat):Ow:=if s∈rs then .frz else .slc s p
theorem R.freeze (h:R E.ntmps F σ ρ a w G){rs:List Nat}{fr:List (Nat×aU)}(fq:(eF rs).eval σ=some fr) :
  ∃ G',R E.ntmps F (upds σ fr) ρ a w G'/\(∀ b,G'.own b=oH (fzF rs) (G.own b))/\G'.hdr=G.hdr/\G'.bx=G.bx:=by
 obtain⟨h1,h2⟩:=iF fq
 let G':Gh:={ own:=fun b=>oH (fzF rs) (G.own b),hdr:=G.hdr,bx:=G.bx }
 have a7f:∀ b r p,G.own b=.slc r p->r∈rs->∃ c,(kR r,c)∈fr:=by
  intro b r p hb hr
  rcases h1 r hr with ⟨x,m,cQ,-,h4⟩|⟨x,m,cQ,h4⟩
  ·exact⟨_,h4⟩
  ·exact absurd hb ((h.root h4).2 b p)
 have fk:∀ r c,(kR r,c)∈fr->∃ x m cQ,c=.root x m cQ .frozen/\σ (kR r)=some (.root x m cQ .live)/\r∈rs:=by
  intro r c hc;obtain⟨s,hs,x,m,cQ,e,e',h3⟩:=h2 _ _ hc;obtain rfl:=fT e;exact⟨x,m,cQ,e',h3,hs⟩
 have zq:∀ r x m cQ,σ (kR r)=some (.root x m cQ .live)->r∈rs->Rd (fun b=>G'.own b=.frz) w (G.hdr r) (x.val ρ):=by
  intro r x m cQ hk hr;have h3:=h.root hk;simp only[dB]at h3;refine h3.rd.mono fun b hb=>⟨?_,rfl⟩
  show oH _ _=_
  rcases hb with hb|⟨q,hb⟩
  ·rw[hb];rfl
  ·rw[hb];simp only[oH,fzF];rw[if_pos hr]
 refine⟨G',h.roots (f:=fzF rs) ?_ (fun b=>rfl) ?_ ?_ ?_ (fun _ _=>rfl) rfl ?_,fun b=>rfl,rfl,rfl⟩
 ·intro k c hc
  obtain⟨s,-,x,m,cQ,e,-⟩:=h2 _ _ hc;exact⟨s,e⟩
 ·intro b r p hb hn
  unfold fzF;rw[if_neg];intro hr;obtain⟨c,hc⟩:=a7f b r p hb hr;exact hn c hc
 ·intro r c hc _
  obtain⟨x,m,cQ,rfl,h3,h4⟩:=fk r c hc;refine .inr (.inr (.inr ⟨x,m,cQ,h3,rfl,fun b p hb=>⟨?_,rfl⟩⟩));show oH _ _=_
  rw[hb];simp only[oH,fzF];rw[if_pos h4]
 ·intro r x m k hk s p q hf
  unfold fzF at hf;split at hf
  ·cases hf
  ·injection hf with f1 f2
   exact⟨f1,f2⟩
 ·intro r c hc _
  obtain⟨x,m,cQ,rfl,h3,h4⟩:=fk r c hc;refine⟨_,_,_,_,rfl,zq r x m cQ h3 h4,fun b p hb=>?_⟩;have hb:oH (fzF rs) (G.own b)=.slc r p:=hb
  cases e:G.own b with
  | slc s q =>
   rw[e]at hb;simp only[oH,fzF]at hb;split at hb
   ·cases hb
   ·rename_i hs
    injection hb with f1 f2
    rw[f1]at hs;exact hs h4
  |_=>rw[e]at hb;simp[oH]at hb
theorem yR {rs:List Nat}{deps:List (Nat×Nat)}(cI:∀ b,G'.own b=oH (fzF rs) (G.own b))(hd:∀ z∈deps,z.1∈rs){b:Nat}(hb:allow G deps b):allow G' [] b:=by
 refine .inl ?_;rw[cI]
 rcases hb with hb|⟨r,k,p,hm,hb⟩
 ·rw[hb];rfl
 ·rw[hb]
  simp only[oH,fzF];rw[if_pos (hd _ hm)]
theorem Iak {s:St}{rs:List Nat}{fr:List (Nat×aU)}(fq:(eF rs).eval s.get=some fr):∀ k c,(k,c)∈fr->wS s.nt s.nb s.nr k=true:=by
 intro k c hc;obtain⟨r,-,x,m,cQ,rfl,-,h3⟩:=(iF fq).2 k c hc;exact Ca5 h3
end
structure RI (nr len i:Nat) (s:St):Prop where
 nr_:s.nr=nr+len
 free:∀ j,i<=j->j<len->s.get (kR (nr+j))=none
section
variable {E:Env} {F:bQ} {ρ:List D} {a:Act} {w:World} {G:Gh} {cf:Nat->List D->Option (List D)} {nr len i:Nat} {s s':St}
theorem RI.succ (h:RI nr len i s):RI nr len (i+1) s:=⟨h.nr_,fun j h1 h2=>h.free j (by omega) h2⟩
theorem RI.keeps (h:RI nr len i s)(hk:Fb0 s s'):RI nr len i s':=⟨hk.nr.trans h.nr_,fun j h1 h2=>by rw[hk.root];exact h.free j h1 h2⟩
theorem RI.puts (h:RI nr len i s){u:List (Nat×aU)}{i':Nat}(hi:i<=i')(hg:(s.puts u).get=upds s.get u)(hu:∀ j,i'<=j->j<len->∀ c,(kR (nr+j),c)∉u):RI nr len i' (s.puts u) :=
 ⟨(jS u s).2.2.1.trans h.nr_,fun j h1 h2=>by rw[hg,fP _ _ _ (hu j h1 h2)];exact h.free j (by omega) h2⟩
theorem Cah {u:List (Nat×aU)}{G':Gh}(hg:(s.puts u).get=upds s.get u)(jf:R E.ntmps F (upds s.get u) ρ a w G')(gz:G'.bx=G.bx){k j:Nat}{c0:aU}(hk:s.get k=some c0)
  {v:Value} (hv:ValAt E.ntmps F.gh a w G.bx c0 k j v) (hu:∀ c,(k,c)∉u) {l:aT} (hl:aD (upds s.get u) ρ G' w l v) :
  R E.ntmps F (putAt k j l (s.puts u)).get ρ a w G'/\Fb0 (s.puts u) (putAt k j l (s.puts u))/\(putAt k j l (s.puts u)).nv=s.nv:=by
 rw[<- hg]at jf hl;have kd:(s.puts u).get k=some c0:=by rw[hg,fP _ _ _ hu];exact hk
 obtain⟨h1,h2,h3⟩:=jf.putAt kd (by rw[gz];exact hv) hl;exact⟨h1,h2,h3.trans (jS u s).1⟩
theorem yY {n:Nat}{gh:Nat->Value}{bx:Nat->Addr}{c0:aU}{k j:Nat}{v:Value}(h:ValAt n gh a w bx c0 k j v):∀ r,k≠kR r:=by
 intro r
 cases h with
 |one=>exact jL
 |agg=>exact jL
 |box=>exact gB
theorem xG (hR:R E.ntmps F s.get ρ a w G)(hI:RI nr len i s){rs:List Nat}{fr:List (Nat×aU)}(fq:(eF rs).eval s.get=some fr){k j:Nat}{c0:aU}(hk:s.get k=some c0)
  {v:Value} (hv:ValAt E.ntmps F.gh a w G.bx c0 k j v) {l:aT} (hl:∀ G' fj,(∀ b,G'.own b=oH (fzF rs) (G.own b))->aD fj ρ G' w l v) :
  (∃ G',R E.ntmps F (putAt k j l (s.puts fr)).get ρ a w G')/\RI nr len (i+1) (putAt k j l (s.puts fr))/\(putAt k j l (s.puts fr)).nt=s.nt/\(putAt k j l (s.puts fr)).nv=s.nv:=by
 obtain⟨G',jf,h1,h2,h3⟩:=hR.freeze fq;have hg:(s.puts fr).get=upds s.get fr:=zJ (Iak fq);have hfk:=(iF fq).2
 obtain⟨h4,h5,h6⟩:=Cah hg jf h3 hk hv (fun c hc=>by
  obtain⟨r,-,x,m,cQ,e,-⟩:=hfk _ _ hc;exact yY hv r e) (hl G' _ h1)
 refine⟨⟨G',h4⟩,RI.keeps (hI.succ.puts (Rbt _) hg fun q ou lR c hc=>?_) h5,h5.nt.trans (jS fr s).2.2.2,h6⟩;obtain⟨r,-,x,m,cQ,e,-,h7⟩:=hfk _ _ hc;rw[<- e,hI.free q (by omega) lR]at h7;cases h7
theorem Pap {p:Pos}{ls:List Step}{x:aP}(h:Ma6 E p nr i s=some (ls,s',x))(hI:RI nr len i s)(hi:i<len)(hR:R E.ntmps F s.get ρ a w G)(cT:aR cf ρ none s.nv ls) :
  (∃ G',R E.ntmps F s'.get ρ a w G')/\RI nr len (i+1) s'/\s'.nt=s.nt/\s'.nv=s.nv+bT ls:=by
 have sr:=hI.free i (Rbt _) hi;have hkN:wS s.nt s.nb s.nr (kR (nr+i))=true:=Pa8 (by rw[hI.nr_];omega);unfold Ma6 at h;dsimp only at h;split at h
 ·
  simp only[Qb7,Rbx]at h;obtain⟨rfl,rfl,rfl⟩:=h;exact⟨⟨G,hR⟩,hI.succ,rfl,rfl⟩
 ·
  rename_i al r hf hl;split at h
  ·rename_i x0 m0 v0 r' hk
   cases hb:Nat.beq r' (nr+al) with
   |false=>rw[hb]at h;simp[lM]at h
   | true =>
    rw[hb,cond_true]at h;simp only[Qb7,Rbx]at h;obtain⟨rfl,rfl,rfl⟩:=h;simp only[Rb3]at hb;obtain⟨v,c,qf,oT,je⟩:=hR.valAt (kN hl (by simp));simp only[aD]at je;have ux:=hR.root hk;simp only[dB]at ux
    obtain⟨h1,h2,h3⟩:=hR.putAt qf oT (l:=.ex (nr+al)) (by
     simp only[aD];rw[<- hb];exact⟨je.1.trans ux.1,ux.2,je.2.2⟩)
    exact⟨⟨G,h1⟩,(hI.keeps h2).succ,h2.nt,h3⟩
  ·simp[lM]at h
 ·
  simp only[Qb7,Rbx]at h;obtain⟨rfl,rfl,rfl⟩:=h;exact⟨⟨G,hR⟩,hI.succ,rfl,rfl⟩
 ·
  rename_i m r hf hl;split at h
  ·rename_i x0 m' v0 hk
   cases hb:Nat.ble m m' with
   |false=>rw[hb]at h;simp[lM]at h
   | true =>
    rw[hb,cond_true]at h;simp only[Qb7,Rbx]at h;obtain⟨rfl,rfl,rfl⟩:=h;simp only[Sbr]at hb;obtain⟨v,c,qf,oT,je⟩:=hR.valAt (kN hl (by simp));simp only[aD]at je;have ux:=hR.root hk;simp only[dB]at ux;obtain⟨G',jf,h1,h2⟩:=hR.moveRoot hk sr hb ux (.inr ⟨rfl,rfl⟩)
    have hg:=zJ (s:=s) (u:=[(kR r,.root (.c .hole) 0 0 (.fwd (nr+i))),(kR (nr+i),.root x0 m 0 .live)]) (fun k c hc=>by
     simp only[Rbg,Rbx,Sb9,or_false]at hc
     rcases hc with ⟨e,-⟩|⟨e,-⟩<;>rw[e]
     ·exact Ca5 hk
     ·exact hkN)
    obtain⟨h3,h4,h5⟩:=Cah (j:=p.j) hg jf h2 qf oT (fun c hc=>by
     simp only[Rbg,Rbx,Sb9,or_false]at hc
     rcases hc with ⟨e,-⟩|⟨e,-⟩<;>exact yY oT _ e) (l:=.ex (nr+i)) (by
     simp only[aD];exact⟨by rw[h1];exact je.1,eZ _ _ _ (.inr ⟨.root x0 m 0 .live,by simp⟩),je.2.2⟩)
    refine⟨⟨G',h3⟩,RI.keeps (hI.puts (Ubg i) hg fun q ou lR c hc=>?_) h4,h4.nt.trans (jS _ s).2.2.2,h5⟩;simp only[Rbg,Rbx,Sb9,or_false]at hc
    rcases hc with ⟨e,-⟩|⟨e,-⟩
    ·rw[<- e,hI.free q (by omega) lR]at hk;cases hk
    ·have:=fT e;omega
  ·simp[lM]at h
 ·
  rename_i m nie z hf hl;simp only[Qb7,Rbx]at h;obtain⟨rfl,rfl,rfl⟩:=h;obtain⟨v,c,qf,oT,je⟩:=hR.valAt (kN hl (by simp));simp only[aD]at je;have hv0:v=.slice none 0 0:=(je.2 (by simp)).2.1 trivial z rfl;obtain⟨G',jf,h1,h2⟩:=hR.nilRoot (m:=m) (z:=z) sr
  have hg:=zJ (s:=s) (u:=[(kR (nr+i),.root (.c (.rows z [])) m 0 .live)]) (fun k c hc=>by
   simp only[Rbg,Rbx,Sb9,or_false]at hc;rw[hc.1];exact hkN)
  obtain⟨h3,h4,h5⟩:=Cah (j:=p.j) hg jf h2 qf oT (fun c hc=>by
   simp only[Rbg,Rbx,Sb9,or_false]at hc
   exact yY oT _ hc.1) (l:=.ex (nr+i)) (by
   simp only[aD];exact⟨by rw[h1];exact hv0,eZ _ _ _ (.inr ⟨.root (.c (.rows z [])) m 0 .live,by simp⟩),je.1.1⟩)
  refine⟨⟨G',h3⟩,RI.keeps (hI.puts (Ubg i) hg fun q ou lR c hc=>?_) h4,h4.nt.trans (jS _ s).2.2.2,h5⟩;simp only[Rbg,Rbx,Sb9,or_false]at hc;have:=fT hc.1;omega
 ·
  rename_i m r k nie x0 hf hl;split at h
  ·rename_i x1 m' v0 hk
   cases hb:(Nat.ble m m'&&Nat.beq v0 k) with
   |false=>rw[hb]at h;simp[lM]at h
   | true =>
    rw[hb,cond_true]at h;simp only[Qb7,Rbx]at h;obtain⟨rfl,rfl,rfl⟩:=h;simp only[Qb6,Sbr,Rb3]at hb;obtain⟨hb,rfl⟩:=hb;obtain⟨v,c,qf,oT,je⟩:=hR.valAt (kN hl (by simp));simp only[aD]at je
    obtain⟨-,-,h0⟩:=je.2 fun z hz=>by
     simp only[Rbb]at hz;subst hz;exact⟨x1,m',.live,hk,.inl rfl⟩
    have gj:=h0 r v0 m' rfl ⟨x1,hk⟩;obtain⟨G',jf,h1,h2⟩:=hR.moveRoot hk sr hb gj (.inl rfl)
    have hg:=zJ (s:=s) (u:=[(kR r,.root (.c .hole) 0 0 .gone),(kR (nr+i),.root x0 m 0 .live)]) (fun k c hc=>by
     simp only[Rbg,Rbx,Sb9,or_false]at hc
     rcases hc with ⟨e,-⟩|⟨e,-⟩<;>rw[e]
     ·exact Ca5 hk
     ·exact hkN)
    obtain⟨h3,h4,h5⟩:=Cah (j:=p.j) hg jf h2 qf oT (fun c hc=>by
     simp only[Rbg,Rbx,Sb9,or_false]at hc
     rcases hc with ⟨e,-⟩|⟨e,-⟩<;>exact yY oT _ e) (l:=.ex (nr+i)) (by
     simp only[aD];exact⟨h1.symm,eZ _ _ _ (.inr ⟨.root x0 m 0 .live,by simp⟩),je.1.1⟩)
    refine⟨⟨G',h3⟩,RI.keeps (hI.puts (Ubg i) hg fun q ou lR c hc=>?_) h4,h4.nt.trans (jS _ s).2.2.2,h5⟩;simp only[Rbg,Rbx,Sb9,or_false]at hc
    rcases hc with ⟨e,-⟩|⟨e,-⟩
    ·rw[<- e,hI.free q (by omega) lR]at hk;cases hk
    ·have:=fT e;omega
  ·simp[lM]at h
 ·
  rename_i hf;split at h
  ·rename_i x0 fr jq
   simp only[Qb7,Rbx]at h;obtain⟨rfl,rfl,rfl⟩:=h;simp only[aC,Qb5,aF,Qb7,Rbx]at jq;obtain⟨sl,h1,fr',h2,rfl,rfl⟩:=jq;obtain⟨v,c,qf,oT,je⟩:=hR.valAt (kN (k:=p.k) (j:=p.j) rfl (by intro e;rw[e]at h1;cases h1));have hs:=eT hR h1 je;have kr:v.oneCell'=true:=je.one (by cases fS:yA p.k p.j s<;>first|rfl|(rw[fS]at h1;cases h1));refine xG hR hI h2 qf oT fun G' fj cI=>?_
   simp only[aD];exact⟨⟨kr,by simp⟩,fun _=>⟨hs.rd.mono fun b hb=>⟨yR cI (fun z hz=>Sb1 hz) hb,rfl⟩,fun e=>absurd e (by decide),trivial⟩⟩
  ·simp[lM]at h
 ·
  rename_i z hf hl;simp only[Qb7,Rbx]at h;obtain⟨rfl,rfl,rfl⟩:=h;obtain⟨v,c,qf,oT,je⟩:=hR.valAt (kN hl (by simp));simp only[aD]at je
  obtain⟨h1,h2,h3⟩:=hR.putAt qf oT (l:=.rp [] z (.c (.rows z []))) (by
   simp only[aD];exact⟨⟨by rw[je];rfl,by simp⟩,fun _=>.inl ⟨je,z,rfl⟩⟩)
  exact⟨⟨G,h1⟩,(hI.keeps h2).succ,h2.nt,h3⟩
 ·
  rename_i z deps z' x0 hf hl;split at h
  ·rename_i fr jq
   simp only[Qb7,Rbx]at h;obtain⟨rfl,rfl,rfl⟩:=h;simp only[aC,Qb5]at jq;obtain⟨ds,h1,h2⟩:=jq;obtain⟨v,c,qf,oT,je⟩:=hR.valAt (kN hl (by simp));simp only[aD]at je;obtain⟨h3,h4,h5⟩:=jX h1;refine xG hR hI h2 qf oT fun G' fj cI=>?_
   simp only[aD];refine⟨⟨je.1.1,by simp⟩,fun _=>?_⟩
   rcases je.2 h3 with h6|⟨ad,row,h6,h7,h8⟩
   ·exact .inl h6
   ·exact .inr ⟨ad,row,h6,h7,(h8.drop hR h5).mono fun b hb=>⟨yR cI (fun z hz=>Sb1 hz) hb,rfl⟩⟩
  ·simp[lM]at h
 ·
  rename_i z l z' ix hf hl;split at h
  ·rename_i x0 fr jq
   simp only[Qb7,Rbx]at h;obtain⟨rfl,rfl,rfl⟩:=h;simp only[aC,Qb5,aF,Qb7,Rbx]at jq;obtain⟨sl,h1,fr',h2,rfl,rfl⟩:=jq;obtain⟨v,c,qf,oT,je⟩:=hR.valAt (kN hl (by simp));simp only[aD]at je;obtain⟨ad,n,cp,ik,iv,h3,h4,h5,h6,h7⟩:=je;have hs:=eT hR h1 h3;obtain⟨d,cP,hd⟩:=gW cT rfl;simp only[List.map_cons,List.map_nil,h4]at cP
   have gr:∃ sz rs r,sl.x.val ρ=.rows sz rs/\sz=z'/\rs[iv.toNat]?=some r/\d=.rows z' [r]:=by
    cases hx:sl.x.val ρ with
    | rows sz rs =>
     rw[hx]at cP;simp only[aS.run]at cP;split at cP
     ·rename_i hc
      split at cP
      ·rename_i r hr
       simp only[Qb7,List.cons.injEq,and_true]at cP;exact⟨sz,rs,r,rfl,hc.1,hr,cP.symm⟩
      ·cases cP
     ·cases cP
    |_=>rw[hx]at cP;simp[aS.run]at cP
   obtain⟨sz,rs,r,hx,rfl,hr,rfl⟩:=gr;have jq:=hs.rd;rw[hx]at jq;obtain⟨A',b,n',c',vs,e1,e2,e3,e4,e5,e6,e7⟩:=jq.inv
   injection e1 with e1 e1' e1''
   have bh:iv.toNat<rs.length:=(Qb8.1 hr).1;have hA:some ad=some b:=by rw[e1];exact e4.resolve_left (by omega)
   obtain rfl:=Rb5 hA;have tl:r.length=sz:=e5 r (List.mem_of_getElem? hr)
   obtain⟨q1,q2,q3,q4⟩:=xG hR hI h2 qf oT (l:=.rp [] z (.v s.nv)) fun G' fj cI=>by
    simp only[aD];refine⟨⟨by rw[h7];rfl,by simp⟩,fun _=>.inr ⟨_,r,h7,by rw[hd,tl],?_⟩⟩;have rz:∀ {b:Nat},allow G sl.deps b->allow G' [] b:=fun hb=>yR cI (fun z hz=>Sb1 hz) hb
    refine .rows _ (ad.add (iv.toNat*sz+0)) 1 1 r.length [r] (fun _ j=>vs iv.toNat j) rfl (Rbt _) (.inr rfl) (by simp) (fun i0 r0 ju j d0 hj=>?_) (fun i0 r0 ju j d0 hj=>?_)
    ·cases i0 with
     | zero =>
      simp only[Rbf,Qb7]at ju;subst ju;obtain⟨k1,k2⟩:=e6 _ _ hr j d0 hj;refine⟨by rw[add_block];exact rz k1,?_⟩;rw[add_add];rw[show iv.toNat*sz+0+(0*r.length+j)=iv.toNat*sz+j by omega];exact k2
     |succ i0=>simp at ju
    ·cases i0 with
     | zero =>
      simp only[Rbf,Qb7]at ju;subst ju;exact (e7 _ _ hr j d0 hj).mono fun b hb=>⟨rz hb,rfl⟩
     |succ i0=>simp at ju
   exact⟨q1,⟨q2.nr_,q2.free⟩,q3,rfl⟩
  ·simp[lM]at h
 ·simp only[Qb7,Rbx]at h
  obtain⟨rfl,rfl,rfl⟩:=h;exact⟨⟨G,hR⟩,hI.succ,rfl,rfl⟩
 ·simp only[Qb7,Rbx]at h
  obtain⟨rfl,rfl,rfl⟩:=h;exact⟨⟨G,hR⟩,hI.succ,rfl,rfl⟩
 ·simp[lM]at h
theorem xH:∀ {ps:List Pos} {i:Nat} {s s':St} {ls:List Step} {xs:List aP} {G:Gh},lH E nr ps i s=some (ls,s',xs)->RI nr len i s->i+ps.length=len->R E.ntmps F s.get ρ a w G->aR cf ρ none s.nv ls ->
  (∃ G',R E.ntmps F s'.get ρ a w G')/\s'.nt=s.nt/\s'.nr=s.nr/\s'.nv=s.nv+bT ls
 | [], i, s, s', ls, xs, G, h, hI, hl, hR, cT => by
  simp only[lH,Qb7,Rbx]at h;obtain⟨rfl,rfl,rfl⟩:=h;exact⟨⟨G,hR⟩,rfl,rfl,rfl⟩
 | p :: ps, i, s, s', ls, xs, G, h, hI, hl, hR, cT => by
  simp only[lH,bind,Qb5]at h;obtain⟨⟨l1,s1,x1⟩,h1,⟨l2,s2,xs2⟩,h2,h3⟩:=h;simp only[Qb7,Rbx]at h3;obtain⟨rfl,rfl,rfl⟩:=h3;simp only[Rbw]at hl;obtain⟨ky,gk⟩:=aR.append cT;obtain⟨⟨G1,re⟩,hI1,h4,h5⟩:=Pap h1 hI (by omega) hR ky;rw[<- h5]at gk;obtain⟨h6,h7,h8,h9⟩:=xH h2 hI1 (by omega) re gk;refine⟨h6,h7.trans h4,h8.trans (hI1.nr_.trans hI.nr_.symm),?_⟩;rw[h9,h5,fV,Nat.add_assoc]
theorem sI:∀ {ps:List Pos} {i:Nat} {s s':St} {ls:List Step} {xs:List aP},lH E nr ps i s=some (ls,s',xs)->xs.length=ps.length
 | [], i, s, s', ls, xs, h => by
  simp only[lH,Qb7,Rbx]at h;obtain⟨rfl,rfl,rfl⟩:=h;rfl
 | p :: ps, i, s, s', ls, xs, h => by
  simp only[lH,bind,Qb5]at h;obtain⟨⟨l1,s1,x1⟩,h1,⟨l2,s2,xs2⟩,h2,h3⟩:=h;simp only[Qb7,Rbx]at h3;obtain⟨rfl,rfl,rfl⟩:=h3;simp[sI h2]
theorem nY {τ:St}:∀ {rs:List Nat} {s s':St} {G:Gh},iV τ rs s=some s'->R E.ntmps F s.get ρ a w G->∃ G',R E.ntmps F s'.get ρ a w G'
 | [], s, s', G, h, hR => by
  simp only[iV,Qb7]at h;subst h;exact⟨G,hR⟩
 | r :: rs, s, s', G, h, hR => by
  simp only[iV]at h;split at h
  ·rename_i x m v _ hk
   have fq:(eF [r]).eval s.get=some [(kR r,.root x m v .frozen)]:=by
    simp only[eF,aC,aW,Rbe];rw[hk];rfl
   obtain⟨G',jf,-,-,-⟩:=hR.freeze fq;have hg:(s.puts [(kR r,.root x m v .frozen)]).get=upds s.get [(kR r,.root x m v .frozen)]:=zJ (Iak fq);rw[<- hg]at jf;exact nY h jf
  ·exact nY h hR
theorem Iaj {s:St}(h:pJ s.tr s.nr len=true):RI s.nr len 0 { s with nr:=s.nr+len }:=by
 refine⟨rfl,fun j _ hj=>?_⟩;unfold St.get;dsimp only;rw[zS h (s.nr+j) (by omega) (by omega)];cases wS s.nt s.nb (s.nr+len) (kR (s.nr+j))<;>rfl
theorem Ua1 {s:St}(h:pJ s.tr s.nr len=true):({ s with nr:=s.nr+len }:St).get=s.get:=by
 funext k;unfold St.get;dsimp only;unfold wS
 cases b0:Nat.beq (k % 3) 0 with
 |true=>rfl
 | false =>
  rw[cond_false,cond_false]
  cases b1:Nat.beq (k % 3) 1 with
  |true=>rfl
  | false =>
   rw[cond_false,cond_false];have n0:k % 3≠0:=fun e=>by rw[e]at b0;cases b0
   have n1:k % 3≠1:=fun e=>by rw[e]at b1;cases b1
   cases hb:Sb0 (k / 3) s.nr with
   | true =>
    have:Sb0 (k / 3) (s.nr+len)=true:=by simp only[Sbn]at hb ⊢;omega
    rw[this]
   | false =>
    cases e9:Sb0 (k / 3) (s.nr+len) with
    |false=>rfl
    | true =>
     simp only[Sbn]at e9
     have mo:s.nr<=k / 3:=by
      rcases Rbu (k / 3) s.nr with h1|h1
      ·rw[<- Sbn,hb]at h1;cases h1
      ·exact h1
     have:k=kR (k / 3):=by unfold kR;omega
     rw[cond_true,cond_false,this];exact zS h _ mo e9
theorem Sa4 {s0:St}{dj:Nat}{cE:List Pos}{τ:St}{kind:Kind}{r:Tm St}(h:Ia2 E s0.nv s0.nr dj cE τ kind s=some r)(mc:Aau E s0 dj cE.length τ){ρ0 e:List D}(hρ:ρ=ρ0++e)(h0:ρ0.length=s0.nv)
  {o:Out St} (ho:Ec cf r ρ=some o) (hl:ρ.length=s.nv) (hi:Da1 E s) :
  o.kind=kind/\o.vals.length=cE.length/\∀ a w G,R E.ntmps F s.get ρ a w G->∃ G',R E.ntmps F τ.get (ρ0++o.vals) a w G':=by
 unfold Ia2 at h;simp only[bind,Qb5]at h;obtain⟨⟨ls,s1,xs⟩,h1,s2,h2,h3⟩:=h;dsimp only at h1 h2 h3;generalize hb:(pF E s0.nv xs s0.nr dj s.nr cE.length τ s2&&pJ s.tr s.nr cE.length&&Nat.ble s0.nr s.nr&&fG s.nv ls&&xs.all (bF (s.nv+bT ls)))=b at h3
 cases b with
 |false=>simp[lM]at h3
 | true =>
  rw[cond_true]at h3;obtain rfl:=Rb5 h3;simp only[Qb6,Sbr]at hb;obtain⟨⟨⟨⟨ox,gC⟩,oY⟩,hb4⟩,hb5⟩:=hb;obtain⟨ds,h4,h5,h6⟩:=xB (g:=none) rfl (by rw[hl];exact hb4) ho;rw[gU]at h5;obtain rfl:=Rb5 h5;refine⟨rfl,by simp[Out.vals,sI h1],fun a w G hR=>?_⟩;have h6':=h6 [];rw[Rb1,hl]at h6'
  have re:R E.ntmps F ({ s with nr:=s.nr+cE.length }:St).get (ρ++ds) a w G:=by
   rw[Ua1 gC];exact hR.ext hi.sc (by omega) ds
  obtain⟨⟨G1,zl⟩,h7,h8,h9⟩:=xH (cf:=cf) h1 (Iaj gC) (by simp) re h6';obtain⟨G2,hR3⟩:=nY h2 zl;subst hρ;rw[Rbd]at hR3;have:=hR3.fit h0 (sI h1) mc ox oY;rw[Rbd];exact this
end
theorem tX (b c k:Nat):mR b c (mR b c k)=k:=by
 unfold mR
 cases h1:Nat.beq k b with
 | true =>
  simp only[Rb3]at h1;subst h1;rw[cond_true]
  cases h2:Nat.beq c k with
  |true=>simp only[Rb3]at h2;rw[cond_true];exact h2
  |false=>rw[cond_false,show Nat.beq c c=true by simp,cond_true]
 | false =>
  rw[cond_false]
  cases h2:Nat.beq k c with
  | true =>
   simp only[Rb3]at h2;subst h2;rw[cond_true,show Nat.beq b b=true by simp,cond_true]
  |false=>rw[cond_false,h1,h2,cond_false,cond_false]
theorem Oa0 {b c k K:Nat}(hk:k<K)(hb:K<=b)(hc:K<=c):mR b c k=k:=by
 unfold mR
 have h1:Nat.beq k b=false:=by cases h:Nat.beq k b with
  |false=>rfl
  |true=>simp only[Rb3]at h;omega
 have h2:Nat.beq k c=false:=by cases h:Nat.beq k c with
  |false=>rfl
  |true=>simp only[Rb3]at h;omega
 rw[h1,h2];rfl
theorem Ebb {b c k n:Nat}(hb:b<n)(hc:c<n):mR b c k<n↔k<n:=by
 unfold mR
 cases h1:Nat.beq k b with
 |true=>simp only[Rb3]at h1;rw[cond_true];omega
 | false =>
  rw[cond_false]
  cases h2:Nat.beq k c with
  |true=>simp only[Rb3]at h2;rw[cond_true];omega
  |false=>rw[cond_false]
def swS (b c:Nat)(σ:Nat->Option aU):Nat->Option aU:=fun k=>(σ (nT b c k)).map (qA b c)
def swO (b c:Nat):Ow->Ow
 |.box j=>.box (mR b c j)
 |o=>o
def swG (b c:Nat)(G:Gh):Gh:=⟨fun x=>swO b c (G.own x),G.hdr,fun j=>G.bx (mR b c j)⟩
theorem Ca4 (b c r:Nat):nT b c (kR r)=kR r:=by
 unfold nT;rw[show Nat.beq (kR r % 3) 1=false by unfold kR;rw[show (3*r+2) % 3=2 by omega];rfl];rfl
theorem Pa7 (b c j:Nat):nT b c (kB j)=kB (mR b c j):=by
 unfold nT;have e1:kB j % 3=1:=by unfold kB;omega
 have e2:kB j / 3=j:=by unfold kB;omega
 rw[e1,e2];rfl
theorem Mau {b c:Nat}{o:Ow}:swO b c o=.frz↔o=.frz:=by cases o<;>simp[swO]
theorem Mat {b c:Nat}{o:Ow}{r:Nat}{p:List Nat}:swO b c o=.slc r p↔o=.slc r p:=by cases o<;>simp[swO]
theorem Na8 {b c:Nat}{y:aU}{x:aP}{m v:Nat}{st:RSt}:qA b c y=.root x m v st↔y=.root x m v st:=by cases y<;>simp[qA]
theorem Mas {b c:Nat}{σ:Nat->Option aU}{r:Nat}{x:aP}{m v:Nat}{st:RSt}:swS b c σ (kR r)=some (.root x m v st)↔σ (kR r)=some (.root x m v st):=by
 unfold swS;rw[Ca4]
 cases σ (kR r) with
 |none=>simp
 |some y=>simp only[Sbq,Qb7];exact Na8
theorem Gal {b c:Nat}{σ:Nat->Option aU}{k:Nat}:(swS b c σ k).isSome=(σ (nT b c k)).isSome:=by
 unfold swS;cases σ (nT b c k)<;>rfl
section
variable {b c:Nat} {σ:Nat->Option aU} {ρ:List D} {G:Gh} {w:World}
theorem Taq {r k:Nat}:nK (swS b c σ) r k↔nK σ r k:=by
 unfold nK;simp only[Mas]
theorem Tar {r k:Nat}:kF (swS b c σ) r k↔kF σ r k:=by
 unfold kF;simp only[Mas]
theorem Ra0 {r k m:Nat}:Aac (swS b c σ) r k m↔Aac σ r k m:=by
 unfold Aac;simp only[Mas]
theorem Tas {deps:List (Nat×Nat)}{x:Nat}(h:allow G deps x):allow (swG b c G) deps x:=by
 rcases h with h|⟨r,k,p,hm,h⟩
 ·exact .inl (Mau.2 h)
 ·exact .inr ⟨r,k,p,hm,Mat.2 h⟩
theorem Hbc {r:Nat}{p:List Nat}{m:Nat}{v:Value}{d:D}(h:Rp G.own w r p m v d):Rp (swG b c G).own w r p m v d:=by
 have:=h.mono (own':=(swG b c G).own) (w':=w) (r':=r) (q:=[]) (q':=[]) (fun x hx=>⟨Mau.2 hx,rfl⟩) p rfl (fun x t hx=>⟨Mat.2 hx,rfl⟩);simpa using this
theorem Hbd {r:Nat}{q p:List Nat}{v u:Value}(h:Aaf G.own w r q v p u):Aaf (swG b c G).own w r q v p u :=
 Aaf.mono p q q v u (fun x t hx=>⟨Mat.2 hx,rfl⟩) h
theorem Jbs {deps:List (Nat×Nat)}{v:Value}{d:D}{p:Pth}(h:Da0 σ ρ G w deps v d p):Da0 (swS b c σ) ρ (swG b c G) w deps v d p:=by
 cases p with
 |no=>trivial
 |view=>exact fun r k m e hl=>Hbc (h r k m e (Ra0.1 hl))
 |suf sz lo=>exact fun r k m e hl=>h r k m e (Ra0.1 hl)
 | path p =>
  intro r k m e hl;obtain⟨h1,h2,h3⟩:=h r k m e (Ra0.1 hl);exact⟨h1,Hbc h2,Hbd h3⟩
mutual
theorem Mar:∀ (l:aT) (v:Value),aD σ ρ G w l v->aD (swS b c σ) ρ (swG b c G) w (l.swap b c) v
 |.dead,_,hl=>by simpa[aD,aT.swap] using hl
 |.sc x,v,hl=>by simpa[aD,aT.swap] using hl
 |.su g x,v,hl=>by simpa[aD,aT.swap] using hl
 | .ex r, v, hl => by
  simp only[aD,aT.swap]at hl ⊢;exact⟨hl.1,by rw[Gal,Ca4];exact hl.2.1,hl.2.2⟩
 | .sn deps p nie x, v, hl => by
  simp only[aD,aT.swap]at hl ⊢;refine⟨⟨hl.1.1,fun z hz=>Tar.2 (hl.1.2 z hz)⟩,fun hv=>?_⟩;obtain⟨h1,h2,h3⟩:=hl.2 (fun z hz=>Taq.1 (hv z hz));exact⟨h1.mono fun x hx=>⟨Tas hx,rfl⟩,h2,Jbs h3⟩
 | .px k off, v, hl => by
  simp only[aD,aT.swap]at hl ⊢;refine⟨?_,?_⟩
  ·show v=.pointer (some ((G.bx (mR b c (mR b c k))).add off))
   rw[tX];exact hl.1
  ·rw[Gal,Pa7,tX];exact hl.2
 | .pe l sz i off, v, hl => by
  simp only[aD,aT.swap]at hl ⊢;obtain⟨a,n,c',k,iv,h1,h2⟩:=hl;exact⟨a,n,c',k,iv,Mar l _ h1,h2⟩
 | .rp deps sz x, v, hl => by
  simp only[aD,aT.swap]at hl ⊢;refine⟨⟨hl.1.1,fun z hz=>Tar.2 (hl.1.2 z hz)⟩,fun hv=>?_⟩
  rcases hl.2 (fun z hz=>Taq.1 (hv z hz)) with h1|⟨a,row,h1,h2,h3⟩
  ·exact .inl h1
  ·exact .inr ⟨a,row,h1,h2,h3.mono fun x hx=>⟨Tas hx,rfl⟩⟩
 |.pn,v,hl=>by simpa[aD,aT.swap] using hl
 | .clo f gi, v, hl => by
  simp only[aD,aT.swap]at hl ⊢;obtain⟨vs,h1,h2⟩:=hl;exact⟨vs,h1,Bax gi vs h2⟩
theorem Bax:∀ (ls:List aT) (vs:List Value),aH σ ρ G w ls vs->aH (swS b c σ) ρ (swG b c G) w (dF b c ls) vs
 |[],vs,hl=>by simpa[aH,dF] using hl
 | l :: ls, vs, hl => by
  simp only[aH,dF]at hl ⊢;obtain⟨u,us,e,h1,h2⟩:=hl;exact⟨u,us,e,Mar l u h1,Bax ls us h2⟩
end
theorem Gba:∀ (ts:List (Bool×List aT)) (us:List Value),jG σ ρ G w ts us->jG (swS b c σ) ρ (swG b c G) w (ts.map fun t=>(t.1,dF b c t.2)) us
 |[],_,ht=>ht
 | (a, ls) :: r, us, ht => by
  obtain⟨u,eE,vs,e,h1,h2,h3⟩:=ht;exact⟨u,eE,vs,e,Bax ls vs h1,h2,Gba r eE h3⟩
theorem Obi {v:SV}{u:Value}(hv:dI σ ρ G w v u):dI (swS b c σ) ρ (swG b c G) w (Xak b c v) u:=by
 cases v with
 |dead=>trivial
 |one l=>exact Mar l u hv
 |agg ls=>obtain⟨vs,e,h1⟩:=hv;exact⟨vs,e,Bax ls vs h1⟩
 |tup ts=>obtain⟨us,e,h1⟩:=hv;exact⟨us,e,Gba ts us h1⟩
theorem Caw:∀ (ls:List aT) (j:Nat),(dF b c ls)[j]?=(ls[j]?).map (aT.swap b c)
 |[],j=>by simp[dF]
 |l::ls,0=>by simp[dF]
 |l::ls,j+1=>by simp[dF,Caw ls j]
theorem Aaq:∀ (ls:List aT),(dF b c ls).length=ls.length
 |[]=>rfl
 |l::ls=>by simp[dF,Aaq ls]
end
def Fad (F:bQ)(K:Nat):Prop:=∀ x j,x<F.w0.heap.size->F.own0 x=.box j->j<K
theorem R.swap {n:Nat}{F:bQ}{σ:Nat->Option aU}{ρ:List D}{a:Act}{w:World}{G:Gh}(h:R n F σ ρ a w G){K:Nat}(hF:Fad F K){b c:Nat}(hb:K<=b)(hc:K<=c):R n F (swS b c σ) ρ a w (swG b c G):=by
 refine⟨h.tmps,h.defers,fun k y hk=>?_,⟨h.frame.os,h.frame.tape,h.frame.output,h.frame.size,fun x hx ho=>?_,fun x j hx ho=>?_,fun x hx=>Mau.2 (h.frame.fresh x hx)⟩,fun j ls hk hx ho=>?_⟩
 ·unfold swS at hk
  rw[Rbo]at hk;obtain⟨z,hz,rfl⟩:=hk;have hr:=h.cont _ _ hz
  cases z with
  | slot g v =>
   obtain⟨t,e,h1⟩:=hr
   have ek:k=kT t:=by
    unfold nT at e
    cases hm:Nat.beq (k % 3) 1 with
    |true=>rw[hm,cond_true]at e;exact absurd e.symm nC
    |false=>rw[hm,cond_false]at e;exact e
   exact⟨t,ek,fun hg=>Obi (h1 hg)⟩
  | box ro ls =>
   obtain⟨j,e,h1,h2,h3⟩:=hr
   have ek:k=kB (mR b c j):=by
    unfold nT at e
    cases hm:Nat.beq (k % 3) 1 with
    | true =>
     rw[hm,cond_true]at e;simp only[Rb3]at hm;have:=Ca6 e;rw[<- this,tX];unfold kB;omega
    | false =>
     rw[hm,cond_false]at e;rw[e]at hm;have:kB j % 3=1:=by unfold kB;omega
     rw[this]at hm;cases hm
   refine⟨mR b c j,ek,?_,?_,fun i l hl=>?_⟩
   ·show (G.bx (mR b c (mR b c j))).spot=none
    rw[tX];exact h1
   ·show swO b c (G.own (G.bx (mR b c (mR b c j))).block)=_
    rw[tX,h2];cases ro<;>rfl
   ·rw[Caw,Rbo]at hl
    obtain⟨l0,k7,rfl⟩:=hl;obtain⟨v,h4,h5,h6⟩:=h3 i l0 k7;show ∃ v,w.cell? ((G.bx (mR b c (mR b c j))).add i)=some v/\w.frozen? ((G.bx (mR b c (mR b c j))).add i)=false/\_
    rw[tX];exact⟨v,h4,h5,Mar l0 v h6⟩
  | root x m cQ st =>
   obtain⟨r,e,h1,h2⟩:=hr
   have ek:k=kR r:=by
    unfold nT at e
    cases hm:Nat.beq (k % 3) 1 with
    |true=>rw[hm,cond_true]at e;exact absurd e gB
    |false=>rw[hm,cond_false]at e;exact e
   refine⟨r,ek,by rw[Gal,Ca4];exact h1,?_⟩
   cases st with
   |live=>exact Hbc h2
   |frozen=>exact⟨h2.1.mono fun x hx=>⟨Mau.2 hx,rfl⟩,fun x p hx=>h2.2 x p (Mat.1 hx)⟩
   |gone=>trivial
   |fwd r'=>exact⟨h2.1,by rw[Gal,Ca4];exact h2.2⟩
 ·obtain⟨h1,h2⟩:=h.frame.keep x hx ho
  refine⟨h1,?_⟩;show swO b c (G.own x)=_
  rw[h2]
  rcases ho with ho|ho<;>rw[ho]<;>rfl
 ·obtain⟨h1,h2⟩:=h.frame.boxes x j hx ho
  refine⟨?_,h2⟩;show swO b c (G.own x)=_
  rw[h1];show Ow.box (mR b c j)=_
  rw[Oa0 (hF x j hx ho) hb hc]
 ·have hj:=hF _ j hx ho
  have e:=Oa0 hj hb hc
  have kd:σ (kB j)=some (.box false ls)\/∃ l0,σ (kB j)=some (.box false l0)/\l0.length=ls.length:=by
   unfold swS at hk;rw[Pa7,e,Rbo]at hk;obtain⟨z,hz,hs⟩:=hk
   cases z with
   |slot=>simp[qA]at hs
   |root=>simp[qA]at hs
   | box ro l0 =>
    simp only[qA,aU.box.injEq]at hs;obtain⟨rfl,rfl⟩:=hs;exact .inr ⟨l0,hz,(Aaq l0).symm⟩
  have e2:(swG b c G).bx j=G.bx j:=by show G.bx (mR b c j)=_;rw[e]
  rw[e2]at hx ho ⊢
  rcases kd with kd|⟨l0,kd,hl⟩
  ·exact h.rng j ls kd hx ho
  ·rw[<- hl];exact h.rng j l0 kd hx ho
theorem Kaf {f:Nat->Option aU}:∀ (L:List Nat) (t:Tr aU) (k:Nat),(Par f L t).get k=if k∈L then f k else t.get k
 |[],t,k=>by simp[Par]
 | x :: L, t, k => by
  rw[Par,Kaf L _ k];by_cases h:k∈L
  ·rw[if_pos h,if_pos (Rbl _ h)]
  ·rw[if_neg h,Tr.get_set]
   by_cases e:k=x
   ·subst e;rw[if_pos rfl,if_pos Rbr]
   ·rw[if_neg e,if_neg (by simp only[Rbg,not_or];exact⟨e,h⟩)]
theorem Mbq {nt nb nr k:Nat}:k∈(range 0 nt).map kT++(range 0 nb).map kB++(range 0 nr).map kR↔wS nt nb nr k=true:=by
 unfold wS;simp only[List.mem_append,Sbp,mem_range];constructor
 ·rintro ((⟨x,hx,rfl⟩|⟨x,hx,rfl⟩)|⟨x,hx,rfl⟩)
  ·rw[show kT x % 3=0 by unfold kT;omega,show kT x / 3=x by unfold kT;omega];simpa using hx.2
  ·rw[show kB x % 3=1 by unfold kB;omega,show kB x / 3=x by unfold kB;omega];simpa using hx.2
  ·rw[show kR x % 3=2 by unfold kR;omega,show kR x / 3=x by unfold kR;omega];simpa using hx.2
 ·have a5c:k % 3=0\/k % 3=1\/k % 3=2:=by omega
  rcases a5c with h|h|h<;>rw[h]<;>intro hk
  ·have kd:k / 3<nt:=by simpa using hk
   exact .inl (.inl ⟨k / 3,⟨Tbm _,by omega⟩,by unfold kT;omega⟩)
  ·have kd:k / 3<nb:=by simpa using hk
   exact .inl (.inr ⟨k / 3,⟨Tbm _,by omega⟩,by unfold kB;omega⟩)
  ·have kd:k / 3<nr:=by simpa using hk
   exact .inr ⟨k / 3,⟨Tbm _,by omega⟩,by unfold kR;omega⟩
theorem Va3 {nt nb nr b c k:Nat}(hb:b<nb)(hc:c<nb):wS nt nb nr (nT b c k)=wS nt nb nr k:=by
 unfold nT
 cases h:Nat.beq (k % 3) 1 with
 |false=>rfl
 | true =>
  rw[cond_true];simp only[Rb3]at h;unfold wS;rw[show kB (mR b c (k / 3)) % 3=1 by unfold kB;omega,show kB (mR b c (k / 3)) / 3=mR b c (k / 3) by unfold kB;omega,h];show Sb0 _ _=Sb0 _ _
  have:=Ebb (k:=k / 3) hb hc;cases h1:Sb0 (mR b c (k / 3)) nb<;>cases h2:Sb0 (k / 3) nb<;>first|rfl|skip
  ·simp only[Sbn]at h2
   have:=this.2 h2;rw[<- Sbn,h1]at this;cases this
  ·simp only[Sbn]at h1
   have:=this.1 h1;rw[<- Sbn,h2]at this;cases this
theorem Tap {s:St}{b c:Nat}(hb:b<s.nb)(hc:c<s.nb):(s.swap b c).get=swS b c s.get:=by
 funext k;have e0:(s.swap b c).get k=bif wS s.nt s.nb s.nr k then (s.swap b c).tr.get k else none:=rfl;have e1:(s.swap b c).tr.get k=if k∈(range 0 s.nt).map kT++(range 0 s.nb).map kB++(range 0 s.nr).map kR then swS b c s.get k else s.tr.get k:=Kaf _ _ k
 rw[e0,e1]
 cases h:wS s.nt s.nb s.nr k with
 |true=>rw[cond_true,if_pos (Mbq.2 h)]
 | false =>
  rw[cond_false];unfold swS St.get;rw[Va3 hb hc,h];rfl
theorem Kao {b c N:Nat}:∀ l:aT,(l.swap b c).inScope N=l.inScope N:=by
 intro l
 induction l using aT.rec (motive_2:=fun ls=>bK N (dF b c ls)=bK N ls) with
 |dead=>rfl
 |sc=>rfl
 |su=>rfl
 |ex=>rfl
 |sn=>rfl
 |px=>rfl
 |pe l sz i off ih=>simp only[aT.swap,aT.inScope,ih]
 |rp=>rfl
 |pn=>rfl
 |clo f gi ih=>simp only[aT.swap,aT.inScope,ih]
 |nil=>rfl
 |cons l ls h1 h2=>simp only[dF,bK,h1,h2]
theorem sJ {b c N:Nat}:∀ ls:List aT,bK N (dF b c ls)=bK N ls
 |[]=>rfl
 |l::ls=>by simp only[dF,bK,Kao,sJ ls]
theorem Wal {b c N:Nat}(y:aU):dG N (qA b c y)=dG N y:=by
 cases y with
 | slot g v =>
  simp only[qA,dG];congr 1
  cases v with
  |dead=>rfl
  |one l=>exact Kao l
  |agg ls=>exact sJ ls
  | tup ts =>
   simp only[Xak,zC,List.all_map];congr 1;funext t;exact sJ t.2
 |box ro ls=>exact sJ ls
 |root=>rfl
theorem Da1.swap {E:Env}{s:St}(h:Da1 E s){b c:Nat}(hb:b<s.nb)(hc:c<s.nb):Da1 E (s.swap b c):=by
 refine⟨h.nt,?_⟩;rw[Tap hb hc];intro k y hk;unfold swS at hk;rw[Rbo]at hk;obtain⟨z,hz,rfl⟩:=hk;rw[Wal];exact h.sc _ _ hz
theorem zK {E:Env}{F:bQ}(hF:Fad F E.nbx){τ:St}:∀ (ts:List Nat) (s:St),Da1 E s->Da1 E (Sal E τ ts s)/\(Sal E τ ts s).nv=s.nv/\∀ {ρ:List D} {a:Act} {w:World} {G:Gh},R E.ntmps F s.get ρ a w G->∃ G',R E.ntmps F (Sal E τ ts s).get ρ a w G'
 |[],s,hi=>⟨hi,rfl,fun hR=>⟨_,hR⟩⟩
 | t :: ts, s, hi => by
  unfold Sal;split
  ·rename_i b c _ _
   cases hg:(!(Nat.beq b c)&&Nat.ble E.nbx b&&Nat.ble E.nbx c&&Sb0 b s.nb&&Sb0 c s.nb) with
   |false=>rw[cond_false];exact zK hF ts s hi
   | true =>
    rw[cond_true];simp only[Qb6,Sbr,Sbn]at hg;obtain⟨⟨⟨⟨-,h1⟩,h2⟩,h3⟩,h4⟩:=hg;obtain⟨k1,k2,k3⟩:=zK hF ts (s.swap b c) (hi.swap h3 h4);refine⟨k1,k2,fun hR=>?_⟩;have:=hR.swap hF h1 h2;rw[<- Tap h3 h4]at this;exact k3 this
  ·exact zK hF ts s hi
section
variable {E:Env} {F:bQ} {cf:Nat->List D->Option (List D)} {ρ:List D} {s:St}
theorem Ka0 (hF:Fad F E.nbx){s0:St}{dj:Nat}{cE:List Pos}{τ:St}{kind:Kind}{r:Tm St}(h:coerce E s0.nv s0.nr dj cE τ kind s=some r)(mc:Aau E s0 dj cE.length τ){ρ0 e:List D}(hρ:ρ=ρ0++e)(h0:ρ0.length=s0.nv)
  {o:Out St} (ho:Ec cf r ρ=some o) (hl:ρ.length=s.nv) (hi:Da1 E s) :
  o.kind=kind/\o.vals.length=cE.length/\∀ a w G,R E.ntmps F s.get ρ a w G->∃ G',R E.ntmps F τ.get (ρ0++o.vals) a w G':=by
 obtain⟨h1,h2,h3⟩:=zK hF (τ:=τ) E.pxs s hi;obtain⟨h4,h5,h6⟩:=Sa4 (F:=F) h mc hρ h0 ho (hl.trans h2.symm) h1;refine⟨h4,h5,fun a w G hR=>?_⟩;obtain⟨G',jf⟩:=h3 hR;exact h6 a w G' jf
end
def Abg:Kind->Exit
 |.fall=>.normal
 |.exit id=>.exit id
 |.ret=>.ret
 |_=>.outgrown
def Pbv:Kind->Prop
 |.cont=>False
 |.yield _=>False
 |_=>True
structure Post (E:Env) (ρ:List D) (o:Out St):Prop where
 nice:Pbv o.kind
 len:o.env.length=o.ext.nv
 inv:Da1 E o.ext
 pre:∃ ds,o.env=ρ++ds
def Wp (P:Program)(E:Env)(F:bQ)(c:Code)(s:St)(ρ:List D)(o:Out St):Prop :=
 ∀ a w G Q,R E.ntmps F s.get ρ a w G->(∀ a' w' G',R E.ntmps F o.ext.get o.env a' w' G'->Q (Abg o.kind) a' w')->c.wp P Q a w
theorem Post.trans {E:Env}{ρ ds:List D}{o:Out St}(h:Post E (ρ++ds) o):Post E ρ o:=by
 obtain⟨es,h1⟩:=h.pre;exact⟨h.nice,h.len,h.inv,ds++es,by rw[h1,Rbd]⟩
theorem Ka5 {k:Kind}:rX k=true↔k=.fall:=by cases k<;>simp[rX]
section
variable {P:Program} {E:Env} {F:bQ} {cf:Nat->List D->Option (List D)} {ρ:List D}
theorem nN {g:Option (aP×Bool)}{kind:Kind}{xs:List aP}{s:St}:∀ {ls:List Step} {ρ:List D} {o:Out St},Ec cf (qN g (.leaf kind xs s) ls) ρ=some o->o.kind=kind
 | [], ρ, o, h => by
  rw[qN,gU]at h;obtain rfl:=Rb5 h;rfl
 | .prim p ys n :: r, ρ, o, h => by
  rw[qN,Oak]at h;split at h
  ·simp only[Qb5]at h
   obtain⟨ds,-,h⟩:=h;split at h
   ·exact nN h
   ·cases h
  ·exact nN h
 | .call f ys n olds :: r, ρ, o, h => by
  rw[qN,wH]at h;split at h
  ·simp only[Qb5]at h
   obtain⟨ds,-,h⟩:=h;split at h
   ·exact nN h
   ·cases h
  ·exact nN h
theorem Qa5 {n fu dj:Nat}{cE:List Pos}{τ s:St}{kind:Kind}{r:Tm St}(h:Ia2 E n fu dj cE τ kind s=some r){ρ:List D}{o:Out St}(ho:Ec cf r ρ=some o):o.kind=kind:=by
 unfold Ia2 at h;simp only[bind,Qb5]at h;obtain⟨⟨ls,s1,xs⟩,h1,s2,h2,h3⟩:=h;dsimp only at h3
 revert h3
 generalize (pF E n xs fu dj s.nr cE.length τ s2&&pJ s.tr s.nr cE.length&&Nat.ble fu s.nr&&fG s.nv ls&&xs.all (bF (s.nv+bT ls)))=b;intro h3
 cases b with
 |false=>simp[lM]at h3
 | true =>
  rw[cond_true]at h3;obtain rfl:=Rb5 h3;exact nN ho
theorem Ia1 {n fu dj:Nat}{cE:List Pos}{τ s:St}{kind:Kind}{r:Tm St}(h:coerce E n fu dj cE τ kind s=some r){ρ:List D}{o:Out St}(ho:Ec cf r ρ=some o):o.kind=kind:=Qa5 h ho
theorem Eb1 {live:Nat}{s0:St}{i:Nat}{kc:Kind->Bool}{ends:List St}{t t':Tm St}{τ:St}(h:join E live s0 i kc ends t=some (t',τ)) :
  ∃ cE gp,Aau E s0 gp cE.length τ/\t.turn (.yield i) kc (coerce E s0.nv s0.nr gp cE τ (.yield i))=some t':=by
 unfold join at h;dsimp only at h
 revert h
 generalize hb:Fai E s0 _ _ _=b;intro h
 cases b with
 |false=>simp[lM]at h
 | true =>
  rw[cond_true,Rbo]at h;obtain⟨t1,h1,h2⟩:=h;obtain⟨rfl,rfl⟩:=Prod.mk.inj h2;exact⟨_,_,Aa2 hb,h1⟩
theorem Zat (hF:Fad F E.nbx){live:Nat}{s0:St}{i:Nat}{kc:Kind->Bool}{ends:List St}{t t' k:Tm St}{τ:St}(h:join E live s0 i kc ends t=some (t',τ))(hc:kc .cont=false)(hy:∀ i,kc (.yield i)=false)
  {o:Out St} (ho:Ec cf (.bind i t' k) ρ=some o) (hl:ρ.length=s0.nv) (hP:∀ o1,Ec cf t ρ=some o1->Post E ρ o1) :
  ∃ o1,Ec cf t ρ=some o1/\((kc o1.kind=true/\∃ vals,Ec cf k (ρ++vals)=some o/\(ρ++vals).length=τ.nv/\Da1 E τ/\∀ a w G,R E.ntmps F o1.ext.get o1.env a w G->∃ G',R E.ntmps F τ.get (ρ++vals) a w G')\/(kc o1.kind=false/\o=o1)):=by
 obtain⟨cE,gp,mc,ht⟩:=Eb1 h;simp only[tQ,Qb5]at ho;obtain⟨o',h1,h2⟩:=ho;obtain⟨o1,h3,h4⟩:=mU (fun s r hr ρ o ho=>Ia1 hr ho) hc hy ht h1;refine⟨o1,h3,?_⟩;have hp:=hP o1 h3
 rcases h4 with ⟨h5,h6,r,h7,h8⟩|⟨h5,h6⟩
 ·refine .inl ⟨h5,?_⟩
  rw[if_pos h6]at h2;obtain⟨ds,h9⟩:=hp.pre;obtain⟨eo,fb,gq⟩:=Ka0 hF h7 mc h9 hl h8 hp.len hp.inv;exact⟨o'.vals,h2,by rw[Rbh,hl,fb,mc.nv],⟨mc.nt1,mc.inScope⟩,gq⟩
 ·refine .inr ⟨h5,?_⟩
  subst h6
  have:o'.kind≠.yield i:=fun e=>by
   have:=hp.nice;rw[e]at this;exact this
  rw[if_neg this]at h2;exact (Rb5 h2).symm
theorem Ha1 {live:Nat}{s:St}{body:St->Option (Tm St)}:∀ {fuel:Nat} {cE:List Pos} {keys:List Nat} {gp:Nat} {seen:List St} {t:Tm St},Ha2 E live s body fuel cE keys gp seen=some t ->
  ∃ cE gp τ tb pN xs s1 s2,body τ=some tb/\Aau E s gp cE.length τ/\lH E s.nr cE 0 { s with nr:=s.nr+cE.length }=some ([],s1,xs)/\iV τ (range 0 s.nr) s1=some s2 /\
   pF E s.nv xs s.nr gp s.nr cE.length τ s2=true/\pJ s.tr s.nr cE.length=true/\tb.turn .cont rX (coerce E s.nv s.nr gp cE τ .cont)=some pN/\t=.loop xs pN
 |0,_,_,_,_,t,h=>by simp[Ha2,lM]at h
 | fuel + 1, cE, keys, gp, seen, t, h => by
  simp only[Ha2]at h;split at h
  ·cases h
  ·rename_i tb hb
   revert h
   generalize hc:(Saj cE _&&_&&_)=b;intro h
   cases b with
   | false =>
    rw[cond_false]at h;exact Ha1 h
   | true =>
    rw[cond_true]at h;simp only[bind,Qb5]at h;obtain⟨⟨pre,s1,xs⟩,h1,s2,h2,h3⟩:=h;dsimp only at h1 h2 h3
    revert h3
    generalize hd:(pF E s.nv xs s.nr gp s.nr cE.length _ s2&&pJ s.tr s.nr cE.length&&pre.isEmpty&&Fai E s gp cE.length _)=b;intro h3
    cases b with
    |false=>simp[lM]at h3
    | true =>
     rw[cond_true]at h3;simp only[Qb5,Qb7]at h3;obtain⟨pN,h4,h5⟩:=h3;simp only[Qb6,Ubo]at hd;obtain⟨⟨⟨iy,rj⟩,rfl⟩,hd4⟩:=hd;exact⟨cE,gp,_,tb,pN,xs,s1,s2,hb,Aa2 hd4,h1,h2,iy,rj,h4,h5.symm⟩
theorem Pa4 {s:St}{body:St->Option (Tm St)}{H:List (Nat×Nat×Nat×Nat)×List Nat×Nat×List Nat}{t:Tm St}(h:Naj E s body H=some t) :
  ∃ cE gp τ tb pN xs s1 s2,body τ=some tb/\Aau E s gp cE.length τ/\lH E s.nr cE 0 { s with nr:=s.nr+cE.length }=some ([],s1,xs)/\iV τ (range 0 s.nr) s1=some s2 /\
   pF E s.nv xs s.nr gp s.nr cE.length τ s2=true/\pJ s.tr s.nr cE.length=true/\tb.turn .cont rX (coerce E s.nv s.nr gp cE τ .cont)=some pN/\t=.loop xs pN:=by
 unfold Naj at h
 revert h
 generalize (H.1.map fun p=>(⟨p.1,p.2.1,Mby p.2.2.1 p.2.2.2⟩:Pos))=cE;generalize s.nr+H.2.2.1=gp;intro h;dsimp only at h;split at h
 ·cases h
 ·rename_i tb hb
  simp only[bind,Qb5]at h;obtain⟨⟨pre,s1,xs⟩,h1,s2,h2,h3⟩:=h;dsimp only at h1 h2 h3
  revert h3
  generalize hd:(pF E s.nv xs s.nr gp s.nr cE.length _ s2&&pJ s.tr s.nr cE.length&&pre.isEmpty&&Fai E s gp cE.length _)=b;intro h3
  cases b with
  |false=>simp[lM]at h3
  | true =>
   rw[cond_true]at h3;simp only[Qb5,Qb7]at h3;obtain⟨pN,h4,h5⟩:=h3;simp only[Qb6,Ubo]at hd;obtain⟨⟨⟨iy,rj⟩,rfl⟩,hd4⟩:=hd;exact⟨cE,gp,_,tb,pN,xs,s1,s2,hb,Aa2 hd4,h1,h2,iy,rj,h4,h5.symm⟩
theorem least {p:Nat->Prop}(h:∃ n,p n):∃ n,p n/\∀ m,p m->n<=m:=by
 obtain⟨n,hn⟩:=h
 induction n using Nat.strongRecOn with
 | _ n ih =>
  by_cases h:∃ m,m<n/\p m
  ·obtain⟨m,h1,h2⟩:=h
   exact ih m h1 h2
  ·refine⟨n,hn,fun m hm=>?_⟩
   rcases Rbu m n with h1|h1
   ·exact absurd ⟨m,h1,hm⟩ h
   ·exact h1
open Classical in
theorem Oap {c:Code}{Q:Exit->Act->World->Prop}(K:Nat->Act->World->Prop)
  (round:∀ n a w,K n a w->c.wp P (Exit.then (fun a' w'=>∃ m,m<n/\K m a' w') Q) a w) {n:Nat} {a:Act} {w:World} (h0:K n a w):(Code.loop c).wp P Q a w:=by
 refine wp_loop (fun a w=>∃ n,K n a w) (fun a w=>if h:∃ n,K n a w then (least h).choose else 0) ⟨n,h0⟩ fun a w h=>?_
 have h1:=round _ a w (least h).choose_spec.1;refine wp_mono h1 fun e a' w' hq=>?_
 cases e with
 | normal =>
  obtain⟨m,hm,hK⟩:=hq;have h':∃ n,K n a' w':=⟨m,hK⟩;refine⟨h',?_⟩;rw[dif_pos h',dif_pos h];exact Nat.lt_of_le_of_lt ((least h').choose_spec.2 m hK) hm
 |_=>exact hq
theorem Ja7 (hF:Fad F E.nbx){s:St}{body:St->Option (Tm St)}{c:Code}
  (hbody:∀ {τ:St} {t:Tm St} {ρ:List D} {o:Out St},body τ=some t->Ec cf t ρ=some o->ρ.length=τ.nv->Da1 E τ->Post E ρ o/\Wp P E F c τ ρ o)
  {t:Tm St} (h:∃ cE gp τ tb pN xs s1 s2,body τ=some tb/\Aau E s gp cE.length τ/\lH E s.nr cE 0 { s with nr:=s.nr+cE.length }=some ([],s1,xs)/\iV τ (range 0 s.nr) s1=some s2 /\
   pF E s.nv xs s.nr gp s.nr cE.length τ s2=true/\pJ s.tr s.nr cE.length=true/\tb.turn .cont rX (coerce E s.nv s.nr gp cE τ .cont)=some pN/\t=.loop xs pN) {o:Out St} (ho:Ec cf t ρ=some o) (hl:ρ.length=s.nv) (hi:Da1 E s):Post E ρ o/\Wp P E F (.loop c) s ρ o:=by
 obtain⟨cE,gp,τ,tb,pN,xs,s1,s2,h1,mc,h2,h3,h4,h5,h6,rfl⟩:=h;have a61:Da1 E τ:=⟨mc.nt1,mc.inScope⟩;have uv:=sI h2;rw[Oal]at ho
 have ue:∀ vs o',vs.length=cE.length->Ec cf pN (ρ++vs)=some o'->∃ o1,Ec cf tb (ρ++vs)=some o1/\Post E (ρ++vs) o1/\Wp P E F c τ (ρ++vs) o1 /\
   ((o1.kind=.fall/\o'.kind=.cont/\o'.vals.length=cE.length/\∀ a w G,R E.ntmps F o1.ext.get o1.env a w G->∃ G',R E.ntmps F τ.get (ρ++o'.vals) a w G')\/(o1.kind≠.fall/\o'=o1)):=by
  intro vs o' fX he;obtain⟨o1,h7,h8⟩:=mU (fun s r hr ρ o ho=>Ia1 hr ho) rfl (fun _=>rfl) h6 he;obtain⟨hp,hw⟩:=hbody h1 h7 (by rw[Rbh,hl,fX,mc.nv]) a61;refine⟨o1,h7,hp,hw,?_⟩
  rcases h8 with ⟨h9,eo,r,fb,gq⟩|⟨h9,eo⟩
  ·obtain⟨ds,jg⟩:=hp.pre
   obtain⟨lq,mz,nn⟩:=Ka0 hF fb mc (jg.trans (Rbd ..)) hl gq hp.len hp.inv;exact .inl ⟨Ka5.1 h9,lq,mz,nn⟩
  ·exact .inr ⟨(fun e=>by rw[e]at h9;cases h9),eo⟩
 refine⟨?_,fun a w G Q hR hQ=>?_⟩
 ·refine Bbj (C:=fun vs o=>vs.length=cE.length->Post E ρ o) (fun vs o' he hk fX=>?_) (fun vs o' o2 he hk hC _ fX=>?_) ho (by simp[uv])
  ·obtain⟨o1,-,hp,-,h8⟩:=ue vs o' fX he
   rcases h8 with ⟨-,h9,-⟩|⟨-,h9⟩
   ·exact absurd h9 hk
   ·rw[h9];exact hp.trans
  ·obtain⟨o1,-,hp,-,h8⟩:=ue vs o' fX he
   rcases h8 with ⟨-,-,h9,-⟩|⟨-,h9⟩
   ·exact hC h9
   ·subst h9
    have:=hp.nice;rw[hk]at this;exact this.elim
 ·
  have re:R E.ntmps F ({ s with nr:=s.nr+cE.length }:St).get ρ a w G:=by rw[Ua1 h5];exact hR
  obtain⟨⟨G1,zl⟩,-⟩:=xH (cf:=cf) h2 (Iaj h5) (by simp) re trivial;obtain⟨G2,hR3⟩:=nY h3 zl;obtain⟨G3,hR4⟩:=R.fit (ρ0:=ρ) (e:=[]) (by rw[Rb1];exact hR3) hl uv mc h4 (Rbt _);rw[Rb1]at hR4;have sb:=ho;unfold Lc at sb;obtain⟨N,hN⟩:=(gZ (Qbb (cf:=cf) pN ρ (xs.map (·.val ρ)))).1 sb;refine Oap (fun n a w=>∃ vs G,iter n (fun vs=>runT cf N pN (ρ++vs)) vs=some o/\vs.length=cE.length/\R E.ntmps F τ.get (ρ++vs) a w G) (fun n a w hK=>?_) (n:=N) ⟨_,G3,hN,by simp[uv],hR4⟩;obtain⟨vs,G,hn,fX,hRv⟩:=hK
  cases n with
  |zero=>cases hn
  | succ m =>
   simp only[iter,Qb5]at hn;obtain⟨o',h7,h8⟩:=hn;obtain⟨o1,h9,hp,hw,eo⟩:=ue vs o' fX (Jae.2 ⟨N,h7⟩);refine hw a w G _ hRv fun a' w' G' jf=>?_
   rcases eo with ⟨fb,gq,jg,lq⟩|⟨fb,gq⟩
   ·rw[if_pos gq]at h8
    rw[fb];obtain⟨G'',tn⟩:=lq a' w' G' jf;exact⟨m,Nat.lt_succ_self m,o'.vals,G'',h8,jg,tn⟩
   ·subst gq
    have hk:o'.kind≠.cont:=fun e=>by
     have:=hp.nice;rw[e]at this;exact this
    rw[if_neg hk]at h8;obtain rfl:=Rb5 h8;have:=hQ a' w' G' jf
    revert this fb
    have:=hp.nice
    revert this
    cases o'.kind<;>intro h1 h2 h3<;>first|exact h1.elim|exact (h2 rfl).elim|exact h3
theorem sW (hF:Fad F E.nbx)(hti:wU P E.ti)(eh:Bao P E F cf)(hm:P.follows .mixedOrders=true){rb:Nat}:∀ (c:Code) {ex:List (Nat×Nat)} {live:Nat} {s:St} {t:Tm St} {ρ:List D} {o:Out St},sxC E false rb c ex live s=some t ->
  Ec cf t ρ=some o->ρ.length=s.nv->Da1 E s->Post E ρ o/\Wp P E F c s ρ o
 | .skip, ex, live, s, t, ρ, o, h, ho, hl, hi => by
  simp only[sxC,Qb7]at h;subst h;rw[gU]at ho;obtain rfl:=Rb5 ho;exact⟨⟨trivial,hl,hi,[],by simp⟩,fun a w G Q hR hQ=>wp_skip (hQ a w G hR)⟩
 | .label _, ex, live, s, t, ρ, o, h, ho, hl, hi => by
  simp only[sxC,Qb7]at h;subst h;rw[gU]at ho;obtain rfl:=Rb5 ho;exact⟨⟨trivial,hl,hi,[],by simp⟩,fun a w G Q hR hQ=>wp_label (hQ a w G hR)⟩
 | .ret, ex, live, s, t, ρ, o, h, ho, hl, hi => by
  simp only[sxC,Qb7]at h;subst h;rw[gU]at ho;obtain rfl:=Rb5 ho;exact⟨⟨trivial,hl,hi,[],by simp⟩,fun a w G Q hR hQ=>wp_ret (hQ a w G hR)⟩
 | .exit id, ex, live, s, t, ρ, o, h, ho, hl, hi => by
  simp only[sxC,Qb7]at h;subst h;rw[gU]at ho;obtain rfl:=Rb5 ho;exact⟨⟨trivial,hl,hi,[],by simp⟩,fun a w G Q hR hQ=>wp_exit (hQ a w G hR)⟩
 | .region lj ops draw, ex, live, s, t, ρ, o, h, ho, hl, hi => by
  simp only[sxC,Qb7]at h;subst h;obtain⟨⟨h1,h2,h3,h4⟩,h5⟩:=Oa9 hti eh hm ho hl hi
  exact⟨⟨by rw[h1];trivial,h2,h3,h4⟩,fun a w G Q hR hQ=>h5 a w G Q hR fun a' w' G' jf=>by
   have:=hQ a' w' G' jf;rw[h1]at this;exact this⟩
 | .seq a b, ex, live, s, t, ρ, o, h, ho, hl, hi => by
  simp only[sxC,bind,Qb5]at h;obtain⟨ta,la,h⟩:=h;have iha:=fun {o1:Out St} (h1:Ec cf ta ρ=some o1)=>sW hF hti eh hm a la h1 hl hi
  have my:∀ o1:Out St,Post E ρ o1->Wp P E F a s ρ o1->o1.kind≠.fall->Wp P E F (.seq a b) s ρ o1:=by
   intro o1 hp hw hk a' w G Q hR hQ;refine wp_seq (hw a' w G _ hR fun a1 w1 G1 re=>?_);have:=hQ a1 w1 G1 re
   revert this hk
   have:=hp.nice
   revert this
   cases o1.kind<;>intro h1 h2 h3<;>first|exact h1.elim|exact (h2 rfl).elim|exact h3
  cases vk:ta.no rX with
  | true =>
   rw[vk,cond_true,Qb7]at h;subst h;obtain⟨hp,hw⟩:=iha ho;exact⟨hp,my o hp hw fun e=>by have:=xN vk ho;rw[e]at this;cases this⟩
  | false =>
   rw[vk,cond_false]at h
   have gg:∀ {o1:Out St} {s2:St} {tb:Tm St} {ρ2:List D},Ec cf ta ρ=some o1->o1.kind=.fall->sxC E false rb b ex live s2=some tb->Ec cf tb ρ2=some o->ρ2.length=s2.nv->Da1 E s2->(∃ ds,ρ2=ρ++ds) ->
     (∀ a w G,R E.ntmps F o1.ext.get o1.env a w G->∃ G',R E.ntmps F s2.get ρ2 a w G')->Post E ρ o/\Wp P E F (.seq a b) s ρ o:=by
    intro o1 s2 tb ρ2 h1 hk h2 h3 h4 h5 ⟨ds,h6⟩ h7;obtain⟨hp,hw⟩:=sW hF hti eh hm b h2 h3 h4 h5;obtain⟨hp1,sY⟩:=iha h1;subst h6;refine⟨hp.trans,fun a' w G Q hR hQ=>wp_seq (sY a' w G _ hR fun a1 w1 G1 re=>?_)⟩;rw[hk];obtain⟨G2,zl⟩:=h7 a1 w1 G1 re;exact hw a1 w1 G2 Q zl hQ
   split at h
   ·obtain⟨o1,h1,h2⟩:=sM h ho
    rcases h2 with ⟨h3,tb,h4,h5⟩|⟨h3,h4⟩
    ·obtain⟨hp,-⟩:=iha h1
     exact gg h1 h3 h4 h5 hp.len hp.inv hp.pre fun a w G hR=>⟨G,hR⟩
    ·subst h4
     obtain⟨hp,hw⟩:=iha h1;exact⟨hp,my _ hp hw h3⟩
   ·simp only[Qb5]at h
    obtain⟨⟨t',τ⟩,hj,k,hk,h⟩:=h;simp only[Qb7]at h;subst h;obtain⟨o1,h1,h2⟩:=Zat hF hj rfl (fun _=>rfl) ho hl fun o1 h1=>(iha h1).1
    rcases h2 with ⟨h3,vals,h4,h5,h6,h7⟩|⟨h3,h4⟩
    ·exact gg h1 (Ka5.1 h3) hk h4 h5 h6 ⟨vals,rfl⟩ fun a w G hR=>h7 a w G hR
    ·subst h4
     obtain⟨hp,hw⟩:=iha h1;exact⟨hp,my _ hp hw fun e=>by rw[e]at h3;cases h3⟩
 | .cond c a b, ex, live, s, t, ρ, o, h, ho, hl, hi => by
  simp only[sxC]at h
  have hcb:∀ v,Abw c=some v->c=.const (.bool v):=by
   intro v hv;unfold Abw at hv;split at hv
   ·cases hv;rfl
   ·cases hv
  split at h
  ·rename_i hc
   obtain rfl:=hcb _ hc;obtain⟨hp,hw⟩:=sW hF hti eh hm a h ho hl hi;exact⟨hp,fun a' w G Q hR hQ=>wp_cond_true rfl (hw a' w G Q hR hQ)⟩
  ·rename_i hc
   obtain rfl:=hcb _ hc;obtain⟨hp,hw⟩:=sW hF hti eh hm b h ho hl hi;exact⟨hp,fun a' w G Q hR hQ=>wp_cond_false rfl (hw a' w G Q hR hQ)⟩
  rename_i hcn;clear hcn hcb;split at h
  ·rename_i x tt hk
   cases hb:(bF s.nv x&&Sb0 tt E.ntmps) with
   | false =>
    rw[hb]at h;simp only[Bool.not_false,cond_true,Qb7]at h;subst h;rw[kI]at ho;cases ho
   | true =>
    rw[hb]at h;simp only[Sbf,cond_false,bind,Qb5,Qb7]at h;obtain⟨ta,la,tb,htb,rfl⟩:=h;simp only[Qb6,Sbn]at hb
    have hev:∀ a' w G,R E.ntmps F s.get ρ a' w G->Sc (a'.eval (.tmp tt)) (x.val ρ):=by
     intro a' w G hR;have:=hR.slot hk rfl;simp only[dI,aD,Bap]at this;rw[if_pos hb.2]at this
     have e:a'.eval (.tmp tt)=a'.tmps.getD tt undef:=by
      simp[Act.eval,Sbo]
     rw[e];exact this
    rw[Gag]at ho;split at ho
    ·rename_i hx
     obtain⟨hp,hw⟩:=sW hF hti eh hm a la ho hl hi;refine⟨hp,fun a' w G Q hR hQ=>wp_cond_true ?_ (hw a' w G Q hR hQ)⟩;have:=hev a' w G hR;rw[hx]at this;exact this.bool_inv
    ·rename_i hx
     obtain⟨hp,hw⟩:=sW hF hti eh hm b htb ho hl hi;refine⟨hp,fun a' w G Q hR hQ=>wp_cond_false ?_ (hw a' w G Q hR hQ)⟩;have:=hev a' w G hR;rw[hx]at this;exact this.bool_inv
    ·cases ho
  ·simp only[Qb7]at h
   subst h;rw[kI]at ho;cases ho
 | .block id b, ex, live, s, t, ρ, o, h, ho, hl, hi => by
  simp only[sxC,bind,Qb5]at h;obtain⟨tb,htb,h⟩:=h;have ihb:=fun {o1:Out St} (h1:Ec cf tb ρ=some o1)=>sW hF hti eh hm b htb h1 hl hi
  have my:∀ o1:Out St,Post E ρ o1->Wp P E F b s ρ o1->rD id o1.kind=false->Wp P E F (.block id b) s ρ o1:=by
   intro o1 hp hw hk a' w G Q hR hQ;refine wp_block (hw a' w G _ hR fun a1 w1 G1 re=>?_);have:=hQ a1 w1 G1 re
   revert this hk
   have:=hp.nice
   revert this
   cases o1.kind with
   | exit j =>
    intro h1 h2 h3;simp only[Abg,Exit.inBlock];rw[if_neg]
    ·exact h3
    ·intro e
     simp[rD,e]at h2
   |fall=>exact fun h1 h2 h3=>h3
   |ret=>exact fun h1 h2 h3=>h3
   |cont=>exact fun h1 h2 h3=>h1.elim
   |yield i=>exact fun h1 h2 h3=>h1.elim
  cases vk:tb.no (rD id) with
  | true =>
   rw[vk,cond_true,Qb7]at h;subst h;obtain⟨hp,hw⟩:=ihb ho;exact⟨hp,my o hp hw (xN vk ho)⟩
  | false =>
   rw[vk,cond_false]at h
   have vm:∀ {o1:Out St} {o:Out St},Ec cf tb ρ=some o1->Rae id o1.kind=true->o.kind=.fall->(∀ a w G,R E.ntmps F o1.ext.get o1.env a w G->∃ G',R E.ntmps F o.ext.get o.env a w G')->Wp P E F (.block id b) s ρ o:=by
    intro o1 o h1 hk ho hg a' w G Q hR hQ;obtain⟨hp,hw⟩:=ihb h1;refine wp_block (hw a' w G _ hR fun a1 w1 G1 re=>?_);obtain⟨G2,zl⟩:=hg a1 w1 G1 re;have:=hQ a1 w1 G2 zl;rw[ho]at this
    revert hk
    cases o1.kind with
    | exit j =>
     intro hk;simp only[Rae,Rb3]at hk;simp only[Abg,Exit.inBlock];rw[if_pos hk.symm];exact this
    |fall=>exact fun _=>this
    |ret=>intro hk;cases hk
    |cont=>intro hk;cases hk
    |yield i=>intro hk;cases hk
   split at h
   ·obtain⟨o1,h1,h2⟩:=kU h ho
    obtain⟨hp,hw⟩:=ihb h1
    rcases h2 with ⟨h3,h4⟩|⟨h3,h4⟩
    ·subst h4
     refine⟨⟨trivial,hp.len,hp.inv,hp.pre⟩,vm h1 ?_ rfl fun a w G hR=>⟨G,hR⟩⟩
     revert h3
     cases o1.kind<;>simp[rD,Rae]
    ·subst h4
     exact⟨hp,my _ hp hw h3⟩
   ·simp only[Qb5]at h
    obtain⟨⟨t',τ⟩,hj,h⟩:=h;simp only[Qb7]at h;subst h;obtain⟨o1,h1,h2⟩:=Zat hF hj rfl (fun _=>rfl) ho hl fun o1 h1=>(ihb h1).1
    rcases h2 with ⟨h3,vals,h4,h5,h6,h7⟩|⟨h3,h4⟩
    ·rw[gU]at h4
     obtain rfl:=Rb5 h4;exact⟨⟨trivial,h5,h6,vals,rfl⟩,vm h1 h3 rfl fun a w G hR=>h7 a w G hR⟩
    ·subst h4
     obtain⟨hp,hw⟩:=ihb h1;refine⟨hp,my _ hp hw ?_⟩
     revert h3
     cases o.kind<;>simp[rD,Rae]
 | .loop b, ex, live, s, t, ρ, o, h, ho, hl, hi => by
  simp only[sxC]at h;split at h
  ·exact Ja7 hF (fun h1 h2 h3 h4=>sW hF hti eh hm b h1 h2 h3 h4) (Pa4 h) ho hl hi
  ·exact Ja7 hF (fun h1 h2 h3 h4=>sW hF hti eh hm b h1 h2 h3 h4) (Ha1 h) ho hl hi
 | .scope _, ex, live, s, t, ρ, o, h, ho, hl, hi => by
  simp only[sxC,Qb7]at h;subst h;rw[kI]at ho;cases ho
 | .goto _, ex, live, s, t, ρ, o, h, ho, hl, hi => by
  simp only[sxC,Qb7]at h;subst h;rw[kI]at ho;cases ho
 | .rangeFunc _ _ _ _, ex, live, s, t, ρ, o, h, ho, hl, hi => by
  simp only[sxC,Qb7]at h;subst h;rw[kI]at ho;cases ho
 | .refuse _, ex, live, s, t, ρ, o, h, ho, hl, hi => by
  simp only[sxC,Qb7]at h;subst h;rw[kI]at ho;cases ho
end
end Go.Proofs.YtgpamlpecmldfaaGreat.Rf
